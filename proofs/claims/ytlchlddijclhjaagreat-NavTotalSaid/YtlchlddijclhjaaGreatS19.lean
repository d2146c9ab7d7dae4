/- Parts of the proofs. -/
import Derived.Test.YtlchlddijclhjaaGreatS13
import Derived.KernelRfl
import Derived.Test.YtlchlddijclhjaaGreatS8
import Derived.Test.YtlchlddijclhjaaGreatS7
import Derived.Test.YtlchlddijclhjaaGreatS9
import Derived.Test.YtlchlddijclhjaaGreatS11
import Derived.Test.YtlchlddijclhjaaGreatSZ
set_option linter.unusedVariables false
set_option linter.unusedSimpArgs false
set_option maxHeartbeats 4000000
namespace Go.Eng
open Go Go.RowKit
section
variable {P P0:Program} {g:FuncId} {args0 args:List AV} {v:AV} {z s:Nat} {es0 es1:List (List AV)} {a:k09} {dst:Option Nat}
theorem Call.o{h:k00}{K:k09->k00->Prop}(hP:P0=P)(H:k06 P0 g args0 [.live z es0] (λr hD=>r=v/\∃j,hD = .live z es1::j))(hu:Up0 es0)(hu1:Up0 es1)(hv:v.upto 0=true)(hs:h[s]?=some (.live z es0))(ha:k0Q 1 args0=true)(hr:k4C (λ_=>s) args0=args)
 (hK:K (k1V a dst v) (h.set s (.live z es1))):Call P g args h (k4T K a dst):=by
 subst hP;refine Call.of (k06.one H hu hs ha hr ?_);rintro r hD ⟨rfl,j,rfl⟩;exact⟨hv,es1,j,rfl,hu1,hK⟩
theorem k1R.o{h0 news:k00}{K:k09->k00->Prop}(hP:P0=P)(H:k06 P0 g args0 [.live z es0] (λr hD=>r=v/\∃j,hD = .live z es0::j))(hu:Up0 es0)(hv:v.upto 0=true)(hs:h0[s]?=some (.live z es0))(ha:k0Q 1 args0=true)(hr:k4C (λ_=>s) args0=args)
 (hK:K (k1V a dst v) news):k1R P g args h0 (kFP K a dst news):=by
 subst hP;refine⟨⟨v,⟨H.1,λC vs hc R hvs=>?_⟩,hK⟩⟩
 have:=(k06.one (h:=C.h) (K:=λx h'=>x=v/\h'=C.h) H hu (hc s z es0 hs) ha hr (by
  rintro r hD ⟨rfl,j,rfl⟩;refine⟨hv,es0,j,rfl,hu,rfl,?_⟩;have h1:=hc s z es0 hs;obtain⟨h2,h3⟩:=List.getElem?_eq_some_iff.1 h1
  conv=>rhs;rw[<- List.set_getElem_self h2]
  rw[h3])).2 C vs rfl R hvs
 exact this.mono λe w' ⟨u,x,D,h1,⟨h2,h3⟩,h4,h5,h6,h7,_⟩=>⟨u,D,h1,h3,h4,h5,h2▸h6,h7⟩
end
end Go.Eng
namespace Go.Proofs.YtlchlddijclhjaaGreat
open Go Go.RowKit Go.Eng
set_option maxRecDepth 100000
def k4M(f:Bool)(a b:Int):List (Int×Int):=match f with|true=>[(a,b)]|false=>[]
theorem q2G(f0 f1 f2:Bool)(a0 b0 a1 b1 a2 b2:Int):k02 Tryz.prog 141 [.agg [f0,a0,b0,f1,a1,b1,f2,a2,b2]] (λr=>∃es,r = .list 2 es/\es=(k4M f0 a0 b0++k4M f1 a1 b1++k4M f2 a2 b2).map (λp=>[jz p.1,jz p.2])):=by
 cases f0<;>cases f1<;>cases f2
 all_goals
  refine Z.y Tryz.func141 λzA _ _ _ _ _ hw zC _ _ _ _ _ hz R hR P hP=>?_;cbv;have e01:zA .add .i64 0 1=1:=(by rw[zC];rfl);have e12:zA .add .i64 1 1=2:=(by rw[zC];rfl);have e23:zA .add .i64 2 1=3:=(by rw[zC];rfl);(refine k1Q.rounds hw 4 ?_;cbv)
  repeat' (first
   | (simp only[e01,e12,e23];cbv)
   | (simp only[e01,e12,e23])
   | (refine InN.mk Z.d Z.d ?_;cbv)
   | (refine Ob.mk Z.d ?_;cbv)
   | (refine App.mk _ _ rfl rfl rfl Z.d Z.d ?_;cbv)
   | (split<;>rename_i h<;>(try (simp only[e01,e12,e23] at h))<;>(try (simp only[hz,Z.a,k05,k04,k08,k03,k0M,reduceCtorEq] at h))<;>(try cbv)))
  all_goals first
   | (exfalso;omega)
   | (refine⟨_,Vw.sl rfl rfl (Nat.le_refl _),?_⟩;exact hR _ ⟨_,rfl,rfl⟩)
   | (refine⟨_,Vw.nil 2,?_⟩;exact hR _ ⟨_,rfl,rfl⟩)
theorem kK9(ps:List (Int×Int))(es:List (List AV))(zU:es=k29 ps)(hlen':ps.length<=3):k02 Tryz.prog 142 [.list 2 es] (λr=>∃lo hi ok ag,r = .tuple [sp2 lo hi,.bool ok,.bool ag]/\((k4O (aOf ps) (bOf ps) ps.length lo hi true/\ok=true/\ag=true)\/(∃l h,k4O (aOf ps) (bOf ps) ps.length l h false/\ag=false/\(ps.length<3/\lo=0/\hi=0/\ok=false\/3<=ps.length/\k3J (aOf ps) (bOf ps) (k1L ps.length ps.length 0) lo hi ok)))):=by
 have hu:Up0 es:=⟨by rw[zU];have:=k6F ps;simpa[AV.upto] using this⟩;have hel:es.length=ps.length:=by rw[zU];exact k40 ps
 refine Z.y Tryz.func142 λ_ _ _ _ _ _ _ _ _ _ _ _ zE hz R hR P hP=>?_;cbv;obtain⟨L,eL,L0,Ln⟩:=Z.l zE es;refine Call.step (by rw[<- hP];exact kSG ps es zU Z.o) (by exact Up0.one hu rfl) ?_;rintro r ⟨lo,hi,f,rfl,hcom⟩;cbv;(split<;>rename_i h1<;>(try (simp only[hz,Z.a,k05,k04,k08,k03,k0M,reduceCtorEq] at h1))<;>(try cbv))
 ·exact⟨_,Vw.same rfl,hR _ ⟨_,_,_,_,rfl,.inl ⟨hcom,rfl,rfl⟩⟩⟩
 (split<;>rename_i h2<;>(try (simp only[eL] at h2))<;>(try (simp only[hz,Z.a,k05,k04,k08,k03,k0M,reduceCtorEq] at h2))<;>(try cbv))
 ·exact⟨_,Vw.same rfl,hR _ ⟨_,_,_,_,rfl,.inr ⟨_,_,hcom,rfl,.inl ⟨by omega,rfl,rfl,rfl⟩⟩⟩⟩
 refine Call.step (by rw[<- hP];exact q2E ps es zU Z.o) (by exact Up0.one hu rfl) ?_;rintro r ⟨l,h,g,rfl,htwo⟩;cbv;exact⟨_,Vw.same rfl,hR _ ⟨_,_,_,_,rfl,.inr ⟨_,_,hcom,rfl,.inr ⟨by omega,htwo⟩⟩⟩⟩
theorem q0G(a b:Int)(ha:I64 a)(hb:I64 b):k02 Tryz.prog 64 [sp2 a b] (· = jz ((a+b)/2)):=by
 refine Z.y Tryz.func64 λ_ _ _ _ _ _ _ _ _ _ _ _ _ hz R hR P hP=>?_;cbv;refine Call.step (by rw[<- hP];exact kTS a b ha hb) rfl ?_;rintro r rfl;obtain⟨m,em⟩:∃x,(a+b)/2=x:=⟨_,rfl⟩;rw[em] at hR ⊢;cbv;exact Z.r hR
def kLU(a b c d:Int):Int:=if (c+d)/2<0 then (if b<c then 1 else -1) else (if d<a then 1 else -1)
theorem kTP(a b c d:Int)(hc:I64 c)(hd:I64 d):k02 Tryz.prog 145 [sp2 a b,sp2 c d] (· = jz (kLU a b c d)):=by
 refine Z.y Tryz.func145 λ_ _ _ _ _ _ _ _ _ _ _ _ _ hz R hR P hP=>?_;cbv;obtain⟨m,em⟩:∃x,(c+d)/2=x:=⟨_,rfl⟩;have hm:=q0G c d hc hd;rw[em] at hm;refine Call.stepE (by rw[<- hP];exact hm) rfl ?_;cbv;repeat' (split<;>rename_i h<;>(try (simp only[hz,Z.a,k05,k04,k08,k03,k0M,reduceCtorEq] at h))<;>(try cbv))
 all_goals
  refine⟨_,Vw.same rfl,hR _ (congrArg (AV.int .i64) ?_)⟩;unfold kLU;rw[em];repeat' split
  all_goals omega
def meetB(t0 t1 a b:Int):Bool:=decide (max t0 a<=min t1 b)
theorem kO3(t0 t1 a b:Int):k02 Tryz.prog 147 [sp2 t0 t1,sp2 a b] (λr=>∃l h,r = .tuple [sp2 l h,.bool (meetB t0 t1 a b)]):=by
 refine(kIK t0 t1 a b).mono ?_;rintro r ⟨l,h,o,rfl,h5,_⟩;refine⟨l,h,?_⟩
 have:o=meetB t0 t1 a b:=by
  rw[Bool.eq_iff_iff,h5];simp[meetB]
 rw[this]
theorem kNV(t0 t1 a0 b0 a1 b1:Int):k02 Tryz.prog 144 [sp2 t0 t1,.list 2 [[a0,b0],[a1,b1]]] (· = .list 1 ((if meetB t0 t1 a0 b0 then [] else [[jz 0]])++(if meetB t0 t1 a1 b1 then [] else [[jz 1]]))):=by
 refine Z.y Tryz.func144 λzA _ _ _ _ zV hw zC _ _ _ _ zE hz R hR P hP=>?_;cbv;have eL:zV [[jz a0,jz b0],[jz a1,jz b1]]=2:=by rw[zE];rfl
 have e01:zA .add .i64 0 1=1:=by rw[zC];rfl
 have e12:zA .add .i64 1 1=2:=by rw[zC];rfl
 simp only[eL];(refine k1Q.rounds hw 3 ?_;cbv);have m0:k02 P 147 [sp2 t0 t1,sp2 a0 b0] (λr=>∃l h,r = .tuple [sp2 l h,.bool (meetB t0 t1 a0 b0)]):=by rw[<- hP];exact kO3 t0 t1 a0 b0
 have m1:k02 P 147 [sp2 t0 t1,sp2 a1 b1] (λr=>∃l h,r = .tuple [sp2 l h,.bool (meetB t0 t1 a1 b1)]):=by rw[<- hP];exact kO3 t0 t1 a1 b1
 generalize meetB t0 t1 a0 b0=o0 at *;generalize meetB t0 t1 a1 b1=o1 at *
 repeat' (first
  | (exfalso;omega)
  | (simp only[e01,e12];cbv)
  | (simp only[e01,e12])
  | (refine Idx.mk [jz a0,jz b0] Z.d rfl ?_;cbv)
  | (refine Idx.mk [jz a1,jz b1] Z.d rfl ?_;cbv)
  | (refine Call.step m0 rfl ?_;rintro r ⟨l0,h0,rfl⟩;cbv)
  | (refine Call.step m1 rfl ?_;rintro r ⟨l1,h1,rfl⟩;cbv)
  | (refine Ob.mk Z.d ?_;cbv)
  | (refine App.mk _ _ rfl rfl rfl Z.d Z.d ?_;cbv)
  | (split<;>rename_i h<;>(try (simp only[e01,e12] at h))<;>(try (simp only[hz,Z.a,k05,k04,k08,k03,k0M,reduceCtorEq] at h))<;>(try cbv)))
 all_goals first
  | (refine⟨_,Vw.sl rfl rfl (Nat.le_refl _),?_⟩;apply hR;simp_all)
  | (refine⟨_,Vw.nil 1,?_⟩;apply hR;simp_all)
def kGJ(a b c d:Int):Int×Int×Bool:=if max a c<=min b d then (max a c,min b d,true) else (0,0,false)
theorem kGY(a b c d l h:Int)(o:Bool)(e:kGJ a b c d=(l,h,o)):k02 Tryz.prog 147 [sp2 a b,sp2 c d] (· = .tuple [sp2 l h,o]):=by
 refine(kIK a b c d).mono ?_;rintro r ⟨l',h',o',rfl,h5,h6,h7⟩;unfold kGJ at e;split at e
 ·rename_i hc
  simp only[Prod.mk.injEq] at e;obtain⟨rfl,rfl,rfl⟩:=e;obtain rfl:o'=true:=h5.2 ⟨rfl,rfl,hc⟩;obtain⟨rfl,rfl⟩:=h6 rfl;rfl
 ·rename_i hc
  simp only[Prod.mk.injEq] at e;obtain⟨rfl,rfl,rfl⟩:=e
  have:o'=false:=by
   cases o' with
   | false=>rfl
   | true=>exact absurd (h5.1 rfl).2.2 hc
  subst this;obtain⟨rfl,rfl⟩:=h7 rfl;rfl
def kQV(s:Int×Int×Bool)(a b:Int):Int×Int×Bool:=if max s.1 a<=min s.2.1 b then (max s.1 a,min s.2.1 b,s.2.2) else (s.1,s.2.1,true)
def kP5(ok:Bool)(tl th:Int)(n:Int)(p0 p1:Int):Int×Int×Bool:=if ok=true then kQV (p0,p1,false) tl th else (p0,p1,decide (0<n))
def kP4(f:Bool)(a b:Int)(s:Int×Int×Bool):Int×Int×Bool:=if f=true then kQV s a b else s
def kEF(ok ag:Bool)(tl th a b:Int):Int:=if ok=true/\ag=false/\meetB tl th a b=false then kLU a b tl th else 0
structure kYG(ps:List (Int×Int))(tl th:Int)(ok ag:Bool):Prop where
 it:(k4O (aOf ps) (bOf ps) ps.length tl th true/\ok=true/\ag=true)\/(∃l h,k4O (aOf ps) (bOf ps) ps.length l h false/\ag=false/\(ps.length<3/\tl=0/\th=0/\ok=false\/3<=ps.length/\k3J (aOf ps) (bOf ps) (k1L ps.length ps.length 0) tl th ok))
theorem kUJ{ps:List (Int×Int)}{tl th:Int}{ok ag:Bool}(h:kYG ps tl th ok ag)(hI:∀i,i<ps.length->I64 (aOf ps i)/\I64 (bOf ps i))(ho:ok=true):I64 tl/\I64 th:=by
 rcases h.it with ⟨h1,_,_⟩|⟨l,h',_,_,⟨_,_,_,h4⟩|⟨h3,h4⟩⟩
 ·obtain⟨_,⟨i,hi,e⟩,_,⟨j,hj,f⟩,_⟩:=h1.yes rfl
  exact⟨e▸(hI i hi).1,f▸(hI j hj).2⟩
 ·rw[h4] at ho;cases ho
 ·obtain⟨⟨i,j,hp,_,e⟩,_⟩:=h4.lo_ ho
  obtain⟨⟨i',j',hp',_,e'⟩,_⟩:=h4.hi_ ho;have q:∀i j,k1L ps.length ps.length 0 i j->i<ps.length/\j<ps.length:=(by intro i j;unfold k1L;omega);have a1:=(hI i (q _ _ hp).1).1;have a2:=(hI j (q _ _ hp).2).1;have a3:=(hI i' (q _ _ hp').1).2;have a4:=(hI j' (q _ _ hp').2).2;unfold I64 at *;omega
theorem kNU(t0 t1 a0 b0 a1 b1:Int):k02 Tryz.prog 144 [sp2 t0 t1,.list 2 [[a0,b0],[a1,b1]]] (λr=>(r = .list 1 []/\meetB t0 t1 a0 b0=true/\meetB t0 t1 a1 b1=true)\/(r = .list 1 [[jz 0]]/\meetB t0 t1 a0 b0=false/\meetB t0 t1 a1 b1=true) \/
 (r = .list 1 [[jz 1]]/\meetB t0 t1 a0 b0=true/\meetB t0 t1 a1 b1=false)\/(r = .list 1 [[jz 0],[jz 1]]/\meetB t0 t1 a0 b0=false/\meetB t0 t1 a1 b1=false)):=by
 refine(kNV t0 t1 a0 b0 a1 b1).mono ?_;rintro r rfl
 cases meetB t0 t1 a0 b0<;>cases meetB t0 t1 a1 b1<;>simp
theorem k7M{a b c d l h:Int}{o:Bool}(e:kGJ a b c d=(l,h,o))(cf:Bool):kQV (a,b,cf) c d=if o=true then (l,h,cf) else (a,b,true):=by
 unfold kGJ at e;unfold kQV;split at e
 ·rename_i hc
  simp only[Prod.mk.injEq] at e;obtain⟨rfl,rfl,rfl⟩:=e;simp[hc]
 ·rename_i hc
  simp only[Prod.mk.injEq] at e;obtain⟨rfl,rfl,rfl⟩:=e;simp[hc]
theorem q0Q(p0 p1:Int)(f0 f1 f2 f3:Bool)(a0 b0 a1 b1 a2 b2 a3 b3:Int)(ps:List (Int×Int))(hps:ps=k4M f0 a0 b0++k4M f1 a1 b1++k4M f2 a2 b2)(hI:∀i,i<ps.length->I64 (aOf ps i)/\I64 (bOf ps i)) :
 k02 Tryz.prog 92 [sp2 p0 p1,.agg [f0,a0,b0,f1,a1,b1,f2,a2,b2],.agg [f3,a3,b3]]
  (λr=>∃tl th ok ag lo hi n cl cf s0 s1,r = .agg [jz lo,jz hi,jz n,.bool cl,.bool cf,jz s0,jz s1]/\kYG ps tl th ok ag/\n=ps.length/\cl=(ag && decide (n=3))/\(lo,hi,cf)=kP4 f3 a3 b3 (kP5 ok tl th n p0 p1)/\s0=kEF ok ag tl th a0 b0/\s1=kEF ok ag tl th a1 b1):=by
 have hlp:ps.length<=3:=by rw[hps];cases f0<;>cases f1<;>cases f2<;>simp[k4M]
 refine Z.y Tryz.func92 λzA _ _ _ _ zV hw zC zB _ _ _ zE hz R hR P hP=>?_;cbv;refine Call.step (by rw[<- hP];exact q2G f0 f1 f2 a0 b0 a1 b1 a2 b2) rfl ?_;rintro r ⟨es,rfl,zU⟩;have zU:es=k29 ps:=by rw[zU,hps];rfl
 have hu:Up0 es:=⟨by rw[zU];exact k6F ps⟩;cbv;obtain⟨L,eL,L0,Ln⟩:=Z.l zE es;refine Call.step (by rw[<- hP];exact kK9 ps es zU hlp) (by exact Up0.one hu rfl) ?_;rintro r ⟨tl,th,ok,ag,rfl,htog⟩;cbv;obtain⟨ml,mh,mo,em⟩:∃l h o,kGJ p0 p1 tl th=(l,h,o):=⟨_,_,_,rfl⟩;have m1:k02 P 147 [sp2 p0 p1,sp2 tl th] (· = .tuple [sp2 ml mh,mo]):=by rw[<- hP];exact kGY p0 p1 tl th ml mh mo em
 have hL:L=(ps.length:Int):=by have:=k40 ps;rw[<- zU] at this;omega
 have key:∀lo hi cf s0 s1,(lo,hi,cf)=kP4 f3 a3 b3 (kP5 ok tl th L p0 p1)->s0=kEF ok ag tl th a0 b0->s1=kEF ok ag tl th a1 b1->∀cl,cl=(ag && decide (L=3))->R (.agg [lo,hi,L,cl,cf,s0,s1]):=λlo hi cf s0 s1 h1 h2 h3 cl h4=>hR _ ⟨tl,th,ok,ag,lo,hi,L,cl,cf,s0,s1,rfl,⟨htog⟩,hL,h4,h1,h2,h3⟩;clear hR;have hI2:=kUJ ⟨htog⟩ hI;obtain⟨nl,nh,no,en⟩:∃l h o,kGJ p0 p1 a3 b3=(l,h,o):=⟨_,_,_,rfl⟩;have m2:k02 P 147 [sp2 p0 p1,sp2 a3 b3] (· = .tuple [sp2 nl nh,no]):=by rw[<- hP];exact kGY p0 p1 a3 b3 nl nh no en
 obtain⟨ol,oh,oo,eo⟩:∃l h o,kGJ ml mh a3 b3=(l,h,o):=⟨_,_,_,rfl⟩;have m3:k02 P 147 [sp2 ml mh,sp2 a3 b3] (· = .tuple [sp2 ol oh,oo]):=by rw[<- hP];exact kGY ml mh a3 b3 ol oh oo eo
 have nM:=k7M em;have nN:=k7M en;have nO:=k7M eo;clear em en eo;have m4:=kNU tl th a0 b0 a1 b1;rw[hP] at m4;obtain⟨z0,ez0⟩:=Z.f (kLU a0 b0 tl th);obtain⟨z1,ez1⟩:=Z.f (kLU a1 b1 tl th);have m5:ok=true->k02 P 145 [sp2 a0 b0,sp2 tl th] (· = jz z0):=λh=>by rw[<- hP,<- ez0];exact kTP a0 b0 tl th (hI2 h).1 (hI2 h).2
 have m6:ok=true->k02 P 145 [sp2 a1 b1,sp2 tl th] (· = jz z1):=λh=>by rw[<- hP,<- ez1];exact kTP a1 b1 tl th (hI2 h).1 (hI2 h).2
 have e01:zA .add .i64 0 1=1:=by rw[zC];rfl
 have e12:zA .add .i64 1 1=2:=by rw[zC];rfl
 have l0:zV []=0:=by rw[zE];rfl
 have l1:∀a,zV [a]=1:=λa=>by rw[zE];rfl
 have l2:∀a b,zV [a,b]=2:=λa b=>by rw[zE];rfl
 repeat' (first
  | (split<;>rename_i h<;>(try (simp only[eL] at h))<;>(try (simp only[hz,Z.a,k05,k04,k08,k03,k0M,reduceCtorEq] at h))<;>(try cbv))
  | ((refine Call.inl hw hP Tryz.func143 (by kernel_rfl) (by kernel_rfl) ?_);(conv=>arg 2;cbv);cbv)
  | (refine k1R.stepE m1 rfl ?_;cbv)
  | (refine k1R.stepE m2 rfl ?_;cbv)
  | (refine k1R.stepE m3 rfl ?_;cbv))
 all_goals try (refine InN.mk Z.d Z.d ?_;refine InN.mk Z.d Z.d ?_;refine Call.step m4 rfl ?_;rintro r (⟨rfl,q0,q1⟩|⟨rfl,q0,q1⟩|⟨rfl,q0,q1⟩|⟨rfl,q0,q1⟩)<;>cbv)
 all_goals try simp only[l0,l1,l2]
 all_goals try (refine k1Q.rounds hw 3 ?_;cbv)
 all_goals
  repeat' (first
   | (exfalso;omega)
   | (simp only[e01,e12];cbv)
   | (simp only[e01,e12])
   | (refine InN.mk Z.d Z.d ?_;cbv)
   | (refine Idx.mk [jz 0] Z.d rfl ?_;cbv)
   | (refine Idx.mk [jz 1] Z.d rfl ?_;cbv)
   | (refine k1R.stepE (m5 rfl) rfl ?_;cbv)
   | (refine k1R.stepE (m6 rfl) rfl ?_;cbv)
   | (split<;>rename_i h<;>(try (simp only[e01,e12] at h))<;>(try (simp only[hz,Z.a,k05,k04,k08,k03,k0M,reduceCtorEq] at h))<;>(try cbv)))
 all_goals
  clear hL m1 m2 m3 m4 m5 m6 hI2 htog hI hu zU e01 e12 l0 l1 l2 hw hps hlp;refine⟨_,Vw.same rfl,?_⟩;rw[eL];refine key _ _ _ _ _ ?_ ?_ ?_ _ ?_
  ·first|(simp[kP4,kP5,nM,nN,nO, *];done)|(simp[kP4,kP5,nM,nN,nO, *];omega)
  ·simp[kEF, *]
  ·simp[kEF, *]
  ·rw[Bool.eq_iff_iff];simp[zB,k04]
def q1S(a b c d e f:Int):Int×Int×Bool×Bool:=
 if max a c<=min b d then
  (if max a e<=min b f then
    (if max c e<=min d f then (min (min (max a c) (max a e)) (max c e),max (max (min b d) (min b f)) (min d f),true,false)
     else (min (max a c) (max a e),max (min b d) (min b f),true,false))
   else if max c e<=min d f then (min (max a c) (max c e),max (min b d) (min d f),true,false)
   else (max a c,min b d,true,false))
 else if max a e<=min b f then
  (if max c e<=min d f then (min (max a e) (max c e),max (min b f) (min d f),true,false)
   else (max a e,min b f,true,false))
 else if max c e<=min d f then (max c e,min d f,true,false)
 else (0,0,false,false)
def q2X:List (Int×Int)->Int×Int×Bool×Bool
 | [(a,b)]=>if a<=b then (a,b,true,true) else (0,0,false,false)
 | [(a,b),(c,d)]=>if max a c<=min b d then (max a c,min b d,true,true) else (0,0,false,false)
 | [(a,b),(c,d),(e,f)]=>if max (max a c) e<=min (min b d) f then (max (max a c) e,min (min b d) f,true,true) else q1S a b c d e f
 | _=>(0,0,false,false)
theorem kZ1{ps:List (Int×Int)}{tl th:Int}{ok ag:Bool}(h:kYG ps tl th ok ag)(hl:ps.length<=3):(tl,th,ok,ag)=q2X ps:=by
 match ps,hl with
 | [],_ =>
   rcases h.it with ⟨h1,_,_⟩|⟨l,h',_,h2,⟨_,h3,h4,h5⟩|⟨h3,h4⟩⟩
   ·obtain⟨_,⟨i,hi,_⟩,_⟩:=h1.yes rfl
    simp at hi
   ·rw[h2,h3,h4,h5];rfl
   ·simp at h3
 | [(a,b)],_ =>
   have a0:aOf [(a,b)] 0=a:=rfl;have b0:bOf [(a,b)] 0=b:=rfl;show (tl,th,ok,ag)=if a<=b then (a,b,true,true) else (0,0,false,false)
   rcases h.it with ⟨h1,h2,h3⟩|⟨l,h',h1,h2,⟨_,h3,h4,h5⟩|⟨h3,h4⟩⟩
   ·obtain⟨k0,⟨i,hi,e1⟩,k1,⟨j,hj,e2⟩,k2⟩:=h1.yes rfl
    simp only[List.length_cons,List.length_nil] at hi hj;obtain rfl:i=0:=(by omega);obtain rfl:j=0:=(by omega);rw[a0] at e1;rw[b0] at e2;rw[if_pos Z.o,h2,h3,e1,e2]
   ·obtain⟨_,_,k|⟨i,j,hi,hj,k⟩⟩:=h1.no rfl
    ·simp at k
    ·simp only[List.length_cons,List.length_nil] at hi hj
     obtain rfl:i=0:=(by omega);obtain rfl:j=0:=(by omega);rw[a0,b0] at k;rw[if_neg Z.o,h2,h3,h4,h5]
   ·simp at h3
 | [(a,b),(c,d)],_ =>
   have a0:aOf [(a,b),(c,d)] 0=a:=rfl;have b0:bOf [(a,b),(c,d)] 0=b:=rfl;have a1:aOf [(a,b),(c,d)] 1=c:=rfl;have b1:bOf [(a,b),(c,d)] 1=d:=rfl;show (tl,th,ok,ag)=if max a c<=min b d then (max a c,min b d,true,true) else (0,0,false,false)
   rcases h.it with ⟨h1,h2,h3⟩|⟨l,h',h1,h2,⟨_,h3,h4,h5⟩|⟨h3,h4⟩⟩
   ·obtain⟨k0,⟨i,hi,e1⟩,k1,⟨j,hj,e2⟩,k2⟩:=h1.yes rfl
    simp only[List.length_cons,List.length_nil] at hi hj k1 k2;have p0:=k1 0 Z.d;have p1:=k1 1 Z.d;have q0:=k2 0 Z.d;have q1:=k2 1 Z.d;rw[a0] at p0;rw[a1] at p1;rw[b0] at q0;rw[b1] at q1;have e1':tl=max a c:=(by rcases (show i=0\/i=1 by omega) with rfl|rfl<;>(try rw[a0] at e1)<;>(try rw[a1] at e1)<;>omega);have e2':th=min b d:=(by rcases (show j=0\/j=1 by omega) with rfl|rfl<;>(try rw[b0] at e2)<;>(try rw[b1] at e2)<;>omega);rw[if_pos Z.o,h2,h3,e1',e2']
   ·obtain⟨_,_,k|⟨i,j,hi,hj,k⟩⟩:=h1.no rfl
    ·simp at k
    ·simp only[List.length_cons,List.length_nil] at hi hj
     have:¬max a c<=min b d:=by
      rcases (show i=0\/i=1 by omega) with rfl|rfl<;>rcases (show j=0\/j=1 by omega) with rfl|rfl<;>(try rw[a0] at k)<;>(try rw[a1] at k)<;>(try rw[b0] at k)<;>(try rw[b1] at k)<;>omega
     rw[if_neg this,h2,h3,h4,h5]
   ·simp at h3
 | [(a,b),(c,d),(e,f)],_ =>
   have a0:aOf [(a,b),(c,d),(e,f)] 0=a:=rfl;have b0:bOf [(a,b),(c,d),(e,f)] 0=b:=rfl;have a1:aOf [(a,b),(c,d),(e,f)] 1=c:=rfl;have b1:bOf [(a,b),(c,d),(e,f)] 1=d:=rfl;have a2:aOf [(a,b),(c,d),(e,f)] 2=e:=rfl;have b2:bOf [(a,b),(c,d),(e,f)] 2=f:=rfl;show (tl,th,ok,ag)=if max (max a c) e<=min (min b d) f then (max (max a c) e,min (min b d) f,true,true) else q1S a b c d e f
   rcases h.it with ⟨h1,h2,h3⟩|⟨l,h',h1,h2,⟨h3,_⟩|⟨h3,h4⟩⟩
   ·obtain⟨k0,⟨i,hi,e1⟩,k1,⟨j,hj,e2⟩,k2⟩:=h1.yes rfl
    simp only[List.length_cons,List.length_nil] at hi hj k1 k2;have p0:=k1 0 Z.d;have p1:=k1 1 Z.d;have p2:=k1 2 Z.d;have q0:=k2 0 Z.d;have q1:=k2 1 Z.d;have q2:=k2 2 Z.d;rw[a0] at p0;rw[a1] at p1;rw[a2] at p2;rw[b0] at q0;rw[b1] at q1;rw[b2] at q2;have e1':tl=max (max a c) e:=(by rcases (show i=0\/i=1\/i=2 by omega) with rfl|rfl|rfl<;>(try rw[a0] at e1)<;>(try rw[a1] at e1)<;>(try rw[a2] at e1)<;>omega);have e2':th=min (min b d) f:=(by rcases (show j=0\/j=1\/j=2 by omega) with rfl|rfl|rfl<;>(try rw[b0] at e2)<;>(try rw[b1] at e2)<;>(try rw[b2] at e2)<;>omega);rw[if_pos Z.o,h2,h3,e1',e2']
   ·simp at h3
   ·obtain⟨_,_,k|⟨i,j,hi,hj,k⟩⟩:=h1.no rfl
    ·simp at k
    ·simp only[List.length_cons,List.length_nil] at hi hj
     have hno:¬max (max a c) e<=min (min b d) f:=by
      rcases (show i=0\/i=1\/i=2 by omega) with rfl|rfl|rfl<;>rcases (show j=0\/j=1\/j=2 by omega) with rfl|rfl|rfl<;>(try rw[a0] at k)<;>(try rw[a1] at k)<;>(try rw[a2] at k)<;>(try rw[b0] at k)<;>(try rw[b1] at k)<;>(try rw[b2] at k)<;>omega
     rw[if_neg hno,h2];clear h1 h h2 hno k;have hp:∀i j,k1L 3 3 0 i j↔(i=0/\j=1)\/(i=0/\j=2)\/(i=1/\j=2):=(by intro i j;unfold k1L;omega);have h4:k3J (aOf [(a,b),(c,d),(e,f)]) (bOf [(a,b),(c,d),(e,f)]) (k1L 3 3 0) tl th ok:=h4;unfold q1S
     cases ok with
     | false =>
       obtain⟨n1,n2,n3⟩:=h4.none_ rfl;have m1:=n3 0 1 ((hp _ _).2 (.inl ⟨rfl,rfl⟩));have m2:=n3 0 2 ((hp _ _).2 (.inr (.inl ⟨rfl,rfl⟩)));have m3:=n3 1 2 ((hp _ _).2 (.inr (.inr ⟨rfl,rfl⟩)));rw[a0,a1,b0,b1] at m1;rw[a0,a2,b0,b2] at m2;rw[a1,a2,b1,b2] at m3;rw[if_neg m1,if_neg m2,if_neg m3,n1,n2]
     | true =>
       obtain⟨⟨i,j,hij,hm,e1⟩,l1⟩:=h4.lo_ rfl;obtain⟨⟨p,q,hpq,hn,e2⟩,l2⟩:=h4.hi_ rfl;have l01:=l1 0 1 ((hp _ _).2 (.inl ⟨rfl,rfl⟩));have l02:=l1 0 2 ((hp _ _).2 (.inr (.inl ⟨rfl,rfl⟩)));have l12:=l1 1 2 ((hp _ _).2 (.inr (.inr ⟨rfl,rfl⟩)));have r01:=l2 0 1 ((hp _ _).2 (.inl ⟨rfl,rfl⟩));have r02:=l2 0 2 ((hp _ _).2 (.inr (.inl ⟨rfl,rfl⟩)));have r12:=l2 1 2 ((hp _ _).2 (.inr (.inr ⟨rfl,rfl⟩)));rw[a0,a1,b0,b1] at l01 r01;rw[a0,a2,b0,b2] at l02 r02;rw[a1,a2,b1,b2] at l12 r12
       have t1:(max a c<=min b d/\tl=max a c)\/(max a e<=min b f/\tl=max a e)\/(max c e<=min d f/\tl=max c e):=by
        rcases (hp _ _).1 hij with ⟨rfl,rfl⟩|⟨rfl,rfl⟩|⟨rfl,rfl⟩
        ·rw[a0,a1,b0,b1] at hm;rw[a0,a1] at e1;exact .inl ⟨hm,e1⟩
        ·rw[a0,a2,b0,b2] at hm;rw[a0,a2] at e1;exact .inr (.inl ⟨hm,e1⟩)
        ·rw[a1,a2,b1,b2] at hm;rw[a1,a2] at e1;exact .inr (.inr ⟨hm,e1⟩)
       have t2:(max a c<=min b d/\th=min b d)\/(max a e<=min b f/\th=min b f)\/(max c e<=min d f/\th=min d f):=by
        rcases (hp _ _).1 hpq with ⟨rfl,rfl⟩|⟨rfl,rfl⟩|⟨rfl,rfl⟩
        ·rw[a0,a1,b0,b1] at hn;rw[b0,b1] at e2;exact .inl ⟨hn,e2⟩
        ·rw[a0,a2,b0,b2] at hn;rw[b0,b2] at e2;exact .inr (.inl ⟨hn,e2⟩)
        ·rw[a1,a2,b1,b2] at hn;rw[b1,b2] at e2;exact .inr (.inr ⟨hn,e2⟩)
       clear e1 e2 l1 l2 h4 hp hij hpq hm hn;by_cases m1:max a c<=min b d<;>by_cases m2:max a e<=min b f<;>by_cases m3:max c e<=min d f<;>simp only[m1,m2,m3,true_and,false_and,or_false,false_or,if_true,if_false,forall_const,false_imp_iff,Prod.mk.injEq,and_true] at t1 t2 l01 l02 l12 r01 r02 r12 ⊢ <;> omega
structure Fu where
 lo:Int
 hi:Int
 n:Int
 cl:Bool
 cf:Bool
 s0:Int
 s1:Int
def kI8(f0 f1 f2:Bool)(a0 b0 a1 b1 a2 b2:Int):List (Int×Int):=k4M f0 a0 b0++k4M f1 a1 b1++k4M f2 a2 b2
theorem kI7(f0 f1 f2:Bool)(a0 b0 a1 b1 a2 b2:Int):(kI8 f0 f1 f2 a0 b0 a1 b1 a2 b2).length<=3:=by
 cases f0<;>cases f1<;>cases f2<;>simp[kI8,k4M]
def kP8(p0 p1:Int)(f0 f1 f2 f3:Bool)(a0 b0 a1 b1 a2 b2 a3 b3:Int):Fu:=
 let ps:=kI8 f0 f1 f2 a0 b0 a1 b1 a2 b2
 let t:=q2X ps
 let w:=kP4 f3 a3 b3 (kP5 t.2.2.1 t.1 t.2.1 ps.length p0 p1)
 ⟨w.1,w.2.1,ps.length,t.2.2.2 && decide ((ps.length:Int)=3),w.2.2,kEF t.2.2.1 t.2.2.2 t.1 t.2.1 a0 b0,kEF t.2.2.1 t.2.2.2 t.1 t.2.1 a1 b1⟩
theorem kXL(p0 p1:Int)(f0 f1 f2 f3:Bool)(a0 b0 a1 b1 a2 b2 a3 b3:Int)(hI:∀i,i<(kI8 f0 f1 f2 a0 b0 a1 b1 a2 b2).length->I64 (aOf (kI8 f0 f1 f2 a0 b0 a1 b1 a2 b2) i)/\I64 (bOf (kI8 f0 f1 f2 a0 b0 a1 b1 a2 b2) i))(v:Fu)(hv:v=kP8 p0 p1 f0 f1 f2 f3 a0 b0 a1 b1 a2 b2 a3 b3) :
 k02 Tryz.prog 92 [.agg [p0,p1],.agg [f0,a0,b0,f1,a1,b1,f2,a2,b2],.agg [f3,a3,b3]]
  (· = .agg [v.lo,v.hi,v.n,v.cl,v.cf,v.s0,v.s1]):=by
 refine(q0Q p0 p1 f0 f1 f2 f3 a0 b0 a1 b1 a2 b2 a3 b3 (kI8 f0 f1 f2 a0 b0 a1 b1 a2 b2) rfl hI).mono ?_;rintro r ⟨tl,th,ok,ag,lo,hi,n,cl,cf,s0,s1,rfl,h1,h2,h3,h4,h5,h6⟩;have ht:=kZ1 h1 (kI7 _ _ _ _ _ _ _ _ _);unfold kP8 at hv;simp only at hv;rw[<- ht,<- h2] at hv;simp only at hv;rw[<- h4] at hv;rw[hv,h3,h5,h6]
theorem kML{s:Int×Int×Bool}{a b p q:Int}(h:p<=s.1/\s.1<=s.2.1/\s.2.1<=q):p<=(kQV s a b).1/\(kQV s a b).1<=(kQV s a b).2.1/\(kQV s a b).2.1<=q:=by
 unfold kQV;split<;>(simp only;omega)
theorem q05{p0 p1:Int}(hp:p0<=p1)(f0 f1 f2 f3:Bool)(a0 b0 a1 b1 a2 b2 a3 b3:Int):p0<=(kP8 p0 p1 f0 f1 f2 f3 a0 b0 a1 b1 a2 b2 a3 b3).lo/\(kP8 p0 p1 f0 f1 f2 f3 a0 b0 a1 b1 a2 b2 a3 b3).lo<=(kP8 p0 p1 f0 f1 f2 f3 a0 b0 a1 b1 a2 b2 a3 b3).hi/\(kP8 p0 p1 f0 f1 f2 f3 a0 b0 a1 b1 a2 b2 a3 b3).hi<=p1:=by
 have h1:∀ok tl th n,p0<=(kP5 ok tl th n p0 p1).1/\(kP5 ok tl th n p0 p1).1<=(kP5 ok tl th n p0 p1).2.1/\(kP5 ok tl th n p0 p1).2.1<=p1:=λok tl th n=>by
  unfold kP5;split
  ·exact kML ⟨Int.le_refl _,hp,Int.le_refl _⟩
  ·exact⟨Int.le_refl _,hp,Int.le_refl _⟩
 have h2:∀s:Int×Int×Bool,p0<=s.1/\s.1<=s.2.1/\s.2.1<=p1->p0<=(kP4 f3 a3 b3 s).1/\(kP4 f3 a3 b3 s).1<=(kP4 f3 a3 b3 s).2.1/\(kP4 f3 a3 b3 s).2.1<=p1:=λs h=>by
  unfold kP4;split
  ·exact kML h
  ·exact h
 exact h2 _ (h1 _ _ _ _)
theorem q2C(p0 p1:Int)(f0 f1 f2 f3:Bool)(a0 b0 a1 b1 a2 b2 a3 b3:Int):0<=(kP8 p0 p1 f0 f1 f2 f3 a0 b0 a1 b1 a2 b2 a3 b3).n/\(kP8 p0 p1 f0 f1 f2 f3 a0 b0 a1 b1 a2 b2 a3 b3).n<=3:=by
 have:=kI7 f0 f1 f2 a0 b0 a1 b1 a2 b2;unfold kP8;simp only;omega
theorem kRG{f0 f1 f2:Bool}{a0 b0 a1 b1 a2 b2:Int}(h0:f0=true->I64 a0/\I64 b0)(h1:f1=true->I64 a1/\I64 b1)(h2:f2=true->I64 a2/\I64 b2):∀i,i<(kI8 f0 f1 f2 a0 b0 a1 b1 a2 b2).length->I64 (aOf (kI8 f0 f1 f2 a0 b0 a1 b1 a2 b2) i)/\I64 (bOf (kI8 f0 f1 f2 a0 b0 a1 b1 a2 b2) i):=by
 have key:∀p,p∈kI8 f0 f1 f2 a0 b0 a1 b1 a2 b2->I64 p.1/\I64 p.2:=by
  intro p hp;unfold kI8 at hp;rcases List.mem_append.1 hp with hp|hp
  ·rcases List.mem_append.1 hp with hp|hp
   ·cases f0<;>simp[k4M] at hp;subst hp;exact h0 rfl
   ·cases f1<;>simp[k4M] at hp;subst hp;exact h1 rfl
  ·cases f2<;>simp[k4M] at hp;subst hp;exact h2 rfl
 intro i hi;unfold aOf bOf
 have:(kI8 f0 f1 f2 a0 b0 a1 b1 a2 b2).getD i (0,0)∈kI8 f0 f1 f2 a0 b0 a1 b1 a2 b2:=by
  rw[List.getD_eq_getElem?_getD,List.getElem?_eq_getElem hi];exact List.getElem_mem hi
 exact key _ this
theorem kTT{a b:Int}(h:b=kAA a)(ha:I62 a):k02 Tryz.prog 95 [a] (· = .tuple [b,.bool true]):=by
 have h0:I62 0:=by unfold I62;omega
 unfold kAA at h;by_cases hn:a<0
 ·rw[if_pos hn] at h
  have q1:=kCG (a:=0) (b:=a) (d:=b) Z.o h0 ha
  have q2:k02 Tryz.prog 151 [a] (· = .tuple [b,.bool true]):=by
   clear h ha hn h0;refine Z.y Tryz.func151 λ_ _ _ _ _ _ _ _ _ _ _ _ _ hz R hR P hP=>?_;cbv;repeat' (first|(refine Call.s hP q1 ?_;cbv)|fail)
   exact Z.r hR
  clear q1 h ha h0;refine Z.y Tryz.func95 λ_ _ _ _ _ _ _ _ zB _ _ _ _ hz R hR P hP=>?_;cbv;have d1:=W.lt zB hn;repeat' (first|(simp only[d1];cbv)|(refine Call.s hP q2 ?_;cbv)|fail)
  exact Z.r hR
 ·rw[if_neg hn] at h
  subst h;clear ha h0;refine Z.y Tryz.func95 λ_ _ _ _ _ _ _ _ zB _ _ _ _ _ R hR P hP=>?_;cbv;have d1:=W.nlt zB (show 0<=b by omega);repeat' (first|(simp only[d1];cbv)|fail)
  exact Z.r hR
end Go.Proofs.YtlchlddijclhjaaGreat
namespace Go.Eng
open Go Go.RowKit
def two(s t:Nat)(i:Nat):Nat:=match i with|0=>s|_=>t
theorem Call.o2{P P0:Program}{g:FuncId}{args0 args:List AV}{v:AV}{z0 z1 s t:Nat}{e0 e1 f0 f1:List (List AV)}{a:k09}{dst:Option Nat}{h:k00}{K:k09->k00->Prop}(hP:P0=P)
 (H:k06 P0 g args0 [.live z0 e0,.live z1 e1] (λr hD=>r=v/\hD=[.live z0 f0,.live z1 f1])) (u0:Up0 e0) (u1:Up0 e1) (w0:Up0 f0) (w1:Up0 f1) (hv:v.upto 0=true) (hs:h[s]?=some (.live z0 e0)) (ht:h[t]?=some (.live z1 e1)) (hne:s≠t) (ha:k0Q 2 args0=true) (hr:k4C (two s t) args0=args)
 (hK:K (k1V a dst v) ((h.set s (.live z0 f0)).set t (.live z1 f1))):Call P g args h (k4T K a dst):=by
 subst hP;refine Call.of (k06.frame (two s t) H ?_ ?_ ha hr ?_)
 ·intro i hi j hj he
  simp only[List.length_cons,List.length_nil] at hi hj;have h1:i=0\/i=1:=(by omega);have h2:j=0\/j=1:=(by omega);rcases h1 with rfl|rfl<;>rcases h2 with rfl|rfl
  ·rfl
  ·exact absurd he hne
  ·exact absurd he (Ne.symm hne)
  ·rfl
 ·intro i hi
  simp only[List.length_cons,List.length_nil] at hi;have h1:i=0\/i=1:=(by omega);rcases h1 with rfl|rfl
  ·exact⟨z0,e0,rfl,k21 2 _ u0.get,by rw[k2W u0];exact hs⟩
  ·exact⟨z1,e1,rfl,k21 2 _ u1.get,by rw[k2W u1];exact ht⟩
 ·rintro r hD ⟨rfl,rfl⟩
  refine⟨k76 2 r hv,λi hi=>?_,?_⟩
  ·simp only[List.length_cons,List.length_nil] at hi
   have h1:i=0\/i=1:=(by omega);rcases h1 with rfl|rfl
   ·exact⟨z0,f0,rfl,k21 2 _ w0.get⟩
   ·exact⟨z1,f1,rfl,k21 2 _ w1.get⟩
  ·rw[k2J _ r hv]
   show K (k1V a dst r) ((h.set s (kM5 (two s t) (.live z0 f0))).set t (kM5 (two s t) (.live z1 f1)));rw[show kM5 (two s t) (.live z0 f0) = .live z0 f0 from congrArg (k27.live z0) (k2W w0),show kM5 (two s t) (.live z1 f1) = .live z1 f1 from congrArg (k27.live z1) (k2W w1)];exact hK
theorem k06.weak{P:Program}{g:FuncId}{args:List AV}{h h':k00}{K:AV->k00->Prop}(hw:WkB h.length args h args h')(hl:h'.length=h.length)(H:k06 P g args h' K):k06 P g args h K:=by
 obtain⟨hw⟩:=hw;refine⟨H.1,λC vs hC RC hv=>?_⟩;have hst:St C args { tmps:=vs,defers:=[] }:=⟨RC,hv,rfl⟩;obtain⟨D',k1,k2,k3,k4,k5⟩:=hw C _ hC hst (Nat.le_refl _);have:=H.2 D' vs k1 k3.rel k3.vrs;rw[k2] at this;refine this.mono λe w' ⟨v,r,D,h1,h2,h3,h4,h5,h6,h7⟩=>?_;rw[hl] at h6 h7;exact⟨v,r,D,h1,h2,h3,h4,h5,k4.trans h6,h7⟩
theorem k06.fresh{P:Program}{g:FuncId}{args:List AV}{z:Nat}{es:List (List AV)}{h:k00}{K:AV->k00->Prop}(H:k06 P g args [] (λr hD=>r = .ref 0 z 0 0/\hD=[.live z es]))(hu:Up0 es)(ha:k0Q 0 args=true)
 (hK:K (.ref h.length z 0 0) (h++[.live z es])):k06 P g args h K:=by
 refine⟨H.1,λC vs hC RC hv=>?_⟩;subst hC;obtain⟨C0,eC0⟩:∃C0:Cfg,C0={ O:=C.own,r:=C.r,h:=[],w:=C.w }:=⟨_,rfl⟩;have c0h:C0.h=[]:=by rw[eC0]
 have c0w:C0.w=C.w:=by rw[eC0]
 have c0O:C0.O=C.own:=by rw[eC0]
 have hno:∀b,¬C0.lown b:=by
  rintro b ⟨s,⟨z,es,hs⟩,_⟩;rw[c0h] at hs;simp at hs
 have own0:∀b,C0.own b->C.own b:=λb hb=>hb.elim (λh=>by rw[c0O] at h;exact h) λh=>absurd h (hno b)
 have R0:Rel C0:=by
  refine⟨λs z es h=>by rw[c0h] at h;simp at h,λs t ⟨z,es,h⟩=>by rw[c0h] at h;simp at h,λb hb=>?_,λp hp=>(RC.glo p hp).recfg c0w own0 (k49 hp 0),λp hp=>by rw[c0w];exact RC.gsz p hp⟩;rw[c0O] at hb;rw[c0w];rcases hb with hb|⟨s,hs,rfl⟩
  ·exact RC.olt b hb
  ·exact RC.lown_lt ⟨s,hs,rfl⟩
 have v0:VRs C0 args vs:=by
  refine⟨hv.1,λi x hx=>?_⟩;have hup:=k0G ha hx;exact VR.unren (f:=λs=>s) c0w own0 (λs hs=>by rw[c0h] at hs;simp at hs) (hv.2 i x hx) x (by rw[c0h];exact hup) (k2J _ x hup)
 have hH:=H.2 C0 vs c0h R0 v0;rw[c0w] at hH;refine hH.mono λe w' ⟨v,r,D,h1,⟨h2,h2h⟩,h3,h5,h6,h7,h8⟩=>?_;subst h2;subst h3;obtain⟨n,en⟩:=Z.e C.h.length;obtain⟨D',eD'⟩:∃D':Cfg,D'={ O:=C.O,r:=λs=>if s<n then C.r s else D.r 0,h:=C.h++[.live z es],w:=D.w }:=⟨_,rfl⟩;have dO:D'.O=C.O:=by rw[eD']
 have dw:D'.w=D.w:=by rw[eD']
 have dh:D'.h=C.h++[.live z es]:=by rw[eD']
 have dr:∀s,s<n->D'.r s=C.r s:=λs hs=>by rw[eD'];exact if_pos hs
 have drn:D'.r n=D.r 0:=by rw[eD'];exact if_neg (Nat.lt_irrefl _)
 have D0O:D.O=C.own:=by rw[h7.O,c0O]
 have hD0:D.h[0]?=some (.live z es):=by rw[h2h];rfl
 obtain⟨g1,o,gg,g2,g3,g4⟩:=h5.livx 0 z es hD0
 have hlt:∀s,D'.live s->s<n/\C.live s\/s=n:=by
  rintro s ⟨z',es',hs⟩;rw[dh] at hs;by_cases hsn:s<n
  ·rw[List.getElem?_append_left Z.o] at hs
   exact .inl ⟨hsn,z',es',hs⟩
  ·have:=(List.getElem?_eq_some_iff.1 hs).1
   simp only[List.length_append,List.length_cons,List.length_nil] at this;exact .inr Z.o
 have keep:=λb hb=>h7.keep b hb (hno b);rw[c0w] at keep;have hsz:C.w.heap.size<=D.w.heap.size:=by have:=h7.size;rwa [c0w] at this
 have E:Ext C.h.length C D':=by
  refine⟨dO,by rw[dw];have:=h7.os;rwa [c0w] at this,by rw[dw];have:=h7.tape;rwa [c0w] at this,by rw[dw];have:=h7.output;rwa [c0w] at this,by rw[dw];exact hsz,λs hs hus=>?_,λb hb hl=>⟨by rw[dw];exact(keep b hb).1,?_⟩,λb x hx=>by rw[dw];exact h7.shape b x (by rw[c0w];exact hx)⟩
  ·obtain⟨y,hy,hne⟩:=hus
   exact⟨⟨y,by rw[dh,List.getElem?_append_left hs];exact hy,hne⟩,dr s Z.o⟩
  ·rintro⟨s,hs,hr⟩
   rcases hlt s hs with ⟨h1,h2⟩|rfl
   ·exact hl ⟨s,h2,by rw[<- dr s h1];exact hr⟩
   ·rw[drn] at hr
    exact(keep b hb).2 ⟨0,⟨z,es,hD0⟩,hr⟩
 have ownD:∀b,D'.own b->D.own b:=by
  rintro b (hb|⟨s,hs,hr⟩)
  ·rw[dO] at hb
   exact .inl (by rw[D0O];exact .inl hb)
  ·rcases hlt s hs with ⟨h1,h2⟩|rfl
   ·exact .inl (by rw[D0O];exact .inr ⟨s,h2,by rw[<- dr s h1];exact hr⟩)
   ·rw[drn] at hr
    exact .inr ⟨0,⟨z,es,hD0⟩,hr⟩
 have hnO:¬C.own (D.r 0):=by rw[<- D0O];exact g1
 have RD:Rel D':=by
  refine RC.of_ext E (λs z' es' hs=>?_) ?_
  ·rcases hlt s ⟨z',es',hs⟩ with ⟨h1,h2⟩|rfl
   ·rw[dh,List.getElem?_append_left Z.o] at hs
    exact .inl ⟨hs,dr s h1,by rw[dw];exact(keep _ (RC.lown_lt ⟨s,⟨z',es',hs⟩,rfl⟩)).1⟩
   ·rw[dh,en,List.getElem?_append_right (Nat.le_refl _),Nat.sub_self] at hs
    have hs:k27.live z es=k27.live z' es':=(by simpa using hs);cases hs
    refine .inr ⟨by rw[dO,drn];exact λh=>hnO (.inl h),o,gg,by rw[dw,drn];exact g2,g3,λi e he j x hx=>?_⟩;have hup:=k0G (k1C hu.get he) hx;have:=VR.rens (C:=D') (D:=D) (f:=λs=>s) (m:=0) dw ownD (λs hs=>by omega) (g4 i e he j x hx) hup
    rwa [k2J _ x hup] at this
  ·intro s t hs ht hr
   rcases hlt s hs with ⟨a1,a2⟩|rfl<;>rcases hlt t ht with ⟨b1,b2⟩|rfl
   ·rw[dr s a1,dr t b1] at hr
    exact RC.inj s t a2 b2 hr
   ·rw[dr s a1,drn] at hr
    exact absurd (.inr ⟨s,a2,hr⟩) hnO
   ·rw[dr t b1,drn] at hr
    exact absurd (.inr ⟨t,b2,hr.symm⟩) hnO
   ·rfl
 have xB:VR D' (.ref n z 0 0) v:=by
  refine VR.rens (C:=D') (D:=D) (f:=λ_=>n) (m:=1) dw ownD (λs hs _=>?_) h6 rfl;have h0:s=0:=(by omega);subst h0;exact⟨⟨_,by rw[dh,en,List.getElem?_append_right (Nat.le_refl _),Nat.sub_self];rfl,by intro h;cases h⟩,drn⟩
 exact⟨v,.ref n z 0 0,D',h1,by rw[dh,en];exact hK,dw,RD,xB,E,by rw[dh];simp⟩
theorem Call.fresh{P P0:Program}{g:FuncId}{args:List AV}{z:Nat}{es:List (List AV)}{h:k00}{K:k09->k00->Prop}{a:k09}{dst:Option Nat}(hP:P0=P)(H:k06 P0 g args [] (λr hD=>r = .ref 0 z 0 0/\hD=[.live z es]))(hu:Up0 es)(ha:k0Q 0 args=true)
 (hK:K (k1V a dst (.ref h.length z 0 0)) (h++[.live z es])):Call P g args h (k4T K a dst):=by
 subst hP;exact Call.of (k06.fresh H hu ha hK)
end Go.Eng
