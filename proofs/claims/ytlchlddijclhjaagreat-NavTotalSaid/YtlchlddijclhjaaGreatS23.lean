/- Parts of the proofs. -/
import Derived.Test.YtlchlddijclhjaaGreatS21
import Derived.Test.YtlchlddijclhjaaGreatS18
import Derived.Test.YtlchlddijclhjaaGreatS11
import Derived.KernelRfl
import Derived.Test.YtlchlddijclhjaaGreatS16
import Derived.Test.YtlchlddijclhjaaGreatS8
import Derived.Test.YtlchlddijclhjaaGreatS17
import Derived.Test.YtlchlddijclhjaaGreatS22
import Derived.Test.YtlchlddijclhjaaGreatSZ
set_option linter.unusedVariables false
set_option linter.unusedSimpArgs false
set_option maxHeartbeats 4000000
namespace Go.Proofs.YtlchlddijclhjaaGreat
open Go Go.RowKit Go.Eng
set_option maxRecDepth 100000
def kJM:Pz:=⟨0,0,0,0,[]⟩
def k9X(ss:List Sg)(mm:List (List Int))(n:Nv)(a b:Int):Nv×List (List Int)×Bool:=
 if n.on=true then
  if (k7N ss n.p.fr ⟨n.p.lo,n.p.hi,n.p.est,mm⟩ a b).2=0 then ({ n with lo:=a,hi:=b,di:=n.di+kAA ((a+b)/2),p:=⟨(k7N ss n.p.fr ⟨n.p.lo,n.p.hi,n.p.est,mm⟩ a b).1.lo,(k7N ss n.p.fr ⟨n.p.lo,n.p.hi,n.p.est,mm⟩ a b).1.hi,(k7N ss n.p.fr ⟨n.p.lo,n.p.hi,n.p.est,mm⟩ a b).1.est,n.p.fr,(k7N ss n.p.fr ⟨n.p.lo,n.p.hi,n.p.est,mm⟩ a b).1.m.map rtC⟩ },(k7N ss n.p.fr ⟨n.p.lo,n.p.hi,n.p.est,mm⟩ a b).1.m,false)
  else ({ n with lo:=a,hi:=b,di:=n.di+kAA ((a+b)/2),on:=false,gr:=0,p:=kJM },[],decide ((k7N ss n.p.fr ⟨n.p.lo,n.p.hi,n.p.est,mm⟩ a b).2=20))
 else ({ n with lo:=a,hi:=b,di:=n.di+kAA ((a+b)/2) },mm,false)
theorem kS3(ss:List Sg)(gs:List Gr)(mm:List (List Int))(n:Nv)(hu:NvU n)(zU:n.es=ss.map k0Y)(yG:n.ds=gs.map k14)(hln:k2N ss)(yS:k4N ss)(hon:n.on=true)(hfr:0<=n.p.fr/\n.p.fr<=1099511627776)(hp:q19 ss ⟨n.p.lo,n.p.hi,n.p.est,mm⟩)(yL:n.p.rs=mm.map rtC)
 (a b:Int) (hab:a<=b) (ha: -1099511627776<=a) (hb:b<=1099511627776) (hd:0<=n.di/\n.di<=2305843009213693952) (v:Nv) (m2:List (List Int)) (o:Bool) (hv:(v,m2,o)=k9X ss mm n a b) :
 k06 Tryz.prog 47 [.ref 0 55 0 0,.agg [a,b]] [.live 55 [n.row]] (λr hp=>r = .bool o/\∃j,hp = .live 55 [v.row]::j):=by
 refine k06.mono (k06.give (h':=[.live 55 [v.row]]) (r':=.bool o) ?_) (λr h hh=>⟨hh.1,[],hh.2⟩);obtain⟨md,emd⟩:∃x,(a+b)/2=x:=⟨_,rfl⟩;obtain⟨sz,esz⟩:=Z.e (kAA md);obtain⟨di',edi⟩:=Z.f (n.di+sz);have hmd: -1099511627776<=md/\md<=1099511627776:=by omega
 have hsz:0<=sz/\sz<=1099511627776:=by rw[esz];unfold kAA;split<;>omega
 have q1:=kCH emd (show I64 a by unfold I64;omega) (show I64 b by unfold I64;omega);have q2:=kTT esz (show I62 md by unfold I62;omega);have q3:=kB7 edi (show I62 n.di by unfold I62;omega) (show I62 sz by unfold I62;omega);obtain⟨⟨q,e⟩,eq⟩:∃x,x=k7N ss n.p.fr ⟨n.p.lo,n.p.hi,n.p.est,mm⟩ a b:=⟨_,rfl⟩;obtain⟨us,eus⟩:=Z.e (q.m.map rtC);have q4:=q0N ss gs n.es n.ds zU yG hln yS n.gr n.p.fr hfr ⟨n.p.lo,n.p.hi,n.p.est,mm⟩ hp n.p.rs yL a b hab ha hb q e eq us eus;have hE:=kI0 yS hp hab eq;have huu:Up0 us:=by rw[eus];exact k1D (f:=rtC) (λd=>rfl) q.m
 unfold k9X at hv;rw[if_pos hon,emd,<- esz,edi,<- eq] at hv;simp only at hv;rw[<- eus] at hv;have hu1:=hu;clear esz edi hsz emd hd hmd eq hp;obtain⟨qlo,qhi,qest,qm⟩:=q;simp only at hv q4;obtain⟨hue,hud,huo,hur⟩:=hu1;by_cases he:e=0
 ·subst he
  rw[if_pos rfl] at hv;simp only[Prod.mk.injEq] at hv;obtain⟨rfl,rfl,rfl⟩:=hv
  have q5:=q4.mono (R':=(· = .tuple [.agg [.bool true,n.gr,qlo,qhi,qest,n.p.fr,.list 13 us],jz 0])) (by
   rintro r (⟨_,h⟩|⟨h,_⟩)
   ·exact h
   ·exact absurd rfl h)
  clear q4 hE eus;obtain⟨⟨c0,c1,c2,c3,c4,c5,c6,c7,c8,c9,c10,c11,c12,c13⟩,es,ds,cy,g0,g1,os,⟨kn0,la0,su0⟩,⟨kn1,la1,su1⟩,a0,b0,a1,b1,lo,hi,di,on,gr,⟨pl,ph,pe,fr,rs⟩,cl,o0,o1,s0,s1,sc,so,ra,ro,m0,m1,⟨wi,wt,wf⟩⟩:=n;simp only at hon q3 q5 hue hud huo hur;subst hon;have u0:Up0 [c0::c1::c2::c3::c4::c5::c6::c7::c8::c9::c10::c11::c12::c13 :: .list 3 es :: .list 5 ds :: .bool false::cy::g0::g1 :: .list 1 os::kn0 :: .int .u16 la0::su0::[kn1,.int .u16 la1,su1,a0,b0,a1,b1,lo,hi,di,.bool true,gr,pl,ph,pe,fr,.list 13 rs,cl,o0,o1,s0,s1,sc,so,ra,ro,m0,m1,wi,wt,wf]]:=hu.row;refine Z.x Tryz.func47 λ_ _ _ _ zF _ _ _ zB _ _ zI _ hz P hP=>?_;cbv;have n1:zF false=true:=(by rw[zI];rfl);have n2:zF true=false:=(by rw[zI];rfl);have d1:=W.neq zB (show (0:Int)≠20 by decide);repeat' (first|(simp only[n1,n2,d1];cbv)|(refine Call.s hP q1 ?_;cbv)|(refine Call.s hP q2 ?_;cbv)|(refine Call.s hP q3 ?_;cbv)|(refine k1R.s hP q5 ?_;cbv)|fail)
  all_goals first|(refine WkB.mk ?_;(refine Z.n (id) ?_;cbv<;>exact Z.q))
 ·rw[if_neg he] at hv
  simp only[Prod.mk.injEq] at hv;obtain⟨rfl,rfl,eo⟩:=hv
  have q5:=q4.mono (R':=(· = .tuple [.agg [.bool false,jz 0,jz 0,jz 0,jz 0,jz 0,.nils],e])) (by
   rintro r (⟨h,_⟩|⟨_,h⟩)
   ·exact absurd h he
   ·exact h)
  clear q4 hE eus he;obtain⟨⟨c0,c1,c2,c3,c4,c5,c6,c7,c8,c9,c10,c11,c12,c13⟩,es,ds,cy,g0,g1,os,⟨kn0,la0,su0⟩,⟨kn1,la1,su1⟩,a0,b0,a1,b1,lo,hi,di,on,gr,⟨pl,ph,pe,fr,rs⟩,cl,o0,o1,s0,s1,sc,so,ra,ro,m0,m1,⟨wi,wt,wf⟩⟩:=n;simp only at hon q3 q5 hue hud huo hur;subst hon;have u0:Up0 [c0::c1::c2::c3::c4::c5::c6::c7::c8::c9::c10::c11::c12::c13 :: .list 3 es :: .list 5 ds :: .bool false::cy::g0::g1 :: .list 1 os::kn0 :: .int .u16 la0::su0::[kn1,.int .u16 la1,su1,a0,b0,a1,b1,lo,hi,di,.bool true,gr,pl,ph,pe,fr,.list 13 rs,cl,o0,o1,s0,s1,sc,so,ra,ro,m0,m1,wi,wt,wf]]:=hu.row;refine Z.x Tryz.func47 λ_ zG _ _ zF _ _ _ zB _ _ zI _ hz P hP=>?_;cbv;have n1:zF false=true:=(by rw[zI];rfl);have n2:zF true=false:=(by rw[zI];rfl);have d1:zG .eql e 20=o:=(by rw[zB,eo];rfl);clear eo;repeat' (first|(simp only[n1,n2,d1];cbv)|(refine Call.s hP q1 ?_;cbv)|(refine Call.s hP q2 ?_;cbv)|(refine Call.s hP q3 ?_;cbv)|(refine k1R.s hP q5 ?_;cbv)|fail)
  all_goals first|(refine WkB.mk ?_;(refine Z.n (id) ?_;cbv<;>exact Z.q))
def kDY(w lo hi:Int)(ps:List Int):List Int:=ps.filter λa=>decide (a-w<=hi/\lo<=a+w)
theorem kRL(c0 c1 c2 c3 c4 c5 c6 c7 c8 c9 c10 c11 c12 c13 g1 g2 g3 g4 g5 w:Int)(h:g4+c8+g5=w)(h1:0<=c8/\c8<=1048576)(h2:0<=g4/\g4<=1048576)(h3:0<=g5/\g5<=16777216) :
 k02 Tryz.prog 215 [.agg [c0,c1,c2,c3,c4,c5,c6,c7,c8,c9,c10,c11,c12,c13],.agg [g1,g2,g3,g4,g5]] (· = jz w):=by
 refine Z.y Tryz.func215 λzA _ _ _ _ _ hw zC _ _ _ _ _ hz R hR P hP=>?_;cbv;obtain⟨x,ex⟩:=Z.f (g4+c8);have e1:zA .add .i64 g4 c8=x:=by rw[zC,k0S Z.o Z.o];exact ex
 have e2:zA .add .i64 x g5=w:=by rw[zC,k0S Z.o Z.o];omega
 simp only[e1,e2];exact Z.r hR
theorem kFB{a w l h:Int}(h0:0<=w)(hl:a-w=l)(hh:a+w=h)(ha:I62 a)(hw:I62 w):k02 Tryz.prog 203 [a,w] (· = .tuple [.agg [l,h],.bool true]):=by
 have hg:k02 Tryz.prog 146 [.agg [a,a],w] (· = .tuple [.agg [l,h],.bool true]):=by
  have r1:=k22 (a:=a) (b:=a) true (by simp);have s1:=kCG hl ha hw;have s2:=kB7 hh ha hw;have b1:=kB6 (lo:=l) (hi:=h) Z.o;refine Z.y Tryz.func146 λ_ _ _ _ zF _ _ _ _ _ _ zI _ hz R hR P hP=>?_;cbv;have n1:zF true=false:=by rw[zI];rfl
  repeat' (first
   | (refine Call.stepE (by rw[<- hP];exact r1) rfl ?_;cbv;simp only[n1];cbv)
   | (refine Call.stepE (by rw[<- hP];exact s1) rfl ?_;cbv)
   | (refine Call.stepE (by rw[<- hP];exact s2) rfl ?_;cbv)
   | (refine Call.stepE (by rw[<- hP];exact b1) rfl ?_;cbv))
  exact Z.r hR
 have h2:k02 Tryz.prog 82 [a] (· = .agg [a,a]):=by
  refine Z.y Tryz.func82 λ_ _ _ _ _ _ _ _ _ _ _ _ _ hz R hR P hP=>?_;cbv;exact Z.r hR
 refine Z.y Tryz.func203 λ_ _ _ _ _ _ _ _ _ _ _ _ _ hz R hR P hP=>?_;cbv
 repeat' (first
  | (refine Call.stepE (by rw[<- hP];exact h2) rfl ?_;cbv)
  | (refine Call.stepE (by rw[<- hP];exact hg) rfl ?_;cbv))
 exact Z.r hR
theorem kO6(c0 c1 c2 c3 c4 c5 c6 c7 c8 c9 c10 c11 c12 c13:Int)(hc:0<=c8/\c8<=1048576)(es ds rs:List (List AV))(hu:Up0 es)(hud:Up0 ds)(hur:Up0 rs)(from_ lo hi g:Int)(hg:0<=g)(g1 g2 g3 g4 g5:Int)(hG:ds[g.toNat]?=some [jz g1,jz g2,jz g3,jz g4,jz g5])(h4:0<=g4/\g4<=1048576)(h5:0<=g5/\g5<=16777216)(hlh:lo<=hi)
 (w:Int) (hw0:g4+c8+g5=w) (ps:List Int) (hps:ps.length<=1000) (hpb:∀a,a∈ps -> -1125899906842624<=a/\a<=1125899906842624) (hpl:k02 Tryz.prog 214 [.agg [from_,.list 13 rs],.agg [.list 3 es,.list 5 ds],g] (· = .list 1 (ps.map k0K))) :
 k02 Tryz.prog 160 [.agg [c0,c1,c2,c3,c4,c5,c6,c7,c8,c9,c10,c11,c12,c13],.agg [.list 3 es,.list 5 ds],.agg [from_,.list 13 rs],.agg [lo,hi],g] (· = .list 1 ((kDY w lo hi ps).map k0K)):=by
 have hdl:g.toNat<ds.length:=(List.getElem?_eq_some_iff.1 hG).1;obtain⟨v,ev⟩:=Z.e (kDY w lo hi ps);obtain⟨q,eq⟩:=Z.e (ps.map k0K);have huq:Up0 q:=by rw[eq];exact k3K ps
 have hql:q.length=ps.length:=by rw[eq];simp
 rw[<- eq] at hpl;rw[<- ev];have hup:k0Q 0 [AV.agg [from_,.list 13 rs],.agg [.list 3 es,.list 5 ds],g]=true:=by simp only[k0Q,AV.upto,hu.get,hud.get,hur.get];rfl
 refine Z.y Tryz.func160 λzA _ _ _ _ _ hw zC _ _ _ _ zE hz R hR P hP=>?_;cbv;refine Call.stepE (by rw[<- hP];exact hpl) (by exact hup) ?_;cbv;obtain⟨L,eL,L0,Ln⟩:=Z.l zE q;simp only[eL];have hwin:=kRL c0 c1 c2 c3 c4 c5 c6 c7 c8 c9 c10 c11 c12 c13 g1 g2 g3 g4 g5 w hw0 hc h4 h5
 refine k1Q.data hw (S:=Int×Option (Nat×List (List AV))) (λs=>match s.2 with
  | none=>fr 55 [(4,g),(5,.ref 0 14 0 0),(6,.ref 1 2 0 0),(8,.ref 3 2 0 0),(11,.nils),(21,.list 1 q),(22,L),(23,s.1)]
  | some (k,w)=>fr 55 [(4,g),(5,.ref 0 14 0 0),(6,.ref 1 2 0 0),(8,.ref 3 2 0 0),(11,.sl 4 1 0 k),(21,.list 1 q),(22,L),(23,s.1)])
  (λs=>match s.2 with
    | none=>[.live 14 [[c0,c1,c2,c3,c4,c5,c6,c7,c8,c9,c10,c11,c12,c13]],.live 2 [[.list 3 es,.list 5 ds]],.live 2 [[from_,.list 13 rs]],.live 2 [[lo,hi]]]
    | some (k,w)=>[.live 14 [[c0,c1,c2,c3,c4,c5,c6,c7,c8,c9,c10,c11,c12,c13]],.live 2 [[.list 3 es,.list 5 ds]],.live 2 [[from_,.list 13 rs]],.live 2 [[lo,hi]],.live 1 w])
  (λs=>0<=s.1/\s.1<=L/\kKR s.2 (kDY w lo hi (ps.take s.1.toNat))) (λs=>(L-s.1).toNat) (0,none) Z.i ⟨Int.le_refl _,L0,rfl⟩ ?_
 rintro⟨i,(_|⟨k1,w1⟩)⟩ zJ Q' hN hE hR'
 ·have zJ:0<=i/\i<=L/\kKR none (kDY w lo hi (ps.take i.toNat)):=zJ
  cbv;obtain⟨yJ,yZ,hrep⟩:=zJ;have hfl:(kDY w lo hi (ps.take i.toNat)).length<=ps.length:=Nat.le_trans (List.length_filter_le _ _) (by simp;omega);(split<;>rename_i hd<;>(try (simp only[hz,Z.a,k05,k04,k08,k03,k0M,reduceCtorEq] at hd))<;>(try cbv))
  rotate_left 1
  ·rw[List.take_of_length_le Z.o,<- ev] at hrep
   refine hE _ _ _ ?_;cbv;exact⟨_,Vw.nil 1,hR _ (by rw[show v=[] from hrep];rfl)⟩
  obtain⟨a,ha⟩:∃a,ps[i.toNat]?=some a:=⟨_,List.getElem?_eq_getElem (show i.toNat<ps.length by omega)⟩;have hqa:q[i.toNat]?=some [jz a]:=(by rw[eq,List.getElem?_map,ha];rfl);have hab:=hpb a (List.mem_of_getElem? ha);obtain⟨i2,ei2⟩:=Z.e (i+1);have a4:zA .add .i64 i 1=i2:=by rw[zC,ei2];show IntKind.i64.wrap (i+1)=i+1;rw[IntKind.wrap_i64];omega
  have hT2:(L-i2).toNat<(L-i).toNat:=(by omega);have htk:ps.take i2.toNat=ps.take i.toNat++[a]:=by rw[ei2];exact k24 yJ ha
  have hst:kDY w lo hi (ps.take i2.toNat)=kDY w lo hi (ps.take i.toNat)++(if a-w<=hi/\lo<=a+w then [a] else []):=by
   rw[htk];unfold kDY;rw[List.filter_append];congr 1
   by_cases h:a-w<=hi/\lo<=a+w
   ·rw[if_pos h];simp[h.1,h.2]
   ·rw[if_neg h]
    simp only[List.filter_cons,List.filter_nil];rw[if_neg (by simpa using h)]
  obtain⟨l1,el1⟩:=Z.f (a-w);obtain⟨h1,eh1⟩:=Z.f (a+w);obtain⟨x1,ex1⟩:=Z.f (max l1 lo);obtain⟨y1,ey1⟩:=Z.f (min h1 hi);have s1:=kFB Z.o el1 eh1 ⟨by omega,by omega⟩ ⟨by omega,by omega⟩;refine Idx.mk _ yJ hqa ?_;cbv;refine Idx.mk _ hg hG ?_;cbv;refine k1R.stepE (by rw[<- hP];exact hwin) rfl ?_;cbv;refine k1R.stepE (by rw[<- hP];exact s1) rfl ?_;cbv;by_cases hm:x1<=y1
  ·have s2:=k9C ex1 ey1 hm
   refine Call.stepE (by rw[<- hP];exact s2) rfl ?_;cbv;rw[if_pos Z.o] at hst;refine Ob.mk Z.d ?_;cbv;simp only[a4];refine hN (i2,some (1,[[jz a]])) _ _ ?hx ?hI hT2
   case hx=>(refine Z.k (λj=>[0,1,2,3,6].getD j 0) ?_;cbv<;>exact Z.q)
   case hI=>exact⟨by simp only;omega,by simp only;omega,by simp only;rw[hst,show kDY w lo hi (ps.take i.toNat)=[] from hrep];exact⟨rfl,rfl,⟨rfl⟩⟩⟩
  ·have s2:=k6N ex1 ey1 (show y1<x1 by omega)
   refine Call.stepE (by rw[<- hP];exact s2) rfl ?_;cbv;rw[if_neg Z.o,List.append_nil] at hst;simp only[a4];refine hN (i2,none) _ _ ?hx ?hI hT2
   case hx=>exact Z.i
   case hI=>exact⟨by simp only;omega,by simp only;omega,by simp only;rw[hst];exact hrep⟩
 ·have zJ:0<=i/\i<=L/\kKR (some (k1,w1)) (kDY w lo hi (ps.take i.toNat)):=zJ
  cbv;obtain⟨yJ,yZ,hrep⟩:=zJ;have hfl:(kDY w lo hi (ps.take i.toNat)).length<=ps.length:=Nat.le_trans (List.length_filter_le _ _) (by simp;omega);have huw:Up0 w1:=hrep.2.2;have hk1:k1=w1.length:=hrep.2.1;have hwl1:w1.length=(kDY w lo hi (ps.take i.toNat)).length:=(by rw[hrep.1];simp);(split<;>rename_i hd<;>(try (simp only[hz,Z.a,k05,k04,k08,k03,k0M,reduceCtorEq] at hd))<;>(try cbv))
  rotate_left 1
  ·rw[List.take_of_length_le Z.o,<- ev] at hrep
   refine hE _ _ _ ?_;cbv;have e1:(w1.drop 0).take k1=v.map k0K:=(by rw[List.drop_zero,List.take_of_length_le Z.o];exact hrep.1);refine⟨_,Vw.sl (s:=4) (z:=1) (n:=k1) (i:=0) rfl huw.get Z.o,hR _ ?_⟩;rw[e1]
  obtain⟨a,ha⟩:∃a,ps[i.toNat]?=some a:=⟨_,List.getElem?_eq_getElem (show i.toNat<ps.length by omega)⟩;have hqa:q[i.toNat]?=some [jz a]:=(by rw[eq,List.getElem?_map,ha];rfl);have hab:=hpb a (List.mem_of_getElem? ha);obtain⟨i2,ei2⟩:=Z.e (i+1);have a4:zA .add .i64 i 1=i2:=by rw[zC,ei2];show IntKind.i64.wrap (i+1)=i+1;rw[IntKind.wrap_i64];omega
  have hT2:(L-i2).toNat<(L-i).toNat:=(by omega);have htk:ps.take i2.toNat=ps.take i.toNat++[a]:=by rw[ei2];exact k24 yJ ha
  have hst:kDY w lo hi (ps.take i2.toNat)=kDY w lo hi (ps.take i.toNat)++(if a-w<=hi/\lo<=a+w then [a] else []):=by
   rw[htk];unfold kDY;rw[List.filter_append];congr 1
   by_cases h:a-w<=hi/\lo<=a+w
   ·rw[if_pos h];simp[h.1,h.2]
   ·rw[if_neg h]
    simp only[List.filter_cons,List.filter_nil];rw[if_neg (by simpa using h)]
  obtain⟨l1,el1⟩:=Z.f (a-w);obtain⟨h1,eh1⟩:=Z.f (a+w);obtain⟨x1,ex1⟩:=Z.f (max l1 lo);obtain⟨y1,ey1⟩:=Z.f (min h1 hi);have s1:=kFB Z.o el1 eh1 ⟨by omega,by omega⟩ ⟨by omega,by omega⟩;refine Idx.mk _ yJ hqa ?_;cbv;refine Idx.mk _ hg hG ?_;cbv;refine k1R.stepE (by rw[<- hP];exact hwin) rfl ?_;cbv;refine k1R.stepE (by rw[<- hP];exact s1) rfl ?_;cbv;by_cases hm:x1<=y1
  ·have s2:=k9C ex1 ey1 hm
   refine Call.stepE (by rw[<- hP];exact s2) rfl ?_;cbv;rw[if_pos Z.o] at hst;obtain⟨w2,ew2⟩:∃x:List (List AV),x=w1++[[jz a]]:=⟨_,rfl⟩;obtain⟨k2,ek2⟩:=Z.e (k1+1);have hwl2:w2.length=w1.length+1:=(by rw[ew2];simp);have hw2:w2=(kDY w lo hi (ps.take i.toNat)++[a]).map k0K:=(by rw[ew2,hrep.1];simp[k0K]);have huw2:Up0 w2:=(by rw[hw2];exact k3K _);refine App.mk w2 k2 ew2 hk1 ek2 Z.o Z.o ?_;cbv;simp only[a4];refine hN (i2,some (k2,w2)) _ _ ?hx ?hI hT2
   case hx=>(refine Z.k (λj=>[0,1,2,3,7].getD j 0) ?_;cbv<;>exact Z.q)
   case hI=>exact⟨by simp only;omega,by simp only;omega,by simp only;rw[hst];exact⟨hw2,by omega,huw2⟩⟩
  ·have s2:=k6N ex1 ey1 (show y1<x1 by omega)
   refine Call.stepE (by rw[<- hP];exact s2) rfl ?_;cbv;rw[if_neg Z.o,List.append_nil] at hst;simp only[a4];refine hN (i2,(some (k1,w1))) _ _ ?hx ?hI hT2
   case hx=>exact Z.i
   case hI=>exact⟨by simp only;omega,by simp only;omega,by simp only;rw[hst];exact hrep⟩
theorem kNZ{a b c d l h:Int}(h1:a<=b)(hl:a+min 0 c=l)(hh:b+max 0 d=h)(ha: -1125899906842624<=a/\a<=1125899906842624)(hb: -1125899906842624<=b/\b<=1125899906842624)(hc: -1125899906842624<=c/\c<=1125899906842624)(hd: -1125899906842624<=d/\d<=1125899906842624)(hcd:c<=d) :
 k02 Tryz.prog 159 [.agg [a,b],.agg [c,d]] (· = .tuple [.agg [l,h],.bool true]):=by
 obtain⟨x,ex⟩:=Z.f (min 0 c);obtain⟨y,ey⟩:=Z.f (max 0 d);have s1:=kDH (l:=l) (h:=h) h1 (show x<=y by omega) Z.o Z.o ⟨by omega,by omega⟩ ⟨by omega,by omega⟩ ⟨by omega,by omega⟩ ⟨by omega,by omega⟩;(refine k02.ofY Tryz.func159 (by kernel_rfl) (by kernel_rfl) (Z.w λ_ _ _ _ _ _ yR _ _ _ _ _ _ _ _ _ _ _ _ _ _ _ _ _ _ _ _ yU _ _ _ _ _ _ _ _ _ _ _ _ _ _ R hR=>?_));(conv=>arg 2;cbv);(generalize hP:Tryz.prog=P);cbv;have e1:yR false 0 c=x:=by rw[yU,kP6,ex]
 have e2:yR true 0 d=y:=by rw[yU,kTI,ey]
 simp only[e1,e2];refine Call.stepE (by rw[<- hP];exact s1) rfl ?_;cbv;exact Z.r hR
theorem kMD{ss:List Sg}(hln:k2N ss)(sg:Int){off:Int}(hoff:0<=off/\off<=1099511627776):∀(l:List Int) (a:Int),∀x,x∈plc ss sg off a l->a<=x/\x<=a+k8Z l*1099511627776+1099511627776
 | [],a,x,h=>by simp[plc] at h
 | n::l,a,x,h=>by
   have hb:=k5M hln n;simp only[plc,k8Z] at h ⊢;have hl0:0<=k8Z l:=(by rw[k5L];omega);rcases List.mem_append.1 h with h|h
   ·split at h
    ·simp at h;omega
    ·simp at h
   ·have:=kMD hln sg hoff l (a+k1O ss n) x h
    omega
theorem kQM{ss:List Sg}(hln:k2N ss){sg off from_:Int}(hf:0<=from_/\from_<=1099511627776)(hoff:0<=off/\off<=1099511627776)(m:List (List Int))(hm:∀l,l∈m->l.length<=12):∀x,x∈kME ss sg off from_ m -> -1125899906842624<=x/\x<=1125899906842624:=λx hx=>by
 unfold kME at hx;rw[(k5V (k79 ss sg off from_ m) [] List.Pairwise.nil).2.1] at hx;rcases hx with hx|hx
 ·simp at hx
 ·unfold k79 at hx
  obtain⟨l,hl,hx⟩:=List.mem_flatMap.1 hx;have h1:=kMD hln sg hoff l (-from_) x hx;have h2:=hm l hl;have h3:=k5L l;omega
theorem kQL{ss:List Sg}{sg off from_:Int}(m:List (List Int))(hm:∀l,l∈m->l.length<=12)(hm2:m.length<=16):(kME ss sg off from_ m).length<=1000:=by
 have h1:=(k5V (k79 ss sg off from_ m) [] List.Pairwise.nil).2.2;have h2:=k8E ss sg off from_ m hm;unfold kME;simp only[List.length_nil] at h1;omega
def kNF(ss:List Sg)(mm:List (List Int))(n:Nv)(wl wh a b:Int)(G:Gr):List Int:=kDY (G.acc+n.c.c8+G.sl) (wl+min 0 a) (wh+max 0 b) (kME ss G.seg G.off n.p.fr mm)
theorem kKB(ss:List Sg)(gs:List Gr)(mm:List (List Int))(n:Nv)(hu:NvU n)(zU:n.es=ss.map k0Y)(yG:n.ds=gs.map k14)(hln:k2N ss)(h8:0<=n.c.c8/\n.c.c8<=1048576)(hpl:kKI ss mm n)
 (won:Bool) (wgr wl wh we wfr:Int) (ws:List (List AV)) (huw:Up0 ws) (hwl: -17592186044416<=wl) (hww:wl<=wh) (hwh:wh<=17592186044416) (a b:Int) (hab:a<=b) (ha: -1099511627776<=a) (hb:b<=1099511627776)
 (g:Int) (hg:0<=g) (G:Gr) (hG:gs[g.toNat]?=some G) (hoff:0<=G.off/\G.off<=1099511627776) (hacc:0<=G.acc/\G.acc<=1048576) (hsl:0<=G.sl/\G.sl<=16777216) (rs':List (List AV)) (ers:rs'=(kNF ss mm n wl wh a b G).map k0K) :
 k06 Tryz.prog 100 [.ref 0 55 0 0,.agg [won,wgr,wl,wh,we,wfr,.list 13 ws],.agg [a,b],g] [.live 55 [n.row]] (λr hp=>r = .list 1 rs'/\∃j,hp = .live 55 [n.row]::j):=by
 obtain⟨lo',elo⟩:=Z.f (wl+min 0 a);obtain⟨hi',ehi⟩:=Z.f (wh+max 0 b);have q1:=kNZ hww elo ehi ⟨by omega,by omega⟩ ⟨by omega,by omega⟩ ⟨by omega,by omega⟩ ⟨by omega,by omega⟩ hab;have hpp:=kRX ss gs n.es n.ds zU yG hln n.p.fr hpl.fr mm hpl.way (by have:=hpl.few;omega) n.p.rs hpl.rs g hg G hG hoff;have hpb:=kQM hln (sg:=G.seg) (off:=G.off) (from_:=n.p.fr) hpl.fr hoff mm λl hl=>(hpl.way l hl).1;have hpn:=kQL (ss:=ss) (sg:=G.seg) (off:=G.off) (from_:=n.p.fr) mm (λl hl=>(hpl.way l hl).1) hpl.few;unfold kNF at ers;rw[elo,ehi] at ers;have hGd:n.ds[g.toNat]?=some (k14 G):=by rw[yG,List.getElem?_map,hG];rfl
 obtain⟨gid,gseg,goff,gacc,gsl⟩:=G;have q2:=kO6 n.c.c0 n.c.c1 n.c.c2 n.c.c3 n.c.c4 n.c.c5 n.c.c6 n.c.c7 n.c.c8 n.c.c9 n.c.c10 n.c.c11 n.c.c12 n.c.c13 h8 n.es n.ds n.p.rs hu.es hu.ds hu.rs n.p.fr lo' hi' g hg gid gseg goff gacc gsl hGd hacc hsl Z.o _ rfl _ hpn hpb hpp;rw[<- ers] at q2;have hur':Up0 rs':=by rw[ers];exact k1D (f:=k0K) (λd=>rfl) _
 clear hpp hpb hpn ers elo ehi hGd;have hu1:=hu;obtain⟨⟨c0,c1,c2,c3,c4,c5,c6,c7,c8,c9,c10,c11,c12,c13⟩,es,ds,cy,g0,g1,os,⟨kn0,la0,su0⟩,⟨kn1,la1,su1⟩,a0,b0,a1,b1,lo,hi,di,on,gr,⟨pl,ph,pe,fr,rs⟩,cl,o0,o1,s0,s1,sc,so,ra,ro,m0,m1,⟨wi,wt,wf⟩⟩:=n;obtain⟨hue,hud,huo,hur⟩:=hu1;simp only at hue hud huo hur q2;refine Z.x Tryz.func100 λ_ _ _ _ zF _ _ _ _ _ _ zI _ _ P hP=>?_;cbv;have n1:zF true=false:=by rw[zI];rfl
 repeat' (first|(simp only[n1];cbv)|(refine Call.s hP q1 ?_;cbv)|(refine k1R.s hP q2 ?_;cbv)|fail)
 all_goals first|exact⟨_,rfl⟩
theorem ul1{z:Nat}{es:List (List AV)}(h:Up0 es):(AV.list z es).upto 1=true:=k21 1 _ h.get
structure Fo where
 g:Int
 at_:List Int
 ok:Bool
 ac:Bool
def Fo.row(x:Fo):AV:=.agg [x.g,.list 1 (x.at_.map k0K),x.ok,x.ac]
theorem kS5(ss:List Sg)(gs:List Gr)(n:Nv)(hu:NvU n)(zU:n.es=ss.map k0Y)(yG:n.ds=gs.map k14)(hT:k1I ss gs)(m:Ml)(hm:m.has 5=true)(id:Int)(hid:m.val 5=id)(hib: -2147483648<=id/\id<=2147483648)(hno:∀g,g∈gs->g.id≠id)
 (won:Bool) (wgr wl wh we wfr:Int) (ws:List (List AV)) (huw:Up0 ws) (a b:Int) :
 k06 Tryz.prog 48 [.ref 0 55 0 0,.agg m.row,.agg [won,wgr,wl,wh,we,wfr,.list 13 ws],.agg [a,b]] [.live 55 [n.row]] (λr hp=>r = .agg [jz 0,.list 1 [],.bool false,.bool false]/\∃j,hp = .live 55 [n.row]::j):=by
 refine k06.mono (k06.give (h':=[.live 55 [n.row]]) (r':=.agg [jz 0,.list 1 [],.bool false,.bool false]) ?_) (λr h hh=>⟨hh.1,[],hh.2⟩);have u0:=hu.row;have q1:=kFE m 5 (.inr (.inr (.inr (.inr rfl)))) id true hid.symm hm.symm;have q2:=kGW ss gs n.es n.ds zU yG hT id
 have hno2:∀i f,kHD gs (λg:Gr=>g.id) id i f->f=false:=λi f hF=>by
  cases f with
  | false=>rfl
  | true =>
    obtain⟨d,hd,hk⟩:=hF.yes rfl;exact absurd hk (hno d (List.mem_of_getElem? hd))
 clear hno hm hid;have hu1:=hu;obtain⟨⟨c0,c1,c2,c3,c4,c5,c6,c7,c8,c9,c10,c11,c12,c13⟩,es,ds,cy,g0,g1,os,⟨kn0,la0,su0⟩,⟨kn1,la1,su1⟩,a0,b0,a1,b1,lo,hi,di,on,gr,⟨pl,ph,pe,fr,rs⟩,cl,o0,o1,s0,s1,sc,so,ra,ro,m0,m1,⟨wi,wt,wf⟩⟩:=n;obtain⟨hue,hud,huo,hur⟩:=hu1;simp only at hue hud huo hur q2;obtain⟨p1,p2,p3,p4,p5,x1,x2,x3,x4,x5,bad,stale,twice,beyond⟩:=m;have u0:Up0 [c0::c1::c2::c3::c4::c5::c6::c7::c8::c9::c10::c11::c12::c13 :: .list 3 es :: .list 5 ds :: .bool false::cy::g0::g1 :: .list 1 os::kn0 :: .int .u16 la0::su0::[kn1,.int .u16 la1,su1,a0,b0,a1,b1,lo,hi,di,on,gr,pl,ph,pe,fr,.list 13 rs,cl,o0,o1,s0,s1,sc,so,ra,ro,m0,m1,wi,wt,wf]]:=u0;refine Z.x Tryz.func48 λ_ _ _ _ zF _ _ _ _ _ _ zI _ hz P hP=>?_;cbv;have n1:zF true=false:=by rw[zI];rfl
 have n2:zF false=true:=by rw[zI];rfl
 repeat' (first|(simp only[n1,n2];cbv)|(refine Call.s hP q1 ?_;cbv)|fail)
 refine Call.step (by rw[<- hP];exact q2) Z.u ?_;rintro r ⟨i,f,rfl,hF⟩;obtain rfl:=hno2 i f hF;cbv;repeat' (first|(simp only[n1,n2];cbv)|fail)
 all_goals first|(refine WkB.mk ?_;(refine Z.n (λi=>i) ?_;cbv<;>exact Z.q))|fail
theorem kHD.at{gs:List Gr}{ss:List Sg}(hT:k1I ss gs){g:Int}(hg:0<=g){G:Gr}(hG:gs[g.toNat]?=some G){i:Int}{f:Bool}(hF:kHD gs (λg:Gr=>g.id) G.id i f):i=g/\f=true:=by
 cases f with
 | false=>exact absurd rfl (hF.no rfl G (List.mem_of_getElem? hG))
 | true =>
   obtain⟨d,hd,hk⟩:=hF.yes rfl;refine⟨?_,rfl⟩;have h0:=hF.i0;have k1:=q03 hT;by_cases h1:i.toNat<g.toNat
   ·have:=k1 _ _ _ _ h1 hd hG;omega
   ·by_cases h2:g.toNat<i.toNat
    ·have:=k1 _ _ _ _ h2 hG hd;omega
    ·omega
theorem kS7(ss:List Sg)(gs:List Gr)(n:Nv)(hu:NvU n)(zU:n.es=ss.map k0Y)(yG:n.ds=gs.map k14)(hT:k1I ss gs)(m:Ml)(hm:m.has 5=true)(id:Int)(hid:m.val 5=id)(hib: -2147483648<=id/\id<=2147483648)(g:Int)(hg:0<=g)(G:Gr)(hG:gs[g.toNat]?=some G)(hGi:G.id=id)(hon:n.on=false)
 (won:Bool) (wgr wl wh we wfr:Int) (ws:List (List AV)) (huw:Up0 ws) (a b:Int) :
 k06 Tryz.prog 48 [.ref 0 55 0 0,.agg m.row,.agg [won,wgr,wl,wh,we,wfr,.list 13 ws],.agg [a,b]] [.live 55 [n.row]] (λr hp=>r = .agg [g,.list 1 [],.bool true,.bool true]/\∃j,hp = .live 55 [n.row]::j):=by
 refine k06.mono (k06.give (h':=[.live 55 [n.row]]) (r':=.agg [g,.list 1 [],.bool true,.bool true]) ?_) (λr h hh=>⟨hh.1,[],hh.2⟩);have u0:=hu.row;have q1:=kFE m 5 (.inr (.inr (.inr (.inr rfl)))) id true hid.symm hm.symm
 have q2:=(kGW ss gs n.es n.ds zU yG hT id).mono (R':=(· = .tuple [g,.bool true])) (by
  rintro r ⟨i,f,rfl,hF⟩;rw[<- hGi] at hF;obtain⟨rfl,rfl⟩:=kHD.at hT hg hG hF
  rfl)
 clear hm hid hG hGi;have hu1:=hu;obtain⟨⟨c0,c1,c2,c3,c4,c5,c6,c7,c8,c9,c10,c11,c12,c13⟩,es,ds,cy,g0,g1,os,⟨kn0,la0,su0⟩,⟨kn1,la1,su1⟩,a0,b0,a1,b1,lo,hi,di,on,gr,⟨pl,ph,pe,fr,rs⟩,cl,o0,o1,s0,s1,sc,so,ra,ro,m0,m1,⟨wi,wt,wf⟩⟩:=n;obtain⟨hue,hud,huo,hur⟩:=hu1;simp only at hue hud huo hur q2 hon;subst hon;obtain⟨p1,p2,p3,p4,p5,x1,x2,x3,x4,x5,bad,stale,twice,beyond⟩:=m;have u0:Up0 [c0::c1::c2::c3::c4::c5::c6::c7::c8::c9::c10::c11::c12::c13 :: .list 3 es :: .list 5 ds :: .bool false::cy::g0::g1 :: .list 1 os::kn0 :: .int .u16 la0::su0::[kn1,.int .u16 la1,su1,a0,b0,a1,b1,lo,hi,di,.bool false,gr,pl,ph,pe,fr,.list 13 rs,cl,o0,o1,s0,s1,sc,so,ra,ro,m0,m1,wi,wt,wf]]:=u0;refine Z.x Tryz.func48 λ_ _ _ _ zF _ _ _ _ _ _ zI _ hz P hP=>?_;cbv;have n1:zF true=false:=by rw[zI];rfl
 have n2:zF false=true:=by rw[zI];rfl
 repeat' (first|(simp only[n1,n2];cbv)|(refine Call.s hP q1 ?_;cbv)|(refine Call.s hP q2 ?_;cbv)|fail)
 all_goals first|(refine WkB.mk ?_;(refine Z.n (λi=>i) ?_;cbv<;>exact Z.q))|fail
theorem kS6(ss:List Sg)(gs:List Gr)(mm:List (List Int))(n:Nv)(hu:NvU n)(zU:n.es=ss.map k0Y)(yG:n.ds=gs.map k14)(hT:k1I ss gs)(h8:0<=n.c.c8/\n.c.c8<=1048576)(m:Ml)(hm:m.has 5=true)(id:Int)(hid:m.val 5=id)(hib: -2147483648<=id/\id<=2147483648)(g:Int)(hg:0<=g)(G:Gr)(hG:gs[g.toNat]?=some G)(hGi:G.id=id)(hon:n.on=true)(hpl:kKI ss mm n)
 (won:Bool) (wgr wl wh we wfr:Int) (ws:List (List AV)) (huw:Up0 ws) (hwl: -17592186044416<=wl) (hww:wl<=wh) (hwh:wh<=17592186044416) (a b:Int) (hab:a<=b) (ha: -1099511627776<=a) (hb:b<=1099511627776) (rs':List (List AV)) (ers:rs'=(kNF ss mm n wl wh a b G).map k0K) (o:Bool) (eo:o=decide (0<(kNF ss mm n wl wh a b G).length)) :
 k06 Tryz.prog 48 [.ref 0 55 0 0,.agg m.row,.agg [won,wgr,wl,wh,we,wfr,.list 13 ws],.agg [a,b]] [.live 55 [n.row]] (λr hp=>r = .agg [g,.list 1 rs',o,o]/\∃j,hp = .live 55 [n.row]::j):=by
 have q1:=kFE m 5 (.inr (.inr (.inr (.inr rfl)))) id true hid.symm hm.symm
 have q2:=(kGW ss gs n.es n.ds zU yG hT id).mono (R':=(· = .tuple [g,.bool true])) (by
  rintro r ⟨i,f,rfl,hF⟩;rw[<- hGi] at hF;obtain⟨rfl,rfl⟩:=kHD.at hT hg hG hF
  rfl)
 obtain⟨k1,k2,k3,k4,k5,k6,k7,k8,k9,k10,_⟩:=hT.grp g.toNat (List.getElem?_eq_some_iff.1 hG).1 G hG
 have hoff:0<=G.off/\G.off<=1099511627776:=by
  obtain⟨s,hs⟩:∃s,ss[G.seg.toNat]?=some s:=⟨_,List.getElem?_eq_getElem k4⟩;have:=k6 s hs;have:=(hT.seg _ k4 s hs).le;omega
 have q3:=kKB ss gs mm n hu zU yG hT.lensOk h8 hpl won wgr wl wh we wfr ws huw hwl hww hwh a b hab ha hb g hg G hG hoff ⟨k7,k8⟩ ⟨k9,k10⟩ rs' ers;have u0:=hu.row;have hur':Up0 rs':=by rw[ers];exact k1D (f:=k0K) (λd=>rfl) _
 have hrl:rs'.length=(kNF ss mm n wl wh a b G).length:=by rw[ers];simp
 rw[<- hrl] at eo;clear hm hid hG hGi ers k1 k2 k3 k4 k5 k6 k7 k8 k9 k10 hpl hrl;have hu1:=hu;obtain⟨⟨c0,c1,c2,c3,c4,c5,c6,c7,c8,c9,c10,c11,c12,c13⟩,es,ds,cy,g0,g1,os,⟨kn0,la0,su0⟩,⟨kn1,la1,su1⟩,a0,b0,a1,b1,lo,hi,di,on,gr,⟨pl,ph,pe,fr,rs⟩,cl,o0,o1,s0,s1,sc,so,ra,ro,m0,m1,⟨wi,wt,wf⟩⟩:=n;obtain⟨hue,hud,huo,hur⟩:=hu1;simp only at hue hud huo hur q2 hon;subst hon;obtain⟨p1,p2,p3,p4,p5,x1,x2,x3,x4,x5,bad,stale,twice,beyond⟩:=m;refine Z.x Tryz.func48 λ_ zG _ _ zF _ _ _ zB _ _ zI zE hz P hP=>?_;cbv;have n1:zF true=false:=by rw[zI];rfl
 have n2:zF false=true:=by rw[zI];rfl
 obtain⟨L,eL,L0,Ln⟩:=Z.l zE rs'
 have d1:zG .gtr L 0=o:=by
  rw[zB,eo];simp only[k04];congr 1
  exact propext ⟨λh=>by omega,λh=>by omega⟩
 clear eo;repeat' (first|(simp only[n1,n2,eL,d1];cbv)|(refine Call.s hP q1 ?_;cbv)|(refine Call.s hP q2 ?_;cbv)|fail)
 refine Call.o (s:=0) hP q3 u0 u0 (by exact ul hur') rfl (by exact uc rfl (uc (ua (uc rfl (uc rfl (uc rfl (uc rfl (uc rfl (uc rfl (uc (ul1 huw) rfl)))))))) rfl)) (by simp only[k4C,AV.ren,k2W huw]) ?_;cbv;repeat' (first|(simp only[n1,n2,eL,d1];cbv)|fail)
 all_goals first|exact⟨_,rfl⟩
def kVK(G:Gr)(n:Nv)(g a b:Int):Nv:={ n with on:=true,gr:=g,p:=⟨-(G.acc+n.c.c8)+min 0 a,G.acc+n.c.c8+max 0 b,(-(G.acc+n.c.c8)+min 0 a+(G.acc+n.c.c8+max 0 b))/2,G.off,[rtC [G.seg]]⟩ }
def lrn?(n m:Nv)(at_:List Int):Nv:=match n.on && n.cl,at_ with|true,[y]=>kYN m y|_,_=>m
def kJ0(G:Gr)(n:Nv)(x:Fo)(a b:Int):Nv:=
 { lrn? n (kVK G n x.g a b) x.at_ with cl:=true,o0:=(kVK G n x.g a b).p.lo,o1:=(kVK G n x.g a b).p.hi,s0:=n.k0.su,s1:=n.k1.su }
theorem kO2(gs:List Gr)(n:Nv)(hu:NvU n)(yG:n.ds=gs.map k14)(h8:0<=n.c.c8/\n.c.c8<=1048576)(hc:1<=n.c.c0/\n.c.c0<=1024)(x:Fo)(hg:0<=x.g)(G:Gr)(hG:gs[x.g.toNat]?=some G)(hacc:0<=G.acc/\G.acc<=1048576)
 (a b:Int) (ha: -1099511627776<=a) (hb:b<=1099511627776) (hab:a<=b) (hx:∀y,y∈x.at_ -> -35184372088832<=y/\y<=35184372088832) (ho: -17592186044416<=n.o0/\n.o0<=n.o1/\n.o1<=17592186044416)
 (hk0: -1099511627776<=n.k0.su-n.s0/\n.k0.su-n.s0<=1099511627776) (hk1: -1099511627776<=n.k1.su-n.s1/\n.k1.su-n.s1<=1099511627776) (as_:List (List AV)) (eas:as_=x.at_.map k0K) (v:Nv) (hv:v=kJ0 G n x a b) :
 k06 Tryz.prog 49 [.ref 0 55 0 0,.agg [x.g,.list 1 as_,x.ok,x.ac],.agg [a,b]] [.live 55 [n.row]] (λr hp=>r = .tuple []/\∃j,hp = .live 55 [v.row]::j):=by
 obtain⟨lo',elo⟩:∃z,-(G.acc+n.c.c8)+min 0 a=z:=⟨_,rfl⟩;obtain⟨hi',ehi⟩:=Z.f (G.acc+n.c.c8+max 0 b);obtain⟨es',ees⟩:∃z,(lo'+hi')/2=z:=⟨_,rfl⟩;obtain⟨r0,er0⟩:∃z,z=[rtC [G.seg]]:=⟨_,rfl⟩;have hGd:n.ds[x.g.toNat]?=some (k14 G):=by rw[yG,List.getElem?_map,hG];rfl
 have q1:=kWU n.es n.ds hu.es hu.ds x.g hg G hGd n.c.c0 n.c.c1 n.c.c2 n.c.c3 n.c.c4 n.c.c5 n.c.c6 n.c.c7 n.c.c8 n.c.c9 n.c.c10 n.c.c11 n.c.c12 n.c.c13 h8 hacc a b lo' hi' es' (by unfold I62;omega) Z.o elo ehi ees r0 er0;have hur0:Up0 r0:=by rw[er0];exact⟨rfl⟩
 obtain⟨m,em⟩:=Z.e (kVK G n x.g a b);have hm:m={ n with on:=true,gr:=x.g,p:=⟨lo',hi',es',G.off,r0⟩ }:=by rw[em];unfold kVK;rw[elo,ehi,ees,er0]
 unfold kJ0 at hv;rw[<- em] at hv;have hv1:v={ lrn? n m x.at_ with cl:=true,o0:=lo',o1:=hi',s0:=n.k0.su,s1:=n.k1.su }:=by rw[hv,hm]
 clear hv em er0;have hu':NvU m:=by rw[hm];exact⟨hu.es,hu.ds,hu.os,hur0⟩
 have q2:∀y,y∈x.at_->∀u,u=kYN m y->k06 Tryz.prog 102 [.ref 0 55 0 0,y] [.live 55 [m.row]] (λr hp=>r = .tuple []/\∃j,hp = .live 55 [u.row]::j):=λy hy u eu =>
  kS9 m hu' y (hx y hy) (by rw[hm];simp only;omega) (by rw[hm];simp only;omega) (by rw[hm];exact hc) (by rw[hm];exact hk0) (by rw[hm];exact hk1) u eu
 have hul:∀y,NvU (kYN m y):=λy=>by rw[hm];exact⟨hu.es,hu.ds,hu.os,hur0⟩
 have hus:Up0 (x.at_.map k0K):=k1D (f:=k0K) (λd=>rfl) _;have hasl:as_.length=x.at_.length:=by rw[eas];simp
 rw[<- eas] at hus;have hG0:∀y,x.at_=[y]->as_[(0:Int).toNat]?=some [jz y]:=λy hy=>by rw[eas,hy];rfl
 clear hGd elo ehi ees hx ho hk0 hk1 eas;obtain⟨xg,xa,xo,xc⟩:=x;simp only at hv1 hm q1 q2 hasl hG0 hul;obtain⟨gid,gseg,goff,gacc,gsl⟩:=G;simp only at hm q1;have hu1:=hu;obtain⟨⟨c0,c1,c2,c3,c4,c5,c6,c7,c8,c9,c10,c11,c12,c13⟩,es,ds,cy,g0,g1,os,⟨kn0,la0,su0⟩,⟨kn1,la1,su1⟩,a0,b0,a1,b1,lo,hi,di,on,gr,⟨pl,ph,pe,fr,rs⟩,cl,o0,o1,s0,s1,sc,so,ra,ro,m0,m1,⟨wi,wt,wf⟩⟩:=n;obtain⟨hue,hud,huo,hur⟩:=hu1;simp only at hue hud huo hur hv1 hm q1
 cases on with
 | false =>
   have hv2:v={ m with cl:=true,o0:=lo',o1:=hi',s0:=su0,s1:=su1 }:=(by rw[hv1];rfl);subst hm;subst hv2;clear q2 hv1 hul hu';refine Z.x Tryz.func49 λzA zG _ _ zF _ hw zC zB _ _ zI _ hz P hP=>?_;cbv;have n1:zF true=false:=(by rw[zI];rfl);have n2:zF false=true:=(by rw[zI];rfl);have c0':zG .lss 0 2=true:=W.lt zB Z.d;have c1':zG .lss 1 2=true:=W.lt zB Z.d;have c2':zG .lss 2 2=false:=W.nlt zB Z.d;have a0':zA .add .i64 0 1=1:=(by rw[zC];rfl);have a1':zA .add .i64 1 1=2:=(by rw[zC];rfl);repeat' (first|(simp only[n1,n2];cbv)|(refine k1R.s hP q1 ?_;cbv)|fail)
   (refine k1Q.rounds hw 3 ?_;cbv);repeat' (first|(simp only[c0',c1',c2',a0',a1'];cbv)|(refine InN.mk Z.d Z.d ?_;(try cbv))|(refine And.intro ?_ ?_)|fail)
   all_goals first|exact⟨_,rfl⟩
 | true =>
   cases cl with
   | false =>
     have hv2:v={ m with cl:=true,o0:=lo',o1:=hi',s0:=su0,s1:=su1 }:=(by rw[hv1];rfl);subst hm;subst hv2;clear q2 hv1 hul hu';refine Z.x Tryz.func49 λzA zG _ _ zF _ hw zC zB _ _ zI _ hz P hP=>?_;cbv;have n1:zF true=false:=(by rw[zI];rfl);have n2:zF false=true:=(by rw[zI];rfl);have c0':zG .lss 0 2=true:=W.lt zB Z.d;have c1':zG .lss 1 2=true:=W.lt zB Z.d;have c2':zG .lss 2 2=false:=W.nlt zB Z.d;have a0':zA .add .i64 0 1=1:=(by rw[zC];rfl);have a1':zA .add .i64 1 1=2:=(by rw[zC];rfl);repeat' (first|(simp only[n1,n2];cbv)|(refine k1R.s hP q1 ?_;cbv)|fail)
     (refine k1Q.rounds hw 3 ?_;cbv);repeat' (first|(simp only[c0',c1',c2',a0',a1'];cbv)|(refine InN.mk Z.d Z.d ?_;(try cbv))|(refine And.intro ?_ ?_)|fail)
     all_goals first|exact⟨_,rfl⟩
   | true =>
     by_cases h1:xa.length=1
     ·obtain⟨y,rfl⟩:∃y,xa=[y]:=by
       match xa,h1 with
       | [y],_=>exact⟨y,rfl⟩
      obtain⟨u,eu⟩:=Z.e (kYN m y);have q3:=q2 y (List.mem_singleton.2 rfl) u eu;have hr0:=hG0 y rfl;have u0:=hu'.row;have hnu:=hul y;rw[<- eu] at hnu;have u1:=hnu.row;have hv2:v={ u with cl:=true,o0:=lo',o1:=hi',s0:=su0,s1:=su1 }:=(by rw[hv1,eu];rfl);have hu2:∃y0 z0 y1 z1,u={ m with a0:=y0,b0:=z0,a1:=y1,b1:=z1 }:=⟨_,_,_,_,by rw[eu];rfl⟩;obtain⟨y0,z0,y1,z1,hu2⟩:=hu2;subst hm;subst hu2;subst hv2;clear q2 hv1 hul hu' hnu eu hG0;refine Z.x Tryz.func49 λzA zG _ _ zF _ hw zC zB _ _ zI zE hz P hP=>?_;cbv;have n1:zF true=false:=(by rw[zI];rfl);have n2:zF false=true:=(by rw[zI];rfl);have c0':zG .lss 0 2=true:=W.lt zB Z.d;have c1':zG .lss 1 2=true:=W.lt zB Z.d;have c2':zG .lss 2 2=false:=W.nlt zB Z.d;have a0':zA .add .i64 0 1=1:=(by rw[zC];rfl);have a1':zA .add .i64 1 1=2:=(by rw[zC];rfl);obtain⟨L,eL,L0,Ln⟩:=Z.l zE as_;have d1:zG .eql L 1=true:=W.eq zB (by simp only[List.length_singleton] at hasl;omega);have i00:(0:Int)<=0:=Int.le_refl _;repeat' (first|(simp only[n1,n2,eL,d1];cbv)|(refine k1R.s hP q1 ?_;cbv)|(refine Idx.mk _ i00 hr0 ?_;cbv)|fail)
      refine Call.o (s:=0) hP q3 u0 u1 rfl rfl rfl rfl ?_;cbv;repeat' (first|(simp only[n1,n2,eL,d1];cbv)|(refine Idx.mk _ i00 hr0 ?_;cbv)|fail)
      (refine k1Q.rounds hw 3 ?_;cbv);repeat' (first|(simp only[c0',c1',c2',a0',a1'];cbv)|(refine InN.mk Z.d Z.d ?_;(try cbv))|(refine And.intro ?_ ?_)|fail)
      all_goals first|exact⟨_,rfl⟩
     ·have hv2:v={ m with cl:=true,o0:=lo',o1:=hi',s0:=su0,s1:=su1 }:=by
       rw[hv1]
       match xa,h1 with
       | [],_=>rfl
       | _::_::_,_=>rfl
      subst hm;subst hv2;clear q2 hv1 hul hu';refine Z.x Tryz.func49 λzA zG _ _ zF _ hw zC zB _ _ zI zE hz P hP=>?_;cbv;have n1:zF true=false:=(by rw[zI];rfl);have n2:zF false=true:=(by rw[zI];rfl);have c0':zG .lss 0 2=true:=W.lt zB Z.d;have c1':zG .lss 1 2=true:=W.lt zB Z.d;have c2':zG .lss 2 2=false:=W.nlt zB Z.d;have a0':zA .add .i64 0 1=1:=(by rw[zC];rfl);have a1':zA .add .i64 1 1=2:=(by rw[zC];rfl);obtain⟨L,eL,L0,Ln⟩:=Z.l zE as_;have d1:zG .eql L 1=false:=W.neq zB Z.o;repeat' (first|(simp only[n1,n2,eL,d1];cbv)|(refine k1R.s hP q1 ?_;cbv)|fail)
      (refine k1Q.rounds hw 3 ?_;cbv);repeat' (first|(simp only[c0',c1',c2',a0',a1'];cbv)|(refine InN.mk Z.d Z.d ?_;(try cbv))|(refine And.intro ?_ ?_)|fail)
      all_goals first|exact⟨_,rfl⟩
theorem kNM{a b d:Int}(h:a-b=d)(ha:I62 a)(hb:I62 b):k02 Tryz.prog 166 [a,b] (· = jz d):=by
 refine Z.y Tryz.func166 λ_ zG _ _ _ _ _ _ _ _ _ _ _ hz R hR P hP=>?_;cbv;refine Call.stepE (by rw[<- hP];exact kCG h ha hb) rfl ?_;cbv;obtain⟨o,eo⟩:=Z.f (zG .lss a 0);simp only[eo];refine Call.stepE (by rw[<- hP];exact kNN d o) rfl ?_;cbv;exact Z.r hR
def k71(ss:List Sg)(f:Nat->Int)(from_ at_:Int)(s:Int×Bool)(l:List Int):Int×Bool:=
 if f (k3L l).toNat = -1 then s
 else if s.2=false\/k7V ss from_ l+f (k3L l).toNat-at_<s.1 then (k7V ss from_ l+f (k3L l).toNat-at_,true) else s
theorem kRD{ss:List Sg}{f:Nat->Int}{from_ at_ a:Int}{b:Bool}{l:List Int}(h:f (k3L l).toNat = -1):k71 ss f from_ at_ (a,b) l=(a,b):=by unfold k71;rw[if_pos h]
theorem kF5{ss:List Sg}{f:Nat->Int}{from_ at_ a:Int}{b:Bool}{l:List Int}{d:Int}(h:f (k3L l).toNat ≠ -1)(hd:k7V ss from_ l+f (k3L l).toNat-at_=d)(h2:b=false\/d<a):k71 ss f from_ at_ (a,b) l=(d,true):=by unfold k71;rw[if_neg h,hd,if_pos h2]
theorem kK6{ss:List Sg}{f:Nat->Int}{from_ at_ a:Int}{b:Bool}{l:List Int}{d:Int}(h:f (k3L l).toNat ≠ -1)(hd:k7V ss from_ l+f (k3L l).toNat-at_=d)(h2:b=true)(h3:a<=d):k71 ss f from_ at_ (a,b) l=(a,b):=by
 unfold k71;rw[if_neg h,hd,if_neg (by simp[h2];omega)]
theorem kH8:∀(l:List Int),l≠[]->k3L l∈l
 | [],h=>absurd rfl h
 | [a],_=>List.mem_cons_self
 | a::b::l,_=>List.mem_cons_of_mem _ (kH8 (b::l) (by simp))
theorem kOT:∀(P:List Int),P≠[]->P[P.length-1]?=some (k3L P)
 | [],h=>absurd rfl h
 | [a],_=>rfl
 | a::b::l,_=>by
   have:=kOT (b::l) (by simp);simpa[k3L] using this
theorem kIB{ss:List Sg}(hln:k2N ss){from_:Int}(hf:0<=from_/\from_<=1099511627776){l:List Int}(hl:l.length<=12): -1099511627776<=k7V ss from_ l/\k7V ss from_ l<=13194139533312:=by
 have h1:=kNK (from_:=from_) hln hf l;have h2:=k5L l;omega
theorem kXS(ss:List Sg)(gs:List Gr)(es ds:List (List AV))(zU:es=ss.map k0Y)(yG:ds=gs.map k14)(hln:k2N ss)(from_:Int)(hf:0<=from_/\from_<=1099511627776)(m:List (List Int))(hw1:∀l,l∈m->k5X ss l)(hm:m.length<=1000)(rs:List (List AV))(yL:rs=m.map rtC)
 (f:Nat->Int) (os:List (List AV)) (hos:∀x,x<ss.length->os[x]?=some [jz (f x)]) (huo:Up0 os) (hfb:∀x,x<ss.length -> -1<=f x/\f x<=1125899906842624) (at_:Int) (hat: -35184372088832<=at_/\at_<=35184372088832) (v:Int×Bool) (ev:v=m.foldl (k71 ss f from_ at_) (0,false)) :
 k02 Tryz.prog 108 [.agg [.list 3 es,.list 5 ds],.list 1 os,.agg [from_,.list 13 rs],at_] (· = .tuple [v.1,v.2]):=by
 have hu:Up0 es:=by rw[zU];exact k42 ss
 have hud:Up0 ds:=by rw[yG];exact k43 gs
 have hur:Up0 rs:=by rw[yL];exact k1D (f:=rtC) (λd=>rfl) m
 have hrl:rs.length=m.length:=by rw[yL];simp
 obtain⟨v1,v2⟩:=v;refine Z.y Tryz.func108 λzA _ _ _ _ _ hw zC _ _ _ _ zE hz R hR P hP=>?_;cbv;obtain⟨L,eL,L0,Ln⟩:=Z.l zE rs;simp only[eL]
 refine k1Q.data hw (S:=Int×Int×Bool) (λs=>fr 53 [(1,.list 1 os),(3,at_),(4,.ref 0 2 0 0),(6,.ref 1 2 0 0),(10,s.2.1),(11,s.2.2),(17,.list 13 rs),(18,L),(19,s.1)])
  (λ_=>[.live 2 [[.list 3 es,.list 5 ds]],.live 2 [[from_,.list 13 rs]]])
  (λs=>0<=s.1/\s.1<=L/\(s.2.1,s.2.2)=(m.take s.1.toNat).foldl (k71 ss f from_ at_) (0,false)) (λs=>(L-s.1).toNat) (0,0,false) Z.i ⟨Int.le_refl _,L0,rfl⟩ ?_
 rintro⟨i,a,b⟩ zJ Q' hN hE hR'
 have zJ:0<=i/\i<=L/\(a,b)=(m.take i.toNat).foldl (k71 ss f from_ at_) (0,false):=zJ;cbv;obtain⟨yJ,yZ,hab⟩:=zJ;(split<;>rename_i hc<;>(try (simp only[hz,Z.a,k05,k04,k08,k03,k0M,reduceCtorEq] at hc))<;>(try cbv))
 ·obtain⟨i2,ei2⟩:=Z.e (i+1)
  have a4:zA .add .i64 i 1=i2:=(by rw[zC,k0S Z.o Z.o,ei2]);have hT:(L-i2).toNat<(L-i).toNat:=(by omega);obtain⟨l,hl⟩:∃b,m[i.toNat]?=some b:=⟨_,List.getElem?_eq_getElem (show i.toNat<m.length by omega)⟩;have hlm:=List.mem_of_getElem? hl;have hway:=hw1 l hlm;have hlr:rs[i.toNat]?=some (rtC l):=(by rw[yL,List.getElem?_map,hl];rfl);have hend:=kXO ss gs es ds zU yG hln from_ hf rs hur l hway.len.1 hway.seg;obtain⟨row,erow⟩:=Z.e (toR l);have hlr:rs[i.toNat]?=some row.row:=(by rw[erow];exact hlr);have hend:k02 Tryz.prog 167 [.agg [from_,.list 13 rs],.agg [.list 3 es,.list 5 ds],.agg row.row] (· = jz (k7V ss from_ l)):=(by rw[erow];exact hend);obtain⟨n,s0,s1,s2,s3,s4,s5,s6,s7,s8,s9,s10,s11⟩:=row;refine Idx.mk _ yJ hlr ?_;cbv;obtain⟨q,eq⟩:=Z.e (k3L l)
  have zE:n=k8Z l/\1<=l.length/\l.length<=12:=by
   have:=congrArg R13.n erow;exact⟨this,hway.len.2,hway.len.1⟩
  have hnl:n=l.length:=by rw[zE.1,k5L]
  have hs:∀j:Nat,j<12->n=(j:Int)+1->l.getD j 0=q:=λj hj h=>by
   have h1:=kOT l (by intro h0;rw[h0] at zE;simp at zE);rw[show l.length-1=j by omega] at h1;rw[eq,List.getD_eq_getElem?_getD,h1];rfl
  simp only[toR,R13.mk.injEq] at erow;obtain⟨_,g0,g1,g2,g3,g4,g5,g6,g7,g8,g9,g10,g11⟩:=erow;have l1:n=1->s0=q:=λh=>(by rw[g0];exact hs 0 Z.d Z.o);have l2:n=2->s1=q:=λh=>(by rw[g1];exact hs 1 Z.d Z.o);have l3:n=3->s2=q:=λh=>(by rw[g2];exact hs 2 Z.d Z.o);have l4:n=4->s3=q:=λh=>(by rw[g3];exact hs 3 Z.d Z.o);have l5:n=5->s4=q:=λh=>(by rw[g4];exact hs 4 Z.d Z.o);have l6:n=6->s5=q:=λh=>(by rw[g5];exact hs 5 Z.d Z.o);have l7:n=7->s6=q:=λh=>(by rw[g6];exact hs 6 Z.d Z.o);have l8:n=8->s7=q:=λh=>(by rw[g7];exact hs 7 Z.d Z.o);have l9:n=9->s8=q:=λh=>(by rw[g8];exact hs 8 Z.d Z.o);have l10:n=10->s9=q:=λh=>(by rw[g9];exact hs 9 Z.d Z.o);have l11:n=11->s10=q:=λh=>(by rw[g10];exact hs 10 Z.d Z.o);have l12:n=12->s11=q:=λh=>(by rw[g11];exact hs 11 Z.d Z.o);have c1:zA .sub .i64 1 1=0:=(by rw[zC];rfl);have c2:zA .sub .i64 2 1=1:=(by rw[zC];rfl);have c3:zA .sub .i64 3 1=2:=(by rw[zC];rfl);have c4:zA .sub .i64 4 1=3:=(by rw[zC];rfl);have c5:zA .sub .i64 5 1=4:=(by rw[zC];rfl);have c6:zA .sub .i64 6 1=5:=(by rw[zC];rfl);have c7:zA .sub .i64 7 1=6:=(by rw[zC];rfl);have c8:zA .sub .i64 8 1=7:=(by rw[zC];rfl);have c9:zA .sub .i64 9 1=8:=(by rw[zC];rfl);have c10:zA .sub .i64 10 1=9:=(by rw[zC];rfl);have c11:zA .sub .i64 11 1=10:=(by rw[zC];rfl);have c12:zA .sub .i64 12 1=11:=(by rw[zC];rfl);have hqm:q∈l:=(by rw[eq];exact kH8 l (by intro h0;rw[h0] at zE;simp at zE));have hqb:=hway.seg q hqm;obtain⟨fq,efq⟩:=Z.e (f q.toNat);have hqo:os[q.toNat]?=some [jz fq]:=(by rw[efq];exact hos q.toNat hqb.2);have hfq:=hfb q.toNat hqb.2;rw[<- efq] at hfq;obtain⟨e,ee⟩:=Z.e (k7V ss from_ l);have heb:=kIB hln hf (l:=l) hway.len.1;rw[<- ee] at hend heb
  have hft:(m.take i2.toNat).foldl (k71 ss f from_ at_) (0,false)=k71 ss f from_ at_ (a,b) l:=by
   rw[show m.take i2.toNat=m.take i.toNat++[l] by rw[ei2];exact k24 yJ hl,List.foldl_append,<- hab];rfl
  obtain⟨d1,ed1⟩:=Z.e (e+fq);obtain⟨d,ed⟩:=Z.f (d1-at_);have a5:zA .add .i64 e fq=d1:=(by rw[zC,k0S Z.o Z.o,ed1]);have hsub:=kNM ed (by unfold I62;omega) (by unfold I62;omega);have hdd:k7V ss from_ l+f (k3L l).toNat-at_=d:=(by rw[<- eq,<- efq,<- ee];omega);have hn12:n=1\/n=2\/n=3\/n=4\/n=5\/n=6\/n=7\/n=8\/n=9\/n=10\/n=11\/n=12:=(by omega);clear hs zE hnl g0 g1 g2 g3 g4 g5 g6 g7 g8 g9 g10 g11;rcases hn12 with h|h|h|h|h|h|h|h|h|h|h|h
  all_goals
   subst h;simp only[c1,c2,c3,c4,c5,c6,c7,c8,c9,c10,c11,c12];refine InN.mk Z.d Z.d ?_;cbv;first|rw[l1 rfl] at hend ⊢ | rw[l2 rfl] at hend ⊢ | rw[l3 rfl] at hend ⊢ | rw[l4 rfl] at hend ⊢ | rw[l5 rfl] at hend ⊢ | rw[l6 rfl] at hend ⊢ | rw[l7 rfl] at hend ⊢ | rw[l8 rfl] at hend ⊢ | rw[l9 rfl] at hend ⊢ | rw[l10 rfl] at hend ⊢ | rw[l11 rfl] at hend ⊢ | rw[l12 rfl] at hend ⊢
   refine Idx.mk _ hqb.1 hqo ?_;cbv;(split<;>rename_i hm1<;>(try (simp only[hz,Z.a,k05,k04,k08,k03,k0M,reduceCtorEq] at hm1))<;>(try cbv))
   ·simp only[a4]
    refine hN (i2,a,b) _ _ ?hx ?hi hT
    case hx=>(refine Z.k (λj=>[0,1].getD j 0) ?_;cbv<;>exact Z.q)
    case hi=>exact⟨by omega,by omega,by rw[hft,kRD (by rw[<- eq,<- efq];exact hm1)]⟩
   ·refine Call.stepE (by rw[<- hP];exact hend) (by simp only[k0Q,AV.upto,hu.get,hud.get,hur.get];rfl) ?_
    cbv;simp only[a5];refine Call.stepE (by rw[<- hP];exact hsub) rfl ?_;cbv;have hm2:f (k3L l).toNat ≠ -1:=(by rw[<- eq,<- efq];exact hm1);repeat' (split<;>rename_i h<;>(try (simp only[hz,Z.a,k05,k04,k08,k03,k0M,reduceCtorEq] at h))<;>(try cbv))
    ·simp only[a4]
     refine hN (i2,d,true) _ _ ?hx ?hi hT
     case hx=>(refine Z.k (λj=>[0,1].getD j 0) ?_;cbv<;>exact Z.q)
     case hi =>
      refine⟨by omega,by omega,?_⟩;rw[hft,kF5 hm2 hdd (by first|(left;assumption)|(right;omega))]
    ·simp only[a4]
     refine hN (i2,d,true) _ _ ?hx ?hi hT
     case hx=>(refine Z.k (λj=>[0,1].getD j 0) ?_;cbv<;>exact Z.q)
     case hi =>
      refine⟨by omega,by omega,?_⟩;rw[hft,kF5 hm2 hdd (by first|(left;assumption)|(right;omega))]
    ·simp only[a4]
     refine hN (i2,a,b) _ _ ?hx ?hi hT
     case hx=>(refine Z.k (λj=>[0,1].getD j 0) ?_;cbv<;>exact Z.q)
     case hi =>
      refine⟨by omega,by omega,?_⟩;rw[hft,kK6 hm2 hdd Z.m Z.o]
 ·refine hE _ _ _ ?_
  cbv;rw[List.take_of_length_le Z.o,<- ev] at hab;simp only[Prod.mk.injEq] at hab;exact⟨_,Vw.same rfl,hR _ (by rw[hab.1,hab.2];rfl)⟩
end Go.Proofs.YtlchlddijclhjaaGreat
