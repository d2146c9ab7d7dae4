/- Parts of the proofs. -/
import Derived.Test.YtlchlddijclhjaaGreatR21
import Derived.Test.YtlchlddijclhjaaGreatR18
import Derived.Test.YtlchlddijclhjaaGreatR11
import Derived.KernelRfl
import Derived.Test.YtlchlddijclhjaaGreatR16
import Derived.Test.YtlchlddijclhjaaGreatR8
import Derived.Test.YtlchlddijclhjaaGreatR17
import Derived.Test.YtlchlddijclhjaaGreatR22
import Derived.Test.YtlchlddijclhjaaGreatRZ
set_option linter.unusedVariables false
set_option linter.unusedSimpArgs false
set_option maxHeartbeats 4000000
namespace Go.Proofs.YtlchlddijclhjaaGreat
open Go Go.RowKit Go.Eng
set_option maxRecDepth 100000
def JG:Pz:=⟨0,0,0,0,[]⟩
def Bi(ss:List Sg)(mm:List (List Int))(n:Nv)(a b:Int):Nv×List (List Int)×Bool:=
 if n.on=true then
  if (Dr ss n.p.fr ⟨n.p.lo,n.p.hi,n.p.est,mm⟩ a b).2=0 then ({ n with lo:=a,hi:=b,di:=n.di+CF ((a+b)/2),p:=⟨(Dr ss n.p.fr ⟨n.p.lo,n.p.hi,n.p.est,mm⟩ a b).1.lo,(Dr ss n.p.fr ⟨n.p.lo,n.p.hi,n.p.est,mm⟩ a b).1.hi,(Dr ss n.p.fr ⟨n.p.lo,n.p.hi,n.p.est,mm⟩ a b).1.est,n.p.fr,(Dr ss n.p.fr ⟨n.p.lo,n.p.hi,n.p.est,mm⟩ a b).1.m.map rtC⟩ },(Dr ss n.p.fr ⟨n.p.lo,n.p.hi,n.p.est,mm⟩ a b).1.m,false)
  else ({ n with lo:=a,hi:=b,di:=n.di+CF ((a+b)/2),on:=false,gr:=0,p:=JG },[],decide ((Dr ss n.p.fr ⟨n.p.lo,n.p.hi,n.p.est,mm⟩ a b).2=20))
 else ({ n with lo:=a,hi:=b,di:=n.di+CF ((a+b)/2) },mm,false)
theorem Vn(ss:List Sg)(gs:List Gr)(mm:List (List Int))(n:Nv)(hu:NvU n)(zQ:n.es=ss.map Ah)(zY:n.ds=gs.map Ak)(kr:CS ss)(yK:EJ ss)(lV:n.on=true)(hfr:0<=n.p.fr/\n.p.fr<=1099511627776)(hp:Kg ss ⟨n.p.lo,n.p.hi,n.p.est,mm⟩)(yD:n.p.rs=mm.map rtC)
 (a b:Int) (kY:a<=b) (ha: -1099511627776<=a) (hb:b<=1099511627776) (hd:0<=n.di/\n.di<=2305843009213693952) (v:Nv) (m2:List (List Int)) (o:Bool) (hv:(v,m2,o)=Bi ss mm n a b) :
 AJ Tryz.prog 47 [.ref 0 55 0 0,.agg [a,b]] [.live 55 [n.row]] (λr hp=>r = .bool o/\∃j,hp = .live 55 [v.row]::j):=by
 refine AJ.mono (AJ.give (h':=[.live 55 [v.row]]) (r':=.bool o) ?_) (λr h hh=>⟨hh.1,[],hh.2⟩);obtain⟨md,emd⟩:∃x,(a+b)/2=x:=⟨_,rfl⟩;obtain⟨sz,esz⟩:=Z.e (CF md);obtain⟨di',edi⟩:=Z.f (n.di+sz);have hmd: -1099511627776<=md/\md<=1099511627776:=by omega
 have hsz:0<=sz/\sz<=1099511627776:=by rw[esz];unfold CF;split<;>omega
 have q1:=Jd emd (show I64 a by unfold I64;omega) (show I64 b by unfold I64;omega);have q2:=UH esz (show I62 md by unfold I62;omega);have q3:=Iy edi (show I62 n.di by unfold I62;omega) (show I62 sz by unfold I62;omega);obtain⟨⟨q,e⟩,eq⟩:∃x,x=Dr ss n.p.fr ⟨n.p.lo,n.p.hi,n.p.est,mm⟩ a b:=⟨_,rfl⟩;obtain⟨us,eus⟩:=Z.e (q.m.map rtC);have q4:=iG ss gs n.es n.ds zQ zY kr yK n.gr n.p.fr hfr ⟨n.p.lo,n.p.hi,n.p.est,mm⟩ hp n.p.rs yD a b kY ha hb q e eq us eus;have hE:=SE yK hp kY eq;have rQ:Up0 us:=by rw[eus];exact BM (f:=rtC) (λd=>rfl) q.m
 unfold Bi at hv;rw[if_pos lV,emd,<- esz,edi,<- eq] at hv;simp only at hv;rw[<- eus] at hv;have kg:=hu;clear esz edi hsz emd hd hmd eq hp;obtain⟨qlo,qhi,qest,qm⟩:=q;simp only at hv q4;obtain⟨nY,lH,lY,lW⟩:=kg;by_cases he:e=0
 ·subst he
  rw[if_pos rfl] at hv;simp only[Prod.mk.injEq] at hv;obtain⟨rfl,rfl,rfl⟩:=hv
  have q5:=q4.mono (R':=(· = .tuple [.agg [.bool true,n.gr,qlo,qhi,qest,n.p.fr,.list 13 us],jz 0])) (by
   rintro r (⟨_,h⟩|⟨h,_⟩)
   ·exact h
   ·exact absurd rfl h)
  clear q4 hE eus;obtain⟨⟨c0,c1,c2,c3,c4,c5,c6,c7,c8,c9,c10,c11,c12,c13⟩,es,ds,cy,g0,g1,os,⟨mM,mK,lu⟩,⟨mG,mF,lm⟩,a0,b0,a1,b1,lo,hi,di,on,gr,⟨pl,ph,pe,fr,rs⟩,cl,o0,o1,s0,s1,sc,so,ra,ro,m0,m1,⟨wi,wt,wf⟩⟩:=n;simp only at lV q3 q5 nY lH lY lW;subst lV;have u0:Up0 [c0::c1::c2::c3::c4::c5::c6::c7::c8::c9::c10::c11::c12::c13 :: .list 3 es :: .list 5 ds :: .bool false::cy::g0::g1 :: .list 1 os::mM :: .int .u16 mK::lu::[mG,.int .u16 mF,lm,a0,b0,a1,b1,lo,hi,di,.bool true,gr,pl,ph,pe,fr,.list 13 rs,cl,o0,o1,s0,s1,sc,so,ra,ro,m0,m1,wi,wt,wf]]:=hu.row;refine Z.x Tryz.func47 λ_ _ _ _ zF _ _ _ zA _ _ zI _ hz P hP=>?_;cbv;have n1:zF false=true:=(by rw[zI];rfl);have n2:zF true=false:=(by rw[zI];rfl);have d1:=W.neq zA (show (0:Int)≠20 by decide);repeat' (first|(simp only[n1,n2,d1];cbv)|(refine Call.s hP q1 ?_;cbv)|(refine Call.s hP q2 ?_;cbv)|(refine Call.s hP q3 ?_;cbv)|(refine AB.s hP q5 ?_;cbv)|fail)
  all_goals first|(refine WkB.mk ?_;(refine Z.n (id) ?_;cbv<;>exact Z.q))
 ·rw[if_neg he] at hv
  simp only[Prod.mk.injEq] at hv;obtain⟨rfl,rfl,eo⟩:=hv
  have q5:=q4.mono (R':=(· = .tuple [.agg [.bool false,jz 0,jz 0,jz 0,jz 0,jz 0,.nils],e])) (by
   rintro r (⟨h,_⟩|⟨_,h⟩)
   ·exact absurd h he
   ·exact h)
  clear q4 hE eus he;obtain⟨⟨c0,c1,c2,c3,c4,c5,c6,c7,c8,c9,c10,c11,c12,c13⟩,es,ds,cy,g0,g1,os,⟨mM,mK,lu⟩,⟨mG,mF,lm⟩,a0,b0,a1,b1,lo,hi,di,on,gr,⟨pl,ph,pe,fr,rs⟩,cl,o0,o1,s0,s1,sc,so,ra,ro,m0,m1,⟨wi,wt,wf⟩⟩:=n;simp only at lV q3 q5 nY lH lY lW;subst lV;have u0:Up0 [c0::c1::c2::c3::c4::c5::c6::c7::c8::c9::c10::c11::c12::c13 :: .list 3 es :: .list 5 ds :: .bool false::cy::g0::g1 :: .list 1 os::mM :: .int .u16 mK::lu::[mG,.int .u16 mF,lm,a0,b0,a1,b1,lo,hi,di,.bool true,gr,pl,ph,pe,fr,.list 13 rs,cl,o0,o1,s0,s1,sc,so,ra,ro,m0,m1,wi,wt,wf]]:=hu.row;refine Z.x Tryz.func47 λ_ zE _ _ zF _ _ _ zA _ _ zI _ hz P hP=>?_;cbv;have n1:zF false=true:=(by rw[zI];rfl);have n2:zF true=false:=(by rw[zI];rfl);have d1:zE .eql e 20=o:=(by rw[zA,eo];rfl);clear eo;repeat' (first|(simp only[n1,n2,d1];cbv)|(refine Call.s hP q1 ?_;cbv)|(refine Call.s hP q2 ?_;cbv)|(refine Call.s hP q3 ?_;cbv)|(refine AB.s hP q5 ?_;cbv)|fail)
  all_goals first|(refine WkB.mk ?_;(refine Z.n (id) ?_;cbv<;>exact Z.q))
def Cz(w lo hi:Int)(ps:List Int):List Int:=ps.filter λa=>decide (a-w<=hi/\lo<=a+w)
theorem iH(c0 c1 c2 c3 c4 c5 c6 c7 c8 c9 c10 c11 c12 c13 g1 g2 g3 g4 g5 w:Int)(h:g4+c8+g5=w)(h1:0<=c8/\c8<=1048576)(h2:0<=g4/\g4<=1048576)(h3:0<=g5/\g5<=16777216) :
 A9 Tryz.prog 215 [.agg [c0,c1,c2,c3,c4,c5,c6,c7,c8,c9,c10,c11,c12,c13],.agg [g1,g2,g3,g4,g5]] (· = jz w):=by
 refine Z.y Tryz.func215 λzB _ _ _ _ _ hw zC _ _ _ _ _ hz R hR P hP=>?_;cbv;obtain⟨x,ex⟩:=Z.f (g4+c8);have e1:zB .add .i64 g4 c8=x:=by rw[zC,Ag Z.o Z.o];exact ex
 have e2:zB .add .i64 x g5=w:=by rw[zC,Ag Z.o Z.o];omega
 simp only[e1,e2];exact Z.r hR
theorem UW{a w l h:Int}(h0:0<=w)(hl:a-w=l)(hh:a+w=h)(ha:I62 a)(hw:I62 w):A9 Tryz.prog 203 [a,w] (· = .tuple [.agg [l,h],.bool true]):=by
 have hg:A9 Tryz.prog 146 [.agg [a,a],w] (· = .tuple [.agg [l,h],.bool true]):=by
  have r1:=Dt (a:=a) (b:=a) true (by simp);have s1:=Je hl ha hw;have s2:=Iy hh ha hw;have b1:=Kk (lo:=l) (hi:=h) Z.o;refine Z.y Tryz.func146 λ_ _ _ _ zF _ _ _ _ _ _ zI _ hz R hR P hP=>?_;cbv;have n1:zF true=false:=by rw[zI];rfl
  repeat' (first
   | (refine Call.stepE (by rw[<- hP];exact r1) rfl ?_;cbv;simp only[n1];cbv)
   | (refine Call.stepE (by rw[<- hP];exact s1) rfl ?_;cbv)
   | (refine Call.stepE (by rw[<- hP];exact s2) rfl ?_;cbv)
   | (refine Call.stepE (by rw[<- hP];exact b1) rfl ?_;cbv))
  exact Z.r hR
 have h2:A9 Tryz.prog 82 [a] (· = .agg [a,a]):=by
  refine Z.y Tryz.func82 λ_ _ _ _ _ _ _ _ _ _ _ _ _ hz R hR P hP=>?_;cbv;exact Z.r hR
 refine Z.y Tryz.func203 λ_ _ _ _ _ _ _ _ _ _ _ _ _ hz R hR P hP=>?_;cbv
 repeat' (first
  | (refine Call.stepE (by rw[<- hP];exact h2) rfl ?_;cbv)
  | (refine Call.stepE (by rw[<- hP];exact hg) rfl ?_;cbv))
 exact Z.r hR
theorem iI(c0 c1 c2 c3 c4 c5 c6 c7 c8 c9 c10 c11 c12 c13:Int)(hc:0<=c8/\c8<=1048576)(es ds rs:List (List AV))(hu:Up0 es)(lH:Up0 ds)(lW:Up0 rs)(from_ lo hi g:Int)(hg:0<=g)(g1 g2 g3 g4 g5:Int)(hG:ds[g.toNat]?=some [jz g1,jz g2,jz g3,jz g4,jz g5])(h4:0<=g4/\g4<=1048576)(h5:0<=g5/\g5<=16777216)(hlh:lo<=hi)
 (w:Int) (ny:g4+c8+g5=w) (ps:List Int) (rq:ps.length<=1000) (hpb:∀a,a∈ps -> -1125899906842624<=a/\a<=1125899906842624) (oQ:A9 Tryz.prog 214 [.agg [from_,.list 13 rs],.agg [.list 3 es,.list 5 ds],g] (· = .list 1 (ps.map Ac))) :
 A9 Tryz.prog 160 [.agg [c0,c1,c2,c3,c4,c5,c6,c7,c8,c9,c10,c11,c12,c13],.agg [.list 3 es,.list 5 ds],.agg [from_,.list 13 rs],.agg [lo,hi],g] (· = .list 1 ((Cz w lo hi ps).map Ac)):=by
 have uH:g.toNat<ds.length:=(List.getElem?_eq_some_iff.1 hG).1;obtain⟨v,ev⟩:=Z.e (Cz w lo hi ps);obtain⟨q,eq⟩:=Z.e (ps.map Ac);have huq:Up0 q:=by rw[eq];exact CG ps
 have zb:q.length=ps.length:=by rw[eq];simp
 rw[<- eq] at oQ;rw[<- ev];have nJ:Af 0 [AV.agg [from_,.list 13 rs],.agg [.list 3 es,.list 5 ds],g]=true:=by simp only[Af,AV.upto,hu.get,lH.get,lW.get];rfl
 refine Z.y Tryz.func160 λzB _ _ _ _ _ hw zC _ _ _ _ zH hz R hR P hP=>?_;cbv;refine Call.stepE (by rw[<- hP];exact oQ) (by exact nJ) ?_;cbv;obtain⟨L,eL,L0,Ln⟩:=Z.l zH q;simp only[eL];have hwin:=iH c0 c1 c2 c3 c4 c5 c6 c7 c8 c9 c10 c11 c12 c13 g1 g2 g3 g4 g5 w ny hc h4 h5
 refine Ae.data hw (S:=Int×Option (Nat×List (List AV))) (λs=>match s.2 with
  | none=>fr 55 [(4,g),(5,.ref 0 14 0 0),(6,.ref 1 2 0 0),(8,.ref 3 2 0 0),(11,.nils),(21,.list 1 q),(22,L),(23,s.1)]
  | some (k,w)=>fr 55 [(4,g),(5,.ref 0 14 0 0),(6,.ref 1 2 0 0),(8,.ref 3 2 0 0),(11,.sl 4 1 0 k),(21,.list 1 q),(22,L),(23,s.1)])
  (λs=>match s.2 with
    | none=>[.live 14 [[c0,c1,c2,c3,c4,c5,c6,c7,c8,c9,c10,c11,c12,c13]],.live 2 [[.list 3 es,.list 5 ds]],.live 2 [[from_,.list 13 rs]],.live 2 [[lo,hi]]]
    | some (k,w)=>[.live 14 [[c0,c1,c2,c3,c4,c5,c6,c7,c8,c9,c10,c11,c12,c13]],.live 2 [[.list 3 es,.list 5 ds]],.live 2 [[from_,.list 13 rs]],.live 2 [[lo,hi]],.live 1 w])
  (λs=>0<=s.1/\s.1<=L/\Et s.2 (Cz w lo hi (ps.take s.1.toNat))) (λs=>(L-s.1).toNat) (0,none) Z.i ⟨Int.le_refl _,L0,rfl⟩ ?_
 rintro⟨i,(_|⟨k1,w1⟩)⟩ zJ Q' hN hE hR'
 ·have zJ:0<=i/\i<=L/\Et none (Cz w lo hi (ps.take i.toNat)):=zJ
  cbv;obtain⟨zW,yZ,lc⟩:=zJ;have hfl:(Cz w lo hi (ps.take i.toNat)).length<=ps.length:=Nat.le_trans (List.length_filter_le _ _) (by simp;omega);(split<;>rename_i hd<;>(try (simp only[hz,Z.a,AF,AC,AO,AP,AL,reduceCtorEq] at hd))<;>(try cbv))
  rotate_left 1
  ·rw[List.take_of_length_le Z.o,<- ev] at lc
   refine hE _ _ _ ?_;cbv;exact⟨_,Vw.nil 1,hR _ (by rw[show v=[] from lc];rfl)⟩
  obtain⟨a,ha⟩:∃a,ps[i.toNat]?=some a:=⟨_,List.getElem?_eq_getElem (show i.toNat<ps.length by omega)⟩;have hqa:q[i.toNat]?=some [jz a]:=(by rw[eq,List.getElem?_map,ha];rfl);have kY:=hpb a (List.mem_of_getElem? ha);obtain⟨i2,kW⟩:=Z.e (i+1);have a4:zB .add .i64 i 1=i2:=by rw[zC,kW];show IntKind.i64.wrap (i+1)=i+1;rw[IntKind.wrap_i64];omega
  have n_:(L-i2).toNat<(L-i).toNat:=(by omega);have mU:ps.take i2.toNat=ps.take i.toNat++[a]:=by rw[kW];exact Eu zW ha
  have kX:Cz w lo hi (ps.take i2.toNat)=Cz w lo hi (ps.take i.toNat)++(if a-w<=hi/\lo<=a+w then [a] else []):=by
   rw[mU];unfold Cz;rw[List.filter_append];congr 1
   by_cases h:a-w<=hi/\lo<=a+w
   ·rw[if_pos h];simp[h.1,h.2]
   ·rw[if_neg h]
    simp only[List.filter_cons,List.filter_nil];rw[if_neg (by simpa using h)]
  obtain⟨l1,el1⟩:=Z.f (a-w);obtain⟨h1,eh1⟩:=Z.f (a+w);obtain⟨x1,oO⟩:=Z.f (max l1 lo);obtain⟨y1,nK⟩:=Z.f (min h1 hi);have s1:=UW Z.o el1 eh1 ⟨by omega,by omega⟩ ⟨by omega,by omega⟩;refine Idx.mk _ zW hqa ?_;cbv;refine Idx.mk _ hg hG ?_;cbv;refine AB.stepE (by rw[<- hP];exact hwin) rfl ?_;cbv;refine AB.stepE (by rw[<- hP];exact s1) rfl ?_;cbv;by_cases hm:x1<=y1
  ·have s2:=JL oO nK hm
   refine Call.stepE (by rw[<- hP];exact s2) rfl ?_;cbv;rw[if_pos Z.o] at kX;refine Ob.mk Z.d ?_;cbv;simp only[a4];refine hN (i2,some (1,[[jz a]])) _ _ ?hx ?hI n_
   case hx=>(refine Z.k (λj=>[0,1,2,3,6].getD j 0) ?_;cbv<;>exact Z.q)
   case hI=>exact⟨by simp only;omega,by simp only;omega,by simp only;rw[kX,show Cz w lo hi (ps.take i.toNat)=[] from lc];exact⟨rfl,rfl,⟨rfl⟩⟩⟩
  ·have s2:=KD oO nK (show y1<x1 by omega)
   refine Call.stepE (by rw[<- hP];exact s2) rfl ?_;cbv;rw[if_neg Z.o,List.append_nil] at kX;simp only[a4];refine hN (i2,none) _ _ ?hx ?hI n_
   case hx=>exact Z.i
   case hI=>exact⟨by simp only;omega,by simp only;omega,by simp only;rw[kX];exact lc⟩
 ·have zJ:0<=i/\i<=L/\Et (some (k1,w1)) (Cz w lo hi (ps.take i.toNat)):=zJ
  cbv;obtain⟨zW,yZ,lc⟩:=zJ;have hfl:(Cz w lo hi (ps.take i.toNat)).length<=ps.length:=Nat.le_trans (List.length_filter_le _ _) (by simp;omega);have oD:Up0 w1:=lc.2.2;have oU:k1=w1.length:=lc.2.1;have hwl1:w1.length=(Cz w lo hi (ps.take i.toNat)).length:=(by rw[lc.1];simp);(split<;>rename_i hd<;>(try (simp only[hz,Z.a,AF,AC,AO,AP,AL,reduceCtorEq] at hd))<;>(try cbv))
  rotate_left 1
  ·rw[List.take_of_length_le Z.o,<- ev] at lc
   refine hE _ _ _ ?_;cbv;have e1:(w1.drop 0).take k1=v.map Ac:=(by rw[List.drop_zero,List.take_of_length_le Z.o];exact lc.1);refine⟨_,Vw.sl (s:=4) (z:=1) (n:=k1) (i:=0) rfl oD.get Z.o,hR _ ?_⟩;rw[e1]
  obtain⟨a,ha⟩:∃a,ps[i.toNat]?=some a:=⟨_,List.getElem?_eq_getElem (show i.toNat<ps.length by omega)⟩;have hqa:q[i.toNat]?=some [jz a]:=(by rw[eq,List.getElem?_map,ha];rfl);have kY:=hpb a (List.mem_of_getElem? ha);obtain⟨i2,kW⟩:=Z.e (i+1);have a4:zB .add .i64 i 1=i2:=by rw[zC,kW];show IntKind.i64.wrap (i+1)=i+1;rw[IntKind.wrap_i64];omega
  have n_:(L-i2).toNat<(L-i).toNat:=(by omega);have mU:ps.take i2.toNat=ps.take i.toNat++[a]:=by rw[kW];exact Eu zW ha
  have kX:Cz w lo hi (ps.take i2.toNat)=Cz w lo hi (ps.take i.toNat)++(if a-w<=hi/\lo<=a+w then [a] else []):=by
   rw[mU];unfold Cz;rw[List.filter_append];congr 1
   by_cases h:a-w<=hi/\lo<=a+w
   ·rw[if_pos h];simp[h.1,h.2]
   ·rw[if_neg h]
    simp only[List.filter_cons,List.filter_nil];rw[if_neg (by simpa using h)]
  obtain⟨l1,el1⟩:=Z.f (a-w);obtain⟨h1,eh1⟩:=Z.f (a+w);obtain⟨x1,oO⟩:=Z.f (max l1 lo);obtain⟨y1,nK⟩:=Z.f (min h1 hi);have s1:=UW Z.o el1 eh1 ⟨by omega,by omega⟩ ⟨by omega,by omega⟩;refine Idx.mk _ zW hqa ?_;cbv;refine Idx.mk _ hg hG ?_;cbv;refine AB.stepE (by rw[<- hP];exact hwin) rfl ?_;cbv;refine AB.stepE (by rw[<- hP];exact s1) rfl ?_;cbv;by_cases hm:x1<=y1
  ·have s2:=JL oO nK hm
   refine Call.stepE (by rw[<- hP];exact s2) rfl ?_;cbv;rw[if_pos Z.o] at kX;obtain⟨w2,lN⟩:∃x:List (List AV),x=w1++[[jz a]]:=⟨_,rfl⟩;obtain⟨k2,wH⟩:=Z.e (k1+1);have hwl2:w2.length=w1.length+1:=(by rw[lN];simp);have mX:w2=(Cz w lo hi (ps.take i.toNat)++[a]).map Ac:=(by rw[lN,lc.1];simp[Ac]);have lQ:Up0 w2:=(by rw[mX];exact CG _);refine App.mk w2 k2 lN oU wH Z.o Z.o ?_;cbv;simp only[a4];refine hN (i2,some (k2,w2)) _ _ ?hx ?hI n_
   case hx=>(refine Z.k (λj=>[0,1,2,3,7].getD j 0) ?_;cbv<;>exact Z.q)
   case hI=>exact⟨by simp only;omega,by simp only;omega,by simp only;rw[kX];exact⟨mX,by omega,lQ⟩⟩
  ·have s2:=KD oO nK (show y1<x1 by omega)
   refine Call.stepE (by rw[<- hP];exact s2) rfl ?_;cbv;rw[if_neg Z.o,List.append_nil] at kX;simp only[a4];refine hN (i2,(some (k1,w1))) _ _ ?hx ?hI n_
   case hx=>exact Z.i
   case hI=>exact⟨by simp only;omega,by simp only;omega,by simp only;rw[kX];exact lc⟩
theorem iJ{a b c d l h:Int}(h1:a<=b)(hl:a+min 0 c=l)(hh:b+max 0 d=h)(ha: -1125899906842624<=a/\a<=1125899906842624)(hb: -1125899906842624<=b/\b<=1125899906842624)(hc: -1125899906842624<=c/\c<=1125899906842624)(hd: -1125899906842624<=d/\d<=1125899906842624)(hcd:c<=d) :
 A9 Tryz.prog 159 [.agg [a,b],.agg [c,d]] (· = .tuple [.agg [l,h],.bool true]):=by
 obtain⟨x,ex⟩:=Z.f (min 0 c);obtain⟨y,ey⟩:=Z.f (max 0 d);have s1:=MQ (l:=l) (h:=h) h1 (show x<=y by omega) Z.o Z.o ⟨by omega,by omega⟩ ⟨by omega,by omega⟩ ⟨by omega,by omega⟩ ⟨by omega,by omega⟩;(refine A9.ofY Tryz.func159 (by kernel_rfl) (by kernel_rfl) (Z.w λ_ _ _ _ _ _ yO _ _ _ _ _ _ _ _ _ _ _ _ _ _ _ _ _ _ _ _ yS _ _ _ _ _ _ _ _ _ _ _ _ _ _ R hR=>?_));(conv=>arg 2;cbv);(generalize hP:Tryz.prog=P);cbv;have e1:yO false 0 c=x:=by rw[yS,G5,ex]
 have e2:yO true 0 d=y:=by rw[yS,I1,ey]
 simp only[e1,e2];refine Call.stepE (by rw[<- hP];exact s1) rfl ?_;cbv;exact Z.r hR
theorem UX{ss:List Sg}(kr:CS ss)(sg:Int){off:Int}(pJ:0<=off/\off<=1099511627776):∀(l:List Int) (a:Int),∀x,x∈plc ss sg off a l->a<=x/\x<=a+Bh l*1099511627776+1099511627776
 | [],a,x,h=>by simp[plc] at h
 | n::l,a,x,h=>by
   have hb:=IV kr n;simp only[plc,Bh] at h ⊢;have zo:0<=Bh l:=(by rw[Io];omega);rcases List.mem_append.1 h with h|h
   ·split at h
    ·simp at h;omega
    ·simp at h
   ·have:=UX kr sg pJ l (a+BD ss n) x h
    omega
theorem iK{ss:List Sg}(kr:CS ss){sg off from_:Int}(hf:0<=from_/\from_<=1099511627776)(pJ:0<=off/\off<=1099511627776)(m:List (List Int))(hm:∀l,l∈m->l.length<=12):∀x,x∈FK ss sg off from_ m -> -1125899906842624<=x/\x<=1125899906842624:=λx hx=>by
 unfold FK at hx;rw[(Mf (BS ss sg off from_ m) [] List.Pairwise.nil).2.1] at hx;rcases hx with hx|hx
 ·simp at hx
 ·unfold BS at hx
  obtain⟨l,hl,hx⟩:=List.mem_flatMap.1 hx;have h1:=UX kr sg pJ l (-from_) x hx;have h2:=hm l hl;have h3:=Io l;omega
theorem iL{ss:List Sg}{sg off from_:Int}(m:List (List Int))(hm:∀l,l∈m->l.length<=12)(nU:m.length<=16):(FK ss sg off from_ m).length<=1000:=by
 have h1:=(Mf (BS ss sg off from_ m) [] List.Pairwise.nil).2.2;have h2:=K9 ss sg off from_ m hm;unfold FK;simp only[List.length_nil] at h1;omega
def FH(ss:List Sg)(mm:List (List Int))(n:Nv)(wl wh a b:Int)(G:Gr):List Int:=Cz (G.acc+n.c.c8+G.sl) (wl+min 0 a) (wh+max 0 b) (FK ss G.seg G.off n.p.fr mm)
theorem iM(ss:List Sg)(gs:List Gr)(mm:List (List Int))(n:Nv)(hu:NvU n)(zQ:n.es=ss.map Ah)(zY:n.ds=gs.map Ak)(kr:CS ss)(h8:0<=n.c.c8/\n.c.c8<=1048576)(oQ:JM ss mm n)
 (won:Bool) (wgr wl wh we wfr:Int) (ws:List (List AV)) (oD:Up0 ws) (vz: -17592186044416<=wl) (hww:wl<=wh) (hwh:wh<=17592186044416) (a b:Int) (kY:a<=b) (ha: -1099511627776<=a) (hb:b<=1099511627776)
 (g:Int) (hg:0<=g) (G:Gr) (hG:gs[g.toNat]?=some G) (pJ:0<=G.off/\G.off<=1099511627776) (lJ:0<=G.acc/\G.acc<=1048576) (qG:0<=G.sl/\G.sl<=16777216) (rs':List (List AV)) (ers:rs'=(FH ss mm n wl wh a b G).map Ac) :
 AJ Tryz.prog 100 [.ref 0 55 0 0,.agg [won,wgr,wl,wh,we,wfr,.list 13 ws],.agg [a,b],g] [.live 55 [n.row]] (λr hp=>r = .list 1 rs'/\∃j,hp = .live 55 [n.row]::j):=by
 obtain⟨lo',elo⟩:=Z.f (wl+min 0 a);obtain⟨hi',ehi⟩:=Z.f (wh+max 0 b);have q1:=iJ hww elo ehi ⟨by omega,by omega⟩ ⟨by omega,by omega⟩ ⟨by omega,by omega⟩ ⟨by omega,by omega⟩ kY;have hpp:=WN ss gs n.es n.ds zQ zY kr n.p.fr oQ.fr mm oQ.way (by have:=oQ.few;omega) n.p.rs oQ.rs g hg G hG pJ;have hpb:=iK kr (sg:=G.seg) (off:=G.off) (from_:=n.p.fr) oQ.fr pJ mm λl hl=>(oQ.way l hl).1;have ze:=iL (ss:=ss) (sg:=G.seg) (off:=G.off) (from_:=n.p.fr) mm (λl hl=>(oQ.way l hl).1) oQ.few;unfold FH at ers;rw[elo,ehi] at ers;have hGd:n.ds[g.toNat]?=some (Ak G):=by rw[zY,List.getElem?_map,hG];rfl
 obtain⟨gid,gseg,goff,gacc,gsl⟩:=G;have q2:=iI n.c.c0 n.c.c1 n.c.c2 n.c.c3 n.c.c4 n.c.c5 n.c.c6 n.c.c7 n.c.c8 n.c.c9 n.c.c10 n.c.c11 n.c.c12 n.c.c13 h8 n.es n.ds n.p.rs hu.es hu.ds hu.rs n.p.fr lo' hi' g hg gid gseg goff gacc gsl hGd lJ qG Z.o _ rfl _ ze hpb hpp;rw[<- ers] at q2;have hur':Up0 rs':=by rw[ers];exact BM (f:=Ac) (λd=>rfl) _
 clear hpp hpb ze ers elo ehi hGd;have kg:=hu;obtain⟨⟨c0,c1,c2,c3,c4,c5,c6,c7,c8,c9,c10,c11,c12,c13⟩,es,ds,cy,g0,g1,os,⟨mM,mK,lu⟩,⟨mG,mF,lm⟩,a0,b0,a1,b1,lo,hi,di,on,gr,⟨pl,ph,pe,fr,rs⟩,cl,o0,o1,s0,s1,sc,so,ra,ro,m0,m1,⟨wi,wt,wf⟩⟩:=n;obtain⟨nY,lH,lY,lW⟩:=kg;simp only at nY lH lY lW q2;refine Z.x Tryz.func100 λ_ _ _ _ zF _ _ _ _ _ _ zI _ _ P hP=>?_;cbv;have n1:zF true=false:=by rw[zI];rfl
 repeat' (first|(simp only[n1];cbv)|(refine Call.s hP q1 ?_;cbv)|(refine AB.s hP q2 ?_;cbv)|fail)
 all_goals first|exact⟨_,rfl⟩
theorem ul1{z:Nat}{es:List (List AV)}(h:Up0 es):(AV.list z es).upto 1=true:=Ed 1 _ h.get
structure Fo where
 g:Int
 at_:List Int
 ok:Bool
 ac:Bool
theorem VX(ss:List Sg)(gs:List Gr)(n:Nv)(hu:NvU n)(zQ:n.es=ss.map Ah)(zY:n.ds=gs.map Ak)(hT:BN ss gs)(m:Ml)(hm:m.has 5=true)(id:Int)(hid:m.val 5=id)(hib: -2147483648<=id/\id<=2147483648)(ku:∀g,g∈gs->g.id≠id)
 (won:Bool) (wgr wl wh we wfr:Int) (ws:List (List AV)) (oD:Up0 ws) (a b:Int) :
 AJ Tryz.prog 48 [.ref 0 55 0 0,.agg m.row,.agg [won,wgr,wl,wh,we,wfr,.list 13 ws],.agg [a,b]] [.live 55 [n.row]] (λr hp=>r = .agg [jz 0,.list 1 [],.bool false,.bool false]/\∃j,hp = .live 55 [n.row]::j):=by
 refine AJ.mono (AJ.give (h':=[.live 55 [n.row]]) (r':=.agg [jz 0,.list 1 [],.bool false,.bool false]) ?_) (λr h hh=>⟨hh.1,[],hh.2⟩);have u0:=hu.row;have q1:=G_ m 5 (.inr (.inr (.inr (.inr rfl)))) id true hid.symm hm.symm;have q2:=PU ss gs n.es n.ds zQ zY hT id
 have hno2:∀i f,J3 gs (λg:Gr=>g.id) id i f->f=false:=λi f hF=>by
  cases f with
  | false=>rfl
  | true =>
    obtain⟨d,hd,hk⟩:=hF.yes rfl;exact absurd hk (ku d (List.mem_of_getElem? hd))
 clear ku hm hid;have kg:=hu;obtain⟨⟨c0,c1,c2,c3,c4,c5,c6,c7,c8,c9,c10,c11,c12,c13⟩,es,ds,cy,g0,g1,os,⟨mM,mK,lu⟩,⟨mG,mF,lm⟩,a0,b0,a1,b1,lo,hi,di,on,gr,⟨pl,ph,pe,fr,rs⟩,cl,o0,o1,s0,s1,sc,so,ra,ro,m0,m1,⟨wi,wt,wf⟩⟩:=n;obtain⟨nY,lH,lY,lW⟩:=kg;simp only at nY lH lY lW q2;obtain⟨p1,p2,p3,p4,p5,x1,x2,x3,x4,x5,bad,stale,twice,beyond⟩:=m;have u0:Up0 [c0::c1::c2::c3::c4::c5::c6::c7::c8::c9::c10::c11::c12::c13 :: .list 3 es :: .list 5 ds :: .bool false::cy::g0::g1 :: .list 1 os::mM :: .int .u16 mK::lu::[mG,.int .u16 mF,lm,a0,b0,a1,b1,lo,hi,di,on,gr,pl,ph,pe,fr,.list 13 rs,cl,o0,o1,s0,s1,sc,so,ra,ro,m0,m1,wi,wt,wf]]:=u0;refine Z.x Tryz.func48 λ_ _ _ _ zF _ _ _ _ _ _ zI _ hz P hP=>?_;cbv;have n1:zF true=false:=by rw[zI];rfl
 have n2:zF false=true:=by rw[zI];rfl
 repeat' (first|(simp only[n1,n2];cbv)|(refine Call.s hP q1 ?_;cbv)|fail)
 refine Call.step (by rw[<- hP];exact q2) Z.u ?_;rintro r ⟨i,f,rfl,hF⟩;obtain rfl:=hno2 i f hF;cbv;repeat' (first|(simp only[n1,n2];cbv)|fail)
 all_goals first|(refine WkB.mk ?_;(refine Z.n (λi=>i) ?_;cbv<;>exact Z.q))|fail
theorem J3.at{gs:List Gr}{ss:List Sg}(hT:BN ss gs){g:Int}(hg:0<=g){G:Gr}(hG:gs[g.toNat]?=some G){i:Int}{f:Bool}(hF:J3 gs (λg:Gr=>g.id) G.id i f):i=g/\f=true:=by
 cases f with
 | false=>exact absurd rfl (hF.no rfl G (List.mem_of_getElem? hG))
 | true =>
   obtain⟨d,hd,hk⟩:=hF.yes rfl;refine⟨?_,rfl⟩;have h0:=hF.i0;have k1:=UY hT;by_cases h1:i.toNat<g.toNat
   ·have:=k1 _ _ _ _ h1 hd hG;omega
   ·by_cases h2:g.toNat<i.toNat
    ·have:=k1 _ _ _ _ h2 hG hd;omega
    ·omega
theorem VY(ss:List Sg)(gs:List Gr)(n:Nv)(hu:NvU n)(zQ:n.es=ss.map Ah)(zY:n.ds=gs.map Ak)(hT:BN ss gs)(m:Ml)(hm:m.has 5=true)(id:Int)(hid:m.val 5=id)(hib: -2147483648<=id/\id<=2147483648)(g:Int)(hg:0<=g)(G:Gr)(hG:gs[g.toNat]?=some G)(hGi:G.id=id)(lV:n.on=false)
 (won:Bool) (wgr wl wh we wfr:Int) (ws:List (List AV)) (oD:Up0 ws) (a b:Int) :
 AJ Tryz.prog 48 [.ref 0 55 0 0,.agg m.row,.agg [won,wgr,wl,wh,we,wfr,.list 13 ws],.agg [a,b]] [.live 55 [n.row]] (λr hp=>r = .agg [g,.list 1 [],.bool true,.bool true]/\∃j,hp = .live 55 [n.row]::j):=by
 refine AJ.mono (AJ.give (h':=[.live 55 [n.row]]) (r':=.agg [g,.list 1 [],.bool true,.bool true]) ?_) (λr h hh=>⟨hh.1,[],hh.2⟩);have u0:=hu.row;have q1:=G_ m 5 (.inr (.inr (.inr (.inr rfl)))) id true hid.symm hm.symm
 have q2:=(PU ss gs n.es n.ds zQ zY hT id).mono (R':=(· = .tuple [g,.bool true])) (by
  rintro r ⟨i,f,rfl,hF⟩;rw[<- hGi] at hF;obtain⟨rfl,rfl⟩:=J3.at hT hg hG hF
  rfl)
 clear hm hid hG hGi;have kg:=hu;obtain⟨⟨c0,c1,c2,c3,c4,c5,c6,c7,c8,c9,c10,c11,c12,c13⟩,es,ds,cy,g0,g1,os,⟨mM,mK,lu⟩,⟨mG,mF,lm⟩,a0,b0,a1,b1,lo,hi,di,on,gr,⟨pl,ph,pe,fr,rs⟩,cl,o0,o1,s0,s1,sc,so,ra,ro,m0,m1,⟨wi,wt,wf⟩⟩:=n;obtain⟨nY,lH,lY,lW⟩:=kg;simp only at nY lH lY lW q2 lV;subst lV;obtain⟨p1,p2,p3,p4,p5,x1,x2,x3,x4,x5,bad,stale,twice,beyond⟩:=m;have u0:Up0 [c0::c1::c2::c3::c4::c5::c6::c7::c8::c9::c10::c11::c12::c13 :: .list 3 es :: .list 5 ds :: .bool false::cy::g0::g1 :: .list 1 os::mM :: .int .u16 mK::lu::[mG,.int .u16 mF,lm,a0,b0,a1,b1,lo,hi,di,.bool false,gr,pl,ph,pe,fr,.list 13 rs,cl,o0,o1,s0,s1,sc,so,ra,ro,m0,m1,wi,wt,wf]]:=u0;refine Z.x Tryz.func48 λ_ _ _ _ zF _ _ _ _ _ _ zI _ hz P hP=>?_;cbv;have n1:zF true=false:=by rw[zI];rfl
 have n2:zF false=true:=by rw[zI];rfl
 repeat' (first|(simp only[n1,n2];cbv)|(refine Call.s hP q1 ?_;cbv)|(refine Call.s hP q2 ?_;cbv)|fail)
 all_goals first|(refine WkB.mk ?_;(refine Z.n (λi=>i) ?_;cbv<;>exact Z.q))|fail
theorem VZ(ss:List Sg)(gs:List Gr)(mm:List (List Int))(n:Nv)(hu:NvU n)(zQ:n.es=ss.map Ah)(zY:n.ds=gs.map Ak)(hT:BN ss gs)(h8:0<=n.c.c8/\n.c.c8<=1048576)(m:Ml)(hm:m.has 5=true)(id:Int)(hid:m.val 5=id)(hib: -2147483648<=id/\id<=2147483648)(g:Int)(hg:0<=g)(G:Gr)(hG:gs[g.toNat]?=some G)(hGi:G.id=id)(lV:n.on=true)(oQ:JM ss mm n)
 (won:Bool) (wgr wl wh we wfr:Int) (ws:List (List AV)) (oD:Up0 ws) (vz: -17592186044416<=wl) (hww:wl<=wh) (hwh:wh<=17592186044416) (a b:Int) (kY:a<=b) (ha: -1099511627776<=a) (hb:b<=1099511627776) (rs':List (List AV)) (ers:rs'=(FH ss mm n wl wh a b G).map Ac) (o:Bool) (eo:o=decide (0<(FH ss mm n wl wh a b G).length)) :
 AJ Tryz.prog 48 [.ref 0 55 0 0,.agg m.row,.agg [won,wgr,wl,wh,we,wfr,.list 13 ws],.agg [a,b]] [.live 55 [n.row]] (λr hp=>r = .agg [g,.list 1 rs',o,o]/\∃j,hp = .live 55 [n.row]::j):=by
 have q1:=G_ m 5 (.inr (.inr (.inr (.inr rfl)))) id true hid.symm hm.symm
 have q2:=(PU ss gs n.es n.ds zQ zY hT id).mono (R':=(· = .tuple [g,.bool true])) (by
  rintro r ⟨i,f,rfl,hF⟩;rw[<- hGi] at hF;obtain⟨rfl,rfl⟩:=J3.at hT hg hG hF
  rfl)
 obtain⟨k1,k2,k3,k4,k5,k6,k7,k8,k9,qz,_⟩:=hT.grp g.toNat (List.getElem?_eq_some_iff.1 hG).1 G hG
 have pJ:0<=G.off/\G.off<=1099511627776:=by
  obtain⟨s,hs⟩:∃s,ss[G.seg.toNat]?=some s:=⟨_,List.getElem?_eq_getElem k4⟩;have:=k6 s hs;have:=(hT.seg _ k4 s hs).le;omega
 have q3:=iM ss gs mm n hu zQ zY hT.lensOk h8 oQ won wgr wl wh we wfr ws oD vz hww hwh a b kY ha hb g hg G hG pJ ⟨k7,k8⟩ ⟨k9,qz⟩ rs' ers;have u0:=hu.row;have hur':Up0 rs':=by rw[ers];exact BM (f:=Ac) (λd=>rfl) _
 have oL:rs'.length=(FH ss mm n wl wh a b G).length:=by rw[ers];simp
 rw[<- oL] at eo;clear hm hid hG hGi ers k1 k2 k3 k4 k5 k6 k7 k8 k9 qz oQ oL;have kg:=hu;obtain⟨⟨c0,c1,c2,c3,c4,c5,c6,c7,c8,c9,c10,c11,c12,c13⟩,es,ds,cy,g0,g1,os,⟨mM,mK,lu⟩,⟨mG,mF,lm⟩,a0,b0,a1,b1,lo,hi,di,on,gr,⟨pl,ph,pe,fr,rs⟩,cl,o0,o1,s0,s1,sc,so,ra,ro,m0,m1,⟨wi,wt,wf⟩⟩:=n;obtain⟨nY,lH,lY,lW⟩:=kg;simp only at nY lH lY lW q2 lV;subst lV;obtain⟨p1,p2,p3,p4,p5,x1,x2,x3,x4,x5,bad,stale,twice,beyond⟩:=m;refine Z.x Tryz.func48 λ_ zE _ _ zF _ _ _ zA _ _ zI zH hz P hP=>?_;cbv;have n1:zF true=false:=by rw[zI];rfl
 have n2:zF false=true:=by rw[zI];rfl
 obtain⟨L,eL,L0,Ln⟩:=Z.l zH rs'
 have d1:zE .gtr L 0=o:=by
  rw[zA,eo];simp only[AC];congr 1
  exact propext ⟨λh=>by omega,λh=>by omega⟩
 clear eo;repeat' (first|(simp only[n1,n2,eL,d1];cbv)|(refine Call.s hP q1 ?_;cbv)|(refine Call.s hP q2 ?_;cbv)|fail)
 refine Call.o (s:=0) hP q3 u0 u0 (by exact ul hur') rfl (by exact uc rfl (uc (ua (uc rfl (uc rfl (uc rfl (uc rfl (uc rfl (uc rfl (uc (ul1 oD) rfl)))))))) rfl)) (by simp only[BH,AV.ren,E_ oD]) ?_;cbv;repeat' (first|(simp only[n1,n2,eL,d1];cbv)|fail)
 all_goals first|exact⟨_,rfl⟩
def IJ(G:Gr)(n:Nv)(g a b:Int):Nv:={ n with on:=true,gr:=g,p:=⟨-(G.acc+n.c.c8)+min 0 a,G.acc+n.c.c8+max 0 b,(-(G.acc+n.c.c8)+min 0 a+(G.acc+n.c.c8+max 0 b))/2,G.off,[rtC [G.seg]]⟩ }
def lrn?(n m:Nv)(at_:List Int):Nv:=match n.on && n.cl,at_ with|true,[y]=>Jt m y|_,_=>m
def C_(G:Gr)(n:Nv)(x:Fo)(a b:Int):Nv:=
 { lrn? n (IJ G n x.g a b) x.at_ with cl:=true,o0:=(IJ G n x.g a b).p.lo,o1:=(IJ G n x.g a b).p.hi,s0:=n.k0.su,s1:=n.k1.su }
theorem Vp(gs:List Gr)(n:Nv)(hu:NvU n)(zY:n.ds=gs.map Ak)(h8:0<=n.c.c8/\n.c.c8<=1048576)(hc:1<=n.c.c0/\n.c.c0<=1024)(x:Fo)(hg:0<=x.g)(G:Gr)(hG:gs[x.g.toNat]?=some G)(lJ:0<=G.acc/\G.acc<=1048576)
 (a b:Int) (ha: -1099511627776<=a) (hb:b<=1099511627776) (kY:a<=b) (hx:∀y,y∈x.at_ -> -35184372088832<=y/\y<=35184372088832) (ho: -17592186044416<=n.o0/\n.o0<=n.o1/\n.o1<=17592186044416)
 (oH: -1099511627776<=n.k0.su-n.s0/\n.k0.su-n.s0<=1099511627776) (oU: -1099511627776<=n.k1.su-n.s1/\n.k1.su-n.s1<=1099511627776) (as_:List (List AV)) (eas:as_=x.at_.map Ac) (v:Nv) (hv:v=C_ G n x a b) :
 AJ Tryz.prog 49 [.ref 0 55 0 0,.agg [x.g,.list 1 as_,x.ok,x.ac],.agg [a,b]] [.live 55 [n.row]] (λr hp=>r = .tuple []/\∃j,hp = .live 55 [v.row]::j):=by
 obtain⟨lo',elo⟩:∃z,-(G.acc+n.c.c8)+min 0 a=z:=⟨_,rfl⟩;obtain⟨hi',ehi⟩:=Z.f (G.acc+n.c.c8+max 0 b);obtain⟨kw,ees⟩:∃z,(lo'+hi')/2=z:=⟨_,rfl⟩;obtain⟨r0,mZ⟩:∃z,z=[rtC [G.seg]]:=⟨_,rfl⟩;have hGd:n.ds[x.g.toNat]?=some (Ak G):=by rw[zY,List.getElem?_map,hG];rfl
 have q1:=f_ n.es n.ds hu.es hu.ds x.g hg G hGd n.c.c0 n.c.c1 n.c.c2 n.c.c3 n.c.c4 n.c.c5 n.c.c6 n.c.c7 n.c.c8 n.c.c9 n.c.c10 n.c.c11 n.c.c12 n.c.c13 h8 lJ a b lo' hi' kw (by unfold I62;omega) Z.o elo ehi ees r0 mZ;have tZ:Up0 r0:=by rw[mZ];exact⟨rfl⟩
 obtain⟨m,em⟩:=Z.e (IJ G n x.g a b);have hm:m={ n with on:=true,gr:=x.g,p:=⟨lo',hi',kw,G.off,r0⟩ }:=by rw[em];unfold IJ;rw[elo,ehi,ees,mZ]
 unfold C_ at hv;rw[<- em] at hv;have lv:v={ lrn? n m x.at_ with cl:=true,o0:=lo',o1:=hi',s0:=n.k0.su,s1:=n.k1.su }:=by rw[hv,hm]
 clear hv em mZ;have hu':NvU m:=by rw[hm];exact⟨hu.es,hu.ds,hu.os,tZ⟩
 have q2:∀y,y∈x.at_->∀u,u=Jt m y->AJ Tryz.prog 102 [.ref 0 55 0 0,y] [.live 55 [m.row]] (λr hp=>r = .tuple []/\∃j,hp = .live 55 [u.row]::j):=λy hy u eu =>
  iR m hu' y (hx y hy) (by rw[hm];simp only;omega) (by rw[hm];simp only;omega) (by rw[hm];exact hc) (by rw[hm];exact oH) (by rw[hm];exact oU) u eu
 have nQ:∀y,NvU (Jt m y):=λy=>by rw[hm];exact⟨hu.es,hu.ds,hu.os,tZ⟩
 have kZ:Up0 (x.at_.map Ac):=BM (f:=Ac) (λd=>rfl) _;have hasl:as_.length=x.at_.length:=by rw[eas];simp
 rw[<- eas] at kZ;have hG0:∀y,x.at_=[y]->as_[(0:Int).toNat]?=some [jz y]:=λy hy=>by rw[eas,hy];rfl
 clear hGd elo ehi ees hx ho oH oU eas;obtain⟨xg,xa,xo,xc⟩:=x;simp only at lv hm q1 q2 hasl hG0 nQ;obtain⟨gid,gseg,goff,gacc,gsl⟩:=G;simp only at hm q1;have kg:=hu;obtain⟨⟨c0,c1,c2,c3,c4,c5,c6,c7,c8,c9,c10,c11,c12,c13⟩,es,ds,cy,g0,g1,os,⟨mM,mK,lu⟩,⟨mG,mF,lm⟩,a0,b0,a1,b1,lo,hi,di,on,gr,⟨pl,ph,pe,fr,rs⟩,cl,o0,o1,s0,s1,sc,so,ra,ro,m0,m1,⟨wi,wt,wf⟩⟩:=n;obtain⟨nY,lH,lY,lW⟩:=kg;simp only at nY lH lY lW lv hm q1
 cases on with
 | false =>
   have o_:v={ m with cl:=true,o0:=lo',o1:=hi',s0:=lu,s1:=lm }:=(by rw[lv];rfl);subst hm;subst o_;clear q2 lv nQ hu';refine Z.x Tryz.func49 λzB zE _ _ zF _ hw zC zA _ _ zI _ hz P hP=>?_;cbv;have n1:zF true=false:=(by rw[zI];rfl);have n2:zF false=true:=(by rw[zI];rfl);have xE:zE .lss 0 2=true:=W.lt zA Z.d;have xD:zE .lss 1 2=true:=W.lt zA Z.d;have xC:zE .lss 2 2=false:=W.nlt zA Z.d;have xG:zB .add .i64 0 1=1:=(by rw[zC];rfl);have xF:zB .add .i64 1 1=2:=(by rw[zC];rfl);repeat' (first|(simp only[n1,n2];cbv)|(refine AB.s hP q1 ?_;cbv)|fail)
   (refine Ae.rounds hw 3 ?_;cbv);repeat' (first|(simp only[xE,xD,xC,xG,xF];cbv)|(refine InN.mk Z.d Z.d ?_;(try cbv))|(refine And.intro ?_ ?_)|fail)
   all_goals first|exact⟨_,rfl⟩
 | true =>
   cases cl with
   | false =>
     have o_:v={ m with cl:=true,o0:=lo',o1:=hi',s0:=lu,s1:=lm }:=(by rw[lv];rfl);subst hm;subst o_;clear q2 lv nQ hu';refine Z.x Tryz.func49 λzB zE _ _ zF _ hw zC zA _ _ zI _ hz P hP=>?_;cbv;have n1:zF true=false:=(by rw[zI];rfl);have n2:zF false=true:=(by rw[zI];rfl);have xE:zE .lss 0 2=true:=W.lt zA Z.d;have xD:zE .lss 1 2=true:=W.lt zA Z.d;have xC:zE .lss 2 2=false:=W.nlt zA Z.d;have xG:zB .add .i64 0 1=1:=(by rw[zC];rfl);have xF:zB .add .i64 1 1=2:=(by rw[zC];rfl);repeat' (first|(simp only[n1,n2];cbv)|(refine AB.s hP q1 ?_;cbv)|fail)
     (refine Ae.rounds hw 3 ?_;cbv);repeat' (first|(simp only[xE,xD,xC,xG,xF];cbv)|(refine InN.mk Z.d Z.d ?_;(try cbv))|(refine And.intro ?_ ?_)|fail)
     all_goals first|exact⟨_,rfl⟩
   | true =>
     by_cases h1:xa.length=1
     ·obtain⟨y,rfl⟩:∃y,xa=[y]:=by
       match xa,h1 with
       | [y],_=>exact⟨y,rfl⟩
      obtain⟨u,eu⟩:=Z.e (Jt m y);have q3:=q2 y (List.mem_singleton.2 rfl) u eu;have tu:=hG0 y rfl;have u0:=hu'.row;have wS:=nQ y;rw[<- eu] at wS;have u1:=wS.row;have o_:v={ u with cl:=true,o0:=lo',o1:=hi',s0:=lu,s1:=lm }:=(by rw[lv,eu];rfl);have pF:∃y0 z0 y1 z1,u={ m with a0:=y0,b0:=z0,a1:=y1,b1:=z1 }:=⟨_,_,_,_,by rw[eu];rfl⟩;obtain⟨y0,z0,y1,z1,pF⟩:=pF;subst hm;subst pF;subst o_;clear q2 lv nQ hu' wS eu hG0;refine Z.x Tryz.func49 λzB zE _ _ zF _ hw zC zA _ _ zI zH hz P hP=>?_;cbv;have n1:zF true=false:=(by rw[zI];rfl);have n2:zF false=true:=(by rw[zI];rfl);have xE:zE .lss 0 2=true:=W.lt zA Z.d;have xD:zE .lss 1 2=true:=W.lt zA Z.d;have xC:zE .lss 2 2=false:=W.nlt zA Z.d;have xG:zB .add .i64 0 1=1:=(by rw[zC];rfl);have xF:zB .add .i64 1 1=2:=(by rw[zC];rfl);obtain⟨L,eL,L0,Ln⟩:=Z.l zH as_;have d1:zE .eql L 1=true:=W.eq zA (by simp only[List.length_singleton] at hasl;omega);have i00:(0:Int)<=0:=Int.le_refl _;repeat' (first|(simp only[n1,n2,eL,d1];cbv)|(refine AB.s hP q1 ?_;cbv)|(refine Idx.mk _ i00 tu ?_;cbv)|fail)
      refine Call.o (s:=0) hP q3 u0 u1 rfl rfl rfl rfl ?_;cbv;repeat' (first|(simp only[n1,n2,eL,d1];cbv)|(refine Idx.mk _ i00 tu ?_;cbv)|fail)
      (refine Ae.rounds hw 3 ?_;cbv);repeat' (first|(simp only[xE,xD,xC,xG,xF];cbv)|(refine InN.mk Z.d Z.d ?_;(try cbv))|(refine And.intro ?_ ?_)|fail)
      all_goals first|exact⟨_,rfl⟩
     ·have o_:v={ m with cl:=true,o0:=lo',o1:=hi',s0:=lu,s1:=lm }:=by
       rw[lv]
       match xa,h1 with
       | [],_=>rfl
       | _::_::_,_=>rfl
      subst hm;subst o_;clear q2 lv nQ hu';refine Z.x Tryz.func49 λzB zE _ _ zF _ hw zC zA _ _ zI zH hz P hP=>?_;cbv;have n1:zF true=false:=(by rw[zI];rfl);have n2:zF false=true:=(by rw[zI];rfl);have xE:zE .lss 0 2=true:=W.lt zA Z.d;have xD:zE .lss 1 2=true:=W.lt zA Z.d;have xC:zE .lss 2 2=false:=W.nlt zA Z.d;have xG:zB .add .i64 0 1=1:=(by rw[zC];rfl);have xF:zB .add .i64 1 1=2:=(by rw[zC];rfl);obtain⟨L,eL,L0,Ln⟩:=Z.l zH as_;have d1:zE .eql L 1=false:=W.neq zA Z.o;repeat' (first|(simp only[n1,n2,eL,d1];cbv)|(refine AB.s hP q1 ?_;cbv)|fail)
      (refine Ae.rounds hw 3 ?_;cbv);repeat' (first|(simp only[xE,xD,xC,xG,xF];cbv)|(refine InN.mk Z.d Z.d ?_;(try cbv))|(refine And.intro ?_ ?_)|fail)
      all_goals first|exact⟨_,rfl⟩
theorem aN{a b d:Int}(h:a-b=d)(ha:I62 a)(hb:I62 b):A9 Tryz.prog 166 [a,b] (· = jz d):=by
 refine Z.y Tryz.func166 λ_ zE _ _ _ _ _ _ _ _ _ _ _ hz R hR P hP=>?_;cbv;refine Call.stepE (by rw[<- hP];exact Je h ha hb) rfl ?_;cbv;obtain⟨o,eo⟩:=Z.f (zE .lss a 0);simp only[eo];refine Call.stepE (by rw[<- hP];exact Sc d o) rfl ?_;cbv;exact Z.r hR
def DZ(ss:List Sg)(f:Nat->Int)(from_ at_:Int)(s:Int×Bool)(l:List Int):Int×Bool:=
 if f (Bw l).toNat = -1 then s
 else if s.2=false\/BU ss from_ l+f (Bw l).toNat-at_<s.1 then (BU ss from_ l+f (Bw l).toNat-at_,true) else s
theorem aO{ss:List Sg}{f:Nat->Int}{from_ at_ a:Int}{b:Bool}{l:List Int}(h:f (Bw l).toNat = -1):DZ ss f from_ at_ (a,b) l=(a,b):=by unfold DZ;rw[if_pos h]
theorem Sd{ss:List Sg}{f:Nat->Int}{from_ at_ a:Int}{b:Bool}{l:List Int}{d:Int}(h:f (Bw l).toNat ≠ -1)(hd:BU ss from_ l+f (Bw l).toNat-at_=d)(h2:b=false\/d<a):DZ ss f from_ at_ (a,b) l=(d,true):=by unfold DZ;rw[if_neg h,hd,if_pos h2]
theorem aP{ss:List Sg}{f:Nat->Int}{from_ at_ a:Int}{b:Bool}{l:List Int}{d:Int}(h:f (Bw l).toNat ≠ -1)(hd:BU ss from_ l+f (Bw l).toNat-at_=d)(h2:b=true)(h3:a<=d):DZ ss f from_ at_ (a,b) l=(a,b):=by
 unfold DZ;rw[if_neg h,hd,if_neg (by simp[h2];omega)]
theorem Oi:∀(l:List Int),l≠[]->Bw l∈l
 | [],h=>absurd rfl h
 | [a],_=>List.mem_cons_self
 | a::b::l,_=>List.mem_cons_of_mem _ (Oi (b::l) (by simp))
theorem Si:∀(P:List Int),P≠[]->P[P.length-1]?=some (Bw P)
 | [],h=>absurd rfl h
 | [a],_=>rfl
 | a::b::l,_=>by
   have:=Si (b::l) (by simp);simpa[Bw] using this
theorem Sj{ss:List Sg}(kr:CS ss){from_:Int}(hf:0<=from_/\from_<=1099511627776){l:List Int}(hl:l.length<=12): -1099511627776<=BU ss from_ l/\BU ss from_ l<=13194139533312:=by
 have h1:=Sk (from_:=from_) kr hf l;have h2:=Io l;omega
theorem aI(ss:List Sg)(gs:List Gr)(es ds:List (List AV))(zQ:es=ss.map Ah)(zY:ds=gs.map Ak)(kr:CS ss)(from_:Int)(hf:0<=from_/\from_<=1099511627776)(m:List (List Int))(lU:∀l,l∈m->Cu ss l)(hm:m.length<=1000)(rs:List (List AV))(yD:rs=m.map rtC)
 (f:Nat->Int) (os:List (List AV)) (kV:∀x,x<ss.length->os[x]?=some [jz (f x)]) (lY:Up0 os) (hfb:∀x,x<ss.length -> -1<=f x/\f x<=1125899906842624) (at_:Int) (ow: -35184372088832<=at_/\at_<=35184372088832) (v:Int×Bool) (ev:v=m.foldl (DZ ss f from_ at_) (0,false)) :
 A9 Tryz.prog 108 [.agg [.list 3 es,.list 5 ds],.list 1 os,.agg [from_,.list 13 rs],at_] (· = .tuple [v.1,v.2]):=by
 have hu:Up0 es:=by rw[zQ];exact Bu ss
 have lH:Up0 ds:=by rw[zY];exact Bv gs
 have lW:Up0 rs:=by rw[yD];exact BM (f:=rtC) (λd=>rfl) m
 have oL:rs.length=m.length:=by rw[yD];simp
 obtain⟨v1,v2⟩:=v;refine Z.y Tryz.func108 λzB _ _ _ _ _ hw zC _ _ _ _ zH hz R hR P hP=>?_;cbv;obtain⟨L,eL,L0,Ln⟩:=Z.l zH rs;simp only[eL]
 refine Ae.data hw (S:=Int×Int×Bool) (λs=>fr 53 [(1,.list 1 os),(3,at_),(4,.ref 0 2 0 0),(6,.ref 1 2 0 0),(10,s.2.1),(11,s.2.2),(17,.list 13 rs),(18,L),(19,s.1)])
  (λ_=>[.live 2 [[.list 3 es,.list 5 ds]],.live 2 [[from_,.list 13 rs]]])
  (λs=>0<=s.1/\s.1<=L/\(s.2.1,s.2.2)=(m.take s.1.toNat).foldl (DZ ss f from_ at_) (0,false)) (λs=>(L-s.1).toNat) (0,0,false) Z.i ⟨Int.le_refl _,L0,rfl⟩ ?_
 rintro⟨i,a,b⟩ zJ Q' hN hE hR'
 have zJ:0<=i/\i<=L/\(a,b)=(m.take i.toNat).foldl (DZ ss f from_ at_) (0,false):=zJ;cbv;obtain⟨zW,yZ,kY⟩:=zJ;(split<;>rename_i hc<;>(try (simp only[hz,Z.a,AF,AC,AO,AP,AL,reduceCtorEq] at hc))<;>(try cbv))
 ·obtain⟨i2,kW⟩:=Z.e (i+1)
  have a4:zB .add .i64 i 1=i2:=(by rw[zC,Ag Z.o Z.o,kW]);have hT:(L-i2).toNat<(L-i).toNat:=(by omega);obtain⟨l,hl⟩:∃b,m[i.toNat]?=some b:=⟨_,List.getElem?_eq_getElem (show i.toNat<m.length by omega)⟩;have hlm:=List.mem_of_getElem? hl;have o6:=lU l hlm;have hlr:rs[i.toNat]?=some (rtC l):=(by rw[yD,List.getElem?_map,hl];rfl);have hend:=NJ ss gs es ds zQ zY kr from_ hf rs lW l o6.len.1 o6.seg;obtain⟨row,erow⟩:=Z.e (toR l);have hlr:rs[i.toNat]?=some row.row:=(by rw[erow];exact hlr);have hend:A9 Tryz.prog 167 [.agg [from_,.list 13 rs],.agg [.list 3 es,.list 5 ds],.agg row.row] (· = jz (BU ss from_ l)):=(by rw[erow];exact hend);obtain⟨n,s0,s1,s2,s3,s4,s5,s6,s7,s8,s9,s10,s11⟩:=row;refine Idx.mk _ zW hlr ?_;cbv;obtain⟨q,eq⟩:=Z.e (Bw l)
  have zH:n=Bh l/\1<=l.length/\l.length<=12:=by
   have:=congrArg R13.n erow;exact⟨this,o6.len.2,o6.len.1⟩
  have qW:n=l.length:=by rw[zH.1,Io]
  have hs:∀j:Nat,j<12->n=(j:Int)+1->l.getD j 0=q:=λj hj h=>by
   have h1:=Si l (by intro h0;rw[h0] at zH;simp at zH);rw[show l.length-1=j by omega] at h1;rw[eq,List.getD_eq_getElem?_getD,h1];rfl
  simp only[toR,R13.mk.injEq] at erow;obtain⟨_,g0,g1,g2,g3,g4,g5,g6,g7,g8,g9,g10,g11⟩:=erow;have l1:n=1->s0=q:=λh=>(by rw[g0];exact hs 0 Z.d Z.o);have l2:n=2->s1=q:=λh=>(by rw[g1];exact hs 1 Z.d Z.o);have l3:n=3->s2=q:=λh=>(by rw[g2];exact hs 2 Z.d Z.o);have l4:n=4->s3=q:=λh=>(by rw[g3];exact hs 3 Z.d Z.o);have l5:n=5->s4=q:=λh=>(by rw[g4];exact hs 4 Z.d Z.o);have l6:n=6->s5=q:=λh=>(by rw[g5];exact hs 5 Z.d Z.o);have l7:n=7->s6=q:=λh=>(by rw[g6];exact hs 6 Z.d Z.o);have l8:n=8->s7=q:=λh=>(by rw[g7];exact hs 7 Z.d Z.o);have l9:n=9->s8=q:=λh=>(by rw[g8];exact hs 8 Z.d Z.o);have l10:n=10->s9=q:=λh=>(by rw[g9];exact hs 9 Z.d Z.o);have l11:n=11->s10=q:=λh=>(by rw[g10];exact hs 10 Z.d Z.o);have l12:n=12->s11=q:=λh=>(by rw[g11];exact hs 11 Z.d Z.o);have c1:zB .sub .i64 1 1=0:=(by rw[zC];rfl);have c2:zB .sub .i64 2 1=1:=(by rw[zC];rfl);have c3:zB .sub .i64 3 1=2:=(by rw[zC];rfl);have c4:zB .sub .i64 4 1=3:=(by rw[zC];rfl);have c5:zB .sub .i64 5 1=4:=(by rw[zC];rfl);have c6:zB .sub .i64 6 1=5:=(by rw[zC];rfl);have c7:zB .sub .i64 7 1=6:=(by rw[zC];rfl);have c8:zB .sub .i64 8 1=7:=(by rw[zC];rfl);have c9:zB .sub .i64 9 1=8:=(by rw[zC];rfl);have c10:zB .sub .i64 10 1=9:=(by rw[zC];rfl);have c11:zB .sub .i64 11 1=10:=(by rw[zC];rfl);have c12:zB .sub .i64 12 1=11:=(by rw[zC];rfl);have hqm:q∈l:=(by rw[eq];exact Oi l (by intro h0;rw[h0] at zH;simp at zH));have hqb:=o6.seg q hqm;obtain⟨fq,efq⟩:=Z.e (f q.toNat);have hqo:os[q.toNat]?=some [jz fq]:=(by rw[efq];exact kV q.toNat hqb.2);have hfq:=hfb q.toNat hqb.2;rw[<- efq] at hfq;obtain⟨e,ee⟩:=Z.e (BU ss from_ l);have heb:=Sj kr hf (l:=l) o6.len.1;rw[<- ee] at hend heb
  have xS:(m.take i2.toNat).foldl (DZ ss f from_ at_) (0,false)=DZ ss f from_ at_ (a,b) l:=by
   rw[show m.take i2.toNat=m.take i.toNat++[l] by rw[kW];exact Eu zW hl,List.foldl_append,<- kY];rfl
  obtain⟨d1,rW⟩:=Z.e (e+fq);obtain⟨d,ed⟩:=Z.f (d1-at_);have a5:zB .add .i64 e fq=d1:=(by rw[zC,Ag Z.o Z.o,rW]);have lD:=aN ed (by unfold I62;omega) (by unfold I62;omega);have hdd:BU ss from_ l+f (Bw l).toNat-at_=d:=(by rw[<- eq,<- efq,<- ee];omega);have hn12:n=1\/n=2\/n=3\/n=4\/n=5\/n=6\/n=7\/n=8\/n=9\/n=10\/n=11\/n=12:=(by omega);clear hs zH qW g0 g1 g2 g3 g4 g5 g6 g7 g8 g9 g10 g11;rcases hn12 with h|h|h|h|h|h|h|h|h|h|h|h
  all_goals
   subst h;simp only[c1,c2,c3,c4,c5,c6,c7,c8,c9,c10,c11,c12];refine InN.mk Z.d Z.d ?_;cbv;first|rw[l1 rfl] at hend ⊢ | rw[l2 rfl] at hend ⊢ | rw[l3 rfl] at hend ⊢ | rw[l4 rfl] at hend ⊢ | rw[l5 rfl] at hend ⊢ | rw[l6 rfl] at hend ⊢ | rw[l7 rfl] at hend ⊢ | rw[l8 rfl] at hend ⊢ | rw[l9 rfl] at hend ⊢ | rw[l10 rfl] at hend ⊢ | rw[l11 rfl] at hend ⊢ | rw[l12 rfl] at hend ⊢
   refine Idx.mk _ hqb.1 hqo ?_;cbv;(split<;>rename_i ko<;>(try (simp only[hz,Z.a,AF,AC,AO,AP,AL,reduceCtorEq] at ko))<;>(try cbv))
   ·simp only[a4]
    refine hN (i2,a,b) _ _ ?hx ?hi hT
    case hx=>(refine Z.k (λj=>[0,1].getD j 0) ?_;cbv<;>exact Z.q)
    case hi=>exact⟨by omega,by omega,by rw[xS,aO (by rw[<- eq,<- efq];exact ko)]⟩
   ·refine Call.stepE (by rw[<- hP];exact hend) (by simp only[Af,AV.upto,hu.get,lH.get,lW.get];rfl) ?_
    cbv;simp only[a5];refine Call.stepE (by rw[<- hP];exact lD) rfl ?_;cbv;have nU:f (Bw l).toNat ≠ -1:=(by rw[<- eq,<- efq];exact ko);repeat' (split<;>rename_i h<;>(try (simp only[hz,Z.a,AF,AC,AO,AP,AL,reduceCtorEq] at h))<;>(try cbv))
    ·simp only[a4]
     refine hN (i2,d,true) _ _ ?hx ?hi hT
     case hx=>(refine Z.k (λj=>[0,1].getD j 0) ?_;cbv<;>exact Z.q)
     case hi =>
      refine⟨by omega,by omega,?_⟩;rw[xS,Sd nU hdd (by first|(left;assumption)|(right;omega))]
    ·simp only[a4]
     refine hN (i2,d,true) _ _ ?hx ?hi hT
     case hx=>(refine Z.k (λj=>[0,1].getD j 0) ?_;cbv<;>exact Z.q)
     case hi =>
      refine⟨by omega,by omega,?_⟩;rw[xS,Sd nU hdd (by first|(left;assumption)|(right;omega))]
    ·simp only[a4]
     refine hN (i2,a,b) _ _ ?hx ?hi hT
     case hx=>(refine Z.k (λj=>[0,1].getD j 0) ?_;cbv<;>exact Z.q)
     case hi =>
      refine⟨by omega,by omega,?_⟩;rw[xS,aP nU hdd Z.m Z.o]
 ·refine hE _ _ _ ?_
  cbv;rw[List.take_of_length_le Z.o,<- ev] at kY;simp only[Prod.mk.injEq] at kY;exact⟨_,Vw.same rfl,hR _ (by rw[kY.1,kY.2];rfl)⟩
end Go.Proofs.YtlchlddijclhjaaGreat
