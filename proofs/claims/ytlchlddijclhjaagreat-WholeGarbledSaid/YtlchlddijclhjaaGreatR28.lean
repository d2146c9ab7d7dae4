/- Parts of the proofs. -/
import Derived.Test.YtlchlddijclhjaaGreatR25
import Derived.Test.YtlchlddijclhjaaGreatR26
import Derived.Test.YtlchlddijclhjaaGreatR27
import Derived.Test.YtlchlddijclhjaaGreatR24
import Derived.Test.YtlchlddijclhjaaGreatR11
import Derived.Test.YtlchlddijclhjaaGreatRZ
set_option linter.unusedVariables false
set_option linter.unusedSimpArgs false
set_option maxHeartbeats 4000000
namespace Go.Proofs.YtlchlddijclhjaaGreat
open Go Go.RowKit Go.Eng
set_option maxRecDepth 100000
def M5(m:Ml):Prop:=m.has 5=true->0<=m.val 5/\m.val 5<=65535
theorem VQ{s:Int}{m:Ml}(h:M5 m){l:List Int}(hl:Ar l):M5 (Dy s m (frV l)):=by
 have hf:=QB hl;unfold Dy;split
 ·exact h
 ·rename_i he
  have he:(frV l).e=0:=Classical.not_not.1 he;have hf:=hf he;split
  ·exact h
  ·split
   ·exact h
   ·generalize frV l=F at hf ⊢
    obtain⟨k,sq,v,e⟩:=F;obtain⟨h1,h2,h3,h4,h5,v1,v2,v3,v4,v5,bad,stale,twice,beyond⟩:=m;have hk:k=1\/k=2\/k=3\/k=4\/k=5:=(by simp only at hf;omega);rcases hk with rfl|rfl|rfl|rfl|rfl
    ·exact λhh=>h hh
    ·exact λhh=>h hh
    ·exact λhh=>h hh
    ·exact λhh=>h hh
    ·exact λhh=>by show 0<=v/\v<=65535;simp only at hf;omega
theorem QC{s:Int}:∀(l:List (List Int)) (m:Ml),M5 m->(∀b,b∈l->Ar b)->M5 (l.foldl (λm b=>Dy s m (frV b)) m)
 | [],m,h,_=>h
 | b::l,m,h,hb=>by
   rw[List.foldl_cons];exact QC l _ (VQ h (hb b List.mem_cons_self)) λx hx=>hb x (List.mem_cons_of_mem _ hx)
theorem VS(c:Int){l:List (List Int)}(h:∀b,b∈l->Ar b):M5 (Cc c l):=by
 unfold Cc;exact QC _ _ (λh=>by simp[ml0,Ml.has] at h) λb hb=>h b (List.mem_of_mem_take hb)
section
variable {ss:List Sg} {gs:List Gr} {n:Nv} {mm:List (List Int)} {k:Int}
theorem VT{ss:List Sg}{mm:List (List Int)}{n:Nv}{wl wh a b:Int}{G:Gr}(hw: -17592186044416<=wl/\wh<=17592186044416)(ha: -16777216<=a)(hb:b<=16777216)(h8:0<=n.c.c8/\n.c.c8<=1048576)(hG:(0<=G.acc/\G.acc<=1048576)/\0<=G.sl/\G.sl<=16777216):∀y,y∈FH ss mm n wl wh a b G -> -35184372088832<=y/\y<=35184372088832:=λy hy=>by
 unfold FH Cz at hy;have:=of_decide_eq_true (List.mem_filter.1 hy).2;omega
theorem VU{wl wh a b:Int}{m:Ml}{x:Fo}(ex:x=FY ss gs mm n wl wh m a b)(h:x.ac=true):0<=x.g/\∃G,gs[x.g.toNat]?=some G/\(x.at_=[]\/x.at_=FH ss mm n wl wh a b G):=by
 unfold FY at ex;split at ex
 ·rw[ex] at h;cases h
 ·split at ex
  ·rw[ex] at h;cases h
  ·rename_i i hi
   split at ex
   ·rw[ex] at h;cases h
   ·rename_i G hG
    split at ex
    ·rw[ex];exact⟨Int.natCast_nonneg i,G,by simpa using hG,.inl rfl⟩
    ·rw[ex];exact⟨Int.natCast_nonneg i,G,by simpa using hG,.inr rfl⟩
theorem VV(h:BL ss gs n mm k)(m:Ml)(h5:M5 m)(won:Bool)(wgr wl wh we wfr:Int)(ws:List (List AV))(oD:Up0 ws)(vz: -17592186044416<=wl)(hww:wl<=wh)(hwh:wh<=17592186044416)(a b:Int)(kY:a<=b)(ha: -16777216<=a)(hb:b<=16777216)(x:Fo)(ex:x=FY ss gs mm n wl wh m a b) :
 AJ Tryz.prog 48 [.ref 0 55 0 0,.agg m.row,.agg [won,wgr,wl,wh,we,wfr,.list 13 ws],.agg [a,b]] [.live 55 [n.row]] (λr hp=>r = .agg [x.g,.list 1 (x.at_.map Ac),x.ok,x.ac]/\∃j,hp = .live 55 [n.row]::j):=by
 have hc:=h.cf.in_;unfold FY at ex;split at ex
 ·rename_i hm
  rw[ex];exact VW n h.nvu m hm won wgr wl wh we wfr ws oD a b
 ·rename_i hm
  have hm:m.has 5=true:=(by cases hh:m.has 5 with|true=>rfl|false=>exact absurd hh hm);have hid:=h5 hm;split at ex
  ·rename_i ku
   rw[ex];refine VX ss gs n h.nvu h.es h.ds h.tr m hm _ rfl Z.o (λg hg pQ=>?_) won wgr wl wh we wfr ws oD a b;have:=List.findIdx?_eq_none_iff.1 ku g hg;simp[pQ] at this
  ·rename_i i hi
   obtain⟨mD,rF,_⟩:=List.findIdx?_eq_some_iff_getElem.1 hi;have hG:gs[i]?=some gs[i]:=List.getElem?_eq_getElem mD;rw[hG] at ex;simp only at ex;have rF:gs[i].id=m.val 5:=(by simpa using rF);split at ex
   ·rename_i lV
    rw[ex];exact VY ss gs n h.nvu h.es h.ds h.tr m hm _ rfl Z.o i (Int.natCast_nonneg i) gs[i] (by simp) rF lV won wgr wl wh we wfr ws oD a b
   ·rename_i lV
    have lV:n.on=true:=(by cases hh:n.on with|true=>rfl|false=>exact absurd hh lV);rw[ex];exact VZ ss gs mm n h.nvu h.es h.ds h.tr hc.2.2.2.2.1 m hm _ rfl Z.o i (Int.natCast_nonneg i) gs[i] (by simp) rF lV (h.on lV).plc won wgr wl wh we wfr ws oD vz hww hwh a b kY Z.o Z.o _ rfl _ rfl
theorem Va(n:Nv)(hr:n.p.rs=[])(hu:NvU n)(r:Rp)(f:Fu):WkB 2 [.ref 0 55 0 0,.ref 1 32 0 0,.agg [f.lo,f.hi,f.n,f.cl,f.cf,f.s0,f.s1]] [.live 55 [n.rowP .nils],.live 32 [r.rowL .nils]] [.ref 0 55 0 0,.ref 1 32 0 0,.agg [f.lo,f.hi,f.n,f.cl,f.cf,f.s0,f.s1]] [.live 55 [n.row],.live 32 [r.rowL .nils]]:=by
 have kg:=hu.rowN_up;have pF:=r.upL;have hu3:=hu.row;obtain⟨nY,lH,lY,lW⟩:=hu;obtain⟨⟨c0,c1,c2,c3,c4,c5,c6,c7,c8,c9,c10,c11,c12,c13⟩,es,ds,cy,g0,g1,os,⟨mM,mK,lu⟩,⟨mG,mF,lm⟩,a0,b0,a1,b1,lo,hi,di,on,gr,⟨pl,ph,pe,fr,rs⟩,cl,o0,o1,s0,s1,sc,so,ra,ro,m0,m1,⟨wi,wt,wf⟩⟩:=n;simp only at nY lH lY lW hr;subst hr;obtain⟨flo,fhi,fn,fcl,fcf,nI,nH⟩:=f;refine WkB.mk ?_;(refine Z.n (id) ?_;cbv<;>exact Z.q)
end
section
variable {ss:List Sg} {gs:List Gr} {n:Nv} {mm:List (List Int)} {k:Int}
theorem BL.was(h:BL ss gs n mm k): -17592186044416<=n.p.lo/\n.p.lo<=n.p.hi/\n.p.hi<=17592186044416:=by
 cases ho:n.on with
 | true =>
   obtain⟨_,h2,_,_,_⟩:=h.on ho;obtain⟨q1,q2,q3,_,_⟩:=h2;simp only at q1 q2 q3;omega
 | false=>rw[(h.off ho).2.1];decide
theorem Vb{n:Nv}{mm:List (List Int)}(h:n.w.fa=true):(BO n mm).1.on=false/\(BO n mm).1.p=JG:=by
 unfold BO;rw[h];exact⟨rfl,rfl⟩
theorem Vd{n:Nv}{mm m2:List (List Int)}:(BO n mm).1=(BO n m2).1:=by
 unfold BO;cases n.w.fa<;>rfl
theorem Ve{n:Nv}{mm:List (List Int)}:(BO n mm).1.c=n.c/\(BO n mm).1.sc=n.sc/\(BO n mm).1.ra=n.ra/\(BO n mm).1.ro=n.ro/\(BO n mm).1.m0=n.m0/\(BO n mm).1.m1=n.m1/\(BO n mm).1.w=n.w:=by
 unfold BO;cases n.w.fa<;>exact⟨rfl,rfl,rfl,rfl,rfl,rfl,rfl⟩
theorem Vg{a b:Int}:(Bi ss mm n a b).1.c=n.c/\(Bi ss mm n a b).1.m0=n.m0/\(Bi ss mm n a b).1.m1=n.m1/\(Bi ss mm n a b).1.k0=n.k0/\(Bi ss mm n a b).1.k1=n.k1/\(Bi ss mm n a b).1.s0=n.s0/\(Bi ss mm n a b).1.s1=n.s1/\(Bi ss mm n a b).1.cy=n.cy:=by
 unfold Bi;split
 ·split<;>exact⟨rfl,rfl,rfl,rfl,rfl,rfl,rfl,rfl⟩
 ·exact⟨rfl,rfl,rfl,rfl,rfl,rfl,rfl,rfl⟩
theorem Vh{G:Gr}{x:Fo}{a b:Int}:(C_ G n x a b).c=n.c/\(C_ G n x a b).m0=n.m0/\(C_ G n x a b).m1=n.m1:=by
 unfold C_;obtain⟨x0,y0,x1,y1,e,_,_⟩:=QD n (IJ G n x.g a b) x.at_;rw[e];exact⟨rfl,rfl,rfl⟩
theorem Vi(h:BL ss gs n mm k)(hk:k<1000000)(l:List (List Int))(hl:∀b,b∈l->Ar b/\b.length<=1000000)(qi:l.length<=1000000)(com:Bool)(rs:List (List AV))(yD:rs=l.map Em) :
 AJ Tryz.prog 20 [.ref 0 55 0 0,.list 1 rs,com] [.live 55 [n.row]] (λr hp=>r = .agg (Bp ss gs n mm l com).r.row/\∃j,hp = .live 55 [(Bp ss gs n mm l com).n.row]::j)/\BL ss gs (Bp ss gs n mm l com).n (Bp ss gs n mm l com).mm (k+1):=by
 have hcy:=h.cy;have pX:=h.kk;have hc:=h.cf.in_;have rE:=ND h.tr;have hM:=Vj n.cy ⟨by omega,by omega⟩ l hl qi rs yD (Cc n.cy l) rfl;have hmo:=Vk n.cy (l:=l) λb hb=>(hl b hb).1;have hm5:=VS n.cy (l:=l) λb hb=>(hl b hb).1;obtain⟨m,em⟩:=Z.e (Cc n.cy l);rw[<- em] at hM hmo hm5;obtain⟨n1,lK⟩:∃x:Nv,x={ n with cy:=n.cy+1 }:=⟨_,rfl⟩;have hsn:=h.sn;have wS:=h.nvu;have hdi:=h.di;have hmo0:=h.mo;have hf:=QE (ss:=ss) (mm:=mm) (n:={ n with cy:=n.cy+1 }) m (by show 0<=n.c.c7;omega) (by show 0<=n.c.c6;omega) h.sp
 have hS0:=λv f e=>Vl ss gs mm n1 (by rw[lK];exact⟨wS.es,wS.ds,wS.os,wS.rs⟩) (by rw[lK];exact h.es) (by rw[lK];exact h.ds) h.tr.lensOk rE (λho=>by rw[lK] at ho ⊢;have:=(h.on ho).plc;exact⟨this.fr,this.way,this.few,this.rs⟩)
  (by rw[lK];exact⟨hsn.cf,hsn.k0,hsn.k1,hsn.c0,hsn.c1,hsn.sp⟩) m hmo (by rw[lK];exact Vm rE mm h.g) v f e
 have h3:=λcl=>h.sense hk m cl;rw[<- lK] at hf h3;obtain⟨⟨n2,f⟩,e2⟩:=Z.e (Ce ss mm n1 m);rw[<- e2] at hf h3;have hS:=hS0 n2 f e2
 have lT:n2.c=n.c/\n2.di=n.di/\n2.m0=n.m0/\n2.m1=n.m1:=by
  have:=congrArg Prod.fst e2;rw[IK] at this;simp only at this;rw[this,lK];exact⟨rfl,rfl,rfl,rfl⟩
 simp only at hf h3;obtain⟨⟨f1,f2,f3⟩,f4⟩:=hf;have mY:n1.c=n.c/\n1.lo=n.lo/\n1.hi=n.hi:=by rw[lK];exact⟨rfl,rfl,rfl⟩
 rw[mY.1,mY.2.1] at f1;rw[mY.1,mY.2.2] at f3;have fa: -n.c.c6<=f.lo:=by omega
 have fb:f.hi<=n.c.c6:=by omega
 clear f1 f3;have pF:NvU n2:=by have:=(h3 n2.cl).nvu;exact⟨this.es,this.ds,this.os,this.rs⟩
 obtain⟨n3,uN⟩:∃x:Nv,x={ n2 with cl:=n2.cl && f.cl }:=⟨_,rfl⟩;have h3:=h3 (n2.cl && f.cl);rw[<- uN] at h3;have oI:n3.c=n.c/\n3.di=n.di/\n3.m0=n.m0/\n3.m1=n.m1:=by rw[uN];exact lT
 have h4:=h3.move (a:=f.lo) (b:=f.hi) f2 (by rw[oI.1];exact fa) (by rw[oI.1];exact fb) (by rw[oI.2.1];omega);have mO:=Vg (ss:=ss) (mm:=mm) (n:=n3) (a:=f.lo) (b:=f.hi)
 have hMv0:=λv m2 o e=>(show n3.on=true->AJ Tryz.prog 47 [.ref 0 55 0 0,.agg [f.lo,f.hi]] [.live 55 [n3.row]] (λr hp=>r = .bool o/\∃j,hp = .live 55 [v.row]::j) from λho =>
  Vn ss gs mm n3 h3.nvu h3.es h3.ds h3.tr.lensOk h3.tr.nextOk ho (h3.on ho).fr (h3.on ho).ok (h3.on ho).rs f.lo f.hi f2 Z.o Z.o (by have:=h3.di;omega) v m2 o e)
 have hMv1:=λ(ho:n3.on=false)=>Vo n3 h3.nvu ho f.lo f.hi (by unfold I62;omega) (by unfold I62;omega) (by have:=h3.di;omega) Z.o _ rfl;obtain⟨⟨n4,mm4,ov⟩,e4⟩:=Z.e (Bi ss mm n3 f.lo f.hi);rw[<- e4] at h4 mO;simp only at h4 mO
 have hMv:AJ Tryz.prog 47 [.ref 0 55 0 0,.agg [f.lo,f.hi]] [.live 55 [n3.row]] (λr hp=>r = .bool ov/\∃j,hp = .live 55 [n4.row]::j):=by
  cases ho:n3.on with
  | true=>exact hMv0 n4 mm4 ov e4 ho
  | false =>
    have:=hMv1 ho;unfold Bi at e4;rw[ho,if_neg Z.d] at e4;simp only[Prod.mk.injEq] at e4;rw[e4.1,e4.2.2];rw[ho] at this;exact this
 clear hMv0 hMv1;have uy:=h3.was;obtain⟨x,ex⟩:=Z.e (FY ss gs mm4 n4 n3.p.lo n3.p.hi m f.lo f.hi);have hL:=VV h4 m hm5 n3.on n3.gr n3.p.lo n3.p.hi n3.p.est n3.p.fr n3.p.rs h3.nvu.rs uy.1 uy.2.1 uy.2.2 f.lo f.hi f2 Z.o Z.o x ex;obtain⟨⟨n5,mm5⟩,e5⟩:=Z.e (Dz gs x n4 mm4 f.lo f.hi);have e5k:=e5;unfold Dz at e5
 have h5:BL ss gs n5 mm5 (k+1)/\n5.c=n.c/\n5.m0=n.m0/\n5.m1=n.m1/\(x.ac=true->AJ Tryz.prog 49 [.ref 0 55 0 0,.agg [x.g,.list 1 (x.at_.map Ac),x.ok,x.ac],.agg [f.lo,f.hi]] [.live 55 [n4.row]] (λr hp=>r = .tuple []/\∃j,hp = .live 55 [n5.row]::j))/\(x.ac=false->n5=n4):=by
  cases tK:x.ac with
  | false =>
    rw[tK] at e5;simp only[Prod.mk.injEq] at e5;obtain⟨rfl,rfl⟩:=e5;exact⟨h4,by rw[mO.1,oI.1],by rw[mO.2.1,oI.2.2.1],by rw[mO.2.2.1,oI.2.2.2],(λh=>by cases h),λ_=>rfl⟩
  | true =>
    rw[tK] at e5;obtain⟨uZ,G,hG,ow⟩:=VU ex tK;unfold JH at e5;rw[hG] at e5;simp only[Prod.mk.injEq] at e5;obtain⟨e5,rfl⟩:=e5;have hs:=Vh (n:=n4) (G:=G) (x:=x) (a:=f.lo) (b:=f.hi);rw[<- e5] at hs;have ha:=h4.accept (x:=x) uZ hG f2 (by rw[mO.1,oI.1];exact fa) (by rw[mO.1,oI.1];exact fb);rw[<- e5] at ha;have sH:=h4.tr.grp x.g.toNat (List.getElem?_eq_some_iff.1 hG).1 G hG;have hc4:n4.c=n.c:=(by rw[mO.1,oI.1]);refine⟨ha,by rw[hs.1,hc4],by rw[hs.2.1,mO.2.1,oI.2.2.1],by rw[hs.2.2,mO.2.2.1,oI.2.2.2],λ_=>?_,(λh=>by cases h)⟩;have k0:=h4.k0;have k1:=h4.k1;have s0:=h4.s0;have s1:=h4.s1;rw[<- tK];refine Vp gs n4 h4.nvu h4.ds (by rw[hc4];exact hc.2.2.2.2.1) (by rw[hc4];exact hc.1) x uZ G hG ⟨sH.2.2.2.2.2.2.1,sH.2.2.2.2.2.2.2.1⟩ f.lo f.hi Z.o Z.o f2 ?_ h4.or Z.o Z.o _ rfl n5 e5;intro y hy;rcases ow with ow|ow
    ·rw[ow] at hy;cases hy
    ·rw[ow] at hy
     exact VT ⟨uy.1,uy.2.2⟩ Z.o Z.o (by rw[hc4];exact hc.2.2.2.2.1) ⟨⟨sH.2.2.2.2.2.2.1,sH.2.2.2.2.2.2.2.1⟩,sH.2.2.2.2.2.2.2.2.1,sH.2.2.2.2.2.2.2.2.2.1⟩ y hy
 obtain⟨h5,xZ,zm,zl,hA,hA0⟩:=h5;obtain⟨w6,e6⟩:=Z.e (wtV n5.c.c12 n5.w f.n f.cf ov x.ac);have h7:=h5.watch f.n f.cf ov x.ac;rw[<- e6] at h7;obtain⟨⟨n7,mm7⟩,e7⟩:∃y,y=BO { n5 with w:=w6 } mm5:=⟨_,rfl⟩;rw[<- e7] at h7;simp only at h7;have hs7:=Ve (n:={ n5 with w:=w6 }) (mm:=mm5);rw[<- e7] at hs7;simp only at hs7;obtain⟨t1,t2,t3,t4,t5,t6,t7⟩:=hs7;obtain⟨tQ,e8⟩:=Z.e (En n5.c.c9 n5.c.c10 n5.sc f.lo f.hi f.n);obtain⟨rO,eo8⟩:=Z.e (decide (n5.c.c9<=tQ));obtain⟨q,eq⟩:∃y,y=Dj n5.c.c11 ⟨n5.ra,n5.ro,n5.m0,n5.m1⟩ rO com f.lo f.hi:=⟨_,rfl⟩;have h9:=h7.roll (a:=f.lo) (b:=f.hi) f2 (by rw[t1,xZ];exact fa) (by rw[t1,xZ];exact fb) (by rw[t5,t6,zm,zl];omega) Z.o f.n rO rO com;have e8':En n7.c.c9 n7.c.c10 n7.sc f.lo f.hi f.n=tQ:=by rw[t1,t2];exact e8.symm
 have eq':Dj n7.c.c11 ⟨n7.ra,n7.ro,n7.m0,n7.m1⟩ rO com f.lo f.hi=q:=by rw[t1,t3,t4,t5,t6];exact eq.symm
 rw[e8',eq'] at h9;obtain⟨n9,e9⟩:∃y:Nv,y={ n7 with sc:=tQ,so:=rO,ra:=q.an,ro:=q.on,m0:=q.lo,m1:=q.hi }:=⟨_,rfl⟩;rw[<- e9] at h9;obtain⟨r0,mZ⟩:∃y:Rp,y={ rp0 n.cy with bad:=m.bad,sta:=m.stale,twi:=m.twice,bey:=m.beyond,ac:=x.ac,fa:= !x.ok }:=⟨_,rfl⟩;have pG:r0.rt=[]:=by rw[mZ];rfl
 obtain⟨v,ev⟩:=Z.e (BZ ss gs mm7 r0 n9 f);have hw9:n9.w=w6:=by rw[e9];exact t7
 have hfi:I62 f.lo/\I62 f.hi:=⟨by unfold I62;omega,by unfold I62;omega⟩;have hc9:n9.c=n.c:=by rw[e9];show n7.c=n.c;rw[t1,xZ]
 have hT:AJ Tryz.prog 53 [.ref 0 55 0 0,.ref 1 32 0 0,.agg [f.lo,f.hi,f.n,f.cl,f.cf,f.s0,f.s1]] [.live 55 [match w6.fa with|true=>n9.rowP .nils|false=>n9.row],.live 32 [r0.rowL .nils]] (λx hp=>x = .tuple []/\hp=[.live 55 [n9.row],.live 32 [v.row]]):=by
  cases hfa:w6.fa with
  | true =>
    have ho:=Vb (n:={ n5 with w:=w6 }) (mm:=mm5) hfa;rw[<- e7] at ho;have ho1:n9.on=false:=(by rw[e9];exact ho.1);have qB:n9.p=JG:=(by rw[e9];exact ho.2);exact AJ.weak (Va n9 (by rw[qB];rfl) h9.nvu r0 f) rfl (QF ss gs mm7 n9 h9.nvu ho1 r0 pG f hfi v ev)
  | false =>
    cases ho:n9.on with
    | false=>exact QF ss gs mm7 n9 h9.nvu ho r0 pG f hfi v ev
    | true =>
      have hp:=h9.on ho;obtain⟨uZ,G,hG⟩:=hp.gr;have hwas9:=h9.was;exact Vq ss gs mm7 n9 h9.nvu h9.es h9.ds h9.tr ho (by rw[hc9];exact hc.2.2.2.2.2.2.2.2.2) (by rw[hc9];omega) h9.os hp.fr hp.ok.way hp.ok.few hp.rs Z.o uZ G hG r0 pG f hfi v ev
 have hws:=h5.ws;have xI:=h5.wt;have hsc:=h5.sc
 have key:=Vs n wS (n.cy+1) rfl ⟨by omega,by omega⟩ rs (by rw[yD];exact IL l) com m hM n1 lK n2 pF f hS n3 uN n4 h4.nvu ov hMv x (x.at_.map Ac) (BM (f:=Ac) (λd=>rfl) _) hL n5 h5.nvu hA hA0 w6 e6 (by rw[xZ];exact hc.2.2.2.2.2.2.2.2.1) Z.o Z.o
  n7 (by have:=congrArg Prod.fst e7;rw[show n7=(BO { n5 with w:=w6 } mm5).1 from this];exact Vd) f2 (by rw[xZ];exact hc.2.2.2.2.2.1) (by rw[xZ];exact hc.2.2.2.2.2.2.1) Z.o tQ e8 rO eo8 (by rw[xZ];omega) (by rw[zm,zl];exact hmo0.1) (by rw[zm];unfold InR;omega) (by rw[zl];unfold InR;omega) q eq n9 e9 h9.nvu r0 mZ v hT
 have lX:Bp ss gs n mm l com=⟨n9,mm7,v⟩:=by
  unfold Bp;rw[<- em,<- lK,<- e2];unfold IM;simp only;rw[<- uN,<- e4];unfold IP;simp only;rw[<- ex,<- e5k];unfold stepE;simp only;rw[show n.c=n5.c from xZ.symm,<- e6,<- e7];simp only;rw[t2,t3,t4,t5,t6,<- e8,<- eo8,<- eq,<- e9,<- mZ,<- ev]
 rw[lX];exact⟨key,h9⟩
end
def brN(cy:Int):List AV:=jz 0::jz 0::jz 0::jz 0::jz 0::jz 0::jz 0::jz 0::jz 0::jz 0::jz 0::jz 0::jz 0::jz 0 :: .list 3 [] :: .list 5 [] :: .bool true::jz cy::jz 0::jz 0 :: .list 1 [] :: .bool false :: .int .u16 0::jz 0::[.bool false,.int .u16 0,jz 0,jz 0,jz 0,jz 0,jz 0,jz 0,jz 0,jz 0,.bool false,jz 0,jz 0,jz 0,jz 0,jz 0,.list 13 [],.bool false,jz 0,jz 0,jz 0,jz 0,jz 0,.bool false,.bool false,.bool false,jz 0,jz 0,jz 0,jz 0,.bool false]
inductive Un where
 | br (cy:Int)
 | ok (ss:List Sg) (gs:List Gr) (n:Nv) (mm:List (List Int))
def Un.row:Un->List AV
 | .br cy=>brN cy
 | .ok _ _ n _=>n.row
def Dk(c:Cf):Int:=E8 c.c0 c.c1 c.c2 c.c3 c.c4 c.c5 c.c6 c.c7 c.c8 c.c9 c.c10 c.c11 c.c12 c.c13
def stU(c:Cf)(ss:List Sg)(gs:List Gr):Nv:=⟨c,ss.map Ah,gs.map Ak,0,(FJ ss).1,(FJ ss).2,(List.range ss.length).map λx=>[jz (Er ss x)],⟨false,0,0⟩,⟨false,0,0⟩,c.c1,c.c2,c.c1,c.c2,-c.c6,c.c6,0,false,0,JG,false,0,0,0,0,0,false,false,false,0,0,⟨0,0,false⟩⟩
def FZ(c:Cf)(b:List Int)(ss:List Sg)(gs:List Gr):Prop:=Ep b ss gs/\Dl (Dk c) c.c6 c.c8 ss gs
noncomputable def GI(c:Cf)(b:List Int):Un:=by
 classical
 exact if h:∃x:List Sg×List Gr,FZ c b x.1 x.2 then .ok h.choose.1 h.choose.2 (stU c h.choose.1 h.choose.2) [] else .br 0
theorem NG{c:Cf}{b:List Int}{ss:List Sg}{gs:List Gr}(h:FZ c b ss gs):GI c b = .ok ss gs (stU c ss gs) []:=by
 have hh:∃x:List Sg×List Gr,FZ c b x.1 x.2:=⟨(ss,gs),h⟩;unfold GI;rw[dif_pos hh];have h2:=hh.choose_spec;obtain⟨e1,e2⟩:=h2.1.uniq h.1;rw[e1,e2]
theorem QJ{c:Cf}{b:List Int}(h:∀ss gs,¬FZ c b ss gs):GI c b = .br 0:=by
 unfold GI;rw[dif_neg]
 rintro⟨x,hx⟩
 exact h _ _ hx
theorem WC{n:Nat}{os:List (List AV)}{f:Nat->Int}(h:Own n os f):os=(List.range n).map λx=>[jz (f x)]:=by
 apply List.ext_getElem?;intro x;by_cases hx:x<n
 ·rw[h.at_ x hx,List.getElem?_map,List.getElem?_range hx];rfl
 ·rw[List.getElem?_eq_none (by rw[h.len];omega),List.getElem?_eq_none (by rw[List.length_map,List.length_range];omega)]
theorem NH{c:Cf}{b:List Int}{ss:List Sg}{gs:List Gr}(h:FZ c b ss gs):BL ss gs (stU c ss gs) [] 0:=by
 obtain⟨h1,h2⟩:=h;have hc:ER c:=LH h2.wr;have hi:=hc.in_;have hg:=WE (ND h2.tr);exact⟨hc,h2.tr,rfl,rfl,rfl,by decide,rfl,hg,(by simp only[stU];decide),(by simp only[stU];decide),⟨by show 0<c.c1;omega,by show c.c1<=c.c2;omega,by show c.c2<=_;omega⟩,⟨by show 0<c.c1;omega,by show c.c1<=c.c2;omega,by show c.c2<=_;omega⟩,⟨by show -c.c6 <= -c.c6;omega,by show -c.c6<=c.c6;omega,by show c.c6<=c.c6;omega⟩,(by simp only[stU];decide),(λh=>by cases h),λ_=>⟨rfl,rfl,rfl⟩,(by simp only[stU];decide),(by simp only[stU];decide),(by simp only[stU];decide),(by simp only[stU];decide),(by simp only[stU];decide),(by simp only[stU];decide),(by simp only[stU];decide)⟩
theorem WF(c:Cf)(b:List Int)(hb:Ar b)(sP:b.length<=1000000000)(rs:List (List AV))(yD:rs=b.map AZ) :
 AJ Tryz.prog 15 [.agg [c.c0,c.c1,c.c2,c.c3,c.c4,c.c5,c.c6,c.c7,c.c8,c.c9,c.c10,c.c11,c.c12,c.c13],.list 1 rs] [] (λr hD=>r = .ref 0 55 0 0/\hD=[.live 55 [(GI c b).row]]):=by
 refine AJ.give ?_;have qo:=W9 b hb sP rs yD;have lW:Up0 rs:=by rw[yD];exact Ao _
 obtain⟨u,eu⟩:=Z.e (GI c b);rw[<- eu];have kU:=λss gs (h:FZ c b ss gs)=>(eu.trans (NG h));have ku:=λ(h:∀ss gs,¬FZ c b ss gs)=>(eu.trans (QJ h));clear eu;obtain⟨c0,c1,c2,c3,c4,c5,c6,c7,c8,c9,c10,c11,c12,c13⟩:=c;refine Z.x Tryz.func15 λ_ zE _ _ _ _ _ _ zA _ _ _ _ hz P hP=>?_;cbv;refine Call.step (by rw[<- hP];exact qo) Z.u ?_;rintro r (⟨ss,gs,es,ds,hO,zQ,zY,rfl⟩|⟨e,he,hO,rfl⟩)
 ·have hu:Up0 es:=by rw[zQ];exact Bu ss
  have lH:Up0 ds:=(by rw[zY];exact Bv gs);have qG:ss.length<=1000000:=by have:=hO.tr.le;omega
  have uF:gs.length<=1000000:=by have:=hO.tr.gle;omega
  have qf:=WG c0 c1 c2 c3 c4 c5 c6 c7 c8 c9 c10 c11 c12 c13 ss gs qG uF es ds zQ zY;have d0:=W.eq zA (a:=0) rfl;cbv;repeat' (first|(simp only[d0];cbv)|fail)
  refine Call.step (by rw[<- hP];exact qf) Z.u ?_;rintro r ⟨e,i,rfl,he⟩;by_cases h0:e=0
  ·subst h0
   have hN:FZ ⟨c0,c1,c2,c3,c4,c5,c6,c7,c8,c9,c10,c11,c12,c13⟩ b ss gs:=⟨hO,he.1 rfl⟩;obtain rfl:=kU ss gs hN;have hT:=hO.tr;have kX:=(NH hN).nvu.row;obtain⟨g0,eg0⟩:∃x,x=(FJ ss).1:=⟨_,rfl⟩;obtain⟨g1,eg1⟩:∃x,x=(FJ ss).2:=⟨_,rfl⟩;obtain⟨os,eos⟩:∃x,x=(List.range ss.length).map λx=>[jz (Er ss x)]:=⟨_,rfl⟩;obtain⟨m6,em6⟩:∃x,x = -c6:=⟨_,rfl⟩;have hc:=(LH (he.1 rfl).wr:ES _ _ _ _ _ _ _ _ _ _ _ _ _ _);have hi:=(show ER ⟨c0,c1,c2,c3,c4,c5,c6,c7,c8,c9,c10,c11,c12,c13⟩ from hc).in_;simp only at hi;have q1:=WH ss gs es ds zQ zY hT.ne qG hT.lensOk (ND hT) g0 g1 (by rw[eg0,eg1]);have q2:=(WI ss gs es ds zQ zY hT).mono (R':=(· = .list 1 os)) (by rintro r ⟨o,rfl,ho⟩;rw[WC ho,eos];rfl);have q3:=WJ c0 c1 c2 c3 c4 c5 c6 c7 c8 c9 c10 c11 c12 c13;have q4:=QK c0 c1 c2 c3 c4 c5 c6 c7 c8 c9 c10 c11 c12 c13 m6 em6 ⟨by omega,by omega⟩;have lY:Up0 os:=(by rw[eos];exact BM (f:=λx=>[jz (Er ss x)]) (λd=>rfl) _);have zL:(Un.ok ss gs (stU ⟨c0,c1,c2,c3,c4,c5,c6,c7,c8,c9,c10,c11,c12,c13⟩ ss gs) []).row=({ stU ⟨c0,c1,c2,c3,c4,c5,c6,c7,c8,c9,c10,c11,c12,c13⟩ ss gs with es:=es,ds:=ds,os:=os,g0:=g0,g1:=g1,lo:=m6 }:Nv).row:=(by rw[zQ,zY,eos,eg0,eg1,em6];rfl);rw[zL];clear zL kX hi hc eos eg0 eg1 em6 kU ku he hN hO zQ zY qo qf;cbv;have d3:zE .neq 0 0=false:=W.nne zA rfl;repeat' (first|(simp only[d0,d3];cbv)|(refine AB.s hP q1 ?_;cbv)|(refine AB.s hP q2 ?_;cbv)|(refine AB.s hP q3 ?_;cbv)|(refine AB.s hP q4 ?_;cbv)|fail)
   refine WkB.mk ?_;(refine Z.k (λj=>[2].getD j 0) ?_;cbv<;>exact Z.q)
  ·obtain rfl:=ku λss' gs' h=>by
    obtain⟨rfl,rfl⟩:=h.1.uniq hO;exact h0 (he.2 h.2)
   clear kU ku hO qo qf he;have d1:=W.neq zA h0;have d2:=W.ne zA h0;cbv;repeat' (first|(simp only[d1,d2,d0];cbv)|fail)
   refine WkB.mk ?_;(refine Z.k (λj=>[2].getD j 0) ?_;cbv<;>exact Z.q)
 ·obtain rfl:=ku λss gs h=>hO ss gs h.1
  clear kU ku hO qo;have d1:=W.neq zA he;have d2:=W.ne zA he;cbv;repeat' (first|(simp only[d1,d2];cbv)|fail)
  refine WkB.mk ?_;(refine Z.k (λj=>[2].getD j 0) ?_;cbv<;>exact Z.q)
noncomputable def Dm:Un->List (List Int)->Bool->Un×Rp
 | .br cy,_,_=>(.br (cy+1),rp0 cy)
 | .ok ss gs n mm,l,com=>(.ok ss gs (Bp ss gs n mm l com).n (Bp ss gs n mm l com).mm,(Bp ss gs n mm l com).r)
def UI(k:Int):Un->Prop
 | .br cy=>cy=k/\0<=k/\k<=1000000
 | .ok ss gs n mm=>BL ss gs n mm k
theorem UI.up{k:Int}:∀ {u:Un},UI k u->Up0 [u.row]
 | .br cy,_=>⟨rfl⟩
 | .ok ss gs n mm,h=>h.nvu.row
theorem WK(cy:Int)(hcy:0<=cy/\cy<=1000000000)(ls:List (List AV))(hls:Up0 ls)(com:Bool) :
 AJ Tryz.prog 20 [.ref 0 55 0 0,.list 1 ls,com] [.live 55 [brN cy]] (λr hp=>r = .agg (rp0 cy).row/\∃j,hp = .live 55 [brN (cy+1)]::j):=by
 refine AJ.mono (AJ.give (h':=[.live 55 [brN (cy+1)]]) (r':=.agg (rp0 cy).row) ?_) (λr h hh=>⟨hh.1,[],hh.2⟩);obtain⟨xy,ecy⟩:=Z.f (cy+1);rw[ecy];have f1:AF .add .i64 cy 1=xy:=by rw[Ag Z.o Z.o];exact ecy
 clear hcy ecy;(refine AJ.ofP (F:=[6,19]) (sc:=?scc) (r:=?rr) Tryz.func20 (by kernel_rfl) rfl ?hr ?hc (by kernel_rfl) λw hw=>?H);(case hr=>((conv=>lhs;cbv);(try exact rfl)));(case hc=>((repeat' (first|refine' IQ ?_ ?_|refine' IR ?_|refine' IU ?_|refine' Cg (id:=6) QL rfl (by kernel_rfl) ?_|refine' Cg (id:=19) QM rfl (by kernel_rfl) ?_|fail));(try any_goals (conv=>lhs;cbv));(try any_goals exact rfl)));(obtain⟨zB,zE,yN,zD,zF,zX,yO,zP,zS,zR,yA,yB,zK,zU,zM,zN,zO,yG,zT,yH⟩:=w);(have zC:=Z.w1 hw);(have zA:=Z.w2 hw);(have yJ:=Z.w3 hw);(have zG:=Z.w4 hw);(have zI:=Z.w5 hw);(have yM:=Z.w6 hw);(have yS:=Z.w7 hw);(have zZ:=Z.w8 hw);(have yF:=Z.w9 hw);(have yE:=Z.w10 hw);(have yT:=Z.w11 hw);(have yU:=Z.w12 hw);(have zH:=Z.w13 hw);(have yR:=Z.w14 hw);(have zV:=Z.w15 hw);(have yI:=Z.w16 hw);(have yL:=Z.w17 hw);(have yX:=Z.w18 hw);(have yQ:=Z.w19 hw);(have yY:=Z.w20 hw);(have hz:=Z.z hw);(conv=>arg 4;cbv);(generalize hP:Tryz.prog=P);cbv;have f1:zB .add .i64 cy 1=xy:=by rw[zC];exact f1
 simp only[f1];have hu0:Up0 ([]:List (List AV)):=⟨rfl⟩;refine WkB.mk ?_;(refine Z.n (λi=>i) ?_;cbv<;>exact Z.q)
theorem QN{k:Int}{u:Un}(h:UI k u)(hk:k<1000000)(l:List (List Int))(hl:∀b,b∈l->Ar b/\b.length<=1000000)(qi:l.length<=1000000)(com:Bool)(rs:List (List AV))(yD:rs=l.map Em) :
 AJ Tryz.prog 20 [.ref 0 55 0 0,.list 1 rs,com] [.live 55 [u.row]] (λr hp=>r = .agg (Dm u l com).2.row/\∃j,hp = .live 55 [(Dm u l com).1.row]::j)/\UI (k+1) (Dm u l com).1:=by
 cases u with
 | br cy =>
   obtain⟨h1,h2,h3⟩:=h;exact⟨WK cy ⟨by omega,by omega⟩ rs (by rw[yD];exact IL l) com,by show cy+1=k+1;omega,by omega,by omega⟩
 | ok ss gs n mm=>exact Vi h hk l hl qi com rs yD
noncomputable def BP:Un->List (List (List Int)×Bool)->List Rp
 | _,[]=>[]
 | u,c::l=>(Dm u c.1 c.2).2::BP (Dm u c.1 c.2).1 l
noncomputable def Es:Un->List (List (List Int)×Bool)->Un
 | u,[]=>u
 | u,c::l=>Es (Dm u c.1 c.2).1 l
theorem NI:∀(a b:List (List (List Int)×Bool)) (u:Un),BP u (a++b)=BP u a++BP (Es u a) b
 | [],b,u=>rfl
 | c::a,b,u=>by
   simp only[List.cons_append,BP,Es];rw[NI a b]
theorem QO:∀(a b:List (List (List Int)×Bool)) (u:Un),Es u (a++b)=Es (Es u a) b
 | [],b,u=>rfl
 | c::a,b,u=>by
   simp only[List.cons_append,Es];rw[QO a b]
theorem WL(c:Cf)(b:List Int):UI 0 (GI c b):=by
 by_cases h:∃x:List Sg×List Gr,FZ c b x.1 x.2
 ·obtain⟨x,hx⟩:=h
  rw[NG hx];exact NH hx
 ·rw[QJ λss gs hh=>h ⟨(ss,gs),hh⟩]
  exact⟨rfl,by decide,by decide⟩
theorem LX(n:Nv)(mm:List (List Int)):(BO n mm).1.w=n.w:=by unfold BO;split<;>rfl
theorem NV(n:Nv)(mm:List (List Int))(h:(BO n mm).1.on=true):n.on=true/\n.w.fa=false:=by
 unfold BO at h;split at h
 ·simp at h
 ·exact⟨h,by assumption⟩
theorem Qn(ss:List Sg)(gs:List Gr)(mm:List (List Int))(r:Rp)(n:Nv)(f:Fu):(BZ ss gs mm r n f).md=EB n.w.fa n.on f.n f.cf/\(BZ ss gs mm r n f).ac=r.ac/\(n.on=false->(BZ ss gs mm r n f).gr=r.gr)/\(n.on=true->(BZ ss gs mm r n f).gr=match gs[n.gr.toNat]? with|some G=>G.id|none=>0):=by
 unfold BZ;cases n.on
 ·exact⟨rfl,rfl,λ_=>rfl,(λh=>by cases h)⟩
 ·exact⟨rfl,rfl,(λh=>by cases h),λ_=>rfl⟩
def H9(l:List (List (List Int)×Bool)):Prop:=∀c,c∈l->c.1.length<=1000000/\∀b,b∈c.1->Ar b/\b.length<=1000000
theorem UI.next{k:Int}{u:Un}(h:UI k u)(hk:k<1000000){c:List (List Int)×Bool}(hc:c.1.length<=1000000/\∀b,b∈c.1->Ar b/\b.length<=1000000):UI (k+1) (Dm u c.1 c.2).1:=(QN h hk c.1 hc.2 hc.1 c.2 _ rfl).2
theorem X6(G:Gr)(n:Nv)(x:Fo)(a b:Int):(C_ G n x a b).lo=n.lo/\(C_ G n x a b).hi=n.hi:=by
 unfold C_ lrn?;split<;>exact⟨rfl,rfl⟩
theorem Qk(gs:List Gr)(x:Fo)(n:Nv)(mm:List (List Int))(a b:Int):(Dz gs x n mm a b).1.lo=n.lo/\(Dz gs x n mm a b).1.hi=n.hi:=by
 unfold Dz;split
 ·unfold JH
  split
  ·exact X6 _ _ _ _ _
  ·exact⟨rfl,rfl⟩
 ·exact⟨rfl,rfl⟩
theorem Ql(ss:List Sg)(mm:List (List Int))(n:Nv)(a b:Int):(Bi ss mm n a b).1.lo=a/\(Bi ss mm n a b).1.hi=b:=by
 unfold Bi;split
 ·split<;>exact⟨rfl,rfl⟩
 ·exact⟨rfl,rfl⟩
theorem Qm(n:Nv)(mm:List (List Int)):(BO n mm).1.lo=n.lo/\(BO n mm).1.hi=n.hi:=by unfold BO;split<;>exact⟨rfl,rfl⟩
theorem X7{ss:List Sg}{gs:List Gr}{mm:List (List Int)}{r:Rp}{n:Nv}{f:Fu}(h:n.on=true):(BZ ss gs mm r n f).lo=n.p.lo/\(BZ ss gs mm r n f).hi=n.p.hi/\(BZ ss gs mm r n f).es=n.p.est/\(BZ ss gs mm r n f).rt=mm:=by
 unfold BZ;rw[h];exact⟨rfl,rfl,rfl,rfl⟩
theorem X8{ss:List Sg}{gs:List Gr}{mm:List (List Int)}{r:Rp}{n:Nv}{f:Fu}(h:n.on=false):(BZ ss gs mm r n f).lo=r.lo/\(BZ ss gs mm r n f).hi=r.hi/\(BZ ss gs mm r n f).es=r.es/\(BZ ss gs mm r n f).rt=r.rt:=by
 unfold BZ;rw[h];exact⟨rfl,rfl,rfl,rfl⟩
theorem X9(ss:List Sg)(gs:List Gr)(mm:List (List Int))(r:Rp)(n:Nv)(f:Fu):(BZ ss gs mm r n f).sl=f.lo/\(BZ ss gs mm r n f).sh=f.hi/\(BZ ss gs mm r n f).no=(f.lo+f.hi)/2:=by
 unfold BZ
 cases n.on<;>exact⟨rfl,rfl,rfl⟩
theorem XA(ss:List Sg)(gs:List Gr)(n:Nv)(m:Ml)(com:Bool)(f:Fu)(ov:Bool)(x:Fo)(u:Nv×List (List Int)):∃(n9:Nv) (t:List (List Int)) (r0:Rp),stepE ss gs n m com f ov x u=⟨n9,t,BZ ss gs t r0 n9 f⟩/\(r0.lo=0/\r0.hi=0/\r0.es=0/\r0.rt=[])/\(n9.on=true->n9.w.fa=false)/\n9.lo=u.1.lo/\n9.hi=u.1.hi:=
 ⟨_,_,_,rfl,⟨rfl,rfl,rfl,rfl⟩,λh=>(congrArg Wt.fa (LX _ _)).trans (NV _ _ h).2,(Qm _ _).1,(Qm _ _).2⟩
theorem XB{fit:Int}{cf:Bool}:EB false true fit cf=2\/EB false true fit cf=3:=by
 unfold EB;simp only[Bool.false_eq_true,if_false,Bool.not_true];split
 ·exact .inr rfl
 ·exact .inl rfl
theorem XC{fa:Bool}{fit:Int}{cf:Bool}:EB fa false fit cf=1\/EB fa false fit cf=4:=by
 unfold EB;cases fa
 ·exact .inl rfl
 ·exact .inr rfl
theorem XD{ss:List Sg}{gs:List Gr}{n:Nv}{mm:List (List Int)}{l:List (List Int)}{com:Bool}{s:Ex}(h7:0<=n.c.c7)(h6:0<=n.c.c6)(hsp: -n.c.c6<=n.lo/\n.lo<=n.hi/\n.hi<=n.c.c6)(e:s=Bp ss gs n mm l com) :
 s.n.lo=s.r.sl/\s.n.hi=s.r.sh/\s.r.no=(s.r.sl+s.r.sh)/2/\(max (n.lo-n.c.c7) (-n.c.c6)<=s.r.sl/\s.r.sl<=s.r.sh/\s.r.sh<=min (n.hi+n.c.c7) n.c.c6) /\
 (s.n.on=true->s.r.lo=s.n.p.lo/\s.r.hi=s.n.p.hi/\s.r.es=s.n.p.est/\s.r.rt=s.mm/\(s.r.md=2\/s.r.md=3))/\(s.n.on=false->s.r.lo=0/\s.r.hi=0/\s.r.es=0/\s.r.rt=[]/\(s.r.md=1\/s.r.md=4)):=by
 have hf:=(QE (ss:=ss) (mm:=mm) (n:={ n with cy:=n.cy+1 }) (Cc n.cy l) h7 h6 hsp).1;unfold Bp IM IP at e;simp only at e;obtain⟨n9,t,r0,h1,h2,h3,h4,h5⟩:=XA ss gs n (Cc n.cy l) com (Ce ss mm { n with cy:=n.cy+1 } (Cc n.cy l)).2 _ _ _;rw[h1] at e;subst e;obtain⟨k1,k2,k3⟩:=X9 ss gs t r0 n9 (Ce ss mm { n with cy:=n.cy+1 } (Cc n.cy l)).2;obtain⟨k4,_⟩:=Qn ss gs t r0 n9 (Ce ss mm { n with cy:=n.cy+1 } (Cc n.cy l)).2;simp only[k1,k2,k3,k4];refine⟨?_,?_,trivial,hf,λho=>?_,λho=>?_⟩
 ·rw[h4,(Qk _ _ _ _ _ _).1,(Ql _ _ _ _ _).1]
 ·rw[h5,(Qk _ _ _ _ _ _).2,(Ql _ _ _ _ _).2]
 ·obtain⟨a1,a2,a3,a4⟩:=X7 (ss:=ss) (gs:=gs) (mm:=t) (r:=r0) (f:=(Ce ss mm { n with cy:=n.cy+1 } (Cc n.cy l)).2) ho
  exact⟨a1,a2,a3,a4,by rw[h3 ho,ho];exact XB⟩
 ·obtain⟨a1,a2,a3,a4⟩:=X8 (ss:=ss) (gs:=gs) (mm:=t) (r:=r0) (f:=(Ce ss mm { n with cy:=n.cy+1 } (Cc n.cy l)).2) ho
  exact⟨a1.trans h2.1,a2.trans h2.2.1,a3.trans h2.2.2.1,a4.trans h2.2.2.2,by rw[ho];exact XC⟩
end Go.Proofs.YtlchlddijclhjaaGreat
