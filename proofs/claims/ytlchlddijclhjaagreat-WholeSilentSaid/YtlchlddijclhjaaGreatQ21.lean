/- Parts of the proofs. -/
import Derived.Test.YtlchlddijclhjaaGreatQ20
import Derived.Test.YtlchlddijclhjaaGreatQ19
import Derived.Test.YtlchlddijclhjaaGreatQ11
import Derived.Test.YtlchlddijclhjaaGreatQZ
set_option linter.unusedVariables false
set_option linter.unusedSimpArgs false
set_option maxHeartbeats 4000000
namespace Go.Proofs.YtlchlddijclhjaaGreat
open Go Go.RowKit Go.Eng
set_option maxRecDepth 100000
def M5(m:Ml):Prop:=m.has 5=true->0<=m.val 5/\m.val 5<=65535
theorem VQ{s:Int}{m:Ml}(h:M5 m){l:List Int}(hl:Ar l):M5 (Dy s m (frV l)):=by
 have hf:=QB hl;unfold Dy;split
 ·exact h
 ·rename_i he
  have he:(frV l).e=0:=Classical.not_not.1 he;have hf:=hf he;split
  ·exact h
  ·split
   ·exact h
   ·generalize frV l=F at hf ⊢
    obtain⟨k,sq,v,e⟩:=F;obtain⟨h1,h2,h3,h4,h5,v1,v2,v3,v4,v5,bad,stale,twice,beyond⟩:=m;have hk:k=1\/k=2\/k=3\/k=4\/k=5:=(by simp only at hf;omega);rcases hk with rfl|rfl|rfl|rfl|rfl
    ·exact λhh=>h hh
    ·exact λhh=>h hh
    ·exact λhh=>h hh
    ·exact λhh=>h hh
    ·exact λhh=>by show 0<=v/\v<=65535;simp only at hf;omega
theorem QC{s:Int}:∀(l:List (List Int)) (m:Ml),M5 m->(∀b,b∈l->Ar b)->M5 (l.foldl (λm b=>Dy s m (frV b)) m)
 | [],m,h,_=>h
 | b::l,m,h,hb=>by
   rw[List.foldl_cons];exact QC l _ (VQ h (hb b List.mem_cons_self)) λx hx=>hb x (List.mem_cons_of_mem _ hx)
theorem VS(c:Int){l:List (List Int)}(h:∀b,b∈l->Ar b):M5 (Cc c l):=by
 unfold Cc;exact QC _ _ (λh=>by simp[ml0,Ml.has] at h) λb hb=>h b (List.mem_of_mem_take hb)
section
variable {ss:List Sg} {gs:List Gr} {n:Nv} {mm:List (List Int)} {k:Int}
theorem VT{ss:List Sg}{mm:List (List Int)}{n:Nv}{wl wh a b:Int}{G:Gr}(hw: -17592186044416<=wl/\wh<=17592186044416)(ha: -16777216<=a)(hb:b<=16777216)(h8:0<=n.c.c8/\n.c.c8<=1048576)(hG:(0<=G.acc/\G.acc<=1048576)/\0<=G.sl/\G.sl<=16777216):∀y,y∈FH ss mm n wl wh a b G -> -35184372088832<=y/\y<=35184372088832:=λy hy=>by
 unfold FH Cz at hy;have:=of_decide_eq_true (List.mem_filter.1 hy).2;omega
theorem VU{wl wh a b:Int}{m:Ml}{x:Fo}(ex:x=FY ss gs mm n wl wh m a b)(h:x.ac=true):0<=x.g/\∃G,gs[x.g.toNat]?=some G/\(x.at_=[]\/x.at_=FH ss mm n wl wh a b G):=by
 unfold FY at ex;split at ex
 ·rw[ex] at h;cases h
 ·split at ex
  ·rw[ex] at h;cases h
  ·rename_i i hi
   split at ex
   ·rw[ex] at h;cases h
   ·rename_i G hG
    split at ex
    ·rw[ex];exact⟨Int.natCast_nonneg i,G,by simpa using hG,.inl rfl⟩
    ·rw[ex];exact⟨Int.natCast_nonneg i,G,by simpa using hG,.inr rfl⟩
theorem VV(h:BL ss gs n mm k)(m:Ml)(h5:M5 m)(won:Bool)(wgr wl wh we wfr:Int)(ws:List (List AV))(huw:Up0 ws)(hwl: -17592186044416<=wl)(hww:wl<=wh)(hwh:wh<=17592186044416)(a b:Int)(hab:a<=b)(ha: -16777216<=a)(hb:b<=16777216)(x:Fo)(ex:x=FY ss gs mm n wl wh m a b) :
 AJ Tryz.prog 48 [.ref 0 55 0 0,.agg m.row,.agg [won,wgr,wl,wh,we,wfr,.list 13 ws],.agg [a,b]] [.live 55 [n.row]] (λr hp=>r = .agg [x.g,.list 1 (x.at_.map Ac),x.ok,x.ac]/\∃j,hp = .live 55 [n.row]::j):=by
 have hc:=h.cf.in_;unfold FY at ex;split at ex
 ·rename_i hm
  rw[ex];exact VW n h.nvu m hm won wgr wl wh we wfr ws huw a b
 ·rename_i hm
  have hm:m.has 5=true:=(by cases hh:m.has 5 with|true=>rfl|false=>exact absurd hh hm);have hid:=h5 hm;split at ex
  ·rename_i hno
   rw[ex];refine VX ss gs n h.nvu h.es h.ds h.tr m hm _ rfl Z.o (λg hg hge=>?_) won wgr wl wh we wfr ws huw a b;have:=List.findIdx?_eq_none_iff.1 hno g hg;simp[hge] at this
  ·rename_i i hi
   obtain⟨hil,hik,_⟩:=List.findIdx?_eq_some_iff_getElem.1 hi;have hG:gs[i]?=some gs[i]:=List.getElem?_eq_getElem hil;rw[hG] at ex;simp only at ex;have hik:gs[i].id=m.val 5:=(by simpa using hik);split at ex
   ·rename_i hon
    rw[ex];exact VY ss gs n h.nvu h.es h.ds h.tr m hm _ rfl Z.o i (Int.natCast_nonneg i) gs[i] (by simp) hik hon won wgr wl wh we wfr ws huw a b
   ·rename_i hon
    have hon:n.on=true:=(by cases hh:n.on with|true=>rfl|false=>exact absurd hh hon);rw[ex];exact VZ ss gs mm n h.nvu h.es h.ds h.tr hc.2.2.2.2.1 m hm _ rfl Z.o i (Int.natCast_nonneg i) gs[i] (by simp) hik hon (h.on hon).plc won wgr wl wh we wfr ws huw hwl hww hwh a b hab Z.o Z.o _ rfl _ rfl
theorem Va(n:Nv)(hr:n.p.rs=[])(hu:NvU n)(r:Rp)(f:Fu):WkB 2 [.ref 0 55 0 0,.ref 1 32 0 0,.agg [f.lo,f.hi,f.n,f.cl,f.cf,f.s0,f.s1]] [.live 55 [n.rowP .nils],.live 32 [r.rowL .nils]] [.ref 0 55 0 0,.ref 1 32 0 0,.agg [f.lo,f.hi,f.n,f.cl,f.cf,f.s0,f.s1]] [.live 55 [n.row],.live 32 [r.rowL .nils]]:=by
 have hu1:=hu.rowN_up;have hu2:=r.upL;have hu3:=hu.row;obtain⟨hue,hud,huo,hur⟩:=hu;obtain⟨⟨c0,c1,c2,c3,c4,c5,c6,c7,c8,c9,c10,c11,c12,c13⟩,es,ds,cy,g0,g1,os,⟨kn0,la0,su0⟩,⟨kn1,la1,su1⟩,a0,b0,a1,b1,lo,hi,di,on,gr,⟨pl,ph,pe,fr,rs⟩,cl,o0,o1,s0,s1,sc,so,ra,ro,m0,m1,⟨wi,wt,wf⟩⟩:=n;simp only at hue hud huo hur hr;subst hr;obtain⟨flo,fhi,fn,fcl,fcf,fs0,fs1⟩:=f;refine WkB.mk ?_;(refine Z.n (id) ?_;cbv<;>exact Z.q)
end
section
variable {ss:List Sg} {gs:List Gr} {n:Nv} {mm:List (List Int)} {k:Int}
theorem BL.was(h:BL ss gs n mm k): -17592186044416<=n.p.lo/\n.p.lo<=n.p.hi/\n.p.hi<=17592186044416:=by
 cases ho:n.on with
 | true =>
   obtain⟨_,h2,_,_,_⟩:=h.on ho;obtain⟨q1,q2,q3,_,_⟩:=h2;simp only at q1 q2 q3;omega
 | false=>rw[(h.off ho).2.1];decide
theorem Vb{n:Nv}{mm:List (List Int)}(h:n.w.fa=true):(BO n mm).1.on=false/\(BO n mm).1.p=JG:=by
 unfold BO;rw[h];exact⟨rfl,rfl⟩
theorem Vd{n:Nv}{mm m2:List (List Int)}:(BO n mm).1=(BO n m2).1:=by
 unfold BO;cases n.w.fa<;>rfl
theorem Ve{n:Nv}{mm:List (List Int)}:(BO n mm).1.c=n.c/\(BO n mm).1.sc=n.sc/\(BO n mm).1.ra=n.ra/\(BO n mm).1.ro=n.ro/\(BO n mm).1.m0=n.m0/\(BO n mm).1.m1=n.m1/\(BO n mm).1.w=n.w:=by
 unfold BO;cases n.w.fa<;>exact⟨rfl,rfl,rfl,rfl,rfl,rfl,rfl⟩
theorem Vg{a b:Int}:(Bi ss mm n a b).1.c=n.c/\(Bi ss mm n a b).1.m0=n.m0/\(Bi ss mm n a b).1.m1=n.m1/\(Bi ss mm n a b).1.k0=n.k0/\(Bi ss mm n a b).1.k1=n.k1/\(Bi ss mm n a b).1.s0=n.s0/\(Bi ss mm n a b).1.s1=n.s1/\(Bi ss mm n a b).1.cy=n.cy:=by
 unfold Bi;split
 ·split<;>exact⟨rfl,rfl,rfl,rfl,rfl,rfl,rfl,rfl⟩
 ·exact⟨rfl,rfl,rfl,rfl,rfl,rfl,rfl,rfl⟩
theorem Vh{G:Gr}{x:Fo}{a b:Int}:(C_ G n x a b).c=n.c/\(C_ G n x a b).m0=n.m0/\(C_ G n x a b).m1=n.m1:=by
 unfold C_;obtain⟨x0,y0,x1,y1,e,_,_⟩:=QD n (IJ G n x.g a b) x.at_;rw[e];exact⟨rfl,rfl,rfl⟩
theorem Vi(h:BL ss gs n mm k)(hk:k<1000000)(l:List (List Int))(hl:∀b,b∈l->Ar b/\b.length<=1000000)(hll:l.length<=1000000)(com:Bool)(rs:List (List AV))(yD:rs=l.map Em) :
 AJ Tryz.prog 20 [.ref 0 55 0 0,.list 1 rs,com] [.live 55 [n.row]] (λr hp=>r = .agg (Bp ss gs n mm l com).r.row/\∃j,hp = .live 55 [(Bp ss gs n mm l com).n.row]::j)/\BL ss gs (Bp ss gs n mm l com).n (Bp ss gs n mm l com).mm (k+1):=by
 have hcy:=h.cy;have hkk:=h.kk;have hc:=h.cf.in_;have hpc:=ND h.tr;have hM:=Vj n.cy ⟨by omega,by omega⟩ l hl hll rs yD (Cc n.cy l) rfl;have hmo:=Vk n.cy (l:=l) λb hb=>(hl b hb).1;have hm5:=VS n.cy (l:=l) λb hb=>(hl b hb).1;obtain⟨m,em⟩:=Z.e (Cc n.cy l);rw[<- em] at hM hmo hm5;obtain⟨n1,en1⟩:∃x:Nv,x={ n with cy:=n.cy+1 }:=⟨_,rfl⟩;have hsn:=h.sn;have hnu:=h.nvu;have hdi:=h.di;have hmo0:=h.mo;have hf:=QE (ss:=ss) (mm:=mm) (n:={ n with cy:=n.cy+1 }) m (by show 0<=n.c.c7;omega) (by show 0<=n.c.c6;omega) h.sp
 have hS0:=λv f e=>Vl ss gs mm n1 (by rw[en1];exact⟨hnu.es,hnu.ds,hnu.os,hnu.rs⟩) (by rw[en1];exact h.es) (by rw[en1];exact h.ds) h.tr.lensOk hpc (λho=>by rw[en1] at ho ⊢;have:=(h.on ho).plc;exact⟨this.fr,this.way,this.few,this.rs⟩)
  (by rw[en1];exact⟨hsn.cf,hsn.k0,hsn.k1,hsn.c0,hsn.c1,hsn.sp⟩) m hmo (by rw[en1];exact Vm hpc mm h.g) v f e
 have h3:=λcl=>h.sense hk m cl;rw[<- en1] at hf h3;obtain⟨⟨n2,f⟩,e2⟩:=Z.e (Ce ss mm n1 m);rw[<- e2] at hf h3;have hS:=hS0 n2 f e2
 have hc2:n2.c=n.c/\n2.di=n.di/\n2.m0=n.m0/\n2.m1=n.m1:=by
  have:=congrArg Prod.fst e2;rw[IK] at this;simp only at this;rw[this,en1];exact⟨rfl,rfl,rfl,rfl⟩
 simp only at hf h3;obtain⟨⟨f1,f2,f3⟩,f4⟩:=hf;have hc1:n1.c=n.c/\n1.lo=n.lo/\n1.hi=n.hi:=by rw[en1];exact⟨rfl,rfl,rfl⟩
 rw[hc1.1,hc1.2.1] at f1;rw[hc1.1,hc1.2.2] at f3;have fa: -n.c.c6<=f.lo:=by omega
 have fb:f.hi<=n.c.c6:=by omega
 clear f1 f3;have hu2:NvU n2:=by have:=(h3 n2.cl).nvu;exact⟨this.es,this.ds,this.os,this.rs⟩
 obtain⟨n3,en3⟩:∃x:Nv,x={ n2 with cl:=n2.cl && f.cl }:=⟨_,rfl⟩;have h3:=h3 (n2.cl && f.cl);rw[<- en3] at h3;have hc3:n3.c=n.c/\n3.di=n.di/\n3.m0=n.m0/\n3.m1=n.m1:=by rw[en3];exact hc2
 have h4:=h3.move (a:=f.lo) (b:=f.hi) f2 (by rw[hc3.1];exact fa) (by rw[hc3.1];exact fb) (by rw[hc3.2.1];omega);have hsame:=Vg (ss:=ss) (mm:=mm) (n:=n3) (a:=f.lo) (b:=f.hi)
 have hMv0:=λv m2 o e=>(show n3.on=true->AJ Tryz.prog 47 [.ref 0 55 0 0,.agg [f.lo,f.hi]] [.live 55 [n3.row]] (λr hp=>r = .bool o/\∃j,hp = .live 55 [v.row]::j) from λho =>
  Vn ss gs mm n3 h3.nvu h3.es h3.ds h3.tr.lensOk h3.tr.nextOk ho (h3.on ho).fr (h3.on ho).ok (h3.on ho).rs f.lo f.hi f2 Z.o Z.o (by have:=h3.di;omega) v m2 o e)
 have hMv1:=λ(ho:n3.on=false)=>Vo n3 h3.nvu ho f.lo f.hi (by unfold I62;omega) (by unfold I62;omega) (by have:=h3.di;omega) Z.o _ rfl;obtain⟨⟨n4,mm4,ov⟩,e4⟩:=Z.e (Bi ss mm n3 f.lo f.hi);rw[<- e4] at h4 hsame;simp only at h4 hsame
 have hMv:AJ Tryz.prog 47 [.ref 0 55 0 0,.agg [f.lo,f.hi]] [.live 55 [n3.row]] (λr hp=>r = .bool ov/\∃j,hp = .live 55 [n4.row]::j):=by
  cases ho:n3.on with
  | true=>exact hMv0 n4 mm4 ov e4 ho
  | false =>
    have:=hMv1 ho;unfold Bi at e4;rw[ho,if_neg Z.d] at e4;simp only[Prod.mk.injEq] at e4;rw[e4.1,e4.2.2];rw[ho] at this;exact this
 clear hMv0 hMv1;have hwas:=h3.was;obtain⟨x,ex⟩:=Z.e (FY ss gs mm4 n4 n3.p.lo n3.p.hi m f.lo f.hi);have hL:=VV h4 m hm5 n3.on n3.gr n3.p.lo n3.p.hi n3.p.est n3.p.fr n3.p.rs h3.nvu.rs hwas.1 hwas.2.1 hwas.2.2 f.lo f.hi f2 Z.o Z.o x ex;obtain⟨⟨n5,mm5⟩,e5⟩:=Z.e (Dz gs x n4 mm4 f.lo f.hi);have e5k:=e5;unfold Dz at e5
 have h5:BL ss gs n5 mm5 (k+1)/\n5.c=n.c/\n5.m0=n.m0/\n5.m1=n.m1/\(x.ac=true->AJ Tryz.prog 49 [.ref 0 55 0 0,.agg [x.g,.list 1 (x.at_.map Ac),x.ok,x.ac],.agg [f.lo,f.hi]] [.live 55 [n4.row]] (λr hp=>r = .tuple []/\∃j,hp = .live 55 [n5.row]::j))/\(x.ac=false->n5=n4):=by
  cases hac:x.ac with
  | false =>
    rw[hac] at e5;simp only[Prod.mk.injEq] at e5;obtain⟨rfl,rfl⟩:=e5;exact⟨h4,by rw[hsame.1,hc3.1],by rw[hsame.2.1,hc3.2.2.1],by rw[hsame.2.2.1,hc3.2.2.2],(λh=>by cases h),λ_=>rfl⟩
  | true =>
    rw[hac] at e5;obtain⟨hg0,G,hG,hat⟩:=VU ex hac;unfold JH at e5;rw[hG] at e5;simp only[Prod.mk.injEq] at e5;obtain⟨e5,rfl⟩:=e5;have hs:=Vh (n:=n4) (G:=G) (x:=x) (a:=f.lo) (b:=f.hi);rw[<- e5] at hs;have ha:=h4.accept (x:=x) hg0 hG f2 (by rw[hsame.1,hc3.1];exact fa) (by rw[hsame.1,hc3.1];exact fb);rw[<- e5] at ha;have hgr:=h4.tr.grp x.g.toNat (List.getElem?_eq_some_iff.1 hG).1 G hG;have hc4:n4.c=n.c:=(by rw[hsame.1,hc3.1]);refine⟨ha,by rw[hs.1,hc4],by rw[hs.2.1,hsame.2.1,hc3.2.2.1],by rw[hs.2.2,hsame.2.2.1,hc3.2.2.2],λ_=>?_,(λh=>by cases h)⟩;have k0:=h4.k0;have k1:=h4.k1;have s0:=h4.s0;have s1:=h4.s1;rw[<- hac];refine Vp gs n4 h4.nvu h4.ds (by rw[hc4];exact hc.2.2.2.2.1) (by rw[hc4];exact hc.1) x hg0 G hG ⟨hgr.2.2.2.2.2.2.1,hgr.2.2.2.2.2.2.2.1⟩ f.lo f.hi Z.o Z.o f2 ?_ h4.or Z.o Z.o _ rfl n5 e5;intro y hy;rcases hat with hat|hat
    ·rw[hat] at hy;cases hy
    ·rw[hat] at hy
     exact VT ⟨hwas.1,hwas.2.2⟩ Z.o Z.o (by rw[hc4];exact hc.2.2.2.2.1) ⟨⟨hgr.2.2.2.2.2.2.1,hgr.2.2.2.2.2.2.2.1⟩,hgr.2.2.2.2.2.2.2.2.1,hgr.2.2.2.2.2.2.2.2.2.1⟩ y hy
 obtain⟨h5,hc5,hm05,hm15,hA,hA0⟩:=h5;obtain⟨w6,e6⟩:=Z.e (wtV n5.c.c12 n5.w f.n f.cf ov x.ac);have h7:=h5.watch f.n f.cf ov x.ac;rw[<- e6] at h7;obtain⟨⟨n7,mm7⟩,e7⟩:∃y,y=BO { n5 with w:=w6 } mm5:=⟨_,rfl⟩;rw[<- e7] at h7;simp only at h7;have hs7:=Ve (n:={ n5 with w:=w6 }) (mm:=mm5);rw[<- e7] at hs7;simp only at hs7;obtain⟨t1,t2,t3,t4,t5,t6,t7⟩:=hs7;obtain⟨sc8,e8⟩:=Z.e (En n5.c.c9 n5.c.c10 n5.sc f.lo f.hi f.n);obtain⟨so8,eo8⟩:=Z.e (decide (n5.c.c9<=sc8));obtain⟨q,eq⟩:∃y,y=Dj n5.c.c11 ⟨n5.ra,n5.ro,n5.m0,n5.m1⟩ so8 com f.lo f.hi:=⟨_,rfl⟩;have h9:=h7.roll (a:=f.lo) (b:=f.hi) f2 (by rw[t1,hc5];exact fa) (by rw[t1,hc5];exact fb) (by rw[t5,t6,hm05,hm15];omega) Z.o f.n so8 so8 com;have e8':En n7.c.c9 n7.c.c10 n7.sc f.lo f.hi f.n=sc8:=by rw[t1,t2];exact e8.symm
 have eq':Dj n7.c.c11 ⟨n7.ra,n7.ro,n7.m0,n7.m1⟩ so8 com f.lo f.hi=q:=by rw[t1,t3,t4,t5,t6];exact eq.symm
 rw[e8',eq'] at h9;obtain⟨n9,e9⟩:∃y:Nv,y={ n7 with sc:=sc8,so:=so8,ra:=q.an,ro:=q.on,m0:=q.lo,m1:=q.hi }:=⟨_,rfl⟩;rw[<- e9] at h9;obtain⟨r0,er0⟩:∃y:Rp,y={ rp0 n.cy with bad:=m.bad,sta:=m.stale,twi:=m.twice,bey:=m.beyond,ac:=x.ac,fa:= !x.ok }:=⟨_,rfl⟩;have hrr:r0.rt=[]:=by rw[er0];rfl
 obtain⟨v,ev⟩:=Z.e (BZ ss gs mm7 r0 n9 f);have hw9:n9.w=w6:=by rw[e9];exact t7
 have hfi:I62 f.lo/\I62 f.hi:=⟨by unfold I62;omega,by unfold I62;omega⟩;have hc9:n9.c=n.c:=by rw[e9];show n7.c=n.c;rw[t1,hc5]
 have hT:AJ Tryz.prog 53 [.ref 0 55 0 0,.ref 1 32 0 0,.agg [f.lo,f.hi,f.n,f.cl,f.cf,f.s0,f.s1]] [.live 55 [match w6.fa with|true=>n9.rowP .nils|false=>n9.row],.live 32 [r0.rowL .nils]] (λx hp=>x = .tuple []/\hp=[.live 55 [n9.row],.live 32 [v.row]]):=by
  cases hfa:w6.fa with
  | true =>
    have ho:=Vb (n:={ n5 with w:=w6 }) (mm:=mm5) hfa;rw[<- e7] at ho;have ho1:n9.on=false:=(by rw[e9];exact ho.1);have ho2:n9.p=JG:=(by rw[e9];exact ho.2);exact AJ.weak (Va n9 (by rw[ho2];rfl) h9.nvu r0 f) rfl (QF ss gs mm7 n9 h9.nvu ho1 r0 hrr f hfi v ev)
  | false =>
    cases ho:n9.on with
    | false=>exact QF ss gs mm7 n9 h9.nvu ho r0 hrr f hfi v ev
    | true =>
      have hp:=h9.on ho;obtain⟨hg0,G,hG⟩:=hp.gr;have hwas9:=h9.was;exact Vq ss gs mm7 n9 h9.nvu h9.es h9.ds h9.tr ho (by rw[hc9];exact hc.2.2.2.2.2.2.2.2.2) (by rw[hc9];omega) h9.os hp.fr hp.ok.way hp.ok.few hp.rs Z.o hg0 G hG r0 hrr f hfi v ev
 have hws:=h5.ws;have hwt:=h5.wt;have hsc:=h5.sc
 have key:=Vs n hnu (n.cy+1) rfl ⟨by omega,by omega⟩ rs (by rw[yD];exact IL l) com m hM n1 en1 n2 hu2 f hS n3 en3 n4 h4.nvu ov hMv x (x.at_.map Ac) (BM (f:=Ac) (λd=>rfl) _) hL n5 h5.nvu hA hA0 w6 e6 (by rw[hc5];exact hc.2.2.2.2.2.2.2.2.1) Z.o Z.o
  n7 (by have:=congrArg Prod.fst e7;rw[show n7=(BO { n5 with w:=w6 } mm5).1 from this];exact Vd) f2 (by rw[hc5];exact hc.2.2.2.2.2.1) (by rw[hc5];exact hc.2.2.2.2.2.2.1) Z.o sc8 e8 so8 eo8 (by rw[hc5];omega) (by rw[hm05,hm15];exact hmo0.1) (by rw[hm05];unfold InR;omega) (by rw[hm15];unfold InR;omega) q eq n9 e9 h9.nvu r0 er0 v hT
 have hstep:Bp ss gs n mm l com=⟨n9,mm7,v⟩:=by
  unfold Bp;rw[<- em,<- en1,<- e2];unfold IM;simp only;rw[<- en3,<- e4];unfold IP;simp only;rw[<- ex,<- e5k];unfold stepE;simp only;rw[show n.c=n5.c from hc5.symm,<- e6,<- e7];simp only;rw[t2,t3,t4,t5,t6,<- e8,<- eo8,<- eq,<- e9,<- er0,<- ev]
 rw[hstep];exact⟨key,h9⟩
end
theorem QG{n:Int}{q:Rd}(hn:0<=n/\n<=4)(hq:BB q):0<=(rdN n q).1/\(rdN n q).1<4294967296:=by
 unfold rdN;split
 ·exact⟨by simp only;omega,by simp only;omega⟩
 ·rename_i h
  have hl:n.toNat<=q.b.length:=by
   rcases Nat.lt_or_ge q.b.length n.toNat with h2|h2
   ·exact absurd (.inr h2) h
   ·exact h2
  have hb:=LC n.toNat (q.b.take n.toNat) (by rw[List.length_take];omega) (λb hb=>hq.b b (List.mem_of_mem_take hb));have:(256:Nat) ^ n.toNat<=256 ^ 4:=Nat.pow_le_pow_right Z.d Z.o;have e:((256 ^ n.toNat:Nat):Int)=256 ^ n.toNat:=(by rw[Int.natCast_pow];rfl);have e8:(256:Nat) ^ 4=4294967296:=(by decide);simp only;unfold Eo;split<;>omega
theorem LF{n m:Int}{q:Rd}(hn:0<=n/\n<=4)(hm:0<=m)(hq:BB q):0<=(rdC n m q).1/\(rdC n m q).1<=m:=by
 unfold rdC;have:=QG hn hq;split
 ·exact⟨by simp only;omega,by simp only;omega⟩
 ·exact⟨by omega,by omega⟩
def pcR(q:Rd):(Int×Int)×Rd:=(((rdN 8 q).1,D_ (rdN 4 (rdN 8 q).2).1),(rdN 4 (rdN 8 q).2).2)
def nxR(q:Rd):Int×Rd:=rdN 1 q
theorem BB.pc{q:Rd}(h:BB q):BB (pcR q).2:=(h.num 8).num 4
theorem BB.nx{q:Rd}(h:BB q):BB (nxR q).2:=h.num 1
theorem Vt(q:Rd)(hq:BB q):AJ Tryz.prog 132 [.ref 0 2 0 0] [.live 2 [[.list 1 (q.b.map AZ),q.sh]]] (λr h=>r = .agg (Ap (pcR q).1)/\∃j,h = .live 2 [[.list 1 ((pcR q).2.b.map AZ),.bool (pcR q).2.sh]]::j):=by
 have c1:=GG 8 ⟨by decide,by decide⟩ q hq;have c2:=GG 4 ⟨by decide,by decide⟩ _ (hq.num 8);have yC:=QG (n:=4) ⟨by decide,by decide⟩ (hq.num 8);unfold pcR;obtain⟨⟨x,⟨l1,s1⟩⟩,e1⟩:=Z.f (rdN 8 q);rw[e1] at c1 c2 yC ⊢;simp only at c1 c2 yC ⊢;obtain⟨⟨y,⟨l2,s2⟩⟩,e2⟩:∃z,rdN 4 ⟨l1,s1⟩=z:=⟨_,rfl⟩;rw[e2] at c2 yC ⊢;simp only at c2 yC ⊢;obtain⟨l0,s0⟩:=q;simp only at c1 ⊢;obtain⟨r0,er0⟩:=Z.f (l0.map AZ);obtain⟨r1,er1⟩:=Z.f (l1.map AZ);obtain⟨r2,er2⟩:=Z.f (l2.map AZ);have u0:Up0 r0:=by rw[<- er0];exact Ao _
 have u1:Up0 r1:=by rw[<- er1];exact Ao _
 have u2:Up0 r2:=by rw[<- er2];exact Ao _
 rw[er0] at c1 ⊢;rw[er1] at c1 c2;rw[er2] at c2 ⊢;obtain⟨z,ez⟩:=Z.e (D_ y);rw[<- ez];have hzq:IntKind.i32.wrap y=z:=by rw[IntKind.wrap_i32,ez];unfold D_;split<;>omega
 have hzi: -2147483648<=z/\z<=2147483647:=by rw[ez];unfold D_;split<;>omega
 clear e1 e2 er0 er1 er2 ez hq;refine Z.x Tryz.func132 λ_ _ _ zD _ _ _ _ _ _ zG _ _ hz P hP=>?_;cbv;refine Call.of (AJ.one (s:=0) (by rw[<- hP];exact c1) (Av u0 _) rfl rfl rfl ?_);rintro r hD ⟨rfl,j,rfl⟩;refine⟨rfl,_,_,rfl,Av u1 _,?_⟩;cbv;refine Call.of (AJ.one (s:=0) (by rw[<- hP];exact c2) (Av u1 _) rfl rfl rfl ?_);rintro r hD ⟨rfl,j,rfl⟩;refine⟨rfl,_,_,rfl,Av u2 _,?_⟩;cbv;have v1:zD .i32 y=z:=by rw[zG];exact hzq
 have v2:zD .i64 z=z:=by rw[zG];show IntKind.i64.wrap z=z;rw[IntKind.wrap_i64];omega
 simp only[v1,v2];exact⟨by first|rfl|trivial,_,rfl⟩
theorem Vu(q:Rd)(hq:BB q):AJ Tryz.prog 134 [.ref 0 2 0 0] [.live 2 [[.list 1 (q.b.map AZ),q.sh]]] (λr h=>r = .int .i64 (nxR q).1/\∃j,h = .live 2 [[.list 1 ((nxR q).2.b.map AZ),.bool (nxR q).2.sh]]::j):=by
 have c1:=GG 1 ⟨by decide,by decide⟩ q hq;unfold nxR;obtain⟨⟨x,⟨l1,s1⟩⟩,e1⟩:=Z.f (rdN 1 q);rw[e1] at c1 ⊢;simp only at c1 ⊢;obtain⟨l0,s0⟩:=q;simp only at c1 ⊢;obtain⟨r0,er0⟩:=Z.f (l0.map AZ);obtain⟨r1,er1⟩:=Z.f (l1.map AZ);have u0:Up0 r0:=by rw[<- er0];exact Ao _
 have u1:Up0 r1:=by rw[<- er1];exact Ao _
 rw[er0] at c1 ⊢;rw[er1] at c1 ⊢;clear e1 er0 er1 hq;refine Z.x Tryz.func134 λ_ _ _ _ _ _ _ _ _ _ _ _ _ hz P hP=>?_;cbv;refine Call.of (AJ.one (s:=0) (by rw[<- hP];exact c1) (Av u0 _) rfl rfl rfl ?_);rintro r hD ⟨rfl,j,rfl⟩;refine⟨rfl,_,_,rfl,Av u1 _,?_⟩;cbv;exact⟨_,rfl⟩
def gpR(q:Rd):Gr×Rd:=(⟨(rdN 2 q).1,(rdN 1 (rdN 2 q).2).1,(rdN 8 (rdN 1 (rdN 2 q).2).2).1,(rdN 4 (rdN 8 (rdN 1 (rdN 2 q).2).2).2).1,(rdN 4 (rdN 4 (rdN 8 (rdN 1 (rdN 2 q).2).2).2).2).1⟩,(rdN 4 (rdN 4 (rdN 8 (rdN 1 (rdN 2 q).2).2).2).2).2)
theorem BB.gp{q:Rd}(h:BB q):BB (gpR q).2:=((((h.num 2).num 1).num 8).num 4).num 4
theorem Vv(q:Rd)(hq:BB q):AJ Tryz.prog 79 [.ref 0 2 0 0] [.live 2 [[.list 1 (q.b.map AZ),q.sh]]] (λr h=>r = .agg (Ak (gpR q).1)/\∃j,h = .live 2 [[.list 1 ((gpR q).2.b.map AZ),.bool (gpR q).2.sh]]::j):=by
 have c1:=GG 2 ⟨by decide,by decide⟩ q hq;have c2:=GG 1 ⟨by decide,by decide⟩ _ (hq.num 2);have c3:=GG 8 ⟨by decide,by decide⟩ _ ((hq.num 2).num 1);have c4:=GG 4 ⟨by decide,by decide⟩ _ (((hq.num 2).num 1).num 8);have c5:=GG 4 ⟨by decide,by decide⟩ _ ((((hq.num 2).num 1).num 8).num 4);unfold gpR;obtain⟨⟨x1,q1⟩,e1⟩:=Z.f (rdN 2 q);rw[e1] at c1 c2 c3 c4 c5 ⊢;simp only at c1 c2 c3 c4 c5 ⊢;obtain⟨⟨x2,q2⟩,e2⟩:=Z.f (rdN 1 q1);rw[e2] at c2 c3 c4 c5 ⊢;simp only at c2 c3 c4 c5 ⊢;obtain⟨⟨x3,q3⟩,e3⟩:=Z.f (rdN 8 q2);rw[e3] at c3 c4 c5 ⊢;simp only at c3 c4 c5 ⊢;obtain⟨⟨x4,q4⟩,e4⟩:=Z.f (rdN 4 q3);rw[e4] at c4 c5 ⊢;simp only at c4 c5 ⊢;obtain⟨⟨x5,q5⟩,e5⟩:=Z.f (rdN 4 q4);rw[e5] at c5 ⊢;simp only at c5 ⊢;have gen:∀q:Rd,∃r s,Up0 r/\r=q.b.map AZ/\s=q.sh:=λq=>⟨_,_,Ao _,rfl,rfl⟩;obtain⟨r0,s0,u0,er0,es0⟩:=gen q;obtain⟨r1,s1,u1,er1,es1⟩:=gen q1;obtain⟨r2,s2,u2,er2,es2⟩:=gen q2;obtain⟨r3,s3,u3,er3,es3⟩:=gen q3;obtain⟨r4,s4,u4,er4,es4⟩:=gen q4;obtain⟨r5,s5,u5,er5,es5⟩:=gen q5;rw[<- er0,<- es0] at c1 ⊢;rw[<- er1,<- es1] at c1 c2;rw[<- er2,<- es2] at c2 c3;rw[<- er3,<- es3] at c3 c4;rw[<- er4,<- es4] at c4 c5;rw[<- er5,<- es5] at c5 ⊢;clear e1 e2 e3 e4 e5 er0 er1 er2 er3 er4 er5 es0 es1 es2 es3 es4 es5 hq gen;refine Z.x Tryz.func79 λ_ _ _ _ _ _ _ _ _ _ _ _ _ hz P hP=>?_;cbv;refine Call.of (AJ.one (s:=0) (by rw[<- hP];exact c1) (Av u0 _) rfl rfl rfl ?_);rintro r hD ⟨rfl,j,rfl⟩;refine⟨rfl,_,_,rfl,Av u1 _,?_⟩;cbv;refine Call.of (AJ.one (s:=0) (by rw[<- hP];exact c2) (Av u1 _) rfl rfl rfl ?_);rintro r hD ⟨rfl,j,rfl⟩;refine⟨rfl,_,_,rfl,Av u2 _,?_⟩;cbv;refine Call.of (AJ.one (s:=0) (by rw[<- hP];exact c3) (Av u2 _) rfl rfl rfl ?_);rintro r hD ⟨rfl,j,rfl⟩;refine⟨rfl,_,_,rfl,Av u3 _,?_⟩;cbv;refine Call.of (AJ.one (s:=0) (by rw[<- hP];exact c4) (Av u3 _) rfl rfl rfl ?_);rintro r hD ⟨rfl,j,rfl⟩;refine⟨rfl,_,_,rfl,Av u4 _,?_⟩;cbv;refine Call.of (AJ.one (s:=0) (by rw[<- hP];exact c5) (Av u4 _) rfl rfl rfl ?_);rintro r hD ⟨rfl,j,rfl⟩;refine⟨rfl,_,_,rfl,Av u5 _,?_⟩;cbv;exact⟨_,rfl⟩
def sgR(q:Rd):Sg×Rd:=
 let a:=rdN 8 q
 let c:=rdC 1 64 a.2
 let p:=AU pcR c.1.toNat c.2
 let d:=rdC 1 2 p.2
 let n:=AU nxR d.1.toNat d.2
 (⟨a.1,p.1,n.1⟩,n.2)
theorem BB.sg{q:Rd}(h:BB q):BB (sgR q).2:=GH (λq h=>h.nx) _ _ ((GH (λq h=>h.pc) _ _ ((h.num 8).count 1 64)).count 1 2)
theorem Vx(q:Rd)(hq:BB q):AJ Tryz.prog 77 [.ref 0 2 0 0] [.live 2 [[.list 1 (q.b.map AZ),q.sh]]] (λr h=>r = .agg (Ah (sgR q).1)/\∃j,h = .live 2 [[.list 1 ((sgR q).2.b.map AZ),.bool (sgR q).2.sh]]::j):=by
 have gen:∀q:Rd,∃r s,Up0 r/\r=q.b.map AZ/\s=q.sh:=λq=>⟨_,_,Ao _,rfl,rfl⟩;have c1:=GG 8 ⟨by decide,by decide⟩ q hq;obtain⟨⟨x1,q1⟩,e1⟩:=Z.f (rdN 8 q);have h1:=hq.num 8;rw[e1] at c1 h1;obtain⟨⟨x2,q2⟩,e2⟩:=Z.e (rdC 1 64 q1);have h2:=h1.count 1 64;have i2:=LF (n:=1) (m:=64) ⟨by decide,by decide⟩ Z.d h1;simp only at c1 h1 h2 i2;rw[<- e2] at h2 i2;obtain⟨⟨ps,q3⟩,e3⟩:=Z.e (AU pcR x2.toNat q2);have h3:=GH (st:=pcR) (λq h=>h.pc) x2.toNat q2 h2;simp only at h2 i2;rw[<- e3] at h3;obtain⟨⟨x4,q4⟩,e4⟩:=Z.e (rdC 1 2 q3);have h4:=h3.count 1 2;have i4:=LF (n:=1) (m:=2) ⟨by decide,by decide⟩ Z.d h3;simp only at h3 h4 i4;rw[<- e4] at h4 i4;obtain⟨⟨ns,q5⟩,e5⟩:=Z.e (AU nxR x4.toNat q4);simp only at h4 i4
 have hres:sgR q=(⟨x1,ps,ns⟩,q5):=by
  unfold sgR;simp only;rw[e1];simp only;rw[<- e2];simp only;rw[<- e3];simp only;rw[<- e4];simp only;rw[<- e5]
 rw[hres];simp only;obtain⟨r0,s0,u0,er0,es0⟩:=gen q;obtain⟨r1,s1,u1,er1,es1⟩:=gen q1;obtain⟨r2,s2,u2,er2,es2⟩:=gen q2;obtain⟨r3,s3,u3,er3,es3⟩:=gen q3;obtain⟨r4,s4,u4,er4,es4⟩:=gen q4;obtain⟨r5,s5,u5,er5,es5⟩:=gen q5;obtain⟨pr,epr⟩:=Z.e (ps.map Ap);obtain⟨nr,enr⟩:=Z.e (ns.map Ac);have up1:Up0 pr:=by rw[epr];exact E5 _
 have un1:Up0 nr:=by rw[enr];exact CG _
 have c2:=LG 1 64 ⟨by decide,by decide⟩ q1 h1 r1 er1 x2 q2 e2 r2 er2;have c3:=Vy x2 ⟨i2.1,by omega⟩ 132 pcR (λq h=>h.pc) Vt q2 h2 r2 er2 pr r3 s3 (by rw[<- e3,epr]) (by rw[<- e3,er3]) (by rw[<- e3,es3]);have c4:=LG 1 2 ⟨by decide,by decide⟩ q3 h3 r3 er3 x4 q4 e4 r4 er4;have c5:=Vz x4 ⟨i4.1,by omega⟩ 134 nxR (λq h=>h.nx) Vu q4 h4 r4 er4 nr r5 s5 (by rw[<- e5,enr]) (by rw[<- e5,er5]) (by rw[<- e5,es5]);rw[<- er0,<- es0,<- er1,<- es1] at c1;rw[<- es1,<- es2] at c2;rw[<- es2] at c3;rw[<- es3,<- es4] at c4;rw[<- es4] at c5;rw[show Ah ⟨x1,ps,ns⟩=[.int .i64 x1,.list 2 pr,.list 1 nr] by rw[epr,enr];rfl,<- er0,<- es0,<- er5,<- es5];clear e1 e2 e3 e4 e5 er0 er1 er2 er3 er4 er5 es0 es1 es2 es3 es4 es5 hq gen hres epr enr h1 h2 h3 h4 i2 i4;refine Z.x Tryz.func77 λ_ _ _ _ _ _ _ _ _ _ _ _ _ _ P hP=>?_;cbv;refine Call.of (AJ.one (s:=0) (by rw[<- hP];exact c1) (Av u0 _) rfl rfl rfl ?_);rintro r hD ⟨rfl,j,rfl⟩;refine⟨rfl,_,_,rfl,Av u1 _,?_⟩;cbv;refine Call.of (AJ.one (s:=0) (by rw[<- hP];exact c2) (Av u1 _) rfl rfl rfl ?_);rintro r hD ⟨rfl,j,rfl⟩;refine⟨rfl,_,_,rfl,Av u2 _,?_⟩;cbv;refine Call.of (AJ.one (s:=0) (by rw[<- hP];exact c3) (Av u2 _) rfl rfl rfl ?_);rintro r hD ⟨rfl,rfl⟩;refine⟨up1.list,_,[],rfl,Av u3 _,?_⟩;cbv;refine Call.of (AJ.one (s:=0) (by rw[<- hP];exact c4) (Av u3 _) rfl rfl rfl ?_);rintro r hD ⟨rfl,j,rfl⟩;refine⟨rfl,_,_,rfl,Av u4 _,?_⟩;cbv;refine Call.of (AJ.one (s:=0) (by rw[<- hP];exact c5) (Av u4 _) rfl rfl rfl ?_);rintro r hD ⟨rfl,rfl⟩;refine⟨un1.list,_,[],rfl,Av u5 _,?_⟩;cbv;exact⟨_,rfl⟩
def JI(l:List Int):ByteArray:=⟨(l.map λn=>UInt8.ofNat n.toNat).toArray⟩
theorem NE{l:List Int}(h:Ar l):l.map AZ=CR (JI l):=by
 unfold CR JI;simp only[List.map_map];apply List.map_congr_left;intro b hb;have:=h b hb;show [AV.int .u8 b]=[AV.int .u8 ((UInt8.ofNat b.toNat).toNat:Int)]
 have e:((UInt8.ofNat b.toNat).toNat:Int)=b:=by
  rw[UInt8.toNat_ofNat'];have:b.toNat%2 ^ 8=b.toNat:=Nat.mod_eq_of_lt Z.o;rw[this];omega
 rw[e]
theorem V_{l m:List Int}(hl:Ar l)(hm:Ar m)(h:JI l=JI m):l=m:=by
 have h1:=NE hl;rw[h,<- NE hm] at h1
 have key:∀(a b:List Int),a.map AZ=b.map AZ->a=b:=by
  intro a
  induction a with
  | nil=>intro b hb;cases b with
    | nil=>rfl
    | cons x b=>simp at hb
  | cons y a ih =>
    intro b hb
    cases b with
    | nil=>simp at hb
    | cons x b =>
      simp only[List.map_cons,List.cons.injEq,AZ,AV.int.injEq,true_and,and_true] at hb;rw[hb.1,ih b hb.2]
 exact key l m h1
theorem QH(a b:ByteArray):AP .neq a b=decide (a≠b):=by
 have:AP .neq a b = !(a.toList == b.toList):=rfl;rw[this];by_cases h:a=b
 ·subst h;simp
 ·have:¬a.toList=b.toList:=λe=>h (Go.Eng.toList_inj e)
  simp[h,this]
def JJ:List Int:=[79,68,79,49]
def K7(b:List Int):List Sg×List Gr×Rd:=
 let c:=rdC 2 200 ⟨(b.take (b.length-2)).drop 4,false⟩
 let s:=AU sgR c.1.toNat c.2
 let d:=rdC 2 400 s.2
 let g:=AU gpR d.1.toNat d.2
 (s.1,g.1,g.2)
structure Ep(b:List Int)(ss:List Sg)(gs:List Gr):Prop where
 le:b.length<=1048576
 ge:6<=b.length
 hd:b.take 4=JJ
 sum:crF 65535#16 b=0#16
 rd:K7 b=(ss,gs,⟨[],false⟩)
 tr:BN ss gs
theorem Ep.uniq{b:List Int}{ss ss':List Sg}{gs gs':List Gr}(h:Ep b ss gs)(h':Ep b ss' gs'):ss=ss'/\gs=gs':=by
 have:=h.rd.symm.trans h'.rd;simp only[Prod.mk.injEq] at this;exact⟨this.1,this.2.1⟩
theorem W9(b:List Int)(hb:Ar b)(h47:b.length<=1000000000)(rs:List (List AV))(yD:rs=b.map AZ) :
 A9 Tryz.prog 33 [.list 1 rs] (λr=>(∃ss gs es ds,Ep b ss gs/\es=ss.map Ah/\ds=gs.map Ak/\r = .tuple [.agg [.list 3 es,.list 5 ds],.int .i64 0])\/∃e:Int,e≠0/\(∀ss gs,¬Ep b ss gs)/\r = .tuple [.agg [.nils,.nils],.int .i64 e]):=by
 have hu:Up0 rs:=by rw[yD];exact Ao _
 have hrl:rs.length=b.length:=by rw[yD];simp
 obtain⟨c,ec⟩:=Z.e (bi (crF 65535#16 b));have q3:=NF b hb Z.o c rs yD ec
 have hc0:c=0↔crF 65535#16 b=0#16:=by
  rw[ec];unfold bi;constructor
  ·intro h;exact BitVec.eq_of_toNat_eq (by simp;omega)
  ·intro h;rw[h];rfl
 obtain⟨hd,ehd⟩:=Z.e (JI (b.take 4));have htk:rs.take 4=CR hd:=by rw[yD,<- List.map_take,ehd];exact NE (λx hx=>hb x (List.mem_of_mem_take hx))
 have hodo:(⟨⟨[79,68,79,49]⟩⟩:ByteArray)=JI JJ:=rfl
 have hhd:hd=(⟨⟨[79,68,79,49]⟩⟩:ByteArray)↔b.take 4=JJ:=by
  rw[ehd,hodo];constructor
  ·intro h;exact V_ (λx hx=>hb x (List.mem_of_mem_take hx)) (by intro x hx;simp only[JJ,List.mem_cons,List.not_mem_nil,or_false] at hx;omega) h
  ·intro h;rw[h]
 clear ec ehd hodo;(refine A9.ofY Tryz.func33 (by kernel_rfl) (by kernel_rfl) (Z.w λzB _ _ _ _ _ _ zP _ _ _ _ zK _ _ zN zO _ _ _ _ zC zA _ _ _ _ _ zZ _ _ _ _ zH _ _ yI yL _ _ _ hz R hR=>?_));(conv=>arg 2;cbv);(generalize hP:Tryz.prog=P);cbv
 (obtain⟨L,eL,L0,Ln⟩:∃L:Int,zK rs=L/\0<=L/\L.toNat=rs.length:=⟨(rs.length:Int),by rw[zH],Int.natCast_nonneg _,Int.toNat_natCast _⟩)
 have hF:∀e:Int,e≠0->(∀ss gs,¬Ep b ss gs)->R (.tuple [.agg [.nils,.nils],e]):=λe he hn=>hR _ (.inr ⟨e,he,hn,rfl⟩);(split<;>rename_i h1<;>(try (simp only[eL] at h1))<;>(try (simp only[hz,Z.a,AF,AC,AO,AP,AL,reduceCtorEq] at h1))<;>(try cbv))
 ·exact⟨_,Vw.same rfl,hF _ Z.d λss gs h=>(by have:=h.le;omega)⟩
 (split<;>rename_i h2<;>(try (simp only[eL] at h2))<;>(try (simp only[hz,Z.a,AF,AC,AO,AP,AL,reduceCtorEq] at h2))<;>(try cbv))
 ·exact⟨_,Vw.same rfl,hF _ Z.d λss gs h=>(by have:=h.ge;omega)⟩
 have t1:zN rs 4=CR hd:=by rw[yI];exact htk
 refine Nn.mk Z.d (Le.mk Z.o (ToS.mk hd rfl t1 ?_));cbv;by_cases hodo:b.take 4=JJ
 rotate_left 1
 ·have s1:zP .neq hd ⟨⟨[79,68,79,49]⟩⟩=true:=by
   rw[zZ,QH];exact decide_eq_true λh=>hodo (hhd.1 h)
  simp only[s1];cbv;exact⟨_,Vw.same rfl,hF _ Z.d λss gs h=>hodo h.hd⟩
 have s1:zP .neq hd ⟨⟨[79,68,79,49]⟩⟩=false:=by
  rw[zZ,QH];exact decide_eq_false λh=>h (hhd.2 hodo)
 simp only[s1];cbv;refine Call.s hP q3 ?_;cbv;by_cases hc:c=0
 rotate_left 1
 ·have d1:=W.ne zA hc
  simp only[d1];cbv;exact⟨_,Vw.same rfl,hF _ Z.d λss gs h=>hc (hc0.2 h.sum)⟩
 have hsum:=hc0.1 hc;have d1:=W.nne zA hc;simp only[d1];cbv;obtain⟨L2,eL2⟩:=Z.e (L-2);have a1:zB .sub .i64 L 2=L2:=by rw[zC,Bj Z.o Z.o,eL2]
 obtain⟨bd,ebd⟩:∃z,z=(b.take (b.length-2)).drop 4:=⟨_,rfl⟩;obtain⟨r0,er0⟩:=Z.e (bd.map AZ);have u0:Up0 r0:=by rw[er0];exact Ao _
 have cut:zO (zN rs L2) 4=r0:=by
  rw[yL,yI,er0,ebd,yD];show ((List.map AZ b).take L2.toNat).drop 4=_;rw[show L2.toNat=b.length-2 by omega,<- List.map_take,<- List.map_drop]
 simp only[eL,a1];cbv
 repeat' (first
  | (refine Nn.mk Z.d ?_)
  | (refine Le.mk (by first|(rw[eL];omega)|omega) ?_)
  | (simp only[cut];cbv))
 have gen:∀q:Rd,∃r s,Up0 r/\r=q.b.map AZ/\s=q.sh:=λq=>⟨_,_,Ao _,rfl,rfl⟩;have h0:BB ⟨bd,false⟩:=⟨λx hx=>hb x (by rw[ebd] at hx;exact List.mem_of_mem_take (List.mem_of_mem_drop hx)),by simp only;rw[ebd,List.length_drop,List.length_take];omega⟩;obtain⟨⟨x1,q1⟩,e1⟩:∃z,z=rdC 2 200 ⟨bd,false⟩:=⟨_,rfl⟩;have h1:=h0.count 2 200;have i1:=LF (n:=2) (m:=200) ⟨by decide,by decide⟩ Z.d h0;rw[<- e1] at h1 i1;obtain⟨⟨ss,q2⟩,e2⟩:=Z.e (AU sgR x1.toNat q1);simp only at h1 i1;have h2:=GH (st:=sgR) (λq h=>h.sg) x1.toNat q1 h1;have l2:=FI sgR x1.toNat q1;rw[<- e2] at h2 l2;obtain⟨⟨x3,q3'⟩,e3⟩:=Z.e (rdC 2 400 q2);simp only at h2 l2;have h3:=h2.count 2 400;have i3:=LF (n:=2) (m:=400) ⟨by decide,by decide⟩ Z.d h2;rw[<- e3] at h3 i3;obtain⟨⟨gs,q4⟩,e4⟩:=Z.e (AU gpR x3.toNat q3');simp only at h3 i3;have l4:=FI gpR x3.toNat q3';rw[<- e4] at l4;simp only at l4
 have hres:K7 b=(ss,gs,q4):=by
  unfold K7;simp only;rw[<- ebd,<- e1];simp only;rw[<- e2];simp only;rw[<- e3];simp only;rw[<- e4]
 obtain⟨r1,s1',u1,er1,es1⟩:=gen q1;obtain⟨r2,s2',u2,er2,es2⟩:=gen q2;obtain⟨r3,s3',u3,er3,es3⟩:=gen q3';obtain⟨r4,s4',u4,er4,es4⟩:=gen q4;obtain⟨es,ees⟩:=Z.e (ss.map Ah);obtain⟨ds,eds⟩:=Z.e (gs.map Ak);have ue:Up0 es:=by rw[ees];exact Bu _
 have ud:Up0 ds:=by rw[eds];exact Bv _
 have c1:=LG 2 200 ⟨by decide,by decide⟩ ⟨bd,false⟩ h0 r0 er0 x1 q1 e1 r1 er1;have c2:=WA x1 ⟨i1.1,by omega⟩ 77 sgR (λq h=>h.sg) Vx q1 h1 r1 er1 es r2 s2' (by rw[<- e2,ees]) (by rw[<- e2,er2]) (by rw[<- e2,es2]);have c3:=LG 2 400 ⟨by decide,by decide⟩ q2 h2 r2 er2 x3 q3' e3 r3 er3;have c4:=WB x3 ⟨i3.1,by omega⟩ 79 gpR (λq h=>h.gp) Vv q3' h3 r3 er3 ds r4 s4' (by rw[<- e4,eds]) (by rw[<- e4,er4]) (by rw[<- e4,es4]);rw[<- es1] at c1 c2;rw[<- es2] at c3;rw[<- es3] at c3 c4;have c5:=QI ss gs Z.o Z.o es ds ees eds;have hlen4:r4=[]↔q4.b=[]:=by rw[er4,List.map_eq_nil_iff]
 have hq4:(r4=[]/\s4'=false)->K7 b=(ss,gs,⟨[],false⟩):=λh=>by
  rw[hres];obtain⟨qb,qs⟩:=q4;simp only at es4 hlen4;rw[hlen4.1 h.1,<- es4,h.2]
 have hno:¬(r4=[]/\s4'=false)->∀ss gs,¬Ep b ss gs:=λh ss' gs' hO=>h (by
  have:=hres.symm.trans hO.rd;simp only[Prod.mk.injEq] at this;have h3:=this.2.2;exact⟨hlen4.2 (by rw[h3]),by rw[es4,h3]⟩)
 have hnt:r4=[]/\s4'=false->¬BN ss gs->∀ss gs,¬Ep b ss gs:=λh hn ss' gs' hO=>hn (by
  have:=(hq4 h).symm.trans hO.rd;simp only[Prod.mk.injEq] at this;rw[this.1,this.2.1];exact hO.tr)
 have hyes:r4=[]/\s4'=false->BN ss gs->Ep b ss gs:=λh ht=>⟨by omega,by omega,hodo,hsum,hq4 h,ht⟩;have l6:zK r4=(r4.length:Int):=by rw[zH]
 obtain⟨M,eM,M0,Mn⟩:∃M:Int,zK r4=M/\0<=M/\M.toNat=r4.length:=⟨(r4.length:Int),l6,Int.natCast_nonneg _,Int.toNat_natCast _⟩;have hM:M=0↔r4=[]:=by rw[<- List.length_eq_zero_iff,<- Mn];omega
 clear e1 e2 e3 e4 er0 er1 er2 er3 er4 es1 es2 es3 es4 gen hres h0 h1 h2 h3 i1 i3 l2 l4 ebd hlen4 hq4 cut l6;refine Call.of (AJ.one (s:=1) (by rw[<- hP];exact c1) (Av u0 _) rfl rfl rfl ?_);rintro r hD ⟨rfl,j,rfl⟩;refine⟨rfl,_,_,rfl,Av u1 _,?_⟩;cbv;refine Call.of (AJ.one (s:=1) (by rw[<- hP];exact c2) (Av u1 _) rfl rfl rfl ?_);rintro r hD ⟨rfl,rfl⟩;refine⟨ue.list,_,[],rfl,Av u2 _,?_⟩;cbv;refine Call.of (AJ.one (s:=1) (by rw[<- hP];exact c3) (Av u2 _) rfl rfl rfl ?_);rintro r hD ⟨rfl,j,rfl⟩;refine⟨rfl,_,_,rfl,Av u3 _,?_⟩;cbv;refine Call.of (AJ.one (s:=1) (by rw[<- hP];exact c4) (Av u3 _) rfl rfl rfl ?_);rintro r hD ⟨rfl,rfl⟩;refine⟨ud.list,_,[],rfl,Av u4 _,?_⟩;cbv
 cases s4' with
 | true =>
   cbv;exact⟨_,Vw.same rfl,hF _ Z.d (hno (by simp))⟩
 | false =>
   cbv;simp only[eM];by_cases hM0:M=0
   rotate_left 1
   ·have d2:=W.gt zA (show 0<M by omega)
    simp only[d2];cbv;exact⟨_,Vw.same rfl,hF _ Z.d (hno λh=>hM0 (hM.2 h.1))⟩
   have d2:=W.ngt zA (show M<=0 by omega);simp only[d2];cbv;have hr4:=hM.1 hM0;refine Call.step (by rw[<- hP];exact c5) (by first|rfl|(repeat' (first|exact rfl|assumption|refine uc ?_ ?_|exact ul Z.m|refine ua ?_))) ?_;rintro r ⟨e,i0,rfl,he⟩;cbv;by_cases he0:e=0
   ·have d3:=W.nne zA he0
    simp only[d3];cbv;exact⟨_,Vw.same (by first|rfl|(repeat' (first|exact rfl|assumption|refine uc ?_ ?_|exact ul Z.m|refine ua ?_|refine ut ?_))),hR _ (.inl ⟨ss,gs,es,ds,hyes ⟨hr4,rfl⟩ (he.1 he0),ees,eds,rfl⟩)⟩
   ·have d3:=W.ne zA he0
    simp only[d3];cbv;exact⟨_,Vw.same rfl,hF _ Z.d (hnt ⟨hr4,rfl⟩ λht=>he0 (he.2 ht))⟩
def brN(cy:Int):List AV:=.int .i64 0 :: .int .i64 0 :: .int .i64 0 :: .int .i64 0 :: .int .i64 0 :: .int .i64 0 :: .int .i64 0 :: .int .i64 0 :: .int .i64 0 :: .int .i64 0 :: .int .i64 0 :: .int .i64 0 :: .int .i64 0 :: .int .i64 0 :: .list 3 [] :: .list 5 [] :: .bool true :: .int .i64 cy :: .int .i64 0 :: .int .i64 0 :: .list 1 [] :: .bool false :: .int .u16 0 :: .int .i64 0::[.bool false,.int .u16 0,.int .i64 0,.int .i64 0,.int .i64 0,.int .i64 0,.int .i64 0,.int .i64 0,.int .i64 0,.int .i64 0,.bool false,.int .i64 0,.int .i64 0,.int .i64 0,.int .i64 0,.int .i64 0,.list 13 [],.bool false,.int .i64 0,.int .i64 0,.int .i64 0,.int .i64 0,.int .i64 0,.bool false,.bool false,.bool false,.int .i64 0,.int .i64 0,.int .i64 0,.int .i64 0,.bool false]
inductive Un where
 | br (cy:Int)
 | ok (ss:List Sg) (gs:List Gr) (n:Nv) (mm:List (List Int))
def Un.row:Un->List AV
 | .br cy=>brN cy
 | .ok _ _ n _=>n.row
def Dk(c:Cf):Int:=E8 c.c0 c.c1 c.c2 c.c3 c.c4 c.c5 c.c6 c.c7 c.c8 c.c9 c.c10 c.c11 c.c12 c.c13
def stU(c:Cf)(ss:List Sg)(gs:List Gr):Nv:=⟨c,ss.map Ah,gs.map Ak,0,(FJ ss).1,(FJ ss).2,(List.range ss.length).map λx=>[AV.int .i64 (Er ss x)],⟨false,0,0⟩,⟨false,0,0⟩,c.c1,c.c2,c.c1,c.c2,-c.c6,c.c6,0,false,0,JG,false,0,0,0,0,0,false,false,false,0,0,⟨0,0,false⟩⟩
def FZ(c:Cf)(b:List Int)(ss:List Sg)(gs:List Gr):Prop:=Ep b ss gs/\Dl (Dk c) c.c6 c.c8 ss gs
noncomputable def GI(c:Cf)(b:List Int):Un:=by
 classical
 exact if h:∃x:List Sg×List Gr,FZ c b x.1 x.2 then .ok h.choose.1 h.choose.2 (stU c h.choose.1 h.choose.2) [] else .br 0
theorem NG{c:Cf}{b:List Int}{ss:List Sg}{gs:List Gr}(h:FZ c b ss gs):GI c b = .ok ss gs (stU c ss gs) []:=by
 have hh:∃x:List Sg×List Gr,FZ c b x.1 x.2:=⟨(ss,gs),h⟩;unfold GI;rw[dif_pos hh];have h2:=hh.choose_spec;obtain⟨e1,e2⟩:=h2.1.uniq h.1;rw[e1,e2]
theorem QJ{c:Cf}{b:List Int}(h:∀ss gs,¬FZ c b ss gs):GI c b = .br 0:=by
 unfold GI;rw[dif_neg]
 rintro⟨x,hx⟩
 exact h _ _ hx
theorem WC{n:Nat}{os:List (List AV)}{f:Nat->Int}(h:Own n os f):os=(List.range n).map λx=>[AV.int .i64 (f x)]:=by
 apply List.ext_getElem?;intro x;by_cases hx:x<n
 ·rw[h.at_ x hx,List.getElem?_map,List.getElem?_range hx];rfl
 ·rw[List.getElem?_eq_none (by rw[h.len];omega),List.getElem?_eq_none (by rw[List.length_map,List.length_range];omega)]
theorem NH{c:Cf}{b:List Int}{ss:List Sg}{gs:List Gr}(h:FZ c b ss gs):BL ss gs (stU c ss gs) [] 0:=by
 obtain⟨h1,h2⟩:=h;have hc:ER c:=LH h2.wr;have hi:=hc.in_;have hg:=WE (ND h2.tr);exact⟨hc,h2.tr,rfl,rfl,rfl,by decide,rfl,hg,(by simp only[stU];decide),(by simp only[stU];decide),⟨by show 0<c.c1;omega,by show c.c1<=c.c2;omega,by show c.c2<=_;omega⟩,⟨by show 0<c.c1;omega,by show c.c1<=c.c2;omega,by show c.c2<=_;omega⟩,⟨by show -c.c6 <= -c.c6;omega,by show -c.c6<=c.c6;omega,by show c.c6<=c.c6;omega⟩,(by simp only[stU];decide),(λh=>by cases h),λ_=>⟨rfl,rfl,rfl⟩,(by simp only[stU];decide),(by simp only[stU];decide),(by simp only[stU];decide),(by simp only[stU];decide),(by simp only[stU];decide),(by simp only[stU];decide),(by simp only[stU];decide)⟩
theorem WF(c:Cf)(b:List Int)(hb:Ar b)(h47:b.length<=1000000000)(rs:List (List AV))(yD:rs=b.map AZ) :
 AJ Tryz.prog 15 [.agg [c.c0,c.c1,c.c2,c.c3,c.c4,c.c5,c.c6,c.c7,c.c8,c.c9,c.c10,c.c11,c.c12,c.c13],.list 1 rs] [] (λr hD=>r = .ref 0 55 0 0/\hD=[.live 55 [(GI c b).row]]):=by
 refine AJ.give ?_;have qo:=W9 b hb h47 rs yD;have hur:Up0 rs:=by rw[yD];exact Ao _
 obtain⟨u,eu⟩:=Z.e (GI c b);rw[<- eu];have hok:=λss gs (h:FZ c b ss gs)=>(eu.trans (NG h));have hno:=λ(h:∀ss gs,¬FZ c b ss gs)=>(eu.trans (QJ h));clear eu;obtain⟨c0,c1,c2,c3,c4,c5,c6,c7,c8,c9,c10,c11,c12,c13⟩:=c;refine Z.x Tryz.func15 λ_ zE _ _ _ _ _ _ zA _ _ _ _ hz P hP=>?_;cbv;refine Call.step (by rw[<- hP];exact qo) (by first|rfl|(repeat' (first|exact rfl|assumption|refine uc ?_ ?_|exact ul Z.m|refine ua ?_))) ?_;rintro r (⟨ss,gs,es,ds,hO,zQ,zY,rfl⟩|⟨e,he,hO,rfl⟩)
 ·have hu:Up0 es:=by rw[zQ];exact Bu ss
  have hud:Up0 ds:=(by rw[zY];exact Bv gs);have hsl:ss.length<=1000000:=by have:=hO.tr.le;omega
  have hgl:gs.length<=1000000:=by have:=hO.tr.gle;omega
  have qf:=WG c0 c1 c2 c3 c4 c5 c6 c7 c8 c9 c10 c11 c12 c13 ss gs hsl hgl es ds zQ zY;have d0:=W.eq zA (a:=0) rfl;cbv;repeat' (first|(simp only[d0];cbv)|fail)
  refine Call.step (by rw[<- hP];exact qf) (by first|rfl|(repeat' (first|exact rfl|assumption|refine uc ?_ ?_|exact ul Z.m|refine ua ?_))) ?_;rintro r ⟨e,i,rfl,he⟩;by_cases h0:e=0
  ·subst h0
   have hN:FZ ⟨c0,c1,c2,c3,c4,c5,c6,c7,c8,c9,c10,c11,c12,c13⟩ b ss gs:=⟨hO,he.1 rfl⟩;obtain rfl:=hok ss gs hN;have hT:=hO.tr;have hst:=(NH hN).nvu.row;obtain⟨g0,eg0⟩:∃x,x=(FJ ss).1:=⟨_,rfl⟩;obtain⟨g1,eg1⟩:∃x,x=(FJ ss).2:=⟨_,rfl⟩;obtain⟨os,eos⟩:∃x,x=(List.range ss.length).map λx=>[AV.int .i64 (Er ss x)]:=⟨_,rfl⟩;obtain⟨m6,em6⟩:∃x,x = -c6:=⟨_,rfl⟩;have hc:=(LH (he.1 rfl).wr:ES _ _ _ _ _ _ _ _ _ _ _ _ _ _);have hi:=(show ER ⟨c0,c1,c2,c3,c4,c5,c6,c7,c8,c9,c10,c11,c12,c13⟩ from hc).in_;simp only at hi;have q1:=WH ss gs es ds zQ zY hT.ne hsl hT.lensOk (ND hT) g0 g1 (by rw[eg0,eg1]);have q2:=(WI ss gs es ds zQ zY hT).mono (R':=(· = .list 1 os)) (by rintro r ⟨o,rfl,ho⟩;rw[WC ho,eos];rfl);have q3:=WJ c0 c1 c2 c3 c4 c5 c6 c7 c8 c9 c10 c11 c12 c13;have q4:=QK c0 c1 c2 c3 c4 c5 c6 c7 c8 c9 c10 c11 c12 c13 m6 em6 ⟨by omega,by omega⟩;have huo:Up0 os:=(by rw[eos];exact BM (f:=λx=>[AV.int .i64 (Er ss x)]) (λd=>rfl) _);have zL:(Un.ok ss gs (stU ⟨c0,c1,c2,c3,c4,c5,c6,c7,c8,c9,c10,c11,c12,c13⟩ ss gs) []).row=({ stU ⟨c0,c1,c2,c3,c4,c5,c6,c7,c8,c9,c10,c11,c12,c13⟩ ss gs with es:=es,ds:=ds,os:=os,g0:=g0,g1:=g1,lo:=m6 }:Nv).row:=(by rw[zQ,zY,eos,eg0,eg1,em6];rfl);rw[zL];clear zL hst hi hc eos eg0 eg1 em6 hok hno he hN hO zQ zY qo qf;cbv;have d3:zE .neq 0 0=false:=W.nne zA rfl;repeat' (first|(simp only[d0,d3];cbv)|(refine Call.s hP q1 ?_;cbv)|(refine AB.s hP q1 ?_;cbv)|(refine Call.s hP q2 ?_;cbv)|(refine AB.s hP q2 ?_;cbv)|(refine Call.s hP q3 ?_;cbv)|(refine AB.s hP q3 ?_;cbv)|(refine Call.s hP q4 ?_;cbv)|(refine AB.s hP q4 ?_;cbv)|fail)
   refine WkB.mk ?_;(refine Z.k (λj=>[2].getD j 0) ?_;cbv<;>exact Z.q)
  ·obtain rfl:=hno λss' gs' h=>by
    obtain⟨rfl,rfl⟩:=h.1.uniq hO;exact h0 (he.2 h.2)
   clear hok hno hO qo qf he;have d1:=W.neq zA h0;have d2:=W.ne zA h0;cbv;repeat' (first|(simp only[d1,d2,d0];cbv)|fail)
   refine WkB.mk ?_;(refine Z.k (λj=>[2].getD j 0) ?_;cbv<;>exact Z.q)
 ·obtain rfl:=hno λss gs h=>hO ss gs h.1
  clear hok hno hO qo;have d1:=W.neq zA he;have d2:=W.ne zA he;cbv;repeat' (first|(simp only[d1,d2];cbv)|fail)
  refine WkB.mk ?_;(refine Z.k (λj=>[2].getD j 0) ?_;cbv<;>exact Z.q)
noncomputable def Dm:Un->List (List Int)->Bool->Un×Rp
 | .br cy,_,_=>(.br (cy+1),rp0 cy)
 | .ok ss gs n mm,l,com=>(.ok ss gs (Bp ss gs n mm l com).n (Bp ss gs n mm l com).mm,(Bp ss gs n mm l com).r)
def UI(k:Int):Un->Prop
 | .br cy=>cy=k/\0<=k/\k<=1000000
 | .ok ss gs n mm=>BL ss gs n mm k
theorem UI.up{k:Int}:∀ {u:Un},UI k u->Up0 [u.row]
 | .br cy,_=>⟨rfl⟩
 | .ok ss gs n mm,h=>h.nvu.row
theorem WK(cy:Int)(hcy:0<=cy/\cy<=1000000000)(ls:List (List AV))(hls:Up0 ls)(com:Bool) :
 AJ Tryz.prog 20 [.ref 0 55 0 0,.list 1 ls,com] [.live 55 [brN cy]] (λr hp=>r = .agg (rp0 cy).row/\∃j,hp = .live 55 [brN (cy+1)]::j):=by
 refine AJ.mono (AJ.give (h':=[.live 55 [brN (cy+1)]]) (r':=.agg (rp0 cy).row) ?_) (λr h hh=>⟨hh.1,[],hh.2⟩);obtain⟨cy1,ecy⟩:=Z.f (cy+1);rw[ecy];have f1:AF .add .i64 cy 1=cy1:=by rw[Ag Z.o Z.o];exact ecy
 clear hcy ecy;(refine AJ.ofP (F:=[6,19]) (sc:=?scc) (r:=?rr) Tryz.func20 (by kernel_rfl) rfl ?hr ?hc (by kernel_rfl) λw hw=>?H);(case hr=>((conv=>lhs;cbv);(try exact rfl)));(case hc=>((repeat' (first|refine' IQ ?_ ?_|refine' IR ?_|refine' IU ?_|refine' Cg (id:=6) QL rfl (by kernel_rfl) ?_|refine' Cg (id:=19) QM rfl (by kernel_rfl) ?_|fail));(try any_goals (conv=>lhs;cbv));(try any_goals exact rfl)));(obtain⟨zB,zE,yN,zD,zF,zX,yO,zP,zS,zR,yA,yB,zK,zU,zM,zN,zO,yG,zT,yH⟩:=w);(have zC:=Z.w1 hw);(have zA:=Z.w2 hw);(have yJ:=Z.w3 hw);(have zG:=Z.w4 hw);(have zI:=Z.w5 hw);(have yM:=Z.w6 hw);(have yS:=Z.w7 hw);(have zZ:=Z.w8 hw);(have yF:=Z.w9 hw);(have yE:=Z.w10 hw);(have yT:=Z.w11 hw);(have yU:=Z.w12 hw);(have zH:=Z.w13 hw);(have yR:=Z.w14 hw);(have zV:=Z.w15 hw);(have yI:=Z.w16 hw);(have yL:=Z.w17 hw);(have yX:=Z.w18 hw);(have yQ:=Z.w19 hw);(have yY:=Z.w20 hw);(have hz:=Z.z hw);(conv=>arg 4;cbv);(generalize hP:Tryz.prog=P);cbv;have f1:zB .add .i64 cy 1=cy1:=by rw[zC];exact f1
 simp only[f1];have hu0:Up0 ([]:List (List AV)):=⟨rfl⟩;refine WkB.mk ?_;(refine Z.n (λi=>i) ?_;cbv<;>exact Z.q)
theorem QN{k:Int}{u:Un}(h:UI k u)(hk:k<1000000)(l:List (List Int))(hl:∀b,b∈l->Ar b/\b.length<=1000000)(hll:l.length<=1000000)(com:Bool)(rs:List (List AV))(yD:rs=l.map Em) :
 AJ Tryz.prog 20 [.ref 0 55 0 0,.list 1 rs,com] [.live 55 [u.row]] (λr hp=>r = .agg (Dm u l com).2.row/\∃j,hp = .live 55 [(Dm u l com).1.row]::j)/\UI (k+1) (Dm u l com).1:=by
 cases u with
 | br cy =>
   obtain⟨h1,h2,h3⟩:=h;exact⟨WK cy ⟨by omega,by omega⟩ rs (by rw[yD];exact IL l) com,by show cy+1=k+1;omega,by omega,by omega⟩
 | ok ss gs n mm=>exact Vi h hk l hl hll com rs yD
noncomputable def BP:Un->List (List (List Int)×Bool)->List Rp
 | _,[]=>[]
 | u,c::l=>(Dm u c.1 c.2).2::BP (Dm u c.1 c.2).1 l
noncomputable def Es:Un->List (List (List Int)×Bool)->Un
 | u,[]=>u
 | u,c::l=>Es (Dm u c.1 c.2).1 l
theorem NI:∀(a b:List (List (List Int)×Bool)) (u:Un),BP u (a++b)=BP u a++BP (Es u a) b
 | [],b,u=>rfl
 | c::a,b,u=>by
   simp only[List.cons_append,BP,Es];rw[NI a b]
theorem QO:∀(a b:List (List (List Int)×Bool)) (u:Un),Es u (a++b)=Es (Es u a) b
 | [],b,u=>rfl
 | c::a,b,u=>by
   simp only[List.cons_append,Es];rw[QO a b]
theorem WL(c:Cf)(b:List Int):UI 0 (GI c b):=by
 by_cases h:∃x:List Sg×List Gr,FZ c b x.1 x.2
 ·obtain⟨x,hx⟩:=h
  rw[NG hx];exact NH hx
 ·rw[QJ λss gs hh=>h ⟨(ss,gs),hh⟩]
  exact⟨rfl,by decide,by decide⟩
end Go.Proofs.YtlchlddijclhjaaGreat
