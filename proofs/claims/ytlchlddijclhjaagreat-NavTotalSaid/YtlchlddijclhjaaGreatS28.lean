/- Parts of the proofs. -/
import Derived.Test.YtlchlddijclhjaaGreatS25
import Derived.Test.YtlchlddijclhjaaGreatS26
import Derived.Test.YtlchlddijclhjaaGreatS27
import Derived.Test.YtlchlddijclhjaaGreatS24
import Derived.Test.YtlchlddijclhjaaGreatS11
import Derived.Test.YtlchlddijclhjaaGreatSZ
set_option linter.unusedVariables false
set_option linter.unusedSimpArgs false
set_option maxHeartbeats 4000000
namespace Go.Proofs.YtlchlddijclhjaaGreat
open Go Go.RowKit Go.Eng
set_option maxRecDepth 100000
def M5(m:Ml):Prop:=m.has 5=true->0<=m.val 5/\m.val 5<=65535
theorem kW0{s:Int}{m:Ml}(h:M5 m){l:List Int}(hl:k0H l):M5 (k88 s m (frV l)):=by
 have hf:=kTM hl;unfold k88;split
 ·exact h
 ·rename_i he
  have he:(frV l).e=0:=Classical.not_not.1 he;have hf:=hf he;split
  ·exact h
  ·split
   ·exact h
   ·generalize frV l=F at hf ⊢
    obtain⟨k,sq,v,e⟩:=F;obtain⟨h1,h2,h3,h4,h5,v1,v2,v3,v4,v5,bad,stale,twice,beyond⟩:=m;have hk:k=1\/k=2\/k=3\/k=4\/k=5:=(by simp only at hf;omega);rcases hk with rfl|rfl|rfl|rfl|rfl
    ·exact λhh=>h hh
    ·exact λhh=>h hh
    ·exact λhh=>h hh
    ·exact λhh=>h hh
    ·exact λhh=>by show 0<=v/\v<=65535;simp only at hf;omega
theorem kMU{s:Int}:∀(l:List (List Int)) (m:Ml),M5 m->(∀b,b∈l->k0H b)->M5 (l.foldl (λm b=>k88 s m (frV b)) m)
 | [],m,h,_=>h
 | b::l,m,h,hb=>by
   rw[List.foldl_cons];exact kMU l _ (kW0 h (hb b List.mem_cons_self)) λx hx=>hb x (List.mem_cons_of_mem _ hx)
theorem kW1(c:Int){l:List (List Int)}(h:∀b,b∈l->k0H b):M5 (k52 c l):=by
 unfold k52;exact kMU _ _ (λh=>by simp[ml0,Ml.has] at h) λb hb=>h b (List.mem_of_mem_take hb)
section
variable {ss:List Sg} {gs:List Gr} {n:Nv} {mm:List (List Int)} {k:Int}
theorem q06{ss:List Sg}{mm:List (List Int)}{n:Nv}{wl wh a b:Int}{G:Gr}(hw: -17592186044416<=wl/\wh<=17592186044416)(ha: -16777216<=a)(hb:b<=16777216)(h8:0<=n.c.c8/\n.c.c8<=1048576)(hG:(0<=G.acc/\G.acc<=1048576)/\0<=G.sl/\G.sl<=16777216):∀y,y∈kNF ss mm n wl wh a b G -> -35184372088832<=y/\y<=35184372088832:=λy hy=>by
 unfold kNF kDY at hy;have:=of_decide_eq_true (List.mem_filter.1 hy).2;omega
theorem kW2{wl wh a b:Int}{m:Ml}{x:Fo}(ex:x=k98 ss gs mm n wl wh m a b)(h:x.ac=true):0<=x.g/\∃G,gs[x.g.toNat]?=some G/\(x.at_=[]\/x.at_=kNF ss mm n wl wh a b G):=by
 unfold k98 at ex;split at ex
 ·rw[ex] at h;cases h
 ·split at ex
  ·rw[ex] at h;cases h
  ·rename_i i hi
   split at ex
   ·rw[ex] at h;cases h
   ·rename_i G hG
    split at ex
    ·rw[ex];exact⟨Int.natCast_nonneg i,G,by simpa using hG,.inl rfl⟩
    ·rw[ex];exact⟨Int.natCast_nonneg i,G,by simpa using hG,.inr rfl⟩
theorem kX0(h:k6R ss gs n mm k)(m:Ml)(h5:M5 m)(won:Bool)(wgr wl wh we wfr:Int)(ws:List (List AV))(huw:Up0 ws)(hwl: -17592186044416<=wl)(hww:wl<=wh)(hwh:wh<=17592186044416)(a b:Int)(hab:a<=b)(ha: -16777216<=a)(hb:b<=16777216)(x:Fo)(ex:x=k98 ss gs mm n wl wh m a b) :
 k06 Tryz.prog 48 [.ref 0 55 0 0,.agg m.row,.agg [won,wgr,wl,wh,we,wfr,.list 13 ws],.agg [a,b]] [.live 55 [n.row]] (λr hp=>r = .agg [x.g,.list 1 (x.at_.map k0K),x.ok,x.ac]/\∃j,hp = .live 55 [n.row]::j):=by
 have hc:=h.cf.in_;unfold k98 at ex;split at ex
 ·rename_i hm
  rw[ex];exact kS8 n h.nvu m hm won wgr wl wh we wfr ws huw a b
 ·rename_i hm
  have hm:m.has 5=true:=(by cases hh:m.has 5 with|true=>rfl|false=>exact absurd hh hm);have hid:=h5 hm;split at ex
  ·rename_i hno
   rw[ex];refine kS5 ss gs n h.nvu h.es h.ds h.tr m hm _ rfl Z.o (λg hg hge=>?_) won wgr wl wh we wfr ws huw a b;have:=List.findIdx?_eq_none_iff.1 hno g hg;simp[hge] at this
  ·rename_i i hi
   obtain⟨hil,hik,_⟩:=List.findIdx?_eq_some_iff_getElem.1 hi;have hG:gs[i]?=some gs[i]:=List.getElem?_eq_getElem hil;rw[hG] at ex;simp only at ex;have hik:gs[i].id=m.val 5:=(by simpa using hik);split at ex
   ·rename_i hon
    rw[ex];exact kS7 ss gs n h.nvu h.es h.ds h.tr m hm _ rfl Z.o i (Int.natCast_nonneg i) gs[i] (by simp) hik hon won wgr wl wh we wfr ws huw a b
   ·rename_i hon
    have hon:n.on=true:=(by cases hh:n.on with|true=>rfl|false=>exact absurd hh hon);rw[ex];exact kS6 ss gs mm n h.nvu h.es h.ds h.tr hc.2.2.2.2.1 m hm _ rfl Z.o i (Int.natCast_nonneg i) gs[i] (by simp) hik hon (h.on hon).plc won wgr wl wh we wfr ws huw hwl hww hwh a b hab Z.o Z.o _ rfl _ rfl
theorem kLH(n:Nv)(hr:n.p.rs=[])(hu:NvU n)(r:Rp)(f:Fu):WkB 2 [.ref 0 55 0 0,.ref 1 32 0 0,.agg [f.lo,f.hi,f.n,f.cl,f.cf,f.s0,f.s1]] [.live 55 [n.rowP .nils],.live 32 [r.rowL .nils]] [.ref 0 55 0 0,.ref 1 32 0 0,.agg [f.lo,f.hi,f.n,f.cl,f.cf,f.s0,f.s1]] [.live 55 [n.row],.live 32 [r.rowL .nils]]:=by
 have hu1:=hu.rowN_up;have hu2:=r.upL;have hu3:=hu.row;obtain⟨hue,hud,huo,hur⟩:=hu;obtain⟨⟨c0,c1,c2,c3,c4,c5,c6,c7,c8,c9,c10,c11,c12,c13⟩,es,ds,cy,g0,g1,os,⟨kn0,la0,su0⟩,⟨kn1,la1,su1⟩,a0,b0,a1,b1,lo,hi,di,on,gr,⟨pl,ph,pe,fr,rs⟩,cl,o0,o1,s0,s1,sc,so,ra,ro,m0,m1,⟨wi,wt,wf⟩⟩:=n;simp only at hue hud huo hur hr;subst hr;obtain⟨flo,fhi,fn,fcl,fcf,fs0,fs1⟩:=f;refine WkB.mk ?_;(refine Z.n (id) ?_;cbv<;>exact Z.q)
end
section
variable {ss:List Sg} {gs:List Gr} {n:Nv} {mm:List (List Int)} {k:Int}
theorem k6R.was(h:k6R ss gs n mm k): -17592186044416<=n.p.lo/\n.p.lo<=n.p.hi/\n.p.hi<=17592186044416:=by
 cases ho:n.on with
 | true =>
   obtain⟨_,h2,_,_,_⟩:=h.on ho;obtain⟨q1,q2,q3,_,_⟩:=h2;simp only at q1 q2 q3;omega
 | false=>rw[(h.off ho).2.1];decide
theorem kVV{n:Nv}{mm:List (List Int)}(h:n.w.fa=true):(k7J n mm).1.on=false/\(k7J n mm).1.p=kJM:=by
 unfold k7J;rw[h];exact⟨rfl,rfl⟩
theorem kQT{n:Nv}{mm m2:List (List Int)}:(k7J n mm).1=(k7J n m2).1:=by
 unfold k7J;cases n.w.fa<;>rfl
theorem kMI{n:Nv}{mm:List (List Int)}:(k7J n mm).1.c=n.c/\(k7J n mm).1.sc=n.sc/\(k7J n mm).1.ra=n.ra/\(k7J n mm).1.ro=n.ro/\(k7J n mm).1.m0=n.m0/\(k7J n mm).1.m1=n.m1/\(k7J n mm).1.w=n.w:=by
 unfold k7J;cases n.w.fa<;>exact⟨rfl,rfl,rfl,rfl,rfl,rfl,rfl⟩
theorem kMP{a b:Int}:(k9X ss mm n a b).1.c=n.c/\(k9X ss mm n a b).1.m0=n.m0/\(k9X ss mm n a b).1.m1=n.m1/\(k9X ss mm n a b).1.k0=n.k0/\(k9X ss mm n a b).1.k1=n.k1/\(k9X ss mm n a b).1.s0=n.s0/\(k9X ss mm n a b).1.s1=n.s1/\(k9X ss mm n a b).1.cy=n.cy:=by
 unfold k9X;split
 ·split<;>exact⟨rfl,rfl,rfl,rfl,rfl,rfl,rfl,rfl⟩
 ·exact⟨rfl,rfl,rfl,rfl,rfl,rfl,rfl,rfl⟩
theorem kOX{G:Gr}{x:Fo}{a b:Int}:(kJ0 G n x a b).c=n.c/\(kJ0 G n x a b).m0=n.m0/\(kJ0 G n x a b).m1=n.m1:=by
 unfold kJ0;obtain⟨x0,y0,x1,y1,e,_,_⟩:=kZU n (kVK G n x.g a b) x.at_;rw[e];exact⟨rfl,rfl,rfl⟩
theorem kWZ(h:k6R ss gs n mm k)(hk:k<1000000)(l:List (List Int))(hl:∀b,b∈l->k0H b/\b.length<=1000000)(hll:l.length<=1000000)(com:Bool)(rs:List (List AV))(yL:rs=l.map k73) :
 k06 Tryz.prog 20 [.ref 0 55 0 0,.list 1 rs,com] [.live 55 [n.row]] (λr hp=>r = .agg (kCT ss gs n mm l com).r.row/\∃j,hp = .live 55 [(kCT ss gs n mm l com).n.row]::j)/\k6R ss gs (kCT ss gs n mm l com).n (kCT ss gs n mm l com).mm (k+1):=by
 have hcy:=h.cy;have hkk:=h.kk;have hc:=h.cf.in_;have hpc:=kMG h.tr;have hM:=q0F n.cy ⟨by omega,by omega⟩ l hl hll rs yL (k52 n.cy l) rfl;have hmo:=kMT n.cy (l:=l) λb hb=>(hl b hb).1;have hm5:=kW1 n.cy (l:=l) λb hb=>(hl b hb).1;obtain⟨m,em⟩:=Z.e (k52 n.cy l);rw[<- em] at hM hmo hm5;obtain⟨n1,en1⟩:∃x:Nv,x={ n with cy:=n.cy+1 }:=⟨_,rfl⟩;have hsn:=h.sn;have hnu:=h.nvu;have hdi:=h.di;have hmo0:=h.mo;have hf:=kT8 (ss:=ss) (mm:=mm) (n:={ n with cy:=n.cy+1 }) m (by show 0<=n.c.c7;omega) (by show 0<=n.c.c6;omega) h.sp
 have hS0:=λv f e=>kS1 ss gs mm n1 (by rw[en1];exact⟨hnu.es,hnu.ds,hnu.os,hnu.rs⟩) (by rw[en1];exact h.es) (by rw[en1];exact h.ds) h.tr.lensOk hpc (λho=>by rw[en1] at ho ⊢;have:=(h.on ho).plc;exact⟨this.fr,this.way,this.few,this.rs⟩)
  (by rw[en1];exact⟨hsn.cf,hsn.k0,hsn.k1,hsn.c0,hsn.c1,hsn.sp⟩) m hmo (by rw[en1];exact kY8 hpc mm h.g) v f e
 have h3:=λcl=>h.sense hk m cl;rw[<- en1] at hf h3;obtain⟨⟨n2,f⟩,e2⟩:=Z.e (kC0 ss mm n1 m);rw[<- e2] at hf h3;have hS:=hS0 n2 f e2
 have hc2:n2.c=n.c/\n2.di=n.di/\n2.m0=n.m0/\n2.m1=n.m1:=by
  have:=congrArg Prod.fst e2;rw[kEH] at this;simp only at this;rw[this,en1];exact⟨rfl,rfl,rfl,rfl⟩
 simp only at hf h3;obtain⟨⟨f1,f2,f3⟩,f4⟩:=hf;have hc1:n1.c=n.c/\n1.lo=n.lo/\n1.hi=n.hi:=by rw[en1];exact⟨rfl,rfl,rfl⟩
 rw[hc1.1,hc1.2.1] at f1;rw[hc1.1,hc1.2.2] at f3;have fa: -n.c.c6<=f.lo:=by omega
 have fb:f.hi<=n.c.c6:=by omega
 clear f1 f3;have hu2:NvU n2:=by have:=(h3 n2.cl).nvu;exact⟨this.es,this.ds,this.os,this.rs⟩
 obtain⟨n3,en3⟩:∃x:Nv,x={ n2 with cl:=n2.cl && f.cl }:=⟨_,rfl⟩;have h3:=h3 (n2.cl && f.cl);rw[<- en3] at h3;have hc3:n3.c=n.c/\n3.di=n.di/\n3.m0=n.m0/\n3.m1=n.m1:=by rw[en3];exact hc2
 have h4:=h3.move (a:=f.lo) (b:=f.hi) f2 (by rw[hc3.1];exact fa) (by rw[hc3.1];exact fb) (by rw[hc3.2.1];omega);have hsame:=kMP (ss:=ss) (mm:=mm) (n:=n3) (a:=f.lo) (b:=f.hi)
 have hMv0:=λv m2 o e=>(show n3.on=true->k06 Tryz.prog 47 [.ref 0 55 0 0,.agg [f.lo,f.hi]] [.live 55 [n3.row]] (λr hp=>r = .bool o/\∃j,hp = .live 55 [v.row]::j) from λho =>
  kS3 ss gs mm n3 h3.nvu h3.es h3.ds h3.tr.lensOk h3.tr.nextOk ho (h3.on ho).fr (h3.on ho).ok (h3.on ho).rs f.lo f.hi f2 Z.o Z.o (by have:=h3.di;omega) v m2 o e)
 have hMv1:=λ(ho:n3.on=false)=>kS4 n3 h3.nvu ho f.lo f.hi (by unfold I62;omega) (by unfold I62;omega) (by have:=h3.di;omega) Z.o _ rfl;obtain⟨⟨n4,mm4,ov⟩,e4⟩:=Z.e (k9X ss mm n3 f.lo f.hi);rw[<- e4] at h4 hsame;simp only at h4 hsame
 have hMv:k06 Tryz.prog 47 [.ref 0 55 0 0,.agg [f.lo,f.hi]] [.live 55 [n3.row]] (λr hp=>r = .bool ov/\∃j,hp = .live 55 [n4.row]::j):=by
  cases ho:n3.on with
  | true=>exact hMv0 n4 mm4 ov e4 ho
  | false =>
    have:=hMv1 ho;unfold k9X at e4;rw[ho,if_neg Z.d] at e4;simp only[Prod.mk.injEq] at e4;rw[e4.1,e4.2.2];rw[ho] at this;exact this
 clear hMv0 hMv1;have hwas:=h3.was;obtain⟨x,ex⟩:=Z.e (k98 ss gs mm4 n4 n3.p.lo n3.p.hi m f.lo f.hi);have hL:=kX0 h4 m hm5 n3.on n3.gr n3.p.lo n3.p.hi n3.p.est n3.p.fr n3.p.rs h3.nvu.rs hwas.1 hwas.2.1 hwas.2.2 f.lo f.hi f2 Z.o Z.o x ex;obtain⟨⟨n5,mm5⟩,e5⟩:=Z.e (kPA gs x n4 mm4 f.lo f.hi);have e5k:=e5;unfold kPA at e5
 have h5:k6R ss gs n5 mm5 (k+1)/\n5.c=n.c/\n5.m0=n.m0/\n5.m1=n.m1/\(x.ac=true->k06 Tryz.prog 49 [.ref 0 55 0 0,.agg [x.g,.list 1 (x.at_.map k0K),x.ok,x.ac],.agg [f.lo,f.hi]] [.live 55 [n4.row]] (λr hp=>r = .tuple []/\∃j,hp = .live 55 [n5.row]::j))/\(x.ac=false->n5=n4):=by
  cases hac:x.ac with
  | false =>
    rw[hac] at e5;simp only[Prod.mk.injEq] at e5;obtain⟨rfl,rfl⟩:=e5;exact⟨h4,by rw[hsame.1,hc3.1],by rw[hsame.2.1,hc3.2.2.1],by rw[hsame.2.2.1,hc3.2.2.2],(λh=>by cases h),λ_=>rfl⟩
  | true =>
    rw[hac] at e5;obtain⟨hg0,G,hG,hat⟩:=kW2 ex hac;unfold q1J at e5;rw[hG] at e5;simp only[Prod.mk.injEq] at e5;obtain⟨e5,rfl⟩:=e5;have hs:=kOX (n:=n4) (G:=G) (x:=x) (a:=f.lo) (b:=f.hi);rw[<- e5] at hs;have ha:=h4.accept (x:=x) hg0 hG f2 (by rw[hsame.1,hc3.1];exact fa) (by rw[hsame.1,hc3.1];exact fb);rw[<- e5] at ha;have hgr:=h4.tr.grp x.g.toNat (List.getElem?_eq_some_iff.1 hG).1 G hG;have hc4:n4.c=n.c:=(by rw[hsame.1,hc3.1]);refine⟨ha,by rw[hs.1,hc4],by rw[hs.2.1,hsame.2.1,hc3.2.2.1],by rw[hs.2.2,hsame.2.2.1,hc3.2.2.2],λ_=>?_,(λh=>by cases h)⟩;have k0:=h4.k0;have k1:=h4.k1;have s0:=h4.s0;have s1:=h4.s1;rw[<- hac];refine kO2 gs n4 h4.nvu h4.ds (by rw[hc4];exact hc.2.2.2.2.1) (by rw[hc4];exact hc.1) x hg0 G hG ⟨hgr.2.2.2.2.2.2.1,hgr.2.2.2.2.2.2.2.1⟩ f.lo f.hi Z.o Z.o f2 ?_ h4.or Z.o Z.o _ rfl n5 e5;intro y hy;rcases hat with hat|hat
    ·rw[hat] at hy;cases hy
    ·rw[hat] at hy
     exact q06 ⟨hwas.1,hwas.2.2⟩ Z.o Z.o (by rw[hc4];exact hc.2.2.2.2.1) ⟨⟨hgr.2.2.2.2.2.2.1,hgr.2.2.2.2.2.2.2.1⟩,hgr.2.2.2.2.2.2.2.2.1,hgr.2.2.2.2.2.2.2.2.2.1⟩ y hy
 obtain⟨h5,hc5,hm05,hm15,hA,hA0⟩:=h5;obtain⟨w6,e6⟩:=Z.e (wtV n5.c.c12 n5.w f.n f.cf ov x.ac);have h7:=h5.watch f.n f.cf ov x.ac;rw[<- e6] at h7;obtain⟨⟨n7,mm7⟩,e7⟩:∃y,y=k7J { n5 with w:=w6 } mm5:=⟨_,rfl⟩;rw[<- e7] at h7;simp only at h7;have hs7:=kMI (n:={ n5 with w:=w6 }) (mm:=mm5);rw[<- e7] at hs7;simp only at hs7;obtain⟨t1,t2,t3,t4,t5,t6,t7⟩:=hs7;obtain⟨sc8,e8⟩:=Z.e (k77 n5.c.c9 n5.c.c10 n5.sc f.lo f.hi f.n);obtain⟨so8,eo8⟩:=Z.e (decide (n5.c.c9<=sc8));obtain⟨q,eq⟩:∃y,y=k44 n5.c.c11 ⟨n5.ra,n5.ro,n5.m0,n5.m1⟩ so8 com f.lo f.hi:=⟨_,rfl⟩;have h9:=h7.roll (a:=f.lo) (b:=f.hi) f2 (by rw[t1,hc5];exact fa) (by rw[t1,hc5];exact fb) (by rw[t5,t6,hm05,hm15];omega) Z.o f.n so8 so8 com;have e8':k77 n7.c.c9 n7.c.c10 n7.sc f.lo f.hi f.n=sc8:=by rw[t1,t2];exact e8.symm
 have eq':k44 n7.c.c11 ⟨n7.ra,n7.ro,n7.m0,n7.m1⟩ so8 com f.lo f.hi=q:=by rw[t1,t3,t4,t5,t6];exact eq.symm
 rw[e8',eq'] at h9;obtain⟨n9,e9⟩:∃y:Nv,y={ n7 with sc:=sc8,so:=so8,ra:=q.an,ro:=q.on,m0:=q.lo,m1:=q.hi }:=⟨_,rfl⟩;rw[<- e9] at h9;obtain⟨r0,er0⟩:∃y:Rp,y={ rp0 n.cy with bad:=m.bad,sta:=m.stale,twi:=m.twice,bey:=m.beyond,ac:=x.ac,fa:= !x.ok }:=⟨_,rfl⟩;have hrr:r0.rt=[]:=by rw[er0];rfl
 obtain⟨v,ev⟩:=Z.e (k28 ss gs mm7 r0 n9 f);have hw9:n9.w=w6:=by rw[e9];exact t7
 have hfi:I62 f.lo/\I62 f.hi:=⟨by unfold I62;omega,by unfold I62;omega⟩;have hc9:n9.c=n.c:=by rw[e9];show n7.c=n.c;rw[t1,hc5]
 have hT:k06 Tryz.prog 53 [.ref 0 55 0 0,.ref 1 32 0 0,.agg [f.lo,f.hi,f.n,f.cl,f.cf,f.s0,f.s1]] [.live 55 [match w6.fa with|true=>n9.rowP .nils|false=>n9.row],.live 32 [r0.rowL .nils]] (λx hp=>x = .tuple []/\hp=[.live 55 [n9.row],.live 32 [v.row]]):=by
  cases hfa:w6.fa with
  | true =>
    have ho:=kVV (n:={ n5 with w:=w6 }) (mm:=mm5) hfa;rw[<- e7] at ho;have ho1:n9.on=false:=(by rw[e9];exact ho.1);have ho2:n9.p=kJM:=(by rw[e9];exact ho.2);exact k06.weak (kLH n9 (by rw[ho2];rfl) h9.nvu r0 f) rfl (kIJ ss gs mm7 n9 h9.nvu ho1 r0 hrr f hfi v ev)
  | false =>
    cases ho:n9.on with
    | false=>exact kIJ ss gs mm7 n9 h9.nvu ho r0 hrr f hfi v ev
    | true =>
      have hp:=h9.on ho;obtain⟨hg0,G,hG⟩:=hp.gr;have hwas9:=h9.was;exact kRY ss gs mm7 n9 h9.nvu h9.es h9.ds h9.tr ho (by rw[hc9];exact hc.2.2.2.2.2.2.2.2.2) (by rw[hc9];omega) h9.os hp.fr hp.ok.way hp.ok.few hp.rs Z.o hg0 G hG r0 hrr f hfi v ev
 have hws:=h5.ws;have hwt:=h5.wt;have hsc:=h5.sc
 have key:=kRZ n hnu (n.cy+1) rfl ⟨by omega,by omega⟩ rs (by rw[yL];exact kCR l) com m hM n1 en1 n2 hu2 f hS n3 en3 n4 h4.nvu ov hMv x (x.at_.map k0K) (k1D (f:=k0K) (λd=>rfl) _) hL n5 h5.nvu hA hA0 w6 e6 (by rw[hc5];exact hc.2.2.2.2.2.2.2.2.1) Z.o Z.o
  n7 (by have:=congrArg Prod.fst e7;rw[show n7=(k7J { n5 with w:=w6 } mm5).1 from this];exact kQT) f2 (by rw[hc5];exact hc.2.2.2.2.2.1) (by rw[hc5];exact hc.2.2.2.2.2.2.1) Z.o sc8 e8 so8 eo8 (by rw[hc5];omega) (by rw[hm05,hm15];exact hmo0.1) (by rw[hm05];unfold InR;omega) (by rw[hm15];unfold InR;omega) q eq n9 e9 h9.nvu r0 er0 v hT
 have hstep:kCT ss gs n mm l com=⟨n9,mm7,v⟩:=by
  unfold kCT;rw[<- em,<- en1,<- e2];unfold kJB;simp only;rw[<- en3,<- e4];unfold kJA;simp only;rw[<- ex,<- e5k];unfold stepE;simp only;rw[show n.c=n5.c from hc5.symm,<- e6,<- e7];simp only;rw[t2,t3,t4,t5,t6,<- e8,<- eo8,<- eq,<- e9,<- er0,<- ev]
 rw[hstep];exact⟨key,h9⟩
end
def brN(cy:Int):List AV:=jz 0::jz 0::jz 0::jz 0::jz 0::jz 0::jz 0::jz 0::jz 0::jz 0::jz 0::jz 0::jz 0::jz 0 :: .list 3 [] :: .list 5 [] :: .bool true::jz cy::jz 0::jz 0 :: .list 1 [] :: .bool false :: .int .u16 0::jz 0::[.bool false,.int .u16 0,jz 0,jz 0,jz 0,jz 0,jz 0,jz 0,jz 0,jz 0,.bool false,jz 0,jz 0,jz 0,jz 0,jz 0,.list 13 [],.bool false,jz 0,jz 0,jz 0,jz 0,jz 0,.bool false,.bool false,.bool false,jz 0,jz 0,jz 0,jz 0,.bool false]
inductive Un where
 | br (cy:Int)
 | ok (ss:List Sg) (gs:List Gr) (n:Nv) (mm:List (List Int))
def Un.row:Un->List AV
 | .br cy=>brN cy
 | .ok _ _ n _=>n.row
def kYW(c:Cf):Int:=k9I c.c0 c.c1 c.c2 c.c3 c.c4 c.c5 c.c6 c.c7 c.c8 c.c9 c.c10 c.c11 c.c12 c.c13
def stU(c:Cf)(ss:List Sg)(gs:List Gr):Nv:=⟨c,ss.map k0Y,gs.map k14,0,(kLG ss).1,(kLG ss).2,(List.range ss.length).map λx=>[jz (kKO ss x)],⟨false,0,0⟩,⟨false,0,0⟩,c.c1,c.c2,c.c1,c.c2,-c.c6,c.c6,0,false,0,kJM,false,0,0,0,0,0,false,false,false,0,0,⟨0,0,false⟩⟩
def kPB(c:Cf)(b:List Int)(ss:List Sg)(gs:List Gr):Prop:=kBT b ss gs/\q1C (kYW c) c.c6 c.c8 ss gs
noncomputable def kKM(c:Cf)(b:List Int):Un:=by
 classical
 exact if h:∃x:List Sg×List Gr,kPB c b x.1 x.2 then .ok h.choose.1 h.choose.2 (stU c h.choose.1 h.choose.2) [] else .br 0
theorem kGI{c:Cf}{b:List Int}{ss:List Sg}{gs:List Gr}(h:kPB c b ss gs):kKM c b = .ok ss gs (stU c ss gs) []:=by
 have hh:∃x:List Sg×List Gr,kPB c b x.1 x.2:=⟨(ss,gs),h⟩;unfold kKM;rw[dif_pos hh];have h2:=hh.choose_spec;obtain⟨e1,e2⟩:=h2.1.uniq h.1;rw[e1,e2]
theorem kD6{c:Cf}{b:List Int}(h:∀ss gs,¬kPB c b ss gs):kKM c b = .br 0:=by
 unfold kKM;rw[dif_neg]
 rintro⟨x,hx⟩
 exact h _ _ hx
theorem kZM{n:Nat}{os:List (List AV)}{f:Nat->Int}(h:Own n os f):os=(List.range n).map λx=>[jz (f x)]:=by
 apply List.ext_getElem?;intro x;by_cases hx:x<n
 ·rw[h.at_ x hx,List.getElem?_map,List.getElem?_range hx];rfl
 ·rw[List.getElem?_eq_none (by rw[h.len];omega),List.getElem?_eq_none (by rw[List.length_map,List.length_range];omega)]
theorem kT2{c:Cf}{b:List Int}{ss:List Sg}{gs:List Gr}(h:kPB c b ss gs):k6R ss gs (stU c ss gs) [] 0:=by
 obtain⟨h1,h2⟩:=h;have hc:kKJ c:=kA0 h2.wr;have hi:=hc.in_;have hg:=kUL (kMG h2.tr);exact⟨hc,h2.tr,rfl,rfl,rfl,by decide,rfl,hg,(by simp only[stU];decide),(by simp only[stU];decide),⟨by show 0<c.c1;omega,by show c.c1<=c.c2;omega,by show c.c2<=_;omega⟩,⟨by show 0<c.c1;omega,by show c.c1<=c.c2;omega,by show c.c2<=_;omega⟩,⟨by show -c.c6 <= -c.c6;omega,by show -c.c6<=c.c6;omega,by show c.c6<=c.c6;omega⟩,(by simp only[stU];decide),(λh=>by cases h),λ_=>⟨rfl,rfl,rfl⟩,(by simp only[stU];decide),(by simp only[stU];decide),(by simp only[stU];decide),(by simp only[stU];decide),(by simp only[stU];decide),(by simp only[stU];decide),(by simp only[stU];decide)⟩
theorem kO0(c:Cf)(b:List Int)(hb:k0H b)(h47:b.length<=1000000000)(rs:List (List AV))(yL:rs=b.map k15) :
 k06 Tryz.prog 15 [.agg [c.c0,c.c1,c.c2,c.c3,c.c4,c.c5,c.c6,c.c7,c.c8,c.c9,c.c10,c.c11,c.c12,c.c13],.list 1 rs] [] (λr hD=>r = .ref 0 55 0 0/\hD=[.live 55 [(kKM c b).row]]):=by
 refine k06.give ?_;have qo:=kX9 b hb h47 rs yL;have hur:Up0 rs:=by rw[yL];exact k2R _
 obtain⟨u,eu⟩:=Z.e (kKM c b);rw[<- eu];have hok:=λss gs (h:kPB c b ss gs)=>(eu.trans (kGI h));have hno:=λ(h:∀ss gs,¬kPB c b ss gs)=>(eu.trans (kD6 h));clear eu;obtain⟨c0,c1,c2,c3,c4,c5,c6,c7,c8,c9,c10,c11,c12,c13⟩:=c;refine Z.x Tryz.func15 λ_ zG _ _ _ _ _ _ zB _ _ _ _ hz P hP=>?_;cbv;refine Call.step (by rw[<- hP];exact qo) Z.u ?_;rintro r (⟨ss,gs,es,ds,hO,zU,yG,rfl⟩|⟨e,he,hO,rfl⟩)
 ·have hu:Up0 es:=by rw[zU];exact k42 ss
  have hud:Up0 ds:=(by rw[yG];exact k43 gs);have hsl:ss.length<=1000000:=by have:=hO.tr.le;omega
  have hgl:gs.length<=1000000:=by have:=hO.tr.gle;omega
  have qf:=kXR c0 c1 c2 c3 c4 c5 c6 c7 c8 c9 c10 c11 c12 c13 ss gs hsl hgl es ds zU yG;have d0:=W.eq zB (a:=0) rfl;cbv;repeat' (first|(simp only[d0];cbv)|fail)
  refine Call.step (by rw[<- hP];exact qf) Z.u ?_;rintro r ⟨e,i,rfl,he⟩;by_cases h0:e=0
  ·subst h0
   have hN:kPB ⟨c0,c1,c2,c3,c4,c5,c6,c7,c8,c9,c10,c11,c12,c13⟩ b ss gs:=⟨hO,he.1 rfl⟩;obtain rfl:=hok ss gs hN;have hT:=hO.tr;have hst:=(kT2 hN).nvu.row;obtain⟨g0,eg0⟩:∃x,x=(kLG ss).1:=⟨_,rfl⟩;obtain⟨g1,eg1⟩:∃x,x=(kLG ss).2:=⟨_,rfl⟩;obtain⟨os,eos⟩:∃x,x=(List.range ss.length).map λx=>[jz (kKO ss x)]:=⟨_,rfl⟩;obtain⟨m6,em6⟩:∃x,x = -c6:=⟨_,rfl⟩;have hc:=(kA0 (he.1 rfl).wr:k6S _ _ _ _ _ _ _ _ _ _ _ _ _ _);have hi:=(show kKJ ⟨c0,c1,c2,c3,c4,c5,c6,c7,c8,c9,c10,c11,c12,c13⟩ from hc).in_;simp only at hi;have q1:=kNS ss gs es ds zU yG hT.ne hsl hT.lensOk (kMG hT) g0 g1 (by rw[eg0,eg1]);have q2:=(q0T ss gs es ds zU yG hT).mono (R':=(· = .list 1 os)) (by rintro r ⟨o,rfl,ho⟩;rw[kZM ho,eos];rfl);have q3:=q0V c0 c1 c2 c3 c4 c5 c6 c7 c8 c9 c10 c11 c12 c13;have q4:=kIF c0 c1 c2 c3 c4 c5 c6 c7 c8 c9 c10 c11 c12 c13 m6 em6 ⟨by omega,by omega⟩;have huo:Up0 os:=(by rw[eos];exact k1D (f:=λx=>[jz (kKO ss x)]) (λd=>rfl) _);have zL:(Un.ok ss gs (stU ⟨c0,c1,c2,c3,c4,c5,c6,c7,c8,c9,c10,c11,c12,c13⟩ ss gs) []).row=({ stU ⟨c0,c1,c2,c3,c4,c5,c6,c7,c8,c9,c10,c11,c12,c13⟩ ss gs with es:=es,ds:=ds,os:=os,g0:=g0,g1:=g1,lo:=m6 }:Nv).row:=(by rw[zU,yG,eos,eg0,eg1,em6];rfl);rw[zL];clear zL hst hi hc eos eg0 eg1 em6 hok hno he hN hO zU yG qo qf;cbv;have d3:zG .neq 0 0=false:=W.nne zB rfl;repeat' (first|(simp only[d0,d3];cbv)|(refine k1R.s hP q1 ?_;cbv)|(refine k1R.s hP q2 ?_;cbv)|(refine k1R.s hP q3 ?_;cbv)|(refine k1R.s hP q4 ?_;cbv)|fail)
   refine WkB.mk ?_;(refine Z.k (λj=>[2].getD j 0) ?_;cbv<;>exact Z.q)
  ·obtain rfl:=hno λss' gs' h=>by
    obtain⟨rfl,rfl⟩:=h.1.uniq hO;exact h0 (he.2 h.2)
   clear hok hno hO qo qf he;have d1:=W.neq zB h0;have d2:=W.ne zB h0;cbv;repeat' (first|(simp only[d1,d2,d0];cbv)|fail)
   refine WkB.mk ?_;(refine Z.k (λj=>[2].getD j 0) ?_;cbv<;>exact Z.q)
 ·obtain rfl:=hno λss gs h=>hO ss gs h.1
  clear hok hno hO qo;have d1:=W.neq zB he;have d2:=W.ne zB he;cbv;repeat' (first|(simp only[d1,d2];cbv)|fail)
  refine WkB.mk ?_;(refine Z.k (λj=>[2].getD j 0) ?_;cbv<;>exact Z.q)
noncomputable def kJ9:Un->List (List Int)->Bool->Un×Rp
 | .br cy,_,_=>(.br (cy+1),rp0 cy)
 | .ok ss gs n mm,l,com=>(.ok ss gs (kCT ss gs n mm l com).n (kCT ss gs n mm l com).mm,(kCT ss gs n mm l com).r)
def UI(k:Int):Un->Prop
 | .br cy=>cy=k/\0<=k/\k<=1000000
 | .ok ss gs n mm=>k6R ss gs n mm k
theorem UI.up{k:Int}:∀ {u:Un},UI k u->Up0 [u.row]
 | .br cy,_=>⟨rfl⟩
 | .ok ss gs n mm,h=>h.nvu.row
theorem kS0(cy:Int)(hcy:0<=cy/\cy<=1000000000)(ls:List (List AV))(hls:Up0 ls)(com:Bool) :
 k06 Tryz.prog 20 [.ref 0 55 0 0,.list 1 ls,com] [.live 55 [brN cy]] (λr hp=>r = .agg (rp0 cy).row/\∃j,hp = .live 55 [brN (cy+1)]::j):=by
 refine k06.mono (k06.give (h':=[.live 55 [brN (cy+1)]]) (r':=.agg (rp0 cy).row) ?_) (λr h hh=>⟨hh.1,[],hh.2⟩);obtain⟨cy1,ecy⟩:=Z.f (cy+1);rw[ecy];have f1:k05 .add .i64 cy 1=cy1:=by rw[k0S Z.o Z.o];exact ecy
 clear hcy ecy;(refine k06.ofP (F:=[6,19]) (sc:=?scc) (r:=?rr) Tryz.func20 (by kernel_rfl) rfl ?hr ?hc (by kernel_rfl) λw hw=>?H);(case hr=>((conv=>lhs;cbv);(try exact rfl)));(case hc=>((repeat' (first|refine' k7D ?_ ?_|refine' k3F ?_|refine' k4U ?_|refine' k25 (id:=6) q1V rfl (by kernel_rfl) ?_|refine' k25 (id:=19) kUX rfl (by kernel_rfl) ?_|fail));(try any_goals (conv=>lhs;cbv));(try any_goals exact rfl)));(obtain⟨zA,zG,yT,zD,zF,zW,yR,zN,zQ,zP,yC,zZ,zV,zT,zK,zM,zO,yE,zS,yF⟩:=w);(have zC:=Z.w1 hw);(have zB:=Z.w2 hw);(have yM:=Z.w3 hw);(have zH:=Z.w4 hw);(have zI:=Z.w5 hw);(have yK:=Z.w6 hw);(have yU:=Z.w7 hw);(have zX:=Z.w8 hw);(have yB:=Z.w9 hw);(have yA:=Z.w10 hw);(have yQ:=Z.w11 hw);(have yP:=Z.w12 hw);(have zE:=Z.w13 hw);(have yO:=Z.w14 hw);(have zR:=Z.w15 hw);(have yD:=Z.w16 hw);(have yI:=Z.w17 hw);(have yW:=Z.w18 hw);(have yN:=Z.w19 hw);(have yX:=Z.w20 hw);(have hz:=Z.z hw);(conv=>arg 4;cbv);(generalize hP:Tryz.prog=P);cbv;have f1:zA .add .i64 cy 1=cy1:=by rw[zC];exact f1
 simp only[f1];have hu0:Up0 ([]:List (List AV)):=⟨rfl⟩;refine WkB.mk ?_;(refine Z.n (λi=>i) ?_;cbv<;>exact Z.q)
theorem kNQ{k:Int}{u:Un}(h:UI k u)(hk:k<1000000)(l:List (List Int))(hl:∀b,b∈l->k0H b/\b.length<=1000000)(hll:l.length<=1000000)(com:Bool)(rs:List (List AV))(yL:rs=l.map k73) :
 k06 Tryz.prog 20 [.ref 0 55 0 0,.list 1 rs,com] [.live 55 [u.row]] (λr hp=>r = .agg (kJ9 u l com).2.row/\∃j,hp = .live 55 [(kJ9 u l com).1.row]::j)/\UI (k+1) (kJ9 u l com).1:=by
 cases u with
 | br cy =>
   obtain⟨h1,h2,h3⟩:=h;exact⟨kS0 cy ⟨by omega,by omega⟩ rs (by rw[yL];exact kCR l) com,by show cy+1=k+1;omega,by omega,by omega⟩
 | ok ss gs n mm=>exact kWZ h hk l hl hll com rs yL
theorem kMK(c:Cf)(b:List Int):UI 0 (kKM c b):=by
 by_cases h:∃x:List Sg×List Gr,kPB c b x.1 x.2
 ·obtain⟨x,hx⟩:=h
  rw[kGI hx];exact kT2 hx
 ·rw[kD6 λss gs hh=>h ⟨(ss,gs),hh⟩]
  exact⟨rfl,by decide,by decide⟩
theorem kVY(fa on:Bool)(fit:Int)(cf:Bool):k6J fa on fit cf=4↔fa=true:=by
 unfold k6J;cases fa
 ·simp only[Bool.false_eq_true,if_false,iff_false]
  split
  ·decide
  ·split<;>decide
 ·simp
theorem kTF(n:Nv)(mm:List (List Int)):(k7J n mm).1.w=n.w:=by unfold k7J;split<;>rfl
theorem kTG(n:Nv)(mm:List (List Int))(h:(k7J n mm).1.on=true):n.on=true/\n.w.fa=false:=by
 unfold k7J at h;split at h
 ·simp at h
 ·exact⟨h,by assumption⟩
theorem kLI(ss:List Sg)(gs:List Gr)(mm:List (List Int))(r:Rp)(n:Nv)(f:Fu):(k28 ss gs mm r n f).md=k6J n.w.fa n.on f.n f.cf/\(k28 ss gs mm r n f).ac=r.ac/\(n.on=false->(k28 ss gs mm r n f).gr=r.gr)/\(n.on=true->(k28 ss gs mm r n f).gr=match gs[n.gr.toNat]? with|some G=>G.id|none=>0):=by
 unfold k28;cases n.on
 ·exact⟨rfl,rfl,λ_=>rfl,(λh=>by cases h)⟩
 ·exact⟨rfl,rfl,(λh=>by cases h),λ_=>rfl⟩
theorem kTH(ss:List Sg)(mm:List (List Int))(n:Nv)(a b:Int):(k9X ss mm n a b).1.w=n.w/\(n.on=false->(k9X ss mm n a b).1.on=false):=by
 unfold k9X;split
 ·split
  ·exact⟨rfl,λh=>by simp_all⟩
  ·exact⟨rfl,λh=>rfl⟩
 ·exact⟨rfl,λh=>h⟩
theorem kUU(ss:List Sg)(gs:List Gr)(n:Nv)(m:Ml)(com:Bool)(f:Fu)(ov:Bool)(x:Fo)(u:Nv×List (List Int)):∃(n9:Nv) (t:List (List Int)) (r0:Rp),stepE ss gs n m com f ov x u=⟨n9,t,k28 ss gs t r0 n9 f⟩/\r0.ac=x.ac/\r0.gr=0/\n9.w=wtV n.c.c12 u.1.w f.n f.cf ov x.ac/\(n9.on=true->u.1.on=true):=
 ⟨_,_,_,rfl,rfl,rfl,kTF _ _,λh=>(kTG _ _ h).1⟩
theorem kUW{ss:List Sg}{gs:List Gr}{n:Nv}{m:Ml}{com:Bool}{f:Fu}{ov:Bool}{x:Fo}{u:Nv×List (List Int)}{s:kBR}(e:s=stepE ss gs n m com f ov x u) :
 (s.r.md=4↔s.n.w.fa=true)/\s.r.ac=x.ac/\(s.n.on=false->s.r.gr=0)/\(s.n.on=true->s.r.gr=match gs[s.n.gr.toNat]? with|some G=>G.id|none=>0)/\(x.ac=false->u.1.w.fa=true->s.n.w.fa=true)/\(s.n.on=true->u.1.on=true):=by
 obtain⟨n9,t,r0,h1,h2,h3,h4,h5⟩:=kUU ss gs n m com f ov x u;rw[h1] at e;subst e;obtain⟨k1,k2,k3,k4⟩:=kLI ss gs t r0 n9 f;refine⟨by simp only;rw[k1];exact kVY _ _ _ _,k2.trans h2,λh=>(k3 h).trans h3,k4,λa b=>?_,h5⟩;simp only;rw[h4];unfold wtV;rw[a,b];simp
theorem kZB{ss:List Sg}{gs:List Gr}{n:Nv}{mm:List (List Int)}{l:List (List Int)}{com:Bool}{s:kBR}(e:s=kCT ss gs n mm l com) :
 (s.r.md=4↔s.n.w.fa=true)/\(s.n.on=false->s.r.gr=0)/\(s.n.on=true->s.r.gr=match gs[s.n.gr.toNat]? with|some G=>G.id|none=>0)/\(s.r.ac=false->n.w.fa=true->s.n.w.fa=true)/\(s.r.ac=false->s.n.on=true->n.on=true):=by
 unfold kCT kJB kJA at e;simp only at e;obtain⟨h1,h2,h3,h4,h5,h6⟩:=kUW e;refine⟨h1,h3,h4,λha hf=>h5 (h2.symm.trans ha) ?_,λha ho=>?_⟩
 ·have hx:=h2.symm.trans ha
  unfold kPA;rw[hx];simp only[(kTH _ _ _ _ _).1,kEH];exact hf
 ·have h7:=h6 ho
  have hx:=h2.symm.trans ha;unfold kPA at h7;rw[hx] at h7;simp only at h7
  cases hn:n.on with
  | true=>rfl
  | false =>
    rw[(kTH _ _ _ _ _).2 (by simp only[kEH];exact hn)] at h7;exact h7
end Go.Proofs.YtlchlddijclhjaaGreat
