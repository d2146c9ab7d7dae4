/- Parts of the proofs. -/
import Derived.Test.YtlchlddijclhjaaGreatQ19
import Derived.Test.YtlchlddijclhjaaGreatQ14
import Derived.Test.YtlchlddijclhjaaGreatQ15
import Derived.Test.YtlchlddijclhjaaGreatQZ
set_option linter.unusedVariables false
set_option linter.unusedSimpArgs false
set_option maxHeartbeats 4000000
namespace Go.Proofs.YtlchlddijclhjaaGreat
open Go Go.RowKit Go.Eng
theorem ER.in_{c:Cf}(h:ER c):(1<=c.c0/\c.c0<=1024)/\(131072<=c.c1/\c.c1<=c.c2/\c.c2<=8388608)/\(1<=c.c6/\c.c6<=16777216)/\(1<=c.c7/\c.c7<=1048576)/\(0<=c.c8/\c.c8<=1048576)/\(1<=c.c9/\c.c9<=1000)/\(0<=c.c10/\c.c10<=16777216)/\(0<=c.c11/\c.c11<=1073741824)/\(1<=c.c12/\c.c12<=1000)/\1<=c.c13/\c.c13<=1048576:=by
 unfold ER ES at h;omega
section
variable {ss:List Sg} {gs:List Gr} {n:Nv} {mm:List (List Int)} {k:Int}
theorem IK(m:Ml):(Ce ss mm n m).1={ n with k0:=(pnV n.k0 (m.val 1) (m.has 1)).1,k1:=(pnV n.k1 (m.val 2) (m.has 2)).1 }:=rfl
theorem QE(m:Ml)(h7:0<=n.c.c7)(h6:0<=n.c.c6)(hsp: -n.c.c6<=n.lo/\n.lo<=n.hi/\n.hi<=n.c.c6):(max (n.lo-n.c.c7) (-n.c.c6)<=(Ce ss mm n m).2.lo/\(Ce ss mm n m).2.lo<=(Ce ss mm n m).2.hi/\(Ce ss mm n m).2.hi<=min (n.hi+n.c.c7) n.c.c6)/\0<=(Ce ss mm n m).2.n/\(Ce ss mm n m).2.n<=3:=by
 unfold Ce;simp only;exact⟨Wo Z.o _ _ _ _ _ _ _ _ _ _ _ _,Wp _ _ _ _ _ _ _ _ _ _ _ _ _ _⟩
theorem BL.sense(h:BL ss gs n mm k)(hk:k<1000000)(m:Ml)(cl:Bool):BL ss gs { (Ce ss mm { n with cy:=n.cy+1 } m).1 with cl:=cl } mm (k+1):=by
 rw[IK];obtain⟨cf,tr,es,ds,os,kk,cy,g,k0,k1,c0,c1,sp,di,on,off,or_,s0,s1,sc,mo,ws,wt⟩:=h;have p0:=SC n.k0 (m.val 1) (m.has 1);have p1:=SC n.k1 (m.val 2) (m.has 2);refine⟨cf,tr,es,ds,os,by omega,by simp only;omega,g,by simp only;omega,by simp only;omega,c0,c1,sp,by simp only;omega,λho=>?_,off,or_,by simp only;omega,by simp only;omega,sc,by simp only;omega,ws,wt⟩;obtain⟨a1,a2,a3,a4,a5⟩:=on ho;exact⟨a1,a2,a3,a4,a5⟩
theorem aD{a b c:Int}(ha: -c<=a)(hb:b<=c)(hab:a<=b):0<=CF ((a+b)/2)/\CF ((a+b)/2)<=c:=by
 unfold CF;split<;>omega
theorem BL.move(h:BL ss gs n mm k){a b:Int}(hab:a<=b)(ha: -n.c.c6<=a)(hb:b<=n.c.c6)(hdi:n.di<=16777216*(k-1)):BL ss gs (Bi ss mm n a b).1 (Bi ss mm n a b).2.1 k:=by
 obtain⟨cf,tr,es,ds,os,kk,cy,g,k0,k1,c0,c1,sp,di,on,off,or_,s0,s1,sc,mo,ws,wt⟩:=h;have hc:=cf.in_;have hd:=aD ha hb hab;unfold Bi
 cases ho:n.on with
 | false =>
   rw[if_neg Z.d];exact⟨cf,tr,es,ds,os,kk,cy,g,k0,k1,c0,c1,⟨ha,hab,hb⟩,by simp only;omega,(λh=>by first|cases h|(simp only at h;rw[ho] at h;cases h)),λ_=>off ho,or_,s0,s1,sc,mo,ws,wt⟩
 | true =>
   rw[if_pos rfl];obtain⟨a1,a2,a3,a4,a5⟩:=on ho;have hm:=SE (from_:=n.p.fr) tr.nextOk a2 hab (q:=(Dr ss n.p.fr ⟨n.p.lo,n.p.hi,n.p.est,mm⟩ a b).1) (e:=(Dr ss n.p.fr ⟨n.p.lo,n.p.hi,n.p.est,mm⟩ a b).2) rfl;split
   ·rename_i he
    rcases hm with ⟨_,hq⟩|hm
    ·refine⟨cf,tr,es,ds,os,kk,cy,g,k0,k1,c0,c1,⟨ha,hab,hb⟩,by simp only;omega,λ_=>⟨a1,hq,?_,rfl,a5⟩,λh=>?_,or_,s0,s1,sc,mo,ws,wt⟩
     ·unfold Dr at he ⊢
      split
      ·rename_i hx;rw[if_pos hx] at he;simp at he
      ·rename_i hx
       rw[if_neg hx] at he;simp only at he ⊢;rcases Oh (lo:=n.p.lo+a) (hi:=n.p.hi+b) (from_:=n.p.fr) tr.nextOk mm a2.way rfl with hc|hc
       ·exact absurd he hc.1
       ·exact hc.2.2.some
     ·first|cases h|(simp only at h;rw[ho] at h;cases h)
    ·omega
   ·exact⟨cf,tr,es,ds,os,kk,cy,g,k0,k1,c0,c1,⟨ha,hab,hb⟩,by simp only;omega,(λh=>by cases h),λ_=>⟨rfl,rfl,rfl⟩,or_,s0,s1,sc,mo,ws,wt⟩
theorem SF{c d a b p m:Int}(h:0<c/\c<=d/\d<=8388608):0<(F_ c d a b p m).1/\(F_ c d a b p m).1<=(F_ c d a b p m).2/\(F_ c d a b p m).2<=8388608:=by
 unfold F_;split
 ·exact h
 ·simp only;omega
theorem SG{c d a b p m:Int}(h:0<c/\c<=d/\d<=8388608):0<(Ef c d a b p m).1/\(Ef c d a b p m).1<=(Ef c d a b p m).2/\(Ef c d a b p m).2<=8388608:=by
 unfold Ef;split
 ·exact SF h
 ·exact SF h
theorem QD(n m:Nv)(l:List Int):∃x0 y0 x1 y1,lrn? n m l={ m with a0:=x0,b0:=y0,a1:=x1,b1:=y1 }/\(0<m.a0/\m.a0<=m.b0/\m.b0<=8388608->0<x0/\x0<=y0/\y0<=8388608)/\(0<m.a1/\m.a1<=m.b1/\m.b1<=8388608->0<x1/\x1<=y1/\y1<=8388608):=by
 unfold lrn?;split
 ·exact⟨_,_,_,_,rfl,λh=>SG h,λh=>SG h⟩
 ·exact⟨_,_,_,_,rfl,id,id⟩
theorem BL.accept(h:BL ss gs n mm k){x:Fo}(hg:0<=x.g){G:Gr}(hG:gs[x.g.toNat]?=some G){a b:Int}(hab:a<=b)(ha: -n.c.c6<=a)(hb:b<=n.c.c6):BL ss gs (C_ G n x a b) [[G.seg]] k:=by
 obtain⟨cf,tr,es,ds,os,kk,cy,g,k0,k1,c0,c1,sp,di,on,off,or_,s0,s1,sc,mo,ws,wt⟩:=h;have hc:=cf.in_;obtain⟨q1,q2,q3,q4,q5,q6,q7,q8,q9,q10,_⟩:=tr.grp x.g.toNat (List.getElem?_eq_some_iff.1 hG).1 G hG;obtain⟨s,hs⟩:∃s,ss[G.seg.toNat]?=some s:=⟨_,List.getElem?_eq_getElem q4⟩;have hoff:=q6 s hs;have zH:=(tr.seg _ q4 s hs).le;unfold C_;obtain⟨x0,y0,x1,y1,e,l0,l1⟩:=QD n (IJ G n x.g a b) x.at_;rw[e];refine⟨cf,tr,es,ds,os,kk,cy,g,k0,k1,l0 c0,l1 c1,sp,di,λ_=>⟨⟨q5,by show G.off<=_;omega⟩,⟨?_,?_,?_,?_,(by show 1<=16;decide)⟩,by simp,rfl,hg,G,hG⟩,(λh=>by cases h),?_,k0,k1,sc,mo,ws,wt⟩
 ·show -17592186044416 <= -(G.acc+n.c.c8)+min 0 a;omega
 ·show G.acc+n.c.c8+max 0 b<=17592186044416;omega
 ·show -(G.acc+n.c.c8)+min 0 a<=(-(G.acc+n.c.c8)+min 0 a+(G.acc+n.c.c8+max 0 b))/2/\(-(G.acc+n.c.c8)+min 0 a+(G.acc+n.c.c8+max 0 b))/2<=G.acc+n.c.c8+max 0 b
  omega
 ·intro l hl
  obtain rfl:=List.mem_singleton.1 hl;exact⟨by simp,λm hm=>by obtain rfl:=List.mem_singleton.1 hm;exact⟨q3,q4⟩⟩
 ·show -17592186044416 <= -(G.acc+n.c.c8)+min 0 a /\ -(G.acc+n.c.c8)+min 0 a<=G.acc+n.c.c8+max 0 b/\G.acc+n.c.c8+max 0 b<=17592186044416
  omega
theorem SH{a b:Int}{o:Bool}(hb:0<=b/\b<=1001)(ha:0<=a):0<=Fp a b o/\Fp a b o<=1001:=by
 unfold Fp;split<;>omega
theorem BL.watch(h:BL ss gs n mm k)(fit:Int)(cf ov ac:Bool):BL ss gs (BO { n with w:=wtV n.c.c12 n.w fit cf ov ac } mm).1 (BO { n with w:=wtV n.c.c12 n.w fit cf ov ac } mm).2 k:=by
 obtain⟨cf',tr,es,ds,os,kk,cy,g,k0,k1,c0,c1,sp,di,on,off,or_,s0,s1,sc,mo,ws,wt⟩:=h;have hc:=cf'.in_;have w1:=SH (a:=n.w.si) (b:=n.c.c12+1) (o:=decide (fit<1)) Z.o ws.1;have w2:=SH (a:=n.w.st) (b:=n.c.c12+1) (o:=cf) Z.o wt.1;unfold BO;split
 ·exact⟨cf',tr,es,ds,os,kk,cy,g,k0,k1,c0,c1,sp,di,(λh=>by cases h),λ_=>⟨rfl,rfl,rfl⟩,or_,s0,s1,sc,mo,w1,w2⟩
 ·refine⟨cf',tr,es,ds,os,kk,cy,g,k0,k1,c0,c1,sp,di,λho=>?_,off,or_,s0,s1,sc,mo,w1,w2⟩
  obtain⟨a1,a2,a3,a4,a5⟩:=on ho;exact⟨a1,a2,a3,a4,a5⟩
theorem aF{c9 c10 m lo hi fit:Int}(h9:1<=c9/\c9<=1000)(hm:0<=m):0<=En c9 c10 m lo hi fit/\En c9 c10 m lo hi fit<=1000:=by
 unfold En;split<;>omega
theorem BL.roll(h:BL ss gs n mm k){a b:Int}(hab:a<=b)(ha: -n.c.c6<=a)(hb:b<=n.c.c6)(hm: -16777216*(k-1)<=n.m0/\n.m1<=16777216*(k-1))(h1:1<=k)(fit:Int)(so st com:Bool) :
 BL ss gs { n with sc:=En n.c.c9 n.c.c10 n.sc a b fit,so:=so,ra:=(Dj n.c.c11 ⟨n.ra,n.ro,n.m0,n.m1⟩ st com a b).an,ro:=(Dj n.c.c11 ⟨n.ra,n.ro,n.m0,n.m1⟩ st com a b).on,m0:=(Dj n.c.c11 ⟨n.ra,n.ro,n.m0,n.m1⟩ st com a b).lo,m1:=(Dj n.c.c11 ⟨n.ra,n.ro,n.m0,n.m1⟩ st com a b).hi } mm k:=by
 obtain⟨cf,tr,es,ds,os,kk,cy,g,k0,k1,c0,c1,sp,di,on,off,or_,s0,s1,sc,mo,ws,wt⟩:=h;have hc:=cf.in_;have hs:=aF (c10:=n.c.c10) (lo:=a) (hi:=b) (fit:=fit) hc.2.2.2.2.2.1 sc.1
 have hr:(Dj n.c.c11 ⟨n.ra,n.ro,n.m0,n.m1⟩ st com a b).lo<=(Dj n.c.c11 ⟨n.ra,n.ro,n.m0,n.m1⟩ st com a b).hi /\ -16777216*k<=(Dj n.c.c11 ⟨n.ra,n.ro,n.m0,n.m1⟩ st com a b).lo/\(Dj n.c.c11 ⟨n.ra,n.ro,n.m0,n.m1⟩ st com a b).hi<=16777216*k:=by
  unfold Dj;split
  ·simp only;omega
  ·split
   ·simp only;omega
   ·simp only;omega
 refine⟨cf,tr,es,ds,os,kk,cy,g,k0,k1,c0,c1,sp,di,λho=>?_,off,or_,s0,s1,hs,hr,ws,wt⟩;obtain⟨a1,a2,a3,a4,a5⟩:=on ho;exact⟨a1,a2,a3,a4,a5⟩
end
set_option maxRecDepth 100000
def SI:List (List Nat):=[[],[0],[1],[2],[3],[10,4],[4],[10,6],[6],[10,8],[8],[10,10],[10,0,0,4,5],[10,12,0,4,5],[10,13,5,0,4,5],[10,1,0,1,4,5,6,7,12,13,14],[10,15,0,1,4,5,6,7,12,13,14],[10,16,7,14,0,1,4,5,6,7,12,13,14],[10,2,0,1,2,4,5,6,7,8,9,12,13,14,15,16,17],[10,18,0,1,2,4,5,6,7,8,9,12,13,14,15,16,17],[10,19,9,17,0,1,2,4,5,6,7,8,9,12,13,14,15,16,17],[10,3,0,1,2,3,4,5,6,7,8,9,10,11,12,13,14,15,16,17,18,19,20],[10,21,0,1,2,3,4,5,6,7,8,9,10,11,12,13,14,15,16,17,18,19,20],[10,22,11,20,0,1,2,3,4,5,6,7,8,9,10,11,12,13,14,15,16,17,18,19,20]]
def SK:List (List Nat):=[[],[0],[1],[2],[10,3],[3],[10,5],[10,6],[5],[8],[9],[10,10],[10,0,0,3,4,7,11],[10,12,0,3,4,7,11],[10,13,4,7,0,3,4,7,11],[10,1,0,1,3,4,5,6,7,11,12,13,14],[10,15,0,1,3,4,5,6,7,11,12,13,14],[10,16,7,14,0,1,3,4,5,6,7,11,12,13,14],[10,2,0,1,2,3,4,5,6,7,8,9,10,11,12,13,14,15,16,17],[10,18,0,1,2,3,4,5,6,7,8,9,10,11,12,13,14,15,16,17],[10,19,11,17,0,1,2,3,4,5,6,7,8,9,10,11,12,13,14,15,16,17]]
def SL:List (List Nat):=[[],[0],[1],[2],[3],[4],[5],[6],[21,7],[7],[9],[10],[11],[21,12],[12],[14],[15],[16],[21,17],[17],[19],[20],[21,21],[21,0,0,4,5,6,7,8,13,18,22],[21,23,0,4,5,6,7,8,13,18,22],[21,24,8,0,4,5,6,7,8,13,18,22],[21,1,0,1,4,5,6,7,8,9,10,11,12,13,18,22,23,24,25],[21,26,0,1,4,5,6,7,8,9,10,11,12,13,18,22,23,24,25],[21,27,13,25,0,1,4,5,6,7,8,9,10,11,12,13,18,22,23,24,25],[21,2,0,1,2,4,5,6,7,8,9,10,11,12,13,14,15,16,17,18,22,23,24,25,26,27,28],[21,29,0,1,2,4,5,6,7,8,9,10,11,12,13,14,15,16,17,18,22,23,24,25,26,27,28],[21,30,18,28,0,1,2,4,5,6,7,8,9,10,11,12,13,14,15,16,17,18,22,23,24,25,26,27,28],[21,3,0,1,2,3,4,5,6,7,8,9,10,11,12,13,14,15,16,17,18,19,20,21,22,23,24,25,26,27,28,29,30,31],[21,32,0,1,2,3,4,5,6,7,8,9,10,11,12,13,14,15,16,17,18,19,20,21,22,23,24,25,26,27,28,29,30,31],[21,33,22,31,0,1,2,3,4,5,6,7,8,9,10,11,12,13,14,15,16,17,18,19,20,21,22,23,24,25,26,27,28,29,30,31]]
def SN:List (List Nat):=[[],[0],[1],[2],[3],[19,4],[4],[6],[7],[8],[19,9],[9],[19,11],[11],[19,13],[19,5,10,12,14],[13],[16],[17],[18],[19,19],[19,0,0,2,3,4,5,6,7,8,9,10,11,12,13,14,15,20],[19,21,0,2,3,4,5,6,7,8,9,10,11,12,13,14,15,20],[19,22,15,15,0,2,3,4,5,6,7,8,9,10,11,12,13,14,15,20],[19,1,0,1,2,3,4,5,6,7,8,9,10,11,12,13,14,15,16,17,18,19,20,21,22,23],[19,24,0,1,2,3,4,5,6,7,8,9,10,11,12,13,14,15,16,17,18,19,20,21,22,23],[19,25,20,23,0,1,2,3,4,5,6,7,8,9,10,11,12,13,14,15,16,17,18,19,20,21,22,23]]
def SQ:List (List Nat):=[[],[0],[1],[2],[3],[4],[5],[24,6],[6],[8],[9],[10],[24,11],[24,7,12],[24,13],[24,14],[11],[16],[17],[18],[24,19],[19],[21],[22],[23],[24,24],[24,0,0,3,4,5,6,7,8,9,10,11,12,13,14,15,20,25],[24,26,0,3,4,5,6,7,8,9,10,11,12,13,14,15,20,25],[24,27,15,0,3,4,5,6,7,8,9,10,11,12,13,14,15,20,25],[24,1,0,1,3,4,5,6,7,8,9,10,11,12,13,14,15,16,17,18,19,20,25,26,27,28],[24,29,0,1,3,4,5,6,7,8,9,10,11,12,13,14,15,16,17,18,19,20,25,26,27,28],[24,30,20,28,0,1,3,4,5,6,7,8,9,10,11,12,13,14,15,16,17,18,19,20,25,26,27,28],[24,2,0,1,2,3,4,5,6,7,8,9,10,11,12,13,14,15,16,17,18,19,20,21,22,23,24,25,26,27,28,29,30,31],[24,32,0,1,2,3,4,5,6,7,8,9,10,11,12,13,14,15,16,17,18,19,20,21,22,23,24,25,26,27,28,29,30,31],[24,33,25,31,0,1,2,3,4,5,6,7,8,9,10,11,12,13,14,15,16,17,18,19,20,21,22,23,24,25,26,27,28,29,30,31]]
def SS:List (List Nat):=[[],[0],[1],[2],[3,3],[3],[3,5],[3,6],[3,4,7,6],[3,0,0,1,2,3,4,5,6,7,8],[3,9,0,1,2,3,4,5,6,7,8],[3,10,8,8,0,1,2,3,4,5,6,7,8]]
theorem QF(ss:List Sg)(gs:List Gr)(mm:List (List Int))(n:Nv)(hu:NvU n)(hon:n.on=false)(r:Rp)(hr:r.rt=[])(f:Fu)(hf:I62 f.lo/\I62 f.hi)(v:Rp)(hv:v=BZ ss gs mm r n f) :
 AJ Tryz.prog 53 [.ref 0 55 0 0,.ref 1 32 0 0,.agg [f.lo,f.hi,f.n,f.cl,f.cf,f.s0,f.s1]] [.live 55 [n.row],.live 32 [r.rowL .nils]] (λx hp=>x = .tuple []/\hp=[.live 55 [n.row],.live 32 [v.row]]):=by
 refine AJ.give ?_;obtain⟨md,emd⟩:∃x,(f.lo+f.hi)/2=x:=⟨_,rfl⟩;obtain⟨mo,emo⟩:=Z.e (EB n.w.fa false f.n f.cf);have q1:=Jd emd (F6 hf.1) (F6 hf.2);have q2:=SV n.w.si n.w.st n.w.fa false f.n f.cf mo emo;unfold BZ at hv;rw[hon,emd,<- emo] at hv;simp only at hv;have hv2:v={ r with fi:=f.n,cl:=f.cl,cf:=f.cf,s0:=f.s0,s1:=f.s1,sl:=f.lo,sh:=f.hi,no:=md,di:=n.di,st:=n.so,ro:=n.ro,ml:=n.m0,mh:=n.m1,a0:=n.a0,b0:=n.b0,a1:=n.a1,b1:=n.b1,md:=mo,pe:=n.c.c6 }:=by rw[hv]
 obtain⟨rcy,rmd,rgr,rlo,rhi,res,rsl,rsh,rno,rdi,rrt,rfi,rcl,rcf,rs0,rs1,rac,rfa,rst,rro,rov,rml,rmh,rpe,ra0,rb0,ra1,rb1,rbad,rsta,rtwi,rbey⟩:=r;obtain⟨flo,fhi,fn,fcl,fcf,fs0,fs1⟩:=f;simp only at hr;subst hr;simp only at hv2 q1 q2;clear hv emo emd hf;have hu1:=hu;obtain⟨⟨c0,c1,c2,c3,c4,c5,c6,c7,c8,c9,c10,c11,c12,c13⟩,es,ds,cy,g0,g1,os,⟨kn0,la0,su0⟩,⟨kn1,la1,su1⟩,a0,b0,a1,b1,lo,hi,di,on,gr,⟨pl,ph,pe,fr,rs⟩,cl,o0,o1,s0,s1,sc,so,ra,ro,m0,m1,⟨wi,wt,wf⟩⟩:=n;obtain⟨hue,hud,huo,hur⟩:=hu1;simp only at hue hud huo hur q1 q2 hon hv2;subst hv2;subst hon;(refine AJ.ofP (F:=[1,2,3,4,6,10]) (sc:=?scc) (r:=?rr) Tryz.func53 (by kernel_rfl) rfl ?hr ?hc (by kernel_rfl) λw hw=>?H);(case hr=>((conv=>lhs;cbv);(try exact rfl)));(case hc=>((repeat' (first|refine' IQ ?_ ?_|refine' IR ?_|refine' IU ?_|refine' Cg (id:=1) SI rfl (by kernel_rfl) ?_|refine' Cg (id:=2) SK rfl (by kernel_rfl) ?_|refine' Cg (id:=3) SL rfl (by kernel_rfl) ?_|refine' Cg (id:=4) SN rfl (by kernel_rfl) ?_|refine' Cg (id:=6) SQ rfl (by kernel_rfl) ?_|refine' Cg (id:=10) SS rfl (by kernel_rfl) ?_|fail));(try any_goals (conv=>lhs;cbv));(try any_goals exact rfl)));(obtain⟨zB,zE,yN,zD,zF,zX,yO,zP,zS,zR,yA,yB,zK,zU,zM,zN,zO,yG,zT,yH⟩:=w);(have zC:=Z.w1 hw);(have zA:=Z.w2 hw);(have yJ:=Z.w3 hw);(have zG:=Z.w4 hw);(have zI:=Z.w5 hw);(have yM:=Z.w6 hw);(have yS:=Z.w7 hw);(have zZ:=Z.w8 hw);(have yF:=Z.w9 hw);(have yE:=Z.w10 hw);(have yT:=Z.w11 hw);(have yU:=Z.w12 hw);(have zH:=Z.w13 hw);(have yR:=Z.w14 hw);(have zV:=Z.w15 hw);(have yI:=Z.w16 hw);(have yL:=Z.w17 hw);(have yX:=Z.w18 hw);(have yQ:=Z.w19 hw);(have yY:=Z.w20 hw);(have hz:=Z.z hw);(conv=>arg 4;cbv);(generalize hP:Tryz.prog=P);cbv;refine AnyQ.e _ (by cbv) _ (by cbv) (by cbv) ?_;cbv;repeat' (first|fail)
 refine CJ.mk [?v1_5,?v1_7,?v1_9,?v1_11,?v1_12,?v1_13,.any,?v1_15,?v1_16,.any,?v1_18,?v1_19,.any,?v1_21,?v1_22,.any] (λm=>[.live 55 [c0::c1::c2::c3::c4::c5::c6::c7::c8::c9::c10::c11::c12::c13 :: .list 3 es :: .list 5 ds :: .bool false::cy::g0::g1 :: .list 1 os::kn0 :: .int .u16 la0::su0::[kn1,.int .u16 la1,su1,a0,b0,a1,b1,lo,hi,di,.bool false,gr,pl,ph,pe,fr,.list 13 rs,cl,o0,o1,s0,s1,sc,so,ra,ro,m0,m1,wi,wt,wf]],.live 32 [rcy::[rmd,rgr,rlo,rhi,res,rsl,rsh,rno,rdi,.nils,(match m 14 with|true=>.int .i64 fn|false=>.int .i64 rfi),(match m 17 with|true=>.bool fcl|false=>.bool rcl),(match m 20 with|true=>.bool fcf|false=>.bool rcf),(match m 23 with|true=>.int .i64 fs0|false=>.int .i64 rs0),(match m 23 with|true=>.int .i64 fs1|false=>.int .i64 rs1),rac,rfa,rst,rro,rov,rml,rmh,rpe,ra0,rb0,ra1,rb1,rbad,rsta,rtwi,rbey]],.live 7 [[flo,fhi,fn,fcl,fcf,fs0,fs1]]]) rfl ?hs1 ?hf1
 case hs1 =>
  cbv;repeat' (first|(refine λm=>?_;cbv)|(refine And.intro ?_ ?_)|exact rfl|exact trivial|fail)
 cbv;refine AnyQ.e _ (by cbv) _ (by cbv) (by cbv) ?_;cbv;repeat' (first|(refine Call.s hP q1 ?_;cbv)|(refine AB.s hP q1 ?_;cbv)|fail)
 refine CJ.mk [?v2_4,?v2_6,?v2_7,?v2_11,?v2_12,?v2_13,.any,?v2_15,?v2_16,.any,?v2_18,?v2_19,.any] (λm=>[.live 55 [c0::c1::c2::c3::c4::c5::c6::c7::c8::c9::c10::c11::c12::c13 :: .list 3 es :: .list 5 ds :: .bool false::cy::g0::g1 :: .list 1 os::kn0 :: .int .u16 la0::su0::[kn1,.int .u16 la1,su1,a0,b0,a1,b1,lo,hi,di,.bool false,gr,pl,ph,pe,fr,.list 13 rs,cl,o0,o1,s0,s1,sc,so,ra,ro,m0,m1,wi,wt,wf]],.live 32 [rcy::[rmd,rgr,rlo,rhi,res,(match m 14 with|true=>.int .i64 flo|false=>.int .i64 rsl),(match m 14 with|true=>.int .i64 fhi|false=>.int .i64 rsh),(match m 17 with|true=>.int .i64 md|false=>.int .i64 rno),(match m 20 with|true=>.int .i64 di|false=>.int .i64 rdi),.nils,fn,fcl,fcf,fs0,fs1,rac,rfa,rst,rro,rov,rml,rmh,rpe,ra0,rb0,ra1,rb1,rbad,rsta,rtwi,rbey]],.live 7 [[flo,fhi,fn,fcl,fcf,fs0,fs1]]]) rfl ?hs2 ?hf2
 case hs2 =>
  cbv;repeat' (first|(refine Call.s hP q1 ?_;cbv)|(refine AB.s hP q1 ?_;cbv)|(refine λm=>?_;cbv)|(refine And.intro ?_ ?_)|exact rfl|exact trivial|fail)
 cbv;refine AnyQ.e _ (by cbv) _ (by cbv) (by cbv) ?_;cbv;repeat' (first|fail)
 refine CJ.mk [?v3_8,?v3_13,?v3_18,?v3_22,?v3_23,?v3_24,.any,?v3_26,?v3_27,.any,?v3_29,?v3_30,.any,?v3_32,?v3_33,.any] (λm=>[.live 55 [c0::c1::c2::c3::c4::c5::c6::c7::c8::c9::c10::c11::c12::c13 :: .list 3 es :: .list 5 ds :: .bool false::cy::g0::g1 :: .list 1 os::kn0 :: .int .u16 la0::su0::[kn1,.int .u16 la1,su1,a0,b0,a1,b1,lo,hi,di,.bool false,gr,pl,ph,pe,fr,.list 13 rs,cl,o0,o1,s0,s1,sc,so,ra,ro,m0,m1,wi,wt,wf]],.live 32 [rcy::[rmd,rgr,rlo,rhi,res,flo,fhi,md,di,.nils,fn,fcl,fcf,fs0,fs1,rac,rfa,(match m 25 with|true=>.bool so|false=>.bool rst),(match m 28 with|true=>.bool ro|false=>.bool rro),rov,(match m 31 with|true=>.int .i64 m0|false=>.int .i64 rml),(match m 31 with|true=>.int .i64 m1|false=>.int .i64 rmh),rpe,(match m 34 with|true=>.int .i64 a0|false=>.int .i64 ra0),(match m 34 with|true=>.int .i64 b0|false=>.int .i64 rb0),(match m 34 with|true=>.int .i64 a1|false=>.int .i64 ra1),(match m 34 with|true=>.int .i64 b1|false=>.int .i64 rb1),rbad,rsta,rtwi,rbey]],.live 7 [[flo,fhi,fn,fcl,fcf,fs0,fs1]]]) rfl ?hs3 ?hf3
 case hs3 =>
  cbv;repeat' (first|(refine λm=>?_;cbv)|(refine And.intro ?_ ?_)|exact rfl|exact trivial|fail)
 cbv;refine AnyQ.e _ (by cbv) _ (by cbv) (by cbv) ?_;cbv;repeat' (first|(refine Call.s hP q2 ?_;cbv)|(refine AB.s hP q2 ?_;cbv)|fail)
 refine CJ.mk [?v4_5,?v4_10,?v4_12,?v4_14,?v4_15,?v4_20,?v4_21,?v4_22,.any,?v4_24,?v4_25,.any] (λm=>[.live 55 [c0::c1::c2::c3::c4::c5::c6::c7::c8::c9::c10::c11::c12::c13 :: .list 3 es :: .list 5 ds :: .bool false::cy::g0::g1 :: .list 1 os::kn0 :: .int .u16 la0::su0::[kn1,.int .u16 la1,su1,a0,b0,a1,b1,lo,hi,di,.bool false,gr,pl,ph,pe,fr,.list 13 rs,cl,o0,o1,s0,s1,sc,so,ra,ro,m0,m1,wi,wt,wf]],.live 32 [rcy::[(match m 23 with|true=>.int .i64 mo|false=>.int .i64 rmd),rgr,rlo,rhi,res,flo,fhi,md,di,.nils,fn,fcl,fcf,fs0,fs1,rac,rfa,so,ro,rov,m0,m1,(match m 26 with|true=>.int .i64 c6|false=>.int .i64 rpe),a0,b0,a1,b1,rbad,rsta,rtwi,rbey]],.live 7 [[flo,fhi,fn,fcl,fcf,fs0,fs1]]]) rfl ?hs4 ?hf4
 case hs4 =>
  cbv;repeat' (first|(refine Call.s hP q2 ?_;cbv)|(refine AB.s hP q2 ?_;cbv)|(refine λm=>?_;cbv)|(refine And.intro ?_ ?_)|exact rfl|exact trivial|fail)
 cbv;have n2:zF false=true:=by rw[zI];rfl
 repeat' (first|(simp only[n2];cbv)|fail)
 refine WkB.mk ?_;(refine Z.n (id) ?_;cbv<;>exact Z.q)
set_option maxRecDepth 100000
structure Rd where
 b:List Int
 sh:Bool
def Eo(v:Int):Int:=if 9223372036854775808<=v then v-18446744073709551616 else v
def rdN(n:Int)(q:Rd):Int×Rd:=if q.sh=true\/q.b.length<n.toNat then (0,⟨q.b,true⟩) else (Eo (be (q.b.take n.toNat)),⟨q.b.drop n.toNat,false⟩)
theorem aG{a b:Int}(h0:0<=a)(h1:a<72057594037927936)(h2:0<=b)(h3:b<256):AF .or .u64 (AF .shl .u64 a 8) b=a*256+b:=by
 have e1:AF .shl .u64 a 8=a*256:=by
  show IntKind.u64.wrap (a*2 ^ (min (8:Int).toNat 64))=_;rw[IntKind.wrap_u64];show a*256%18446744073709551616=_;omega
 rw[e1];show IntKind.u64.wrap (BitVec.ofInt 64 (a*256) ||| BitVec.ofInt 64 b).toNat=_;obtain⟨an,rfl⟩:=Int.eq_ofNat_of_zero_le h0;obtain⟨bn,rfl⟩:=Int.eq_ofNat_of_zero_le h2;have e2:((an:Int)*256)=((an*256:Nat):Int):=by omega
 rw[e2,BitVec.ofInt_natCast,BitVec.ofInt_natCast,BitVec.toNat_or,BitVec.toNat_ofNat,BitVec.toNat_ofNat,Nat.mod_eq_of_lt Z.o,Nat.mod_eq_of_lt Z.o]
 have e3:an*256 ||| bn=an*256+bn:=by
  rw[Nat.mul_comm];exact(Nat.two_pow_add_eq_or_of_lt (i:=8) Z.o an).symm
 rw[e3,IntKind.wrap_u64];omega
theorem SX(l:List Int)(b:Int):be (l++[b])=be l*256+b:=by unfold be;rw[List.foldl_append];rfl
theorem LC:∀(n:Nat) (l:List Int),l.length=n->Ar l->0<=be l/\be l<256 ^ n
 | 0,l,hl,h=>by
   obtain rfl:l=[]:=List.length_eq_zero_iff.1 hl;exact⟨by decide,by decide⟩
 | n+1,l,hl,h=>by
   have hne:l≠[]:=λe=>(by subst e;simp at hl);have e:=List.dropLast_concat_getLast hne;have ih:=LC n l.dropLast (by simp[hl]) (λb hb=>h b ((List.dropLast_sublist l).subset hb));have hb:=h (l.getLast hne) (List.getLast_mem hne);rw[<- e,SX,Int.pow_succ];omega
theorem aH{n:Nat}(h:n<=7):(256:Int) ^ n<=72057594037927936:=by
 have:(256:Nat) ^ n<=256 ^ 7:=Nat.pow_le_pow_right Z.d h;have e:((256 ^ n:Nat):Int)=256 ^ n:=by rw[Int.natCast_pow];rfl
 have e7:(256:Nat) ^ 7=72057594037927936:=by decide
 omega
theorem SY(n:Int)(hn:0<=n/\n<=8)(q:Rd)(hb:Ar q.b)(h47:q.b.length<=1000000000)(rs:List (List AV))(yD:rs=q.b.map AZ)(v:Int)(q':Rd)(e:(v,q')=rdN n q)(rs':List (List AV))(hrs':rs'=q'.b.map AZ) :
 AJ Tryz.prog 130 [.ref 0 2 0 0,n] [.live 2 [[.list 1 rs,q.sh]]] (λr h=>r = .int .i64 v/\∃j,h = .live 2 [[.list 1 rs',.bool q'.sh]]::j):=by
 have hu:Up0 rs:=by rw[yD];exact Ao _
 have hu':Up0 rs':=by rw[hrs'];exact Ao _
 have hrl:rs.length=q.b.length:=by rw[yD];simp
 obtain⟨l,sh⟩:=q;obtain⟨l',sh'⟩:=q';simp only at hb h47 yD hrs' hrl;unfold rdN at e;simp only at e;by_cases hsh:sh=true\/l.length<n.toNat
 ·rw[if_pos hsh] at e
  simp only[Prod.mk.injEq,Rd.mk.injEq] at e;obtain⟨rfl,rfl,rfl⟩:=e;obtain rfl:rs=rs':=(by rw[yD,hrs']);clear yD hrs'
  cases sh with
  | true =>
    (refine AJ.ofI Tryz.func130 (by kernel_rfl) (by kernel_rfl) λw hw=>?_);(obtain⟨zB,zE,yN,zD,zF,zX,yO,zP,zS,zR,yA,yB,zK,zU,zM,zN,zO,yG,zT,yH⟩:=w);(have zC:=Z.w1 hw);(have zA:=Z.w2 hw);(have yJ:=Z.w3 hw);(have zG:=Z.w4 hw);(have zI:=Z.w5 hw);(have yM:=Z.w6 hw);(have yS:=Z.w7 hw);(have zZ:=Z.w8 hw);(have yF:=Z.w9 hw);(have yE:=Z.w10 hw);(have yT:=Z.w11 hw);(have yU:=Z.w12 hw);(have zH:=Z.w13 hw);(have yR:=Z.w14 hw);(have zV:=Z.w15 hw);(have yI:=Z.w16 hw);(have yL:=Z.w17 hw);(have yX:=Z.w18 hw);(have yQ:=Z.w19 hw);(have yY:=Z.w20 hw);(have hz:=Z.z hw);(conv=>arg 2;cbv);(generalize hP:Tryz.prog=P);cbv;exact⟨_,rfl⟩
  | false =>
    (refine AJ.ofI Tryz.func130 (by kernel_rfl) (by kernel_rfl) λw hw=>?_);(obtain⟨zB,zE,yN,zD,zF,zX,yO,zP,zS,zR,yA,yB,zK,zU,zM,zN,zO,yG,zT,yH⟩:=w);(have zC:=Z.w1 hw);(have zA:=Z.w2 hw);(have yJ:=Z.w3 hw);(have zG:=Z.w4 hw);(have zI:=Z.w5 hw);(have yM:=Z.w6 hw);(have yS:=Z.w7 hw);(have zZ:=Z.w8 hw);(have yF:=Z.w9 hw);(have yE:=Z.w10 hw);(have yT:=Z.w11 hw);(have yU:=Z.w12 hw);(have zH:=Z.w13 hw);(have yR:=Z.w14 hw);(have zV:=Z.w15 hw);(have yI:=Z.w16 hw);(have yL:=Z.w17 hw);(have yX:=Z.w18 hw);(have yQ:=Z.w19 hw);(have yY:=Z.w20 hw);(have hz:=Z.z hw);(conv=>arg 2;cbv);(generalize hP:Tryz.prog=P);cbv
    (obtain⟨L,eL,L0,Ln⟩:∃L:Int,zK rs=L/\0<=L/\L.toNat=rs.length:=⟨(rs.length:Int),by rw[zH],Int.natCast_nonneg _,Int.toNat_natCast _⟩)
    have hlt:L<n:=(by rcases hsh with h|h;cases h;omega);have d1:=W.lt zA hlt;repeat' (first|(simp only[eL,d1];cbv)|fail)
    exact⟨_,rfl⟩
 rw[if_neg hsh] at e;simp only[Prod.mk.injEq,Rd.mk.injEq] at e;obtain⟨e1,rfl,rfl⟩:=e;have hsh0:sh=false:=by cases sh;rfl;exact absurd (.inl rfl) hsh
 subst hsh0
 have hnl:n.toNat<=l.length:=by
  rcases Nat.lt_or_ge l.length n.toNat with h|h
  ·exact absurd (.inr h) hsh
  ·exact h
 clear hsh;obtain⟨k,ek⟩:=Z.e (l.take n.toNat);obtain⟨ks,eks⟩:=Z.e (k.map AZ);have huk:Up0 ks:=by rw[eks];exact Ao _
 have hkl:k.length=n.toNat:=by rw[ek,List.length_take];omega
 have hksl:ks.length=n.toNat:=by rw[eks,List.length_map,hkl]
 have hkb:Ar k:=λb hb'=>hb b (by rw[ek] at hb';exact List.mem_of_mem_take hb');have htk:rs.take n.toNat=ks:=by rw[yD,eks,ek,List.map_take]
 have hdr:rs.drop n.toNat=rs':=by rw[yD,hrs',List.map_drop]
 rw[<- ek] at e1;clear ek yD hrs' hb;(refine AJ.ofI Tryz.func130 (by kernel_rfl) (by kernel_rfl) λw hw=>?_);(obtain⟨zB,zE,yN,zD,zF,zX,yO,zP,zS,zR,yA,yB,zK,zU,zM,zN,zO,yG,zT,yH⟩:=w);(have zC:=Z.w1 hw);(have zA:=Z.w2 hw);(have yJ:=Z.w3 hw);(have zG:=Z.w4 hw);(have zI:=Z.w5 hw);(have yM:=Z.w6 hw);(have yS:=Z.w7 hw);(have zZ:=Z.w8 hw);(have yF:=Z.w9 hw);(have yE:=Z.w10 hw);(have yT:=Z.w11 hw);(have yU:=Z.w12 hw);(have zH:=Z.w13 hw);(have yR:=Z.w14 hw);(have zV:=Z.w15 hw);(have yI:=Z.w16 hw);(have yL:=Z.w17 hw);(have yX:=Z.w18 hw);(have yQ:=Z.w19 hw);(have yY:=Z.w20 hw);(have hz:=Z.z hw);(conv=>arg 2;cbv);(generalize hP:Tryz.prog=P);cbv
 (obtain⟨L,eL,L0,Ln⟩:∃L:Int,zK rs=L/\0<=L/\L.toNat=rs.length:=⟨(rs.length:Int),by rw[zH],Int.natCast_nonneg _,Int.toNat_natCast _⟩)
 have d1:=W.nlt zA (show n<=L by omega);have t1:zN rs n=ks:=by rw[yI];exact htk
 have t2:zO rs n=rs':=by rw[yL];exact hdr
 have lk:zK ks=n:=by rw[zH];show (ks.length:Int)=n;omega
 repeat' (first|(simp only[eL,d1];cbv)|(refine Nn.mk hn.1 ?_)|(refine Le.mk Z.o ?_)|fail)
 simp only[t1,lk];clear d1 t1;refine Ae.dataN hw (S:=Int×Int) (λs=>fr 56 [(0,.ref 0 2 0 0),(1,n),(5,.int .u64 s.2),(33,.list 1 ks),(34,n),(35,s.1)]) (λs=>[.live 2 [[.list 1 rs,.bool false]]]) (λs=>0<=s.1/\s.1<=n/\s.2=be (k.take s.1.toNat)) (λs=>(n-s.1).toNat) (0,0) (by(refine Z.n (id) ?_;cbv<;>exact Z.q)) ⟨Int.le_refl _,hn.1,rfl⟩ ?_
 rintro⟨i,a⟩ zJ Q' hN hE hR'
 have zJ:0<=i/\i<=n/\a=be (k.take i.toNat):=zJ;cbv;obtain⟨zW,yZ,ha⟩:=zJ;by_cases yC:i<n
 ·obtain⟨b,hb⟩:∃b,k[i.toNat]?=some b:=⟨_,List.getElem?_eq_getElem (show i.toNat<k.length by omega)⟩
  have hbb:=hkb b (List.mem_of_getElem? hb);have zL:ks[i.toNat]?=some [.int .u8 b]:=(by rw[eks,List.getElem?_map,hb];rfl);have hain:=LC i.toNat (k.take i.toNat) (by rw[List.length_take];omega) (λb hb=>hkb b (List.mem_of_mem_take hb));rw[<- ha] at hain;have hp:=aH (n:=i.toNat) Z.o;have ha56:0<=a/\a<72057594037927936:=⟨hain.1,by omega⟩;obtain⟨a',ea'⟩:=Z.e (a*256+b);obtain⟨i',ei'⟩:=Z.e (i+1);have yK:a'=be (k.take i'.toNat):=(by rw[ei',LK zW hb,SX,<- ha,ea']);have hT:(n-i').toNat<(n-i).toNat:=(by omega);clear hain hp ha hb;have f0:=W.lt zA yC;have u1:zD .u64 b=b:=by rw[zG];show IntKind.u64.wrap b=b;rw[IntKind.wrap_u64];omega
  have o1:zB .or .u64 (zB .shl .u64 a 8) b=a':=(by rw[zC,aG ha56.1 ha56.2 hbb.1 Z.o,ea']);have i1:zB .add .i64 i 1=i':=(by rw[zC,Ag Z.o Z.o,ei']);repeat' (first|(simp only[f0,u1,o1,i1];cbv)|(refine Idx.mk [.int .u8 b] zW zL ?_;cbv)|(refine Nn.mk Z.d ?_)|fail)
  refine hN (i',a') _ _ ?hx ?hi hT
  case hx=>(refine Z.n (id) ?_;cbv<;>exact Z.q)
  case hi=>exact⟨by simp only;omega,by simp only;omega,yK⟩
 ·have f0:=W.nlt zA (show n<=i by omega)
  have hall:k.take i.toNat=k:=List.take_of_length_le Z.o;rw[hall] at ha;have hain:=LC n.toNat k hkl hkb;rw[<- ha] at hain e1
  have ha64:a<18446744073709551616:=by
   have:(256:Nat) ^ n.toNat<=256 ^ 8:=Nat.pow_le_pow_right Z.d Z.o;have e:((256 ^ n.toNat:Nat):Int)=256 ^ n.toNat:=(by rw[Int.natCast_pow];rfl);have e8:(256:Nat) ^ 8=18446744073709551616:=(by decide);omega
  have hw64:IntKind.i64.wrap a=v:=by
   rw[e1,IntKind.wrap_i64];unfold Eo;split<;>omega
  clear hain ha e1 hall;have v1:zD .i64 a=v:=(by rw[zG];exact hw64);simp only[f0];refine hE _ _ _ ?_;cbv;refine Nn.mk hn.1 ?_;refine Le.mk Z.o ?_;simp only[t2,v1];exact⟨by first|rfl|trivial,_,rfl⟩
set_option maxRecDepth 100000
def rdC(n most:Int)(q:Rd):Int×Rd:=if most<(rdN n q).1 then (0,⟨(rdN n q).2.b,true⟩) else rdN n q
structure BB(q:Rd):Prop where
 b:Ar q.b
 l:q.b.length<=1000000000
theorem BB.num{q:Rd}(h:BB q)(n:Int):BB (rdN n q).2:=by
 unfold rdN;split
 ·exact⟨h.b,h.l⟩
 ·exact⟨λb hb=>h.b b (List.mem_of_mem_drop hb),by simp only[List.length_drop];have:=h.l;omega⟩
theorem BB.count{q:Rd}(h:BB q)(n m:Int):BB (rdC n m q).2:=by
 unfold rdC;split
 ·exact⟨(h.num n).b,(h.num n).l⟩
 ·exact h.num n
theorem Av{l:List (List AV)}(h:Up0 l)(s:Bool):Up0 [[AV.list 1 l,AV.bool s]]:=⟨by simp only[BC,Af,AV.upto,h.get];rfl⟩
theorem GG(n:Int)(hn:0<=n/\n<=8)(q:Rd)(hq:BB q):AJ Tryz.prog 130 [.ref 0 2 0 0,n] [.live 2 [[.list 1 (q.b.map AZ),q.sh]]] (λr h=>r = .int .i64 (rdN n q).1/\∃j,h = .live 2 [[.list 1 ((rdN n q).2.b.map AZ),.bool (rdN n q).2.sh]]::j):=
 SY n hn q hq.b hq.l _ rfl _ _ rfl _ rfl
theorem LG(n m:Int)(hn:0<=n/\n<=8)(q:Rd)(hq:BB q)(rs:List (List AV))(yD:rs=q.b.map AZ)(v:Int)(q':Rd)(e:(v,q')=rdC n m q)(rs':List (List AV))(hrs':rs'=q'.b.map AZ) :
 AJ Tryz.prog 76 [.ref 0 2 0 0,n,m] [.live 2 [[.list 1 rs,q.sh]]] (λr h=>r = .int .i64 v/\∃j,h = .live 2 [[.list 1 rs',.bool q'.sh]]::j):=by
 have hu:Up0 rs:=by rw[yD];exact Ao _
 have hu':Up0 rs':=by rw[hrs'];exact Ao _
 obtain⟨⟨x,⟨l2,s2⟩⟩,ex⟩:=Z.e (rdN n q);obtain⟨rs2,ers2⟩:=Z.e (l2.map AZ);have hu2:Up0 rs2:=by rw[ers2];exact Ao _
 have q1:=SY n hn q hq.b hq.l rs yD x ⟨l2,s2⟩ ex rs2 ers2;unfold rdC at e;rw[<- ex] at e;obtain⟨l,sh⟩:=q;obtain⟨l',sh'⟩:=q';simp only at q1 e hrs';clear ex hq yD;by_cases hm:m<x
 ·rw[if_pos hm] at e
  simp only[Prod.mk.injEq,Rd.mk.injEq] at e;obtain⟨rfl,rfl,rfl⟩:=e;obtain rfl:rs2=rs':=(by rw[ers2,hrs']);clear ers2 hrs';refine Z.x Tryz.func76 λ_ _ _ _ _ _ _ _ zA _ _ _ _ hz P hP=>?_;cbv;refine Call.of (AJ.one (s:=0) (by rw[<- hP];exact q1) (Av hu _) rfl rfl rfl ?_);rintro r hD ⟨rfl,j,rfl⟩;refine⟨rfl,_,_,rfl,Av hu2 _,?_⟩;cbv;have d1:=W.gt zA hm;repeat' (first|(simp only[d1];cbv)|fail)
  exact⟨_,rfl⟩
 ·rw[if_neg hm] at e
  simp only[Prod.mk.injEq,Rd.mk.injEq] at e;obtain⟨rfl,rfl,rfl⟩:=e;obtain rfl:rs2=rs':=(by rw[ers2,hrs']);clear ers2 hrs';refine Z.x Tryz.func76 λ_ _ _ _ _ _ _ _ zA _ _ _ _ _ P hP=>?_;cbv;refine Call.of (AJ.one (s:=0) (by rw[<- hP];exact q1) (Av hu _) rfl rfl rfl ?_);rintro r hD ⟨rfl,j,rfl⟩;refine⟨rfl,_,_,rfl,Av hu2 _,?_⟩;cbv;have d1:=W.ngt zA (show v<=m by omega);repeat' (first|(simp only[d1];cbv)|fail)
  exact⟨_,rfl⟩
set_option maxRecDepth 100000
def AU{D:Type}(st:Rd->D×Rd):Nat->Rd->List D×Rd
 | 0,q=>([],q)
 | n+1,q=>((AU st n q).1++[(st (AU st n q).2).1],(st (AU st n q).2).2)
theorem FI{D:Type}(st:Rd->D×Rd):∀(n:Nat) (q:Rd),(AU st n q).1.length=n
 | 0,q=>rfl
 | n+1,q=>by simp[AU,FI st n q]
theorem GH{D:Type}{st:Rd->D×Rd}(hst:∀q,BB q->BB (st q).2):∀(n:Nat) (q:Rd),BB q->BB (AU st n q).2
 | 0,q,h=>h
 | n+1,q,h=>hst _ (GH hst n q h)
def MOu{D:Type}(row:D->List AV)(l:List D):Option (List (List AV)×Nat)->Prop
 | none=>l=[]
 | some (u,m)=>l≠[]/\u=l.map row/\m=l.length/\Up0 u
theorem Vy(k:Int)(hk:0<=k/\k<=1000)(F:Nat)(st:Rd->(Int×Int)×Rd)(hst:∀q,BB q->BB (st q).2)(hF:∀q,BB q->AJ Tryz.prog F [.ref 0 2 0 0] [.live 2 [[.list 1 (q.b.map AZ),q.sh]]] (λr h=>r=(λd=>.agg (Ap d)) (st q).1/\∃j,h = .live 2 [[.list 1 ((st q).2.b.map AZ),.bool (st q).2.sh]]::j))
 (q:Rd) (hq:BB q) (rs:List (List AV)) (yD:rs=q.b.map AZ) (us rs':List (List AV)) (sh':Bool) (hus:us=(AU st k.toNat q).1.map Ap) (hrs':rs'=(AU st k.toNat q).2.b.map AZ) (hsh':sh'=(AU st k.toNat q).2.sh) :
 AJ Tryz.prog 131 [k,.func (.func F) [.ref 0 2 0 0] []] [.live 2 [[.list 1 rs,q.sh]]] (λr h=>r = .list 2 us/\h=[.live 2 [[.list 1 rs',sh']]]):=by
 refine AJ.give ?_;have zL:∀d:(Int×Int),Af 0 (Ap d)=true:=λd=>rfl;have huu:Up0 us:=by rw[hus];exact BM (f:=Ap) zL _
 have hu:Up0 rs:=by rw[yD];exact Ao _
 have hu':Up0 rs':=by rw[hrs'];exact Ao _
 obtain⟨shq,eshq⟩:=Z.e q.sh;rw[<- eshq];refine Z.x Tryz.func131 λzB _ _ _ _ _ hw zC zA _ _ _ _ hz P hP=>?_;cbv
 refine Ae.dataN hw (S:=Int×List (List AV)×Bool×Option (List (List AV)×Nat)) (λs=>fr 16 [(0,k),(1,.func (.func F) [.ref 0 2 0 0] []),(5,match s.2.2.2 with|none=>.nils|some (_,m)=>.sl 1 2 0 m),(6,k),(7,s.1)])
  (λs=>match s.2.2.2 with|none=>[.live 2 [[.list 1 s.2.1,s.2.2.1]]]|some (u,_)=>[.live 2 [[.list 1 s.2.1,s.2.2.1]],.live 2 u])
  (λs=>0<=s.1/\s.1<=k/\s.2.1=(AU st s.1.toNat q).2.b.map AZ/\s.2.2.1=(AU st s.1.toNat q).2.sh/\Up0 s.2.1/\MOu Ap (AU st s.1.toNat q).1 s.2.2.2) (λs=>(k-s.1).toNat) (0,rs,shq,none) (by(refine Z.n (id) ?_;cbv<;>exact Z.q))
  ⟨Int.le_refl _,hk.1,yD,eshq,hu,rfl⟩ ?_
 rintro⟨i,w,s,ou⟩ zJ Q' hN hE hR'
 have zJ:0<=i/\i<=k/\w=(AU st i.toNat q).2.b.map AZ/\s=(AU st i.toNat q).2.sh/\Up0 w/\MOu Ap (AU st i.toNat q).1 ou:=zJ;obtain⟨zW,yZ,hw1,hs1,huw,yP⟩:=zJ;have hml:=FI st i.toNat q;by_cases yC:i<k
 ·obtain⟨i2,ei2⟩:=Z.e (i+1)
  have hT:(k-i2).toNat<(k-i).toNat:=(by omega);have yK:AU st i2.toNat q=((AU st i.toNat q).1++[(st (AU st i.toNat q).2).1],(st (AU st i.toNat q).2).2):=(by rw[show i2.toNat=i.toNat+1 by omega];rfl);have hcall:=hF _ (GH hst i.toNat q hq);rw[<- hw1,<- hs1] at hcall;obtain⟨⟨d,q2⟩,ed⟩:=Z.e (st (AU st i.toNat q).2);rw[<- ed] at hcall yK;obtain⟨w2,ew2⟩:=Z.e (q2.b.map AZ);obtain⟨s2,es2⟩:=Z.e q2.sh;have huw2:Up0 w2:=(by rw[ew2];exact Ao _);have hm1:(AU st i2.toNat q).1=(AU st i.toNat q).1++[d]:=(by rw[yK]);have hm2:(AU st i2.toNat q).2=q2:=(by rw[yK]);have hcall:AJ Tryz.prog F [.ref 0 2 0 0] [.live 2 [[.list 1 w,s]]] (λr h=>r = .agg (Ap d)/\∃j,h = .live 2 [[.list 1 w2,.bool s2]]::j):=(by rw[ew2,es2];exact hcall);obtain⟨u2,eu2⟩:∃z,z=(AU st i2.toNat q).1.map Ap:=⟨_,rfl⟩;have huu2:Up0 u2:=(by rw[eu2];exact BM (f:=Ap) zL _);obtain⟨m2,em2⟩:=Z.e i2.toNat;have hou2:MOu Ap (AU st i2.toNat q).1 (some (u2,m2)):=⟨by rw[hm1];simp,eu2,by rw[FI,em2],huu2⟩;have hw3:w2=(AU st i2.toNat q).2.b.map AZ:=(by rw[hm2,ew2]);have hs3:s2=(AU st i2.toNat q).2.sh:=(by rw[hm2,es2]);have hu2d:u2=(AU st i.toNat q).1.map Ap++[Ap d]:=(by rw[eu2,hm1,List.map_append];rfl);clear yK ed hm1 hm2 ew2 es2 hw1 hs1;obtain⟨d1,d2⟩:=d;have hcall:AJ Tryz.prog F [.ref 0 2 0 0] [.live 2 [[.list 1 w,s]]] (λr h=>r = .agg [d1,d2]/\∃j,h = .live 2 [[.list 1 w2,.bool s2]]::j):=(by exact hcall);have hu2d:u2=(AU st i.toNat q).1.map Ap++[[.int .i64 d1,.int .i64 d2]]:=(by exact hu2d);have ck:=W.lt zA yC;have a4:zB .add .i64 i 1=i2:=(by rw[zC,Ag Z.o Z.o,ei2]);have hm2':m2=i.toNat+1:=by omega
  cases ou with
  | none =>
    have yP:(AU st i.toNat q).1=[]:=yP;rw[yP] at hml hu2d;have hm21:m2=1:=(by simp at hml;omega);have hu21:u2=[[.int .i64 d1,.int .i64 d2]]:=hu2d;clear hml hu2d;cbv;simp only[ck];cbv;refine Call.of (AJ.one (s:=0) (by rw[<- hP];exact hcall) (Av huw _) rfl rfl rfl ?_);rintro r hD ⟨rfl,j,rfl⟩;refine⟨rfl,_,_,rfl,Av huw2 _,?_⟩;cbv;refine Ob.mk Z.d ?_;cbv;simp only[a4];refine hN (i2,w2,s2,some ([[.int .i64 d1,.int .i64 d2]],1)) _ _ ?hx ?hi hT
    case hx=>(refine Z.n (id) ?_;cbv<;>exact Z.q)
    case hi=>exact⟨by simp only;omega,by simp only;omega,hw3,hs3,huw2,by simp only;rw[<- hu21,<- hm21];exact hou2⟩
  | some p =>
    obtain⟨u,m⟩:=p;have yP:(AU st i.toNat q).1≠[]/\u=(AU st i.toNat q).1.map Ap/\m=(AU st i.toNat q).1.length/\Up0 u:=yP;obtain⟨hne,hu1,hm1,huu1⟩:=yP;have hul:m=u.length:=(by rw[hu1,hm1];simp);have hm21:m2=m+1:=(by omega);have hmk:m<=1000:=(by omega);have hu21:u2=u++[[.int .i64 d1,.int .i64 d2]]:=(by rw[hu1];exact hu2d);clear hml hu2d hne hu1 hm1;cbv;simp only[ck];cbv;refine Call.of (AJ.one (s:=0) (by rw[<- hP];exact hcall) (Av huw _) rfl rfl rfl ?_);rintro r hD ⟨rfl,j,rfl⟩;refine⟨rfl,_,_,rfl,Av huw2 _,?_⟩;cbv;refine App.mk u2 m2 hu21 hul hm21 Z.o Z.o ?_;cbv;simp only[a4];refine hN (i2,w2,s2,some (u2,m2)) _ _ ?hx ?hi hT
    case hx=>(refine Z.n (λj=>[0,2].getD j 0) ?_;cbv<;>exact Z.q)
    case hi=>exact⟨by simp only;omega,by simp only;omega,hw3,hs3,huw2,hou2⟩
 ·have ck:=W.nlt zA (show k<=i by omega)
  obtain rfl:i=k:=(by omega);obtain rfl:w=rs':=(by rw[hw1,hrs']);obtain rfl:s=sh':=(by rw[hs1,hsh']);clear hw1 hs1 hrs' hsh' hF
  cases ou with
  | none =>
    have yP:(AU st i.toNat q).1=[]:=yP;have hus0:us=[]:=(by rw[hus,yP];rfl);clear hus yP hml;cbv;simp only[ck];refine hE _ _ _ ?_;cbv;refine WkB.mk ?_;(refine Z.n (id) ?_;cbv<;>exact Z.q)
  | some p =>
    obtain⟨u,m⟩:=p;have yP:(AU st i.toNat q).1≠[]/\u=(AU st i.toNat q).1.map Ap/\m=(AU st i.toNat q).1.length/\Up0 u:=yP;obtain⟨hne,hu1,hm1,huu1⟩:=yP;obtain rfl:u=us:=(by rw[hu1,hus]);have hul:m=u.length:=(by rw[hu1,hm1];simp);clear hus hml hne hu1 hm1;cbv;simp only[ck];refine hE _ _ _ ?_;cbv;refine WkB.mk ?_;(refine Z.n (id) ?_;cbv<;>exact Z.q)
theorem Vz(k:Int)(hk:0<=k/\k<=1000)(F:Nat)(st:Rd->Int×Rd)(hst:∀q,BB q->BB (st q).2)(hF:∀q,BB q->AJ Tryz.prog F [.ref 0 2 0 0] [.live 2 [[.list 1 (q.b.map AZ),q.sh]]] (λr h=>r=(λd=>.int .i64 d) (st q).1/\∃j,h = .live 2 [[.list 1 ((st q).2.b.map AZ),.bool (st q).2.sh]]::j))
 (q:Rd) (hq:BB q) (rs:List (List AV)) (yD:rs=q.b.map AZ) (us rs':List (List AV)) (sh':Bool) (hus:us=(AU st k.toNat q).1.map Ac) (hrs':rs'=(AU st k.toNat q).2.b.map AZ) (hsh':sh'=(AU st k.toNat q).2.sh) :
 AJ Tryz.prog 133 [k,.func (.func F) [.ref 0 2 0 0] []] [.live 2 [[.list 1 rs,q.sh]]] (λr h=>r = .list 1 us/\h=[.live 2 [[.list 1 rs',sh']]]):=by
 refine AJ.give ?_;have zL:∀d:Int,Af 0 (Ac d)=true:=λd=>rfl;have huu:Up0 us:=by rw[hus];exact BM (f:=Ac) zL _
 have hu:Up0 rs:=by rw[yD];exact Ao _
 have hu':Up0 rs':=by rw[hrs'];exact Ao _
 obtain⟨shq,eshq⟩:=Z.e q.sh;rw[<- eshq];refine Z.x Tryz.func133 λzB _ _ _ _ _ hw zC zA _ _ _ _ hz P hP=>?_;cbv
 refine Ae.dataN hw (S:=Int×List (List AV)×Bool×Option (List (List AV)×Nat)) (λs=>fr 16 [(0,k),(1,.func (.func F) [.ref 0 2 0 0] []),(5,match s.2.2.2 with|none=>.nils|some (_,m)=>.sl 1 1 0 m),(6,k),(7,s.1)])
  (λs=>match s.2.2.2 with|none=>[.live 2 [[.list 1 s.2.1,s.2.2.1]]]|some (u,_)=>[.live 2 [[.list 1 s.2.1,s.2.2.1]],.live 1 u])
  (λs=>0<=s.1/\s.1<=k/\s.2.1=(AU st s.1.toNat q).2.b.map AZ/\s.2.2.1=(AU st s.1.toNat q).2.sh/\Up0 s.2.1/\MOu Ac (AU st s.1.toNat q).1 s.2.2.2) (λs=>(k-s.1).toNat) (0,rs,shq,none) (by(refine Z.n (id) ?_;cbv<;>exact Z.q))
  ⟨Int.le_refl _,hk.1,yD,eshq,hu,rfl⟩ ?_
 rintro⟨i,w,s,ou⟩ zJ Q' hN hE hR'
 have zJ:0<=i/\i<=k/\w=(AU st i.toNat q).2.b.map AZ/\s=(AU st i.toNat q).2.sh/\Up0 w/\MOu Ac (AU st i.toNat q).1 ou:=zJ;obtain⟨zW,yZ,hw1,hs1,huw,yP⟩:=zJ;have hml:=FI st i.toNat q;by_cases yC:i<k
 ·obtain⟨i2,ei2⟩:=Z.e (i+1)
  have hT:(k-i2).toNat<(k-i).toNat:=(by omega);have yK:AU st i2.toNat q=((AU st i.toNat q).1++[(st (AU st i.toNat q).2).1],(st (AU st i.toNat q).2).2):=(by rw[show i2.toNat=i.toNat+1 by omega];rfl);have hcall:=hF _ (GH hst i.toNat q hq);rw[<- hw1,<- hs1] at hcall;obtain⟨⟨d,q2⟩,ed⟩:=Z.e (st (AU st i.toNat q).2);rw[<- ed] at hcall yK;obtain⟨w2,ew2⟩:=Z.e (q2.b.map AZ);obtain⟨s2,es2⟩:=Z.e q2.sh;have huw2:Up0 w2:=(by rw[ew2];exact Ao _);have hm1:(AU st i2.toNat q).1=(AU st i.toNat q).1++[d]:=(by rw[yK]);have hm2:(AU st i2.toNat q).2=q2:=(by rw[yK]);have hcall:AJ Tryz.prog F [.ref 0 2 0 0] [.live 2 [[.list 1 w,s]]] (λr h=>r = .int .i64 d/\∃j,h = .live 2 [[.list 1 w2,.bool s2]]::j):=(by rw[ew2,es2];exact hcall);obtain⟨u2,eu2⟩:∃z,z=(AU st i2.toNat q).1.map Ac:=⟨_,rfl⟩;have huu2:Up0 u2:=(by rw[eu2];exact BM (f:=Ac) zL _);obtain⟨m2,em2⟩:=Z.e i2.toNat;have hou2:MOu Ac (AU st i2.toNat q).1 (some (u2,m2)):=⟨by rw[hm1];simp,eu2,by rw[FI,em2],huu2⟩;have hw3:w2=(AU st i2.toNat q).2.b.map AZ:=(by rw[hm2,ew2]);have hs3:s2=(AU st i2.toNat q).2.sh:=(by rw[hm2,es2]);have hu2d:u2=(AU st i.toNat q).1.map Ac++[Ac d]:=(by rw[eu2,hm1,List.map_append];rfl);clear yK ed hm1 hm2 ew2 es2 hw1 hs1;have hcall:AJ Tryz.prog F [.ref 0 2 0 0] [.live 2 [[.list 1 w,s]]] (λr h=>r = .int .i64 d/\∃j,h = .live 2 [[.list 1 w2,.bool s2]]::j):=(by exact hcall);have hu2d:u2=(AU st i.toNat q).1.map Ac++[[.int .i64 d]]:=(by exact hu2d);have ck:=W.lt zA yC;have a4:zB .add .i64 i 1=i2:=(by rw[zC,Ag Z.o Z.o,ei2]);have hm2':m2=i.toNat+1:=by omega
  cases ou with
  | none =>
    have yP:(AU st i.toNat q).1=[]:=yP;rw[yP] at hml hu2d;have hm21:m2=1:=(by simp at hml;omega);have hu21:u2=[[.int .i64 d]]:=hu2d;clear hml hu2d;cbv;simp only[ck];cbv;refine Call.of (AJ.one (s:=0) (by rw[<- hP];exact hcall) (Av huw _) rfl rfl rfl ?_);rintro r hD ⟨rfl,j,rfl⟩;refine⟨rfl,_,_,rfl,Av huw2 _,?_⟩;cbv;refine Ob.mk Z.d ?_;cbv;simp only[a4];refine hN (i2,w2,s2,some ([[.int .i64 d]],1)) _ _ ?hx ?hi hT
    case hx=>(refine Z.n (id) ?_;cbv<;>exact Z.q)
    case hi=>exact⟨by simp only;omega,by simp only;omega,hw3,hs3,huw2,by simp only;rw[<- hu21,<- hm21];exact hou2⟩
  | some p =>
    obtain⟨u,m⟩:=p;have yP:(AU st i.toNat q).1≠[]/\u=(AU st i.toNat q).1.map Ac/\m=(AU st i.toNat q).1.length/\Up0 u:=yP;obtain⟨hne,hu1,hm1,huu1⟩:=yP;have hul:m=u.length:=(by rw[hu1,hm1];simp);have hm21:m2=m+1:=(by omega);have hmk:m<=1000:=(by omega);have hu21:u2=u++[[.int .i64 d]]:=(by rw[hu1];exact hu2d);clear hml hu2d hne hu1 hm1;cbv;simp only[ck];cbv;refine Call.of (AJ.one (s:=0) (by rw[<- hP];exact hcall) (Av huw _) rfl rfl rfl ?_);rintro r hD ⟨rfl,j,rfl⟩;refine⟨rfl,_,_,rfl,Av huw2 _,?_⟩;cbv;refine App.mk u2 m2 hu21 hul hm21 Z.o Z.o ?_;cbv;simp only[a4];refine hN (i2,w2,s2,some (u2,m2)) _ _ ?hx ?hi hT
    case hx=>(refine Z.n (λj=>[0,2].getD j 0) ?_;cbv<;>exact Z.q)
    case hi=>exact⟨by simp only;omega,by simp only;omega,hw3,hs3,huw2,hou2⟩
 ·have ck:=W.nlt zA (show k<=i by omega)
  obtain rfl:i=k:=(by omega);obtain rfl:w=rs':=(by rw[hw1,hrs']);obtain rfl:s=sh':=(by rw[hs1,hsh']);clear hw1 hs1 hrs' hsh' hF
  cases ou with
  | none =>
    have yP:(AU st i.toNat q).1=[]:=yP;have hus0:us=[]:=(by rw[hus,yP];rfl);clear hus yP hml;cbv;simp only[ck];refine hE _ _ _ ?_;cbv;refine WkB.mk ?_;(refine Z.n (id) ?_;cbv<;>exact Z.q)
  | some p =>
    obtain⟨u,m⟩:=p;have yP:(AU st i.toNat q).1≠[]/\u=(AU st i.toNat q).1.map Ac/\m=(AU st i.toNat q).1.length/\Up0 u:=yP;obtain⟨hne,hu1,hm1,huu1⟩:=yP;obtain rfl:u=us:=(by rw[hu1,hus]);have hul:m=u.length:=(by rw[hu1,hm1];simp);clear hus hml hne hu1 hm1;cbv;simp only[ck];refine hE _ _ _ ?_;cbv;refine WkB.mk ?_;(refine Z.n (id) ?_;cbv<;>exact Z.q)
theorem WA(k:Int)(hk:0<=k/\k<=1000)(F:Nat)(st:Rd->Sg×Rd)(hst:∀q,BB q->BB (st q).2)(hF:∀q,BB q->AJ Tryz.prog F [.ref 0 2 0 0] [.live 2 [[.list 1 (q.b.map AZ),q.sh]]] (λr h=>r=(λd=>.agg (Ah d)) (st q).1/\∃j,h = .live 2 [[.list 1 ((st q).2.b.map AZ),.bool (st q).2.sh]]::j))
 (q:Rd) (hq:BB q) (rs:List (List AV)) (yD:rs=q.b.map AZ) (us rs':List (List AV)) (sh':Bool) (hus:us=(AU st k.toNat q).1.map Ah) (hrs':rs'=(AU st k.toNat q).2.b.map AZ) (hsh':sh'=(AU st k.toNat q).2.sh) :
 AJ Tryz.prog 75 [k,.func (.func F) [.ref 0 2 0 0] []] [.live 2 [[.list 1 rs,q.sh]]] (λr h=>r = .list 3 us/\h=[.live 2 [[.list 1 rs',sh']]]):=by
 refine AJ.give ?_;have zL:∀d:Sg,Af 0 (Ah d)=true:=λd=>by simp only[Ah,Af,AV.upto,(E5 d.ps).get,(CG d.nx).get];rfl
 have huu:Up0 us:=by rw[hus];exact BM (f:=Ah) zL _
 have hu:Up0 rs:=by rw[yD];exact Ao _
 have hu':Up0 rs':=by rw[hrs'];exact Ao _
 obtain⟨shq,eshq⟩:=Z.e q.sh;rw[<- eshq];refine Z.x Tryz.func75 λzB _ _ _ _ _ hw zC zA _ _ _ _ hz P hP=>?_;cbv
 refine Ae.dataN hw (S:=Int×List (List AV)×Bool×Option (List (List AV)×Nat)) (λs=>fr 16 [(0,k),(1,.func (.func F) [.ref 0 2 0 0] []),(5,match s.2.2.2 with|none=>.nils|some (_,m)=>.sl 1 3 0 m),(6,k),(7,s.1)])
  (λs=>match s.2.2.2 with|none=>[.live 2 [[.list 1 s.2.1,s.2.2.1]]]|some (u,_)=>[.live 2 [[.list 1 s.2.1,s.2.2.1]],.live 3 u])
  (λs=>0<=s.1/\s.1<=k/\s.2.1=(AU st s.1.toNat q).2.b.map AZ/\s.2.2.1=(AU st s.1.toNat q).2.sh/\Up0 s.2.1/\MOu Ah (AU st s.1.toNat q).1 s.2.2.2) (λs=>(k-s.1).toNat) (0,rs,shq,none) (by(refine Z.n (id) ?_;cbv<;>exact Z.q))
  ⟨Int.le_refl _,hk.1,yD,eshq,hu,rfl⟩ ?_
 rintro⟨i,w,s,ou⟩ zJ Q' hN hE hR'
 have zJ:0<=i/\i<=k/\w=(AU st i.toNat q).2.b.map AZ/\s=(AU st i.toNat q).2.sh/\Up0 w/\MOu Ah (AU st i.toNat q).1 ou:=zJ;obtain⟨zW,yZ,hw1,hs1,huw,yP⟩:=zJ;have hml:=FI st i.toNat q;by_cases yC:i<k
 ·obtain⟨i2,ei2⟩:=Z.e (i+1)
  have hT:(k-i2).toNat<(k-i).toNat:=(by omega);have yK:AU st i2.toNat q=((AU st i.toNat q).1++[(st (AU st i.toNat q).2).1],(st (AU st i.toNat q).2).2):=(by rw[show i2.toNat=i.toNat+1 by omega];rfl);have hcall:=hF _ (GH hst i.toNat q hq);rw[<- hw1,<- hs1] at hcall;obtain⟨⟨d,q2⟩,ed⟩:=Z.e (st (AU st i.toNat q).2);rw[<- ed] at hcall yK;obtain⟨w2,ew2⟩:=Z.e (q2.b.map AZ);obtain⟨s2,es2⟩:=Z.e q2.sh;have huw2:Up0 w2:=(by rw[ew2];exact Ao _);have hm1:(AU st i2.toNat q).1=(AU st i.toNat q).1++[d]:=(by rw[yK]);have hm2:(AU st i2.toNat q).2=q2:=(by rw[yK]);have hcall:AJ Tryz.prog F [.ref 0 2 0 0] [.live 2 [[.list 1 w,s]]] (λr h=>r = .agg (Ah d)/\∃j,h = .live 2 [[.list 1 w2,.bool s2]]::j):=(by rw[ew2,es2];exact hcall);obtain⟨u2,eu2⟩:∃z,z=(AU st i2.toNat q).1.map Ah:=⟨_,rfl⟩;have huu2:Up0 u2:=(by rw[eu2];exact BM (f:=Ah) zL _);obtain⟨m2,em2⟩:=Z.e i2.toNat;have hou2:MOu Ah (AU st i2.toNat q).1 (some (u2,m2)):=⟨by rw[hm1];simp,eu2,by rw[FI,em2],huu2⟩;have hw3:w2=(AU st i2.toNat q).2.b.map AZ:=(by rw[hm2,ew2]);have hs3:s2=(AU st i2.toNat q).2.sh:=(by rw[hm2,es2]);have hu2d:u2=(AU st i.toNat q).1.map Ah++[Ah d]:=(by rw[eu2,hm1,List.map_append];rfl);clear yK ed hm1 hm2 ew2 es2 hw1 hs1;obtain⟨d1,dp,dn⟩:=d;obtain⟨ps,eps⟩:=Z.e (dp.map Ap);obtain⟨ns,ens⟩:=Z.e (dn.map Ac);have hups:Up0 ps:=(by rw[eps];exact E5 _);have huns:Up0 ns:=(by rw[ens];exact CG _);have edrow:Ah ⟨d1,dp,dn⟩=[.int .i64 d1,.list 2 ps,.list 1 ns]:=(by rw[eps,ens];rfl);have hcall:AJ Tryz.prog F [.ref 0 2 0 0] [.live 2 [[.list 1 w,s]]] (λr h=>r = .agg [d1,.list 2 ps,.list 1 ns]/\∃j,h = .live 2 [[.list 1 w2,.bool s2]]::j):=(by rw[<- edrow];exact hcall);have hu2d:u2=(AU st i.toNat q).1.map Ah++[[.int .i64 d1,.list 2 ps,.list 1 ns]]:=(by rw[hu2d,edrow]);have ck:=W.lt zA yC;have a4:zB .add .i64 i 1=i2:=(by rw[zC,Ag Z.o Z.o,ei2]);have hm2':m2=i.toNat+1:=by omega
  cases ou with
  | none =>
    have yP:(AU st i.toNat q).1=[]:=yP;rw[yP] at hml hu2d;have hm21:m2=1:=(by simp at hml;omega);have hu21:u2=[[.int .i64 d1,.list 2 ps,.list 1 ns]]:=hu2d;clear hml hu2d;cbv;simp only[ck];cbv;refine Call.of (AJ.one (s:=0) (by rw[<- hP];exact hcall) (Av huw _) rfl rfl rfl ?_);rintro r hD ⟨rfl,j,rfl⟩;refine⟨(ua (uc rfl (uc (ul hups) (uc (ul huns) rfl)))),_,_,rfl,Av huw2 _,?_⟩;cbv;refine Ob.mk Z.d ?_;cbv;simp only[a4];refine hN (i2,w2,s2,some ([[.int .i64 d1,.list 2 ps,.list 1 ns]],1)) _ _ ?hx ?hi hT
    case hx=>(refine Z.n (id) ?_;cbv<;>exact Z.q)
    case hi=>exact⟨by simp only;omega,by simp only;omega,hw3,hs3,huw2,by simp only;rw[<- hu21,<- hm21];exact hou2⟩
  | some p =>
    obtain⟨u,m⟩:=p;have yP:(AU st i.toNat q).1≠[]/\u=(AU st i.toNat q).1.map Ah/\m=(AU st i.toNat q).1.length/\Up0 u:=yP;obtain⟨hne,hu1,hm1,huu1⟩:=yP;have hul:m=u.length:=(by rw[hu1,hm1];simp);have hm21:m2=m+1:=(by omega);have hmk:m<=1000:=(by omega);have hu21:u2=u++[[.int .i64 d1,.list 2 ps,.list 1 ns]]:=(by rw[hu1];exact hu2d);clear hml hu2d hne hu1 hm1;cbv;simp only[ck];cbv;refine Call.of (AJ.one (s:=0) (by rw[<- hP];exact hcall) (Av huw _) rfl rfl rfl ?_);rintro r hD ⟨rfl,j,rfl⟩;refine⟨(ua (uc rfl (uc (ul hups) (uc (ul huns) rfl)))),_,_,rfl,Av huw2 _,?_⟩;cbv;refine App.mk u2 m2 hu21 hul hm21 Z.o Z.o ?_;cbv;simp only[a4];refine hN (i2,w2,s2,some (u2,m2)) _ _ ?hx ?hi hT
    case hx=>(refine Z.n (λj=>[0,2].getD j 0) ?_;cbv<;>exact Z.q)
    case hi=>exact⟨by simp only;omega,by simp only;omega,hw3,hs3,huw2,hou2⟩
 ·have ck:=W.nlt zA (show k<=i by omega)
  obtain rfl:i=k:=(by omega);obtain rfl:w=rs':=(by rw[hw1,hrs']);obtain rfl:s=sh':=(by rw[hs1,hsh']);clear hw1 hs1 hrs' hsh' hF
  cases ou with
  | none =>
    have yP:(AU st i.toNat q).1=[]:=yP;have hus0:us=[]:=(by rw[hus,yP];rfl);clear hus yP hml;cbv;simp only[ck];refine hE _ _ _ ?_;cbv;refine WkB.mk ?_;(refine Z.n (id) ?_;cbv<;>exact Z.q)
  | some p =>
    obtain⟨u,m⟩:=p;have yP:(AU st i.toNat q).1≠[]/\u=(AU st i.toNat q).1.map Ah/\m=(AU st i.toNat q).1.length/\Up0 u:=yP;obtain⟨hne,hu1,hm1,huu1⟩:=yP;obtain rfl:u=us:=(by rw[hu1,hus]);have hul:m=u.length:=(by rw[hu1,hm1];simp);clear hus hml hne hu1 hm1;cbv;simp only[ck];refine hE _ _ _ ?_;cbv;refine WkB.mk ?_;(refine Z.n (id) ?_;cbv<;>exact Z.q)
theorem WB(k:Int)(hk:0<=k/\k<=1000)(F:Nat)(st:Rd->Gr×Rd)(hst:∀q,BB q->BB (st q).2)(hF:∀q,BB q->AJ Tryz.prog F [.ref 0 2 0 0] [.live 2 [[.list 1 (q.b.map AZ),q.sh]]] (λr h=>r=(λd=>.agg (Ak d)) (st q).1/\∃j,h = .live 2 [[.list 1 ((st q).2.b.map AZ),.bool (st q).2.sh]]::j))
 (q:Rd) (hq:BB q) (rs:List (List AV)) (yD:rs=q.b.map AZ) (us rs':List (List AV)) (sh':Bool) (hus:us=(AU st k.toNat q).1.map Ak) (hrs':rs'=(AU st k.toNat q).2.b.map AZ) (hsh':sh'=(AU st k.toNat q).2.sh) :
 AJ Tryz.prog 78 [k,.func (.func F) [.ref 0 2 0 0] []] [.live 2 [[.list 1 rs,q.sh]]] (λr h=>r = .list 5 us/\h=[.live 2 [[.list 1 rs',sh']]]):=by
 refine AJ.give ?_;have zL:∀d:Gr,Af 0 (Ak d)=true:=λd=>rfl;have huu:Up0 us:=by rw[hus];exact BM (f:=Ak) zL _
 have hu:Up0 rs:=by rw[yD];exact Ao _
 have hu':Up0 rs':=by rw[hrs'];exact Ao _
 obtain⟨shq,eshq⟩:=Z.e q.sh;rw[<- eshq];refine Z.x Tryz.func78 λzB _ _ _ _ _ hw zC zA _ _ _ _ hz P hP=>?_;cbv
 refine Ae.dataN hw (S:=Int×List (List AV)×Bool×Option (List (List AV)×Nat)) (λs=>fr 16 [(0,k),(1,.func (.func F) [.ref 0 2 0 0] []),(5,match s.2.2.2 with|none=>.nils|some (_,m)=>.sl 1 5 0 m),(6,k),(7,s.1)])
  (λs=>match s.2.2.2 with|none=>[.live 2 [[.list 1 s.2.1,s.2.2.1]]]|some (u,_)=>[.live 2 [[.list 1 s.2.1,s.2.2.1]],.live 5 u])
  (λs=>0<=s.1/\s.1<=k/\s.2.1=(AU st s.1.toNat q).2.b.map AZ/\s.2.2.1=(AU st s.1.toNat q).2.sh/\Up0 s.2.1/\MOu Ak (AU st s.1.toNat q).1 s.2.2.2) (λs=>(k-s.1).toNat) (0,rs,shq,none) (by(refine Z.n (id) ?_;cbv<;>exact Z.q))
  ⟨Int.le_refl _,hk.1,yD,eshq,hu,rfl⟩ ?_
 rintro⟨i,w,s,ou⟩ zJ Q' hN hE hR'
 have zJ:0<=i/\i<=k/\w=(AU st i.toNat q).2.b.map AZ/\s=(AU st i.toNat q).2.sh/\Up0 w/\MOu Ak (AU st i.toNat q).1 ou:=zJ;obtain⟨zW,yZ,hw1,hs1,huw,yP⟩:=zJ;have hml:=FI st i.toNat q;by_cases yC:i<k
 ·obtain⟨i2,ei2⟩:=Z.e (i+1)
  have hT:(k-i2).toNat<(k-i).toNat:=(by omega);have yK:AU st i2.toNat q=((AU st i.toNat q).1++[(st (AU st i.toNat q).2).1],(st (AU st i.toNat q).2).2):=(by rw[show i2.toNat=i.toNat+1 by omega];rfl);have hcall:=hF _ (GH hst i.toNat q hq);rw[<- hw1,<- hs1] at hcall;obtain⟨⟨d,q2⟩,ed⟩:=Z.e (st (AU st i.toNat q).2);rw[<- ed] at hcall yK;obtain⟨w2,ew2⟩:=Z.e (q2.b.map AZ);obtain⟨s2,es2⟩:=Z.e q2.sh;have huw2:Up0 w2:=(by rw[ew2];exact Ao _);have hm1:(AU st i2.toNat q).1=(AU st i.toNat q).1++[d]:=(by rw[yK]);have hm2:(AU st i2.toNat q).2=q2:=(by rw[yK]);have hcall:AJ Tryz.prog F [.ref 0 2 0 0] [.live 2 [[.list 1 w,s]]] (λr h=>r = .agg (Ak d)/\∃j,h = .live 2 [[.list 1 w2,.bool s2]]::j):=(by rw[ew2,es2];exact hcall);obtain⟨u2,eu2⟩:∃z,z=(AU st i2.toNat q).1.map Ak:=⟨_,rfl⟩;have huu2:Up0 u2:=(by rw[eu2];exact BM (f:=Ak) zL _);obtain⟨m2,em2⟩:=Z.e i2.toNat;have hou2:MOu Ak (AU st i2.toNat q).1 (some (u2,m2)):=⟨by rw[hm1];simp,eu2,by rw[FI,em2],huu2⟩;have hw3:w2=(AU st i2.toNat q).2.b.map AZ:=(by rw[hm2,ew2]);have hs3:s2=(AU st i2.toNat q).2.sh:=(by rw[hm2,es2]);have hu2d:u2=(AU st i.toNat q).1.map Ak++[Ak d]:=(by rw[eu2,hm1,List.map_append];rfl);clear yK ed hm1 hm2 ew2 es2 hw1 hs1;obtain⟨d1,d2,d3,d4,d5⟩:=d;have hcall:AJ Tryz.prog F [.ref 0 2 0 0] [.live 2 [[.list 1 w,s]]] (λr h=>r = .agg [d1,d2,d3,d4,d5]/\∃j,h = .live 2 [[.list 1 w2,.bool s2]]::j):=(by exact hcall);have hu2d:u2=(AU st i.toNat q).1.map Ak++[[.int .i64 d1,.int .i64 d2,.int .i64 d3,.int .i64 d4,.int .i64 d5]]:=(by exact hu2d);have ck:=W.lt zA yC;have a4:zB .add .i64 i 1=i2:=(by rw[zC,Ag Z.o Z.o,ei2]);have hm2':m2=i.toNat+1:=by omega
  cases ou with
  | none =>
    have yP:(AU st i.toNat q).1=[]:=yP;rw[yP] at hml hu2d;have hm21:m2=1:=(by simp at hml;omega);have hu21:u2=[[.int .i64 d1,.int .i64 d2,.int .i64 d3,.int .i64 d4,.int .i64 d5]]:=hu2d;clear hml hu2d;cbv;simp only[ck];cbv;refine Call.of (AJ.one (s:=0) (by rw[<- hP];exact hcall) (Av huw _) rfl rfl rfl ?_);rintro r hD ⟨rfl,j,rfl⟩;refine⟨rfl,_,_,rfl,Av huw2 _,?_⟩;cbv;refine Ob.mk Z.d ?_;cbv;simp only[a4];refine hN (i2,w2,s2,some ([[.int .i64 d1,.int .i64 d2,.int .i64 d3,.int .i64 d4,.int .i64 d5]],1)) _ _ ?hx ?hi hT
    case hx=>(refine Z.n (id) ?_;cbv<;>exact Z.q)
    case hi=>exact⟨by simp only;omega,by simp only;omega,hw3,hs3,huw2,by simp only;rw[<- hu21,<- hm21];exact hou2⟩
  | some p =>
    obtain⟨u,m⟩:=p;have yP:(AU st i.toNat q).1≠[]/\u=(AU st i.toNat q).1.map Ak/\m=(AU st i.toNat q).1.length/\Up0 u:=yP;obtain⟨hne,hu1,hm1,huu1⟩:=yP;have hul:m=u.length:=(by rw[hu1,hm1];simp);have hm21:m2=m+1:=(by omega);have hmk:m<=1000:=(by omega);have hu21:u2=u++[[.int .i64 d1,.int .i64 d2,.int .i64 d3,.int .i64 d4,.int .i64 d5]]:=(by rw[hu1];exact hu2d);clear hml hu2d hne hu1 hm1;cbv;simp only[ck];cbv;refine Call.of (AJ.one (s:=0) (by rw[<- hP];exact hcall) (Av huw _) rfl rfl rfl ?_);rintro r hD ⟨rfl,j,rfl⟩;refine⟨rfl,_,_,rfl,Av huw2 _,?_⟩;cbv;refine App.mk u2 m2 hu21 hul hm21 Z.o Z.o ?_;cbv;simp only[a4];refine hN (i2,w2,s2,some (u2,m2)) _ _ ?hx ?hi hT
    case hx=>(refine Z.n (λj=>[0,2].getD j 0) ?_;cbv<;>exact Z.q)
    case hi=>exact⟨by simp only;omega,by simp only;omega,hw3,hs3,huw2,hou2⟩
 ·have ck:=W.nlt zA (show k<=i by omega)
  obtain rfl:i=k:=(by omega);obtain rfl:w=rs':=(by rw[hw1,hrs']);obtain rfl:s=sh':=(by rw[hs1,hsh']);clear hw1 hs1 hrs' hsh' hF
  cases ou with
  | none =>
    have yP:(AU st i.toNat q).1=[]:=yP;have hus0:us=[]:=(by rw[hus,yP];rfl);clear hus yP hml;cbv;simp only[ck];refine hE _ _ _ ?_;cbv;refine WkB.mk ?_;(refine Z.n (id) ?_;cbv<;>exact Z.q)
  | some p =>
    obtain⟨u,m⟩:=p;have yP:(AU st i.toNat q).1≠[]/\u=(AU st i.toNat q).1.map Ak/\m=(AU st i.toNat q).1.length/\Up0 u:=yP;obtain⟨hne,hu1,hm1,huu1⟩:=yP;obtain rfl:u=us:=(by rw[hu1,hus]);have hul:m=u.length:=(by rw[hu1,hm1];simp);clear hus hml hne hu1 hm1;cbv;simp only[ck];refine hE _ _ _ ?_;cbv;refine WkB.mk ?_;(refine Z.n (id) ?_;cbv<;>exact Z.q)
set_option maxRecDepth 100000
theorem Vq(ss:List Sg)(gs:List Gr)(mm:List (List Int))(n:Nv)(hu:NvU n)(zQ:n.es=ss.map Ah)(zY:n.ds=gs.map Ak)(hT:BN ss gs)(hon:n.on=true)(hc13:1<=n.c.c13/\n.c.c13<=1048576)(hc6:0<=n.c.c6)(hos:n.os=(List.range ss.length).map λx=>[AV.int .i64 (Er ss x)])
 (hfr:0<=n.p.fr/\n.p.fr<=1099511627776) (hway:∀l,l∈mm->Cu ss l) (hfew:mm.length<=16) (yD:n.p.rs=mm.map rtC) (hph: -35184372088832<=n.p.hi/\n.p.hi<=35184372088832) (hg0:0<=n.gr) (G:Gr) (hG:gs[n.gr.toNat]?=some G)
 (r:Rp) (hr:r.rt=[]) (f:Fu) (hf:I62 f.lo/\I62 f.hi) (v:Rp) (hv:v=BZ ss gs mm r n f) :
 AJ Tryz.prog 53 [.ref 0 55 0 0,.ref 1 32 0 0,.agg [f.lo,f.hi,f.n,f.cl,f.cf,f.s0,f.s1]] [.live 55 [n.row],.live 32 [r.rowL .nils]] (λx hp=>x = .tuple []/\hp=[.live 55 [n.row],.live 32 [v.row]]):=by
 refine AJ.give ?_;obtain⟨md,emd⟩:∃x,(f.lo+f.hi)/2=x:=⟨_,rfl⟩;obtain⟨mo,emo⟩:=Z.e (EB n.w.fa true f.n f.cf);have q1:=Jd emd (F6 hf.1) (F6 hf.2);have q2:=SV n.w.si n.w.st n.w.fa true f.n f.cf mo emo;obtain⟨fv,efv⟩:=Z.e (mm.foldl (DZ ss (Er ss) n.p.fr n.p.hi) (0,false));have hJ:=λx hx=>Sa hT x hx;have huo:=hu.os;have q3:=aI ss gs n.es n.ds zQ zY hT.lensOk n.p.fr hfr mm hway Z.o n.p.rs yD (Er ss) n.os (λx hx=>by rw[hos,List.getElem?_map,List.getElem?_range hx];rfl) huo hJ n.p.hi hph fv efv;have hfv:=Sb hT hfr hph mm hway (0,false) ⟨by decide,by decide⟩;rw[<- efv] at hfv;obtain⟨pm,epm⟩:=Z.e (MI (2*n.c.c13*GZ fv.1) n.c.c6);have q4:=Zg (c0:=n.c.c0) (c1:=n.c.c1) (c2:=n.c.c2) (c3:=n.c.c3) (c4:=n.c.c4) (c5:=n.c.c5) (c6:=n.c.c6) (c7:=n.c.c7) (c8:=n.c.c8) (c9:=n.c.c9) (c10:=n.c.c10) (c11:=n.c.c11) (c12:=n.c.c12) (f:=fv.1) hc13.1 hc13.2 hc6 Z.o Z.o (aJ (X:=2*n.c.c13*GZ fv.1) (m:=n.c.c6) (aK hc13.1) hc6 epm);have hgr:n.ds[n.gr.toNat]?=some (Ak G):=by rw[zY,List.getElem?_map,hG];rfl
 unfold BZ at hv;rw[hon,emd,<- emo] at hv;simp only at hv;rw[<- efv,hG,<- epm] at hv;simp only at hv;have hw0:∀l,l∈mm->l.length<=12:=λl hl=>(hway l hl).len.1;clear emo emd hf hJ hos hph hG efv epm hc13 hc6 zQ zY hT hfr hway;obtain⟨rcy,rmd,rgr,rlo,rhi,res,rsl,rsh,rno,rdi,rrt,rfi,rcl,rcf,rs0,rs1,rac,rfa,rst,rro,rov,rml,rmh,rpe,ra0,rb0,ra1,rb1,rbad,rsta,rtwi,rbey⟩:=r;obtain⟨flo,fhi,fn,fcl,fcf,fs0,fs1⟩:=f;obtain⟨gid,gseg,goff,gacc,gsl⟩:=G;obtain⟨fd,fo⟩:=fv;simp only at hr;subst hr;simp only at hv q1 q2 q3 q4;have hu1:=hu;obtain⟨⟨c0,c1,c2,c3,c4,c5,c6,c7,c8,c9,c10,c11,c12,c13⟩,es,ds,cy,g0,g1,os,⟨kn0,la0,su0⟩,⟨kn1,la1,su1⟩,a0,b0,a1,b1,lo,hi,di,on,gr,⟨pl,ph,pe,fr,rs⟩,cl,o0,o1,s0,s1,sc,so,ra,ro,m0,m1,⟨wi,wt,wf⟩⟩:=n;obtain⟨hue,hud,huo,hur⟩:=hu1;simp only at hue hud huo hur q1 q2 hon hv q3 q4 hgr hg0 yD;subst hon;obtain⟨pe2,epe⟩:=Z.e (peV fo pm c6);rw[<- epe] at hv;obtain⟨ov2,eov⟩:=Z.e (decide (pe2<fhi));rw[<- eov] at hv;obtain⟨U,eU⟩:=Z.e (mm.map D7);have huU:Up0 U:=by rw[eU];exact JQ mm
 have hvr:v.row=[.int .i64 rcy,.int .i64 mo,.int .i64 gid,.int .i64 pl,.int .i64 ph,.int .i64 pe,.int .i64 flo,.int .i64 fhi,.int .i64 md,.int .i64 di,.list 1 U,.int .i64 fn,.bool fcl,.bool fcf,.int .i64 fs0,.int .i64 fs1,.bool rac,.bool rfa,.bool so,.bool ro,.bool ov2,.int .i64 m0,.int .i64 m1,.int .i64 pe2,.int .i64 a0,.int .i64 b0,.int .i64 a1,.int .i64 b1,.int .i64 rbad,.int .i64 rsta,.int .i64 rtwi,.int .i64 rbey]:=by rw[hv,eU];rfl
 rw[hvr];clear hv hvr;have hgr:ds[gr.toNat]?=some [.int .i64 gid,.int .i64 gseg,.int .i64 goff,.int .i64 gacc,.int .i64 gsl]:=hgr;(refine AJ.ofP (F:=[1,2,3,4,6,10]) (sc:=?scc) (r:=?rr) Tryz.func53 (by kernel_rfl) rfl ?hr ?hc (by kernel_rfl) λw hw=>?H);(case hr=>((conv=>lhs;cbv);(try exact rfl)));(case hc=>((repeat' (first|refine' IQ ?_ ?_|refine' IR ?_|refine' IU ?_|refine' Cg (id:=1) SI rfl (by kernel_rfl) ?_|refine' Cg (id:=2) SK rfl (by kernel_rfl) ?_|refine' Cg (id:=3) SL rfl (by kernel_rfl) ?_|refine' Cg (id:=4) SN rfl (by kernel_rfl) ?_|refine' Cg (id:=6) SQ rfl (by kernel_rfl) ?_|refine' Cg (id:=10) SS rfl (by kernel_rfl) ?_|fail));(try any_goals (conv=>lhs;cbv));(try any_goals exact rfl)));(obtain⟨zB,zE,yN,zD,zF,zX,yO,zP,zS,zR,yA,yB,zK,zU,zM,zN,zO,yG,zT,yH⟩:=w);(have zC:=Z.w1 hw);(have zA:=Z.w2 hw);(have yJ:=Z.w3 hw);(have zG:=Z.w4 hw);(have zI:=Z.w5 hw);(have yM:=Z.w6 hw);(have yS:=Z.w7 hw);(have zZ:=Z.w8 hw);(have yF:=Z.w9 hw);(have yE:=Z.w10 hw);(have yT:=Z.w11 hw);(have yU:=Z.w12 hw);(have zH:=Z.w13 hw);(have yR:=Z.w14 hw);(have zV:=Z.w15 hw);(have yI:=Z.w16 hw);(have yL:=Z.w17 hw);(have yX:=Z.w18 hw);(have yQ:=Z.w19 hw);(have yY:=Z.w20 hw);(have hz:=Z.z hw);(conv=>arg 4;cbv);(generalize hP:Tryz.prog=P);cbv;refine AnyQ.e _ (by cbv) _ (by cbv) (by cbv) ?_;cbv;repeat' (first|fail)
 refine CJ.mk [?v1_5,?v1_7,?v1_9,?v1_11,?v1_12,?v1_13,.any,?v1_15,?v1_16,.any,?v1_18,?v1_19,.any,?v1_21,?v1_22,.any] (λm=>[.live 55 [c0::c1::c2::c3::c4::c5::c6::c7::c8::c9::c10::c11::c12::c13 :: .list 3 es :: .list 5 ds :: .bool false::cy::g0::g1 :: .list 1 os::kn0 :: .int .u16 la0::su0::[kn1,.int .u16 la1,su1,a0,b0,a1,b1,lo,hi,di,.bool true,gr,pl,ph,pe,fr,.list 13 rs,cl,o0,o1,s0,s1,sc,so,ra,ro,m0,m1,wi,wt,wf]],.live 32 [rcy::[rmd,rgr,rlo,rhi,res,rsl,rsh,rno,rdi,.nils,(match m 14 with|true=>.int .i64 fn|false=>.int .i64 rfi),(match m 17 with|true=>.bool fcl|false=>.bool rcl),(match m 20 with|true=>.bool fcf|false=>.bool rcf),(match m 23 with|true=>.int .i64 fs0|false=>.int .i64 rs0),(match m 23 with|true=>.int .i64 fs1|false=>.int .i64 rs1),rac,rfa,rst,rro,rov,rml,rmh,rpe,ra0,rb0,ra1,rb1,rbad,rsta,rtwi,rbey]],.live 7 [[flo,fhi,fn,fcl,fcf,fs0,fs1]]]) rfl ?hs1 ?hf1
 case hs1 =>
  cbv;repeat' (first|(refine λm=>?_;cbv)|(refine And.intro ?_ ?_)|exact rfl|exact trivial|fail)
 cbv;refine AnyQ.e _ (by cbv) _ (by cbv) (by cbv) ?_;cbv;repeat' (first|(refine Call.s hP q1 ?_;cbv)|(refine AB.s hP q1 ?_;cbv)|fail)
 refine CJ.mk [?v2_4,?v2_6,?v2_7,?v2_11,?v2_12,?v2_13,.any,?v2_15,?v2_16,.any,?v2_18,?v2_19,.any] (λm=>[.live 55 [c0::c1::c2::c3::c4::c5::c6::c7::c8::c9::c10::c11::c12::c13 :: .list 3 es :: .list 5 ds :: .bool false::cy::g0::g1 :: .list 1 os::kn0 :: .int .u16 la0::su0::[kn1,.int .u16 la1,su1,a0,b0,a1,b1,lo,hi,di,.bool true,gr,pl,ph,pe,fr,.list 13 rs,cl,o0,o1,s0,s1,sc,so,ra,ro,m0,m1,wi,wt,wf]],.live 32 [rcy::[rmd,rgr,rlo,rhi,res,(match m 14 with|true=>.int .i64 flo|false=>.int .i64 rsl),(match m 14 with|true=>.int .i64 fhi|false=>.int .i64 rsh),(match m 17 with|true=>.int .i64 md|false=>.int .i64 rno),(match m 20 with|true=>.int .i64 di|false=>.int .i64 rdi),.nils,fn,fcl,fcf,fs0,fs1,rac,rfa,rst,rro,rov,rml,rmh,rpe,ra0,rb0,ra1,rb1,rbad,rsta,rtwi,rbey]],.live 7 [[flo,fhi,fn,fcl,fcf,fs0,fs1]]]) rfl ?hs2 ?hf2
 case hs2 =>
  cbv;repeat' (first|(refine Call.s hP q1 ?_;cbv)|(refine AB.s hP q1 ?_;cbv)|(refine λm=>?_;cbv)|(refine And.intro ?_ ?_)|exact rfl|exact trivial|fail)
 cbv;refine AnyQ.e _ (by cbv) _ (by cbv) (by cbv) ?_;cbv;repeat' (first|fail)
 refine CJ.mk [?v3_8,?v3_13,?v3_18,?v3_22,?v3_23,?v3_24,.any,?v3_26,?v3_27,.any,?v3_29,?v3_30,.any,?v3_32,?v3_33,.any] (λm=>[.live 55 [c0::c1::c2::c3::c4::c5::c6::c7::c8::c9::c10::c11::c12::c13 :: .list 3 es :: .list 5 ds :: .bool false::cy::g0::g1 :: .list 1 os::kn0 :: .int .u16 la0::su0::[kn1,.int .u16 la1,su1,a0,b0,a1,b1,lo,hi,di,.bool true,gr,pl,ph,pe,fr,.list 13 rs,cl,o0,o1,s0,s1,sc,so,ra,ro,m0,m1,wi,wt,wf]],.live 32 [rcy::[rmd,rgr,rlo,rhi,res,flo,fhi,md,di,.nils,fn,fcl,fcf,fs0,fs1,rac,rfa,(match m 25 with|true=>.bool so|false=>.bool rst),(match m 28 with|true=>.bool ro|false=>.bool rro),rov,(match m 31 with|true=>.int .i64 m0|false=>.int .i64 rml),(match m 31 with|true=>.int .i64 m1|false=>.int .i64 rmh),rpe,(match m 34 with|true=>.int .i64 a0|false=>.int .i64 ra0),(match m 34 with|true=>.int .i64 b0|false=>.int .i64 rb0),(match m 34 with|true=>.int .i64 a1|false=>.int .i64 ra1),(match m 34 with|true=>.int .i64 b1|false=>.int .i64 rb1),rbad,rsta,rtwi,rbey]],.live 7 [[flo,fhi,fn,fcl,fcf,fs0,fs1]]]) rfl ?hs3 ?hf3
 case hs3 =>
  cbv;repeat' (first|(refine λm=>?_;cbv)|(refine And.intro ?_ ?_)|exact rfl|exact trivial|fail)
 cbv;refine AnyQ.e _ (by cbv) _ (by cbv) (by cbv) ?_;cbv;repeat' (first|(refine Call.s hP q2 ?_;cbv)|(refine AB.s hP q2 ?_;cbv)|fail)
 refine CJ.mk [?v4_5,?v4_10,?v4_12,?v4_14,?v4_15,?v4_20,?v4_21,?v4_22,.any,?v4_24,?v4_25,.any] (λm=>[.live 55 [c0::c1::c2::c3::c4::c5::c6::c7::c8::c9::c10::c11::c12::c13 :: .list 3 es :: .list 5 ds :: .bool false::cy::g0::g1 :: .list 1 os::kn0 :: .int .u16 la0::su0::[kn1,.int .u16 la1,su1,a0,b0,a1,b1,lo,hi,di,.bool true,gr,pl,ph,pe,fr,.list 13 rs,cl,o0,o1,s0,s1,sc,so,ra,ro,m0,m1,wi,wt,wf]],.live 32 [rcy::[(match m 23 with|true=>.int .i64 mo|false=>.int .i64 rmd),rgr,rlo,rhi,res,flo,fhi,md,di,.nils,fn,fcl,fcf,fs0,fs1,rac,rfa,so,ro,rov,m0,m1,(match m 26 with|true=>.int .i64 c6|false=>.int .i64 rpe),a0,b0,a1,b1,rbad,rsta,rtwi,rbey]],.live 7 [[flo,fhi,fn,fcl,fcf,fs0,fs1]]]) rfl ?hs4 ?hf4
 case hs4 =>
  cbv;repeat' (first|(refine Call.s hP q2 ?_;cbv)|(refine AB.s hP q2 ?_;cbv)|(refine λm=>?_;cbv)|(refine And.intro ?_ ?_)|exact rfl|exact trivial|fail)
 cbv;have n1:zF true=false:=by rw[zI];rfl
 repeat' (first|(simp only[n1];cbv)|fail)
 refine AnyQ.e _ (by cbv) _ (by cbv) (by cbv) ?_;cbv;repeat' (first|(refine Idx.mk _ hg0 hgr ?_;cbv)|fail)
 refine CJ.mk [?v6_7,?v6_12,?v6_13,?v6_14,?v6_15,?v6_20,?v6_25,?v6_26,?v6_27,.any,?v6_29,?v6_30,.any,?v6_32,?v6_33,.any] (λm=>[.live 55 [c0::c1::c2::c3::c4::c5::c6::c7::c8::c9::c10::c11::c12::c13 :: .list 3 es :: .list 5 ds :: .bool false::cy::g0::g1 :: .list 1 os::kn0 :: .int .u16 la0::su0::[kn1,.int .u16 la1,su1,a0,b0,a1,b1,lo,hi,di,.bool true,gr,pl,ph,pe,fr,.list 13 rs,cl,o0,o1,s0,s1,sc,so,ra,ro,m0,m1,wi,wt,wf]],.live 32 [rcy::[mo,(match m 28 with|true=>.int .i64 gid|false=>.int .i64 rgr),(match m 31 with|true=>.int .i64 pl|false=>.int .i64 rlo),(match m 31 with|true=>.int .i64 ph|false=>.int .i64 rhi),(match m 34 with|true=>.int .i64 pe|false=>.int .i64 res),flo,fhi,md,di,.nils,fn,fcl,fcf,fs0,fs1,rac,rfa,so,ro,rov,m0,m1,c6,a0,b0,a1,b1,rbad,rsta,rtwi,rbey]],.live 7 [[flo,fhi,fn,fcl,fcf,fs0,fs1]]]) rfl ?hs6 ?hf6
 case hs6 =>
  cbv;repeat' (first|(refine Idx.mk _ hg0 hgr ?_;cbv)|(refine λm=>?_;cbv)|(refine And.intro ?_ ?_)|exact rfl|exact trivial|fail)
 cbv;have hrl:rs.length=mm.length:=by rw[yD];simp
 (obtain⟨L,eL,L0,Ln⟩:∃L:Int,zK rs=L/\0<=L/\L.toNat=rs.length:=⟨(rs.length:Int),by rw[zH],Int.natCast_nonneg _,Int.toNat_natCast _⟩)
 simp only[eL]
 refine KU.dataN hw (S:=Int×Option (List (List AV)×Nat)) (λs=>Go.Eng.fr 209 [(0,.ref 0 55 0 0),(1,.ref 1 32 0 0),(2,.agg [flo,fhi,fn,fcl,fcf,fs0,fs1]),(5,.ref 2 7 0 0),(147,.list 13 rs),(148,L),(149,s.1)])
  (λs=>match s.2 with|none=>[.live 55 [c0::c1::c2::c3::c4::c5::c6::c7::c8::c9::c10::c11::c12::c13 :: .list 3 es :: .list 5 ds :: .bool false::cy::g0::g1 :: .list 1 os::kn0 :: .int .u16 la0::su0::[kn1,.int .u16 la1,su1,a0,b0,a1,b1,lo,hi,di,.bool true,gr,pl,ph,pe,fr,.list 13 rs,cl,o0,o1,s0,s1,sc,so,ra,ro,m0,m1,wi,wt,wf]],.live 32 [rcy::[mo,gid,pl,ph,pe,flo,fhi,md,di,.nils,fn,fcl,fcf,fs0,fs1,rac,rfa,so,ro,rov,m0,m1,c6,a0,b0,a1,b1,rbad,rsta,rtwi,rbey]],.live 7 [[flo,fhi,fn,fcl,fcf,fs0,fs1]]]|some (u,m)=>[.live 55 [c0::c1::c2::c3::c4::c5::c6::c7::c8::c9::c10::c11::c12::c13 :: .list 3 es :: .list 5 ds :: .bool false::cy::g0::g1 :: .list 1 os::kn0 :: .int .u16 la0::su0::[kn1,.int .u16 la1,su1,a0,b0,a1,b1,lo,hi,di,.bool true,gr,pl,ph,pe,fr,.list 13 rs,cl,o0,o1,s0,s1,sc,so,ra,ro,m0,m1,wi,wt,wf]],.live 32 [rcy::[mo,gid,pl,ph,pe,flo,fhi,md,di,.sl 3 1 0 m,fn,fcl,fcf,fs0,fs1,rac,rfa,so,ro,rov,m0,m1,c6,a0,b0,a1,b1,rbad,rsta,rtwi,rbey]],.live 7 [[flo,fhi,fn,fcl,fcf,fs0,fs1]],.live 1 u])
  (λs=>0<=s.1/\s.1<=L/\MOu D7 (mm.take s.1.toNat) s.2) (λs=>(L-s.1).toNat) (0,none) (by(refine Z.n (id) ?_;cbv<;>exact Z.q)) ⟨Int.le_refl _,L0,rfl⟩ ?_
 rintro⟨i,ou⟩ zJ Q' hN hE hR'
 have zJ:0<=i/\i<=L/\MOu D7 (mm.take i.toNat) ou:=zJ;obtain⟨zW,yZ,yP⟩:=zJ;by_cases yC:i<L
 ·obtain⟨l,hl⟩:∃l,mm[i.toNat]?=some l:=⟨_,List.getElem?_eq_getElem (show i.toNat<mm.length by omega)⟩
  obtain⟨i2,ei2⟩:=Z.e (i+1);have htk:mm.take i2.toNat=mm.take i.toNat++[l]:=(by rw[ei2];exact Eu zW hl);have q5:=KA l (hw0 l (List.mem_of_getElem? hl));obtain⟨xs,exs⟩:=Z.e (l.map Ac);rw[<- exs] at q5;have hux:Up0 xs:=(by rw[exs];exact CG l);have hri:rs[i.toNat]?=some (rtC l):=(by rw[yD,List.getElem?_map,hl];rfl);obtain⟨z,y0,y1,y2,y3,y4,y5,y6,y7,y8,y9,y10,y11,erow⟩:=QR l;rw[erow] at hri q5;have hT:(L-i2).toNat<(L-i).toNat:=(by omega);have a4:zB .add .i64 i 1=i2:=(by rw[zC,Ag Z.o Z.o,ei2]);have ck:=W.lt zA yC
  cases ou with
  | none =>
    cbv;repeat' (first|(simp only[ck];cbv)|(refine Idx.mk _ zW hri ?_;cbv)|fail)
    refine AnyQ.e _ (by cbv) _ (by cbv) (by cbv) ?_;cbv;refine CJ.mk [?n4,?n5,?n6,?n7,?n8,?n9,?n10,.any] (λm=>[.live 55 [c0::c1::c2::c3::c4::c5::c6::c7::c8::c9::c10::c11::c12::c13 :: .list 3 es :: .list 5 ds :: .bool false::cy::g0::g1 :: .list 1 os::kn0 :: .int .u16 la0::su0::[kn1,.int .u16 la1,su1,a0,b0,a1,b1,lo,hi,di,.bool true,gr,pl,ph,pe,fr,.list 13 rs,cl,o0,o1,s0,s1,sc,so,ra,ro,m0,m1,wi,wt,wf]],.live 32 [rcy::[mo,gid,pl,ph,pe,flo,fhi,md,di,(match m 11 with|true=>.sl 4 1 0 1|false=>.nils),fn,fcl,fcf,fs0,fs1,rac,rfa,so,ro,rov,m0,m1,c6,a0,b0,a1,b1,rbad,rsta,rtwi,rbey]],.live 7 [[flo,fhi,fn,fcl,fcf,fs0,fs1]],.live 13 [[z,y0,y1,y2,y3,y4,y5,y6,y7,y8,y9,y10,y11]]]++(match m 8 with|true=>[.live 1 [[.list 1 xs]]]|false=>[])) rfl ?hsn ?hfn
    case hsn =>
     cbv;repeat' (first|(refine Call.s hP q5 ?_;cbv)|(refine AB.s hP q5 ?_;cbv)|(refine Ob.mk Z.d ?_;cbv)|(refine λm=>?_;cbv)|(refine And.intro ?_ ?_)|exact rfl|exact trivial|fail)
    cbv;simp only[a4];refine hN (i2,some ([[.list 1 xs]],1)) _ _ ?_ ?_ hT
    ·(refine Z.n (λj=>[0,1,2,4].getD j 0) ?_;cbv<;>exact Z.q)
    ·have yP:mm.take i.toNat=[]:=yP
     refine⟨by simp only;omega,by simp only;omega,?_⟩;simp only;rw[htk,yP];exact⟨by simp,by rw[exs];rfl,rfl,⟨by simp only[BC,Af,AV.upto,hux.get];rfl⟩⟩
  | some p =>
    obtain⟨u,m⟩:=p;have yP:mm.take i.toNat≠[]/\u=(mm.take i.toNat).map D7/\m=(mm.take i.toNat).length/\Up0 u:=yP;obtain⟨hne,hu1,hm1,huu1⟩:=yP;have hul:m=u.length:=(by rw[hu1,hm1];simp);obtain⟨u2,eu2⟩:=Z.e (u++[[.list 1 xs]]);obtain⟨m2,em2⟩:=Z.e (m+1);have hml:m<=16:=by rw[hm1,List.length_take];omega
    have hou2:MOu D7 (mm.take i2.toNat) (some (u2,m2)):=by
     have e:u2=(mm.take i2.toNat).map D7:=(by rw[eu2,hu1,htk,List.map_append,exs];rfl);exact⟨by rw[htk];simp,e,by rw[em2,hm1,htk];simp,by rw[e];exact JQ _⟩
    have huu2:Up0 u2:=hou2.2.2.2;clear hou2
    have hou2:MOu D7 (mm.take i2.toNat) (some (u2,m2)):=by
     have e:u2=(mm.take i2.toNat).map D7:=(by rw[eu2,hu1,htk,List.map_append,exs];rfl);exact⟨by rw[htk];simp,e,by rw[em2,hm1,htk];simp,huu2⟩
    clear htk hm1 hu1 exs;cbv;repeat' (first|(simp only[ck];cbv)|(refine Idx.mk _ zW hri ?_;cbv)|fail)
    refine AnyQ.e _ (by cbv) _ (by cbv) (by cbv) ?_;cbv;refine CJ.mk [?p4,?p5,?p6,?p7,?p8,?p9,?p10,.any] (λmm=>[.live 55 [c0::c1::c2::c3::c4::c5::c6::c7::c8::c9::c10::c11::c12::c13 :: .list 3 es :: .list 5 ds :: .bool false::cy::g0::g1 :: .list 1 os::kn0 :: .int .u16 la0::su0::[kn1,.int .u16 la1,su1,a0,b0,a1,b1,lo,hi,di,.bool true,gr,pl,ph,pe,fr,.list 13 rs,cl,o0,o1,s0,s1,sc,so,ra,ro,m0,m1,wi,wt,wf]],.live 32 [rcy::[mo,gid,pl,ph,pe,flo,fhi,md,di,(match mm 11 with|true=>.sl 5 1 0 m2|false=>.sl 3 1 0 m),fn,fcl,fcf,fs0,fs1,rac,rfa,so,ro,rov,m0,m1,c6,a0,b0,a1,b1,rbad,rsta,rtwi,rbey]],.live 7 [[flo,fhi,fn,fcl,fcf,fs0,fs1]],(match mm 8 with|true=>.dead|false=>.live 1 u),.live 13 [[z,y0,y1,y2,y3,y4,y5,y6,y7,y8,y9,y10,y11]]]++(match mm 8 with|true=>[.live 1 u2]|false=>[])) rfl ?hsp ?hfp
    case hsp =>
     cbv;repeat' (first|(refine Call.s hP q5 ?_;cbv)|(refine AB.s hP q5 ?_;cbv)|(refine App.mk u2 m2 eu2 hul em2 Z.o Z.o ?_;cbv)|(refine λm=>?_;cbv)|(refine And.intro ?_ ?_)|exact rfl|exact trivial|fail)
    cbv;simp only[a4];refine hN (i2,some (u2,m2)) _ _ ?_ ?_ hT
    ·(refine Z.n (λj=>[0,1,2,5].getD j 0) ?_;cbv<;>exact Z.q)
    ·exact⟨by simp only;omega,by simp only;omega,hou2⟩
 ·have ck:=W.nlt zA (show L<=i by omega)
  rw[List.take_of_length_le Z.o] at yP;have d1:zE .gtr fhi pe2=ov2:=(by rw[zA,eov];rfl);have n2:zF false=true:=by rw[zI];rfl
  (try simp only at q3 q4)
  cases ou with
  | none =>
    have yP:mm=[]:=yP;have hU:U=[]:=(by rw[eU,yP];rfl);subst hU;clear eU yP eov;cbv;simp only[ck];refine hE _ _ _ ?_;cbv;repeat' (first|(refine Call.s hP q3 ?_;cbv)|(refine AB.s hP q3 ?_;cbv)|fail)
    cases fo with
    | true =>
      simp only[peV] at epe;subst epe;cbv;repeat' (first|(simp only[d1];cbv)|(refine Call.s hP q4 ?_;cbv)|(refine AB.s hP q4 ?_;cbv)|fail)
      refine WkB.mk ?_;(refine Z.n (id) ?_;cbv<;>exact Z.q)
    | false =>
      simp only[peV] at epe;subst epe;cbv;repeat' (first|(simp only[d1];cbv)|(refine Call.s hP q4 ?_;cbv)|(refine AB.s hP q4 ?_;cbv)|fail)
      refine WkB.mk ?_;(refine Z.n (id) ?_;cbv<;>exact Z.q)
  | some p =>
    obtain⟨u,m⟩:=p;have yP:mm≠[]/\u=mm.map D7/\m=mm.length/\Up0 u:=yP;obtain⟨hne,hu1,hm1,huu1⟩:=yP;have hul:m=u.length:=(by rw[hu1,hm1];simp);obtain rfl:u=U:=(by rw[hu1,eU]);clear eU hu1 hm1 eov hne;cbv;simp only[ck];refine hE _ _ _ ?_;cbv;repeat' (first|(refine Call.s hP q3 ?_;cbv)|(refine AB.s hP q3 ?_;cbv)|fail)
    cases fo with
    | true =>
      simp only[peV] at epe;subst epe;cbv;repeat' (first|(simp only[d1];cbv)|(refine Call.s hP q4 ?_;cbv)|(refine AB.s hP q4 ?_;cbv)|fail)
      refine WkB.mk ?_;(refine Z.n (id) ?_;cbv<;>exact Z.q)
    | false =>
      simp only[peV] at epe;subst epe;cbv;repeat' (first|(simp only[d1];cbv)|(refine Call.s hP q4 ?_;cbv)|(refine AB.s hP q4 ?_;cbv)|fail)
      refine WkB.mk ?_;(refine Z.n (id) ?_;cbv<;>exact Z.q)
set_option maxRecDepth 100000
def QL:List (List Nat):=[[],[6,0],[0],[6,2],[2],[6,4],[4],[6,6],[6,0,1],[6,8,1,0,1],[6,0,1,2,3,8,9],[6,10,3,9,0,1,2,3,8,9],[6,0,1,2,3,4,5,8,9,10,11],[6,12,5,11,0,1,2,3,4,5,8,9,10,11],[6,0,1,2,3,4,5,6,7,8,9,10,11,12,13],[6,14,7,13,0,1,2,3,4,5,6,7,8,9,10,11,12,13]]
def QM:List (List Nat):=[[],[2,0],[0],[2,2],[2,3],[2,0,1],[2,5,1,0,1],[2,0,1,2,3,4,5,6],[2,7,4,6,0,1,2,3,4,5,6]]
theorem Vs(n:Nv)(hu:NvU n)(cy1:Int)(ecy:n.cy+1=cy1)(hcy:0<=n.cy/\n.cy<=1000000000)(ls:List (List AV))(hls:Up0 ls)(com:Bool)(m:Ml)
 (hM:A9 Tryz.prog 45 [n.cy,.list 1 ls] (· = .agg m.row))
 (n1:Nv) (en1:n1={ n with cy:=cy1 }) (n2:Nv) (u2:NvU n2) (f:Fu) (hS:AJ Tryz.prog 46 [.ref 0 55 0 0,.agg m.row] [.live 55 [n1.row]] (λr hp=>r = .agg [f.lo,f.hi,f.n,f.cl,f.cf,f.s0,f.s1]/\∃j,hp = .live 55 [n2.row]::j))
 (n3:Nv) (en3:n3={ n2 with cl:=n2.cl && f.cl }) (n4:Nv) (u4:NvU n4) (ov:Bool) (hMv:AJ Tryz.prog 47 [.ref 0 55 0 0,.agg [f.lo,f.hi]] [.live 55 [n3.row]] (λr hp=>r = .bool ov/\∃j,hp = .live 55 [n4.row]::j))
 (x:Fo) (xa:List (List AV)) (hxa:Up0 xa) (hL:AJ Tryz.prog 48 [.ref 0 55 0 0,.agg m.row,.agg [n3.on,n3.gr,n3.p.lo,n3.p.hi,n3.p.est,n3.p.fr,.list 13 n3.p.rs],.agg [f.lo,f.hi]] [.live 55 [n4.row]] (λr hp=>r = .agg [x.g,.list 1 xa,x.ok,x.ac]/\∃j,hp = .live 55 [n4.row]::j))
 (n5:Nv) (u5:NvU n5) (hA:x.ac=true->AJ Tryz.prog 49 [.ref 0 55 0 0,.agg [x.g,.list 1 xa,x.ok,x.ac],.agg [f.lo,f.hi]] [.live 55 [n4.row]] (λr hp=>r = .tuple []/\∃j,hp = .live 55 [n5.row]::j)) (hA0:x.ac=false->n5=n4)
 (w6:Wt) (h6:w6=wtV n5.c.c12 n5.w f.n f.cf ov x.ac) (h12:1<=n5.c.c12/\n5.c.c12<=1000) (hsi:0<=n5.w.si/\n5.w.si<=1048576) (hst:0<=n5.w.st/\n5.w.st<=1048576)
 (n7:Nv) (h7:n7=(BO { n5 with w:=w6 } []).1) (hab:f.lo<=f.hi) (h9:1<=n5.c.c9/\n5.c.c9<=1000) (h10:0<=n5.c.c10/\n5.c.c10<=16777216) (hsc:0<=n5.sc/\n5.sc<=1048576)
 (sc8:Int) (e8:sc8=En n5.c.c9 n5.c.c10 n5.sc f.lo f.hi f.n) (so8:Bool) (eo8:so8=decide (n5.c.c9<=sc8)) (h11:0<=n5.c.c11/\n5.c.c11<2000000000) (yS:n5.m0<=n5.m1) (hm0:InR (n5.m0+f.lo)) (hm1:InR (n5.m1+f.hi))
 (q:Rl) (eq:q=Dj n5.c.c11 ⟨n5.ra,n5.ro,n5.m0,n5.m1⟩ so8 com f.lo f.hi) (n9:Nv) (e9:n9={ n7 with sc:=sc8,so:=so8,ra:=q.an,ro:=q.on,m0:=q.lo,m1:=q.hi }) (u9:NvU n9)
 (r0:Rp) (er0:r0={ rp0 n.cy with bad:=m.bad,sta:=m.stale,twi:=m.twice,bey:=m.beyond,ac:=x.ac,fa:= !x.ok }) (v:Rp)
 (hT:AJ Tryz.prog 53 [.ref 0 55 0 0,.ref 1 32 0 0,.agg [f.lo,f.hi,f.n,f.cl,f.cf,f.s0,f.s1]] [.live 55 [match w6.fa with|true=>n9.rowP .nils|false=>n9.row],.live 32 [r0.rowL .nils]] (λx hp=>x = .tuple []/\hp=[.live 55 [n9.row],.live 32 [v.row]])) :
 AJ Tryz.prog 20 [.ref 0 55 0 0,.list 1 ls,com] [.live 55 [n.row]] (λr hp=>r = .agg v.row/\∃j,hp = .live 55 [n9.row]::j):=by
 have k6:=aL n5.c.c0 n5.c.c1 n5.c.c2 n5.c.c3 n5.c.c4 n5.c.c5 n5.c.c6 n5.c.c7 n5.c.c8 n5.c.c9 n5.c.c10 n5.c.c11 n5.c.c12 n5.c.c13 n5.w f.n f.cf ov x.ac w6 h12 hsi hst h6;have k8:=aM n5.c.c0 n5.c.c1 n5.c.c2 n5.c.c3 n5.c.c4 n5.c.c5 n5.c.c6 n5.c.c7 n5.c.c8 n5.c.c9 n5.c.c10 n5.c.c11 n5.c.c12 n5.c.c13 n5.sc n5.so f.lo f.hi f.n sc8 so8 hab h9 h10 hsc e8 eo8;have k9:=Xz n5.ra n5.ro n5.m0 n5.m1 so8 com f.lo f.hi n5.c.c0 n5.c.c1 n5.c.c2 n5.c.c3 n5.c.c4 n5.c.c5 n5.c.c6 n5.c.c7 n5.c.c8 n5.c.c9 n5.c.c10 n5.c.c11 n5.c.c12 n5.c.c13 h11.1 h11.2 yS hab hm0 hm1;rw[<- eq] at k9;have u1:NvU n1:=by rw[en1];exact⟨hu.es,hu.ds,hu.os,hu.rs⟩
 have u3:NvU n3:=by rw[en3];exact⟨u2.es,u2.ds,u2.os,u2.rs⟩
 have r1:=u1.row;have r2:=u2.row;have r3:=u3.row;have r4:=u4.row;have r5:=u5.row;have r9:=u9.row;have hurB:=u2.rs;have hurC:=u4.rs;have hurD:=u5.rs;clear h6 h12 hsi hst hab h9 h10 hsc e8 eo8 h11 yS hm0 hm1 eq;obtain⟨flo,fhi,fn,fcl,fcf,fs0,fs1⟩:=f;obtain⟨xg,xat,xo,xc⟩:=x;obtain⟨p1,p2,p3,p4,p5,x1,x2,x3,x4,x5,bad,stale,twice,beyond⟩:=m;obtain⟨w6s,w6t,w6f⟩:=w6;obtain⟨qa,qo,ql,qh⟩:=q;simp only at *;obtain⟨⟨c0,c1,c2,c3,c4,c5,c6,c7,c8,c9,c10,c11,c12,c13⟩,es,ds,cy,g0,g1,os,⟨kn0,la0,su0⟩,⟨kn1,la1,su1⟩,a0,b0,a1,b1,lo,hi,di,on,gr,⟨pl,ph,pe,fr,rs⟩,cl,o0,o1,s0,s1,sc,so,ra,ro,m0,m1,⟨wi,wt,wf⟩⟩:=n;obtain⟨⟨c0B,c1B,c2B,c3B,c4B,c5B,c6B,c7B,c8B,c9B,c10B,c11B,c12B,c13B⟩,esB,dsB,cyB,g0B,g1B,osB,⟨kn0B,la0B,su0B⟩,⟨kn1B,la1B,su1B⟩,a0B,b0B,a1B,b1B,loB,hiB,diB,onB,grB,⟨plB,phB,peB,frB,rsB⟩,clB,o0B,o1B,s0B,s1B,scB,soB,raB,roB,m0B,m1B,⟨wiB,wtB,wfB⟩⟩:=n2;obtain⟨⟨c0C,c1C,c2C,c3C,c4C,c5C,c6C,c7C,c8C,c9C,c10C,c11C,c12C,c13C⟩,esC,dsC,cyC,g0C,g1C,osC,⟨kn0C,la0C,su0C⟩,⟨kn1C,la1C,su1C⟩,a0C,b0C,a1C,b1C,loC,hiC,diC,onC,grC,⟨plC,phC,peC,frC,rsC⟩,clC,o0C,o1C,s0C,s1C,scC,soC,raC,roC,m0C,m1C,⟨wiC,wtC,wfC⟩⟩:=n4;obtain⟨⟨c0D,c1D,c2D,c3D,c4D,c5D,c6D,c7D,c8D,c9D,c10D,c11D,c12D,c13D⟩,esD,dsD,cyD,g0D,g1D,osD,⟨kn0D,la0D,su0D⟩,⟨kn1D,la1D,su1D⟩,a0D,b0D,a1D,b1D,loD,hiD,diD,onD,grD,⟨plD,phD,peD,frD,rsD⟩,clD,o0D,o1D,s0D,s1D,scD,soD,raD,roD,m0D,m1D,⟨wiD,wtD,wfD⟩⟩:=n5;simp only at *;subst en1;subst en3;subst h7;simp only[BO] at e9;obtain⟨nxo,enx⟩:=Z.e (!xo);rw[<- enx] at er0;subst er0;have f1:AF .add .i64 cy 1=cy1:=by rw[Ag Z.o Z.o];exact ecy
 clear hcy ecy;(refine AJ.ofP (F:=[6,19]) (sc:=?scc) (r:=?rr) Tryz.func20 (by kernel_rfl) rfl ?hr ?hc (by kernel_rfl) λw hw=>?H);(case hr=>((conv=>lhs;cbv);(try exact rfl)));(case hc=>((repeat' (first|refine' IQ ?_ ?_|refine' IR ?_|refine' IU ?_|refine' Cg (id:=6) QL rfl (by kernel_rfl) ?_|refine' Cg (id:=19) QM rfl (by kernel_rfl) ?_|fail));(try any_goals (conv=>lhs;cbv));(try any_goals exact rfl)));(obtain⟨zB,zE,yN,zD,zF,zX,yO,zP,zS,zR,yA,yB,zK,zU,zM,zN,zO,yG,zT,yH⟩:=w);(have zC:=Z.w1 hw);(have zA:=Z.w2 hw);(have yJ:=Z.w3 hw);(have zG:=Z.w4 hw);(have zI:=Z.w5 hw);(have yM:=Z.w6 hw);(have yS:=Z.w7 hw);(have zZ:=Z.w8 hw);(have yF:=Z.w9 hw);(have yE:=Z.w10 hw);(have yT:=Z.w11 hw);(have yU:=Z.w12 hw);(have zH:=Z.w13 hw);(have yR:=Z.w14 hw);(have zV:=Z.w15 hw);(have yI:=Z.w16 hw);(have yL:=Z.w17 hw);(have yX:=Z.w18 hw);(have yQ:=Z.w19 hw);(have yY:=Z.w20 hw);(have hz:=Z.z hw);(conv=>arg 4;cbv);(generalize hP:Tryz.prog=P);cbv;have f1:zB .add .i64 cy 1=cy1:=by rw[zC];exact f1
 have t1:zF true=false:=by rw[zI];rfl
 have t2:zF false=true:=by rw[zI];rfl
 have t3:zF xo=nxo:=by rw[zI,enx]
 simp only[f1];refine Call.s hP hM ?_;cbv;refine AnyQ.e _ (by cbv) _ (by cbv) (by cbv) ?_;cbv;refine CJ.mk [?v6_1,?v6_3,?v6_5,?v6_7,?v6_8,.any,?v6_10,.any,?v6_12,.any,?v6_14,.any] (λm=>[.live 55 [c0::c1::c2::c3::c4::c5::c6::c7::c8::c9::c10::c11::c12::c13 :: .list 3 es :: .list 5 ds :: .bool false::cy1::g0::g1 :: .list 1 os::kn0 :: .int .u16 la0::su0::[kn1,.int .u16 la1,su1,a0,b0,a1,b1,lo,hi,di,on,gr,pl,ph,pe,fr,.list 13 rs,cl,o0,o1,s0,s1,sc,so,ra,ro,m0,m1,wi,wt,wf]],.live 32 [(0:Int)::[(0:Int),(0:Int),(0:Int),(0:Int),(0:Int),(0:Int),(0:Int),(0:Int),(0:Int),.nils,(0:Int),.bool false,.bool false,(0:Int),(0:Int),.bool false,.bool false,.bool false,.bool false,.bool false,(0:Int),(0:Int),(0:Int),(0:Int),(0:Int),(0:Int),(0:Int),(0:Int),(0:Int),(0:Int),(0:Int)]],.live 32 [cy::[(4:Int),(0:Int),(0:Int),(0:Int),(0:Int),(0:Int),(0:Int),(0:Int),(0:Int),.nils,(0:Int),.bool false,.bool false,(0:Int),(0:Int),.bool false,.bool false,.bool false,.bool false,.bool false,(0:Int),(0:Int),(0:Int),(0:Int),(0:Int),(0:Int),(0:Int),(match m 9 with|true=>.int .i64 bad|false=>.int .i64 0),(match m 11 with|true=>.int .i64 stale|false=>.int .i64 0),(match m 13 with|true=>.int .i64 twice|false=>.int .i64 0),(match m 15 with|true=>.int .i64 beyond|false=>.int .i64 0)]],.live 16 [[.bool false,p1,p2,p3,p4,p5,(0:Int),x1,x2,x3,x4,x5,bad,stale,twice,beyond]]]) rfl ?hs6 ?hf6
 case hs6 =>
  cbv;repeat' (first|(refine λm=>?_;cbv)|(refine And.intro ?_ ?_)|exact rfl|exact trivial|fail)
 cbv;refine Call.o (s:=0) hP hS r1 r2 rfl rfl rfl rfl ?_;cbv;have hx0:Af 1 [AV.ref 0 55 0 0,.agg [.bool false,p1,p2,p3,p4,p5,(0:Int),x1,x2,x3,x4,x5,bad,stale,twice,beyond],.agg [onB,grB,plB,phB,peB,frB,.list 13 rsB],.agg [flo,fhi]]=true:=uc rfl (uc rfl (uc (ua (uc rfl (uc rfl (uc rfl (uc rfl (uc rfl (uc rfl (uc (ul1 hurB) rfl)))))))) (uc rfl rfl)));have hx1:(AV.agg [xg,.list 1 xa,xo,xc]).upto 0=true:=ua (uc rfl (uc (ul hxa) (uc rfl (uc rfl rfl))));have hx2:Af 1 [AV.ref 0 55 0 0,.agg [xg,.list 1 xa,xo,xc],.agg [flo,fhi]]=true:=uc rfl (uc (ua (uc rfl (uc (ul1 hxa) (uc rfl (uc rfl rfl))))) (uc rfl rfl));cases clB
 all_goals
  cbv;repeat' (first|(simp only[t1,t2];cbv)|fail)
  refine Call.o (s:=0) hP hMv r3 r4 rfl rfl rfl rfl ?_;cbv;repeat' (first|(simp only[t1,t2];cbv)|fail)
  refine Call.o (s:=0) hP hL r4 r4 hx1 rfl hx0 (by simp only[Ml.row,BH,AV.ren,E_ hurB]) ?_;cbv
  cases xc with
  | true =>
    cbv;refine Call.o (s:=0) hP (hA rfl) r4 r5 rfl rfl hx2 (by simp only[BH,AV.ren,E_ hxa]) ?_;cbv;repeat' (first|(simp only[t1,t2];cbv)|(refine Call.s hP k6 ?_;cbv)|(refine AB.s hP k6 ?_;cbv)|fail)
    cases w6f with
    | false =>
      subst e9;have u9n:=r9;cbv;repeat' (first|(simp only[t1,t2];cbv)|(refine Call.s hP k8 ?_;cbv)|(refine AB.s hP k8 ?_;cbv)|(refine Call.s hP k9 ?_;cbv)|(refine AB.s hP k9 ?_;cbv)|fail)
      refine AnyQ.e _ (by cbv) _ (by cbv) (by cbv) ?_;cbv;refine CJ.mk [.bool true,xo,nxo,.ref 2 32 0 16,.any,.ref 2 32 0 17,.any] (λm=>[.live 55 [c0D::c1D::c2D::c3D::c4D::c5D::c6D::c7D::c8D::c9D::c10D::c11D::c12D::c13D :: .list 3 esD :: .list 5 dsD :: .bool false::cyD::g0D::g1D :: .list 1 osD::kn0D :: .int .u16 la0D::su0D::[kn1D,.int .u16 la1D,su1D,a0D,b0D,a1D,b1D,loD,hiD,diD,onD,grD,plD,phD,peD,frD,.list 13 rsD,clD,o0D,o1D,s0D,s1D,sc8,so8,qa,qo,ql,qh,w6s,w6t,.bool false]],.live 32 [(0:Int)::[(0:Int),(0:Int),(0:Int),(0:Int),(0:Int),(0:Int),(0:Int),(0:Int),(0:Int),.nils,(0:Int),.bool false,.bool false,(0:Int),(0:Int),.bool false,.bool false,.bool false,.bool false,.bool false,(0:Int),(0:Int),(0:Int),(0:Int),(0:Int),(0:Int),(0:Int),(0:Int),(0:Int),(0:Int),(0:Int)]],.live 32 [cy::[(4:Int),(0:Int),(0:Int),(0:Int),(0:Int),(0:Int),(0:Int),(0:Int),(0:Int),.nils,(0:Int),.bool false,.bool false,(0:Int),(0:Int),(match m 6 with|true=>.bool true|false=>.bool false),(match m 8 with|true=>.bool nxo|false=>.bool false),.bool false,.bool false,.bool false,(0:Int),(0:Int),(0:Int),(0:Int),(0:Int),(0:Int),(0:Int),bad,stale,twice,beyond]],.live 16 [[.bool false,p1,p2,p3,p4,p5,(0:Int),x1,x2,x3,x4,x5,bad,stale,twice,beyond]],.live 7 [[flo,fhi,fn,fcl,fcf,fs0,fs1]],.live 7 [[onB,grB,plB,phB,peB,frB,.list 13 rsB]],.live 4 [[xg,.list 1 xa,xo,.bool true]]]) rfl ?_ ?_
      ·cbv
       repeat' (first|(simp only[t3];cbv)|(refine λm=>?_;cbv)|(refine And.intro ?_ ?_)|exact rfl|exact trivial|fail)
      cbv;refine Call.o2 (s:=0) (t:=2) hP hT u9n (Rp.upL _) r9 (Rp.up v) rfl rfl rfl Z.d rfl rfl ?_;cbv;repeat' (first|(simp only[t1,t2];cbv)|fail)
      first|exact⟨rfl,_,rfl⟩|exact⟨_,rfl⟩
    | true =>
      subst e9;have u9n:=u9.rowN_up;cbv;repeat' (first|(simp only[t1,t2];cbv)|(refine Call.s hP k8 ?_;cbv)|(refine AB.s hP k8 ?_;cbv)|(refine Call.s hP k9 ?_;cbv)|(refine AB.s hP k9 ?_;cbv)|fail)
      refine AnyQ.e _ (by cbv) _ (by cbv) (by cbv) ?_;cbv;refine CJ.mk [.bool true,xo,nxo,.ref 2 32 0 16,.any,.ref 2 32 0 17,.any] (λm=>[.live 55 [c0D::c1D::c2D::c3D::c4D::c5D::c6D::c7D::c8D::c9D::c10D::c11D::c12D::c13D :: .list 3 esD :: .list 5 dsD :: .bool false::cyD::g0D::g1D :: .list 1 osD::kn0D :: .int .u16 la0D::su0D::[kn1D,.int .u16 la1D,su1D,a0D,b0D,a1D,b1D,loD,hiD,diD,.bool false,(0:Int),(0:Int),(0:Int),(0:Int),(0:Int),.nils,clD,o0D,o1D,s0D,s1D,sc8,so8,qa,qo,ql,qh,w6s,w6t,.bool true]],.live 32 [(0:Int)::[(0:Int),(0:Int),(0:Int),(0:Int),(0:Int),(0:Int),(0:Int),(0:Int),(0:Int),.nils,(0:Int),.bool false,.bool false,(0:Int),(0:Int),.bool false,.bool false,.bool false,.bool false,.bool false,(0:Int),(0:Int),(0:Int),(0:Int),(0:Int),(0:Int),(0:Int),(0:Int),(0:Int),(0:Int),(0:Int)]],.live 32 [cy::[(4:Int),(0:Int),(0:Int),(0:Int),(0:Int),(0:Int),(0:Int),(0:Int),(0:Int),.nils,(0:Int),.bool false,.bool false,(0:Int),(0:Int),(match m 6 with|true=>.bool true|false=>.bool false),(match m 8 with|true=>.bool nxo|false=>.bool false),.bool false,.bool false,.bool false,(0:Int),(0:Int),(0:Int),(0:Int),(0:Int),(0:Int),(0:Int),bad,stale,twice,beyond]],.live 16 [[.bool false,p1,p2,p3,p4,p5,(0:Int),x1,x2,x3,x4,x5,bad,stale,twice,beyond]],.live 7 [[flo,fhi,fn,fcl,fcf,fs0,fs1]],.live 7 [[onB,grB,plB,phB,peB,frB,.list 13 rsB]],.live 4 [[xg,.list 1 xa,xo,.bool true]]]) rfl ?_ ?_
      ·cbv
       repeat' (first|(simp only[t3];cbv)|(refine λm=>?_;cbv)|(refine And.intro ?_ ?_)|exact rfl|exact trivial|fail)
      cbv;refine Call.o2 (s:=0) (t:=2) hP hT u9n (Rp.upL _) r9 (Rp.up v) rfl rfl rfl Z.d rfl rfl ?_;cbv;repeat' (first|(simp only[t1,t2];cbv)|fail)
      first|exact⟨rfl,_,rfl⟩|exact⟨_,rfl⟩
  | false =>
    cases hA0 rfl
    cbv;repeat' (first|(simp only[t1,t2];cbv)|(refine Call.s hP k6 ?_;cbv)|(refine AB.s hP k6 ?_;cbv)|fail)
    cases w6f with
    | false =>
      subst e9;have u9n:=r9;cbv;repeat' (first|(simp only[t1,t2];cbv)|(refine Call.s hP k8 ?_;cbv)|(refine AB.s hP k8 ?_;cbv)|(refine Call.s hP k9 ?_;cbv)|(refine AB.s hP k9 ?_;cbv)|fail)
      refine AnyQ.e _ (by cbv) _ (by cbv) (by cbv) ?_;cbv;refine CJ.mk [.bool false,xo,nxo,.ref 2 32 0 16,.any,.ref 2 32 0 17,.any] (λm=>[.live 55 [c0C::c1C::c2C::c3C::c4C::c5C::c6C::c7C::c8C::c9C::c10C::c11C::c12C::c13C :: .list 3 esC :: .list 5 dsC :: .bool false::cyC::g0C::g1C :: .list 1 osC::kn0C :: .int .u16 la0C::su0C::[kn1C,.int .u16 la1C,su1C,a0C,b0C,a1C,b1C,loC,hiC,diC,onC,grC,plC,phC,peC,frC,.list 13 rsC,clC,o0C,o1C,s0C,s1C,sc8,so8,qa,qo,ql,qh,w6s,w6t,.bool false]],.live 32 [(0:Int)::[(0:Int),(0:Int),(0:Int),(0:Int),(0:Int),(0:Int),(0:Int),(0:Int),(0:Int),.nils,(0:Int),.bool false,.bool false,(0:Int),(0:Int),.bool false,.bool false,.bool false,.bool false,.bool false,(0:Int),(0:Int),(0:Int),(0:Int),(0:Int),(0:Int),(0:Int),(0:Int),(0:Int),(0:Int),(0:Int)]],.live 32 [cy::[(4:Int),(0:Int),(0:Int),(0:Int),(0:Int),(0:Int),(0:Int),(0:Int),(0:Int),.nils,(0:Int),.bool false,.bool false,(0:Int),(0:Int),(match m 6 with|true=>.bool false|false=>.bool false),(match m 8 with|true=>.bool nxo|false=>.bool false),.bool false,.bool false,.bool false,(0:Int),(0:Int),(0:Int),(0:Int),(0:Int),(0:Int),(0:Int),bad,stale,twice,beyond]],.live 16 [[.bool false,p1,p2,p3,p4,p5,(0:Int),x1,x2,x3,x4,x5,bad,stale,twice,beyond]],.live 7 [[flo,fhi,fn,fcl,fcf,fs0,fs1]],.live 7 [[onB,grB,plB,phB,peB,frB,.list 13 rsB]],.live 4 [[xg,.list 1 xa,xo,.bool false]]]) rfl ?_ ?_
      ·cbv
       repeat' (first|(simp only[t3];cbv)|(refine λm=>?_;cbv)|(refine And.intro ?_ ?_)|exact rfl|exact trivial|fail)
      cbv;refine Call.o2 (s:=0) (t:=2) hP hT u9n (Rp.upL _) r9 (Rp.up v) rfl rfl rfl Z.d rfl rfl ?_;cbv;repeat' (first|(simp only[t1,t2];cbv)|fail)
      first|exact⟨rfl,_,rfl⟩|exact⟨_,rfl⟩
    | true =>
      subst e9;have u9n:=u9.rowN_up;cbv;repeat' (first|(simp only[t1,t2];cbv)|(refine Call.s hP k8 ?_;cbv)|(refine AB.s hP k8 ?_;cbv)|(refine Call.s hP k9 ?_;cbv)|(refine AB.s hP k9 ?_;cbv)|fail)
      refine AnyQ.e _ (by cbv) _ (by cbv) (by cbv) ?_;cbv;refine CJ.mk [.bool false,xo,nxo,.ref 2 32 0 16,.any,.ref 2 32 0 17,.any] (λm=>[.live 55 [c0C::c1C::c2C::c3C::c4C::c5C::c6C::c7C::c8C::c9C::c10C::c11C::c12C::c13C :: .list 3 esC :: .list 5 dsC :: .bool false::cyC::g0C::g1C :: .list 1 osC::kn0C :: .int .u16 la0C::su0C::[kn1C,.int .u16 la1C,su1C,a0C,b0C,a1C,b1C,loC,hiC,diC,.bool false,(0:Int),(0:Int),(0:Int),(0:Int),(0:Int),.nils,clC,o0C,o1C,s0C,s1C,sc8,so8,qa,qo,ql,qh,w6s,w6t,.bool true]],.live 32 [(0:Int)::[(0:Int),(0:Int),(0:Int),(0:Int),(0:Int),(0:Int),(0:Int),(0:Int),(0:Int),.nils,(0:Int),.bool false,.bool false,(0:Int),(0:Int),.bool false,.bool false,.bool false,.bool false,.bool false,(0:Int),(0:Int),(0:Int),(0:Int),(0:Int),(0:Int),(0:Int),(0:Int),(0:Int),(0:Int),(0:Int)]],.live 32 [cy::[(4:Int),(0:Int),(0:Int),(0:Int),(0:Int),(0:Int),(0:Int),(0:Int),(0:Int),.nils,(0:Int),.bool false,.bool false,(0:Int),(0:Int),(match m 6 with|true=>.bool false|false=>.bool false),(match m 8 with|true=>.bool nxo|false=>.bool false),.bool false,.bool false,.bool false,(0:Int),(0:Int),(0:Int),(0:Int),(0:Int),(0:Int),(0:Int),bad,stale,twice,beyond]],.live 16 [[.bool false,p1,p2,p3,p4,p5,(0:Int),x1,x2,x3,x4,x5,bad,stale,twice,beyond]],.live 7 [[flo,fhi,fn,fcl,fcf,fs0,fs1]],.live 7 [[onB,grB,plB,phB,peB,frB,.list 13 rsB]],.live 4 [[xg,.list 1 xa,xo,.bool false]]]) rfl ?_ ?_
      ·cbv
       repeat' (first|(simp only[t3];cbv)|(refine λm=>?_;cbv)|(refine And.intro ?_ ?_)|exact rfl|exact trivial|fail)
      cbv;refine Call.o2 (s:=0) (t:=2) hP hT u9n (Rp.upL _) r9 (Rp.up v) rfl rfl rfl Z.d rfl rfl ?_;cbv;repeat' (first|(simp only[t1,t2];cbv)|fail)
      first|exact⟨rfl,_,rfl⟩|exact⟨_,rfl⟩
end Go.Proofs.YtlchlddijclhjaaGreat
