/- Parts of the proofs. -/
import Derived.Test.YtlchlddijclhjaaGreatQ21
import Derived.Test.YtlchlddijclhjaaGreatQ22
import Derived.Test.YtlchlddijclhjaaGreatQ13
import Derived.Test.YtlchlddijclhjaaGreatQ14
import Derived.KernelRfl
import Derived.Test.YtlchlddijclhjaaGreatQ10
import Derived.Test.YtlchlddijclhjaaGreatQZ
set_option linter.unusedVariables false
set_option linter.unusedSimpArgs false
set_option maxHeartbeats 4000000
namespace Go.Proofs.YtlchlddijclhjaaGreat
open Go Go.RowKit Go.Eng
theorem Xd(fa on:Bool)(fit:Int)(cf:Bool):EB fa on fit cf=4↔fa=true:=by
 unfold EB;cases fa
 ·simp only[Bool.false_eq_true,if_false,iff_false]
  split
  ·decide
  ·split<;>decide
 ·simp
theorem LX(n:Nv)(mm:List (List Int)):(BO n mm).1.w=n.w:=by unfold BO;split<;>rfl
theorem NV(n:Nv)(mm:List (List Int))(h:(BO n mm).1.on=true):n.on=true/\n.w.fa=false:=by
 unfold BO at h;split at h
 ·simp at h
 ·exact⟨h,by assumption⟩
theorem Qn(ss:List Sg)(gs:List Gr)(mm:List (List Int))(r:Rp)(n:Nv)(f:Fu):(BZ ss gs mm r n f).md=EB n.w.fa n.on f.n f.cf/\(BZ ss gs mm r n f).ac=r.ac/\(n.on=false->(BZ ss gs mm r n f).gr=r.gr)/\(n.on=true->(BZ ss gs mm r n f).gr=match gs[n.gr.toNat]? with|some G=>G.id|none=>0):=by
 unfold BZ;cases n.on
 ·exact⟨rfl,rfl,λ_=>rfl,(λh=>by cases h)⟩
 ·exact⟨rfl,rfl,(λh=>by cases h),λ_=>rfl⟩
theorem Nt(ss:List Sg)(mm:List (List Int))(n:Nv)(a b:Int):(Bi ss mm n a b).1.w=n.w/\(n.on=false->(Bi ss mm n a b).1.on=false):=by
 unfold Bi;split
 ·split
  ·exact⟨rfl,λh=>by simp_all⟩
  ·exact⟨rfl,λh=>rfl⟩
 ·exact⟨rfl,λh=>h⟩
theorem Xe(ss:List Sg)(gs:List Gr)(n:Nv)(m:Ml)(com:Bool)(f:Fu)(ov:Bool)(x:Fo)(u:Nv×List (List Int)):∃(n9:Nv) (t:List (List Int)) (r0:Rp),stepE ss gs n m com f ov x u=⟨n9,t,BZ ss gs t r0 n9 f⟩/\r0.ac=x.ac/\r0.gr=0/\n9.w=wtV n.c.c12 u.1.w f.n f.cf ov x.ac/\(n9.on=true->u.1.on=true):=
 ⟨_,_,_,rfl,rfl,rfl,LX _ _,λh=>(NV _ _ h).1⟩
theorem Xf{ss:List Sg}{gs:List Gr}{n:Nv}{m:Ml}{com:Bool}{f:Fu}{ov:Bool}{x:Fo}{u:Nv×List (List Int)}{s:Ex}(e:s=stepE ss gs n m com f ov x u) :
 (s.r.md=4↔s.n.w.fa=true)/\s.r.ac=x.ac/\(s.n.on=false->s.r.gr=0)/\(s.n.on=true->s.r.gr=match gs[s.n.gr.toNat]? with|some G=>G.id|none=>0)/\(x.ac=false->u.1.w.fa=true->s.n.w.fa=true)/\(s.n.on=true->u.1.on=true):=by
 obtain⟨n9,t,r0,h1,h2,h3,h4,h5⟩:=Xe ss gs n m com f ov x u;rw[h1] at e;subst e;obtain⟨k1,k2,k3,k4⟩:=Qn ss gs t r0 n9 f;refine⟨by simp only;rw[k1];exact Xd _ _ _ _,k2.trans h2,λh=>(k3 h).trans h3,k4,λa b=>?_,h5⟩;simp only;rw[h4];unfold wtV;rw[a,b];simp
theorem NW{ss:List Sg}{gs:List Gr}{n:Nv}{mm:List (List Int)}{l:List (List Int)}{com:Bool}{s:Ex}(e:s=Bp ss gs n mm l com) :
 (s.r.md=4↔s.n.w.fa=true)/\(s.n.on=false->s.r.gr=0)/\(s.n.on=true->s.r.gr=match gs[s.n.gr.toNat]? with|some G=>G.id|none=>0)/\(s.r.ac=false->n.w.fa=true->s.n.w.fa=true)/\(s.r.ac=false->s.n.on=true->n.on=true):=by
 unfold Bp IM IP at e;simp only at e;obtain⟨h1,h2,h3,h4,h5,h6⟩:=Xf e;refine⟨h1,h3,h4,λha hf=>h5 (h2.symm.trans ha) ?_,λha ho=>?_⟩
 ·have hx:=h2.symm.trans ha
  unfold Dz;rw[hx];simp only[(Nt _ _ _ _ _).1,IK];exact hf
 ·have h7:=h6 ho
  have hx:=h2.symm.trans ha;unfold Dz at h7;rw[hx] at h7;simp only at h7
  cases hn:n.on with
  | true=>rfl
  | false =>
    rw[(Nt _ _ _ _ _).2 (by simp only[IK];exact hn)] at h7;exact h7
def JU:Bool->Bool->List Rp->Prop
 | _,_,[]=>True
 | fl,kn,r::l=>(r.ac=false->(fl=true->r.md=4)/\(kn=false->r.gr=0))/\JU (decide (r.md=4)) (decide (r.gr≠0)) l
def Xg(fl kn:Bool):Un->Prop
 | .br _=>True
 | .ok _ _ n _=>(fl=true->n.w.fa=true)/\(kn=false->n.on=false)
def H9(l:List (List (List Int)×Bool)):Prop:=∀c,c∈l->c.1.length<=1000000/\∀b,b∈c.1->Ar b/\b.length<=1000000
theorem UI.next{k:Int}{u:Un}(h:UI k u)(hk:k<1000000){c:List (List Int)×Bool}(hc:c.1.length<=1000000/\∀b,b∈c.1->Ar b/\b.length<=1000000):UI (k+1) (Dm u c.1 c.2).1:=(QN h hk c.1 hc.2 hc.1 c.2 _ rfl).2
theorem Qy:∀(l:List (List (List Int)×Bool)) (u:Un) (k:Int) (fl kn:Bool),UI k u->k+l.length<=1000000->H9 l->Xg fl kn u->JU fl kn (BP u l)
 | [],u,k,fl,kn,h,hk,hc,hf=>trivial
 | c::l,u,k,fl,kn,h,hk,hc,hf=>by
   simp only[List.length_cons] at hk;have hn:=h.next Z.o (hc c List.mem_cons_self)
   have ih:=λfl kn hf2=>Qy l (Dm u c.1 c.2).1 (k+1) fl kn hn Z.o (λx hx=>hc x (List.mem_cons_of_mem _ hx)) hf2;simp only[BP]
   cases u with
   | br cy=>exact⟨λ_=>⟨λ_=>rfl,λ_=>rfl⟩,ih _ _ trivial⟩
   | ok ss gs n mm =>
     obtain⟨s,es⟩:=Z.e (Bp ss gs n mm c.1 c.2);have hst:Dm (.ok ss gs n mm) c.1 c.2=(.ok ss gs s.n s.mm,s.r):=(by rw[es];rfl);rw[hst] at hn ih ⊢;obtain⟨h1,h2,h3,h4,h5⟩:=NW es;have hU:BL ss gs s.n s.mm (k+1):=hn;refine⟨λha=>⟨λa=>h1.2 (h4 ha (hf.1 a)),λa=>h2 ?_⟩,ih _ _ ⟨λa=>h1.1 (of_decide_eq_true a),λa=>?_⟩⟩
     ·cases ho:s.n.on with
      | false=>rfl
      | true=>exact absurd (h5 ha ho) (by rw[hf.2 a];decide)
     ·have a:=of_decide_eq_false a
      cases ho:s.n.on with
      | false=>rfl
      | true =>
        exfalso;refine a ?_;show s.r.gr≠0;rw[h3 ho];obtain⟨_,G,hG⟩:=(hU.on ho).gr;rw[hG];have:=hU.tr.grp _ (List.getElem?_eq_some_iff.1 hG).1 G hG;simp only;omega
set_option maxRecDepth 100000
def szF(k:Int):Int:=if k=1\/k=2\/k=5 then 2 else if k=3\/k=4 then 4 else 0
theorem Nu(k:Int):A9 Tryz.prog 128 [k] (· = .int .i64 (szF k)):=by
 obtain⟨n,en⟩:=Z.e (szF k);rw[<- en];by_cases h1:k<1
 ·obtain rfl:n=0:=by rw[en];unfold szF;rw[if_neg Z.o,if_neg Z.o]
  refine Z.y Tryz.func128 λ_ _ _ _ _ _ _ _ zA _ _ _ _ hz R hR P hP=>?_;cbv;have d1:=W.lt zA h1;repeat' (first|(simp only[d1];cbv)|fail)
  exact Z.r hR
 ·by_cases h2:5<k
  ·obtain rfl:n=0:=by rw[en];unfold szF;rw[if_neg Z.o,if_neg Z.o]
   refine Z.y Tryz.func128 λ_ _ _ _ _ _ _ _ zA _ _ _ _ hz R hR P hP=>?_;cbv;have d1:=W.nlt zA (show 1<=k by omega);have d2:=W.gt zA h2;repeat' (first|(simp only[d1,d2];cbv)|fail)
   exact Z.r hR
  ·have h3:k=1\/k=2\/k=3\/k=4\/k=5:=by omega
   rcases h3 with rfl|rfl|rfl|rfl|rfl
   all_goals
    subst en;refine Z.y Tryz.func128 λ_ _ _ _ _ _ _ _ zA _ _ _ _ hz R hR P hP=>?_;cbv;simp only[hz,Z.a,AF,AC,AO,AP,AL,reduceCtorEq];cbv;repeat' (first|(simp only[zA];cbv)|(refine InN.mk Z.d Z.d ?_;(try cbv))|(refine And.intro ?_ ?_)|fail)
    exact Z.r hR
def frX(v:Int):Int:=if v<0 then v+4294967296 else v
def frH(k s v:Int):List Int:=[k,s,szF k]++((if szF k=4 then [frX v/16777216,frX v/65536%256] else [])++[frX v/256%256,frX v%256])
def frB(k s v:Int):List Int:=frH k s v++[bi (crF 65535#16 (frH k s v))/256,bi (crF 65535#16 (frH k s v))%256]
theorem Xh(k s v:Int)(hn:szF k=2)(hk:0<=k/\k<=5)(hs:0<=s/\s<=255)(hv:0<=v/\v<=65535)(us:List (List AV))(hus:us=(frB k s v).map AZ):A9 Tryz.prog 72 [.agg [k,s,v]] (· = .tuple [.list 1 us,(0:Int)]):=by
 have q0:=Nu k;rw[hn] at q0;obtain⟨x,ex⟩:=Z.e (frX v);obtain rfl:x=v:=by rw[ex];exact if_neg Z.o
 have hxb:0<=x/\x<=4294967295:=by omega
 obtain⟨d1,ed1⟩:=Z.e (x/256);obtain⟨b1,eb1⟩:=Z.e (d1%256);obtain⟨b0,eb0⟩:=Z.e (x%256);have hH:frH k s x=[k,s,2,b1,b0]:=by unfold frH;rw[hn,<- ex,eb1,ed1,eb0];rfl
 obtain⟨c,ec⟩:=Z.e (bi (crF 65535#16 [k,s,2,b1,b0]));have hcb:0<=c/\c<=65535:=by rw[ec];have:=Hd (crF 65535#16 [k,s,2,b1,b0]);omega
 have hok:Ar [k,s,2,b1,b0]:=B_ Z.o (B_ Z.o (B_ Z.o (B_ Z.o (B_ Z.o (λx hx=>by cases hx)))));have q1:=Ll [k,s,2,b1,b0] hok (by simp) c _ rfl ec;obtain⟨c1,ec1⟩:=Z.e (c/256);obtain⟨c0,ec0⟩:=Z.e (c%256);have hB:frB k s x=[k,s,2,b1,b0,c1,c0]:=by unfold frB;rw[hH,<- ec,<- ec1,<- ec0];rfl
 rw[hB] at hus;have huu:Up0 us:=by rw[hus];exact Ao _
 have yP:Up0 ([k,s,2,b1,b0].map AZ):=Ao _;simp only[List.map_cons,List.map_nil,AZ] at hus q1 yP;clear hB hH hok ec ex;(refine A9.ofD Tryz.func72 (by kernel_rfl) (by kernel_rfl) (Z.v λzB zE _ zD _ _ _ zC zA _ zG _ _ hz R hR=>?_));(conv=>arg 2;cbv);(generalize hP:Tryz.prog=P);cbv;have t1:zE .eql 2 0=false:=W.neq zA Z.d;have t2:zE .eql 2 4=false:=W.neq zA Z.d;have t3:zE .lss s 0=false:=W.nlt zA Z.o;have t4:zE .gtr s 255=false:=W.ngt zA Z.o;have t6:zE .gtr x 65535=false:=W.ngt zA Z.o;have t7:zE .lss x 0=false:=W.nlt zA Z.o;have u1:zD .u8 k=k:=by rw[zG];exact wrap_u8 Z.o Z.o
 have u2:zD .u8 s=s:=by rw[zG];exact wrap_u8 Z.o Z.o
 have u3:zD .u8 2=2:=by rw[zG];exact wrap_u8 Z.o Z.o
 have u4:zD .u8 b1=b1:=by rw[zG];exact wrap_u8 Z.o Z.o
 have u5:zD .u8 b0=b0:=by rw[zG];exact wrap_u8 Z.o Z.o
 have u6:zD .u8 c1=c1:=by rw[zG];exact wrap_u8 Z.o Z.o
 have u7:zD .u8 c0=c0:=by rw[zG];exact wrap_u8 Z.o Z.o
 have r1:zB .quo .i64 x 256=d1:=by rw[zC,DX hxb.1 Z.d Z.o,ed1]
 have r2:zB .rem .i64 d1 256=b1:=by rw[zC,eb1];exact D8 Z.o
 have r3:zB .rem .i64 x 256=b0:=by rw[zC,eb0];exact D8 Z.o
 have r8:zB .quo .i64 c 256=c1:=by rw[zC,DX hcb.1 Z.d Z.o,ec1]
 have r9:zB .rem .i64 c 256=c0:=by rw[zC,ec0];exact D8 hcb.1
 repeat' (first|(simp only[t1,t2,t3,t4,t6,t7,u1,u2,u3,u4,u5,u6,u7,r1,r2,r3,r8,r9];cbv)|(refine Call.s hP q0 ?_;cbv)|(refine AB.s hP q0 ?_;cbv)|(refine Nz.mk Z.d ?_;cbv)|(refine Cq.mk [[.int .u8 k],[.int .u8 s],[.int .u8 2],[.int .u8 b1],[.int .u8 b0]] 5 rfl rfl rfl rfl Z.d Z.d ?_;cbv)|fail)
 refine Call.view (args':=[.list 1 [[.int .u8 k],[.int .u8 s],[.int .u8 2],[.int .u8 b1],[.int .u8 b0]]]) (by rw[<- hP];exact q1) ⟨He rfl yP.get rfl,trivial⟩ ?_;rintro r rfl;refine⟨rfl,?_⟩;cbv;repeat' (first|(simp only[u6,u7,r8,r9];cbv)|(refine Nz.mk Z.d ?_;cbv)|(refine Cq.mk us 7 hus rfl rfl rfl Z.d Z.d ?_;cbv)|fail)
 exact⟨_,Vw.tuple (rs:=[_,_]) ⟨He (es:=us) rfl huu.get (by rw[hus];rfl),Vw.same rfl,trivial⟩,hR _ rfl⟩
theorem Xi(k s v:Int)(hn:szF k=4)(hk:0<=k/\k<=5)(hs:0<=s/\s<=255)(hv:0<=v/\v<=2147483647)(us:List (List AV))(hus:us=(frB k s v).map AZ):A9 Tryz.prog 72 [.agg [k,s,v]] (· = .tuple [.list 1 us,(0:Int)]):=by
 have q0:=Nu k;rw[hn] at q0;obtain⟨x,ex⟩:=Z.e (frX v);obtain rfl:x=v:=by rw[ex];exact if_neg Z.o
 have hxb:0<=x/\x<=4294967295:=by omega
 obtain⟨b3,eb3⟩:=Z.e (x/16777216);obtain⟨d2,ed2⟩:=Z.e (x/65536);obtain⟨b2,eb2⟩:=Z.e (d2%256);obtain⟨d1,ed1⟩:=Z.e (x/256);obtain⟨b1,eb1⟩:=Z.e (d1%256);obtain⟨b0,eb0⟩:=Z.e (x%256);have hH:frH k s x=[k,s,4,b3,b2,b1,b0]:=by unfold frH;rw[hn,<- ex,eb1,ed1,eb0,eb3,eb2,ed2];rfl
 obtain⟨c,ec⟩:=Z.e (bi (crF 65535#16 [k,s,4,b3,b2,b1,b0]));have hcb:0<=c/\c<=65535:=by rw[ec];have:=Hd (crF 65535#16 [k,s,4,b3,b2,b1,b0]);omega
 have hok:Ar [k,s,4,b3,b2,b1,b0]:=B_ Z.o (B_ Z.o (B_ Z.o (B_ Z.o (B_ Z.o (B_ Z.o (B_ Z.o (λx hx=>by cases hx)))))));have q1:=Ll [k,s,4,b3,b2,b1,b0] hok (by simp) c _ rfl ec;obtain⟨c1,ec1⟩:=Z.e (c/256);obtain⟨c0,ec0⟩:=Z.e (c%256);have hB:frB k s x=[k,s,4,b3,b2,b1,b0,c1,c0]:=by unfold frB;rw[hH,<- ec,<- ec1,<- ec0];rfl
 rw[hB] at hus;have huu:Up0 us:=by rw[hus];exact Ao _
 have yP:Up0 ([k,s,4,b3,b2,b1,b0].map AZ):=Ao _;simp only[List.map_cons,List.map_nil,AZ] at hus q1 yP;clear hB hH hok ec ex;(refine A9.ofD Tryz.func72 (by kernel_rfl) (by kernel_rfl) (Z.v λzB zE _ zD _ _ _ zC zA _ zG _ _ hz R hR=>?_));(conv=>arg 2;cbv);(generalize hP:Tryz.prog=P);cbv;have t1:zE .eql 4 0=false:=W.neq zA Z.d;have t2:zE .eql 4 4=true:=W.eq zA rfl;have t3:zE .lss s 0=false:=W.nlt zA Z.o;have t4:zE .gtr s 255=false:=W.ngt zA Z.o;have t5:zE .lss x (-2147483648)=false:=W.nlt zA Z.o;have t6:zE .gtr x 2147483647=false:=W.ngt zA Z.o;have t7:zE .lss x 0=false:=W.nlt zA Z.o;have u1:zD .u8 k=k:=by rw[zG];exact wrap_u8 Z.o Z.o
 have u2:zD .u8 s=s:=by rw[zG];exact wrap_u8 Z.o Z.o
 have u3:zD .u8 4=4:=by rw[zG];exact wrap_u8 Z.o Z.o
 have u4:zD .u8 b3=b3:=by rw[zG];exact wrap_u8 Z.o Z.o
 have u5:zD .u8 b2=b2:=by rw[zG];exact wrap_u8 Z.o Z.o
 have u6:zD .u8 b1=b1:=by rw[zG];exact wrap_u8 Z.o Z.o
 have u7:zD .u8 b0=b0:=by rw[zG];exact wrap_u8 Z.o Z.o
 have u8:zD .u8 c1=c1:=by rw[zG];exact wrap_u8 Z.o Z.o
 have u9:zD .u8 c0=c0:=by rw[zG];exact wrap_u8 Z.o Z.o
 have r1:zB .quo .i64 x 16777216=b3:=by rw[zC,DX hxb.1 Z.d Z.o,eb3]
 have r2:zB .quo .i64 x 65536=d2:=by rw[zC,DX hxb.1 Z.d Z.o,ed2]
 have r3:zB .rem .i64 d2 256=b2:=by rw[zC,eb2];exact D8 Z.o
 have r4:zB .quo .i64 x 256=d1:=by rw[zC,DX hxb.1 Z.d Z.o,ed1]
 have r5:zB .rem .i64 d1 256=b1:=by rw[zC,eb1];exact D8 Z.o
 have r6:zB .rem .i64 x 256=b0:=by rw[zC,eb0];exact D8 Z.o
 have r8:zB .quo .i64 c 256=c1:=by rw[zC,DX hcb.1 Z.d Z.o,ec1]
 have r9:zB .rem .i64 c 256=c0:=by rw[zC,ec0];exact D8 hcb.1
 repeat' (first|(simp only[t1,t2,t3,t4,t6,t7,t5,u1,u2,u3,u4,u5,u6,u7,u8,u9,r1,r2,r3,r4,r5,r6,r8,r9];cbv)|(refine Call.s hP q0 ?_;cbv)|(refine AB.s hP q0 ?_;cbv)|(refine Nz.mk Z.d ?_;cbv)|(refine Cq.mk [[.int .u8 k],[.int .u8 s],[.int .u8 4],[.int .u8 b3],[.int .u8 b2]] 5 rfl rfl rfl rfl Z.d Z.d ?_;cbv)|(refine Cq.mk [[.int .u8 k],[.int .u8 s],[.int .u8 4],[.int .u8 b3],[.int .u8 b2],[.int .u8 b1],[.int .u8 b0]] 7 rfl rfl rfl rfl Z.d Z.d ?_;cbv)|fail)
 refine Call.view (args':=[.list 1 [[.int .u8 k],[.int .u8 s],[.int .u8 4],[.int .u8 b3],[.int .u8 b2],[.int .u8 b1],[.int .u8 b0]]]) (by rw[<- hP];exact q1) ⟨He rfl yP.get rfl,trivial⟩ ?_;rintro r rfl;refine⟨rfl,?_⟩;cbv;repeat' (first|(simp only[u8,u9,r8,r9];cbv)|(refine Nz.mk Z.d ?_;cbv)|(refine Cq.mk us 9 hus rfl rfl rfl Z.d Z.d ?_;cbv)|fail)
 exact⟨_,Vw.tuple (rs:=[_,_]) ⟨He (es:=us) rfl huu.get (by rw[hus];rfl),Vw.same rfl,trivial⟩,hR _ rfl⟩
theorem Xj(k s v:Int)(hn:szF k=4)(hk:0<=k/\k<=5)(hs:0<=s/\s<=255)(hv: -2147483648<=v/\v<0)(us:List (List AV))(hus:us=(frB k s v).map AZ):A9 Tryz.prog 72 [.agg [k,s,v]] (· = .tuple [.list 1 us,(0:Int)]):=by
 have q0:=Nu k;rw[hn] at q0;obtain⟨x,ex⟩:=Z.e (frX v);have hx:x=v+4294967296:=by rw[ex];exact if_pos Z.o
 have hxb:0<=x/\x<=4294967295:=by omega
 obtain⟨b3,eb3⟩:=Z.e (x/16777216);obtain⟨d2,ed2⟩:=Z.e (x/65536);obtain⟨b2,eb2⟩:=Z.e (d2%256);obtain⟨d1,ed1⟩:=Z.e (x/256);obtain⟨b1,eb1⟩:=Z.e (d1%256);obtain⟨b0,eb0⟩:=Z.e (x%256);have hH:frH k s v=[k,s,4,b3,b2,b1,b0]:=by unfold frH;rw[hn,<- ex,eb1,ed1,eb0,eb3,eb2,ed2];rfl
 obtain⟨c,ec⟩:=Z.e (bi (crF 65535#16 [k,s,4,b3,b2,b1,b0]));have hcb:0<=c/\c<=65535:=by rw[ec];have:=Hd (crF 65535#16 [k,s,4,b3,b2,b1,b0]);omega
 have hok:Ar [k,s,4,b3,b2,b1,b0]:=B_ Z.o (B_ Z.o (B_ Z.o (B_ Z.o (B_ Z.o (B_ Z.o (B_ Z.o (λx hx=>by cases hx)))))));have q1:=Ll [k,s,4,b3,b2,b1,b0] hok (by simp) c _ rfl ec;obtain⟨c1,ec1⟩:=Z.e (c/256);obtain⟨c0,ec0⟩:=Z.e (c%256);have hB:frB k s v=[k,s,4,b3,b2,b1,b0,c1,c0]:=by unfold frB;rw[hH,<- ec,<- ec1,<- ec0];rfl
 rw[hB] at hus;have huu:Up0 us:=by rw[hus];exact Ao _
 have yP:Up0 ([k,s,4,b3,b2,b1,b0].map AZ):=Ao _;simp only[List.map_cons,List.map_nil,AZ] at hus q1 yP;clear hB hH hok ec ex;(refine A9.ofD Tryz.func72 (by kernel_rfl) (by kernel_rfl) (Z.v λzB zE _ zD _ _ _ zC zA _ zG _ _ _ R hR=>?_));(conv=>arg 2;cbv);(generalize hP:Tryz.prog=P);cbv;have t1:zE .eql 4 0=false:=W.neq zA Z.d;have t2:zE .eql 4 4=true:=W.eq zA rfl;have t3:zE .lss s 0=false:=W.nlt zA Z.o;have t4:zE .gtr s 255=false:=W.ngt zA Z.o;have t5:zE .lss v (-2147483648)=false:=W.nlt zA Z.o;have t6:zE .gtr v 2147483647=false:=W.ngt zA Z.o;have t7:zE .lss v 0=true:=W.lt zA Z.o;have t8:zB .add .i64 v 4294967296=x:=by rw[zC,Ag Z.o Z.o,hx]
 have u1:zD .u8 k=k:=by rw[zG];exact wrap_u8 Z.o Z.o
 have u2:zD .u8 s=s:=by rw[zG];exact wrap_u8 Z.o Z.o
 have u3:zD .u8 4=4:=by rw[zG];exact wrap_u8 Z.o Z.o
 have u4:zD .u8 b3=b3:=by rw[zG];exact wrap_u8 Z.o Z.o
 have u5:zD .u8 b2=b2:=by rw[zG];exact wrap_u8 Z.o Z.o
 have u6:zD .u8 b1=b1:=by rw[zG];exact wrap_u8 Z.o Z.o
 have u7:zD .u8 b0=b0:=by rw[zG];exact wrap_u8 Z.o Z.o
 have u8:zD .u8 c1=c1:=by rw[zG];exact wrap_u8 Z.o Z.o
 have u9:zD .u8 c0=c0:=by rw[zG];exact wrap_u8 Z.o Z.o
 have r1:zB .quo .i64 x 16777216=b3:=by rw[zC,DX hxb.1 Z.d Z.o,eb3]
 have r2:zB .quo .i64 x 65536=d2:=by rw[zC,DX hxb.1 Z.d Z.o,ed2]
 have r3:zB .rem .i64 d2 256=b2:=by rw[zC,eb2];exact D8 Z.o
 have r4:zB .quo .i64 x 256=d1:=by rw[zC,DX hxb.1 Z.d Z.o,ed1]
 have r5:zB .rem .i64 d1 256=b1:=by rw[zC,eb1];exact D8 Z.o
 have r6:zB .rem .i64 x 256=b0:=by rw[zC,eb0];exact D8 Z.o
 have r8:zB .quo .i64 c 256=c1:=by rw[zC,DX hcb.1 Z.d Z.o,ec1]
 have r9:zB .rem .i64 c 256=c0:=by rw[zC,ec0];exact D8 hcb.1
 repeat' (first|(simp only[t1,t2,t3,t4,t6,t7,t5,t8,u1,u2,u3,u4,u5,u6,u7,u8,u9,r1,r2,r3,r4,r5,r6,r8,r9];cbv)|(refine Call.s hP q0 ?_;cbv)|(refine AB.s hP q0 ?_;cbv)|(refine Nz.mk Z.d ?_;cbv)|(refine Cq.mk [[.int .u8 k],[.int .u8 s],[.int .u8 4],[.int .u8 b3],[.int .u8 b2]] 5 rfl rfl rfl rfl Z.d Z.d ?_;cbv)|(refine Cq.mk [[.int .u8 k],[.int .u8 s],[.int .u8 4],[.int .u8 b3],[.int .u8 b2],[.int .u8 b1],[.int .u8 b0]] 7 rfl rfl rfl rfl Z.d Z.d ?_;cbv)|fail)
 refine Call.view (args':=[.list 1 [[.int .u8 k],[.int .u8 s],[.int .u8 4],[.int .u8 b3],[.int .u8 b2],[.int .u8 b1],[.int .u8 b0]]]) (by rw[<- hP];exact q1) ⟨He rfl yP.get rfl,trivial⟩ ?_;rintro r rfl;refine⟨rfl,?_⟩;cbv;repeat' (first|(simp only[u8,u9,r8,r9];cbv)|(refine Nz.mk Z.d ?_;cbv)|(refine Cq.mk us 9 hus rfl rfl rfl Z.d Z.d ?_;cbv)|fail)
 exact⟨_,Vw.tuple (rs:=[_,_]) ⟨He (es:=us) rfl huu.get (by rw[hus];rfl),Vw.same rfl,trivial⟩,hR _ rfl⟩
def Qz(k v:Int):Prop:=(szF k=2/\0<=v/\v<=65535)\/(szF k=4 /\ -2147483648<=v/\v<=2147483647)
theorem Nw{k:Int}(h:szF k≠0):0<=k/\k<=5:=by
 unfold szF at h;split at h
 ·omega
 ·split at h
  ·omega
  ·exact absurd rfl h
theorem Xk(k s v:Int)(hf:Qz k v)(hs:0<=s/\s<=255)(us:List (List AV))(hus:us=(frB k s v).map AZ):A9 Tryz.prog 72 [.agg [k,s,v]] (· = .tuple [.list 1 us,(0:Int)]):=by
 rcases hf with ⟨h,hv⟩|⟨h,hv⟩
 ·exact Xh k s v h (Nw (by rw[h];decide)) hs hv us hus
 ·by_cases h0:v<0
  ·exact Xj k s v h (Nw (by rw[h];decide)) hs ⟨hv.1,h0⟩ us hus
  ·exact Xi k s v h (Nw (by rw[h];decide)) hs ⟨by omega,hv.2⟩ us hus
set_option maxRecDepth 100000
structure Se where
 c0:Int
 c1:Int
 sp:Int
 ac:Int
 gr:Int
 h0:Bool
 h1:Bool
 h2:Bool
 h3:Bool
 h4:Bool
 cm:Bool
def Se.row(x:Se):List AV:=[.int .u16 x.c0,.int .u16 x.c1,.int .i32 x.sp,.int .i32 x.ac,.int .u16 x.gr,x.h0,x.h1,x.h2,x.h3,x.h4,x.cm]
def seL(x:Se)(k:Int):List (Bool×List Int):=[(x.h0,frB 1 k x.c0),(x.h1,frB 2 k x.c1),(x.h2,frB 3 k x.sp),(x.h3,frB 4 k x.ac),(x.h4,frB 5 k x.gr)]
def seF(l:List (Bool×List Int)):List (List Int):=(l.filter (·.1)).map (·.2)
def seC(x:Se)(k:Int):Cy:=(seF (seL x k),x.cm)
def Hf:Int->List Se->List Cy
 | _,[]=>[]
 | k,x::l=>seC x (k%256)::Hf (k+1) l
def IY:Se:=⟨0,0,0,0,7,true,true,true,true,true,false⟩
def IZ:Se:=⟨0,0,0,0,0,true,true,true,true,false,false⟩
theorem rf(k s v:Int)(hf:Qz k v)(hs:0<=s/\s<=255):∃a:List (List AV),a=(frB k s v).map AZ/\Up0 a/\A9 Tryz.prog 72 [.agg [k,s,v]] (· = .tuple [.list 1 a,.int .i64 0]):=⟨_,rfl,Ao _,Xk k s v hf hs _ rfl⟩
theorem Xl(us:List (List AV))(hus:us=(Hf 0 [IY,IZ]).map DJ):A9 Tryz.prog 30 [.list 11 [[.int .u16 0,.int .u16 0,.int .i32 0,.int .i32 0,.int .u16 7,.bool true,.bool true,.bool true,.bool true,.bool true,.bool false],[.int .u16 0,.int .u16 0,.int .i32 0,.int .i32 0,.int .u16 0,.bool true,.bool true,.bool true,.bool true,.bool false,.bool false]]] (· = .list 2 us):=by
 obtain⟨a0,f0,u0,q0⟩:=rf 1 0 0 (.inl ⟨rfl,by decide,by decide⟩) Z.d;obtain⟨a1,f1,u1,q1⟩:=rf 2 0 0 (.inl ⟨rfl,by decide,by decide⟩) Z.d;obtain⟨a2,f2,u2,q2⟩:=rf 3 0 0 (.inr ⟨rfl,by decide,by decide⟩) Z.d;obtain⟨a3,f3,u3,q3⟩:=rf 4 0 0 (.inr ⟨rfl,by decide,by decide⟩) Z.d;obtain⟨a4,f4,u4,q4⟩:=rf 5 0 7 (.inl ⟨rfl,by decide,by decide⟩) Z.d;obtain⟨a5,f5,u5,q5⟩:=rf 1 1 0 (.inl ⟨rfl,by decide,by decide⟩) Z.d;obtain⟨a6,f6,u6,q6⟩:=rf 2 1 0 (.inl ⟨rfl,by decide,by decide⟩) Z.d;obtain⟨a7,f7,u7,q7⟩:=rf 3 1 0 (.inr ⟨rfl,by decide,by decide⟩) Z.d;obtain⟨a8,f8,u8,q8⟩:=rf 4 1 0 (.inr ⟨rfl,by decide,by decide⟩) Z.d;obtain⟨a9,f9,u9,q9⟩:=rf 5 1 0 (.inl ⟨rfl,by decide,by decide⟩) Z.d
 have hR0:us=[[.list 1 [[.list 1 a0],[.list 1 a1],[.list 1 a2],[.list 1 a3],[.list 1 a4]],.bool false],[.list 1 [[.list 1 a5],[.list 1 a6],[.list 1 a7],[.list 1 a8]],.bool false]]:=by
  rw[hus,f0,f1,f2,f3,f4,f5,f6,f7,f8];rfl
 clear hus f0 f1 f2 f3 f4 f5 f6 f7 f8 f9;subst hR0;(refine A9.ofY Tryz.func30 (by kernel_rfl) (by kernel_rfl) λw hw R hR=>?_);(subst hw);(conv=>arg 2;cbv);(generalize hP:Tryz.prog=P);cbv;obtain⟨R0,eR0⟩:∃z:List AV,z=[.list 1 [[.list 1 a0],[.list 1 a1],[.list 1 a2],[.list 1 a3],[.list 1 a4]],.bool false]:=⟨_,rfl⟩;obtain⟨R1,eR1⟩:∃z:List AV,z=[.list 1 [[.list 1 a5],[.list 1 a6],[.list 1 a7],[.list 1 a8]],.bool false]:=⟨_,rfl⟩;rw[<- eR0,<- eR1] at hR;have v0:Up0 [R0]:=⟨by rw[eR0];simp only[BC,Af,AV.upto,u0.get,u1.get,u2.get,u3.get,u4.get]<;>rfl⟩;have v1:Up0 [R0,R1]:=⟨by rw[eR1];have:=v0.get;simp only[BC,Af,AV.upto,u5.get,u6.get,u7.get,u8.get,Bool.and_true] at this ⊢;rw[this]<;>rfl⟩;have w0:Up0 [[AV.list 1 a0],[.list 1 a1],[.list 1 a2],[.list 1 a3],[.list 1 a4]]:=⟨by simp only[BC,Af,AV.upto,u0.get,u1.get,u2.get,u3.get,u4.get]<;>rfl⟩;have w1:Up0 [[AV.list 1 a5],[.list 1 a6],[.list 1 a7],[.list 1 a8]]:=⟨by simp only[BC,Af,AV.upto,u5.get,u6.get,u7.get,u8.get]<;>rfl⟩
 refine Ae.data rfl (S:=Nat) (λs=>fr 74 [(3,match s with|0=>.nils|1=>.sl 0 2 0 1|_=>.sl 0 2 0 2),(11,.list 11 [[.int .u16 0,.int .u16 0,.int .i32 0,.int .i32 0,.int .u16 7,.bool true,.bool true,.bool true,.bool true,.bool true,.bool false],[.int .u16 0,.int .u16 0,.int .i32 0,.int .i32 0,.int .u16 0,.bool true,.bool true,.bool true,.bool true,.bool false,.bool false]]),(12,(2:Int)),(13,.int .i64 (match s with|0=>0|1=>1|_=>2))])
  (λs=>match s with|0=>[]|1=>[.live 2 [R0]]|_=>[.live 2 [R0,R1]]) (λs=>s=0\/s=1\/s=2) (λs=>2-s) 0 (by refine Wk.eqz id (by first|exact λi _ j _ e=>e|(simp only[List.length_cons,List.length_nil];decide)) ?_;cbv;(repeat' (first|exact trivial|rfl|exact⟨rfl⟩|apply And.intro))) (.inl rfl) ?_
 rintro s hs Q' hN hE hR';rcases hs with rfl|rfl|rfl
 ·subst eR0
  cbv;repeat' (first|(refine Call.s hP q0 ?_;cbv)|(refine AB.s hP q0 ?_;cbv)|(refine Call.s hP q1 ?_;cbv)|(refine AB.s hP q1 ?_;cbv)|(refine Call.s hP q2 ?_;cbv)|(refine AB.s hP q2 ?_;cbv)|(refine Call.s hP q3 ?_;cbv)|(refine AB.s hP q3 ?_;cbv)|(refine Call.s hP q4 ?_;cbv)|(refine AB.s hP q4 ?_;cbv)|(refine Idx.mk _ Z.d rfl ?_;cbv)|(refine InN.mk Z.d Z.d ?_;(try cbv))|(refine Nz.mk Z.d ?_;cbv)|(refine Ob.mk Z.d ?_;cbv)|(refine App.mk _ _ rfl rfl rfl Z.d Z.d ?_;cbv)|(refine Ae.rounds rfl 6 ?_;cbv)|(refine And.intro ?_ ?_)|fail)
  refine hN 1 _ _ ?_ (.inr (.inl rfl)) Z.d;refine Wk.eqz (λ_=>7) (by simp only[List.length_cons,List.length_nil];omega) ?_;cbv;(repeat' (first|exact trivial|rfl|exact⟨rfl⟩|exact FzL.mk rfl rfl rfl w0 rfl Z.d|(refine Bn.one ?_;cbv)|apply And.intro))
 ·subst eR1
  cbv;repeat' (first|(refine Call.s hP q5 ?_;cbv)|(refine AB.s hP q5 ?_;cbv)|(refine Call.s hP q6 ?_;cbv)|(refine AB.s hP q6 ?_;cbv)|(refine Call.s hP q7 ?_;cbv)|(refine AB.s hP q7 ?_;cbv)|(refine Call.s hP q8 ?_;cbv)|(refine AB.s hP q8 ?_;cbv)|(refine Call.s hP q9 ?_;cbv)|(refine AB.s hP q9 ?_;cbv)|(refine Idx.mk _ Z.d rfl ?_;cbv)|(refine InN.mk Z.d Z.d ?_;(try cbv))|(refine Nz.mk Z.d ?_;cbv)|(refine Ob.mk Z.d ?_;cbv)|(refine App.mk _ _ rfl rfl rfl Z.d Z.d ?_;cbv)|(refine Ae.rounds rfl 6 ?_;cbv)|(refine And.intro ?_ ?_)|fail)
  refine hN 2 _ _ ?_ (.inr (.inr rfl)) Z.d;refine Wk.eqz (λ_=>7) (by simp only[List.length_cons,List.length_nil];omega) ?_;cbv;(repeat' (first|exact trivial|rfl|exact⟨rfl⟩|exact FzL.mk rfl rfl rfl w1 rfl Z.d|(refine Bn.app (es0:=[R0]) v0 rfl rfl ?_;cbv)|apply And.intro))
 ·cbv
  refine hE _ _ _ ?_;cbv;exact⟨_,He rfl v1.get rfl,hR _ rfl⟩
set_option maxRecDepth 100000
def ssA:List Sg:=[⟨9000,[(0,0)],[]⟩]
def gsA:List Gr:=[⟨7,0,4000,0,0⟩]
def cA:Cf:=⟨1024,131072,131072,0,0,0,1000,100,9,2,128,0,5,2⟩
theorem Xm:Hf 0 [IY,IZ]=[([frB 1 0 0,frB 2 0 0,frB 3 0 0,frB 4 0 0,frB 5 0 7],false),([frB 1 1 0,frB 2 1 0,frB 3 1 0,frB 4 1 0],false)]:=rfl
def nA0:Nv:=stU cA ssA gsA
theorem wrA:Dk cA=0:=by kernel_rfl
theorem acA:(Bp ssA gsA nA0 [] [frB 1 0 0,frB 2 0 0,frB 3 0 0,frB 4 0 0,frB 5 0 7] false).r.ac=true:=by kernel_rfl
noncomputable def sA1:Ex:=Bp ssA gsA nA0 [] [frB 1 0 0,frB 2 0 0,frB 3 0 0,frB 4 0 0,frB 5 0 7] false
noncomputable def sA2:Ex:=Bp ssA gsA sA1.n sA1.mm [frB 1 1 0,frB 2 1 0,frB 3 1 0,frB 4 1 0] false
theorem grA:sA2.r.gr=7:=by kernel_rfl
theorem mdA:sA2.r.md=2:=by kernel_rfl
theorem stA:sA2.r.st=true:=by kernel_rfl
theorem loA:(decide (sA2.r.lo<=0) && decide (0<=sA2.r.hi) && decide (sA2.r.hi-sA2.r.lo<1000) && decide (-1000<sA2.r.lo))=true:=by kernel_rfl
theorem Q_:D6 ssA gsA:=⟨by decide,by decide,by decide⟩
theorem trA:BN ssA gsA:=by
 refine⟨by decide,by decide,by decide,λj hj s hs=>?_,λj hj g hg=>?_⟩
 ·obtain rfl:j=0:=by simp only[ssA,List.length_singleton] at hj;omega
  obtain rfl:(⟨9000,[(0,0)],[]⟩:Sg)=s:=(by simpa[ssA] using hs);refine⟨by decide,by decide,⟨by decide,by decide,λp hp=>?_,λi hi p hp=>?_⟩,by decide,λi hi=>by simp at hi,λa b ha=>by simp at ha⟩
  ·obtain rfl:((0:Int),(0:Int))=p:=by simpa using hp
   rfl
  ·obtain rfl:i=0:=by simp only[List.length_singleton] at hi;omega
   obtain rfl:((0:Int),(0:Int))=p:=(by simpa using hp);exact⟨by decide,by decide,by decide,λh=>absurd h Z.d⟩
 ·obtain rfl:j=0:=by simp only[gsA,List.length_singleton] at hj;omega
  obtain rfl:(⟨7,0,4000,0,0⟩:Gr)=g:=(by simpa[gsA] using hg);refine⟨by decide,by decide,by decide,by decide,by decide,λs hs=>?_,by decide,by decide,by decide,by decide,λh=>absurd h Z.d⟩;obtain rfl:(⟨9000,[(0,0)],[]⟩:Sg)=s:=(by simpa[ssA] using hs);decide
theorem fitA:Dl (Dk cA) cA.c6 cA.c8 ssA gsA:=by
 refine⟨wrA,trA,λj hj g hg=>?_⟩;obtain rfl:j=0:=by simp only[gsA,List.length_singleton] at hj;omega
 obtain rfl:(⟨7,0,4000,0,0⟩:Gr)=g:=by simpa[gsA] using hg
 refine⟨by decide,λs hs=>?_⟩;obtain rfl:(⟨9000,[(0,0)],[]⟩:Sg)=s:=by simpa[ssA] using hs
 decide
theorem Xn:CU cA ssA gsA (Hf 0 [IY,IZ])=[sA1.r,sA2.r]:=by
 rw[La Q_ fitA,Xm];simp only[BP,Dm];unfold sA2 sA1 nA0
 kernel_rfl
set_option maxRecDepth 100000
theorem Xp(a b v:Int)(h:a<=v/\v<=b):A9 Tryz.prog 31 [.agg [a,b],v] (· = .bool true):=by
 refine Z.y Tryz.func31 λ_ _ _ _ _ _ _ _ zA _ _ _ _ hz R hR P hP=>?_;cbv;repeat' (split<;>rename_i h<;>(try (simp only[hz,Z.a,AF,AC,AO,AP,AL,reduceCtorEq] at h))<;>(try cbv))
 all_goals
  refine⟨_,Vw.same rfl,hR _ (congrArg AV.bool ?_)⟩
  (try simp only[zA,AC,Bool.and_eq_true,decide_eq_true_eq])
  first|rfl|omega|(simp;omega)|(simp_all;done)|(exfalso;simp_all;omega)
theorem Xq(a b:Int)(h:a<=b):A9 Tryz.prog 73 [.agg [a,b]] (· = .bool true):=by
 refine Z.y Tryz.func73 λ_ _ _ _ _ _ _ _ zA _ _ _ _ hz R hR P hP=>?_;cbv;exact⟨_,Vw.same rfl,hR _ (congrArg AV.bool (by rw[zA];simp only[AC];exact decide_eq_true h))⟩
theorem Xr(a b w:Int)(h:a<=b)(hw0:w=b-a)(h2:b-a<1000):A9 Tryz.prog 32 [.agg [a,b]] (· = .int .u64 w):=by
 (refine A9.ofY Tryz.func32 (by kernel_rfl) (by kernel_rfl) (Z.w λzB zE yN zD zF zX yO zP zS zR yA yB zK zU zM zN zO yG zT yH hw zC zA yJ zG zI yM yS zZ yF yE yT yU zH yR zV yI yL yX yQ yY hz R hR=>?_));(conv=>arg 2;cbv);(generalize hP:Tryz.prog=P);cbv;refine Call.step (by rw[<- hP];exact Xq a b h) rfl ?_;rintro r rfl;have n1:zF true=false:=by rw[zI];rfl
 cbv;simp only[n1];cbv;refine⟨_,Vw.same rfl,hR _ (congrArg (AV.int .u64) ?_)⟩;rw[zC,zG,hw0];show IntKind.u64.wrap (IntKind.u64.wrap b-IntKind.u64.wrap a)=_;rw[IntKind.wrap_u64,IntKind.wrap_u64,IntKind.wrap_u64];omega
theorem A9.pre{P:Program}{g:FuncId}{args args':List AV}{R:AV->Prop}(H:A9 P g args' R)(ha:VwL [] args args'):A9 P g args R:=
 ⟨H.1,λC vs hC RC hv=>H.2 C vs hC RC (by
   have h:=VwL.vrs (C:=C) (by rw[hC];exact ha) RC hv;have e:({ C with h:=[] }:Cfg)=C:=(by cases C;simp only at hC;subst hC;rfl);rw[e] at h;exact h)⟩
theorem sgA:∀s,s∈ssA->HV s:=λs hs=>by
 obtain rfl:=List.mem_singleton.1 hs;refine⟨by unfold I64;decide,λp hp=>?_,λn hn=>by cases hn⟩;obtain rfl:=List.mem_singleton.1 hp;exact⟨by unfold I64;decide,by unfold I64;decide⟩
theorem grAA:∀g,g∈gsA->HY g:=λg hg=>by
 obtain rfl:=List.mem_singleton.1 hg;exact⟨by unfold I64;decide,by unfold I64;decide,by unfold I64;decide,by unfold I64;decide,by unfold I64;decide⟩
theorem cyA:((Hf 0 [IY,IZ]).all λc=>decide (c.1.length<=50) && c.1.all λb=>decide (b.length<=300) && b.all λx=>decide (0<=x) && decide (x<=255))=true:=by kernel_rfl
theorem cyAA:∀c,c∈Hf 0 [IY,IZ]->c.1.length<=50/\∀b,b∈c.1->Ar b/\b.length<=300:=λc hc=>by
 have h:=List.all_eq_true.1 cyA c hc;simp only[Bool.and_eq_true,decide_eq_true_eq,List.all_eq_true] at h;exact⟨h.1,λb hb=>⟨λx hx=>(h.2 b hb).2 x hx,(h.2 b hb).1⟩⟩
def alD3:List (List Nat):=[[],[],[],[2],[],[4],[3,5],[6],[0,1,7,7],[8,8,0,1,2,3,4,5,6,7,8]]
def esL:List (List AV):=[[.int .i64 9000,.list 2 [[.int .i64 0,.int .i64 0]],.nils]]
def dsL:List (List AV):=[[.int .i64 7,.int .i64 0,.int .i64 4000,.int .i64 0,.int .i64 0]]
theorem Na:A9 Tryz.prog 11 [] (· = .bool true):=by
 obtain⟨us,eus⟩:∃x,x=(Hf 0 [IY,IZ]).map DJ:=⟨_,rfl⟩;have q0:=Xl us eus;obtain⟨r1,er1⟩:=Z.e sA1.r;obtain⟨r2,er2⟩:=Z.e sA2.r;have q1:=Ld cA ssA gsA (ssA.map Ah) (gsA.map Ak) rfl rfl sgA grAA Q_ (Hf 0 [IY,IZ]) Z.d cyAA us eus;rw[Xn,<- er1,<- er2] at q1;have k0:r1.ac=true:=by rw[er1];exact acA
 have k1:r2.gr=7:=by rw[er2];exact grA
 have k2:r2.md=2:=by rw[er2];exact mdA
 have k3:r2.st=true:=by rw[er2];exact stA
 have k4:=loA;rw[<- er2] at k4;have hU:=JP [r1,r2];have huu:Up0 us:=by rw[eus];exact HZ _
 clear er1 er2 eus
 have q2:A9 Tryz.prog 12 [.agg [(1024:Int),(131072:Int),(131072:Int),(0:Int),(0:Int),(0:Int),(1000:Int),(100:Int),(9:Int),(2:Int),(128:Int),(0:Int),(5:Int),(2:Int)],.agg [.list 3 esL,.list 5 dsL],.list 2 us] _:=A9.pre q1 ⟨Vw.same rfl,Vw.agg ⟨Vw.rows rfl (λr hr=>by obtain rfl:=List.mem_singleton.1 hr;rfl) (λi r hr=>by
  have:i=0:=by have:=(List.getElem?_eq_some_iff.1 hr).1;simp[ssA] at this;omega
  subst this;obtain rfl:Ah ⟨9000,[(0,0)],[]⟩=r:=(by simpa[ssA] using hr);exact⟨_,rfl,Vw.same rfl,Vw.same rfl,Vw.nil 1,trivial⟩),Vw.same rfl,trivial⟩,Vw.same (by exact ul huu),trivial⟩
 clear q1;obtain⟨RT1,eRT1⟩:=Z.e (r1.rt.map D7);obtain⟨RT2,eRT2⟩:=Z.e (r2.rt.map D7);simp only[List.map_cons,List.map_nil,Rp.row,<- eRT1,<- eRT2] at q2 hU;clear eRT1 eRT2;refine A9.of_call (AJ.give ?_);(refine AJ.ofP (F:=[3]) (sc:=?scc) (r:=?rr) Tryz.func11 (by kernel_rfl) rfl ?hr ?hc (by kernel_rfl) λw hw=>?H);(case hr=>((conv=>lhs;cbv);(try exact rfl)));(case hc=>((repeat' (first|refine' IQ ?_ ?_|refine' IR ?_|refine' IU ?_|refine' Cg (id:=3) alD3 rfl (by kernel_rfl) ?_|fail));(try any_goals (conv=>lhs;cbv));(try any_goals exact rfl)));(obtain⟨zB,zE,yN,zD,zF,zX,yO,zP,zS,zR,yA,yB,zK,zU,zM,zN,zO,yG,zT,yH⟩:=w);(have zC:=Z.w1 hw);(have zA:=Z.w2 hw);(have yJ:=Z.w3 hw);(have zG:=Z.w4 hw);(have zI:=Z.w5 hw);(have yM:=Z.w6 hw);(have yS:=Z.w7 hw);(have zZ:=Z.w8 hw);(have yF:=Z.w9 hw);(have yE:=Z.w10 hw);(have yT:=Z.w11 hw);(have yU:=Z.w12 hw);(have zH:=Z.w13 hw);(have yR:=Z.w14 hw);(have zV:=Z.w15 hw);(have yI:=Z.w16 hw);(have yL:=Z.w17 hw);(have yX:=Z.w18 hw);(have yQ:=Z.w19 hw);(have yY:=Z.w20 hw);(have hz:=Z.z hw);(conv=>arg 4;cbv);(generalize hP:Tryz.prog=P);cbv;refine AnyQ.e _ (by cbv) _ (by cbv) (by cbv) ?_;cbv;refine CJ.mk [.agg [(1024:Int),(131072:Int),(131072:Int),(0:Int),(0:Int),(0:Int),(1000:Int),(100:Int),(9:Int),(2:Int),(128:Int),(0:Int),(5:Int),(2:Int)],.agg [.list 3 esL,.list 5 dsL],?y2,?y3,?y4,?y5,?y6,.list 2 us,?y8,?y9] (λm=>[.live 14 [[(1024:Int),(131072:Int),(131072:Int),(0:Int),(0:Int),(0:Int),(1000:Int),(100:Int),(9:Int),(2:Int),(128:Int),(0:Int),(5:Int),(2:Int)]],.live 2 [[.list 3 esL,.list 5 dsL]]]) rfl ?hsa ?hfa
 case hsa =>
  cbv;repeat' (first|(refine Call.s hP q0 ?_;cbv)|(refine AB.s hP q0 ?_;cbv)|(refine Call.s hP q2 ?_;cbv)|(refine AB.s hP q2 ?_;cbv)|(refine λm=>?_;cbv)|(refine And.intro ?_ ?_)|exact rfl|exact trivial|fail)
 cbv;have d0:zE .eql 2 2=true:=W.eq zA rfl;have d1:zE .eql 7 7=true:=W.eq zA rfl;simp only[Bool.and_eq_true,decide_eq_true_eq] at k4;have q3:=Xp r2.lo r2.hi 0 ⟨k4.1.1.1,k4.1.1.2⟩;obtain⟨w,ew⟩:=Z.e (r2.hi-r2.lo);have q4:=Xr r2.lo r2.hi w Z.o ew Z.o;have d2:zE .lss w 1000=true:=W.lt zA Z.o;simp only[zH,List.length_cons,List.length_nil,k0,k1,k2,k3,Nat.zero_add,Nat.reduceAdd,Int.reduceAdd,Int.cast_ofNat_Int];repeat' (first|(simp only[d0,d1,d2,k0,k1,k2,k3];cbv)|(refine Call.s hP q3 ?_;cbv)|(refine AB.s hP q3 ?_;cbv)|(refine Call.s hP q4 ?_;cbv)|(refine AB.s hP q4 ?_;cbv)|(refine Idx.mk _ Z.d rfl ?_;cbv)|fail)
 refine WkB.mk ?_;exact Z.i
end Go.Proofs.YtlchlddijclhjaaGreat
set_option maxRecDepth 100000
namespace Go.Proofs.YtlchlddijclhjaaGreat
open Go Go.RowKit Go.Eng
theorem Hg{D:Type}{f:D->List AV}{p:D->Prop}:∀ {es:List (List AV)},(∀r,r∈es->∃d,r=f d/\p d)->∃ds:List D,es=ds.map f/\∀d,d∈ds->p d
 | [],_=>⟨[],rfl,λd hd=>by cases hd⟩
 | r::es,h=>by
   obtain⟨d,h1,h2⟩:=h r (by simp);obtain⟨ds,h3,h4⟩:=Hg (es:=es) λx hx=>h x (by simp[hx])
   exact⟨d::ds,by rw[h1,h3];rfl,λx hx=>by
    rcases List.mem_cons.1 hx with rfl|hx
    ·exact h2
    ·exact h4 x hx⟩
theorem Xt{n:Int}(h:(Lit.int .u8 n).wf=true):0<=n/\n<=255:=by
 simp[Lit.wf,IntKind.min,IntKind.max,IntKind.bits,IntKind.signed] at h;omega
theorem Xu{l:List Sh}{xs:List AV}(h:OkL (.list 1 [.int .u8]::l) xs):∃(b:List Int) (y:List AV),xs = .list 1 (b.map AZ)::y/\b.length<=GN/\Ar b/\OkL l y:=by
 obtain⟨es,y,rfl,hl,hr,k⟩:=Ia h
 obtain⟨b,rfl,hb⟩:=Hg (f:=AZ) (p:=λb=>0<=b/\b<=255) (es:=es) λr hrr=>by
  obtain⟨n,_,rfl,hw,k1⟩:=C8 (hr r hrr);obtain rfl:=Fg k1;exact⟨n,rfl,Xt hw⟩
 exact⟨b,y,rfl,by simpa using hl,hb,k⟩
theorem Xv{l:List Sh}{xs:List AV}(h:OkL (.list 1 [.list 1 [.int .u8]]::l) xs):∃(b:List (List Int)) (y:List AV),xs = .list 1 (b.map Em)::y/\b.length<=GN/\(∀x,x∈b->Ar x/\x.length<=GN)/\OkL l y:=by
 obtain⟨es,y,rfl,hl,hr,k⟩:=Ia h
 obtain⟨b,rfl,hb⟩:=Hg (f:=Em) (p:=λx=>Ar x/\x.length<=GN) (es:=es) λr hrr=>by
  obtain⟨b,_,rfl,h1,h2,k1⟩:=Xu (hr r hrr);obtain rfl:=Fg k1;exact⟨b,rfl,h2,h1⟩
 exact⟨b,y,rfl,by simpa using hl,hb,k⟩
theorem EZ{n:Int}(h:(Lit.int .i64 n).wf=true):I64 n:=by
 have:=wf64 h;unfold I64;omega
theorem Nf(x:AV)(h:TyV Tryz.prog 8 23 x):∃c:Cf,x = .agg [.int .i64 c.c0,.int .i64 c.c1,.int .i64 c.c2,.int .i64 c.c3,.int .i64 c.c4,.int .i64 c.c5,.int .i64 c.c6,.int .i64 c.c7,.int .i64 c.c8,.int .i64 c.c9,.int .i64 c.c10,.int .i64 c.c11,.int .i64 c.c12,.int .i64 c.c13]/\I64 c.c6/\I64 c.c7/\I64 c.c12:=by
 obtain⟨cs,rfl,hx⟩:=h.agg (by kernel_rfl) (show ED Tryz.prog 8 23=some [.int .i64,.int .i64,.int .i64,.int .i64,.int .i64,.int .i64,.int .i64,.int .i64,.int .i64,.int .i64,.int .i64,.int .i64,.int .i64,.int .i64] from by kernel_rfl);obtain⟨c0,_,rfl,_,hx⟩:=C8 hx;obtain⟨c1,_,rfl,_,hx⟩:=C8 hx;obtain⟨c2,_,rfl,_,hx⟩:=C8 hx;obtain⟨c3,_,rfl,_,hx⟩:=C8 hx;obtain⟨c4,_,rfl,_,hx⟩:=C8 hx;obtain⟨c5,_,rfl,_,hx⟩:=C8 hx;obtain⟨c6,_,rfl,h6,hx⟩:=C8 hx;obtain⟨c7,_,rfl,h7,hx⟩:=C8 hx;obtain⟨c8,_,rfl,_,hx⟩:=C8 hx;obtain⟨c9,_,rfl,_,hx⟩:=C8 hx;obtain⟨c10,_,rfl,_,hx⟩:=C8 hx;obtain⟨c11,_,rfl,_,hx⟩:=C8 hx;obtain⟨c12,_,rfl,h12,hx⟩:=C8 hx;obtain⟨c13,_,rfl,_,hx⟩:=C8 hx;obtain rfl:=Fg hx;exact⟨⟨c0,c1,c2,c3,c4,c5,c6,c7,c8,c9,c10,c11,c12,c13⟩,rfl,EZ h6,EZ h7,EZ h12⟩
theorem Ng(x:AV)(h:TyV Tryz.prog 8 27 x):∃(ss:List Sg) (gs:List Gr),x = .agg [.list 3 (ss.map Ah),.list 5 (gs.map Ak)]/\(∀s,s∈ss->HV s)/\(∀g,g∈gs->HY g):=by
 obtain⟨cs,rfl,k0⟩:=h.agg (by kernel_rfl) (show ED Tryz.prog 8 27=some [.list 3 [.int .i64,.list 2 [.int .i64,.int .i64],.list 1 [.int .i64]],.list 5 [.int .i64,.int .i64,.int .i64,.int .i64,.int .i64]] from by kernel_rfl);clear h;obtain⟨es,_,rfl,_,hr,k1⟩:=Ia k0;obtain⟨ds,_,rfl,_,hs,k2⟩:=Ia k1;obtain rfl:=Fg k2;clear k0 k1 k2
 obtain⟨ss,rfl,hss⟩:=Hg (f:=Ah) (p:=HV) (es:=es) λr hrr=>by
  have k0:=hr r hrr;clear hr hrr;obtain⟨len,_,rfl,hl,k1⟩:=C8 k0;obtain⟨ps,_,rfl,_,hp,k2⟩:=Ia k1;obtain⟨ns,_,rfl,_,hn,k3⟩:=Ia k2;obtain rfl:=Fg k3;clear k0 k1 k2 k3
  obtain⟨qs,rfl,hqs⟩:=Hg (f:=Ap) (p:=λp=>I64 p.1/\I64 p.2) (es:=ps) λr hrr=>by
   have k0:=hp r hrr;clear hp hrr;obtain⟨a,_,rfl,ha,k1⟩:=C8 k0;obtain⟨b,_,rfl,hb,k2⟩:=C8 k1;obtain rfl:=Fg k2;exact⟨(a,b),rfl,EZ ha,EZ hb⟩
  obtain⟨ms,rfl,hms⟩:=Hg (f:=Ac) (p:=λn=>I64 n) (es:=ns) λr hrr=>by
   have k0:=hn r hrr;clear hn hrr;obtain⟨a,_,rfl,ha,k1⟩:=C8 k0;obtain rfl:=Fg k1;exact⟨a,rfl,EZ ha⟩
  exact⟨⟨len,qs,ms⟩,rfl,EZ hl,hqs,hms⟩
 obtain⟨gs,rfl,hgs⟩:=Hg (f:=Ak) (p:=HY) (es:=ds) λr hrr=>by
  have k0:=hs r hrr;clear hr hs hrr;obtain⟨a,_,rfl,ha,k1⟩:=C8 k0;obtain⟨b,_,rfl,hb,k2⟩:=C8 k1;obtain⟨c,_,rfl,hc,k3⟩:=C8 k2;obtain⟨d,_,rfl,hd,k4⟩:=C8 k3;obtain⟨e,_,rfl,he,k5⟩:=C8 k4;obtain rfl:=Fg k5;exact⟨⟨a,b,c,d,e⟩,rfl,EZ ha,EZ hb,EZ hc,EZ hd,EZ he⟩
 exact⟨ss,gs,rfl,hss,hgs⟩
theorem Nh(x:AV)(h:TyV Tryz.prog 8 28 x):∃l:List Cy,x = .list 2 (l.map DJ)/\∀c,c∈l->∀b,b∈c.1->Ar b:=by
 have k0:=h.one (by kernel_rfl) (show ED Tryz.prog 8 28=some [.list 2 [.list 1 [.list 1 [.int .u8]],.bool]] by kernel_rfl)
 have k0:OkL [.list 2 [.list 1 [.list 1 [.int .u8]],.bool]] [x]:=by
  unfold OkL;exact⟨x,[],rfl,k0,by unfold OkL;rfl⟩
 obtain⟨es,_,e1,hl,hr,k1⟩:=Ia k0;obtain rfl:=Fg k1;simp only[List.cons.injEq,and_true] at e1;subst e1
 obtain⟨l,rfl,hp⟩:=Hg (f:=DJ) (p:=λc=>∀b,b∈c.1->Ar b) (es:=es) λr hrr=>by
  obtain⟨bs,_,rfl,h1,h2,k3⟩:=Xv (hr r hrr);obtain⟨c,_,rfl,k2⟩:=Xw k3;obtain rfl:=Fg k2;exact⟨(bs,c),rfl,λb hb=>(h2 b hb).1⟩
 exact⟨l,rfl,hp⟩
theorem NZ{l:List Cy}(h:EU l)(hb:∀c,c∈l->∀b,b∈c.1->Ar b):∀c,c∈l->c.1.length<=50/\∀b,b∈c.1->Ar b/\b.length<=300:=
 λc hc=>⟨(h.l c hc).1,λb hbb=>⟨hb c hc b hbb,(h.l c hc).2 b hbb⟩⟩
theorem Nb{l:List Cy}(h:EU l)(hb:∀c,c∈l->∀b,b∈c.1->Ar b):H9 l:=
 λc hc=>⟨by have:=(h.l c hc).1;omega,λb hbb=>⟨hb c hc b hbb,by have:=(h.l c hc).2 b hbb;omega⟩⟩
theorem Nc(c:Cf)(ss:List Sg)(gs:List Gr)(l:List Cy):(CU c ss gs l).length<=l.length:=by
 unfold CU;split
 ·rw[KN];exact Nat.le_refl _
 ·simp
end Go.Proofs.YtlchlddijclhjaaGreat
