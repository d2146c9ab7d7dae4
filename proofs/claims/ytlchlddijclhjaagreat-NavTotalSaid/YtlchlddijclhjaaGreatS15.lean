/- Parts of the proofs. -/
import Derived.Test.YtlchlddijclhjaaGreatS14
import Derived.Test.YtlchlddijclhjaaGreatS13
import Derived.Test.YtlchlddijclhjaaGreatS8
import Derived.Test.YtlchlddijclhjaaGreatSZ
set_option linter.unusedVariables false
set_option linter.unusedSimpArgs false
set_option maxHeartbeats 4000000
namespace Go.Proofs.YtlchlddijclhjaaGreat
open Go Go.RowKit Go.Eng
set_option maxRecDepth 100000
def k70(k:Int):Int:=if k=1\/k=2\/k=5 then 2 else if k=3\/k=4 then 4 else 0
def be(l:List Int):Int:=l.foldl (λv b=>v*256+b) 0
def kLW(v:Int):Int:=if 2147483648<=v then v-4294967296 else v
structure Fm where
 k:Int
 s:Int
 v:Int
 e:Int
def frV(l:List Int):Fm:=
 if l.length<5 then ⟨0,0,0,14⟩
 else if k70 (l.getD 0 0)=0 then ⟨0,0,0,30⟩
 else if l.getD 2 0≠k70 (l.getD 0 0)\/(l.length:Int)≠5+k70 (l.getD 0 0) then ⟨0,0,0,11⟩
 else if crF 65535#16 l≠0#16 then ⟨0,0,0,31⟩
 else ⟨l.getD 0 0,l.getD 1 0,if k70 (l.getD 0 0)=4 then kLW (be ((l.drop 3).take 4)) else be ((l.drop 3).take 2),0⟩
theorem kA2(k:Int):k70 k=0\/(k70 k=2/\(k=1\/k=2\/k=5))\/(k70 k=4/\(k=3\/k=4)):=by
 unfold k70;(repeat' split)<;>omega
theorem kJ7{a b:Int}(h0:0<=a)(h1:a<16777216)(h2:0<=b)(h3:b<256):k05 .or .u32 (k05 .shl .u32 a 8) b=a*256+b:=by
 have e1:k05 .shl .u32 a 8=a*256:=by
  show IntKind.u32.wrap (a*2 ^ (min (8:Int).toNat 32))=_;rw[IntKind.wrap_u32];show a*256%4294967296=_;omega
 rw[e1];show IntKind.u32.wrap (BitVec.ofInt 32 (a*256) ||| BitVec.ofInt 32 b).toNat=_;obtain⟨an,rfl⟩:=Int.eq_ofNat_of_zero_le h0;obtain⟨bn,rfl⟩:=Int.eq_ofNat_of_zero_le h2;have e2:((an:Int)*256)=((an*256:Nat):Int):=by omega
 rw[e2,BitVec.ofInt_natCast,BitVec.ofInt_natCast,BitVec.toNat_or,BitVec.toNat_ofNat,BitVec.toNat_ofNat,Nat.mod_eq_of_lt Z.o,Nat.mod_eq_of_lt Z.o]
 have e3:an*256 ||| bn=an*256+bn:=by
  rw[Nat.mul_comm];exact(Nat.two_pow_add_eq_or_of_lt (i:=8) Z.o an).symm
 rw[e3,IntKind.wrap_u32];omega
theorem kXM(k n:Int)(hn:n=k70 k):k02 Tryz.prog 199 [k] (· = jz n):=by
 have hk:=kA2 k;rw[<- hn] at hk;have hk0:n=0->¬(k=1\/k=2\/k=5\/k=3\/k=4):=λh=>by rw[hn] at h;unfold k70 at h;(repeat' split at h)<;>omega
 refine Z.y Tryz.func199 λ_ _ _ _ _ _ _ _ _ _ _ _ _ hz R hR P hP=>?_;cbv;repeat' (split<;>rename_i h1<;>(try (simp only[hz,Z.a,k05,k04,k08,k03,k0M,reduceCtorEq] at h1))<;>(try cbv))
 all_goals first
  | (exfalso;omega)
  | (obtain rfl:n=2:=by omega
     exact Z.r hR)
  | (obtain rfl:n=4:=by omega
     exact Z.r hR)
  | (obtain rfl:n=0:=by omega
     exact Z.r hR)
theorem kO5(k:Int)(o:Bool)(ho:o=decide (k70 k=4)):k02 Tryz.prog 200 [k] (· = .bool o):=by
 have hk:k70 k=4↔k=3\/k=4:=by unfold k70;(repeat' split)<;>omega
 have ho':o=true↔(k=3\/k=4):=by rw[ho,decide_eq_true_eq,hk]
 clear ho;refine Z.y Tryz.func200 λ_ _ _ _ _ _ _ _ zB _ _ _ _ hz R hR P hP=>?_;cbv;(split<;>rename_i h1<;>(try (simp only[hz,Z.a,k05,k04,k08,k03,k0M,reduceCtorEq] at h1))<;>(try cbv))
 ·exact⟨_,Vw.same rfl,hR _ (congrArg AV.bool (ho'.2 (.inl h1)).symm)⟩
 ·refine⟨_,Vw.same rfl,hR _ (congrArg AV.bool ?_)⟩
  rw[zB,Bool.eq_iff_iff,ho'];show (k == 4)=true↔_;rw[beq_iff_eq];omega
theorem q37:∀(l:List Int),l.length=7->∃a b c d e f g,l=[a,b,c,d,e,f,g]
 | [a,b,c,d,e,f,g],_=>⟨_,_,_,_,_,_,_,rfl⟩
theorem q36:∀(l:List Int),l.length=9->∃a b c d e f g h i,l=[a,b,c,d,e,f,g,h,i]
 | [a,b,c,d,e,f,g,h,i],_=>⟨_,_,_,_,_,_,_,_,_,rfl⟩
theorem q0S(l:List Int)(hl:k0H l)(h47:l.length<=1000000)(rs:List (List AV))(yL:rs=l.map k15)(v:Fm)(hv:v=frV l) :
 k02 Tryz.prog 137 [.list 1 rs] (· = .tuple [.agg [v.k,v.s,v.v],v.e]):=by
 have hu:Up0 rs:=by rw[yL];exact k2R _
 have hrl:rs.length=l.length:=by rw[yL];simp
 unfold frV at hv;by_cases h1:l.length<5
 ·rw[if_pos h1] at hv
  subst hv;refine Z.y Tryz.func137 λ_ _ _ _ _ _ _ _ zB _ _ _ zE hz R hR P hP=>?_;cbv;obtain⟨L,eL,L0,Ln⟩:=Z.l zE rs;have d1:=W.lt zB (show L<5 by omega);repeat' (first|(simp only[eL,d1];cbv)|fail)
  exact Z.r hR
 rw[if_neg h1] at hv;obtain⟨ll,ell⟩:∃x:Int,x=l.length:=⟨_,rfl⟩;have hll:ll.toNat=l.length/\0<=ll:=by omega
 rw[<- ell] at hv;clear ell;obtain⟨k,ek⟩:=Z.e (l.getD 0 0);obtain⟨s,es⟩:=Z.e (l.getD 1 0);obtain⟨z,ez⟩:=Z.e (l.getD 2 0)
 have hget:∀i:Nat,i<5->rs[i]?=some [.int .u8 (l.getD i 0)]/\0<=l.getD i 0/\l.getD i 0<=255:=λi hi=>by
  obtain⟨b,hb⟩:∃b,l[i]?=some b:=⟨_,List.getElem?_eq_getElem (show i<l.length by omega)⟩;have e:l.getD i 0=b:=(by rw[List.getD_eq_getElem?_getD,hb];rfl);rw[e];exact⟨by rw[yL,List.getElem?_map,hb];rfl,hl b (List.mem_of_getElem? hb)⟩
 have g0:=hget 0 Z.o;have g1:=hget 1 Z.o;have g2:=hget 2 Z.o;rw[<- ek] at g0 hv;rw[<- es] at g1 hv;rw[<- ez] at g2 hv;obtain⟨n,en⟩:=Z.e (k70 k);have hk:=kA2 k;rw[<- en] at hv hk;have q1:=kXM k n en;obtain⟨sg,esg⟩:=Z.e (decide (k70 k=4));have q2:=kO5 k sg esg;rw[<- en] at esg;obtain⟨c,ec⟩:=Z.e (bi (crF 65535#16 l));have q3:=kRO l hl Z.o c rs yL ec
 have hc0:c=0↔crF 65535#16 l=0#16:=by
  rw[ec];unfold bi;constructor
  ·intro h;exact BitVec.eq_of_toNat_eq (by simp;omega)
  ·intro h;rw[h];rfl
 clear ek es ez en ec;by_cases h2:n=0
 ·rw[if_pos h2] at hv
  subst hv h2;refine Z.y Tryz.func137 λ_ _ _ zD _ _ _ _ zB _ zH _ zE hz R hR P hP=>?_;cbv;obtain⟨L,eL,L0,Ln⟩:=Z.l zE rs;have d1:=W.nlt zB (show 5<=L by omega);have d2:=W.eq zB (a:=0) rfl;have v1:zD .i64 k=k:=by rw[zH];show IntKind.i64.wrap k=k;rw[IntKind.wrap_i64];omega
  repeat' (first|(simp only[eL,d1,d2,v1];cbv)|(refine Call.s hP q1 ?_;cbv)|(refine Idx.mk _ Z.d g0.1 ?_;cbv)|fail)
  exact Z.r hR
 rw[if_neg h2] at hv;obtain⟨n5,en5⟩:=Z.e (5+n);obtain⟨n3,en3⟩:=Z.e (3+n);by_cases h3:z≠n\/ll≠5+n
 ·rw[if_pos h3] at hv
  subst hv;rw[<- en5] at h3;by_cases h4:z=n
  ·refine Z.y Tryz.func137 λzA _ _ zD _ _ _ zC zB _ zH _ zE hz R hR P hP=>?_;cbv
   obtain⟨L,eL,L0,Ln⟩:=Z.l zE rs;have d1:=W.nlt zB (show 5<=L by omega);have d2:=W.neq zB h2;have d3:=W.nne zB h4;have v1:zD .i64 k=k:=by rw[zH];show IntKind.i64.wrap k=k;rw[IntKind.wrap_i64];omega
   have v2:zD .i64 z=z:=by rw[zH];show IntKind.i64.wrap z=z;rw[IntKind.wrap_i64];omega
   have a1:zA .add .i64 3 n=n3:=(by rw[zC,k0S Z.o Z.o,en3]);have a2:zA .add .i64 n3 2=n5:=(by rw[zC,k0S Z.o Z.o];omega);have d4:=W.ne zB (show L≠n5 by omega);repeat' (first|(simp only[eL,d1,d2,d3,d4,v1,v2,a1,a2];cbv)|(refine Call.s hP q1 ?_;cbv)|(refine Idx.mk _ Z.d g0.1 ?_;cbv)|(refine Idx.mk _ Z.d g2.1 ?_;cbv)|fail)
   exact Z.r hR
  ·refine Z.y Tryz.func137 λ_ _ _ zD _ _ _ _ zB _ zH _ zE hz R hR P hP=>?_;cbv
   obtain⟨L,eL,L0,Ln⟩:=Z.l zE rs;have d1:=W.nlt zB (show 5<=L by omega);have d2:=W.neq zB h2;have d3:=W.ne zB h4;have v1:zD .i64 k=k:=by rw[zH];show IntKind.i64.wrap k=k;rw[IntKind.wrap_i64];omega
   have v2:zD .i64 z=z:=by rw[zH];show IntKind.i64.wrap z=z;rw[IntKind.wrap_i64];omega
   repeat' (first|(simp only[eL,d1,d2,d3,v1,v2];cbv)|(refine Call.s hP q1 ?_;cbv)|(refine Idx.mk _ Z.d g0.1 ?_;cbv)|(refine Idx.mk _ Z.d g2.1 ?_;cbv)|fail)
   exact Z.r hR
 rw[if_neg h3] at hv;have h4:z=n:=by omega
 have h5:ll=5+n:=by omega
 clear h3;by_cases h6:crF 65535#16 l=0#16
 rotate_left 1
 ·rw[if_pos h6] at hv
  subst hv;refine Z.y Tryz.func137 λzA _ _ zD _ _ _ zC zB _ zH _ zE hz R hR P hP=>?_;cbv;obtain⟨L,eL,L0,Ln⟩:=Z.l zE rs;have d1:=W.nlt zB (show 5<=L by omega);have d2:=W.neq zB h2;have d3:=W.nne zB h4;have v1:zD .i64 k=k:=by rw[zH];show IntKind.i64.wrap k=k;rw[IntKind.wrap_i64];omega
  have v2:zD .i64 z=z:=by rw[zH];show IntKind.i64.wrap z=z;rw[IntKind.wrap_i64];omega
  have a1:zA .add .i64 3 n=n3:=(by rw[zC,k0S Z.o Z.o,en3]);have a2:zA .add .i64 n3 2=n5:=(by rw[zC,k0S Z.o Z.o];omega);have d4:=W.nne zB (show L=n5 by omega);have d5:=W.ne zB (show c≠0 by rw[Ne,hc0];exact h6);repeat' (first|(simp only[eL,d1,d2,d3,d4,d5,v1,v2,a1,a2];cbv)|(refine Call.s hP q1 ?_;cbv)|(refine Call.s hP q3 ?_;cbv)|(refine Idx.mk _ Z.d g0.1 ?_;cbv)|(refine Idx.mk _ Z.d g2.1 ?_;cbv)|fail)
  exact Z.r hR
 rw[if_neg (λh=>h h6)] at hv;have q4:=kRO l hl Z.o 0 rs yL (by rw[h6];rfl);clear hc0 h6 q3;rcases hk with hk|⟨hk,hkk⟩|⟨hk,hkk⟩
 ·exact absurd hk h2
 ·subst hk
  obtain⟨t0,t1,t2,x,y,t5,t6,el⟩:=q37 l Z.o;have hx:=hl x (by rw[el];simp);have hy:=hl y (by rw[el];simp);obtain⟨w,ew⟩:=Z.e (x*256+y);have hbe:be ((l.drop 3).take 2)=w:=(by rw[el,ew];simp[be]);rw[if_neg Z.d,hbe] at hv;subst hv;have hrs2:rs=[k15 t0,k15 t1,k15 t2,k15 x,k15 y,k15 t5,k15 t6]:=(by rw[yL,el];rfl);have esg:sg=false:=(by rw[esg];rfl);subst esg;clear hbe yL el;(refine k02.ofY Tryz.func137 (by kernel_rfl) (by kernel_rfl) (Z.w λzA _ _ zD _ _ _ _ _ _ _ _ zV _ _ zM zO _ _ _ hw zC zB _ zH _ _ _ _ _ _ _ _ zE _ _ yD yI _ _ _ hz R hR=>?_));(conv=>arg 2;cbv);(generalize hP:Tryz.prog=P);cbv;obtain⟨L,eL,L0,Ln⟩:=Z.l zE rs;have d1:=W.nlt zB (show 5<=L by omega);have d2:=W.neq zB h2;have d3:=W.nne zB h4;have v1:zD .i64 k=k:=by rw[zH];show IntKind.i64.wrap k=k;rw[IntKind.wrap_i64];omega
  have v2:zD .i64 z=z:=by rw[zH];show IntKind.i64.wrap z=z;rw[IntKind.wrap_i64];omega
  have v3:zD .i64 s=s:=by rw[zH];show IntKind.i64.wrap s=s;rw[IntKind.wrap_i64];omega
  have a1:zA .add .i64 3 2=5:=(by rw[zC];rfl);have a2:zA .add .i64 5 2=7:=(by rw[zC];rfl);have d4:=W.nne zB (show L=7 by omega);have d5:=W.nne zB (a:=0) rfl;have cut:zO (zM rs 5) 3=[[.int .u8 x],[.int .u8 y]]:=(by rw[yI,yD,hrs2];rfl);repeat' (first|(simp only[eL,d1,d2,d3,d4,d5,v1,v2,a1,a2,cut];cbv)|(refine Call.s hP q1 ?_;cbv)|(refine Call.s hP q4 ?_;cbv)|(refine Idx.mk _ Z.d g0.1 ?_;cbv)|(refine Idx.mk _ Z.d g2.1 ?_;cbv)|(refine Nn.mk Z.d ?_)|(refine Le.mk (by first|decide|(rw[eL];omega)|omega) ?_)|fail)
  have l2:zV [[.int .u8 x],[.int .u8 y]]=2:=(by rw[zE];rfl);have u1:zD .u32 x=x:=by rw[zH];show IntKind.u32.wrap x=x;rw[IntKind.wrap_u32];omega
  have u2:zD .u32 y=y:=by rw[zH];show IntKind.u32.wrap y=y;rw[IntKind.wrap_u32];omega
  have o1:zA .or .u32 (zA .shl .u32 0 8) x=x:=(by rw[zC,kJ7 Z.d Z.d hx.1 Z.o];omega);have o2:zA .or .u32 (zA .shl .u32 x 8) y=w:=(by rw[zC,kJ7 hx.1 Z.o hy.1 Z.o,ew]);have i1:zA .add .i64 0 1=1:=(by rw[zC];rfl);have i2:zA .add .i64 1 1=2:=(by rw[zC];rfl);have f0:=W.lt zB (show (0:Int)<2 by decide);have f1:=W.lt zB (show (1:Int)<2 by decide);have f2:=W.nlt zB (show (2:Int)<=2 by decide);have v4:zD .i64 w=w:=by rw[zH];show IntKind.i64.wrap w=w;rw[IntKind.wrap_i64];omega
  (refine k1Q.rounds hw 3 ?_;cbv);repeat' (first|(simp only[l2,f0,f1,f2,u1,u2,o1,o2,i1,i2,v3,v4];cbv)|(refine Call.s hP q2 ?_;cbv)|(refine Idx.mk [.int .u8 x] Z.d rfl ?_;cbv)|(refine Idx.mk [.int .u8 y] Z.d rfl ?_;cbv)|(refine Idx.mk _ Z.d g1.1 ?_;cbv)|(refine Nn.mk Z.d ?_)|fail)
  exact Z.r hR
 ·subst hk
  obtain⟨t0,t1,t2,x,y,p,q,t5,t6,el⟩:=q36 l Z.o;have hx:=hl x (by rw[el];simp);have hy:=hl y (by rw[el];simp);have hp:=hl p (by rw[el];simp);have hq:=hl q (by rw[el];simp);obtain⟨w2,ew2⟩:=Z.e (x*256+y);obtain⟨w3,ew3⟩:=Z.e (w2*256+p);obtain⟨w,ew⟩:=Z.e (w3*256+q);have hbe:be ((l.drop 3).take 4)=w:=(by rw[el,ew,ew3,ew2];simp[be]);rw[if_pos rfl,hbe] at hv;obtain⟨u,eu⟩:=Z.e (kLW w);rw[<- eu] at hv;have hu32:IntKind.i32.wrap w=u:=(by rw[IntKind.wrap_i32,eu];unfold kLW;split<;>omega);have hui: -2147483648<=u/\u<=2147483647:=(by rw[eu];unfold kLW;split<;>omega);subst hv;have hrs2:rs=[k15 t0,k15 t1,k15 t2,k15 x,k15 y,k15 p,k15 q,k15 t5,k15 t6]:=(by rw[yL,el];rfl);have esg:sg=true:=(by rw[esg];rfl);subst esg;clear hbe yL el eu;(refine k02.ofY Tryz.func137 (by kernel_rfl) (by kernel_rfl) (Z.w λzA _ _ zD _ _ _ _ _ _ _ _ zV _ _ zM zO _ _ _ hw zC zB _ zH _ _ _ _ _ _ _ _ zE _ _ yD yI _ _ _ hz R hR=>?_));(conv=>arg 2;cbv);(generalize hP:Tryz.prog=P);cbv;obtain⟨L,eL,L0,Ln⟩:=Z.l zE rs;have d1:=W.nlt zB (show 5<=L by omega);have d2:=W.neq zB h2;have d3:=W.nne zB h4;have v1:zD .i64 k=k:=by rw[zH];show IntKind.i64.wrap k=k;rw[IntKind.wrap_i64];omega
  have v2:zD .i64 z=z:=by rw[zH];show IntKind.i64.wrap z=z;rw[IntKind.wrap_i64];omega
  have v3:zD .i64 s=s:=by rw[zH];show IntKind.i64.wrap s=s;rw[IntKind.wrap_i64];omega
  have a1:zA .add .i64 3 4=7:=(by rw[zC];rfl);have a2:zA .add .i64 7 2=9:=(by rw[zC];rfl);have d4:=W.nne zB (show L=9 by omega);have d5:=W.nne zB (a:=0) rfl;have cut:zO (zM rs 7) 3=[[.int .u8 x],[.int .u8 y],[.int .u8 p],[.int .u8 q]]:=(by rw[yI,yD,hrs2];rfl);repeat' (first|(simp only[eL,d1,d2,d3,d4,d5,v1,v2,a1,a2,cut];cbv)|(refine Call.s hP q1 ?_;cbv)|(refine Call.s hP q4 ?_;cbv)|(refine Idx.mk _ Z.d g0.1 ?_;cbv)|(refine Idx.mk _ Z.d g2.1 ?_;cbv)|(refine Nn.mk Z.d ?_)|(refine Le.mk (by first|decide|(rw[eL];omega)|omega) ?_)|fail)
  have l2:zV [[.int .u8 x],[.int .u8 y],[.int .u8 p],[.int .u8 q]]=4:=(by rw[zE];rfl);have u1:zD .u32 x=x:=by rw[zH];show IntKind.u32.wrap x=x;rw[IntKind.wrap_u32];omega
  have u2:zD .u32 y=y:=by rw[zH];show IntKind.u32.wrap y=y;rw[IntKind.wrap_u32];omega
  have u3:zD .u32 p=p:=by rw[zH];show IntKind.u32.wrap p=p;rw[IntKind.wrap_u32];omega
  have u4:zD .u32 q=q:=by rw[zH];show IntKind.u32.wrap q=q;rw[IntKind.wrap_u32];omega
  have o1:zA .or .u32 (zA .shl .u32 0 8) x=x:=(by rw[zC,kJ7 Z.d Z.d hx.1 Z.o];omega);have o2:zA .or .u32 (zA .shl .u32 x 8) y=w2:=(by rw[zC,kJ7 hx.1 Z.o hy.1 Z.o,ew2]);have o3:zA .or .u32 (zA .shl .u32 w2 8) p=w3:=(by rw[zC,kJ7 Z.o Z.o hp.1 Z.o,ew3]);have o4:zA .or .u32 (zA .shl .u32 w3 8) q=w:=(by rw[zC,kJ7 Z.o Z.o hq.1 Z.o,ew]);have i1:zA .add .i64 0 1=1:=(by rw[zC];rfl);have i2:zA .add .i64 1 1=2:=(by rw[zC];rfl);have i3:zA .add .i64 2 1=3:=(by rw[zC];rfl);have i4:zA .add .i64 3 1=4:=(by rw[zC];rfl);have f0:=W.lt zB (show (0:Int)<4 by decide);have f1:=W.lt zB (show (1:Int)<4 by decide);have f2:=W.lt zB (show (2:Int)<4 by decide);have f3:=W.lt zB (show (3:Int)<4 by decide);have f4:=W.nlt zB (show (4:Int)<=4 by decide);have v4:zD .i64 w=w:=by rw[zH];show IntKind.i64.wrap w=w;rw[IntKind.wrap_i64];omega
  have v5:zD .i32 w=u:=(by rw[zH];exact hu32);have v6:zD .i64 u=u:=by rw[zH];show IntKind.i64.wrap u=u;rw[IntKind.wrap_i64];omega
  (refine k1Q.rounds hw 5 ?_;cbv);repeat' (first|(simp only[l2,f0,f1,f2,f3,f4,u1,u2,u3,u4,o1,o2,o3,o4,i1,i2,i3,i4,v3,v4,v5,v6];cbv)|(refine Call.s hP q2 ?_;cbv)|(refine Idx.mk [.int .u8 x] Z.d rfl ?_;cbv)|(refine Idx.mk [.int .u8 y] Z.d rfl ?_;cbv)|(refine Idx.mk [.int .u8 p] Z.d rfl ?_;cbv)|(refine Idx.mk [.int .u8 q] Z.d rfl ?_;cbv)|(refine Idx.mk _ Z.d g1.1 ?_;cbv)|(refine Nn.mk Z.d ?_)|fail)
  exact Z.r hR
structure Ml where
 h1:Bool
 h2:Bool
 h3:Bool
 h4:Bool
 h5:Bool
 v1:Int
 v2:Int
 v3:Int
 v4:Int
 v5:Int
 bad:Int
 stale:Int
 twice:Int
 beyond:Int
def Ml.row(m:Ml):List AV:=[.bool false,m.h1,m.h2,m.h3,m.h4,m.h5,jz 0,m.v1,m.v2,m.v3,m.v4,m.v5,m.bad,m.stale,m.twice,m.beyond]
def Ml.has(m:Ml)(k:Int):Bool:=if k=1 then m.h1 else if k=2 then m.h2 else if k=3 then m.h3 else if k=4 then m.h4 else if k=5 then m.h5 else false
def Ml.val(m:Ml)(k:Int):Int:=if k=1 then m.v1 else if k=2 then m.v2 else if k=3 then m.v3 else if k=4 then m.v4 else if k=5 then m.v5 else 0
def Ml.put(m:Ml)(k v:Int):Ml:=
 if k=1 then { m with h1:=true,v1:=v } else if k=2 then { m with h2:=true,v2:=v } else if k=3 then { m with h3:=true,v3:=v } else if k=4 then { m with h4:=true,v4:=v } else { m with h5:=true,v5:=v }
def k88(seq:Int)(m:Ml)(f:Fm):Ml:=
 if f.e≠0 then { m with bad:=m.bad+1 } else if f.s≠seq then { m with stale:=m.stale+1 } else if m.has f.k then { m with twice:=m.twice+1 } else m.put f.k f.v
theorem kRE{l:List Int}(h:(frV l).e=0):(frV l).k=1\/(frV l).k=2\/(frV l).k=3\/(frV l).k=4\/(frV l).k=5:=by
 unfold frV at *;split at h
 ·cases h
 ·split at h
  ·cases h
  ·split at h
   ·cases h
   ·split at h
    ·cases h
    ·rename_i h1 h2 h3 h4
     rw[if_neg h1,if_neg h2,if_neg h3,if_neg h4];have:=kA2 (l.getD 0 0);simp only;omega
def Ml.Few(m:Ml):Prop:=(0<=m.bad/\m.bad<=1000)/\(0<=m.stale/\m.stale<=1000)/\0<=m.twice/\m.twice<=1000
theorem kX3(l:List Int)(hl:k0H l)(h47:l.length<=1000000)(rs:List (List AV))(yL:rs=l.map k15)(seq:Int)(m:Ml)(hm:m.Few)(v:Ml)(hv:v=k88 seq m (frV l)) :
 k06 Tryz.prog 89 [.ref 0 16 0 0,seq,.list 1 rs] [.live 16 [m.row]] (λr h=>r = .tuple []/\∃j,h = .live 16 [v.row]::j):=by
 have hu:Up0 rs:=by rw[yL];exact k2R _
 obtain⟨f,ef⟩:=Z.e (frV l);have q1:=q0S l hl h47 rs yL f ef;have hk:f.e=0->f.k=1\/f.k=2\/f.k=3\/f.k=4\/f.k=5:=λh=>by rw[ef] at h ⊢;exact kRE h
 rw[<- ef] at hv;clear ef yL hl h47;obtain⟨fk,fs,fv,fe⟩:=f;obtain⟨h1,h2,h3,h4,h5,v1,v2,v3,v4,v5,bad,stale,twice,beyond⟩:=m;obtain⟨m1,m2,m3⟩:=hm;simp only at m1 m2 m3 hk;unfold k88 at hv;simp only at hv;by_cases he:fe=0
 rotate_left 1
 ·rw[if_pos he] at hv
  obtain⟨b',eb⟩:=Z.e (bad+1);rw[<- eb] at hv;subst hv;refine Z.x Tryz.func89 λzA _ _ _ _ _ _ zC zB _ _ _ _ hz P hP=>?_;cbv;have d1:=W.ne zB he;have a1:zA .add .i64 bad 1=b':=(by rw[zC,k0S Z.o Z.o,eb]);repeat' (first|(simp only[d1,a1];cbv)|(refine Call.s hP q1 ?_;cbv)|fail)
  exact⟨_,rfl⟩
 rw[if_neg (by simpa using he)] at hv;replace hk:=hk he;subst he;by_cases hs:fs=seq
 rotate_left 1
 ·rw[if_pos hs] at hv
  obtain⟨b',eb⟩:=Z.e (stale+1);rw[<- eb] at hv;subst hv;refine Z.x Tryz.func89 λzA _ _ _ _ _ _ zC zB _ _ _ _ hz P hP=>?_;cbv;have d1:=W.nne zB (a:=0) rfl;have d2:=W.ne zB hs;have a1:zA .add .i64 stale 1=b':=(by rw[zC,k0S Z.o Z.o,eb]);repeat' (first|(simp only[d1,d2,a1];cbv)|(refine Call.s hP q1 ?_;cbv)|fail)
  exact⟨_,rfl⟩
 rw[if_neg (by simpa using hs)] at hv;subst hs;obtain⟨t',et⟩:=Z.e (twice+1);rw[<- et] at hv;have hit:∀(d:Bool),(if d=true then (⟨h1,h2,h3,h4,h5,v1,v2,v3,v4,v5,bad,stale,t',beyond⟩:Ml) else Ml.put ⟨h1,h2,h3,h4,h5,v1,v2,v3,v4,v5,bad,stale,twice,beyond⟩ fk fv)=match d with|true=>⟨h1,h2,h3,h4,h5,v1,v2,v3,v4,v5,bad,stale,t',beyond⟩|false=>Ml.put ⟨h1,h2,h3,h4,h5,v1,v2,v3,v4,v5,bad,stale,twice,beyond⟩ fk fv:=λd=>by cases d<;>rfl
 rw[hit] at hv;clear hit;rcases hk with hk|hk|hk|hk|hk<;>subst hk
 ·cases h1<;>simp[Ml.has,Ml.put] at hv<;>subst hv<;>(
   refine Z.x Tryz.func89 λzA _ _ _ _ _ _ zC zB _ _ _ _ hz P hP=>?_;cbv;have d1:=W.nne zB (a:=0) rfl;have d2:=W.nne zB (a:=fs) rfl;have a1:zA .add .i64 twice 1=t':=(by rw[zC,k0S Z.o Z.o,et]);repeat' (first|(simp only[d1,d2,a1];cbv)|(refine Call.s hP q1 ?_;cbv)|(refine InN.mk Z.d Z.d ?_;(try cbv))|(refine And.intro ?_ ?_)|fail)
   all_goals exact⟨_,rfl⟩)
 ·cases h2<;>simp[Ml.has,Ml.put] at hv<;>subst hv<;>(
   refine Z.x Tryz.func89 λzA _ _ _ _ _ _ zC zB _ _ _ _ hz P hP=>?_;cbv;have d1:=W.nne zB (a:=0) rfl;have d2:=W.nne zB (a:=fs) rfl;have a1:zA .add .i64 twice 1=t':=(by rw[zC,k0S Z.o Z.o,et]);repeat' (first|(simp only[d1,d2,a1];cbv)|(refine Call.s hP q1 ?_;cbv)|(refine InN.mk Z.d Z.d ?_;(try cbv))|(refine And.intro ?_ ?_)|fail)
   all_goals exact⟨_,rfl⟩)
 ·cases h3<;>simp[Ml.has,Ml.put] at hv<;>subst hv<;>(
   refine Z.x Tryz.func89 λzA _ _ _ _ _ _ zC zB _ _ _ _ hz P hP=>?_;cbv;have d1:=W.nne zB (a:=0) rfl;have d2:=W.nne zB (a:=fs) rfl;have a1:zA .add .i64 twice 1=t':=(by rw[zC,k0S Z.o Z.o,et]);repeat' (first|(simp only[d1,d2,a1];cbv)|(refine Call.s hP q1 ?_;cbv)|(refine InN.mk Z.d Z.d ?_;(try cbv))|(refine And.intro ?_ ?_)|fail)
   all_goals exact⟨_,rfl⟩)
 ·cases h4<;>simp[Ml.has,Ml.put] at hv<;>subst hv<;>(
   refine Z.x Tryz.func89 λzA _ _ _ _ _ _ zC zB _ _ _ _ hz P hP=>?_;cbv;have d1:=W.nne zB (a:=0) rfl;have d2:=W.nne zB (a:=fs) rfl;have a1:zA .add .i64 twice 1=t':=(by rw[zC,k0S Z.o Z.o,et]);repeat' (first|(simp only[d1,d2,a1];cbv)|(refine Call.s hP q1 ?_;cbv)|(refine InN.mk Z.d Z.d ?_;(try cbv))|(refine And.intro ?_ ?_)|fail)
   all_goals exact⟨_,rfl⟩)
 ·cases h5<;>simp[Ml.has,Ml.put] at hv<;>subst hv<;>(
   refine Z.x Tryz.func89 λzA _ _ _ _ _ _ zC zB _ _ _ _ _ P hP=>?_;cbv;have d1:=W.nne zB (a:=0) rfl;have d2:=W.nne zB (a:=fs) rfl;have a1:zA .add .i64 twice 1=t':=(by rw[zC,k0S Z.o Z.o,et]);repeat' (first|(simp only[d1,d2,a1];cbv)|(refine Call.s hP q1 ?_;cbv)|(refine InN.mk Z.d Z.d ?_;(try cbv))|(refine And.intro ?_ ?_)|fail)
   all_goals exact⟨_,rfl⟩)
theorem kFE(m:Ml)(k:Int)(hk:k=1\/k=2\/k=3\/k=4\/k=5)(v:Int)(o:Bool)(hv:v=m.val k)(ho:o=m.has k):k02 Tryz.prog 98 [.agg m.row,k] (· = .tuple [v,o]):=by
 obtain⟨h1,h2,h3,h4,h5,v1,v2,v3,v4,v5,bad,stale,twice,beyond⟩:=m
 rcases hk with hk|hk|hk|hk|hk<;>subst hk<;>subst hv<;>subst ho<;>(
  refine Z.y Tryz.func98 λ_ _ _ _ _ _ _ _ zB _ _ _ _ hz R hR P hP=>?_;cbv;have d1:=W.nlt zB (show (0:Int)<=1 by decide);have d2:=W.nlt zB (show (0:Int)<=2 by decide);have d3:=W.nlt zB (show (0:Int)<=3 by decide);have d4:=W.nlt zB (show (0:Int)<=4 by decide);have d5:=W.nlt zB (show (0:Int)<=5 by decide);have f1:=W.nge zB (show (1:Int)<6 by decide);have f2:=W.nge zB (show (2:Int)<6 by decide);have f3:=W.nge zB (show (3:Int)<6 by decide);have f4:=W.nge zB (show (4:Int)<6 by decide);have f5:=W.nge zB (show (5:Int)<6 by decide);repeat' (first|(simp only[d1,d2,d3,d4,d5,f1,f2,f3,f4,f5];cbv)|(refine InN.mk Z.d Z.d ?_;cbv)|fail)
  exact Z.r hR)
theorem kR6{c:Int}(h0:0<=c)(h1:c<9223372036854775808):k05 .and .i64 c 255=c%256:=by
 show IntKind.i64.wrap (BitVec.ofInt 64 c &&& BitVec.ofInt 64 255).toNat=_;obtain⟨n,rfl⟩:=Int.eq_ofNat_of_zero_le h0;rw[show (255:Int)=((255:Nat):Int) from rfl,BitVec.ofInt_natCast,BitVec.ofInt_natCast,BitVec.toNat_and,BitVec.toNat_ofNat,BitVec.toNat_ofNat,Nat.mod_eq_of_lt Z.o,Nat.mod_eq_of_lt Z.d];have e:n &&& 255=n%256:=Nat.and_two_pow_sub_one_eq_mod n 8;rw[e,IntKind.wrap_i64];omega
def ml0(b:Int):Ml:=⟨false,false,false,false,false,0,0,0,0,0,0,0,0,b⟩
def k52(c:Int)(l:List (List Int)):Ml:=(l.take 32).foldl (λm b=>k88 (c%256) m (frV b)) (ml0 ((l.length:Int)-(l.take 32).length))
def Ml.FewN(m:Ml)(n:Int):Prop:=(0<=m.bad/\m.bad<=n)/\(0<=m.stale/\m.stale<=n)/\0<=m.twice/\m.twice<=n
theorem kPP{s:Int}{m:Ml}{f:Fm}{n:Int}(h:m.FewN n):(k88 s m f).FewN (n+1):=by
 unfold Ml.FewN at *;unfold k88;split
 ·simp only;omega
 ·split
  ·simp only;omega
  ·split
   ·simp only;omega
   ·unfold Ml.put
    split
    ·simp only;omega
    ·split
     ·simp only;omega
     ·split
      ·simp only;omega
      ·split<;>(simp only;omega)
theorem q0F(c:Int)(hc:0<=c/\c<=1099511627776)(l:List (List Int))(hl:∀b,b∈l->k0H b/\b.length<=1000000)(hll:l.length<=1000000)(rs:List (List AV))(yL:rs=l.map k73)(v:Ml)(hv:v=k52 c l) :
 k02 Tryz.prog 45 [c,.list 1 rs] (· = .agg v.row):=by
 have hu:Up0 rs:=by rw[yL];exact kCR _
 have hrl:rs.length=l.length:=by rw[yL];simp
 obtain⟨k,ek⟩:=Z.e (l.take 32);have hkl:k.length=min 32 l.length:=by rw[ek,List.length_take]
 obtain⟨ks,eks⟩:=Z.e (rs.take 32);have hks:ks=k.map k73:=by rw[eks,yL,ek,List.map_take]
 have huk:Up0 ks:=by rw[hks];exact kCR _
 have hksl:ks.length=k.length:=by rw[hks];simp
 obtain⟨n,en⟩:∃n:Int,n=k.length:=⟨_,rfl⟩;obtain⟨bn,ebn⟩:∃n:Int,n=(l.length:Int)-k.length:=⟨_,rfl⟩;obtain⟨s,es⟩:=Z.e (c%256);unfold k52 at hv;rw[<- ek,<- ebn,<- es] at hv;have hk:∀b,b∈k->k0H b/\b.length<=1000000:=λb hb=>hl b (by rw[ek] at hb;exact List.mem_of_mem_take hb);have hnN:n.toNat=k.length:=by omega
 have hn32:0<=n/\n<=32:=by omega
 obtain⟨ll,ell⟩:∃x:Int,x=l.length:=⟨_,rfl⟩;have hbN:bn=ll-n/\ll.toNat=l.length/\0<=ll:=by omega
 clear hl ek ell;(refine k02.ofY Tryz.func45 (by kernel_rfl) (by kernel_rfl) (Z.w λzA _ _ _ _ _ yR _ _ _ _ _ zV _ _ zM _ _ _ _ hw zC zB _ _ _ _ yU _ _ _ _ _ zE _ _ yD _ _ _ _ hz R hR=>?_));(conv=>arg 2;cbv);(generalize hP:Tryz.prog=P);cbv;obtain⟨L,eL,L0,Ln⟩:=Z.l zE rs;have hLb:L-n=bn:=by omega
 have a0:yR false L 32=n:=by rw[yU,kP6];omega
 have a1:zA .sub .i64 L n=bn:=by rw[zC,k3I Z.o Z.o,hLb]
 have a2:zA .and .i64 c 255=s:=by rw[zC,kR6 hc.1 Z.o,es]
 have t1:zM rs n=ks:=by
  rw[yD,eks];show List.take n.toNat rs=List.take 32 rs;by_cases h:32<=l.length
  ·rw[show n.toNat=32 by omega]
  ·rw[List.take_of_length_le Z.o,List.take_of_length_le Z.o]
 clear en ebn eks yL;simp only[eL,a0,a1];cbv;refine Nn.mk hn32.1 ?_;refine Le.mk Z.o ?_;simp only[t1];have lk:zV ks=n:=by rw[zE];show (ks.length:Int)=n;omega
 simp only[lk];clear lk
 refine k1Q.data hw (S:=Int×Ml) (λq=>fr 31 [(0,c),(4,.ref 0 16 0 0),(6,.ref 1 16 0 0),(19,.list 1 ks),(20,n),(21,q.1)])
  (λq=>[.live 16 [(ml0 0).row],.live 16 [q.2.row]])
  (λq=>0<=q.1/\q.1<=n/\q.2=(k.take q.1.toNat).foldl (λm b=>k88 s m (frV b)) (ml0 bn)/\q.2.FewN q.1) (λq=>(n-q.1).toNat) (0,ml0 bn) Z.i ⟨Int.le_refl _,hn32.1,rfl,by simp only[Ml.FewN,ml0];omega⟩ ?_
 rintro⟨i,m⟩ zJ Q' hN hE hR'
 obtain⟨yJ,yZ,hm,hfew⟩:=zJ;simp only at yJ yZ hm hfew;by_cases yH:i<n
 ·obtain⟨b,hb⟩:∃b,k[i.toNat]?=some b:=⟨_,List.getElem?_eq_getElem (show i.toNat<k.length by omega)⟩
  obtain⟨i2,ei2⟩:=Z.e (i+1);have htk:k.take i2.toNat=k.take i.toNat++[b]:=(by rw[ei2];exact kCS yJ hb);obtain⟨w,ew⟩:=Z.e (k88 s m (frV b));have hw2:w=(k.take i2.toNat).foldl (λm b=>k88 s m (frV b)) (ml0 bn):=(by rw[htk,List.foldl_append,<- hm,ew];rfl);have hfew2:w.FewN i2:=(by rw[ew,ei2];exact kPP hfew);obtain⟨bs,ebs⟩:=Z.e (b.map k15);have hub:Up0 bs:=(by rw[ebs];exact k2R _);have hbk:=hk b (List.mem_of_getElem? hb);have zL:ks[i.toNat]?=some [.list 1 bs]:=(by rw[hks,List.getElem?_map,hb,ebs];rfl);have q1:=kX3 b hbk.1 hbk.2 bs ebs s m (by unfold Ml.Few;unfold Ml.FewN at hfew;omega) w ew;have hum:∀m:Ml,Up0 [m.row]:=λm=>⟨rfl⟩;have hT:(n-i2).toNat<(n-i).toNat:=(by omega);clear hm ew htk hb hk hks ebs;have d1:=W.lt zB yH;have a4:zA .add .i64 i 1=i2:=(by rw[zC,k0S Z.o Z.o,ei2]);obtain⟨p1,p2,p3,p4,p5,x1,x2,x3,x4,x5,bad,stale,twice,beyond⟩:=m;obtain⟨p1',p2',p3',p4',p5',x1',x2',x3',x4',x5',bad',stale',twice',beyond'⟩:=w;cbv;repeat' (first|(simp only[d1];cbv)|(refine Idx.mk _ yJ zL ?_;cbv)|fail)
  simp only[a2];refine Call.of (k06.one (s:=1) (by rw[<- hP];exact q1) (hum _) rfl (by first|rfl|(repeat' (first|exact rfl|assumption|refine uc ?_ ?_|exact k76 1 _ (ul Z.m)|refine ua ?_))) (by simp only[k4C,AV.ren,k2W hub]) ?_);rintro r hD ⟨rfl,j,rfl⟩;refine⟨rfl,_,_,rfl,hum _,?_⟩;cbv;simp only[a4];refine hN (i2,⟨p1',p2',p3',p4',p5',x1',x2',x3',x4',x5',bad',stale',twice',beyond'⟩) _ _ ?hx ?hi hT
  case hx=>exact Z.i
  case hi=>exact⟨by simp only;omega,by simp only;omega,hw2,hfew2⟩
 ·have d1:=W.nlt zB (show n<=i by omega)
  have hvm:v=m:=(by rw[hv,hm,List.take_of_length_le Z.o]);subst hvm;clear hv hm hfew hk;obtain⟨p1,p2,p3,p4,p5,x1,x2,x3,x4,x5,bad,stale,twice,beyond⟩:=v;cbv;simp only[d1];cbv;refine hE _ _ _ ?_;cbv;exact Z.r hR
structure Cf where
 c0:Int
 c1:Int
 c2:Int
 c3:Int
 c4:Int
 c5:Int
 c6:Int
 c7:Int
 c8:Int
 c9:Int
 c10:Int
 c11:Int
 c12:Int
 c13:Int
structure Pz where
 lo:Int
 hi:Int
 est:Int
 fr:Int
 rs:List (List AV)
structure Nv where
 c:Cf
 es:List (List AV)
 ds:List (List AV)
 cy:Int
 g0:Int
 g1:Int
 os:List (List AV)
 k0:Ct
 k1:Ct
 a0:Int
 b0:Int
 a1:Int
 b1:Int
 lo:Int
 hi:Int
 di:Int
 on:Bool
 gr:Int
 p:Pz
 cl:Bool
 o0:Int
 o1:Int
 s0:Int
 s1:Int
 sc:Int
 so:Bool
 ra:Bool
 ro:Bool
 m0:Int
 m1:Int
 w:Wt
def Nv.row(n:Nv):List AV:=jz n.c.c0::jz n.c.c1::jz n.c.c2::jz n.c.c3::jz n.c.c4::jz n.c.c5::jz n.c.c6::jz n.c.c7::jz n.c.c8::jz n.c.c9::jz n.c.c10::jz n.c.c11::jz n.c.c12::jz n.c.c13 ::
 .list 3 n.es :: .list 5 n.ds :: .bool false::jz n.cy::jz n.g0::jz n.g1 :: .list 1 n.os :: .bool n.k0.kn :: .int .u16 n.k0.la::jz n.k0.su::[.bool n.k1.kn,.int .u16 n.k1.la,jz n.k1.su,jz n.a0,jz n.b0,jz n.a1,jz n.b1,jz n.lo,jz n.hi,jz n.di,
 .bool n.on,jz n.gr,jz n.p.lo,jz n.p.hi,jz n.p.est,jz n.p.fr,.list 13 n.p.rs,.bool n.cl,jz n.o0,jz n.o1,jz n.s0,jz n.s1,jz n.sc,.bool n.so,.bool n.ra,.bool n.ro,jz n.m0,jz n.m1,jz n.w.si,jz n.w.st,.bool n.w.fa]
structure NvU(n:Nv):Prop where
 es:Up0 n.es
 ds:Up0 n.ds
 os:Up0 n.os
 rs:Up0 n.p.rs
theorem NvU.row{n:Nv}(h:NvU n):Up0 [n.row]:=by
 obtain⟨h1,h2,h3,h4⟩:=h;exact⟨by simp only[Nv.row,k18,k0Q,AV.upto,h1.get,h2.get,h3.get,h4.get];rfl⟩
def kPR(n:Nv)(m:Ml):Nv×Bool×Int×Int:=
 let p:=pnV n.k0 (m.val 1) (m.has 1)
 ({ n with k0:=p.1 },p.2.2,if p.2.2 then kE9 p.2.1 n.a0 n.b0 n.c.c0 else 0,if p.2.2 then kEA p.2.1 n.a0 n.b0 n.c.c0 else 0)
def kPQ(n:Nv)(m:Ml):Nv×Bool×Int×Int:=
 let p:=pnV n.k1 (m.val 2) (m.has 2)
 ({ n with k1:=p.1 },p.2.2,if p.2.2 then kE9 p.2.1 n.a1 n.b1 n.c.c0 else 0,if p.2.2 then kEA p.2.1 n.a1 n.b1 n.c.c0 else 0)
theorem q0E(n:Nv)(hu:NvU n)(m:Ml)(hc:1<=n.c.c0/\n.c.c0<=1024)(hci:0<n.a0/\n.a0<=n.b0/\n.b0<=8388608)(hsu: -1099511627776<=n.k0.su/\n.k0.su<=1099511627776)(hv:m.has 1=true->0<=m.val 1/\m.val 1<=65535)(v:Nv)(f:Bool)(l h:Int)(e:(v,f,l,h)=kPR n m) :
 k06 Tryz.prog 90 [.ref 0 55 0 0,jz 0,.agg m.row] [.live 55 [n.row]] (λr hp=>r = .agg [f,l,h]/\∃j,hp = .live 55 [v.row]::j):=by
 obtain⟨x,ex⟩:=Z.e (m.val 1);obtain⟨has,eh⟩:=Z.e (m.has 1);have q1:=kFE m 1 (.inl rfl) x has ex eh;rw[<- ex,<- eh] at hv;obtain⟨⟨⟨kn',la',su'⟩,d,o⟩,ek⟩:∃k:Ct×Int×Bool,k=pnV n.k0 x has:=⟨_,rfl⟩;have q2:=kNY n.k0 x has hv hsu _ d o ek
 have hd:o=true -> -32768<=d/\d<=32767:=λho=>by
  unfold pnV at ek;split at ek
  ·cases ek;cases ho
  ·split at ek
   ·cases ek;cases ho
   ·simp only[Prod.mk.injEq] at ek;rw[ek.2.1];unfold kSL;omega
 unfold kPR at e;rw[<- ex,<- eh,<- ek] at e;simp only[Prod.mk.injEq] at e;obtain⟨e1,e2,e3,e4⟩:=e;obtain⟨⟨c0,c1,c2,c3,c4,c5,c6,c7,c8,c9,c10,c11,c12,c13⟩,es,ds,cy,g0,g1,os,⟨kn0,la0,su0⟩,⟨kn1,la1,su1⟩,a0,b0,a1,b1,lo,hi,di,on,gr,⟨pl,ph,pe,fr,rs⟩,cl,o0,o1,s0,s1,sc,so,ra,ro,m0,m1,⟨wi,wt,wf⟩⟩:=n;simp only at hc hci q2 e1 e3 e4;have hup:NvU ⟨⟨c0,c1,c2,c3,c4,c5,c6,c7,c8,c9,c10,c11,c12,c13⟩,es,ds,cy,g0,g1,os,⟨kn0,la0,su0⟩,⟨kn1,la1,su1⟩,a0,b0,a1,b1,lo,hi,di,on,gr,⟨pl,ph,pe,fr,rs⟩,cl,o0,o1,s0,s1,sc,so,ra,ro,m0,m1,⟨wi,wt,wf⟩⟩:=hu;clear ex eh ek hv hsu;obtain⟨p1,p2,p3,p4,p5,x1,x2,x3,x4,x5,bad,stale,twice,beyond⟩:=m
 cases o with
 | false =>
   simp only[Bool.false_eq_true,if_false] at e3 e4;subst e1 e2 e3 e4;refine Z.x Tryz.func90 λzA _ _ _ zF _ _ zC _ _ _ zI _ hz P hP=>?_;cbv;have a1:zA .add .i64 1 0=1:=(by rw[zC];rfl);have n1:zF false=true:=(by rw[zI];rfl);repeat' (first|(simp only[n1,a1];cbv)|(refine Call.s hP q1 ?_;cbv)|(refine Call.s hP q2 ?_;cbv)|(refine InN.mk Z.d Z.d ?_;(try cbv))|(refine And.intro ?_ ?_)|fail)
   all_goals exact⟨_,rfl⟩
 | true =>
   simp only[if_true] at e3 e4;have hd:=hd rfl;have q3:=kNT (p:=c0) hd.1 hd.2 hci.1 hci.2.1 hci.2.2 hc.1 hc.2 e3 e4;subst e1 e2;clear e3 e4;refine Z.x Tryz.func90 λzA _ _ _ zF _ _ zC _ _ _ zI _ hz P hP=>?_;cbv;have a1:zA .add .i64 1 0=1:=(by rw[zC];rfl);have n1:zF true=false:=(by rw[zI];rfl);repeat' (first|(simp only[n1,a1];cbv)|(refine Call.s hP q1 ?_;cbv)|(refine Call.s hP q2 ?_;cbv)|(refine k1R.s hP q3 ?_;cbv)|(refine InN.mk Z.d Z.d ?_;(try cbv))|(refine And.intro ?_ ?_)|fail)
   all_goals exact⟨_,rfl⟩
theorem q0D(n:Nv)(hu:NvU n)(m:Ml)(hc:1<=n.c.c0/\n.c.c0<=1024)(hci:0<n.a1/\n.a1<=n.b1/\n.b1<=8388608)(hsu: -1099511627776<=n.k1.su/\n.k1.su<=1099511627776)(hv:m.has 2=true->0<=m.val 2/\m.val 2<=65535)(v:Nv)(f:Bool)(l h:Int)(e:(v,f,l,h)=kPQ n m) :
 k06 Tryz.prog 90 [.ref 0 55 0 0,jz 1,.agg m.row] [.live 55 [n.row]] (λr hp=>r = .agg [f,l,h]/\∃j,hp = .live 55 [v.row]::j):=by
 obtain⟨x,ex⟩:=Z.e (m.val 2);obtain⟨has,eh⟩:=Z.e (m.has 2);have q1:=kFE m 2 (.inr (.inl rfl)) x has ex eh;rw[<- ex,<- eh] at hv;obtain⟨⟨⟨kn',la',su'⟩,d,o⟩,ek⟩:∃k:Ct×Int×Bool,k=pnV n.k1 x has:=⟨_,rfl⟩;have q2:=kNY n.k1 x has hv hsu _ d o ek
 have hd:o=true -> -32768<=d/\d<=32767:=λho=>by
  unfold pnV at ek;split at ek
  ·cases ek;cases ho
  ·split at ek
   ·cases ek;cases ho
   ·simp only[Prod.mk.injEq] at ek;rw[ek.2.1];unfold kSL;omega
 unfold kPQ at e;rw[<- ex,<- eh,<- ek] at e;simp only[Prod.mk.injEq] at e;obtain⟨e1,e2,e3,e4⟩:=e;obtain⟨⟨c0,c1,c2,c3,c4,c5,c6,c7,c8,c9,c10,c11,c12,c13⟩,es,ds,cy,g0,g1,os,⟨kn0,la0,su0⟩,⟨kn1,la1,su1⟩,a0,b0,a1,b1,lo,hi,di,on,gr,⟨pl,ph,pe,fr,rs⟩,cl,o0,o1,s0,s1,sc,so,ra,ro,m0,m1,⟨wi,wt,wf⟩⟩:=n;simp only at hc hci q2 e1 e3 e4;have hup:NvU ⟨⟨c0,c1,c2,c3,c4,c5,c6,c7,c8,c9,c10,c11,c12,c13⟩,es,ds,cy,g0,g1,os,⟨kn0,la0,su0⟩,⟨kn1,la1,su1⟩,a0,b0,a1,b1,lo,hi,di,on,gr,⟨pl,ph,pe,fr,rs⟩,cl,o0,o1,s0,s1,sc,so,ra,ro,m0,m1,⟨wi,wt,wf⟩⟩:=hu;clear ex eh ek hv hsu;obtain⟨p1,p2,p3,p4,p5,x1,x2,x3,x4,x5,bad,stale,twice,beyond⟩:=m
 cases o with
 | false =>
   simp only[Bool.false_eq_true,if_false] at e3 e4;subst e1 e2 e3 e4;refine Z.x Tryz.func90 λzA _ _ _ zF _ _ zC _ _ _ zI _ hz P hP=>?_;cbv;have a1:zA .add .i64 1 1=2:=(by rw[zC];rfl);have n1:zF false=true:=(by rw[zI];rfl);repeat' (first|(simp only[n1,a1];cbv)|(refine Call.s hP q1 ?_;cbv)|(refine Call.s hP q2 ?_;cbv)|(refine InN.mk Z.d Z.d ?_;(try cbv))|(refine And.intro ?_ ?_)|fail)
   all_goals exact⟨_,rfl⟩
 | true =>
   simp only[if_true] at e3 e4;have hd:=hd rfl;have q3:=kNT (p:=c0) hd.1 hd.2 hci.1 hci.2.1 hci.2.2 hc.1 hc.2 e3 e4;subst e1 e2;clear e3 e4;refine Z.x Tryz.func90 λzA _ _ _ zF _ _ zC _ _ _ zI _ _ P hP=>?_;cbv;have a1:zA .add .i64 1 1=2:=(by rw[zC];rfl);have n1:zF true=false:=(by rw[zI];rfl);repeat' (first|(simp only[n1,a1];cbv)|(refine Call.s hP q1 ?_;cbv)|(refine Call.s hP q2 ?_;cbv)|(refine k1R.s hP q3 ?_;cbv)|(refine InN.mk Z.d Z.d ?_;(try cbv))|(refine And.intro ?_ ?_)|fail)
   all_goals exact⟨_,rfl⟩
def kTB(n:Nv)(m:Ml):Bool×Int×Int:=if m.has 3 then (true,m.val 3-kRI n.c.c3 n.c.c4 (m.val 3),m.val 3+kRI n.c.c3 n.c.c4 (m.val 3)) else (false,0,0)
theorem kS2(n:Nv)(m:Ml)(h3:0<=n.c.c3/\n.c.c3<=1048576)(h4:0<=n.c.c4/\n.c.c4<=65536)(hv:m.has 3=true -> -2147483648<=m.val 3/\m.val 3<=2147483648)(f:Bool)(l h:Int)(e:(f,l,h)=kTB n m) :
 k06 Tryz.prog 91 [.ref 0 55 0 0,.agg m.row] [.live 55 [n.row]] (λr hp=>r = .agg [f,l,h]/\∃j,hp = .live 55 [n.row]::j):=by
 obtain⟨x,ex⟩:=Z.e (m.val 3);obtain⟨has,eh⟩:=Z.e (m.has 3);have q1:=kFE m 3 (.inr (.inr (.inl rfl))) x has ex eh;unfold kTB at e;rw[<- ex,<- eh] at e hv;obtain⟨⟨c0,c1,c2,c3,c4,c5,c6,c7,c8,c9,c10,c11,c12,c13⟩,es,ds,cy,g0,g1,os,⟨kn0,la0,su0⟩,⟨kn1,la1,su1⟩,a0,b0,a1,b1,lo,hi,di,on,gr,⟨pl,ph,pe,fr,rs⟩,cl,o0,o1,s0,s1,sc,so,ra,ro,m0,m1,⟨wi,wt,wf⟩⟩:=n;simp only at h3 h4 e;clear ex eh;obtain⟨p1,p2,p3,p4,p5,x1,x2,x3,x4,x5,bad,stale,twice,beyond⟩:=m
 cases has with
 | false =>
   simp only[Bool.false_eq_true,if_false,Prod.mk.injEq] at e;obtain⟨rfl,rfl,rfl⟩:=e;clear hv;refine Z.x Tryz.func91 λ_ _ _ _ zF _ _ _ _ _ _ zI _ hz P hP=>?_;cbv;have n1:zF false=true:=(by rw[zI];rfl);repeat' (first|(simp only[n1];cbv)|(refine Call.s hP q1 ?_;cbv)|fail)
   exact⟨_,rfl⟩
 | true =>
   simp only[if_true,Prod.mk.injEq] at e;obtain⟨rfl,e1,e2⟩:=e;have q2:=kWW c0 c1 c2 c3 c4 c5 c6 c7 c8 c9 c10 c11 c12 c13 x l h h3 h4 (hv rfl) e1.symm e2.symm;clear e1 e2 hv;refine Z.x Tryz.func91 λ_ _ _ _ zF _ _ _ _ _ _ zI _ _ P hP=>?_;cbv;have n1:zF true=false:=(by rw[zI];rfl);repeat' (first|(simp only[n1];cbv)|(refine Call.s hP q1 ?_;cbv)|(refine Call.s hP q2 ?_;cbv)|fail)
   exact⟨_,rfl⟩
end Go.Proofs.YtlchlddijclhjaaGreat
