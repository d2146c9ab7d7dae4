/- Parts of the proofs. -/
import Derived.KernelRfl
import Derived.Test.YtlchlddijclhjaaGreatS7
import Derived.Test.YtlchlddijclhjaaGreatS9
import Derived.Test.YtlchlddijclhjaaGreatS8
import Derived.Test.YtlchlddijclhjaaGreatSZ
set_option linter.unusedVariables false
set_option linter.unusedSimpArgs false
set_option maxHeartbeats 4000000
namespace Go.Proofs.YtlchlddijclhjaaGreat
open Go Go.RowKit Go.Eng
set_option maxRecDepth 100000
theorem kKK(n:Int):IntKind.u64.wrap n=n%18446744073709551616:=by rw[IntKind.wrap_u64]
theorem kL7{x:Int}{n:Nat}(h:n<=63):k05 .shl .u64 x n=x*2 ^ n%18446744073709551616:=by
 show IntKind.u64.wrap (x*2 ^ (min ((n:Int).toNat) 64))=_;rw[kKK,Int.toNat_natCast,Nat.min_eq_left Z.o]
theorem kL6{x:Int}{n:Nat}(h:n<=64):k05 .shr .u64 x n=x/2 ^ n:=by
 show x.fdiv (2 ^ (min ((n:Int).toNat) 64))=_;rw[Int.toNat_natCast,Nat.min_eq_left h,Int.fdiv_eq_ediv_of_nonneg _ (Int.le_of_lt (Int.pow_pos Z.d))]
theorem kUF{x y:Int}:k05 .sub .u64 x y=(x-y)%18446744073709551616:=kKK _
theorem kL8{x:Int}(h0:0<=x)(h1:x<18446744073709551616):IntKind.u64.wrap x=x:=by rw[kKK];omega
theorem kAF{x y:Int}(hx0:0<=x)(hx1:x<18446744073709551616)(hy0:0<=y)(hy1:y<2)(he:x%2=0):k05 .or .u64 x y=x+y:=by
 obtain⟨q,hq⟩:∃q:Nat,x=2 ^ 1*q:=⟨(x/2).toNat,by omega⟩;rw[hq];exact q1Q hy0 Z.o Z.o
theorem kYZ{x:Int}(h0:0<=x)(h1:x<18446744073709551616):k05 .and .u64 x 1=x%2:=by
 show IntKind.u64.wrap (BitVec.ofInt 64 x &&& BitVec.ofInt 64 1).toNat=_;rw[BitVec.toNat_and,k9V h0 h1,k9V Z.d Z.d];have e:x.toNat &&& (1:Int).toNat=x.toNat%2:=Nat.and_one_is_mod _;rw[e,kKK];omega
theorem kPG{x y:Int}(hx0:0<=x)(hx1:x<18446744073709551616)(hy0:0<=y)(hy1:y<18446744073709551616)(he:y%2=0):0<=k05 .or .u64 x y/\k05 .or .u64 x y<18446744073709551616/\k05 .or .u64 x y%2=x%2:=by
 have e0:k05 .or .u64 x y=(((x.toNat ||| y.toNat:Nat):Int))%18446744073709551616:=by
  show IntKind.u64.wrap (BitVec.ofInt 64 x ||| BitVec.ofInt 64 y).toNat=_;rw[BitVec.toNat_or,k9V hx0 hx1,k9V hy0 hy1,kKK]
 have h1:(x.toNat ||| y.toNat)%2=x.toNat%2:=by
  have:=Nat.or_mod_two_pow (a:=x.toNat) (b:=y.toNat) (n:=1);rw[show (2:Nat) ^ 1=2 from rfl] at this;rw[this,show y.toNat%2=0 by omega,Nat.or_zero]
 rw[e0];omega
theorem kTQ(h l a b:Int)(h0:0<=h)(h1:h<18446744073709551616)(l0:0<=l)(l1:l<18446744073709551616)(ea:a=(h*2+l/9223372036854775808)%18446744073709551616)(eb:b=l*2%18446744073709551616):k02 Tryz.prog 265 [.agg [.int .u64 h,.int .u64 l],jz 1] (· = .agg [.int .u64 a,.int .u64 b]):=by
 refine Z.y Tryz.func265 λzA zG _ zD _ _ _ zC zB _ zH _ _ hz R hR P hP=>?_;cbv;have c1:zG .leq 1 0=false:=by rw[zB];rfl
 have c2:zG .geq 1 64=false:=by rw[zB];rfl
 have v1:zD .u64 1=1:=by rw[zH];rfl
 have v2:zA .sub .i64 64 1=63:=by rw[zC];rfl
 have v3:zD .u64 63=63:=by rw[zH];rfl
 have v4:zA .shl .u64 h 1=h*2%18446744073709551616:=by rw[zC];exact kL7 (n:=1) Z.d
 have v5:zA .shl .u64 l 1=b:=by rw[zC,eb];exact kL7 (n:=1) Z.d
 have v6:zA .shr .u64 l 63=l/9223372036854775808:=by rw[zC];exact kL6 (n:=63) Z.d
 have v7:zA .or .u64 (zA .shl .u64 h 1) (zA .shr .u64 l 63)=a:=by rw[v4,v6,zC,kAF Z.o Z.o Z.o Z.o Z.o,ea];omega
 repeat' (first
  | (simp only[c1];cbv)
  | (simp only[c2];cbv)
  | (simp only[v1,v2,v3];cbv)
  | (refine Nn.mk Z.d ?_)
  | (simp only[v7,v5]))
 exact Z.r hR
def kVD(h l i:Int):Int×Int:=if i=0 then (h,l) else if 64<=i then (0,k05 .shr .u64 h (i-64)) else (k05 .shr .u64 h i,k05 .or .u64 (k05 .shr .u64 l i) (k05 .shl .u64 h (64-i)))
theorem kVC(h l i:Int)(h0:0<=h)(h1:h<18446744073709551616)(l0:0<=l)(l1:l<18446744073709551616)(i0:0<=i)(i1:i<=127):0<=(kVD h l i).2/\(kVD h l i).2<18446744073709551616/\(kVD h l i).2%2=(h*18446744073709551616+l)/2 ^ i.toNat%2:=by
 unfold kVD;by_cases hi:i=0
 ·subst hi
  refine⟨l0,l1,?_⟩;show l%2=_/1%2;omega
 rw[if_neg hi];obtain⟨n,rfl⟩:∃n:Nat,i=n:=⟨i.toNat,by omega⟩;by_cases h64:(64:Int)<=n
 ·rw[if_pos h64]
  obtain⟨m,em⟩:∃m:Nat,n=m+64:=⟨n-64,by omega⟩;have e0:(n:Int)-64=m:=(by omega);have e2:k05 .shr .u64 h m=h/2 ^ m:=kL6 Z.o;rw[e0];simp only[e2];refine⟨Int.ediv_nonneg h0 (Int.le_of_lt (Int.pow_pos Z.d)),?_,?_⟩
  ·have:=Int.ediv_le_self (2 ^ m) h0
   omega
  ·have e1:(h*18446744073709551616+l)/2 ^ n=h/2 ^ m:=by
    rw[em,Int.pow_add,Int.mul_comm (2 ^ m),<- Int.ediv_ediv_of_nonneg (show (0:Int)<=2 ^ 64 by decide)];congr 1
    show _/18446744073709551616=h;omega
   rw[Int.toNat_natCast,e1]
 ·rw[if_neg h64]
  obtain⟨k,ek⟩:∃k:Nat,k+1+n=64:=⟨63-n,by omega⟩;have e0:(64:Int)-n=((k+1:Nat):Int):=(by omega);have hpm:(2:Int) ^ (k+1)=2*2 ^ k:=(by rw[Int.pow_succ,Int.mul_comm]);have e2:k05 .shr .u64 l n=l/2 ^ n:=kL6 Z.o;have e3:k05 .shl .u64 h ((k+1:Nat):Int)=h*2 ^ (k+1)%18446744073709551616:=kL7 Z.o;have hx0:0<=l/2 ^ n:=Int.ediv_nonneg l0 (Int.le_of_lt (Int.pow_pos Z.d))
  have hx1:l/2 ^ n<18446744073709551616:=by
   have:=Int.ediv_le_self (2 ^ n) l0;omega
  have hy2:(h*2 ^ (k+1)%18446744073709551616)%2=0:=by
   rw[hpm,show h*(2*2 ^ k)=2*(h*2 ^ k) by rw[Int.mul_left_comm]];omega
  obtain⟨g1,g2,g3⟩:=kPG hx0 hx1 (y:=h*2 ^ (k+1)%18446744073709551616) Z.o Z.o hy2;rw[e0,e2,e3];refine⟨g1,g2,?_⟩;have e1:(18446744073709551616:Int)=2 ^ (k+1)*2 ^ n:=(by rw[<- Int.pow_add,ek];rfl);have hpn:(2:Int) ^ n≠0:=Int.ne_of_gt (Int.pow_pos Z.d)
  have e4:(h*18446744073709551616+l)/2 ^ n=h*2 ^ (k+1)+l/2 ^ n:=by
   rw[e1,<- Int.mul_assoc,Int.add_comm,Int.add_mul_ediv_right _ _ hpn,Int.add_comm]
  show k05 .or .u64 _ _%2=_;rw[g3,Int.toNat_natCast,e4,hpm,show h*(2*2 ^ k)=2*(h*2 ^ k) by rw[Int.mul_left_comm]];omega
theorem q2F(h l i a b:Int)(i0:0<=i)(i1:i<=127)(hab:kVD h l i=(a,b)):k02 Tryz.prog 266 [.agg [.int .u64 h,.int .u64 l],i] (· = .agg [.int .u64 a,.int .u64 b]):=by
 unfold kVD at hab;by_cases hi:i=0
 ·rw[if_pos hi] at hab
  subst hi;obtain⟨rfl,rfl⟩:=Prod.mk.inj hab;refine Z.y Tryz.func266 λ_ zG _ _ _ _ _ _ zB _ _ _ _ hz R hR P hP=>?_;cbv;have c1:zG .leq 0 0=true:=(by rw[zB];rfl);simp only[c1];cbv;exact Z.r hR
 rw[if_neg hi] at hab;by_cases h64:(64:Int)<=i
 ·rw[if_pos h64] at hab
  obtain⟨rfl,hb⟩:=Prod.mk.inj hab;obtain⟨im,eim⟩:=Z.e (i-64);rw[<- eim] at hb;refine Z.y Tryz.func266 λzA zG _ zD _ _ _ zC zB _ zH _ _ hz R hR P hP=>?_;cbv;have c1:zG .leq i 0=false:=(by rw[zB];simp[k04];omega);have c2:zG .geq i 64=true:=(by rw[zB];simp[k04];omega);have v1:zA .sub .i64 i 64=im:=(by rw[zC,k3I Z.o Z.o];omega);have v2:zD .u64 im=im:=(by rw[zH];exact kL8 Z.o Z.o);have v3:zA .shr .u64 h im=b:=by rw[zC];exact hb
  repeat' (first
   | (simp only[c1];cbv)
   | (simp only[c2];cbv)
   | (simp only[v1];cbv)
   | (simp only[v2];cbv)
   | (refine Nn.mk Z.o ?_)
   | (simp only[v3]))
  exact Z.r hR
 ·rw[if_neg h64] at hab
  obtain⟨ha,hb⟩:=Prod.mk.inj hab;obtain⟨im,eim⟩:=Z.e (64-i);obtain⟨x,ex⟩:=Z.e (k05 .shr .u64 l i);obtain⟨y,ey⟩:=Z.e (k05 .shl .u64 h im);rw[<- eim,<- ey,<- ex] at hb;refine Z.y Tryz.func266 λzA zG _ zD _ _ _ zC zB _ zH _ _ hz R hR P hP=>?_;cbv;have c1:zG .leq i 0=false:=(by rw[zB];simp[k04];omega);have c2:zG .geq i 64=false:=(by rw[zB];simp[k04];omega);have v1:zA .sub .i64 64 i=im:=(by rw[zC,k3I Z.o Z.o];omega);have v2:zD .u64 im=im:=(by rw[zH];exact kL8 Z.o Z.o);have v3:zD .u64 i=i:=(by rw[zH];exact kL8 Z.o Z.o);have v4:zA .shr .u64 l i=x:=(by rw[zC];exact ex.symm);have v5:zA .shl .u64 h im=y:=(by rw[zC];exact ey.symm);have v6:zA .or .u64 x y=b:=(by rw[zC];exact hb);have v7:zA .shr .u64 h i=a:=by rw[zC];exact ha
  repeat' (first
   | (simp only[c1];cbv)
   | (simp only[c2];cbv)
   | (simp only[v1];cbv)
   | (simp only[v2];cbv)
   | (simp only[v3];cbv)
   | (refine Nn.mk Z.o ?_)
   | (simp only[v4,v5,v7])
   | (simp only[v6]))
  exact Z.r hR
theorem q09(h l d r:Int)(h0:0<=h)(h1:h<2)(l0:0<=l)(l1:l<18446744073709551616)(d0:0<=d)(d1:d<18446744073709551616)(hge:d<=h*18446744073709551616+l)(hr:r=h*18446744073709551616+l-d)(hr1:r<18446744073709551616):k02 Tryz.prog 267 [.agg [.int .u64 h,.int .u64 l],.agg [.int .u64 0,.int .u64 d]] (· = .tuple [.agg [.int .u64 0,.int .u64 r],.bool false]):=by
 obtain⟨c,hc,hc2⟩:∃c:Int,((h*18446744073709551616+l<0*18446744073709551616+d/\c = -1)\/(h*18446744073709551616+l=0*18446744073709551616+d/\c=0)\/(0*18446744073709551616+d<h*18446744073709551616+l/\c=1))/\0<=c:=by
  by_cases e:h*18446744073709551616+l=d
  ·exact⟨0,.inr (.inl ⟨by omega,rfl⟩),by decide⟩
  ·exact⟨1,.inr (.inr ⟨by omega,rfl⟩),by decide⟩
 have hcmp':=kSH l0 l1 d0 d1 hc;refine Z.y Tryz.func267 λzA zG _ _ _ _ _ zC zB _ _ _ _ _ R hR P hP=>?_;cbv;have v1:zA .sub .u64 h 0=h:=by rw[zC,kUF];omega
 have v2:zA .sub .u64 l d=r:=by rw[zC,kUF];omega
 have cc:zG .lss c 0=false:=by rw[zB];simp[k04];omega
 by_cases hld:l<d
 ·have c1:zG .lss l d=true:=by rw[zB];simp[k04,hld]
  have v3:zA .sub .u64 h 1=0:=by rw[zC,kUF];omega
  repeat' (first
   | (simp only[c1];cbv)
   | (simp only[v1,v2];cbv)
   | (simp only[v3];cbv)
   | (refine And.intro ?_ ?_)
   | (refine Call.stepE (by rw[<- hP];exact hcmp') rfl ?_;cbv)
   | (simp only[cc])
   | (exact Z.r hR))
 ·have c1:zG .lss l d=false:=by rw[zB];simp[k04,hld]
  have v3:h=0:=(by omega);subst v3
  repeat' (first
   | (simp only[c1];cbv)
   | (simp only[v1,v2];cbv)
   | (refine And.intro ?_ ?_)
   | (refine Call.stepE (by rw[<- hP];exact hcmp') rfl ?_;cbv)
   | (simp only[cc])
   | (exact Z.r hR))
structure DvS where
 i:Int
 qh:Int
 ql:Int
 r:Int
def q3F(X d:Int)(s:DvS):Prop:= -1<=s.i/\s.i<=127/\0<=s.qh/\s.qh<18446744073709551616/\0<=s.ql/\s.ql<18446744073709551616/\0<=s.r/\s.r<d/\X/2 ^ (s.i+1).toNat=(s.qh*18446744073709551616+s.ql)*d+s.r
theorem kSJ{X d:Int}(h0:0<=X)(h1:X<340282366920938463463374607431768211456)(hd:0<d):q3F X d ⟨127,0,0,0⟩:=by
 refine⟨by decide,by decide,by decide,by decide,by decide,by decide,by decide,hd,?_⟩;show X/2 ^ 128=(0*18446744073709551616+0)*d+0;have e:(2:Int) ^ 128=340282366920938463463374607431768211456:=by decide
 rw[e];simp;omega
theorem kXV{X:Int}{i:Int}(hi:0<=i)(h0:0<=X):X/2 ^ i.toNat=2*(X/2 ^ (i+1).toNat)+X/2 ^ i.toNat%2:=by
 rw[show (i+1).toNat=i.toNat+1 by omega,Int.pow_succ,<- Int.ediv_ediv_of_nonneg (Int.le_of_lt (Int.pow_pos Z.d))];omega
theorem q0B(h l d:Int)(h0:0<=h)(h1:h<18446744073709551616)(l0:0<=l)(l1:l<18446744073709551616)(d0:0<d)(d1:d<18446744073709551616):k02 Tryz.prog 248 [.agg [.int .u64 h,.int .u64 l],.int .u64 d] (λr=>∃qh ql s,r = .tuple [.agg [.int .u64 qh,.int .u64 ql],.int .u64 s,jz 0]/\0<=qh/\qh<18446744073709551616/\0<=ql/\ql<18446744073709551616/\0<=s/\s<d/\h*18446744073709551616+l=(qh*18446744073709551616+ql)*d+s):=by
 obtain⟨X,eX⟩:=Z.e (h*18446744073709551616+l);have X0:0<=X:=by omega
 have X1:X<340282366920938463463374607431768211456:=by omega
 refine Z.y Tryz.func248 λzA zG _ _ _ _ hw zC zB _ _ _ _ hz R hR P hP=>?_;cbv;have c1:zG .eql d 0=false:=by rw[zB];simp[k04];omega
 simp only[c1];cbv
 refine k1Q.data hw (S:=DvS) (λs=>fr 50 [(1,.int .u64 d),(2,.ref 0 2 0 0),(4,.ref 1 2 0 0),(6,jz 0),(7,.ref 2 2 0 0),(8,.ref 3 2 0 0),(9,s.i)])
  (λs=>[.live 2 [[.int .u64 h,.int .u64 l]],.live 2 [[.int .u64 0,.int .u64 0]],.live 2 [[.int .u64 s.qh,.int .u64 s.ql]],.live 2 [[.int .u64 0,.int .u64 s.r]]])
  (λs=>q3F X d s) (λs=>(s.i+1).toNat) ⟨127,0,0,0⟩ Z.i (kSJ X0 X1 d0) ?_
 rintro⟨i,qh,ql,r⟩ zJ Q' hN hE hR'
 have zJ: -1<=i/\i<=127/\0<=qh/\qh<18446744073709551616/\0<=ql/\ql<18446744073709551616/\0<=r/\r<d/\X/2 ^ (i+1).toNat=(qh*18446744073709551616+ql)*d+r:=zJ;cbv;obtain⟨i0,i1,qh0,qh1,ql0,ql1,r0,r1,hX⟩:=zJ;(split<;>rename_i hc<;>(try (simp only[hz,Z.a,k05,k04,k08,k03,k0M,reduceCtorEq] at hc))<;>(try cbv))
 ·have hst:=kXV (X:=X) (i:=i) Z.o X0
  rw[hX] at hst;obtain⟨bit,ebit⟩:=Z.e (X/2 ^ i.toNat%2);rw[<- ebit] at hst;have hb2:bit=0\/bit=1:=(by omega);have hs1:=kTQ 0 r (r/9223372036854775808) (r*2%18446744073709551616) Z.d Z.d r0 Z.o Z.o rfl;have hs2:=kTQ qh ql ((qh*2+ql/9223372036854775808)%18446744073709551616) (ql*2%18446744073709551616) qh0 qh1 ql0 ql1 rfl rfl;obtain⟨sa,sb,es3⟩:∃a b,kVD h l i=(a,b):=⟨_,_,rfl⟩;have hs3:=q2F h l i sa sb Z.o i1 es3;obtain⟨sb0,sb1,sbp⟩:=kVC h l i h0 h1 l0 l1 Z.o i1;rw[es3,<- eX] at sbp;rw[es3] at sb0 sb1;simp only at sb0 sb1 sbp;rw[<- ebit] at sbp;obtain⟨i2,ei2⟩:=Z.e (i-1);have a4:zA .sub .i64 i 1=i2:=(by rw[zC,k3I Z.o Z.o,ei2]);obtain⟨rh,erh⟩:=Z.e (r/9223372036854775808);obtain⟨rl,erl⟩:=Z.e (r*2%18446744073709551616);obtain⟨rl2,erl2⟩:=Z.e (rl+bit);rw[<- erh,<- erl] at hs1;obtain⟨qh2,eqh2⟩:∃z,z=(qh*2+ql/9223372036854775808)%18446744073709551616:=⟨_,rfl⟩;obtain⟨ql2,eql2⟩:=Z.e (ql*2%18446744073709551616);rw[<- eqh2,<- eql2] at hs2;have v1:zA .and .u64 sb 1=bit:=(by rw[zC,kYZ sb0 sb1,sbp]);have v2:zA .or .u64 rl bit=rl2:=(by rw[zC,kAF Z.o Z.o Z.o Z.o Z.o,erl2]);have hT:(i2+1).toNat<(i+1).toNat:=by omega
  -- twice what was left,and the next digit
  have hY:rh*18446744073709551616+rl2=2*r+bit:=by omega
  have hbig:2*((qh*18446744073709551616+ql)*d+r)+bit<=X:=by
   rw[<- hst];exact Int.ediv_le_self _ X0
  obtain⟨Q,eQ⟩:=Z.e (qh*18446744073709551616+ql);rw[<- eQ] at hbig hX hst
  have hQd:Q<=Q*d:=by
   have h1:Q*1<=Q*d:=Int.mul_le_mul_of_nonneg_left Z.o Z.o;omega
  have hQ2:qh2*18446744073709551616+ql2=2*Q:=by omega
  obtain⟨c,hc3,hc4⟩:∃c:Int,((rh*18446744073709551616+rl2<0*18446744073709551616+d/\c = -1)\/(rh*18446744073709551616+rl2=0*18446744073709551616+d/\c=0)\/(0*18446744073709551616+d<rh*18446744073709551616+rl2/\c=1))/\(0<=c↔d<=rh*18446744073709551616+rl2):=by
   by_cases e1:rh*18446744073709551616+rl2<d
   ·exact⟨-1,.inl ⟨by omega,rfl⟩,by omega⟩
   ·by_cases e2:rh*18446744073709551616+rl2=d
    ·exact⟨0,.inr (.inl ⟨by omega,rfl⟩),by omega⟩
    ·exact⟨1,.inr (.inr ⟨by omega,rfl⟩),by omega⟩
  have hcm:=kSH (xh:=rh) (xl:=rl2) (yh:=0) (yl:=d) Z.o Z.o Z.o Z.o hc3;have hdist:(2*Q+1)*d=2*(Q*d)+d:=(by rw[Int.add_mul,Int.mul_assoc,Int.one_mul]);have hdist0:(2*Q)*d=2*(Q*d):=(by rw[Int.mul_assoc]);have hdi:X/2 ^ (i2+1).toNat=2*(Q*d+r)+bit:=(by rw[show (i2+1).toNat=i.toNat by omega];exact hst);have v3:zA .or .u64 ql2 1=ql2+1:=(by rw[zC,kAF Z.o Z.o Z.o Z.o Z.o]);obtain⟨ql3,eql3⟩:=Z.e (ql2+1);have v4:zA .or .u64 ql2 1=ql3:=(by rw[v3,eql3]);refine Call.stepE (by rw[<- hP];exact hs1) rfl ?_;cbv;refine k1R.stepE (by rw[<- hP];exact hs3) rfl ?_;cbv;simp only[v1];simp only[v2];refine Call.stepE (by rw[<- hP];exact hs2) rfl ?_;cbv;refine Call.stepE (by rw[<- hP];exact hcm) rfl ?_;cbv;by_cases hge:d<=rh*18446744073709551616+rl2
  ·have cc:zG .geq c 0=true:=by rw[zB];simp[k04];exact hc4.2 hge
   obtain⟨r2,er2⟩:=Z.e (rh*18446744073709551616+rl2-d);have hsb:=q09 rh rl2 d r2 Z.o Z.o Z.o Z.o Z.o d1 hge er2 Z.o;simp only[cc];cbv;refine Call.stepE (by rw[<- hP];exact hsb) rfl ?_;cbv;simp only[v4,a4];refine hN ⟨i2,qh2,ql3,r2⟩ _ _ ?hx ?hi hT
   case hx=>exact Z.i
   case hi =>
    refine⟨by simp only;omega,by simp only;omega,by simp only;omega,by simp only;omega,by simp only;omega,by simp only;omega,by simp only;omega,by simp only;omega,?_⟩;simp only;rw[hdi,show qh2*18446744073709551616+ql3=2*Q+1 by omega,hdist];omega
  ·have cc:zG .geq c 0=false:=by rw[zB];simp[k04];have:=hc4.1;omega
   have hrh:rh=0:=(by omega);simp only[cc];cbv;simp only[a4];subst hrh;refine hN ⟨i2,qh2,ql2,rl2⟩ _ _ ?hx ?hi hT
   case hx=>exact Z.i
   case hi =>
    refine⟨by simp only;omega,by simp only;omega,by simp only;omega,by simp only;omega,by simp only;omega,by simp only;omega,by simp only;omega,by simp only;omega,?_⟩;simp only;rw[hdi,hQ2,hdist0];omega
 ·refine hE _ _ _ ?_
  cbv;have ei:i = -1:=(by omega);subst ei
  have hX:X=(qh*18446744073709551616+ql)*d+r:=by
   have:X/2 ^ ((-1:Int)+1).toNat=X:=by show X/1=X;omega
   rw[<- hX,this]
  repeat' (first
   | (refine And.intro ?_ ?_)
   | (exact⟨_,Vw.same rfl,hR _ ⟨qh,ql,r,rfl,qh0,qh1,ql0,ql1,r0,r1,by rw[<- eX];exact hX⟩⟩))
theorem kNW(a s:Int)(h0: -9223372036854775808<=a)(h1:a<=9223372036854775807)(es:s=a.natAbs):k02 Tryz.prog 247 [a] (· = .int .u64 s):=by
 have f1:a<0->k08 .neg .u64 (IntKind.u64.wrap a)=s:=λh=>by
  show IntKind.u64.wrap (0-IntKind.u64.wrap a)=s;rw[kKK,kKK];omega
 have f2:¬a<0->IntKind.u64.wrap a=s:=λh=>by rw[kKK];omega
 clear es;refine Z.y Tryz.func247 λ_ _ yT zD _ _ _ _ _ yM zH _ _ hz R hR P hP=>?_;cbv;(split<;>rename_i h<;>(try (simp only[hz,Z.a,k05,k04,k08,k03,k0M,reduceCtorEq] at h))<;>(try cbv))
 ·have v:yT .neg .u64 (zD .u64 a)=s:=by rw[yM,zH];exact f1 h
  simp only[v];exact Z.r hR
 ·have v:zD .u64 a=s:=by rw[zH];exact f2 Z.o
  simp only[v];exact Z.r hR
theorem q0A(h l a b:Int)(h0:0<=h)(l0:0<=l)(l1:l<18446744073709551616)(hm:h<18446744073709551615)(eb:b=(l+1)%18446744073709551616)(ea:a=h+(l+1)/18446744073709551616):k02 Tryz.prog 249 [.agg [.int .u64 h,.int .u64 l],.agg [.int .u64 0,.int .u64 1]] (· = .tuple [.agg [.int .u64 a,.int .u64 b],.bool false]):=by
 refine Z.y Tryz.func249 λzA zG _ _ _ _ _ zC zB _ _ _ _ hz R hR P hP=>?_;cbv;have v1:zA .add .u64 l 1=b:=by rw[zC,eb];exact kKK _
 have v2:zA .add .u64 h 0=h:=by rw[zC];show IntKind.u64.wrap (h+0)=h;rw[kKK];omega
 have v3:zA .add .u64 h 1=h+1:=by rw[zC];show IntKind.u64.wrap (h+1)=h+1;rw[kKK];omega
 by_cases hl:l+1<18446744073709551616
 ·have eb2:b=l+1:=by omega
  have ea2:a=h:=(by omega);have c1:zG .lss b l=false:=(by rw[zB];simp[k04];omega);have c2:zG .lss h h=false:=(by rw[zB];simp[k04]);subst ea2
  repeat' (first
   | (simp only[v1,v2])
   | (simp only[c1];cbv)
   | (simp only[c2];cbv)
   | (refine And.intro ?_ ?_)
   | (exact Z.r hR))
 ·have eb2:b=0:=by omega
  have ea2:h+1=a:=(by omega);have c1:zG .lss b l=true:=(by rw[zB];simp[k04];omega);have c2:zG .lss h h=false:=(by rw[zB];simp[k04]);have v4:zA .add .u64 h 1=a:=(by rw[v3,ea2]);have c3:zG .eql a 0=false:=by rw[zB];simp[k04];omega
  repeat' (first
   | (simp only[v1,v2])
   | (simp only[v4])
   | (simp only[c1];cbv)
   | (simp only[c2];cbv)
   | (simp only[c3];cbv)
   | (refine And.intro ?_ ?_)
   | (exact Z.r hR))
def kP2(X:Int)(below:Bool):Int×Int:=if below then (if X<=9223372036854775808 then (-X,0) else (0,20)) else (if X<=9223372036854775807 then (X,0) else (0,20))
theorem kIG(h l v e:Int)(below:Bool)(h0:0<=h)(l0:0<=l)(l1:l<18446744073709551616)(hv:kP2 (h*18446744073709551616+l) below=(v,e)):k02 Tryz.prog 250 [.agg [.int .u64 h,.int .u64 l],below] (· = .tuple [v,e]):=by
 obtain⟨m,em⟩:∃m:Int,m=if below then 9223372036854775808 else 9223372036854775807:=⟨_,rfl⟩
 obtain⟨c,hc,hc2⟩:∃c:Int,((h*18446744073709551616+l<0*18446744073709551616+m/\c = -1)\/(h*18446744073709551616+l=0*18446744073709551616+m/\c=0)\/(0*18446744073709551616+m<h*18446744073709551616+l/\c=1))/\(0<c↔m<h*18446744073709551616+l):=by
  by_cases e1:h*18446744073709551616+l<m
  ·exact⟨-1,.inl ⟨by omega,rfl⟩,by omega⟩
  ·by_cases e2:h*18446744073709551616+l=m
   ·exact⟨0,.inr (.inl ⟨by omega,rfl⟩),by omega⟩
   ·exact⟨1,.inr (.inr ⟨by omega,rfl⟩),by omega⟩
 have hm:0<=m/\m<18446744073709551616:=by rw[em];split<;>decide
 have hcm:=kSH (xh:=h) (xl:=l) (yh:=0) (yl:=m) l0 l1 hm.1 hm.2 hc;unfold kP2 at hv;cases below
 ·simp only[Bool.false_eq_true,if_false] at em hv
  subst em;refine Z.y Tryz.func250 λ_ zG _ zD _ _ _ _ zB _ zH _ _ hz R hR P hP=>?_;cbv;refine Call.stepE (by rw[<- hP];exact hcm) rfl ?_;cbv;by_cases hX:h*18446744073709551616+l<=9223372036854775807
  ·rw[if_pos hX] at hv
   obtain⟨hv1,hv2⟩:=Prod.mk.inj hv;have cc:zG .gtr c 0=false:=by rw[zB];simp[k04];have:=hc2.1;omega
   have v1:zD .i64 l=v:=by rw[zH];show IntKind.i64.wrap l=v;rw[IntKind.wrap_i64];omega
   subst hv2
   repeat' (first
    | (simp only[cc];cbv)
    | (simp only[v1]))
   exact Z.r hR
  ·rw[if_neg hX] at hv
   obtain⟨rfl,rfl⟩:=Prod.mk.inj hv;have cc:zG .gtr c 0=true:=(by rw[zB];simp[k04];exact hc2.2 Z.o);simp only[cc];cbv;exact Z.r hR
 ·simp only[if_true] at em hv
  subst em;refine Z.y Tryz.func250 λzA zG yT zD _ _ _ zC zB yM zH _ _ hz R hR P hP=>?_;cbv;have v0:zA .add .u64 9223372036854775807 1=9223372036854775808:=(by rw[zC];rfl);simp only[v0];refine Call.stepE (by rw[<- hP];exact hcm) rfl ?_;cbv;by_cases hX:h*18446744073709551616+l<=9223372036854775808
  ·rw[if_pos hX] at hv
   obtain⟨hv1,hv2⟩:=Prod.mk.inj hv;have cc:zG .gtr c 0=false:=by rw[zB];simp[k04];have:=hc2.1;omega
   have v1:zD .i64 (yT .neg .u64 l)=v:=by
    rw[zH,yM];show IntKind.i64.wrap (IntKind.u64.wrap (0-l))=v;rw[IntKind.wrap_i64,kKK];omega
   subst hv2
   repeat' (first
    | (simp only[cc];cbv)
    | (simp only[v1]))
   exact Z.r hR
  ·rw[if_neg hX] at hv
   obtain⟨rfl,rfl⟩:=Prod.mk.inj hv;have cc:zG .gtr c 0=true:=(by rw[zB];simp[k04];exact hc2.2 Z.o);simp only[cc];cbv;exact Z.r hR
def kJK(up below:Bool)(X C:Int):Int:=if 0<X%C/\up≠below then X/C+1 else X/C
def kP3(up:Bool)(a b c:Int):Int×Int:=kP2 (kJK up ((decide (a<0) != decide (b<0)) != decide (c<0)) ((a.natAbs:Int)*b.natAbs) c.natAbs) ((decide (a<0) != decide (b<0)) != decide (c<0))
theorem kIM(a b c v e:Int)(up:Bool)(a0: -9223372036854775808<=a)(a1:a<=9223372036854775807)(b0: -9223372036854775808<=b)(b1:b<=9223372036854775807)(k0: -9223372036854775808<=c)(k1:c<=9223372036854775807)(hc0:c≠0)(hv:kP3 up a b c=(v,e)):k02 Tryz.prog 235 [a,b,c,up] (· = .tuple [v,e]):=by
 obtain⟨below,ebelow⟩:∃z,z=((decide (a<0) != decide (b<0)) != decide (c<0)):=⟨_,rfl⟩;obtain⟨A,eA⟩:∃z:Int,z=a.natAbs:=⟨_,rfl⟩;obtain⟨B,eB⟩:∃z:Int,z=b.natAbs:=⟨_,rfl⟩;obtain⟨C,eC⟩:∃z:Int,z=c.natAbs:=⟨_,rfl⟩;unfold kP3 at hv;rw[<- ebelow,<- eA,<- eB,<- eC] at hv;have hA:0<=A/\A<=9223372036854775808:=by omega
 have hB:0<=B/\B<=9223372036854775808:=by omega
 have hC:0<C/\C<=9223372036854775808:=by omega
 have q1:=kNW a A a0 a1 eA;have q2:=kNW b B b0 b1 eB;have q3:=kNW c C k0 k1 eC;obtain⟨X,eX⟩:=Z.e (A*B);have hX0:0<=X:=by rw[eX];exact Int.mul_nonneg hA.1 hB.1
 have hX1:X<=85070591730234615865843651857942052864:=by
  have:=Int.mul_le_mul hA.2 hB.2 hB.1 Z.d;rw[eX];exact this
 obtain⟨mh,emh⟩:=Z.f (A*B/18446744073709551616);obtain⟨ml,eml⟩:=Z.f (A*B%18446744073709551616);have q4:=kX2 (a:=A) (b:=B) hA.1 Z.o hB.1 Z.o emh eml;rw[<- eX] at emh eml hv;have q5:=q0B mh ml C Z.o Z.o Z.o Z.o hC.1 Z.o;clear eA eB eC eX;(refine k02.ofY Tryz.func235 (by kernel_rfl) (by kernel_rfl) (Z.w λ_ zG _ _ zF zW _ _ _ _ _ _ _ _ _ _ _ _ _ _ _ _ zB _ _ zI yK _ _ _ _ _ _ _ _ _ _ _ _ _ _ hz R hR=>?_));(conv=>arg 2;cbv);(generalize hP:Tryz.prog=P);cbv;have z1:zG .eql c 0=false:=by rw[zB];simp[k04,hc0]
 have z2:zF (zW (zF (zW (zG .lss a 0) (zG .lss b 0))) (zG .lss c 0))=below:=by rw[zI,yK,zB,ebelow];rfl
 clear ebelow;simp only[z1];cbv;simp only[z2]
 repeat' (first
  | (refine Call.stepE (by rw[<- hP];exact q1) rfl ?_;cbv)
  | (refine Call.stepE (by rw[<- hP];exact q2) rfl ?_;cbv)
  | (refine Call.stepE (by rw[<- hP];exact q3) rfl ?_;cbv)
  | (refine Call.stepE (by rw[<- hP];exact q4) rfl ?_;cbv)
  | fail)
 refine Call.step (by rw[<- hP];exact q5) rfl ?_;rintro r ⟨qh,ql,s,rfl,g1,g2,g3,g4,g5,g6,g7⟩;cbv;obtain⟨Q,eQ⟩:=Z.e (qh*18446744073709551616+ql);rw[<- eQ] at g7;have hmX:mh*18446744073709551616+ml=X:=by omega
 rw[hmX] at g7;have hs:X%C=s:=by rw[g7,Int.add_comm,Int.mul_comm,Int.add_mul_emod_self_left];exact Int.emod_eq_of_lt g5 g6
 have hQ:X/C=Q:=by rw[g7,Int.add_comm,Int.add_mul_ediv_right _ _ Z.o,Int.ediv_eq_zero_of_lt g5 g6];omega
 have hQX:Q<=X:=by rw[<- hQ];exact Int.ediv_le_self _ hX0
 unfold kJK at hv;rw[hs,hQ] at hv;by_cases hup:0<s/\up≠below
 ·rw[if_pos hup] at hv
  have z3:zG .gtr s 0=true:=(by rw[zB];simp[k04,hup.1]);have z4:zF (zW up below)=true:=(by rw[zI,yK];simp[hup.2]);obtain⟨ha,eha⟩:=Z.e (qh+(ql+1)/18446744073709551616);obtain⟨hb,ehb⟩:∃z,z=(ql+1)%18446744073709551616:=⟨_,rfl⟩;have q6:=q0A qh ql ha hb g1 g3 g4 Z.o ehb eha;have q7:=kIG ha hb v e below Z.o Z.o Z.o (by rw[<- hv];congr 1;omega)
  repeat' (first
   | (simp only[z3];cbv)
   | (simp only[z4];cbv)
   | (refine Call.stepE (by rw[<- hP];exact q6) rfl ?_;cbv)
   | (refine Call.stepE (by rw[<- hP];exact q7) rfl ?_;cbv)
   | fail)
  exact Z.r hR
 ·rw[if_neg hup] at hv
  have q7:=kIG qh ql v e below g1 g3 g4 (by rw[<- hv,eQ]);by_cases hs0:0<s
  ·have z3:zG .gtr s 0=true:=by rw[zB];simp[k04,hs0]
   have hub:up=below:=Classical.byContradiction λh=>hup ⟨hs0,h⟩;have z4:zF (zW up below)=false:=by rw[zI,yK,hub];simp
   repeat' (first
    | (simp only[z3];cbv)
    | (simp only[z4];cbv)
    | (refine Call.stepE (by rw[<- hP];exact q7) rfl ?_;cbv)
    | fail)
   exact Z.r hR
  ·have z3:zG .gtr s 0=false:=by rw[zB];simp[k04,hs0]
   repeat' (first
    | (simp only[z3];cbv)
    | (refine Call.stepE (by rw[<- hP];exact q7) rfl ?_;cbv)
    | fail)
   exact Z.r hR
theorem kTU(a b c v e:Int)(a0: -9223372036854775808<=a)(a1:a<=9223372036854775807)(b0: -9223372036854775808<=b)(b1:b<=9223372036854775807)(k0: -9223372036854775808<=c)(k1:c<=9223372036854775807)(hc0:c≠0)(hv:kP3 true a b c=(v,e)):k02 Tryz.prog 222 [a,b,c] (· = .tuple [v,e]):=by
 have q:=kIM a b c v e true a0 a1 b0 b1 k0 k1 hc0 hv;refine Z.y Tryz.func222 λ_ _ _ _ _ _ _ _ _ _ _ _ _ hz R hR P hP=>?_;cbv;refine Call.stepE (by rw[<- hP];exact q) rfl ?_;cbv;exact Z.r hR
theorem kRU(a b c v e:Int)(a0: -9223372036854775808<=a)(a1:a<=9223372036854775807)(b0: -9223372036854775808<=b)(b1:b<=9223372036854775807)(k0: -9223372036854775808<=c)(k1:c<=9223372036854775807)(hc0:c≠0)(hv:kP3 false a b c=(v,e)):k02 Tryz.prog 223 [a,b,c] (· = .tuple [v,e]):=by
 have q:=kIM a b c v e false a0 a1 b0 b1 k0 k1 hc0 hv;refine Z.y Tryz.func223 λ_ _ _ _ _ _ _ _ _ _ _ _ _ _ R hR P hP=>?_;cbv;refine Call.stepE (by rw[<- hP];exact q) rfl ?_;cbv;exact Z.r hR
theorem kQC{a b c:Int}(ha:0<=a)(hb:0<=b)(hc:0<c)(up:Bool):kP3 up a b c=kP2 (if 0<a*b%c/\up=true then a*b/c+1 else a*b/c) false:=by
 unfold kP3
 have e1:((decide (a<0) != decide (b<0)) != decide (c<0))=false:=by
  rw[decide_eq_false Z.o,decide_eq_false Z.o,decide_eq_false Z.o];rfl
 rw[e1,show (a.natAbs:Int)=a by omega,show (b.natAbs:Int)=b by omega,show (c.natAbs:Int)=c by omega];unfold kJK;cases up<;>simp
end Go.Proofs.YtlchlddijclhjaaGreat
namespace Go.Eng
open Go Go.RowKit
theorem k2W{f:Nat->Nat}{es:List (List AV)}(h:Up0 es):k32 f es=es:=k3Z f es h.get
theorem k06.one{P:Program}{g:FuncId}{args0 args:List AV}{z s:Nat}{es0:List (List AV)}{h:k00}{K0 K:AV->k00->Prop}(H:k06 P g args0 [.live z es0] K0)(hu:Up0 es0)(hs:h[s]?=some (.live z es0))(ha:k0Q 1 args0=true)(hr:k4C (λ_=>s) args0=args)
 (hK:∀r hD,K0 r hD->r.upto 0=true/\∃es1 j,hD = .live z es1::j/\Up0 es1/\K r (h.set s (.live z es1))):k06 P g args h K:=by
 refine k06.frame (λ_=>s) H ?_ ?_ ha hr ?_
 ·intro i hi j hj _
  simp only[List.length_cons,List.length_nil] at hi hj;omega
 ·intro i hi
  simp only[List.length_cons,List.length_nil] at hi;have h0:i=0:=(by omega);subst h0;exact⟨z,es0,rfl,k21 1 _ hu.get,by rw[k2W hu];exact hs⟩
 ·intro r hD hk
  obtain⟨k1,es1,j,rfl,k2,k3⟩:=hK r hD hk;refine⟨k76 1 r k1,λi hi=>?_,?_⟩
  ·simp only[List.length_cons,List.length_nil] at hi
   have h0:i=0:=(by omega);subst h0;exact⟨z,es1,rfl,k21 1 _ k2.get⟩
  ·rw[k2J _ r k1]
   show K r (h.set s (kM5 (λ_=>s) (.live z es1)));rw[show kM5 (λ_=>s) (.live z es1) = .live z es1 from congrArg (k27.live z) (k2W k2)];exact k3
inductive WkB(n:Nat)(a:k09)(h:k00)(a':k09)(h':k00):Prop where
 | mk (H:Wk n a h a' h')
theorem k06.give{P:Program}{g:FuncId}{args:List AV}{h h':k00}{r':AV}(H:k06 P g args h (λr hD=>WkB h.length [r] hD [r'] h')):k06 P g args h (λr hD=>r=r'/\hD=h'):=by
 refine⟨H.1,λC vs hC RC hv=>(H.2 C vs hC RC hv).mono λe w' ⟨v,r,D,h1,h2,h3,h4,h5,h6,h7⟩=>?_⟩;obtain⟨hw⟩:=h2
 have hst:St D [r] { tmps:= #[v],defers:=[] }:=⟨h4,⟨rfl,λi x hx=>by
  match i,hx with
  | 0,hx=>simp at hx;subst hx;simpa using h5
  | i+1,hx=>simp at hx⟩,rfl⟩
 obtain⟨D',k1,k2,k3,k4,k5⟩:=hw D _ rfl hst h7;have hx:VR D' r' v:=by simpa using k3.vrs.2 0 r' rfl
 exact⟨v,r',D',h1,⟨rfl,k1⟩,k2.trans h3,k3.rel,hx,h6.trans k4,by rw[k1];exact k5⟩
end Go.Eng
