/- Parts of the proofs. -/
import Derived.Test.YtlchlddijclhjaaGreatS7
import Derived.KernelRfl
import Derived.Test.YtlchlddijclhjaaGreatS11
import Derived.Test.YtlchlddijclhjaaGreatS12
import Derived.Test.YtlchlddijclhjaaGreatS9
import Derived.Test.YtlchlddijclhjaaGreatS8
import Derived.Laws.BitsAllLaws
import Derived.Test.YtlchlddijclhjaaGreatSZ
set_option linter.unusedVariables false
set_option linter.unusedSimpArgs false
set_option maxHeartbeats 4000000
namespace Go.Proofs.YtlchlddijclhjaaGreat
open Go Go.RowKit Go.Eng
inductive Bd where
 | start
 | more (i:Int) (n:Nat) (fs:List (List AV))
def Bd.Ok(es:List (List AV)):Bd->Prop
 | .start=>True
 | .more i n fs=>0<i/\i.toNat<=es.length/\fs=es.take i.toNat/\n=fs.length/\Up0 fs
def Bd.left(es:List (List AV)):Bd->Nat
 | .start=>es.length
 | .more i _ _=>es.length-i.toNat
theorem kAE{es:List (List AV)}(h:Up0 es)(n:Nat):Up0 (es.take n):=by
 obtain⟨h⟩:=h;refine⟨?_⟩
 induction es generalizing n with
 | nil=>simpa using h
 | cons e t ih =>
   cases n with
   | zero=>rfl
   | succ n =>
     simp only[k18,Bool.and_eq_true] at h;simp only[List.take_succ_cons,k18,Bool.and_eq_true];exact⟨h.1,ih n h.2⟩
theorem k3D{es:List (List AV)}{i:Int}{row:List AV}(h0:0<=i)(hr:es[i.toNat]?=some row):es.take (i+1).toNat=es.take i.toNat++[row]:=by
 rw[show (i+1).toNat=i.toNat+1 by omega,List.take_add_one,hr];rfl
theorem k1D{D:Type}{f:D->List AV}(hf:∀d,k0Q 0 (f d)=true)(ds:List D):Up0 (ds.map f):=by
 refine⟨?_⟩
 induction ds with
 | nil=>rfl
 | cons d t ih=>exact Bool.and_eq_true_iff.mpr ⟨hf d,ih⟩
theorem k0V{D:Type}{f:D->List AV}{ds:List D}{i:Int}(h0:0<=i)(h:i.toNat<ds.length):∃d,ds[i.toNat]?=some d/\(ds.map f)[i.toNat]?=some (f d):=by
 have h1:=h;exact⟨ds[i.toNat],by rw[List.getElem?_eq_getElem h1],by simp[h1]⟩
end Go.Proofs.YtlchlddijclhjaaGreat
namespace Go.Eng
open Go Go.RowKit
theorem uc{n:Nat}{c:AV}{cs:List AV}(h1:c.upto n=true)(h2:k0Q n cs=true):k0Q n (c::cs)=true:=by simp only[k0Q,h1,h2];rfl
theorem ul{z:Nat}{es:List (List AV)}(h:Up0 es):(AV.list z es).upto 0=true:=h.get
theorem ua{n:Nat}{cs:List AV}(h:k0Q n cs=true):(AV.agg cs).upto n=true:=h
theorem ull{n:Nat}{c:List AV}{cs:List (List AV)}(h1:k0Q n c=true)(h2:k18 n cs=true):k18 n (c::cs)=true:=by simp only[k18,h1,h2];rfl
theorem u1{c:List AV}{cs:List (List AV)}(h1:k0Q 0 c=true)(h2:Up0 cs):Up0 (c::cs):=⟨ull h1 h2.get⟩
theorem u0:Up0 []:=⟨rfl⟩
section
variable {P P0:Program} {g:FuncId} {args:List AV} {v:AV} {h:k00} {K:k09->k00->Prop} {a:k09} {dst:Option Nat} {R:AV->Prop}
theorem Call.s(hP:P0=P)(H:k02 P0 g args (· = v))(hK:K (k1V a dst v) h)(ha:k0Q 0 args=true:=by first|rfl|(repeat' (first|exact rfl|assumption|refine uc ?_ ?_|exact ul Z.m|refine ua ?_))):Call P g args h (k4T K a dst):=by
 subst hP;exact Call.stepE H ha hK
theorem k1R.s{h0:k00}{news:k00}(hP:P0=P)(H:k02 P0 g args (· = v))(hK:K (k1V a dst v) news)(ha:k0Q 0 args=true:=by first|rfl|(repeat' (first|exact rfl|assumption|refine uc ?_ ?_|exact ul Z.m|refine ua ?_))):k1R P g args h0 (kFP K a dst news):=by
 subst hP;exact k1R.stepE H ha hK
end
section
variable {zG:BinOp->Int->Int->Bool} (hc:zG=k04)
include hc
theorem W.lt{a b:Int}(h:a<b):zG .lss a b=true:=by rw[hc];simp only[k04,decide_eq_true_eq];exact h
theorem W.nlt{a b:Int}(h:b<=a):zG .lss a b=false:=by rw[hc];simp only[k04,decide_eq_false_iff_not];omega
theorem W.gt{a b:Int}(h:b<a):zG .gtr a b=true:=by rw[hc];simp only[k04,decide_eq_true_eq];exact h
theorem W.ngt{a b:Int}(h:a<=b):zG .gtr a b=false:=by rw[hc];simp only[k04,decide_eq_false_iff_not];omega
theorem W.le{a b:Int}(h:a<=b):zG .leq a b=true:=by rw[hc];simp only[k04,decide_eq_true_eq];exact h
theorem W.nle{a b:Int}(h:b<a):zG .leq a b=false:=by rw[hc];simp only[k04,decide_eq_false_iff_not];omega
theorem W.ge{a b:Int}(h:b<=a):zG .geq a b=true:=by rw[hc];simp only[k04,decide_eq_true_eq];exact h
theorem W.nge{a b:Int}(h:a<b):zG .geq a b=false:=by rw[hc];simp only[k04,decide_eq_false_iff_not];omega
theorem W.eq{a b:Int}(h:a=b):zG .eql a b=true:=by rw[hc];simp only[k04,decide_eq_true_eq,beq_iff_eq];exact h
theorem W.neq{a b:Int}(h:a≠b):zG .eql a b=false:=by rw[hc];simp only[k04,decide_eq_false_iff_not,beq_eq_false_iff_ne];exact h
theorem W.ne{a b:Int}(h:a≠b):zG .neq a b=true:=by rw[hc];simp only[k04,decide_eq_true_eq,bne_iff_ne];exact h
theorem W.nne{a b:Int}(h:a=b):zG .neq a b=false:=by rw[hc];simp only[k04,decide_eq_false_iff_not,bne_eq_false_iff_eq,ne_eq,h,not_true_eq_false,not_false_eq_true]
end
theorem Z.u{n:Nat}{l:List AV}(h:k0Q n l=true:=by first|rfl|(repeat' (first|exact rfl|assumption|refine uc ?_ ?_|exact ul (by assumption)|refine ua ?_))):k0Q n l=true:=h
end Go.Eng
namespace Go.Proofs.YtlchlddijclhjaaGreat
open Go Go.RowKit Go.Eng
set_option maxRecDepth 100000
theorem kTW{Y C q:Int}(hC:0<C)(h1:q*C<=Y)(h2:Y<q*C+C):Y/C=q:=by
 have a1:q<=Y/C:=Int.le_ediv_of_mul_le hC h1;have a2:Y/C<q+1:=Int.ediv_lt_of_lt_mul hC (by rw[Int.add_mul,Int.one_mul];exact h2);omega
theorem kMN{a b:Int}:(a*b=(a.natAbs:Int)*b.natAbs/\(decide (a<0) != decide (b<0))=false)\/(a*b = -((a.natAbs:Int)*b.natAbs)/\(decide (a<0) != decide (b<0))=true):=by
 by_cases ha:a<0<;>by_cases hb:b<0
 ·refine .inl ⟨?_,by simp[ha,hb]⟩
  rw[show (a.natAbs:Int) = -a by omega,show (b.natAbs:Int) = -b by omega,Int.neg_mul_neg]
 ·refine .inr ⟨?_,by simp[ha,hb]⟩
  rw[show (a.natAbs:Int) = -a by omega,show (b.natAbs:Int)=b by omega,Int.neg_mul,Int.neg_neg]
 ·refine .inr ⟨?_,by simp[ha,hb]⟩
  rw[show (a.natAbs:Int)=a by omega,show (b.natAbs:Int) = -b by omega,Int.mul_neg,Int.neg_neg]
 ·refine .inl ⟨?_,by simp[ha,hb]⟩
  rw[show (a.natAbs:Int)=a by omega,show (b.natAbs:Int)=b by omega]
theorem kHU{a b c:Int}(hc:0<c)(h0: -4611686018427387904<=a*b)(h1:a*b<=4611686018427387904):kP3 false a b c=(a*b/c,0)/\kP3 true a b c=(-(-(a*b)/c),0):=by
 unfold kP3;rw[decide_eq_false (show ¬c<0 by omega),show (c.natAbs:Int)=c by omega,show ∀t:Bool,(t != false)=t from λt=>by cases t<;>rfl];obtain⟨X,eX⟩:∃X,(a.natAbs:Int)*b.natAbs=X:=⟨_,rfl⟩;have hX:0<=X:=by rw[<- eX];exact Int.mul_nonneg (Int.natCast_nonneg _) (Int.natCast_nonneg _)
 have hd:=Int.mul_ediv_add_emod X c;have hm0:=Int.emod_nonneg X (show c≠0 by omega);have hm1:=Int.emod_lt_of_pos X hc;have hq0:0<=X/c:=Int.ediv_nonneg hX Z.o;have hq1:X/c<=X:=Int.ediv_le_self _ hX;obtain⟨q,eq⟩:=Z.f (X/c);rw[eq] at hd hq0 hq1;rw[Int.mul_comm] at hd;have v00:kJK false false X c=q:=by unfold kJK;rw[eq];exact if_neg (λh=>h.2 rfl)
 have v11:kJK true true X c=q:=by unfold kJK;rw[eq];exact if_neg (λh=>h.2 rfl)
 have v10:(0<X%c->kJK true false X c=q+1)/\(¬0<X%c->kJK true false X c=q):=by unfold kJK;rw[eq];exact⟨λh=>if_pos ⟨h,by decide⟩,λh=>if_neg λk=>h k.1⟩
 have v01:(0<X%c->kJK false true X c=q+1)/\(¬0<X%c->kJK false true X c=q):=by unfold kJK;rw[eq];exact⟨λh=>if_pos ⟨h,by decide⟩,λh=>if_neg λk=>h k.1⟩
 have sF:∀z:Int,z<=4611686018427387905->kP2 z false=(z,0):=λz hz=>by unfold kP2;rw[if_neg Z.d,if_pos Z.o]
 have sT:∀z:Int,z<=4611686018427387905->kP2 z true=(-z,0):=λz hz=>by unfold kP2;rw[if_pos rfl,if_pos Z.o]
 have u1:0<X%c -> -X/c = -(q+1):=λhz=>kTW hc (by rw[Int.neg_mul,Int.add_mul];omega) (by rw[Int.neg_mul,Int.add_mul];omega);have u2:¬0<X%c -> -X/c = -q:=λhz=>kTW hc (by rw[Int.neg_mul];omega) (by rw[Int.neg_mul];omega);rcases kMN (a:=a) (b:=b) with ⟨e,s⟩|⟨e,s⟩<;>rw[s,e,eX]<;>rw[e,eX] at h0 h1
 ·rw[v00,sF q Z.o,eq]
  refine⟨rfl,?_⟩;by_cases hz:0<X%c
  ·rw[v10.1 hz,sF _ Z.o,u1 hz,Int.neg_neg]
  ·rw[v10.2 hz,sF _ Z.o,u2 hz,Int.neg_neg]
 ·rw[v11,sT q Z.o,Int.neg_neg,eq]
  refine⟨?_,rfl⟩;by_cases hz:0<X%c
  ·rw[v01.1 hz,sT _ Z.o,u1 hz]
  ·rw[v01.2 hz,sT _ Z.o,u2 hz]
def flD(a b c:Int):Int:=a*b/c
def clD(a b c:Int):Int:= -(-(a*b)/c)
theorem kRF{a b c:Int}(hc:0<c):flD a b c<=clD a b c:=by
 unfold flD clD;have h1:=Int.mul_ediv_add_emod (a*b) c;have h2:=Int.mul_ediv_add_emod (-(a*b)) c;have h3:=Int.emod_nonneg (a*b) (show c≠0 by omega);have h4:=Int.emod_nonneg (-(a*b)) (show c≠0 by omega);have h5:c*(a*b/c + -(a*b)/c)<=0:=by rw[Int.mul_add];omega
 have h6:a*b/c + -(a*b)/c<=0:=Int.not_lt.1 λh=>by
  have:=Int.mul_le_mul_of_nonneg_left (show 1<=a*b/c + -(a*b)/c by omega) (show 0<=c by omega);omega
 omega
structure R62(a b:Int):Prop where
 lo: -4611686018427387904<=a*b
 hi:a*b<=4611686018427387904
theorem kA7{a b c v:Int}(hc0:0<c)(hc1:I62 c)(ha:I62 a)(hb:I62 b)(h:R62 a b)(hv:v=flD a b c):k02 Tryz.prog 223 [a,b,c] (· = .tuple [v,jz 0]):=by
 unfold I62 at *;exact kRU a b c v 0 Z.o Z.o Z.o Z.o Z.o Z.o Z.o (by rw[hv];exact(kHU hc0 h.lo h.hi).1)
theorem kGZ{a b c v:Int}(hc0:0<c)(hc1:I62 c)(ha:I62 a)(hb:I62 b)(h:R62 a b)(hv:v=clD a b c):k02 Tryz.prog 222 [a,b,c] (· = .tuple [v,jz 0]):=by
 unfold I62 at *;exact kTU a b c v 0 Z.o Z.o Z.o Z.o Z.o Z.o Z.o (by rw[hv];exact(kHU hc0 h.lo h.hi).2)
theorem kNR{a b k c x y:Int}(hab:a<=b)(hc0:1<=c)(hc1:I62 c)(ha:I62 a)(hb:I62 b)(hk:I62 k)(h1:R62 k a)(h2:R62 k b)(hx:x=flD k (if k<0 then b else a) c)(hy:y=clD k (if k<0 then a else b) c) :
 k02 Tryz.prog 202 [.agg [a,b],k,c] (· = .tuple [.agg [x,y],jz 0]):=by
 have q1:=k22 (a:=a) (b:=b) true (by simp[hab]);have z1:k05 .add .i64 0 0=0:=rfl;by_cases hk0:k<0
 ·rw[if_pos hk0] at hx hy
  have q2:=kA7 Z.o hc1 hk hb h2 hx;have q3:=kGZ Z.o hc1 hk ha h1 hy;clear hx hy;refine Z.y Tryz.func202 λ_ zG _ _ zF _ _ _ zB _ _ zI _ hz R hR P hP=>?_;cbv;have n1:zF true=false:=(by rw[zI];rfl);have n2:zG .lss c 1=false:=(by rw[zB];simp[k04];omega);have n3:zG .lss k 0=true:=(by rw[zB];simp[k04];omega);have n4:zG .neq 0 0=false:=by rw[zB];rfl
  repeat' (first
   | (refine Call.stepE (by rw[<- hP];exact q1) rfl ?_;cbv;simp only[n1];cbv)
   | (simp only[n2];cbv)
   | (simp only[n3];cbv)
   | (refine Call.stepE (by rw[<- hP];exact q2) rfl ?_;cbv;simp only[n4];cbv)
   | (refine Call.stepE (by rw[<- hP];exact q3) rfl ?_;cbv;simp only[n4];cbv)
   | fail)
  exact Z.r hR
 ·rw[if_neg hk0] at hx hy
  have q2:=kA7 Z.o hc1 hk ha h1 hx;have q3:=kGZ Z.o hc1 hk hb h2 hy;clear hx hy;refine Z.y Tryz.func202 λ_ zG _ _ zF _ _ _ zB _ _ zI _ _ R hR P hP=>?_;cbv;have n1:zF true=false:=(by rw[zI];rfl);have n2:zG .lss c 1=false:=(by rw[zB];simp[k04];omega);have n3:zG .lss k 0=false:=(by rw[zB];simp[k04];omega);have n4:zG .neq 0 0=false:=by rw[zB];rfl
  repeat' (first
   | (refine Call.stepE (by rw[<- hP];exact q1) rfl ?_;cbv;simp only[n1];cbv)
   | (simp only[n2];cbv)
   | (simp only[n3];cbv)
   | (refine Call.stepE (by rw[<- hP];exact q2) rfl ?_;cbv;simp only[n4];cbv)
   | (refine Call.stepE (by rw[<- hP];exact q3) rfl ?_;cbv;simp only[n4];cbv)
   | fail)
  exact Z.r hR
theorem kGV{a b f l h:Int}(hab:a<=b)(hf:0<=f)(hl:a-f=l)(hh:b+f=h)(ha:I62 a)(hb:I62 b)(hc:I62 f):k02 Tryz.prog 146 [.agg [a,b],f] (· = .tuple [.agg [l,h],.bool true]):=by
 have r1:=k22 (a:=a) (b:=b) true (by simp[hab]);have s1:=kCG hl ha hc;have s2:=kB7 hh hb hc;have b1:=kB6 (lo:=l) (hi:=h) Z.o;refine Z.y Tryz.func146 λ_ _ _ _ zF _ _ _ _ _ _ zI _ hz R hR P hP=>?_;cbv;have n1:zF true=false:=by rw[zI];rfl
 repeat' (first|(simp only[n1];cbv)|(refine Call.s hP r1 ?_;cbv)|(refine Call.s hP s1 ?_;cbv)|(refine Call.s hP s2 ?_;cbv)|(refine Call.s hP b1 ?_;cbv)|fail)
 exact Z.r hR
theorem kGU{a b c d l h:Int}(h1:a<=b)(h2:c<=d)(hl:a-d=l)(hh:b-c=h)(ha:I62 a)(hb:I62 b)(hc:I62 c)(hd:I62 d):k02 Tryz.prog 162 [.agg [a,b],.agg [c,d]] (· = .tuple [.agg [l,h],.bool true]):=by
 have r1:=k22 (a:=a) (b:=b) true (by simp[h1]);have r2:=k22 (a:=c) (b:=d) true (by simp[h2]);have s1:=kCG hl ha hd;have s2:=kCG hh hb hc;have b1:=kB6 (lo:=l) (hi:=h) Z.o;refine Z.y Tryz.func162 λ_ _ _ _ zF _ _ _ _ _ _ zI _ hz R hR P hP=>?_;cbv;have n1:zF true=false:=by rw[zI];rfl
 repeat' (first|(simp only[n1];cbv)|(refine Call.s hP r1 ?_;cbv)|(refine Call.s hP r2 ?_;cbv)|(refine Call.s hP s1 ?_;cbv)|(refine Call.s hP s2 ?_;cbv)|(refine Call.s hP b1 ?_;cbv)|fail)
 exact Z.r hR
theorem q07(a:Int):k02 Tryz.prog 82 [a] (· = .agg [a,a]):=by
 refine Z.y Tryz.func82 λ_ _ _ _ _ _ _ _ _ _ _ _ _ hz R hR P hP=>?_;cbv;exact Z.r hR
theorem kWC{a b c d l h:Int}(h1:a<=b)(h2:c<=d)(hl:min a c=l)(hh:max b d=h):k02 Tryz.prog 84 [.agg [a,b],.agg [c,d]] (· = .agg [l,h]):=by
 have r1:=k22 (a:=a) (b:=b) true (by simp[h1]);have r2:=k22 (a:=c) (b:=d) true (by simp[h2]);(refine k02.ofY Tryz.func84 (by kernel_rfl) (by kernel_rfl) (Z.w λ_ _ _ _ zF _ yR _ _ _ _ _ _ _ _ _ _ _ _ _ hw _ _ _ _ zI _ yU _ _ _ _ _ _ _ _ _ _ _ _ _ hz R hR=>?_));(conv=>arg 2;cbv);(generalize hP:Tryz.prog=P);cbv;have n1:zF true=false:=by rw[zI];rfl
 have m1:yR false a c=l:=by rw[yU,kP6,hl]
 have m2:yR true b d=h:=by rw[yU,kTI,hh]
 repeat' (first|(simp only[n1];cbv)|(refine Call.s hP r1 ?_;cbv)|(refine Call.s hP r2 ?_;cbv)|fail)
 simp only[m1,m2];exact Z.r hR
theorem kNL{a w l h:Int}(h0:0<=w)(hl:a-w=l)(hh:a+w=h)(ha:I62 a)(hw:I62 w):k02 Tryz.prog 203 [a,w] (· = .tuple [.agg [l,h],.bool true]):=by
 have q1:=kGV (Int.le_refl a) h0 hl hh ha ha hw;have q2:=q07 a;refine Z.y Tryz.func203 λ_ _ _ _ _ _ _ _ _ _ _ _ _ hz R hR P hP=>?_;cbv;repeat' (first|(refine Call.s hP q1 ?_;cbv)|(refine Call.s hP q2 ?_;cbv)|fail)
 exact Z.r hR
def kE9(d lo hi p:Int):Int:=flD (d-1) (if d<1 then hi else lo) p
def kEA(d lo hi p:Int):Int:=clD (d+1) (if d < -1 then lo else hi) p
theorem R62.mk'{a b A B:Int}(hA:0<=A)(hB:0<=B)(h:A*B<=4611686018427387904)(a0: -A<=a)(a1:a<=A)(b0: -B<=b)(b1:b<=B):R62 a b:=by
 have key:(a*b).natAbs<=A.natAbs*B.natAbs:=by rw[Int.natAbs_mul];exact Nat.mul_le_mul Z.o Z.o
 have e:((A.natAbs*B.natAbs:Nat):Int)=A*B:=by rw[Int.natCast_mul];congr 1<;>omega
 exact⟨by omega,by omega⟩
theorem kGQ{x y p:Int}(hp:0<p)(h:x<=y):x/p<=y/p:=Int.ediv_le_ediv hp h
theorem kZ6{d lo hi p x y:Int}(h0:0<lo)(hh:lo<=hi)(hp:0<p)(hx:x=flD (d-1) (if d-1<0 then hi else lo) p)(hy:y=flD (d+1) (if d+1<0 then hi else lo) p):min x y=kE9 d lo hi p:=by
 have e1:x=kE9 d lo hi p:=by rw[hx];unfold kE9;congr 1;split<;>split<;>first|rfl|omega
 have h2:x<=y:=by
  rw[hx,hy];unfold flD;refine kGQ hp ?_;split<;>split
  ·exact Int.mul_le_mul_of_nonneg_right Z.o Z.o
  ·exact Int.le_trans (Int.mul_nonpos_of_nonpos_of_nonneg Z.o Z.o) (Int.mul_nonneg Z.o Z.o)
  ·omega
  ·exact Int.mul_le_mul_of_nonneg_right Z.o Z.o
 omega
theorem kZ7{d lo hi p x y:Int}(h0:0<lo)(hh:lo<=hi)(hp:0<p)(hx:x=clD (d-1) (if d-1<0 then lo else hi) p)(hy:y=clD (d+1) (if d+1<0 then lo else hi) p):max x y=kEA d lo hi p:=by
 have e1:y=kEA d lo hi p:=by rw[hy];unfold kEA;congr 1;split<;>split<;>first|rfl|omega
 have h2:x<=y:=by
  rw[hx,hy];unfold clD;refine Int.neg_le_neg (kGQ hp (Int.neg_le_neg ?_));split<;>split
  ·exact Int.mul_le_mul_of_nonneg_right Z.o Z.o
  ·exact Int.le_trans (Int.mul_nonpos_of_nonpos_of_nonneg Z.o Z.o) (Int.mul_nonneg Z.o Z.o)
  ·omega
  ·exact Int.mul_le_mul_of_nonneg_right Z.o Z.o
 omega
theorem kNT{d a b p l h:Int}(d0: -32768<=d)(d1:d<=32767)(ha:0<a)(hab:a<=b)(hb:b<=8388608)(hp:1<=p)(hp1:p<=1024)(hl:l=kE9 d a b p)(hh:h=kEA d a b p):k02 Tryz.prog 139 [d,.agg [a,b],p] (· = .tuple [.agg [l,h],jz 0]):=by
 obtain⟨d',ed'⟩:=Z.e (d-1);obtain⟨d2,ed2⟩:=Z.e (d+1);obtain⟨x1,ex1⟩:=Z.e (flD d' (if d'<0 then b else a) p);obtain⟨y1,ey1⟩:=Z.e (clD d' (if d'<0 then a else b) p);obtain⟨x2,ex2⟩:=Z.e (flD d2 (if d2<0 then b else a) p);obtain⟨y2,ey2⟩:=Z.e (clD d2 (if d2<0 then a else b) p);have hr:∀k,-40000<=k->k<=40000->∀z,(z=a\/z=b)->R62 k z:=λk k0 k1 z hz=>R62.mk' (A:=40000) (B:=8388608) Z.d Z.d Z.d Z.o Z.o Z.o Z.o;have q1:=kNR (k:=d') (c:=p) hab hp ⟨by omega,by omega⟩ ⟨by omega,by omega⟩ ⟨by omega,by omega⟩ ⟨by omega,by omega⟩ (hr _ Z.o Z.o _ (.inl rfl)) (hr _ Z.o Z.o _ (.inr rfl)) ex1 ey1;have q2:=kNR (k:=d2) (c:=p) hab hp ⟨by omega,by omega⟩ ⟨by omega,by omega⟩ ⟨by omega,by omega⟩ ⟨by omega,by omega⟩ (hr _ Z.o Z.o _ (.inl rfl)) (hr _ Z.o Z.o _ (.inr rfl)) ex2 ey2
 have hsame:∀k z w,(k<0->z=b/\w=a)->(¬k<0->z=a/\w=b)->flD k z p<=clD k w p:=λk z w h1 h2=>by
  refine Int.le_trans (kRF Z.o) ?_;unfold clD;refine Int.neg_le_neg (kGQ Z.o (Int.neg_le_neg ?_));by_cases hk:k<0
  ·rw[(h1 hk).1,(h1 hk).2]
   have:=Int.mul_le_mul_of_nonpos_left (show k<=0 by omega) hab;omega
  ·rw[(h2 hk).1,(h2 hk).2]
   exact Int.mul_le_mul_of_nonneg_left hab Z.o
 have o1:x1<=y1:=by rw[ex1,ey1];exact hsame _ _ _ (λh=>⟨if_pos h,if_pos h⟩) (λh=>⟨if_neg h,if_neg h⟩)
 have o2:x2<=y2:=by rw[ex2,ey2];exact hsame _ _ _ (λh=>⟨if_pos h,if_pos h⟩) (λh=>⟨if_neg h,if_neg h⟩)
 have q3:=kWC (l:=l) (h:=h) o1 o2 (by rw[hl];exact kZ6 ha hab Z.o (by rw[ex1,ed']) (by rw[ex2,ed2])) (by rw[hh];exact kZ7 ha hab Z.o (by rw[ey1,ed']) (by rw[ey2,ed2]));clear ex1 ex2 ey1 ey2 hl hh;refine Z.y Tryz.func139 λzA _ _ _ _ _ _ zC zB _ _ _ _ _ R hR P hP=>?_;cbv;have n1:=W.nlt zB d0;have n2:=W.ngt zB d1;have n3:=W.nne zB (a:=0) rfl;have a1:zA .sub .i64 d 1=d':=by rw[zC,k3I Z.o Z.o,ed']
 have a2:zA .add .i64 d 1=d2:=by rw[zC,k0S Z.o Z.o,ed2]
 repeat' (first|(simp only[n1,n2,n3,a1,a2];cbv)|(refine Call.s hP q1 ?_;cbv)|(refine Call.s hP q2 ?_;cbv)|(refine Call.s hP q3 ?_;cbv)|fail)
 exact Z.r hR
def kAA(r:Int):Int:=if r<0 then -r else r
def kRI(c3 c4 r:Int):Int:=c3+kAA r*c4/1048576
theorem kYF{r v:Int}(h:v = -r):max r v=kAA r:=by unfold kAA;split<;>omega
theorem kGS{c3 c4 r:Int}(h3:0<=c3/\c3<=1048576)(h4:0<=c4/\c4<=65536)(hr: -2147483648<=r/\r<=2147483648):0<=kRI c3 c4 r/\kRI c3 c4 r<=135266304:=by
 unfold kRI;have ha:0<=kAA r/\kAA r<=2147483648:=by unfold kAA;split<;>omega
 have h0:0<=kAA r*c4:=Int.mul_nonneg ha.1 h4.1;have h1:kAA r*c4<=2147483648*65536:=Int.mul_le_mul ha.2 h4.2 h4.1 Z.d;have h2:=Int.ediv_le_ediv (c:=1048576) Z.d h1;have h5:0<=kAA r*c4/1048576:=Int.ediv_nonneg h0 Z.d;have h6:(2147483648*65536:Int)/1048576=134217728:=by decide
 omega
theorem kXN(c0 c1 c2 c3 c4 c5 c6 c7 c8 c9 c10 c11 c12 c13 r e:Int)(h3:0<=c3/\c3<=1048576)(h4:0<=c4/\c4<=65536)(hr: -2147483648<=r/\r<=2147483648)(he:e=kRI c3 c4 r):k02 Tryz.prog 204 [.agg [c0,c1,c2,c3,c4,c5,c6,c7,c8,c9,c10,c11,c12,c13],r] (· = jz e):=by
 have yH:=kGS h3 h4 hr;rw[<- he] at yH;obtain⟨v,ev⟩:∃v,v = -r:=⟨_,rfl⟩;obtain⟨a,ea⟩:=Z.e (kAA r);obtain⟨n,en⟩:=Z.e (flD a c4 1048576);have ha:0<=a/\a<=2147483648:=by rw[ea];unfold kAA;split<;>omega
 have q1:=kA7 (a:=a) (b:=c4) (c:=1048576) Z.d ⟨by decide,by decide⟩ ⟨by omega,by omega⟩ ⟨by omega,by omega⟩ (R62.mk' (A:=2147483648) (B:=65536) Z.d Z.d Z.d Z.o Z.o Z.o Z.o) en;have hen:c3+n=e:=by rw[he,en,ea];rfl
 have hmx:=kYF ev;rw[<- ea] at hmx;clear he en ea;(refine k02.ofY Tryz.func204 (by kernel_rfl) (by kernel_rfl) (Z.w λzA _ yT _ _ _ yR _ _ _ _ _ _ _ _ _ _ _ _ _ _ zC _ yM _ _ _ yU _ _ _ _ _ _ _ _ _ _ _ _ _ hz R hR=>?_));(conv=>arg 2;cbv);(generalize hP:Tryz.prog=P);cbv;have a0:yT .neg .i64 r=v:=by rw[yM,kF3 Z.o Z.o,ev]
 have a1:yR true r v=a:=by rw[yU,kTI,hmx]
 have a2:zA .add .i64 c3 n=e:=by rw[zC,k0S Z.o Z.o,hen]
 repeat' (first|(simp only[a0,a1,a2];cbv)|(refine Call.s hP q1 ?_;cbv)|fail)
 exact Z.r hR
theorem kWW(c0 c1 c2 c3 c4 c5 c6 c7 c8 c9 c10 c11 c12 c13 r l h:Int)(h3:0<=c3/\c3<=1048576)(h4:0<=c4/\c4<=65536)(hr: -2147483648<=r/\r<=2147483648)(hl:r-kRI c3 c4 r=l)(hh:r+kRI c3 c4 r=h):k02 Tryz.prog 140 [.agg [c0,c1,c2,c3,c4,c5,c6,c7,c8,c9,c10,c11,c12,c13],r] (· = .agg [l,h]):=by
 have yH:=kGS h3 h4 hr;obtain⟨e,ee⟩:=Z.e (kRI c3 c4 r);rw[<- ee] at hl hh yH;have q1:=kXN c0 c1 c2 c3 c4 c5 c6 c7 c8 c9 c10 c11 c12 c13 r e h3 h4 hr ee;have q2:=kNL (a:=r) (w:=e) yH.1 hl hh ⟨by omega,by omega⟩ ⟨by omega,by omega⟩;clear ee;refine Z.y Tryz.func140 λ_ _ _ _ _ _ _ _ _ _ _ _ _ hz R hR P hP=>?_;cbv;repeat' (first|(refine Call.s hP q1 ?_;cbv)|(refine Call.s hP q2 ?_;cbv)|fail)
 exact Z.r hR
theorem kSI(c0 c1 c2 c3 c4 c5 c6 c7 c8 c9 c10 c11 c12 c13 m a b l h:Int)(h5:0<=c5/\c5<=1048576)(hm: -2147483648<=m/\m<=2147483648)(hab:a<=b)(ha: -1048576<=a)(hb:b<=1048576)(hl:m-b-c5=l)(hh:m-a+c5=h):k02 Tryz.prog 149 [.agg [c0,c1,c2,c3,c4,c5,c6,c7,c8,c9,c10,c11,c12,c13],m,.agg [a,b]] (· = .agg [l,h]):=by
 obtain⟨x,ex⟩:=Z.f (m-b);obtain⟨y,ey⟩:=Z.f (m-a);have q1:=q07 m;have q2:=kGU (a:=m) (b:=m) (c:=a) (d:=b) (l:=x) (h:=y) Z.o hab ex ey ⟨by omega,by omega⟩ ⟨by omega,by omega⟩ ⟨by omega,by omega⟩ ⟨by omega,by omega⟩;have q3:=kGV (a:=x) (b:=y) (f:=c5) (l:=l) (h:=h) Z.o h5.1 Z.o Z.o ⟨by omega,by omega⟩ ⟨by omega,by omega⟩ ⟨by omega,by omega⟩;refine Z.y Tryz.func149 λ_ _ _ _ _ _ _ _ _ _ _ _ _ hz R hR P hP=>?_;cbv;repeat' (first|(refine k1R.s hP q1 ?_;cbv)|(refine k1R.s hP q2 ?_;cbv)|(refine Call.s hP q3 ?_;cbv)|fail)
 exact Z.r hR
theorem q0R{a b c d l h:Int}(h1:a<=b)(h2:c<=d)(hl:a+c=l)(hh:b+d=h)(ha:I62 a)(hb:I62 b)(hc:I62 c)(hd:I62 d):k02 Tryz.prog 148 [.agg [a,b],.agg [c,d]] (· = .agg [l,h]):=by
 have q1:=kDH h1 h2 hl hh ha hb hc hd;refine Z.y Tryz.func148 λ_ _ _ _ _ _ _ _ _ _ _ _ _ hz R hR P hP=>?_;cbv;repeat' (first|(refine Call.s hP q1 ?_;cbv)|fail)
 exact Z.r hR
theorem kIF(c0 c1 c2 c3 c4 c5 c6 c7 c8 c9 c10 c11 c12 c13 n:Int)(hn:n = -c6)(h6:0<=c6/\c6<=16777216):k02 Tryz.prog 38 [.agg [c0,c1,c2,c3,c4,c5,c6,c7,c8,c9,c10,c11,c12,c13]] (· = .agg [n,c6]):=by
 refine Z.y Tryz.func38 λ_ _ yT _ _ _ _ _ _ yM _ _ _ hz R hR P hP=>?_;cbv;have a0:yT .neg .i64 c6=n:=by rw[yM,kF3 Z.o Z.o,hn]
 simp only[a0];exact Z.r hR
theorem q0V(c0 c1 c2 c3 c4 c5 c6 c7 c8 c9 c10 c11 c12 c13:Int):k02 Tryz.prog 37 [.agg [c0,c1,c2,c3,c4,c5,c6,c7,c8,c9,c10,c11,c12,c13]] (· = .agg [c1,c2]):=by
 refine Z.y Tryz.func37 λ_ _ _ _ _ _ _ _ _ _ _ _ _ hz R hR P hP=>?_;cbv;exact Z.r hR
theorem kRW(c0 c1 c2 c3 c4 c5 c6 c7 c8 c9 c10 c11 c12 c13 a b l h:Int)(h6:1<=c6/\c6<=16777216)(h7:1<=c7/\c7<=1048576)(hab:a<=b)(ha: -c6<=a)(hb:b<=c6)(hl:l=max (a-c7) (-c6))(hh:h=min (b+c7) c6):k02 Tryz.prog 93 [.agg [c0,c1,c2,c3,c4,c5,c6,c7,c8,c9,c10,c11,c12,c13],.agg [a,b]] (· = .agg [l,h]):=by
 obtain⟨x,ex⟩:=Z.f (a-c7);obtain⟨y,ey⟩:=Z.f (b+c7);obtain⟨n,en⟩:∃x,x = -c6:=⟨_,rfl⟩;have q1:=kGV (a:=a) (b:=b) (f:=c7) (l:=x) (h:=y) hab Z.o ex ey ⟨by omega,by omega⟩ ⟨by omega,by omega⟩ ⟨by omega,by omega⟩;have q2:=kIF c0 c1 c2 c3 c4 c5 c6 c7 c8 c9 c10 c11 c12 c13 n en ⟨by omega,h6.2⟩;have q3:=k9C (a:=x) (b:=y) (c:=n) (d:=c6) (x:=l) (y:=h) Z.o Z.o Z.o;clear hl hh;refine Z.y Tryz.func93 λ_ _ _ _ _ _ _ _ _ _ _ _ _ _ R hR P hP=>?_;cbv;repeat' (first|(refine Call.s hP q1 ?_;cbv)|(refine k1R.s hP q2 ?_;cbv)|(refine k1R.s hP q3 ?_;cbv)|fail)
 exact Z.r hR
def kSP(n most:Int)(more:Bool):Int:=if more then min (n+1) most else 0
theorem kO7(n most v:Int)(more:Bool)(hn:0<=n/\n<=1048576)(hv:v=kSP n most more):k02 Tryz.prog 103 [n,most,more] (· = jz v):=by
 obtain⟨n1,en⟩:=Z.e (n+1);unfold kSP at hv;rw[<- en] at hv;cases more
 ·simp only[Bool.false_eq_true,if_false] at hv
  subst hv;refine Z.y Tryz.func103 λ_ _ _ _ zF _ _ _ _ _ _ zI _ hz R hR P hP=>?_;cbv;have m1:zF false=true:=(by rw[zI];rfl);repeat' (first|(simp only[m1];cbv)|fail)
  exact Z.r hR
 ·simp only[if_true] at hv
  (refine k02.ofY Tryz.func103 (by kernel_rfl) (by kernel_rfl) (Z.w λzA _ _ _ zF _ yR _ _ _ _ _ _ _ _ _ _ _ _ _ _ zC _ _ _ zI _ yU _ _ _ _ _ _ _ _ _ _ _ _ _ hz R hR=>?_));(conv=>arg 2;cbv);(generalize hP:Tryz.prog=P);cbv;have m1:zF true=false:=(by rw[zI];rfl);have a1:zA .add .i64 n 1=n1:=(by rw[zC,k0S Z.o Z.o,en]);have a2:yR false n1 most=v:=(by rw[yU,kP6,hv]);repeat' (first|(simp only[m1,a1,a2];cbv)|fail)
  exact Z.r hR
structure Wt where
 si:Int
 st:Int
 fa:Bool
def wtV(c12:Int)(w:Wt)(fit:Int)(cf ov ac:Bool):Wt:=
 ⟨kSP w.si (c12+1) (decide (fit<1)),kSP w.st (c12+1) cf,ov || decide (c12<kSP w.si (c12+1) (decide (fit<1))) || decide (c12<kSP w.st (c12+1) cf) || (w.fa && !ac)⟩
theorem kWE(c0 c1 c2 c3 c4 c5 c6 c7 c8 c9 c10 c11 c12 c13:Int)(w:Wt)(fit:Int)(cf ov ac:Bool)(v:Wt)(h12:1<=c12/\c12<=1000)(hsi:0<=w.si/\w.si<=1048576)(hst:0<=w.st/\w.st<=1048576)(hv:v=wtV c12 w fit cf ov ac) :
 k02 Tryz.prog 50 [.agg [w.si,w.st,w.fa],.agg [c0,c1,c2,c3,c4,c5,c6,c7,c8,c9,c10,c11,c12,c13],fit,cf,ov,ac] (· = .agg [v.si,v.st,v.fa]):=by
 obtain⟨si,st,fa⟩:=w;obtain⟨s,t,f⟩:=v;obtain⟨k,ek⟩:=Z.e (c12+1);obtain⟨b1,eb1⟩:=Z.e (decide (fit<1));unfold wtV at hv;simp only[Wt.mk.injEq] at hv;rw[<- ek,<- eb1] at hv;obtain⟨hs,ht,hf⟩:=hv;rw[<- hs,<- ht] at hf;have q1:=kO7 si k s b1 hsi hs;have q2:=kO7 st k t cf hst ht;obtain⟨b2,eb2⟩:=Z.e (decide (c12<s));obtain⟨b3,eb3⟩:=Z.e (decide (c12<t));rw[<- eb2,<- eb3] at hf;clear hs ht;refine Z.y Tryz.func50 λzA zG _ _ zF _ _ zC zB _ _ zI _ hz R hR P hP=>?_;cbv;have a1:zA .add .i64 c12 1=k:=by rw[zC,k0S Z.o Z.o,ek]
 have d1:zG .lss fit 1=b1:=by rw[zB,eb1];rfl
 have d2:zG .gtr s c12=b2:=by rw[zB,eb2];rfl
 have d3:zG .gtr t c12=b3:=by rw[zB,eb3];rfl
 have m1:zF true=false:=by rw[zI];rfl
 have m2:zF false=true:=by rw[zI];rfl
 clear eb1 eb2 eb3;repeat' (first|(simp only[a1,d1];cbv)|(refine Call.s hP q1 ?_;cbv)|(refine Call.s hP q2 ?_;cbv)|fail)
 subst hf
 cases ov<;>cases b2<;>cases b3<;>cases fa<;>cases ac<;>cbv<;>(repeat' (first|(simp only[d2,d3,m1,m2];cbv)|fail))<;>exact Z.r hR
def k6J(fa on:Bool)(fit:Int)(cf:Bool):Int:=if fa then 4 else if !on then 1 else if fit<2\/cf=true then 3 else 2
theorem kNP(si st:Int)(fa on:Bool)(fit:Int)(cf:Bool)(v:Int)(hv:v=k6J fa on fit cf) :
 k02 Tryz.prog 106 [.agg [si,st,fa],on,fit,cf] (· = jz v):=by
 unfold k6J at hv;by_cases hf:fit<2
 ·refine Z.y Tryz.func106 λ_ _ _ _ zF _ _ _ zB _ _ zI _ hz R hR P hP=>?_;cbv
  have d1:=W.lt zB hf;have m1:zF true=false:=(by rw[zI];rfl);have m2:zF false=true:=(by rw[zI];rfl);simp only[hf,true_or,if_true] at hv;subst hv
  cases fa<;>cases on<;>cases cf<;>cbv<;>(repeat' (first|(simp only[d1,m1,m2];cbv)|fail))<;>exact Z.r hR
 ·refine Z.y Tryz.func106 λ_ _ _ _ zF _ _ _ zB _ _ zI _ hz R hR P hP=>?_;cbv
  have d1:=W.nlt zB (show 2<=fit by omega);have m1:zF true=false:=(by rw[zI];rfl);have m2:zF false=true:=(by rw[zI];rfl);simp only[hf,false_or] at hv;subst hv
  cases fa<;>cases on<;>cases cf<;>cbv<;>(repeat' (first|(simp only[d1,m1,m2];cbv)|fail))<;>exact Z.r hR
def k77(c9 c10 n lo hi fit:Int):Int:=if fit<1\/lo < -c10\/c10<hi then 0 else min (n+1) c9
theorem q0H(c0 c1 c2 c3 c4 c5 c6 c7 c8 c9 c10 c11 c12 c13 a b:Int)(o:Bool)(hab:a<=b)(h10:0<=c10/\c10<=16777216)(ho:o=decide (¬(a < -c10\/c10<b))):k02 Tryz.prog 104 [.agg [c0,c1,c2,c3,c4,c5,c6,c7,c8,c9,c10,c11,c12,c13],.agg [a,b]] (· = .bool o):=by
 obtain⟨n,en⟩:∃x,x = -c10:=⟨_,rfl⟩;rw[<- en] at ho;have q1:=q08 (a:=a) (b:=b) (c:=n) (d:=c10) o (by rw[ho,decide_eq_decide];omega);clear ho;refine Z.y Tryz.func104 λ_ _ yT _ _ _ _ _ _ yM _ _ _ hz R hR P hP=>?_;cbv;have a0:yT .neg .i64 c10=n:=by rw[yM,kF3 Z.o Z.o,en]
 repeat' (first|(simp only[a0];cbv)|(refine Call.s hP q1 ?_;cbv)|fail)
 exact Z.r hR
theorem kWG(c0 c1 c2 c3 c4 c5 c6 c7 c8 c9 c10 c11 c12 c13 n:Int)(on:Bool)(a b fit v:Int)(o:Bool)(hab:a<=b)(h9:1<=c9/\c9<=1000)(h10:0<=c10/\c10<=16777216)(hn:0<=n/\n<=1048576)(hv:v=k77 c9 c10 n a b fit)(ho:o=decide (c9<=v)) :
 k02 Tryz.prog 51 [.agg [n,on],.agg [c0,c1,c2,c3,c4,c5,c6,c7,c8,c9,c10,c11,c12,c13],.agg [a,b],fit] (· = .agg [v,o]):=by
 obtain⟨sl,esl⟩:=Z.e (decide (¬(a < -c10\/c10<b)));have q1:=q0H c0 c1 c2 c3 c4 c5 c6 c7 c8 c9 c10 c11 c12 c13 a b sl hab h10 esl;obtain⟨n1,en1⟩:=Z.e (n+1);unfold k77 at hv;rw[<- en1] at hv;by_cases hz:fit<1\/a < -c10\/c10<b
 ·rw[if_pos hz] at hv
  subst hv;have ho0:o=false:=(by rw[ho];exact decide_eq_false Z.o);subst ho0;by_cases hf:fit<1
  ·clear esl en1
   refine Z.y Tryz.func51 λ_ _ _ _ _ _ _ _ zB _ _ _ _ hz R hR P hP=>?_;cbv;have d1:=W.lt zB hf;repeat' (first|(simp only[d1];cbv)|fail)
   exact Z.r hR
  ·have hsl:sl=false:=by rw[esl];exact decide_eq_false Z.o
   subst hsl;clear esl en1;refine Z.y Tryz.func51 λ_ _ _ _ zF _ _ _ zB _ _ zI _ hz R hR P hP=>?_;cbv;have d1:=W.nlt zB (show 1<=fit by omega);have m2:zF false=true:=(by rw[zI];rfl);repeat' (first|(simp only[d1,m2];cbv)|(refine Call.s hP q1 ?_;cbv)|fail)
   exact Z.r hR
 ·rw[if_neg hz] at hv
  have hsl:sl=true:=(by rw[esl];exact decide_eq_true Z.o);subst hsl;clear esl;(refine k02.ofY Tryz.func51 (by kernel_rfl) (by kernel_rfl) (Z.w λzA zG _ _ zF _ yR _ _ _ _ _ _ _ _ _ _ _ _ _ _ zC zB _ _ zI _ yU _ _ _ _ _ _ _ _ _ _ _ _ _ _ R hR=>?_));(conv=>arg 2;cbv);(generalize hP:Tryz.prog=P);cbv;have d1:=W.nlt zB (show 1<=fit by omega);have m1:zF true=false:=(by rw[zI];rfl);have a1:zA .add .i64 n 1=n1:=(by rw[zC,k0S Z.o Z.o,en1]);have a2:yR false n1 c9=v:=(by rw[yU,kP6,hv]);have d2:zG .geq v c9=o:=(by rw[zB,ho];rfl);repeat' (first|(simp only[d1,m1,a1,a2,d2];cbv)|(refine Call.s hP q1 ?_;cbv)|fail)
  exact Z.r hR
def kP7(c d a b p n:Int):Int×Int:=if n<2\/a<=0\/min d (clD b p (n-1))<max c (flD a p (n+1)) then (c,d) else (max c (flD a p (n+1)),min d (clD b p (n-1)))
def k57(c d a b p n:Int):Int×Int:=if n<0 then kP7 c d (-b) (-a) p (-n) else kP7 c d a b p n
theorem kCI{a b p n:Int}(hab:a<=b)(h:n<2\/a<=0):k02 Tryz.prog 216 [.agg [a,b],p,n] (· = .tuple [.agg [jz 0,jz 0],.bool false]):=by
 have r1:=k22 (a:=a) (b:=b) true (by simp[hab]);by_cases h1:a<=0
 ·refine Z.y Tryz.func216 λ_ _ _ _ _ _ _ _ zB _ _ _ _ hz R hR P hP=>?_;cbv
  have d1:=W.le zB h1;repeat' (first|(simp only[d1];cbv)|fail)
  exact Z.r hR
 ·refine Z.y Tryz.func216 λ_ _ _ _ zF _ _ _ zB _ _ zI _ hz R hR P hP=>?_;cbv
  have d1:=W.nle zB (show 0<a by omega);have d2:=W.lt zB (show n<2 by omega);have m1:zF true=false:=(by rw[zI];rfl);repeat' (first|(simp only[d1,d2,m1];cbv)|(refine Call.s hP r1 ?_;cbv)|fail)
  exact Z.r hR
theorem kII{a b p n x y:Int}(hab:a<=b)(ha:0<a)(hb:b<=140737488355328)(hp:1<=p/\p<=1024)(hn:2<=n/\n<=1099511627776)(hx:x=flD a p (n+1))(hy:y=clD b p (n-1)):k02 Tryz.prog 216 [.agg [a,b],p,n] (· = .tuple [.agg [x,y],.bool true]):=by
 have r1:=k22 (a:=a) (b:=b) true (by simp[hab]);obtain⟨n1,en1⟩:=Z.e (n+1);obtain⟨n2,en2⟩:=Z.e (n-1);rw[<- en1] at hx;rw[<- en2] at hy;have q1:=kA7 (a:=a) (b:=p) (c:=n1) Z.o ⟨by omega,by omega⟩ ⟨by omega,by omega⟩ ⟨by omega,by omega⟩ (R62.mk' (A:=140737488355328) (B:=1024) Z.d Z.d Z.d Z.o Z.o Z.o Z.o) hx;have q2:=kGZ (a:=b) (b:=p) (c:=n2) Z.o ⟨by omega,by omega⟩ ⟨by omega,by omega⟩ ⟨by omega,by omega⟩ (R62.mk' (A:=140737488355328) (B:=1024) Z.d Z.d Z.d Z.o Z.o Z.o Z.o) hy;clear hx hy;refine Z.y Tryz.func216 λzA _ _ _ zF _ _ zC zB _ _ zI _ hz R hR P hP=>?_;cbv;have d1:=W.nle zB (show 0<a by omega);have d2:=W.nlt zB (show 2<=n by omega);have d3:=W.eq zB (a:=0) rfl;have m1:zF true=false:=by rw[zI];rfl
 have a1:zA .add .i64 n 1=n1:=by rw[zC,k0S Z.o Z.o,en1]
 have a2:zA .sub .i64 n 1=n2:=by rw[zC,k3I Z.o Z.o,en2]
 repeat' (first|(simp only[d1,d2,d3,m1,a1,a2];cbv)|(refine Call.s hP r1 ?_;cbv)|(refine Call.s hP q1 ?_;cbv)|(refine Call.s hP q2 ?_;cbv)|fail)
 exact Z.r hR
theorem kSB{c d a b p n x y:Int}(hab:a<=b)(ha0: -140737488355328<=a)(hb:b<=140737488355328)(hp:1<=p/\p<=1024)(hn:0<=n/\n<=1099511627776)(hxy:(x,y)=kP7 c d a b p n):∃o,k02 Tryz.prog 163 [.agg [c,d],.agg [a,b],p,n] (· = .tuple [.agg [x,y],.bool o]):=by
 unfold kP7 at hxy;by_cases h:n<2\/a<=0
 ·rw[if_pos Z.o] at hxy
  obtain⟨rfl,rfl⟩:=Prod.mk.inj hxy;have q1:=kCI (p:=p) hab h;refine⟨false,?_⟩;refine Z.y Tryz.func163 λ_ _ _ _ zF _ _ _ zB _ _ zI _ hz R hR P hP=>?_;cbv;have d1:=W.nlt zB hn.1;have m1:zF false=true:=(by rw[zI];rfl);repeat' (first|(simp only[d1,m1];cbv)|(refine Call.s hP q1 ?_;cbv)|fail)
  exact Z.r hR
 ·obtain⟨u,eu⟩:=Z.e (flD a p (n+1))
  obtain⟨v,ev⟩:=Z.e (clD b p (n-1));have q1:=kII hab Z.o hb hp ⟨by omega,hn.2⟩ eu ev;rw[<- eu,<- ev] at hxy;obtain⟨x1,ex1⟩:=Z.f (max c u);obtain⟨y1,ey1⟩:=Z.f (min d v);rw[ex1,ey1] at hxy;clear eu ev;by_cases hm:y1<x1
  ·rw[if_pos Z.o] at hxy
   obtain⟨rfl,rfl⟩:=Prod.mk.inj hxy;have q2:=k6N ex1 ey1 hm;refine⟨false,?_⟩;refine Z.y Tryz.func163 λ_ _ _ _ zF _ _ _ zB _ _ zI _ hz R hR P hP=>?_;cbv;have d1:=W.nlt zB hn.1;have m1:zF false=true:=(by rw[zI];rfl);have m2:zF true=false:=(by rw[zI];rfl);repeat' (first|(simp only[d1,m1,m2];cbv)|(refine Call.s hP q1 ?_;cbv)|(refine Call.s hP q2 ?_;cbv)|fail)
   exact Z.r hR
  ·rw[if_neg Z.o] at hxy
   obtain⟨rfl,rfl⟩:=Prod.mk.inj hxy;have q2:=k9C ex1 ey1 Z.o;refine⟨true,?_⟩;refine Z.y Tryz.func163 λ_ _ _ _ zF _ _ _ zB _ _ zI _ hz R hR P hP=>?_;cbv;have d1:=W.nlt zB hn.1;have m1:zF false=true:=(by rw[zI];rfl);have m2:zF true=false:=(by rw[zI];rfl);repeat' (first|(simp only[d1,m1,m2];cbv)|(refine Call.s hP q1 ?_;cbv)|(refine Call.s hP q2 ?_;cbv)|fail)
   exact Z.r hR
theorem kO4{c d a b p n x y:Int}(hab:a<=b)(ha0: -140737488355328<=a)(hb:b<=140737488355328)(hp:1<=p/\p<=1024)(hn: -1099511627776<=n/\n<=1099511627776)(hxy:(x,y)=k57 c d a b p n):∃o,k02 Tryz.prog 163 [.agg [c,d],.agg [a,b],p,n] (· = .tuple [.agg [x,y],.bool o]):=by
 unfold k57 at hxy;by_cases h0:n<0
 rotate_left 1
 ·rw[if_neg h0] at hxy
  exact kSB hab ha0 hb hp ⟨by omega,hn.2⟩ hxy
 rw[if_pos h0] at hxy;obtain⟨a',ea'⟩:∃x,x = -b:=⟨_,rfl⟩;obtain⟨b',eb'⟩:∃x,x = -a:=⟨_,rfl⟩;obtain⟨n',en'⟩:∃x,x = -n:=⟨_,rfl⟩;rw[<- ea',<- eb',<- en'] at hxy;have hab':a'<=b':=by omega
 have q0:=kGU (a:=0) (b:=0) (c:=a) (d:=b) (l:=a') (h:=b') Z.o hab Z.o Z.o ⟨by omega,by omega⟩ ⟨by omega,by omega⟩ ⟨by omega,by omega⟩ ⟨by omega,by omega⟩;unfold kP7 at hxy;by_cases h:n'<2\/a'<=0
 ·rw[if_pos Z.o] at hxy
  obtain⟨rfl,rfl⟩:=Prod.mk.inj hxy;have q1:=kCI (p:=p) hab' h;refine⟨false,?_⟩;refine Z.y Tryz.func163 λ_ _ yT _ zF _ _ _ zB yM _ zI _ hz R hR P hP=>?_;cbv;have d1:=W.lt zB h0;have d2:=W.gt zB (show -4611686018427387904<n by omega);have m1:zF false=true:=(by rw[zI];rfl);have m2:zF true=false:=(by rw[zI];rfl);have a0:yT .neg .i64 n=n':=(by rw[yM,kF3 Z.o Z.o,en']);repeat' (first|(simp only[d1,d2,m1,m2,a0];cbv)|(refine Call.s hP q0 ?_;cbv)|(refine Call.s hP q1 ?_;cbv)|fail)
  exact Z.r hR
 ·obtain⟨u,eu⟩:=Z.e (flD a' p (n'+1))
  obtain⟨v,ev⟩:=Z.e (clD b' p (n'-1));have q1:=kII hab' Z.o Z.o hp ⟨by omega,by omega⟩ eu ev;rw[<- eu,<- ev] at hxy;obtain⟨x1,ex1⟩:=Z.f (max c u);obtain⟨y1,ey1⟩:=Z.f (min d v);rw[ex1,ey1] at hxy;clear eu ev;by_cases hm:y1<x1
  ·rw[if_pos Z.o] at hxy
   obtain⟨rfl,rfl⟩:=Prod.mk.inj hxy;have q2:=k6N ex1 ey1 hm;refine⟨false,?_⟩;refine Z.y Tryz.func163 λ_ _ yT _ zF _ _ _ zB yM _ zI _ hz R hR P hP=>?_;cbv;have d1:=W.lt zB h0;have d2:=W.gt zB (show -4611686018427387904<n by omega);have m1:zF false=true:=(by rw[zI];rfl);have m2:zF true=false:=(by rw[zI];rfl);have a0:yT .neg .i64 n=n':=(by rw[yM,kF3 Z.o Z.o,en']);repeat' (first|(simp only[d1,d2,m1,m2,a0];cbv)|(refine Call.s hP q0 ?_;cbv)|(refine Call.s hP q1 ?_;cbv)|(refine Call.s hP q2 ?_;cbv)|fail)
   exact Z.r hR
  ·rw[if_neg Z.o] at hxy
   obtain⟨rfl,rfl⟩:=Prod.mk.inj hxy;have q2:=k9C ex1 ey1 Z.o;refine⟨true,?_⟩;refine Z.y Tryz.func163 λ_ _ yT _ zF _ _ _ zB yM _ zI _ _ R hR P hP=>?_;cbv;have d1:=W.lt zB h0;have d2:=W.gt zB (show -4611686018427387904<n by omega);have m1:zF false=true:=(by rw[zI];rfl);have m2:zF true=false:=(by rw[zI];rfl);have a0:yT .neg .i64 n=n':=(by rw[yM,kF3 Z.o Z.o,en']);repeat' (first|(simp only[d1,d2,m1,m2,a0];cbv)|(refine Call.s hP q0 ?_;cbv)|(refine Call.s hP q1 ?_;cbv)|(refine Call.s hP q2 ?_;cbv)|fail)
   exact Z.r hR
structure Ct where
 kn:Bool
 la:Int
 su:Int
def kSL(a b:Int):Int:=(b-a+32768)%65536-32768
theorem kPE(n:Int):IntKind.i16.wrap n=(n+32768)%65536-32768:=by
 simp[IntKind.wrap,IntKind.bits,IntKind.signed];split<;>omega
theorem kXP(a b d:Int)(hd:d=kSL a b):k02 Tryz.prog 201 [.int .u16 a,.int .u16 b] (· = jz d):=by
 have h1:IntKind.i64.wrap (IntKind.i16.wrap (IntKind.u16.wrap (b-a)))=d:=by
  rw[hd,IntKind.wrap_u16,kPE,IntKind.wrap_i64];unfold kSL;omega
 clear hd;refine Z.y Tryz.func201 λ_ _ _ _ _ _ _ zC _ _ zH _ _ hz R hR P hP=>?_;cbv;refine⟨_,Vw.same rfl,hR _ (congrArg (AV.int .i64) ?_)⟩;rw[zH,zC];exact h1
def pnV(c:Ct)(v:Int)(has:Bool):Ct×Int×Bool:=
 if has=false then (⟨false,c.la,c.su⟩,0,false) else if c.kn=false then (⟨true,v,c.su⟩,0,false) else (⟨true,v,c.su+kSL c.la v⟩,kSL c.la v,true)
theorem kNY(c:Ct)(v:Int)(has:Bool)(hv:has=true->0<=v/\v<=65535)(hs: -1099511627776<=c.su/\c.su<=1099511627776)(k:Ct)(d:Int)(o:Bool)(h:(k,d,o)=pnV c v has) :
 k02 Tryz.prog 138 [.agg [c.kn,.int .u16 c.la,c.su],v,has] (· = .tuple [.agg [k.kn,.int .u16 k.la,k.su],d,o]):=by
 obtain⟨kn,la,su⟩:=c;obtain⟨kk,kl,ks⟩:=k;unfold pnV at h;simp only at h hs
 cases has with
 | false =>
   rw[if_pos rfl] at h;simp only[Prod.mk.injEq,Ct.mk.injEq] at h;obtain⟨⟨rfl,rfl,rfl⟩,rfl,rfl⟩:=h;refine Z.y Tryz.func138 λ_ _ _ _ zF _ _ _ _ _ _ zI _ hz R hR P hP=>?_;cbv;have m1:zF false=true:=(by rw[zI];rfl);repeat' (first|(simp only[m1];cbv)|fail)
   exact Z.r hR
 | true =>
   rw[if_neg Z.d] at h;have hv:=hv rfl;have w1:IntKind.u16.wrap v=v:=by rw[IntKind.wrap_u16];omega
   cases kn with
   | false =>
     rw[if_pos rfl] at h;simp only[Prod.mk.injEq,Ct.mk.injEq] at h;obtain⟨⟨rfl,rfl,rfl⟩,rfl,rfl⟩:=h;refine Z.y Tryz.func138 λ_ _ _ zD zF _ _ _ _ _ zH zI _ hz R hR P hP=>?_;cbv;have m1:zF true=false:=(by rw[zI];rfl);have m2:zF false=true:=(by rw[zI];rfl);have v1:zD .u16 kl=kl:=(by rw[zH];exact w1);repeat' (first|(simp only[m1,m2,v1];cbv)|fail)
     exact Z.r hR
   | true =>
     rw[if_neg Z.d] at h;simp only[Prod.mk.injEq,Ct.mk.injEq] at h;obtain⟨⟨rfl,rfl,h1⟩,h2,rfl⟩:=h;have hd: -32768<=d/\d<=32767:=(by rw[h2];unfold kSL;omega);rw[<- h2] at h1;have q1:=kXP la kl d h2;have q2:=kFC (a:=su) (b:=d) (d:=ks) h1.symm ⟨by omega,by omega⟩ ⟨by omega,by omega⟩;clear h1 h2;refine Z.y Tryz.func138 λ_ _ _ zD zF _ _ _ _ _ zH zI _ _ R hR P hP=>?_;cbv;have m1:zF true=false:=(by rw[zI];rfl);have v1:zD .u16 kl=kl:=(by rw[zH];exact w1);repeat' (first|(simp only[m1,v1];cbv)|(refine Call.s hP q1 ?_;cbv)|(refine Call.s hP q2 ?_;cbv)|fail)
     exact Z.r hR
def crS(s:BitVec 16):BitVec 16:=(s <<< 1) ^^^ (if s.msb then 4129#16 else 0#16)
def crN:Nat->BitVec 16->BitVec 16
 | 0,s=>s
 | n+1,s=>crN n (crS s)
def crB(s:BitVec 16)(b:BitVec 16):BitVec 16:=crN 8 (s ^^^ (b <<< 8))
def crL(s:BitVec 16)(l:List (BitVec 16)):BitVec 16:=l.foldl crB s
theorem kVE(a b:BitVec 16)(n:Nat):(a ^^^ b) <<< n=(a <<< n) ^^^ (b <<< n):=by
 apply BitVec.eq_of_getElem_eq;intro i hi;simp only[BitVec.getElem_shiftLeft,BitVec.getElem_xor];by_cases h:i<n
 ·simp[h]
 ·simp[h]
theorem kO9(a b:BitVec 16):crS (a ^^^ b)=crS a ^^^ crS b:=by
 unfold crS;rw[kVE,BitVec.msb_xor]
 cases a.msb<;>cases b.msb<;>simp
 ·ac_rfl
 ·ac_rfl
 ·rw[show (a <<< 1 ^^^ 4129#16) ^^^ (b <<< 1 ^^^ 4129#16)=(a <<< 1 ^^^ b <<< 1) ^^^ (4129#16 ^^^ 4129#16) by ac_rfl]
  simp
theorem kB9:∀(n:Nat) (a b:BitVec 16),crN n (a ^^^ b)=crN n a ^^^ crN n b
 | 0,a,b=>rfl
 | n+1,a,b=>by simp only[crN];rw[kO9,kB9 n]
theorem k9D:∀(m n:Nat) (a:BitVec 16),crN (m+n) a=crN n (crN m a)
 | 0,n,a=>by rw[Nat.zero_add];rfl
 | m+1,n,a=>by rw[show m+1+n=(m+n)+1 by omega];simp only[crN];rw[k9D m n]
theorem kFL{a:BitVec 16}(h:a.toNat<32768):crS a=a <<< 1:=by
 unfold crS;have:a.msb=false:=by rw[BitVec.msb_eq_decide];simp;omega
 rw[this];simp
theorem kBA:∀(n:Nat) (a:BitVec 16),a.toNat*2 ^ n<=65535->crN n a=a <<< n
 | 0,a,h=>by simp[crN]
 | n+1,a,h=>by
   have h1:a.toNat*2<=65535:=Nat.le_trans (Nat.mul_le_mul_left _ (by rw[Nat.pow_succ];have:=Nat.one_le_two_pow (n:=n);omega)) h;have h2:(a <<< 1).toNat=a.toNat*2:=(by rw[BitVec.toNat_shiftLeft,Nat.shiftLeft_eq];omega);simp only[crN];rw[kFL Z.o,kBA n _ (by rw[h2,Nat.mul_assoc,<- Nat.pow_succ'];exact h),<- BitVec.shiftLeft_add,Nat.add_comm]
def crI(s:BitVec 16)(t:Bool):BitVec 16:=crS s ^^^ (if t then 1#16 else 0#16)
def kBB(s:BitVec 16)(l:List Bool):BitVec 16:=l.foldl crI s
theorem kDL:∀(l m:List Bool) (a b:BitVec 16),l.length=m.length->kBB (a ^^^ b) (List.zipWith (λx y=>x ^^ y) l m)=kBB a l ^^^ kBB b m
 | [],[],a,b,_=>rfl
 | x::l,y::m,a,b,h=>by
   simp only[List.zipWith_cons_cons,kBB,List.foldl_cons]
   have e:crI (a ^^^ b) (x ^^ y)=crI a x ^^^ crI b y:=by
    unfold crI;rw[kO9]
    cases x<;>cases y<;>simp
    ·ac_rfl
    ·ac_rfl
    ·rw[show (crS a ^^^ 1#16) ^^^ (crS b ^^^ 1#16)=(crS a ^^^ crS b) ^^^ (1#16 ^^^ 1#16) by ac_rfl];simp
   rw[e];exact kDL l m _ _ (by simpa using h)
theorem k8Q:∀(n:Nat) (a:BitVec 16),kBB a (List.replicate n false)=crN n a
 | 0,a=>rfl
 | n+1,a=>by
   rw[List.replicate_succ];simp only[kBB,List.foldl_cons,crN];rw[show crI a false=crS a by simp[crI]];exact k8Q n _
theorem k8R(a:BitVec 16)(l m:List Bool):kBB a (l++m)=kBB (kBB a l) m:=List.foldl_append
def k6Q(b:BitVec 16):List Bool:=(List.range 8).map λi=>b.getLsbD (7-i)
theorem kOA(a b:BitVec 16)(hb:b.toNat<256):kBB a (k6Q b)=crN 8 a ^^^ b:=by
 have h0:kBB (a ^^^ 0#16) (List.zipWith (λx y=>x ^^ y) (List.replicate 8 false) (k6Q b))=kBB a (List.replicate 8 false) ^^^ kBB 0#16 (k6Q b):=kDL _ _ _ _ (by simp[k6Q])
 have h1:List.zipWith (λx y=>x ^^ y) (List.replicate 8 false) (k6Q b)=k6Q b:=by
  simp[k6Q,List.range,List.range.loop]
 rw[h1,k8Q,BitVec.xor_zero] at h0;rw[h0];congr 1
 -- from nothing on no digit is lost
 have key:∀(k:Nat),k<=8->kBB 0#16 ((List.range k).map λi=>b.getLsbD (7-i))=b >>> (8-k):=by
  intro k
  induction k with
  | zero =>
    intro _;show 0#16=b >>> 8;apply BitVec.eq_of_toNat_eq;rw[BitVec.toNat_ushiftRight,Nat.shiftRight_eq_div_pow];simp;omega
  | succ k ih =>
    intro hk;rw[List.range_succ,List.map_append,k8R,ih Z.o];show crI (b >>> (8-k)) (b.getLsbD (7-k))=_;unfold crI
    have hs:(b >>> (8-k)).toNat<32768:=by
     rw[BitVec.toNat_ushiftRight,Nat.shiftRight_eq_div_pow];exact Nat.lt_of_le_of_lt (Nat.div_le_self _ _) Z.o
    rw[kFL hs];apply BitVec.eq_of_getLsbD_eq;intro i hi
    have e1:(if b.getLsbD (7-k)=true then 1#16 else 0#16).getLsbD i=(decide (i=0) && b.getLsbD (7-k)):=by
     cases b.getLsbD (7-k)<;>simp[BitVec.getLsbD_one]
    rw[BitVec.getLsbD_xor,e1,BitVec.getLsbD_shiftLeft,BitVec.getLsbD_ushiftRight,BitVec.getLsbD_ushiftRight];by_cases h:i=0
    ·subst h;simp[show 8-(k+1)=7-k by omega]
    ·have h2:8-k+(i-1)=8-(k+1)+i:=by omega
     simp[h,hi,show ¬i<1 by omega,h2]
 have:=key 8 (Nat.le_refl _);simpa[k6Q] using this
def k9Y(l:List (BitVec 16)):List Bool:=l.flatMap k6Q
theorem k6P(l:List (BitVec 16)):(k9Y l).length=8*l.length:=by
 unfold k9Y
 induction l with
 | nil=>rfl
 | cons b l ih=>rw[List.flatMap_cons,List.length_append,ih];simp[k6Q];omega
theorem kCL:∀(l:List (BitVec 16)) (a:BitVec 16),(∀b,b∈l->b.toNat<256)->crN 16 (kBB a (k9Y l))=crL (crN 16 a) l
 | [],a,_=>rfl
 | b::l,a,h=>by
   have hb:=h b (by simp);unfold k9Y;rw[List.flatMap_cons,k8R];have ih:=kCL l (kBB a (k6Q b)) λx hx=>h x (by simp[hx]);unfold k9Y at ih;rw[ih];show crL (crN 16 (kBB a (k6Q b))) l=crL (crB (crN 16 a) b) l;congr 1
   rw[kOA a b hb];unfold crB;rw[kB9,kB9,<- k9D,<- k9D,<- kBA 8 b Z.o,<- k9D]
theorem kH1:∀(l:List (BitVec 16)) (a:BitVec 16),crL a l=crL 0#16 l ^^^ crN (8*l.length) a
 | [],a=>by simp[crL,crN]
 | b::l,a=>by
   show crL (crB a b) l=crL (crB 0#16 b) l ^^^ _;rw[kH1 l (crB a b),kH1 l (crB 0#16 b)]
   have:crB a b=crB 0#16 b ^^^ crN 8 a:=by
    unfold crB;rw[BitVec.zero_xor,kB9,BitVec.xor_comm]
   rw[this,kB9,<- k9D,show 8*(b::l).length=8+8*l.length by simp;omega];ac_rfl
theorem kXY(l:List (BitVec 16))(h:∀b,b∈l->b.toNat<256) :
 kBB 0#16 (List.zipWith (λx y=>x ^^ y) (k9Y l++List.replicate 16 false) (List.replicate 16 true++List.replicate (8*l.length) false))=crL 65535#16 l:=by
 have h1:=kDL (k9Y l++List.replicate 16 false) (List.replicate 16 true++List.replicate (8*l.length) false) 0#16 0#16 (by rw[List.length_append,List.length_append,k6P,List.length_replicate,List.length_replicate,List.length_replicate];omega);rw[BitVec.xor_self] at h1;rw[h1,k8R,k8Q,kCL l _ h,k8R,k8Q,kH1 l 65535#16];have h2:crN 16 0#16=0#16:=by rw[kBA 16 _ (by simp)];simp
 have h3:kBB 0#16 (List.replicate 16 true)=65535#16:=by
  show crI _ _=_;rfl
 rw[h2,h3]
end Go.Proofs.YtlchlddijclhjaaGreat
