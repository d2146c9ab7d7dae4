/- Parts of the proofs. -/
import Derived.Test.YtlchlddijclhjaaGreatR15
import Derived.Test.YtlchlddijclhjaaGreatR16
import Derived.Test.YtlchlddijclhjaaGreatR22
import Derived.Test.YtlchlddijclhjaaGreatRZ
set_option linter.unusedVariables false
set_option linter.unusedSimpArgs false
set_option maxHeartbeats 4000000
namespace Go.Proofs.YtlchlddijclhjaaGreat
open Go Go.RowKit Go.Eng
set_option maxRecDepth 100000
structure Rd where
 b:List Int
 sh:Bool
def Eo(v:Int):Int:=if 9223372036854775808<=v then v-18446744073709551616 else v
def rdN(n:Int)(q:Rd):Int×Rd:=if q.sh=true\/q.b.length<n.toNat then (0,⟨q.b,true⟩) else (Eo (be (q.b.take n.toNat)),⟨q.b.drop n.toNat,false⟩)
theorem aG{a b:Int}(h0:0<=a)(h1:a<72057594037927936)(h2:0<=b)(h3:b<256):AF .or .u64 (AF .shl .u64 a 8) b=a*256+b:=by
 have e1:AF .shl .u64 a 8=a*256:=by
  show IntKind.u64.wrap (a*2 ^ (min (8:Int).toNat 64))=_;rw[IntKind.wrap_u64];show a*256%18446744073709551616=_;omega
 rw[e1];show IntKind.u64.wrap (BitVec.ofInt 64 (a*256) ||| BitVec.ofInt 64 b).toNat=_;obtain⟨an,rfl⟩:=Int.eq_ofNat_of_zero_le h0;obtain⟨bn,rfl⟩:=Int.eq_ofNat_of_zero_le h2;have e2:((an:Int)*256)=((an*256:Nat):Int):=by omega
 rw[e2,BitVec.ofInt_natCast,BitVec.ofInt_natCast,BitVec.toNat_or,BitVec.toNat_ofNat,BitVec.toNat_ofNat,Nat.mod_eq_of_lt Z.o,Nat.mod_eq_of_lt Z.o]
 have e3:an*256 ||| bn=an*256+bn:=by
  rw[Nat.mul_comm];exact(Nat.two_pow_add_eq_or_of_lt (i:=8) Z.o an).symm
 rw[e3,IntKind.wrap_u64];omega
theorem SX(l:List Int)(b:Int):be (l++[b])=be l*256+b:=by unfold be;rw[List.foldl_append];rfl
theorem LC:∀(n:Nat) (l:List Int),l.length=n->Ar l->0<=be l/\be l<256 ^ n
 | 0,l,hl,h=>by
   obtain rfl:l=[]:=List.length_eq_zero_iff.1 hl;exact⟨by decide,by decide⟩
 | n+1,l,hl,h=>by
   have kv:l≠[]:=λe=>(by subst e;simp at hl);have e:=List.dropLast_concat_getLast kv;have ih:=LC n l.dropLast (by simp[hl]) (λb hb=>h b ((List.dropLast_sublist l).subset hb));have hb:=h (l.getLast kv) (List.getLast_mem kv);rw[<- e,SX,Int.pow_succ];omega
theorem aH{n:Nat}(h:n<=7):(256:Int) ^ n<=72057594037927936:=by
 have:(256:Nat) ^ n<=256 ^ 7:=Nat.pow_le_pow_right Z.d h;have e:((256 ^ n:Nat):Int)=256 ^ n:=by rw[Int.natCast_pow];rfl
 have e7:(256:Nat) ^ 7=72057594037927936:=by decide
 omega
theorem SY(n:Int)(hn:0<=n/\n<=8)(q:Rd)(hb:Ar q.b)(sP:q.b.length<=1000000000)(rs:List (List AV))(yD:rs=q.b.map AZ)(v:Int)(q':Rd)(e:(v,q')=rdN n q)(rs':List (List AV))(lG:rs'=q'.b.map AZ) :
 AJ Tryz.prog 130 [.ref 0 2 0 0,n] [.live 2 [[.list 1 rs,q.sh]]] (λr h=>r=jz v/\∃j,h = .live 2 [[.list 1 rs',.bool q'.sh]]::j):=by
 have hu:Up0 rs:=by rw[yD];exact Ao _
 have hu':Up0 rs':=by rw[lG];exact Ao _
 have oL:rs.length=q.b.length:=by rw[yD];simp
 obtain⟨l,sh⟩:=q;obtain⟨l',sh'⟩:=q';simp only at hb sP yD lG oL;unfold rdN at e;simp only at e;by_cases p_:sh=true\/l.length<n.toNat
 ·rw[if_pos p_] at e
  simp only[Prod.mk.injEq,Rd.mk.injEq] at e;obtain⟨rfl,rfl,rfl⟩:=e;obtain rfl:rs=rs':=(by rw[yD,lG]);clear yD lG
  cases sh with
  | true =>
    (refine AJ.ofI Tryz.func130 (by kernel_rfl) (by kernel_rfl) λw hw=>?_);(obtain⟨zB,zE,yN,zD,zF,zX,yO,zP,zS,zR,yA,yB,zK,zU,zM,zN,zO,yG,zT,yH⟩:=w);(have zC:=Z.w1 hw);(have zA:=Z.w2 hw);(have yJ:=Z.w3 hw);(have zG:=Z.w4 hw);(have zI:=Z.w5 hw);(have yM:=Z.w6 hw);(have yS:=Z.w7 hw);(have zZ:=Z.w8 hw);(have yF:=Z.w9 hw);(have yE:=Z.w10 hw);(have yT:=Z.w11 hw);(have yU:=Z.w12 hw);(have zH:=Z.w13 hw);(have yR:=Z.w14 hw);(have zV:=Z.w15 hw);(have yI:=Z.w16 hw);(have yL:=Z.w17 hw);(have yX:=Z.w18 hw);(have yQ:=Z.w19 hw);(have yY:=Z.w20 hw);(have hz:=Z.z hw);(conv=>arg 2;cbv);(generalize hP:Tryz.prog=P);cbv;exact⟨_,rfl⟩
  | false =>
    (refine AJ.ofI Tryz.func130 (by kernel_rfl) (by kernel_rfl) λw hw=>?_);(obtain⟨zB,zE,yN,zD,zF,zX,yO,zP,zS,zR,yA,yB,zK,zU,zM,zN,zO,yG,zT,yH⟩:=w);(have zC:=Z.w1 hw);(have zA:=Z.w2 hw);(have yJ:=Z.w3 hw);(have zG:=Z.w4 hw);(have zI:=Z.w5 hw);(have yM:=Z.w6 hw);(have yS:=Z.w7 hw);(have zZ:=Z.w8 hw);(have yF:=Z.w9 hw);(have yE:=Z.w10 hw);(have yT:=Z.w11 hw);(have yU:=Z.w12 hw);(have zH:=Z.w13 hw);(have yR:=Z.w14 hw);(have zV:=Z.w15 hw);(have yI:=Z.w16 hw);(have yL:=Z.w17 hw);(have yX:=Z.w18 hw);(have yQ:=Z.w19 hw);(have yY:=Z.w20 hw);(have hz:=Z.z hw);(conv=>arg 2;cbv);(generalize hP:Tryz.prog=P);cbv;obtain⟨L,eL,L0,Ln⟩:=Z.l zH rs;have kS:L<n:=(by rcases p_ with h|h;cases h;omega);have d1:=W.lt zA kS;repeat' (first|(simp only[eL,d1];cbv)|fail)
    exact⟨_,rfl⟩
 rw[if_neg p_] at e;simp only[Prod.mk.injEq,Rd.mk.injEq] at e;obtain⟨e1,rfl,rfl⟩:=e;have hsh0:sh=false:=by cases sh;rfl;exact absurd (.inl rfl) p_
 subst hsh0
 have qW:n.toNat<=l.length:=by
  rcases Nat.lt_or_ge l.length n.toNat with h|h
  ·exact absurd (.inr h) p_
  ·exact h
 clear p_;obtain⟨k,ek⟩:=Z.e (l.take n.toNat);obtain⟨ks,eks⟩:=Z.e (k.map AZ);have huk:Up0 ks:=by rw[eks];exact Ao _
 have uY:k.length=n.toNat:=by rw[ek,List.length_take];omega
 have hksl:ks.length=n.toNat:=by rw[eks,List.length_map,uY]
 have sw:Ar k:=λb hb'=>hb b (by rw[ek] at hb';exact List.mem_of_mem_take hb');have mU:rs.take n.toNat=ks:=by rw[yD,eks,ek,List.map_take]
 have lL:rs.drop n.toNat=rs':=by rw[yD,lG,List.map_drop]
 rw[<- ek] at e1;clear ek yD lG hb;(refine AJ.ofI Tryz.func130 (by kernel_rfl) (by kernel_rfl) λw hw=>?_);(obtain⟨zB,zE,yN,zD,zF,zX,yO,zP,zS,zR,yA,yB,zK,zU,zM,zN,zO,yG,zT,yH⟩:=w);(have zC:=Z.w1 hw);(have zA:=Z.w2 hw);(have yJ:=Z.w3 hw);(have zG:=Z.w4 hw);(have zI:=Z.w5 hw);(have yM:=Z.w6 hw);(have yS:=Z.w7 hw);(have zZ:=Z.w8 hw);(have yF:=Z.w9 hw);(have yE:=Z.w10 hw);(have yT:=Z.w11 hw);(have yU:=Z.w12 hw);(have zH:=Z.w13 hw);(have yR:=Z.w14 hw);(have zV:=Z.w15 hw);(have yI:=Z.w16 hw);(have yL:=Z.w17 hw);(have yX:=Z.w18 hw);(have yQ:=Z.w19 hw);(have yY:=Z.w20 hw);(have hz:=Z.z hw);(conv=>arg 2;cbv);(generalize hP:Tryz.prog=P);cbv;obtain⟨L,eL,L0,Ln⟩:=Z.l zH rs;have d1:=W.nlt zA (show n<=L by omega);have t1:zN rs n=ks:=by rw[yI];exact mU
 have t2:zO rs n=rs':=by rw[yL];exact lL
 have lk:zK ks=n:=by rw[zH];show (ks.length:Int)=n;omega
 repeat' (first|(simp only[eL,d1];cbv)|(refine Nn.mk hn.1 ?_)|(refine Le.mk Z.o ?_)|fail)
 simp only[t1,lk];clear d1 t1;refine Ae.dataN hw (S:=Int×Int) (λs=>fr 56 [(0,.ref 0 2 0 0),(1,n),(5,.int .u64 s.2),(33,.list 1 ks),(34,n),(35,s.1)]) (λs=>[.live 2 [[.list 1 rs,.bool false]]]) (λs=>0<=s.1/\s.1<=n/\s.2=be (k.take s.1.toNat)) (λs=>(n-s.1).toNat) (0,0) (by(refine Z.n (id) ?_;cbv<;>exact Z.q)) ⟨Int.le_refl _,hn.1,rfl⟩ ?_
 rintro⟨i,a⟩ zJ Q' hN hE hR'
 have zJ:0<=i/\i<=n/\a=be (k.take i.toNat):=zJ;cbv;obtain⟨zW,yZ,ha⟩:=zJ;by_cases yC:i<n
 ·obtain⟨b,hb⟩:∃b,k[i.toNat]?=some b:=⟨_,List.getElem?_eq_getElem (show i.toNat<k.length by omega)⟩
  have qw:=sw b (List.mem_of_getElem? hb);have zL:ks[i.toNat]?=some [.int .u8 b]:=(by rw[eks,List.getElem?_map,hb];rfl);have uL:=LC i.toNat (k.take i.toNat) (by rw[List.length_take];omega) (λb hb=>sw b (List.mem_of_mem_take hb));rw[<- ha] at uL;have hp:=aH (n:=i.toNat) Z.o;have ha56:0<=a/\a<72057594037927936:=⟨uL.1,by omega⟩;obtain⟨a',ea'⟩:=Z.e (a*256+b);obtain⟨i',mq⟩:=Z.e (i+1);have yK:a'=be (k.take i'.toNat):=(by rw[mq,LK zW hb,SX,<- ha,ea']);have hT:(n-i').toNat<(n-i).toNat:=(by omega);clear uL hp ha hb;have f0:=W.lt zA yC;have u1:zD .u64 b=b:=by rw[zG];show IntKind.u64.wrap b=b;rw[IntKind.wrap_u64];omega
  have o1:zB .or .u64 (zB .shl .u64 a 8) b=a':=(by rw[zC,aG ha56.1 ha56.2 qw.1 Z.o,ea']);have i1:zB .add .i64 i 1=i':=(by rw[zC,Ag Z.o Z.o,mq]);repeat' (first|(simp only[f0,u1,o1,i1];cbv)|(refine Idx.mk [.int .u8 b] zW zL ?_;cbv)|(refine Nn.mk Z.d ?_)|fail)
  refine hN (i',a') _ _ ?hx ?hi hT
  case hx=>(refine Z.n (id) ?_;cbv<;>exact Z.q)
  case hi=>exact⟨by simp only;omega,by simp only;omega,yK⟩
 ·have f0:=W.nlt zA (show n<=i by omega)
  have kT:k.take i.toNat=k:=List.take_of_length_le Z.o;rw[kT] at ha;have uL:=LC n.toNat k uY sw;rw[<- ha] at uL e1
  have ha64:a<18446744073709551616:=by
   have:(256:Nat) ^ n.toNat<=256 ^ 8:=Nat.pow_le_pow_right Z.d Z.o;have e:((256 ^ n.toNat:Nat):Int)=256 ^ n.toNat:=(by rw[Int.natCast_pow];rfl);have e8:(256:Nat) ^ 8=18446744073709551616:=(by decide);omega
  have hw64:IntKind.i64.wrap a=v:=by
   rw[e1,IntKind.wrap_i64];unfold Eo;split<;>omega
  clear uL ha e1 kT;have v1:zD .i64 a=v:=(by rw[zG];exact hw64);simp only[f0];refine hE _ _ _ ?_;cbv;refine Nn.mk hn.1 ?_;refine Le.mk Z.o ?_;simp only[t2,v1];exact⟨by first|rfl|trivial,_,rfl⟩
def rdC(n most:Int)(q:Rd):Int×Rd:=if most<(rdN n q).1 then (0,⟨(rdN n q).2.b,true⟩) else rdN n q
structure BB(q:Rd):Prop where
 b:Ar q.b
 l:q.b.length<=1000000000
theorem BB.num{q:Rd}(h:BB q)(n:Int):BB (rdN n q).2:=by
 unfold rdN;split
 ·exact⟨h.b,h.l⟩
 ·exact⟨λb hb=>h.b b (List.mem_of_mem_drop hb),by simp only[List.length_drop];have:=h.l;omega⟩
theorem BB.count{q:Rd}(h:BB q)(n m:Int):BB (rdC n m q).2:=by
 unfold rdC;split
 ·exact⟨(h.num n).b,(h.num n).l⟩
 ·exact h.num n
theorem Av{l:List (List AV)}(h:Up0 l)(s:Bool):Up0 [[AV.list 1 l,AV.bool s]]:=⟨by simp only[BC,Af,AV.upto,h.get];rfl⟩
theorem GG(n:Int)(hn:0<=n/\n<=8)(q:Rd)(hq:BB q):AJ Tryz.prog 130 [.ref 0 2 0 0,n] [.live 2 [[.list 1 (q.b.map AZ),q.sh]]] (λr h=>r=jz (rdN n q).1/\∃j,h = .live 2 [[.list 1 ((rdN n q).2.b.map AZ),.bool (rdN n q).2.sh]]::j):=
 SY n hn q hq.b hq.l _ rfl _ _ rfl _ rfl
theorem LG(n m:Int)(hn:0<=n/\n<=8)(q:Rd)(hq:BB q)(rs:List (List AV))(yD:rs=q.b.map AZ)(v:Int)(q':Rd)(e:(v,q')=rdC n m q)(rs':List (List AV))(lG:rs'=q'.b.map AZ) :
 AJ Tryz.prog 76 [.ref 0 2 0 0,n,m] [.live 2 [[.list 1 rs,q.sh]]] (λr h=>r=jz v/\∃j,h = .live 2 [[.list 1 rs',.bool q'.sh]]::j):=by
 have hu:Up0 rs:=by rw[yD];exact Ao _
 have hu':Up0 rs':=by rw[lG];exact Ao _
 obtain⟨⟨x,⟨l2,s2⟩⟩,ex⟩:=Z.e (rdN n q);obtain⟨rs2,ers2⟩:=Z.e (l2.map AZ);have pF:Up0 rs2:=by rw[ers2];exact Ao _
 have q1:=SY n hn q hq.b hq.l rs yD x ⟨l2,s2⟩ ex rs2 ers2;unfold rdC at e;rw[<- ex] at e;obtain⟨l,sh⟩:=q;obtain⟨l',sh'⟩:=q';simp only at q1 e lG;clear ex hq yD;by_cases hm:m<x
 ·rw[if_pos hm] at e
  simp only[Prod.mk.injEq,Rd.mk.injEq] at e;obtain⟨rfl,rfl,rfl⟩:=e;obtain rfl:rs2=rs':=(by rw[ers2,lG]);clear ers2 lG;refine Z.x Tryz.func76 λ_ _ _ _ _ _ _ _ zA _ _ _ _ hz P hP=>?_;cbv;refine Call.of (AJ.one (s:=0) (by rw[<- hP];exact q1) (Av hu _) rfl rfl rfl ?_);rintro r hD ⟨rfl,j,rfl⟩;refine⟨rfl,_,_,rfl,Av pF _,?_⟩;cbv;have d1:=W.gt zA hm;repeat' (first|(simp only[d1];cbv)|fail)
  exact⟨_,rfl⟩
 ·rw[if_neg hm] at e
  simp only[Prod.mk.injEq,Rd.mk.injEq] at e;obtain⟨rfl,rfl,rfl⟩:=e;obtain rfl:rs2=rs':=(by rw[ers2,lG]);clear ers2 lG;refine Z.x Tryz.func76 λ_ _ _ _ _ _ _ _ zA _ _ _ _ _ P hP=>?_;cbv;refine Call.of (AJ.one (s:=0) (by rw[<- hP];exact q1) (Av hu _) rfl rfl rfl ?_);rintro r hD ⟨rfl,j,rfl⟩;refine⟨rfl,_,_,rfl,Av pF _,?_⟩;cbv;have d1:=W.ngt zA (show v<=m by omega);repeat' (first|(simp only[d1];cbv)|fail)
  exact⟨_,rfl⟩
def AU{D:Type}(st:Rd->D×Rd):Nat->Rd->List D×Rd
 | 0,q=>([],q)
 | n+1,q=>((AU st n q).1++[(st (AU st n q).2).1],(st (AU st n q).2).2)
theorem FI{D:Type}(st:Rd->D×Rd):∀(n:Nat) (q:Rd),(AU st n q).1.length=n
 | 0,q=>rfl
 | n+1,q=>by simp[AU,FI st n q]
theorem GH{D:Type}{st:Rd->D×Rd}(kX:∀q,BB q->BB (st q).2):∀(n:Nat) (q:Rd),BB q->BB (AU st n q).2
 | 0,q,h=>h
 | n+1,q,h=>kX _ (GH kX n q h)
def MOu{D:Type}(row:D->List AV)(l:List D):Option (List (List AV)×Nat)->Prop
 | none=>l=[]
 | some (u,m)=>l≠[]/\u=l.map row/\m=l.length/\Up0 u
theorem Vy(k:Int)(hk:0<=k/\k<=1000)(F:Nat)(st:Rd->(Int×Int)×Rd)(kX:∀q,BB q->BB (st q).2)(hF:∀q,BB q->AJ Tryz.prog F [.ref 0 2 0 0] [.live 2 [[.list 1 (q.b.map AZ),q.sh]]] (λr h=>r=(λd=>.agg (Ap d)) (st q).1/\∃j,h = .live 2 [[.list 1 ((st q).2.b.map AZ),.bool (st q).2.sh]]::j))
 (q:Rd) (hq:BB q) (rs:List (List AV)) (yD:rs=q.b.map AZ) (us rs':List (List AV)) (sh':Bool) (kZ:us=(AU st k.toNat q).1.map Ap) (lG:rs'=(AU st k.toNat q).2.b.map AZ) (hsh':sh'=(AU st k.toNat q).2.sh) :
 AJ Tryz.prog 131 [k,.func (.func F) [.ref 0 2 0 0] []] [.live 2 [[.list 1 rs,q.sh]]] (λr h=>r = .list 2 us/\h=[.live 2 [[.list 1 rs',sh']]]):=by
 refine AJ.give ?_;have zL:∀d:(Int×Int),Af 0 (Ap d)=true:=λd=>rfl;have rQ:Up0 us:=by rw[kZ];exact BM (f:=Ap) zL _
 have hu:Up0 rs:=by rw[yD];exact Ao _
 have hu':Up0 rs':=by rw[lG];exact Ao _
 obtain⟨shq,eshq⟩:=Z.e q.sh;rw[<- eshq];refine Z.x Tryz.func131 λzB _ _ _ _ _ hw zC zA _ _ _ _ hz P hP=>?_;cbv
 refine Ae.dataN hw (S:=Int×List (List AV)×Bool×Option (List (List AV)×Nat)) (λs=>fr 16 [(0,k),(1,.func (.func F) [.ref 0 2 0 0] []),(5,match s.2.2.2 with|none=>.nils|some (_,m)=>.sl 1 2 0 m),(6,k),(7,s.1)])
  (λs=>match s.2.2.2 with|none=>[.live 2 [[.list 1 s.2.1,s.2.2.1]]]|some (u,_)=>[.live 2 [[.list 1 s.2.1,s.2.2.1]],.live 2 u])
  (λs=>0<=s.1/\s.1<=k/\s.2.1=(AU st s.1.toNat q).2.b.map AZ/\s.2.2.1=(AU st s.1.toNat q).2.sh/\Up0 s.2.1/\MOu Ap (AU st s.1.toNat q).1 s.2.2.2) (λs=>(k-s.1).toNat) (0,rs,shq,none) (by(refine Z.n (id) ?_;cbv<;>exact Z.q))
  ⟨Int.le_refl _,hk.1,yD,eshq,hu,rfl⟩ ?_
 rintro⟨i,w,s,ou⟩ zJ Q' hN hE hR'
 have zJ:0<=i/\i<=k/\w=(AU st i.toNat q).2.b.map AZ/\s=(AU st i.toNat q).2.sh/\Up0 w/\MOu Ap (AU st i.toNat q).1 ou:=zJ;obtain⟨zW,yZ,lU,hs1,oD,yP⟩:=zJ;have nG:=FI st i.toNat q;by_cases yC:i<k
 ·obtain⟨i2,kW⟩:=Z.e (i+1)
  have hT:(k-i2).toNat<(k-i).toNat:=(by omega);have yK:AU st i2.toNat q=((AU st i.toNat q).1++[(st (AU st i.toNat q).2).1],(st (AU st i.toNat q).2).2):=(by rw[show i2.toNat=i.toNat+1 by omega];rfl);have bY:=hF _ (GH kX i.toNat q hq);rw[<- lU,<- hs1] at bY;obtain⟨⟨d,q2⟩,ed⟩:=Z.e (st (AU st i.toNat q).2);rw[<- ed] at bY yK;obtain⟨w2,lN⟩:=Z.e (q2.b.map AZ);obtain⟨s2,nD⟩:=Z.e q2.sh;have lQ:Up0 w2:=(by rw[lN];exact Ao _);have ko:(AU st i2.toNat q).1=(AU st i.toNat q).1++[d]:=(by rw[yK]);have nU:(AU st i2.toNat q).2=q2:=(by rw[yK]);have bY:AJ Tryz.prog F [.ref 0 2 0 0] [.live 2 [[.list 1 w,s]]] (λr h=>r = .agg (Ap d)/\∃j,h = .live 2 [[.list 1 w2,.bool s2]]::j):=(by rw[lN,nD];exact bY);obtain⟨u2,mW⟩:∃z,z=(AU st i2.toNat q).1.map Ap:=⟨_,rfl⟩;have pE:Up0 u2:=(by rw[mW];exact BM (f:=Ap) zL _);obtain⟨m2,mJ⟩:=Z.e i2.toNat;have nT:MOu Ap (AU st i2.toNat q).1 (some (u2,m2)):=⟨by rw[ko];simp,mW,by rw[FI,mJ],pE⟩;have rP:w2=(AU st i2.toNat q).2.b.map AZ:=(by rw[nU,lN]);have hs3:s2=(AU st i2.toNat q).2.sh:=(by rw[nU,nD]);have lF:u2=(AU st i.toNat q).1.map Ap++[Ap d]:=(by rw[mW,ko,List.map_append];rfl);clear yK ed ko nU lN nD lU hs1;obtain⟨d1,d2⟩:=d;have bY:AJ Tryz.prog F [.ref 0 2 0 0] [.live 2 [[.list 1 w,s]]] (λr h=>r = .agg [d1,d2]/\∃j,h = .live 2 [[.list 1 w2,.bool s2]]::j):=(by exact bY);have lF:u2=(AU st i.toNat q).1.map Ap++[[jz d1,jz d2]]:=(by exact lF);have ck:=W.lt zA yC;have a4:zB .add .i64 i 1=i2:=(by rw[zC,Ag Z.o Z.o,kW]);have zk:m2=i.toNat+1:=by omega
  cases ou with
  | none =>
    have yP:(AU st i.toNat q).1=[]:=yP;rw[yP] at nG lF;have nk:m2=1:=(by simp at nG;omega);have nZ:u2=[[jz d1,jz d2]]:=lF;clear nG lF;cbv;simp only[ck];cbv;refine Call.of (AJ.one (s:=0) (by rw[<- hP];exact bY) (Av oD _) rfl rfl rfl ?_);rintro r hD ⟨rfl,j,rfl⟩;refine⟨rfl,_,_,rfl,Av lQ _,?_⟩;cbv;refine Ob.mk Z.d ?_;cbv;simp only[a4];refine hN (i2,w2,s2,some ([[jz d1,jz d2]],1)) _ _ ?hx ?hi hT
    case hx=>(refine Z.n (id) ?_;cbv<;>exact Z.q)
    case hi=>exact⟨by simp only;omega,by simp only;omega,rP,hs3,lQ,by simp only;rw[<- nZ,<- nk];exact nT⟩
  | some p =>
    obtain⟨u,m⟩:=p;have yP:(AU st i.toNat q).1≠[]/\u=(AU st i.toNat q).1.map Ap/\m=(AU st i.toNat q).1.length/\Up0 u:=yP;obtain⟨kv,kg,ko,qP⟩:=yP;have nQ:m=u.length:=(by rw[kg,ko];simp);have nk:m2=m+1:=(by omega);have hmk:m<=1000:=(by omega);have nZ:u2=u++[[jz d1,jz d2]]:=(by rw[kg];exact lF);clear nG lF kv kg ko;cbv;simp only[ck];cbv;refine Call.of (AJ.one (s:=0) (by rw[<- hP];exact bY) (Av oD _) rfl rfl rfl ?_);rintro r hD ⟨rfl,j,rfl⟩;refine⟨rfl,_,_,rfl,Av lQ _,?_⟩;cbv;refine App.mk u2 m2 nZ nQ nk Z.o Z.o ?_;cbv;simp only[a4];refine hN (i2,w2,s2,some (u2,m2)) _ _ ?hx ?hi hT
    case hx=>(refine Z.n (λj=>[0,2].getD j 0) ?_;cbv<;>exact Z.q)
    case hi=>exact⟨by simp only;omega,by simp only;omega,rP,hs3,lQ,nT⟩
 ·have ck:=W.nlt zA (show k<=i by omega)
  obtain rfl:i=k:=(by omega);obtain rfl:w=rs':=(by rw[lU,lG]);obtain rfl:s=sh':=(by rw[hs1,hsh']);clear lU hs1 lG hsh' hF
  cases ou with
  | none =>
    have yP:(AU st i.toNat q).1=[]:=yP;have yt:us=[]:=(by rw[kZ,yP];rfl);clear kZ yP nG;cbv;simp only[ck];refine hE _ _ _ ?_;cbv;refine WkB.mk ?_;(refine Z.n (id) ?_;cbv<;>exact Z.q)
  | some p =>
    obtain⟨u,m⟩:=p;have yP:(AU st i.toNat q).1≠[]/\u=(AU st i.toNat q).1.map Ap/\m=(AU st i.toNat q).1.length/\Up0 u:=yP;obtain⟨kv,kg,ko,qP⟩:=yP;obtain rfl:u=us:=(by rw[kg,kZ]);have nQ:m=u.length:=(by rw[kg,ko];simp);clear kZ nG kv kg ko;cbv;simp only[ck];refine hE _ _ _ ?_;cbv;refine WkB.mk ?_;(refine Z.n (id) ?_;cbv<;>exact Z.q)
theorem Vz(k:Int)(hk:0<=k/\k<=1000)(F:Nat)(st:Rd->Int×Rd)(kX:∀q,BB q->BB (st q).2)(hF:∀q,BB q->AJ Tryz.prog F [.ref 0 2 0 0] [.live 2 [[.list 1 (q.b.map AZ),q.sh]]] (λr h=>r=(λd=>jz d) (st q).1/\∃j,h = .live 2 [[.list 1 ((st q).2.b.map AZ),.bool (st q).2.sh]]::j))
 (q:Rd) (hq:BB q) (rs:List (List AV)) (yD:rs=q.b.map AZ) (us rs':List (List AV)) (sh':Bool) (kZ:us=(AU st k.toNat q).1.map Ac) (lG:rs'=(AU st k.toNat q).2.b.map AZ) (hsh':sh'=(AU st k.toNat q).2.sh) :
 AJ Tryz.prog 133 [k,.func (.func F) [.ref 0 2 0 0] []] [.live 2 [[.list 1 rs,q.sh]]] (λr h=>r = .list 1 us/\h=[.live 2 [[.list 1 rs',sh']]]):=by
 refine AJ.give ?_;have zL:∀d:Int,Af 0 (Ac d)=true:=λd=>rfl;have rQ:Up0 us:=by rw[kZ];exact BM (f:=Ac) zL _
 have hu:Up0 rs:=by rw[yD];exact Ao _
 have hu':Up0 rs':=by rw[lG];exact Ao _
 obtain⟨shq,eshq⟩:=Z.e q.sh;rw[<- eshq];refine Z.x Tryz.func133 λzB _ _ _ _ _ hw zC zA _ _ _ _ hz P hP=>?_;cbv
 refine Ae.dataN hw (S:=Int×List (List AV)×Bool×Option (List (List AV)×Nat)) (λs=>fr 16 [(0,k),(1,.func (.func F) [.ref 0 2 0 0] []),(5,match s.2.2.2 with|none=>.nils|some (_,m)=>.sl 1 1 0 m),(6,k),(7,s.1)])
  (λs=>match s.2.2.2 with|none=>[.live 2 [[.list 1 s.2.1,s.2.2.1]]]|some (u,_)=>[.live 2 [[.list 1 s.2.1,s.2.2.1]],.live 1 u])
  (λs=>0<=s.1/\s.1<=k/\s.2.1=(AU st s.1.toNat q).2.b.map AZ/\s.2.2.1=(AU st s.1.toNat q).2.sh/\Up0 s.2.1/\MOu Ac (AU st s.1.toNat q).1 s.2.2.2) (λs=>(k-s.1).toNat) (0,rs,shq,none) (by(refine Z.n (id) ?_;cbv<;>exact Z.q))
  ⟨Int.le_refl _,hk.1,yD,eshq,hu,rfl⟩ ?_
 rintro⟨i,w,s,ou⟩ zJ Q' hN hE hR'
 have zJ:0<=i/\i<=k/\w=(AU st i.toNat q).2.b.map AZ/\s=(AU st i.toNat q).2.sh/\Up0 w/\MOu Ac (AU st i.toNat q).1 ou:=zJ;obtain⟨zW,yZ,lU,hs1,oD,yP⟩:=zJ;have nG:=FI st i.toNat q;by_cases yC:i<k
 ·obtain⟨i2,kW⟩:=Z.e (i+1)
  have hT:(k-i2).toNat<(k-i).toNat:=(by omega);have yK:AU st i2.toNat q=((AU st i.toNat q).1++[(st (AU st i.toNat q).2).1],(st (AU st i.toNat q).2).2):=(by rw[show i2.toNat=i.toNat+1 by omega];rfl);have bY:=hF _ (GH kX i.toNat q hq);rw[<- lU,<- hs1] at bY;obtain⟨⟨d,q2⟩,ed⟩:=Z.e (st (AU st i.toNat q).2);rw[<- ed] at bY yK;obtain⟨w2,lN⟩:=Z.e (q2.b.map AZ);obtain⟨s2,nD⟩:=Z.e q2.sh;have lQ:Up0 w2:=(by rw[lN];exact Ao _);have ko:(AU st i2.toNat q).1=(AU st i.toNat q).1++[d]:=(by rw[yK]);have nU:(AU st i2.toNat q).2=q2:=(by rw[yK]);have bY:AJ Tryz.prog F [.ref 0 2 0 0] [.live 2 [[.list 1 w,s]]] (λr h=>r=jz d/\∃j,h = .live 2 [[.list 1 w2,.bool s2]]::j):=(by rw[lN,nD];exact bY);obtain⟨u2,mW⟩:∃z,z=(AU st i2.toNat q).1.map Ac:=⟨_,rfl⟩;have pE:Up0 u2:=(by rw[mW];exact BM (f:=Ac) zL _);obtain⟨m2,mJ⟩:=Z.e i2.toNat;have nT:MOu Ac (AU st i2.toNat q).1 (some (u2,m2)):=⟨by rw[ko];simp,mW,by rw[FI,mJ],pE⟩;have rP:w2=(AU st i2.toNat q).2.b.map AZ:=(by rw[nU,lN]);have hs3:s2=(AU st i2.toNat q).2.sh:=(by rw[nU,nD]);have lF:u2=(AU st i.toNat q).1.map Ac++[Ac d]:=(by rw[mW,ko,List.map_append];rfl);clear yK ed ko nU lN nD lU hs1;have bY:AJ Tryz.prog F [.ref 0 2 0 0] [.live 2 [[.list 1 w,s]]] (λr h=>r=jz d/\∃j,h = .live 2 [[.list 1 w2,.bool s2]]::j):=(by exact bY);have lF:u2=(AU st i.toNat q).1.map Ac++[[jz d]]:=(by exact lF);have ck:=W.lt zA yC;have a4:zB .add .i64 i 1=i2:=(by rw[zC,Ag Z.o Z.o,kW]);have zk:m2=i.toNat+1:=by omega
  cases ou with
  | none =>
    have yP:(AU st i.toNat q).1=[]:=yP;rw[yP] at nG lF;have nk:m2=1:=(by simp at nG;omega);have nZ:u2=[[jz d]]:=lF;clear nG lF;cbv;simp only[ck];cbv;refine Call.of (AJ.one (s:=0) (by rw[<- hP];exact bY) (Av oD _) rfl rfl rfl ?_);rintro r hD ⟨rfl,j,rfl⟩;refine⟨rfl,_,_,rfl,Av lQ _,?_⟩;cbv;refine Ob.mk Z.d ?_;cbv;simp only[a4];refine hN (i2,w2,s2,some ([[jz d]],1)) _ _ ?hx ?hi hT
    case hx=>(refine Z.n (id) ?_;cbv<;>exact Z.q)
    case hi=>exact⟨by simp only;omega,by simp only;omega,rP,hs3,lQ,by simp only;rw[<- nZ,<- nk];exact nT⟩
  | some p =>
    obtain⟨u,m⟩:=p;have yP:(AU st i.toNat q).1≠[]/\u=(AU st i.toNat q).1.map Ac/\m=(AU st i.toNat q).1.length/\Up0 u:=yP;obtain⟨kv,kg,ko,qP⟩:=yP;have nQ:m=u.length:=(by rw[kg,ko];simp);have nk:m2=m+1:=(by omega);have hmk:m<=1000:=(by omega);have nZ:u2=u++[[jz d]]:=(by rw[kg];exact lF);clear nG lF kv kg ko;cbv;simp only[ck];cbv;refine Call.of (AJ.one (s:=0) (by rw[<- hP];exact bY) (Av oD _) rfl rfl rfl ?_);rintro r hD ⟨rfl,j,rfl⟩;refine⟨rfl,_,_,rfl,Av lQ _,?_⟩;cbv;refine App.mk u2 m2 nZ nQ nk Z.o Z.o ?_;cbv;simp only[a4];refine hN (i2,w2,s2,some (u2,m2)) _ _ ?hx ?hi hT
    case hx=>(refine Z.n (λj=>[0,2].getD j 0) ?_;cbv<;>exact Z.q)
    case hi=>exact⟨by simp only;omega,by simp only;omega,rP,hs3,lQ,nT⟩
 ·have ck:=W.nlt zA (show k<=i by omega)
  obtain rfl:i=k:=(by omega);obtain rfl:w=rs':=(by rw[lU,lG]);obtain rfl:s=sh':=(by rw[hs1,hsh']);clear lU hs1 lG hsh' hF
  cases ou with
  | none =>
    have yP:(AU st i.toNat q).1=[]:=yP;have yt:us=[]:=(by rw[kZ,yP];rfl);clear kZ yP nG;cbv;simp only[ck];refine hE _ _ _ ?_;cbv;refine WkB.mk ?_;(refine Z.n (id) ?_;cbv<;>exact Z.q)
  | some p =>
    obtain⟨u,m⟩:=p;have yP:(AU st i.toNat q).1≠[]/\u=(AU st i.toNat q).1.map Ac/\m=(AU st i.toNat q).1.length/\Up0 u:=yP;obtain⟨kv,kg,ko,qP⟩:=yP;obtain rfl:u=us:=(by rw[kg,kZ]);have nQ:m=u.length:=(by rw[kg,ko];simp);clear kZ nG kv kg ko;cbv;simp only[ck];refine hE _ _ _ ?_;cbv;refine WkB.mk ?_;(refine Z.n (id) ?_;cbv<;>exact Z.q)
theorem WA(k:Int)(hk:0<=k/\k<=1000)(F:Nat)(st:Rd->Sg×Rd)(kX:∀q,BB q->BB (st q).2)(hF:∀q,BB q->AJ Tryz.prog F [.ref 0 2 0 0] [.live 2 [[.list 1 (q.b.map AZ),q.sh]]] (λr h=>r=(λd=>.agg (Ah d)) (st q).1/\∃j,h = .live 2 [[.list 1 ((st q).2.b.map AZ),.bool (st q).2.sh]]::j))
 (q:Rd) (hq:BB q) (rs:List (List AV)) (yD:rs=q.b.map AZ) (us rs':List (List AV)) (sh':Bool) (kZ:us=(AU st k.toNat q).1.map Ah) (lG:rs'=(AU st k.toNat q).2.b.map AZ) (hsh':sh'=(AU st k.toNat q).2.sh) :
 AJ Tryz.prog 75 [k,.func (.func F) [.ref 0 2 0 0] []] [.live 2 [[.list 1 rs,q.sh]]] (λr h=>r = .list 3 us/\h=[.live 2 [[.list 1 rs',sh']]]):=by
 refine AJ.give ?_;have zL:∀d:Sg,Af 0 (Ah d)=true:=λd=>by simp only[Ah,Af,AV.upto,(E5 d.ps).get,(CG d.nx).get];rfl
 have rQ:Up0 us:=by rw[kZ];exact BM (f:=Ah) zL _
 have hu:Up0 rs:=by rw[yD];exact Ao _
 have hu':Up0 rs':=by rw[lG];exact Ao _
 obtain⟨shq,eshq⟩:=Z.e q.sh;rw[<- eshq];refine Z.x Tryz.func75 λzB _ _ _ _ _ hw zC zA _ _ _ _ hz P hP=>?_;cbv
 refine Ae.dataN hw (S:=Int×List (List AV)×Bool×Option (List (List AV)×Nat)) (λs=>fr 16 [(0,k),(1,.func (.func F) [.ref 0 2 0 0] []),(5,match s.2.2.2 with|none=>.nils|some (_,m)=>.sl 1 3 0 m),(6,k),(7,s.1)])
  (λs=>match s.2.2.2 with|none=>[.live 2 [[.list 1 s.2.1,s.2.2.1]]]|some (u,_)=>[.live 2 [[.list 1 s.2.1,s.2.2.1]],.live 3 u])
  (λs=>0<=s.1/\s.1<=k/\s.2.1=(AU st s.1.toNat q).2.b.map AZ/\s.2.2.1=(AU st s.1.toNat q).2.sh/\Up0 s.2.1/\MOu Ah (AU st s.1.toNat q).1 s.2.2.2) (λs=>(k-s.1).toNat) (0,rs,shq,none) (by(refine Z.n (id) ?_;cbv<;>exact Z.q))
  ⟨Int.le_refl _,hk.1,yD,eshq,hu,rfl⟩ ?_
 rintro⟨i,w,s,ou⟩ zJ Q' hN hE hR'
 have zJ:0<=i/\i<=k/\w=(AU st i.toNat q).2.b.map AZ/\s=(AU st i.toNat q).2.sh/\Up0 w/\MOu Ah (AU st i.toNat q).1 ou:=zJ;obtain⟨zW,yZ,lU,hs1,oD,yP⟩:=zJ;have nG:=FI st i.toNat q;by_cases yC:i<k
 ·obtain⟨i2,kW⟩:=Z.e (i+1)
  have hT:(k-i2).toNat<(k-i).toNat:=(by omega);have yK:AU st i2.toNat q=((AU st i.toNat q).1++[(st (AU st i.toNat q).2).1],(st (AU st i.toNat q).2).2):=(by rw[show i2.toNat=i.toNat+1 by omega];rfl);have bY:=hF _ (GH kX i.toNat q hq);rw[<- lU,<- hs1] at bY;obtain⟨⟨d,q2⟩,ed⟩:=Z.e (st (AU st i.toNat q).2);rw[<- ed] at bY yK;obtain⟨w2,lN⟩:=Z.e (q2.b.map AZ);obtain⟨s2,nD⟩:=Z.e q2.sh;have lQ:Up0 w2:=(by rw[lN];exact Ao _);have ko:(AU st i2.toNat q).1=(AU st i.toNat q).1++[d]:=(by rw[yK]);have nU:(AU st i2.toNat q).2=q2:=(by rw[yK]);have bY:AJ Tryz.prog F [.ref 0 2 0 0] [.live 2 [[.list 1 w,s]]] (λr h=>r = .agg (Ah d)/\∃j,h = .live 2 [[.list 1 w2,.bool s2]]::j):=(by rw[lN,nD];exact bY);obtain⟨u2,mW⟩:∃z,z=(AU st i2.toNat q).1.map Ah:=⟨_,rfl⟩;have pE:Up0 u2:=(by rw[mW];exact BM (f:=Ah) zL _);obtain⟨m2,mJ⟩:=Z.e i2.toNat;have nT:MOu Ah (AU st i2.toNat q).1 (some (u2,m2)):=⟨by rw[ko];simp,mW,by rw[FI,mJ],pE⟩;have rP:w2=(AU st i2.toNat q).2.b.map AZ:=(by rw[nU,lN]);have hs3:s2=(AU st i2.toNat q).2.sh:=(by rw[nU,nD]);have lF:u2=(AU st i.toNat q).1.map Ah++[Ah d]:=(by rw[mW,ko,List.map_append];rfl);clear yK ed ko nU lN nD lU hs1;obtain⟨d1,dp,dn⟩:=d;obtain⟨ps,eps⟩:=Z.e (dp.map Ap);obtain⟨ns,ens⟩:=Z.e (dn.map Ac);have hups:Up0 ps:=(by rw[eps];exact E5 _);have vC:Up0 ns:=(by rw[ens];exact CG _);have edrow:Ah ⟨d1,dp,dn⟩=[jz d1,.list 2 ps,.list 1 ns]:=(by rw[eps,ens];rfl);have bY:AJ Tryz.prog F [.ref 0 2 0 0] [.live 2 [[.list 1 w,s]]] (λr h=>r = .agg [d1,.list 2 ps,.list 1 ns]/\∃j,h = .live 2 [[.list 1 w2,.bool s2]]::j):=(by rw[<- edrow];exact bY);have lF:u2=(AU st i.toNat q).1.map Ah++[[jz d1,.list 2 ps,.list 1 ns]]:=(by rw[lF,edrow]);have ck:=W.lt zA yC;have a4:zB .add .i64 i 1=i2:=(by rw[zC,Ag Z.o Z.o,kW]);have zk:m2=i.toNat+1:=by omega
  cases ou with
  | none =>
    have yP:(AU st i.toNat q).1=[]:=yP;rw[yP] at nG lF;have nk:m2=1:=(by simp at nG;omega);have nZ:u2=[[jz d1,.list 2 ps,.list 1 ns]]:=lF;clear nG lF;cbv;simp only[ck];cbv;refine Call.of (AJ.one (s:=0) (by rw[<- hP];exact bY) (Av oD _) rfl rfl rfl ?_);rintro r hD ⟨rfl,j,rfl⟩;refine⟨(ua (uc rfl (uc (ul hups) (uc (ul vC) rfl)))),_,_,rfl,Av lQ _,?_⟩;cbv;refine Ob.mk Z.d ?_;cbv;simp only[a4];refine hN (i2,w2,s2,some ([[jz d1,.list 2 ps,.list 1 ns]],1)) _ _ ?hx ?hi hT
    case hx=>(refine Z.n (id) ?_;cbv<;>exact Z.q)
    case hi=>exact⟨by simp only;omega,by simp only;omega,rP,hs3,lQ,by simp only;rw[<- nZ,<- nk];exact nT⟩
  | some p =>
    obtain⟨u,m⟩:=p;have yP:(AU st i.toNat q).1≠[]/\u=(AU st i.toNat q).1.map Ah/\m=(AU st i.toNat q).1.length/\Up0 u:=yP;obtain⟨kv,kg,ko,qP⟩:=yP;have nQ:m=u.length:=(by rw[kg,ko];simp);have nk:m2=m+1:=(by omega);have hmk:m<=1000:=(by omega);have nZ:u2=u++[[jz d1,.list 2 ps,.list 1 ns]]:=(by rw[kg];exact lF);clear nG lF kv kg ko;cbv;simp only[ck];cbv;refine Call.of (AJ.one (s:=0) (by rw[<- hP];exact bY) (Av oD _) rfl rfl rfl ?_);rintro r hD ⟨rfl,j,rfl⟩;refine⟨(ua (uc rfl (uc (ul hups) (uc (ul vC) rfl)))),_,_,rfl,Av lQ _,?_⟩;cbv;refine App.mk u2 m2 nZ nQ nk Z.o Z.o ?_;cbv;simp only[a4];refine hN (i2,w2,s2,some (u2,m2)) _ _ ?hx ?hi hT
    case hx=>(refine Z.n (λj=>[0,2].getD j 0) ?_;cbv<;>exact Z.q)
    case hi=>exact⟨by simp only;omega,by simp only;omega,rP,hs3,lQ,nT⟩
 ·have ck:=W.nlt zA (show k<=i by omega)
  obtain rfl:i=k:=(by omega);obtain rfl:w=rs':=(by rw[lU,lG]);obtain rfl:s=sh':=(by rw[hs1,hsh']);clear lU hs1 lG hsh' hF
  cases ou with
  | none =>
    have yP:(AU st i.toNat q).1=[]:=yP;have yt:us=[]:=(by rw[kZ,yP];rfl);clear kZ yP nG;cbv;simp only[ck];refine hE _ _ _ ?_;cbv;refine WkB.mk ?_;(refine Z.n (id) ?_;cbv<;>exact Z.q)
  | some p =>
    obtain⟨u,m⟩:=p;have yP:(AU st i.toNat q).1≠[]/\u=(AU st i.toNat q).1.map Ah/\m=(AU st i.toNat q).1.length/\Up0 u:=yP;obtain⟨kv,kg,ko,qP⟩:=yP;obtain rfl:u=us:=(by rw[kg,kZ]);have nQ:m=u.length:=(by rw[kg,ko];simp);clear kZ nG kv kg ko;cbv;simp only[ck];refine hE _ _ _ ?_;cbv;refine WkB.mk ?_;(refine Z.n (id) ?_;cbv<;>exact Z.q)
theorem WB(k:Int)(hk:0<=k/\k<=1000)(F:Nat)(st:Rd->Gr×Rd)(kX:∀q,BB q->BB (st q).2)(hF:∀q,BB q->AJ Tryz.prog F [.ref 0 2 0 0] [.live 2 [[.list 1 (q.b.map AZ),q.sh]]] (λr h=>r=(λd=>.agg (Ak d)) (st q).1/\∃j,h = .live 2 [[.list 1 ((st q).2.b.map AZ),.bool (st q).2.sh]]::j))
 (q:Rd) (hq:BB q) (rs:List (List AV)) (yD:rs=q.b.map AZ) (us rs':List (List AV)) (sh':Bool) (kZ:us=(AU st k.toNat q).1.map Ak) (lG:rs'=(AU st k.toNat q).2.b.map AZ) (hsh':sh'=(AU st k.toNat q).2.sh) :
 AJ Tryz.prog 78 [k,.func (.func F) [.ref 0 2 0 0] []] [.live 2 [[.list 1 rs,q.sh]]] (λr h=>r = .list 5 us/\h=[.live 2 [[.list 1 rs',sh']]]):=by
 refine AJ.give ?_;have zL:∀d:Gr,Af 0 (Ak d)=true:=λd=>rfl;have rQ:Up0 us:=by rw[kZ];exact BM (f:=Ak) zL _
 have hu:Up0 rs:=by rw[yD];exact Ao _
 have hu':Up0 rs':=by rw[lG];exact Ao _
 obtain⟨shq,eshq⟩:=Z.e q.sh;rw[<- eshq];refine Z.x Tryz.func78 λzB _ _ _ _ _ hw zC zA _ _ _ _ hz P hP=>?_;cbv
 refine Ae.dataN hw (S:=Int×List (List AV)×Bool×Option (List (List AV)×Nat)) (λs=>fr 16 [(0,k),(1,.func (.func F) [.ref 0 2 0 0] []),(5,match s.2.2.2 with|none=>.nils|some (_,m)=>.sl 1 5 0 m),(6,k),(7,s.1)])
  (λs=>match s.2.2.2 with|none=>[.live 2 [[.list 1 s.2.1,s.2.2.1]]]|some (u,_)=>[.live 2 [[.list 1 s.2.1,s.2.2.1]],.live 5 u])
  (λs=>0<=s.1/\s.1<=k/\s.2.1=(AU st s.1.toNat q).2.b.map AZ/\s.2.2.1=(AU st s.1.toNat q).2.sh/\Up0 s.2.1/\MOu Ak (AU st s.1.toNat q).1 s.2.2.2) (λs=>(k-s.1).toNat) (0,rs,shq,none) (by(refine Z.n (id) ?_;cbv<;>exact Z.q))
  ⟨Int.le_refl _,hk.1,yD,eshq,hu,rfl⟩ ?_
 rintro⟨i,w,s,ou⟩ zJ Q' hN hE hR'
 have zJ:0<=i/\i<=k/\w=(AU st i.toNat q).2.b.map AZ/\s=(AU st i.toNat q).2.sh/\Up0 w/\MOu Ak (AU st i.toNat q).1 ou:=zJ;obtain⟨zW,yZ,lU,hs1,oD,yP⟩:=zJ;have nG:=FI st i.toNat q;by_cases yC:i<k
 ·obtain⟨i2,kW⟩:=Z.e (i+1)
  have hT:(k-i2).toNat<(k-i).toNat:=(by omega);have yK:AU st i2.toNat q=((AU st i.toNat q).1++[(st (AU st i.toNat q).2).1],(st (AU st i.toNat q).2).2):=(by rw[show i2.toNat=i.toNat+1 by omega];rfl);have bY:=hF _ (GH kX i.toNat q hq);rw[<- lU,<- hs1] at bY;obtain⟨⟨d,q2⟩,ed⟩:=Z.e (st (AU st i.toNat q).2);rw[<- ed] at bY yK;obtain⟨w2,lN⟩:=Z.e (q2.b.map AZ);obtain⟨s2,nD⟩:=Z.e q2.sh;have lQ:Up0 w2:=(by rw[lN];exact Ao _);have ko:(AU st i2.toNat q).1=(AU st i.toNat q).1++[d]:=(by rw[yK]);have nU:(AU st i2.toNat q).2=q2:=(by rw[yK]);have bY:AJ Tryz.prog F [.ref 0 2 0 0] [.live 2 [[.list 1 w,s]]] (λr h=>r = .agg (Ak d)/\∃j,h = .live 2 [[.list 1 w2,.bool s2]]::j):=(by rw[lN,nD];exact bY);obtain⟨u2,mW⟩:∃z,z=(AU st i2.toNat q).1.map Ak:=⟨_,rfl⟩;have pE:Up0 u2:=(by rw[mW];exact BM (f:=Ak) zL _);obtain⟨m2,mJ⟩:=Z.e i2.toNat;have nT:MOu Ak (AU st i2.toNat q).1 (some (u2,m2)):=⟨by rw[ko];simp,mW,by rw[FI,mJ],pE⟩;have rP:w2=(AU st i2.toNat q).2.b.map AZ:=(by rw[nU,lN]);have hs3:s2=(AU st i2.toNat q).2.sh:=(by rw[nU,nD]);have lF:u2=(AU st i.toNat q).1.map Ak++[Ak d]:=(by rw[mW,ko,List.map_append];rfl);clear yK ed ko nU lN nD lU hs1;obtain⟨d1,d2,d3,d4,d5⟩:=d;have bY:AJ Tryz.prog F [.ref 0 2 0 0] [.live 2 [[.list 1 w,s]]] (λr h=>r = .agg [d1,d2,d3,d4,d5]/\∃j,h = .live 2 [[.list 1 w2,.bool s2]]::j):=(by exact bY);have lF:u2=(AU st i.toNat q).1.map Ak++[[jz d1,jz d2,jz d3,jz d4,jz d5]]:=(by exact lF);have ck:=W.lt zA yC;have a4:zB .add .i64 i 1=i2:=(by rw[zC,Ag Z.o Z.o,kW]);have zk:m2=i.toNat+1:=by omega
  cases ou with
  | none =>
    have yP:(AU st i.toNat q).1=[]:=yP;rw[yP] at nG lF;have nk:m2=1:=(by simp at nG;omega);have nZ:u2=[[jz d1,jz d2,jz d3,jz d4,jz d5]]:=lF;clear nG lF;cbv;simp only[ck];cbv;refine Call.of (AJ.one (s:=0) (by rw[<- hP];exact bY) (Av oD _) rfl rfl rfl ?_);rintro r hD ⟨rfl,j,rfl⟩;refine⟨rfl,_,_,rfl,Av lQ _,?_⟩;cbv;refine Ob.mk Z.d ?_;cbv;simp only[a4];refine hN (i2,w2,s2,some ([[jz d1,jz d2,jz d3,jz d4,jz d5]],1)) _ _ ?hx ?hi hT
    case hx=>(refine Z.n (id) ?_;cbv<;>exact Z.q)
    case hi=>exact⟨by simp only;omega,by simp only;omega,rP,hs3,lQ,by simp only;rw[<- nZ,<- nk];exact nT⟩
  | some p =>
    obtain⟨u,m⟩:=p;have yP:(AU st i.toNat q).1≠[]/\u=(AU st i.toNat q).1.map Ak/\m=(AU st i.toNat q).1.length/\Up0 u:=yP;obtain⟨kv,kg,ko,qP⟩:=yP;have nQ:m=u.length:=(by rw[kg,ko];simp);have nk:m2=m+1:=(by omega);have hmk:m<=1000:=(by omega);have nZ:u2=u++[[jz d1,jz d2,jz d3,jz d4,jz d5]]:=(by rw[kg];exact lF);clear nG lF kv kg ko;cbv;simp only[ck];cbv;refine Call.of (AJ.one (s:=0) (by rw[<- hP];exact bY) (Av oD _) rfl rfl rfl ?_);rintro r hD ⟨rfl,j,rfl⟩;refine⟨rfl,_,_,rfl,Av lQ _,?_⟩;cbv;refine App.mk u2 m2 nZ nQ nk Z.o Z.o ?_;cbv;simp only[a4];refine hN (i2,w2,s2,some (u2,m2)) _ _ ?hx ?hi hT
    case hx=>(refine Z.n (λj=>[0,2].getD j 0) ?_;cbv<;>exact Z.q)
    case hi=>exact⟨by simp only;omega,by simp only;omega,rP,hs3,lQ,nT⟩
 ·have ck:=W.nlt zA (show k<=i by omega)
  obtain rfl:i=k:=(by omega);obtain rfl:w=rs':=(by rw[lU,lG]);obtain rfl:s=sh':=(by rw[hs1,hsh']);clear lU hs1 lG hsh' hF
  cases ou with
  | none =>
    have yP:(AU st i.toNat q).1=[]:=yP;have yt:us=[]:=(by rw[kZ,yP];rfl);clear kZ yP nG;cbv;simp only[ck];refine hE _ _ _ ?_;cbv;refine WkB.mk ?_;(refine Z.n (id) ?_;cbv<;>exact Z.q)
  | some p =>
    obtain⟨u,m⟩:=p;have yP:(AU st i.toNat q).1≠[]/\u=(AU st i.toNat q).1.map Ak/\m=(AU st i.toNat q).1.length/\Up0 u:=yP;obtain⟨kv,kg,ko,qP⟩:=yP;obtain rfl:u=us:=(by rw[kg,kZ]);have nQ:m=u.length:=(by rw[kg,ko];simp);clear kZ nG kv kg ko;cbv;simp only[ck];refine hE _ _ _ ?_;cbv;refine WkB.mk ?_;(refine Z.n (id) ?_;cbv<;>exact Z.q)
theorem QG{n:Int}{q:Rd}(hn:0<=n/\n<=4)(hq:BB q):0<=(rdN n q).1/\(rdN n q).1<4294967296:=by
 unfold rdN;split
 ·exact⟨by simp only;omega,by simp only;omega⟩
 ·rename_i h
  have hl:n.toNat<=q.b.length:=by
   rcases Nat.lt_or_ge q.b.length n.toNat with h2|h2
   ·exact absurd (.inr h2) h
   ·exact h2
  have hb:=LC n.toNat (q.b.take n.toNat) (by rw[List.length_take];omega) (λb hb=>hq.b b (List.mem_of_mem_take hb));have:(256:Nat) ^ n.toNat<=256 ^ 4:=Nat.pow_le_pow_right Z.d Z.o;have e:((256 ^ n.toNat:Nat):Int)=256 ^ n.toNat:=(by rw[Int.natCast_pow];rfl);have e8:(256:Nat) ^ 4=4294967296:=(by decide);simp only;unfold Eo;split<;>omega
theorem LF{n m:Int}{q:Rd}(hn:0<=n/\n<=4)(hm:0<=m)(hq:BB q):0<=(rdC n m q).1/\(rdC n m q).1<=m:=by
 unfold rdC;have:=QG hn hq;split
 ·exact⟨by simp only;omega,by simp only;omega⟩
 ·exact⟨by omega,by omega⟩
def pcR(q:Rd):(Int×Int)×Rd:=(((rdN 8 q).1,D_ (rdN 4 (rdN 8 q).2).1),(rdN 4 (rdN 8 q).2).2)
def nxR(q:Rd):Int×Rd:=rdN 1 q
theorem BB.pc{q:Rd}(h:BB q):BB (pcR q).2:=(h.num 8).num 4
theorem BB.nx{q:Rd}(h:BB q):BB (nxR q).2:=h.num 1
theorem Vt(q:Rd)(hq:BB q):AJ Tryz.prog 132 [.ref 0 2 0 0] [.live 2 [[.list 1 (q.b.map AZ),q.sh]]] (λr h=>r = .agg (Ap (pcR q).1)/\∃j,h = .live 2 [[.list 1 ((pcR q).2.b.map AZ),.bool (pcR q).2.sh]]::j):=by
 have c1:=GG 8 ⟨by decide,by decide⟩ q hq;have c2:=GG 4 ⟨by decide,by decide⟩ _ (hq.num 8);have yC:=QG (n:=4) ⟨by decide,by decide⟩ (hq.num 8);unfold pcR;obtain⟨⟨x,⟨l1,s1⟩⟩,e1⟩:=Z.f (rdN 8 q);rw[e1] at c1 c2 yC ⊢;simp only at c1 c2 yC ⊢;obtain⟨⟨y,⟨l2,s2⟩⟩,e2⟩:∃z,rdN 4 ⟨l1,s1⟩=z:=⟨_,rfl⟩;rw[e2] at c2 yC ⊢;simp only at c2 yC ⊢;obtain⟨l0,s0⟩:=q;simp only at c1 ⊢;obtain⟨r0,mZ⟩:=Z.f (l0.map AZ);obtain⟨r1,oP⟩:=Z.f (l1.map AZ);obtain⟨r2,pV⟩:=Z.f (l2.map AZ);have u0:Up0 r0:=by rw[<- mZ];exact Ao _
 have u1:Up0 r1:=by rw[<- oP];exact Ao _
 have u2:Up0 r2:=by rw[<- pV];exact Ao _
 rw[mZ] at c1 ⊢;rw[oP] at c1 c2;rw[pV] at c2 ⊢;obtain⟨z,ez⟩:=Z.e (D_ y);rw[<- ez];have hzq:IntKind.i32.wrap y=z:=by rw[IntKind.wrap_i32,ez];unfold D_;split<;>omega
 have hzi: -2147483648<=z/\z<=2147483647:=by rw[ez];unfold D_;split<;>omega
 clear e1 e2 mZ oP pV ez hq;refine Z.x Tryz.func132 λ_ _ _ zD _ _ _ _ _ _ zG _ _ hz P hP=>?_;cbv;refine Call.of (AJ.one (s:=0) (by rw[<- hP];exact c1) (Av u0 _) rfl rfl rfl ?_);rintro r hD ⟨rfl,j,rfl⟩;refine⟨rfl,_,_,rfl,Av u1 _,?_⟩;cbv;refine Call.of (AJ.one (s:=0) (by rw[<- hP];exact c2) (Av u1 _) rfl rfl rfl ?_);rintro r hD ⟨rfl,j,rfl⟩;refine⟨rfl,_,_,rfl,Av u2 _,?_⟩;cbv;have v1:zD .i32 y=z:=by rw[zG];exact hzq
 have v2:zD .i64 z=z:=by rw[zG];show IntKind.i64.wrap z=z;rw[IntKind.wrap_i64];omega
 simp only[v1,v2];exact⟨by first|rfl|trivial,_,rfl⟩
theorem Vu(q:Rd)(hq:BB q):AJ Tryz.prog 134 [.ref 0 2 0 0] [.live 2 [[.list 1 (q.b.map AZ),q.sh]]] (λr h=>r=jz (nxR q).1/\∃j,h = .live 2 [[.list 1 ((nxR q).2.b.map AZ),.bool (nxR q).2.sh]]::j):=by
 have c1:=GG 1 ⟨by decide,by decide⟩ q hq;unfold nxR;obtain⟨⟨x,⟨l1,s1⟩⟩,e1⟩:=Z.f (rdN 1 q);rw[e1] at c1 ⊢;simp only at c1 ⊢;obtain⟨l0,s0⟩:=q;simp only at c1 ⊢;obtain⟨r0,mZ⟩:=Z.f (l0.map AZ);obtain⟨r1,oP⟩:=Z.f (l1.map AZ);have u0:Up0 r0:=by rw[<- mZ];exact Ao _
 have u1:Up0 r1:=by rw[<- oP];exact Ao _
 rw[mZ] at c1 ⊢;rw[oP] at c1 ⊢;clear e1 mZ oP hq;refine Z.x Tryz.func134 λ_ _ _ _ _ _ _ _ _ _ _ _ _ hz P hP=>?_;cbv;refine Call.of (AJ.one (s:=0) (by rw[<- hP];exact c1) (Av u0 _) rfl rfl rfl ?_);rintro r hD ⟨rfl,j,rfl⟩;refine⟨rfl,_,_,rfl,Av u1 _,?_⟩;cbv;exact⟨_,rfl⟩
def gpR(q:Rd):Gr×Rd:=(⟨(rdN 2 q).1,(rdN 1 (rdN 2 q).2).1,(rdN 8 (rdN 1 (rdN 2 q).2).2).1,(rdN 4 (rdN 8 (rdN 1 (rdN 2 q).2).2).2).1,(rdN 4 (rdN 4 (rdN 8 (rdN 1 (rdN 2 q).2).2).2).2).1⟩,(rdN 4 (rdN 4 (rdN 8 (rdN 1 (rdN 2 q).2).2).2).2).2)
theorem BB.gp{q:Rd}(h:BB q):BB (gpR q).2:=((((h.num 2).num 1).num 8).num 4).num 4
theorem Vv(q:Rd)(hq:BB q):AJ Tryz.prog 79 [.ref 0 2 0 0] [.live 2 [[.list 1 (q.b.map AZ),q.sh]]] (λr h=>r = .agg (Ak (gpR q).1)/\∃j,h = .live 2 [[.list 1 ((gpR q).2.b.map AZ),.bool (gpR q).2.sh]]::j):=by
 have c1:=GG 2 ⟨by decide,by decide⟩ q hq;have c2:=GG 1 ⟨by decide,by decide⟩ _ (hq.num 2);have c3:=GG 8 ⟨by decide,by decide⟩ _ ((hq.num 2).num 1);have c4:=GG 4 ⟨by decide,by decide⟩ _ (((hq.num 2).num 1).num 8);have c5:=GG 4 ⟨by decide,by decide⟩ _ ((((hq.num 2).num 1).num 8).num 4);unfold gpR;obtain⟨⟨x1,q1⟩,e1⟩:=Z.f (rdN 2 q);rw[e1] at c1 c2 c3 c4 c5 ⊢;simp only at c1 c2 c3 c4 c5 ⊢;obtain⟨⟨x2,q2⟩,e2⟩:=Z.f (rdN 1 q1);rw[e2] at c2 c3 c4 c5 ⊢;simp only at c2 c3 c4 c5 ⊢;obtain⟨⟨x3,q3⟩,e3⟩:=Z.f (rdN 8 q2);rw[e3] at c3 c4 c5 ⊢;simp only at c3 c4 c5 ⊢;obtain⟨⟨x4,q4⟩,e4⟩:=Z.f (rdN 4 q3);rw[e4] at c4 c5 ⊢;simp only at c4 c5 ⊢;obtain⟨⟨x5,q5⟩,e5⟩:=Z.f (rdN 4 q4);rw[e5] at c5 ⊢;simp only at c5 ⊢;have gen:∀q:Rd,∃r s,Up0 r/\r=q.b.map AZ/\s=q.sh:=λq=>⟨_,_,Ao _,rfl,rfl⟩;obtain⟨r0,s0,u0,mZ,es0⟩:=gen q;obtain⟨r1,s1,u1,oP,oz⟩:=gen q1;obtain⟨r2,s2,u2,pV,nD⟩:=gen q2;obtain⟨r3,s3,u3,wG,qL⟩:=gen q3;obtain⟨r4,s4,u4,wF,ui⟩:=gen q4;obtain⟨r5,s5,u5,er5,es5⟩:=gen q5;rw[<- mZ,<- es0] at c1 ⊢;rw[<- oP,<- oz] at c1 c2;rw[<- pV,<- nD] at c2 c3;rw[<- wG,<- qL] at c3 c4;rw[<- wF,<- ui] at c4 c5;rw[<- er5,<- es5] at c5 ⊢;clear e1 e2 e3 e4 e5 mZ oP pV wG wF er5 es0 oz nD qL ui es5 hq gen;refine Z.x Tryz.func79 λ_ _ _ _ _ _ _ _ _ _ _ _ _ hz P hP=>?_;cbv;refine Call.of (AJ.one (s:=0) (by rw[<- hP];exact c1) (Av u0 _) rfl rfl rfl ?_);rintro r hD ⟨rfl,j,rfl⟩;refine⟨rfl,_,_,rfl,Av u1 _,?_⟩;cbv;refine Call.of (AJ.one (s:=0) (by rw[<- hP];exact c2) (Av u1 _) rfl rfl rfl ?_);rintro r hD ⟨rfl,j,rfl⟩;refine⟨rfl,_,_,rfl,Av u2 _,?_⟩;cbv;refine Call.of (AJ.one (s:=0) (by rw[<- hP];exact c3) (Av u2 _) rfl rfl rfl ?_);rintro r hD ⟨rfl,j,rfl⟩;refine⟨rfl,_,_,rfl,Av u3 _,?_⟩;cbv;refine Call.of (AJ.one (s:=0) (by rw[<- hP];exact c4) (Av u3 _) rfl rfl rfl ?_);rintro r hD ⟨rfl,j,rfl⟩;refine⟨rfl,_,_,rfl,Av u4 _,?_⟩;cbv;refine Call.of (AJ.one (s:=0) (by rw[<- hP];exact c5) (Av u4 _) rfl rfl rfl ?_);rintro r hD ⟨rfl,j,rfl⟩;refine⟨rfl,_,_,rfl,Av u5 _,?_⟩;cbv;exact⟨_,rfl⟩
def sgR(q:Rd):Sg×Rd:=
 let a:=rdN 8 q
 let c:=rdC 1 64 a.2
 let p:=AU pcR c.1.toNat c.2
 let d:=rdC 1 2 p.2
 let n:=AU nxR d.1.toNat d.2
 (⟨a.1,p.1,n.1⟩,n.2)
theorem BB.sg{q:Rd}(h:BB q):BB (sgR q).2:=GH (λq h=>h.nx) _ _ ((GH (λq h=>h.pc) _ _ ((h.num 8).count 1 64)).count 1 2)
theorem Vx(q:Rd)(hq:BB q):AJ Tryz.prog 77 [.ref 0 2 0 0] [.live 2 [[.list 1 (q.b.map AZ),q.sh]]] (λr h=>r = .agg (Ah (sgR q).1)/\∃j,h = .live 2 [[.list 1 ((sgR q).2.b.map AZ),.bool (sgR q).2.sh]]::j):=by
 have gen:∀q:Rd,∃r s,Up0 r/\r=q.b.map AZ/\s=q.sh:=λq=>⟨_,_,Ao _,rfl,rfl⟩;have c1:=GG 8 ⟨by decide,by decide⟩ q hq;obtain⟨⟨x1,q1⟩,e1⟩:=Z.f (rdN 8 q);have h1:=hq.num 8;rw[e1] at c1 h1;obtain⟨⟨x2,q2⟩,e2⟩:=Z.e (rdC 1 64 q1);have h2:=h1.count 1 64;have i2:=LF (n:=1) (m:=64) ⟨by decide,by decide⟩ Z.d h1;simp only at c1 h1 h2 i2;rw[<- e2] at h2 i2;obtain⟨⟨ps,q3⟩,e3⟩:=Z.e (AU pcR x2.toNat q2);have h3:=GH (st:=pcR) (λq h=>h.pc) x2.toNat q2 h2;simp only at h2 i2;rw[<- e3] at h3;obtain⟨⟨x4,q4⟩,e4⟩:=Z.e (rdC 1 2 q3);have h4:=h3.count 1 2;have i4:=LF (n:=1) (m:=2) ⟨by decide,by decide⟩ Z.d h3;simp only at h3 h4 i4;rw[<- e4] at h4 i4;obtain⟨⟨ns,q5⟩,e5⟩:=Z.e (AU nxR x4.toNat q4);simp only at h4 i4
 have rD:sgR q=(⟨x1,ps,ns⟩,q5):=by
  unfold sgR;simp only;rw[e1];simp only;rw[<- e2];simp only;rw[<- e3];simp only;rw[<- e4];simp only;rw[<- e5]
 rw[rD];simp only;obtain⟨r0,s0,u0,mZ,es0⟩:=gen q;obtain⟨r1,s1,u1,oP,oz⟩:=gen q1;obtain⟨r2,s2,u2,pV,nD⟩:=gen q2;obtain⟨r3,s3,u3,wG,qL⟩:=gen q3;obtain⟨r4,s4,u4,wF,ui⟩:=gen q4;obtain⟨r5,s5,u5,er5,es5⟩:=gen q5;obtain⟨pr,epr⟩:=Z.e (ps.map Ap);obtain⟨nr,enr⟩:=Z.e (ns.map Ac);have xz:Up0 pr:=by rw[epr];exact E5 _
 have un1:Up0 nr:=by rw[enr];exact CG _
 have c2:=LG 1 64 ⟨by decide,by decide⟩ q1 h1 r1 oP x2 q2 e2 r2 pV;have c3:=Vy x2 ⟨i2.1,by omega⟩ 132 pcR (λq h=>h.pc) Vt q2 h2 r2 pV pr r3 s3 (by rw[<- e3,epr]) (by rw[<- e3,wG]) (by rw[<- e3,qL]);have c4:=LG 1 2 ⟨by decide,by decide⟩ q3 h3 r3 wG x4 q4 e4 r4 wF;have c5:=Vz x4 ⟨i4.1,by omega⟩ 134 nxR (λq h=>h.nx) Vu q4 h4 r4 wF nr r5 s5 (by rw[<- e5,enr]) (by rw[<- e5,er5]) (by rw[<- e5,es5]);rw[<- mZ,<- es0,<- oP,<- oz] at c1;rw[<- oz,<- nD] at c2;rw[<- nD] at c3;rw[<- qL,<- ui] at c4;rw[<- ui] at c5;rw[show Ah ⟨x1,ps,ns⟩=[jz x1,.list 2 pr,.list 1 nr] by rw[epr,enr];rfl,<- mZ,<- es0,<- er5,<- es5];clear e1 e2 e3 e4 e5 mZ oP pV wG wF er5 es0 oz nD qL ui es5 hq gen rD epr enr h1 h2 h3 h4 i2 i4;refine Z.x Tryz.func77 λ_ _ _ _ _ _ _ _ _ _ _ _ _ _ P hP=>?_;cbv;refine Call.of (AJ.one (s:=0) (by rw[<- hP];exact c1) (Av u0 _) rfl rfl rfl ?_);rintro r hD ⟨rfl,j,rfl⟩;refine⟨rfl,_,_,rfl,Av u1 _,?_⟩;cbv;refine Call.of (AJ.one (s:=0) (by rw[<- hP];exact c2) (Av u1 _) rfl rfl rfl ?_);rintro r hD ⟨rfl,j,rfl⟩;refine⟨rfl,_,_,rfl,Av u2 _,?_⟩;cbv;refine Call.of (AJ.one (s:=0) (by rw[<- hP];exact c3) (Av u2 _) rfl rfl rfl ?_);rintro r hD ⟨rfl,rfl⟩;refine⟨xz.list,_,[],rfl,Av u3 _,?_⟩;cbv;refine Call.of (AJ.one (s:=0) (by rw[<- hP];exact c4) (Av u3 _) rfl rfl rfl ?_);rintro r hD ⟨rfl,j,rfl⟩;refine⟨rfl,_,_,rfl,Av u4 _,?_⟩;cbv;refine Call.of (AJ.one (s:=0) (by rw[<- hP];exact c5) (Av u4 _) rfl rfl rfl ?_);rintro r hD ⟨rfl,rfl⟩;refine⟨un1.list,_,[],rfl,Av u5 _,?_⟩;cbv;exact⟨_,rfl⟩
def JI(l:List Int):ByteArray:=⟨(l.map λn=>UInt8.ofNat n.toNat).toArray⟩
theorem NE{l:List Int}(h:Ar l):l.map AZ=CR (JI l):=by
 unfold CR JI;simp only[List.map_map];apply List.map_congr_left;intro b hb;have:=h b hb;show [AV.int .u8 b]=[AV.int .u8 ((UInt8.ofNat b.toNat).toNat:Int)]
 have e:((UInt8.ofNat b.toNat).toNat:Int)=b:=by
  rw[UInt8.toNat_ofNat'];have:b.toNat%2 ^ 8=b.toNat:=Nat.mod_eq_of_lt Z.o;rw[this];omega
 rw[e]
theorem V_{l m:List Int}(hl:Ar l)(hm:Ar m)(h:JI l=JI m):l=m:=by
 have h1:=NE hl;rw[h,<- NE hm] at h1
 have key:∀(a b:List Int),a.map AZ=b.map AZ->a=b:=by
  intro a
  induction a with
  | nil=>intro b hb;cases b with
    | nil=>rfl
    | cons x b=>simp at hb
  | cons y a ih =>
    intro b hb
    cases b with
    | nil=>simp at hb
    | cons x b =>
      simp only[List.map_cons,List.cons.injEq,AZ,AV.int.injEq,true_and,and_true] at hb;rw[hb.1,ih b hb.2]
 exact key l m h1
theorem QH(a b:ByteArray):AP .neq a b=decide (a≠b):=by
 have:AP .neq a b = !(a.toList == b.toList):=rfl;rw[this];by_cases h:a=b
 ·subst h;simp
 ·have:¬a.toList=b.toList:=λe=>h (Go.Eng.toList_inj e)
  simp[h,this]
def JJ:List Int:=[79,68,79,49]
def K7(b:List Int):List Sg×List Gr×Rd:=
 let c:=rdC 2 200 ⟨(b.take (b.length-2)).drop 4,false⟩
 let s:=AU sgR c.1.toNat c.2
 let d:=rdC 2 400 s.2
 let g:=AU gpR d.1.toNat d.2
 (s.1,g.1,g.2)
structure Ep(b:List Int)(ss:List Sg)(gs:List Gr):Prop where
 le:b.length<=1048576
 ge:6<=b.length
 hd:b.take 4=JJ
 sum:crF 65535#16 b=0#16
 rd:K7 b=(ss,gs,⟨[],false⟩)
 tr:BN ss gs
theorem Ep.uniq{b:List Int}{ss ss':List Sg}{gs gs':List Gr}(h:Ep b ss gs)(h':Ep b ss' gs'):ss=ss'/\gs=gs':=by
 have:=h.rd.symm.trans h'.rd;simp only[Prod.mk.injEq] at this;exact⟨this.1,this.2.1⟩
theorem W9(b:List Int)(hb:Ar b)(sP:b.length<=1000000000)(rs:List (List AV))(yD:rs=b.map AZ) :
 A9 Tryz.prog 33 [.list 1 rs] (λr=>(∃ss gs es ds,Ep b ss gs/\es=ss.map Ah/\ds=gs.map Ak/\r = .tuple [.agg [.list 3 es,.list 5 ds],jz 0])\/∃e:Int,e≠0/\(∀ss gs,¬Ep b ss gs)/\r = .tuple [.agg [.nils,.nils],jz e]):=by
 have hu:Up0 rs:=by rw[yD];exact Ao _
 have oL:rs.length=b.length:=by rw[yD];simp
 obtain⟨c,ec⟩:=Z.e (bi (crF 65535#16 b));have q3:=NF b hb Z.o c rs yD ec
 have lM:c=0↔crF 65535#16 b=0#16:=by
  rw[ec];unfold bi;constructor
  ·intro h;exact BitVec.eq_of_toNat_eq (by simp;omega)
  ·intro h;rw[h];rfl
 obtain⟨hd,ehd⟩:=Z.e (JI (b.take 4));have mU:rs.take 4=CR hd:=by rw[yD,<- List.map_take,ehd];exact NE (λx hx=>hb x (List.mem_of_mem_take hx))
 have rz:(⟨⟨[79,68,79,49]⟩⟩:ByteArray)=JI JJ:=rfl
 have hhd:hd=(⟨⟨[79,68,79,49]⟩⟩:ByteArray)↔b.take 4=JJ:=by
  rw[ehd,rz];constructor
  ·intro h;exact V_ (λx hx=>hb x (List.mem_of_mem_take hx)) (by intro x hx;simp only[JJ,List.mem_cons,List.not_mem_nil,or_false] at hx;omega) h
  ·intro h;rw[h]
 clear ec ehd rz;(refine A9.ofY Tryz.func33 (by kernel_rfl) (by kernel_rfl) (Z.w λzB _ _ _ _ _ _ zP _ _ _ _ zK _ _ zN zO _ _ _ _ zC zA _ _ _ _ _ zZ _ _ _ _ zH _ _ yI yL _ _ _ hz R hR=>?_));(conv=>arg 2;cbv);(generalize hP:Tryz.prog=P);cbv;obtain⟨L,eL,L0,Ln⟩:=Z.l zH rs;have hF:∀e:Int,e≠0->(∀ss gs,¬Ep b ss gs)->R (.tuple [.agg [.nils,.nils],e]):=λe he hn=>hR _ (.inr ⟨e,he,hn,rfl⟩);(split<;>rename_i h1<;>(try (simp only[eL] at h1))<;>(try (simp only[hz,Z.a,AF,AC,AO,AP,AL,reduceCtorEq] at h1))<;>(try cbv))
 ·exact⟨_,Vw.same rfl,hF _ Z.d λss gs h=>(by have:=h.le;omega)⟩
 (split<;>rename_i h2<;>(try (simp only[eL] at h2))<;>(try (simp only[hz,Z.a,AF,AC,AO,AP,AL,reduceCtorEq] at h2))<;>(try cbv))
 ·exact⟨_,Vw.same rfl,hF _ Z.d λss gs h=>(by have:=h.ge;omega)⟩
 have t1:zN rs 4=CR hd:=by rw[yI];exact mU
 refine Nn.mk Z.d (Le.mk Z.o (ToS.mk hd rfl t1 ?_));cbv;by_cases rz:b.take 4=JJ
 rotate_left 1
 ·have s1:zP .neq hd ⟨⟨[79,68,79,49]⟩⟩=true:=by
   rw[zZ,QH];exact decide_eq_true λh=>rz (hhd.1 h)
  simp only[s1];cbv;exact⟨_,Vw.same rfl,hF _ Z.d λss gs h=>rz h.hd⟩
 have s1:zP .neq hd ⟨⟨[79,68,79,49]⟩⟩=false:=by
  rw[zZ,QH];exact decide_eq_false λh=>h (hhd.2 rz)
 simp only[s1];cbv;refine Call.s hP q3 ?_;cbv;by_cases hc:c=0
 rotate_left 1
 ·have d1:=W.ne zA hc
  simp only[d1];cbv;exact⟨_,Vw.same rfl,hF _ Z.d λss gs h=>hc (lM.2 h.sum)⟩
 have hsum:=lM.1 hc;have d1:=W.nne zA hc;simp only[d1];cbv;obtain⟨L2,eL2⟩:=Z.e (L-2);have a1:zB .sub .i64 L 2=L2:=by rw[zC,Bj Z.o Z.o,eL2]
 obtain⟨bd,ebd⟩:∃z,z=(b.take (b.length-2)).drop 4:=⟨_,rfl⟩;obtain⟨r0,mZ⟩:=Z.e (bd.map AZ);have u0:Up0 r0:=by rw[mZ];exact Ao _
 have cut:zO (zN rs L2) 4=r0:=by
  rw[yL,yI,mZ,ebd,yD];show ((List.map AZ b).take L2.toNat).drop 4=_;rw[show L2.toNat=b.length-2 by omega,<- List.map_take,<- List.map_drop]
 simp only[eL,a1];cbv
 repeat' (first
  | (refine Nn.mk Z.d ?_)
  | (refine Le.mk (by first|(rw[eL];omega)|omega) ?_)
  | (simp only[cut];cbv))
 have gen:∀q:Rd,∃r s,Up0 r/\r=q.b.map AZ/\s=q.sh:=λq=>⟨_,_,Ao _,rfl,rfl⟩;have h0:BB ⟨bd,false⟩:=⟨λx hx=>hb x (by rw[ebd] at hx;exact List.mem_of_mem_take (List.mem_of_mem_drop hx)),by simp only;rw[ebd,List.length_drop,List.length_take];omega⟩;obtain⟨⟨x1,q1⟩,e1⟩:∃z,z=rdC 2 200 ⟨bd,false⟩:=⟨_,rfl⟩;have h1:=h0.count 2 200;have i1:=LF (n:=2) (m:=200) ⟨by decide,by decide⟩ Z.d h0;rw[<- e1] at h1 i1;obtain⟨⟨ss,q2⟩,e2⟩:=Z.e (AU sgR x1.toNat q1);simp only at h1 i1;have h2:=GH (st:=sgR) (λq h=>h.sg) x1.toNat q1 h1;have l2:=FI sgR x1.toNat q1;rw[<- e2] at h2 l2;obtain⟨⟨x3,q3'⟩,e3⟩:=Z.e (rdC 2 400 q2);simp only at h2 l2;have h3:=h2.count 2 400;have i3:=LF (n:=2) (m:=400) ⟨by decide,by decide⟩ Z.d h2;rw[<- e3] at h3 i3;obtain⟨⟨gs,q4⟩,e4⟩:=Z.e (AU gpR x3.toNat q3');simp only at h3 i3;have l4:=FI gpR x3.toNat q3';rw[<- e4] at l4;simp only at l4
 have rD:K7 b=(ss,gs,q4):=by
  unfold K7;simp only;rw[<- ebd,<- e1];simp only;rw[<- e2];simp only;rw[<- e3];simp only;rw[<- e4]
 obtain⟨r1,s1',u1,oP,oz⟩:=gen q1;obtain⟨r2,s2',u2,pV,nD⟩:=gen q2;obtain⟨r3,s3',u3,wG,qL⟩:=gen q3';obtain⟨r4,yc,u4,wF,ui⟩:=gen q4;obtain⟨es,ees⟩:=Z.e (ss.map Ah);obtain⟨ds,eds⟩:=Z.e (gs.map Ak);have ue:Up0 es:=by rw[ees];exact Bu _
 have ud:Up0 ds:=by rw[eds];exact Bv _
 have c1:=LG 2 200 ⟨by decide,by decide⟩ ⟨bd,false⟩ h0 r0 mZ x1 q1 e1 r1 oP;have c2:=WA x1 ⟨i1.1,by omega⟩ 77 sgR (λq h=>h.sg) Vx q1 h1 r1 oP es r2 s2' (by rw[<- e2,ees]) (by rw[<- e2,pV]) (by rw[<- e2,nD]);have c3:=LG 2 400 ⟨by decide,by decide⟩ q2 h2 r2 pV x3 q3' e3 r3 wG;have c4:=WB x3 ⟨i3.1,by omega⟩ 79 gpR (λq h=>h.gp) Vv q3' h3 r3 wG ds r4 yc (by rw[<- e4,eds]) (by rw[<- e4,wF]) (by rw[<- e4,ui]);rw[<- oz] at c1 c2;rw[<- nD] at c3;rw[<- qL] at c3 c4;have c5:=QI ss gs Z.o Z.o es ds ees eds;have sj:r4=[]↔q4.b=[]:=by rw[wF,List.map_eq_nil_iff]
 have hq4:(r4=[]/\yc=false)->K7 b=(ss,gs,⟨[],false⟩):=λh=>by
  rw[rD];obtain⟨qb,qs⟩:=q4;simp only at ui sj;rw[sj.1 h.1,<- ui,h.2]
 have ku:¬(r4=[]/\yc=false)->∀ss gs,¬Ep b ss gs:=λh ss' gs' hO=>h (by
  have:=rD.symm.trans hO.rd;simp only[Prod.mk.injEq] at this;have h3:=this.2.2;exact⟨sj.2 (by rw[h3]),by rw[ui,h3]⟩)
 have hnt:r4=[]/\yc=false->¬BN ss gs->∀ss gs,¬Ep b ss gs:=λh hn ss' gs' hO=>hn (by
  have:=(hq4 h).symm.trans hO.rd;simp only[Prod.mk.injEq] at this;rw[this.1,this.2.1];exact hO.tr)
 have yn:r4=[]/\yc=false->BN ss gs->Ep b ss gs:=λh ht=>⟨by omega,by omega,rz,hsum,hq4 h,ht⟩;have l6:zK r4=(r4.length:Int):=by rw[zH]
 obtain⟨M,eM,M0,Mn⟩:∃M:Int,zK r4=M/\0<=M/\M.toNat=r4.length:=⟨(r4.length:Int),l6,Int.natCast_nonneg _,Int.toNat_natCast _⟩;have hM:M=0↔r4=[]:=by rw[<- List.length_eq_zero_iff,<- Mn];omega
 clear e1 e2 e3 e4 mZ oP pV wG wF oz nD qL ui gen rD h0 h1 h2 h3 i1 i3 l2 l4 ebd sj hq4 cut l6;refine Call.of (AJ.one (s:=1) (by rw[<- hP];exact c1) (Av u0 _) rfl rfl rfl ?_);rintro r hD ⟨rfl,j,rfl⟩;refine⟨rfl,_,_,rfl,Av u1 _,?_⟩;cbv;refine Call.of (AJ.one (s:=1) (by rw[<- hP];exact c2) (Av u1 _) rfl rfl rfl ?_);rintro r hD ⟨rfl,rfl⟩;refine⟨ue.list,_,[],rfl,Av u2 _,?_⟩;cbv;refine Call.of (AJ.one (s:=1) (by rw[<- hP];exact c3) (Av u2 _) rfl rfl rfl ?_);rintro r hD ⟨rfl,j,rfl⟩;refine⟨rfl,_,_,rfl,Av u3 _,?_⟩;cbv;refine Call.of (AJ.one (s:=1) (by rw[<- hP];exact c4) (Av u3 _) rfl rfl rfl ?_);rintro r hD ⟨rfl,rfl⟩;refine⟨ud.list,_,[],rfl,Av u4 _,?_⟩;cbv
 cases yc with
 | true =>
   cbv;exact⟨_,Vw.same rfl,hF _ Z.d (ku (by simp))⟩
 | false =>
   cbv;simp only[eM];by_cases hM0:M=0
   rotate_left 1
   ·have d2:=W.gt zA (show 0<M by omega)
    simp only[d2];cbv;exact⟨_,Vw.same rfl,hF _ Z.d (ku λh=>hM0 (hM.2 h.1))⟩
   have d2:=W.ngt zA (show M<=0 by omega);simp only[d2];cbv;have hr4:=hM.1 hM0;refine Call.step (by rw[<- hP];exact c5) Z.u ?_;rintro r ⟨e,i0,rfl,he⟩;cbv;by_cases qK:e=0
   ·have d3:=W.nne zA qK
    simp only[d3];cbv;exact⟨_,Vw.same (by first|rfl|(repeat' (first|exact rfl|assumption|refine uc ?_ ?_|exact ul Z.m|refine ua ?_|refine ut ?_))),hR _ (.inl ⟨ss,gs,es,ds,yn ⟨hr4,rfl⟩ (he.1 qK),ees,eds,rfl⟩)⟩
   ·have d3:=W.ne zA qK
    simp only[d3];cbv;exact⟨_,Vw.same rfl,hF _ Z.d (hnt ⟨hr4,rfl⟩ λht=>qK (he.2 ht))⟩
end Go.Proofs.YtlchlddijclhjaaGreat
