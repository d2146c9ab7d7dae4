/- Parts of the proofs. -/
import Derived.Test.YtlchlddijclhjaaGreatS15
import Derived.Test.YtlchlddijclhjaaGreatS16
import Derived.Test.YtlchlddijclhjaaGreatS22
import Derived.Test.YtlchlddijclhjaaGreatSZ
set_option linter.unusedVariables false
set_option linter.unusedSimpArgs false
set_option maxHeartbeats 4000000
namespace Go.Proofs.YtlchlddijclhjaaGreat
open Go Go.RowKit Go.Eng
set_option maxRecDepth 100000
structure Rd where
 b:List Int
 sh:Bool
def q29(v:Int):Int:=if 9223372036854775808<=v then v-18446744073709551616 else v
def rdN(n:Int)(q:Rd):Int×Rd:=if q.sh=true\/q.b.length<n.toNat then (0,⟨q.b,true⟩) else (q29 (be (q.b.take n.toNat)),⟨q.b.drop n.toNat,false⟩)
theorem kUG{a b:Int}(h0:0<=a)(h1:a<72057594037927936)(h2:0<=b)(h3:b<256):k05 .or .u64 (k05 .shl .u64 a 8) b=a*256+b:=by
 have e1:k05 .shl .u64 a 8=a*256:=by
  show IntKind.u64.wrap (a*2 ^ (min (8:Int).toNat 64))=_;rw[IntKind.wrap_u64];show a*256%18446744073709551616=_;omega
 rw[e1];show IntKind.u64.wrap (BitVec.ofInt 64 (a*256) ||| BitVec.ofInt 64 b).toNat=_;obtain⟨an,rfl⟩:=Int.eq_ofNat_of_zero_le h0;obtain⟨bn,rfl⟩:=Int.eq_ofNat_of_zero_le h2;have e2:((an:Int)*256)=((an*256:Nat):Int):=by omega
 rw[e2,BitVec.ofInt_natCast,BitVec.ofInt_natCast,BitVec.toNat_or,BitVec.toNat_ofNat,BitVec.toNat_ofNat,Nat.mod_eq_of_lt Z.o,Nat.mod_eq_of_lt Z.o]
 have e3:an*256 ||| bn=an*256+bn:=by
  rw[Nat.mul_comm];exact(Nat.two_pow_add_eq_or_of_lt (i:=8) Z.o an).symm
 rw[e3,IntKind.wrap_u64];omega
theorem kOU(l:List Int)(b:Int):be (l++[b])=be l*256+b:=by unfold be;rw[List.foldl_append];rfl
theorem kSU:∀(n:Nat) (l:List Int),l.length=n->k0H l->0<=be l/\be l<256 ^ n
 | 0,l,hl,h=>by
   obtain rfl:l=[]:=List.length_eq_zero_iff.1 hl;exact⟨by decide,by decide⟩
 | n+1,l,hl,h=>by
   have hne:l≠[]:=λe=>(by subst e;simp at hl);have e:=List.dropLast_concat_getLast hne;have ih:=kSU n l.dropLast (by simp[hl]) (λb hb=>h b ((List.dropLast_sublist l).subset hb));have hb:=h (l.getLast hne) (List.getLast_mem hne);rw[<- e,kOU,Int.pow_succ];omega
theorem kVP{n:Nat}(h:n<=7):(256:Int) ^ n<=72057594037927936:=by
 have:(256:Nat) ^ n<=256 ^ 7:=Nat.pow_le_pow_right Z.d h;have e:((256 ^ n:Nat):Int)=256 ^ n:=by rw[Int.natCast_pow];rfl
 have e7:(256:Nat) ^ 7=72057594037927936:=by decide
 omega
theorem kTR(n:Int)(hn:0<=n/\n<=8)(q:Rd)(hb:k0H q.b)(h47:q.b.length<=1000000000)(rs:List (List AV))(yL:rs=q.b.map k15)(v:Int)(q':Rd)(e:(v,q')=rdN n q)(rs':List (List AV))(hrs':rs'=q'.b.map k15) :
 k06 Tryz.prog 130 [.ref 0 2 0 0,n] [.live 2 [[.list 1 rs,q.sh]]] (λr h=>r=jz v/\∃j,h = .live 2 [[.list 1 rs',.bool q'.sh]]::j):=by
 have hu:Up0 rs:=by rw[yL];exact k2R _
 have hu':Up0 rs':=by rw[hrs'];exact k2R _
 have hrl:rs.length=q.b.length:=by rw[yL];simp
 obtain⟨l,sh⟩:=q;obtain⟨l',sh'⟩:=q';simp only at hb h47 yL hrs' hrl;unfold rdN at e;simp only at e;by_cases hsh:sh=true\/l.length<n.toNat
 ·rw[if_pos hsh] at e
  simp only[Prod.mk.injEq,Rd.mk.injEq] at e;obtain⟨rfl,rfl,rfl⟩:=e;obtain rfl:rs=rs':=(by rw[yL,hrs']);clear yL hrs'
  cases sh with
  | true =>
    (refine k06.ofI Tryz.func130 (by kernel_rfl) (by kernel_rfl) λw hw=>?_);(obtain⟨zA,zG,yT,zD,zF,zW,yR,zN,zQ,zP,yC,zZ,zV,zT,zK,zM,zO,yE,zS,yF⟩:=w);(have zC:=Z.w1 hw);(have zB:=Z.w2 hw);(have yM:=Z.w3 hw);(have zH:=Z.w4 hw);(have zI:=Z.w5 hw);(have yK:=Z.w6 hw);(have yU:=Z.w7 hw);(have zX:=Z.w8 hw);(have yB:=Z.w9 hw);(have yA:=Z.w10 hw);(have yQ:=Z.w11 hw);(have yP:=Z.w12 hw);(have zE:=Z.w13 hw);(have yO:=Z.w14 hw);(have zR:=Z.w15 hw);(have yD:=Z.w16 hw);(have yI:=Z.w17 hw);(have yW:=Z.w18 hw);(have yN:=Z.w19 hw);(have yX:=Z.w20 hw);(have hz:=Z.z hw);(conv=>arg 2;cbv);(generalize hP:Tryz.prog=P);cbv;exact⟨_,rfl⟩
  | false =>
    (refine k06.ofI Tryz.func130 (by kernel_rfl) (by kernel_rfl) λw hw=>?_);(obtain⟨zA,zG,yT,zD,zF,zW,yR,zN,zQ,zP,yC,zZ,zV,zT,zK,zM,zO,yE,zS,yF⟩:=w);(have zC:=Z.w1 hw);(have zB:=Z.w2 hw);(have yM:=Z.w3 hw);(have zH:=Z.w4 hw);(have zI:=Z.w5 hw);(have yK:=Z.w6 hw);(have yU:=Z.w7 hw);(have zX:=Z.w8 hw);(have yB:=Z.w9 hw);(have yA:=Z.w10 hw);(have yQ:=Z.w11 hw);(have yP:=Z.w12 hw);(have zE:=Z.w13 hw);(have yO:=Z.w14 hw);(have zR:=Z.w15 hw);(have yD:=Z.w16 hw);(have yI:=Z.w17 hw);(have yW:=Z.w18 hw);(have yN:=Z.w19 hw);(have yX:=Z.w20 hw);(have hz:=Z.z hw);(conv=>arg 2;cbv);(generalize hP:Tryz.prog=P);cbv;obtain⟨L,eL,L0,Ln⟩:=Z.l zE rs;have hlt:L<n:=(by rcases hsh with h|h;cases h;omega);have d1:=W.lt zB hlt;repeat' (first|(simp only[eL,d1];cbv)|fail)
    exact⟨_,rfl⟩
 rw[if_neg hsh] at e;simp only[Prod.mk.injEq,Rd.mk.injEq] at e;obtain⟨e1,rfl,rfl⟩:=e;have hsh0:sh=false:=by cases sh;rfl;exact absurd (.inl rfl) hsh
 subst hsh0
 have hnl:n.toNat<=l.length:=by
  rcases Nat.lt_or_ge l.length n.toNat with h|h
  ·exact absurd (.inr h) hsh
  ·exact h
 clear hsh;obtain⟨k,ek⟩:=Z.e (l.take n.toNat);obtain⟨ks,eks⟩:=Z.e (k.map k15);have huk:Up0 ks:=by rw[eks];exact k2R _
 have hkl:k.length=n.toNat:=by rw[ek,List.length_take];omega
 have hksl:ks.length=n.toNat:=by rw[eks,List.length_map,hkl]
 have hkb:k0H k:=λb hb'=>hb b (by rw[ek] at hb';exact List.mem_of_mem_take hb');have htk:rs.take n.toNat=ks:=by rw[yL,eks,ek,List.map_take]
 have hdr:rs.drop n.toNat=rs':=by rw[yL,hrs',List.map_drop]
 rw[<- ek] at e1;clear ek yL hrs' hb;(refine k06.ofI Tryz.func130 (by kernel_rfl) (by kernel_rfl) λw hw=>?_);(obtain⟨zA,zG,yT,zD,zF,zW,yR,zN,zQ,zP,yC,zZ,zV,zT,zK,zM,zO,yE,zS,yF⟩:=w);(have zC:=Z.w1 hw);(have zB:=Z.w2 hw);(have yM:=Z.w3 hw);(have zH:=Z.w4 hw);(have zI:=Z.w5 hw);(have yK:=Z.w6 hw);(have yU:=Z.w7 hw);(have zX:=Z.w8 hw);(have yB:=Z.w9 hw);(have yA:=Z.w10 hw);(have yQ:=Z.w11 hw);(have yP:=Z.w12 hw);(have zE:=Z.w13 hw);(have yO:=Z.w14 hw);(have zR:=Z.w15 hw);(have yD:=Z.w16 hw);(have yI:=Z.w17 hw);(have yW:=Z.w18 hw);(have yN:=Z.w19 hw);(have yX:=Z.w20 hw);(have hz:=Z.z hw);(conv=>arg 2;cbv);(generalize hP:Tryz.prog=P);cbv;obtain⟨L,eL,L0,Ln⟩:=Z.l zE rs;have d1:=W.nlt zB (show n<=L by omega);have t1:zM rs n=ks:=by rw[yD];exact htk
 have t2:zO rs n=rs':=by rw[yI];exact hdr
 have lk:zV ks=n:=by rw[zE];show (ks.length:Int)=n;omega
 repeat' (first|(simp only[eL,d1];cbv)|(refine Nn.mk hn.1 ?_)|(refine Le.mk Z.o ?_)|fail)
 simp only[t1,lk];clear d1 t1;refine k1Q.dataN hw (S:=Int×Int) (λs=>fr 56 [(0,.ref 0 2 0 0),(1,n),(5,.int .u64 s.2),(33,.list 1 ks),(34,n),(35,s.1)]) (λs=>[.live 2 [[.list 1 rs,.bool false]]]) (λs=>0<=s.1/\s.1<=n/\s.2=be (k.take s.1.toNat)) (λs=>(n-s.1).toNat) (0,0) (by(refine Z.n (id) ?_;cbv<;>exact Z.q)) ⟨Int.le_refl _,hn.1,rfl⟩ ?_
 rintro⟨i,a⟩ zJ Q' hN hE hR'
 have zJ:0<=i/\i<=n/\a=be (k.take i.toNat):=zJ;cbv;obtain⟨yJ,yZ,ha⟩:=zJ;by_cases yH:i<n
 ·obtain⟨b,hb⟩:∃b,k[i.toNat]?=some b:=⟨_,List.getElem?_eq_getElem (show i.toNat<k.length by omega)⟩
  have hbb:=hkb b (List.mem_of_getElem? hb);have zL:ks[i.toNat]?=some [.int .u8 b]:=(by rw[eks,List.getElem?_map,hb];rfl);have hain:=kSU i.toNat (k.take i.toNat) (by rw[List.length_take];omega) (λb hb=>hkb b (List.mem_of_mem_take hb));rw[<- ha] at hain;have hp:=kVP (n:=i.toNat) Z.o;have ha56:0<=a/\a<72057594037927936:=⟨hain.1,by omega⟩;obtain⟨a',ea'⟩:=Z.e (a*256+b);obtain⟨i',ei'⟩:=Z.e (i+1);have yS:a'=be (k.take i'.toNat):=(by rw[ei',kCS yJ hb,kOU,<- ha,ea']);have hT:(n-i').toNat<(n-i).toNat:=(by omega);clear hain hp ha hb;have f0:=W.lt zB yH;have u1:zD .u64 b=b:=by rw[zH];show IntKind.u64.wrap b=b;rw[IntKind.wrap_u64];omega
  have o1:zA .or .u64 (zA .shl .u64 a 8) b=a':=(by rw[zC,kUG ha56.1 ha56.2 hbb.1 Z.o,ea']);have i1:zA .add .i64 i 1=i':=(by rw[zC,k0S Z.o Z.o,ei']);repeat' (first|(simp only[f0,u1,o1,i1];cbv)|(refine Idx.mk [.int .u8 b] yJ zL ?_;cbv)|(refine Nn.mk Z.d ?_)|fail)
  refine hN (i',a') _ _ ?hx ?hi hT
  case hx=>(refine Z.n (id) ?_;cbv<;>exact Z.q)
  case hi=>exact⟨by simp only;omega,by simp only;omega,yS⟩
 ·have f0:=W.nlt zB (show n<=i by omega)
  have hall:k.take i.toNat=k:=List.take_of_length_le Z.o;rw[hall] at ha;have hain:=kSU n.toNat k hkl hkb;rw[<- ha] at hain e1
  have ha64:a<18446744073709551616:=by
   have:(256:Nat) ^ n.toNat<=256 ^ 8:=Nat.pow_le_pow_right Z.d Z.o;have e:((256 ^ n.toNat:Nat):Int)=256 ^ n.toNat:=(by rw[Int.natCast_pow];rfl);have e8:(256:Nat) ^ 8=18446744073709551616:=(by decide);omega
  have hw64:IntKind.i64.wrap a=v:=by
   rw[e1,IntKind.wrap_i64];unfold q29;split<;>omega
  clear hain ha e1 hall;have v1:zD .i64 a=v:=(by rw[zH];exact hw64);simp only[f0];refine hE _ _ _ ?_;cbv;refine Nn.mk hn.1 ?_;refine Le.mk Z.o ?_;simp only[t2,v1];exact⟨by first|rfl|trivial,_,rfl⟩
def rdC(n most:Int)(q:Rd):Int×Rd:=if most<(rdN n q).1 then (0,⟨(rdN n q).2.b,true⟩) else rdN n q
structure k4A(q:Rd):Prop where
 b:k0H q.b
 l:q.b.length<=1000000000
theorem k4A.num{q:Rd}(h:k4A q)(n:Int):k4A (rdN n q).2:=by
 unfold rdN;split
 ·exact⟨h.b,h.l⟩
 ·exact⟨λb hb=>h.b b (List.mem_of_mem_drop hb),by simp only[List.length_drop];have:=h.l;omega⟩
theorem k4A.count{q:Rd}(h:k4A q)(n m:Int):k4A (rdC n m q).2:=by
 unfold rdC;split
 ·exact⟨(h.num n).b,(h.num n).l⟩
 ·exact h.num n
theorem k0E{l:List (List AV)}(h:Up0 l)(s:Bool):Up0 [[AV.list 1 l,AV.bool s]]:=⟨by simp only[k18,k0Q,AV.upto,h.get];rfl⟩
theorem k5R(n:Int)(hn:0<=n/\n<=8)(q:Rd)(hq:k4A q):k06 Tryz.prog 130 [.ref 0 2 0 0,n] [.live 2 [[.list 1 (q.b.map k15),q.sh]]] (λr h=>r=jz (rdN n q).1/\∃j,h = .live 2 [[.list 1 ((rdN n q).2.b.map k15),.bool (rdN n q).2.sh]]::j):=
 kTR n hn q hq.b hq.l _ rfl _ _ rfl _ rfl
theorem kA6(n m:Int)(hn:0<=n/\n<=8)(q:Rd)(hq:k4A q)(rs:List (List AV))(yL:rs=q.b.map k15)(v:Int)(q':Rd)(e:(v,q')=rdC n m q)(rs':List (List AV))(hrs':rs'=q'.b.map k15) :
 k06 Tryz.prog 76 [.ref 0 2 0 0,n,m] [.live 2 [[.list 1 rs,q.sh]]] (λr h=>r=jz v/\∃j,h = .live 2 [[.list 1 rs',.bool q'.sh]]::j):=by
 have hu:Up0 rs:=by rw[yL];exact k2R _
 have hu':Up0 rs':=by rw[hrs'];exact k2R _
 obtain⟨⟨x,⟨l2,s2⟩⟩,ex⟩:=Z.e (rdN n q);obtain⟨rs2,ers2⟩:=Z.e (l2.map k15);have hu2:Up0 rs2:=by rw[ers2];exact k2R _
 have q1:=kTR n hn q hq.b hq.l rs yL x ⟨l2,s2⟩ ex rs2 ers2;unfold rdC at e;rw[<- ex] at e;obtain⟨l,sh⟩:=q;obtain⟨l',sh'⟩:=q';simp only at q1 e hrs';clear ex hq yL;by_cases hm:m<x
 ·rw[if_pos hm] at e
  simp only[Prod.mk.injEq,Rd.mk.injEq] at e;obtain⟨rfl,rfl,rfl⟩:=e;obtain rfl:rs2=rs':=(by rw[ers2,hrs']);clear ers2 hrs';refine Z.x Tryz.func76 λ_ _ _ _ _ _ _ _ zB _ _ _ _ hz P hP=>?_;cbv;refine Call.of (k06.one (s:=0) (by rw[<- hP];exact q1) (k0E hu _) rfl rfl rfl ?_);rintro r hD ⟨rfl,j,rfl⟩;refine⟨rfl,_,_,rfl,k0E hu2 _,?_⟩;cbv;have d1:=W.gt zB hm;repeat' (first|(simp only[d1];cbv)|fail)
  exact⟨_,rfl⟩
 ·rw[if_neg hm] at e
  simp only[Prod.mk.injEq,Rd.mk.injEq] at e;obtain⟨rfl,rfl,rfl⟩:=e;obtain rfl:rs2=rs':=(by rw[ers2,hrs']);clear ers2 hrs';refine Z.x Tryz.func76 λ_ _ _ _ _ _ _ _ zB _ _ _ _ _ P hP=>?_;cbv;refine Call.of (k06.one (s:=0) (by rw[<- hP];exact q1) (k0E hu _) rfl rfl rfl ?_);rintro r hD ⟨rfl,j,rfl⟩;refine⟨rfl,_,_,rfl,k0E hu2 _,?_⟩;cbv;have d1:=W.ngt zB (show v<=m by omega);repeat' (first|(simp only[d1];cbv)|fail)
  exact⟨_,rfl⟩
def k0D{D:Type}(st:Rd->D×Rd):Nat->Rd->List D×Rd
 | 0,q=>([],q)
 | n+1,q=>((k0D st n q).1++[(st (k0D st n q).2).1],(st (k0D st n q).2).2)
theorem k2G{D:Type}(st:Rd->D×Rd):∀(n:Nat) (q:Rd),(k0D st n q).1.length=n
 | 0,q=>rfl
 | n+1,q=>by simp[k0D,k2G st n q]
theorem k3W{D:Type}{st:Rd->D×Rd}(hst:∀q,k4A q->k4A (st q).2):∀(n:Nat) (q:Rd),k4A q->k4A (k0D st n q).2
 | 0,q,h=>h
 | n+1,q,h=>hst _ (k3W hst n q h)
def MOu{D:Type}(row:D->List AV)(l:List D):Option (List (List AV)×Nat)->Prop
 | none=>l=[]
 | some (u,m)=>l≠[]/\u=l.map row/\m=l.length/\Up0 u
theorem kX5(k:Int)(hk:0<=k/\k<=1000)(F:Nat)(st:Rd->(Int×Int)×Rd)(hst:∀q,k4A q->k4A (st q).2)(hF:∀q,k4A q->k06 Tryz.prog F [.ref 0 2 0 0] [.live 2 [[.list 1 (q.b.map k15),q.sh]]] (λr h=>r=(λd=>.agg (k1E d)) (st q).1/\∃j,h = .live 2 [[.list 1 ((st q).2.b.map k15),.bool (st q).2.sh]]::j))
 (q:Rd) (hq:k4A q) (rs:List (List AV)) (yL:rs=q.b.map k15) (us rs':List (List AV)) (sh':Bool) (hus:us=(k0D st k.toNat q).1.map k1E) (hrs':rs'=(k0D st k.toNat q).2.b.map k15) (hsh':sh'=(k0D st k.toNat q).2.sh) :
 k06 Tryz.prog 131 [k,.func (.func F) [.ref 0 2 0 0] []] [.live 2 [[.list 1 rs,q.sh]]] (λr h=>r = .list 2 us/\h=[.live 2 [[.list 1 rs',sh']]]):=by
 refine k06.give ?_;have zL:∀d:(Int×Int),k0Q 0 (k1E d)=true:=λd=>rfl;have huu:Up0 us:=by rw[hus];exact k1D (f:=k1E) zL _
 have hu:Up0 rs:=by rw[yL];exact k2R _
 have hu':Up0 rs':=by rw[hrs'];exact k2R _
 obtain⟨shq,eshq⟩:=Z.e q.sh;rw[<- eshq];refine Z.x Tryz.func131 λzA _ _ _ _ _ hw zC zB _ _ _ _ hz P hP=>?_;cbv
 refine k1Q.dataN hw (S:=Int×List (List AV)×Bool×Option (List (List AV)×Nat)) (λs=>fr 16 [(0,k),(1,.func (.func F) [.ref 0 2 0 0] []),(5,match s.2.2.2 with|none=>.nils|some (_,m)=>.sl 1 2 0 m),(6,k),(7,s.1)])
  (λs=>match s.2.2.2 with|none=>[.live 2 [[.list 1 s.2.1,s.2.2.1]]]|some (u,_)=>[.live 2 [[.list 1 s.2.1,s.2.2.1]],.live 2 u])
  (λs=>0<=s.1/\s.1<=k/\s.2.1=(k0D st s.1.toNat q).2.b.map k15/\s.2.2.1=(k0D st s.1.toNat q).2.sh/\Up0 s.2.1/\MOu k1E (k0D st s.1.toNat q).1 s.2.2.2) (λs=>(k-s.1).toNat) (0,rs,shq,none) (by(refine Z.n (id) ?_;cbv<;>exact Z.q))
  ⟨Int.le_refl _,hk.1,yL,eshq,hu,rfl⟩ ?_
 rintro⟨i,w,s,ou⟩ zJ Q' hN hE hR'
 have zJ:0<=i/\i<=k/\w=(k0D st i.toNat q).2.b.map k15/\s=(k0D st i.toNat q).2.sh/\Up0 w/\MOu k1E (k0D st i.toNat q).1 ou:=zJ;obtain⟨yJ,yZ,hw1,hs1,huw,yY⟩:=zJ;have hml:=k2G st i.toNat q;by_cases yH:i<k
 ·obtain⟨i2,ei2⟩:=Z.e (i+1)
  have hT:(k-i2).toNat<(k-i).toNat:=(by omega);have yS:k0D st i2.toNat q=((k0D st i.toNat q).1++[(st (k0D st i.toNat q).2).1],(st (k0D st i.toNat q).2).2):=(by rw[show i2.toNat=i.toNat+1 by omega];rfl);have hcall:=hF _ (k3W hst i.toNat q hq);rw[<- hw1,<- hs1] at hcall;obtain⟨⟨d,q2⟩,ed⟩:=Z.e (st (k0D st i.toNat q).2);rw[<- ed] at hcall yS;obtain⟨w2,ew2⟩:=Z.e (q2.b.map k15);obtain⟨s2,es2⟩:=Z.e q2.sh;have huw2:Up0 w2:=(by rw[ew2];exact k2R _);have hm1:(k0D st i2.toNat q).1=(k0D st i.toNat q).1++[d]:=(by rw[yS]);have hm2:(k0D st i2.toNat q).2=q2:=(by rw[yS]);have hcall:k06 Tryz.prog F [.ref 0 2 0 0] [.live 2 [[.list 1 w,s]]] (λr h=>r = .agg (k1E d)/\∃j,h = .live 2 [[.list 1 w2,.bool s2]]::j):=(by rw[ew2,es2];exact hcall);obtain⟨u2,eu2⟩:∃z,z=(k0D st i2.toNat q).1.map k1E:=⟨_,rfl⟩;have huu2:Up0 u2:=(by rw[eu2];exact k1D (f:=k1E) zL _);obtain⟨m2,em2⟩:=Z.e i2.toNat;have hou2:MOu k1E (k0D st i2.toNat q).1 (some (u2,m2)):=⟨by rw[hm1];simp,eu2,by rw[k2G,em2],huu2⟩;have hw3:w2=(k0D st i2.toNat q).2.b.map k15:=(by rw[hm2,ew2]);have hs3:s2=(k0D st i2.toNat q).2.sh:=(by rw[hm2,es2]);have hu2d:u2=(k0D st i.toNat q).1.map k1E++[k1E d]:=(by rw[eu2,hm1,List.map_append];rfl);clear yS ed hm1 hm2 ew2 es2 hw1 hs1;obtain⟨d1,d2⟩:=d;have hcall:k06 Tryz.prog F [.ref 0 2 0 0] [.live 2 [[.list 1 w,s]]] (λr h=>r = .agg [d1,d2]/\∃j,h = .live 2 [[.list 1 w2,.bool s2]]::j):=(by exact hcall);have hu2d:u2=(k0D st i.toNat q).1.map k1E++[[jz d1,jz d2]]:=(by exact hu2d);have ck:=W.lt zB yH;have a4:zA .add .i64 i 1=i2:=(by rw[zC,k0S Z.o Z.o,ei2]);have hm2':m2=i.toNat+1:=by omega
  cases ou with
  | none =>
    have yY:(k0D st i.toNat q).1=[]:=yY;rw[yY] at hml hu2d;have hm21:m2=1:=(by simp at hml;omega);have hu21:u2=[[jz d1,jz d2]]:=hu2d;clear hml hu2d;cbv;simp only[ck];cbv;refine Call.of (k06.one (s:=0) (by rw[<- hP];exact hcall) (k0E huw _) rfl rfl rfl ?_);rintro r hD ⟨rfl,j,rfl⟩;refine⟨rfl,_,_,rfl,k0E huw2 _,?_⟩;cbv;refine Ob.mk Z.d ?_;cbv;simp only[a4];refine hN (i2,w2,s2,some ([[jz d1,jz d2]],1)) _ _ ?hx ?hi hT
    case hx=>(refine Z.n (id) ?_;cbv<;>exact Z.q)
    case hi=>exact⟨by simp only;omega,by simp only;omega,hw3,hs3,huw2,by simp only;rw[<- hu21,<- hm21];exact hou2⟩
  | some p =>
    obtain⟨u,m⟩:=p;have yY:(k0D st i.toNat q).1≠[]/\u=(k0D st i.toNat q).1.map k1E/\m=(k0D st i.toNat q).1.length/\Up0 u:=yY;obtain⟨hne,hu1,hm1,huu1⟩:=yY;have hul:m=u.length:=(by rw[hu1,hm1];simp);have hm21:m2=m+1:=(by omega);have hmk:m<=1000:=(by omega);have hu21:u2=u++[[jz d1,jz d2]]:=(by rw[hu1];exact hu2d);clear hml hu2d hne hu1 hm1;cbv;simp only[ck];cbv;refine Call.of (k06.one (s:=0) (by rw[<- hP];exact hcall) (k0E huw _) rfl rfl rfl ?_);rintro r hD ⟨rfl,j,rfl⟩;refine⟨rfl,_,_,rfl,k0E huw2 _,?_⟩;cbv;refine App.mk u2 m2 hu21 hul hm21 Z.o Z.o ?_;cbv;simp only[a4];refine hN (i2,w2,s2,some (u2,m2)) _ _ ?hx ?hi hT
    case hx=>(refine Z.n (λj=>[0,2].getD j 0) ?_;cbv<;>exact Z.q)
    case hi=>exact⟨by simp only;omega,by simp only;omega,hw3,hs3,huw2,hou2⟩
 ·have ck:=W.nlt zB (show k<=i by omega)
  obtain rfl:i=k:=(by omega);obtain rfl:w=rs':=(by rw[hw1,hrs']);obtain rfl:s=sh':=(by rw[hs1,hsh']);clear hw1 hs1 hrs' hsh' hF
  cases ou with
  | none =>
    have yY:(k0D st i.toNat q).1=[]:=yY;have hus0:us=[]:=(by rw[hus,yY];rfl);clear hus yY hml;cbv;simp only[ck];refine hE _ _ _ ?_;cbv;refine WkB.mk ?_;(refine Z.n (id) ?_;cbv<;>exact Z.q)
  | some p =>
    obtain⟨u,m⟩:=p;have yY:(k0D st i.toNat q).1≠[]/\u=(k0D st i.toNat q).1.map k1E/\m=(k0D st i.toNat q).1.length/\Up0 u:=yY;obtain⟨hne,hu1,hm1,huu1⟩:=yY;obtain rfl:u=us:=(by rw[hu1,hus]);have hul:m=u.length:=(by rw[hu1,hm1];simp);clear hus hml hne hu1 hm1;cbv;simp only[ck];refine hE _ _ _ ?_;cbv;refine WkB.mk ?_;(refine Z.n (id) ?_;cbv<;>exact Z.q)
theorem kX6(k:Int)(hk:0<=k/\k<=1000)(F:Nat)(st:Rd->Int×Rd)(hst:∀q,k4A q->k4A (st q).2)(hF:∀q,k4A q->k06 Tryz.prog F [.ref 0 2 0 0] [.live 2 [[.list 1 (q.b.map k15),q.sh]]] (λr h=>r=(λd=>jz d) (st q).1/\∃j,h = .live 2 [[.list 1 ((st q).2.b.map k15),.bool (st q).2.sh]]::j))
 (q:Rd) (hq:k4A q) (rs:List (List AV)) (yL:rs=q.b.map k15) (us rs':List (List AV)) (sh':Bool) (hus:us=(k0D st k.toNat q).1.map k0K) (hrs':rs'=(k0D st k.toNat q).2.b.map k15) (hsh':sh'=(k0D st k.toNat q).2.sh) :
 k06 Tryz.prog 133 [k,.func (.func F) [.ref 0 2 0 0] []] [.live 2 [[.list 1 rs,q.sh]]] (λr h=>r = .list 1 us/\h=[.live 2 [[.list 1 rs',sh']]]):=by
 refine k06.give ?_;have zL:∀d:Int,k0Q 0 (k0K d)=true:=λd=>rfl;have huu:Up0 us:=by rw[hus];exact k1D (f:=k0K) zL _
 have hu:Up0 rs:=by rw[yL];exact k2R _
 have hu':Up0 rs':=by rw[hrs'];exact k2R _
 obtain⟨shq,eshq⟩:=Z.e q.sh;rw[<- eshq];refine Z.x Tryz.func133 λzA _ _ _ _ _ hw zC zB _ _ _ _ hz P hP=>?_;cbv
 refine k1Q.dataN hw (S:=Int×List (List AV)×Bool×Option (List (List AV)×Nat)) (λs=>fr 16 [(0,k),(1,.func (.func F) [.ref 0 2 0 0] []),(5,match s.2.2.2 with|none=>.nils|some (_,m)=>.sl 1 1 0 m),(6,k),(7,s.1)])
  (λs=>match s.2.2.2 with|none=>[.live 2 [[.list 1 s.2.1,s.2.2.1]]]|some (u,_)=>[.live 2 [[.list 1 s.2.1,s.2.2.1]],.live 1 u])
  (λs=>0<=s.1/\s.1<=k/\s.2.1=(k0D st s.1.toNat q).2.b.map k15/\s.2.2.1=(k0D st s.1.toNat q).2.sh/\Up0 s.2.1/\MOu k0K (k0D st s.1.toNat q).1 s.2.2.2) (λs=>(k-s.1).toNat) (0,rs,shq,none) (by(refine Z.n (id) ?_;cbv<;>exact Z.q))
  ⟨Int.le_refl _,hk.1,yL,eshq,hu,rfl⟩ ?_
 rintro⟨i,w,s,ou⟩ zJ Q' hN hE hR'
 have zJ:0<=i/\i<=k/\w=(k0D st i.toNat q).2.b.map k15/\s=(k0D st i.toNat q).2.sh/\Up0 w/\MOu k0K (k0D st i.toNat q).1 ou:=zJ;obtain⟨yJ,yZ,hw1,hs1,huw,yY⟩:=zJ;have hml:=k2G st i.toNat q;by_cases yH:i<k
 ·obtain⟨i2,ei2⟩:=Z.e (i+1)
  have hT:(k-i2).toNat<(k-i).toNat:=(by omega);have yS:k0D st i2.toNat q=((k0D st i.toNat q).1++[(st (k0D st i.toNat q).2).1],(st (k0D st i.toNat q).2).2):=(by rw[show i2.toNat=i.toNat+1 by omega];rfl);have hcall:=hF _ (k3W hst i.toNat q hq);rw[<- hw1,<- hs1] at hcall;obtain⟨⟨d,q2⟩,ed⟩:=Z.e (st (k0D st i.toNat q).2);rw[<- ed] at hcall yS;obtain⟨w2,ew2⟩:=Z.e (q2.b.map k15);obtain⟨s2,es2⟩:=Z.e q2.sh;have huw2:Up0 w2:=(by rw[ew2];exact k2R _);have hm1:(k0D st i2.toNat q).1=(k0D st i.toNat q).1++[d]:=(by rw[yS]);have hm2:(k0D st i2.toNat q).2=q2:=(by rw[yS]);have hcall:k06 Tryz.prog F [.ref 0 2 0 0] [.live 2 [[.list 1 w,s]]] (λr h=>r=jz d/\∃j,h = .live 2 [[.list 1 w2,.bool s2]]::j):=(by rw[ew2,es2];exact hcall);obtain⟨u2,eu2⟩:∃z,z=(k0D st i2.toNat q).1.map k0K:=⟨_,rfl⟩;have huu2:Up0 u2:=(by rw[eu2];exact k1D (f:=k0K) zL _);obtain⟨m2,em2⟩:=Z.e i2.toNat;have hou2:MOu k0K (k0D st i2.toNat q).1 (some (u2,m2)):=⟨by rw[hm1];simp,eu2,by rw[k2G,em2],huu2⟩;have hw3:w2=(k0D st i2.toNat q).2.b.map k15:=(by rw[hm2,ew2]);have hs3:s2=(k0D st i2.toNat q).2.sh:=(by rw[hm2,es2]);have hu2d:u2=(k0D st i.toNat q).1.map k0K++[k0K d]:=(by rw[eu2,hm1,List.map_append];rfl);clear yS ed hm1 hm2 ew2 es2 hw1 hs1;have hcall:k06 Tryz.prog F [.ref 0 2 0 0] [.live 2 [[.list 1 w,s]]] (λr h=>r=jz d/\∃j,h = .live 2 [[.list 1 w2,.bool s2]]::j):=(by exact hcall);have hu2d:u2=(k0D st i.toNat q).1.map k0K++[[jz d]]:=(by exact hu2d);have ck:=W.lt zB yH;have a4:zA .add .i64 i 1=i2:=(by rw[zC,k0S Z.o Z.o,ei2]);have hm2':m2=i.toNat+1:=by omega
  cases ou with
  | none =>
    have yY:(k0D st i.toNat q).1=[]:=yY;rw[yY] at hml hu2d;have hm21:m2=1:=(by simp at hml;omega);have hu21:u2=[[jz d]]:=hu2d;clear hml hu2d;cbv;simp only[ck];cbv;refine Call.of (k06.one (s:=0) (by rw[<- hP];exact hcall) (k0E huw _) rfl rfl rfl ?_);rintro r hD ⟨rfl,j,rfl⟩;refine⟨rfl,_,_,rfl,k0E huw2 _,?_⟩;cbv;refine Ob.mk Z.d ?_;cbv;simp only[a4];refine hN (i2,w2,s2,some ([[jz d]],1)) _ _ ?hx ?hi hT
    case hx=>(refine Z.n (id) ?_;cbv<;>exact Z.q)
    case hi=>exact⟨by simp only;omega,by simp only;omega,hw3,hs3,huw2,by simp only;rw[<- hu21,<- hm21];exact hou2⟩
  | some p =>
    obtain⟨u,m⟩:=p;have yY:(k0D st i.toNat q).1≠[]/\u=(k0D st i.toNat q).1.map k0K/\m=(k0D st i.toNat q).1.length/\Up0 u:=yY;obtain⟨hne,hu1,hm1,huu1⟩:=yY;have hul:m=u.length:=(by rw[hu1,hm1];simp);have hm21:m2=m+1:=(by omega);have hmk:m<=1000:=(by omega);have hu21:u2=u++[[jz d]]:=(by rw[hu1];exact hu2d);clear hml hu2d hne hu1 hm1;cbv;simp only[ck];cbv;refine Call.of (k06.one (s:=0) (by rw[<- hP];exact hcall) (k0E huw _) rfl rfl rfl ?_);rintro r hD ⟨rfl,j,rfl⟩;refine⟨rfl,_,_,rfl,k0E huw2 _,?_⟩;cbv;refine App.mk u2 m2 hu21 hul hm21 Z.o Z.o ?_;cbv;simp only[a4];refine hN (i2,w2,s2,some (u2,m2)) _ _ ?hx ?hi hT
    case hx=>(refine Z.n (λj=>[0,2].getD j 0) ?_;cbv<;>exact Z.q)
    case hi=>exact⟨by simp only;omega,by simp only;omega,hw3,hs3,huw2,hou2⟩
 ·have ck:=W.nlt zB (show k<=i by omega)
  obtain rfl:i=k:=(by omega);obtain rfl:w=rs':=(by rw[hw1,hrs']);obtain rfl:s=sh':=(by rw[hs1,hsh']);clear hw1 hs1 hrs' hsh' hF
  cases ou with
  | none =>
    have yY:(k0D st i.toNat q).1=[]:=yY;have hus0:us=[]:=(by rw[hus,yY];rfl);clear hus yY hml;cbv;simp only[ck];refine hE _ _ _ ?_;cbv;refine WkB.mk ?_;(refine Z.n (id) ?_;cbv<;>exact Z.q)
  | some p =>
    obtain⟨u,m⟩:=p;have yY:(k0D st i.toNat q).1≠[]/\u=(k0D st i.toNat q).1.map k0K/\m=(k0D st i.toNat q).1.length/\Up0 u:=yY;obtain⟨hne,hu1,hm1,huu1⟩:=yY;obtain rfl:u=us:=(by rw[hu1,hus]);have hul:m=u.length:=(by rw[hu1,hm1];simp);clear hus hml hne hu1 hm1;cbv;simp only[ck];refine hE _ _ _ ?_;cbv;refine WkB.mk ?_;(refine Z.n (id) ?_;cbv<;>exact Z.q)
theorem kX4(k:Int)(hk:0<=k/\k<=1000)(F:Nat)(st:Rd->Sg×Rd)(hst:∀q,k4A q->k4A (st q).2)(hF:∀q,k4A q->k06 Tryz.prog F [.ref 0 2 0 0] [.live 2 [[.list 1 (q.b.map k15),q.sh]]] (λr h=>r=(λd=>.agg (k0Y d)) (st q).1/\∃j,h = .live 2 [[.list 1 ((st q).2.b.map k15),.bool (st q).2.sh]]::j))
 (q:Rd) (hq:k4A q) (rs:List (List AV)) (yL:rs=q.b.map k15) (us rs':List (List AV)) (sh':Bool) (hus:us=(k0D st k.toNat q).1.map k0Y) (hrs':rs'=(k0D st k.toNat q).2.b.map k15) (hsh':sh'=(k0D st k.toNat q).2.sh) :
 k06 Tryz.prog 75 [k,.func (.func F) [.ref 0 2 0 0] []] [.live 2 [[.list 1 rs,q.sh]]] (λr h=>r = .list 3 us/\h=[.live 2 [[.list 1 rs',sh']]]):=by
 refine k06.give ?_;have zL:∀d:Sg,k0Q 0 (k0Y d)=true:=λd=>by simp only[k0Y,k0Q,AV.upto,(k7F d.ps).get,(k3K d.nx).get];rfl
 have huu:Up0 us:=by rw[hus];exact k1D (f:=k0Y) zL _
 have hu:Up0 rs:=by rw[yL];exact k2R _
 have hu':Up0 rs':=by rw[hrs'];exact k2R _
 obtain⟨shq,eshq⟩:=Z.e q.sh;rw[<- eshq];refine Z.x Tryz.func75 λzA _ _ _ _ _ hw zC zB _ _ _ _ hz P hP=>?_;cbv
 refine k1Q.dataN hw (S:=Int×List (List AV)×Bool×Option (List (List AV)×Nat)) (λs=>fr 16 [(0,k),(1,.func (.func F) [.ref 0 2 0 0] []),(5,match s.2.2.2 with|none=>.nils|some (_,m)=>.sl 1 3 0 m),(6,k),(7,s.1)])
  (λs=>match s.2.2.2 with|none=>[.live 2 [[.list 1 s.2.1,s.2.2.1]]]|some (u,_)=>[.live 2 [[.list 1 s.2.1,s.2.2.1]],.live 3 u])
  (λs=>0<=s.1/\s.1<=k/\s.2.1=(k0D st s.1.toNat q).2.b.map k15/\s.2.2.1=(k0D st s.1.toNat q).2.sh/\Up0 s.2.1/\MOu k0Y (k0D st s.1.toNat q).1 s.2.2.2) (λs=>(k-s.1).toNat) (0,rs,shq,none) (by(refine Z.n (id) ?_;cbv<;>exact Z.q))
  ⟨Int.le_refl _,hk.1,yL,eshq,hu,rfl⟩ ?_
 rintro⟨i,w,s,ou⟩ zJ Q' hN hE hR'
 have zJ:0<=i/\i<=k/\w=(k0D st i.toNat q).2.b.map k15/\s=(k0D st i.toNat q).2.sh/\Up0 w/\MOu k0Y (k0D st i.toNat q).1 ou:=zJ;obtain⟨yJ,yZ,hw1,hs1,huw,yY⟩:=zJ;have hml:=k2G st i.toNat q;by_cases yH:i<k
 ·obtain⟨i2,ei2⟩:=Z.e (i+1)
  have hT:(k-i2).toNat<(k-i).toNat:=(by omega);have yS:k0D st i2.toNat q=((k0D st i.toNat q).1++[(st (k0D st i.toNat q).2).1],(st (k0D st i.toNat q).2).2):=(by rw[show i2.toNat=i.toNat+1 by omega];rfl);have hcall:=hF _ (k3W hst i.toNat q hq);rw[<- hw1,<- hs1] at hcall;obtain⟨⟨d,q2⟩,ed⟩:=Z.e (st (k0D st i.toNat q).2);rw[<- ed] at hcall yS;obtain⟨w2,ew2⟩:=Z.e (q2.b.map k15);obtain⟨s2,es2⟩:=Z.e q2.sh;have huw2:Up0 w2:=(by rw[ew2];exact k2R _);have hm1:(k0D st i2.toNat q).1=(k0D st i.toNat q).1++[d]:=(by rw[yS]);have hm2:(k0D st i2.toNat q).2=q2:=(by rw[yS]);have hcall:k06 Tryz.prog F [.ref 0 2 0 0] [.live 2 [[.list 1 w,s]]] (λr h=>r = .agg (k0Y d)/\∃j,h = .live 2 [[.list 1 w2,.bool s2]]::j):=(by rw[ew2,es2];exact hcall);obtain⟨u2,eu2⟩:∃z,z=(k0D st i2.toNat q).1.map k0Y:=⟨_,rfl⟩;have huu2:Up0 u2:=(by rw[eu2];exact k1D (f:=k0Y) zL _);obtain⟨m2,em2⟩:=Z.e i2.toNat;have hou2:MOu k0Y (k0D st i2.toNat q).1 (some (u2,m2)):=⟨by rw[hm1];simp,eu2,by rw[k2G,em2],huu2⟩;have hw3:w2=(k0D st i2.toNat q).2.b.map k15:=(by rw[hm2,ew2]);have hs3:s2=(k0D st i2.toNat q).2.sh:=(by rw[hm2,es2]);have hu2d:u2=(k0D st i.toNat q).1.map k0Y++[k0Y d]:=(by rw[eu2,hm1,List.map_append];rfl);clear yS ed hm1 hm2 ew2 es2 hw1 hs1;obtain⟨d1,dp,dn⟩:=d;obtain⟨ps,eps⟩:=Z.e (dp.map k1E);obtain⟨ns,ens⟩:=Z.e (dn.map k0K);have hups:Up0 ps:=(by rw[eps];exact k7F _);have huns:Up0 ns:=(by rw[ens];exact k3K _);have edrow:k0Y ⟨d1,dp,dn⟩=[jz d1,.list 2 ps,.list 1 ns]:=(by rw[eps,ens];rfl);have hcall:k06 Tryz.prog F [.ref 0 2 0 0] [.live 2 [[.list 1 w,s]]] (λr h=>r = .agg [d1,.list 2 ps,.list 1 ns]/\∃j,h = .live 2 [[.list 1 w2,.bool s2]]::j):=(by rw[<- edrow];exact hcall);have hu2d:u2=(k0D st i.toNat q).1.map k0Y++[[jz d1,.list 2 ps,.list 1 ns]]:=(by rw[hu2d,edrow]);have ck:=W.lt zB yH;have a4:zA .add .i64 i 1=i2:=(by rw[zC,k0S Z.o Z.o,ei2]);have hm2':m2=i.toNat+1:=by omega
  cases ou with
  | none =>
    have yY:(k0D st i.toNat q).1=[]:=yY;rw[yY] at hml hu2d;have hm21:m2=1:=(by simp at hml;omega);have hu21:u2=[[jz d1,.list 2 ps,.list 1 ns]]:=hu2d;clear hml hu2d;cbv;simp only[ck];cbv;refine Call.of (k06.one (s:=0) (by rw[<- hP];exact hcall) (k0E huw _) rfl rfl rfl ?_);rintro r hD ⟨rfl,j,rfl⟩;refine⟨(ua (uc rfl (uc (ul hups) (uc (ul huns) rfl)))),_,_,rfl,k0E huw2 _,?_⟩;cbv;refine Ob.mk Z.d ?_;cbv;simp only[a4];refine hN (i2,w2,s2,some ([[jz d1,.list 2 ps,.list 1 ns]],1)) _ _ ?hx ?hi hT
    case hx=>(refine Z.n (id) ?_;cbv<;>exact Z.q)
    case hi=>exact⟨by simp only;omega,by simp only;omega,hw3,hs3,huw2,by simp only;rw[<- hu21,<- hm21];exact hou2⟩
  | some p =>
    obtain⟨u,m⟩:=p;have yY:(k0D st i.toNat q).1≠[]/\u=(k0D st i.toNat q).1.map k0Y/\m=(k0D st i.toNat q).1.length/\Up0 u:=yY;obtain⟨hne,hu1,hm1,huu1⟩:=yY;have hul:m=u.length:=(by rw[hu1,hm1];simp);have hm21:m2=m+1:=(by omega);have hmk:m<=1000:=(by omega);have hu21:u2=u++[[jz d1,.list 2 ps,.list 1 ns]]:=(by rw[hu1];exact hu2d);clear hml hu2d hne hu1 hm1;cbv;simp only[ck];cbv;refine Call.of (k06.one (s:=0) (by rw[<- hP];exact hcall) (k0E huw _) rfl rfl rfl ?_);rintro r hD ⟨rfl,j,rfl⟩;refine⟨(ua (uc rfl (uc (ul hups) (uc (ul huns) rfl)))),_,_,rfl,k0E huw2 _,?_⟩;cbv;refine App.mk u2 m2 hu21 hul hm21 Z.o Z.o ?_;cbv;simp only[a4];refine hN (i2,w2,s2,some (u2,m2)) _ _ ?hx ?hi hT
    case hx=>(refine Z.n (λj=>[0,2].getD j 0) ?_;cbv<;>exact Z.q)
    case hi=>exact⟨by simp only;omega,by simp only;omega,hw3,hs3,huw2,hou2⟩
 ·have ck:=W.nlt zB (show k<=i by omega)
  obtain rfl:i=k:=(by omega);obtain rfl:w=rs':=(by rw[hw1,hrs']);obtain rfl:s=sh':=(by rw[hs1,hsh']);clear hw1 hs1 hrs' hsh' hF
  cases ou with
  | none =>
    have yY:(k0D st i.toNat q).1=[]:=yY;have hus0:us=[]:=(by rw[hus,yY];rfl);clear hus yY hml;cbv;simp only[ck];refine hE _ _ _ ?_;cbv;refine WkB.mk ?_;(refine Z.n (id) ?_;cbv<;>exact Z.q)
  | some p =>
    obtain⟨u,m⟩:=p;have yY:(k0D st i.toNat q).1≠[]/\u=(k0D st i.toNat q).1.map k0Y/\m=(k0D st i.toNat q).1.length/\Up0 u:=yY;obtain⟨hne,hu1,hm1,huu1⟩:=yY;obtain rfl:u=us:=(by rw[hu1,hus]);have hul:m=u.length:=(by rw[hu1,hm1];simp);clear hus hml hne hu1 hm1;cbv;simp only[ck];refine hE _ _ _ ?_;cbv;refine WkB.mk ?_;(refine Z.n (id) ?_;cbv<;>exact Z.q)
theorem kX7(k:Int)(hk:0<=k/\k<=1000)(F:Nat)(st:Rd->Gr×Rd)(hst:∀q,k4A q->k4A (st q).2)(hF:∀q,k4A q->k06 Tryz.prog F [.ref 0 2 0 0] [.live 2 [[.list 1 (q.b.map k15),q.sh]]] (λr h=>r=(λd=>.agg (k14 d)) (st q).1/\∃j,h = .live 2 [[.list 1 ((st q).2.b.map k15),.bool (st q).2.sh]]::j))
 (q:Rd) (hq:k4A q) (rs:List (List AV)) (yL:rs=q.b.map k15) (us rs':List (List AV)) (sh':Bool) (hus:us=(k0D st k.toNat q).1.map k14) (hrs':rs'=(k0D st k.toNat q).2.b.map k15) (hsh':sh'=(k0D st k.toNat q).2.sh) :
 k06 Tryz.prog 78 [k,.func (.func F) [.ref 0 2 0 0] []] [.live 2 [[.list 1 rs,q.sh]]] (λr h=>r = .list 5 us/\h=[.live 2 [[.list 1 rs',sh']]]):=by
 refine k06.give ?_;have zL:∀d:Gr,k0Q 0 (k14 d)=true:=λd=>rfl;have huu:Up0 us:=by rw[hus];exact k1D (f:=k14) zL _
 have hu:Up0 rs:=by rw[yL];exact k2R _
 have hu':Up0 rs':=by rw[hrs'];exact k2R _
 obtain⟨shq,eshq⟩:=Z.e q.sh;rw[<- eshq];refine Z.x Tryz.func78 λzA _ _ _ _ _ hw zC zB _ _ _ _ hz P hP=>?_;cbv
 refine k1Q.dataN hw (S:=Int×List (List AV)×Bool×Option (List (List AV)×Nat)) (λs=>fr 16 [(0,k),(1,.func (.func F) [.ref 0 2 0 0] []),(5,match s.2.2.2 with|none=>.nils|some (_,m)=>.sl 1 5 0 m),(6,k),(7,s.1)])
  (λs=>match s.2.2.2 with|none=>[.live 2 [[.list 1 s.2.1,s.2.2.1]]]|some (u,_)=>[.live 2 [[.list 1 s.2.1,s.2.2.1]],.live 5 u])
  (λs=>0<=s.1/\s.1<=k/\s.2.1=(k0D st s.1.toNat q).2.b.map k15/\s.2.2.1=(k0D st s.1.toNat q).2.sh/\Up0 s.2.1/\MOu k14 (k0D st s.1.toNat q).1 s.2.2.2) (λs=>(k-s.1).toNat) (0,rs,shq,none) (by(refine Z.n (id) ?_;cbv<;>exact Z.q))
  ⟨Int.le_refl _,hk.1,yL,eshq,hu,rfl⟩ ?_
 rintro⟨i,w,s,ou⟩ zJ Q' hN hE hR'
 have zJ:0<=i/\i<=k/\w=(k0D st i.toNat q).2.b.map k15/\s=(k0D st i.toNat q).2.sh/\Up0 w/\MOu k14 (k0D st i.toNat q).1 ou:=zJ;obtain⟨yJ,yZ,hw1,hs1,huw,yY⟩:=zJ;have hml:=k2G st i.toNat q;by_cases yH:i<k
 ·obtain⟨i2,ei2⟩:=Z.e (i+1)
  have hT:(k-i2).toNat<(k-i).toNat:=(by omega);have yS:k0D st i2.toNat q=((k0D st i.toNat q).1++[(st (k0D st i.toNat q).2).1],(st (k0D st i.toNat q).2).2):=(by rw[show i2.toNat=i.toNat+1 by omega];rfl);have hcall:=hF _ (k3W hst i.toNat q hq);rw[<- hw1,<- hs1] at hcall;obtain⟨⟨d,q2⟩,ed⟩:=Z.e (st (k0D st i.toNat q).2);rw[<- ed] at hcall yS;obtain⟨w2,ew2⟩:=Z.e (q2.b.map k15);obtain⟨s2,es2⟩:=Z.e q2.sh;have huw2:Up0 w2:=(by rw[ew2];exact k2R _);have hm1:(k0D st i2.toNat q).1=(k0D st i.toNat q).1++[d]:=(by rw[yS]);have hm2:(k0D st i2.toNat q).2=q2:=(by rw[yS]);have hcall:k06 Tryz.prog F [.ref 0 2 0 0] [.live 2 [[.list 1 w,s]]] (λr h=>r = .agg (k14 d)/\∃j,h = .live 2 [[.list 1 w2,.bool s2]]::j):=(by rw[ew2,es2];exact hcall);obtain⟨u2,eu2⟩:∃z,z=(k0D st i2.toNat q).1.map k14:=⟨_,rfl⟩;have huu2:Up0 u2:=(by rw[eu2];exact k1D (f:=k14) zL _);obtain⟨m2,em2⟩:=Z.e i2.toNat;have hou2:MOu k14 (k0D st i2.toNat q).1 (some (u2,m2)):=⟨by rw[hm1];simp,eu2,by rw[k2G,em2],huu2⟩;have hw3:w2=(k0D st i2.toNat q).2.b.map k15:=(by rw[hm2,ew2]);have hs3:s2=(k0D st i2.toNat q).2.sh:=(by rw[hm2,es2]);have hu2d:u2=(k0D st i.toNat q).1.map k14++[k14 d]:=(by rw[eu2,hm1,List.map_append];rfl);clear yS ed hm1 hm2 ew2 es2 hw1 hs1;obtain⟨d1,d2,d3,d4,d5⟩:=d;have hcall:k06 Tryz.prog F [.ref 0 2 0 0] [.live 2 [[.list 1 w,s]]] (λr h=>r = .agg [d1,d2,d3,d4,d5]/\∃j,h = .live 2 [[.list 1 w2,.bool s2]]::j):=(by exact hcall);have hu2d:u2=(k0D st i.toNat q).1.map k14++[[jz d1,jz d2,jz d3,jz d4,jz d5]]:=(by exact hu2d);have ck:=W.lt zB yH;have a4:zA .add .i64 i 1=i2:=(by rw[zC,k0S Z.o Z.o,ei2]);have hm2':m2=i.toNat+1:=by omega
  cases ou with
  | none =>
    have yY:(k0D st i.toNat q).1=[]:=yY;rw[yY] at hml hu2d;have hm21:m2=1:=(by simp at hml;omega);have hu21:u2=[[jz d1,jz d2,jz d3,jz d4,jz d5]]:=hu2d;clear hml hu2d;cbv;simp only[ck];cbv;refine Call.of (k06.one (s:=0) (by rw[<- hP];exact hcall) (k0E huw _) rfl rfl rfl ?_);rintro r hD ⟨rfl,j,rfl⟩;refine⟨rfl,_,_,rfl,k0E huw2 _,?_⟩;cbv;refine Ob.mk Z.d ?_;cbv;simp only[a4];refine hN (i2,w2,s2,some ([[jz d1,jz d2,jz d3,jz d4,jz d5]],1)) _ _ ?hx ?hi hT
    case hx=>(refine Z.n (id) ?_;cbv<;>exact Z.q)
    case hi=>exact⟨by simp only;omega,by simp only;omega,hw3,hs3,huw2,by simp only;rw[<- hu21,<- hm21];exact hou2⟩
  | some p =>
    obtain⟨u,m⟩:=p;have yY:(k0D st i.toNat q).1≠[]/\u=(k0D st i.toNat q).1.map k14/\m=(k0D st i.toNat q).1.length/\Up0 u:=yY;obtain⟨hne,hu1,hm1,huu1⟩:=yY;have hul:m=u.length:=(by rw[hu1,hm1];simp);have hm21:m2=m+1:=(by omega);have hmk:m<=1000:=(by omega);have hu21:u2=u++[[jz d1,jz d2,jz d3,jz d4,jz d5]]:=(by rw[hu1];exact hu2d);clear hml hu2d hne hu1 hm1;cbv;simp only[ck];cbv;refine Call.of (k06.one (s:=0) (by rw[<- hP];exact hcall) (k0E huw _) rfl rfl rfl ?_);rintro r hD ⟨rfl,j,rfl⟩;refine⟨rfl,_,_,rfl,k0E huw2 _,?_⟩;cbv;refine App.mk u2 m2 hu21 hul hm21 Z.o Z.o ?_;cbv;simp only[a4];refine hN (i2,w2,s2,some (u2,m2)) _ _ ?hx ?hi hT
    case hx=>(refine Z.n (λj=>[0,2].getD j 0) ?_;cbv<;>exact Z.q)
    case hi=>exact⟨by simp only;omega,by simp only;omega,hw3,hs3,huw2,hou2⟩
 ·have ck:=W.nlt zB (show k<=i by omega)
  obtain rfl:i=k:=(by omega);obtain rfl:w=rs':=(by rw[hw1,hrs']);obtain rfl:s=sh':=(by rw[hs1,hsh']);clear hw1 hs1 hrs' hsh' hF
  cases ou with
  | none =>
    have yY:(k0D st i.toNat q).1=[]:=yY;have hus0:us=[]:=(by rw[hus,yY];rfl);clear hus yY hml;cbv;simp only[ck];refine hE _ _ _ ?_;cbv;refine WkB.mk ?_;(refine Z.n (id) ?_;cbv<;>exact Z.q)
  | some p =>
    obtain⟨u,m⟩:=p;have yY:(k0D st i.toNat q).1≠[]/\u=(k0D st i.toNat q).1.map k14/\m=(k0D st i.toNat q).1.length/\Up0 u:=yY;obtain⟨hne,hu1,hm1,huu1⟩:=yY;obtain rfl:u=us:=(by rw[hu1,hus]);have hul:m=u.length:=(by rw[hu1,hm1];simp);clear hus hml hne hu1 hm1;cbv;simp only[ck];refine hE _ _ _ ?_;cbv;refine WkB.mk ?_;(refine Z.n (id) ?_;cbv<;>exact Z.q)
theorem kTA{n:Int}{q:Rd}(hn:0<=n/\n<=4)(hq:k4A q):0<=(rdN n q).1/\(rdN n q).1<4294967296:=by
 unfold rdN;split
 ·exact⟨by simp only;omega,by simp only;omega⟩
 ·rename_i h
  have hl:n.toNat<=q.b.length:=by
   rcases Nat.lt_or_ge q.b.length n.toNat with h2|h2
   ·exact absurd (.inr h2) h
   ·exact h2
  have hb:=kSU n.toNat (q.b.take n.toNat) (by rw[List.length_take];omega) (λb hb=>hq.b b (List.mem_of_mem_take hb));have:(256:Nat) ^ n.toNat<=256 ^ 4:=Nat.pow_le_pow_right Z.d Z.o;have e:((256 ^ n.toNat:Nat):Int)=256 ^ n.toNat:=(by rw[Int.natCast_pow];rfl);have e8:(256:Nat) ^ 4=4294967296:=(by decide);simp only;unfold q29;split<;>omega
theorem kHT{n m:Int}{q:Rd}(hn:0<=n/\n<=4)(hm:0<=m)(hq:k4A q):0<=(rdC n m q).1/\(rdC n m q).1<=m:=by
 unfold rdC;have:=kTA hn hq;split
 ·exact⟨by simp only;omega,by simp only;omega⟩
 ·exact⟨by omega,by omega⟩
def pcR(q:Rd):(Int×Int)×Rd:=(((rdN 8 q).1,kLW (rdN 4 (rdN 8 q).2).1),(rdN 4 (rdN 8 q).2).2)
def nxR(q:Rd):Int×Rd:=rdN 1 q
theorem k4A.pc{q:Rd}(h:k4A q):k4A (pcR q).2:=(h.num 8).num 4
theorem k4A.nx{q:Rd}(h:k4A q):k4A (nxR q).2:=h.num 1
theorem kWY(q:Rd)(hq:k4A q):k06 Tryz.prog 132 [.ref 0 2 0 0] [.live 2 [[.list 1 (q.b.map k15),q.sh]]] (λr h=>r = .agg (k1E (pcR q).1)/\∃j,h = .live 2 [[.list 1 ((pcR q).2.b.map k15),.bool (pcR q).2.sh]]::j):=by
 have c1:=k5R 8 ⟨by decide,by decide⟩ q hq;have c2:=k5R 4 ⟨by decide,by decide⟩ _ (hq.num 8);have yH:=kTA (n:=4) ⟨by decide,by decide⟩ (hq.num 8);unfold pcR;obtain⟨⟨x,⟨l1,s1⟩⟩,e1⟩:=Z.f (rdN 8 q);rw[e1] at c1 c2 yH ⊢;simp only at c1 c2 yH ⊢;obtain⟨⟨y,⟨l2,s2⟩⟩,e2⟩:∃z,rdN 4 ⟨l1,s1⟩=z:=⟨_,rfl⟩;rw[e2] at c2 yH ⊢;simp only at c2 yH ⊢;obtain⟨l0,s0⟩:=q;simp only at c1 ⊢;obtain⟨r0,er0⟩:=Z.f (l0.map k15);obtain⟨r1,er1⟩:=Z.f (l1.map k15);obtain⟨r2,er2⟩:=Z.f (l2.map k15);have u0:Up0 r0:=by rw[<- er0];exact k2R _
 have u1:Up0 r1:=by rw[<- er1];exact k2R _
 have u2:Up0 r2:=by rw[<- er2];exact k2R _
 rw[er0] at c1 ⊢;rw[er1] at c1 c2;rw[er2] at c2 ⊢;obtain⟨z,ez⟩:=Z.e (kLW y);rw[<- ez];have hzq:IntKind.i32.wrap y=z:=by rw[IntKind.wrap_i32,ez];unfold kLW;split<;>omega
 have hzi: -2147483648<=z/\z<=2147483647:=by rw[ez];unfold kLW;split<;>omega
 clear e1 e2 er0 er1 er2 ez hq;refine Z.x Tryz.func132 λ_ _ _ zD _ _ _ _ _ _ zH _ _ hz P hP=>?_;cbv;refine Call.of (k06.one (s:=0) (by rw[<- hP];exact c1) (k0E u0 _) rfl rfl rfl ?_);rintro r hD ⟨rfl,j,rfl⟩;refine⟨rfl,_,_,rfl,k0E u1 _,?_⟩;cbv;refine Call.of (k06.one (s:=0) (by rw[<- hP];exact c2) (k0E u1 _) rfl rfl rfl ?_);rintro r hD ⟨rfl,j,rfl⟩;refine⟨rfl,_,_,rfl,k0E u2 _,?_⟩;cbv;have v1:zD .i32 y=z:=by rw[zH];exact hzq
 have v2:zD .i64 z=z:=by rw[zH];show IntKind.i64.wrap z=z;rw[IntKind.wrap_i64];omega
 simp only[v1,v2];exact⟨by first|rfl|trivial,_,rfl⟩
theorem kWT(q:Rd)(hq:k4A q):k06 Tryz.prog 134 [.ref 0 2 0 0] [.live 2 [[.list 1 (q.b.map k15),q.sh]]] (λr h=>r=jz (nxR q).1/\∃j,h = .live 2 [[.list 1 ((nxR q).2.b.map k15),.bool (nxR q).2.sh]]::j):=by
 have c1:=k5R 1 ⟨by decide,by decide⟩ q hq;unfold nxR;obtain⟨⟨x,⟨l1,s1⟩⟩,e1⟩:=Z.f (rdN 1 q);rw[e1] at c1 ⊢;simp only at c1 ⊢;obtain⟨l0,s0⟩:=q;simp only at c1 ⊢;obtain⟨r0,er0⟩:=Z.f (l0.map k15);obtain⟨r1,er1⟩:=Z.f (l1.map k15);have u0:Up0 r0:=by rw[<- er0];exact k2R _
 have u1:Up0 r1:=by rw[<- er1];exact k2R _
 rw[er0] at c1 ⊢;rw[er1] at c1 ⊢;clear e1 er0 er1 hq;refine Z.x Tryz.func134 λ_ _ _ _ _ _ _ _ _ _ _ _ _ hz P hP=>?_;cbv;refine Call.of (k06.one (s:=0) (by rw[<- hP];exact c1) (k0E u0 _) rfl rfl rfl ?_);rintro r hD ⟨rfl,j,rfl⟩;refine⟨rfl,_,_,rfl,k0E u1 _,?_⟩;cbv;exact⟨_,rfl⟩
def gpR(q:Rd):Gr×Rd:=(⟨(rdN 2 q).1,(rdN 1 (rdN 2 q).2).1,(rdN 8 (rdN 1 (rdN 2 q).2).2).1,(rdN 4 (rdN 8 (rdN 1 (rdN 2 q).2).2).2).1,(rdN 4 (rdN 4 (rdN 8 (rdN 1 (rdN 2 q).2).2).2).2).1⟩,(rdN 4 (rdN 4 (rdN 8 (rdN 1 (rdN 2 q).2).2).2).2).2)
theorem k4A.gp{q:Rd}(h:k4A q):k4A (gpR q).2:=((((h.num 2).num 1).num 8).num 4).num 4
theorem kRT(q:Rd)(hq:k4A q):k06 Tryz.prog 79 [.ref 0 2 0 0] [.live 2 [[.list 1 (q.b.map k15),q.sh]]] (λr h=>r = .agg (k14 (gpR q).1)/\∃j,h = .live 2 [[.list 1 ((gpR q).2.b.map k15),.bool (gpR q).2.sh]]::j):=by
 have c1:=k5R 2 ⟨by decide,by decide⟩ q hq;have c2:=k5R 1 ⟨by decide,by decide⟩ _ (hq.num 2);have c3:=k5R 8 ⟨by decide,by decide⟩ _ ((hq.num 2).num 1);have c4:=k5R 4 ⟨by decide,by decide⟩ _ (((hq.num 2).num 1).num 8);have c5:=k5R 4 ⟨by decide,by decide⟩ _ ((((hq.num 2).num 1).num 8).num 4);unfold gpR;obtain⟨⟨x1,q1⟩,e1⟩:=Z.f (rdN 2 q);rw[e1] at c1 c2 c3 c4 c5 ⊢;simp only at c1 c2 c3 c4 c5 ⊢;obtain⟨⟨x2,q2⟩,e2⟩:=Z.f (rdN 1 q1);rw[e2] at c2 c3 c4 c5 ⊢;simp only at c2 c3 c4 c5 ⊢;obtain⟨⟨x3,q3⟩,e3⟩:=Z.f (rdN 8 q2);rw[e3] at c3 c4 c5 ⊢;simp only at c3 c4 c5 ⊢;obtain⟨⟨x4,q4⟩,e4⟩:=Z.f (rdN 4 q3);rw[e4] at c4 c5 ⊢;simp only at c4 c5 ⊢;obtain⟨⟨x5,q5⟩,e5⟩:=Z.f (rdN 4 q4);rw[e5] at c5 ⊢;simp only at c5 ⊢;have gen:∀q:Rd,∃r s,Up0 r/\r=q.b.map k15/\s=q.sh:=λq=>⟨_,_,k2R _,rfl,rfl⟩;obtain⟨r0,s0,u0,er0,es0⟩:=gen q;obtain⟨r1,s1,u1,er1,es1⟩:=gen q1;obtain⟨r2,s2,u2,er2,es2⟩:=gen q2;obtain⟨r3,s3,u3,er3,es3⟩:=gen q3;obtain⟨r4,s4,u4,er4,es4⟩:=gen q4;obtain⟨r5,s5,u5,er5,es5⟩:=gen q5;rw[<- er0,<- es0] at c1 ⊢;rw[<- er1,<- es1] at c1 c2;rw[<- er2,<- es2] at c2 c3;rw[<- er3,<- es3] at c3 c4;rw[<- er4,<- es4] at c4 c5;rw[<- er5,<- es5] at c5 ⊢;clear e1 e2 e3 e4 e5 er0 er1 er2 er3 er4 er5 es0 es1 es2 es3 es4 es5 hq gen;refine Z.x Tryz.func79 λ_ _ _ _ _ _ _ _ _ _ _ _ _ hz P hP=>?_;cbv;refine Call.of (k06.one (s:=0) (by rw[<- hP];exact c1) (k0E u0 _) rfl rfl rfl ?_);rintro r hD ⟨rfl,j,rfl⟩;refine⟨rfl,_,_,rfl,k0E u1 _,?_⟩;cbv;refine Call.of (k06.one (s:=0) (by rw[<- hP];exact c2) (k0E u1 _) rfl rfl rfl ?_);rintro r hD ⟨rfl,j,rfl⟩;refine⟨rfl,_,_,rfl,k0E u2 _,?_⟩;cbv;refine Call.of (k06.one (s:=0) (by rw[<- hP];exact c3) (k0E u2 _) rfl rfl rfl ?_);rintro r hD ⟨rfl,j,rfl⟩;refine⟨rfl,_,_,rfl,k0E u3 _,?_⟩;cbv;refine Call.of (k06.one (s:=0) (by rw[<- hP];exact c4) (k0E u3 _) rfl rfl rfl ?_);rintro r hD ⟨rfl,j,rfl⟩;refine⟨rfl,_,_,rfl,k0E u4 _,?_⟩;cbv;refine Call.of (k06.one (s:=0) (by rw[<- hP];exact c5) (k0E u4 _) rfl rfl rfl ?_);rintro r hD ⟨rfl,j,rfl⟩;refine⟨rfl,_,_,rfl,k0E u5 _,?_⟩;cbv;exact⟨_,rfl⟩
def sgR(q:Rd):Sg×Rd:=
 let a:=rdN 8 q
 let c:=rdC 1 64 a.2
 let p:=k0D pcR c.1.toNat c.2
 let d:=rdC 1 2 p.2
 let n:=k0D nxR d.1.toNat d.2
 (⟨a.1,p.1,n.1⟩,n.2)
theorem k4A.sg{q:Rd}(h:k4A q):k4A (sgR q).2:=k3W (λq h=>h.nx) _ _ ((k3W (λq h=>h.pc) _ _ ((h.num 8).count 1 64)).count 1 2)
theorem kKA(q:Rd)(hq:k4A q):k06 Tryz.prog 77 [.ref 0 2 0 0] [.live 2 [[.list 1 (q.b.map k15),q.sh]]] (λr h=>r = .agg (k0Y (sgR q).1)/\∃j,h = .live 2 [[.list 1 ((sgR q).2.b.map k15),.bool (sgR q).2.sh]]::j):=by
 have gen:∀q:Rd,∃r s,Up0 r/\r=q.b.map k15/\s=q.sh:=λq=>⟨_,_,k2R _,rfl,rfl⟩;have c1:=k5R 8 ⟨by decide,by decide⟩ q hq;obtain⟨⟨x1,q1⟩,e1⟩:=Z.f (rdN 8 q);have h1:=hq.num 8;rw[e1] at c1 h1;obtain⟨⟨x2,q2⟩,e2⟩:=Z.e (rdC 1 64 q1);have h2:=h1.count 1 64;have i2:=kHT (n:=1) (m:=64) ⟨by decide,by decide⟩ Z.d h1;simp only at c1 h1 h2 i2;rw[<- e2] at h2 i2;obtain⟨⟨ps,q3⟩,e3⟩:=Z.e (k0D pcR x2.toNat q2);have h3:=k3W (st:=pcR) (λq h=>h.pc) x2.toNat q2 h2;simp only at h2 i2;rw[<- e3] at h3;obtain⟨⟨x4,q4⟩,e4⟩:=Z.e (rdC 1 2 q3);have h4:=h3.count 1 2;have i4:=kHT (n:=1) (m:=2) ⟨by decide,by decide⟩ Z.d h3;simp only at h3 h4 i4;rw[<- e4] at h4 i4;obtain⟨⟨ns,q5⟩,e5⟩:=Z.e (k0D nxR x4.toNat q4);simp only at h4 i4
 have xB:sgR q=(⟨x1,ps,ns⟩,q5):=by
  unfold sgR;simp only;rw[e1];simp only;rw[<- e2];simp only;rw[<- e3];simp only;rw[<- e4];simp only;rw[<- e5]
 rw[xB];simp only;obtain⟨r0,s0,u0,er0,es0⟩:=gen q;obtain⟨r1,s1,u1,er1,es1⟩:=gen q1;obtain⟨r2,s2,u2,er2,es2⟩:=gen q2;obtain⟨r3,s3,u3,er3,es3⟩:=gen q3;obtain⟨r4,s4,u4,er4,es4⟩:=gen q4;obtain⟨r5,s5,u5,er5,es5⟩:=gen q5;obtain⟨pr,epr⟩:=Z.e (ps.map k1E);obtain⟨nr,enr⟩:=Z.e (ns.map k0K);have up1:Up0 pr:=by rw[epr];exact k7F _
 have un1:Up0 nr:=by rw[enr];exact k3K _
 have c2:=kA6 1 64 ⟨by decide,by decide⟩ q1 h1 r1 er1 x2 q2 e2 r2 er2;have c3:=kX5 x2 ⟨i2.1,by omega⟩ 132 pcR (λq h=>h.pc) kWY q2 h2 r2 er2 pr r3 s3 (by rw[<- e3,epr]) (by rw[<- e3,er3]) (by rw[<- e3,es3]);have c4:=kA6 1 2 ⟨by decide,by decide⟩ q3 h3 r3 er3 x4 q4 e4 r4 er4;have c5:=kX6 x4 ⟨i4.1,by omega⟩ 134 nxR (λq h=>h.nx) kWT q4 h4 r4 er4 nr r5 s5 (by rw[<- e5,enr]) (by rw[<- e5,er5]) (by rw[<- e5,es5]);rw[<- er0,<- es0,<- er1,<- es1] at c1;rw[<- es1,<- es2] at c2;rw[<- es2] at c3;rw[<- es3,<- es4] at c4;rw[<- es4] at c5;rw[show k0Y ⟨x1,ps,ns⟩=[jz x1,.list 2 pr,.list 1 nr] by rw[epr,enr];rfl,<- er0,<- es0,<- er5,<- es5];clear e1 e2 e3 e4 e5 er0 er1 er2 er3 er4 er5 es0 es1 es2 es3 es4 es5 hq gen xB epr enr h1 h2 h3 h4 i2 i4;refine Z.x Tryz.func77 λ_ _ _ _ _ _ _ _ _ _ _ _ _ _ P hP=>?_;cbv;refine Call.of (k06.one (s:=0) (by rw[<- hP];exact c1) (k0E u0 _) rfl rfl rfl ?_);rintro r hD ⟨rfl,j,rfl⟩;refine⟨rfl,_,_,rfl,k0E u1 _,?_⟩;cbv;refine Call.of (k06.one (s:=0) (by rw[<- hP];exact c2) (k0E u1 _) rfl rfl rfl ?_);rintro r hD ⟨rfl,j,rfl⟩;refine⟨rfl,_,_,rfl,k0E u2 _,?_⟩;cbv;refine Call.of (k06.one (s:=0) (by rw[<- hP];exact c3) (k0E u2 _) rfl rfl rfl ?_);rintro r hD ⟨rfl,rfl⟩;refine⟨up1.list,_,[],rfl,k0E u3 _,?_⟩;cbv;refine Call.of (k06.one (s:=0) (by rw[<- hP];exact c4) (k0E u3 _) rfl rfl rfl ?_);rintro r hD ⟨rfl,j,rfl⟩;refine⟨rfl,_,_,rfl,k0E u4 _,?_⟩;cbv;refine Call.of (k06.one (s:=0) (by rw[<- hP];exact c5) (k0E u4 _) rfl rfl rfl ?_);rintro r hD ⟨rfl,rfl⟩;refine⟨un1.list,_,[],rfl,k0E u5 _,?_⟩;cbv;exact⟨_,rfl⟩
def kY9(l:List Int):ByteArray:=⟨(l.map λn=>UInt8.ofNat n.toNat).toArray⟩
theorem kDQ{l:List Int}(h:k0H l):l.map k15=k13 (kY9 l):=by
 unfold k13 kY9;simp only[List.map_map];apply List.map_congr_left;intro b hb;have:=h b hb;show [AV.int .u8 b]=[AV.int .u8 ((UInt8.ofNat b.toNat).toNat:Int)]
 have e:((UInt8.ofNat b.toNat).toNat:Int)=b:=by
  rw[UInt8.toNat_ofNat'];have:b.toNat%2 ^ 8=b.toNat:=Nat.mod_eq_of_lt Z.o;rw[this];omega
 rw[e]
theorem q13{l m:List Int}(hl:k0H l)(hm:k0H m)(h:kY9 l=kY9 m):l=m:=by
 have h1:=kDQ hl;rw[h,<- kDQ hm] at h1
 have key:∀(a b:List Int),a.map k15=b.map k15->a=b:=by
  intro a
  induction a with
  | nil=>intro b hb;cases b with
    | nil=>rfl
    | cons x b=>simp at hb
  | cons y a ih =>
    intro b hb
    cases b with
    | nil=>simp at hb
    | cons x b =>
      simp only[List.map_cons,List.cons.injEq,k15,AV.int.injEq,true_and,and_true] at hb;rw[hb.1,ih b hb.2]
 exact key l m h1
theorem kHP(a b:ByteArray):k03 .neq a b=decide (a≠b):=by
 have:k03 .neq a b = !(a.toList == b.toList):=rfl;rw[this];by_cases h:a=b
 ·subst h;simp
 ·have:¬a.toList=b.toList:=λe=>h (Go.Eng.toList_inj e)
  simp[h,this]
def kZQ:List Int:=[79,68,79,49]
def q1E(b:List Int):List Sg×List Gr×Rd:=
 let c:=rdC 2 200 ⟨(b.take (b.length-2)).drop 4,false⟩
 let s:=k0D sgR c.1.toNat c.2
 let d:=rdC 2 400 s.2
 let g:=k0D gpR d.1.toNat d.2
 (s.1,g.1,g.2)
structure kBT(b:List Int)(ss:List Sg)(gs:List Gr):Prop where
 le:b.length<=1048576
 ge:6<=b.length
 hd:b.take 4=kZQ
 sum:crF 65535#16 b=0#16
 rd:q1E b=(ss,gs,⟨[],false⟩)
 tr:k1I ss gs
theorem kBT.uniq{b:List Int}{ss ss':List Sg}{gs gs':List Gr}(h:kBT b ss gs)(h':kBT b ss' gs'):ss=ss'/\gs=gs':=by
 have:=h.rd.symm.trans h'.rd;simp only[Prod.mk.injEq] at this;exact⟨this.1,this.2.1⟩
theorem kX9(b:List Int)(hb:k0H b)(h47:b.length<=1000000000)(rs:List (List AV))(yL:rs=b.map k15) :
 k02 Tryz.prog 33 [.list 1 rs] (λr=>(∃ss gs es ds,kBT b ss gs/\es=ss.map k0Y/\ds=gs.map k14/\r = .tuple [.agg [.list 3 es,.list 5 ds],jz 0])\/∃e:Int,e≠0/\(∀ss gs,¬kBT b ss gs)/\r = .tuple [.agg [.nils,.nils],jz e]):=by
 have hu:Up0 rs:=by rw[yL];exact k2R _
 have hrl:rs.length=b.length:=by rw[yL];simp
 obtain⟨c,ec⟩:=Z.e (bi (crF 65535#16 b));have q3:=kRO b hb Z.o c rs yL ec
 have hc0:c=0↔crF 65535#16 b=0#16:=by
  rw[ec];unfold bi;constructor
  ·intro h;exact BitVec.eq_of_toNat_eq (by simp;omega)
  ·intro h;rw[h];rfl
 obtain⟨hd,ehd⟩:=Z.e (kY9 (b.take 4));have htk:rs.take 4=k13 hd:=by rw[yL,<- List.map_take,ehd];exact kDQ (λx hx=>hb x (List.mem_of_mem_take hx))
 have hodo:(⟨⟨[79,68,79,49]⟩⟩:ByteArray)=kY9 kZQ:=rfl
 have hhd:hd=(⟨⟨[79,68,79,49]⟩⟩:ByteArray)↔b.take 4=kZQ:=by
  rw[ehd,hodo];constructor
  ·intro h;exact q13 (λx hx=>hb x (List.mem_of_mem_take hx)) (by intro x hx;simp only[kZQ,List.mem_cons,List.not_mem_nil,or_false] at hx;omega) h
  ·intro h;rw[h]
 clear ec ehd hodo;(refine k02.ofY Tryz.func33 (by kernel_rfl) (by kernel_rfl) (Z.w λzA _ _ _ _ _ _ zN _ _ _ _ zV _ _ zM zO _ _ _ _ zC zB _ _ _ _ _ zX _ _ _ _ zE _ _ yD yI _ _ _ hz R hR=>?_));(conv=>arg 2;cbv);(generalize hP:Tryz.prog=P);cbv;obtain⟨L,eL,L0,Ln⟩:=Z.l zE rs;have hF:∀e:Int,e≠0->(∀ss gs,¬kBT b ss gs)->R (.tuple [.agg [.nils,.nils],e]):=λe he hn=>hR _ (.inr ⟨e,he,hn,rfl⟩);(split<;>rename_i h1<;>(try (simp only[eL] at h1))<;>(try (simp only[hz,Z.a,k05,k04,k08,k03,k0M,reduceCtorEq] at h1))<;>(try cbv))
 ·exact⟨_,Vw.same rfl,hF _ Z.d λss gs h=>(by have:=h.le;omega)⟩
 (split<;>rename_i h2<;>(try (simp only[eL] at h2))<;>(try (simp only[hz,Z.a,k05,k04,k08,k03,k0M,reduceCtorEq] at h2))<;>(try cbv))
 ·exact⟨_,Vw.same rfl,hF _ Z.d λss gs h=>(by have:=h.ge;omega)⟩
 have t1:zM rs 4=k13 hd:=by rw[yD];exact htk
 refine Nn.mk Z.d (Le.mk Z.o (ToS.mk hd rfl t1 ?_));cbv;by_cases hodo:b.take 4=kZQ
 rotate_left 1
 ·have s1:zN .neq hd ⟨⟨[79,68,79,49]⟩⟩=true:=by
   rw[zX,kHP];exact decide_eq_true λh=>hodo (hhd.1 h)
  simp only[s1];cbv;exact⟨_,Vw.same rfl,hF _ Z.d λss gs h=>hodo h.hd⟩
 have s1:zN .neq hd ⟨⟨[79,68,79,49]⟩⟩=false:=by
  rw[zX,kHP];exact decide_eq_false λh=>h (hhd.2 hodo)
 simp only[s1];cbv;refine Call.s hP q3 ?_;cbv;by_cases hc:c=0
 rotate_left 1
 ·have d1:=W.ne zB hc
  simp only[d1];cbv;exact⟨_,Vw.same rfl,hF _ Z.d λss gs h=>hc (hc0.2 h.sum)⟩
 have hsum:=hc0.1 hc;have d1:=W.nne zB hc;simp only[d1];cbv;obtain⟨L2,eL2⟩:=Z.e (L-2);have a1:zA .sub .i64 L 2=L2:=by rw[zC,k3I Z.o Z.o,eL2]
 obtain⟨bd,ebd⟩:∃z,z=(b.take (b.length-2)).drop 4:=⟨_,rfl⟩;obtain⟨r0,er0⟩:=Z.e (bd.map k15);have u0:Up0 r0:=by rw[er0];exact k2R _
 have cut:zO (zM rs L2) 4=r0:=by
  rw[yI,yD,er0,ebd,yL];show ((List.map k15 b).take L2.toNat).drop 4=_;rw[show L2.toNat=b.length-2 by omega,<- List.map_take,<- List.map_drop]
 simp only[eL,a1];cbv
 repeat' (first
  | (refine Nn.mk Z.d ?_)
  | (refine Le.mk (by first|(rw[eL];omega)|omega) ?_)
  | (simp only[cut];cbv))
 have gen:∀q:Rd,∃r s,Up0 r/\r=q.b.map k15/\s=q.sh:=λq=>⟨_,_,k2R _,rfl,rfl⟩;have h0:k4A ⟨bd,false⟩:=⟨λx hx=>hb x (by rw[ebd] at hx;exact List.mem_of_mem_take (List.mem_of_mem_drop hx)),by simp only;rw[ebd,List.length_drop,List.length_take];omega⟩;obtain⟨⟨x1,q1⟩,e1⟩:∃z,z=rdC 2 200 ⟨bd,false⟩:=⟨_,rfl⟩;have h1:=h0.count 2 200;have i1:=kHT (n:=2) (m:=200) ⟨by decide,by decide⟩ Z.d h0;rw[<- e1] at h1 i1;obtain⟨⟨ss,q2⟩,e2⟩:=Z.e (k0D sgR x1.toNat q1);simp only at h1 i1;have h2:=k3W (st:=sgR) (λq h=>h.sg) x1.toNat q1 h1;have l2:=k2G sgR x1.toNat q1;rw[<- e2] at h2 l2;obtain⟨⟨x3,q3'⟩,e3⟩:=Z.e (rdC 2 400 q2);simp only at h2 l2;have h3:=h2.count 2 400;have i3:=kHT (n:=2) (m:=400) ⟨by decide,by decide⟩ Z.d h2;rw[<- e3] at h3 i3;obtain⟨⟨gs,q4⟩,e4⟩:=Z.e (k0D gpR x3.toNat q3');simp only at h3 i3;have l4:=k2G gpR x3.toNat q3';rw[<- e4] at l4;simp only at l4
 have xB:q1E b=(ss,gs,q4):=by
  unfold q1E;simp only;rw[<- ebd,<- e1];simp only;rw[<- e2];simp only;rw[<- e3];simp only;rw[<- e4]
 obtain⟨r1,s1',u1,er1,es1⟩:=gen q1;obtain⟨r2,s2',u2,er2,es2⟩:=gen q2;obtain⟨r3,s3',u3,er3,es3⟩:=gen q3';obtain⟨r4,s4',u4,er4,es4⟩:=gen q4;obtain⟨es,ees⟩:=Z.e (ss.map k0Y);obtain⟨ds,eds⟩:=Z.e (gs.map k14);have ue:Up0 es:=by rw[ees];exact k42 _
 have ud:Up0 ds:=by rw[eds];exact k43 _
 have c1:=kA6 2 200 ⟨by decide,by decide⟩ ⟨bd,false⟩ h0 r0 er0 x1 q1 e1 r1 er1;have c2:=kX4 x1 ⟨i1.1,by omega⟩ 77 sgR (λq h=>h.sg) kKA q1 h1 r1 er1 es r2 s2' (by rw[<- e2,ees]) (by rw[<- e2,er2]) (by rw[<- e2,es2]);have c3:=kA6 2 400 ⟨by decide,by decide⟩ q2 h2 r2 er2 x3 q3' e3 r3 er3;have c4:=kX7 x3 ⟨i3.1,by omega⟩ 79 gpR (λq h=>h.gp) kRT q3' h3 r3 er3 ds r4 s4' (by rw[<- e4,eds]) (by rw[<- e4,er4]) (by rw[<- e4,es4]);rw[<- es1] at c1 c2;rw[<- es2] at c3;rw[<- es3] at c3 c4;have c5:=kDJ ss gs Z.o Z.o es ds ees eds;have hlen4:r4=[]↔q4.b=[]:=by rw[er4,List.map_eq_nil_iff]
 have hq4:(r4=[]/\s4'=false)->q1E b=(ss,gs,⟨[],false⟩):=λh=>by
  rw[xB];obtain⟨qb,qs⟩:=q4;simp only at es4 hlen4;rw[hlen4.1 h.1,<- es4,h.2]
 have hno:¬(r4=[]/\s4'=false)->∀ss gs,¬kBT b ss gs:=λh ss' gs' hO=>h (by
  have:=xB.symm.trans hO.rd;simp only[Prod.mk.injEq] at this;have h3:=this.2.2;exact⟨hlen4.2 (by rw[h3]),by rw[es4,h3]⟩)
 have hnt:r4=[]/\s4'=false->¬k1I ss gs->∀ss gs,¬kBT b ss gs:=λh hn ss' gs' hO=>hn (by
  have:=(hq4 h).symm.trans hO.rd;simp only[Prod.mk.injEq] at this;rw[this.1,this.2.1];exact hO.tr)
 have hyes:r4=[]/\s4'=false->k1I ss gs->kBT b ss gs:=λh ht=>⟨by omega,by omega,hodo,hsum,hq4 h,ht⟩;have l6:zV r4=(r4.length:Int):=by rw[zE]
 obtain⟨M,eM,M0,Mn⟩:∃M:Int,zV r4=M/\0<=M/\M.toNat=r4.length:=⟨(r4.length:Int),l6,Int.natCast_nonneg _,Int.toNat_natCast _⟩;have hM:M=0↔r4=[]:=by rw[<- List.length_eq_zero_iff,<- Mn];omega
 clear e1 e2 e3 e4 er0 er1 er2 er3 er4 es1 es2 es3 es4 gen xB h0 h1 h2 h3 i1 i3 l2 l4 ebd hlen4 hq4 cut l6;refine Call.of (k06.one (s:=1) (by rw[<- hP];exact c1) (k0E u0 _) rfl rfl rfl ?_);rintro r hD ⟨rfl,j,rfl⟩;refine⟨rfl,_,_,rfl,k0E u1 _,?_⟩;cbv;refine Call.of (k06.one (s:=1) (by rw[<- hP];exact c2) (k0E u1 _) rfl rfl rfl ?_);rintro r hD ⟨rfl,rfl⟩;refine⟨ue.list,_,[],rfl,k0E u2 _,?_⟩;cbv;refine Call.of (k06.one (s:=1) (by rw[<- hP];exact c3) (k0E u2 _) rfl rfl rfl ?_);rintro r hD ⟨rfl,j,rfl⟩;refine⟨rfl,_,_,rfl,k0E u3 _,?_⟩;cbv;refine Call.of (k06.one (s:=1) (by rw[<- hP];exact c4) (k0E u3 _) rfl rfl rfl ?_);rintro r hD ⟨rfl,rfl⟩;refine⟨ud.list,_,[],rfl,k0E u4 _,?_⟩;cbv
 cases s4' with
 | true =>
   cbv;exact⟨_,Vw.same rfl,hF _ Z.d (hno (by simp))⟩
 | false =>
   cbv;simp only[eM];by_cases hM0:M=0
   rotate_left 1
   ·have d2:=W.gt zB (show 0<M by omega)
    simp only[d2];cbv;exact⟨_,Vw.same rfl,hF _ Z.d (hno λh=>hM0 (hM.2 h.1))⟩
   have d2:=W.ngt zB (show M<=0 by omega);simp only[d2];cbv;have hr4:=hM.1 hM0;refine Call.step (by rw[<- hP];exact c5) Z.u ?_;rintro r ⟨e,i0,rfl,he⟩;cbv;by_cases he0:e=0
   ·have d3:=W.nne zB he0
    simp only[d3];cbv;exact⟨_,Vw.same (by first|rfl|(repeat' (first|exact rfl|assumption|refine uc ?_ ?_|exact ul Z.m|refine ua ?_|refine ut ?_))),hR _ (.inl ⟨ss,gs,es,ds,hyes ⟨hr4,rfl⟩ (he.1 he0),ees,eds,rfl⟩)⟩
   ·have d3:=W.ne zB he0
    simp only[d3];cbv;exact⟨_,Vw.same rfl,hF _ Z.d (hnt ⟨hr4,rfl⟩ λht=>he0 (he.2 ht))⟩
end Go.Proofs.YtlchlddijclhjaaGreat
