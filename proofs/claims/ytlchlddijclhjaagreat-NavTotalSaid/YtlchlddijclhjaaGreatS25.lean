/- Parts of the proofs. -/
import Derived.Test.YtlchlddijclhjaaGreatS23
import Derived.Test.YtlchlddijclhjaaGreatS22
import Derived.Test.YtlchlddijclhjaaGreatS9
import Derived.Test.YtlchlddijclhjaaGreatS10
import Derived.Test.YtlchlddijclhjaaGreatS19
import Derived.Test.YtlchlddijclhjaaGreatSZ
set_option linter.unusedVariables false
set_option linter.unusedSimpArgs false
set_option maxHeartbeats 4000000
namespace Go.Proofs.YtlchlddijclhjaaGreat
open Go Go.RowKit Go.Eng
structure Rp where
 cy:Int
 md:Int
 gr:Int
 lo:Int
 hi:Int
 es:Int
 sl:Int
 sh:Int
 no:Int
 di:Int
 rt:List (List Int)
 fi:Int
 cl:Bool
 cf:Bool
 s0:Int
 s1:Int
 ac:Bool
 fa:Bool
 st:Bool
 ro:Bool
 ov:Bool
 ml:Int
 mh:Int
 pe:Int
 a0:Int
 b0:Int
 a1:Int
 b1:Int
 bad:Int
 sta:Int
 twi:Int
 bey:Int
def Rp.rowL(r:Rp)(rt:AV):List AV:=jz r.cy::[jz r.md,jz r.gr,jz r.lo,jz r.hi,jz r.es,jz r.sl,jz r.sh,jz r.no,jz r.di,rt,jz r.fi,.bool r.cl,.bool r.cf,jz r.s0,jz r.s1,.bool r.ac,.bool r.fa,.bool r.st,.bool r.ro,.bool r.ov,jz r.ml,jz r.mh,jz r.pe,jz r.a0,jz r.b0,jz r.a1,jz r.b1,jz r.bad,jz r.sta,jz r.twi,jz r.bey]
def Rp.row(r:Rp):List AV:=r.rowL (.list 1 (r.rt.map k8C))
def rp0(cy:Int):Rp:=⟨cy,4,0,0,0,0,0,0,0,0,[],0,false,false,0,0,false,false,false,false,false,0,0,0,0,0,0,0,0,0,0,0⟩
def q1J(gs:List Gr)(n:Nv)(mm:List (List Int))(x:Fo)(a b:Int):Nv×List (List Int):=match gs[x.g.toNat]? with|some G=>(kJ0 G n x a b,[[G.seg]])|none=>(n,mm)
def k98(ss:List Sg)(gs:List Gr)(mm:List (List Int))(n:Nv)(wl wh:Int)(m:Ml)(a b:Int):Fo:=
 if m.has 5=false then ⟨0,[],true,false⟩
 else match gs.findIdx? λG=>G.id == m.val 5 with
  | none=>⟨0,[],false,false⟩
  | some i=>match gs[i]? with
    | none=>⟨0,[],false,false⟩
    | some G=>if n.on=false then ⟨i,[],true,true⟩ else ⟨i,kNF ss mm n wl wh a b G,decide (0<(kNF ss mm n wl wh a b G).length),decide (0<(kNF ss mm n wl wh a b G).length)⟩
noncomputable def kQQ(X m:Int):Int:=by
 classical
 exact if h:∃v,k8Y X m v then Classical.choose h else 0
def kKO(ss:List Sg):Nat->Int:=J (nxF ss) (k8J ss) ss.length
def peV(b:Bool)(x y:Int):Int:=match b with|true=>x|false=>y
noncomputable def k28(ss:List Sg)(gs:List Gr)(mm:List (List Int))(r:Rp)(n:Nv)(f:Fu):Rp:=
 let r1:Rp:={ r with fi:=f.n,cl:=f.cl,cf:=f.cf,s0:=f.s0,s1:=f.s1,sl:=f.lo,sh:=f.hi,no:=(f.lo+f.hi)/2,di:=n.di,st:=n.so,ro:=n.ro,ml:=n.m0,mh:=n.m1,a0:=n.a0,b0:=n.b0,a1:=n.a1,b1:=n.b1,md:=k6J n.w.fa n.on f.n f.cf,pe:=n.c.c6 }
 match n.on with
 | false=>r1
 | true =>
   let v:=mm.foldl (k71 ss (kKO ss) n.p.fr n.p.hi) (0,false)
   let pe:=peV v.2 (kQQ (2*n.c.c13*kQZ v.1) n.c.c6) n.c.c6
   { r1 with gr:=(match gs[n.gr.toNat]? with|some G=>G.id|none=>0),lo:=n.p.lo,hi:=n.p.hi,es:=n.p.est,rt:=mm,pe:=pe,ov:=decide (pe<f.hi) }
structure kBR where
 n:Nv
 mm:List (List Int)
 r:Rp
def k7J(n:Nv)(mm:List (List Int)):Nv×List (List Int):=match n.w.fa with|true=>({ n with on:=false,gr:=0,p:=kJM },[])|false=>(n,mm)
noncomputable def stepE(ss:List Sg)(gs:List Gr)(n:Nv)(m:Ml)(com:Bool)(f:Fu)(ov:Bool)(x:Fo)(u:Nv×List (List Int)):kBR:=
 let n6:Nv:={ u.1 with w:=wtV n.c.c12 u.1.w f.n f.cf ov x.ac }
 let t:=k7J n6 u.2
 let sc:=k77 n.c.c9 n.c.c10 t.1.sc f.lo f.hi f.n
 let q:=k44 n.c.c11 ⟨t.1.ra,t.1.ro,t.1.m0,t.1.m1⟩ (decide (n.c.c9<=sc)) com f.lo f.hi
 let n9:Nv:={ t.1 with sc:=sc,so:=decide (n.c.c9<=sc),ra:=q.an,ro:=q.on,m0:=q.lo,m1:=q.hi }
 ⟨n9,t.2,k28 ss gs t.2 { rp0 n.cy with bad:=m.bad,sta:=m.stale,twi:=m.twice,bey:=m.beyond,ac:=x.ac,fa:= !x.ok } n9 f⟩
def kPA(gs:List Gr)(x:Fo)(n:Nv)(mm:List (List Int))(a b:Int):Nv×List (List Int):=match x.ac with|true=>q1J gs n mm x a b|false=>(n,mm)
noncomputable def kJA(ss:List Sg)(gs:List Gr)(n:Nv)(m:Ml)(com:Bool)(f:Fu)(n3:Nv)(z:Nv×List (List Int)×Bool):kBR:=
 let x:=k98 ss gs z.2.1 z.1 n3.p.lo n3.p.hi m f.lo f.hi
 stepE ss gs n m com f z.2.2 x (kPA gs x z.1 z.2.1 f.lo f.hi)
noncomputable def kJB(ss:List Sg)(gs:List Gr)(n:Nv)(mm:List (List Int))(m:Ml)(com:Bool)(y:Nv×Fu):kBR:=
 let n3:Nv:={ y.1 with cl:=y.1.cl && y.2.cl }
 kJA ss gs n m com y.2 n3 (k9X ss mm n3 y.2.lo y.2.hi)
noncomputable def kCT(ss:List Sg)(gs:List Gr)(n:Nv)(mm:List (List Int))(l:List (List Int))(com:Bool):kBR:=
 kJB ss gs n mm (k52 n.cy l) com (kC0 ss mm { n with cy:=n.cy+1 } (k52 n.cy l))
def Nv.rowP(n:Nv)(pl:AV):List AV:=jz n.c.c0::jz n.c.c1::jz n.c.c2::jz n.c.c3::jz n.c.c4::jz n.c.c5::jz n.c.c6::jz n.c.c7::jz n.c.c8::jz n.c.c9::jz n.c.c10::jz n.c.c11::jz n.c.c12::jz n.c.c13 ::
 .list 3 n.es :: .list 5 n.ds :: .bool false::jz n.cy::jz n.g0::jz n.g1 :: .list 1 n.os :: .bool n.k0.kn :: .int .u16 n.k0.la::jz n.k0.su::[.bool n.k1.kn,.int .u16 n.k1.la,jz n.k1.su,jz n.a0,jz n.b0,jz n.a1,jz n.b1,jz n.lo,jz n.hi,jz n.di,
 .bool n.on,jz n.gr,jz n.p.lo,jz n.p.hi,jz n.p.est,jz n.p.fr,pl,.bool n.cl,jz n.o0,jz n.o1,jz n.s0,jz n.s1,jz n.sc,.bool n.so,.bool n.ra,.bool n.ro,jz n.m0,jz n.m1,jz n.w.si,jz n.w.st,.bool n.w.fa]
theorem NvU.rowN_up{n:Nv}(h:NvU n):Up0 [n.rowP .nils]:=by
 obtain⟨h1,h2,h3,h4⟩:=h;exact⟨by simp only[Nv.rowP,k18,k0Q,AV.upto,h1.get,h2.get,h3.get];rfl⟩
theorem Rp.up(r:Rp):Up0 [r.row]:=⟨by
 have h:=(kL4 r.rt).get;simp only[Rp.row,Rp.rowL,k18,k0Q,AV.upto,h];rfl⟩
theorem Rp.upL(r:Rp):Up0 [r.rowL .nils]:=⟨by simp only[Rp.rowL,k18,k0Q,AV.upto];rfl⟩
theorem kI4{ss:List Sg}{gs:List Gr}(hT:k1I ss gs){from_ at_:Int}(hf:0<=from_/\from_<=1099511627776)(ha: -35184372088832<=at_/\at_<=35184372088832):∀(m:List (List Int)),(∀l,l∈m->k5X ss l)->∀s:Int×Bool,-1152921504606846976<=s.1/\s.1<=1152921504606846976 ->
 -1152921504606846976<=(m.foldl (k71 ss (kKO ss) from_ at_) s).1/\(m.foldl (k71 ss (kKO ss) from_ at_) s).1<=1152921504606846976
 | [],_,s,h=>h
 | l::m,hw,s,h=>by
   rw[List.foldl_cons];refine kI4 hT hf ha m (λx hx=>hw x (List.mem_cons_of_mem _ hx)) _ ?_;have h1:=hw l List.mem_cons_self;have h2:=kIB hT.lensOk hf h1.len.1;have h3:l≠[]:=λe=>by have:=h1.len.2;rw[e] at this;simp at this
   have h4:=kIA hT (k3L l).toNat (h1.seg _ (kH8 l h3)).2;have h5:kKO ss (k3L l).toNat=J (nxF ss) (k8J ss) ss.length (k3L l).toNat:=rfl;unfold k71;split
   ·exact h
   ·split
    ·simp only;omega
    ·exact h
theorem kQP{X m v:Int}(hX:0<=X)(hm:0<=m)(e:v=kQQ X m):k8Y X m v:=by
 have h:∃v,k8Y X m v:=by
  obtain⟨r,hr⟩:=kHS hX;exact⟨_,k9P hm hr⟩
 rw[e];unfold kQQ;rw[dif_pos h];exact Classical.choose_spec h
theorem kQN{c f:Int}(h:1<=c):0<=2*c*kQZ f:=by
 refine Int.mul_nonneg Z.o ?_;unfold kQZ;split<;>omega
theorem kMG{ss:List Sg}{gs:List Gr}(h:k1I ss gs):∀s,s∈ss->k9Z s.ps:=λs hs=>by
 obtain⟨j,hj⟩:=List.mem_iff_getElem?.1 hs;have hm:=(h.seg j (List.getElem?_eq_some_iff.1 hj).1 s hj).may;refine⟨hm.zero,hm.ne,hm.le,λi hi=>?_⟩;have hp:=hm.all i hi;obtain⟨p,hp2⟩:∃p,s.ps[i]?=some p:=⟨_,List.getElem?_eq_getElem hi⟩;have e:(s.ps.getD i (0,0))=p:=by rw[List.getD_eq_getElem?_getD,hp2];rfl
 rw[e];have:=hp p hp2;omega
theorem kTL{ss:List Sg}(hp:∀s,s∈ss->k9Z s.ps)(lo hi:Int):∀(l:List Int) (s:Int×Int×Bool) (a:Int),s.1<=s.2.1 /\ -1048576<=s.1/\s.2.1<=1048576->(grw ss lo hi s a l).1<=(grw ss lo hi s a l).2.1 /\ -1048576<=(grw ss lo hi s a l).1/\(grw ss lo hi s a l).2.1<=1048576
 | [],s,a,h=>h
 | n::l,s,a,h=>by
   unfold grw;refine kTL hp lo hi l _ _ ?_;split
   ·have hb:∀x y,(k9F (kEM ss n) x y (kEM ss n).length).1<=(k9F (kEM ss n) x y (kEM ss n).length).2.1 /\ -1048576<=(k9F (kEM ss n) x y (kEM ss n).length).1/\(k9F (kEM ss n) x y (kEM ss n).length).2.1<=1048576:=λx y=>by
     have h1:=k9E (kEM ss n) x y (kEM ss n).length
     have h2:=kH7 (ps:=kEM ss n) (λi hi=>by
      unfold kEM at hi ⊢;split at hi
      ·rename_i s hs
       exact(hp s (List.mem_of_getElem? hs)).gr i hi
      ·simp at hi) x y (kEM ss n).length (Nat.le_refl _)
     exact⟨h1,h2.1,h2.2.1⟩
    have:=hb (max lo a-a) (min hi (a+k1O ss n)-a);unfold kR4;split
    ·simp only;omega
    ·simp only;omega
   ·exact h
theorem kN8{ss:List Sg}(hp:∀s,s∈ss->k9Z s.ps)(lo hi fr:Int):∀(m:List (List Int)) (s:Int×Int×Bool),s.1<=s.2.1 /\ -1048576<=s.1/\s.2.1<=1048576->(m.foldl (λs l=>grw ss lo hi s (-fr) l) s).1<=(m.foldl (λs l=>grw ss lo hi s (-fr) l) s).2.1 /\ -1048576<=(m.foldl (λs l=>grw ss lo hi s (-fr) l) s).1/\(m.foldl (λs l=>grw ss lo hi s (-fr) l) s).2.1<=1048576
 | [],s,h=>h
 | l::m,s,h=>by
   rw[List.foldl_cons];exact kN8 hp lo hi fr m _ (kTL hp lo hi l s (-fr) h)
theorem kY8{ss:List Sg}(hp:∀s,s∈ss->k9Z s.ps)(mm:List (List Int)){n:Nv}(hg:n.g0<=n.g1 /\ -1048576<=n.g0/\n.g1<=1048576):(kBQ ss mm n).1<=(kBQ ss mm n).2 /\ -1048576<=(kBQ ss mm n).1/\(kBQ ss mm n).2<=1048576:=by
 have h:=kN8 hp n.p.lo n.p.hi n.p.fr mm (0,0,false) Z.d;unfold kBQ;split
 ·exact hg
 ·split
  ·exact hg
  ·simp only
   split
   ·exact h
   ·exact hg
theorem kTM{l:List Int}(h:k0H l)(he:(frV l).e=0):((frV l).k=1\/(frV l).k=2\/(frV l).k=5)/\0<=(frV l).v/\(frV l).v<=65535\/((frV l).k=3\/(frV l).k=4) /\ -2147483648<=(frV l).v/\(frV l).v<=2147483647:=by
 unfold frV at he ⊢;split at he
 ·simp at he
 split at he
 ·simp at he
 split at he
 ·simp at he
 split at he
 ·simp at he
 rename_i h1 h2 h3 h4;rw[if_neg h1,if_neg h2,if_neg h3,if_neg h4];simp only;have hk:=kA2 (l.getD 0 0);have zE:(l.length:Int)=5+k70 (l.getD 0 0):=Classical.byContradiction λhn=>h3 (.inr hn);rcases hk with hk|⟨hk,hk2⟩|⟨hk,hk2⟩
 ·exact absurd hk h2
 ·rw[hk,if_neg Z.d]
  refine .inl ⟨hk2,?_⟩;obtain⟨a,b,c,d,e,f,g,rfl⟩:=q37 l Z.o;have hd:=h d (by simp);have he:=h e (by simp);show 0<=(0*256+d)*256+e/\(0*256+d)*256+e<=65535;omega
 ·rw[hk,if_pos rfl]
  refine .inr ⟨hk2,?_⟩;obtain⟨a,b,c,d,e,f,g,x,y,rfl⟩:=q36 l Z.o;have hd:=h d (by simp);have he:=h e (by simp);have hf:=h f (by simp);have hg:=h g (by simp);show -2147483648<=kLW ((((0*256+d)*256+e)*256+f)*256+g)/\kLW ((((0*256+d)*256+e)*256+f)*256+g)<=2147483647;unfold kLW;split<;>omega
theorem kMS{s:Int}{m:Ml}(h:kKS m){l:List Int}(hl:k0H l):kKS (k88 s m (frV l)):=by
 have hf:=kTM hl;unfold k88;split
 ·exact⟨h.v1,h.v2,h.v3,h.v4⟩
 ·rename_i he
  have he:(frV l).e=0:=Classical.not_not.1 he;have hf:=hf he;split
  ·exact⟨h.v1,h.v2,h.v3,h.v4⟩
  ·split
   ·exact⟨h.v1,h.v2,h.v3,h.v4⟩
   ·generalize frV l=F at hf ⊢
    obtain⟨k,sq,v,e⟩:=F;simp only at hf;obtain⟨p1,p2,p3,p4⟩:=h;obtain⟨h1,h2,h3,h4,h5,v1,v2,v3,v4,v5,bad,stale,twice,beyond⟩:=m;have hk:k=1\/k=2\/k=3\/k=4\/k=5:=(by omega);rcases hk with rfl|rfl|rfl|rfl|rfl
    ·show kKS ⟨true,h2,h3,h4,h5,v,v2,v3,v4,v5,bad,stale,twice,beyond⟩
     exact⟨λ_=>by show 0<=v/\v<=65535;omega,λh=>p2 h,λh=>p3 h,λh=>p4 h⟩
    ·show kKS ⟨h1,true,h3,h4,h5,v1,v,v3,v4,v5,bad,stale,twice,beyond⟩
     exact⟨λh=>p1 h,λ_=>by show 0<=v/\v<=65535;omega,λh=>p3 h,λh=>p4 h⟩
    ·show kKS ⟨h1,h2,true,h4,h5,v1,v2,v,v4,v5,bad,stale,twice,beyond⟩
     exact⟨λh=>p1 h,λh=>p2 h,λ_=>by show -2147483648<=v/\v<=2147483648;omega,λh=>p4 h⟩
    ·show kKS ⟨h1,h2,h3,true,h5,v1,v2,v3,v,v5,bad,stale,twice,beyond⟩
     exact⟨λh=>p1 h,λh=>p2 h,λh=>p3 h,λ_=>by show -2147483648<=v/\v<=2147483648;omega⟩
    ·show kKS ⟨h1,h2,h3,h4,true,v1,v2,v3,v4,v,bad,stale,twice,beyond⟩
     exact⟨λh=>p1 h,λh=>p2 h,λh=>p3 h,λh=>p4 h⟩
theorem kEU{s:Int}:∀(l:List (List Int)) (m:Ml),kKS m->(∀b,b∈l->k0H b)->kKS (l.foldl (λm b=>k88 s m (frV b)) m)
 | [],m,h,_=>h
 | b::l,m,h,hb=>by
   rw[List.foldl_cons];exact kEU l _ (kMS h (hb b List.mem_cons_self)) λx hx=>hb x (List.mem_cons_of_mem _ hx)
theorem kMT(c:Int){l:List (List Int)}(h:∀b,b∈l->k0H b):kKS (k52 c l):=by
 unfold k52;refine kEU _ _ ?_ λb hb=>h b (List.mem_of_mem_take hb);exact⟨λh=>by simp[ml0,Ml.has] at h,λh=>by simp[ml0,Ml.has] at h,λh=>by simp[ml0,Ml.has] at h,λh=>by simp[ml0,Ml.has] at h⟩
structure kYH(ss:List Sg)(gs:List Gr)(n:Nv)(mm:List (List Int)):Prop where
 fr:0<=n.p.fr/\n.p.fr<=1099511627776
 ok:q19 ss ⟨n.p.lo,n.p.hi,n.p.est,mm⟩
 ne:mm≠[]
 rs:n.p.rs=mm.map rtC
 gr:0<=n.gr/\∃G,gs[n.gr.toNat]?=some G
structure k6R(ss:List Sg)(gs:List Gr)(n:Nv)(mm:List (List Int))(k:Int):Prop where
 cf:kKJ n.c
 tr:k1I ss gs
 es:n.es=ss.map k0Y
 ds:n.ds=gs.map k14
 os:n.os=(List.range ss.length).map λx=>[jz (kKO ss x)]
 kk:0<=k/\k<=1000000
 cy:n.cy=k
 g:n.g0<=n.g1 /\ -1048576<=n.g0/\n.g1<=1048576
 k0: -32768*k<=n.k0.su/\n.k0.su<=32768*k
 k1: -32768*k<=n.k1.su/\n.k1.su<=32768*k
 c0:0<n.a0/\n.a0<=n.b0/\n.b0<=8388608
 c1:0<n.a1/\n.a1<=n.b1/\n.b1<=8388608
 sp: -n.c.c6<=n.lo/\n.lo<=n.hi/\n.hi<=n.c.c6
 di:0<=n.di/\n.di<=16777216*k
 on:n.on=true->kYH ss gs n mm
 off:n.on=false->n.gr=0/\n.p=kJM/\mm=[]
 or: -17592186044416<=n.o0/\n.o0<=n.o1/\n.o1<=17592186044416
 s0: -32768*k<=n.s0/\n.s0<=32768*k
 s1: -32768*k<=n.s1/\n.s1<=32768*k
 sc:0<=n.sc/\n.sc<=1000
 mo:n.m0<=n.m1 /\ -16777216*k<=n.m0/\n.m1<=16777216*k
 ws:0<=n.w.si/\n.w.si<=1001
 wt:0<=n.w.st/\n.w.st<=1001
theorem k6R.nvu{ss:List Sg}{gs:List Gr}{n:Nv}{mm:List (List Int)}{k:Int}(h:k6R ss gs n mm k):NvU n:=by
 refine⟨by rw[h.es];exact k42 ss,by rw[h.ds];exact k43 gs,?_,?_⟩
 ·rw[h.os];exact k1D (f:=λx=>[jz (kKO ss x)]) (λd=>rfl) _
 ·cases ho:n.on with
  | true=>rw[(h.on ho).rs];exact k1D (f:=rtC) (λd=>rfl) mm
  | false=>rw[(h.off ho).2.1];exact⟨rfl⟩
theorem kYH.plc{ss:List Sg}{gs:List Gr}{n:Nv}{mm:List (List Int)}(h:kYH ss gs n mm):kKI ss mm n:=
 ⟨h.fr,λl hl=>⟨(h.ok.way l hl).len.1,(h.ok.way l hl).seg⟩,h.ok.few,h.rs⟩
theorem k6R.sn{ss:List Sg}{gs:List Gr}{n:Nv}{mm:List (List Int)}{k:Int}(h:k6R ss gs n mm k):q2M n:=by
 have h1:=h.k0;have h2:=h.k1;have h3:=h.kk;exact⟨h.cf,⟨by omega,by omega⟩,⟨by omega,by omega⟩,h.c0,h.c1,h.sp⟩
theorem kZJ(k:Ct)(v:Int)(has:Bool): -32768<=(pnV k v has).1.su-k.su/\(pnV k v has).1.su-k.su<=32768:=by
 unfold pnV;split
 ·simp only;omega
 ·split
  ·simp only;omega
  ·unfold kSL;simp only;omega
theorem kKJ.in_{c:Cf}(h:kKJ c):(1<=c.c0/\c.c0<=1024)/\(131072<=c.c1/\c.c1<=c.c2/\c.c2<=8388608)/\(1<=c.c6/\c.c6<=16777216)/\(1<=c.c7/\c.c7<=1048576)/\(0<=c.c8/\c.c8<=1048576)/\(1<=c.c9/\c.c9<=1000)/\(0<=c.c10/\c.c10<=16777216)/\(0<=c.c11/\c.c11<=1073741824)/\(1<=c.c12/\c.c12<=1000)/\1<=c.c13/\c.c13<=1048576:=by
 unfold kKJ k6S at h;omega
section
variable {ss:List Sg} {gs:List Gr} {n:Nv} {mm:List (List Int)} {k:Int}
theorem kEH(m:Ml):(kC0 ss mm n m).1={ n with k0:=(pnV n.k0 (m.val 1) (m.has 1)).1,k1:=(pnV n.k1 (m.val 2) (m.has 2)).1 }:=rfl
theorem kT8(m:Ml)(h7:0<=n.c.c7)(h6:0<=n.c.c6)(hsp: -n.c.c6<=n.lo/\n.lo<=n.hi/\n.hi<=n.c.c6):(max (n.lo-n.c.c7) (-n.c.c6)<=(kC0 ss mm n m).2.lo/\(kC0 ss mm n m).2.lo<=(kC0 ss mm n m).2.hi/\(kC0 ss mm n m).2.hi<=min (n.hi+n.c.c7) n.c.c6)/\0<=(kC0 ss mm n m).2.n/\(kC0 ss mm n m).2.n<=3:=by
 unfold kC0;simp only;exact⟨q05 Z.o _ _ _ _ _ _ _ _ _ _ _ _,q2C _ _ _ _ _ _ _ _ _ _ _ _ _ _⟩
theorem k6R.sense(h:k6R ss gs n mm k)(hk:k<1000000)(m:Ml)(cl:Bool):k6R ss gs { (kC0 ss mm { n with cy:=n.cy+1 } m).1 with cl:=cl } mm (k+1):=by
 rw[kEH];obtain⟨cf,tr,es,ds,os,kk,cy,g,k0,k1,c0,c1,sp,di,on,off,or_,s0,s1,sc,mo,ws,wt⟩:=h;have p0:=kZJ n.k0 (m.val 1) (m.has 1);have p1:=kZJ n.k1 (m.val 2) (m.has 2);refine⟨cf,tr,es,ds,os,by omega,by simp only;omega,g,by simp only;omega,by simp only;omega,c0,c1,sp,by simp only;omega,λho=>?_,off,or_,by simp only;omega,by simp only;omega,sc,by simp only;omega,ws,wt⟩;obtain⟨a1,a2,a3,a4,a5⟩:=on ho;exact⟨a1,a2,a3,a4,a5⟩
theorem q17{a b c:Int}(ha: -c<=a)(hb:b<=c)(hab:a<=b):0<=kAA ((a+b)/2)/\kAA ((a+b)/2)<=c:=by
 unfold kAA;split<;>omega
theorem k6R.move(h:k6R ss gs n mm k){a b:Int}(hab:a<=b)(ha: -n.c.c6<=a)(hb:b<=n.c.c6)(hdi:n.di<=16777216*(k-1)):k6R ss gs (k9X ss mm n a b).1 (k9X ss mm n a b).2.1 k:=by
 obtain⟨cf,tr,es,ds,os,kk,cy,g,k0,k1,c0,c1,sp,di,on,off,or_,s0,s1,sc,mo,ws,wt⟩:=h;have hc:=cf.in_;have hd:=q17 ha hb hab;unfold k9X
 cases ho:n.on with
 | false =>
   rw[if_neg Z.d];exact⟨cf,tr,es,ds,os,kk,cy,g,k0,k1,c0,c1,⟨ha,hab,hb⟩,by simp only;omega,(λh=>by first|cases h|(simp only at h;rw[ho] at h;cases h)),λ_=>off ho,or_,s0,s1,sc,mo,ws,wt⟩
 | true =>
   rw[if_pos rfl];obtain⟨a1,a2,a3,a4,a5⟩:=on ho;have hm:=kI0 (from_:=n.p.fr) tr.nextOk a2 hab (q:=(k7N ss n.p.fr ⟨n.p.lo,n.p.hi,n.p.est,mm⟩ a b).1) (e:=(k7N ss n.p.fr ⟨n.p.lo,n.p.hi,n.p.est,mm⟩ a b).2) rfl;split
   ·rename_i he
    rcases hm with ⟨_,hq⟩|hm
    ·refine⟨cf,tr,es,ds,os,kk,cy,g,k0,k1,c0,c1,⟨ha,hab,hb⟩,by simp only;omega,λ_=>⟨a1,hq,?_,rfl,a5⟩,λh=>?_,or_,s0,s1,sc,mo,ws,wt⟩
     ·unfold k7N at he ⊢
      split
      ·rename_i hx;rw[if_pos hx] at he;simp at he
      ·rename_i hx
       rw[if_neg hx] at he;simp only at he ⊢;rcases kDC (lo:=n.p.lo+a) (hi:=n.p.hi+b) (from_:=n.p.fr) tr.nextOk mm a2.way rfl with hc|hc
       ·exact absurd he hc.1
       ·exact hc.2.2.some
     ·first|cases h|(simp only at h;rw[ho] at h;cases h)
    ·omega
   ·exact⟨cf,tr,es,ds,os,kk,cy,g,k0,k1,c0,c1,⟨ha,hab,hb⟩,by simp only;omega,(λh=>by cases h),λ_=>⟨rfl,rfl,rfl⟩,or_,s0,s1,sc,mo,ws,wt⟩
theorem kMW{c d a b p m:Int}(h:0<c/\c<=d/\d<=8388608):0<(kP7 c d a b p m).1/\(kP7 c d a b p m).1<=(kP7 c d a b p m).2/\(kP7 c d a b p m).2<=8388608:=by
 unfold kP7;split
 ·exact h
 ·simp only;omega
theorem kEZ{c d a b p m:Int}(h:0<c/\c<=d/\d<=8388608):0<(k57 c d a b p m).1/\(k57 c d a b p m).1<=(k57 c d a b p m).2/\(k57 c d a b p m).2<=8388608:=by
 unfold k57;split
 ·exact kMW h
 ·exact kMW h
theorem kZU(n m:Nv)(l:List Int):∃x0 y0 x1 y1,lrn? n m l={ m with a0:=x0,b0:=y0,a1:=x1,b1:=y1 }/\(0<m.a0/\m.a0<=m.b0/\m.b0<=8388608->0<x0/\x0<=y0/\y0<=8388608)/\(0<m.a1/\m.a1<=m.b1/\m.b1<=8388608->0<x1/\x1<=y1/\y1<=8388608):=by
 unfold lrn?;split
 ·exact⟨_,_,_,_,rfl,λh=>kEZ h,λh=>kEZ h⟩
 ·exact⟨_,_,_,_,rfl,id,id⟩
theorem k6R.accept(h:k6R ss gs n mm k){x:Fo}(hg:0<=x.g){G:Gr}(hG:gs[x.g.toNat]?=some G){a b:Int}(hab:a<=b)(ha: -n.c.c6<=a)(hb:b<=n.c.c6):k6R ss gs (kJ0 G n x a b) [[G.seg]] k:=by
 obtain⟨cf,tr,es,ds,os,kk,cy,g,k0,k1,c0,c1,sp,di,on,off,or_,s0,s1,sc,mo,ws,wt⟩:=h;have hc:=cf.in_;obtain⟨q1,q2,q3,q4,q5,q6,q7,q8,q9,q10,_⟩:=tr.grp x.g.toNat (List.getElem?_eq_some_iff.1 hG).1 G hG;obtain⟨s,hs⟩:∃s,ss[G.seg.toNat]?=some s:=⟨_,List.getElem?_eq_getElem q4⟩;have hoff:=q6 s hs;have zE:=(tr.seg _ q4 s hs).le;unfold kJ0;obtain⟨x0,y0,x1,y1,e,l0,l1⟩:=kZU n (kVK G n x.g a b) x.at_;rw[e];refine⟨cf,tr,es,ds,os,kk,cy,g,k0,k1,l0 c0,l1 c1,sp,di,λ_=>⟨⟨q5,by show G.off<=_;omega⟩,⟨?_,?_,?_,?_,(by show 1<=16;decide)⟩,by simp,rfl,hg,G,hG⟩,(λh=>by cases h),?_,k0,k1,sc,mo,ws,wt⟩
 ·show -17592186044416 <= -(G.acc+n.c.c8)+min 0 a;omega
 ·show G.acc+n.c.c8+max 0 b<=17592186044416;omega
 ·show -(G.acc+n.c.c8)+min 0 a<=(-(G.acc+n.c.c8)+min 0 a+(G.acc+n.c.c8+max 0 b))/2/\(-(G.acc+n.c.c8)+min 0 a+(G.acc+n.c.c8+max 0 b))/2<=G.acc+n.c.c8+max 0 b
  omega
 ·intro l hl
  obtain rfl:=List.mem_singleton.1 hl;exact⟨by simp,λm hm=>by obtain rfl:=List.mem_singleton.1 hm;exact⟨q3,q4⟩⟩
 ·show -17592186044416 <= -(G.acc+n.c.c8)+min 0 a /\ -(G.acc+n.c.c8)+min 0 a<=G.acc+n.c.c8+max 0 b/\G.acc+n.c.c8+max 0 b<=17592186044416
  omega
theorem kU0{a b:Int}{o:Bool}(hb:0<=b/\b<=1001)(ha:0<=a):0<=kSP a b o/\kSP a b o<=1001:=by
 unfold kSP;split<;>omega
theorem k6R.watch(h:k6R ss gs n mm k)(fit:Int)(cf ov ac:Bool):k6R ss gs (k7J { n with w:=wtV n.c.c12 n.w fit cf ov ac } mm).1 (k7J { n with w:=wtV n.c.c12 n.w fit cf ov ac } mm).2 k:=by
 obtain⟨cf',tr,es,ds,os,kk,cy,g,k0,k1,c0,c1,sp,di,on,off,or_,s0,s1,sc,mo,ws,wt⟩:=h;have hc:=cf'.in_;have w1:=kU0 (a:=n.w.si) (b:=n.c.c12+1) (o:=decide (fit<1)) Z.o ws.1;have w2:=kU0 (a:=n.w.st) (b:=n.c.c12+1) (o:=cf) Z.o wt.1;unfold k7J;split
 ·exact⟨cf',tr,es,ds,os,kk,cy,g,k0,k1,c0,c1,sp,di,(λh=>by cases h),λ_=>⟨rfl,rfl,rfl⟩,or_,s0,s1,sc,mo,w1,w2⟩
 ·refine⟨cf',tr,es,ds,os,kk,cy,g,k0,k1,c0,c1,sp,di,λho=>?_,off,or_,s0,s1,sc,mo,w1,w2⟩
  obtain⟨a1,a2,a3,a4,a5⟩:=on ho;exact⟨a1,a2,a3,a4,a5⟩
theorem kPS{c9 c10 m lo hi fit:Int}(h9:1<=c9/\c9<=1000)(hm:0<=m):0<=k77 c9 c10 m lo hi fit/\k77 c9 c10 m lo hi fit<=1000:=by
 unfold k77;split<;>omega
theorem k6R.roll(h:k6R ss gs n mm k){a b:Int}(hab:a<=b)(ha: -n.c.c6<=a)(hb:b<=n.c.c6)(hm: -16777216*(k-1)<=n.m0/\n.m1<=16777216*(k-1))(h1:1<=k)(fit:Int)(so st com:Bool) :
 k6R ss gs { n with sc:=k77 n.c.c9 n.c.c10 n.sc a b fit,so:=so,ra:=(k44 n.c.c11 ⟨n.ra,n.ro,n.m0,n.m1⟩ st com a b).an,ro:=(k44 n.c.c11 ⟨n.ra,n.ro,n.m0,n.m1⟩ st com a b).on,m0:=(k44 n.c.c11 ⟨n.ra,n.ro,n.m0,n.m1⟩ st com a b).lo,m1:=(k44 n.c.c11 ⟨n.ra,n.ro,n.m0,n.m1⟩ st com a b).hi } mm k:=by
 obtain⟨cf,tr,es,ds,os,kk,cy,g,k0,k1,c0,c1,sp,di,on,off,or_,s0,s1,sc,mo,ws,wt⟩:=h;have hc:=cf.in_;have hs:=kPS (c10:=n.c.c10) (lo:=a) (hi:=b) (fit:=fit) hc.2.2.2.2.2.1 sc.1
 have hr:(k44 n.c.c11 ⟨n.ra,n.ro,n.m0,n.m1⟩ st com a b).lo<=(k44 n.c.c11 ⟨n.ra,n.ro,n.m0,n.m1⟩ st com a b).hi /\ -16777216*k<=(k44 n.c.c11 ⟨n.ra,n.ro,n.m0,n.m1⟩ st com a b).lo/\(k44 n.c.c11 ⟨n.ra,n.ro,n.m0,n.m1⟩ st com a b).hi<=16777216*k:=by
  unfold k44;split
  ·simp only;omega
  ·split
   ·simp only;omega
   ·simp only;omega
 refine⟨cf,tr,es,ds,os,kk,cy,g,k0,k1,c0,c1,sp,di,λho=>?_,off,or_,s0,s1,hs,hr,ws,wt⟩;obtain⟨a1,a2,a3,a4,a5⟩:=on ho;exact⟨a1,a2,a3,a4,a5⟩
end
end Go.Proofs.YtlchlddijclhjaaGreat
