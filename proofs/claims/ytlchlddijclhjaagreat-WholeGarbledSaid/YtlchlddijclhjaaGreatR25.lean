/- Parts of the proofs. -/
import Derived.Test.YtlchlddijclhjaaGreatR23
import Derived.Test.YtlchlddijclhjaaGreatR22
import Derived.Test.YtlchlddijclhjaaGreatR9
import Derived.Test.YtlchlddijclhjaaGreatR10
import Derived.Test.YtlchlddijclhjaaGreatR19
import Derived.Test.YtlchlddijclhjaaGreatRZ
set_option linter.unusedVariables false
set_option linter.unusedSimpArgs false
set_option maxHeartbeats 4000000
namespace Go.Proofs.YtlchlddijclhjaaGreat
open Go Go.RowKit Go.Eng
structure Rp where
 cy:Int
 md:Int
 gr:Int
 lo:Int
 hi:Int
 es:Int
 sl:Int
 sh:Int
 no:Int
 di:Int
 rt:List (List Int)
 fi:Int
 cl:Bool
 cf:Bool
 s0:Int
 s1:Int
 ac:Bool
 fa:Bool
 st:Bool
 ro:Bool
 ov:Bool
 ml:Int
 mh:Int
 pe:Int
 a0:Int
 b0:Int
 a1:Int
 b1:Int
 bad:Int
 sta:Int
 twi:Int
 bey:Int
def Rp.rowL(r:Rp)(rt:AV):List AV:=jz r.cy::[jz r.md,jz r.gr,jz r.lo,jz r.hi,jz r.es,jz r.sl,jz r.sh,jz r.no,jz r.di,rt,jz r.fi,.bool r.cl,.bool r.cf,jz r.s0,jz r.s1,.bool r.ac,.bool r.fa,.bool r.st,.bool r.ro,.bool r.ov,jz r.ml,jz r.mh,jz r.pe,jz r.a0,jz r.b0,jz r.a1,jz r.b1,jz r.bad,jz r.sta,jz r.twi,jz r.bey]
def Rp.row(r:Rp):List AV:=r.rowL (.list 1 (r.rt.map D7))
def rp0(cy:Int):Rp:=⟨cy,4,0,0,0,0,0,0,0,0,[],0,false,false,0,0,false,false,false,false,false,0,0,0,0,0,0,0,0,0,0,0⟩
def JH(gs:List Gr)(n:Nv)(mm:List (List Int))(x:Fo)(a b:Int):Nv×List (List Int):=match gs[x.g.toNat]? with|some G=>(C_ G n x a b,[[G.seg]])|none=>(n,mm)
def FY(ss:List Sg)(gs:List Gr)(mm:List (List Int))(n:Nv)(wl wh:Int)(m:Ml)(a b:Int):Fo:=
 if m.has 5=false then ⟨0,[],true,false⟩
 else match gs.findIdx? λG=>G.id == m.val 5 with
  | none=>⟨0,[],false,false⟩
  | some i=>match gs[i]? with
    | none=>⟨0,[],false,false⟩
    | some G=>if n.on=false then ⟨i,[],true,true⟩ else ⟨i,FH ss mm n wl wh a b G,decide (0<(FH ss mm n wl wh a b G).length),decide (0<(FH ss mm n wl wh a b G).length)⟩
noncomputable def MI(X m:Int):Int:=by
 classical
 exact if h:∃v,GY X m v then Classical.choose h else 0
def Er(ss:List Sg):Nat->Int:=J (nxF ss) (Bc ss) ss.length
def peV(b:Bool)(x y:Int):Int:=match b with|true=>x|false=>y
noncomputable def BZ(ss:List Sg)(gs:List Gr)(mm:List (List Int))(r:Rp)(n:Nv)(f:Fu):Rp:=
 let r1:Rp:={ r with fi:=f.n,cl:=f.cl,cf:=f.cf,s0:=f.s0,s1:=f.s1,sl:=f.lo,sh:=f.hi,no:=(f.lo+f.hi)/2,di:=n.di,st:=n.so,ro:=n.ro,ml:=n.m0,mh:=n.m1,a0:=n.a0,b0:=n.b0,a1:=n.a1,b1:=n.b1,md:=EB n.w.fa n.on f.n f.cf,pe:=n.c.c6 }
 match n.on with
 | false=>r1
 | true =>
   let v:=mm.foldl (DZ ss (Er ss) n.p.fr n.p.hi) (0,false)
   let pe:=peV v.2 (MI (2*n.c.c13*GZ v.1) n.c.c6) n.c.c6
   { r1 with gr:=(match gs[n.gr.toNat]? with|some G=>G.id|none=>0),lo:=n.p.lo,hi:=n.p.hi,es:=n.p.est,rt:=mm,pe:=pe,ov:=decide (pe<f.hi) }
structure Ex where
 n:Nv
 mm:List (List Int)
 r:Rp
def BO(n:Nv)(mm:List (List Int)):Nv×List (List Int):=match n.w.fa with|true=>({ n with on:=false,gr:=0,p:=JG },[])|false=>(n,mm)
noncomputable def stepE(ss:List Sg)(gs:List Gr)(n:Nv)(m:Ml)(com:Bool)(f:Fu)(ov:Bool)(x:Fo)(u:Nv×List (List Int)):Ex:=
 let n6:Nv:={ u.1 with w:=wtV n.c.c12 u.1.w f.n f.cf ov x.ac }
 let t:=BO n6 u.2
 let sc:=En n.c.c9 n.c.c10 t.1.sc f.lo f.hi f.n
 let q:=Dj n.c.c11 ⟨t.1.ra,t.1.ro,t.1.m0,t.1.m1⟩ (decide (n.c.c9<=sc)) com f.lo f.hi
 let n9:Nv:={ t.1 with sc:=sc,so:=decide (n.c.c9<=sc),ra:=q.an,ro:=q.on,m0:=q.lo,m1:=q.hi }
 ⟨n9,t.2,BZ ss gs t.2 { rp0 n.cy with bad:=m.bad,sta:=m.stale,twi:=m.twice,bey:=m.beyond,ac:=x.ac,fa:= !x.ok } n9 f⟩
def Dz(gs:List Gr)(x:Fo)(n:Nv)(mm:List (List Int))(a b:Int):Nv×List (List Int):=match x.ac with|true=>JH gs n mm x a b|false=>(n,mm)
noncomputable def IP(ss:List Sg)(gs:List Gr)(n:Nv)(m:Ml)(com:Bool)(f:Fu)(n3:Nv)(z:Nv×List (List Int)×Bool):Ex:=
 let x:=FY ss gs z.2.1 z.1 n3.p.lo n3.p.hi m f.lo f.hi
 stepE ss gs n m com f z.2.2 x (Dz gs x z.1 z.2.1 f.lo f.hi)
noncomputable def IM(ss:List Sg)(gs:List Gr)(n:Nv)(mm:List (List Int))(m:Ml)(com:Bool)(y:Nv×Fu):Ex:=
 let n3:Nv:={ y.1 with cl:=y.1.cl && y.2.cl }
 IP ss gs n m com y.2 n3 (Bi ss mm n3 y.2.lo y.2.hi)
noncomputable def Bp(ss:List Sg)(gs:List Gr)(n:Nv)(mm:List (List Int))(l:List (List Int))(com:Bool):Ex:=
 IM ss gs n mm (Cc n.cy l) com (Ce ss mm { n with cy:=n.cy+1 } (Cc n.cy l))
def Nv.rowP(n:Nv)(pl:AV):List AV:=jz n.c.c0::jz n.c.c1::jz n.c.c2::jz n.c.c3::jz n.c.c4::jz n.c.c5::jz n.c.c6::jz n.c.c7::jz n.c.c8::jz n.c.c9::jz n.c.c10::jz n.c.c11::jz n.c.c12::jz n.c.c13 ::
 .list 3 n.es :: .list 5 n.ds :: .bool false::jz n.cy::jz n.g0::jz n.g1 :: .list 1 n.os :: .bool n.k0.kn :: .int .u16 n.k0.la::jz n.k0.su::[.bool n.k1.kn,.int .u16 n.k1.la,jz n.k1.su,jz n.a0,jz n.b0,jz n.a1,jz n.b1,jz n.lo,jz n.hi,jz n.di,
 .bool n.on,jz n.gr,jz n.p.lo,jz n.p.hi,jz n.p.est,jz n.p.fr,pl,.bool n.cl,jz n.o0,jz n.o1,jz n.s0,jz n.s1,jz n.sc,.bool n.so,.bool n.ra,.bool n.ro,jz n.m0,jz n.m1,jz n.w.si,jz n.w.st,.bool n.w.fa]
theorem NvU.rowN_up{n:Nv}(h:NvU n):Up0 [n.rowP .nils]:=by
 obtain⟨h1,h2,h3,h4⟩:=h;exact⟨by simp only[Nv.rowP,BC,Af,AV.upto,h1.get,h2.get,h3.get];rfl⟩
theorem Rp.up(r:Rp):Up0 [r.row]:=⟨by
 have h:=(JQ r.rt).get;simp only[Rp.row,Rp.rowL,BC,Af,AV.upto,h];rfl⟩
theorem Rp.upL(r:Rp):Up0 [r.rowL .nils]:=⟨by simp only[Rp.rowL,BC,Af,AV.upto];rfl⟩
theorem Sb{ss:List Sg}{gs:List Gr}(hT:BN ss gs){from_ at_:Int}(hf:0<=from_/\from_<=1099511627776)(ha: -35184372088832<=at_/\at_<=35184372088832):∀(m:List (List Int)),(∀l,l∈m->Cu ss l)->∀s:Int×Bool,-1152921504606846976<=s.1/\s.1<=1152921504606846976 ->
 -1152921504606846976<=(m.foldl (DZ ss (Er ss) from_ at_) s).1/\(m.foldl (DZ ss (Er ss) from_ at_) s).1<=1152921504606846976
 | [],_,s,h=>h
 | l::m,hw,s,h=>by
   rw[List.foldl_cons];refine Sb hT hf ha m (λx hx=>hw x (List.mem_cons_of_mem _ hx)) _ ?_;have h1:=hw l List.mem_cons_self;have h2:=Sj hT.lensOk hf h1.len.1;have h3:l≠[]:=λe=>by have:=h1.len.2;rw[e] at this;simp at this
   have h4:=Sa hT (Bw l).toNat (h1.seg _ (Oi l h3)).2;have h5:Er ss (Bw l).toNat=J (nxF ss) (Bc ss) ss.length (Bw l).toNat:=rfl;unfold DZ;split
   ·exact h
   ·split
    ·simp only;omega
    ·exact h
theorem aJ{X m v:Int}(hX:0<=X)(hm:0<=m)(e:v=MI X m):GY X m v:=by
 have h:∃v,GY X m v:=by
  obtain⟨r,hr⟩:=Ru hX;exact⟨_,Rw hm hr⟩
 rw[e];unfold MI;rw[dif_pos h];exact Classical.choose_spec h
theorem aK{c f:Int}(h:1<=c):0<=2*c*GZ f:=by
 refine Int.mul_nonneg Z.o ?_;unfold GZ;split<;>omega
theorem ND{ss:List Sg}{gs:List Gr}(h:BN ss gs):∀s,s∈ss->Ev s.ps:=λs hs=>by
 obtain⟨j,hj⟩:=List.mem_iff_getElem?.1 hs;have hm:=(h.seg j (List.getElem?_eq_some_iff.1 hj).1 s hj).may;refine⟨hm.zero,hm.ne,hm.le,λi hi=>?_⟩;have hp:=hm.all i hi;obtain⟨p,mH⟩:∃p,s.ps[i]?=some p:=⟨_,List.getElem?_eq_getElem hi⟩;have e:(s.ps.getD i (0,0))=p:=by rw[List.getD_eq_getElem?_getD,mH];rfl
 rw[e];have:=hp p mH;omega
theorem Sl{ss:List Sg}(hp:∀s,s∈ss->Ev s.ps)(lo hi:Int):∀(l:List Int) (s:Int×Int×Bool) (a:Int),s.1<=s.2.1 /\ -1048576<=s.1/\s.2.1<=1048576->(grw ss lo hi s a l).1<=(grw ss lo hi s a l).2.1 /\ -1048576<=(grw ss lo hi s a l).1/\(grw ss lo hi s a l).2.1<=1048576
 | [],s,a,h=>h
 | n::l,s,a,h=>by
   unfold grw;refine Sl hp lo hi l _ _ ?_;split
   ·have hb:∀x y,(Bl (DI ss n) x y (DI ss n).length).1<=(Bl (DI ss n) x y (DI ss n).length).2.1 /\ -1048576<=(Bl (DI ss n) x y (DI ss n).length).1/\(Bl (DI ss n) x y (DI ss n).length).2.1<=1048576:=λx y=>by
     have h1:=JK (DI ss n) x y (DI ss n).length
     have h2:=Oq (ps:=DI ss n) (λi hi=>by
      unfold DI at hi ⊢;split at hi
      ·rename_i s hs
       exact(hp s (List.mem_of_getElem? hs)).gr i hi
      ·simp at hi) x y (DI ss n).length (Nat.le_refl _)
     exact⟨h1,h2.1,h2.2.1⟩
    have:=hb (max lo a-a) (min hi (a+BD ss n)-a);unfold LJ;split
    ·simp only;omega
    ·simp only;omega
   ·exact h
theorem Sm{ss:List Sg}(hp:∀s,s∈ss->Ev s.ps)(lo hi fr:Int):∀(m:List (List Int)) (s:Int×Int×Bool),s.1<=s.2.1 /\ -1048576<=s.1/\s.2.1<=1048576->(m.foldl (λs l=>grw ss lo hi s (-fr) l) s).1<=(m.foldl (λs l=>grw ss lo hi s (-fr) l) s).2.1 /\ -1048576<=(m.foldl (λs l=>grw ss lo hi s (-fr) l) s).1/\(m.foldl (λs l=>grw ss lo hi s (-fr) l) s).2.1<=1048576
 | [],s,h=>h
 | l::m,s,h=>by
   rw[List.foldl_cons];exact Sm hp lo hi fr m _ (Sl hp lo hi l s (-fr) h)
theorem Vm{ss:List Sg}(hp:∀s,s∈ss->Ev s.ps)(mm:List (List Int)){n:Nv}(hg:n.g0<=n.g1 /\ -1048576<=n.g0/\n.g1<=1048576):(CX ss mm n).1<=(CX ss mm n).2 /\ -1048576<=(CX ss mm n).1/\(CX ss mm n).2<=1048576:=by
 have h:=Sm hp n.p.lo n.p.hi n.p.fr mm (0,0,false) Z.d;unfold CX;split
 ·exact hg
 ·split
  ·exact hg
  ·simp only
   split
   ·exact h
   ·exact hg
theorem QB{l:List Int}(h:Ar l)(he:(frV l).e=0):((frV l).k=1\/(frV l).k=2\/(frV l).k=5)/\0<=(frV l).v/\(frV l).v<=65535\/((frV l).k=3\/(frV l).k=4) /\ -2147483648<=(frV l).v/\(frV l).v<=2147483647:=by
 unfold frV at he ⊢;split at he
 ·simp at he
 split at he
 ·simp at he
 split at he
 ·simp at he
 split at he
 ·simp at he
 rename_i h1 h2 h3 h4;rw[if_neg h1,if_neg h2,if_neg h3,if_neg h4];simp only;have hk:=MJ (l.getD 0 0);have zH:(l.length:Int)=5+Da (l.getD 0 0):=Classical.byContradiction λhn=>h3 (.inr hn);rcases hk with hk|⟨hk,wB⟩|⟨hk,wB⟩
 ·exact absurd hk h2
 ·rw[hk,if_neg Z.d]
  refine .inl ⟨wB,?_⟩;obtain⟨a,b,c,d,e,f,g,rfl⟩:=Sn l Z.o;have hd:=h d (by simp);have he:=h e (by simp);show 0<=(0*256+d)*256+e/\(0*256+d)*256+e<=65535;omega
 ·rw[hk,if_pos rfl]
  refine .inr ⟨wB,?_⟩;obtain⟨a,b,c,d,e,f,g,x,y,rfl⟩:=Sq l Z.o;have hd:=h d (by simp);have he:=h e (by simp);have hf:=h f (by simp);have hg:=h g (by simp);show -2147483648<=D_ ((((0*256+d)*256+e)*256+f)*256+g)/\D_ ((((0*256+d)*256+e)*256+f)*256+g)<=2147483647;unfold D_;split<;>omega
theorem bB{s:Int}{m:Ml}(h:F7 m){l:List Int}(hl:Ar l):F7 (Dy s m (frV l)):=by
 have hf:=QB hl;unfold Dy;split
 ·exact⟨h.v1,h.v2,h.v3,h.v4⟩
 ·rename_i he
  have he:(frV l).e=0:=Classical.not_not.1 he;have hf:=hf he;split
  ·exact⟨h.v1,h.v2,h.v3,h.v4⟩
  ·split
   ·exact⟨h.v1,h.v2,h.v3,h.v4⟩
   ·generalize frV l=F at hf ⊢
    obtain⟨k,sq,v,e⟩:=F;simp only at hf;obtain⟨p1,p2,p3,p4⟩:=h;obtain⟨h1,h2,h3,h4,h5,v1,v2,v3,v4,v5,bad,stale,twice,beyond⟩:=m;have hk:k=1\/k=2\/k=3\/k=4\/k=5:=(by omega);rcases hk with rfl|rfl|rfl|rfl|rfl
    ·show F7 ⟨true,h2,h3,h4,h5,v,v2,v3,v4,v5,bad,stale,twice,beyond⟩
     exact⟨λ_=>by show 0<=v/\v<=65535;omega,λh=>p2 h,λh=>p3 h,λh=>p4 h⟩
    ·show F7 ⟨h1,true,h3,h4,h5,v1,v,v3,v4,v5,bad,stale,twice,beyond⟩
     exact⟨λh=>p1 h,λ_=>by show 0<=v/\v<=65535;omega,λh=>p3 h,λh=>p4 h⟩
    ·show F7 ⟨h1,h2,true,h4,h5,v1,v2,v,v4,v5,bad,stale,twice,beyond⟩
     exact⟨λh=>p1 h,λh=>p2 h,λ_=>by show -2147483648<=v/\v<=2147483648;omega,λh=>p4 h⟩
    ·show F7 ⟨h1,h2,h3,true,h5,v1,v2,v3,v,v5,bad,stale,twice,beyond⟩
     exact⟨λh=>p1 h,λh=>p2 h,λh=>p3 h,λ_=>by show -2147483648<=v/\v<=2147483648;omega⟩
    ·show F7 ⟨h1,h2,h3,h4,true,v1,v2,v3,v4,v,bad,stale,twice,beyond⟩
     exact⟨λh=>p1 h,λh=>p2 h,λh=>p3 h,λh=>p4 h⟩
theorem Sr{s:Int}:∀(l:List (List Int)) (m:Ml),F7 m->(∀b,b∈l->Ar b)->F7 (l.foldl (λm b=>Dy s m (frV b)) m)
 | [],m,h,_=>h
 | b::l,m,h,hb=>by
   rw[List.foldl_cons];exact Sr l _ (bB h (hb b List.mem_cons_self)) λx hx=>hb x (List.mem_cons_of_mem _ hx)
theorem Vk(c:Int){l:List (List Int)}(h:∀b,b∈l->Ar b):F7 (Cc c l):=by
 unfold Cc;refine Sr _ _ ?_ λb hb=>h b (List.mem_of_mem_take hb);exact⟨λh=>by simp[ml0,Ml.has] at h,λh=>by simp[ml0,Ml.has] at h,λh=>by simp[ml0,Ml.has] at h,λh=>by simp[ml0,Ml.has] at h⟩
structure Ot(ss:List Sg)(gs:List Gr)(n:Nv)(mm:List (List Int)):Prop where
 fr:0<=n.p.fr/\n.p.fr<=1099511627776
 ok:Kg ss ⟨n.p.lo,n.p.hi,n.p.est,mm⟩
 ne:mm≠[]
 rs:n.p.rs=mm.map rtC
 gr:0<=n.gr/\∃G,gs[n.gr.toNat]?=some G
structure BL(ss:List Sg)(gs:List Gr)(n:Nv)(mm:List (List Int))(k:Int):Prop where
 cf:ER n.c
 tr:BN ss gs
 es:n.es=ss.map Ah
 ds:n.ds=gs.map Ak
 os:n.os=(List.range ss.length).map λx=>[jz (Er ss x)]
 kk:0<=k/\k<=1000000
 cy:n.cy=k
 g:n.g0<=n.g1 /\ -1048576<=n.g0/\n.g1<=1048576
 k0: -32768*k<=n.k0.su/\n.k0.su<=32768*k
 k1: -32768*k<=n.k1.su/\n.k1.su<=32768*k
 c0:0<n.a0/\n.a0<=n.b0/\n.b0<=8388608
 c1:0<n.a1/\n.a1<=n.b1/\n.b1<=8388608
 sp: -n.c.c6<=n.lo/\n.lo<=n.hi/\n.hi<=n.c.c6
 di:0<=n.di/\n.di<=16777216*k
 on:n.on=true->Ot ss gs n mm
 off:n.on=false->n.gr=0/\n.p=JG/\mm=[]
 or: -17592186044416<=n.o0/\n.o0<=n.o1/\n.o1<=17592186044416
 s0: -32768*k<=n.s0/\n.s0<=32768*k
 s1: -32768*k<=n.s1/\n.s1<=32768*k
 sc:0<=n.sc/\n.sc<=1000
 mo:n.m0<=n.m1 /\ -16777216*k<=n.m0/\n.m1<=16777216*k
 ws:0<=n.w.si/\n.w.si<=1001
 wt:0<=n.w.st/\n.w.st<=1001
theorem BL.nvu{ss:List Sg}{gs:List Gr}{n:Nv}{mm:List (List Int)}{k:Int}(h:BL ss gs n mm k):NvU n:=by
 refine⟨by rw[h.es];exact Bu ss,by rw[h.ds];exact Bv gs,?_,?_⟩
 ·rw[h.os];exact BM (f:=λx=>[jz (Er ss x)]) (λd=>rfl) _
 ·cases ho:n.on with
  | true=>rw[(h.on ho).rs];exact BM (f:=rtC) (λd=>rfl) mm
  | false=>rw[(h.off ho).2.1];exact⟨rfl⟩
theorem Ot.plc{ss:List Sg}{gs:List Gr}{n:Nv}{mm:List (List Int)}(h:Ot ss gs n mm):JM ss mm n:=
 ⟨h.fr,λl hl=>⟨(h.ok.way l hl).len.1,(h.ok.way l hl).seg⟩,h.ok.few,h.rs⟩
theorem BL.sn{ss:List Sg}{gs:List Gr}{n:Nv}{mm:List (List Int)}{k:Int}(h:BL ss gs n mm k):Ou n:=by
 have h1:=h.k0;have h2:=h.k1;have h3:=h.kk;exact⟨h.cf,⟨by omega,by omega⟩,⟨by omega,by omega⟩,h.c0,h.c1,h.sp⟩
theorem SC(k:Ct)(v:Int)(has:Bool): -32768<=(pnV k v has).1.su-k.su/\(pnV k v has).1.su-k.su<=32768:=by
 unfold pnV;split
 ·simp only;omega
 ·split
  ·simp only;omega
  ·unfold Gd;simp only;omega
theorem ER.in_{c:Cf}(h:ER c):(1<=c.c0/\c.c0<=1024)/\(131072<=c.c1/\c.c1<=c.c2/\c.c2<=8388608)/\(1<=c.c6/\c.c6<=16777216)/\(1<=c.c7/\c.c7<=1048576)/\(0<=c.c8/\c.c8<=1048576)/\(1<=c.c9/\c.c9<=1000)/\(0<=c.c10/\c.c10<=16777216)/\(0<=c.c11/\c.c11<=1073741824)/\(1<=c.c12/\c.c12<=1000)/\1<=c.c13/\c.c13<=1048576:=by
 unfold ER ES at h;omega
section
variable {ss:List Sg} {gs:List Gr} {n:Nv} {mm:List (List Int)} {k:Int}
theorem IK(m:Ml):(Ce ss mm n m).1={ n with k0:=(pnV n.k0 (m.val 1) (m.has 1)).1,k1:=(pnV n.k1 (m.val 2) (m.has 2)).1 }:=rfl
theorem QE(m:Ml)(h7:0<=n.c.c7)(h6:0<=n.c.c6)(hsp: -n.c.c6<=n.lo/\n.lo<=n.hi/\n.hi<=n.c.c6):(max (n.lo-n.c.c7) (-n.c.c6)<=(Ce ss mm n m).2.lo/\(Ce ss mm n m).2.lo<=(Ce ss mm n m).2.hi/\(Ce ss mm n m).2.hi<=min (n.hi+n.c.c7) n.c.c6)/\0<=(Ce ss mm n m).2.n/\(Ce ss mm n m).2.n<=3:=by
 unfold Ce;simp only;exact⟨Wo Z.o _ _ _ _ _ _ _ _ _ _ _ _,Wp _ _ _ _ _ _ _ _ _ _ _ _ _ _⟩
theorem BL.sense(h:BL ss gs n mm k)(hk:k<1000000)(m:Ml)(cl:Bool):BL ss gs { (Ce ss mm { n with cy:=n.cy+1 } m).1 with cl:=cl } mm (k+1):=by
 rw[IK];obtain⟨cf,tr,es,ds,os,kk,cy,g,k0,k1,c0,c1,sp,di,on,off,or_,s0,s1,sc,mo,ws,wt⟩:=h;have p0:=SC n.k0 (m.val 1) (m.has 1);have p1:=SC n.k1 (m.val 2) (m.has 2);refine⟨cf,tr,es,ds,os,by omega,by simp only;omega,g,by simp only;omega,by simp only;omega,c0,c1,sp,by simp only;omega,λho=>?_,off,or_,by simp only;omega,by simp only;omega,sc,by simp only;omega,ws,wt⟩;obtain⟨a1,a2,a3,a4,a5⟩:=on ho;exact⟨a1,a2,a3,a4,a5⟩
theorem aD{a b c:Int}(ha: -c<=a)(hb:b<=c)(kY:a<=b):0<=CF ((a+b)/2)/\CF ((a+b)/2)<=c:=by
 unfold CF;split<;>omega
theorem BL.move(h:BL ss gs n mm k){a b:Int}(kY:a<=b)(ha: -n.c.c6<=a)(hb:b<=n.c.c6)(hdi:n.di<=16777216*(k-1)):BL ss gs (Bi ss mm n a b).1 (Bi ss mm n a b).2.1 k:=by
 obtain⟨cf,tr,es,ds,os,kk,cy,g,k0,k1,c0,c1,sp,di,on,off,or_,s0,s1,sc,mo,ws,wt⟩:=h;have hc:=cf.in_;have hd:=aD ha hb kY;unfold Bi
 cases ho:n.on with
 | false =>
   rw[if_neg Z.d];exact⟨cf,tr,es,ds,os,kk,cy,g,k0,k1,c0,c1,⟨ha,kY,hb⟩,by simp only;omega,(λh=>by first|cases h|(simp only at h;rw[ho] at h;cases h)),λ_=>off ho,or_,s0,s1,sc,mo,ws,wt⟩
 | true =>
   rw[if_pos rfl];obtain⟨a1,a2,a3,a4,a5⟩:=on ho;have hm:=SE (from_:=n.p.fr) tr.nextOk a2 kY (q:=(Dr ss n.p.fr ⟨n.p.lo,n.p.hi,n.p.est,mm⟩ a b).1) (e:=(Dr ss n.p.fr ⟨n.p.lo,n.p.hi,n.p.est,mm⟩ a b).2) rfl;split
   ·rename_i he
    rcases hm with ⟨_,hq⟩|hm
    ·refine⟨cf,tr,es,ds,os,kk,cy,g,k0,k1,c0,c1,⟨ha,kY,hb⟩,by simp only;omega,λ_=>⟨a1,hq,?_,rfl,a5⟩,λh=>?_,or_,s0,s1,sc,mo,ws,wt⟩
     ·unfold Dr at he ⊢
      split
      ·rename_i hx;rw[if_pos hx] at he;simp at he
      ·rename_i hx
       rw[if_neg hx] at he;simp only at he ⊢;rcases Oh (lo:=n.p.lo+a) (hi:=n.p.hi+b) (from_:=n.p.fr) tr.nextOk mm a2.way rfl with hc|hc
       ·exact absurd he hc.1
       ·exact hc.2.2.some
     ·first|cases h|(simp only at h;rw[ho] at h;cases h)
    ·omega
   ·exact⟨cf,tr,es,ds,os,kk,cy,g,k0,k1,c0,c1,⟨ha,kY,hb⟩,by simp only;omega,(λh=>by cases h),λ_=>⟨rfl,rfl,rfl⟩,or_,s0,s1,sc,mo,ws,wt⟩
theorem SF{c d a b p m:Int}(h:0<c/\c<=d/\d<=8388608):0<(F_ c d a b p m).1/\(F_ c d a b p m).1<=(F_ c d a b p m).2/\(F_ c d a b p m).2<=8388608:=by
 unfold F_;split
 ·exact h
 ·simp only;omega
theorem SG{c d a b p m:Int}(h:0<c/\c<=d/\d<=8388608):0<(Ef c d a b p m).1/\(Ef c d a b p m).1<=(Ef c d a b p m).2/\(Ef c d a b p m).2<=8388608:=by
 unfold Ef;split
 ·exact SF h
 ·exact SF h
theorem QD(n m:Nv)(l:List Int):∃x0 y0 x1 y1,lrn? n m l={ m with a0:=x0,b0:=y0,a1:=x1,b1:=y1 }/\(0<m.a0/\m.a0<=m.b0/\m.b0<=8388608->0<x0/\x0<=y0/\y0<=8388608)/\(0<m.a1/\m.a1<=m.b1/\m.b1<=8388608->0<x1/\x1<=y1/\y1<=8388608):=by
 unfold lrn?;split
 ·exact⟨_,_,_,_,rfl,λh=>SG h,λh=>SG h⟩
 ·exact⟨_,_,_,_,rfl,id,id⟩
theorem BL.accept(h:BL ss gs n mm k){x:Fo}(hg:0<=x.g){G:Gr}(hG:gs[x.g.toNat]?=some G){a b:Int}(kY:a<=b)(ha: -n.c.c6<=a)(hb:b<=n.c.c6):BL ss gs (C_ G n x a b) [[G.seg]] k:=by
 obtain⟨cf,tr,es,ds,os,kk,cy,g,k0,k1,c0,c1,sp,di,on,off,or_,s0,s1,sc,mo,ws,wt⟩:=h;have hc:=cf.in_;obtain⟨q1,q2,q3,q4,q5,q6,q7,q8,q9,q10,_⟩:=tr.grp x.g.toNat (List.getElem?_eq_some_iff.1 hG).1 G hG;obtain⟨s,hs⟩:∃s,ss[G.seg.toNat]?=some s:=⟨_,List.getElem?_eq_getElem q4⟩;have pJ:=q6 s hs;have zH:=(tr.seg _ q4 s hs).le;unfold C_;obtain⟨x0,y0,x1,y1,e,l0,l1⟩:=QD n (IJ G n x.g a b) x.at_;rw[e];refine⟨cf,tr,es,ds,os,kk,cy,g,k0,k1,l0 c0,l1 c1,sp,di,λ_=>⟨⟨q5,by show G.off<=_;omega⟩,⟨?_,?_,?_,?_,(by show 1<=16;decide)⟩,by simp,rfl,hg,G,hG⟩,(λh=>by cases h),?_,k0,k1,sc,mo,ws,wt⟩
 ·show -17592186044416 <= -(G.acc+n.c.c8)+min 0 a;omega
 ·show G.acc+n.c.c8+max 0 b<=17592186044416;omega
 ·show -(G.acc+n.c.c8)+min 0 a<=(-(G.acc+n.c.c8)+min 0 a+(G.acc+n.c.c8+max 0 b))/2/\(-(G.acc+n.c.c8)+min 0 a+(G.acc+n.c.c8+max 0 b))/2<=G.acc+n.c.c8+max 0 b
  omega
 ·intro l hl
  obtain rfl:=List.mem_singleton.1 hl;exact⟨by simp,λm hm=>by obtain rfl:=List.mem_singleton.1 hm;exact⟨q3,q4⟩⟩
 ·show -17592186044416 <= -(G.acc+n.c.c8)+min 0 a /\ -(G.acc+n.c.c8)+min 0 a<=G.acc+n.c.c8+max 0 b/\G.acc+n.c.c8+max 0 b<=17592186044416
  omega
theorem SH{a b:Int}{o:Bool}(hb:0<=b/\b<=1001)(ha:0<=a):0<=Fp a b o/\Fp a b o<=1001:=by
 unfold Fp;split<;>omega
theorem BL.watch(h:BL ss gs n mm k)(fit:Int)(cf ov ac:Bool):BL ss gs (BO { n with w:=wtV n.c.c12 n.w fit cf ov ac } mm).1 (BO { n with w:=wtV n.c.c12 n.w fit cf ov ac } mm).2 k:=by
 obtain⟨cf',tr,es,ds,os,kk,cy,g,k0,k1,c0,c1,sp,di,on,off,or_,s0,s1,sc,mo,ws,wt⟩:=h;have hc:=cf'.in_;have w1:=SH (a:=n.w.si) (b:=n.c.c12+1) (o:=decide (fit<1)) Z.o ws.1;have w2:=SH (a:=n.w.st) (b:=n.c.c12+1) (o:=cf) Z.o wt.1;unfold BO;split
 ·exact⟨cf',tr,es,ds,os,kk,cy,g,k0,k1,c0,c1,sp,di,(λh=>by cases h),λ_=>⟨rfl,rfl,rfl⟩,or_,s0,s1,sc,mo,w1,w2⟩
 ·refine⟨cf',tr,es,ds,os,kk,cy,g,k0,k1,c0,c1,sp,di,λho=>?_,off,or_,s0,s1,sc,mo,w1,w2⟩
  obtain⟨a1,a2,a3,a4,a5⟩:=on ho;exact⟨a1,a2,a3,a4,a5⟩
theorem aF{c9 c10 m lo hi fit:Int}(h9:1<=c9/\c9<=1000)(hm:0<=m):0<=En c9 c10 m lo hi fit/\En c9 c10 m lo hi fit<=1000:=by
 unfold En;split<;>omega
theorem BL.roll(h:BL ss gs n mm k){a b:Int}(kY:a<=b)(ha: -n.c.c6<=a)(hb:b<=n.c.c6)(hm: -16777216*(k-1)<=n.m0/\n.m1<=16777216*(k-1))(h1:1<=k)(fit:Int)(so st com:Bool) :
 BL ss gs { n with sc:=En n.c.c9 n.c.c10 n.sc a b fit,so:=so,ra:=(Dj n.c.c11 ⟨n.ra,n.ro,n.m0,n.m1⟩ st com a b).an,ro:=(Dj n.c.c11 ⟨n.ra,n.ro,n.m0,n.m1⟩ st com a b).on,m0:=(Dj n.c.c11 ⟨n.ra,n.ro,n.m0,n.m1⟩ st com a b).lo,m1:=(Dj n.c.c11 ⟨n.ra,n.ro,n.m0,n.m1⟩ st com a b).hi } mm k:=by
 obtain⟨cf,tr,es,ds,os,kk,cy,g,k0,k1,c0,c1,sp,di,on,off,or_,s0,s1,sc,mo,ws,wt⟩:=h;have hc:=cf.in_;have hs:=aF (c10:=n.c.c10) (lo:=a) (hi:=b) (fit:=fit) hc.2.2.2.2.2.1 sc.1
 have hr:(Dj n.c.c11 ⟨n.ra,n.ro,n.m0,n.m1⟩ st com a b).lo<=(Dj n.c.c11 ⟨n.ra,n.ro,n.m0,n.m1⟩ st com a b).hi /\ -16777216*k<=(Dj n.c.c11 ⟨n.ra,n.ro,n.m0,n.m1⟩ st com a b).lo/\(Dj n.c.c11 ⟨n.ra,n.ro,n.m0,n.m1⟩ st com a b).hi<=16777216*k:=by
  unfold Dj;split
  ·simp only;omega
  ·split
   ·simp only;omega
   ·simp only;omega
 refine⟨cf,tr,es,ds,os,kk,cy,g,k0,k1,c0,c1,sp,di,λho=>?_,off,or_,s0,s1,hs,hr,ws,wt⟩;obtain⟨a1,a2,a3,a4,a5⟩:=on ho;exact⟨a1,a2,a3,a4,a5⟩
end
end Go.Proofs.YtlchlddijclhjaaGreat
