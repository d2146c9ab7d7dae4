/- Parts of the proofs. -/
import Derived.Test.YtlchlddijclhjaaGreatR20
import Derived.Test.YtlchlddijclhjaaGreatR16
import Derived.Test.YtlchlddijclhjaaGreatR17
import Derived.Test.YtlchlddijclhjaaGreatR15
import Derived.Test.YtlchlddijclhjaaGreatRZ
set_option linter.unusedVariables false
set_option linter.unusedSimpArgs false
set_option maxHeartbeats 4000000
namespace Go.Eng
open Go Go.RowKit
inductive Ey where
 | seq (x y:Ey)
 | pnil (al:List Ad) (x:AR) (dst:Option Nat)
 | s (c:CY)
def Lm(P:Program)(ops:Array Oper):Option Ey:=
 match ops.toList with
 | [o1,o2]=>(match Aw P [o1,o2] [o1],o1.guard,o2.guard,o2.op with
   | some al,none,none,.binOp .eql t x y _=>(match P.underlying t,AY x,AY y with
     | some (.pointer _),some x',some (.const .nilp)=>some (.pnil al x' o2.dst)
     | _,_,_=>none)
   | _,_,_,_=>none)
 | _=>none
def CV(P:Program)(F:List Nat):Code->Option Ey
 | .seq a b=>(match CV P F a,CV P F b with|some x,some y=>some (.seq x y)|_,_=>none)
 | .region id ops false=>(match Aa F id with|true=>Lm P ops|false=>(match BV P F (.region id ops false) with|some c=>some (.s c)|none=>none))
 | c=>(match BV P F c with|some c=>some (.s c)|none=>none)
def KR(P:Program)(F:List Nat):Code->Bool
 | .seq a b=>KR P F a && KR P F b
 | c=>Ea P F c
theorem X_{P:Program}{F:List Nat}{a b:Code}{x y:Ey}(h1:CV P F a=some x)(h2:CV P F b=some y):CV P F (.seq a b)=some (.seq x y):=by
 simp only[CV,h1,h2]
theorem Y0{P:Program}{F:List Nat}{id:Nat}{ops:Array Oper}{x:Ey}(hm:Aa F id=true)(h:Lm P ops=some x):CV P F (.region id ops false)=some x:=by
 simp only[CV,hm,h]
theorem Y1{P:Program}{F:List Nat}{id:Nat}{ops:Array Oper}{c:CY}(hm:Aa F id=false)(h:BV P F (.region id ops false)=some c):CV P F (.region id ops false)=some (.s c):=by
 simp only[CV,hm,h]
theorem Y2{P:Program}{F:List Nat}{id:Nat}{ops:Array Oper}{c:CY}(h:BV P F (.region id ops true)=some c):CV P F (.region id ops true)=some (.s c):=by
 simp only[CV,h]
theorem Y3{P:Program}{F:List Nat}{id:Nat}{a:Code}{c:CY}(h:BV P F (.block id a)=some c):CV P F (.block id a)=some (.s c):=by
 simp only[CV,h]
theorem Y4{P:Program}{F:List Nat}{x:Operand}{a b:Code}{c:CY}(h:BV P F (.cond x a b)=some c):CV P F (.cond x a b)=some (.s c):=by
 simp only[CV,h]
theorem Y5{P:Program}{F:List Nat}{c:CY}(h:BV P F .ret=some c):CV P F .ret=some (.s c):=by
 simp only[CV,h]
def Ny:List Nat->Ey->List Nat
 | acc,.seq x y=>Ny (Ny acc x) y
 | acc,.pnil al _ _=>Ib acc al
 | acc,.s c=>Ic acc c
def vcT(w:A8)(P:Program)(F:List Nat)(el:List Nat)(n:Nat):Ey->Aq->AA->A7->Prop
 | .seq x y,Q,a,h=>vcT w P F el n x (Dw (vcT w P F el n y Q) Q) a h
 | .pnil al x dst,Q,a,h=>CK w P el (λa h=>match evA a x with | .ref _ _ _ _=>Q .normal (Aj a dst (.bool false)) h|_=>False) al a h
 | .s c,Q,a,h=>vcS w P F el n c Q a h
theorem Y6(op:BinOp)(t:TypeId)(x y:Operand)(a:Option Addr)(v:Value):eqGuard op t x y (.pointer a) v=pure ():=by cases op<;>rfl
theorem Y7{P:Program}{t:TypeId}{e:TypeId}(ht:P.underlying t=some (.pointer e))(p:Addr)(w:World)(d:Nat):(Op.equalIn (d+1) t (.pointer (some p)) (.pointer none)).run P w = .ok false w:=by
 simp only[Op.equalIn,Sem.run_bind,BF w ht,Result.andThen_ok,Sem.run_pure,samePointer]
theorem Y8{C:Cfg}{s z i o:Nat}{v:Value}(h:VR C (.ref s z i o) v):∃a,v = .pointer (some a):=by
 cases h
 exact⟨_,rfl⟩
theorem Y9{P:Program}{el:List Nat}{n:Nat}{id:Nat}{ops:Array Oper}{x:Ey}{F:List Nat}{Q Q':Aq}{a:AA}{h:A7}(hc:Lm P ops=some x)(hq:∀e a h,Q e a h->Q' e a h)(H:vcT std P F el n x Q a h):AWp P n (.region id ops false) Q' a h:=by
 unfold Lm at hc;split at hc
 ·rename_i o1 o2 hl
  split at hc
  ·rename_i al t x0 y0 u0 h1 g1 g2 hop
   split at hc
   ·rename_i e x' ht hx hy
    simp only[Option.some.injEq] at hc;subst hc;intro C act hC S hn;refine wp_region_list ?_;rw[hl];simp only[Aw] at h1;split at h1
    ·rename_i ao al' uK oF
     simp only[Option.some.injEq] at h1 oF;subst h1;subst oF;obtain⟨k1,k2,k3⟩:=J8 uK
     have hg:ao.guard=none:=by
      rcases k3 with ⟨_,g⟩|⟨j,want,t,g,_,_⟩
      ·exact g
      ·rw[g1] at g;cases g
     have H2:=Eb (K':=λa h=>match evA a x' with | .ref _ _ _ _=>Q .normal (Aj a o2.dst (.bool false)) h|_=>False) (λa h hh=>hh) H;simp only[Ck,hg] at H2;subst hC;unfold wpList;rw[if_pos (by simp[Region.wanted,g1])];refine .inl (IG k1 k2 S hn H2 λa' D act' m1 m2 m3 m4=>?_);unfold wpList;rw[if_pos (by simp[Region.wanted,g2])];refine .inl ?_;split at m1
     ·rename_i s z i o hev
      obtain⟨p,hp⟩:=Y8 (hev▸m2.ev x0 x' hx:VR D _ (act'.eval x0));have hn2:=(m2.ev y0 (.const .nilp) hy:VR D .nilp (act'.eval y0)).nilp'
      have rZ:(Op.equal t (.pointer (some p)) (.pointer none)).run P D.w = .ok false D.w:=by
       exact Y7 ht p D.w 9999
      have lZ:(execOp act'.eval o2).run P D.w = .ok (.value (.bool false)) D.w:=by
       simp[execOp,hop,hp,hn2,Y6,binOp,rZ]
      unfold Oper.wp;rw[lZ];exact⟨Aj a' o2.dst (.bool false),D,hq _ _ _ m1,rfl,m2.put o2.dst (.bool false),m3,m4⟩
     ·exact m1.elim
    ·cases h1
   ·cases hc
  ·cases hc
 ·cases hc
theorem Ec{P:Program}{F el:List Nat}{n:Nat}{code:Code}{c:Ey}{Q Q':Aq}{a:AA}{h:A7}(hc:(match BV P F code with|some c=>some (Ey.s c)|none=>none)=some c)(hd:Ea P F code=true)(hq:∀e a h,Q e a h->Q' e a h)(H:vcT std P F el n c Q a h):AWp P n code Q' a h:=by
 split at hc
 ·rename_i x hx
  simp only[Option.some.injEq] at hc;subst hc;exact JV hx hd hq H
 ·cases hc
theorem N_{P:Program}{F el:List Nat}{n:Nat}:∀ {code:Code} {c:Ey} {Q Q':Aq} {a:AA} {h:A7},CV P F code=some c->KR P F code=true->(∀e a h,Q e a h->Q' e a h)->vcT std P F el n c Q a h->AWp P n code Q' a h
 | .seq x y,c,Q,Q',a,h,hc,hd,hq,H=>by
   simp only[CV] at hc;split at hc
   ·rename_i p q hp rZ
    simp only[Option.some.injEq] at hc;subst hc;simp only[KR,Bool.and_eq_true] at hd;refine AWp.seq (N_ hp hd.1 (λe a h hr=>?_) H)
    cases e with
    | normal=>exact N_ rZ hd.2 hq hr
    | _=>exact hq _ _ _ hr
   ·cases hc
 | .region id ops false,c,Q,Q',a,h,hc,hd,hq,H=>by
   simp only[CV] at hc
   cases hm:Aa F id with
   | true=>simp only[hm] at hc;exact Y9 hc hq H
   | false=>simp only[hm] at hc;exact Ec (F:=F) hc hd hq H
 | .region id ops true,c,Q,Q',a,h,hc,hd,hq,H=>Ec (F:=F) hc hd hq H
 | .skip,c,Q,Q',a,h,hc,hd,hq,H=>Ec (F:=F) hc hd hq H
 | .ret,c,Q,Q',a,h,hc,hd,hq,H=>Ec (F:=F) hc hd hq H
 | .exit id,c,Q,Q',a,h,hc,hd,hq,H=>Ec (F:=F) hc hd hq H
 | .cond x p q,c,Q,Q',a,h,hc,hd,hq,H=>Ec (F:=F) hc hd hq H
 | .block id x,c,Q,Q',a,h,hc,hd,hq,H=>Ec (F:=F) hc hd hq H
 | .loop x,c,Q,Q',a,h,hc,hd,hq,H=>Ec (F:=F) hc hd hq H
 | .rangeFunc _ _ _ _,c,Q,Q',a,h,hc,hd,hq,H=>Ec (F:=F) hc hd hq H
 | .scope _,c,Q,Q',a,h,hc,hd,hq,H=>Ec (F:=F) hc hd hq H
 | .label _,c,Q,Q',a,h,hc,hd,hq,H=>Ec (F:=F) hc hd hq H
 | .goto _,c,Q,Q',a,h,hc,hd,hq,H=>Ec (F:=F) hc hd hq H
 | .refuse _,c,Q,Q',a,h,hc,hd,hq,H=>Ec (F:=F) hc hd hq H
theorem AJ.ofT {P : Program} {F : List Nat} {g : FuncId} {fn : Func} {code : Code} {sc : Ey} {r : List DT} {args : List AV} {h : A7} {K : AV → A7 → Prop} (hf : P.funcs[g]? = some fn) (hname : (fn.name == "runtime.NumGoroutine") = false) (hb : fn.body = some code) (hr : Gy P fn.results.toList = some r)
 (hc:CV P F code=some sc) (lL:KR P F code=true) (H:∀w,w=std->vcT w P F (Ny [] sc) h.length sc (KS r K) (DU args fn.ntmps) h):AJ P g args h K:=by
 have HA:AWp P h.length code (KT r K) (DU args fn.ntmps) h:=N_ hc lL (λe a h hr=>Lp e a h hr) (H std rfl);refine⟨⟨fn,hf,by simp[hb],hname⟩,λC vs hC RC hv=>?_⟩;refine calls_of_wp hf hb ?_;refine wp_mono (HA C _ hC (JC RC hv fn.ntmps) (Nat.le_refl _)) λe act' w' ⟨a',D,h1,h2,h3,h4,h5⟩=>?_
 have fin:(∃l,Cm a' D.h r=some l/\K (Cb l) D.h)->act'.defers=[]/\∃v,(results fn act'.tmps).run P w' = .ok v w' /\
  ∃v' r D,Ending.returned v = .returned v'/\K r D.h/\D.w=w'/\Rel D/\VR D r v'/\Ext h.length C D/\h.length<=D.h.length:=by
  rintro⟨l,hl,hK⟩
  obtain⟨u,k1,k2⟩:=JB hr h3 hl;subst h2;exact⟨h3.nodef,u,k1,u,_,D,rfl,hK,rfl,h3.rel,k2,h4,h5⟩
 cases e with
 | normal=>exact fin h1
 | ret=>exact fin h1
 | exit id=>exact h1.elim
 | goto l=>exact h1.elim
 | panic c=>exact h1.elim
 | outgrown=>exact h1.elim
theorem Ae.weak{P:Program}{n:Nat}{c:BR}{Q:Aq}{a:AA}{h:A7}(H:Ae P n c (λe a h=>∃a' h',Wk n a h a' h'/\Q e a' h') a h):Ae P n c Q a h:=
 ⟨λcode h1 h2=>(match H with|⟨H⟩=>H code h1 h2).post λ_ _ _ hq=>hq⟩
end Go.Eng
namespace Go.Proofs.YtlchlddijclhjaaGreat
open Go Go.RowKit Go.Eng
theorem kP:∀x:Fin 256,∀k:Fin 8,(0<=AF .xor .u8 (x.val:Int) (AF .shl .u8 1 (k.val:Int))/\AF .xor .u8 (x.val:Int) (AF .shl .u8 1 (k.val:Int))<=255)/\AF .xor .u8 (x.val:Int) (AF .shl .u8 1 (k.val:Int))≠(x.val:Int):=by decide +kernel
theorem kQ{x k:Int}(hx:0<=x/\x<=255)(hk:0<=k/\k<8):(0<=AF .xor .u8 x (AF .shl .u8 1 k)/\AF .xor .u8 x (AF .shl .u8 1 k)<=255)/\AF .xor .u8 x (AF .shl .u8 1 k)≠x:=by
 have:=kP ⟨x.toNat,by omega⟩ ⟨k.toNat,by omega⟩;simp only[Int.toNat_of_nonneg hx.1,Int.toNat_of_nonneg hk.1] at this;exact this
set_option maxRecDepth 100000
theorem jv(cy md gr lo hi es sl sh no di fi s0 s1 ml mh pe a0 b0 a1 b1 k1 k2 k3 k4 k5 k6 k7 k8:Int)(cl cf ac fa st ro ov:Bool)(rts:List (List Int))(hn:rts.length<=100000/\∀l,l∈rts->l.length<=100000)(RT:List (List AV))(hRT:RT=rts.map D7):A9 Tryz.prog 71 [.agg [jz cy,jz md,jz gr,jz lo,jz hi,jz es,jz sl,jz sh,jz no,jz di,.list 1 RT,jz fi,.bool cl,.bool cf,jz s0,jz s1,.bool ac,.bool fa,.bool st,.bool ro,.bool ov,jz ml,jz mh,jz pe,jz a0,jz b0,jz a1,jz b1,jz k1,jz k2,jz k3,jz k4],.agg [jz cy,jz md,jz gr,jz lo,jz hi,jz es,jz sl,jz sh,jz no,jz di,.list 1 RT,jz fi,.bool cl,.bool cf,jz s0,jz s1,.bool ac,.bool fa,.bool st,.bool ro,.bool ov,jz ml,jz mh,jz pe,jz a0,jz b0,jz a1,jz b1,jz k5,jz k6,jz k7,jz k8]] (· = .bool true):=by
 have hu:Up0 RT:=by rw[hRT];exact JQ rts
 (refine A9.ofY Tryz.func71 (by kernel_rfl) (by kernel_rfl) (Z.w λzB zE _ _ zF zX _ _ _ _ _ yB _ _ _ _ _ _ _ _ hw zC zA _ _ zI yM _ _ _ _ _ yU zH _ _ _ _ _ _ _ hz R hR=>?_));(conv=>arg 2;cbv);(generalize hP:Tryz.prog=P);cbv;have d1:∀a:Int,zE .neq a a=false:=λa=>by rw[zA];simp[AC]
 have d2:∀a:Int,zE .eql a a=true:=λa=>by rw[zA];simp[AC]
 have d3:∀a b:Int,yB [jz a,jz b] [jz a,jz b] [(0,1),(1,1)]=true:=λa b=>by rw[yU];simp[Au,eqA]
 have d4:∀a:Bool,zX a a=true:=λa=>by rw[yM];simp
 have n1:zF true=false:=by rw[zI];rfl
 have n2:zF false=true:=by rw[zI];rfl
 obtain⟨N,eN,N0,Nn⟩:=Z.l zH RT;repeat' (first|(simp only[d1,d2,d3,d4,n1,n2,eN];cbv)|fail)
 have d5:∀a b c d:Int,yB [jz a,jz b,jz c,jz d] [jz a,jz b,jz c,jz d] [(0,1),(1,1),(2,1),(3,1)]=true:=λa b c d=>by rw[yU];simp[Au,eqA]
 have hNl:RT.length=rts.length:=by rw[hRT];simp
 refine Ae.data hw (S:=Int) (λi=>fr 201 [(2,.ref 0 32 0 0),(3,.ref 1 32 0 0),(4,.bool false),(80,N),(81,i)]) (λ_=>[.live 32 [cy::[md,gr,lo,hi,es,sl,sh,no,di,.list 1 RT,fi,cl,cf,s0,s1,ac,fa,st,ro,ov,ml,mh,pe,a0,b0,a1,b1,k1,k2,k3,k4]],.live 32 [cy::[md,gr,lo,hi,es,sl,sh,no,di,.list 1 RT,fi,cl,cf,s0,s1,ac,fa,st,ro,ov,ml,mh,pe,a0,b0,a1,b1,k5,k6,k7,k8]]]) (λi=>0<=i/\i<=N) (λi=>(N-i).toNat) 0 Z.i ⟨Int.le_refl _,N0⟩ ?_;rintro i zJ Q' hN hE hR';have zJ:0<=i/\i<=N:=zJ;obtain⟨zW,yZ⟩:=zJ;by_cases yC:i<N
 ·obtain⟨w,lU⟩:∃c,rts[i.toNat]?=some c:=⟨_,List.getElem?_eq_getElem (show i.toNat<rts.length by omega)⟩
  obtain⟨V,eV⟩:=Z.e (w.map Ac);have huV:Up0 V:=(by rw[eV];exact CG w);have hVl:V.length=w.length:=(by rw[eV];simp);have vz:=hn.2 w (List.mem_of_getElem? lU);have zL:RT[i.toNat]?=some [.list 1 V]:=(by rw[hRT,List.getElem?_map,lU,eV];rfl);obtain⟨i2,kW⟩:=Z.e (i+1);have a4:zB .add .i64 i 1=i2:=(by rw[zC,Ag Z.o Z.o,kW]);have ck:=W.lt zA yC;have hT:(N-i2).toNat<(N-i).toNat:=(by omega);obtain⟨M,eM,M0,Mn⟩:=Z.l zH V;cbv;repeat' (first|(simp only[ck,eM,d1];cbv)|(refine Idx.mk _ zW zL ?_;cbv)|fail)
  refine Ae.data hw (S:=Int) (λk=>fr 201 [(2,.ref 0 32 0 0),(3,.ref 1 32 0 0),(4,.bool false),(5,i),(80,N),(81,i),(102,M),(103,k)]) (λ_=>[.live 32 [cy::[md,gr,lo,hi,es,sl,sh,no,di,.list 1 RT,fi,cl,cf,s0,s1,ac,fa,st,ro,ov,ml,mh,pe,a0,b0,a1,b1,k1,k2,k3,k4]],.live 32 [cy::[md,gr,lo,hi,es,sl,sh,no,di,.list 1 RT,fi,cl,cf,s0,s1,ac,fa,st,ro,ov,ml,mh,pe,a0,b0,a1,b1,k5,k6,k7,k8]]]) (λk=>0<=k/\k<=M) (λk=>(M-k).toNat) 0 Z.i ⟨Int.le_refl _,M0⟩ ?_;clear hE hR';rintro k zJ Q2 nS hE hR';have zJ:0<=k/\k<=M:=zJ;obtain⟨oH,oU⟩:=zJ;by_cases hkn:k<M
  ·obtain⟨v,hv⟩:∃c,w[k.toNat]?=some c:=⟨_,List.getElem?_eq_getElem (show k.toNat<w.length by omega)⟩
   have yW:V[k.toNat]?=some [jz v]:=(by rw[eV,List.getElem?_map,hv];rfl);obtain⟨k2,wH⟩:=Z.e (k+1);have a5:zB .add .i64 k 1=k2:=(by rw[zC,Ag Z.o Z.o,wH]);have ck2:=W.lt zA hkn;have n_:(M-k2).toNat<(M-k).toNat:=(by omega);cbv;repeat' (first|(simp only[ck2,d1,a5];cbv)|(refine Idx.mk _ zW zL ?_;cbv)|(refine Idx.mk _ oH yW ?_;cbv)|fail)
   refine nS k2 _ _ ?_ ⟨Z.t,Z.t⟩ n_;exact Z.i
  ·have ck2:=W.nlt zA (show M<=k by omega)
   cbv;repeat' (first|(simp only[ck2];cbv)|fail)
   refine hE _ _ _ ?_;cbv;repeat' (first|(simp only[a4];cbv)|fail)
   refine hN i2 _ _ ?_ ⟨Z.t,Z.t⟩ hT;exact Z.i
 ·have ck:=W.nlt zA (show N<=i by omega)
  cbv;repeat' (first|(simp only[ck];cbv)|fail)
  refine hE _ _ _ ?_;cbv;repeat' (first|(simp only[d1,d2,d3,d4,d5,n1,n2];cbv)|fail)
  exact Z.r hR
set_option maxRecDepth 100000
def d9(l:List Cy):List Cy:=l.map λc=>([],c.2)
def jS(l:List (List Int)):Prop:=∀b,b∈l->(Ar b/\b.length<=300)/\(frV b).e≠0
def jT(l:List Cy):Prop:=∀c,c∈l->c.1.length<=50/\jS c.1
def MGa(i:Nat)(o:Option (List (List AV)×List (List AV)×Nat)):Prop:=∃L:List Cy,jT L/\L.length=i/\(match o with|none=>L=[]|some (u,v,m)=>L≠[]/\u=L.map DJ/\v=(d9 L).map DJ/\m=L.length)
theorem jN(l:List Cy):(d9 l).length=l.length:=by unfold d9;rw[List.length_map]
theorem ji(c0 c1 c2 c3 c4 c5 c6 c7 c8 c9 c10 c11 c12 c13:Int)(es ds:List (List AV))(hu:Up0 es)(lH:Up0 ds)(at_:Int)(l:List Cy)(hb:∀c,c∈l->∀b,b∈c.1->Ar b)(rs:List (List AV))(yD:rs=l.map DJ)(FT:Prop)(FV:List Cy->List (List AV))(hFV:∀L,Up0 (FV L))
 (q0:A9 Tryz.prog 10 [.agg [.list 3 es,.list 5 ds],.list 2 rs] (λr=>∃o:Bool,r = .bool o/\(o=true->FT/\EU l)))
 (q1:FT->∀L:List Cy,L.length<=400->(∀c,c∈L->c.1.length<=50/\∀b,b∈c.1->Ar b/\b.length<=300)->∀Q,Q=L.map DJ->A9 Tryz.prog 12 [.agg [c0,c1,c2,c3,c4,c5,c6,c7,c8,c9,c10,c11,c12,c13],.agg [.list 3 es,.list 5 ds],.list 2 Q] (· = .list 32 (FV L)))
 (q2:A9 Tryz.prog 11 [] (· = .bool true))
 (q3:FT->∀L:List Cy,L.length<=400->jT L->∀U V,U=FV L->V=FV (d9 L)->A9 Tryz.prog 29 [.list 32 U,.list 32 V] (· = .bool true))
 (TV:List (List Int)->List (List Int)) (q4:0<=at_/\at_<=1073741824->∀x:List (List Int),(∀b,b∈x->Ar b/\b.length<=300)->x.length<=50->∀Q,Q=x.map Em->A9 Tryz.prog 28 [.list 1 Q,at_] (· = .list 1 ((TV x).map Em)))
 (q5:0<=at_/\at_<=1073741824->∀x:List (List Int),(∀b,b∈x->Ar b/\b.length<=300)->x.length<=50->(TV x).length<=50/\jS (TV x)) :
 A9 Tryz.prog 9 [.agg [c0,c1,c2,c3,c4,c5,c6,c7,c8,c9,c10,c11,c12,c13],.agg [.list 3 es,.list 5 ds],.list 2 rs,at_] (· = .bool true):=by
 have lW:Up0 rs:=by rw[yD];exact HZ l
 have oL:rs.length=l.length:=by rw[yD];simp
 refine Z.y Tryz.func9 λzB _ _ _ zF _ hw zC zA _ _ zI zH hz R hR P hP=>?_;cbv;refine Call.step (by rw[<- hP];exact q0) Z.u ?_;rintro r ⟨o,rfl,ho⟩;have n1:zF true=false:=by rw[zI];rfl
 have n2:zF false=true:=by rw[zI];rfl
 cases o with
 | false =>
   cbv;repeat' (first|(simp only[n1,n2];cbv)|(refine Call.s hP q2 ?_;cbv)|fail)
   exact Z.r hR
 | true =>
   have q1:=q1 (ho rfl).1;have q3:=q3 (ho rfl).1;have zy:=(ho rfl).2;have kr:l.length<=400:=zy.n;clear q0 ho;cbv;by_cases oq:at_<0
   ·have d1:=W.lt zA oq
    repeat' (first|(simp only[n1,n2,d1];cbv)|(refine Call.s hP q2 ?_;cbv)|fail)
    exact Z.r hR
   have d1:=W.nlt zA (show 0<=at_ by omega);by_cases ko:1073741824<at_
   ·have d2:=W.gt zA ko
    repeat' (first|(simp only[n1,n2,d1,d2];cbv)|(refine Call.s hP q2 ?_;cbv)|fail)
    exact Z.r hR
   have d2:=W.ngt zA (show at_<=1073741824 by omega);have q4:=q4 ⟨by omega,by omega⟩;have q5:=q5 ⟨by omega,by omega⟩;obtain⟨N,eN,N0,Nn⟩:=Z.l zH rs;repeat' (first|(simp only[n1,n2,d1,d2,eN];cbv)|fail)
   clear d1 d2;refine Ae.weak ?_;refine Ae.data hw (S:=Int×Option (List (List AV)×List (List AV)×Nat)) (λs=>fr 61 [(3,at_),(4,.ref 0 14 0 0),(5,.ref 1 2 0 0),(8,.bool false),(9,match s.2 with|none=>.nils|some (_,_,m)=>.sl 2 2 0 m),(10,match s.2 with|none=>.nils|some (_,_,m)=>.sl 3 2 0 m),(26,.list 2 rs),(27,N),(28,s.1)]) (λs=>match s.2 with|none=>[.live 14 [[c0,c1,c2,c3,c4,c5,c6,c7,c8,c9,c10,c11,c12,c13]],.live 2 [[.list 3 es,.list 5 ds]]]|some (u,v,_)=>[.live 14 [[c0,c1,c2,c3,c4,c5,c6,c7,c8,c9,c10,c11,c12,c13]],.live 2 [[.list 3 es,.list 5 ds]],.live 2 u,.live 2 v]) (λs=>0<=s.1/\s.1<=N/\MGa s.1.toNat s.2) (λs=>(N-s.1).toNat) (0,none) Z.i ⟨Int.le_refl _,N0,[],(λc hc=>by cases hc),rfl,rfl⟩ ?_
   rintro⟨i,o⟩ zJ Q' hN hE hR'
   have zJ:0<=i/\i<=N/\MGa i.toNat o:=zJ;obtain⟨zW,yZ,L,sN,hLl,ho⟩:=zJ;by_cases yC:i<N
   ·obtain⟨c,hc⟩:∃c,l[i.toNat]?=some c:=⟨_,List.getElem?_eq_getElem (show i.toNat<l.length by omega)⟩
    obtain⟨xl,cm⟩:=c;have vY:=List.mem_of_getElem? hc;obtain⟨bs,ebs⟩:=Z.e (xl.map Em);have qd:Up0 bs:=(by rw[ebs];exact IL _);have zL:rs[i.toNat]?=some [.list 1 bs,.bool cm]:=(by rw[yD,List.getElem?_map,hc,ebs];rfl);have sU:∀b,b∈xl->Ar b/\b.length<=300:=λb h=>⟨hb _ vY b h,(zy.l _ vY).2 b h⟩;have hx2:=(zy.l _ vY).1;have q:=q4 xl sU hx2 bs ebs;have hx3:=q5 xl sU hx2;obtain⟨T,eT⟩:=Z.e (TV xl);rw[<- eT] at q hx3;obtain⟨ts,ets⟩:=Z.e (T.map Em);have hut:Up0 ts:=(by rw[ets];exact IL _);rw[<- ets] at q;obtain⟨i2,kW⟩:=Z.e (i+1);have a4:zB .add .i64 i 1=i2:=(by rw[zC,Ag Z.o Z.o,kW]);have ck:=W.lt zA yC;have hT:(N-i2).toNat<(N-i).toNat:=(by omega);have xk:jT (L++[(T,cm)]):=λc hc=>(List.mem_append.1 hc).elim (sN c) λh=>(List.mem_singleton.1 h)▸hx3;have hLl2:(L++[(T,cm)]).length=i2.toNat:=(by rw[List.length_append,List.length_cons,List.length_nil];omega);have wT:L++[(T,cm)]≠[]:=by simp
    cases o with
    | none =>
      have ho:L=[]:=ho;cbv;repeat' (first|(simp only[ck];cbv)|(refine Idx.mk _ zW zL ?_;cbv)|fail)
      refine AB.stepE (by rw[<- hP];exact q) (by simp only[Af,AV.upto,qd.get];rfl) ?_;cbv;repeat' (first|(simp only[a4];cbv)|fail)
      have hMn:MGa i2.toNat (some ([[.list 1 ts,.bool cm]],[[.list 1 [],.bool cm]],1)):=⟨_,xk,hLl2,wT,by rw[ho,ets];rfl,by rw[ho];rfl,by rw[ho];rfl⟩;refine Ob.mk Z.d ?_;refine Ob.mk Z.d ?_;refine hN (i2,some ([[.list 1 ts,.bool cm]],[[.list 1 [],.bool cm]],1)) _ _ ?_ ⟨Z.t,Z.t,hMn⟩ hT;(refine Z.k (λj=>[0,1,3,4].getD j 0) ?_;cbv<;>exact Z.q)
    | some p =>
      obtain⟨u,v,m⟩:=p;have ho:L≠[]/\u=L.map DJ/\v=(d9 L).map DJ/\m=L.length:=ho;have rQ:Up0 u:=(by rw[ho.2.1];exact HZ _);have huv:Up0 v:=(by rw[ho.2.2.1];exact HZ _);cbv;repeat' (first|(simp only[ck];cbv)|(refine Idx.mk _ zW zL ?_;cbv)|fail)
      refine AB.stepE (by rw[<- hP];exact q) (by simp only[Af,AV.upto,qd.get];rfl) ?_;cbv;have hvm:v.length=m:=(by rw[ho.2.2.1,ho.2.2.2,List.length_map,jN]);have xK:m=u.length:=(by rw[ho.2.1,ho.2.2.2,List.length_map]);have hm4:m<=400:=(by omega);obtain⟨m2,mJ⟩:=Z.e (m+1);obtain⟨u2,mW⟩:=Z.e (u++[[.list 1 ts,.bool cm]]);obtain⟨v2,ev2⟩:=Z.e (v++[[.nils,.bool cm]]);obtain⟨v3,ev3⟩:=Z.e (v++[[.list 1 [],.bool cm]]);have hu3:u2=(L++[(T,cm)]).map DJ:=(by rw[mW,ho.2.1,ets,List.map_append];rfl);have hv3:v3=(d9 (L++[(T,cm)])).map DJ:=(by rw[ev3,ho.2.2.1];unfold d9;rw[List.map_append,List.map_append];rfl);have pE:Up0 u2:=(by rw[hu3];exact HZ _);have hMn:MGa i2.toNat (some (u2,v3,m2)):=⟨_,xk,hLl2,wT,hu3,hv3,by rw[mJ,ho.2.2.2,List.length_append];rfl⟩;clear hu3 hv3;repeat' (first|(simp only[a4];cbv)|(refine App.mk u2 m2 mW xK mJ Z.o Z.o ?_;cbv)|(refine App.mk v2 m2 ev2 hvm.symm mJ Z.o Z.o ?_;cbv)|fail)
      refine hN (i2,some (u2,v3,m2)) _ _ ?_ ⟨Z.t,Z.t,hMn⟩ hT;(refine Z.k (λj=>[0,1,5,6].getD j 0) ?_;cbv;(repeat' (first|exact trivial|rfl|assumption|(refine Bn.app huv ev2 ev3 ?_;cbv)|apply And.intro|(simp only[hz,Z.a,AF,AC,AO,AP,AL,reduceCtorEq];first|done|assumption)|exact Bn.same Z.m (by first|assumption|rfl)|exact FzL.mk rfl rfl rfl Z.m (by first|assumption|rfl) Z.d|(refine Bn.one ?_;cbv))))
   ·have ck:=W.nlt zA (show N<=i by omega)
    have hL4:L.length<=400:=(by omega);have q1b:=q1 L hL4 (λc hc=>⟨(sN c hc).1,λb hb=>((sN c hc).2 b hb).1⟩) _ rfl;have q1n:=q1 (d9 L) (by rw[jN];omega) (λc hc=>(List.mem_map.1 hc).elim λd hd=>hd.2▸⟨Nat.zero_le _,λb hb=>by cases hb⟩) _ rfl;have q3:=q3 L hL4 sN;obtain⟨B,eB⟩:=Z.e (L.map DJ);obtain⟨E,eE⟩:∃B,B=(d9 L).map DJ:=⟨_,rfl⟩;rw[<- eB] at q1b;rw[<- eE] at q1n;have huB:Up0 B:=(by rw[eB];exact HZ _);have huE:Up0 E:=(by rw[eE];exact HZ _);obtain⟨U,eU⟩:=Z.e (FV L);obtain⟨V,eV⟩:=Z.e (FV (d9 L));have huU:Up0 U:=(by rw[eU];exact hFV _);have huV:Up0 V:=(by rw[eV];exact hFV _);have q3:=q3 U V eU eV;rw[<- eU] at q1b;rw[<- eV] at q1n;clear eU eV hFV q1 q4 q5
    have hq:(∃m,o=some (B,E,m)/\m=B.length/\m=E.length)\/(o=none/\B=[]/\E=[]):=by
     match o,ho with
     | none,ho=>exact .inr ⟨rfl,by rw[eB,show L=[] from ho];rfl,by rw[eE,show L=[] from ho];rfl⟩
     | some (u,v,m),ho=>exact .inl ⟨m,by rw[ho.2.1,ho.2.2.1,<- eB,<- eE],by rw[eB,List.length_map];exact ho.2.2.2,by rw[eE,List.length_map,jN];exact ho.2.2.2⟩
    clear eB eE ho sN;obtain⟨m,rfl,ko,nU⟩|⟨rfl,hB,hE0⟩:=hq
    all_goals
     cbv;repeat' (first|(simp only[ck];cbv)|fail)
     refine hE _ _ _ ⟨fr 61 [(4,.ref 0 14 0 0),(5,.ref 1 2 0 0),(8,.bool false),(9,.list 2 B),(10,.list 2 E)],[.live 14 [[c0,c1,c2,c3,c4,c5,c6,c7,c8,c9,c10,c11,c12,c13]],.live 2 [[.list 3 es,.list 5 ds]]],?_,?_⟩
    ·exact Z.i
    rotate_left 1
    ·subst hB
     subst hE0;exact Z.i
    all_goals
     cbv;repeat' (first|(simp only[n1,n2];cbv)|(refine AB.s hP q1b ?_;cbv)|(refine AB.s hP q1n ?_;cbv)|(refine AB.s hP q3 ?_;cbv)|(refine AB.s hP q2 ?_;cbv)|fail)
     exact Z.r hR
end Go.Proofs.YtlchlddijclhjaaGreat
