/- Parts of the proofs. -/
import Derived.Test.YtlchlddijclhjaaGreatQ17
import Derived.Test.YtlchlddijclhjaaGreatQ16
import Derived.Test.YtlchlddijclhjaaGreatQ13
import Derived.Test.YtlchlddijclhjaaGreatQ14
import Derived.Test.YtlchlddijclhjaaGreatQ12
import Derived.Test.YtlchlddijclhjaaGreatQ8
import Derived.Test.YtlchlddijclhjaaGreatQ19
import Derived.Test.YtlchlddijclhjaaGreatQ9
import Derived.Test.YtlchlddijclhjaaGreatQ21
import Derived.Test.YtlchlddijclhjaaGreatQZ
set_option linter.unusedVariables false
set_option linter.unusedSimpArgs false
set_option maxHeartbeats 4000000
namespace Go.Eng
open Go Go.RowKit
inductive Ey where
 | seq (x y:Ey)
 | pnil (al:List Ad) (x:AR) (dst:Option Nat)
 | s (c:CY)
def Lm(P:Program)(ops:Array Oper):Option Ey:=
 match ops.toList with
 | [o1,o2]=>(match Aw P [o1,o2] [o1],o1.guard,o2.guard,o2.op with
   | some al,none,none,.binOp .eql t x y _=>(match P.underlying t,AY x,AY y with
     | some (.pointer _),some x',some (.const .nilp)=>some (.pnil al x' o2.dst)
     | _,_,_=>none)
   | _,_,_,_=>none)
 | _=>none
def CV(P:Program)(F:List Nat):Code->Option Ey
 | .seq a b=>(match CV P F a,CV P F b with|some x,some y=>some (.seq x y)|_,_=>none)
 | .region id ops false=>(match Aa F id with|true=>Lm P ops|false=>(match BV P F (.region id ops false) with|some c=>some (.s c)|none=>none))
 | c=>(match BV P F c with|some c=>some (.s c)|none=>none)
def KR(P:Program)(F:List Nat):Code->Bool
 | .seq a b=>KR P F a && KR P F b
 | c=>Ea P F c
theorem X_{P:Program}{F:List Nat}{a b:Code}{x y:Ey}(h1:CV P F a=some x)(h2:CV P F b=some y):CV P F (.seq a b)=some (.seq x y):=by
 simp only[CV,h1,h2]
theorem Y0{P:Program}{F:List Nat}{id:Nat}{ops:Array Oper}{x:Ey}(hm:Aa F id=true)(h:Lm P ops=some x):CV P F (.region id ops false)=some x:=by
 simp only[CV,hm,h]
theorem Y1{P:Program}{F:List Nat}{id:Nat}{ops:Array Oper}{c:CY}(hm:Aa F id=false)(h:BV P F (.region id ops false)=some c):CV P F (.region id ops false)=some (.s c):=by
 simp only[CV,hm,h]
theorem Y2{P:Program}{F:List Nat}{id:Nat}{ops:Array Oper}{c:CY}(h:BV P F (.region id ops true)=some c):CV P F (.region id ops true)=some (.s c):=by
 simp only[CV,h]
theorem Y3{P:Program}{F:List Nat}{id:Nat}{a:Code}{c:CY}(h:BV P F (.block id a)=some c):CV P F (.block id a)=some (.s c):=by
 simp only[CV,h]
theorem Y4{P:Program}{F:List Nat}{x:Operand}{a b:Code}{c:CY}(h:BV P F (.cond x a b)=some c):CV P F (.cond x a b)=some (.s c):=by
 simp only[CV,h]
theorem Y5{P:Program}{F:List Nat}{c:CY}(h:BV P F .ret=some c):CV P F .ret=some (.s c):=by
 simp only[CV,h]
def Ny:List Nat->Ey->List Nat
 | acc,.seq x y=>Ny (Ny acc x) y
 | acc,.pnil al _ _=>Ib acc al
 | acc,.s c=>Ic acc c
def vcT(w:A8)(P:Program)(F:List Nat)(el:List Nat)(n:Nat):Ey->Aq->AA->A7->Prop
 | .seq x y,Q,a,h=>vcT w P F el n x (Dw (vcT w P F el n y Q) Q) a h
 | .pnil al x dst,Q,a,h=>CK w P el (λa h=>match evA a x with | .ref _ _ _ _=>Q .normal (Aj a dst (.bool false)) h|_=>False) al a h
 | .s c,Q,a,h=>vcS w P F el n c Q a h
theorem Y6(op:BinOp)(t:TypeId)(x y:Operand)(a:Option Addr)(v:Value):eqGuard op t x y (.pointer a) v=pure ():=by cases op<;>rfl
theorem Y7{P:Program}{t:TypeId}{e:TypeId}(ht:P.underlying t=some (.pointer e))(p:Addr)(w:World)(d:Nat):(Op.equalIn (d+1) t (.pointer (some p)) (.pointer none)).run P w = .ok false w:=by
 simp only[Op.equalIn,Sem.run_bind,BF w ht,Result.andThen_ok,Sem.run_pure,samePointer]
theorem Y8{C:Cfg}{s z i o:Nat}{v:Value}(h:VR C (.ref s z i o) v):∃a,v = .pointer (some a):=by
 cases h
 exact⟨_,rfl⟩
theorem Y9{P:Program}{el:List Nat}{n:Nat}{id:Nat}{ops:Array Oper}{x:Ey}{F:List Nat}{Q Q':Aq}{a:AA}{h:A7}(hc:Lm P ops=some x)(hq:∀e a h,Q e a h->Q' e a h)(H:vcT std P F el n x Q a h):AWp P n (.region id ops false) Q' a h:=by
 unfold Lm at hc;split at hc
 ·rename_i o1 o2 hl
  split at hc
  ·rename_i al t x0 y0 u0 h1 g1 g2 hop
   split at hc
   ·rename_i e x' ht hx hy
    simp only[Option.some.injEq] at hc;subst hc;intro C act hC S hn;refine wp_region_list ?_;rw[hl];simp only[Aw] at h1;split at h1
    ·rename_i ao al' hao hal
     simp only[Option.some.injEq] at h1 hal;subst h1;subst hal;obtain⟨k1,k2,k3⟩:=J8 hao
     have hg:ao.guard=none:=by
      rcases k3 with ⟨_,g⟩|⟨j,want,t,g,_,_⟩
      ·exact g
      ·rw[g1] at g;cases g
     have H2:=Eb (K':=λa h=>match evA a x' with | .ref _ _ _ _=>Q .normal (Aj a o2.dst (.bool false)) h|_=>False) (λa h hh=>hh) H;simp only[Ck,hg] at H2;subst hC;unfold wpList;rw[if_pos (by simp[Region.wanted,g1])];refine .inl (IG k1 k2 S hn H2 λa' D act' m1 m2 m3 m4=>?_);unfold wpList;rw[if_pos (by simp[Region.wanted,g2])];refine .inl ?_;split at m1
     ·rename_i s z i o hev
      obtain⟨p,hp⟩:=Y8 (hev▸m2.ev x0 x' hx:VR D _ (act'.eval x0));have hn2:=(m2.ev y0 (.const .nilp) hy:VR D .nilp (act'.eval y0)).nilp'
      have hq2:(Op.equal t (.pointer (some p)) (.pointer none)).run P D.w = .ok false D.w:=by
       exact Y7 ht p D.w 9999
      have hrun:(execOp act'.eval o2).run P D.w = .ok (.value (.bool false)) D.w:=by
       simp[execOp,hop,hp,hn2,Y6,binOp,hq2]
      unfold Oper.wp;rw[hrun];exact⟨Aj a' o2.dst (.bool false),D,hq _ _ _ m1,rfl,m2.put o2.dst (.bool false),m3,m4⟩
     ·exact m1.elim
    ·cases h1
   ·cases hc
  ·cases hc
 ·cases hc
theorem Ec{P:Program}{F el:List Nat}{n:Nat}{code:Code}{c:Ey}{Q Q':Aq}{a:AA}{h:A7}(hc:(match BV P F code with|some c=>some (Ey.s c)|none=>none)=some c)(hd:Ea P F code=true)(hq:∀e a h,Q e a h->Q' e a h)(H:vcT std P F el n c Q a h):AWp P n code Q' a h:=by
 split at hc
 ·rename_i x hx
  simp only[Option.some.injEq] at hc;subst hc;exact JV hx hd hq H
 ·cases hc
theorem N_{P:Program}{F el:List Nat}{n:Nat}:∀ {code:Code} {c:Ey} {Q Q':Aq} {a:AA} {h:A7},CV P F code=some c->KR P F code=true->(∀e a h,Q e a h->Q' e a h)->vcT std P F el n c Q a h->AWp P n code Q' a h
 | .seq x y,c,Q,Q',a,h,hc,hd,hq,H=>by
   simp only[CV] at hc;split at hc
   ·rename_i p q hp hq2
    simp only[Option.some.injEq] at hc;subst hc;simp only[KR,Bool.and_eq_true] at hd;refine AWp.seq (N_ hp hd.1 (λe a h hr=>?_) H)
    cases e with
    | normal=>exact N_ hq2 hd.2 hq hr
    | _=>exact hq _ _ _ hr
   ·cases hc
 | .region id ops false,c,Q,Q',a,h,hc,hd,hq,H=>by
   simp only[CV] at hc
   cases hm:Aa F id with
   | true=>simp only[hm] at hc;exact Y9 hc hq H
   | false=>simp only[hm] at hc;exact Ec (F:=F) hc hd hq H
 | .region id ops true,c,Q,Q',a,h,hc,hd,hq,H=>Ec (F:=F) hc hd hq H
 | .skip,c,Q,Q',a,h,hc,hd,hq,H=>Ec (F:=F) hc hd hq H
 | .ret,c,Q,Q',a,h,hc,hd,hq,H=>Ec (F:=F) hc hd hq H
 | .exit id,c,Q,Q',a,h,hc,hd,hq,H=>Ec (F:=F) hc hd hq H
 | .cond x p q,c,Q,Q',a,h,hc,hd,hq,H=>Ec (F:=F) hc hd hq H
 | .block id x,c,Q,Q',a,h,hc,hd,hq,H=>Ec (F:=F) hc hd hq H
 | .loop x,c,Q,Q',a,h,hc,hd,hq,H=>Ec (F:=F) hc hd hq H
 | .rangeFunc _ _ _ _,c,Q,Q',a,h,hc,hd,hq,H=>Ec (F:=F) hc hd hq H
 | .scope _,c,Q,Q',a,h,hc,hd,hq,H=>Ec (F:=F) hc hd hq H
 | .label _,c,Q,Q',a,h,hc,hd,hq,H=>Ec (F:=F) hc hd hq H
 | .goto _,c,Q,Q',a,h,hc,hd,hq,H=>Ec (F:=F) hc hd hq H
 | .refuse _,c,Q,Q',a,h,hc,hd,hq,H=>Ec (F:=F) hc hd hq H
theorem AJ.ofT {P : Program} {F : List Nat} {g : FuncId} {fn : Func} {code : Code} {sc : Ey} {r : List DT} {args : List AV} {h : A7} {K : AV → A7 → Prop} (hf : P.funcs[g]? = some fn) (hname : (fn.name == "runtime.NumGoroutine") = false) (hb : fn.body = some code) (hr : Gy P fn.results.toList = some r)
 (hc:CV P F code=some sc) (hdr:KR P F code=true) (H:∀w,w=std->vcT w P F (Ny [] sc) h.length sc (KS r K) (DU args fn.ntmps) h):AJ P g args h K:=by
 have HA:AWp P h.length code (KT r K) (DU args fn.ntmps) h:=N_ hc hdr (λe a h hr=>Lp e a h hr) (H std rfl);refine⟨⟨fn,hf,by simp[hb],hname⟩,λC vs hC RC hv=>?_⟩;refine calls_of_wp hf hb ?_;refine wp_mono (HA C _ hC (JC RC hv fn.ntmps) (Nat.le_refl _)) λe act' w' ⟨a',D,h1,h2,h3,h4,h5⟩=>?_
 have fin:(∃l,Cm a' D.h r=some l/\K (Cb l) D.h)->act'.defers=[]/\∃v,(results fn act'.tmps).run P w' = .ok v w' /\
  ∃v' r D,Ending.returned v = .returned v'/\K r D.h/\D.w=w'/\Rel D/\VR D r v'/\Ext h.length C D/\h.length<=D.h.length:=by
  rintro⟨l,hl,hK⟩
  obtain⟨u,k1,k2⟩:=JB hr h3 hl;subst h2;exact⟨h3.nodef,u,k1,u,_,D,rfl,hK,rfl,h3.rel,k2,h4,h5⟩
 cases e with
 | normal=>exact fin h1
 | ret=>exact fin h1
 | exit id=>exact h1.elim
 | goto l=>exact h1.elim
 | panic c=>exact h1.elim
 | outgrown=>exact h1.elim
theorem AJ.fresh{P:Program}{g:FuncId}{args:List AV}{z:Nat}{es:List (List AV)}{h:A7}{K:AV->A7->Prop}(H:AJ P g args [] (λr hD=>r = .ref 0 z 0 0/\hD=[.live z es]))(hu:Up0 es)(ha:Af 0 args=true)
 (hK:K (.ref h.length z 0 0) (h++[.live z es])):AJ P g args h K:=by
 refine⟨H.1,λC vs hC RC hv=>?_⟩;subst hC;obtain⟨C0,eC0⟩:∃C0:Cfg,C0={ O:=C.own,r:=C.r,h:=[],w:=C.w }:=⟨_,rfl⟩;have c0h:C0.h=[]:=by rw[eC0]
 have c0w:C0.w=C.w:=by rw[eC0]
 have c0O:C0.O=C.own:=by rw[eC0]
 have hno:∀b,¬C0.lown b:=by
  rintro b ⟨s,⟨z,es,hs⟩,_⟩;rw[c0h] at hs;simp at hs
 have own0:∀b,C0.own b->C.own b:=λb hb=>hb.elim (λh=>by rw[c0O] at h;exact h) λh=>absurd h (hno b)
 have R0:Rel C0:=by
  refine⟨λs z es h=>by rw[c0h] at h;simp at h,λs t ⟨z,es,h⟩=>by rw[c0h] at h;simp at h,λb hb=>?_,λp hp=>(RC.glo p hp).recfg c0w own0 (FC hp 0),λp hp=>by rw[c0w];exact RC.gsz p hp⟩;rw[c0O] at hb;rw[c0w];rcases hb with hb|⟨s,hs,rfl⟩
  ·exact RC.olt b hb
  ·exact RC.lown_lt ⟨s,hs,rfl⟩
 have v0:VRs C0 args vs:=by
  refine⟨hv.1,λi x hx=>?_⟩;have hup:=BK ha hx;exact VR.unren (f:=λs=>s) c0w own0 (λs hs=>by rw[c0h] at hs;simp at hs) (hv.2 i x hx) x (by rw[c0h];exact hup) (FF _ x hup)
 have hH:=H.2 C0 vs c0h R0 v0;rw[c0w] at hH;refine hH.mono λe w' ⟨v,r,D,h1,⟨h2,h2h⟩,h3,h5,h6,h7,h8⟩=>?_;subst h2;subst h3;obtain⟨n,en⟩:=Z.e C.h.length;obtain⟨D',eD'⟩:∃D':Cfg,D'={ O:=C.O,r:=λs=>if s<n then C.r s else D.r 0,h:=C.h++[.live z es],w:=D.w }:=⟨_,rfl⟩;have dO:D'.O=C.O:=by rw[eD']
 have dw:D'.w=D.w:=by rw[eD']
 have dh:D'.h=C.h++[.live z es]:=by rw[eD']
 have dr:∀s,s<n->D'.r s=C.r s:=λs hs=>by rw[eD'];exact if_pos hs
 have drn:D'.r n=D.r 0:=by rw[eD'];exact if_neg (Nat.lt_irrefl _)
 have D0O:D.O=C.own:=by rw[h7.O,c0O]
 have hD0:D.h[0]?=some (.live z es):=by rw[h2h];rfl
 obtain⟨g1,o,gg,g2,g3,g4⟩:=h5.livx 0 z es hD0
 have hlt:∀s,D'.live s->s<n/\C.live s\/s=n:=by
  rintro s ⟨z',es',hs⟩;rw[dh] at hs;by_cases hsn:s<n
  ·rw[List.getElem?_append_left Z.o] at hs
   exact .inl ⟨hsn,z',es',hs⟩
  ·have:=(List.getElem?_eq_some_iff.1 hs).1
   simp only[List.length_append,List.length_cons,List.length_nil] at this;exact .inr Z.o
 have keep:=λb hb=>h7.keep b hb (hno b);rw[c0w] at keep;have hsz:C.w.heap.size<=D.w.heap.size:=by have:=h7.size;rwa [c0w] at this
 have E:Ext C.h.length C D':=by
  refine⟨dO,by rw[dw];have:=h7.os;rwa [c0w] at this,by rw[dw];have:=h7.tape;rwa [c0w] at this,by rw[dw];have:=h7.output;rwa [c0w] at this,by rw[dw];exact hsz,λs hs hus=>?_,λb hb hl=>⟨by rw[dw];exact(keep b hb).1,?_⟩,λb x hx=>by rw[dw];exact h7.shape b x (by rw[c0w];exact hx)⟩
  ·obtain⟨y,hy,hne⟩:=hus
   exact⟨⟨y,by rw[dh,List.getElem?_append_left hs];exact hy,hne⟩,dr s Z.o⟩
  ·rintro⟨s,hs,hr⟩
   rcases hlt s hs with ⟨h1,h2⟩|rfl
   ·exact hl ⟨s,h2,by rw[<- dr s h1];exact hr⟩
   ·rw[drn] at hr
    exact(keep b hb).2 ⟨0,⟨z,es,hD0⟩,hr⟩
 have ownD:∀b,D'.own b->D.own b:=by
  rintro b (hb|⟨s,hs,hr⟩)
  ·rw[dO] at hb
   exact .inl (by rw[D0O];exact .inl hb)
  ·rcases hlt s hs with ⟨h1,h2⟩|rfl
   ·exact .inl (by rw[D0O];exact .inr ⟨s,h2,by rw[<- dr s h1];exact hr⟩)
   ·rw[drn] at hr
    exact .inr ⟨0,⟨z,es,hD0⟩,hr⟩
 have hnO:¬C.own (D.r 0):=by rw[<- D0O];exact g1
 have RD:Rel D':=by
  refine RC.of_ext E (λs z' es' hs=>?_) ?_
  ·rcases hlt s ⟨z',es',hs⟩ with ⟨h1,h2⟩|rfl
   ·rw[dh,List.getElem?_append_left Z.o] at hs
    exact .inl ⟨hs,dr s h1,by rw[dw];exact(keep _ (RC.lown_lt ⟨s,⟨z',es',hs⟩,rfl⟩)).1⟩
   ·rw[dh,en,List.getElem?_append_right (Nat.le_refl _),Nat.sub_self] at hs
    have hs:Ai.live z es=Ai.live z' es':=(by simpa using hs);cases hs
    refine .inr ⟨by rw[dO,drn];exact λh=>hnO (.inl h),o,gg,by rw[dw,drn];exact g2,g3,λi e he j x hx=>?_⟩;have hup:=BK (Di hu.get he) hx;have:=VR.rens (C:=D') (D:=D) (f:=λs=>s) (m:=0) dw ownD (λs hs=>by omega) (g4 i e he j x hx) hup
    rwa [FF _ x hup] at this
  ·intro s t hs ht hr
   rcases hlt s hs with ⟨a1,a2⟩|rfl<;>rcases hlt t ht with ⟨b1,b2⟩|rfl
   ·rw[dr s a1,dr t b1] at hr
    exact RC.inj s t a2 b2 hr
   ·rw[dr s a1,drn] at hr
    exact absurd (.inr ⟨s,a2,hr⟩) hnO
   ·rw[dr t b1,drn] at hr
    exact absurd (.inr ⟨t,b2,hr.symm⟩) hnO
   ·rfl
 have hres:VR D' (.ref n z 0 0) v:=by
  refine VR.rens (C:=D') (D:=D) (f:=λ_=>n) (m:=1) dw ownD (λs hs _=>?_) h6 rfl;have h0:s=0:=(by omega);subst h0;exact⟨⟨_,by rw[dh,en,List.getElem?_append_right (Nat.le_refl _),Nat.sub_self];rfl,by intro h;cases h⟩,drn⟩
 exact⟨v,.ref n z 0 0,D',h1,by rw[dh,en];exact hK,dw,RD,hres,E,by rw[dh];simp⟩
theorem Call.fresh{P P0:Program}{g:FuncId}{args:List AV}{z:Nat}{es:List (List AV)}{h:A7}{K:AA->A7->Prop}{a:AA}{dst:Option Nat}(hP:P0=P)(H:AJ P0 g args [] (λr hD=>r = .ref 0 z 0 0/\hD=[.live z es]))(hu:Up0 es)(ha:Af 0 args=true)
 (hK:K (Aj a dst (.ref h.length z 0 0)) (h++[.live z es])):Call P g args h (Cn K a dst):=by
 subst hP;exact Call.of (AJ.fresh H hu ha hK)
end Go.Eng
namespace Go.Proofs.YtlchlddijclhjaaGreat
open Go Go.RowKit Go.Eng
set_option maxRecDepth 100000
abbrev Cy:=List (List Int)×Bool
def DJ(c:Cy):List AV:=[.list 1 (c.1.map Em),c.2]
theorem HZ(l:List Cy):Up0 (l.map DJ):=BM (f:=DJ) (λc=>by simp only[DJ,Af,AV.upto,(IL c.1).get];rfl) l
structure EU(l:List Cy):Prop where
 n:l.length<=400
 l:∀c,c∈l->c.1.length<=50/\∀b,b∈c.1->b.length<=300
structure D6(ss:List Sg)(gs:List Gr):Prop where
 s:ss.length<=50
 g:gs.length<=60
 l:∀s,s∈ss->s.ps.length<=70/\s.nx.length<=3
theorem NY(ss:List Sg)(gs:List Gr)(es ds:List (List AV))(zQ:es=ss.map Ah)(zY:ds=gs.map Ak)(l:List Cy)(rs:List (List AV))(yD:rs=l.map DJ):A9 Tryz.prog 10 [.agg [.list 3 es,.list 5 ds],.list 2 rs] (λr=>∃o:Bool,r = .bool o/\(o=true->D6 ss gs/\EU l)):=by
 have hu:Up0 es:=by rw[zQ];exact Bu ss
 have hud:Up0 ds:=by rw[zY];exact Bv gs
 have hur:Up0 rs:=by rw[yD];exact HZ l
 have hel:es.length=ss.length:=by rw[zQ];simp
 have hdl:ds.length=gs.length:=by rw[zY];simp
 have hrl:rs.length=l.length:=by rw[yD];simp
 refine Z.y Tryz.func10 λzB _ _ _ _ zK hw zC zA _ _ _ zH hz R hR P hP=>?_;cbv
 (obtain⟨L,eL,L0,Ln⟩:∃L:Int,zK es=L/\0<=L/\L.toNat=es.length:=⟨(es.length:Int),by rw[zH],Int.natCast_nonneg _,Int.toNat_natCast _⟩)
 (obtain⟨J,eJ,J0,Jn⟩:∃L:Int,zK ds=L/\0<=L/\L.toNat=ds.length:=⟨(ds.length:Int),by rw[zH],Int.natCast_nonneg _,Int.toNat_natCast _⟩)
 (obtain⟨N,eN,N0,Nn⟩:∃L:Int,zK rs=L/\0<=L/\L.toNat=rs.length:=⟨(rs.length:Int),by rw[zH],Int.natCast_nonneg _,Int.toNat_natCast _⟩)
 have hF:R (.bool false):=hR _ ⟨_,rfl,λh=>by cases h⟩;by_cases h1:50<L
 ·have d1:=W.gt zA h1
  repeat' (first|(simp only[eL,d1];cbv)|fail)
  exact⟨_,Vw.same rfl,hF⟩
 have d1:=W.ngt zA (show L<=50 by omega);by_cases h2:60<J
 ·have d2:=W.gt zA h2
  repeat' (first|(simp only[eL,d1,eJ,d2];cbv)|fail)
  exact⟨_,Vw.same rfl,hF⟩
 have d2:=W.ngt zA (show J<=60 by omega);by_cases h3:120<N
 ·have d3:=W.gt zA h3
  repeat' (first|(simp only[eL,d1,eJ,d2,eN,d3];cbv)|fail)
  exact⟨_,Vw.same rfl,hF⟩
 have d3:=W.ngt zA (show N<=120 by omega);repeat' (first|(simp only[eL,d1,eJ,d2,eN,d3];cbv)|fail)
 refine Ae.data hw (S:=Int) (λi=>fr 76 [(1,.list 2 rs),(2,.ref 0 2 0 0),(25,.list 3 es),(26,L),(27,i)]) (λ_=>[.live 2 [[.list 3 es,.list 5 ds]]])
  (λi=>0<=i/\i<=L/\∀j,j<i.toNat->∀s,ss[j]?=some s->s.ps.length<=70/\s.nx.length<=3) (λi=>(L-i).toNat) 0 Z.i ⟨Int.le_refl _,L0,λj hj=>by simp at hj⟩ ?_
 rintro i zJ Q' hN hE hR';have zJ:0<=i/\i<=L/\∀j,j<i.toNat->∀s,ss[j]?=some s->s.ps.length<=70/\s.nx.length<=3:=zJ;obtain⟨zW,yZ,hss⟩:=zJ;by_cases yC:i<L
 ·obtain⟨⟨len,ps,nx⟩,hs⟩:∃s,ss[i.toNat]?=some s:=⟨_,List.getElem?_eq_getElem (show i.toNat<ss.length by omega)⟩
  obtain⟨pq,epq⟩:=Z.e (ps.map Ap);obtain⟨xn,exn⟩:=Z.e (nx.map Ac);have zL:es[i.toNat]?=some [.int .i64 len,.list 2 pq,.list 1 xn]:=(by rw[zQ,List.getElem?_map,hs,epq,exn];rfl);have hpl:pq.length=ps.length:=(by rw[epq];simp);have hxl:xn.length=nx.length:=(by rw[exn];simp);obtain⟨i2,ei2⟩:=Z.e (i+1);have hT:(L-i2).toNat<(L-i).toNat:=by omega
  have yK:ps.length<=70->nx.length<=3->∀j,j<i2.toNat->∀s,ss[j]?=some s->s.ps.length<=70/\s.nx.length<=3:=λa b j hj s hsj=>by
   by_cases hji:j=i.toNat
   ·rw[hji,hs] at hsj
    cases hsj
    exact⟨a,b⟩
   ·exact hss j Z.o s hsj
  (obtain⟨K,eK,K0,Kn⟩:∃L:Int,zK pq=L/\0<=L/\L.toNat=pq.length:=⟨(pq.length:Int),by rw[zH],Int.natCast_nonneg _,Int.toNat_natCast _⟩)
  (obtain⟨M,eM,M0,Mn⟩:∃L:Int,zK xn=L/\0<=L/\L.toNat=xn.length:=⟨(xn.length:Int),by rw[zH],Int.natCast_nonneg _,Int.toNat_natCast _⟩)
  have ck:=W.lt zA yC;have a5:zB .add .i64 i 1=i2:=(by rw[zC,Ag Z.o Z.o,ei2]);clear hs epq exn;by_cases k1:70<K
  ·have e1:=W.gt zA k1
   cbv;repeat' (first|(simp only[ck,eK,e1];cbv)|(refine Idx.mk _ zW zL ?_;cbv)|fail)
   exact hR' _ _ ⟨_,Vw.same rfl,hF⟩
  have e1:=W.ngt zA (show K<=70 by omega);by_cases k2:3<M
  ·have e2:=W.gt zA k2
   cbv;repeat' (first|(simp only[ck,eK,e1,eM,e2];cbv)|(refine Idx.mk _ zW zL ?_;cbv)|fail)
   exact hR' _ _ ⟨_,Vw.same rfl,hF⟩
  have e2:=W.ngt zA (show M<=3 by omega);have yK:=yK Z.o Z.o;cbv;repeat' (first|(simp only[ck,eK,e1,eM,e2,a5];cbv)|(refine Idx.mk _ zW zL ?_;cbv)|fail)
  refine hN i2 _ _ ?hx ?hi hT
  case hx=>exact Z.i
  case hi=>exact⟨by omega,by omega,yK⟩
 have ck:=W.nlt zA (show L<=i by omega)
 have hsA:∀s,s∈ss->s.ps.length<=70/\s.nx.length<=3:=λs hs=>by
  obtain⟨j,hj⟩:=List.mem_iff_getElem?.1 hs;exact hss j (by have:=(List.getElem?_eq_some_iff.1 hj).1;omega) s hj
 clear hss;cbv;repeat' (first|(simp only[ck];cbv)|fail)
 refine hE _ _ _ ?_;cbv;repeat' (first|(simp only[eN];cbv)|fail)
 clear hN hE hR'
 refine Ae.data hw (S:=Int) (λi=>fr 76 [(1,.list 2 rs),(50,N),(51,i)]) (λ_=>[])
  (λi=>0<=i/\i<=N/\∀j,j<i.toNat->∀c,l[j]?=some c->c.1.length<=50/\∀b,b∈c.1->b.length<=300) (λi=>(N-i).toNat) 0 Z.i ⟨Int.le_refl _,N0,λj hj=>by simp at hj⟩ ?_
 rintro i zJ Q' hN hE hR';have zJ:0<=i/\i<=N/\∀j,j<i.toNat->∀c,l[j]?=some c->c.1.length<=50/\∀b,b∈c.1->b.length<=300:=zJ;obtain⟨zW,yZ,hcc⟩:=zJ;by_cases yC:i<N
 rotate_left 1
 ·have ck:=W.nlt zA (show N<=i by omega)
  have hcA:∀c,c∈l->c.1.length<=50/\∀b,b∈c.1->b.length<=300:=λs hs=>by
   obtain⟨j,hj⟩:=List.mem_iff_getElem?.1 hs;exact hcc j (by have:=(List.getElem?_eq_some_iff.1 hj).1;omega) s hj
  clear hcc;cbv;repeat' (first|(simp only[ck];cbv)|fail)
  refine hE _ _ _ ?_;cbv;exact⟨_,Vw.same rfl,hR _ ⟨_,rfl,λ_=>⟨⟨by omega,by omega,hsA⟩,by omega,hcA⟩⟩⟩
 obtain⟨⟨bs,cm⟩,hs⟩:∃s,l[i.toNat]?=some s:=⟨_,List.getElem?_eq_getElem (show i.toNat<l.length by omega)⟩;obtain⟨br,ebr⟩:=Z.e (bs.map Em);have hubr:Up0 br:=by rw[ebr];exact IL bs
 have zL:rs[i.toNat]?=some [.list 1 br,.bool cm]:=by rw[yD,List.getElem?_map,hs,ebr];rfl
 have hbl:br.length=bs.length:=by rw[ebr];simp
 obtain⟨i2,ei2⟩:=Z.e (i+1);have hT:(N-i2).toNat<(N-i).toNat:=by omega
 have yK:bs.length<=50->(∀b,b∈bs->b.length<=300)->∀j,j<i2.toNat->∀c,l[j]?=some c->c.1.length<=50/\∀b,b∈c.1->b.length<=300:=λa b j hj s hsj=>by
  by_cases hji:j=i.toNat
  ·rw[hji,hs] at hsj
   cases hsj
   exact⟨a,b⟩
  ·exact hcc j Z.o s hsj
 (obtain⟨K,eK,K0,Kn⟩:∃L:Int,zK br=L/\0<=L/\L.toNat=br.length:=⟨(br.length:Int),by rw[zH],Int.natCast_nonneg _,Int.toNat_natCast _⟩)
 have ck:=W.lt zA yC;have a5:zB .add .i64 i 1=i2:=by rw[zC,Ag Z.o Z.o,ei2]
 clear hs;by_cases k1:40<K
 ·have e1:=W.gt zA k1
  cbv;repeat' (first|(simp only[ck,eK,e1];cbv)|(refine Idx.mk _ zW zL ?_;cbv)|fail)
  exact hR' _ _ ⟨_,Vw.same rfl,hF⟩
 have e1:=W.ngt zA (show K<=40 by omega);cbv;repeat' (first|(simp only[ck,eK,e1];cbv)|(refine Idx.mk _ zW zL ?_;cbv)|fail)
 refine Ae.data hw (S:=Int) (λj=>fr 76 [(1,.list 2 rs),(50,N),(51,i),(65,.list 1 br),(66,K),(67,j)]) (λ_=>[])
  (λj=>0<=j/\j<=K/\∀q,q<j.toNat->∀b,bs[q]?=some b->b.length<=300) (λj=>(K-j).toNat) 0 Z.i ⟨Int.le_refl _,K0,λj hj=>by simp at hj⟩ ?_
 rintro j yV Q2 hN2 hE2 hR2;have yV:0<=j/\j<=K/\∀q,q<j.toNat->∀b,bs[q]?=some b->b.length<=300:=yV;obtain⟨hj0,hj1,hbb⟩:=yV;by_cases hjn:j<K
 rotate_left 1
 ·have d2:=W.nlt zA (show K<=j by omega)
  have hbA:∀b,b∈bs->b.length<=300:=λs hs=>by
   obtain⟨q,hq⟩:=List.mem_iff_getElem?.1 hs;exact hbb q (by have:=(List.getElem?_eq_some_iff.1 hq).1;omega) s hq
  have yK:=yK Z.o hbA;clear hbb hbA;cbv;repeat' (first|(simp only[d2];cbv)|fail)
  refine hE2 _ _ _ ?_;cbv;repeat' (first|(simp only[a5];cbv)|fail)
  refine hN i2 _ _ ?hx ?hi hT
  case hx=>exact Z.i
  case hi=>exact⟨by omega,by omega,yK⟩
 obtain⟨b,hb⟩:∃s,bs[j.toNat]?=some s:=⟨_,List.getElem?_eq_getElem (show j.toNat<bs.length by omega)⟩;obtain⟨bb,ebb⟩:=Z.e (b.map AZ);have hubb:Up0 bb:=by rw[ebb];exact Ao b
 have hrowb:br[j.toNat]?=some [.list 1 bb]:=by rw[ebr,List.getElem?_map,hb,ebb];rfl
 have hbbl:bb.length=b.length:=by rw[ebb];simp
 obtain⟨j2,ej2⟩:=Z.e (j+1);have hT2:(K-j2).toNat<(K-j).toNat:=by omega
 have hnb:b.length<=300->∀q,q<j2.toNat->∀b,bs[q]?=some b->b.length<=300:=λa q hq s hsj=>by
  by_cases hji:q=j.toNat
  ·rw[hji,hb] at hsj
   cases hsj
   exact a
  ·exact hbb q Z.o s hsj
 (obtain⟨M,eM,M0,Mn⟩:∃L:Int,zK bb=L/\0<=L/\L.toNat=bb.length:=⟨(bb.length:Int),by rw[zH],Int.natCast_nonneg _,Int.toNat_natCast _⟩)
 have d2:=W.lt zA hjn;have a6:zB .add .i64 j 1=j2:=by rw[zC,Ag Z.o Z.o,ej2]
 clear hb hbb;by_cases k2:200<M
 ·have e2:=W.gt zA k2
  cbv;repeat' (first|(simp only[d2,eM,e2];cbv)|(refine Idx.mk _ hj0 hrowb ?_;cbv)|fail)
  refine hR2 _ _ ?_;refine hR' _ _ ⟨_,Vw.same rfl,hF⟩
 have e2:=W.ngt zA (show M<=200 by omega);have hnb:=hnb Z.o;cbv;repeat' (first|(simp only[d2,eM,e2,a6];cbv)|(refine Idx.mk _ hj0 hrowb ?_;cbv)|fail)
 refine hN2 j2 _ _ ?hx2 ?hi2 hT2
 case hx2=>exact Z.i
 case hi2=>exact⟨by omega,by omega,hnb⟩
def Al:Nat->Int->List Int
 | 0,_=>[]
 | n+1,v=>Al n (v/256)++[v%256]
theorem wrap_u8{b:Int}(h0:0<=b)(h1:b<=255):IntKind.u8.wrap b=b:=by
 rw[IntKind.wrap_u8];omega
theorem Ez:∀n v,(Al n v).length=n
 | 0,_=>rfl
 | n+1,v=>by simp[Al,Ez n]
theorem Fh:∀n v,Ar (Al n v)
 | 0,_=>λx h=>by simp[Al] at h
 | n+1,v=>λx h=>by
   rcases List.mem_append.1 h with h|h
   ·exact Fh n _ x h
   ·simp at h;omega
theorem R8(k:Nat)(tl:List Int)(b:Int):((List.replicate (k+1) 0++tl).map AZ).set k (AZ b)=((List.replicate k 0++b::tl).map AZ):=by
 apply List.ext_getElem?;intro i;rw[List.getElem?_set];simp only[List.getElem?_map,List.length_map,List.length_append,List.length_replicate];by_cases h:k=i
 ·subst h
  rw[if_pos rfl,if_pos Z.o,List.getElem?_append_right (by simp)];simp
 ·rw[if_neg h]
  congr 1
  by_cases h2:i<k
  ·rw[List.getElem?_append_left (by simp;omega),List.getElem?_append_left (by simp;omega),List.getElem?_replicate,List.getElem?_replicate,if_pos Z.o,if_pos h2]
  ·rw[List.getElem?_append_right (by simp;omega),List.getElem?_append_right (by simp;omega)]
   simp only[List.length_replicate];rw[show i-k=(i-(k+1))+1 by omega,List.getElem?_cons_succ]
theorem R9(k:Nat)(tl:List Int):((List.replicate (k+1) 0++tl).map AZ)[k]?=some (AZ 0):=by
 rw[List.getElem?_map,List.getElem?_append_left (by simp),List.getElem?_replicate,if_pos Z.o];rfl
theorem GQ(v n:Int)(hv: -9223372036854775808<=v/\v<=9223372036854775807)(hn0:0<=n)(hn1:n<=1000)(us:List (List AV))(hus:us=(Al n.toNat v).map AZ):A9 Tryz.prog 66 [v,n] (· = .list 1 us):=by
 obtain⟨n0,en0⟩:=Z.f n.toNat;rw[en0] at hus;have hl:=Ez n0 v;refine Z.y Tryz.func66 λzB _ _ zD _ _ hw zC zA _ zG _ _ hz R hR P hP=>?_;cbv;refine Mk.mk (List.replicate n0 [.int .u8 0]) n0 hn0 (Int.le_refl _) Z.o Z.o en0.symm rfl ?_;obtain⟨os,eos⟩:=Z.f (List.replicate n0 [AV.int .u8 0]);have hos:os=(List.replicate n0 0++([]:List Int)).map AZ:=by rw[<- eos,List.append_nil,List.map_replicate];rfl
 have huo:Up0 os:=by rw[hos];exact Ao _
 rw[eos];clear eos;obtain⟨i0,ei0⟩:=Z.e (n-1);have s0:zB .sub .i64 n 1=i0:=by rw[zC,Bj Z.o Z.o,ei0]
 cbv;by_cases hs:v<0
 ·have d1:=W.lt zA hs
  obtain⟨w0,ew0⟩:∃x,x = -1-v:=⟨_,rfl⟩;have s1:zB .sub .i64 (-1) v=w0:=(by rw[zC,Bj Z.o Z.o,ew0]);simp only[d1,s0,s1];cbv;simp only[s0,s1]
  refine Ae.data hw (S:=Int×Int×List (List AV)) (λs=>fr 46 [(5,.sl 0 1 0 n0),(6,s.2.1),(7,s.1)]) (λs=>[.live 1 s.2.2])
   (λs=> -1<=s.1/\s.1<n/\0<=s.2.1/\s.2.1<=9223372036854775807/\∃tl:List Int,s.2.2=(List.replicate (s.1+1).toNat 0++tl).map AZ/\Al (s.1+1).toNat (-1-s.2.1)++tl=Al n0 v) (λs=>(s.1+1).toNat) (i0,w0,os) Z.i
   ⟨by simp only;omega,by simp only;omega,by simp only;omega,by simp only;omega,[],by simp only;rw[hos,show (i0+1).toNat=n0 by omega],by simp only;rw[List.append_nil,show (i0+1).toNat=n0 by omega,show -1-w0=v by omega]⟩ ?_
  rintro⟨i,w,o⟩ zJ Q' hN hE hR'
  have zJ: -1<=i/\i<n/\0<=w/\w<=9223372036854775807/\∃tl:List Int,o=(List.replicate (i+1).toNat 0++tl).map AZ/\Al (i+1).toNat (-1-w)++tl=Al n0 v:=zJ;obtain⟨zW,yZ,hw0,hw1,tl,ho,hp⟩:=zJ;have huo:Up0 o:=(by rw[ho];exact Ao _);by_cases hc:0<=i
  ·obtain⟨k,ek⟩:=Z.f i.toNat
   rw[show (i+1).toNat=k+1 by omega] at ho hp;obtain⟨r,er⟩:=Z.e (w%256);obtain⟨b,eb⟩:=Z.e (255-r);obtain⟨w2,ew2⟩:=Z.e (w/256);obtain⟨i2,ei2⟩:=Z.e (i-1);have hT:(i2+1).toNat<(i+1).toNat:=(by omega);obtain⟨o2,eo2⟩:=Z.e (o.set k (AZ b));have ho2:o2=(List.replicate k 0++b::tl).map AZ:=(by rw[eo2,ho];exact R8 k tl b);have huo2:Up0 o2:=(by rw[ho2];exact Ao _);have zL:o[k]?=some [.int .u8 0]:=by rw[ho];exact R9 k tl
   have hp2:Al k (-1-w2)++b::tl=Al n0 v:=by
    rw[<- hp];show _=(Al k ((-1-w)/256)++[(-1-w)%256])++tl;rw[show (-1-w)/256 = -1-w2 by omega,show (-1-w)%256=b by omega,List.append_assoc];rfl
   have hk:k<n0:=(by omega);have hw2:0<=w2/\w2<=9223372036854775807:=(by omega);have d2:=W.ge zA hc;have r1:zB .rem .i64 w 256=r:=(by rw[zC,er];exact D8 hw0);have r2:zB .sub .i64 255 r=b:=(by rw[zC,Bj Z.o Z.o,eb]);have r3:zD .u8 b=b:=(by rw[zG];exact wrap_u8 Z.o Z.o);have r4:zB .quo .i64 w 256=w2:=(by rw[zC,DX hw0 Z.d Z.o,ew2]);have r5:zB .sub .i64 i 1=i2:=(by rw[zC,Bj Z.o Z.o,ei2]);clear ho hp er ew2;cbv;repeat' (first|(simp only[d2,r1,r2,r3,r4,r5];cbv)|(refine Nz.mk Z.d ?_;cbv)|(refine At.mk k hc Z.o (by rw[Nat.zero_add];exact ek) ?_;cbv)|(refine Ie.mk [.int .u8 0] o2 zL eo2 ?_;cbv)|fail)
   refine hN (i2,w2,o2) _ _ ?hx ?hi hT
   case hx=>exact Z.i
   case hi=>exact⟨by simp only;omega,by simp only;omega,by simp only;omega,by simp only;omega,b::tl,by simp only;rw[ho2,show (i2+1).toNat=k by omega],by simp only;rw[show (i2+1).toNat=k by omega];exact hp2⟩
  ·have d2:=W.nge zA (show i<0 by omega)
   rw[show (i+1).toNat=0 by omega] at ho hp;have yP:o=us:=(by rw[ho,hus,<- hp];rfl);have hol:o.length=n0:=(by rw[yP,hus,List.length_map,hl]);clear ho hp;cbv;simp only[d2];refine hE _ _ _ ?_;cbv;refine⟨_,Vw.sl rfl huo.get Z.o,hR _ ?_⟩;rw[List.drop_zero,List.take_of_length_le Z.o,yP]
 ·have d1:=W.nlt zA (show 0<=v by omega)
  simp only[d1,s0];cbv;simp only[s0]
  refine Ae.data hw (S:=Int×Int×List (List AV)) (λs=>fr 46 [(0,s.2.1),(5,.sl 0 1 0 n0),(8,s.1)]) (λs=>[.live 1 s.2.2])
   (λs=> -1<=s.1/\s.1<n/\0<=s.2.1/\s.2.1<=9223372036854775807/\∃tl:List Int,s.2.2=(List.replicate (s.1+1).toNat 0++tl).map AZ/\Al (s.1+1).toNat s.2.1++tl=Al n0 v) (λs=>(s.1+1).toNat) (i0,v,os) Z.i
   ⟨by simp only;omega,by simp only;omega,by simp only;omega,by simp only;omega,[],by simp only;rw[hos,show (i0+1).toNat=n0 by omega],by simp only;rw[List.append_nil,show (i0+1).toNat=n0 by omega]⟩ ?_
  rintro⟨i,w,o⟩ zJ Q' hN hE hR'
  have zJ: -1<=i/\i<n/\0<=w/\w<=9223372036854775807/\∃tl:List Int,o=(List.replicate (i+1).toNat 0++tl).map AZ/\Al (i+1).toNat w++tl=Al n0 v:=zJ;obtain⟨zW,yZ,hw0,hw1,tl,ho,hp⟩:=zJ;have huo:Up0 o:=(by rw[ho];exact Ao _);by_cases hc:0<=i
  ·obtain⟨k,ek⟩:=Z.f i.toNat
   rw[show (i+1).toNat=k+1 by omega] at ho hp;obtain⟨b,eb⟩:=Z.e (w%256);obtain⟨w2,ew2⟩:=Z.e (w/256);obtain⟨i2,ei2⟩:=Z.e (i-1);have hT:(i2+1).toNat<(i+1).toNat:=(by omega);obtain⟨o2,eo2⟩:=Z.e (o.set k (AZ b));have ho2:o2=(List.replicate k 0++b::tl).map AZ:=(by rw[eo2,ho];exact R8 k tl b);have huo2:Up0 o2:=(by rw[ho2];exact Ao _);have zL:o[k]?=some [.int .u8 0]:=by rw[ho];exact R9 k tl
   have hp2:Al k w2++b::tl=Al n0 v:=by
    rw[<- hp];show _=(Al k (w/256)++[w%256])++tl;rw[<- ew2,<- eb,List.append_assoc];rfl
   have hk:k<n0:=(by omega);have hw2:0<=w2/\w2<=9223372036854775807:=(by omega);have d2:=W.ge zA hc;have r1:zB .rem .i64 w 256=b:=(by rw[zC,eb];exact D8 hw0);have r3:zD .u8 b=b:=(by rw[zG];exact wrap_u8 Z.o Z.o);have r4:zB .quo .i64 w 256=w2:=(by rw[zC,DX hw0 Z.d Z.o,ew2]);have r5:zB .sub .i64 i 1=i2:=(by rw[zC,Bj Z.o Z.o,ei2]);clear ho hp eb ew2;cbv;repeat' (first|(simp only[d2,r1,r3,r4,r5];cbv)|(refine Nz.mk Z.d ?_;cbv)|(refine At.mk k hc Z.o (by rw[Nat.zero_add];exact ek) ?_;cbv)|(refine Ie.mk [.int .u8 0] o2 zL eo2 ?_;cbv)|fail)
   refine hN (i2,w2,o2) _ _ ?hx ?hi hT
   case hx=>exact Z.i
   case hi=>exact⟨by simp only;omega,by simp only;omega,by simp only;omega,by simp only;omega,b::tl,by simp only;rw[ho2,show (i2+1).toNat=k by omega],by simp only;rw[show (i2+1).toNat=k by omega];exact hp2⟩
  ·have d2:=W.nge zA (show i<0 by omega)
   rw[show (i+1).toNat=0 by omega] at ho hp;have yP:o=us:=(by rw[ho,hus,<- hp];rfl);have hol:o.length=n0:=(by rw[yP,hus,List.length_map,hl]);clear ho hp;cbv;simp only[d2];refine hE _ _ _ ?_;cbv;refine⟨_,Vw.sl rfl huo.get Z.o,hR _ ?_⟩;rw[List.drop_zero,List.take_of_length_le Z.o,yP]
def pcB(p:Int×Int):List Int:=Al 8 p.1++Al 4 p.2
def EE(s:Sg):List Int:=Al 8 s.len++((s.ps.length:Int)%256::(s.ps.flatMap pcB++((s.nx.length:Int)%256::s.nx.map (· % 256))))
def EF(g:Gr):List Int:=Al 2 g.id++(g.seg%256::(Al 8 g.off++(Al 4 g.acc++Al 4 g.sl)))
def Cr(ss:List Sg)(gs:List Gr):List Int:=[79,68,79,49]++(Al 2 ss.length++(ss.flatMap EE++(Al 2 gs.length++gs.flatMap EF)))
def CZ(ss:List Sg)(gs:List Gr):List Int:=Cr ss gs++[bi (crF 65535#16 (Cr ss gs))/256,bi (crF 65535#16 (Cr ss gs))%256]
theorem Lr{α: Type}{l:List α}{i:Nat}{a: α}(h:l[i]?=some a):l.drop i=a::l.drop (i+1):=by
 obtain⟨h1,h2⟩:=List.getElem?_eq_some_iff.1 h;rw[List.drop_eq_getElem_cons h1,h2]
structure Pre(all:List Int)(o:List (List AV))(m:Nat)(rest:List Int):Prop where
 h:∃b:List Int,o=b.map AZ/\m=b.length/\b++rest=all
theorem Pre.up{all:List Int}{o:List (List AV)}{m:Nat}{rest:List Int}(h:Pre all o m rest):Up0 o:=by
 obtain⟨b,h1,_,_⟩:=h.h;rw[h1];exact Ao b
theorem Pre.len{all:List Int}{o:List (List AV)}{m:Nat}{rest:List Int}(h:Pre all o m rest):m=o.length/\m+rest.length=all.length:=by
 obtain⟨b,h1,h2,h3⟩:=h.h;rw[h1,h2,<- h3];simp
theorem Pre.step{all:List Int}{o:List (List AV)}{m:Nat}{x rest:List Int}(h:Pre all o m (x++rest)){u o2:List (List AV)}{m2:Nat}(hu:u=x.map AZ)(ho:o2=o++u)(hm:m2=m+u.length):Pre all o2 m2 rest:=by
 obtain⟨b,h1,h2,h3⟩:=h.h;exact⟨b++x,by rw[ho,h1,hu,List.map_append],by rw[hm,h2,hu];simp,by rw[List.append_assoc];exact h3⟩
theorem Pre.one{all:List Int}{o:List (List AV)}{m:Nat}{x:Int}{rest:List Int}(h:Pre all o m (x::rest)){o2:List (List AV)}{m2:Nat}(ho:o2=o++[[.int .u8 x]])(hm:m2=m+1):Pre all o2 m2 rest:=by
 obtain⟨b,h1,h2,h3⟩:=h.h;exact⟨b++[x],by rw[ho,h1,List.map_append];rfl,by rw[hm,h2];simp,by rw[List.append_assoc];exact h3⟩
theorem GR(l:List Int):DK (l.map AZ)=true:=by
 induction l with
 | nil=>rfl
 | cons a l ih=>exact ih
theorem He{h:A7}{s z n:Nat}{es:List (List AV)}(hs:h[s]?=some (.live z es))(hu:BC 0 es=true)(hn:n=es.length):Vw h (.sl s z 0 n) (.list z es):=by
 have:=Vw.sl (i:=0) (n:=n) hs hu Z.o
 rwa [List.drop_zero,List.take_of_length_le Z.o] at this
theorem O0:∀(ps:List (Int×Int)),(ps.flatMap pcB).length=12*ps.length
 | []=>rfl
 | p::ps=>by
   rw[List.flatMap_cons,List.length_append,O0 ps];unfold pcB;rw[List.length_append,Ez,Ez];simp only[List.length_cons];omega
theorem FM{a b:List Int}(ha:Ar a)(hb:Ar b):Ar (a++b):=λx h=>(List.mem_append.1 h).elim (ha x) (hb x)
theorem B_{x:Int}{b:List Int}(hx:0<=x/\x<=255)(hb:Ar b):Ar (x::b):=λy h=>by
 rcases List.mem_cons.1 h with rfl|h
 ·exact hx
 ·exact hb y h
theorem O3{α: Type}{f: α -> List Int}{l:List α}(h:∀a,Ar (f a)):Ar (l.flatMap f):=λx hx=>by
 obtain⟨a,_,ha⟩:=List.mem_flatMap.1 hx;exact h a x ha
theorem YA(l:List Int):Ar (l.map (· % 256)):=λx hx=>by
 obtain⟨a,_,rfl⟩:=List.mem_map.1 hx;omega
theorem RF(ss:List Sg)(gs:List Gr):Ar (Cr ss gs):=by
 unfold Cr;refine FM (λx hx=>by simp at hx;omega) (FM (Fh _ _) (FM (O3 λs=>?_) (FM (Fh _ _) (O3 λg=>?_))))
 ·unfold EE
  exact FM (Fh _ _) (B_ Z.o (FM (O3 λp=>by unfold pcB;exact FM (Fh _ _) (Fh _ _)) (B_ Z.o (YA _))))
 ·unfold EF
  exact FM (Fh _ _) (B_ Z.o (FM (Fh _ _) (FM (Fh _ _) (Fh _ _))))
structure HV(s:Sg):Prop where
 len:I64 s.len
 ps:∀p,p∈s.ps->I64 p.1/\I64 p.2
 nx:∀n,n∈s.nx->I64 n
structure HY(g:Gr):Prop where
 id:I64 g.id
 seg:I64 g.seg
 off:I64 g.off
 acc:I64 g.acc
 sl:I64 g.sl
theorem YB(ss:List Sg)(gs:List Gr)(es ds:List (List AV))(zQ:es=ss.map Ah)(zY:ds=gs.map Ak)(hsl:ss.length<=1000000)(hgl:gs.length<=1000000)(hB:(Cr ss gs).length<=100000000)(hsI:∀s,s∈ss->HV s)(hgI:∀g,g∈gs->HY g)(us:List (List AV))(hus:us=(CZ ss gs).map AZ):A9 Tryz.prog 25 [.agg [.list 3 es,.list 5 ds]] (· = .list 1 us):=by
 have hu:Up0 es:=by rw[zQ];exact Bu ss
 have hud:Up0 ds:=by rw[zY];exact Bv gs
 have hel:es.length=ss.length:=by rw[zQ];simp
 have hdl:ds.length=gs.length:=by rw[zY];simp
 obtain⟨all,eall⟩:=Z.e (Cr ss gs);rw[<- eall] at hB;obtain⟨T1,eT1⟩:=Z.e (Al 2 gs.length++gs.flatMap EF);have hp0:Pre all [[.int .u8 79],[.int .u8 68],[.int .u8 79],[.int .u8 49]] 4 (Al 2 ss.length++(ss.flatMap EE++T1)):=⟨[79,68,79,49],rfl,rfl,by rw[eall,eT1];rfl⟩;(refine A9.ofL Tryz.func25 (by kernel_rfl) (by kernel_rfl) (Z.v λzB _ _ zD _ zK hw zC zA _ zG _ zH hz R hR=>?_));(conv=>arg 2;cbv);(generalize hP:Tryz.prog=P);cbv
 (obtain⟨L,eL,L0,Ln⟩:∃L:Int,zK es=L/\0<=L/\L.toNat=es.length:=⟨(es.length:Int),by rw[zH],Int.natCast_nonneg _,Int.toNat_natCast _⟩)
 (obtain⟨J,eJ,J0,Jn⟩:∃L:Int,zK ds=L/\0<=L/\L.toNat=ds.length:=⟨(ds.length:Int),by rw[zH],Int.natCast_nonneg _,Int.toNat_natCast _⟩)
 have eJg:Al 2 (gs.length:Int)=Al 2 J:=by rw[show (gs.length:Int)=J by omega]
 obtain⟨u2,eu2⟩:∃x,x=(Al 2 ss.length).map AZ:=⟨_,rfl⟩;have hu2l:u2.length=2:=by rw[eu2];simp[Ez]
 have q1:=GQ L 2 ⟨by omega,by omega⟩ Z.d Z.d u2 (by rw[eu2,show L=ss.length by omega];rfl);have huu2:Up0 u2:=by rw[eu2];exact Ao _
 have hru2:DK u2=true:=by rw[eu2];exact GR _
 obtain⟨o1,eo1⟩:∃x,x=[[AV.int .u8 79],[.int .u8 68],[.int .u8 79],[.int .u8 49]]++u2:=⟨_,rfl⟩;obtain⟨m1,em1⟩:=Z.e (4+u2.length);have hp1:=hp0.step eu2 eo1 em1;have ho1:=hp1.up;have hm1:=hp1.len;clear eu2;simp only[eL];repeat' (first|(refine Call.s hP q1 ?_;cbv)|(refine AB.s hP q1 ?_;cbv)|(refine Cq.mk o1 m1 eo1 rfl em1 hru2 Z.o Z.o ?_;cbv)|fail)
 refine Ae.data hw (S:=Int×List (List AV)×Nat) (λs=>fr 145 [(1,.ref 0 2 0 0),(3,.sl 1 1 0 s.2.2),(4,s.1)]) (λs=>[.live 2 [[.list 3 es,.list 5 ds]],.live 1 s.2.1])
  (λs=>0<=s.1/\s.1<=L/\Pre all s.2.1 s.2.2 ((ss.drop s.1.toNat).flatMap EE++T1)) (λs=>(L-s.1).toNat) (0,o1,m1) (by(refine Z.k (λj=>[0,2].getD j 0) ?_;cbv<;>exact Z.q)) ⟨Int.le_refl _,L0,hp1⟩ ?_
 rintro⟨i,o,m⟩ zJ Q' hN hE hR'
 have zJ:0<=i/\i<=L/\Pre all o m ((ss.drop i.toNat).flatMap EE++T1):=zJ;obtain⟨zW,yZ,hp⟩:=zJ;have huo:=hp.up;have hom:=hp.len;by_cases yC:i<L
 ·obtain⟨⟨len,ps,nx⟩,hs⟩:∃s,ss[i.toNat]?=some s:=⟨_,List.getElem?_eq_getElem (show i.toNat<ss.length by omega)⟩
  have hsI:=hsI _ (List.mem_of_getElem? hs);obtain⟨hI1,hI2,hI3⟩:=hsI;simp only at hI1 hI2 hI3;obtain⟨pq,epq⟩:=Z.e (ps.map Ap);obtain⟨xn,exn⟩:=Z.e (nx.map Ac);have hupq:Up0 pq:=(by rw[epq];exact E5 ps);have huxn:Up0 xn:=(by rw[exn];exact CG nx);have zL:es[i.toNat]?=some [.int .i64 len,.list 2 pq,.list 1 xn]:=(by rw[zQ,List.getElem?_map,hs,epq,exn];rfl);obtain⟨i2,ei2⟩:=Z.e (i+1);have hT:(L-i2).toNat<(L-i).toNat:=(by omega);have hpql:pq.length=ps.length:=(by rw[epq];simp);have hxnl:xn.length=nx.length:=(by rw[exn];simp);rw[Lr hs,show i.toNat+1=i2.toNat by omega] at hp;obtain⟨T2,eT2⟩:∃x,x=(ss.drop i2.toNat).flatMap EE++T1:=⟨_,rfl⟩
  have hp:Pre all o m (Al 8 len++((ps.length:Int)%256::(ps.flatMap pcB++((nx.length:Int)%256::(nx.map (· % 256)++T2))))):=by
   rw[eT2];simpa[EE,List.append_assoc] using hp
  obtain⟨u8,eu8⟩:∃x,x=(Al 8 len).map AZ:=⟨_,rfl⟩;have q2:=GQ len 8 hI1 Z.d Z.d u8 (by rw[eu8];rfl);have huu8:Up0 u8:=(by rw[eu8];exact Ao _);have hru8:DK u8=true:=(by rw[eu8];exact GR _);obtain⟨o2,eo2⟩:=Z.e (o++u8);obtain⟨m2,em2⟩:=Z.e (m+u8.length);have hp2:=hp.step eu8 eo2 em2;have ho2:=hp2.up;have hm2:=hp2.len
  (obtain⟨K,eK,K0,Kn⟩:∃L:Int,zK pq=L/\0<=L/\L.toNat=pq.length:=⟨(pq.length:Int),by rw[zH],Int.natCast_nonneg _,Int.toNat_natCast _⟩)
  (obtain⟨M,eM,M0,Mn⟩:∃L:Int,zK xn=L/\0<=L/\L.toNat=xn.length:=⟨(xn.length:Int),by rw[zH],Int.natCast_nonneg _,Int.toNat_natCast _⟩)
  obtain⟨b1,eb1⟩:=Z.e (K%256);obtain⟨b2,eb2⟩:=Z.e (M%256);rw[show (ps.length:Int)%256=b1 by omega,show (nx.length:Int)%256=b2 by omega] at hp2;obtain⟨o3,eo3⟩:=Z.e (o2++[[.int .u8 b1]]);obtain⟨m3,em3⟩:=Z.e (m2+1);have hp3:=hp2.one eo3 em3;have ho3:=hp3.up;have hm3:=hp3.len
  have hKb:K<=100000000:=by
   have:=hm3.2;simp only[List.length_append,O0] at this;omega
  have hMb:M<=100000000:=by
   have:=hm3.2;simp only[List.length_append,List.length_cons,List.length_map] at this;omega
  have c1:zD .u8 K=b1:=by rw[zG];show IntKind.u8.wrap K=b1;rw[IntKind.wrap_u8,eb1]
  have ck:=W.lt zA yC;clear hs eu8 hp0 hp1 hp hp2;cbv;simp only[eL];repeat' (first|(simp only[ck,eK,c1];cbv)|(refine Call.s hP q2 ?_;cbv)|(refine AB.s hP q2 ?_;cbv)|(refine Idx.mk _ zW zL ?_;cbv)|(refine Cq.mk o2 m2 eo2 Z.o em2 hru8 Z.o Z.o ?_;cbv)|(refine App.mk o3 m3 eo3 Z.o em3 Z.o Z.o ?_;cbv)|fail)
  refine Ae.data hw (S:=Int×List (List AV)×Nat) (λs=>fr 145 [(1,.ref 0 2 0 0),(3,.sl 2 1 0 s.2.2),(4,i),(5,.ref 1 3 0 0),(6,s.1)]) (λs=>[.live 2 [[.list 3 es,.list 5 ds]],.live 3 [[len,.list 2 pq,.list 1 xn]],.live 1 s.2.1])
   (λs=>0<=s.1/\s.1<=K/\Pre all s.2.1 s.2.2 ((ps.drop s.1.toNat).flatMap pcB++(b2::(nx.map (· % 256)++T2)))) (λs=>(K-s.1).toNat) (0,o3,m3) (by(refine Z.k (λj=>[0,2,4].getD j 0) ?_;cbv<;>exact Z.q)) ⟨Int.le_refl _,K0,hp3⟩ ?_
  rintro⟨j,o,m⟩ yV Q2 hN2 hE2 hR2
  have yV:0<=j/\j<=K/\Pre all o m ((ps.drop j.toNat).flatMap pcB++(b2::(nx.map (· % 256)++T2))):=yV;obtain⟨hj0,hj1,hp⟩:=yV;have huo:=hp.up;have hom:=hp.len;by_cases hjn:j<K
  ·obtain⟨⟨p1,p2⟩,hpj⟩:∃s,ps[j.toNat]?=some s:=⟨_,List.getElem?_eq_getElem (show j.toNat<ps.length by omega)⟩
   have hI:=hI2 _ (List.mem_of_getElem? hpj);simp only at hI;have hrowp:pq[j.toNat]?=some [.int .i64 p1,.int .i64 p2]:=(by rw[epq,List.getElem?_map,hpj];rfl);obtain⟨j2,ej2⟩:=Z.e (j+1);have hT3:(K-j2).toNat<(K-j).toNat:=(by omega);rw[Lr hpj,show j.toNat+1=j2.toNat by omega] at hp;have hp:Pre all o m (Al 8 p1++(Al 4 p2++((ps.drop j2.toNat).flatMap pcB++(b2::(nx.map (· % 256)++T2))))):=(by simpa[pcB,List.append_assoc] using hp);obtain⟨up1,eup1⟩:∃x,x=(Al 8 p1).map AZ:=⟨_,rfl⟩;have qp1:=GQ p1 8 hI.1 Z.d Z.d up1 (by rw[eup1];rfl);have huup1:Up0 up1:=(by rw[eup1];exact Ao _);have hrup1:DK up1=true:=(by rw[eup1];exact GR _);obtain⟨oa,eoa⟩:=Z.e (o++up1);obtain⟨ma,ema⟩:=Z.e (m+up1.length);have hoa:=hp.step eup1 eoa ema;have huoa:=hoa.up;have hloa:=hoa.len;obtain⟨up2,eup2⟩:∃x,x=(Al 4 p2).map AZ:=⟨_,rfl⟩;have qp2:=GQ p2 4 hI.2 Z.d Z.d up2 (by rw[eup2];rfl);have huup2:Up0 up2:=(by rw[eup2];exact Ao _);have hrup2:DK up2=true:=(by rw[eup2];exact GR _);obtain⟨ob,eob⟩:=Z.e (oa++up2);obtain⟨mb,emb⟩:=Z.e (ma+up2.length);have hob:=hoa.step eup2 eob emb;have huob:=hob.up;have hlob:=hob.len;have d2:=W.lt zA hjn;have a5:zB .add .i64 j 1=j2:=(by rw[zC,Ag Z.o Z.o,ej2]);clear hpj eup1 eup2 hp hoa;cbv;simp only[eK];repeat' (first|(simp only[d2,eK,a5];cbv)|(refine Call.s hP qp1 ?_;cbv)|(refine AB.s hP qp1 ?_;cbv)|(refine Call.s hP qp2 ?_;cbv)|(refine AB.s hP qp2 ?_;cbv)|(refine Idx.mk _ hj0 hrowp ?_;cbv)|(refine Cq.mk oa ma eoa Z.o ema hrup1 Z.o Z.o ?_;cbv)|(refine Cq.mk ob mb eob Z.o emb hrup2 Z.o Z.o ?_;cbv)|fail)
   refine hN2 (j2,ob,mb) _ _ ?hx2 ?hi2 hT3
   case hx2=>(refine Z.k (λj=>[0,1,4].getD j 0) ?_;cbv<;>exact Z.q)
   case hi2=>exact⟨by simp only;omega,by simp only;omega,hob⟩
  ·have d2:=W.nlt zA (show K<=j by omega)
   rw[List.drop_of_length_le Z.o] at hp;have hp:Pre all o m (b2::(nx.map (· % 256)++T2)):=hp;obtain⟨oc,eoc⟩:=Z.e (o++[[.int .u8 b2]]);obtain⟨mc,emc⟩:=Z.e (m+1);have hoc:=hp.one eoc emc;have huoc:=hoc.up;have hloc:=hoc.len;have c2:zD .u8 M=b2:=by rw[zG];show IntKind.u8.wrap M=b2;rw[IntKind.wrap_u8,eb2]
   cbv;simp only[eK];repeat' (first|(simp only[d2];cbv)|fail)
   refine hE2 _ _ _ ?_;cbv;repeat' (first|(simp only[eM,c2];cbv)|(refine App.mk oc mc eoc Z.o emc Z.o Z.o ?_;cbv)|fail)
   refine Ae.data hw (S:=Int×List (List AV)×Nat) (λs=>fr 145 [(1,.ref 0 2 0 0),(3,.sl 2 1 0 s.2.2),(4,i),(5,.ref 1 3 0 0),(7,s.1)]) (λs=>[.live 2 [[.list 3 es,.list 5 ds]],.live 3 [[len,.list 2 pq,.list 1 xn]],.live 1 s.2.1])
    (λs=>0<=s.1/\s.1<=M/\Pre all s.2.1 s.2.2 ((nx.drop s.1.toNat).map (· % 256)++T2)) (λs=>(M-s.1).toNat) (0,oc,mc) (by(refine Z.k (λj=>[0,1,3].getD j 0) ?_;cbv<;>exact Z.q)) ⟨Int.le_refl _,M0,hoc⟩ ?_
   rintro⟨j,o,m⟩ hinv3 Q3 hN3 hE3 hR3
   have hinv3:0<=j/\j<=M/\Pre all o m ((nx.drop j.toNat).map (· % 256)++T2):=hinv3;obtain⟨hj0,hj1,hp⟩:=hinv3;have huo:=hp.up;have hom:=hp.len;by_cases hjn:j<M
   ·obtain⟨x,hxj⟩:∃s,nx[j.toNat]?=some s:=⟨_,List.getElem?_eq_getElem (show j.toNat<nx.length by omega)⟩
    have hrowx:xn[j.toNat]?=some [.int .i64 x]:=(by rw[exn,List.getElem?_map,hxj];rfl);obtain⟨j2,ej2⟩:=Z.e (j+1);have hT3:(M-j2).toNat<(M-j).toNat:=(by omega);rw[Lr hxj,show j.toNat+1=j2.toNat by omega] at hp;obtain⟨xb,exb⟩:=Z.e (x%256);have hp:Pre all o m (xb::((nx.drop j2.toNat).map (· % 256)++T2)):=(by rw[exb];exact hp);obtain⟨od,eod⟩:=Z.e (o++[[.int .u8 xb]]);obtain⟨md,emd⟩:=Z.e (m+1);have hod:=hp.one eod emd;have huod:=hod.up;have hlod:=hod.len;have c3:zD .u8 x=xb:=by rw[zG];show IntKind.u8.wrap x=xb;rw[IntKind.wrap_u8,exb]
    have d2:=W.lt zA hjn;have a5:zB .add .i64 j 1=j2:=(by rw[zC,Ag Z.o Z.o,ej2]);clear hxj hp;cbv;simp only[eM];repeat' (first|(simp only[d2,c3,a5];cbv)|(refine Idx.mk _ hj0 hrowx ?_;cbv)|(refine App.mk od md eod Z.o emd Z.o Z.o ?_;cbv)|fail)
    refine hN3 (j2,od,md) _ _ ?hx3 ?hi3 hT3
    case hx3=>(refine Z.k (λj=>[0,1,3].getD j 0) ?_;cbv<;>exact Z.q)
    case hi3=>exact⟨by simp only;omega,by simp only;omega,hod⟩
   ·have d2:=W.nlt zA (show M<=j by omega)
    rw[List.drop_of_length_le Z.o] at hp;have hp:Pre all o m T2:=hp;rw[eT2] at hp;have a4:zB .add .i64 i 1=i2:=(by rw[zC,Ag Z.o Z.o,ei2]);cbv;simp only[eM];repeat' (first|(simp only[d2];cbv)|fail)
    refine hE3 _ _ _ ?_;cbv;repeat' (first|(simp only[a4];cbv)|fail)
    refine hN (i2,o,m) _ _ ?hx ?hi hT
    case hx=>(refine Z.k (λj=>[0,2].getD j 0) ?_;cbv<;>exact Z.q)
    case hi=>exact⟨by simp only;omega,by simp only;omega,hp⟩
 ·have ck:=W.nlt zA (show L<=i by omega)
  rw[List.drop_of_length_le Z.o,eT1] at hp;have hp:Pre all o m (Al 2 gs.length++gs.flatMap EF):=hp;obtain⟨ug,eug⟩:∃x,x=(Al 2 gs.length).map AZ:=⟨_,rfl⟩;have qg:=GQ J 2 ⟨by omega,by omega⟩ Z.d Z.d ug (by rw[eug,eJg];rfl);have huug:Up0 ug:=(by rw[eug];exact Ao _);have hrug:DK ug=true:=(by rw[eug];exact GR _);obtain⟨og,eog⟩:=Z.e (o++ug);obtain⟨mg,emg⟩:=Z.e (m+ug.length);have hog:=hp.step eug eog emg;have huog:=hog.up;have hlog:=hog.len;cbv;simp only[eL];repeat' (first|(simp only[ck];cbv)|fail)
  refine hE _ _ _ ?_;cbv;repeat' (first|(simp only[eJ];cbv)|(refine Call.s hP qg ?_;cbv)|(refine AB.s hP qg ?_;cbv)|(refine Cq.mk og mg eog Z.o emg hrug Z.o Z.o ?_;cbv)|fail)
  clear hN hE hR'
  refine Ae.data hw (S:=Int×List (List AV)×Nat) (λs=>fr 145 [(1,.ref 0 2 0 0),(3,.sl 1 1 0 s.2.2),(8,s.1)]) (λs=>[.live 2 [[.list 3 es,.list 5 ds]],.live 1 s.2.1])
   (λs=>0<=s.1/\s.1<=J/\Pre all s.2.1 s.2.2 ((gs.drop s.1.toNat).flatMap EF++[])) (λs=>(J-s.1).toNat) (0,og,mg) (by(refine Z.k (λj=>[0,2].getD j 0) ?_;cbv<;>exact Z.q)) ⟨Int.le_refl _,J0,by simp only;rw[List.append_nil];exact hog⟩ ?_
  rintro⟨i,o,m⟩ hinv4 Q' hN hE hR'
  have hinv4:0<=i/\i<=J/\Pre all o m ((gs.drop i.toNat).flatMap EF++[]):=hinv4;obtain⟨zW,yZ,hp⟩:=hinv4;have huo:=hp.up;have hom:=hp.len;by_cases yC:i<J
  ·obtain⟨⟨g1,g2,g3,g4,g5⟩,hs⟩:∃s,gs[i.toNat]?=some s:=⟨_,List.getElem?_eq_getElem (show i.toNat<gs.length by omega)⟩
   obtain⟨hg1,hg2,hg3,hg4,hg5⟩:=hgI _ (List.mem_of_getElem? hs);simp only at hg1 hg2 hg3 hg4 hg5;have zL:ds[i.toNat]?=some [.int .i64 g1,.int .i64 g2,.int .i64 g3,.int .i64 g4,.int .i64 g5]:=(by rw[zY,List.getElem?_map,hs];rfl);obtain⟨i2,ei2⟩:=Z.e (i+1);have hT:(J-i2).toNat<(J-i).toNat:=(by omega);rw[Lr hs,show i.toNat+1=i2.toNat by omega] at hp;obtain⟨sb,esb⟩:=Z.e (g2%256)
   have hp:Pre all o m (Al 2 g1++(sb::(Al 8 g3++(Al 4 g4++(Al 4 g5++((gs.drop i2.toNat).flatMap EF++[])))))):=by
    rw[esb];simpa[EF,List.append_assoc] using hp
   obtain⟨uk1,euk1⟩:∃x,x=(Al 2 g1).map AZ:=⟨_,rfl⟩;have qk1:=GQ g1 2 hg1 Z.d Z.d uk1 (by rw[euk1];rfl);have huuk1:Up0 uk1:=(by rw[euk1];exact Ao _);have hruk1:DK uk1=true:=(by rw[euk1];exact GR _);obtain⟨oe,eoe⟩:=Z.e (o++uk1);obtain⟨me,eme⟩:=Z.e (m+uk1.length);have hoe:=hp.step euk1 eoe eme;have huoe:=hoe.up;have hloe:=hoe.len;obtain⟨of,eof⟩:=Z.e (oe++[[.int .u8 sb]]);obtain⟨mf,emf⟩:=Z.e (me+1);have hof:=hoe.one eof emf;have huof:=hof.up;have hlof:=hof.len;obtain⟨uk3,euk3⟩:∃x,x=(Al 8 g3).map AZ:=⟨_,rfl⟩;have qk3:=GQ g3 8 hg3 Z.d Z.d uk3 (by rw[euk3];rfl);have huuk3:Up0 uk3:=(by rw[euk3];exact Ao _);have hruk3:DK uk3=true:=(by rw[euk3];exact GR _);obtain⟨oh,eoh⟩:=Z.e (of++uk3);obtain⟨mh,emh⟩:=Z.e (mf+uk3.length);have hoh:=hof.step euk3 eoh emh;have huoh:=hoh.up;have hloh:=hoh.len;obtain⟨uk4,euk4⟩:∃x,x=(Al 4 g4).map AZ:=⟨_,rfl⟩;have qk4:=GQ g4 4 hg4 Z.d Z.d uk4 (by rw[euk4];rfl);have huuk4:Up0 uk4:=(by rw[euk4];exact Ao _);have hruk4:DK uk4=true:=(by rw[euk4];exact GR _);obtain⟨oi,eoi⟩:=Z.e (oh++uk4);obtain⟨mi,emi⟩:=Z.e (mh+uk4.length);have hoi:=hoh.step euk4 eoi emi;have huoi:=hoi.up;have hloi:=hoi.len;obtain⟨uk5,euk5⟩:∃x,x=(Al 4 g5).map AZ:=⟨_,rfl⟩;have qk5:=GQ g5 4 hg5 Z.d Z.d uk5 (by rw[euk5];rfl);have huuk5:Up0 uk5:=(by rw[euk5];exact Ao _);have hruk5:DK uk5=true:=(by rw[euk5];exact GR _);obtain⟨oj,eoj⟩:=Z.e (oi++uk5);obtain⟨mj,emj⟩:=Z.e (mi+uk5.length);have hoj:=hoi.step euk5 eoj emj;have huoj:=hoj.up;have hloj:=hoj.len;have c4:zD .u8 g2=sb:=by rw[zG];show IntKind.u8.wrap g2=sb;rw[IntKind.wrap_u8,esb]
   have c5:zD .i64 g1=g1:=by rw[zG];show IntKind.i64.wrap g1=g1;rw[IntKind.wrap_i64];unfold I64 at hg1;omega
   have d2:=W.lt zA yC;have a5:zB .add .i64 i 1=i2:=(by rw[zC,Ag Z.o Z.o,ei2]);clear hs euk1 euk3 euk4 euk5 hp hoe hof hoh hoi;cbv;simp only[eJ];repeat' (first|(simp only[d2,eJ,c4,c5,a5];cbv)|(refine Call.s hP qk1 ?_;cbv)|(refine AB.s hP qk1 ?_;cbv)|(refine Call.s hP qk3 ?_;cbv)|(refine AB.s hP qk3 ?_;cbv)|(refine Call.s hP qk4 ?_;cbv)|(refine AB.s hP qk4 ?_;cbv)|(refine Call.s hP qk5 ?_;cbv)|(refine AB.s hP qk5 ?_;cbv)|(refine Idx.mk _ zW zL ?_;cbv)|(refine Cq.mk oe me eoe Z.o eme hruk1 Z.o Z.o ?_;cbv)|(refine App.mk of mf eof Z.o emf Z.o Z.o ?_;cbv)|(refine Cq.mk oh mh eoh Z.o emh hruk3 Z.o Z.o ?_;cbv)|(refine Cq.mk oi mi eoi Z.o emi hruk4 Z.o Z.o ?_;cbv)|(refine Cq.mk oj mj eoj Z.o emj hruk5 Z.o Z.o ?_;cbv)|fail)
   refine hN (i2,oj,mj) _ _ ?hx4 ?hi4 hT
   case hx4=>(refine Z.k (λj=>[0,7].getD j 0) ?_;cbv<;>exact Z.q)
   case hi4=>exact⟨by simp only;omega,by simp only;omega,hoj⟩
  ·have d2:=W.nlt zA (show J<=i by omega)
   rw[List.drop_of_length_le Z.o] at hp;have hp:Pre all o m []:=hp;cbv;simp only[eJ];repeat' (first|(simp only[d2];cbv)|fail)
   refine hE _ _ _ ?_;cbv
   have hoa:o=all.map AZ:=by
    obtain⟨b,h1,_,h3⟩:=hp.h;rw[List.append_nil] at h3;rw[h1,h3]
   have hok:=RF ss gs;rw[<- eall] at hok;obtain⟨y,ey⟩:=Z.e (bi (crF 65535#16 all));have qs:=Ll all hok Z.o y o hoa ey;have hy:=Hd (crF 65535#16 all);rw[<- ey] at hy;obtain⟨y1,ey1⟩:=Z.e (y/256);obtain⟨y2,ey2⟩:=Z.e (y%256);obtain⟨o9,eo9⟩:=Z.e (o++[[AV.int .u8 y1],[.int .u8 y2]]);obtain⟨m9,em9⟩:=Z.e (m+2)
   have ho9:o9=us:=by
    rw[eo9,hus,hoa];unfold CZ;rw[<- eall,<- ey,<- ey1,<- ey2,List.map_append];rfl
   have huo9:Up0 o9:=(by rw[ho9,hus];exact Ao _);have hm9:m9=o9.length:=(by rw[em9,eo9,List.length_append,hom.1];rfl);have b1:zB .quo .i64 y 256=y1:=(by rw[zC,DX hy.1 Z.d Z.o,ey1]);have b2:zB .rem .i64 y 256=y2:=(by rw[zC,D8 hy.1,ey2]);have b3:zD .u8 y1=y1:=(by rw[zG];exact wrap_u8 Z.o Z.o);have b4:zD .u8 y2=y2:=(by rw[zG];exact wrap_u8 Z.o Z.o);refine Call.view (args':=[.list 1 o]) (by rw[<- hP];exact qs) ⟨He rfl huo.get hom.1,trivial⟩ ?_;rintro r rfl;refine⟨rfl,?_⟩;cbv;repeat' (first|(simp only[b1,b2,b3,b4];cbv)|(refine Nz.mk Z.d ?_;cbv)|(refine Cq.mk o9 m9 eo9 hom.1 em9 rfl Z.o Z.o ?_;cbv)|fail)
   refine⟨_,Vw.sl rfl huo9.get Z.o,hR _ ?_⟩;rw[List.drop_zero,List.take_of_length_le Z.o,ho9]
theorem YC(ss:List Sg)(gs:List Gr)(es ds:List (List AV))(zQ:es=ss.map Ah)(zY:ds=gs.map Ak):A9 Tryz.prog 43 [.agg [.list 3 es,.list 5 ds]] (λr=>∃e i,r = .tuple [.int .i64 e,.int .i64 i]/\(e=0↔BN ss gs)):=by
 have hu:Up0 es:=by rw[zQ];exact Bu ss
 have hud:Up0 ds:=by rw[zY];exact Bv gs
 have hel:es.length=ss.length:=by rw[zQ];simp
 have hdl:ds.length=gs.length:=by rw[zY];simp
 refine Z.y Tryz.func43 λzB _ _ _ _ zK hw zC _ yJ _ _ zH hz R hR P hP=>?_;cbv
 (obtain⟨L,eL,L0,Ln⟩:∃L:Int,zK es=L/\0<=L/\L.toNat=es.length:=⟨(es.length:Int),by rw[zH],Int.natCast_nonneg _,Int.toNat_natCast _⟩)
 (obtain⟨J,eJ,J0,Jn⟩:∃L:Int,zK ds=L/\0<=L/\L.toNat=ds.length:=⟨(ds.length:Int),by rw[zH],Int.natCast_nonneg _,Int.toNat_natCast _⟩)
 have hF:∀e i:Int,e≠0->¬BN ss gs->R (.tuple [e,i]):=λe i he hn=>hR _ ⟨_,_,rfl,λh=>absurd h he,λh=>absurd h hn⟩;(split<;>rename_i h1<;>(try (simp only[eL] at h1))<;>(try (simp only[hz,Z.a,AF,AC,AO,AP,AL,reduceCtorEq] at h1))<;>(try cbv))
 ·exact⟨_,Vw.same rfl,hF _ _ Z.d λhM=>(by have:=hM.ne;omega)⟩
 (split<;>rename_i h2<;>(try (simp only[eL] at h2))<;>(try (simp only[hz,Z.a,AF,AC,AO,AP,AL,reduceCtorEq] at h2))<;>(try cbv))
 ·exact⟨_,Vw.same rfl,hF _ _ Z.d λhM=>(by have:=hM.le;omega)⟩
 (split<;>rename_i h3<;>(try (simp only[eJ] at h3))<;>(try (simp only[hz,Z.a,AF,AC,AO,AP,AL,reduceCtorEq] at h3))<;>(try cbv))
 ·exact⟨_,Vw.same rfl,hF _ _ Z.d λhM=>(by have:=hM.gle;omega)⟩
 refine Ae.data hw (S:=Int) (λi=>fr 115 [(1,.ref 0 2 0 0),(4,i)]) (λi=>[.live 2 [[.list 3 es,.list 5 ds]]]) (λi=>0<=i/\i<=L/\∀j,j<i.toNat->∀s,ss[j]?=some s->Ci s L) (λi=>(L-i).toNat) 0 Z.i ⟨Int.le_refl _,L0,λj hj=>(by simp at hj)⟩ ?_;rintro i zJ Q' hN hE hR';have zJ:0<=i/\i<=L/\∀j,j<i.toNat->∀s,ss[j]?=some s->Ci s L:=zJ;cbv;obtain⟨zW,yZ,hl⟩:=zJ;have hLL:∀s,Ci s (ss.length:Int)↔Ci s L:=λs=>by rw[show (ss.length:Int)=L by omega]
 (split<;>rename_i hc<;>(try (simp only[eL] at hc))<;>(try (simp only[hz,Z.a,AF,AC,AO,AP,AL,reduceCtorEq] at hc))<;>(try cbv))
 ·obtain⟨⟨len,ps,nx⟩,hd,zL⟩:=BI (f:=Ah) (ds:=ss) (i:=i) zW Z.o
  obtain⟨q1,eq1⟩:=Z.f (ps.map Ap);obtain⟨n1,en1⟩:=Z.f (nx.map Ac);have zL:es[i.toNat]?=some [.int .i64 len,.list 2 q1,.list 1 n1]:=(by rw[zQ,<- eq1,<- en1];exact zL);have huq:Up0 q1:=(by rw[<- eq1];exact E5 ps);have yJ:Up0 n1:=(by rw[<- en1];exact CG nx);obtain⟨i',ei'⟩:=Z.f (i+1);have ei:zB .add .i64 i 1=i':=(by rw[zC,Ag Z.o Z.o];exact ei');have hT:(L-i').toNat<(L-i).toNat:=(by omega);refine Idx.mk [.int .i64 len,.list 2 q1,.list 1 n1] zW zL ?_;cbv;simp only[eL];obtain⟨o,hseg,ho⟩:=YD ⟨len,ps,nx⟩ q1 n1 eq1.symm en1.symm L;refine AB.stepE (by rw[<- hP];exact hseg) (by exact Bool.and_eq_true_iff.mpr ⟨RG huq yJ,rfl⟩) ?_;cbv;(split<;>rename_i h<;>(try (simp only[hz,Z.a,AF,AC,AO,AP,AL,reduceCtorEq] at h))<;>(try cbv))
  ·exact hR' _ _ ⟨_,Vw.same rfl,hF _ _ Z.d λhM=>(by have:=ho.2 ((hLL _).1 (hM.seg i.toNat Z.o _ hd));rw[h] at this;cases this)⟩
  refine hN i' _ _ ?hx ?hi hT
  case hx=>exact Z.i
  case hi =>
   refine⟨by omega,by omega,?_⟩;rw[<- ei'];refine Fj zW hl λm hm=>?_;rw[hd] at hm;obtain rfl:(⟨len,ps,nx⟩:Sg)=m:=(by simpa using hm);exact ho.1 h
 refine hE _ _ _ ?_;cbv;have hseg:∀j,j<ss.length->∀s,ss[j]?=some s->Ci s L:=λj hj=>hl j Z.o;clear hl hN hE hR';refine Ae.data hw (S:=Int×Int) (λs=>fr 115 [(1,.ref 0 2 0 0),(5,s.2),(6,s.1)]) (λs=>[.live 2 [[.list 3 es,.list 5 ds]]]) (λs=>0<=s.1/\s.1<=J/\0<=s.2/\(s.1=0->s.2=0)/\(0<s.1->∀o,gs[s.1.toNat-1]?=some o->s.2=o.id)/\∀j,j<s.1.toNat->Ig ss gs j) (λs=>(J-s.1).toNat) (0,0) Z.i ⟨Int.le_refl _,J0,Int.le_refl _,λ_=>rfl,λh=>absurd h Z.d,λj hj=>(by simp at hj)⟩ ?_
 rintro⟨i,last⟩ zJ Q' hN hE hR'
 have zJ:0<=i/\i<=J/\0<=last/\(i=0->last=0)/\(0<i->∀o,gs[i.toNat-1]?=some o->last=o.id)/\∀j,j<i.toNat->Ig ss gs j:=zJ;cbv;obtain⟨zW,yZ,hla,hl00,hlo,hl⟩:=zJ;(split<;>rename_i hc<;>(try (simp only[eJ] at hc))<;>(try (simp only[hz,Z.a,AF,AC,AO,AP,AL,reduceCtorEq] at hc))<;>(try cbv))
 ·obtain⟨⟨g1,g2,g3,g4,g5⟩,hd,zL⟩:=BI (f:=Ak) (ds:=gs) (i:=i) zW Z.o
  have zL:ds[i.toNat]?=some [.int .i64 g1,.int .i64 g2,.int .i64 g3,.int .i64 g4,.int .i64 g5]:=(by rw[zY];exact zL);obtain⟨i',ei'⟩:=Z.f (i+1);have ei:zB .add .i64 i 1=i':=(by rw[zC,Ag Z.o Z.o];exact ei');have hT:(J-i').toNat<(J-i).toNat:=(by omega);refine Idx.mk [.int .i64 g1,.int .i64 g2,.int .i64 g3,.int .i64 g4,.int .i64 g5] zW zL ?_;cbv
  obtain⟨len,q1,n1,yD⟩:∃len q1 n1,0<=g2/\g2<L->es[g2.toNat]?=some [.int .i64 len,.list 2 q1,.list 1 n1]/\∀s,ss[g2.toNat]?=some s->s.len=len:=by
   by_cases h:0<=g2/\g2<L
   ·obtain⟨⟨len,ps,nx⟩,k1,k2⟩:=BI (f:=Ah) (ds:=ss) (i:=g2) h.1 Z.o
    exact⟨len,_,_,λ_=>⟨by rw[zQ];exact k2,λs hs=>by rw[k1] at hs;obtain rfl:(⟨len,ps,nx⟩:Sg)=s:=(by simpa using hs);rfl⟩⟩
   ·exact⟨0,[],[],λh'=>absurd h' h⟩
  have hG:BN ss gs->(0<g1/\g1<=65535/\0<=g2/\g2<L)/\0<=g3/\g3<=len/\0<=g4/\g4<=1048576/\0<=g5/\g5<=16777216/\last<g1:=λhM=>by
   obtain⟨k1,k2,k3,k4,k5,k6,k7,k8,k9,k10,k11⟩:=hM.grp i.toNat Z.o _ hd;simp only at k1 k2 k3 k4 k5 k6 k7 k8 k9 k10 k11;obtain⟨s,hs⟩:∃s,ss[g2.toNat]?=some s:=⟨_,List.getElem?_eq_getElem k4⟩;have h1:=k6 s hs;have h2:=(yD ⟨k3,by omega⟩).2 s hs;refine⟨⟨k1,k2,k3,by omega⟩,k5,by omega,k7,k8,k9,k10,?_⟩;by_cases hz:i=0
   ·have:=hl00 hz;omega
   ·obtain⟨o,ho⟩:∃o,gs[i.toNat-1]?=some o:=⟨_,List.getElem?_eq_getElem Z.o⟩
    have q1:=hlo Z.o o ho;have q2:=k11 Z.o o ho;omega
  repeat' (first
   | exact hR' _ _ ⟨_,Vw.same rfl,hF _ _ Z.d λhM=>(by have:=hG hM;omega)⟩
   | (refine Idx.mk [.int .i64 len,.list 2 q1,.list 1 n1] Z.m (yD ⟨by assumption,by assumption⟩).1 ?_;cbv)
   | (split<;>rename_i h<;>(try (simp only[eL] at h))<;>(try (simp only[hz,Z.a,AF,AC,AO,AP,AL,reduceCtorEq] at h))<;>(try cbv)))
  all_goals
   refine hN (i',g1) _ _ ?hx ?hi hT
   case hx=>exact Z.i
   case hi =>
    refine⟨by simp only;omega,by simp only;omega,by simp only;omega,λhz=>by simp only at hz;omega,λ_ o ho=>?_,?_⟩
    ·simp only at ho
     rw[show i'.toNat-1=i.toNat by omega,hd] at ho;obtain rfl:(⟨g1,g2,g3,g4,g5⟩:Gr)=o:=(by simpa using ho);rfl
    ·simp only
     rw[<- ei'];refine Fj zW hl λg hg=>?_;rw[hd] at hg;obtain rfl:(⟨g1,g2,g3,g4,g5⟩:Gr)=g:=(by simpa using hg);refine⟨by simp only;omega,by simp only;omega,by simp only;omega,by simp only;omega,by simp only;omega,λs hs=>?_,by simp only;omega,by simp only;omega,by simp only;omega,by simp only;omega,λhj o ho=>?_⟩
     ·rw[(yD ⟨by omega,by omega⟩).2 s hs];assumption
     ·have:=hlo Z.o o ho
      simp only;omega
 refine hE _ _ _ ?_;cbv;have eLL:L=ss.length:=by omega
 exact⟨_,Vw.same rfl,hR _ ⟨_,_,rfl,λ_=>⟨by omega,by omega,by omega,λj hj s hs=>(by rw[<- eLL];exact hseg j hj s hs),λj hj=>hl j Z.o⟩,λ_=>rfl⟩⟩
theorem YE(c0 c1 c2 c3 c4 c5 c6 c7 c8 c9 c10 c11 c12 c13:Int)(ss:List Sg)(gs:List Gr)(hsl:ss.length<=1000000)(hgl:gs.length<=1000000)(es ds:List (List AV))(zQ:es=ss.map Ah)(zY:ds=gs.map Ak):A9 Tryz.prog 17 [.agg [c0,c1,c2,c3,c4,c5,c6,c7,c8,c9,c10,c11,c12,c13],.agg [.list 3 es,.list 5 ds]] (λr=>∃e i,r = .tuple [.int .i64 e,.int .i64 i]/\(e=0↔Dl (E8 c0 c1 c2 c3 c4 c5 c6 c7 c8 c9 c10 c11 c12 c13) c6 c8 ss gs)):=by
 have hu:Up0 es:=by rw[zQ];exact Bu ss
 have hud:Up0 ds:=by rw[zY];exact Bv gs
 have hel:es.length=ss.length:=by rw[zQ];simp
 have hdl:ds.length=gs.length:=by rw[zY];simp
 obtain⟨w,ew⟩:=Z.e (E8 c0 c1 c2 c3 c4 c5 c6 c7 c8 c9 c10 c11 c12 c13);have q1:=YF c0 c1 c2 c3 c4 c5 c6 c7 c8 c9 c10 c11 c12 c13;have hcf:w=0->ES c0 c1 c2 c3 c4 c5 c6 c7 c8 c9 c10 c11 c12 c13:=λh=>LH (by rw[<- ew,h]);rw[<- ew] at q1 ⊢;clear ew;by_cases hw0:w=0
 rotate_left 1
 ·refine Z.y Tryz.func17 λ_ _ _ _ _ _ _ _ zA _ _ _ _ hz R hR P hP=>?_;cbv
  have d1:=W.ne zA hw0;repeat' (first|(simp only[d1];cbv)|(refine Call.s hP q1 ?_;cbv)|(refine AB.s hP q1 ?_;cbv)|fail)
  exact⟨_,Vw.same rfl,hR _ ⟨_,_,rfl,λh=>absurd h Z.d,λh=>absurd h.wr hw0⟩⟩
 subst hw0;have hCC:=hcf rfl;unfold ES at hCC;have h6:0<=c6/\c6<=16777216:=by omega
 have h8:0<=c8/\c8<=1048576:=by omega
 clear hCC hcf
 have hseg:∀j:Nat,BN ss gs->∀g,gs[j]?=some g->0<=g.seg/\g.seg.toNat<ss.length/\0<=g.off/\g.off<=1099511627776/\0<=g.acc/\g.acc<=1048576/\∀s,ss[g.seg.toNat]?=some s->g.off<=s.len/\s.len<=1099511627776:=λj hT g hg=>by
  obtain⟨k1,k2,k3,k4,k5,k6,k7,k8,k9,k10,k11⟩:=hT.grp j (List.getElem?_eq_some_iff.1 hg).1 g hg;have hs:=λs hs=>(hT.seg g.seg.toNat k4 s hs).le;obtain⟨s,hss⟩:∃s,ss[g.seg.toNat]?=some s:=⟨_,List.getElem?_eq_getElem k4⟩;exact⟨k3,k4,k5,by have:=k6 s hss;have:=hs s hss;omega,k7,k8,λs h=>⟨k6 s h,hs s h⟩⟩
 refine Z.y Tryz.func17 λzB _ _ _ _ zK hw zC zA _ _ _ zH hz R hR P hP=>?_;cbv
 (obtain⟨J,eJ,J0,Jn⟩:∃L:Int,zK ds=L/\0<=L/\L.toNat=ds.length:=⟨(ds.length:Int),by rw[zH],Int.natCast_nonneg _,Int.toNat_natCast _⟩)
 have d1:=W.nne zA (a:=0) rfl;repeat' (first|(simp only[d1];cbv)|(refine Call.s hP q1 ?_;cbv)|(refine AB.s hP q1 ?_;cbv)|fail)
 refine Call.step (by rw[<- hP];exact YC ss gs es ds zQ zY) (by first|rfl|(repeat' (first|exact rfl|assumption|refine uc ?_ ?_|exact ul Z.m|refine ua ?_))) ?_;rintro r ⟨e,i0,rfl,he⟩;by_cases h0:e=0
 rotate_left 1
 ·have d2:=W.ne zA h0
  cbv;repeat' (first|(simp only[d2];cbv)|fail)
  exact⟨_,Vw.same rfl,hR _ ⟨_,_,rfl,λh=>absurd h Z.d,λh=>absurd (he.2 h.tr) h0⟩⟩
 subst h0;have hT:=he.1 rfl;cbv;repeat' (first|(simp only[d1];cbv)|fail)
 refine Ae.data hw (S:=Int) (λi=>fr 60 [(2,.ref 0 14 0 0),(3,.ref 1 2 0 0),(8,i)]) (λi=>[.live 14 [[c0,c1,c2,c3,c4,c5,c6,c7,c8,c9,c10,c11,c12,c13]],.live 2 [[.list 3 es,.list 5 ds]]]) (λi=>0<=i/\i<=J/\∀j,j<i.toNat->Ih ss gs c6 c8 j) (λi=>(J-i).toNat) 0 Z.i ⟨Int.le_refl _,J0,λj hj=>by simp at hj⟩ ?_;rintro i zJ Q' hN hE hR';have zJ:0<=i/\i<=J/\∀j,j<i.toNat->Ih ss gs c6 c8 j:=zJ;cbv;obtain⟨zW,yZ,hl⟩:=zJ;(split<;>rename_i hc<;>(try (simp only[eJ] at hc))<;>(try (simp only[hz,Z.a,AF,AC,AO,AP,AL,reduceCtorEq] at hc))<;>(try cbv))
 ·obtain⟨⟨g1,g2,g3,g4,g5⟩,hd,zL⟩:=BI (f:=Ak) (ds:=gs) (i:=i) zW Z.o
  have zL:ds[i.toNat]?=some [.int .i64 g1,.int .i64 g2,.int .i64 g3,.int .i64 g4,.int .i64 g5]:=(by rw[zY];exact zL);obtain⟨k1,k2,k3,k4,k5,k6,k7⟩:=hseg i.toNat hT _ hd;simp only at k1 k2 k3 k4 k5 k6 k7;obtain⟨⟨len,ps,nx⟩,hs1,hs2⟩:=BI (f:=Ah) (ds:=ss) (i:=g2) k1 k2;obtain⟨q1,eq1⟩:=Z.f (ps.map Ap);obtain⟨m1,en1⟩:=Z.f (nx.map Ac);have hs2:es[g2.toNat]?=some [.int .i64 len,.list 2 q1,.list 1 m1]:=(by rw[zQ,<- eq1,<- en1];exact hs2);obtain⟨k8,k9⟩:=k7 _ hs1;simp only at k8 k9;obtain⟨i',ei'⟩:=Z.f (i+1);have ei:zB .add .i64 i 1=i':=(by rw[zC,Ag Z.o Z.o];exact ei');have hT2:(J-i').toNat<(J-i).toNat:=(by omega);obtain⟨left,eleft⟩:=Z.e (len-g3);obtain⟨far,efar⟩:=Z.e (g4+c8+c6);have a1:zB .sub .i64 len g3=left:=(by rw[zC,Bj Z.o Z.o,eleft]);obtain⟨fa,efa⟩:=Z.e (g4+c8);have a2:zB .add .i64 g4 c8=fa:=(by rw[zC,Ag Z.o Z.o,efa]);have a3:zB .add .i64 fa c6=far:=by rw[zC,Ag Z.o Z.o];omega
  have key:Ih ss gs c6 c8 i.toNat↔far<=g3/\far<=left:=by
   constructor
   ·intro h
    obtain⟨h1,h2⟩:=h _ hd;have:=h2 _ hs1;simp only at h1 this;omega
   ·rintro⟨h1,h2⟩ g hg
    rw[hd] at hg;obtain rfl:(⟨g1,g2,g3,g4,g5⟩:Gr)=g:=(by simpa using hg);refine⟨by simp only;omega,λs hs=>?_⟩;simp only at hs;rw[hs1] at hs;obtain rfl:(⟨len,ps,nx⟩:Sg)=s:=(by simpa using hs);simp only;omega
  have hgi:∀P:Nat->Prop,(∀j,j<i.toNat->P j)->P i.toNat->∀j,j<i'.toNat->P j:=λP h1 h2=>(by rw[<- ei'];exact Fj zW h1 h2);have bad:¬(far<=g3/\far<=left)->R (.tuple [(11:Int),i]):=λh=>hR _ ⟨_,_,rfl,λh0=>absurd h0 Z.d,λhM=>absurd (key.1 (hM.fit i.toNat Z.o)) h⟩;refine Idx.mk [.int .i64 g1,.int .i64 g2,.int .i64 g3,.int .i64 g4,.int .i64 g5] zW zL ?_;cbv;by_cases h1:g3<far
  ·have e1:=W.lt zA h1
   repeat' (first|(simp only[a2,a3,e1];cbv)|fail)
   exact hR' _ _ ⟨_,Vw.same rfl,bad Z.o⟩
  ·have e1:=W.nlt zA (show far<=g3 by omega)
   by_cases h2:left<far
   ·have e2:=W.lt zA h2
    repeat' (first|(simp only[a2,a3,e1,a1,e2];cbv)|(refine Idx.mk _ k1 hs2 ?_;cbv)|fail)
    exact hR' _ _ ⟨_,Vw.same rfl,bad Z.o⟩
   ·have e2:=W.nlt zA (show far<=left by omega)
    repeat' (first|(simp only[a2,a3,e1,a1,e2,ei];cbv)|(refine Idx.mk _ k1 hs2 ?_;cbv)|fail)
    refine hN i' _ _ ?hx ?hi hT2
    case hx=>exact Z.i
    case hi=>exact⟨by omega,by omega,hgi _ hl (key.2 ⟨by omega,by omega⟩)⟩
 ·refine hE _ _ _ ?_
  cbv;exact⟨_,Vw.same rfl,hR _ ⟨_,_,rfl,λ_=>⟨rfl,hT,λj hj=>hl j Z.o⟩,λ_=>rfl⟩⟩
theorem A9.of_call{P:Program}{g:FuncId}{args:List AV}{R:AV->Prop}(H:AJ P g args [] (λr hD=>R r/\hD=[])):A9 P g args R:=
 ⟨H.1,λC vs hC RC hv=>(H.2 C vs hC RC hv).mono λe w' ⟨v,r,D,h1,⟨h2,h3⟩,h4,h5,h6,h7,_⟩=>⟨v,r,D,h1,h2,h3,h4,h5,h6,h7⟩⟩
def fdD4:List (List Nat):=[[],[],[1],[0,2,2],[3,3,0,1,2,3]]
def YG:List (List Nat):=[[],[],[],[],[2,3],[4],[5],[],[],[7,8],[9],[10],[1,6,11],[12],[0,13,12],[14,14,0,1,2,3,4,5,6,7,8,9,10,11,12,13,14]]
open Classical in
noncomputable def CU(c:Cf)(ss:List Sg)(gs:List Gr)(l:List Cy):List Rp:=if Dl (Dk c) c.c6 c.c8 ss gs then BP (GI c (CZ ss gs)) l else []
theorem YH(s:Sg)(h:s.ps.length<=70/\s.nx.length<=3):(EE s).length<=1000:=by
 unfold EE;simp only[List.length_append,List.length_cons,List.length_map,Ez,O0];omega
theorem O4{α: Type}{f: α -> List Int}{k:Nat}:∀ {l:List α},(∀a,a∈l->(f a).length<=k)->(l.flatMap f).length<=k*l.length
 | [],_=>by simp
 | a::l,h=>by
   have h1:=h a List.mem_cons_self;have h2:=O4 (l:=l) λx hx=>h x (List.mem_cons_of_mem _ hx);rw[List.flatMap_cons,List.length_append,List.length_cons,Nat.mul_succ];omega
theorem RH{ss:List Sg}{gs:List Gr}(h:D6 ss gs):(Cr ss gs).length<=1000000:=by
 have h1:=O4 (f:=EE) (k:=1000) (l:=ss) λs hs=>YH s (h.l s hs)
 have h2:=O4 (f:=EF) (k:=100) (l:=gs) λg hg=>by
  unfold EF;simp only[List.length_append,List.length_cons,Ez];omega
 have:=h.s;have:=h.g;unfold Cr;simp only[List.length_append,List.length_cons,List.length_nil,Ez];omega
theorem YI(ss:List Sg)(gs:List Gr):Ar (CZ ss gs):=by
 have:=Hd (crF 65535#16 (Cr ss gs));unfold CZ;exact FM (RF ss gs) (B_ Z.o (B_ Z.o λx hx=>by cases hx))
def MRp(l:List Rp):Option (List (List AV)×Nat)->Prop
 | none=>l=[]
 | some (u,m)=>l≠[]/\u=l.map Rp.row/\m=l.length/\Up0 u
theorem JP(l:List Rp):Up0 (l.map Rp.row):=⟨O5 λx hx=>by
 obtain⟨r,_,rfl⟩:=List.mem_map.1 hx;exact Di (i:=0) r.up.get rfl⟩
theorem KN:∀(a:List Cy) (u:Un),(BP u a).length=a.length
 | [],u=>rfl
 | c::a,u=>by rw[List.length_cons,<- KN a];rfl
theorem Ld(c:Cf)(ss:List Sg)(gs:List Gr)(es ds:List (List AV))(zQ:es=ss.map Ah)(zY:ds=gs.map Ak)(hsI:∀s,s∈ss->HV s)(hgI:∀g,g∈gs->HY g)(hft:D6 ss gs)(l:List Cy)(hl:l.length<=1000)(hlc:∀c,c∈l->c.1.length<=50/\∀b,b∈c.1->Ar b/\b.length<=300)(rs:List (List AV))(yD:rs=l.map DJ) :
 A9 Tryz.prog 12 [.agg [c.c0,c.c1,c.c2,c.c3,c.c4,c.c5,c.c6,c.c7,c.c8,c.c9,c.c10,c.c11,c.c12,c.c13],.agg [.list 3 es,.list 5 ds],.list 2 rs] (· = .list 32 ((CU c ss gs l).map Rp.row)):=by
 have hu:Up0 es:=by rw[zQ];exact Bu ss
 have hud:Up0 ds:=by rw[zY];exact Bv gs
 have hur:Up0 rs:=by rw[yD];exact HZ l
 have hrl:rs.length=l.length:=by rw[yD];simp
 have hB:=RH hft;have hs1:=hft.s;have hg1:=hft.g;have qf:=YE c.c0 c.c1 c.c2 c.c3 c.c4 c.c5 c.c6 c.c7 c.c8 c.c9 c.c10 c.c11 c.c12 c.c13 ss gs Z.o Z.o es ds zQ zY;obtain⟨im,eim⟩:∃x,x=(CZ ss gs).map AZ:=⟨_,rfl⟩;have qp:=YB ss gs es ds zQ zY Z.o Z.o Z.o hsI hgI im eim
 have hpl:(CZ ss gs).length<=1000000000:=by
  unfold CZ;simp only[List.length_append,List.length_cons,List.length_nil];omega
 have qn:=WF c (CZ ss gs) (YI ss gs) hpl im eim;have huim:Up0 im:=by rw[eim];exact Ao _
 obtain⟨u0,eu0⟩:=Z.e (GI c (CZ ss gs));have hU0:=WL c (CZ ss gs);rw[<- eu0] at hU0 qn;obtain⟨res,eres⟩:=Z.e (CU c ss gs l)
 have hfe:(Dl (Dk c) c.c6 c.c8 ss gs->res=BP u0 l)/\(¬Dl (Dk c) c.c6 c.c8 ss gs->res=[]):=by
  rw[eres,eu0];unfold CU;exact⟨λh=>if_pos h,λh=>if_neg h⟩
 rw[<- eres];obtain⟨row0,erow0⟩:=Z.e u0.row;have hur0:Up0 [row0]:=by rw[erow0];exact hU0.up
 rw[<- erow0] at qn;clear eres eu0 hpl;unfold Dk at hfe;obtain⟨c0,c1,c2,c3,c4,c5,c6,c7,c8,c9,c10,c11,c12,c13⟩:=c;simp only at qf qn hfe;obtain⟨U,eU⟩:=Z.e (res.map Rp.row);have huU:Up0 U:=by rw[eU];exact JP res
 rw[<- eU];refine A9.of_call (AJ.give ?_);(refine AJ.ofT (F:=[4,5,11]) (sc:=?scc) (r:=?rr) Tryz.func12 (by kernel_rfl) rfl ?hr ?hc (by kernel_rfl) λw hw=>?H);(case hr=>((conv=>lhs;cbv);(try exact rfl)));(case hc=>((repeat' (first|refine' X_ ?_ ?_|refine' Y3 ?_|refine' Y2 ?_|refine' Y4 ?_|refine' Y5 ?_|refine' IQ ?_ ?_|refine' IR ?_|refine' IU ?_|refine' Y0 (id:=5) rfl ?_|refine' Y1 (id:=_) rfl ?_|refine' Cg (id:=4) fdD4 rfl (by kernel_rfl) ?_|refine' Cg (id:=11) YG rfl (by kernel_rfl) ?_|fail));(try any_goals (conv=>lhs;cbv));(try any_goals exact rfl)));(obtain⟨zB,zE,yN,zD,zF,zX,yO,zP,zS,zR,yA,yB,zK,zU,zM,zN,zO,yG,zT,yH⟩:=w);(have zC:=Z.w1 hw);(have zA:=Z.w2 hw);(have yJ:=Z.w3 hw);(have zG:=Z.w4 hw);(have zI:=Z.w5 hw);(have yM:=Z.w6 hw);(have yS:=Z.w7 hw);(have zZ:=Z.w8 hw);(have yF:=Z.w9 hw);(have yE:=Z.w10 hw);(have yT:=Z.w11 hw);(have yU:=Z.w12 hw);(have zH:=Z.w13 hw);(have yR:=Z.w14 hw);(have zV:=Z.w15 hw);(have yI:=Z.w16 hw);(have yL:=Z.w17 hw);(have yX:=Z.w18 hw);(have yQ:=Z.w19 hw);(have yY:=Z.w20 hw);(have hz:=Z.z hw);(conv=>arg 4;cbv);(generalize hP:Tryz.prog=P);cbv;refine Call.step (by rw[<- hP];exact qf) (by first|rfl|(repeat' (first|exact rfl|assumption|refine uc ?_ ?_|exact ul Z.m|refine ua ?_))) ?_;rintro r ⟨e,i0,rfl,he⟩;by_cases h0:e=0
 rotate_left 1
 ·have d2:=W.ne zA h0
  obtain rfl:U=[]:=(by rw[eU,hfe.2 λh=>h0 (he.2 h)];rfl);cbv;repeat' (first|(simp only[d2];cbv)|fail)
  refine WkB.mk ?_;exact Z.i
 subst h0;have eU:=eU.trans (congrArg (List.map Rp.row) (hfe.1 (he.1 rfl)));have d1:=W.nne zA (a:=0) rfl;clear qf he hfe;cbv;repeat' (first|(simp only[d1];cbv)|fail)
 refine AnyQ.e _ (by cbv) _ (by cbv) (by cbv) ?_;cbv;refine CJ.mk [.agg [c0,c1,c2,c3,c4,c5,c6,c7,c8,c9,c10,c11,c12,c13],.agg [.list 3 es,.list 5 ds],.list 1 im,.ref 2 55 0 0,.ref 2 55 0 0] (λm=>[.live 14 [[c0,c1,c2,c3,c4,c5,c6,c7,c8,c9,c10,c11,c12,c13]],.live 2 [[.list 3 es,.list 5 ds]]]++(match m 3 with|true=>[.live 55 [row0]]|false=>[])) rfl ?_ ?_
 ·cbv
  repeat' (first|(refine Call.s hP qp ?_;cbv)|(refine AB.s hP qp ?_;cbv)|(refine Call.fresh hP qn hur0 (by first|rfl|(repeat' (first|exact rfl|assumption|refine uc ?_ ?_|exact ul Z.m|refine ua ?_))) ?_;cbv)|(refine λm=>?_;cbv)|(refine And.intro ?_ ?_)|exact rfl|exact trivial|fail)
 cbv
 (obtain⟨N,eN,N0,Nn⟩:∃L:Int,zK rs=L/\0<=L/\L.toNat=rs.length:=⟨(rs.length:Int),by rw[zH],Int.natCast_nonneg _,Int.toNat_natCast _⟩)
 repeat' (first|(simp only[eN];cbv)|fail)
 refine KU.dataN hw (S:=Int×Un×Option (List (List AV)×Nat)) (λs=>Go.Eng.fr 48 [(2,.list 2 rs),(9,.ref 0 55 0 0),(10,match s.2.2 with|none=>.nils|some (u,m)=>.sl 1 32 0 m),(27,N),(28,s.1)])
  (λs=>match s.2.2 with|none=>[.live 55 [s.2.1.row]]|some (u,m)=>[.live 55 [s.2.1.row],.live 32 u])
  (λs=>0<=s.1/\s.1<=N/\UI s.1 s.2.1/\s.2.1=Es u0 (l.take s.1.toNat)/\MRp (BP u0 (l.take s.1.toNat)) s.2.2) (λs=>(N-s.1).toNat) (0,u0,none) (by simp only[<- erow0];(refine Z.k (λj=>[2].getD j 0) ?_;cbv<;>exact Z.q)) ⟨Int.le_refl _,N0,hU0,rfl,rfl⟩ ?_
 clear qp qn
 rintro⟨i,u,ou⟩ zJ Q' hN hE hR'
 have zJ:0<=i/\i<=N/\UI i u/\u=Es u0 (l.take i.toNat)/\MRp (BP u0 (l.take i.toNat)) ou:=zJ;obtain⟨zW,yZ,hui,hue,yP⟩:=zJ;by_cases yC:i<N
 ·obtain⟨c,hcl⟩:∃c,l[i.toNat]?=some c:=⟨_,List.getElem?_eq_getElem (show i.toNat<l.length by omega)⟩
  obtain⟨i2,ei2⟩:=Z.e (i+1);have htk:l.take i2.toNat=l.take i.toNat++[c]:=(by rw[ei2];exact Eu zW hcl);have hcm:=hlc c (List.mem_of_getElem? hcl);obtain⟨xs,exs⟩:=Z.e (c.1.map Em);have hux:Up0 xs:=(by rw[exs];exact IL _);have hri:rs[i.toNat]?=some [.list 1 xs,.bool c.2]:=(by rw[yD,List.getElem?_map,hcl,exs];rfl);obtain⟨q5,hui2⟩:=QN hui Z.o c.1 (λb hb=>⟨(hcm.2 b hb).1,by have:=(hcm.2 b hb).2;omega⟩) Z.o c.2 xs exs;obtain⟨u2,eu2⟩:∃x,x=(Dm u c.1 c.2).1:=⟨_,rfl⟩;obtain⟨rp,erp⟩:∃x,x=(Dm u c.1 c.2).2:=⟨_,rfl⟩;rw[<- eu2,<- erp] at q5;rw[<- eu2,<- ei2] at hui2;have hue2:u2=Es u0 (l.take i2.toNat):=(by rw[htk,QO,<- hue,eu2];rfl);have hru:BP u0 (l.take i2.toNat)=BP u0 (l.take i.toNat)++[rp]:=(by rw[htk,NI,<- hue,erp];rfl);have hT:(N-i2).toNat<(N-i).toNat:=(by omega);have a4:zB .add .i64 i 1=i2:=(by rw[zC,Ag Z.o Z.o,ei2]);have ck:=W.lt zA yC;have hu1:=hui.up;have hu2:=hui2.up;have hrp:=rp.up;have hrv:(AV.agg rp.row).upto 0=true:=ua (Di (i:=0) rp.up.get rfl);obtain⟨row1,erow1⟩:=Z.e u.row;obtain⟨row2,erow2⟩:=Z.e u2.row;have hN2:=λ(o:Option (List (List AV)×Nat))=>hN (i2,u2,o);simp only at hN2;rw[<- erow2] at q5 hu2;simp only[<- erow2] at hN2;rw[<- erow1] at q5 hu1;simp only[<- erow1];have hux1:Af 1 [AV.ref 0 55 0 0,.list 1 xs,c.2]=true:=uc rfl (uc (ul1 hux) (uc rfl rfl));obtain⟨cb,ecb⟩:=Z.e c.2;rw[<- ecb] at q5 hri hux1;obtain⟨RT,eRT⟩:=Z.e (rp.rt.map D7);have zL:rp.row=rp.rowL (.list 1 RT):=(by rw[eRT];rfl);rw[zL] at q5 hrp hrv
  cases ou with
  | none =>
    have yP:BP u0 (l.take i.toNat)=[]:=yP
    have hfin:MRp (BP u0 (l.take i2.toNat)) (some ([rp.rowL (.list 1 RT)],1)):=by
     rw[hru,yP];exact⟨by simp,by rw[<- zL];rfl,rfl,hrp⟩
    clear hru yP hue htk zL eRT erp;obtain⟨z0,z1,z2,z3,z4,z5,z6,z7,z8,z9,zz,z11,z12,z13,z14,z15,z16,z17,z18,z19,z20,z21,z22,z23,z24,z25,z26,z27,z28,z29,z30,z31⟩:=rp;simp only[Rp.rowL] at q5 hrp hrv hfin;cbv;repeat' (first|(simp only[ck];cbv)|(refine Idx.mk _ zW hri ?_;cbv)|fail)
    refine AnyQ.e _ (by cbv) _ (by cbv) (by cbv) ?_;cbv;refine CJ.mk [?w0,?w1,?w2,?w3,?w4,?w5,?w6,?w7,?w8,?w9,?w10,?w11,?w12,?w13,.sl 1 32 0 1,.sl 1 32 0 1] (λm=>[match m 12 with|true=>.live 55 [row2]|false=>.live 55 [row1]]++(match m 14 with|true=>[.live 32 [z0::[z1,z2,z3,z4,z5,z6,z7,z8,z9,.list 1 RT,z11,z12,z13,z14,z15,z16,z17,z18,z19,z20,z21,z22,z23,z24,z25,z26,z27,z28,z29,z30,z31]]]|false=>[])) rfl ?hsn ?hfn
    case hsn =>
     cbv;repeat' (first|(refine Idx.mk _ zW hri ?_;cbv)|(refine Call.o (s:=0) hP q5 hu1 hu2 hrv rfl hux1 (by simp only[BH,AV.ren,E_ hux]) ?_;cbv)|(refine Ob.mk Z.d ?_;cbv)|(refine λm=>?_;cbv)|(refine And.intro ?_ ?_)|exact rfl|exact trivial|fail)
    cbv;simp only[a4];refine hN2 (some ([[.int .i64 z0,.int .i64 z1,.int .i64 z2,.int .i64 z3,.int .i64 z4,.int .i64 z5,.int .i64 z6,.int .i64 z7,.int .i64 z8,.int .i64 z9,.list 1 RT,.int .i64 z11,.bool z12,.bool z13,.int .i64 z14,.int .i64 z15,.bool z16,.bool z17,.bool z18,.bool z19,.bool z20,.int .i64 z21,.int .i64 z22,.int .i64 z23,.int .i64 z24,.int .i64 z25,.int .i64 z26,.int .i64 z27,.int .i64 z28,.int .i64 z29,.int .i64 z30,.int .i64 z31]],1)) _ _ ?_ ?_ hT
    ·(refine Z.k (λj=>[0,1].getD j 0) ?_;cbv<;>exact Z.q)
    ·exact⟨Z.t,Z.t,hui2,hue2,hfin⟩
  | some p =>
    obtain⟨V,m⟩:=p;have yP:BP u0 (l.take i.toNat)≠[]/\V=(BP u0 (l.take i.toNat)).map Rp.row/\m=(BP u0 (l.take i.toNat)).length/\Up0 V:=yP;obtain⟨hne,hv1,hm1,huv⟩:=yP;have hul:m=V.length:=(by rw[hv1,hm1];simp);obtain⟨V2,eV2⟩:=Z.e (V++[rp.rowL (.list 1 RT)]);obtain⟨m2,em2⟩:=Z.e (m+1);have hml:m<=1000:=(by rw[hm1,KN,List.length_take];omega);have eV3:V2=(BP u0 (l.take i2.toNat)).map Rp.row:=(by rw[eV2,hv1,hru,List.map_append,<- zL];rfl);have huV2:Up0 V2:=(by rw[eV3];exact JP _);have hfin:MRp (BP u0 (l.take i2.toNat)) (some (V2,m2)):=⟨by rw[hru];simp,eV3,by rw[em2,hm1,hru];simp,huV2⟩;clear hru hv1 hm1 hne hue htk zL eRT erp eV3;obtain⟨z0,z1,z2,z3,z4,z5,z6,z7,z8,z9,zz,z11,z12,z13,z14,z15,z16,z17,z18,z19,z20,z21,z22,z23,z24,z25,z26,z27,z28,z29,z30,z31⟩:=rp;simp only[Rp.rowL] at q5 hrp hrv eV2;cbv;repeat' (first|(simp only[ck];cbv)|(refine Idx.mk _ zW hri ?_;cbv)|fail)
    refine AnyQ.e _ (by cbv) _ (by cbv) (by cbv) ?_;cbv;refine CJ.mk [?x0,?x1,?x2,?x3,?x4,?x5,?x6,?x7,?x8,?x9,?x10,?x11,?x12,?x13,.sl 2 32 0 m2,.sl 2 32 0 m2] (λmm=>[match mm 12 with|true=>.live 55 [row2]|false=>.live 55 [row1],match mm 14 with|true=>.dead|false=>.live 32 V]++(match mm 14 with|true=>[.live 32 V2]|false=>[])) rfl ?hsp ?hfp
    case hsp =>
     cbv;repeat' (first|(refine Idx.mk _ zW hri ?_;cbv)|(refine Call.o (s:=0) hP q5 hu1 hu2 hrv rfl hux1 (by simp only[BH,AV.ren,E_ hux]) ?_;cbv)|(refine App.mk V2 m2 eV2 hul em2 Z.o Z.o ?_;cbv)|(refine λm=>?_;cbv)|(refine And.intro ?_ ?_)|exact rfl|exact trivial|fail)
    cbv;simp only[a4];refine hN2 (some (V2,m2)) _ _ ?_ ?_ hT
    ·(refine Z.k (λj=>[0,2].getD j 0) ?_;cbv<;>exact Z.q)
    ·exact⟨Z.t,Z.t,hui2,hue2,hfin⟩
 ·have ck:=W.nlt zA (show N<=i by omega)
  rw[List.take_of_length_le Z.o] at yP
  cases ou with
  | none =>
    have yP:BP u0 l=[]:=yP;have hU:U=[]:=(by rw[eU,yP];rfl);subst hU;cbv;simp only[ck];refine hE _ _ _ ?_;cbv;refine WkB.mk ?_;exact Z.i
  | some p =>
    obtain⟨V,m⟩:=p;have yP:BP u0 l≠[]/\V=(BP u0 l).map Rp.row/\m=(BP u0 l).length/\Up0 V:=yP;obtain⟨hne,hv1,hm1,huv⟩:=yP;have hul:m=V.length:=(by rw[hv1,hm1];simp);have hU:U=V:=(by rw[eU,hv1]);subst hU;clear hv1 hm1 hne;cbv;simp only[ck];refine hE _ _ _ ?_;cbv;refine WkB.mk ?_;exact Z.i
theorem KV{n:Int}{x r:List Int}(h:x.length=n.toNat):rdN n ⟨x++r,false⟩=(Eo (be x),⟨r,false⟩):=by
 unfold rdN;rw[if_neg (by simp;omega)];rw[<- h,List.take_left,List.drop_left]
theorem Ls{v:Int}(h:v<=9223372036854775807):Eo v=v:=by
 unfold Eo;rw[if_neg Z.o]
theorem be_1(v:Int)(h0:0<=v)(h1:v<=255):Eo (be [v])=v:=by
 have e:be [v]=v:=by
  unfold be;simp only[List.foldl_cons,List.foldl_nil];omega
 rw[e,Ls Z.o]
theorem be_2(v:Int)(h0:0<=v)(h1:v<=65535):Eo (be (Al 2 v))=v:=by
 have e:be (Al 2 v)=v:=by
  unfold be;simp only[Al,List.nil_append,List.cons_append,List.foldl_cons,List.foldl_nil];omega
 rw[e,Ls Z.o]
theorem RI(v:Int)(h0:0<=v)(h1:v<=4294967295):Eo (be (Al 4 v))=v:=by
 have e:be (Al 4 v)=v:=by
  unfold be;simp only[Al,List.nil_append,List.cons_append,List.foldl_cons,List.foldl_nil];omega
 rw[e,Ls Z.o]
theorem YJ(v:Int)(h0: -2147483648<=v)(h1:v<=2147483647):D_ (Eo (be (Al 4 v)))=v:=by
 by_cases h:v<0
 ·have e:be (Al 4 v)=v+4294967296:=by
   unfold be;simp only[Al,List.nil_append,List.cons_append,List.foldl_cons,List.foldl_nil];omega
  rw[e,Ls Z.o];unfold D_;rw[if_pos Z.o];omega
 ·rw[RI v Z.o Z.o]
  unfold D_;rw[if_neg Z.o]
theorem be_8(v:Int)(h0:0<=v)(h1:v<=9223372036854775807):Eo (be (Al 8 v))=v:=by
 have e:be (Al 8 v)=v:=by
  unfold be;simp only[Al,List.nil_append,List.cons_append,List.foldl_cons,List.foldl_nil];omega
 rw[e];unfold Eo;rw[if_neg Z.o]
theorem Lt{v:Int}{r:List Int}(h0:0<=v)(h1:v<=255):rdN 1 ⟨v::r,false⟩=(v,⟨r,false⟩):=by
 have:=KV (n:=1) (x:=[v]) (r:=r) rfl;rw[be_1 v h0 h1] at this;exact this
theorem O6{v:Int}{r:List Int}(h0:0<=v)(h1:v<=65535):rdN 2 ⟨Al 2 v++r,false⟩=(v,⟨r,false⟩):=by
 rw[KV (by rw[Ez];rfl),be_2 v h0 h1]
theorem RJ{v:Int}{r:List Int}(h0:0<=v)(h1:v<=4294967295):rdN 4 ⟨Al 4 v++r,false⟩=(v,⟨r,false⟩):=by
 rw[KV (by rw[Ez];rfl),RI v h0 h1]
theorem O7{v:Int}{r:List Int}(h0:0<=v)(h1:v<=9223372036854775807):rdN 8 ⟨Al 8 v++r,false⟩=(v,⟨r,false⟩):=by
 rw[KV (by rw[Ez];rfl),be_8 v h0 h1]
theorem RN{D:Type}{st:Rd->D×Rd}{f:D->List Int}{l:List D}{r:List Int}(H:∀a,a∈l->∀t,st ⟨f a++t,false⟩=(a,⟨t,false⟩)):∀n,n<=l.length->AU st n ⟨l.flatMap f++r,false⟩=(l.take n,⟨(l.drop n).flatMap f++r,false⟩)
 | 0,_=>by simp[AU]
 | n+1,h=>by
   have ih:=RN (r:=r) H n Z.o;have hd:l.drop n=l[n]::l.drop (n+1):=List.drop_eq_getElem_cons Z.o;simp only[AU,ih];rw[hd,List.flatMap_cons,List.append_assoc,H _ (List.getElem_mem Z.o)];simp only[Prod.mk.injEq,and_true];exact List.take_append_getElem Z.o
theorem Lu{D:Type}{st:Rd->D×Rd}{f:D->List Int}{l:List D}{r:List Int}(H:∀a,a∈l->∀t,st ⟨f a++t,false⟩=(a,⟨t,false⟩)):AU st l.length ⟨l.flatMap f++r,false⟩=(l,⟨r,false⟩):=by
 rw[RN H _ (Nat.le_refl _)];simp
theorem YK(p:Int×Int)(h:0<=p.1/\p.1<=9223372036854775807 /\ -2147483648<=p.2/\p.2<=2147483647)(t:List Int):pcR ⟨pcB p++t,false⟩=(p,⟨t,false⟩):=by
 unfold pcR pcB;rw[List.append_assoc,O7 h.1 h.2.1];simp only;rw[KV (by rw[Ez];rfl)];simp only[YJ p.2 h.2.2.1 h.2.2.2]
structure SgB(s:Sg):Prop where
 len:0<=s.len/\s.len<=9223372036854775807
 n:s.ps.length<=64
 ps:∀p,p∈s.ps->0<=p.1/\p.1<=9223372036854775807 /\ -2147483648<=p.2/\p.2<=2147483647
 m:s.nx.length<=2
 nx:∀x,x∈s.nx->0<=x/\x<=255
theorem Lv{n most v:Int}{q q':Rd}(h:rdN n q=(v,q'))(hm:v<=most):rdC n most q=(v,q'):=by
 unfold rdC;rw[h,if_neg (by simp only;omega)]
theorem YL(s:Sg)(h:SgB s)(t:List Int):sgR ⟨EE s++t,false⟩=(s,⟨t,false⟩):=by
 have h1:=h.n;have h2:=h.m;have e1:((s.ps.length:Int)%256)=s.ps.length:=by omega
 have e2:((s.nx.length:Int)%256)=s.nx.length:=by omega
 unfold sgR EE;simp only[List.append_assoc,List.cons_append];rw[O7 h.len.1 h.len.2];simp only;rw[e1,Lv (Lt Z.o Z.o) Z.o];simp only[Int.toNat_natCast];rw[Lu (f:=pcB) λp hp t=>YK p (h.ps p hp) t];simp only;rw[e2,Lv (Lt Z.o Z.o) Z.o];simp only[Int.toNat_natCast]
 have e3:s.nx.map (· % 256)=s.nx.flatMap λx=>[x]:=by
  rw[List.flatMap_singleton' s.nx]
  conv=>rhs;rw[<- List.map_id s.nx]
  exact List.map_congr_left λx hx=>by have:=h.nx x hx;simp only[id];omega
 rw[e3,Lu (st:=nxR) (f:=λx=>[x]) λx hx t=>Lt (h.nx x hx).1 (h.nx x hx).2]
structure GrB(g:Gr):Prop where
 id:0<=g.id/\g.id<=65535
 seg:0<=g.seg/\g.seg<=255
 off:0<=g.off/\g.off<=9223372036854775807
 acc:0<=g.acc/\g.acc<=4294967295
 sl:0<=g.sl/\g.sl<=4294967295
theorem YM(g:Gr)(h:GrB g)(t:List Int):gpR ⟨EF g++t,false⟩=(g,⟨t,false⟩):=by
 have e1:g.seg%256=g.seg:=by have:=h.seg;omega
 unfold gpR EF;simp only[List.append_assoc,List.cons_append,e1,O6 h.id.1 h.id.2,Lt h.seg.1 h.seg.2,O7 h.off.1 h.off.2,RJ h.acc.1 h.acc.2,RJ h.sl.1 h.sl.2]
theorem YN(v:BitVec 16):[bi v/256,bi v%256]=JW v:=by
 have h1:(v >>> 8).toNat=v.toNat/256:=by rw[BitVec.toNat_ushiftRight,Nat.shiftRight_eq_div_pow]
 have h2:(v &&& 255#16).toNat=v.toNat%256:=by rw[BitVec.toNat_and];exact Nat.and_two_pow_sub_one_eq_mod (n:=8) _
 unfold JW bi;rw[h1,h2];simp only[List.cons.injEq,and_true];exact⟨by omega,by omega⟩
theorem YO(ss:List Sg)(gs:List Gr)(ht:BN ss gs)(hl:(Cr ss gs).length<=1048574)(hs:∀s,s∈ss->SgB s)(hg:∀g,g∈gs->GrB g):Ep (CZ ss gs) ss gs:=by
 have h1:=ht.le;have h2:=ht.gle;have hv:CZ ss gs=Cr ss gs++JW (crF 65535#16 (Cr ss gs)):=by unfold CZ;rw[YN]
 have zH:(CZ ss gs).length=(Cr ss gs).length+2:=by unfold CZ;simp
 have hb:4<=(Cr ss gs).length:=by unfold Cr;simp only[List.length_append,List.length_cons,List.length_nil];omega
 refine⟨by omega,by omega,?_,?_,?_,ht⟩
 ·unfold CZ Cr JJ;rfl
 ·rw[hv];exact YP _
 ·unfold K7
  have e:((CZ ss gs).take ((CZ ss gs).length-2)).drop 4=Al 2 ss.length++(ss.flatMap EE++(Al 2 gs.length++(gs.flatMap EF++[]))):=by
   rw[zH,Nat.add_sub_cancel,hv,List.take_left,List.append_nil];unfold Cr;rfl
  rw[e];simp only;rw[Lv (O6 Z.o Z.o) Z.o];simp only[Int.toNat_natCast];rw[Lu (f:=EE) λs h t=>YL s (hs s h) t];simp only;rw[Lv (O6 Z.o Z.o) Z.o];simp only[Int.toNat_natCast];rw[Lu (f:=EF) λg h t=>YM g (hg g h) t]
theorem RO{ps:List (Int×Int)}{len:Int}(h:Hl ps len):∀(j:Nat) (p:Int×Int),ps[j]?=some p->0<=p.1
 | 0,p,hp=>by rw[h.zero p hp];exact Int.le_refl _
 | j+1,p,hp=>by
   have hj:=(List.getElem?_eq_some_iff.1 hp).1;obtain⟨o,ho⟩:∃o,ps[j]?=some o:=⟨_,List.getElem?_eq_getElem (show j<ps.length by omega)⟩;have h1:=RO h j o ho;have h2:=(h.all (j+1) hj p hp).2.2.2 Z.o o ho;omega
theorem YQ{ss:List Sg}{gs:List Gr}(h:BN ss gs):∀s,s∈ss->SgB s:=λs hs=>by
 obtain⟨j,hj⟩:=List.mem_iff_getElem?.1 hs;have hm:=h.seg j (List.getElem?_eq_some_iff.1 hj).1 s hj;have h1:=hm.pos;have h2:=hm.le;have h3:=h.le;refine⟨by omega,hm.may.le,λp hp=>?_,hm.two,λx hx=>?_⟩
 ·obtain⟨i,hi⟩:=List.mem_iff_getElem?.1 hp
  have k1:=RO hm.may i p hi;have k2:=hm.may.all i (List.getElem?_eq_some_iff.1 hi).1 p hi;exact⟨k1,by omega,by omega,by omega⟩
 ·obtain⟨i,hi⟩:=List.mem_iff_getElem?.1 hx
  have:=hm.nx i (List.getElem?_eq_some_iff.1 hi).1 x hi;omega
theorem YR{ss:List Sg}{gs:List Gr}(h:BN ss gs):∀g,g∈gs->GrB g:=λg hg=>by
 obtain⟨j,hj⟩:=List.mem_iff_getElem?.1 hg;obtain⟨k1,k2,k3,k4,k5,k6,k7,k8,k9,k10,_⟩:=h.grp j (List.getElem?_eq_some_iff.1 hj).1 g hj;obtain⟨s,hs⟩:∃s,ss[g.seg.toNat]?=some s:=⟨_,List.getElem?_eq_getElem k4⟩;have h1:=k6 s hs;have h2:=(h.seg _ k4 s hs).le;have h3:=h.le;exact⟨by omega,by omega,by omega,by omega,by omega⟩
theorem YS{ss:List Sg}{gs:List Gr}(ht:BN ss gs)(hl:(Cr ss gs).length<=1048574):Ep (CZ ss gs) ss gs:=YO ss gs ht hl (YQ ht) (YR ht)
theorem RP{c:Cf}{ss:List Sg}{gs:List Gr}(hf:D6 ss gs)(h:Dl (Dk c) c.c6 c.c8 ss gs):FZ c (CZ ss gs) ss gs:=by
 have:=RH hf;exact⟨YS h.tr Z.o,h⟩
theorem La{c:Cf}{ss:List Sg}{gs:List Gr}(hf:D6 ss gs)(h:Dl (Dk c) c.c6 c.c8 ss gs)(l:List Cy):CU c ss gs l=BP (.ok ss gs (stU c ss gs) []) l:=by
 unfold CU;rw[if_pos h,NG (RP hf h)]
theorem Lc{c:Cf}{ss:List Sg}{gs:List Gr}(h:¬Dl (Dk c) c.c6 c.c8 ss gs)(l:List Cy):CU c ss gs l=[]:=by
 unfold CU;rw[if_neg h]
theorem Lb{c:Cf}{ss:List Sg}{gs:List Gr}(hf:D6 ss gs)(h:Dl (Dk c) c.c6 c.c8 ss gs):BL ss gs (stU c ss gs) [] 0:=NH (RP hf h)
end Go.Proofs.YtlchlddijclhjaaGreat
