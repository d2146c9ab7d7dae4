/- Parts of the proofs. -/
import Derived.Test.YtlchlddijclhjaaGreatR12
import Derived.Test.YtlchlddijclhjaaGreatR7
import Derived.KernelRfl
import Derived.Test.YtlchlddijclhjaaGreatR11
import Derived.Test.YtlchlddijclhjaaGreatR9
import Derived.Test.YtlchlddijclhjaaGreatR8
import Derived.Laws.BitsAllLaws
import Derived.Test.YtlchlddijclhjaaGreatRZ
set_option linter.unusedVariables false
set_option linter.unusedSimpArgs false
set_option maxHeartbeats 4000000
namespace Go.Eng
open Go Go.RowKit
theorem AWp.drawG{P:Program}{n:Nat}{Q:Aq}{a:AA}{h:A7}{id:Nat}{l0:List Oper}{hd:List Ad}{ops:Array Oper}{KK:AA->A7->Prop}(mP:∀Q a w,wpAny P .any l0.toArray Q l0.length (Array.replicate l0.length false) a w->wpAny P .any ops Q ops.size (Array.replicate ops.size false) a w)(hm:P.follows .mixedOrders=true)(hB:Gu l0 hd=true)
 (mY:Aw P l0 (l0.take hd.length)=some hd) (hQp:∀c a h,¬Q (.panic c) a h) (H:Df P h KK hd a [])
 (hT:∀(C D:Cfg) a' news' act',KK a' news'->D.h=h++news'->St D a' act'->n<=D.h.length->Ext n C D->wpList P l0.toArray (Dv n C Q) (l0.drop hd.length) act' D.w):AWp P n (.region id ops true) Q a h:=by
 intro C act hC S hn;obtain⟨rs,a',news',hch,hK⟩:=K3 mY H;obtain⟨c1,c2,c3,c4,c5,c6⟩:=hch.at
 obtain⟨b1,b2,b3,b4⟩:=Mr hB;have nR:hd.length<=l0.length:=by rcases b3 with h|h<;>omega
 simp only[List.nil_append] at c5;refine wp_region_any hm (mP _ _ _ ?_);obtain⟨R1,E1⟩:=S.rel.sameHeap (w:={ C.w with drawn:=C.w.drawn+1 }) rfl rfl rfl rfl C.h.length
 have pR:∀(s:Nat) (x:Ai),x≠Ai.free->((C.h++List.replicate (rs.map (·.2)).flatten.length .free)[s]?=some x↔C.h[s]?=some x):=by
  intro s x hx;by_cases hs:s<C.h.length
  ·rw[List.getElem?_append_left hs]
  ·rw[List.getElem?_append_right Z.o,List.getElem?_eq_none (show C.h.length<=s by omega),List.getElem?_replicate]
   constructor
   ·intro hh
    split at hh
    ·cases hh;exact absurd rfl hx
    ·cases hh
   ·intro hh;cases hh
 obtain⟨R2,E2⟩:=R1.reserve (C.h++List.replicate (rs.map (·.2)).flatten.length .free) pR C.h.length;have E12:=E1.trans E2;generalize hC1:({ C with w:={ C.w with drawn:=C.w.drawn+1 },h:=C.h++List.replicate (rs.map (·.2)).flatten.length .free }:Cfg)=C1 at R2 E2 E12;have pU:C1.h=C.h++List.replicate (rs.map (·.2)).flatten.length .free:=by rw[<- hC1]
 have hC1w:C1.w={ C.w with drawn:=C.w.drawn+1 }:=by rw[<- hC1]
 have I0:L6 C.h hd rs a (λi=>(Array.replicate l0.length false).getD i false) C1 act:=by
  have hS:(λi=>(Array.replicate l0.length false).getD i false)=λ_=>false:=(by funext i;exact getD_replicate_false _ _);rw[hS];refine⟨R2,S.nodef,S.vrs.1,by rw[pU];simp,λk hk=>by rw[pU,List.getElem?_append_left hk],λi x hx=>?_,λt ht=>?_⟩
  ·have:=K4 hx
   have kS:=(List.getElem?_eq_some_iff.1 this).1;rw[pU,List.getElem?_append_right Z.o,List.getElem?_replicate,if_pos Z.o];simp
  ·rw[Mj]
   exact E12.vr' (S.vrs.get t)
 have main:=Pp (Q:=Dv n C Q) hch (λi hi=>by rw[List.getElem?_take,if_pos hi]) hB (λc a w ⟨a',D,h1,_⟩=>hQp c a' D.h h1) C1 (by rw[pU];subst hC;simp) (λD act' I E=>?_) hd.length (Array.replicate l0.length false) C1 act
  (by
    have hS:(λi=>(Array.replicate l0.length false).getD i false)=λ_=>false:=(by funext i;exact getD_replicate_false _ _);rw[hS];exact Pk _)
  ⟨by simp,λj _ _ hl=>(by rw[getD_replicate_false] at hl;cases hl),λt _ ht=>getD_in (by simpa using ht) (getD_replicate_false _ _)⟩ (hC▸I0) (Ext.refl _ _) rfl
 ·rw[hC1w] at main
  rw[show hd.length+(l0.length-hd.length)=l0.length by omega] at main;simpa using main
 ·-- all of the head is done
  have hDh:D.h=C.h++news':=by
   apply List.ext_getElem?;intro k;by_cases hk:k<C.h.length
   ·rw[List.getElem?_append_left hk];subst hC;exact I.old k hk
   ·by_cases wB:k-C.h.length<(rs.map (·.2)).flatten.length
    ·obtain⟨i,x,h1,h2,h3⟩:=Ms (λi=>by
      by_cases hi:i<hd.length
      ·obtain⟨_,_,_,_,_,_,h4,_⟩:=c6 i hi;exact h4
      ·simp only[BX];rw[List.getElem?_eq_none Z.o];simp) wB
     have:=I.new i x h2;rw[List.getElem?_append_right Z.o,c5];have e:=K4 h2;rw[h3] at e;rw[e];subst hC;have pX:C.h.length+Bt rs i=k:=(by omega);rw[pX] at this;simpa using this
    ·rw[List.getElem?_eq_none (by rw[I.len];subst hC;omega),List.getElem?_eq_none (by rw[List.length_append,c5];omega)]
  have S':St D a' act':=by
   refine⟨I.rel,⟨by rw[I.size,c3],λt x hx=>?_⟩,I.nodef⟩
   have uV:t<a.length:=by
    have:=(List.getElem?_eq_some_iff.1 hx).1;omega
   have:=I.vrs t uV;rw[<- c4 t uV,List.getD_eq_getElem?_getD,hx] at this;exact this
  have hnD:n<=D.h.length:=(by rw[hDh];subst hC;simp;omega);have E':Ext n C D:=(E12.mono (hC▸hn)).trans (E.mono (by rw[pU];subst hC;simp;omega));exact hT C D a' news' act' hK (by rw[hDh,hC]) S' hnD E'
section
variable {P:Program} {n:Nat} {Q:Exit->Act->World->Prop}
def Ua(d:Option Nat)(rest:List Ad):Bool:=
 match d with
 | some t=>rest.any λo=>match o.op with | .app _ _ _ (.tmp u)=>Nat.beq t u | .call _ xs=>xs.any (λx=>match x with | .tmp u=>Nat.beq t u|_=>false)|_=>false
 | none=>false
def Gp(w:A8)(P:Program)(el:List Nat)(K:AA->A7->Prop):List Ad->AA->A7->Prop
 | [],a,h=>K a h
 | o::rest,a,h =>
   match o.guard with
   | some _=>False
   | none =>
     match o.op with
     | .bslice z m zero ps=>(match Ua o.dst rest with
       | true=>Ga w P el o (Gp w P el K rest) a h
       | false=>(match D9 (evA a) (List.replicate m zero).flatten ps with|some cs=>Gp w P el K rest (Aj a o.dst (.sl h.length z 0 m)) (h++[.live z (EX z m cs)])|none=>False))
     | _=>Ga w P el o (Gp w P el K rest) a h
theorem PY{el:List Nat}{K:AA->A7->Prop}{l0:List Oper}:∀ {l:List Oper} {al:List Ad} {a:AA} {C:Cfg} {act:Act},Aw P l0 l=some al->St C a act->n<=C.h.length->Gp std P el K al a C.h ->
 (∀a' D act',K a' D.h->St D a' act'->Ext n C D->n<=D.h.length->Q .normal act' D.w)->wpList P l0.toArray Q l act C.w
 | [],al,a,C,act,hc,S,hn,H,hK=>by
   simp only[Aw,Option.some.injEq] at hc;subst hc;exact hK a C act H S (Ext.refl _ _) hn
 | o::l,al,a,C,act,hc,S,hn,H,hK=>by
   simp only[Aw] at hc;split at hc
   ·rename_i ao al' uK oF
    simp only[Option.some.injEq] at hc;subst hc;obtain⟨h1,h2,h3⟩:=J8 uK
    have next:∀a' D act',Gp std P el K al' a' D.h->St D a' act'->Ext n C D->n<=D.h.length->wpList P l0.toArray Q l act' D.w:=λa'' D act' k1 k2 k3 k4 =>
     PY oF k2 k4 k1 λa3 D3 act3 m1 m2 m3 m4=>hK a3 D3 act3 m1 m2 (k3.trans m3) m4
    unfold wpList;simp only[Gp] at H;rcases h3 with ⟨g1,g2⟩|⟨j,want,t,g1,g2,g3⟩
    ·simp only[g2] at H
     rw[if_pos (by simp[Region.wanted,g1])];refine .inl ?_;split at H
     ·rename_i z m zero ps hop
      split at H
      ·exact IG h1 h2 S hn (Il H λa h hr=>hr) next
      ·split at H
       ·rename_i cs hcs
        exact Sv (by rw[<- hop];exact h1) h2 S hn hcs H next
       ·exact H.elim
     ·exact IG h1 h2 S hn (Il H λa h hr=>hr) next
    ·simp only[g3] at H
   ·cases hc
end
def I9(tl:List Ad):List Ad->Nat
 | []=>0
 | o::l=>match o.op with
   | .bslice _ _ _ _=>(match Ua o.dst (l++tl) with|true=>I9 tl l+1|false=>0)
   | _=>I9 tl l+1
def iT(w:A8)(P:Program)(el:List Nat)(K:AA->A7->Prop)(h:A7)(tl:List Ad):AA->A7->Prop:=λa news=>Gp w P el K tl a (h++news)
def Ju(w:A8)(P:Program)(el:List Nat)(n:Nat):BR->Aq->AA->A7->Prop
 | .seq x y,Q,a,h=>Ju w P el n x (Dw (Ju w P el n y Q) Q) a h
 | .draw hd tl,Q,a,h=>(match Nat.blt (I9 tl hd) hd.length with
   | true=>Fx w P el h (iT w P el (Q .normal) h (hd.drop (I9 tl hd)++tl)) (hd.take (I9 tl hd)) a []
   | false=>Cs w P el n (.draw hd tl) Q a h)
 | .ops l,Q,a,h=>(match Sy l with|true=>Gp w P el (Q .normal) l a h|false=>CK w P el (Q .normal) l a h)
 | c,Q,a,h=>Jh w P el n c Q a h
def Jv(P:Program):Code->Bool
 | .seq a b=>Jv P a && Jv P b
 | .region id ops true=>CW P (.region id ops true) && (IB ops.toList || match Aw P (CO ops.toList) (CO ops.toList) with
   | some al=>Gu (CO ops.toList) ((al.take (headLen P al)).take (I9 (al.drop (headLen P al)) (al.take (headLen P al))))
   | none=>true)
 | c=>CW P c
theorem PZ{P:Program}{el:List Nat}{n:Nat}:∀ {code:Code} {c:BR} {Q Q':Aq} {a:AA} {h:A7},Am P code=some c->Jv P code=true->(∀e a h,Q e a h->Q' e a h)->Ju std P el n c Q a h->AWp P n code Q' a h
 | .seq x y,c,Q,Q',a,h,hc,hd,hq,H=>by
   simp only[Am] at hc;split at hc
   ·rename_i p q hp rZ
    simp only[Option.some.injEq] at hc;subst hc;simp only[Jv,Bool.and_eq_true] at hd;refine AWp.seq (PZ hp hd.1 (λe a h hr=>?_) H)
    cases e with
    | normal=>exact PZ rZ hd.2 hq hr
    | _=>exact hq _ _ _ hr
   ·cases hc
 | .region id ops true,c,Q,Q',a,h,hc,hd,hq,H=>by
   simp only[Jv,Bool.and_eq_true] at hd;obtain⟨uJ,uI⟩:=hd;have lM:=hc;simp only[Am] at hc;by_cases qi:IB ops.toList=true
   ·simp only[qi] at hc
    cases hx:Aw P ops.toList ops.toList with
    | none =>
      simp only[hx,Option.map_none,CP,Option.some.injEq] at hc;subst hc;exact Cv lM uJ hq H
    | some y =>
      simp only[hx,Option.map_some,CP,Option.some.injEq] at hc;subst hc;exact Cv lM uJ hq H
   have hlf:IB ops.toList=false:=(by simpa using qi);simp only[hlf] at hc;simp only[Bool.or_eq_true] at uI;have uI:=uI.resolve_left qi;have hd00:=uJ;simp only[CW] at uJ;rw[if_neg qi] at uJ
   cases oF:Aw P (CO ops.toList) (CO ops.toList) with
   | none =>
     rw[oF] at hc;simp only[Option.map_none,CP,Option.some.injEq] at hc;subst hc;exact Cv lM hd00 hq H
   | some al =>
     rw[oF] at hc uJ uI;simp only[Bool.and_eq_true] at uJ;simp only at uI;simp only[Option.map_some,CP,Option.some.injEq] at hc;subst hc;simp only[Ju] at H;split at H
     ·rename_i kS
      have kS:I9 (al.drop (headLen P al)) (al.take (headLen P al))<(al.take (headLen P al)).length:=(by simpa[Nat.blt_eq] using kS);generalize headLen P al=m at *;generalize hk:I9 (al.drop m) (al.take m)=k at *;obtain⟨h1,h2⟩:=Gx oF;have hkm:k<m/\k<al.length:=(by rw[List.length_take] at kS;omega);have e1:(al.take m).take k=al.take k:=by rw[List.take_take,Nat.min_eq_left Z.o]
      have e2:(al.take m).drop k++al.drop m=al.drop k:=by
       have:al.drop k=((al.take m)++al.drop m).drop k:=(by rw[List.take_append_drop]);rw[this,List.drop_append_of_le_length (by rw[List.length_take];omega)]
      obtain⟨h3,h4⟩:=h2 k;have ekl:(al.take k).length=k:=(by rw[List.length_take];omega);rw[e1] at H uI;rw[e2] at H
      have:=AWp.drawG (n:=n) (id:=id) (ops:=ops) (Q:=Mt Q') (KK:=λa news=>Gp std P el (Q .normal) (al.drop k) a (h++news)) (λQ a w H=>by simpa using Po uJ.2.1 Q a w H) uJ.1 uI (by rw[ekl];exact h3) (λc a h hh=>hh)
       (Hz (λa h hr=>hr) H) (λC D a' news' act' hK hDh S' hnD E'=>by
         rw[ekl];exact PY h4 S' hnD (by rw[hDh];exact hK) λa3 D3 act3 m1 m2 m3 m4=>⟨a3,D3,hq _ _ _ m1,rfl,m2,E'.trans m3,m4⟩)
      exact this.post λe a h hq=>by
       cases e with
       | normal=>exact⟨a,h,Wk.refl _ _ _,hq⟩
       | _=>exact hq.elim
     ·exact Cv lM hd00 hq H
 | .region id ops false,c,Q,Q',a,h,hc,hd,hq,H=>by
   have lM:=hc;simp only[Am] at hc
   cases hx:Aw P ops.toList ops.toList with
   | none =>
     simp only[hx,Option.map_none,CP,Option.some.injEq] at hc;subst hc;exact Cv lM hd hq H
   | some al =>
     simp only[hx,Option.map_some,CP,Option.some.injEq] at hc;subst hc;simp only[Ju] at H;split at H
     ·intro C act hC S hn
      refine wp_region_list ?_;have:=PY (Q:=Dv n C Q') (n:=n) hx S (hC▸hn) (by subst hC;exact H) λa3 D3 act3 m1 m2 m3 m4=>⟨a3,D3,hq _ _ _ m1,rfl,m2,m3,m4⟩;simpa using this
     ·have hH:Cs std P el n (.ops al) Q a h:=H
      exact CQ lM hd (C9 hq hH)
 | .skip,c,Q,Q',a,h,hc,hd,hq,H=>by
   have lM:=hc;simp only[Am,Option.some.injEq] at hc;subst hc;exact Cv lM hd hq H
 | .ret,c,Q,Q',a,h,hc,hd,hq,H=>by
   have lM:=hc;simp only[Am,Option.some.injEq] at hc;subst hc;exact Cv lM hd hq H
 | .exit id,c,Q,Q',a,h,hc,hd,hq,H=>by
   have lM:=hc;simp only[Am,Option.some.injEq] at hc;subst hc;exact Cv lM hd hq H
 | .cond x p q,c,Q,Q',a,h,hc,hd,hq,H=>by
   have lM:=hc;simp only[Am] at hc;split at hc
   ·simp only[Option.some.injEq] at hc
    subst hc;exact Cv lM hd hq H
   ·cases hc
 | .block id x,c,Q,Q',a,h,hc,hd,hq,H=>by
   have lM:=hc;simp only[Am] at hc
   cases hx:Am P x with
   | none=>simp[hx] at hc
   | some y =>
     simp only[hx,Option.map_some,Option.some.injEq] at hc;subst hc;exact Cv lM hd hq H
 | .loop x,c,Q,Q',a,h,hc,hd,hq,H=>by
   have lM:=hc;simp only[Am] at hc
   cases hx:Am P x with
   | none=>simp[hx] at hc
   | some y =>
     simp only[hx,Option.map_some,Option.some.injEq] at hc;subst hc;exact Cv lM hd hq H
 | .rangeFunc _ _ _ _,c,Q,Q',a,h,hc,hd,hq,H=>by
   have lM:=hc;simp only[Am,Option.some.injEq] at hc;subst hc;exact Cv lM hd hq H
 | .scope _,c,Q,Q',a,h,hc,hd,hq,H=>by
   have lM:=hc;simp only[Am,Option.some.injEq] at hc;subst hc;exact Cv lM hd hq H
 | .label _,c,Q,Q',a,h,hc,hd,hq,H=>by
   have lM:=hc;simp only[Am,Option.some.injEq] at hc;subst hc;exact Cv lM hd hq H
 | .goto _,c,Q,Q',a,h,hc,hd,hq,H=>by
   have lM:=hc;simp only[Am,Option.some.injEq] at hc;subst hc;exact Cv lM hd hq H
 | .refuse _,c,Q,Q',a,h,hc,hd,hq,H=>by
   have lM:=hc;simp only[Am,Option.some.injEq] at hc;subst hc;exact Cv lM hd hq H
def Ub(P:Program)(fn:Func):Bool:=match fn.body with|some c=>Jv P c|none=>true
def Uc(w:A8)(F:Option FB)(P:Program)(args:List AV)(R:AV->Prop):Prop:=
 match F with
 | some F=>Ju w P (DY [] F.code) 0 F.code (JZ F.rets R) (DU args F.n) []
 | none=>False
theorem A9.ofD {P : Program} {g : FuncId} {fn : Func} {args : List AV} {R : AV → Prop} (hf : P.funcs[g]? = some fn) (hname : (fn.name == "runtime.NumGoroutine") = false) (lL : Ub P fn = true) (H : ∀ w, w = std → ∀ R' : AV → Prop, (∀ r, R r → R' r) → Uc w (Dh P fn) P args R') : A9 P g args R := by
 have H:=H std rfl R λ_ h=>h;unfold Uc at H;split at H
 ·rename_i F hc
  unfold Dh at hc;split at hc
  ·rename_i code hb
   split at hc
   ·rename_i c r vZ hr
    simp only[Option.some.injEq] at hc;subst hc;have HA:AWp P 0 code (J9 r R) (DU args fn.ntmps) []:=PZ vZ (by unfold Ub at lL;rw[hb] at lL;exact lL) (λe a h hr=>MC e a h hr) H;refine⟨⟨fn,hf,by simp[hb],hname⟩,λC vs hC RC hv=>?_⟩;refine calls_of_wp hf hb ?_;refine wp_mono (HA C _ hC (JC RC hv fn.ntmps) (Nat.zero_le _)) λe act' w' ⟨a',D,h1,h2,h3,h4,h5⟩=>?_
    have fin:(∃l,Cm a' D.h r=some l/\∃x,Vw D.h (Cb l) x/\R x)->act'.defers=[]/\∃v,(results fn act'.tmps).run P w' = .ok v w' /\
     ∃v' r D,Ending.returned v = .returned v'/\R r/\D.h=[]/\D.w=w'/\Rel D/\VR D r v'/\Ext 0 C D:=by
     rintro⟨l,hl,x,hx,hRx⟩
     obtain⟨u,k1,k2⟩:=JB hr h3 hl;subst h2;refine⟨h3.nodef,u,k1,u,x,{ D with h:=[] },rfl,hRx,rfl,rfl,?_,hx D rfl h3.rel u k2,?_⟩
     ·exact⟨λs z es h=>by simp at h,λs t ⟨z,es,h⟩=>by simp at h,h3.rel.olt,λp hp=>(h3.rel.glo p hp).recfg (C:=D) (D:={ D with h:=[] }) rfl (λb hb=>hb.elim .inl λ⟨s,⟨z,es,h⟩,_⟩=>by simp at h) (FC hp 0),h3.rel.gsz⟩
     ·exact⟨h4.O,h4.os,h4.tape,h4.output,h4.size,λs hs=>absurd hs (Nat.not_lt_zero _),λb hb ku=>⟨(h4.keep b hb ku).1,λ⟨s,⟨z,es,h⟩,_⟩=>by simp at h⟩,h4.shape⟩
    cases e with
    | normal=>exact fin h1
    | ret=>exact fin h1
    | exit id=>exact h1.elim
    | goto l=>exact h1.elim
    | panic c=>exact h1.elim
    | outgrown=>exact h1.elim
   ·cases hc
  ·cases hc
 ·exact H.elim
end Go.Eng
namespace Go.Proofs.YtlchlddijclhjaaGreat
open Go Go.RowKit Go.Eng
inductive Bd where
 | start
 | more (i:Int) (n:Nat) (fs:List (List AV))
def Bd.left(es:List (List AV)):Bd->Nat
 | .start=>es.length
 | .more i _ _=>es.length-i.toNat
theorem BM{D:Type}{f:D->List AV}(hf:∀d,Af 0 (f d)=true)(ds:List D):Up0 (ds.map f):=by
 refine⟨?_⟩
 induction ds with
 | nil=>rfl
 | cons d t ih=>exact Bool.and_eq_true_iff.mpr ⟨hf d,ih⟩
theorem BI{D:Type}{f:D->List AV}{ds:List D}{i:Int}(h0:0<=i)(h:i.toNat<ds.length):∃d,ds[i.toNat]?=some d/\(ds.map f)[i.toNat]?=some (f d):=by
 have h1:=h;exact⟨ds[i.toNat],by rw[List.getElem?_eq_getElem h1],by simp[h1]⟩
end Go.Proofs.YtlchlddijclhjaaGreat
namespace Go.Eng
open Go Go.RowKit
theorem uc{n:Nat}{c:AV}{cs:List AV}(h1:c.upto n=true)(h2:Af n cs=true):Af n (c::cs)=true:=by simp only[Af,h1,h2];rfl
theorem ul{z:Nat}{es:List (List AV)}(h:Up0 es):(AV.list z es).upto 0=true:=h.get
theorem ua{n:Nat}{cs:List AV}(h:Af n cs=true):(AV.agg cs).upto n=true:=h
theorem ull{n:Nat}{c:List AV}{cs:List (List AV)}(h1:Af n c=true)(h2:BC n cs=true):BC n (c::cs)=true:=by simp only[BC,h1,h2];rfl
theorem u1{c:List AV}{cs:List (List AV)}(h1:Af 0 c=true)(h2:Up0 cs):Up0 (c::cs):=⟨ull h1 h2.get⟩
theorem u0:Up0 []:=⟨rfl⟩
section
variable {P P0:Program} {g:FuncId} {args:List AV} {v:AV} {h:A7} {K:AA->A7->Prop} {a:AA} {dst:Option Nat} {R:AV->Prop}
theorem Call.s(hP:P0=P)(H:A9 P0 g args (· = v))(hK:K (Aj a dst v) h)(ha:Af 0 args=true:=by first|rfl|(repeat' (first|exact rfl|assumption|refine uc ?_ ?_|exact ul Z.m|refine ua ?_))):Call P g args h (Cn K a dst):=by
 subst hP;exact Call.stepE H ha hK
theorem AB.s{h0:A7}{news:A7}(hP:P0=P)(H:A9 P0 g args (· = v))(hK:K (Aj a dst v) news)(ha:Af 0 args=true:=by first|rfl|(repeat' (first|exact rfl|assumption|refine uc ?_ ?_|exact ul Z.m|refine ua ?_))):AB P g args h0 (Gz K a dst news):=by
 subst hP;exact AB.stepE H ha hK
end
section
variable {zE:BinOp->Int->Int->Bool} (hc:zE=AC)
include hc
theorem W.lt{a b:Int}(h:a<b):zE .lss a b=true:=by rw[hc];simp only[AC,decide_eq_true_eq];exact h
theorem W.nlt{a b:Int}(h:b<=a):zE .lss a b=false:=by rw[hc];simp only[AC,decide_eq_false_iff_not];omega
theorem W.gt{a b:Int}(h:b<a):zE .gtr a b=true:=by rw[hc];simp only[AC,decide_eq_true_eq];exact h
theorem W.ngt{a b:Int}(h:a<=b):zE .gtr a b=false:=by rw[hc];simp only[AC,decide_eq_false_iff_not];omega
theorem W.le{a b:Int}(h:a<=b):zE .leq a b=true:=by rw[hc];simp only[AC,decide_eq_true_eq];exact h
theorem W.nle{a b:Int}(h:b<a):zE .leq a b=false:=by rw[hc];simp only[AC,decide_eq_false_iff_not];omega
theorem W.ge{a b:Int}(h:b<=a):zE .geq a b=true:=by rw[hc];simp only[AC,decide_eq_true_eq];exact h
theorem W.nge{a b:Int}(h:a<b):zE .geq a b=false:=by rw[hc];simp only[AC,decide_eq_false_iff_not];omega
theorem W.eq{a b:Int}(h:a=b):zE .eql a b=true:=by rw[hc];simp only[AC,decide_eq_true_eq,beq_iff_eq];exact h
theorem W.neq{a b:Int}(h:a≠b):zE .eql a b=false:=by rw[hc];simp only[AC,decide_eq_false_iff_not,beq_eq_false_iff_ne];exact h
theorem W.ne{a b:Int}(h:a≠b):zE .neq a b=true:=by rw[hc];simp only[AC,decide_eq_true_eq,bne_iff_ne];exact h
theorem W.nne{a b:Int}(h:a=b):zE .neq a b=false:=by rw[hc];simp only[AC,decide_eq_false_iff_not,bne_eq_false_iff_eq,ne_eq,h,not_true_eq_false,not_false_eq_true]
end
theorem Z.u{n:Nat}{l:List AV}(h:Af n l=true:=by first|rfl|(repeat' (first|exact rfl|assumption|refine uc ?_ ?_|exact ul (by assumption)|refine ua ?_))):Af n l=true:=h
end Go.Eng
namespace Go.Proofs.YtlchlddijclhjaaGreat
open Go Go.RowKit Go.Eng
set_option maxRecDepth 100000
theorem Ud{Y C q:Int}(hC:0<C)(h1:q*C<=Y)(h2:Y<q*C+C):Y/C=q:=by
 have a1:q<=Y/C:=Int.le_ediv_of_mul_le hC h1;have a2:Y/C<q+1:=Int.ediv_lt_of_lt_mul hC (by rw[Int.add_mul,Int.one_mul];exact h2);omega
theorem iU{a b:Int}:(a*b=(a.natAbs:Int)*b.natAbs/\(decide (a<0) != decide (b<0))=false)\/(a*b = -((a.natAbs:Int)*b.natAbs)/\(decide (a<0) != decide (b<0))=true):=by
 by_cases ha:a<0<;>by_cases hb:b<0
 ·refine .inl ⟨?_,by simp[ha,hb]⟩
  rw[show (a.natAbs:Int) = -a by omega,show (b.natAbs:Int) = -b by omega,Int.neg_mul_neg]
 ·refine .inr ⟨?_,by simp[ha,hb]⟩
  rw[show (a.natAbs:Int) = -a by omega,show (b.natAbs:Int)=b by omega,Int.neg_mul,Int.neg_neg]
 ·refine .inr ⟨?_,by simp[ha,hb]⟩
  rw[show (a.natAbs:Int)=a by omega,show (b.natAbs:Int) = -b by omega,Int.mul_neg,Int.neg_neg]
 ·refine .inl ⟨?_,by simp[ha,hb]⟩
  rw[show (a.natAbs:Int)=a by omega,show (b.natAbs:Int)=b by omega]
theorem Ue{a b c:Int}(hc:0<c)(h0: -4611686018427387904<=a*b)(h1:a*b<=4611686018427387904):Fv false a b c=(a*b/c,0)/\Fv true a b c=(-(-(a*b)/c),0):=by
 unfold Fv;rw[decide_eq_false (show ¬c<0 by omega),show (c.natAbs:Int)=c by omega,show ∀t:Bool,(t != false)=t from λt=>by cases t<;>rfl];obtain⟨X,eX⟩:∃X,(a.natAbs:Int)*b.natAbs=X:=⟨_,rfl⟩;have hX:0<=X:=by rw[<- eX];exact Int.mul_nonneg (Int.natCast_nonneg _) (Int.natCast_nonneg _)
 have hd:=Int.mul_ediv_add_emod X c;have oq:=Int.emod_nonneg X (show c≠0 by omega);have ko:=Int.emod_lt_of_pos X hc;have vI:0<=X/c:=Int.ediv_nonneg hX Z.o;have t_:X/c<=X:=Int.ediv_le_self _ hX;obtain⟨q,eq⟩:=Z.f (X/c);rw[eq] at hd vI t_;rw[Int.mul_comm] at hd;have v00:Ee false false X c=q:=by unfold Ee;rw[eq];exact if_neg (λh=>h.2 rfl)
 have v11:Ee true true X c=q:=by unfold Ee;rw[eq];exact if_neg (λh=>h.2 rfl)
 have v10:(0<X%c->Ee true false X c=q+1)/\(¬0<X%c->Ee true false X c=q):=by unfold Ee;rw[eq];exact⟨λh=>if_pos ⟨h,by decide⟩,λh=>if_neg λk=>h k.1⟩
 have v01:(0<X%c->Ee false true X c=q+1)/\(¬0<X%c->Ee false true X c=q):=by unfold Ee;rw[eq];exact⟨λh=>if_pos ⟨h,by decide⟩,λh=>if_neg λk=>h k.1⟩
 have sF:∀z:Int,z<=4611686018427387905->Fs z false=(z,0):=λz hz=>by unfold Fs;rw[if_neg Z.d,if_pos Z.o]
 have sT:∀z:Int,z<=4611686018427387905->Fs z true=(-z,0):=λz hz=>by unfold Fs;rw[if_pos rfl,if_pos Z.o]
 have u1:0<X%c -> -X/c = -(q+1):=λhz=>Ud hc (by rw[Int.neg_mul,Int.add_mul];omega) (by rw[Int.neg_mul,Int.add_mul];omega);have u2:¬0<X%c -> -X/c = -q:=λhz=>Ud hc (by rw[Int.neg_mul];omega) (by rw[Int.neg_mul];omega);rcases iU (a:=a) (b:=b) with ⟨e,s⟩|⟨e,s⟩<;>rw[s,e,eX]<;>rw[e,eX] at h0 h1
 ·rw[v00,sF q Z.o,eq]
  refine⟨rfl,?_⟩;by_cases hz:0<X%c
  ·rw[v10.1 hz,sF _ Z.o,u1 hz,Int.neg_neg]
  ·rw[v10.2 hz,sF _ Z.o,u2 hz,Int.neg_neg]
 ·rw[v11,sT q Z.o,Int.neg_neg,eq]
  refine⟨?_,rfl⟩;by_cases hz:0<X%c
  ·rw[v01.1 hz,sT _ Z.o,u1 hz]
  ·rw[v01.2 hz,sT _ Z.o,u2 hz]
def flD(a b c:Int):Int:=a*b/c
def clD(a b c:Int):Int:= -(-(a*b)/c)
theorem iV{a b c:Int}(hc:0<c):flD a b c<=clD a b c:=by
 unfold flD clD;have h1:=Int.mul_ediv_add_emod (a*b) c;have h2:=Int.mul_ediv_add_emod (-(a*b)) c;have h3:=Int.emod_nonneg (a*b) (show c≠0 by omega);have h4:=Int.emod_nonneg (-(a*b)) (show c≠0 by omega);have h5:c*(a*b/c + -(a*b)/c)<=0:=by rw[Int.mul_add];omega
 have h6:a*b/c + -(a*b)/c<=0:=Int.not_lt.1 λh=>by
  have:=Int.mul_le_mul_of_nonneg_left (show 1<=a*b/c + -(a*b)/c by omega) (show 0<=c by omega);omega
 omega
structure R62(a b:Int):Prop where
 lo: -4611686018427387904<=a*b
 hi:a*b<=4611686018427387904
theorem Mg{a b c v:Int}(lM:0<c)(mY:I62 c)(ha:I62 a)(hb:I62 b)(h:R62 a b)(hv:v=flD a b c):A9 Tryz.prog 223 [a,b,c] (· = .tuple [v,jz 0]):=by
 unfold I62 at *;exact Yn a b c v 0 Z.o Z.o Z.o Z.o Z.o Z.o Z.o (by rw[hv];exact(Ue lM h.lo h.hi).1)
theorem Pb{a b c v:Int}(lM:0<c)(mY:I62 c)(ha:I62 a)(hb:I62 b)(h:R62 a b)(hv:v=clD a b c):A9 Tryz.prog 222 [a,b,c] (· = .tuple [v,jz 0]):=by
 unfold I62 at *;exact RZ a b c v 0 Z.o Z.o Z.o Z.o Z.o Z.o Z.o (by rw[hv];exact(Ue lM h.lo h.hi).2)
theorem Uf{a b k c x y:Int}(kY:a<=b)(lM:1<=c)(mY:I62 c)(ha:I62 a)(hb:I62 b)(hk:I62 k)(h1:R62 k a)(h2:R62 k b)(hx:x=flD k (if k<0 then b else a) c)(hy:y=clD k (if k<0 then a else b) c) :
 A9 Tryz.prog 202 [.agg [a,b],k,c] (· = .tuple [.agg [x,y],jz 0]):=by
 have q1:=Dt (a:=a) (b:=b) true (by simp[kY]);have z1:AF .add .i64 0 0=0:=rfl;by_cases oH:k<0
 ·rw[if_pos oH] at hx hy
  have q2:=Mg Z.o mY hk hb h2 hx;have q3:=Pb Z.o mY hk ha h1 hy;clear hx hy;refine Z.y Tryz.func202 λ_ zE _ _ zF _ _ _ zA _ _ zI _ hz R hR P hP=>?_;cbv;have n1:zF true=false:=(by rw[zI];rfl);have n2:zE .lss c 1=false:=(by rw[zA];simp[AC];omega);have n3:zE .lss k 0=true:=(by rw[zA];simp[AC];omega);have n4:zE .neq 0 0=false:=by rw[zA];rfl
  repeat' (first
   | (refine Call.stepE (by rw[<- hP];exact q1) rfl ?_;cbv;simp only[n1];cbv)
   | (simp only[n2];cbv)
   | (simp only[n3];cbv)
   | (refine Call.stepE (by rw[<- hP];exact q2) rfl ?_;cbv;simp only[n4];cbv)
   | (refine Call.stepE (by rw[<- hP];exact q3) rfl ?_;cbv;simp only[n4];cbv)
   | fail)
  exact Z.r hR
 ·rw[if_neg oH] at hx hy
  have q2:=Mg Z.o mY hk ha h1 hx;have q3:=Pb Z.o mY hk hb h2 hy;clear hx hy;refine Z.y Tryz.func202 λ_ zE _ _ zF _ _ _ zA _ _ zI _ _ R hR P hP=>?_;cbv;have n1:zF true=false:=(by rw[zI];rfl);have n2:zE .lss c 1=false:=(by rw[zA];simp[AC];omega);have n3:zE .lss k 0=false:=(by rw[zA];simp[AC];omega);have n4:zE .neq 0 0=false:=by rw[zA];rfl
  repeat' (first
   | (refine Call.stepE (by rw[<- hP];exact q1) rfl ?_;cbv;simp only[n1];cbv)
   | (simp only[n2];cbv)
   | (simp only[n3];cbv)
   | (refine Call.stepE (by rw[<- hP];exact q2) rfl ?_;cbv;simp only[n4];cbv)
   | (refine Call.stepE (by rw[<- hP];exact q3) rfl ?_;cbv;simp only[n4];cbv)
   | fail)
  exact Z.r hR
theorem Pd{a b f l h:Int}(kY:a<=b)(hf:0<=f)(hl:a-f=l)(hh:b+f=h)(ha:I62 a)(hb:I62 b)(hc:I62 f):A9 Tryz.prog 146 [.agg [a,b],f] (· = .tuple [.agg [l,h],.bool true]):=by
 have r1:=Dt (a:=a) (b:=b) true (by simp[kY]);have s1:=Je hl ha hc;have s2:=Iy hh hb hc;have b1:=Kk (lo:=l) (hi:=h) Z.o;refine Z.y Tryz.func146 λ_ _ _ _ zF _ _ _ _ _ _ zI _ hz R hR P hP=>?_;cbv;have n1:zF true=false:=by rw[zI];rfl
 repeat' (first|(simp only[n1];cbv)|(refine Call.s hP r1 ?_;cbv)|(refine Call.s hP s1 ?_;cbv)|(refine Call.s hP s2 ?_;cbv)|(refine Call.s hP b1 ?_;cbv)|fail)
 exact Z.r hR
theorem PW{a b c d l h:Int}(h1:a<=b)(h2:c<=d)(hl:a-d=l)(hh:b-c=h)(ha:I62 a)(hb:I62 b)(hc:I62 c)(hd:I62 d):A9 Tryz.prog 162 [.agg [a,b],.agg [c,d]] (· = .tuple [.agg [l,h],.bool true]):=by
 have r1:=Dt (a:=a) (b:=b) true (by simp[h1]);have r2:=Dt (a:=c) (b:=d) true (by simp[h2]);have s1:=Je hl ha hd;have s2:=Je hh hb hc;have b1:=Kk (lo:=l) (hi:=h) Z.o;refine Z.y Tryz.func162 λ_ _ _ _ zF _ _ _ _ _ _ zI _ hz R hR P hP=>?_;cbv;have n1:zF true=false:=by rw[zI];rfl
 repeat' (first|(simp only[n1];cbv)|(refine Call.s hP r1 ?_;cbv)|(refine Call.s hP r2 ?_;cbv)|(refine Call.s hP s1 ?_;cbv)|(refine Call.s hP s2 ?_;cbv)|(refine Call.s hP b1 ?_;cbv)|fail)
 exact Z.r hR
theorem Ug(a:Int):A9 Tryz.prog 82 [a] (· = .agg [a,a]):=by
 refine Z.y Tryz.func82 λ_ _ _ _ _ _ _ _ _ _ _ _ _ hz R hR P hP=>?_;cbv;exact Z.r hR
theorem iW{a b c d l h:Int}(h1:a<=b)(h2:c<=d)(hl:min a c=l)(hh:max b d=h):A9 Tryz.prog 84 [.agg [a,b],.agg [c,d]] (· = .agg [l,h]):=by
 have r1:=Dt (a:=a) (b:=b) true (by simp[h1]);have r2:=Dt (a:=c) (b:=d) true (by simp[h2]);(refine A9.ofY Tryz.func84 (by kernel_rfl) (by kernel_rfl) (Z.w λ_ _ _ _ zF _ yO _ _ _ _ _ _ _ _ _ _ _ _ _ hw _ _ _ _ zI _ yS _ _ _ _ _ _ _ _ _ _ _ _ _ hz R hR=>?_));(conv=>arg 2;cbv);(generalize hP:Tryz.prog=P);cbv;have n1:zF true=false:=by rw[zI];rfl
 have m1:yO false a c=l:=by rw[yS,G5,hl]
 have m2:yO true b d=h:=by rw[yS,I1,hh]
 repeat' (first|(simp only[n1];cbv)|(refine Call.s hP r1 ?_;cbv)|(refine Call.s hP r2 ?_;cbv)|fail)
 simp only[m1,m2];exact Z.r hR
theorem iX{a w l h:Int}(h0:0<=w)(hl:a-w=l)(hh:a+w=h)(ha:I62 a)(hw:I62 w):A9 Tryz.prog 203 [a,w] (· = .tuple [.agg [l,h],.bool true]):=by
 have q1:=Pd (Int.le_refl a) h0 hl hh ha ha hw;have q2:=Ug a;refine Z.y Tryz.func203 λ_ _ _ _ _ _ _ _ _ _ _ _ _ hz R hR P hP=>?_;cbv;repeat' (first|(refine Call.s hP q1 ?_;cbv)|(refine Call.s hP q2 ?_;cbv)|fail)
 exact Z.r hR
def I7(d lo hi p:Int):Int:=flD (d-1) (if d<1 then hi else lo) p
def I8(d lo hi p:Int):Int:=clD (d+1) (if d < -1 then lo else hi) p
theorem R62.mk'{a b A B:Int}(hA:0<=A)(hB:0<=B)(h:A*B<=4611686018427387904)(a0: -A<=a)(a1:a<=A)(b0: -B<=b)(b1:b<=B):R62 a b:=by
 have key:(a*b).natAbs<=A.natAbs*B.natAbs:=by rw[Int.natAbs_mul];exact Nat.mul_le_mul Z.o Z.o
 have e:((A.natAbs*B.natAbs:Nat):Int)=A*B:=by rw[Int.natCast_mul];congr 1<;>omega
 exact⟨by omega,by omega⟩
theorem Pe{x y p:Int}(hp:0<p)(h:x<=y):x/p<=y/p:=Int.ediv_le_ediv hp h
theorem iY{d lo hi p x y:Int}(h0:0<lo)(hh:lo<=hi)(hp:0<p)(hx:x=flD (d-1) (if d-1<0 then hi else lo) p)(hy:y=flD (d+1) (if d+1<0 then hi else lo) p):min x y=I7 d lo hi p:=by
 have e1:x=I7 d lo hi p:=by rw[hx];unfold I7;congr 1;split<;>split<;>first|rfl|omega
 have h2:x<=y:=by
  rw[hx,hy];unfold flD;refine Pe hp ?_;split<;>split
  ·exact Int.mul_le_mul_of_nonneg_right Z.o Z.o
  ·exact Int.le_trans (Int.mul_nonpos_of_nonpos_of_nonneg Z.o Z.o) (Int.mul_nonneg Z.o Z.o)
  ·omega
  ·exact Int.mul_le_mul_of_nonneg_right Z.o Z.o
 omega
theorem iZ{d lo hi p x y:Int}(h0:0<lo)(hh:lo<=hi)(hp:0<p)(hx:x=clD (d-1) (if d-1<0 then lo else hi) p)(hy:y=clD (d+1) (if d+1<0 then lo else hi) p):max x y=I8 d lo hi p:=by
 have e1:y=I8 d lo hi p:=by rw[hy];unfold I8;congr 1;split<;>split<;>first|rfl|omega
 have h2:x<=y:=by
  rw[hx,hy];unfold clD;refine Int.neg_le_neg (Pe hp (Int.neg_le_neg ?_));split<;>split
  ·exact Int.mul_le_mul_of_nonneg_right Z.o Z.o
  ·exact Int.le_trans (Int.mul_nonpos_of_nonpos_of_nonneg Z.o Z.o) (Int.mul_nonneg Z.o Z.o)
  ·omega
  ·exact Int.mul_le_mul_of_nonneg_right Z.o Z.o
 omega
theorem Uh{d a b p l h:Int}(d0: -32768<=d)(d1:d<=32767)(ha:0<a)(kY:a<=b)(hb:b<=8388608)(hp:1<=p)(uA:p<=1024)(hl:l=I7 d a b p)(hh:h=I8 d a b p):A9 Tryz.prog 139 [d,.agg [a,b],p] (· = .tuple [.agg [l,h],jz 0]):=by
 obtain⟨d',ed'⟩:=Z.e (d-1);obtain⟨d2,w_⟩:=Z.e (d+1);obtain⟨x1,oO⟩:=Z.e (flD d' (if d'<0 then b else a) p);obtain⟨y1,nK⟩:=Z.e (clD d' (if d'<0 then a else b) p);obtain⟨x2,qx⟩:=Z.e (flD d2 (if d2<0 then b else a) p);obtain⟨y2,mV⟩:=Z.e (clD d2 (if d2<0 then a else b) p);have hr:∀k,-40000<=k->k<=40000->∀z,(z=a\/z=b)->R62 k z:=λk k0 k1 z hz=>R62.mk' (A:=40000) (B:=8388608) Z.d Z.d Z.d Z.o Z.o Z.o Z.o;have q1:=Uf (k:=d') (c:=p) kY hp ⟨by omega,by omega⟩ ⟨by omega,by omega⟩ ⟨by omega,by omega⟩ ⟨by omega,by omega⟩ (hr _ Z.o Z.o _ (.inl rfl)) (hr _ Z.o Z.o _ (.inr rfl)) oO nK;have q2:=Uf (k:=d2) (c:=p) kY hp ⟨by omega,by omega⟩ ⟨by omega,by omega⟩ ⟨by omega,by omega⟩ ⟨by omega,by omega⟩ (hr _ Z.o Z.o _ (.inl rfl)) (hr _ Z.o Z.o _ (.inr rfl)) qx mV
 have mO:∀k z w,(k<0->z=b/\w=a)->(¬k<0->z=a/\w=b)->flD k z p<=clD k w p:=λk z w h1 h2=>by
  refine Int.le_trans (iV Z.o) ?_;unfold clD;refine Int.neg_le_neg (Pe Z.o (Int.neg_le_neg ?_));by_cases hk:k<0
  ·rw[(h1 hk).1,(h1 hk).2]
   have:=Int.mul_le_mul_of_nonpos_left (show k<=0 by omega) kY;omega
  ·rw[(h2 hk).1,(h2 hk).2]
   exact Int.mul_le_mul_of_nonneg_left kY Z.o
 have o1:x1<=y1:=by rw[oO,nK];exact mO _ _ _ (λh=>⟨if_pos h,if_pos h⟩) (λh=>⟨if_neg h,if_neg h⟩)
 have o2:x2<=y2:=by rw[qx,mV];exact mO _ _ _ (λh=>⟨if_pos h,if_pos h⟩) (λh=>⟨if_neg h,if_neg h⟩)
 have q3:=iW (l:=l) (h:=h) o1 o2 (by rw[hl];exact iY ha kY Z.o (by rw[oO,ed']) (by rw[qx,w_])) (by rw[hh];exact iZ ha kY Z.o (by rw[nK,ed']) (by rw[mV,w_]));clear oO qx nK mV hl hh;refine Z.y Tryz.func139 λzB _ _ _ _ _ _ zC zA _ _ _ _ _ R hR P hP=>?_;cbv;have n1:=W.nlt zA d0;have n2:=W.ngt zA d1;have n3:=W.nne zA (a:=0) rfl;have a1:zB .sub .i64 d 1=d':=by rw[zC,Bj Z.o Z.o,ed']
 have a2:zB .add .i64 d 1=d2:=by rw[zC,Ag Z.o Z.o,w_]
 repeat' (first|(simp only[n1,n2,n3,a1,a2];cbv)|(refine Call.s hP q1 ?_;cbv)|(refine Call.s hP q2 ?_;cbv)|(refine Call.s hP q3 ?_;cbv)|fail)
 exact Z.r hR
def CF(r:Int):Int:=if r<0 then -r else r
def Gq(c3 c4 r:Int):Int:=c3+CF r*c4/1048576
theorem ib{r v:Int}(h:v = -r):max r v=CF r:=by unfold CF;split<;>omega
theorem PP{c3 c4 r:Int}(h3:0<=c3/\c3<=1048576)(h4:0<=c4/\c4<=65536)(hr: -2147483648<=r/\r<=2147483648):0<=Gq c3 c4 r/\Gq c3 c4 r<=135266304:=by
 unfold Gq;have ha:0<=CF r/\CF r<=2147483648:=by unfold CF;split<;>omega
 have h0:0<=CF r*c4:=Int.mul_nonneg ha.1 h4.1;have h1:CF r*c4<=2147483648*65536:=Int.mul_le_mul ha.2 h4.2 h4.1 Z.d;have h2:=Int.ediv_le_ediv (c:=1048576) Z.d h1;have h5:0<=CF r*c4/1048576:=Int.ediv_nonneg h0 Z.d;have h6:(2147483648*65536:Int)/1048576=134217728:=by decide
 omega
theorem ic(c0 c1 c2 c3 c4 c5 c6 c7 c8 c9 c10 c11 c12 c13 r e:Int)(h3:0<=c3/\c3<=1048576)(h4:0<=c4/\c4<=65536)(hr: -2147483648<=r/\r<=2147483648)(he:e=Gq c3 c4 r):A9 Tryz.prog 204 [.agg [c0,c1,c2,c3,c4,c5,c6,c7,c8,c9,c10,c11,c12,c13],r] (· = jz e):=by
 have yC:=PP h3 h4 hr;rw[<- he] at yC;obtain⟨v,ev⟩:∃v,v = -r:=⟨_,rfl⟩;obtain⟨a,ea⟩:=Z.e (CF r);obtain⟨n,en⟩:=Z.e (flD a c4 1048576);have ha:0<=a/\a<=2147483648:=by rw[ea];unfold CF;split<;>omega
 have q1:=Mg (a:=a) (b:=c4) (c:=1048576) Z.d ⟨by decide,by decide⟩ ⟨by omega,by omega⟩ ⟨by omega,by omega⟩ (R62.mk' (A:=2147483648) (B:=65536) Z.d Z.d Z.d Z.o Z.o Z.o Z.o) en;have hen:c3+n=e:=by rw[he,en,ea];rfl
 have hmx:=ib ev;rw[<- ea] at hmx;clear he en ea;(refine A9.ofY Tryz.func204 (by kernel_rfl) (by kernel_rfl) (Z.w λzB _ yN _ _ _ yO _ _ _ _ _ _ _ _ _ _ _ _ _ _ zC _ yJ _ _ _ yS _ _ _ _ _ _ _ _ _ _ _ _ _ hz R hR=>?_));(conv=>arg 2;cbv);(generalize hP:Tryz.prog=P);cbv;have a0:yN .neg .i64 r=v:=by rw[yJ,Ha Z.o Z.o,ev]
 have a1:yO true r v=a:=by rw[yS,I1,hmx]
 have a2:zB .add .i64 c3 n=e:=by rw[zC,Ag Z.o Z.o,hen]
 repeat' (first|(simp only[a0,a1,a2];cbv)|(refine Call.s hP q1 ?_;cbv)|fail)
 exact Z.r hR
theorem ig(c0 c1 c2 c3 c4 c5 c6 c7 c8 c9 c10 c11 c12 c13 r l h:Int)(h3:0<=c3/\c3<=1048576)(h4:0<=c4/\c4<=65536)(hr: -2147483648<=r/\r<=2147483648)(hl:r-Gq c3 c4 r=l)(hh:r+Gq c3 c4 r=h):A9 Tryz.prog 140 [.agg [c0,c1,c2,c3,c4,c5,c6,c7,c8,c9,c10,c11,c12,c13],r] (· = .agg [l,h]):=by
 have yC:=PP h3 h4 hr;obtain⟨e,ee⟩:=Z.e (Gq c3 c4 r);rw[<- ee] at hl hh yC;have q1:=ic c0 c1 c2 c3 c4 c5 c6 c7 c8 c9 c10 c11 c12 c13 r e h3 h4 hr ee;have q2:=iX (a:=r) (w:=e) yC.1 hl hh ⟨by omega,by omega⟩ ⟨by omega,by omega⟩;clear ee;refine Z.y Tryz.func140 λ_ _ _ _ _ _ _ _ _ _ _ _ _ hz R hR P hP=>?_;cbv;repeat' (first|(refine Call.s hP q1 ?_;cbv)|(refine Call.s hP q2 ?_;cbv)|fail)
 exact Z.r hR
theorem WV(c0 c1 c2 c3 c4 c5 c6 c7 c8 c9 c10 c11 c12 c13 m a b l h:Int)(h5:0<=c5/\c5<=1048576)(hm: -2147483648<=m/\m<=2147483648)(kY:a<=b)(ha: -1048576<=a)(hb:b<=1048576)(hl:m-b-c5=l)(hh:m-a+c5=h):A9 Tryz.prog 149 [.agg [c0,c1,c2,c3,c4,c5,c6,c7,c8,c9,c10,c11,c12,c13],m,.agg [a,b]] (· = .agg [l,h]):=by
 obtain⟨x,ex⟩:=Z.f (m-b);obtain⟨y,ey⟩:=Z.f (m-a);have q1:=Ug m;have q2:=PW (a:=m) (b:=m) (c:=a) (d:=b) (l:=x) (h:=y) Z.o kY ex ey ⟨by omega,by omega⟩ ⟨by omega,by omega⟩ ⟨by omega,by omega⟩ ⟨by omega,by omega⟩;have q3:=Pd (a:=x) (b:=y) (f:=c5) (l:=l) (h:=h) Z.o h5.1 Z.o Z.o ⟨by omega,by omega⟩ ⟨by omega,by omega⟩ ⟨by omega,by omega⟩;refine Z.y Tryz.func149 λ_ _ _ _ _ _ _ _ _ _ _ _ _ hz R hR P hP=>?_;cbv;repeat' (first|(refine AB.s hP q1 ?_;cbv)|(refine AB.s hP q2 ?_;cbv)|(refine Call.s hP q3 ?_;cbv)|fail)
 exact Z.r hR
theorem WW{a b c d l h:Int}(h1:a<=b)(h2:c<=d)(hl:a+c=l)(hh:b+d=h)(ha:I62 a)(hb:I62 b)(hc:I62 c)(hd:I62 d):A9 Tryz.prog 148 [.agg [a,b],.agg [c,d]] (· = .agg [l,h]):=by
 have q1:=MQ h1 h2 hl hh ha hb hc hd;refine Z.y Tryz.func148 λ_ _ _ _ _ _ _ _ _ _ _ _ _ hz R hR P hP=>?_;cbv;repeat' (first|(refine Call.s hP q1 ?_;cbv)|fail)
 exact Z.r hR
theorem QK(c0 c1 c2 c3 c4 c5 c6 c7 c8 c9 c10 c11 c12 c13 n:Int)(hn:n = -c6)(h6:0<=c6/\c6<=16777216):A9 Tryz.prog 38 [.agg [c0,c1,c2,c3,c4,c5,c6,c7,c8,c9,c10,c11,c12,c13]] (· = .agg [n,c6]):=by
 refine Z.y Tryz.func38 λ_ _ yN _ _ _ _ _ _ yJ _ _ _ hz R hR P hP=>?_;cbv;have a0:yN .neg .i64 c6=n:=by rw[yJ,Ha Z.o Z.o,hn]
 simp only[a0];exact Z.r hR
theorem WJ(c0 c1 c2 c3 c4 c5 c6 c7 c8 c9 c10 c11 c12 c13:Int):A9 Tryz.prog 37 [.agg [c0,c1,c2,c3,c4,c5,c6,c7,c8,c9,c10,c11,c12,c13]] (· = .agg [c1,c2]):=by
 refine Z.y Tryz.func37 λ_ _ _ _ _ _ _ _ _ _ _ _ _ hz R hR P hP=>?_;cbv;exact Z.r hR
theorem fu(c0 c1 c2 c3 c4 c5 c6 c7 c8 c9 c10 c11 c12 c13 a b l h:Int)(h6:1<=c6/\c6<=16777216)(h7:1<=c7/\c7<=1048576)(kY:a<=b)(ha: -c6<=a)(hb:b<=c6)(hl:l=max (a-c7) (-c6))(hh:h=min (b+c7) c6):A9 Tryz.prog 93 [.agg [c0,c1,c2,c3,c4,c5,c6,c7,c8,c9,c10,c11,c12,c13],.agg [a,b]] (· = .agg [l,h]):=by
 obtain⟨x,ex⟩:=Z.f (a-c7);obtain⟨y,ey⟩:=Z.f (b+c7);obtain⟨n,en⟩:∃x,x = -c6:=⟨_,rfl⟩;have q1:=Pd (a:=a) (b:=b) (f:=c7) (l:=x) (h:=y) kY Z.o ex ey ⟨by omega,by omega⟩ ⟨by omega,by omega⟩ ⟨by omega,by omega⟩;have q2:=QK c0 c1 c2 c3 c4 c5 c6 c7 c8 c9 c10 c11 c12 c13 n en ⟨by omega,h6.2⟩;have q3:=JL (a:=x) (b:=y) (c:=n) (d:=c6) (x:=l) (y:=h) Z.o Z.o Z.o;clear hl hh;refine Z.y Tryz.func93 λ_ _ _ _ _ _ _ _ _ _ _ _ _ _ R hR P hP=>?_;cbv;repeat' (first|(refine Call.s hP q1 ?_;cbv)|(refine AB.s hP q2 ?_;cbv)|(refine AB.s hP q3 ?_;cbv)|fail)
 exact Z.r hR
def Fp(n most:Int)(more:Bool):Int:=if more then min (n+1) most else 0
theorem Ui(n most v:Int)(more:Bool)(hn:0<=n/\n<=1048576)(hv:v=Fp n most more):A9 Tryz.prog 103 [n,most,more] (· = jz v):=by
 obtain⟨n1,en⟩:=Z.e (n+1);unfold Fp at hv;rw[<- en] at hv;cases more
 ·simp only[Bool.false_eq_true,if_false] at hv
  subst hv;refine Z.y Tryz.func103 λ_ _ _ _ zF _ _ _ _ _ _ zI _ hz R hR P hP=>?_;cbv;have m1:zF false=true:=(by rw[zI];rfl);repeat' (first|(simp only[m1];cbv)|fail)
  exact Z.r hR
 ·simp only[if_true] at hv
  (refine A9.ofY Tryz.func103 (by kernel_rfl) (by kernel_rfl) (Z.w λzB _ _ _ zF _ yO _ _ _ _ _ _ _ _ _ _ _ _ _ _ zC _ _ _ zI _ yS _ _ _ _ _ _ _ _ _ _ _ _ _ hz R hR=>?_));(conv=>arg 2;cbv);(generalize hP:Tryz.prog=P);cbv;have m1:zF true=false:=(by rw[zI];rfl);have a1:zB .add .i64 n 1=n1:=(by rw[zC,Ag Z.o Z.o,en]);have a2:yO false n1 most=v:=(by rw[yS,G5,hv]);repeat' (first|(simp only[m1,a1,a2];cbv)|fail)
  exact Z.r hR
structure Wt where
 si:Int
 st:Int
 fa:Bool
def wtV(c12:Int)(w:Wt)(fit:Int)(cf ov ac:Bool):Wt:=
 ⟨Fp w.si (c12+1) (decide (fit<1)),Fp w.st (c12+1) cf,ov || decide (c12<Fp w.si (c12+1) (decide (fit<1))) || decide (c12<Fp w.st (c12+1) cf) || (w.fa && !ac)⟩
theorem aL(c0 c1 c2 c3 c4 c5 c6 c7 c8 c9 c10 c11 c12 c13:Int)(w:Wt)(fit:Int)(cf ov ac:Bool)(v:Wt)(wu:1<=c12/\c12<=1000)(hsi:0<=w.si/\w.si<=1048576)(kX:0<=w.st/\w.st<=1048576)(hv:v=wtV c12 w fit cf ov ac) :
 A9 Tryz.prog 50 [.agg [w.si,w.st,w.fa],.agg [c0,c1,c2,c3,c4,c5,c6,c7,c8,c9,c10,c11,c12,c13],fit,cf,ov,ac] (· = .agg [v.si,v.st,v.fa]):=by
 obtain⟨si,st,fa⟩:=w;obtain⟨s,t,f⟩:=v;obtain⟨k,ek⟩:=Z.e (c12+1);obtain⟨b1,rX⟩:=Z.e (decide (fit<1));unfold wtV at hv;simp only[Wt.mk.injEq] at hv;rw[<- ek,<- rX] at hv;obtain⟨hs,ht,hf⟩:=hv;rw[<- hs,<- ht] at hf;have q1:=Ui si k s b1 hsi hs;have q2:=Ui st k t cf kX ht;obtain⟨b2,qM⟩:=Z.e (decide (c12<s));obtain⟨b3,xB⟩:=Z.e (decide (c12<t));rw[<- qM,<- xB] at hf;clear hs ht;refine Z.y Tryz.func50 λzB zE _ _ zF _ _ zC zA _ _ zI _ hz R hR P hP=>?_;cbv;have a1:zB .add .i64 c12 1=k:=by rw[zC,Ag Z.o Z.o,ek]
 have d1:zE .lss fit 1=b1:=by rw[zA,rX];rfl
 have d2:zE .gtr s c12=b2:=by rw[zA,qM];rfl
 have d3:zE .gtr t c12=b3:=by rw[zA,xB];rfl
 have m1:zF true=false:=by rw[zI];rfl
 have m2:zF false=true:=by rw[zI];rfl
 clear rX qM xB;repeat' (first|(simp only[a1,d1];cbv)|(refine Call.s hP q1 ?_;cbv)|(refine Call.s hP q2 ?_;cbv)|fail)
 subst hf
 cases ov<;>cases b2<;>cases b3<;>cases fa<;>cases ac<;>cbv<;>(repeat' (first|(simp only[d2,d3,m1,m2];cbv)|fail))<;>exact Z.r hR
def EB(fa on:Bool)(fit:Int)(cf:Bool):Int:=if fa then 4 else if !on then 1 else if fit<2\/cf=true then 3 else 2
theorem SV(si st:Int)(fa on:Bool)(fit:Int)(cf:Bool)(v:Int)(hv:v=EB fa on fit cf) :
 A9 Tryz.prog 106 [.agg [si,st,fa],on,fit,cf] (· = jz v):=by
 unfold EB at hv;by_cases hf:fit<2
 ·refine Z.y Tryz.func106 λ_ _ _ _ zF _ _ _ zA _ _ zI _ hz R hR P hP=>?_;cbv
  have d1:=W.lt zA hf;have m1:zF true=false:=(by rw[zI];rfl);have m2:zF false=true:=(by rw[zI];rfl);simp only[hf,true_or,if_true] at hv;subst hv
  cases fa<;>cases on<;>cases cf<;>cbv<;>(repeat' (first|(simp only[d1,m1,m2];cbv)|fail))<;>exact Z.r hR
 ·refine Z.y Tryz.func106 λ_ _ _ _ zF _ _ _ zA _ _ zI _ hz R hR P hP=>?_;cbv
  have d1:=W.nlt zA (show 2<=fit by omega);have m1:zF true=false:=(by rw[zI];rfl);have m2:zF false=true:=(by rw[zI];rfl);simp only[hf,false_or] at hv;subst hv
  cases fa<;>cases on<;>cases cf<;>cbv<;>(repeat' (first|(simp only[d1,m1,m2];cbv)|fail))<;>exact Z.r hR
def En(c9 c10 n lo hi fit:Int):Int:=if fit<1\/lo < -c10\/c10<hi then 0 else min (n+1) c9
theorem ik(c0 c1 c2 c3 c4 c5 c6 c7 c8 c9 c10 c11 c12 c13 a b:Int)(o:Bool)(kY:a<=b)(h10:0<=c10/\c10<=16777216)(ho:o=decide (¬(a < -c10\/c10<b))):A9 Tryz.prog 104 [.agg [c0,c1,c2,c3,c4,c5,c6,c7,c8,c9,c10,c11,c12,c13],.agg [a,b]] (· = .bool o):=by
 obtain⟨n,en⟩:∃x,x = -c10:=⟨_,rfl⟩;rw[<- en] at ho;have q1:=TP (a:=a) (b:=b) (c:=n) (d:=c10) o (by rw[ho,decide_eq_decide];omega);clear ho;refine Z.y Tryz.func104 λ_ _ yN _ _ _ _ _ _ yJ _ _ _ hz R hR P hP=>?_;cbv;have a0:yN .neg .i64 c10=n:=by rw[yJ,Ha Z.o Z.o,en]
 repeat' (first|(simp only[a0];cbv)|(refine Call.s hP q1 ?_;cbv)|fail)
 exact Z.r hR
theorem aM(c0 c1 c2 c3 c4 c5 c6 c7 c8 c9 c10 c11 c12 c13 n:Int)(on:Bool)(a b fit v:Int)(o:Bool)(kY:a<=b)(h9:1<=c9/\c9<=1000)(h10:0<=c10/\c10<=16777216)(hn:0<=n/\n<=1048576)(hv:v=En c9 c10 n a b fit)(ho:o=decide (c9<=v)) :
 A9 Tryz.prog 51 [.agg [n,on],.agg [c0,c1,c2,c3,c4,c5,c6,c7,c8,c9,c10,c11,c12,c13],.agg [a,b],fit] (· = .agg [v,o]):=by
 obtain⟨sl,esl⟩:=Z.e (decide (¬(a < -c10\/c10<b)));have q1:=ik c0 c1 c2 c3 c4 c5 c6 c7 c8 c9 c10 c11 c12 c13 a b sl kY h10 esl;obtain⟨n1,lK⟩:=Z.e (n+1);unfold En at hv;rw[<- lK] at hv;by_cases hz:fit<1\/a < -c10\/c10<b
 ·rw[if_pos hz] at hv
  subst hv;have ho0:o=false:=(by rw[ho];exact decide_eq_false Z.o);subst ho0;by_cases hf:fit<1
  ·clear esl lK
   refine Z.y Tryz.func51 λ_ _ _ _ _ _ _ _ zA _ _ _ _ hz R hR P hP=>?_;cbv;have d1:=W.lt zA hf;repeat' (first|(simp only[d1];cbv)|fail)
   exact Z.r hR
  ·have qG:sl=false:=by rw[esl];exact decide_eq_false Z.o
   subst qG;clear esl lK;refine Z.y Tryz.func51 λ_ _ _ _ zF _ _ _ zA _ _ zI _ hz R hR P hP=>?_;cbv;have d1:=W.nlt zA (show 1<=fit by omega);have m2:zF false=true:=(by rw[zI];rfl);repeat' (first|(simp only[d1,m2];cbv)|(refine Call.s hP q1 ?_;cbv)|fail)
   exact Z.r hR
 ·rw[if_neg hz] at hv
  have qG:sl=true:=(by rw[esl];exact decide_eq_true Z.o);subst qG;clear esl;(refine A9.ofY Tryz.func51 (by kernel_rfl) (by kernel_rfl) (Z.w λzB zE _ _ zF _ yO _ _ _ _ _ _ _ _ _ _ _ _ _ _ zC zA _ _ zI _ yS _ _ _ _ _ _ _ _ _ _ _ _ _ _ R hR=>?_));(conv=>arg 2;cbv);(generalize hP:Tryz.prog=P);cbv;have d1:=W.nlt zA (show 1<=fit by omega);have m1:zF true=false:=(by rw[zI];rfl);have a1:zB .add .i64 n 1=n1:=(by rw[zC,Ag Z.o Z.o,lK]);have a2:yO false n1 c9=v:=(by rw[yS,G5,hv]);have d2:zE .geq v c9=o:=(by rw[zA,ho];rfl);repeat' (first|(simp only[d1,m1,a1,a2,d2];cbv)|(refine Call.s hP q1 ?_;cbv)|fail)
  exact Z.r hR
def F_(c d a b p n:Int):Int×Int:=if n<2\/a<=0\/min d (clD b p (n-1))<max c (flD a p (n+1)) then (c,d) else (max c (flD a p (n+1)),min d (clD b p (n-1)))
def Ef(c d a b p n:Int):Int×Int:=if n<0 then F_ c d (-b) (-a) p (-n) else F_ c d a b p n
theorem Uj{a b p n:Int}(kY:a<=b)(h:n<2\/a<=0):A9 Tryz.prog 216 [.agg [a,b],p,n] (· = .tuple [.agg [jz 0,jz 0],.bool false]):=by
 have r1:=Dt (a:=a) (b:=b) true (by simp[kY]);by_cases h1:a<=0
 ·refine Z.y Tryz.func216 λ_ _ _ _ _ _ _ _ zA _ _ _ _ hz R hR P hP=>?_;cbv
  have d1:=W.le zA h1;repeat' (first|(simp only[d1];cbv)|fail)
  exact Z.r hR
 ·refine Z.y Tryz.func216 λ_ _ _ _ zF _ _ _ zA _ _ zI _ hz R hR P hP=>?_;cbv
  have d1:=W.nle zA (show 0<a by omega);have d2:=W.lt zA (show n<2 by omega);have m1:zF true=false:=(by rw[zI];rfl);repeat' (first|(simp only[d1,d2,m1];cbv)|(refine Call.s hP r1 ?_;cbv)|fail)
  exact Z.r hR
theorem Uk{a b p n x y:Int}(kY:a<=b)(ha:0<a)(hb:b<=140737488355328)(hp:1<=p/\p<=1024)(hn:2<=n/\n<=1099511627776)(hx:x=flD a p (n+1))(hy:y=clD b p (n-1)):A9 Tryz.prog 216 [.agg [a,b],p,n] (· = .tuple [.agg [x,y],.bool true]):=by
 have r1:=Dt (a:=a) (b:=b) true (by simp[kY]);obtain⟨n1,lK⟩:=Z.e (n+1);obtain⟨n2,pg⟩:=Z.e (n-1);rw[<- lK] at hx;rw[<- pg] at hy;have q1:=Mg (a:=a) (b:=p) (c:=n1) Z.o ⟨by omega,by omega⟩ ⟨by omega,by omega⟩ ⟨by omega,by omega⟩ (R62.mk' (A:=140737488355328) (B:=1024) Z.d Z.d Z.d Z.o Z.o Z.o Z.o) hx;have q2:=Pb (a:=b) (b:=p) (c:=n2) Z.o ⟨by omega,by omega⟩ ⟨by omega,by omega⟩ ⟨by omega,by omega⟩ (R62.mk' (A:=140737488355328) (B:=1024) Z.d Z.d Z.d Z.o Z.o Z.o Z.o) hy;clear hx hy;refine Z.y Tryz.func216 λzB _ _ _ zF _ _ zC zA _ _ zI _ hz R hR P hP=>?_;cbv;have d1:=W.nle zA (show 0<a by omega);have d2:=W.nlt zA (show 2<=n by omega);have d3:=W.eq zA (a:=0) rfl;have m1:zF true=false:=by rw[zI];rfl
 have a1:zB .add .i64 n 1=n1:=by rw[zC,Ag Z.o Z.o,lK]
 have a2:zB .sub .i64 n 1=n2:=by rw[zC,Bj Z.o Z.o,pg]
 repeat' (first|(simp only[d1,d2,d3,m1,a1,a2];cbv)|(refine Call.s hP r1 ?_;cbv)|(refine Call.s hP q1 ?_;cbv)|(refine Call.s hP q2 ?_;cbv)|fail)
 exact Z.r hR
theorem il{c d a b p n x y:Int}(kY:a<=b)(xm: -140737488355328<=a)(hb:b<=140737488355328)(hp:1<=p/\p<=1024)(hn:0<=n/\n<=1099511627776)(kz:(x,y)=F_ c d a b p n):∃o,A9 Tryz.prog 163 [.agg [c,d],.agg [a,b],p,n] (· = .tuple [.agg [x,y],.bool o]):=by
 unfold F_ at kz;by_cases h:n<2\/a<=0
 ·rw[if_pos Z.o] at kz
  obtain⟨rfl,rfl⟩:=Prod.mk.inj kz;have q1:=Uj (p:=p) kY h;refine⟨false,?_⟩;refine Z.y Tryz.func163 λ_ _ _ _ zF _ _ _ zA _ _ zI _ hz R hR P hP=>?_;cbv;have d1:=W.nlt zA hn.1;have m1:zF false=true:=(by rw[zI];rfl);repeat' (first|(simp only[d1,m1];cbv)|(refine Call.s hP q1 ?_;cbv)|fail)
  exact Z.r hR
 ·obtain⟨u,eu⟩:=Z.e (flD a p (n+1))
  obtain⟨v,ev⟩:=Z.e (clD b p (n-1));have q1:=Uk kY Z.o hb hp ⟨by omega,hn.2⟩ eu ev;rw[<- eu,<- ev] at kz;obtain⟨x1,oO⟩:=Z.f (max c u);obtain⟨y1,nK⟩:=Z.f (min d v);rw[oO,nK] at kz;clear eu ev;by_cases hm:y1<x1
  ·rw[if_pos Z.o] at kz
   obtain⟨rfl,rfl⟩:=Prod.mk.inj kz;have q2:=KD oO nK hm;refine⟨false,?_⟩;refine Z.y Tryz.func163 λ_ _ _ _ zF _ _ _ zA _ _ zI _ hz R hR P hP=>?_;cbv;have d1:=W.nlt zA hn.1;have m1:zF false=true:=(by rw[zI];rfl);have m2:zF true=false:=(by rw[zI];rfl);repeat' (first|(simp only[d1,m1,m2];cbv)|(refine Call.s hP q1 ?_;cbv)|(refine Call.s hP q2 ?_;cbv)|fail)
   exact Z.r hR
  ·rw[if_neg Z.o] at kz
   obtain⟨rfl,rfl⟩:=Prod.mk.inj kz;have q2:=JL oO nK Z.o;refine⟨true,?_⟩;refine Z.y Tryz.func163 λ_ _ _ _ zF _ _ _ zA _ _ zI _ hz R hR P hP=>?_;cbv;have d1:=W.nlt zA hn.1;have m1:zF false=true:=(by rw[zI];rfl);have m2:zF true=false:=(by rw[zI];rfl);repeat' (first|(simp only[d1,m1,m2];cbv)|(refine Call.s hP q1 ?_;cbv)|(refine Call.s hP q2 ?_;cbv)|fail)
   exact Z.r hR
theorem UZ{c d a b p n x y:Int}(kY:a<=b)(xm: -140737488355328<=a)(hb:b<=140737488355328)(hp:1<=p/\p<=1024)(hn: -1099511627776<=n/\n<=1099511627776)(kz:(x,y)=Ef c d a b p n):∃o,A9 Tryz.prog 163 [.agg [c,d],.agg [a,b],p,n] (· = .tuple [.agg [x,y],.bool o]):=by
 unfold Ef at kz;by_cases h0:n<0
 rotate_left 1
 ·rw[if_neg h0] at kz
  exact il kY xm hb hp ⟨by omega,hn.2⟩ kz
 rw[if_pos h0] at kz;obtain⟨a',ea'⟩:∃x,x = -b:=⟨_,rfl⟩;obtain⟨b',eb'⟩:∃x,x = -a:=⟨_,rfl⟩;obtain⟨n',en'⟩:∃x,x = -n:=⟨_,rfl⟩;rw[<- ea',<- eb',<- en'] at kz;have hab':a'<=b':=by omega
 have q0:=PW (a:=0) (b:=0) (c:=a) (d:=b) (l:=a') (h:=b') Z.o kY Z.o Z.o ⟨by omega,by omega⟩ ⟨by omega,by omega⟩ ⟨by omega,by omega⟩ ⟨by omega,by omega⟩;unfold F_ at kz;by_cases h:n'<2\/a'<=0
 ·rw[if_pos Z.o] at kz
  obtain⟨rfl,rfl⟩:=Prod.mk.inj kz;have q1:=Uj (p:=p) hab' h;refine⟨false,?_⟩;refine Z.y Tryz.func163 λ_ _ yN _ zF _ _ _ zA yJ _ zI _ hz R hR P hP=>?_;cbv;have d1:=W.lt zA h0;have d2:=W.gt zA (show -4611686018427387904<n by omega);have m1:zF false=true:=(by rw[zI];rfl);have m2:zF true=false:=(by rw[zI];rfl);have a0:yN .neg .i64 n=n':=(by rw[yJ,Ha Z.o Z.o,en']);repeat' (first|(simp only[d1,d2,m1,m2,a0];cbv)|(refine Call.s hP q0 ?_;cbv)|(refine Call.s hP q1 ?_;cbv)|fail)
  exact Z.r hR
 ·obtain⟨u,eu⟩:=Z.e (flD a' p (n'+1))
  obtain⟨v,ev⟩:=Z.e (clD b' p (n'-1));have q1:=Uk hab' Z.o Z.o hp ⟨by omega,by omega⟩ eu ev;rw[<- eu,<- ev] at kz;obtain⟨x1,oO⟩:=Z.f (max c u);obtain⟨y1,nK⟩:=Z.f (min d v);rw[oO,nK] at kz;clear eu ev;by_cases hm:y1<x1
  ·rw[if_pos Z.o] at kz
   obtain⟨rfl,rfl⟩:=Prod.mk.inj kz;have q2:=KD oO nK hm;refine⟨false,?_⟩;refine Z.y Tryz.func163 λ_ _ yN _ zF _ _ _ zA yJ _ zI _ hz R hR P hP=>?_;cbv;have d1:=W.lt zA h0;have d2:=W.gt zA (show -4611686018427387904<n by omega);have m1:zF false=true:=(by rw[zI];rfl);have m2:zF true=false:=(by rw[zI];rfl);have a0:yN .neg .i64 n=n':=(by rw[yJ,Ha Z.o Z.o,en']);repeat' (first|(simp only[d1,d2,m1,m2,a0];cbv)|(refine Call.s hP q0 ?_;cbv)|(refine Call.s hP q1 ?_;cbv)|(refine Call.s hP q2 ?_;cbv)|fail)
   exact Z.r hR
  ·rw[if_neg Z.o] at kz
   obtain⟨rfl,rfl⟩:=Prod.mk.inj kz;have q2:=JL oO nK Z.o;refine⟨true,?_⟩;refine Z.y Tryz.func163 λ_ _ yN _ zF _ _ _ zA yJ _ zI _ _ R hR P hP=>?_;cbv;have d1:=W.lt zA h0;have d2:=W.gt zA (show -4611686018427387904<n by omega);have m1:zF false=true:=(by rw[zI];rfl);have m2:zF true=false:=(by rw[zI];rfl);have a0:yN .neg .i64 n=n':=(by rw[yJ,Ha Z.o Z.o,en']);repeat' (first|(simp only[d1,d2,m1,m2,a0];cbv)|(refine Call.s hP q0 ?_;cbv)|(refine Call.s hP q1 ?_;cbv)|(refine Call.s hP q2 ?_;cbv)|fail)
   exact Z.r hR
structure Ct where
 kn:Bool
 la:Int
 su:Int
def Gd(a b:Int):Int:=(b-a+32768)%65536-32768
theorem iw(n:Int):IntKind.i16.wrap n=(n+32768)%65536-32768:=by
 simp[IntKind.wrap,IntKind.bits,IntKind.signed];split<;>omega
theorem iy(a b d:Int)(hd:d=Gd a b):A9 Tryz.prog 201 [.int .u16 a,.int .u16 b] (· = jz d):=by
 have h1:IntKind.i64.wrap (IntKind.i16.wrap (IntKind.u16.wrap (b-a)))=d:=by
  rw[hd,IntKind.wrap_u16,iw,IntKind.wrap_i64];unfold Gd;omega
 clear hd;refine Z.y Tryz.func201 λ_ _ _ _ _ _ _ zC _ _ zG _ _ hz R hR P hP=>?_;cbv;refine⟨_,Vw.same rfl,hR _ (congrArg (AV.int .i64) ?_)⟩;rw[zG,zC];exact h1
def pnV(c:Ct)(v:Int)(has:Bool):Ct×Int×Bool:=
 if has=false then (⟨false,c.la,c.su⟩,0,false) else if c.kn=false then (⟨true,v,c.su⟩,0,false) else (⟨true,v,c.su+Gd c.la v⟩,Gd c.la v,true)
theorem Ul(c:Ct)(v:Int)(has:Bool)(hv:has=true->0<=v/\v<=65535)(hs: -1099511627776<=c.su/\c.su<=1099511627776)(k:Ct)(d:Int)(o:Bool)(h:(k,d,o)=pnV c v has) :
 A9 Tryz.prog 138 [.agg [c.kn,.int .u16 c.la,c.su],v,has] (· = .tuple [.agg [k.kn,.int .u16 k.la,k.su],d,o]):=by
 obtain⟨kn,la,su⟩:=c;obtain⟨kk,kl,ks⟩:=k;unfold pnV at h;simp only at h hs
 cases has with
 | false =>
   rw[if_pos rfl] at h;simp only[Prod.mk.injEq,Ct.mk.injEq] at h;obtain⟨⟨rfl,rfl,rfl⟩,rfl,rfl⟩:=h;refine Z.y Tryz.func138 λ_ _ _ _ zF _ _ _ _ _ _ zI _ hz R hR P hP=>?_;cbv;have m1:zF false=true:=(by rw[zI];rfl);repeat' (first|(simp only[m1];cbv)|fail)
   exact Z.r hR
 | true =>
   rw[if_neg Z.d] at h;have hv:=hv rfl;have w1:IntKind.u16.wrap v=v:=by rw[IntKind.wrap_u16];omega
   cases kn with
   | false =>
     rw[if_pos rfl] at h;simp only[Prod.mk.injEq,Ct.mk.injEq] at h;obtain⟨⟨rfl,rfl,rfl⟩,rfl,rfl⟩:=h;refine Z.y Tryz.func138 λ_ _ _ zD zF _ _ _ _ _ zG zI _ hz R hR P hP=>?_;cbv;have m1:zF true=false:=(by rw[zI];rfl);have m2:zF false=true:=(by rw[zI];rfl);have v1:zD .u16 kl=kl:=(by rw[zG];exact w1);repeat' (first|(simp only[m1,m2,v1];cbv)|fail)
     exact Z.r hR
   | true =>
     rw[if_neg Z.d] at h;simp only[Prod.mk.injEq,Ct.mk.injEq] at h;obtain⟨⟨rfl,rfl,h1⟩,h2,rfl⟩:=h;have hd: -32768<=d/\d<=32767:=(by rw[h2];unfold Gd;omega);rw[<- h2] at h1;have q1:=iy la kl d h2;have q2:=TN (a:=su) (b:=d) (d:=ks) h1.symm ⟨by omega,by omega⟩ ⟨by omega,by omega⟩;clear h1 h2;refine Z.y Tryz.func138 λ_ _ _ zD zF _ _ _ _ _ zG zI _ _ R hR P hP=>?_;cbv;have m1:zF true=false:=(by rw[zI];rfl);have v1:zD .u16 kl=kl:=(by rw[zG];exact w1);repeat' (first|(simp only[m1,v1];cbv)|(refine Call.s hP q1 ?_;cbv)|(refine Call.s hP q2 ?_;cbv)|fail)
     exact Z.r hR
def crS(s:BitVec 16):BitVec 16:=(s <<< 1) ^^^ (if s.msb then 4129#16 else 0#16)
def crN:Nat->BitVec 16->BitVec 16
 | 0,s=>s
 | n+1,s=>crN n (crS s)
def crB(s:BitVec 16)(b:BitVec 16):BitVec 16:=crN 8 (s ^^^ (b <<< 8))
def crL(s:BitVec 16)(l:List (BitVec 16)):BitVec 16:=l.foldl crB s
theorem i_(a b:BitVec 16)(n:Nat):(a ^^^ b) <<< n=(a <<< n) ^^^ (b <<< n):=by
 apply BitVec.eq_of_getElem_eq;intro i hi;simp only[BitVec.getElem_shiftLeft,BitVec.getElem_xor];by_cases h:i<n
 ·simp[h]
 ·simp[h]
theorem Um(a b:BitVec 16):crS (a ^^^ b)=crS a ^^^ crS b:=by
 unfold crS;rw[i_,BitVec.msb_xor]
 cases a.msb<;>cases b.msb<;>simp
 ·ac_rfl
 ·ac_rfl
 ·rw[show (a <<< 1 ^^^ 4129#16) ^^^ (b <<< 1 ^^^ 4129#16)=(a <<< 1 ^^^ b <<< 1) ^^^ (4129#16 ^^^ 4129#16) by ac_rfl]
  simp
theorem Ku:∀(n:Nat) (a b:BitVec 16),crN n (a ^^^ b)=crN n a ^^^ crN n b
 | 0,a,b=>rfl
 | n+1,a,b=>by simp only[crN];rw[Um,Ku n]
theorem Jw:∀(m n:Nat) (a:BitVec 16),crN (m+n) a=crN n (crN m a)
 | 0,n,a=>by rw[Nat.zero_add];rfl
 | m+1,n,a=>by rw[show m+1+n=(m+n)+1 by omega];simp only[crN];rw[Jw m n]
theorem Uo{a:BitVec 16}(h:a.toNat<32768):crS a=a <<< 1:=by
 unfold crS;have:a.msb=false:=by rw[BitVec.msb_eq_decide];simp;omega
 rw[this];simp
theorem Kw:∀(n:Nat) (a:BitVec 16),a.toNat*2 ^ n<=65535->crN n a=a <<< n
 | 0,a,h=>by simp[crN]
 | n+1,a,h=>by
   have h1:a.toNat*2<=65535:=Nat.le_trans (Nat.mul_le_mul_left _ (by rw[Nat.pow_succ];have:=Nat.one_le_two_pow (n:=n);omega)) h;have h2:(a <<< 1).toNat=a.toNat*2:=(by rw[BitVec.toNat_shiftLeft,Nat.shiftLeft_eq];omega);simp only[crN];rw[Uo Z.o,Kw n _ (by rw[h2,Nat.mul_assoc,<- Nat.pow_succ'];exact h),<- BitVec.shiftLeft_add,Nat.add_comm]
theorem j3(s:BitVec 16):crB (crB s (s >>> 8)) (s &&& 255#16)=0#16:=by
 have h1:s ^^^ (s >>> 8) <<< 8=s &&& 255#16:=by
  apply BitVec.eq_of_getElem_eq;intro i hi;simp only[BitVec.getElem_xor,BitVec.getElem_shiftLeft,BitVec.getElem_and,BitVec.getElem_ushiftRight];by_cases h:i<8
  ·have:(255#16)[i]=true:=by
    have:i=0\/i=1\/i=2\/i=3\/i=4\/i=5\/i=6\/i=7:=(by omega);rcases this with h|h|h|h|h|h|h|h<;>subst h<;>simp
   simp[h,this]
  ·have:(255#16)[i]=false:=by
    have:i=8\/i=9\/i=10\/i=11\/i=12\/i=13\/i=14\/i=15:=(by omega);rcases this with h|h|h|h|h|h|h|h<;>subst h<;>simp
   simp[h,this,BitVec.getLsbD,BitVec.getElem_eq_testBit_toNat,show 8+(i-8)=i by omega]
 have h2:(s &&& 255#16).toNat<=255:=by rw[BitVec.toNat_and];exact Nat.and_le_right
 unfold crB;have e:=Kw 8 (s &&& 255#16) Z.o;rw[h1,e,BitVec.xor_self];exact(Kw 8 0#16 (by simp)).trans (by simp)
def crI(s:BitVec 16)(t:Bool):BitVec 16:=crS s ^^^ (if t then 1#16 else 0#16)
def CL(s:BitVec 16)(l:List Bool):BitVec 16:=l.foldl crI s
theorem Pf:∀(l m:List Bool) (a b:BitVec 16),l.length=m.length->CL (a ^^^ b) (List.zipWith (λx y=>x ^^ y) l m)=CL a l ^^^ CL b m
 | [],[],a,b,_=>rfl
 | x::l,y::m,a,b,h=>by
   simp only[List.zipWith_cons_cons,CL,List.foldl_cons]
   have e:crI (a ^^^ b) (x ^^ y)=crI a x ^^^ crI b y:=by
    unfold crI;rw[Um]
    cases x<;>cases y<;>simp
    ·ac_rfl
    ·ac_rfl
    ·rw[show (crS a ^^^ 1#16) ^^^ (crS b ^^^ 1#16)=(crS a ^^^ crS b) ^^^ (1#16 ^^^ 1#16) by ac_rfl];simp
   rw[e];exact Pf l m _ _ (by simpa using h)
theorem Mh:∀(n:Nat) (a:BitVec 16),CL a (List.replicate n false)=crN n a
 | 0,a=>rfl
 | n+1,a=>by
   rw[List.replicate_succ];simp only[CL,List.foldl_cons,crN];rw[show crI a false=crS a by simp[crI]];exact Mh n _
theorem Ky(a:BitVec 16)(l m:List Bool):CL a (l++m)=CL (CL a l) m:=List.foldl_append
def DL(b:BitVec 16):List Bool:=(List.range 8).map λi=>b.getLsbD (7-i)
theorem j4(a b:BitVec 16)(hb:b.toNat<256):CL a (DL b)=crN 8 a ^^^ b:=by
 have h0:CL (a ^^^ 0#16) (List.zipWith (λx y=>x ^^ y) (List.replicate 8 false) (DL b))=CL a (List.replicate 8 false) ^^^ CL 0#16 (DL b):=Pf _ _ _ _ (by simp[DL])
 have h1:List.zipWith (λx y=>x ^^ y) (List.replicate 8 false) (DL b)=DL b:=by
  simp[DL,List.range,List.range.loop]
 rw[h1,Mh,BitVec.xor_zero] at h0;rw[h0];congr 1
 -- from nothing on no digit is lost
 have key:∀(k:Nat),k<=8->CL 0#16 ((List.range k).map λi=>b.getLsbD (7-i))=b >>> (8-k):=by
  intro k
  induction k with
  | zero =>
    intro _;show 0#16=b >>> 8;apply BitVec.eq_of_toNat_eq;rw[BitVec.toNat_ushiftRight,Nat.shiftRight_eq_div_pow];simp;omega
  | succ k ih =>
    intro hk;rw[List.range_succ,List.map_append,Ky,ih Z.o];show crI (b >>> (8-k)) (b.getLsbD (7-k))=_;unfold crI
    have hs:(b >>> (8-k)).toNat<32768:=by
     rw[BitVec.toNat_ushiftRight,Nat.shiftRight_eq_div_pow];exact Nat.lt_of_le_of_lt (Nat.div_le_self _ _) Z.o
    rw[Uo hs];apply BitVec.eq_of_getLsbD_eq;intro i hi
    have e1:(if b.getLsbD (7-k)=true then 1#16 else 0#16).getLsbD i=(decide (i=0) && b.getLsbD (7-k)):=by
     cases b.getLsbD (7-k)<;>simp[BitVec.getLsbD_one]
    rw[BitVec.getLsbD_xor,e1,BitVec.getLsbD_shiftLeft,BitVec.getLsbD_ushiftRight,BitVec.getLsbD_ushiftRight];by_cases h:i=0
    ·subst h;simp[show 8-(k+1)=7-k by omega]
    ·have h2:8-k+(i-1)=8-(k+1)+i:=by omega
     simp[h,hi,show ¬i<1 by omega,h2]
 have:=key 8 (Nat.le_refl _);simpa[DL] using this
def F9(l:List (BitVec 16)):List Bool:=l.flatMap DL
theorem Kz(l:List (BitVec 16)):(F9 l).length=8*l.length:=by
 unfold F9
 induction l with
 | nil=>rfl
 | cons b l ih=>rw[List.flatMap_cons,List.length_append,ih];simp[DL];omega
theorem Uq:∀(l:List (BitVec 16)) (a:BitVec 16),(∀b,b∈l->b.toNat<256)->crN 16 (CL a (F9 l))=crL (crN 16 a) l
 | [],a,_=>rfl
 | b::l,a,h=>by
   have hb:=h b (by simp);unfold F9;rw[List.flatMap_cons,Ky];have ih:=Uq l (CL a (DL b)) λx hx=>h x (by simp[hx]);unfold F9 at ih;rw[ih];show crL (crN 16 (CL a (DL b))) l=crL (crB (crN 16 a) b) l;congr 1
   rw[j4 a b hb];unfold crB;rw[Ku,Ku,<- Jw,<- Jw,<- Kw 8 b Z.o,<- Jw]
theorem Pg:∀(l:List (BitVec 16)) (a:BitVec 16),crL a l=crL 0#16 l ^^^ crN (8*l.length) a
 | [],a=>by simp[crL,crN]
 | b::l,a=>by
   show crL (crB a b) l=crL (crB 0#16 b) l ^^^ _;rw[Pg l (crB a b),Pg l (crB 0#16 b)]
   have:crB a b=crB 0#16 b ^^^ crN 8 a:=by
    unfold crB;rw[BitVec.zero_xor,Ku,BitVec.xor_comm]
   rw[this,Ku,<- Jw,show 8*(b::l).length=8+8*l.length by simp;omega];ac_rfl
theorem j5(l:List (BitVec 16))(h:∀b,b∈l->b.toNat<256) :
 CL 0#16 (List.zipWith (λx y=>x ^^ y) (F9 l++List.replicate 16 false) (List.replicate 16 true++List.replicate (8*l.length) false))=crL 65535#16 l:=by
 have h1:=Pf (F9 l++List.replicate 16 false) (List.replicate 16 true++List.replicate (8*l.length) false) 0#16 0#16 (by rw[List.length_append,List.length_append,Kz,List.length_replicate,List.length_replicate,List.length_replicate];omega);rw[BitVec.xor_self] at h1;rw[h1,Ky,Mh,Uq l _ h,Ky,Mh,Pg l 65535#16];have h2:crN 16 0#16=0#16:=by rw[Kw 16 _ (by simp)];simp
 have h3:CL 0#16 (List.replicate 16 true)=65535#16:=by
  show crI _ _=_;rfl
 rw[h2,h3]
end Go.Proofs.YtlchlddijclhjaaGreat
