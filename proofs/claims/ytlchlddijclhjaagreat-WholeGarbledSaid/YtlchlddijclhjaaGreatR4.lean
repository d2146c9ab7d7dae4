/- Parts of the proofs. -/
import Derived.Test.YtlchlddijclhjaaGreatR3
set_option linter.unusedVariables false
set_option linter.unusedSimpArgs false
namespace Go.Eng
open Go Go.RowKit
theorem Rel.reserve{C:Cfg}(R:Rel C)(h':A7)(hh:∀(s:Nat) (x:Ai),x ≠ .free->(h'[s]?=some x↔C.h[s]?=some x))(n:Nat):Rel { C with h:=h' }/\Ext n C { C with h:=h' }:=by
 have kR:∀k,Cfg.live { C with h:=h' } k↔C.live k:=by
  intro k;constructor
  ·rintro⟨z,es,hx⟩;exact⟨z,es,(hh k _ (by simp)).1 hx⟩
  ·rintro⟨z,es,hx⟩;exact⟨z,es,(hh k _ (by simp)).2 hx⟩
 have he:∀n,Ext n C { C with h:=h' }:=λn=>⟨rfl,rfl,rfl,rfl,Nat.le_refl _,λs _ ⟨x,hx,hf⟩=>⟨⟨x,(hh s x hf).2 hx,hf⟩,rfl⟩,λb hb ho=>⟨rfl,λ⟨s,hs,hr⟩=>ho ⟨s,(kR s).1 hs,hr⟩⟩,λb x hx=>hx⟩;exact⟨R.of_ext (he _) (λs z es hl=>.inl ⟨(hh s _ (by simp)).1 hl,rfl,rfl⟩) (λs t hs ht hr=>R.inj s t ((kR s).1 hs) ((kR t).1 ht) hr),he n⟩
theorem Mj{dst:Nat->Option Nat}{val:Nat->AV}{g:Nat->AV}{t:Nat}:∀n,cur dst val (λ_=>false) g n t=g t
 | 0=>rfl
 | n+1=>by rw[cur,if_neg (by simp)];exact Mj n
theorem Pk(n:Nat):Ej (λ_=>false) n=n:=by
 induction n with
 | zero=>rfl
 | succ n ih=>simp[Ej,ih]
def J_(P:Program)(K:AA->A7->Prop)(h:A7)(tl:List Ad):AA->A7->Prop:=λa news=>Ck P K tl a (h++news)
def Bf(o:Oper):List Nat:=(o.after.toList.filter (Region.binds .any)).map (·.on)
def Pm(l:List (Nat×List Nat)):Nat->List Nat->List Nat
 | 0,done=>done
 | f+1,done=>match l.find? (λx=> !done.contains x.1 && x.2.all done.contains) with
   | some x=>Pm l f (done++[x.1])
   | none=>done
def Mm:Nat->List Oper->Bool
 | _,[]=>true
 | i,o::l=>(Bf o).all (λe=>decide (e<i)) && Mm (i+1) l
def Pn:Nat->List Oper->List (Nat×List Nat)
 | _,[]=>[]
 | i,o::l=>(i,Bf o)::Pn (i+1) l
def Mo(l:List Oper):List Nat:=Pm (Pn 0 l) l.length []
def De(p:List Nat)(i:Nat):Nat:=p.idxOf i
def G9(p:List Nat)(o:Oper):Oper:={ o with after:=o.after.map λe=>{ e with on:=De p e.on } }
def DN(p:List Nat)(l:List Oper):List Oper:=p.map λi=>match l[i]? with|some o=>G9 p o|none=>default
def CO(l:List Oper):List Oper:=if Mm 0 l then l else DN (Mo l) l
def K_(p:List Nat)(l:List Oper):Bool:=
 p.length == l.length && (List.range l.length).all (λi=>decide (p.getD i 0<l.length) && decide (De p i<l.length) && De p (p.getD i 0) == i && p.getD (De p i) 0 == i) &&
 l.all (λo=>o.guard.isNone && o.after.all (λe=>decide (e.on<l.length)))
def Mq(l:List Oper):Bool:=Mm 0 l || K_ (Mo l) l
theorem V3{P:Program}{p:List Nat}{o:Oper}{a:Act}{w:World}{K:Act->World->Prop}{Q:Exit->Act->World->Prop}:(G9 p o).wp P a w K Q=o.wp P a w K Q:=rfl
theorem V4{P:Program}{p:List Nat}{o:Oper}{a:Act}{w:World}:(G9 p o).asks P a w=o.asks P a w:=rfl
theorem V5{p:List Nat}{o:Oper}:(G9 p o).guard=o.guard:=rfl
theorem V6{P:Program}{p:List Nat}{l:List Oper}{Q:Exit->Act->World->Prop}(hp:K_ p l=true):∀(f:Nat) (listed listed':Array Bool) (a:Act) (w:World),listed.size=l.length->listed'.size=l.length->(∀i,i<l.length->listed'.getD i false=listed.getD (p.getD i 0) false) ->
 wpAny P .any (DN p l).toArray Q f listed' a w->wpAny P .any l.toArray Q f listed a w:=by
 simp only[K_,Bool.and_eq_true,beq_iff_eq,List.all_eq_true,List.mem_range,decide_eq_true_eq] at hp;obtain⟨⟨zH,wR⟩,hops⟩:=hp
 have hro:∀k,k<l.length->∃o,l[p.getD k 0]?=some o/\(DN p l)[k]?=some (G9 p o):=by
  intro k hk;have h1:=(wR k hk).1.1.1;refine⟨l[p.getD k 0],List.getElem?_eq_getElem h1,?_⟩;have hk':k<p.length:=(by omega);have e:p.getD k 0=p[k]:=by rw[List.getD_eq_getElem?_getD,List.getElem?_eq_getElem hk'];rfl
  have e2:(DN p l)[k]?=some (match l[p[k]]? with|some o=>G9 p o|none=>default):=by
   unfold DN;rw[List.getElem?_map,List.getElem?_eq_getElem hk'];rfl
  rw[e2];have h2:p[k]<l.length:=(by rw[<- e];exact h1);rw[List.getElem?_eq_getElem h2];simp only[e]
 have hsz:(DN p l).length=l.length:=by simp[DN,zH]
 -- those that are ready are the same ones
 have pI:∀(listed listed':Array Bool),listed.size=l.length->listed'.size=l.length->(∀i,i<l.length->listed'.getD i false=listed.getD (p.getD i 0) false)->∀k,k<l.length->(k∈Region.ready .any (DN p l).toArray listed'↔p.getD k 0∈Region.ready .any l.toArray listed):=by
  intro listed listed' s1 s2 lS k hk;obtain⟨o,ho,ho'⟩:=hro k hk;have hpk:=(wR k hk).1.1.1;have uC:o∈l:=List.mem_of_getElem? ho;have lV:=hops o uC
  have yJ:listed'.getD k true=false↔listed.getD (p.getD k 0) true=false:=by
   have e:=lS k hk;constructor
   ·intro h;exact getD_in (by omega) (by rw[<- e];exact getD_both h)
   ·intro h;exact getD_in (by omega) (by rw[e];exact getD_both h)
  have hlst:∀e:Edge,e∈o.after->(listed'.getD (De p e.on) false=listed.getD e.on false):=by
   intro e he;have h1:=Array.all_eq_true_iff_forall_mem.1 lV.2 e he;have h2:e.on<l.length:=(by simpa using h1);have h3:=wR e.on h2;rw[lS _ h3.1.1.2,h3.2]
  rw[mem_ready,mem_ready,yJ];constructor
  ·rintro⟨h1,o',h2,h3⟩
   refine⟨h1,o,by simpa using ho,λe he hb=>?_⟩
   have:o'=G9 p o:=by
    have:(DN p l)[k]?=some o':=(by simpa using h2);rw[ho'] at this;exact(Option.some.inj this).symm
   subst this;have:=h3 { e with on:=De p e.on } (Array.mem_map.2 ⟨e,he,rfl⟩) hb;rw[<- hlst e he];exact this
  ·rintro⟨h1,o',h2,h3⟩
   have:o'=o:=by
    have:l[p.getD k 0]?=some o':=(by simpa using h2);rw[ho] at this;exact(Option.some.inj this).symm
   subst this;refine⟨h1,G9 p o',by simpa using ho',λe he hb=>?_⟩;obtain⟨e0,qK,rfl⟩:=Array.mem_map.1 he;have:=h3 e0 qK hb;show listed'.getD (De p e0.on) false=true;rw[hlst e0 qK];exact this
 have rY:∀(ops:List Oper) (listed:Array Bool) (i:Nat),i∈Region.ready .any ops.toArray listed->i<ops.length:=by
  intro ops listed i hi;obtain⟨_,o,ho,_⟩:=mem_ready.1 hi;have:=(Array.getElem?_eq_some_iff.1 ho).1;simpa using this
 have qX:∀(listed listed':Array Bool),listed.size=l.length->listed'.size=l.length->(∀i,i<l.length->listed'.getD i false=listed.getD (p.getD i 0) false)->(Region.ready .any (DN p l).toArray listed'=[]↔Region.ready .any l.toArray listed=[]):=by
  intro listed listed' s1 s2 lS;constructor
  ·intro h
   cases hr:Region.ready .any l.toArray listed with
   | nil=>rfl
   | cons x xs =>
     exfalso;have hx:x∈Region.ready .any l.toArray listed:=(by rw[hr];simp);have uR:=rY _ _ _ hx;have h3:=wR x uR;have:=(pI listed listed' s1 s2 lS (De p x) h3.1.1.2).2 (by rw[h3.2];exact hx);rw[h] at this;cases this
  ·intro h
   cases hr:Region.ready .any (DN p l).toArray listed' with
   | nil=>rfl
   | cons x xs =>
     exfalso;have hx:x∈Region.ready .any (DN p l).toArray listed':=(by rw[hr];simp);have uR:=rY _ _ _ hx;have:=(pI listed listed' s1 s2 lS x (by omega)).1 hx;rw[h] at this;cases this
 intro f
 induction f with
 | zero =>
   intro listed listed' a w s1 s2 lS h;exact⟨(qX listed listed' s1 s2 lS).1 h.1,h.2⟩
 | succ f ih =>
   intro listed listed' a w s1 s2 lS h;refine⟨λhn=>h.1 ((qX listed listed' s1 s2 lS).2 hn),λi hi=>?_⟩;have mD:=rY _ _ _ hi;have h3:=wR i mD;have hk:=(pI listed listed' s1 s2 lS (De p i) h3.1.1.2).2 (by rw[h3.2];exact hi);have hw:=h.2 (De p i) hk;obtain⟨o,ho,ho'⟩:=hro (De p i) h3.1.1.2;rw[h3.2] at ho
   have hg:o.guard=none:=by
    have:=(hops o (List.mem_of_getElem? ho)).1;simpa using this
   have hnext:∀a w,wpAny P .any (DN p l).toArray Q f (listed'.setIfInBounds (De p i) true) a w->wpAny P .any l.toArray Q f (listed.setIfInBounds i true) a w:=by
    intro a w;refine ih _ _ a w (by simp[s1]) (by simp[s2]) λj hj=>?_;have hj3:=wR j hj;by_cases uD:j=De p i
    ·subst uD
     rw[h3.2];have e1:De p i<listed'.size:=by have:=h3.1.1.2;omega
     have e2:i<listed.size:=(by omega);simp[e1,e2]
    ·have kv:p.getD j 0≠i:=λe=>uD (by rw[<- e];exact hj3.1.2.symm)
     rw[getD_set_ne false (Ne.symm uD),getD_set_ne false (Ne.symm kv)];exact lS j hj
   unfold wpOp at hw ⊢;have qB:l.toArray[i]?=some o:=(by simpa using ho);have ho2':(DN p l).toArray[De p i]?=some (G9 p o):=(by simpa using ho');rw[ho2'] at hw;rw[qB];simp only[Region.wanted,hg,V5,if_true] at hw ⊢;rw[V3,V4] at hw;exact hw.imp (Oper.wp_mono hnext) id
theorem Po{P:Program}{l:List Oper}(h:Mq l=true)(Q:Exit->Act->World->Prop)(a:Act)(w:World)(H:wpAny P .any (CO l).toArray Q (CO l).length (Array.replicate (CO l).length false) a w) :
 wpAny P .any l.toArray Q l.length (Array.replicate l.length false) a w:=by
 unfold Mq at h;unfold CO at H;split at H
 ·exact H
 ·rename_i hn
  simp only[hn,Bool.false_or] at h
  have zH:(DN (Mo l) l).length=l.length:=by
   have:=h;simp only[K_,Bool.and_eq_true,beq_iff_eq] at this;simp[DN,this.1.1]
  rw[zH] at H;refine V6 h l.length _ _ a w (by simp) (by simp) (λi hi=>?_) H;rw[getD_replicate_false,getD_replicate_false]
theorem AWp.draw0{P:Program}{n:Nat}{Q:Aq}{a:AA}{h:A7}{id:Nat}{l0:List Oper}{hd tl:List Ad}{ops:Array Oper}(mP:∀Q a w,wpAny P .any l0.toArray Q l0.length (Array.replicate l0.length false) a w->wpAny P .any ops Q ops.size (Array.replicate ops.size false) a w)(hm:P.follows .mixedOrders=true)(hB:Gu l0 hd=true)
 (mY:Aw P l0 (l0.take hd.length)=some hd) (lT:Aw P l0 (l0.drop hd.length)=some tl) (hQp:∀c a h,¬Q (.panic c) a h) (H:Df P h (J_ P (Q .normal) h tl) hd a []):AWp P n (.region id ops true) Q a h:=by
 intro C act hC S hn;obtain⟨rs,a',news',hch,hK⟩:=K3 mY H;obtain⟨c1,c2,c3,c4,c5,c6⟩:=hch.at
 obtain⟨b1,b2,b3,b4⟩:=Mr hB;have nR:hd.length<=l0.length:=by rcases b3 with h|h<;>omega
 simp only[List.nil_append] at c5;refine wp_region_any hm (mP _ _ _ ?_);obtain⟨R1,E1⟩:=S.rel.sameHeap (w:={ C.w with drawn:=C.w.drawn+1 }) rfl rfl rfl rfl C.h.length
 have pR:∀(s:Nat) (x:Ai),x≠Ai.free->((C.h++List.replicate (rs.map (·.2)).flatten.length .free)[s]?=some x↔C.h[s]?=some x):=by
  intro s x hx;by_cases hs:s<C.h.length
  ·rw[List.getElem?_append_left hs]
  ·rw[List.getElem?_append_right (by omega),List.getElem?_eq_none (show C.h.length<=s by omega),List.getElem?_replicate]
   constructor
   ·intro hh
    split at hh
    ·cases hh;exact absurd rfl hx
    ·cases hh
   ·intro hh;cases hh
 obtain⟨R2,E2⟩:=R1.reserve (C.h++List.replicate (rs.map (·.2)).flatten.length .free) pR C.h.length;have E12:=E1.trans E2;generalize hC1:({ C with w:={ C.w with drawn:=C.w.drawn+1 },h:=C.h++List.replicate (rs.map (·.2)).flatten.length .free }:Cfg)=C1 at R2 E2 E12;have pU:C1.h=C.h++List.replicate (rs.map (·.2)).flatten.length .free:=by rw[<- hC1]
 have hC1w:C1.w={ C.w with drawn:=C.w.drawn+1 }:=by rw[<- hC1]
 have I0:L6 C.h hd rs a (λi=>(Array.replicate l0.length false).getD i false) C1 act:=by
  have hS:(λi=>(Array.replicate l0.length false).getD i false)=λ_=>false:=(by funext i;exact getD_replicate_false _ _);rw[hS];refine⟨R2,S.nodef,S.vrs.1,by rw[pU];simp,λk hk=>by rw[pU,List.getElem?_append_left hk],λi x hx=>?_,λt ht=>?_⟩
  ·have:=K4 hx
   have kS:=(List.getElem?_eq_some_iff.1 this).1;rw[pU,List.getElem?_append_right (by omega),List.getElem?_replicate,if_pos (by omega)];simp
  ·rw[Mj]
   exact E12.vr' (S.vrs.get t)
 have main:=Pp (Q:=Dv n C Q) hch (λi hi=>by rw[List.getElem?_take,if_pos hi]) hB (λc a w ⟨a',D,h1,_⟩=>hQp c a' D.h h1) C1 (by rw[pU];subst hC;simp) (λD act' I E=>?_) hd.length (Array.replicate l0.length false) C1 act
  (by
    have hS:(λi=>(Array.replicate l0.length false).getD i false)=λ_=>false:=(by funext i;exact getD_replicate_false _ _);rw[hS];exact Pk _)
  ⟨by simp,λj _ _ hl=>(by rw[getD_replicate_false] at hl;cases hl),λt _ ht=>getD_in (by simpa using ht) (getD_replicate_false _ _)⟩ (hC▸I0) (Ext.refl _ _) rfl
 ·rw[hC1w] at main
  rw[show hd.length+(l0.length-hd.length)=l0.length by omega] at main;simpa using main
 ·-- all of the head is done
  have hDh:D.h=C.h++news':=by
   apply List.ext_getElem?;intro k;by_cases hk:k<C.h.length
   ·rw[List.getElem?_append_left hk];subst hC;exact I.old k hk
   ·by_cases wB:k-C.h.length<(rs.map (·.2)).flatten.length
    ·obtain⟨i,x,h1,h2,h3⟩:=Ms (λi=>by
      by_cases hi:i<hd.length
      ·obtain⟨_,_,_,_,_,_,h4,_⟩:=c6 i hi;exact h4
      ·simp only[BX];rw[List.getElem?_eq_none (by omega)];simp) wB
     have:=I.new i x h2;rw[List.getElem?_append_right (by omega),c5];have e:=K4 h2;rw[h3] at e;rw[e];subst hC;have pX:C.h.length+Bt rs i=k:=(by omega);rw[pX] at this;simpa using this
    ·rw[List.getElem?_eq_none (by rw[I.len];subst hC;omega),List.getElem?_eq_none (by rw[List.length_append,c5];omega)]
  have S':St D a' act':=by
   refine⟨I.rel,⟨by rw[I.size,c3],λt x hx=>?_⟩,I.nodef⟩
   have uV:t<a.length:=by
    have:=(List.getElem?_eq_some_iff.1 hx).1;omega
   have:=I.vrs t uV;rw[<- c4 t uV,List.getD_eq_getElem?_getD,hx] at this;exact this
  have hnD:n<=D.h.length:=(by rw[hDh];subst hC;simp;omega);have E':Ext n C D:=(E12.mono (hC▸hn)).trans (E.mono (by rw[pU];subst hC;simp;omega))
  have hK':Ck P (Q .normal) tl a' D.h:=by
   have:J_ P (Q .normal) h tl a' news':=hK;unfold J_ at this;rw[hDh,hC];exact this
  exact K5 lT S' hnD hK' λa3 D3 act3 m1 m2 m3 m4=>⟨a3,D3,m1,rfl,m2,E'.trans m3,m4⟩
def Mt(Q:Aq):Aq
 | .normal,a,h=>Q .normal a h
 | _,_,_=>False
theorem AWp.draw{P:Program}{n:Nat}{Q:Aq}{a:AA}{h:A7}{id:Nat}{l0:List Oper}{hd tl:List Ad}{ops:Array Oper}(mP:∀Q a w,wpAny P .any l0.toArray Q l0.length (Array.replicate l0.length false) a w->wpAny P .any ops Q ops.size (Array.replicate ops.size false) a w)(hm:P.follows .mixedOrders=true)(hB:Gu l0 hd=true)
 (mY:Aw P l0 (l0.take hd.length)=some hd) (lT:Aw P l0 (l0.drop hd.length)=some tl) (H:Df P h (J_ P (Q .normal) h tl) hd a []):AWp P n (.region id ops true) Q a h:=
 (AWp.draw0 (Q:=Mt Q) mP hm hB mY lT (λc a h hh=>hh) H).post λe a h hq=>by
   cases e with
   | normal=>exact⟨a,h,Wk.refl _ _ _,hq⟩
   | _=>exact hq.elim
inductive BR where
 | skip
 | ops (l:List Ad)
 | draw (hd tl:List Ad)
 | any (l:List Ad) (deps:List (List Nat))
 | bad
 | seq (a b:BR)
 | cond (x:AR) (p q:BR)
 | block (id:Nat) (c:BR)
 | loop (c:BR)
 | exit (id:Nat)
 | ret
def AOp.inHead:AOp->Bool
 | .store _ _ _=>false
 | .app _ _ _ _=>false
 | .mput _ _ _ _ _ _=>false
 | .xop _ _ _=>false
 | _=>true
def AOp.mute(P:Program):AOp->Bool
 | .call (.func g) _=>(match P.funcs[g]? with|some f=>f.results.isEmpty|none=>false)
 | _=>false
def headLen(P:Program):List Ad->Nat
 | []=>0
 | o::l=>if o.op.inHead then (if o.op.mute P then 0 else headLen P l+1) else 0
def V7:Op->Bool
 | .store _ _ _=>true
 | _=>false
def V8:Op->Bool
 | .load _ _=>true
 | _=>false
def IA:List Oper->Nat
 | []=>0
 | o::l=>if V7 o.op then 0 else IA l+1
def Aa:List Nat->Nat->Bool
 | [],_=>false
 | y::r,x=>match Nat.beq y x with|true=>true|false=>Aa r x
theorem EN{x:Nat}:∀ {l:List Nat},Aa l x=l.contains x
 | []=>rfl
 | y::r=>by
   unfold Aa;rw[List.contains_cons,<- EN (l:=r)]
   cases hb:Nat.beq y x with
   | true=>have:=Nat.eq_of_beq_eq_true hb;subst this;simp
   | false =>
     have:(x == y)=false:=by
      cases hc:x == y with
      | false=>rfl
      | true=>have:=eq_of_beq hc;subst this;rw[Nat.beq_refl] at hb;cases hb
     simp[this]
def Mv(s:Nat):Nat->List Oper->List (List Nat)->Bool
 | j,o::l,_::D=>(match Nat.blt j s with
   | true=>(match V8 o.op with
     | true=>(match (D.take (s-j)).any (λd=>Aa d j) with|true=>Mv s (j+1) l D|false=>true)
     | false=>Mv s (j+1) l D)
   | false=>false)
 | _,_,_=>false
def V9(l:List Oper)(D:List (List Nat)):Bool:=match Nat.blt (IA l) l.length with|true=>Mv (IA l) 0 l D|false=>false
def VA:Op->Bool
 | .call c=>(match c.callee with | .builtin .append=>true|_=>false)
 | _=>false
def VB:Op->Bool
 | .buildSlice _ _ _=>true
 | _=>false
def Pq:List Oper->Bool
 | []=>false
 | o::l=>if VA o.op then l.any (λo=>VB o.op) else Pq l
def VC:Op->Bool
 | .call c=>(match c.callee with | .builtin _=>false|_=>true)
 | .binOp _ _ _ _ _=>true
 | _=>false
def Ps(D:List (List Nat)):Nat->List Nat->List Nat
 | 0,s=>s
 | i+1,s=>Ps D i (match Aa s i with|true=>D.getD i []++s|false=>s)
def Mw(s:Nat)(R:List Nat):Nat->List Oper->Bool
 | j,o::l=>(match Nat.blt j s with
   | true=>(match VC o.op with
     | true=>(match Aa R j with|true=>Mw s R (j+1) l|false=>true)
     | false=>Mw s R (j+1) l)
   | false=>false)
 | _,_=>false
def VD(l:List Oper)(D:List (List Nat)):Bool:=match Nat.blt (IA l) l.length with|true=>Mw (IA l) (Ps D (IA l+1) [IA l]) 0 l|false=>false
def VE(l:List Oper)(D:List (List Nat)):Bool:=V9 l D || Pq l || VD l D
def IB(l:List Oper):Bool:=VE l (l.map Bf)
def Ay(done:List Nat):Nat->List (List Nat)->List Nat
 | _,[]=>[]
 | i,d::ds=>if !done.contains i && d.all done.contains then i::Ay done (i+1) ds else Ay done (i+1) ds
def FW:List Nat->(Nat->Prop)->Prop
 | [],_=>True
 | [i],F=>F i
 | i::j::l,F=>F i/\FW (j::l) F
theorem L8{F:Nat->Prop}:∀ {l:List Nat},FW l F->∀i,i∈l->F i
 | [],_,i,h=>by cases h
 | [j],h,i,hi=>by simp at hi;subst hi;exact h
 | j::k::l,h,i,hi=>by
   rcases List.mem_cons.1 hi with rfl|hi
   ·exact h.1
   ·exact L8 h.2 i hi
theorem Mx{F G:Nat->Prop}(h:∀i,F i->G i):∀ {l:List Nat},FW l F->FW l G
 | [],_=>trivial
 | [j],hh=>h _ hh
 | j::k::l,hh=>⟨h _ hh.1,Mx h hh.2⟩
def M_:Op->Bool
 | .move _=>true
 | .assign _=>true
 | .extract _ _=>true
 | .fieldAddr _ _ _=>true
 | .nilCheck _=>true
 | _=>false
def VF(o:Oper):List Nat:=o.op.operands.toList.filterMap fun | .tmp t=>some t|_=>none
def VG:Op->Bool
 | .select _ _=>false
 | _=>true
def K6(deps tm:List Nat):Nat->List Oper->Bool
 | _,[]=>true
 | k,p::r=>(match p.dst with|some d=>(match Aa tm d with|true=>Aa deps k|false=>true)|none=>true) && K6 deps tm (k+1) r
def Gv:List (Option Nat)->Bool
 | []=>true
 | none::r=>Gv r
 | some d::r=>r.all (λx=>match x with|some e=> !Nat.beq e d|none=>true) && Gv r
def GA(l:List Oper):Bool:=l.all (λo=>o.guard.isNone && VG o.op && K6 (Bf o) (VF o) 0 l) && Gv (l.map (·.dst))
def N7(l:List Oper)(done:List Nat)(i:Nat):Bool:=match l[i]? with
 | some o=>M_ o.op && !Aa done i && (Bf o).all (Aa done)
 | none=>false
def J4(l:List Oper):List Nat:=((List.range l.length).foldl (λdone i=>match N7 l done i with|true=>i::done|false=>done) []).reverse
def L9(l:List Oper):List Nat->List Nat->Bool
 | _,[]=>true
 | done,i::r=>N7 l done i && L9 l (i::done) r
def J5:List Nat->List Nat->Nat->List Nat
 | _,[],_=>[]
 | p,x::r,i=>match Nat.beq x i with|true=>p|false=>J5 [x] r i
def El(E:List Nat):Nat->List (List Nat)->List (List Nat)
 | _,[]=>[]
 | i,d::ds=>(match Aa E i with|true=>J5 [] E i|false=>E.getLast?.toList++d)::El E (i+1) ds
def Pt(E:List Nat)(l:List Oper):List (List Nat):=match L9 l [] E && Nat.ble E.length l.length with|true=>El E 0 (l.map Bf)|false=>l.map Bf
def J6(l:List Oper):List (List Nat):=(match GA l with|true=>Pt (J4 l) l|false=>l.map Bf)
def Bg(P:Program)(K:AA->A7->Prop)(al:List Ad)(deps:List (List Nat)):Nat->List Nat->AA->A7->Prop
 | 0,done,a,h=>if (Ay done 0 deps).isEmpty then K a h else False
 | f+1,done,a,h=>if (Ay done 0 deps).isEmpty then K a h else FW (Ay done 0 deps) λi=>match al[i]? with|some o=>Ck P (Bg P K al deps f (i::done)) [o] a h|none=>False
def CP:Option BR->Option BR
 | some c=>some c
 | none=>some .bad
def Am(P:Program):Code->Option BR
 | .skip=>some .skip
 | .region _ ops false=>CP ((Aw P ops.toList ops.toList).map .ops)
 | .region _ ops true=>match IB ops.toList with|true=>CP ((Aw P ops.toList ops.toList).map λal=>.any al (J6 ops.toList))|false=>CP ((Aw P (CO ops.toList) (CO ops.toList)).map λal=>.draw (al.take (headLen P al)) (al.drop (headLen P al)))
 | .seq a b =>
   match Am P a,Am P b with
   | some x,some y=>some (.seq x y)
   | _,_=>none
 | .cond c p q =>
   match AY c,Am P p,Am P q with
   | some c,some p,some q=>some (.cond c p q)
   | _,_,_=>none
 | .block id c=>(Am P c).map (.block id)
 | .loop c=>(Am P c).map .loop
 | .exit id=>some (.exit id)
 | .ret=>some .ret
 | _=>some .bad
def CW(P:Program):Code->Bool
 | .region _ ops true=>if IB ops.toList then P.follows .mixedOrders else
   match Aw P (CO ops.toList) (CO ops.toList) with
   | some al=>P.follows .mixedOrders && (Mq ops.toList && Gu (CO ops.toList) (al.take (headLen P al)))
   | none=>true
 | .seq a b=>CW P a && CW P b
 | .cond _ p q=>CW P p && CW P q
 | .block _ c=>CW P c
 | .loop c=>CW P c
 | _=>true
def IC(P:Program)(n:Nat)(c:BR)(Q:Aq)(a:AA)(h:A7):Prop:=∀code,Am P code=some c->CW P code=true->AWp P n (.loop code) Q a h
def Gw(a:AA)(x:AR)(b:Bool):AA:=match x with | .tmp t=>a.set t (.bool b)|_=>a
def DR(P:Program)(n:Nat):BR->Aq->AA->A7->Prop
 | .skip,Q,a,h=>Q .normal a h
 | .ops l,Q,a,h=>Ck P (Q .normal) l a h
 | .draw hd tl,Q,a,h=>Df P h (J_ P (Q .normal) h tl) hd a []
 | .any al deps,Q,a,h=>Bg P (Q .normal) al deps al.length [] a h
 | .bad,Q,a,h=>False
 | .seq x y,Q,a,h=>DR P n x (Dw (DR P n y Q) Q) a h
 | .cond x p q,Q,a,h=>(match evA a x with | .bool t=>(t=true->DR P n p Q (Gw a x true) h)/\(t=false->DR P n q Q (Gw a x false) h)|_=>False)
 | .block id c,Q,a,h=>DR P n c (GD id Q) a h
 | .loop c,Q,a,h=>IC P n c Q a h
 | .exit id,Q,a,h=>Q (.exit id) a h
 | .ret,Q,a,h=>Q .ret a h
theorem Gx{P:Program}{l0:List Oper}:∀ {l:List Oper} {al:List Ad},Aw P l0 l=some al->al.length=l.length/\∀n,Aw P l0 (l.take n)=some (al.take n)/\Aw P l0 (l.drop n)=some (al.drop n)
 | [],al,h=>by
   simp only[Aw,Option.some.injEq] at h;subst h;exact⟨rfl,λn=>⟨by simp[Aw],by simp[Aw]⟩⟩
 | o::l,al,h=>by
   simp only[Aw] at h;split at h
   ·rename_i x y hx hy
    simp only[Option.some.injEq] at h;subst h;obtain⟨h1,h2⟩:=Gx hy;refine⟨by simp[h1],λn=>?_⟩
    cases n with
    | zero=>exact⟨by simp[Aw],by simp[Aw,hx,hy]⟩
    | succ n =>
      obtain⟨h3,h4⟩:=h2 n;exact⟨by simp[Aw,hx,h3],by simpa using h4⟩
   ·cases h
theorem J7{done:List Nat}{i:Nat}:∀ {ds:List (List Nat)} {k:Nat},i∈Ay done k ds↔k<=i/\done.contains i=false/\∃d,ds[i-k]?=some d/\∀e,e∈d->done.contains e=true
 | [],k=>by simp[Ay]
 | d::ds,k=>by
   have ih:=J7 (done:=done) (i:=i) (ds:=ds) (k:=k+1);have hd:∀d':List Nat,d'.all done.contains=true↔∀e,e∈d'->done.contains e=true:=λd'=>(by rw[List.all_eq_true]);unfold Ay;by_cases rF:i=k
   ·subst rF
    constructor
    ·intro h
     split at h
     ·rename_i hc
      simp only[Bool.and_eq_true] at hc;exact⟨Nat.le_refl _,by simpa using hc.1,d,by simp,(hd d).1 hc.2⟩
     ·have:=(ih.1 h).1;omega
    ·rintro⟨_,h1,d',h2,h3⟩
     simp at h2;subst h2;rw[if_pos (by rw[Bool.and_eq_true];exact⟨by simpa using h1,(hd d).2 h3⟩)];exact List.mem_cons_self ..
   ·have key:i∈Ay done (k+1) ds↔k<=i/\done.contains i=false/\∃d',(d::ds)[i-k]?=some d'/\∀e,e∈d'->done.contains e=true:=by
     rw[ih];constructor
     ·rintro⟨h1,h2,d',h3,h4⟩
      exact⟨by omega,h2,d',by rw[show i-k=(i-(k+1))+1 by omega];simpa using h3,h4⟩
     ·rintro⟨h1,h2,d',h3,h4⟩
      refine⟨by omega,h2,d',?_,h4⟩;rw[show i-k=(i-(k+1))+1 by omega] at h3;simpa using h3
    split
    ·rw[List.mem_cons]
     constructor
     ·rintro(h|h)
      ·exact absurd h rF
      ·exact key.1 h
     ·intro h;exact .inr (key.2 h)
    ·exact key
theorem N8{l0:List Oper}{listed:Array Bool}{done:List Nat}(hs:listed.size=l0.length)(lS:∀i,listed.getD i false=done.contains i)(i:Nat):i∈Region.ready .any l0.toArray listed↔i∈Ay done 0 (l0.map Bf):=by
 rw[J7,mem_ready]
 have lI:∀o:Oper,(∀e,e∈o.after->Region.binds .any e=true->listed.getD e.on false=true)↔∀e,e∈Bf o->done.contains e=true:=by
  intro o;constructor
  ·intro h e he
   obtain⟨x,hx,rfl⟩:=List.mem_map.1 he;obtain⟨h1,h2⟩:=List.mem_filter.1 hx;rw[<- lS];exact h x (by simpa using h1) h2
  ·intro h e he hb
   rw[lS];exact h e.on (List.mem_map.2 ⟨e,List.mem_filter.2 ⟨by simpa using he,hb⟩,rfl⟩)
 constructor
 ·rintro⟨h1,o,h2,h3⟩
  refine⟨Nat.zero_le _,by rw[<- lS];exact getD_both h1,Bf o,?_,(lI o).1 h3⟩;have:l0[i]?=some o:=(by simpa using h2);simp[this]
 ·rintro⟨_,h1,d,h2,h3⟩
  rw[List.getElem?_map] at h2
  cases ho:l0[i-0]? with
  | none=>rw[ho] at h2;cases h2
  | some o =>
    rw[ho] at h2;simp only[Option.map_some,Option.some.injEq] at h2;subst h2;have ho:l0[i]?=some o:=(by simpa using ho);have kS:=(List.getElem?_eq_some_iff.1 ho).1;exact⟨getD_in (by omega) (by rw[lS];exact h1),o,by simpa using ho,(lI o).2 h3⟩
theorem wp_Q{P:Program}{o:Oper}{a:Act}{w:World}{K:Act->World->Prop}{Q Q':Exit->Act->World->Prop}(hp:∀c a w,Q (.panic c) a w->Q' (.panic c) a w)(hl:LetsOut Q->LetsOut Q')(h:o.wp P a w K Q):o.wp P a w K Q':=by
 unfold Oper.wp at *;generalize (execOp a.eval o).run P w=r at *
 cases r with
 | ok n w' =>
   cases n<;>simp only[Oper.upon] at h ⊢ <;>
    first
     | exact h
     | exact Calls.mono h (λe w'' he=>by cases e<;>first|exact he|exact hp _ _ _ he|exact hl he)
 | halt x w'=>cases x<;>simp only[Oper.upon] at h ⊢ <;> first|exact h|exact hp _ _ _ h
def Pv(Q:Exit->Act->World->Prop)(N:Act->World->Prop):Exit->Act->World->Prop
 | .normal,a,w=>N a w
 | e,a,w=>Q e a w
theorem VH{P:Program}{l0:List Oper}{i:Nat}{o:Oper}(ho:l0[i]?=some o){Q:Exit->Act->World->Prop}{N:Act->World->Prop}{a:Act}{w:World}(h:wpList P l0.toArray (Pv Q N) [o] a w):wpOp P l0.toArray Q i N a w:=by
 unfold wpList at h;unfold wpOp;have:l0.toArray[i]?=some o:=by simpa using ho
 rw[this];simp only;have hl:LetsOut (Pv Q N)->LetsOut Q:=λh=>h;split
 ·rename_i hw
  rw[if_pos hw] at h;exact h.imp (λh=>wp_Q (λc a w h=>h) hl h) λ⟨h1,h2⟩=>⟨h1,hl h2⟩
 ·rename_i hw
  rw[if_neg hw] at h;exact h
theorem Pw{P:Program}{n:Nat}{l0:List Oper}{al:List Ad}(hc:Aw P l0 l0=some al){E:List Nat}{ds:List (List Nat)}(zY:∀done:List Nat,(∀e,e∈E->done.contains e=true)->∀i,i∈Ay done 0 ds↔i∈Ay done 0 (l0.map Bf)){K:AA->A7->Prop}{Q:Exit->Act->World->Prop}:∀(f:Nat) (done:List Nat) (listed:Array Bool) (a:AA) (C:Cfg) (act:Act),
 listed.size=l0.length->(∀i,listed.getD i false=done.contains i)->(∀e,e∈E->done.contains e=true)->Bg P K al ds f done a C.h->St C a act->n<=C.h.length ->
 (∀a' D act',K a' D.h->St D a' act'->Ext n C D->n<=D.h.length->Q .normal act' D.w)->wpAny P .any l0.toArray Q f listed act C.w:=by
 intro f
 induction f with
 | zero =>
   intro done listed a C act hs lS hE H S hn hK;have rdy:∀x,x∈Region.ready .any l0.toArray listed↔x∈Ay done 0 ds:=λx=>(N8 hs lS x).trans (zY done hE x).symm;simp only[Bg] at H;split at H
   ·rename_i he
    refine⟨?_,hK _ _ _ H S (Ext.refl _ _) hn⟩
    cases hr:Region.ready .any l0.toArray listed with
    | nil=>rfl
    | cons x xs =>
      have:=(rdy x).1 (by rw[hr];simp);rw[List.isEmpty_iff.1 he] at this;cases this
   ·exact H.elim
 | succ f ih =>
   intro done listed a C act hs lS hE H S hn hK;have rdy:∀x,x∈Region.ready .any l0.toArray listed↔x∈Ay done 0 ds:=λx=>(N8 hs lS x).trans (zY done hE x).symm;simp only[Bg] at H;split at H
   ·rename_i he
    have qX:Region.ready .any l0.toArray listed=[]:=by
     cases hr:Region.ready .any l0.toArray listed with
     | nil=>rfl
     | cons x xs =>
       have:=(rdy x).1 (by rw[hr];simp);rw[List.isEmpty_iff.1 he] at this;cases this
    exact⟨λ_=>hK _ _ _ H S (Ext.refl _ _) hn,λi hi=>by rw[qX] at hi;cases hi⟩
   ·rename_i he
    refine⟨λqX=>?_,λi hi=>?_⟩
    ·exfalso
     apply he
     cases hr:Ay done 0 ds with
     | nil=>rfl
     | cons x xs =>
       have:=(rdy x).2 (by rw[hr];simp);rw[qX] at this;cases this
    ·have H2:=L8 H i ((rdy i).1 hi)
     obtain⟨_,o,ho,_⟩:=mem_ready.1 hi;have ho:l0[i]?=some o:=(by simpa using ho);have mD:=(List.getElem?_eq_some_iff.1 ho).1;obtain⟨e1,e2⟩:=Gx hc;have uK:al[i]?=some al[i]:=List.getElem?_eq_getElem (by omega);rw[uK] at H2;simp only at H2
     have mY:Aw P l0 [o]=some [al[i]]:=by
      have h1:=(e2 i).2;have h2:=(Gx h1).2 1
      have k1:(l0.drop i).take 1=[o]:=by
       rw[List.drop_eq_getElem_cons mD];simp only[List.take_succ_cons,List.take_zero];rw[List.getElem?_eq_getElem mD] at ho;rw[Option.some.inj ho]
      have k2:(al.drop i).take 1=[al[i]]:=by
       rw[List.drop_eq_getElem_cons (by omega)];simp only[List.take_succ_cons,List.take_zero]
      rw[<- k1,<- k2];exact h2.1
     refine VH ho ?_;refine K5 mY S hn H2 λa' D act' m1 m2 m3 m4=>?_;refine ih (i::done) _ a' D act' (by simp[hs]) (λj=>?_) (λe he=>by have:=hE e he;simp at this ⊢;exact .inr this) m1 m2 m4 λa3 D3 act3 q1 q2 q3 q4=>hK a3 D3 act3 q1 q2 (m3.trans q3) q4;by_cases mI:j=i
     ·subst mI
      have:j<listed.size:=(by omega);simp[this]
     ·rw[getD_set_ne false (Ne.symm mI),lS j]
      simp[mI]
theorem VI{P:Program}{o:Oper}{ao:AOp}{a:Act}{w:World}{K:Act->World->Prop}{Q:Exit->Act->World->Prop}(ho:M_ o.op=true)(hc:Cw P o.op o.type=some ao)(qX:∀x,o.op = .nilCheck x->∀w,(execOp a.eval o).run P w = .ok (.value (a.eval x)) w)(h:o.wp P a w K Q):∃v,(∀w,(execOp a.eval o).run P w = .ok (.value v) w)/\K (a.put o.dst v) w:=by
 have fin:∀v,(∀w,(execOp a.eval o).run P w = .ok (.value v) w)->∃v,(∀w,(execOp a.eval o).run P w = .ok (.value v) w)/\K (a.put o.dst v) w:=λv e=>by
  refine⟨v,e,?_⟩;unfold Oper.wp at h;rw[e] at h;exact h
 unfold M_ at ho;split at ho
 ·rename_i x hop
  exact fin (a.eval x) λw=>by simp[execOp,hop]
 ·rename_i x hop
  exact fin (a.eval x) λw=>by simp[execOp,hop]
 ·rename_i x i hop
  obtain⟨v,h1,_⟩:=Px (P:=P) (w:=w) (K:=K) (Q:=Q) (by rw[hop]) h;exact fin v h1
 ·rename_i s x f hop
  rw[hop] at hc;simp only[Cw] at hc;split at hc
  ·rename_i off k g y hf hx
   split at hc
   ·rename_i oH
    unfold IE at hf;split at hf
    case h_2=>cases hf
    rename_i fs hu;split at hf
    case h_2=>cases hf
    rename_i fd hfd;split at hf
    case h_2=>cases hf
    rename_i k' g' hk hg;simp only[Option.some.injEq,Prod.mk.injEq] at hf;obtain⟨rfl,rfl,rfl⟩:=hf;have kv:k'≠0:=by omega
    have run:∀(w:World) (a:Addr),(Instr.fieldAt s (.pointer (some a)) f).run P w = .ok (.pointer (some (a.add fd.offset))) w:=by
     intro w a;simp[Instr.fieldAt,BF w hu,hfd,Instr.sureAddr,fieldPlace,FX w hk,kv]
    by_cases hp:∃b,a.eval x = .pointer (some b)
    ·obtain⟨b,hb⟩:=hp
     exact fin (.pointer (some (b.add fd.offset))) λw=>by simp only[execOp,hop,hb,Sem.run_bind,run,Result.andThen_ok,Sem.run_pure]
    ·exfalso
     unfold Oper.wp at h
     have:∃r,(execOp a.eval o).run P w=r/\∀K Q,¬o.upon P a K Q r:=by
      refine⟨_,rfl,λK Q hh=>?_⟩;simp only[execOp,hop,Instr.fieldAt,Sem.run_bind,BF w hu,Result.andThen_ok,hfd] at hh
      cases hv:a.eval x<;>rw[hv] at hh<;>try (simp[Instr.sureAddr,stuck,Oper.upon] at hh)
      rename_i q
      cases q with
      | none=>simp[Instr.sureAddr,stuck,Oper.upon] at hh
      | some b=>exact hp ⟨b,hv⟩
     obtain⟨r,e,hr⟩:=this;rw[e] at h;exact hr _ _ h
   ·cases hc
  ·cases hc
 ·rename_i x hop
  exact fin (a.eval x) (qX x hop)
 ·cases ho
theorem VJ{P:Program}{o:Oper}{ao:Ad}{K:AA->A7->Prop}{a:AA}{C:Cfg}{act:Act}(hc:Cw P o.op o.type=some ao.op)(S:St C a act)(H:EO P ao K a C.h):∀x,o.op = .nilCheck x->∀w,(execOp act.eval o).run P w = .ok (.value (act.eval x)) w:=by
 intro x hop w;rw[hop] at hc;simp only[Cw] at hc
 cases hx:AY x with
 | none=>rw[hx] at hc;cases hc
 | some y =>
   rw[hx] at hc;simp only[Option.map_some,Option.some.injEq] at hc;unfold EO at H;rw[<- hc] at H;simp only[AQ] at H;have hV:=S.ev x y hx;split at H
   ·rename_i s' z i o' hy
    rw[hy] at hV;obtain⟨h1,h2⟩:=hV.ref';simp[execOp,hop,h2]
   ·rename_i cs hy
    rw[hy] at hV;obtain⟨b,h2,hd⟩:=hV.cref';simp[execOp,hop,h2]
   ·rename_i f p q hy
    rw[hy] at hV;obtain⟨vf,vc,h2,_⟩:=hV.func';simp[execOp,hop,h2]
   ·rename_i t v hy
    rw[hy] at hV;obtain⟨v,h2,_⟩:=hV.iface';simp[execOp,hop,h2]
   ·exact H.elim
theorem Py{i:Nat}:∀ {pre r p:List Nat},pre.contains i=false->J5 p (pre++i::r) i=(match pre.getLast? with|some x=>[x]|none=>p)
 | [],r,p,h=>by
   have:Nat.beq i i=true:=Nat.beq_refl i;simp only[List.nil_append,J5,this,List.getLast?_nil]
 | x::pre,r,p,h=>by
   simp only[List.contains_cons,Bool.or_eq_false_iff] at h
   have hx:Nat.beq x i=false:=by
    cases hb:Nat.beq x i with
    | false=>rfl
    | true=>have:=Nat.eq_of_beq_eq_true hb;subst this;simp at h
   simp only[List.cons_append,J5,hx];rw[Py h.2]
   cases pre with
   | nil=>rfl
   | cons y ys =>
     rw[List.getLast?_cons_cons]
     cases hl:(y::ys).getLast? with
     | none=>simp at hl
     | some z=>rfl
theorem N9{E:List Nat}:∀ {ds:List (List Nat)} {k i:Nat} {d:List Nat},ds[i]?=some d->(El E k ds)[i]?=some (match Aa E (k+i) with|true=>J5 [] E (k+i)|false=>E.getLast?.toList++d)
 | [],k,i,d,h=>by simp at h
 | d0::ds,k,0,d,h=>by
   simp only[List.getElem?_cons_zero,Option.some.injEq] at h;subst h;simp[El]
 | d0::ds,k,i+1,d,h=>by
   simp only[List.getElem?_cons_succ] at h;have:=N9 (E:=E) (k:=k+1) h;simp only[El,List.getElem?_cons_succ];rw[this,show k+1+i=k+(i+1) by omega]
theorem P_{E:List Nat}:∀ {ds:List (List Nat)} {k i:Nat},ds[i]?=none->(El E k ds)[i]?=none
 | [],k,i,h=>by simp[El]
 | d0::ds,k,0,h=>by simp at h
 | d0::ds,k,i+1,h=>by
   simp only[List.getElem?_cons_succ] at h;simp only[El,List.getElem?_cons_succ];exact P_ h
theorem VK{E:List Nat}{ds:List (List Nat)}(done:List Nat)(hE:∀e,e∈E->done.contains e=true)(i:Nat):i∈Ay done 0 (El E 0 ds)↔i∈Ay done 0 ds:=by
 rw[J7,J7];simp only[Nat.sub_zero]
 cases hd:ds[i]? with
 | none=>rw[P_ hd]
 | some d =>
   rw[N9 hd,Nat.zero_add];constructor
   ·rintro⟨h0,h1,d',h2,h3⟩
    refine⟨h0,h1,d,rfl,λe he=>?_⟩
    have kv:E.contains i=false:=by
     cases hc:E.contains i with
     | false=>rfl
     | true=>rw[hE i (by simpa using hc)] at h1;cases h1
    rw[EN,kv] at h2;simp only[Option.some.injEq] at h2;exact h3 e (by rw[<- h2];simp[he])
   ·rintro⟨h0,h1,d',h2,h3⟩
    have kv:E.contains i=false:=by
     cases hc:E.contains i with
     | false=>rfl
     | true=>rw[hE i (by simpa using hc)] at h1;cases h1
    simp only[Option.some.injEq] at h2;subst h2;refine⟨h0,h1,E.getLast?.toList++d,by rw[EN,kv],λe he=>?_⟩;rcases List.mem_append.1 he with he|he
    ·refine hE e ?_
     cases hl:E.getLast? with
     | none=>rw[hl] at he;simp at he
     | some x=>rw[hl] at he;simp at he;subst he;exact List.mem_of_getLast? hl
    ·exact h3 e he
theorem Q0{deps tm:List Nat}:∀ {l:List Oper} {k i:Nat} {o:Oper} {d:Nat},K6 deps tm k l=true->l[i]?=some o->o.dst=some d->d∈tm->deps.contains (k+i)=true
 | [],k,i,o,d,h,ho,hd,ht=>by simp at ho
 | p::l,k,0,o,d,h,ho,hd,ht=>by
   simp only[List.getElem?_cons_zero,Option.some.injEq] at ho;subst ho;have hm:Aa tm d=true:=(by rw[EN];simpa using ht);simp only[K6,hd,hm,Bool.and_eq_true] at h;rw[Nat.add_zero,<- EN];exact h.1
 | p::l,k,i+1,o,d,h,ho,hd,ht=>by
   simp only[List.getElem?_cons_succ] at ho;simp only[K6,Bool.and_eq_true] at h;have:=Q0 h.2 ho hd ht
   rwa [show k+1+i=k+(i+1) by omega] at this
theorem Q4:∀ {l:List (Option Nat)} {i j d:Nat},Gv l=true->l[i]?=some (some d)->l[j]?=some (some d)->i=j
 | [],i,j,d,h,hi,hj=>by simp at hi
 | x::l,i,j,d,h,hi,hj=>by
   have ih:Gv l=true:=by
    cases x with
    | none=>exact h
    | some e=>simp only[Gv,Bool.and_eq_true] at h;exact h.2
   have key:∀q:Nat,x=some d->l[q]?=some (some d)->False:=λq hx hq=>by
    subst hx;simp only[Gv,Bool.and_eq_true,List.all_eq_true] at h;have:=h.1 _ (List.mem_of_getElem? hq);simp at this
   cases i with
   | zero =>
     cases j with
     | zero=>rfl
     | succ j=>exact(key j (by simpa using hi) (by simpa using hj)).elim
   | succ i =>
     cases j with
     | zero=>exact(key i (by simpa using hj) (by simpa using hi)).elim
     | succ j =>
       have:=Q4 ih (i:=i) (j:=j) (d:=d) (by simpa using hi) (by simpa using hj);omega
theorem VL{l:List Oper}(h:GA l=true):Region.noSelect l.toArray=true:=by
 simp only[GA,Bool.and_eq_true,List.all_eq_true] at h;unfold Region.noSelect;rw[Array.all_eq_true_iff_forall_mem];intro o ho;have:=(h.1 o (by simpa using ho)).1.2
 cases hop:o.op<;>first|rfl|(rw[hop] at this;cases this)
theorem Q5{l:List Oper}(h:GA l=true){j k:Nat}{oj ok:Oper}{d:Nat}(hj:l[j]?=some oj)(hk:l[k]?=some ok)(hd:ok.dst=some d)(hm:d∈oj.looksAt l.toArray):(Bf oj).contains k=true:=by
 simp only[GA,Bool.and_eq_true,List.all_eq_true] at h;obtain⟨⟨h1,_⟩,h2⟩:=h.1 oj (List.mem_of_getElem? hj);have hg:oj.guard=none:=by simpa using h1
 unfold Oper.looksAt at hm;rw[hg] at hm;simp only[List.append_nil] at hm;have:=Q0 h2 hk hd hm
 rwa [Nat.zero_add] at this
theorem VM{o:Oper}{k:Nat}:(Bf o).contains k=true↔∃e,e∈o.after/\Region.binds .any e=true/\e.on=k:=by
 unfold Bf;simp only[List.contains_iff_mem,List.mem_map,List.mem_filter,Array.mem_toList_iff];constructor
 ·rintro⟨e,⟨h1,h2⟩,h3⟩;exact⟨e,h1,h2,h3⟩
 ·rintro⟨e,h1,h2,h3⟩;exact⟨e,⟨h1,h2⟩,h3⟩
theorem VN{l:List Oper}(h:GA l=true){i j:Nat}{oi oj:Oper}(hi:l[i]?=some oi)(hj:l[j]?=some oj)(kv:j≠i)(h1:(Bf oj).contains i=false)(h2:(Bf oi).contains j=false):oi.apart l.toArray oj=true:=by
 have hnd:Gv (l.map (·.dst))=true:=by simp only[GA,Bool.and_eq_true] at h;exact h.2
 unfold Oper.apart;rw[Bool.and_eq_true];constructor
 ·cases hd:oi.dst with
  | none=>rfl
  | some d =>
    simp only[Bool.and_eq_true,Bool.not_eq_true',bne_iff_ne,ne_eq];constructor
    ·cases hc:(oj.looksAt l.toArray).contains d with
     | false=>rfl
     | true =>
       have:=Q5 h hj hi hd (by simpa using hc);rw[h1] at this;cases this
    ·intro hdj
     exact kv (Q4 hnd (d:=d) (by rw[List.getElem?_map,hj];simp[hdj]) (by rw[List.getElem?_map,hi];simp[hd]))
 ·cases hd:oj.dst with
  | none=>rfl
  | some d =>
    simp only[Bool.not_eq_true']
    cases hc:(oi.looksAt l.toArray).contains d with
    | false=>rfl
    | true =>
      have:=Q5 h hi hj hd (by simpa using hc);rw[h2] at this;cases this
theorem Q6{P:Program}{n:Nat}{l0:List Oper}{al:List Ad}(hc:Aw P l0 l0=some al)(hssa:GA l0=true){K:AA->A7->Prop}{Q:Exit->Act->World->Prop}(hQ:∀c a w,¬Q (.panic c) a w){E:List Nat}:∀(todo done:List Nat) (f:Nat) (listed:Array Bool) (a:AA) (C:Cfg) (act:Act),
 E=done.reverse++todo->L9 l0 done todo=true->listed.size=l0.length->(∀i,listed.getD i false=done.contains i)->Bg P K al (El E 0 (l0.map Bf)) (todo.length+f) done a C.h->St C a act->n<=C.h.length ->
 (∀a' D act',K a' D.h->St D a' act'->Ext n C D->n<=D.h.length->Q .normal act' D.w)->wpAny P .any l0.toArray Q (todo.length+f) listed act C.w
 | [],done,f,listed,a,C,act,hE,kU,hs,lS,H,S,hn,hK=>by
   refine Pw (n:=n) hc (E:=E) (λd hd i=>VK d hd i) _ done listed a C act hs lS (λe he=>?_) H S hn hK;rw[hE] at he;simpa using he
 | i::r,done,f,listed,a,C,act,hE,kU,hs,lS,H,S,hn,hK=>by
   simp only[L9,Bool.and_eq_true] at kU;obtain⟨hb,kU⟩:=kU;unfold N7 at hb;split at hb
   ·rename_i o ho
    simp only[Bool.and_eq_true] at hb;obtain⟨⟨h1,h3⟩,h4⟩:=hb
    have h2:o.guard.isNone=true:=by
     simp only[GA,Bool.and_eq_true,List.all_eq_true] at hssa;exact(hssa.1 o (List.mem_of_getElem? ho)).1.1
    have mD:=(List.getElem?_eq_some_iff.1 ho).1;rw[EN] at h3;have hnd:done.contains i=false:=by simpa using h3
    have h4:(Bf o).all done.contains=true:=by
     rw[List.all_eq_true] at h4 ⊢;intro x hx;rw[<- EN];exact h4 x hx
    have hrdy0:i∈Ay done 0 (l0.map Bf):=by
     rw[J7];refine⟨Nat.zero_le _,hnd,Bf o,by rw[Nat.sub_zero,List.getElem?_map,ho];rfl,λe he=>?_⟩;exact List.all_eq_true.1 h4 e he
    have za:i∈Ay done 0 (El E 0 (l0.map Bf)):=by
     rw[J7];refine⟨Nat.zero_le _,hnd,_,by rw[Nat.sub_zero];exact N9 (d:=Bf o) (by rw[List.getElem?_map,ho];rfl),λe he=>?_⟩;have hcon:E.contains (0+i)=true:=(by rw[hE,Nat.zero_add];simp);rw[EN,hcon] at he;simp only at he;rw[Nat.zero_add,hE,Py (by simpa using hnd)] at he
     cases done with
     | nil=>simp at he
     | cons x d =>
       simp at he;subst he;simp
    have pI:i∈Region.ready .any l0.toArray listed:=(N8 hs lS i).2 hrdy0;have e:(i::r).length+f=(r.length+f)+1:=(by simp;omega);rw[e] at H ⊢;simp only[Bg] at H
    rw[if_neg (by cases hr:Ay done 0 (El E 0 (l0.map Bf)) with
     | nil=>rw[hr] at za;cases za
     | cons x xs=>simp)] at H
    have H2:=L8 H i za;obtain⟨e1,e2⟩:=Gx hc;have uK:al[i]?=some al[i]:=List.getElem?_eq_getElem (by omega);rw[uK] at H2;simp only at H2
    have mY:Aw P l0 [o]=some [al[i]]:=by
     have h1:=(e2 i).2;have h2:=(Gx h1).2 1
     have k1:(l0.drop i).take 1=[o]:=by
      rw[List.drop_eq_getElem_cons mD];simp only[List.take_succ_cons,List.take_zero];rw[List.getElem?_eq_getElem mD] at ho;rw[Option.some.inj ho]
     have k2:(al.drop i).take 1=[al[i]]:=by
      rw[List.drop_eq_getElem_cons (by omega)];simp only[List.take_succ_cons,List.take_zero]
     rw[<- k1,<- k2];exact h2.1
    simp only[Aw] at mY;split at mY
    ·rename_i ao al' hao' hal'
     simp only[Option.some.injEq] at mY;simp only[Option.some.injEq] at hal';subst hal';have hao2:ao=al[i]:=(by simpa using mY);subst hao2;obtain⟨g1,g2,g3⟩:=J8 hao'
     have hg:(al[i]).guard=none:=by
      rcases g3 with ⟨_,g⟩|⟨j,want,t,g,_⟩
      ·exact g
      ·rw[g] at h2;cases h2
     simp only[Ck,hg] at H2
     have hwp:=IG (Q:=Q) (K':=λact' w'=>wpAny P .any l0.toArray Q (r.length+f) (listed.setIfInBounds i true) act' w') g1 g2 S hn H2 λa' D act' m1 m2 m3 m4=>by
      refine Q6 hc hssa hQ r (i::done) f _ a' D act' (by rw[hE];simp) kU (by simp[hs]) (λj=>?_) m1 m2 m4 λa3 D3 act3 q1 q2 q3 q4=>hK a3 D3 act3 q1 q2 (m3.trans q3) q4;by_cases mI:j=i
      ·subst mI
       have:j<listed.size:=(by omega);simp[this]
      ·rw[getD_set_ne false (Ne.symm mI),lS j]
       simp[mI]
     obtain⟨v,hv,hk⟩:=VI h1 g1 (VJ g1 S H2) hwp;refine wpAny_first (by simpa using ho) (Region.noSelect_spec (VL hssa)) (λc a w h=>absurd h (hQ c _ w)) _ listed act C.w (λj oj hj kv yJ ku=>?_) pI (.inl ⟨by simp[Region.wanted,Option.isNone_iff_eq_none.1 h2],hv⟩) hk;refine VN hssa ho (by simpa using hj) kv ?_ ?_
     ·cases hc:(Bf oj).contains i with
      | false=>rfl
      | true =>
        obtain⟨e,he1,uf,he3⟩:=VM.1 hc;exact absurd he3 (ku e he1 uf)
     ·cases hc:(Bf o).contains j with
      | false=>rfl
      | true =>
        have:=List.all_eq_true.1 h4 j (by simpa using hc);rw[<- lS j,getD_both yJ] at this;cases this
    ·cases mY
   ·cases hb
theorem AWp.any0{P:Program}{n:Nat}{Q:Aq}{a:AA}{h:A7}{id:Nat}{ops:Array Oper}{al:List Ad}(hm:P.follows .mixedOrders=true)(hc:Aw P ops.toList ops.toList=some al)(hQ:∀c a h,¬Q (.panic c) a h)(H:Bg P (Q .normal) al (J6 ops.toList) al.length [] a h):AWp P n (.region id ops true) Q a h:=by
 intro C act hC S hn;refine wp_region_any hm ?_;obtain⟨R1,E1⟩:=S.rel.sameHeap (w:={ C.w with drawn:=C.w.drawn+1 }) rfl rfl rfl rfl C.h.length;have e1:=(Gx hc).1;have S1:St { C with w:={ C.w with drawn:=C.w.drawn+1 } } a act:=⟨R1,⟨S.vrs.1,λt x hx=>E1.vr' (S.vrs.2 t x hx)⟩,S.nodef⟩;have fin:∀(a':AA) (D:Cfg) (act':Act),Q .normal a' D.h->St D a' act'->Ext n { C with w:={ C.w with drawn:=C.w.drawn+1 } } D->n<=D.h.length->Dv n C Q .normal act' D.w:=λa' D act' m1 m2 m3 m4=>⟨a',D,m1,rfl,m2,(E1.mono (hC▸hn)).trans m3,m4⟩;have xN:∀i,(Array.replicate ops.size false).getD i false=([]:List Nat).contains i:=λi=>by rw[getD_replicate_false];rfl
 have plain:Bg P (Q .normal) al (ops.toList.map Bf) al.length [] a h->wpAny P .any ops (Dv n C Q) ops.size (Array.replicate ops.size false) act { C.w with drawn:=C.w.drawn+1 }:=λH=>by
  have main:=Pw (n:=n) (Q:=Dv n C Q) hc (E:=[]) (ds:=ops.toList.map Bf) (λ_ _ _=>Iff.rfl) al.length [] (Array.replicate ops.size false) a { C with w:={ C.w with drawn:=C.w.drawn+1 } } act (by simp) xN (λe he=>by cases he) (by subst hC;exact H) S1 (hC▸hn) fin;simpa[e1] using main
 unfold J6 at H;split at H
 ·rename_i hssa
  unfold Pt at H;split at H
  ·rename_i hb
   simp only[Bool.and_eq_true] at hb;have nR:=Nat.le_of_ble_eq_true hb.2;have el:(J4 ops.toList).length+(al.length-(J4 ops.toList).length)=al.length:=(by omega);have main:=Q6 (n:=n) (Q:=Dv n C Q) hc hssa (λc a w h=>by obtain⟨a',D,h1,_⟩:=h;exact hQ _ _ _ h1) (E:=J4 ops.toList) (J4 ops.toList) [] (al.length-(J4 ops.toList).length) (Array.replicate ops.size false) a { C with w:={ C.w with drawn:=C.w.drawn+1 } } act (by simp) hb.1 (by simp) xN (by rw[el];subst hC;exact H) S1 (hC▸hn) fin;rw[el] at main;simpa[e1] using main
  ·exact plain H
 ·exact plain H
theorem AWp.any{P:Program}{n:Nat}{Q:Aq}{a:AA}{h:A7}{id:Nat}{ops:Array Oper}{al:List Ad}(hm:P.follows .mixedOrders=true)(hc:Aw P ops.toList ops.toList=some al)(H:Bg P (Q .normal) al (J6 ops.toList) al.length [] a h):AWp P n (.region id ops true) Q a h:=
 (AWp.any0 (Q:=Mt Q) hm hc (λc a h hh=>hh) H).post λe a h hq=>by
   cases e with
   | normal=>exact⟨a,h,Wk.refl _ _ _,hq⟩
   | _=>exact hq.elim
theorem VO{C:Cfg}{a:AA}{act:Act}(S:St C a act){x:AR}{b:Bool}(hb:evA a x = .bool b):St C (Gw a x b) act:=by
 cases x with
 | tmp t=>exact S.setB hb
 | const v=>exact S
 | func f=>exact S
theorem CQ{P:Program}{n:Nat}:∀ {code:Code} {c:BR} {Q:Aq} {a:AA} {h:A7},Am P code=some c->CW P code=true->DR P n c Q a h->AWp P n code Q a h
 | .skip,c,Q,a,h,hc,hd,H=>by simp only[Am,Option.some.injEq] at hc;subst hc;exact AWp.skip H
 | .ret,c,Q,a,h,hc,hd,H=>by simp only[Am,Option.some.injEq] at hc;subst hc;exact AWp.ret H
 | .exit id,c,Q,a,h,hc,hd,H=>by simp only[Am,Option.some.injEq] at hc;subst hc;exact AWp.exit H
 | .seq x y,c,Q,a,h,hc,hd,H=>by
   simp only[Am] at hc;split at hc
   ·rename_i p q hp hq
    simp only[Option.some.injEq] at hc;subst hc;simp only[CW,Bool.and_eq_true] at hd;refine AWp.seq ((CQ hp hd.1 H).mono λe a h hq'=>?_)
    cases e with
    | normal=>exact CQ hq hd.2 hq'
    | _=>exact hq'
   ·cases hc
 | .cond x p q,c,Q,a,h,hc,hd,H=>by
   simp only[Am] at hc;split at hc
   ·rename_i x' p' q' hx hp hq
    simp only[Option.some.injEq] at hc;subst hc;simp only[DR] at H;split at H
    ·rename_i t ht
     have wk:∀b,t=b->Wk n a h (Gw a x' b) h:=λb hb C act hC S hn=>⟨C,hC,rfl,VO S (hb▸ht),Ext.refl _ _,hn⟩;simp only[CW,Bool.and_eq_true] at hd;exact AWp.cond hx ht (λe=>AWp.pre (wk true e) (CQ hp hd.1 (H.1 e))) (λe=>AWp.pre (wk false e) (CQ hq hd.2 (H.2 e)))
    ·exact H.elim
   ·cases hc
 | .block id x,c,Q,a,h,hc,hd,H=>by
   simp only[Am] at hc
   cases hx:Am P x with
   | none=>simp[hx] at hc
   | some y =>
     simp only[hx,Option.map_some,Option.some.injEq] at hc;subst hc;exact AWp.block (CQ hx hd H)
 | .loop x,c,Q,a,h,hc,hd,H=>by
   simp only[Am] at hc
   cases hx:Am P x with
   | none=>simp[hx] at hc
   | some y =>
     simp only[hx,Option.map_some,Option.some.injEq] at hc;subst hc;exact H x hx hd
 | .region id ops false,c,Q,a,h,hc,hd,H=>by
   simp only[Am] at hc
   cases hx:Aw P ops.toList ops.toList with
   | none =>
     simp only[hx,Option.map_none,CP,Option.some.injEq] at hc;subst hc;exact H.elim
   | some y =>
     simp only[hx,Option.map_some,CP,Option.some.injEq] at hc;subst hc;intro C act hC S hn;refine wp_region_list ?_;have:=K5 (Q:=Dv n C Q) (n:=n) hx S (hC▸hn) (by subst hC;exact H) λa3 D3 act3 m1 m2 m3 m4=>⟨a3,D3,m1,rfl,m2,m3,m4⟩;simpa using this
 | .region id ops true,c,Q,a,h,hc,hd,H=>by
   simp only[Am] at hc;simp only[CW] at hd;by_cases qi:IB ops.toList=true
   ·rw[if_pos qi] at hd
    simp only[qi] at hc
    cases hx:Aw P ops.toList ops.toList with
    | none =>
      simp only[hx,Option.map_none,CP,Option.some.injEq] at hc;subst hc;exact H.elim
    | some y =>
      simp only[hx,Option.map_some,CP,Option.some.injEq] at hc;subst hc;exact AWp.any hd hx H
   rw[if_neg qi] at hd;have hlf:IB ops.toList=false:=(by simpa using qi);simp only[hlf] at hc;split at hd
   ·rename_i al oF
    simp only[Bool.and_eq_true] at hd;rw[oF] at hc;simp only[Option.map_some,CP,Option.some.injEq] at hc;subst hc;generalize headLen P al=m at *;obtain⟨h1,h2⟩:=Gx oF;obtain⟨h3,h4⟩:=h2 m
    have zH:(CO ops.toList).take (al.take m).length=(CO ops.toList).take m:=by
     simp only[List.length_take,h1];by_cases nG:m<=(CO ops.toList).length
     ·rw[Nat.min_eq_left nG]
     ·rw[Nat.min_eq_right (by omega),List.take_of_length_le (Nat.le_refl _),List.take_of_length_le (by omega)]
    have hlen2:(CO ops.toList).drop (al.take m).length=(CO ops.toList).drop m:=by
     simp only[List.length_take,h1];by_cases nG:m<=(CO ops.toList).length
     ·rw[Nat.min_eq_left nG]
     ·rw[Nat.min_eq_right (by omega),List.drop_eq_nil_of_le (Nat.le_refl _),List.drop_eq_nil_of_le (by omega)]
    have:=AWp.draw (n:=n) (id:=id) (ops:=ops) (λQ a w H=>by simpa using Po hd.2.1 Q a w H) hd.1 hd.2.2 (by rw[zH];exact h3) (by rw[hlen2];exact h4) H;simpa using this
   ·rename_i oF
    rw[oF] at hc;simp only[Option.map_none,CP,Option.some.injEq] at hc;subst hc;exact H.elim
 | .rangeFunc _ _ _ _,c,Q,a,h,hc,hd,H=>by
   simp only[Am,Option.some.injEq] at hc;subst hc;exact H.elim
 | .scope _,c,Q,a,h,hc,hd,H=>by
   simp only[Am,Option.some.injEq] at hc;subst hc;exact H.elim
 | .label _,c,Q,a,h,hc,hd,H=>by
   simp only[Am,Option.some.injEq] at hc;subst hc;exact H.elim
 | .goto _,c,Q,a,h,hc,hd,H=>by
   simp only[Am,Option.some.injEq] at hc;subst hc;exact H.elim
 | .refuse _,c,Q,a,h,hc,hd,H=>by
   simp only[Am,Option.some.injEq] at hc;subst hc;exact H.elim
def NA(n:Nat)(I:AA->A7->Prop)(m:AA->A7->Nat)(k:Nat):AA->A7->Prop:=λa h=>∃a' h',Wk n a h a' h'/\I a' h'/\m a' h'<k
theorem IC.intro{P:Program}{n:Nat}{c:BR}{Q:Aq}{a:AA}{h:A7}(I:AA->A7->Prop)(m:AA->A7->Nat)(a':AA)(h':A7)(hw:Wk n a h a' h')(h0:I a' h')
 (round:∀a h,I a h->DR P n c (Dw (NA n I m (m a h)) Q) a h):IC P n c Q a h:=by
 intro code hc hd;refine AWp.pre hw (AWp.loop I m h0 λa h hI=>?_);refine AWp.post (CQ hc hd (round a h hI)) λe a2 h2 hq=>?_
 cases e with
 | normal =>
   obtain⟨a3,h3,w3,i3,m3⟩:=hq;exact⟨a3,h3,w3,i3,m3⟩
 | _=>exact⟨a2,h2,Wk.refl _ _ _,hq⟩
inductive DT where
 | tmp (t:Nat)
 | cell (t:Nat) (g:Bool) (k:Nat)
def LA(P:Program):ResultVar->Option DT
 | .tmp t=>some (.tmp t)
 | .cell a t=>match Az P t,A_ P t with
   | some g,some k=>if (g=true\/k=1)/\0<k then some (.cell a g k) else none
   | _,_=>none
def Gy(P:Program):List ResultVar->Option (List DT)
 | []=>some []
 | x::xs=>match LA P x,Gy P xs with
   | some y,some ys=>some (y::ys)
   | _,_=>none
def LB(a:AA)(h:A7):DT->Option AV
 | .tmp t=>some (a.getD t .any)
 | .cell t g k =>
   match a.getD t .any with
   | .ref s z i o =>
     match h[s]? with
     | some (.live z' es)=>if z'=z/\i<es.length/\o+k<=z then some (BG g k (es.getD i []) o) else none
     | _=>none
   | _=>none
def Cm(a:AA)(h:A7):List DT->Option (List AV)
 | []=>some []
 | x::xs=>match LB a h x,Cm a h xs with
   | some y,some ys=>some (y::ys)
   | _,_=>none
def Cb:List AV->AV
 | [x]=>x
 | l=>.tuple l
def Vw(h:A7)(v r:AV):Prop:=∀(C:Cfg),C.h=h->Rel C->∀u,VR C v u->VR { C with h:=[] } r u
def J9(rs:List DT)(R:AV->Prop):Aq
 | .normal,a,h=>∃l,Cm a h rs=some l/\∃r,Vw h (Cb l) r/\R r
 | .ret,a,h=>∃l,Cm a h rs=some l/\∃r,Vw h (Cb l) r/\R r
 | _,_,_=>False
def JA(tmps:Array Value):ResultVar->Sem Value
 | .tmp t=>pure (tmps.getD t undef)
 | .cell a t=>do loadVar t (<- asAddr (tmps.getD a undef))
theorem Q7(fn:Func)(tmps:Array Value):results fn tmps=(do
 let vs <- fn.results.mapM (JA tmps)
 pure (if h:vs.size=1 then vs[0] else .tuple vs)):=by
 unfold results;congr 1
theorem VP{P:Program}{x:ResultVar}{y:DT}{a:AA}{C:Cfg}{act:Act}{v:AV}(hc:LA P x=some y)(S:St C a act)(h:LB a C.h y=some v) :
 ∃u,(JA act.tmps x).run P C.w = .ok u C.w/\VR C v u:=by
 cases x with
 | tmp t =>
   simp only[LA,Option.some.injEq] at hc;subst hc;simp only[LB,Option.some.injEq] at h;subst h;exact⟨_,by simp[JA],S.vrs.get t⟩
 | cell ad t =>
   simp only[LA] at hc;split at hc
   ·rename_i g k hg hk
    split at hc
    ·rename_i oC
     simp only[Option.some.injEq] at hc;subst hc;simp only[LB] at h;split at h
     ·rename_i s z i off hy
      split at h
      ·rename_i z' es hs
       split at h
       ·rename_i hcond
        obtain⟨rfl,hi,kU⟩:=hcond;simp only[Option.some.injEq] at h;subst h;obtain⟨hu,hv⟩:=(hy▸S.vrs.get ad:VR C _ _).ref';obtain⟨oC,oH⟩:=oC;obtain⟨hz,_,zQ,vs,ty,fz,hh,hfz,hsz,oJ⟩:=S.rel.live s z' es hs (by omega);have zL:(es.getD i []).length=z':=zQ _ (List.mem_of_getElem? (Dx [] hi));have kS:=EP (i:=i) (n:=es.length) (z:=z') hi (j:=z'-1) (by omega)
        obtain⟨cv,h1,h2⟩:=NB (P:=P) C (cs:=es.getD i []) (f:=λj=>vs.getD (i*z'+off+j) undef) ⟨C.r s,i*z'+off,none⟩ rfl hg hk oC off (by omega) (λj hj=>by
         have:i*z'+off+j<vs.size:=(by omega);unfold World.cell?;rw[hh];simp[this,Array.getD_eq_getD_getElem?])
         (λj x hj hx=>by
           have:=oJ i _ (Dx [] hi) (off+j) x hx
           rwa [<- Nat.add_assoc] at this)
        refine⟨cv,?_,h2⟩;have tN:(loadVar t ⟨C.r s,i*z'+off,none⟩).run P C.w = .ok cv C.w:=(by simpa[Instr.loadAt,Instr.sureAddr] using h1);simp[JA,hv,asAddr,tN]
       ·cases h
      ·cases h
     ·cases h
    ·cases hc
   ·cases hc
theorem Q8{P:Program}{a:AA}{C:Cfg}{act:Act}(S:St C a act):∀ {xs:List ResultVar} {ys:List DT} {l:List AV},Gy P xs=some ys->Cm a C.h ys=some l ->
 ∃us:List Value,(xs.mapM (JA act.tmps)).run P C.w = .ok us C.w/\VRs C l us.toArray
 | [],ys,l,hc,h=>by
   simp only[Gy,Option.some.injEq] at hc;subst hc;simp only[Cm,Option.some.injEq] at h;subst h;exact⟨[],by simp,rfl,λi x hx=>by simp at hx⟩
 | x::xs,ys,l,hc,h=>by
   simp only[Gy] at hc;split at hc
   ·rename_i y ys' hy qO
    simp only[Option.some.injEq] at hc;subst hc;simp only[Cm] at h;split at h
    ·rename_i v vs hv o7
     simp only[Option.some.injEq] at h;subst h;obtain⟨u,h1,h2⟩:=VP hy S hv;obtain⟨us,h3,h4⟩:=Q8 S qO o7;refine⟨u::us,?_,by simpa using h4.1,λi z hz=>?_⟩
     ·rw[List.mapM_cons]
      simp only[Sem.run_bind,h1,h3,Result.andThen_ok,Sem.run_pure]
     ·cases i with
      | zero=>simp at hz;subst hz;simpa using h2
      | succ i =>
        have:=h4.2 i z (by simpa using hz);simpa[Array.getD_eq_getD_getElem?] using this
    ·cases h
   ·cases hc
theorem JB{P:Program}{fn:Func}{ys:List DT}{a:AA}{C:Cfg}{act:Act}{l:List AV}(hc:Gy P fn.results.toList=some ys)(S:St C a act)(h:Cm a C.h ys=some l) :
 ∃u,(results fn act.tmps).run P C.w = .ok u C.w/\VR C (Cb l) u:=by
 obtain⟨us,h1,h2⟩:=Q8 S hc h
 have e:(fn.results.mapM (JA act.tmps)).run P C.w = .ok us.toArray C.w:=by
  rw[Array.mapM_eq_mapM_toList,Sem.run_map,h1];rfl
 have hl:us.length=l.length:=by simpa using h2.1
 by_cases h0:us.length=1
 ·obtain⟨u,rfl⟩:=List.length_eq_one_iff.1 h0
  obtain⟨x,rfl⟩:=List.length_eq_one_iff.1 (hl▸h0);refine⟨u,?_,by simpa[Cb] using h2.2 0 x rfl⟩;rw[Q7];simp only[Sem.run_bind,e];simp
 ·refine⟨.tuple us.toArray,?_,?_⟩
  ·rw[Q7]
   simp only[Sem.run_bind,e];simp[h0]
  ·have:Cb l = .tuple l:=by
    match l,hl,h0 with
    | [],_,_=>rfl
    | [x],hl,h0=>exact absurd hl h0
    | x::y::l,_,_=>rfl
   rw[this];exact .tuple _ _ h2.1 h2.2
structure FB where
 code:BR
 rets:List DT
 n:Nat
def Dh(P:Program)(fn:Func):Option FB:=
 match fn.body with
 | some c=>match Am P c,Gy P fn.results.toList with
   | some c,some r=>some ⟨c,r,fn.ntmps⟩
   | _,_=>none
 | none=>none
def EQ(P:Program)(fn:Func):Bool:=match fn.body with|some c=>CW P c|none=>true
def DU(args:List AV)(n:Nat):AA:=args++List.replicate (n-args.length) .undef
theorem JC{C:Cfg}{args:List AV}{vs:Array Value}(R:Rel C)(hv:VRs C args vs)(n:Nat):St C (DU args n) { tmps:=vs++Array.replicate (n-vs.size) undef,defers:=[] }:=by
 refine⟨R,?_,rfl⟩;unfold DU;rw[hv.1];refine hv.app ⟨by simp,λi x hx=>?_⟩;rw[List.getElem?_replicate] at hx;split at hx
 ·rename_i hi
  cases hx
  have:(Array.replicate (n-args.length) undef).getD i undef=undef:=(by simp[Array.getD_eq_getD_getElem?,hi]);rw[this];exact NC C
 ·cases hx
theorem A9.of_fun {P : Program} {g : FuncId} {fn : Func} {F : FB} {args : List AV} {R : AV → Prop} (hf : P.funcs[g]? = some fn) (hname : (fn.name == "runtime.NumGoroutine") = false) (hc : Dh P fn = some F) (lL : EQ P fn = true)
 (H:DR P 0 F.code (J9 F.rets R) (DU args F.n) []):A9 P g args R:=by
 unfold Dh at hc;split at hc
 ·rename_i code hb
  split at hc
  ·rename_i c r vZ hr
   simp only[Option.some.injEq] at hc;subst hc;refine⟨⟨fn,hf,by simp[hb],hname⟩,λC vs hC RC hv=>?_⟩;refine calls_of_wp hf hb ?_;refine wp_mono (CQ vZ (by unfold EQ at lL;rw[hb] at lL;exact lL) H C _ hC (JC RC hv fn.ntmps) (Nat.zero_le _)) λe act' w' ⟨a',D,h1,h2,h3,h4,h5⟩=>?_
   have fin:(∃l,Cm a' D.h r=some l/\∃x,Vw D.h (Cb l) x/\R x)->act'.defers=[]/\∃v,(results fn act'.tmps).run P w' = .ok v w' /\
    ∃v' r D,Ending.returned v = .returned v'/\R r/\D.h=[]/\D.w=w'/\Rel D/\VR D r v'/\Ext 0 C D:=by
    rintro⟨l,hl,x,hx,hRx⟩
    obtain⟨u,k1,k2⟩:=JB hr h3 hl;subst h2;refine⟨h3.nodef,u,k1,u,x,{ D with h:=[] },rfl,hRx,rfl,rfl,?_,hx D rfl h3.rel u k2,?_⟩
    ·exact⟨λs z es h=>by simp at h,λs t ⟨z,es,h⟩=>by simp at h,h3.rel.olt,λp hp=>(h3.rel.glo p hp).recfg (C:=D) (D:={ D with h:=[] }) rfl (λb hb=>hb.elim .inl λ⟨s,⟨z,es,h⟩,_⟩=>by simp at h) (FC hp 0),h3.rel.gsz⟩
    ·exact⟨h4.O,h4.os,h4.tape,h4.output,h4.size,λs hs=>absurd hs (Nat.not_lt_zero _),λb hb ku=>⟨(h4.keep b hb ku).1,λ⟨s,⟨z,es,h⟩,_⟩=>by simp at h⟩,h4.shape⟩
   cases e with
   | normal=>exact fin h1
   | ret=>exact fin h1
   | exit id=>exact h1.elim
   | goto l=>exact h1.elim
   | panic c=>exact h1.elim
   | outgrown=>exact h1.elim
  ·cases hc
 ·cases hc
theorem Vw.same{h:A7}{v:AV}(hv:v.upto 0=true):Vw h v v:=λC hC R u hu=>hu.recfg (C:=C) (D:={ C with h:=[] }) rfl (λb hb=>by
 rcases hb with hb|⟨s,⟨z,es,hs⟩,_⟩
 ·exact .inl hb
 ·simp at hs) hv
theorem Vw.nil{h:A7}(z:Nat):Vw h .nils (.list z []):=λC hC R u hu=>by
 rw[hu.nils'];exact .listNil z _ _
theorem Vw.sl{h:A7}{s z i n:Nat}{es:List (List AV)}(hs:h[s]?=some (.live z es))(hu:BC 0 es=true)(hi:i+n<=es.length):Vw h (.sl s z i n) (.list z ((es.drop i).take n)):=by
 intro C hC R u hv;subst hC;obtain⟨cap,rfl,kZ,v_,_,_,yz,_⟩:=hv.sls;obtain⟨hz,hO,zQ,vs,ty,fz,hh,hfz,hsz,oJ⟩:=R.live s z es hs (R.pos hs yz);have zH:((es.drop i).take n).length=n:=by simp;omega
 refine .list z _ _ n cap (λq j=>vs.getD ((i+q)*z+j) undef) zH v_ rfl (λe he=>zQ e (List.mem_of_mem_drop (List.mem_of_mem_take he))) (λq j hq hj=>?_) (λ_ _ aT=>?_) λq e he j x hx=>?_
 ·have kS:=EP (i:=i+q) (n:=es.length) (z:=z) (by omega) hj
  have:i*z+(q*z+j)=(i+q)*z+j:=(by rw[Nat.add_mul];omega);show C.w.cell? _=_;unfold World.cell?;simp only[hh,this];have h2:(i+q)*z+j<vs.size:=(by omega);simp[h2,Array.getD_eq_getD_getElem?]
 ·rcases aT with hb|⟨s,⟨z,es,hs⟩,_⟩
  ·exact hO hb
  ·simp at hs
 ·have hqn:q<n:=by
   have:=(List.getElem?_eq_some_iff.1 he).1;omega
  rw[List.getElem?_take,if_pos hqn,List.getElem?_drop] at he;have nJ:=BK (Di hu he) hx;exact Vw.same (h:=C.h) nJ C rfl R _ (oJ (i+q) e he j x hx)
def VwL(h:A7):List AV->List AV->Prop
 | [],[]=>True
 | v::vs,r::rs=>Vw h v r/\VwL h vs rs
 | _,_=>False
theorem VwL.get{h:A7}:∀ {vs rs:List AV},VwL h vs rs->vs.length=rs.length/\∀(i:Nat) (r:AV),rs[i]?=some r->∃v,vs[i]?=some v/\Vw h v r
 | [],[],_=>⟨rfl,λi r hr=>by simp at hr⟩
 | v::vs,r::rs,h=>by
   obtain⟨h1,h2⟩:=VwL.get h.2;refine⟨by simp[h1],λi x hx=>?_⟩
   cases i with
   | zero=>simp at hx;subst hx;exact⟨v,rfl,h.1⟩
   | succ i=>simpa using h2 i x (by simpa using hx)
theorem Vw.tuple{h:A7}{vs rs:List AV}(H:VwL h vs rs):Vw h (.tuple vs) (.tuple rs):=by
 intro C hC R u hu;obtain⟨us,rfl,hU⟩:=hu.tuple';obtain⟨h1,h2⟩:=H.get;refine .tuple _ _ (by rw[hU.1,h1]) λi x hx=>?_;obtain⟨v,hv,hw⟩:=h2 i x hx;exact hw C hC R _ (hU.2 i v hv)
theorem Vw.agg{h:A7}{vs rs:List AV}(H:VwL h vs rs):Vw h (.agg vs) (.agg rs):=by
 intro C hC R u hu;obtain⟨us,rfl,hU⟩:=hu.agg';obtain⟨h1,h2⟩:=H.get;refine .agg _ _ (by rw[hU.1,h1]) λi x hx=>?_;obtain⟨v,hv,hw⟩:=h2 i x hx;exact hw C hC R _ (hU.2 i v hv)
def JD(F:Option FB)(P:Program)(args:List AV)(R:AV->Prop):Prop:=
 match F with
 | some F=>DR P 0 F.code (J9 F.rets R) (DU args F.n) []
 | none=>False
theorem A9.of {P : Program} {g : FuncId} {fn : Func} {args : List AV} {R : AV → Prop} (hf : P.funcs[g]? = some fn) (hname : (fn.name == "runtime.NumGoroutine") = false) (lL : EQ P fn = true) (H : JD (Dh P fn) P args R) : A9 P g args R := by
 unfold JD at H;split at H
 ·rename_i F hF;exact A9.of_fun hf hname hF lL H
 ·exact H.elim
theorem AJ.step{P:Program}{g:FuncId}{args:List AV}{R:AV->Prop}{h:A7}{K:AA->A7->Prop}{a:AA}{dst:Option Nat}(H:A9 P g args R)(ha:Af 0 args=true)(hK:∀r,R r->K (Aj a dst r) h):AJ P g args h (Cn K a dst):=
 AJ.of_pure H ha hK
theorem AJ.stepE{P:Program}{g:FuncId}{args:List AV}{v:AV}{h:A7}{K:AA->A7->Prop}{a:AA}{dst:Option Nat}(H:A9 P g args (· = v))(ha:Af 0 args=true)(hK:K (Aj a dst v) h):AJ P g args h (Cn K a dst):=
 AJ.of_pure H ha λr hr=>hr▸hK
theorem FD.stepE{P:Program}{g:FuncId}{args:List AV}{v:AV}{h0:A7}{K:AA->A7->Prop}{a:AA}{dst:Option Nat}{news:A7}(H:A9 P g args (· = v))(ha:Af 0 args=true)(hK:K (Aj a dst v) news):FD P g args h0 (Gz K a dst news):=
 FD.of_pure H ha hK
mutual
def AV.ren(f:Nat->Nat):AV->AV
 | .agg cs=>.agg (BH f cs)
 | .tuple cs=>.tuple (BH f cs)
 | .list z es=>.list z (Bb f es)
 | .sl s z i n=>.sl (f s) z i n
 | .ref s z i o=>.ref (f s) z i o
 | .cref cs=>.cref (BH f cs)
 | .mapr s=>.mapr (f s)
 | .func g a b=>.func g (BH f a) (BH f b)
 | .iface t v=>.iface t (v.ren f)
 | v=>v
def BH(f:Nat->Nat):List AV->List AV
 | []=>[]
 | c::cs=>c.ren f::BH f cs
def Bb(f:Nat->Nat):List (List AV)->List (List AV)
 | []=>[]
 | c::cs=>BH f c::Bb f cs
end
theorem DF(f:Nat->Nat):∀(l:List AV) (i:Nat),(BH f l)[i]?=(l[i]?).map (AV.ren f)
 | [],i=>by simp[BH]
 | c::cs,0=>by simp[BH]
 | c::cs,i+1=>by simp[BH,DF f cs i]
theorem FE(f:Nat->Nat):∀(l:List (List AV)) (i:Nat),(Bb f l)[i]?=(l[i]?).map (BH f)
 | [],i=>by simp[Bb]
 | c::cs,0=>by simp[Bb]
 | c::cs,i+1=>by simp[Bb,FE f cs i]
theorem Cx(f:Nat->Nat):∀(l:List AV),(BH f l).length=l.length
 | []=>rfl
 | c::cs=>by simp[BH,Cx f cs]
theorem JE(f:Nat->Nat):∀(l:List (List AV)),(Bb f l).length=l.length
 | []=>rfl
 | c::cs=>by simp[Bb,JE f cs]
mutual
theorem FF(f:Nat->Nat):∀(v:AV),v.upto 0=true->v.ren f=v
 | .agg cs,h=>by simp only[AV.ren];rw[II f cs h]
 | .tuple cs,h=>by simp only[AV.ren];rw[II f cs h]
 | .list z es,h=>by simp only[AV.ren];rw[JF f es h]
 | .sl _ _ _ _,h=>by simp[AV.upto] at h
 | .ref _ _ _ _,h=>by simp[AV.upto] at h
 | .mapr _,h=>by simp[AV.upto] at h
 | .cref cs,h=>by simp only[AV.ren];rw[II f cs h]
 | .func g a b,h=>by
   simp only[AV.upto,Bool.and_eq_true] at h;simp only[AV.ren];rw[II f a h.1,II f b h.2]
 | .iface t v,h=>by simp only[AV.ren];rw[FF f v h]
 | .any,_=>rfl
 | .bool _,_=>rfl
 | .int _ _,_=>rfl
 | .str _,_=>rfl
 | .nilp,_=>rfl
 | .nils,_=>rfl
 | .emp,_=>rfl
 | .nilFunc,_=>rfl
 | .nilIface,_=>rfl
theorem II(f:Nat->Nat):∀(l:List AV),Af 0 l=true->BH f l=l
 | [],_=>rfl
 | c::cs,h=>by
   simp only[Af,Bool.and_eq_true] at h;simp only[BH];rw[FF f c h.1,II f cs h.2]
theorem JF(f:Nat->Nat):∀(l:List (List AV)),BC 0 l=true->Bb f l=l
 | [],_=>rfl
 | c::cs,h=>by
   simp only[BC,Bool.and_eq_true] at h;simp only[Bb];rw[II f c h.1,JF f cs h.2]
end
theorem VR.unren{C D:Cfg}{f:Nat->Nat}(hw:D.w=C.w)(ho:∀b,D.own b->C.own b)(hs:∀s,s<D.h.length->C.used (f s)->D.used s/\D.r s=C.r (f s)){y:AV}{v:Value}(h:VR C y v):∀x:AV,x.upto D.h.length=true->x.ren f=y->VR D x v:=by
 have leafy:∀(x:AV),(∀z,x.ren f=z->True):=λ_ _ _=>trivial
 induction h with
 | any v=>intro x hx hr;cases x<;>simp[AV.ren] at hr;exact .any v
 | bool b=>intro x hx hr;cases x<;>simp[AV.ren] at hr;subst hr;exact .bool _
 | int k n=>intro x hx hr;cases x<;>simp[AV.ren] at hr;obtain⟨rfl,rfl⟩:=hr;exact .int _ _
 | str s=>intro x hx hr;cases x<;>simp[AV.ren] at hr;subst hr;exact .str _
 | nilp=>intro x hx hr;cases x<;>simp[AV.ren] at hr;exact .nilp
 | nils=>intro x hx hr;cases x<;>simp[AV.ren] at hr;exact .nils
 | emp a=>intro x hx hr;cases x<;>simp[AV.ren] at hr;exact .emp a
 | nilFunc=>intro x hx hr;cases x<;>simp[AV.ren] at hr;exact .nilFunc
 | nilIface=>intro x hx hr;cases x<;>simp[AV.ren] at hr;exact .nilIface
 | agg cs vs hl h ih =>
   intro x hx hr
   cases x<;>simp[AV.ren] at hr
   rename_i xs;subst hr;refine .agg _ vs (by rw[hl,Cx]) λi u hu=>ih i (u.ren f) (by rw[DF,hu];rfl) u (BK hx hu) rfl
 | tuple cs vs hl h ih =>
   intro x hx hr
   cases x<;>simp[AV.ren] at hr
   rename_i xs;subst hr;refine .tuple _ vs (by rw[hl,Cx]) λi u hu=>ih i (u.ren f) (by rw[DF,hu];rfl) u (BK hx hu) rfl
 | list z es a m cap g hn hc ha hz aS aT hv ih =>
   intro x hx hr
   cases x<;>simp[AV.ren] at hr
   rename_i z' xs;obtain⟨rfl,rfl⟩:=hr;rw[JE] at hn;refine .list _ _ a m cap g hn hc ha (λe he=>?_) (λi j hi hj=>by rw[hw];exact aS i j hi hj) (λh1 h2 h3=>aT h1 h2 (ho _ h3)) λi e he j u hu=>?_
   ·obtain⟨i,hi⟩:=List.mem_iff_getElem?.1 he
    have:=hz (BH f e) (List.mem_of_getElem? (i:=i) (by rw[FE,hi];rfl))
    rwa [Cx] at this
   ·exact ih i (BH f e) (by rw[FE,he];rfl) j (u.ren f) (by rw[DF,hu];rfl) u (BK (Di hx he) hu) rfl
 | listNil z a cap =>
   intro x hx hr
   cases x<;>simp[AV.ren] at hr
   rename_i z' xs;obtain⟨rfl,hr⟩:=hr
   have:xs=[]:=by cases xs with
    | nil=>rfl
    | cons a b=>simp[Bb] at hr
   subst this;exact .listNil _ _ _
 | sl s z i m cap hu hc hsz =>
   intro x hx hr
   cases x<;>simp[AV.ren] at hr
   rename_i s' z' i' n';obtain⟨rfl,rfl,rfl,rfl⟩:=hr;simp only[AV.upto,decide_eq_true_eq] at hx;obtain⟨h1,h2⟩:=hs _ hx hu;rw[<- h2];refine .sl _ _ _ _ cap h1 hc ?_;rw[h2,hw];exact hsz
 | ref s z i o hu =>
   intro x hx hr
   cases x<;>simp[AV.ren] at hr
   rename_i s' z' i' n';obtain⟨rfl,rfl,rfl,rfl⟩:=hr;simp only[AV.upto,decide_eq_true_eq] at hx;obtain⟨h1,h2⟩:=hs _ hx hu;rw[<- h2];exact .ref _ _ _ _ h1
 | mapr s hu =>
   intro x hx hr
   cases x<;>simp[AV.ren] at hr
   rename_i s';subst hr;simp only[AV.upto,decide_eq_true_eq] at hx;obtain⟨h1,h2⟩:=hs _ hx hu;rw[<- h2];exact .mapr _ h1
 | cref cs a g ha aS aT hv ih =>
   intro x hx hr
   cases x<;>simp[AV.ren] at hr
   rename_i xs;subst hr;rw[Cx] at aS aT;exact .cref _ a g ha (λj hj=>by rw[hw];exact aS j hj) (λh1 h3=>aT h1 (ho _ h3)) λj u hu=>ih j (u.ren f) (by rw[DF,hu];rfl) u (BK hx hu) rfl
 | func fn first caps vf vc hf hc h1 h2 uu uq =>
   intro x hx hr
   cases x<;>simp[AV.ren] at hr
   rename_i g a b;obtain⟨rfl,rfl,rfl⟩:=hr;simp only[AV.upto,Bool.and_eq_true] at hx;exact .func _ _ _ vf vc (by rw[hf,Cx]) (by rw[hc,Cx]) (λi u hu=>uu i (u.ren f) (by rw[DF,hu];rfl) u (BK hx.1 hu) rfl) λi u hu=>uq i (u.ren f) (by rw[DF,hu];rfl) u (BK hx.2 hu) rfl
 | iface t y v h ih =>
   intro x hx hr
   cases x<;>simp[AV.ren] at hr
   rename_i t' u;obtain⟨rfl,hr⟩:=hr;exact .iface _ _ _ (ih u hx hr)
def wkL(f:Nat->Nat)(m:Nat):List AV->List AV->Prop
 | [],[]=>True
 | y::ys,x::xs=>(x = .any\/(x.upto m=true/\x.ren f=y))/\wkL f m ys xs
 | _,_=>False
theorem Q9{f:Nat->Nat}{m:Nat}:∀ {ys xs:List AV},wkL f m ys xs->ys.length=xs.length/\∀(i:Nat) (x:AV),xs[i]?=some x->x = .any\/(x.upto m=true/\ys[i]?=some (x.ren f))
 | [],[],_=>⟨rfl,λi x hx=>by simp at hx⟩
 | y::ys,x::xs,h=>by
   obtain⟨h1,h2⟩:=Q9 h.2;refine⟨by simp[h1],λi u hu=>?_⟩
   cases i with
   | zero =>
     simp only[List.getElem?_cons_zero,Option.some.injEq] at hu;subst hu;rcases h.1 with h3|⟨h3,h4⟩
     ·exact .inl h3
     ·exact .inr ⟨h3,by simp[h4]⟩
   | succ i=>simpa using h2 i u (by simpa using hu)
def wkH(f:Nat->Nat)(h:A7)(m:Nat):Nat->A7->Prop
 | _,[]=>True
 | j,.live z es::r=>(h[f j]?=some (.live z (Bb f es))/\BC m es=true)/\wkH f h m (j+1) r
 | _,_=>False
theorem QA{f:Nat->Nat}{h:A7}{m:Nat}:∀ {r:A7} {j:Nat},wkH f h m j r->∀(i:Nat) (x:Ai),r[i]?=some x->∃z es,x = .live z es/\h[f (j+i)]?=some (.live z (Bb f es))/\BC m es=true
 | [],j,_,i,x,hx=>by simp at hx
 | .live z es::r,j,hh,0,x,hx=>by
   simp only[List.getElem?_cons_zero,Option.some.injEq] at hx;exact⟨z,es,hx.symm,hh.1.1,hh.1.2⟩
 | .live z es::r,j,hh,i+1,x,hx=>by
   obtain⟨z',kw,h1,h2,h3⟩:=QA hh.2 i x (by simpa using hx);exact⟨z',kw,h1,by rw[show j+(i+1)=j+1+i by omega];exact h2,h3⟩
 | .free::r,j,hh,_,_,_=>by simp[wkH] at hh
 | .dead::r,j,hh,_,_,_=>by simp[wkH] at hh
theorem Wk.ren{a a':AA}{h h':A7}(f:Nat->Nat)(ha:wkL f h'.length a a')(hh:wkH f h h'.length 0 h')(hinj:∀i j,i<h'.length->j<h'.length->f i=f j->i=j):Wk 0 a h a' h':=by
 intro C act hC S hn;subst hC;obtain⟨h1,h2⟩:=Q9 ha
 have kR:∀s,s<h'.length->∃z es,h'[s]?=some (.live z es)/\C.h[f s]?=some (.live z (Bb f es))/\BC h'.length es=true:=by
  intro s hs;obtain⟨z,es,e1,e2,e3⟩:=QA hh s h'[s] (by simp[hs]);exact⟨z,es,by rw[<- e1];simp[hs],by simpa using e2,e3⟩
 have lC:∀s,Cfg.live { C with h:=h',r:=λs=>C.r (f s) } s->s<h'.length/\C.live (f s):=by
  rintro s ⟨z,es,hx⟩;have hs:=(List.getElem?_eq_some_iff.1 hx).1;obtain⟨z',kw,_,e2,_⟩:=kR s hs;exact⟨hs,z',_,e2⟩
 have aT:∀b,Cfg.own { C with h:=h',r:=λs=>C.r (f s) } b->C.own b:=by
  rintro b (hb|⟨s,hs,hr⟩)
  ·exact .inl hb
  ·exact .inr ⟨f s,(lC s hs).2,hr⟩
 have qE:∀s,s<h'.length->Cfg.used { C with h:=h',r:=λs=>C.r (f s) } s:=λs hs=>by
  obtain⟨z,es,e1,_,_⟩:=kR s hs;exact⟨_,e1,by simp⟩
 have hv:∀ {y:AV} {v:Value},VR C y v->∀x:AV,x.upto h'.length=true->x.ren f=y->VR { C with h:=h',r:=λs=>C.r (f s) } x v:=λhy =>
  VR.unren (C:=C) (D:={ C with h:=h',r:=λs=>C.r (f s) }) rfl aT (λs hs _=>⟨qE s hs,rfl⟩) hy
 refine⟨{ C with h:=h',r:=λs=>C.r (f s) },rfl,rfl,⟨?_,?_,S.nodef⟩,?_,Nat.zero_le _⟩
 ·refine⟨λs z es hl=>?_,λs t hs ht hr=>?_,S.rel.olt,λp hp=>(S.rel.glo p hp).recfg (C:=C) (D:={ C with h:=h',r:=λs=>C.r (f s) }) rfl aT (FC hp 0),S.rel.gsz⟩
  ·have hs:=(List.getElem?_eq_some_iff.1 hl).1
   obtain⟨z',kw,e1,e2,e3⟩:=kR s hs
   have:Ai.live z es=Ai.live z' kw:=by
    have:some (Ai.live z es)=some (Ai.live z' kw):=hl.symm.trans e1;simpa using this
   cases this
   obtain⟨g2,o,g,g4,g5,g6⟩:=S.rel.livx (f s) z _ e2;refine⟨g2,o,g,g4,g5.congr (JE f es).symm λi e he=>⟨BH f e,by rw[FE,he];rfl,(Cx f e).symm⟩,λi e he j x hx=>?_⟩
   ·exact hv (g6 i (BH f e) (by rw[FE,he];rfl) j (x.ren f) (by rw[DF,hx];rfl)) x (BK (Di e3 he) hx) rfl
  ·obtain⟨k1,k2⟩:=lC s hs
   obtain⟨k3,k4⟩:=lC t ht;exact hinj s t k1 k3 (S.rel.inj _ _ k2 k4 hr)
 ·refine⟨by rw[S.vrs.1,h1],λi x hx=>?_⟩
  rcases h2 i x hx with rfl|⟨h3,h4⟩
  ·exact .any _
  ·exact hv (S.vrs.2 i _ h4) x h3 rfl
 ·exact⟨rfl,rfl,rfl,rfl,Nat.le_refl _,λs hs=>absurd hs (Nat.not_lt_zero _),λb hb ku=>⟨rfl,λ⟨s,hs,hr⟩=>ku ⟨f s,(lC s hs).2,hr⟩⟩,λb x hx=>hx⟩
end Go.Eng
