/- Parts of the proofs. -/
import Derived.Test.YtlchlddijclhjaaGreatS3
set_option linter.unusedVariables false
set_option linter.unusedSimpArgs false
namespace Go.Eng
open Go Go.RowKit
theorem Rel.reserve{C:Cfg}(R:Rel C)(h':k00)(hh:∀(s:Nat) (x:k27),x ≠ .free->(h'[s]?=some x↔C.h[s]?=some x))(n:Nat):Rel { C with h:=h' }/\Ext n C { C with h:=h' }:=by
 have hlive:∀k,Cfg.live { C with h:=h' } k↔C.live k:=by
  intro k;constructor
  ·rintro⟨z,es,hx⟩;exact⟨z,es,(hh k _ (by simp)).1 hx⟩
  ·rintro⟨z,es,hx⟩;exact⟨z,es,(hh k _ (by simp)).2 hx⟩
 have he:∀n,Ext n C { C with h:=h' }:=λn=>⟨rfl,rfl,rfl,rfl,Nat.le_refl _,λs _ ⟨x,hx,hf⟩=>⟨⟨x,(hh s x hf).2 hx,hf⟩,rfl⟩,λb hb ho=>⟨rfl,λ⟨s,hs,hr⟩=>ho ⟨s,(hlive s).1 hs,hr⟩⟩,λb x hx=>hx⟩;exact⟨R.of_ext (he _) (λs z es hl=>.inl ⟨(hh s _ (by simp)).1 hl,rfl,rfl⟩) (λs t hs ht hr=>R.inj s t ((hlive s).1 hs) ((hlive t).1 ht) hr),he n⟩
theorem kIN{dst:Nat->Option Nat}{val:Nat->AV}{g:Nat->AV}{t:Nat}:∀n,cur dst val (λ_=>false) g n t=g t
 | 0=>rfl
 | n+1=>by rw[cur,if_neg (by simp)];exact kIN n
theorem kSQ(n:Nat):kKP (λ_=>false) n=n:=by
 induction n with
 | zero=>rfl
 | succ n ih=>simp[kKP,ih]
def kLK(P:Program)(K:k09->k00->Prop)(h:k00)(tl:List k0J):k09->k00->Prop:=λa news=>k4B P K tl a (h++news)
def k1A(o:Oper):List Nat:=(o.after.toList.filter (Region.binds .any)).map (·.on)
def kZO(l:List (Nat×List Nat)):Nat->List Nat->List Nat
 | 0,done=>done
 | f+1,done=>match l.find? (λx=> !done.contains x.1 && x.2.all done.contains) with
   | some x=>kZO l f (done++[x.1])
   | none=>done
def kGM:Nat->List Oper->Bool
 | _,[]=>true
 | i,o::l=>(k1A o).all (λe=>decide (e<i)) && kGM (i+1) l
def kEQ:Nat->List Oper->List (Nat×List Nat)
 | _,[]=>[]
 | i,o::l=>(i,k1A o)::kEQ (i+1) l
def kVS(l:List Oper):List Nat:=kZO (kEQ 0 l) l.length []
def k7L(p:List Nat)(i:Nat):Nat:=p.idxOf i
def kCZ(p:List Nat)(o:Oper):Oper:={ o with after:=o.after.map λe=>{ e with on:=k7L p e.on } }
def k3P(p:List Nat)(l:List Oper):List Oper:=p.map λi=>match l[i]? with|some o=>kCZ p o|none=>default
def k6H(l:List Oper):List Oper:=if kGM 0 l then l else k3P (kVS l) l
def kQR(p:List Nat)(l:List Oper):Bool:=
 p.length == l.length && (List.range l.length).all (λi=>decide (p.getD i 0<l.length) && decide (k7L p i<l.length) && k7L p (p.getD i 0) == i && p.getD (k7L p i) 0 == i) &&
 l.all (λo=>o.guard.isNone && o.after.all (λe=>decide (e.on<l.length)))
def kM4(l:List Oper):Bool:=kGM 0 l || kQR (kVS l) l
theorem kQB{P:Program}{p:List Nat}{o:Oper}{a:Act}{w:World}{K:Act->World->Prop}{Q:Exit->Act->World->Prop}:(kCZ p o).wp P a w K Q=o.wp P a w K Q:=rfl
theorem kJJ{P:Program}{p:List Nat}{o:Oper}{a:Act}{w:World}:(kCZ p o).asks P a w=o.asks P a w:=rfl
theorem kG6{p:List Nat}{o:Oper}:(kCZ p o).guard=o.guard:=rfl
theorem kQO{P:Program}{p:List Nat}{l:List Oper}{Q:Exit->Act->World->Prop}(hp:kQR p l=true):∀(f:Nat) (listed listed':Array Bool) (a:Act) (w:World),listed.size=l.length->listed'.size=l.length->(∀i,i<l.length->listed'.getD i false=listed.getD (p.getD i 0) false) ->
 wpAny P .any (k3P p l).toArray Q f listed' a w->wpAny P .any l.toArray Q f listed a w:=by
 simp only[kQR,Bool.and_eq_true,beq_iff_eq,List.all_eq_true,List.mem_range,decide_eq_true_eq] at hp;obtain⟨⟨zE,hpq⟩,hops⟩:=hp
 have hro:∀k,k<l.length->∃o,l[p.getD k 0]?=some o/\(k3P p l)[k]?=some (kCZ p o):=by
  intro k hk;have h1:=(hpq k hk).1.1.1;refine⟨l[p.getD k 0],List.getElem?_eq_getElem h1,?_⟩;have hk':k<p.length:=(by omega);have e:p.getD k 0=p[k]:=by rw[List.getD_eq_getElem?_getD,List.getElem?_eq_getElem hk'];rfl
  have e2:(k3P p l)[k]?=some (match l[p[k]]? with|some o=>kCZ p o|none=>default):=by
   unfold k3P;rw[List.getElem?_map,List.getElem?_eq_getElem hk'];rfl
  rw[e2];have h2:p[k]<l.length:=(by rw[<- e];exact h1);rw[List.getElem?_eq_getElem h2];simp only[e]
 have hsz:(k3P p l).length=l.length:=by simp[k3P,zE]
 -- those that are ready are the same ones
 have hready:∀(listed listed':Array Bool),listed.size=l.length->listed'.size=l.length->(∀i,i<l.length->listed'.getD i false=listed.getD (p.getD i 0) false)->∀k,k<l.length->(k∈Region.ready .any (k3P p l).toArray listed'↔p.getD k 0∈Region.ready .any l.toArray listed):=by
  intro listed listed' s1 s2 hrel k hk;obtain⟨o,ho,ho'⟩:=hro k hk;have hpk:=(hpq k hk).1.1.1;have hmem:o∈l:=List.mem_of_getElem? ho;have hon:=hops o hmem
  have yM:listed'.getD k true=false↔listed.getD (p.getD k 0) true=false:=by
   have e:=hrel k hk;constructor
   ·intro h;exact getD_in (by omega) (by rw[<- e];exact getD_both h)
   ·intro h;exact getD_in (by omega) (by rw[e];exact getD_both h)
  have hlst:∀e:Edge,e∈o.after->(listed'.getD (k7L p e.on) false=listed.getD e.on false):=by
   intro e he;have h1:=Array.all_eq_true_iff_forall_mem.1 hon.2 e he;have h2:e.on<l.length:=(by simpa using h1);have h3:=hpq e.on h2;rw[hrel _ h3.1.1.2,h3.2]
  rw[mem_ready,mem_ready,yM];constructor
  ·rintro⟨h1,o',h2,h3⟩
   refine⟨h1,o,by simpa using ho,λe he hb=>?_⟩
   have:o'=kCZ p o:=by
    have:(k3P p l)[k]?=some o':=(by simpa using h2);rw[ho'] at this;exact(Option.some.inj this).symm
   subst this;have:=h3 { e with on:=k7L p e.on } (Array.mem_map.2 ⟨e,he,rfl⟩) hb;rw[<- hlst e he];exact this
  ·rintro⟨h1,o',h2,h3⟩
   have:o'=o:=by
    have:l[p.getD k 0]?=some o':=(by simpa using h2);rw[ho] at this;exact(Option.some.inj this).symm
   subst this;refine⟨h1,kCZ p o',by simpa using ho',λe he hb=>?_⟩;obtain⟨e0,he0,rfl⟩:=Array.mem_map.1 he;have:=h3 e0 he0 hb;show listed'.getD (k7L p e0.on) false=true;rw[hlst e0 he0];exact this
 have hrange:∀(ops:List Oper) (listed:Array Bool) (i:Nat),i∈Region.ready .any ops.toArray listed->i<ops.length:=by
  intro ops listed i hi;obtain⟨_,o,ho,_⟩:=mem_ready.1 hi;have:=(Array.getElem?_eq_some_iff.1 ho).1;simpa using this
 have hnil:∀(listed listed':Array Bool),listed.size=l.length->listed'.size=l.length->(∀i,i<l.length->listed'.getD i false=listed.getD (p.getD i 0) false)->(Region.ready .any (k3P p l).toArray listed'=[]↔Region.ready .any l.toArray listed=[]):=by
  intro listed listed' s1 s2 hrel;constructor
  ·intro h
   cases hr:Region.ready .any l.toArray listed with
   | nil=>rfl
   | cons x xs =>
     exfalso;have hx:x∈Region.ready .any l.toArray listed:=(by rw[hr];simp);have hxl:=hrange _ _ _ hx;have h3:=hpq x hxl;have:=(hready listed listed' s1 s2 hrel (k7L p x) h3.1.1.2).2 (by rw[h3.2];exact hx);rw[h] at this;cases this
  ·intro h
   cases hr:Region.ready .any (k3P p l).toArray listed' with
   | nil=>rfl
   | cons x xs =>
     exfalso;have hx:x∈Region.ready .any (k3P p l).toArray listed':=(by rw[hr];simp);have hxl:=hrange _ _ _ hx;have:=(hready listed listed' s1 s2 hrel x (by omega)).1 hx;rw[h] at this;cases this
 intro f
 induction f with
 | zero =>
   intro listed listed' a w s1 s2 hrel h;exact⟨(hnil listed listed' s1 s2 hrel).1 h.1,h.2⟩
 | succ f ih =>
   intro listed listed' a w s1 s2 hrel h;refine⟨λhn=>h.1 ((hnil listed listed' s1 s2 hrel).2 hn),λi hi=>?_⟩;have hil:=hrange _ _ _ hi;have h3:=hpq i hil;have hk:=(hready listed listed' s1 s2 hrel (k7L p i) h3.1.1.2).2 (by rw[h3.2];exact hi);have hw:=h.2 (k7L p i) hk;obtain⟨o,ho,ho'⟩:=hro (k7L p i) h3.1.1.2;rw[h3.2] at ho
   have hg:o.guard=none:=by
    have:=(hops o (List.mem_of_getElem? ho)).1;simpa using this
   have hnext:∀a w,wpAny P .any (k3P p l).toArray Q f (listed'.setIfInBounds (k7L p i) true) a w->wpAny P .any l.toArray Q f (listed.setIfInBounds i true) a w:=by
    intro a w;refine ih _ _ a w (by simp[s1]) (by simp[s2]) λj hj=>?_;have hj3:=hpq j hj;by_cases hji:j=k7L p i
    ·subst hji
     rw[h3.2];have e1:k7L p i<listed'.size:=by have:=h3.1.1.2;omega
     have e2:i<listed.size:=(by omega);simp[e1,e2]
    ·have hne:p.getD j 0≠i:=λe=>hji (by rw[<- e];exact hj3.1.2.symm)
     rw[getD_set_ne false (Ne.symm hji),getD_set_ne false (Ne.symm hne)];exact hrel j hj
   unfold wpOp at hw ⊢;have ho2:l.toArray[i]?=some o:=(by simpa using ho);have ho2':(k3P p l).toArray[k7L p i]?=some (kCZ p o):=(by simpa using ho');rw[ho2'] at hw;rw[ho2];simp only[Region.wanted,hg,kG6,if_true] at hw ⊢;rw[kQB,kJJ] at hw;exact hw.imp (Oper.wp_mono hnext) id
theorem kM3{P:Program}{l:List Oper}(h:kM4 l=true)(Q:Exit->Act->World->Prop)(a:Act)(w:World)(H:wpAny P .any (k6H l).toArray Q (k6H l).length (Array.replicate (k6H l).length false) a w) :
 wpAny P .any l.toArray Q l.length (Array.replicate l.length false) a w:=by
 unfold kM4 at h;unfold k6H at H;split at H
 ·exact H
 ·rename_i hn
  simp only[hn,Bool.false_or] at h
  have zE:(k3P (kVS l) l).length=l.length:=by
   have:=h;simp only[kQR,Bool.and_eq_true,beq_iff_eq] at this;simp[k3P,this.1.1]
  rw[zE] at H;refine kQO h l.length _ _ a w (by simp) (by simp) (λi hi=>?_) H;rw[getD_replicate_false,getD_replicate_false]
theorem AWp.draw0{P:Program}{n:Nat}{Q:k17}{a:k09}{h:k00}{id:Nat}{l0:List Oper}{hd tl:List k0J}{ops:Array Oper}(hperm:∀Q a w,wpAny P .any l0.toArray Q l0.length (Array.replicate l0.length false) a w->wpAny P .any ops Q ops.size (Array.replicate ops.size false) a w)(hm:P.follows .mixedOrders=true)(hB:kK3 l0 hd=true)
 (hc1:k0R P l0 (l0.take hd.length)=some hd) (hc2:k0R P l0 (l0.drop hd.length)=some tl) (hQp:∀c a h,¬Q (.panic c) a h) (H:k4H P h (kLK P (Q .normal) h tl) hd a []):AWp P n (.region id ops true) Q a h:=by
 intro C act hC S hn;obtain⟨rs,a',news',hch,hK⟩:=kA8 hc1 H;obtain⟨c1,c2,c3,c4,c5,c6⟩:=hch.at
 obtain⟨b1,b2,b3,b4⟩:=kC9 hB;have hle:hd.length<=l0.length:=by rcases b3 with h|h<;>omega
 simp only[List.nil_append] at c5;refine wp_region_any hm (hperm _ _ _ ?_);obtain⟨R1,E1⟩:=S.rel.sameHeap (w:={ C.w with drawn:=C.w.drawn+1 }) rfl rfl rfl rfl C.h.length
 have hfree:∀(s:Nat) (x:k27),x≠k27.free->((C.h++List.replicate (rs.map (·.2)).flatten.length .free)[s]?=some x↔C.h[s]?=some x):=by
  intro s x hx;by_cases hs:s<C.h.length
  ·rw[List.getElem?_append_left hs]
  ·rw[List.getElem?_append_right (by omega),List.getElem?_eq_none (show C.h.length<=s by omega),List.getElem?_replicate]
   constructor
   ·intro hh
    split at hh
    ·cases hh;exact absurd rfl hx
    ·cases hh
   ·intro hh;cases hh
 obtain⟨R2,E2⟩:=R1.reserve (C.h++List.replicate (rs.map (·.2)).flatten.length .free) hfree C.h.length;have E12:=E1.trans E2;generalize hC1:({ C with w:={ C.w with drawn:=C.w.drawn+1 },h:=C.h++List.replicate (rs.map (·.2)).flatten.length .free }:Cfg)=C1 at R2 E2 E12;have hC1h:C1.h=C.h++List.replicate (rs.map (·.2)).flatten.length .free:=by rw[<- hC1]
 have hC1w:C1.w={ C.w with drawn:=C.w.drawn+1 }:=by rw[<- hC1]
 have I0:q2T C.h hd rs a (λi=>(Array.replicate l0.length false).getD i false) C1 act:=by
  have hS:(λi=>(Array.replicate l0.length false).getD i false)=λ_=>false:=(by funext i;exact getD_replicate_false _ _);rw[hS];refine⟨R2,S.nodef,S.vrs.1,by rw[hC1h];simp,λk hk=>by rw[hC1h,List.getElem?_append_left hk],λi x hx=>?_,λt ht=>?_⟩
  ·have:=kAN hx
   have hlt:=(List.getElem?_eq_some_iff.1 this).1;rw[hC1h,List.getElem?_append_right (by omega),List.getElem?_replicate,if_pos (by omega)];simp
  ·rw[kIN]
   exact E12.vr' (S.vrs.get t)
 have main:=kR7 (Q:=k7Z n C Q) hch (λi hi=>by rw[List.getElem?_take,if_pos hi]) hB (λc a w ⟨a',D,h1,_⟩=>hQp c a' D.h h1) C1 (by rw[hC1h];subst hC;simp) (λD act' I E=>?_) hd.length (Array.replicate l0.length false) C1 act
  (by
    have hS:(λi=>(Array.replicate l0.length false).getD i false)=λ_=>false:=(by funext i;exact getD_replicate_false _ _);rw[hS];exact kSQ _)
  ⟨by simp,λj _ _ hl=>(by rw[getD_replicate_false] at hl;cases hl),λt _ ht=>getD_in (by simpa using ht) (getD_replicate_false _ _)⟩ (hC▸I0) (Ext.refl _ _) rfl
 ·rw[hC1w] at main
  rw[show hd.length+(l0.length-hd.length)=l0.length by omega] at main;simpa using main
 ·-- all of the head is done
  have hDh:D.h=C.h++news':=by
   apply List.ext_getElem?;intro k;by_cases hk:k<C.h.length
   ·rw[List.getElem?_append_left hk];subst hC;exact I.old k hk
   ·by_cases hk2:k-C.h.length<(rs.map (·.2)).flatten.length
    ·obtain⟨i,x,h1,h2,h3⟩:=kTD (λi=>by
      by_cases hi:i<hd.length
      ·obtain⟨_,_,_,_,_,_,h4,_⟩:=c6 i hi;exact h4
      ·simp only[k1B];rw[List.getElem?_eq_none (by omega)];simp) hk2
     have:=I.new i x h2;rw[List.getElem?_append_right (by omega),c5];have e:=kAN h2;rw[h3] at e;rw[e];subst hC;have hkk:C.h.length+k3U rs i=k:=(by omega);rw[hkk] at this;simpa using this
    ·rw[List.getElem?_eq_none (by rw[I.len];subst hC;omega),List.getElem?_eq_none (by rw[List.length_append,c5];omega)]
  have S':St D a' act':=by
   refine⟨I.rel,⟨by rw[I.size,c3],λt x hx=>?_⟩,I.nodef⟩
   have htl:t<a.length:=by
    have:=(List.getElem?_eq_some_iff.1 hx).1;omega
   have:=I.vrs t htl;rw[<- c4 t htl,List.getD_eq_getElem?_getD,hx] at this;exact this
  have hnD:n<=D.h.length:=(by rw[hDh];subst hC;simp;omega);have E':Ext n C D:=(E12.mono (hC▸hn)).trans (E.mono (by rw[hC1h];subst hC;simp;omega))
  have hK':k4B P (Q .normal) tl a' D.h:=by
   have:kLK P (Q .normal) h tl a' news':=hK;unfold kLK at this;rw[hDh,hC];exact this
  exact k38 hc2 S' hnD hK' λa3 D3 act3 m1 m2 m3 m4=>⟨a3,D3,m1,rfl,m2,E'.trans m3,m4⟩
def kVT(Q:k17):k17
 | .normal,a,h=>Q .normal a h
 | _,_,_=>False
theorem AWp.draw{P:Program}{n:Nat}{Q:k17}{a:k09}{h:k00}{id:Nat}{l0:List Oper}{hd tl:List k0J}{ops:Array Oper}(hperm:∀Q a w,wpAny P .any l0.toArray Q l0.length (Array.replicate l0.length false) a w->wpAny P .any ops Q ops.size (Array.replicate ops.size false) a w)(hm:P.follows .mixedOrders=true)(hB:kK3 l0 hd=true)
 (hc1:k0R P l0 (l0.take hd.length)=some hd) (hc2:k0R P l0 (l0.drop hd.length)=some tl) (H:k4H P h (kLK P (Q .normal) h tl) hd a []):AWp P n (.region id ops true) Q a h:=
 (AWp.draw0 (Q:=kVT Q) hperm hm hB hc1 hc2 (λc a h hh=>hh) H).post λe a h hq=>by
   cases e with
   | normal=>exact⟨a,h,Wk.refl _ _ _,hq⟩
   | _=>exact hq.elim
inductive k2Z where
 | skip
 | ops (l:List k0J)
 | draw (hd tl:List k0J)
 | any (l:List k0J) (deps:List (List Nat))
 | bad
 | seq (a b:k2Z)
 | cond (x:k0B) (p q:k2Z)
 | block (id:Nat) (c:k2Z)
 | loop (c:k2Z)
 | exit (id:Nat)
 | ret
def AOp.inHead:AOp->Bool
 | .store _ _ _=>false
 | .app _ _ _ _=>false
 | .mput _ _ _ _ _ _=>false
 | .xop _ _ _=>false
 | _=>true
def AOp.mute(P:Program):AOp->Bool
 | .call (.func g) _=>(match P.funcs[g]? with|some f=>f.results.isEmpty|none=>false)
 | _=>false
def headLen(P:Program):List k0J->Nat
 | []=>0
 | o::l=>if o.op.inHead then (if o.op.mute P then 0 else headLen P l+1) else 0
def kW6:Op->Bool
 | .store _ _ _=>true
 | _=>false
def kZY:Op->Bool
 | .load _ _=>true
 | _=>false
def kAG:List Oper->Nat
 | []=>0
 | o::l=>if kW6 o.op then 0 else kAG l+1
def k0N:List Nat->Nat->Bool
 | [],_=>false
 | y::r,x=>match Nat.beq y x with|true=>true|false=>k0N r x
theorem k2O{x:Nat}:∀ {l:List Nat},k0N l x=l.contains x
 | []=>rfl
 | y::r=>by
   unfold k0N;rw[List.contains_cons,<- k2O (l:=r)]
   cases hb:Nat.beq y x with
   | true=>have:=Nat.eq_of_beq_eq_true hb;subst this;simp
   | false =>
     have:(x == y)=false:=by
      cases hc:x == y with
      | false=>rfl
      | true=>have:=eq_of_beq hc;subst this;rw[Nat.beq_refl] at hb;cases hb
     simp[this]
def kN1(s:Nat):Nat->List Oper->List (List Nat)->Bool
 | j,o::l,_::D=>(match Nat.blt j s with
   | true=>(match kZY o.op with
     | true=>(match (D.take (s-j)).any (λd=>k0N d j) with|true=>kN1 s (j+1) l D|false=>true)
     | false=>kN1 s (j+1) l D)
   | false=>false)
 | _,_,_=>false
def kR2(l:List Oper)(D:List (List Nat)):Bool:=match Nat.blt (kAG l) l.length with|true=>kN1 (kAG l) 0 l D|false=>false
def q27:Op->Bool
 | .call c=>(match c.callee with | .builtin .append=>true|_=>false)
 | _=>false
def kZZ:Op->Bool
 | .buildSlice _ _ _=>true
 | _=>false
def kN0:List Oper->Bool
 | []=>false
 | o::l=>if q27 o.op then l.any (λo=>kZZ o.op) else kN0 l
def kW7:Op->Bool
 | .call c=>(match c.callee with | .builtin _=>false|_=>true)
 | .binOp _ _ _ _ _=>true
 | _=>false
def kM7(D:List (List Nat)):Nat->List Nat->List Nat
 | 0,s=>s
 | i+1,s=>kM7 D i (match k0N s i with|true=>D.getD i []++s|false=>s)
def kOF(s:Nat)(R:List Nat):Nat->List Oper->Bool
 | j,o::l=>(match Nat.blt j s with
   | true=>(match kW7 o.op with
     | true=>(match k0N R j with|true=>kOF s R (j+1) l|false=>true)
     | false=>kOF s R (j+1) l)
   | false=>false)
 | _,_=>false
def kR3(l:List Oper)(D:List (List Nat)):Bool:=match Nat.blt (kAG l) l.length with|true=>kOF (kAG l) (kM7 D (kAG l+1) [kAG l]) 0 l|false=>false
def kYD(l:List Oper)(D:List (List Nat)):Bool:=kR2 l D || kN0 l || kR3 l D
def k8V(l:List Oper):Bool:=kYD l (l.map k1A)
def k16(done:List Nat):Nat->List (List Nat)->List Nat
 | _,[]=>[]
 | i,d::ds=>if !done.contains i && d.all done.contains then i::k16 done (i+1) ds else k16 done (i+1) ds
def kOV:List Nat->(Nat->Prop)->Prop
 | [],_=>True
 | [i],F=>F i
 | i::j::l,F=>F i/\kOV (j::l) F
theorem k6X{F:Nat->Prop}:∀ {l:List Nat},kOV l F->∀i,i∈l->F i
 | [],_,i,h=>by cases h
 | [j],h,i,hi=>by simp at hi;subst hi;exact h
 | j::k::l,h,i,hi=>by
   rcases List.mem_cons.1 hi with rfl|hi
   ·exact h.1
   ·exact k6X h.2 i hi
theorem kDT{F G:Nat->Prop}(h:∀i,F i->G i):∀ {l:List Nat},kOV l F->kOV l G
 | [],_=>trivial
 | [j],hh=>h _ hh
 | j::k::l,hh=>⟨h _ hh.1,kDT h hh.2⟩
def kVL:Op->Bool
 | .move _=>true
 | .assign _=>true
 | .extract _ _=>true
 | .fieldAddr _ _ _=>true
 | .nilCheck _=>true
 | _=>false
def q1T(o:Oper):List Nat:=o.op.operands.toList.filterMap fun | .tmp t=>some t|_=>none
def q20:Op->Bool
 | .select _ _=>false
 | _=>true
def kE6(deps tm:List Nat):Nat->List Oper->Bool
 | _,[]=>true
 | k,p::r=>(match p.dst with|some d=>(match k0N tm d with|true=>k0N deps k|false=>true)|none=>true) && kE6 deps tm (k+1) r
def k9Q:List (Option Nat)->Bool
 | []=>true
 | none::r=>k9Q r
 | some d::r=>r.all (λx=>match x with|some e=> !Nat.beq e d|none=>true) && k9Q r
def kLO(l:List Oper):Bool:=l.all (λo=>o.guard.isNone && q20 o.op && kE6 (k1A o) (q1T o) 0 l) && k9Q (l.map (·.dst))
def kIE(l:List Oper)(done:List Nat)(i:Nat):Bool:=match l[i]? with
 | some o=>kVL o.op && !k0N done i && (k1A o).all (k0N done)
 | none=>false
def k6M(l:List Oper):List Nat:=((List.range l.length).foldl (λdone i=>match kIE l done i with|true=>i::done|false=>done) []).reverse
def k9B(l:List Oper):List Nat->List Nat->Bool
 | _,[]=>true
 | done,i::r=>kIE l done i && k9B l (i::done) r
def kC3:List Nat->List Nat->Nat->List Nat
 | _,[],_=>[]
 | p,x::r,i=>match Nat.beq x i with|true=>p|false=>kC3 [x] r i
def k2Y(E:List Nat):Nat->List (List Nat)->List (List Nat)
 | _,[]=>[]
 | i,d::ds=>(match k0N E i with|true=>kC3 [] E i|false=>E.getLast?.toList++d)::k2Y E (i+1) ds
def q1X(E:List Nat)(l:List Oper):List (List Nat):=match k9B l [] E && Nat.ble E.length l.length with|true=>k2Y E 0 (l.map k1A)|false=>l.map k1A
def k46(l:List Oper):List (List Nat):=(match kLO l with|true=>q1X (k6M l) l|false=>l.map k1A)
def k35(P:Program)(K:k09->k00->Prop)(al:List k0J)(deps:List (List Nat)):Nat->List Nat->k09->k00->Prop
 | 0,done,a,h=>if (k16 done 0 deps).isEmpty then K a h else False
 | f+1,done,a,h=>if (k16 done 0 deps).isEmpty then K a h else kOV (k16 done 0 deps) λi=>match al[i]? with|some o=>k4B P (k35 P K al deps f (i::done)) [o] a h|none=>False
def k6Z:Option k2Z->Option k2Z
 | some c=>some c
 | none=>some .bad
def k07(P:Program):Code->Option k2Z
 | .skip=>some .skip
 | .region _ ops false=>k6Z ((k0R P ops.toList ops.toList).map .ops)
 | .region _ ops true=>match k8V ops.toList with|true=>k6Z ((k0R P ops.toList ops.toList).map λal=>.any al (k46 ops.toList))|false=>k6Z ((k0R P (k6H ops.toList) (k6H ops.toList)).map λal=>.draw (al.take (headLen P al)) (al.drop (headLen P al)))
 | .seq a b =>
   match k07 P a,k07 P b with
   | some x,some y=>some (.seq x y)
   | _,_=>none
 | .cond c p q =>
   match k0C c,k07 P p,k07 P q with
   | some c,some p,some q=>some (.cond c p q)
   | _,_,_=>none
 | .block id c=>(k07 P c).map (.block id)
 | .loop c=>(k07 P c).map .loop
 | .exit id=>some (.exit id)
 | .ret=>some .ret
 | _=>some .bad
def k37(P:Program):Code->Bool
 | .region _ ops true=>if k8V ops.toList then P.follows .mixedOrders else
   match k0R P (k6H ops.toList) (k6H ops.toList) with
   | some al=>P.follows .mixedOrders && (kM4 ops.toList && kK3 (k6H ops.toList) (al.take (headLen P al)))
   | none=>true
 | .seq a b=>k37 P a && k37 P b
 | .cond _ p q=>k37 P p && k37 P q
 | .block _ c=>k37 P c
 | .loop c=>k37 P c
 | _=>true
def kHE(P:Program)(n:Nat)(c:k2Z)(Q:k17)(a:k09)(h:k00):Prop:=∀code,k07 P code=some c->k37 P code=true->AWp P n (.loop code) Q a h
def kT7(a:k09)(x:k0B)(b:Bool):k09:=match x with | .tmp t=>a.set t (.bool b)|_=>a
def k3N(P:Program)(n:Nat):k2Z->k17->k09->k00->Prop
 | .skip,Q,a,h=>Q .normal a h
 | .ops l,Q,a,h=>k4B P (Q .normal) l a h
 | .draw hd tl,Q,a,h=>k4H P h (kLK P (Q .normal) h tl) hd a []
 | .any al deps,Q,a,h=>k35 P (Q .normal) al deps al.length [] a h
 | .bad,Q,a,h=>False
 | .seq x y,Q,a,h=>k3N P n x (k6Y (k3N P n y Q) Q) a h
 | .cond x p q,Q,a,h=>(match evA a x with | .bool t=>(t=true->k3N P n p Q (kT7 a x true) h)/\(t=false->k3N P n q Q (kT7 a x false) h)|_=>False)
 | .block id c,Q,a,h=>k3N P n c (k33 id Q) a h
 | .loop c,Q,a,h=>kHE P n c Q a h
 | .exit id,Q,a,h=>Q (.exit id) a h
 | .ret,Q,a,h=>Q .ret a h
theorem k1H{P:Program}{l0:List Oper}:∀ {l:List Oper} {al:List k0J},k0R P l0 l=some al->al.length=l.length/\∀n,k0R P l0 (l.take n)=some (al.take n)/\k0R P l0 (l.drop n)=some (al.drop n)
 | [],al,h=>by
   simp only[k0R,Option.some.injEq] at h;subst h;exact⟨rfl,λn=>⟨by simp[k0R],by simp[k0R]⟩⟩
 | o::l,al,h=>by
   simp only[k0R] at h;split at h
   ·rename_i x y hx hy
    simp only[Option.some.injEq] at h;subst h;obtain⟨h1,h2⟩:=k1H hy;refine⟨by simp[h1],λn=>?_⟩
    cases n with
    | zero=>exact⟨by simp[k0R],by simp[k0R,hx,hy]⟩
    | succ n =>
      obtain⟨h3,h4⟩:=h2 n;exact⟨by simp[k0R,hx,h3],by simpa using h4⟩
   ·cases h
theorem k3H{done:List Nat}{i:Nat}:∀ {ds:List (List Nat)} {k:Nat},i∈k16 done k ds↔k<=i/\done.contains i=false/\∃d,ds[i-k]?=some d/\∀e,e∈d->done.contains e=true
 | [],k=>by simp[k16]
 | d::ds,k=>by
   have ih:=k3H (done:=done) (i:=i) (ds:=ds) (k:=k+1);have hd:∀d':List Nat,d'.all done.contains=true↔∀e,e∈d'->done.contains e=true:=λd'=>(by rw[List.all_eq_true]);unfold k16;by_cases hik:i=k
   ·subst hik
    constructor
    ·intro h
     split at h
     ·rename_i hc
      simp only[Bool.and_eq_true] at hc;exact⟨Nat.le_refl _,by simpa using hc.1,d,by simp,(hd d).1 hc.2⟩
     ·have:=(ih.1 h).1;omega
    ·rintro⟨_,h1,d',h2,h3⟩
     simp at h2;subst h2;rw[if_pos (by rw[Bool.and_eq_true];exact⟨by simpa using h1,(hd d).2 h3⟩)];exact List.mem_cons_self ..
   ·have key:i∈k16 done (k+1) ds↔k<=i/\done.contains i=false/\∃d',(d::ds)[i-k]?=some d'/\∀e,e∈d'->done.contains e=true:=by
     rw[ih];constructor
     ·rintro⟨h1,h2,d',h3,h4⟩
      exact⟨by omega,h2,d',by rw[show i-k=(i-(k+1))+1 by omega];simpa using h3,h4⟩
     ·rintro⟨h1,h2,d',h3,h4⟩
      refine⟨by omega,h2,d',?_,h4⟩;rw[show i-k=(i-(k+1))+1 by omega] at h3;simpa using h3
    split
    ·rw[List.mem_cons]
     constructor
     ·rintro(h|h)
      ·exact absurd h hik
      ·exact key.1 h
     ·intro h;exact .inr (key.2 h)
    ·exact key
theorem k39{l0:List Oper}{listed:Array Bool}{done:List Nat}(hs:listed.size=l0.length)(hrel:∀i,listed.getD i false=done.contains i)(i:Nat):i∈Region.ready .any l0.toArray listed↔i∈k16 done 0 (l0.map k1A):=by
 rw[k3H,mem_ready]
 have hdep:∀o:Oper,(∀e,e∈o.after->Region.binds .any e=true->listed.getD e.on false=true)↔∀e,e∈k1A o->done.contains e=true:=by
  intro o;constructor
  ·intro h e he
   obtain⟨x,hx,rfl⟩:=List.mem_map.1 he;obtain⟨h1,h2⟩:=List.mem_filter.1 hx;rw[<- hrel];exact h x (by simpa using h1) h2
  ·intro h e he hb
   rw[hrel];exact h e.on (List.mem_map.2 ⟨e,List.mem_filter.2 ⟨by simpa using he,hb⟩,rfl⟩)
 constructor
 ·rintro⟨h1,o,h2,h3⟩
  refine⟨Nat.zero_le _,by rw[<- hrel];exact getD_both h1,k1A o,?_,(hdep o).1 h3⟩;have:l0[i]?=some o:=(by simpa using h2);simp[this]
 ·rintro⟨_,h1,d,h2,h3⟩
  rw[List.getElem?_map] at h2
  cases ho:l0[i-0]? with
  | none=>rw[ho] at h2;cases h2
  | some o =>
    rw[ho] at h2;simp only[Option.map_some,Option.some.injEq] at h2;subst h2;have ho:l0[i]?=some o:=(by simpa using ho);have hlt:=(List.getElem?_eq_some_iff.1 ho).1;exact⟨getD_in (by omega) (by rw[hrel];exact h1),o,by simpa using ho,(hdep o).2 h3⟩
theorem wp_Q{P:Program}{o:Oper}{a:Act}{w:World}{K:Act->World->Prop}{Q Q':Exit->Act->World->Prop}(hp:∀c a w,Q (.panic c) a w->Q' (.panic c) a w)(hl:LetsOut Q->LetsOut Q')(h:o.wp P a w K Q):o.wp P a w K Q':=by
 unfold Oper.wp at *;generalize (execOp a.eval o).run P w=r at *
 cases r with
 | ok n w' =>
   cases n<;>simp only[Oper.upon] at h ⊢ <;>
    first
     | exact h
     | exact Calls.mono h (λe w'' he=>by cases e<;>first|exact he|exact hp _ _ _ he|exact hl he)
 | halt x w'=>cases x<;>simp only[Oper.upon] at h ⊢ <;> first|exact h|exact hp _ _ _ h
def kZS(Q:Exit->Act->World->Prop)(N:Act->World->Prop):Exit->Act->World->Prop
 | .normal,a,w=>N a w
 | e,a,w=>Q e a w
theorem kHH{P:Program}{l0:List Oper}{i:Nat}{o:Oper}(ho:l0[i]?=some o){Q:Exit->Act->World->Prop}{N:Act->World->Prop}{a:Act}{w:World}(h:wpList P l0.toArray (kZS Q N) [o] a w):wpOp P l0.toArray Q i N a w:=by
 unfold wpList at h;unfold wpOp;have:l0.toArray[i]?=some o:=by simpa using ho
 rw[this];simp only;have hl:LetsOut (kZS Q N)->LetsOut Q:=λh=>h;split
 ·rename_i hw
  rw[if_pos hw] at h;exact h.imp (λh=>wp_Q (λc a w h=>h) hl h) λ⟨h1,h2⟩=>⟨h1,hl h2⟩
 ·rename_i hw
  rw[if_neg hw] at h;exact h
theorem kFU{P:Program}{n:Nat}{l0:List Oper}{al:List k0J}(hc:k0R P l0 l0=some al){E:List Nat}{ds:List (List Nat)}(yG:∀done:List Nat,(∀e,e∈E->done.contains e=true)->∀i,i∈k16 done 0 ds↔i∈k16 done 0 (l0.map k1A)){K:k09->k00->Prop}{Q:Exit->Act->World->Prop}:∀(f:Nat) (done:List Nat) (listed:Array Bool) (a:k09) (C:Cfg) (act:Act),
 listed.size=l0.length->(∀i,listed.getD i false=done.contains i)->(∀e,e∈E->done.contains e=true)->k35 P K al ds f done a C.h->St C a act->n<=C.h.length ->
 (∀a' D act',K a' D.h->St D a' act'->Ext n C D->n<=D.h.length->Q .normal act' D.w)->wpAny P .any l0.toArray Q f listed act C.w:=by
 intro f
 induction f with
 | zero =>
   intro done listed a C act hs hrel hE H S hn hK;have rdy:∀x,x∈Region.ready .any l0.toArray listed↔x∈k16 done 0 ds:=λx=>(k39 hs hrel x).trans (yG done hE x).symm;simp only[k35] at H;split at H
   ·rename_i he
    refine⟨?_,hK _ _ _ H S (Ext.refl _ _) hn⟩
    cases hr:Region.ready .any l0.toArray listed with
    | nil=>rfl
    | cons x xs =>
      have:=(rdy x).1 (by rw[hr];simp);rw[List.isEmpty_iff.1 he] at this;cases this
   ·exact H.elim
 | succ f ih =>
   intro done listed a C act hs hrel hE H S hn hK;have rdy:∀x,x∈Region.ready .any l0.toArray listed↔x∈k16 done 0 ds:=λx=>(k39 hs hrel x).trans (yG done hE x).symm;simp only[k35] at H;split at H
   ·rename_i he
    have hnil:Region.ready .any l0.toArray listed=[]:=by
     cases hr:Region.ready .any l0.toArray listed with
     | nil=>rfl
     | cons x xs =>
       have:=(rdy x).1 (by rw[hr];simp);rw[List.isEmpty_iff.1 he] at this;cases this
    exact⟨λ_=>hK _ _ _ H S (Ext.refl _ _) hn,λi hi=>by rw[hnil] at hi;cases hi⟩
   ·rename_i he
    refine⟨λhnil=>?_,λi hi=>?_⟩
    ·exfalso
     apply he
     cases hr:k16 done 0 ds with
     | nil=>rfl
     | cons x xs =>
       have:=(rdy x).2 (by rw[hr];simp);rw[hnil] at this;cases this
    ·have H2:=k6X H i ((rdy i).1 hi)
     obtain⟨_,o,ho,_⟩:=mem_ready.1 hi;have ho:l0[i]?=some o:=(by simpa using ho);have hil:=(List.getElem?_eq_some_iff.1 ho).1;obtain⟨e1,e2⟩:=k1H hc;have hao:al[i]?=some al[i]:=List.getElem?_eq_getElem (by omega);rw[hao] at H2;simp only at H2
     have hc1:k0R P l0 [o]=some [al[i]]:=by
      have h1:=(e2 i).2;have h2:=(k1H h1).2 1
      have k1:(l0.drop i).take 1=[o]:=by
       rw[List.drop_eq_getElem_cons hil];simp only[List.take_succ_cons,List.take_zero];rw[List.getElem?_eq_getElem hil] at ho;rw[Option.some.inj ho]
      have k2:(al.drop i).take 1=[al[i]]:=by
       rw[List.drop_eq_getElem_cons (by omega)];simp only[List.take_succ_cons,List.take_zero]
      rw[<- k1,<- k2];exact h2.1
     refine kHH ho ?_;refine k38 hc1 S hn H2 λa' D act' m1 m2 m3 m4=>?_;refine ih (i::done) _ a' D act' (by simp[hs]) (λj=>?_) (λe he=>by have:=hE e he;simp at this ⊢;exact .inr this) m1 m2 m4 λa3 D3 act3 q1 q2 q3 q4=>hK a3 D3 act3 q1 q2 (m3.trans q3) q4;by_cases hij:j=i
     ·subst hij
      have:j<listed.size:=(by omega);simp[this]
     ·rw[getD_set_ne false (Ne.symm hij),hrel j]
      simp[hij]
theorem kM9{P:Program}{o:Oper}{ao:AOp}{a:Act}{w:World}{K:Act->World->Prop}{Q:Exit->Act->World->Prop}(ho:kVL o.op=true)(hc:k1F P o.op o.type=some ao)(hnil:∀x,o.op = .nilCheck x->∀w,(execOp a.eval o).run P w = .ok (.value (a.eval x)) w)(h:o.wp P a w K Q):∃v,(∀w,(execOp a.eval o).run P w = .ok (.value v) w)/\K (a.put o.dst v) w:=by
 have fin:∀v,(∀w,(execOp a.eval o).run P w = .ok (.value v) w)->∃v,(∀w,(execOp a.eval o).run P w = .ok (.value v) w)/\K (a.put o.dst v) w:=λv e=>by
  refine⟨v,e,?_⟩;unfold Oper.wp at h;rw[e] at h;exact h
 unfold kVL at ho;split at ho
 ·rename_i x hop
  exact fin (a.eval x) λw=>by simp[execOp,hop]
 ·rename_i x hop
  exact fin (a.eval x) λw=>by simp[execOp,hop]
 ·rename_i x i hop
  obtain⟨v,h1,_⟩:=kMZ (P:=P) (w:=w) (K:=K) (Q:=Q) (by rw[hop]) h;exact fin v h1
 ·rename_i s x f hop
  rw[hop] at hc;simp only[k1F] at hc;split at hc
  ·rename_i off k g y hf hx
   split at hc
   ·rename_i hk0
    unfold k7Q at hf;split at hf
    case h_2=>cases hf
    rename_i fs hu;split at hf
    case h_2=>cases hf
    rename_i fd hfd;split at hf
    case h_2=>cases hf
    rename_i k' g' hk hg;simp only[Option.some.injEq,Prod.mk.injEq] at hf;obtain⟨rfl,rfl,rfl⟩:=hf;have hne:k'≠0:=by omega
    have run:∀(w:World) (a:Addr),(Instr.fieldAt s (.pointer (some a)) f).run P w = .ok (.pointer (some (a.add fd.offset))) w:=by
     intro w a;simp[Instr.fieldAt,k0L w hu,hfd,Instr.sureAddr,fieldPlace,k3E w hk,hne]
    by_cases hp:∃b,a.eval x = .pointer (some b)
    ·obtain⟨b,hb⟩:=hp
     exact fin (.pointer (some (b.add fd.offset))) λw=>by simp only[execOp,hop,hb,Sem.run_bind,run,Result.andThen_ok,Sem.run_pure]
    ·exfalso
     unfold Oper.wp at h
     have:∃r,(execOp a.eval o).run P w=r/\∀K Q,¬o.upon P a K Q r:=by
      refine⟨_,rfl,λK Q hh=>?_⟩;simp only[execOp,hop,Instr.fieldAt,Sem.run_bind,k0L w hu,Result.andThen_ok,hfd] at hh
      cases hv:a.eval x<;>rw[hv] at hh<;>try (simp[Instr.sureAddr,stuck,Oper.upon] at hh)
      rename_i q
      cases q with
      | none=>simp[Instr.sureAddr,stuck,Oper.upon] at hh
      | some b=>exact hp ⟨b,hv⟩
     obtain⟨r,e,hr⟩:=this;rw[e] at h;exact hr _ _ h
   ·cases hc
  ·cases hc
 ·rename_i x hop
  exact fin (a.eval x) (hnil x hop)
 ·cases ho
theorem kMJ{P:Program}{o:Oper}{ao:k0J}{K:k09->k00->Prop}{a:k09}{C:Cfg}{act:Act}(hc:k1F P o.op o.type=some ao.op)(S:St C a act)(H:k91 P ao K a C.h):∀x,o.op = .nilCheck x->∀w,(execOp act.eval o).run P w = .ok (.value (act.eval x)) w:=by
 intro x hop w;rw[hop] at hc;simp only[k1F] at hc
 cases hx:k0C x with
 | none=>rw[hx] at hc;cases hc
 | some y =>
   rw[hx] at hc;simp only[Option.map_some,Option.some.injEq] at hc;unfold k91 at H;rw[<- hc] at H;simp only[k0T] at H;have hV:=S.ev x y hx;split at H
   ·rename_i s' z i o' hy
    rw[hy] at hV;obtain⟨h1,h2⟩:=hV.ref';simp[execOp,hop,h2]
   ·rename_i cs hy
    rw[hy] at hV;obtain⟨b,h2,hd⟩:=hV.cref';simp[execOp,hop,h2]
   ·rename_i f p q hy
    rw[hy] at hV;obtain⟨vf,vc,h2,_⟩:=hV.func';simp[execOp,hop,h2]
   ·rename_i t v hy
    rw[hy] at hV;obtain⟨v,h2,_⟩:=hV.iface';simp[execOp,hop,h2]
   ·exact H.elim
theorem k96{i:Nat}:∀ {pre r p:List Nat},pre.contains i=false->kC3 p (pre++i::r) i=(match pre.getLast? with|some x=>[x]|none=>p)
 | [],r,p,h=>by
   have:Nat.beq i i=true:=Nat.beq_refl i;simp only[List.nil_append,kC3,this,List.getLast?_nil]
 | x::pre,r,p,h=>by
   simp only[List.contains_cons,Bool.or_eq_false_iff] at h
   have hx:Nat.beq x i=false:=by
    cases hb:Nat.beq x i with
    | false=>rfl
    | true=>have:=Nat.eq_of_beq_eq_true hb;subst this;simp at h
   simp only[List.cons_append,kC3,hx];rw[k96 h.2]
   cases pre with
   | nil=>rfl
   | cons y ys =>
     rw[List.getLast?_cons_cons]
     cases hl:(y::ys).getLast? with
     | none=>simp at hl
     | some z=>rfl
theorem k5S{E:List Nat}:∀ {ds:List (List Nat)} {k i:Nat} {d:List Nat},ds[i]?=some d->(k2Y E k ds)[i]?=some (match k0N E (k+i) with|true=>kC3 [] E (k+i)|false=>E.getLast?.toList++d)
 | [],k,i,d,h=>by simp at h
 | d0::ds,k,0,d,h=>by
   simp only[List.getElem?_cons_zero,Option.some.injEq] at h;subst h;simp[k2Y]
 | d0::ds,k,i+1,d,h=>by
   simp only[List.getElem?_cons_succ] at h;have:=k5S (E:=E) (k:=k+1) h;simp only[k2Y,List.getElem?_cons_succ];rw[this,show k+1+i=k+(i+1) by omega]
theorem k9U{E:List Nat}:∀ {ds:List (List Nat)} {k i:Nat},ds[i]?=none->(k2Y E k ds)[i]?=none
 | [],k,i,h=>by simp[k2Y]
 | d0::ds,k,0,h=>by simp at h
 | d0::ds,k,i+1,h=>by
   simp only[List.getElem?_cons_succ] at h;simp only[k2Y,List.getElem?_cons_succ];exact k9U h
theorem kFO{E:List Nat}{ds:List (List Nat)}(done:List Nat)(hE:∀e,e∈E->done.contains e=true)(i:Nat):i∈k16 done 0 (k2Y E 0 ds)↔i∈k16 done 0 ds:=by
 rw[k3H,k3H];simp only[Nat.sub_zero]
 cases hd:ds[i]? with
 | none=>rw[k9U hd]
 | some d =>
   rw[k5S hd,Nat.zero_add];constructor
   ·rintro⟨h0,h1,d',h2,h3⟩
    refine⟨h0,h1,d,rfl,λe he=>?_⟩
    have hne:E.contains i=false:=by
     cases hc:E.contains i with
     | false=>rfl
     | true=>rw[hE i (by simpa using hc)] at h1;cases h1
    rw[k2O,hne] at h2;simp only[Option.some.injEq] at h2;exact h3 e (by rw[<- h2];simp[he])
   ·rintro⟨h0,h1,d',h2,h3⟩
    have hne:E.contains i=false:=by
     cases hc:E.contains i with
     | false=>rfl
     | true=>rw[hE i (by simpa using hc)] at h1;cases h1
    simp only[Option.some.injEq] at h2;subst h2;refine⟨h0,h1,E.getLast?.toList++d,by rw[k2O,hne],λe he=>?_⟩;rcases List.mem_append.1 he with he|he
    ·refine hE e ?_
     cases hl:E.getLast? with
     | none=>rw[hl] at he;simp at he
     | some x=>rw[hl] at he;simp at he;subst he;exact List.mem_of_getLast? hl
    ·exact h3 e he
theorem kAD{deps tm:List Nat}:∀ {l:List Oper} {k i:Nat} {o:Oper} {d:Nat},kE6 deps tm k l=true->l[i]?=some o->o.dst=some d->d∈tm->deps.contains (k+i)=true
 | [],k,i,o,d,h,ho,hd,ht=>by simp at ho
 | p::l,k,0,o,d,h,ho,hd,ht=>by
   simp only[List.getElem?_cons_zero,Option.some.injEq] at ho;subst ho;have hm:k0N tm d=true:=(by rw[k2O];simpa using ht);simp only[kE6,hd,hm,Bool.and_eq_true] at h;rw[Nat.add_zero,<- k2O];exact h.1
 | p::l,k,i+1,o,d,h,ho,hd,ht=>by
   simp only[List.getElem?_cons_succ] at ho;simp only[kE6,Bool.and_eq_true] at h;have:=kAD h.2 ho hd ht
   rwa [show k+1+i=k+(i+1) by omega] at this
theorem kAO:∀ {l:List (Option Nat)} {i j d:Nat},k9Q l=true->l[i]?=some (some d)->l[j]?=some (some d)->i=j
 | [],i,j,d,h,hi,hj=>by simp at hi
 | x::l,i,j,d,h,hi,hj=>by
   have ih:k9Q l=true:=by
    cases x with
    | none=>exact h
    | some e=>simp only[k9Q,Bool.and_eq_true] at h;exact h.2
   have key:∀q:Nat,x=some d->l[q]?=some (some d)->False:=λq hx hq=>by
    subst hx;simp only[k9Q,Bool.and_eq_true,List.all_eq_true] at h;have:=h.1 _ (List.mem_of_getElem? hq);simp at this
   cases i with
   | zero =>
     cases j with
     | zero=>rfl
     | succ j=>exact(key j (by simpa using hi) (by simpa using hj)).elim
   | succ i =>
     cases j with
     | zero=>exact(key i (by simpa using hj) (by simpa using hi)).elim
     | succ j =>
       have:=kAO ih (i:=i) (j:=j) (d:=d) (by simpa using hi) (by simpa using hj);omega
theorem kLN{l:List Oper}(h:kLO l=true):Region.noSelect l.toArray=true:=by
 simp only[kLO,Bool.and_eq_true,List.all_eq_true] at h;unfold Region.noSelect;rw[Array.all_eq_true_iff_forall_mem];intro o ho;have:=(h.1 o (by simpa using ho)).1.2
 cases hop:o.op<;>first|rfl|(rw[hop] at this;cases this)
theorem kEB{l:List Oper}(h:kLO l=true){j k:Nat}{oj ok:Oper}{d:Nat}(hj:l[j]?=some oj)(hk:l[k]?=some ok)(hd:ok.dst=some d)(hm:d∈oj.looksAt l.toArray):(k1A oj).contains k=true:=by
 simp only[kLO,Bool.and_eq_true,List.all_eq_true] at h;obtain⟨⟨h1,_⟩,h2⟩:=h.1 oj (List.mem_of_getElem? hj);have hg:oj.guard=none:=by simpa using h1
 unfold Oper.looksAt at hm;rw[hg] at hm;simp only[List.append_nil] at hm;have:=kAD h2 hk hd hm
 rwa [Nat.zero_add] at this
theorem kI1{o:Oper}{k:Nat}:(k1A o).contains k=true↔∃e,e∈o.after/\Region.binds .any e=true/\e.on=k:=by
 unfold k1A;simp only[List.contains_iff_mem,List.mem_map,List.mem_filter,Array.mem_toList_iff];constructor
 ·rintro⟨e,⟨h1,h2⟩,h3⟩;exact⟨e,h1,h2,h3⟩
 ·rintro⟨e,h1,h2,h3⟩;exact⟨e,⟨h1,h2⟩,h3⟩
theorem kEC{l:List Oper}(h:kLO l=true){i j:Nat}{oi oj:Oper}(hi:l[i]?=some oi)(hj:l[j]?=some oj)(hne:j≠i)(h1:(k1A oj).contains i=false)(h2:(k1A oi).contains j=false):oi.apart l.toArray oj=true:=by
 have hnd:k9Q (l.map (·.dst))=true:=by simp only[kLO,Bool.and_eq_true] at h;exact h.2
 unfold Oper.apart;rw[Bool.and_eq_true];constructor
 ·cases hd:oi.dst with
  | none=>rfl
  | some d =>
    simp only[Bool.and_eq_true,Bool.not_eq_true',bne_iff_ne,ne_eq];constructor
    ·cases hc:(oj.looksAt l.toArray).contains d with
     | false=>rfl
     | true =>
       have:=kEB h hj hi hd (by simpa using hc);rw[h1] at this;cases this
    ·intro hdj
     exact hne (kAO hnd (d:=d) (by rw[List.getElem?_map,hj];simp[hdj]) (by rw[List.getElem?_map,hi];simp[hd]))
 ·cases hd:oj.dst with
  | none=>rfl
  | some d =>
    simp only[Bool.not_eq_true']
    cases hc:(oi.looksAt l.toArray).contains d with
    | false=>rfl
    | true =>
      have:=kEB h hi hj hd (by simpa using hc);rw[h2] at this;cases this
theorem kB3{P:Program}{n:Nat}{l0:List Oper}{al:List k0J}(hc:k0R P l0 l0=some al)(hssa:kLO l0=true){K:k09->k00->Prop}{Q:Exit->Act->World->Prop}(hQ:∀c a w,¬Q (.panic c) a w){E:List Nat}:∀(todo done:List Nat) (f:Nat) (listed:Array Bool) (a:k09) (C:Cfg) (act:Act),
 E=done.reverse++todo->k9B l0 done todo=true->listed.size=l0.length->(∀i,listed.getD i false=done.contains i)->k35 P K al (k2Y E 0 (l0.map k1A)) (todo.length+f) done a C.h->St C a act->n<=C.h.length ->
 (∀a' D act',K a' D.h->St D a' act'->Ext n C D->n<=D.h.length->Q .normal act' D.w)->wpAny P .any l0.toArray Q (todo.length+f) listed act C.w
 | [],done,f,listed,a,C,act,hE,hok,hs,hrel,H,S,hn,hK=>by
   refine kFU (n:=n) hc (E:=E) (λd hd i=>kFO d hd i) _ done listed a C act hs hrel (λe he=>?_) H S hn hK;rw[hE] at he;simpa using he
 | i::r,done,f,listed,a,C,act,hE,hok,hs,hrel,H,S,hn,hK=>by
   simp only[k9B,Bool.and_eq_true] at hok;obtain⟨hb,hok⟩:=hok;unfold kIE at hb;split at hb
   ·rename_i o ho
    simp only[Bool.and_eq_true] at hb;obtain⟨⟨h1,h3⟩,h4⟩:=hb
    have h2:o.guard.isNone=true:=by
     simp only[kLO,Bool.and_eq_true,List.all_eq_true] at hssa;exact(hssa.1 o (List.mem_of_getElem? ho)).1.1
    have hil:=(List.getElem?_eq_some_iff.1 ho).1;rw[k2O] at h3;have hnd:done.contains i=false:=by simpa using h3
    have h4:(k1A o).all done.contains=true:=by
     rw[List.all_eq_true] at h4 ⊢;intro x hx;rw[<- k2O];exact h4 x hx
    have hrdy0:i∈k16 done 0 (l0.map k1A):=by
     rw[k3H];refine⟨Nat.zero_le _,hnd,k1A o,by rw[Nat.sub_zero,List.getElem?_map,ho];rfl,λe he=>?_⟩;exact List.all_eq_true.1 h4 e he
    have hrdy:i∈k16 done 0 (k2Y E 0 (l0.map k1A)):=by
     rw[k3H];refine⟨Nat.zero_le _,hnd,_,by rw[Nat.sub_zero];exact k5S (d:=k1A o) (by rw[List.getElem?_map,ho];rfl),λe he=>?_⟩;have hcon:E.contains (0+i)=true:=(by rw[hE,Nat.zero_add];simp);rw[k2O,hcon] at he;simp only at he;rw[Nat.zero_add,hE,k96 (by simpa using hnd)] at he
     cases done with
     | nil=>simp at he
     | cons x d =>
       simp at he;subst he;simp
    have hready:i∈Region.ready .any l0.toArray listed:=(k39 hs hrel i).2 hrdy0;have e:(i::r).length+f=(r.length+f)+1:=(by simp;omega);rw[e] at H ⊢;simp only[k35] at H
    rw[if_neg (by cases hr:k16 done 0 (k2Y E 0 (l0.map k1A)) with
     | nil=>rw[hr] at hrdy;cases hrdy
     | cons x xs=>simp)] at H
    have H2:=k6X H i hrdy;obtain⟨e1,e2⟩:=k1H hc;have hao:al[i]?=some al[i]:=List.getElem?_eq_getElem (by omega);rw[hao] at H2;simp only at H2
    have hc1:k0R P l0 [o]=some [al[i]]:=by
     have h1:=(e2 i).2;have h2:=(k1H h1).2 1
     have k1:(l0.drop i).take 1=[o]:=by
      rw[List.drop_eq_getElem_cons hil];simp only[List.take_succ_cons,List.take_zero];rw[List.getElem?_eq_getElem hil] at ho;rw[Option.some.inj ho]
     have k2:(al.drop i).take 1=[al[i]]:=by
      rw[List.drop_eq_getElem_cons (by omega)];simp only[List.take_succ_cons,List.take_zero]
     rw[<- k1,<- k2];exact h2.1
    simp only[k0R] at hc1;split at hc1
    ·rename_i ao al' hao' hal'
     simp only[Option.some.injEq] at hc1;simp only[Option.some.injEq] at hal';subst hal';have hao2:ao=al[i]:=(by simpa using hc1);subst hao2;obtain⟨g1,g2,g3⟩:=k3C hao'
     have hg:(al[i]).guard=none:=by
      rcases g3 with ⟨_,g⟩|⟨j,want,t,g,_⟩
      ·exact g
      ·rw[g] at h2;cases h2
     simp only[k4B,hg] at H2
     have hwp:=k2U (Q:=Q) (K':=λact' w'=>wpAny P .any l0.toArray Q (r.length+f) (listed.setIfInBounds i true) act' w') g1 g2 S hn H2 λa' D act' m1 m2 m3 m4=>by
      refine kB3 hc hssa hQ r (i::done) f _ a' D act' (by rw[hE];simp) hok (by simp[hs]) (λj=>?_) m1 m2 m4 λa3 D3 act3 q1 q2 q3 q4=>hK a3 D3 act3 q1 q2 (m3.trans q3) q4;by_cases hij:j=i
      ·subst hij
       have:j<listed.size:=(by omega);simp[this]
      ·rw[getD_set_ne false (Ne.symm hij),hrel j]
       simp[hij]
     obtain⟨v,hv,hk⟩:=kM9 h1 g1 (kMJ g1 S H2) hwp;refine wpAny_first (by simpa using ho) (Region.noSelect_spec (kLN hssa)) (λc a w h=>absurd h (hQ c _ w)) _ listed act C.w (λj oj hj hne yM hno=>?_) hready (.inl ⟨by simp[Region.wanted,Option.isNone_iff_eq_none.1 h2],hv⟩) hk;refine kEC hssa ho (by simpa using hj) hne ?_ ?_
     ·cases hc:(k1A oj).contains i with
      | false=>rfl
      | true =>
        obtain⟨e,he1,he2,he3⟩:=kI1.1 hc;exact absurd he3 (hno e he1 he2)
     ·cases hc:(k1A o).contains j with
      | false=>rfl
      | true =>
        have:=List.all_eq_true.1 h4 j (by simpa using hc);rw[<- hrel j,getD_both yM] at this;cases this
    ·cases hc1
   ·cases hb
theorem AWp.any0{P:Program}{n:Nat}{Q:k17}{a:k09}{h:k00}{id:Nat}{ops:Array Oper}{al:List k0J}(hm:P.follows .mixedOrders=true)(hc:k0R P ops.toList ops.toList=some al)(hQ:∀c a h,¬Q (.panic c) a h)(H:k35 P (Q .normal) al (k46 ops.toList) al.length [] a h):AWp P n (.region id ops true) Q a h:=by
 intro C act hC S hn;refine wp_region_any hm ?_;obtain⟨R1,E1⟩:=S.rel.sameHeap (w:={ C.w with drawn:=C.w.drawn+1 }) rfl rfl rfl rfl C.h.length;have e1:=(k1H hc).1;have S1:St { C with w:={ C.w with drawn:=C.w.drawn+1 } } a act:=⟨R1,⟨S.vrs.1,λt x hx=>E1.vr' (S.vrs.2 t x hx)⟩,S.nodef⟩;have fin:∀(a':k09) (D:Cfg) (act':Act),Q .normal a' D.h->St D a' act'->Ext n { C with w:={ C.w with drawn:=C.w.drawn+1 } } D->n<=D.h.length->k7Z n C Q .normal act' D.w:=λa' D act' m1 m2 m3 m4=>⟨a',D,m1,rfl,m2,(E1.mono (hC▸hn)).trans m3,m4⟩;have hrel0:∀i,(Array.replicate ops.size false).getD i false=([]:List Nat).contains i:=λi=>by rw[getD_replicate_false];rfl
 have plain:k35 P (Q .normal) al (ops.toList.map k1A) al.length [] a h->wpAny P .any ops (k7Z n C Q) ops.size (Array.replicate ops.size false) act { C.w with drawn:=C.w.drawn+1 }:=λH=>by
  have main:=kFU (n:=n) (Q:=k7Z n C Q) hc (E:=[]) (ds:=ops.toList.map k1A) (λ_ _ _=>Iff.rfl) al.length [] (Array.replicate ops.size false) a { C with w:={ C.w with drawn:=C.w.drawn+1 } } act (by simp) hrel0 (λe he=>by cases he) (by subst hC;exact H) S1 (hC▸hn) fin;simpa[e1] using main
 unfold k46 at H;split at H
 ·rename_i hssa
  unfold q1X at H;split at H
  ·rename_i hb
   simp only[Bool.and_eq_true] at hb;have hle:=Nat.le_of_ble_eq_true hb.2;have el:(k6M ops.toList).length+(al.length-(k6M ops.toList).length)=al.length:=(by omega);have main:=kB3 (n:=n) (Q:=k7Z n C Q) hc hssa (λc a w h=>by obtain⟨a',D,h1,_⟩:=h;exact hQ _ _ _ h1) (E:=k6M ops.toList) (k6M ops.toList) [] (al.length-(k6M ops.toList).length) (Array.replicate ops.size false) a { C with w:={ C.w with drawn:=C.w.drawn+1 } } act (by simp) hb.1 (by simp) hrel0 (by rw[el];subst hC;exact H) S1 (hC▸hn) fin;rw[el] at main;simpa[e1] using main
  ·exact plain H
 ·exact plain H
theorem AWp.any{P:Program}{n:Nat}{Q:k17}{a:k09}{h:k00}{id:Nat}{ops:Array Oper}{al:List k0J}(hm:P.follows .mixedOrders=true)(hc:k0R P ops.toList ops.toList=some al)(H:k35 P (Q .normal) al (k46 ops.toList) al.length [] a h):AWp P n (.region id ops true) Q a h:=
 (AWp.any0 (Q:=kVT Q) hm hc (λc a h hh=>hh) H).post λe a h hq=>by
   cases e with
   | normal=>exact⟨a,h,Wk.refl _ _ _,hq⟩
   | _=>exact hq.elim
theorem kVG{C:Cfg}{a:k09}{act:Act}(S:St C a act){x:k0B}{b:Bool}(hb:evA a x = .bool b):St C (kT7 a x b) act:=by
 cases x with
 | tmp t=>exact S.setB hb
 | const v=>exact S
 | func f=>exact S
theorem k1G{P:Program}{n:Nat}:∀ {code:Code} {c:k2Z} {Q:k17} {a:k09} {h:k00},k07 P code=some c->k37 P code=true->k3N P n c Q a h->AWp P n code Q a h
 | .skip,c,Q,a,h,hc,hd,H=>by simp only[k07,Option.some.injEq] at hc;subst hc;exact AWp.skip H
 | .ret,c,Q,a,h,hc,hd,H=>by simp only[k07,Option.some.injEq] at hc;subst hc;exact AWp.ret H
 | .exit id,c,Q,a,h,hc,hd,H=>by simp only[k07,Option.some.injEq] at hc;subst hc;exact AWp.exit H
 | .seq x y,c,Q,a,h,hc,hd,H=>by
   simp only[k07] at hc;split at hc
   ·rename_i p q hp hq
    simp only[Option.some.injEq] at hc;subst hc;simp only[k37,Bool.and_eq_true] at hd;refine AWp.seq ((k1G hp hd.1 H).mono λe a h hq'=>?_)
    cases e with
    | normal=>exact k1G hq hd.2 hq'
    | _=>exact hq'
   ·cases hc
 | .cond x p q,c,Q,a,h,hc,hd,H=>by
   simp only[k07] at hc;split at hc
   ·rename_i x' p' q' hx hp hq
    simp only[Option.some.injEq] at hc;subst hc;simp only[k3N] at H;split at H
    ·rename_i t ht
     have wk:∀b,t=b->Wk n a h (kT7 a x' b) h:=λb hb C act hC S hn=>⟨C,hC,rfl,kVG S (hb▸ht),Ext.refl _ _,hn⟩;simp only[k37,Bool.and_eq_true] at hd;exact AWp.cond hx ht (λe=>AWp.pre (wk true e) (k1G hp hd.1 (H.1 e))) (λe=>AWp.pre (wk false e) (k1G hq hd.2 (H.2 e)))
    ·exact H.elim
   ·cases hc
 | .block id x,c,Q,a,h,hc,hd,H=>by
   simp only[k07] at hc
   cases hx:k07 P x with
   | none=>simp[hx] at hc
   | some y =>
     simp only[hx,Option.map_some,Option.some.injEq] at hc;subst hc;exact AWp.block (k1G hx hd H)
 | .loop x,c,Q,a,h,hc,hd,H=>by
   simp only[k07] at hc
   cases hx:k07 P x with
   | none=>simp[hx] at hc
   | some y =>
     simp only[hx,Option.map_some,Option.some.injEq] at hc;subst hc;exact H x hx hd
 | .region id ops false,c,Q,a,h,hc,hd,H=>by
   simp only[k07] at hc
   cases hx:k0R P ops.toList ops.toList with
   | none =>
     simp only[hx,Option.map_none,k6Z,Option.some.injEq] at hc;subst hc;exact H.elim
   | some y =>
     simp only[hx,Option.map_some,k6Z,Option.some.injEq] at hc;subst hc;intro C act hC S hn;refine wp_region_list ?_;have:=k38 (Q:=k7Z n C Q) (n:=n) hx S (hC▸hn) (by subst hC;exact H) λa3 D3 act3 m1 m2 m3 m4=>⟨a3,D3,m1,rfl,m2,m3,m4⟩;simpa using this
 | .region id ops true,c,Q,a,h,hc,hd,H=>by
   simp only[k07] at hc;simp only[k37] at hd;by_cases hll:k8V ops.toList=true
   ·rw[if_pos hll] at hd
    simp only[hll] at hc
    cases hx:k0R P ops.toList ops.toList with
    | none =>
      simp only[hx,Option.map_none,k6Z,Option.some.injEq] at hc;subst hc;exact H.elim
    | some y =>
      simp only[hx,Option.map_some,k6Z,Option.some.injEq] at hc;subst hc;exact AWp.any hd hx H
   rw[if_neg hll] at hd;have hlf:k8V ops.toList=false:=(by simpa using hll);simp only[hlf] at hc;split at hd
   ·rename_i al hal
    simp only[Bool.and_eq_true] at hd;rw[hal] at hc;simp only[Option.map_some,k6Z,Option.some.injEq] at hc;subst hc;generalize headLen P al=m at *;obtain⟨h1,h2⟩:=k1H hal;obtain⟨h3,h4⟩:=h2 m
    have zE:(k6H ops.toList).take (al.take m).length=(k6H ops.toList).take m:=by
     simp only[List.length_take,h1];by_cases hml:m<=(k6H ops.toList).length
     ·rw[Nat.min_eq_left hml]
     ·rw[Nat.min_eq_right (by omega),List.take_of_length_le (Nat.le_refl _),List.take_of_length_le (by omega)]
    have hlen2:(k6H ops.toList).drop (al.take m).length=(k6H ops.toList).drop m:=by
     simp only[List.length_take,h1];by_cases hml:m<=(k6H ops.toList).length
     ·rw[Nat.min_eq_left hml]
     ·rw[Nat.min_eq_right (by omega),List.drop_eq_nil_of_le (Nat.le_refl _),List.drop_eq_nil_of_le (by omega)]
    have:=AWp.draw (n:=n) (id:=id) (ops:=ops) (λQ a w H=>by simpa using kM3 hd.2.1 Q a w H) hd.1 hd.2.2 (by rw[zE];exact h3) (by rw[hlen2];exact h4) H;simpa using this
   ·rename_i hal
    rw[hal] at hc;simp only[Option.map_none,k6Z,Option.some.injEq] at hc;subst hc;exact H.elim
 | .rangeFunc _ _ _ _,c,Q,a,h,hc,hd,H=>by
   simp only[k07,Option.some.injEq] at hc;subst hc;exact H.elim
 | .scope _,c,Q,a,h,hc,hd,H=>by
   simp only[k07,Option.some.injEq] at hc;subst hc;exact H.elim
 | .label _,c,Q,a,h,hc,hd,H=>by
   simp only[k07,Option.some.injEq] at hc;subst hc;exact H.elim
 | .goto _,c,Q,a,h,hc,hd,H=>by
   simp only[k07,Option.some.injEq] at hc;subst hc;exact H.elim
 | .refuse _,c,Q,a,h,hc,hd,H=>by
   simp only[k07,Option.some.injEq] at hc;subst hc;exact H.elim
def kHR(n:Nat)(I:k09->k00->Prop)(m:k09->k00->Nat)(k:Nat):k09->k00->Prop:=λa h=>∃a' h',Wk n a h a' h'/\I a' h'/\m a' h'<k
theorem kHE.intro{P:Program}{n:Nat}{c:k2Z}{Q:k17}{a:k09}{h:k00}(I:k09->k00->Prop)(m:k09->k00->Nat)(a':k09)(h':k00)(hw:Wk n a h a' h')(h0:I a' h')
 (round:∀a h,I a h->k3N P n c (k6Y (kHR n I m (m a h)) Q) a h):kHE P n c Q a h:=by
 intro code hc hd;refine AWp.pre hw (AWp.loop I m h0 λa h hI=>?_);refine AWp.post (k1G hc hd (round a h hI)) λe a2 h2 hq=>?_
 cases e with
 | normal =>
   obtain⟨a3,h3,w3,i3,m3⟩:=hq;exact⟨a3,h3,w3,i3,m3⟩
 | _=>exact⟨a2,h2,Wk.refl _ _ _,hq⟩
inductive kE0 where
 | tmp (t:Nat)
 | cell (t:Nat) (g:Bool) (k:Nat)
def q1H(P:Program):ResultVar->Option kE0
 | .tmp t=>some (.tmp t)
 | .cell a t=>match k19 P t,k3O P t with
   | some g,some k=>if (g=true\/k=1)/\0<k then some (.cell a g k) else none
   | _,_=>none
def kBP(P:Program):List ResultVar->Option (List kE0)
 | []=>some []
 | x::xs=>match q1H P x,kBP P xs with
   | some y,some ys=>some (y::ys)
   | _,_=>none
def q1D(a:k09)(h:k00):kE0->Option AV
 | .tmp t=>some (a.getD t .any)
 | .cell t g k =>
   match a.getD t .any with
   | .ref s z i o =>
     match h[s]? with
     | some (.live z' es)=>if z'=z/\i<es.length/\o+k<=z then some (k1S g k (es.getD i []) o) else none
     | _=>none
   | _=>none
def k54(a:k09)(h:k00):List kE0->Option (List AV)
 | []=>some []
 | x::xs=>match q1D a h x,k54 a h xs with
   | some y,some ys=>some (y::ys)
   | _,_=>none
def k2Q:List AV->AV
 | [x]=>x
 | l=>.tuple l
def Vw(h:k00)(v r:AV):Prop:=∀(C:Cfg),C.h=h->Rel C->∀u,VR C v u->VR { C with h:=[] } r u
def kZG(rs:List kE0)(R:AV->Prop):k17
 | .normal,a,h=>∃l,k54 a h rs=some l/\∃r,Vw h (k2Q l) r/\R r
 | .ret,a,h=>∃l,k54 a h rs=some l/\∃r,Vw h (k2Q l) r/\R r
 | _,_,_=>False
def kC2(tmps:Array Value):ResultVar->Sem Value
 | .tmp t=>pure (tmps.getD t undef)
 | .cell a t=>do loadVar t (<- asAddr (tmps.getD a undef))
theorem kC1(fn:Func)(tmps:Array Value):results fn tmps=(do
 let vs <- fn.results.mapM (kC2 tmps)
 pure (if h:vs.size=1 then vs[0] else .tuple vs)):=by
 unfold results;congr 1
theorem kJI{P:Program}{x:ResultVar}{y:kE0}{a:k09}{C:Cfg}{act:Act}{v:AV}(hc:q1H P x=some y)(S:St C a act)(h:q1D a C.h y=some v) :
 ∃u,(kC2 act.tmps x).run P C.w = .ok u C.w/\VR C v u:=by
 cases x with
 | tmp t =>
   simp only[q1H,Option.some.injEq] at hc;subst hc;simp only[q1D,Option.some.injEq] at h;subst h;exact⟨_,by simp[kC2],S.vrs.get t⟩
 | cell ad t =>
   simp only[q1H] at hc;split at hc
   ·rename_i g k hg hk
    split at hc
    ·rename_i hgk
     simp only[Option.some.injEq] at hc;subst hc;simp only[q1D] at h;split at h
     ·rename_i s z i off hy
      split at h
      ·rename_i z' es hs
       split at h
       ·rename_i hcond
        obtain⟨rfl,hi,hok⟩:=hcond;simp only[Option.some.injEq] at h;subst h;obtain⟨hu,hv⟩:=(hy▸S.vrs.get ad:VR C _ _).ref';obtain⟨hgk,hk0⟩:=hgk;obtain⟨hz,_,zU,vs,ty,fz,hh,hfz,hsz,hvr⟩:=S.rel.live s z' es hs (by omega);have zL:(es.getD i []).length=z':=zU _ (List.mem_of_getElem? (k1P [] hi));have hlt:=k53 (i:=i) (n:=es.length) (z:=z') hi (j:=z'-1) (by omega)
        obtain⟨cv,h1,h2⟩:=kAJ (P:=P) C (cs:=es.getD i []) (f:=λj=>vs.getD (i*z'+off+j) undef) ⟨C.r s,i*z'+off,none⟩ rfl hg hk hgk off (by omega) (λj hj=>by
         have:i*z'+off+j<vs.size:=(by omega);unfold World.cell?;rw[hh];simp[this,Array.getD_eq_getD_getElem?])
         (λj x hj hx=>by
           have:=hvr i _ (k1P [] hi) (off+j) x hx
           rwa [<- Nat.add_assoc] at this)
        refine⟨cv,?_,h2⟩;have h1':(loadVar t ⟨C.r s,i*z'+off,none⟩).run P C.w = .ok cv C.w:=(by simpa[Instr.loadAt,Instr.sureAddr] using h1);simp[kC2,hv,asAddr,h1']
       ·cases h
      ·cases h
     ·cases h
    ·cases hc
   ·cases hc
theorem kAK{P:Program}{a:k09}{C:Cfg}{act:Act}(S:St C a act):∀ {xs:List ResultVar} {ys:List kE0} {l:List AV},kBP P xs=some ys->k54 a C.h ys=some l ->
 ∃us:List Value,(xs.mapM (kC2 act.tmps)).run P C.w = .ok us C.w/\VRs C l us.toArray
 | [],ys,l,hc,h=>by
   simp only[kBP,Option.some.injEq] at hc;subst hc;simp only[k54,Option.some.injEq] at h;subst h;exact⟨[],by simp,rfl,λi x hx=>by simp at hx⟩
 | x::xs,ys,l,hc,h=>by
   simp only[kBP] at hc;split at hc
   ·rename_i y ys' hy hys
    simp only[Option.some.injEq] at hc;subst hc;simp only[k54] at h;split at h
    ·rename_i v vs hv hvs
     simp only[Option.some.injEq] at h;subst h;obtain⟨u,h1,h2⟩:=kJI hy S hv;obtain⟨us,h3,h4⟩:=kAK S hys hvs;refine⟨u::us,?_,by simpa using h4.1,λi z hz=>?_⟩
     ·rw[List.mapM_cons]
      simp only[Sem.run_bind,h1,h3,Result.andThen_ok,Sem.run_pure]
     ·cases i with
      | zero=>simp at hz;subst hz;simpa using h2
      | succ i =>
        have:=h4.2 i z (by simpa using hz);simpa[Array.getD_eq_getD_getElem?] using this
    ·cases h
   ·cases hc
theorem k2V{P:Program}{fn:Func}{ys:List kE0}{a:k09}{C:Cfg}{act:Act}{l:List AV}(hc:kBP P fn.results.toList=some ys)(S:St C a act)(h:k54 a C.h ys=some l) :
 ∃u,(results fn act.tmps).run P C.w = .ok u C.w/\VR C (k2Q l) u:=by
 obtain⟨us,h1,h2⟩:=kAK S hc h
 have e:(fn.results.mapM (kC2 act.tmps)).run P C.w = .ok us.toArray C.w:=by
  rw[Array.mapM_eq_mapM_toList,Sem.run_map,h1];rfl
 have hl:us.length=l.length:=by simpa using h2.1
 by_cases h0:us.length=1
 ·obtain⟨u,rfl⟩:=List.length_eq_one_iff.1 h0
  obtain⟨x,rfl⟩:=List.length_eq_one_iff.1 (hl▸h0);refine⟨u,?_,by simpa[k2Q] using h2.2 0 x rfl⟩;rw[kC1];simp only[Sem.run_bind,e];simp
 ·refine⟨.tuple us.toArray,?_,?_⟩
  ·rw[kC1]
   simp only[Sem.run_bind,e];simp[h0]
  ·have:k2Q l = .tuple l:=by
    match l,hl,h0 with
    | [],_,_=>rfl
    | [x],hl,h0=>exact absurd hl h0
    | x::y::l,_,_=>rfl
   rw[this];exact .tuple _ _ h2.1 h2.2
structure kPC where
 code:k2Z
 rets:List kE0
 n:Nat
def k2K(P:Program)(fn:Func):Option kPC:=
 match fn.body with
 | some c=>match k07 P c,kBP P fn.results.toList with
   | some c,some r=>some ⟨c,r,fn.ntmps⟩
   | _,_=>none
 | none=>none
def k5B(P:Program)(fn:Func):Bool:=match fn.body with|some c=>k37 P c|none=>true
def k63(args:List AV)(n:Nat):k09:=args++List.replicate (n-args.length) .undef
theorem k7O{C:Cfg}{args:List AV}{vs:Array Value}(R:Rel C)(hv:VRs C args vs)(n:Nat):St C (k63 args n) { tmps:=vs++Array.replicate (n-vs.size) undef,defers:=[] }:=by
 refine⟨R,?_,rfl⟩;unfold k63;rw[hv.1];refine hv.app ⟨by simp,λi x hx=>?_⟩;rw[List.getElem?_replicate] at hx;split at hx
 ·rename_i hi
  cases hx
  have:(Array.replicate (n-args.length) undef).getD i undef=undef:=(by simp[Array.getD_eq_getD_getElem?,hi]);rw[this];exact k83 C
 ·cases hx
theorem k02.of_fun {P : Program} {g : FuncId} {fn : Func} {F : kPC} {args : List AV} {R : AV → Prop} (hf : P.funcs[g]? = some fn) (hname : (fn.name == "runtime.NumGoroutine") = false) (hc : k2K P fn = some F) (hdr : k5B P fn = true)
 (H:k3N P 0 F.code (kZG F.rets R) (k63 args F.n) []):k02 P g args R:=by
 unfold k2K at hc;split at hc
 ·rename_i code hb
  split at hc
  ·rename_i c r hcc hr
   simp only[Option.some.injEq] at hc;subst hc;refine⟨⟨fn,hf,by simp[hb],hname⟩,λC vs hC RC hv=>?_⟩;refine calls_of_wp hf hb ?_;refine wp_mono (k1G hcc (by unfold k5B at hdr;rw[hb] at hdr;exact hdr) H C _ hC (k7O RC hv fn.ntmps) (Nat.zero_le _)) λe act' w' ⟨a',D,h1,h2,h3,h4,h5⟩=>?_
   have fin:(∃l,k54 a' D.h r=some l/\∃x,Vw D.h (k2Q l) x/\R x)->act'.defers=[]/\∃v,(results fn act'.tmps).run P w' = .ok v w' /\
    ∃v' r D,Ending.returned v = .returned v'/\R r/\D.h=[]/\D.w=w'/\Rel D/\VR D r v'/\Ext 0 C D:=by
    rintro⟨l,hl,x,hx,hRx⟩
    obtain⟨u,k1,k2⟩:=k2V hr h3 hl;subst h2;refine⟨h3.nodef,u,k1,u,x,{ D with h:=[] },rfl,hRx,rfl,rfl,?_,hx D rfl h3.rel u k2,?_⟩
    ·exact⟨λs z es h=>by simp at h,λs t ⟨z,es,h⟩=>by simp at h,h3.rel.olt,λp hp=>(h3.rel.glo p hp).recfg (C:=D) (D:={ D with h:=[] }) rfl (λb hb=>hb.elim .inl λ⟨s,⟨z,es,h⟩,_⟩=>by simp at h) (k49 hp 0),h3.rel.gsz⟩
    ·exact⟨h4.O,h4.os,h4.tape,h4.output,h4.size,λs hs=>absurd hs (Nat.not_lt_zero _),λb hb hno=>⟨(h4.keep b hb hno).1,λ⟨s,⟨z,es,h⟩,_⟩=>by simp at h⟩,h4.shape⟩
   cases e with
   | normal=>exact fin h1
   | ret=>exact fin h1
   | exit id=>exact h1.elim
   | goto l=>exact h1.elim
   | panic c=>exact h1.elim
   | outgrown=>exact h1.elim
  ·cases hc
 ·cases hc
theorem Vw.same{h:k00}{v:AV}(hv:v.upto 0=true):Vw h v v:=λC hC R u hu=>hu.recfg (C:=C) (D:={ C with h:=[] }) rfl (λb hb=>by
 rcases hb with hb|⟨s,⟨z,es,hs⟩,_⟩
 ·exact .inl hb
 ·simp at hs) hv
theorem Vw.nil{h:k00}(z:Nat):Vw h .nils (.list z []):=λC hC R u hu=>by
 rw[hu.nils'];exact .listNil z _ _
theorem Vw.sl{h:k00}{s z i n:Nat}{es:List (List AV)}(hs:h[s]?=some (.live z es))(hu:k18 0 es=true)(hi:i+n<=es.length):Vw h (.sl s z i n) (.list z ((es.drop i).take n)):=by
 intro C hC R u hv;subst hC;obtain⟨cap,rfl,hus,hnc,_,_,hshp,_⟩:=hv.sls;obtain⟨hz,hO,zU,vs,ty,fz,hh,hfz,hsz,hvr⟩:=R.live s z es hs (R.pos hs hshp);have zE:((es.drop i).take n).length=n:=by simp;omega
 refine .list z _ _ n cap (λq j=>vs.getD ((i+q)*z+j) undef) zE hnc rfl (λe he=>zU e (List.mem_of_mem_drop (List.mem_of_mem_take he))) (λq j hq hj=>?_) (λ_ _ hown=>?_) λq e he j x hx=>?_
 ·have hlt:=k53 (i:=i+q) (n:=es.length) (z:=z) (by omega) hj
  have:i*z+(q*z+j)=(i+q)*z+j:=(by rw[Nat.add_mul];omega);show C.w.cell? _=_;unfold World.cell?;simp only[hh,this];have h2:(i+q)*z+j<vs.size:=(by omega);simp[h2,Array.getD_eq_getD_getElem?]
 ·rcases hown with hb|⟨s,⟨z,es,hs⟩,_⟩
  ·exact hO hb
  ·simp at hs
 ·have hqn:q<n:=by
   have:=(List.getElem?_eq_some_iff.1 he).1;omega
  rw[List.getElem?_take,if_pos hqn,List.getElem?_drop] at he;have hup:=k0G (k1C hu he) hx;exact Vw.same (h:=C.h) hup C rfl R _ (hvr (i+q) e he j x hx)
def VwL(h:k00):List AV->List AV->Prop
 | [],[]=>True
 | v::vs,r::rs=>Vw h v r/\VwL h vs rs
 | _,_=>False
theorem VwL.get{h:k00}:∀ {vs rs:List AV},VwL h vs rs->vs.length=rs.length/\∀(i:Nat) (r:AV),rs[i]?=some r->∃v,vs[i]?=some v/\Vw h v r
 | [],[],_=>⟨rfl,λi r hr=>by simp at hr⟩
 | v::vs,r::rs,h=>by
   obtain⟨h1,h2⟩:=VwL.get h.2;refine⟨by simp[h1],λi x hx=>?_⟩
   cases i with
   | zero=>simp at hx;subst hx;exact⟨v,rfl,h.1⟩
   | succ i=>simpa using h2 i x (by simpa using hx)
theorem Vw.tuple{h:k00}{vs rs:List AV}(H:VwL h vs rs):Vw h (.tuple vs) (.tuple rs):=by
 intro C hC R u hu;obtain⟨us,rfl,hU⟩:=hu.tuple';obtain⟨h1,h2⟩:=H.get;refine .tuple _ _ (by rw[hU.1,h1]) λi x hx=>?_;obtain⟨v,hv,hw⟩:=h2 i x hx;exact hw C hC R _ (hU.2 i v hv)
theorem Vw.agg{h:k00}{vs rs:List AV}(H:VwL h vs rs):Vw h (.agg vs) (.agg rs):=by
 intro C hC R u hu;obtain⟨us,rfl,hU⟩:=hu.agg';obtain⟨h1,h2⟩:=H.get;refine .agg _ _ (by rw[hU.1,h1]) λi x hx=>?_;obtain⟨v,hv,hw⟩:=h2 i x hx;exact hw C hC R _ (hU.2 i v hv)
def kJ6(F:Option kPC)(P:Program)(args:List AV)(R:AV->Prop):Prop:=
 match F with
 | some F=>k3N P 0 F.code (kZG F.rets R) (k63 args F.n) []
 | none=>False
theorem k02.of {P : Program} {g : FuncId} {fn : Func} {args : List AV} {R : AV → Prop} (hf : P.funcs[g]? = some fn) (hname : (fn.name == "runtime.NumGoroutine") = false) (hdr : k5B P fn = true) (H : kJ6 (k2K P fn) P args R) : k02 P g args R := by
 unfold kJ6 at H;split at H
 ·rename_i F hF;exact k02.of_fun hf hname hF hdr H
 ·exact H.elim
theorem k06.step{P:Program}{g:FuncId}{args:List AV}{R:AV->Prop}{h:k00}{K:k09->k00->Prop}{a:k09}{dst:Option Nat}(H:k02 P g args R)(ha:k0Q 0 args=true)(hK:∀r,R r->K (k1V a dst r) h):k06 P g args h (k4T K a dst):=
 k06.of_pure H ha hK
theorem k06.stepE{P:Program}{g:FuncId}{args:List AV}{v:AV}{h:k00}{K:k09->k00->Prop}{a:k09}{dst:Option Nat}(H:k02 P g args (· = v))(ha:k0Q 0 args=true)(hK:K (k1V a dst v) h):k06 P g args h (k4T K a dst):=
 k06.of_pure H ha λr hr=>hr▸hK
theorem kBH.stepE{P:Program}{g:FuncId}{args:List AV}{v:AV}{h0:k00}{K:k09->k00->Prop}{a:k09}{dst:Option Nat}{news:k00}(H:k02 P g args (· = v))(ha:k0Q 0 args=true)(hK:K (k1V a dst v) news):kBH P g args h0 (kFP K a dst news):=
 kBH.of_pure H ha hK
mutual
def AV.ren(f:Nat->Nat):AV->AV
 | .agg cs=>.agg (k4C f cs)
 | .tuple cs=>.tuple (k4C f cs)
 | .list z es=>.list z (k32 f es)
 | .sl s z i n=>.sl (f s) z i n
 | .ref s z i o=>.ref (f s) z i o
 | .cref cs=>.cref (k4C f cs)
 | .mapr s=>.mapr (f s)
 | .func g a b=>.func g (k4C f a) (k4C f b)
 | .iface t v=>.iface t (v.ren f)
 | v=>v
def k4C(f:Nat->Nat):List AV->List AV
 | []=>[]
 | c::cs=>c.ren f::k4C f cs
def k32(f:Nat->Nat):List (List AV)->List (List AV)
 | []=>[]
 | c::cs=>k4C f c::k32 f cs
end
theorem k1M(f:Nat->Nat):∀(l:List AV) (i:Nat),(k4C f l)[i]?=(l[i]?).map (AV.ren f)
 | [],i=>by simp[k4C]
 | c::cs,0=>by simp[k4C]
 | c::cs,i+1=>by simp[k4C,k1M f cs i]
theorem k2E(f:Nat->Nat):∀(l:List (List AV)) (i:Nat),(k32 f l)[i]?=(l[i]?).map (k4C f)
 | [],i=>by simp[k32]
 | c::cs,0=>by simp[k32]
 | c::cs,i+1=>by simp[k32,k2E f cs i]
theorem k1K(f:Nat->Nat):∀(l:List AV),(k4C f l).length=l.length
 | []=>rfl
 | c::cs=>by simp[k4C,k1K f cs]
theorem k55(f:Nat->Nat):∀(l:List (List AV)),(k32 f l).length=l.length
 | []=>rfl
 | c::cs=>by simp[k32,k55 f cs]
mutual
theorem k2J(f:Nat->Nat):∀(v:AV),v.upto 0=true->v.ren f=v
 | .agg cs,h=>by simp only[AV.ren];rw[k45 f cs h]
 | .tuple cs,h=>by simp only[AV.ren];rw[k45 f cs h]
 | .list z es,h=>by simp only[AV.ren];rw[k3Z f es h]
 | .sl _ _ _ _,h=>by simp[AV.upto] at h
 | .ref _ _ _ _,h=>by simp[AV.upto] at h
 | .mapr _,h=>by simp[AV.upto] at h
 | .cref cs,h=>by simp only[AV.ren];rw[k45 f cs h]
 | .func g a b,h=>by
   simp only[AV.upto,Bool.and_eq_true] at h;simp only[AV.ren];rw[k45 f a h.1,k45 f b h.2]
 | .iface t v,h=>by simp only[AV.ren];rw[k2J f v h]
 | .any,_=>rfl
 | .bool _,_=>rfl
 | .int _ _,_=>rfl
 | .str _,_=>rfl
 | .nilp,_=>rfl
 | .nils,_=>rfl
 | .emp,_=>rfl
 | .nilFunc,_=>rfl
 | .nilIface,_=>rfl
theorem k45(f:Nat->Nat):∀(l:List AV),k0Q 0 l=true->k4C f l=l
 | [],_=>rfl
 | c::cs,h=>by
   simp only[k0Q,Bool.and_eq_true] at h;simp only[k4C];rw[k2J f c h.1,k45 f cs h.2]
theorem k3Z(f:Nat->Nat):∀(l:List (List AV)),k18 0 l=true->k32 f l=l
 | [],_=>rfl
 | c::cs,h=>by
   simp only[k18,Bool.and_eq_true] at h;simp only[k32];rw[k45 f c h.1,k3Z f cs h.2]
end
theorem VR.unren{C D:Cfg}{f:Nat->Nat}(hw:D.w=C.w)(ho:∀b,D.own b->C.own b)(hs:∀s,s<D.h.length->C.used (f s)->D.used s/\D.r s=C.r (f s)){y:AV}{v:Value}(h:VR C y v):∀x:AV,x.upto D.h.length=true->x.ren f=y->VR D x v:=by
 have leafy:∀(x:AV),(∀z,x.ren f=z->True):=λ_ _ _=>trivial
 induction h with
 | any v=>intro x hx hr;cases x<;>simp[AV.ren] at hr;exact .any v
 | bool b=>intro x hx hr;cases x<;>simp[AV.ren] at hr;subst hr;exact .bool _
 | int k n=>intro x hx hr;cases x<;>simp[AV.ren] at hr;obtain⟨rfl,rfl⟩:=hr;exact .int _ _
 | str s=>intro x hx hr;cases x<;>simp[AV.ren] at hr;subst hr;exact .str _
 | nilp=>intro x hx hr;cases x<;>simp[AV.ren] at hr;exact .nilp
 | nils=>intro x hx hr;cases x<;>simp[AV.ren] at hr;exact .nils
 | emp a=>intro x hx hr;cases x<;>simp[AV.ren] at hr;exact .emp a
 | nilFunc=>intro x hx hr;cases x<;>simp[AV.ren] at hr;exact .nilFunc
 | nilIface=>intro x hx hr;cases x<;>simp[AV.ren] at hr;exact .nilIface
 | agg cs vs hl h ih =>
   intro x hx hr
   cases x<;>simp[AV.ren] at hr
   rename_i xs;subst hr;refine .agg _ vs (by rw[hl,k1K]) λi u hu=>ih i (u.ren f) (by rw[k1M,hu];rfl) u (k0G hx hu) rfl
 | tuple cs vs hl h ih =>
   intro x hx hr
   cases x<;>simp[AV.ren] at hr
   rename_i xs;subst hr;refine .tuple _ vs (by rw[hl,k1K]) λi u hu=>ih i (u.ren f) (by rw[k1M,hu];rfl) u (k0G hx hu) rfl
 | list z es a m cap g hn hc ha hz hcell hown hv ih =>
   intro x hx hr
   cases x<;>simp[AV.ren] at hr
   rename_i z' xs;obtain⟨rfl,rfl⟩:=hr;rw[k55] at hn;refine .list _ _ a m cap g hn hc ha (λe he=>?_) (λi j hi hj=>by rw[hw];exact hcell i j hi hj) (λh1 h2 h3=>hown h1 h2 (ho _ h3)) λi e he j u hu=>?_
   ·obtain⟨i,hi⟩:=List.mem_iff_getElem?.1 he
    have:=hz (k4C f e) (List.mem_of_getElem? (i:=i) (by rw[k2E,hi];rfl))
    rwa [k1K] at this
   ·exact ih i (k4C f e) (by rw[k2E,he];rfl) j (u.ren f) (by rw[k1M,hu];rfl) u (k0G (k1C hx he) hu) rfl
 | listNil z a cap =>
   intro x hx hr
   cases x<;>simp[AV.ren] at hr
   rename_i z' xs;obtain⟨rfl,hr⟩:=hr
   have:xs=[]:=by cases xs with
    | nil=>rfl
    | cons a b=>simp[k32] at hr
   subst this;exact .listNil _ _ _
 | sl s z i m cap hu hc hsz =>
   intro x hx hr
   cases x<;>simp[AV.ren] at hr
   rename_i s' z' i' n';obtain⟨rfl,rfl,rfl,rfl⟩:=hr;simp only[AV.upto,decide_eq_true_eq] at hx;obtain⟨h1,h2⟩:=hs _ hx hu;rw[<- h2];refine .sl _ _ _ _ cap h1 hc ?_;rw[h2,hw];exact hsz
 | ref s z i o hu =>
   intro x hx hr
   cases x<;>simp[AV.ren] at hr
   rename_i s' z' i' n';obtain⟨rfl,rfl,rfl,rfl⟩:=hr;simp only[AV.upto,decide_eq_true_eq] at hx;obtain⟨h1,h2⟩:=hs _ hx hu;rw[<- h2];exact .ref _ _ _ _ h1
 | mapr s hu =>
   intro x hx hr
   cases x<;>simp[AV.ren] at hr
   rename_i s';subst hr;simp only[AV.upto,decide_eq_true_eq] at hx;obtain⟨h1,h2⟩:=hs _ hx hu;rw[<- h2];exact .mapr _ h1
 | cref cs a g ha hcell hown hv ih =>
   intro x hx hr
   cases x<;>simp[AV.ren] at hr
   rename_i xs;subst hr;rw[k1K] at hcell hown;exact .cref _ a g ha (λj hj=>by rw[hw];exact hcell j hj) (λh1 h3=>hown h1 (ho _ h3)) λj u hu=>ih j (u.ren f) (by rw[k1M,hu];rfl) u (k0G hx hu) rfl
 | func fn first caps vf vc hf hc h1 h2 ih1 ih2 =>
   intro x hx hr
   cases x<;>simp[AV.ren] at hr
   rename_i g a b;obtain⟨rfl,rfl,rfl⟩:=hr;simp only[AV.upto,Bool.and_eq_true] at hx;exact .func _ _ _ vf vc (by rw[hf,k1K]) (by rw[hc,k1K]) (λi u hu=>ih1 i (u.ren f) (by rw[k1M,hu];rfl) u (k0G hx.1 hu) rfl) λi u hu=>ih2 i (u.ren f) (by rw[k1M,hu];rfl) u (k0G hx.2 hu) rfl
 | iface t y v h ih =>
   intro x hx hr
   cases x<;>simp[AV.ren] at hr
   rename_i t' u;obtain⟨rfl,hr⟩:=hr;exact .iface _ _ _ (ih u hx hr)
def wkL(f:Nat->Nat)(m:Nat):List AV->List AV->Prop
 | [],[]=>True
 | y::ys,x::xs=>(x = .any\/(x.upto m=true/\x.ren f=y))/\wkL f m ys xs
 | _,_=>False
theorem kKX{f:Nat->Nat}{m:Nat}:∀ {ys xs:List AV},wkL f m ys xs->ys.length=xs.length/\∀(i:Nat) (x:AV),xs[i]?=some x->x = .any\/(x.upto m=true/\ys[i]?=some (x.ren f))
 | [],[],_=>⟨rfl,λi x hx=>by simp at hx⟩
 | y::ys,x::xs,h=>by
   obtain⟨h1,h2⟩:=kKX h.2;refine⟨by simp[h1],λi u hu=>?_⟩
   cases i with
   | zero =>
     simp only[List.getElem?_cons_zero,Option.some.injEq] at hu;subst hu;rcases h.1 with h3|⟨h3,h4⟩
     ·exact .inl h3
     ·exact .inr ⟨h3,by simp[h4]⟩
   | succ i=>simpa using h2 i u (by simpa using hu)
def wkH(f:Nat->Nat)(h:k00)(m:Nat):Nat->k00->Prop
 | _,[]=>True
 | j,.live z es::r=>(h[f j]?=some (.live z (k32 f es))/\k18 m es=true)/\wkH f h m (j+1) r
 | _,_=>False
theorem kKY{f:Nat->Nat}{h:k00}{m:Nat}:∀ {r:k00} {j:Nat},wkH f h m j r->∀(i:Nat) (x:k27),r[i]?=some x->∃z es,x = .live z es/\h[f (j+i)]?=some (.live z (k32 f es))/\k18 m es=true
 | [],j,_,i,x,hx=>by simp at hx
 | .live z es::r,j,hh,0,x,hx=>by
   simp only[List.getElem?_cons_zero,Option.some.injEq] at hx;exact⟨z,es,hx.symm,hh.1.1,hh.1.2⟩
 | .live z es::r,j,hh,i+1,x,hx=>by
   obtain⟨z',es',h1,h2,h3⟩:=kKY hh.2 i x (by simpa using hx);exact⟨z',es',h1,by rw[show j+(i+1)=j+1+i by omega];exact h2,h3⟩
 | .free::r,j,hh,_,_,_=>by simp[wkH] at hh
 | .dead::r,j,hh,_,_,_=>by simp[wkH] at hh
theorem Wk.ren{a a':k09}{h h':k00}(f:Nat->Nat)(ha:wkL f h'.length a a')(hh:wkH f h h'.length 0 h')(hinj:∀i j,i<h'.length->j<h'.length->f i=f j->i=j):Wk 0 a h a' h':=by
 intro C act hC S hn;subst hC;obtain⟨h1,h2⟩:=kKX ha
 have hlive:∀s,s<h'.length->∃z es,h'[s]?=some (.live z es)/\C.h[f s]?=some (.live z (k32 f es))/\k18 h'.length es=true:=by
  intro s hs;obtain⟨z,es,e1,e2,e3⟩:=kKY hh s h'[s] (by simp[hs]);exact⟨z,es,by rw[<- e1];simp[hs],by simpa using e2,e3⟩
 have hDlive:∀s,Cfg.live { C with h:=h',r:=λs=>C.r (f s) } s->s<h'.length/\C.live (f s):=by
  rintro s ⟨z,es,hx⟩;have hs:=(List.getElem?_eq_some_iff.1 hx).1;obtain⟨z',es',_,e2,_⟩:=hlive s hs;exact⟨hs,z',_,e2⟩
 have hown:∀b,Cfg.own { C with h:=h',r:=λs=>C.r (f s) } b->C.own b:=by
  rintro b (hb|⟨s,hs,hr⟩)
  ·exact .inl hb
  ·exact .inr ⟨f s,(hDlive s hs).2,hr⟩
 have hused:∀s,s<h'.length->Cfg.used { C with h:=h',r:=λs=>C.r (f s) } s:=λs hs=>by
  obtain⟨z,es,e1,_,_⟩:=hlive s hs;exact⟨_,e1,by simp⟩
 have hv:∀ {y:AV} {v:Value},VR C y v->∀x:AV,x.upto h'.length=true->x.ren f=y->VR { C with h:=h',r:=λs=>C.r (f s) } x v:=λhy =>
  VR.unren (C:=C) (D:={ C with h:=h',r:=λs=>C.r (f s) }) rfl hown (λs hs _=>⟨hused s hs,rfl⟩) hy
 refine⟨{ C with h:=h',r:=λs=>C.r (f s) },rfl,rfl,⟨?_,?_,S.nodef⟩,?_,Nat.zero_le _⟩
 ·refine⟨λs z es hl=>?_,λs t hs ht hr=>?_,S.rel.olt,λp hp=>(S.rel.glo p hp).recfg (C:=C) (D:={ C with h:=h',r:=λs=>C.r (f s) }) rfl hown (k49 hp 0),S.rel.gsz⟩
  ·have hs:=(List.getElem?_eq_some_iff.1 hl).1
   obtain⟨z',es',e1,e2,e3⟩:=hlive s hs
   have:k27.live z es=k27.live z' es':=by
    have:some (k27.live z es)=some (k27.live z' es'):=hl.symm.trans e1;simpa using this
   cases this
   obtain⟨g2,o,g,g4,g5,g6⟩:=S.rel.livx (f s) z _ e2;refine⟨g2,o,g,g4,g5.congr (k55 f es).symm λi e he=>⟨k4C f e,by rw[k2E,he];rfl,(k1K f e).symm⟩,λi e he j x hx=>?_⟩
   ·exact hv (g6 i (k4C f e) (by rw[k2E,he];rfl) j (x.ren f) (by rw[k1M,hx];rfl)) x (k0G (k1C e3 he) hx) rfl
  ·obtain⟨k1,k2⟩:=hDlive s hs
   obtain⟨k3,k4⟩:=hDlive t ht;exact hinj s t k1 k3 (S.rel.inj _ _ k2 k4 hr)
 ·refine⟨by rw[S.vrs.1,h1],λi x hx=>?_⟩
  rcases h2 i x hx with rfl|⟨h3,h4⟩
  ·exact .any _
  ·exact hv (S.vrs.2 i _ h4) x h3 rfl
 ·exact⟨rfl,rfl,rfl,rfl,Nat.le_refl _,λs hs=>absurd hs (Nat.not_lt_zero _),λb hb hno=>⟨rfl,λ⟨s,hs,hr⟩=>hno ⟨f s,(hDlive s hs).2,hr⟩⟩,λb x hx=>hx⟩
end Go.Eng
