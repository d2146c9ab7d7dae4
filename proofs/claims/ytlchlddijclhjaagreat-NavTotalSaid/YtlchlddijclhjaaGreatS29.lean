/- Parts of the proofs. -/
import Derived.Test.YtlchlddijclhjaaGreatS20
import Derived.Test.YtlchlddijclhjaaGreatS12
import Derived.Test.YtlchlddijclhjaaGreatSZ
set_option linter.unusedVariables false
set_option linter.unusedSimpArgs false
set_option maxHeartbeats 4000000
namespace Go.Eng
open Go Go.RowKit
inductive k66 where
 | seq (x y:k66)
 | pnil (al:List k0J) (x:k0B) (dst:Option Nat)
 | s (c:k4V)
def kIP(P:Program)(ops:Array Oper):Option k66:=
 match ops.toList with
 | [o1,o2]=>(match k0R P [o1,o2] [o1],o1.guard,o2.guard,o2.op with
   | some al,none,none,.binOp .eql t x y _=>(match P.underlying t,k0C x,k0C y with
     | some (.pointer _),some x',some (.const .nilp)=>some (.pnil al x' o2.dst)
     | _,_,_=>none)
   | _,_,_,_=>none)
 | _=>none
def k0X(P:Program)(F:List Nat):Code->Option k66
 | .seq a b=>(match k0X P F a,k0X P F b with|some x,some y=>some (.seq x y)|_,_=>none)
 | .region id ops false=>(match k0N F id with|true=>kIP P ops|false=>(match k0U P F (.region id ops false) with|some c=>some (.s c)|none=>none))
 | c=>(match k0U P F c with|some c=>some (.s c)|none=>none)
def k9S(P:Program)(F:List Nat):Code->Bool
 | .seq a b=>k9S P F a && k9S P F b
 | c=>k5A P F c
theorem kIS{P:Program}{F:List Nat}{a b:Code}{x y:k66}(h1:k0X P F a=some x)(h2:k0X P F b=some y):k0X P F (.seq a b)=some (.seq x y):=by
 simp only[k0X,h1,h2]
theorem q2I{P:Program}{F:List Nat}{id:Nat}{ops:Array Oper}{x:k66}(hm:k0N F id=true)(h:kIP P ops=some x):k0X P F (.region id ops false)=some x:=by
 simp only[k0X,hm,h]
theorem kSR{P:Program}{F:List Nat}{id:Nat}{ops:Array Oper}{c:k4V}(hm:k0N F id=false)(h:k0U P F (.region id ops false)=some c):k0X P F (.region id ops false)=some (.s c):=by
 simp only[k0X,hm,h]
theorem kIU{P:Program}{F:List Nat}{id:Nat}{ops:Array Oper}{c:k4V}(h:k0U P F (.region id ops true)=some c):k0X P F (.region id ops true)=some (.s c):=by
 simp only[k0X,h]
theorem kA9{P:Program}{F:List Nat}{id:Nat}{a:Code}{c:k4V}(h:k0U P F (.block id a)=some c):k0X P F (.block id a)=some (.s c):=by
 simp only[k0X,h]
theorem kDO{P:Program}{F:List Nat}{x:Operand}{a b:Code}{c:k4V}(h:k0U P F (.cond x a b)=some c):k0X P F (.cond x a b)=some (.s c):=by
 simp only[k0X,h]
theorem kIT{P:Program}{F:List Nat}{c:k4V}(h:k0U P F .ret=some c):k0X P F .ret=some (.s c):=by
 simp only[k0X,h]
def kID:List Nat->k66->List Nat
 | acc,.seq x y=>kID (kID acc x) y
 | acc,.pnil al _ _=>kDG acc al
 | acc,.s c=>kB2 acc c
def vcT(w:k01)(P:Program)(F:List Nat)(el:List Nat)(n:Nat):k66->k17->k09->k00->Prop
 | .seq x y,Q,a,h=>vcT w P F el n x (k6Y (vcT w P F el n y Q) Q) a h
 | .pnil al x dst,Q,a,h=>k1W w P el (λa h=>match evA a x with | .ref _ _ _ _=>Q .normal (k1V a dst (.bool false)) h|_=>False) al a h
 | .s c,Q,a,h=>vcS w P F el n c Q a h
theorem k7U(op:BinOp)(t:TypeId)(x y:Operand)(a:Option Addr)(v:Value):eqGuard op t x y (.pointer a) v=pure ():=by cases op<;>rfl
theorem k9M{P:Program}{t:TypeId}{e:TypeId}(ht:P.underlying t=some (.pointer e))(p:Addr)(w:World)(d:Nat):(Op.equalIn (d+1) t (.pointer (some p)) (.pointer none)).run P w = .ok false w:=by
 simp only[Op.equalIn,Sem.run_bind,k0L w ht,Result.andThen_ok,Sem.run_pure,samePointer]
theorem kM6{C:Cfg}{s z i o:Nat}{v:Value}(h:VR C (.ref s z i o) v):∃a,v = .pointer (some a):=by
 cases h
 exact⟨_,rfl⟩
theorem kQK{P:Program}{el:List Nat}{n:Nat}{id:Nat}{ops:Array Oper}{x:k66}{F:List Nat}{Q Q':k17}{a:k09}{h:k00}(hc:kIP P ops=some x)(hq:∀e a h,Q e a h->Q' e a h)(H:vcT std P F el n x Q a h):AWp P n (.region id ops false) Q' a h:=by
 unfold kIP at hc;split at hc
 ·rename_i o1 o2 hl
  split at hc
  ·rename_i al t x0 y0 u0 h1 g1 g2 hop
   split at hc
   ·rename_i e x' ht hx hy
    simp only[Option.some.injEq] at hc;subst hc;intro C act hC S hn;refine wp_region_list ?_;rw[hl];simp only[k0R] at h1;split at h1
    ·rename_i ao al' hao hal
     simp only[Option.some.injEq] at h1 hal;subst h1;subst hal;obtain⟨k1,k2,k3⟩:=k3C hao
     have hg:ao.guard=none:=by
      rcases k3 with ⟨_,g⟩|⟨j,want,t,g,_,_⟩
      ·exact g
      ·rw[g1] at g;cases g
     have H2:=k0Z (K':=λa h=>match evA a x' with | .ref _ _ _ _=>Q .normal (k1V a o2.dst (.bool false)) h|_=>False) (λa h hh=>hh) H;simp only[k4B,hg] at H2;subst hC;unfold wpList;rw[if_pos (by simp[Region.wanted,g1])];refine .inl (k2U k1 k2 S hn H2 λa' D act' m1 m2 m3 m4=>?_);unfold wpList;rw[if_pos (by simp[Region.wanted,g2])];refine .inl ?_;split at m1
     ·rename_i s z i o hev
      obtain⟨p,hp⟩:=kM6 (hev▸m2.ev x0 x' hx:VR D _ (act'.eval x0));have hn2:=(m2.ev y0 (.const .nilp) hy:VR D .nilp (act'.eval y0)).nilp'
      have hq2:(Op.equal t (.pointer (some p)) (.pointer none)).run P D.w = .ok false D.w:=by
       exact k9M ht p D.w 9999
      have hrun:(execOp act'.eval o2).run P D.w = .ok (.value (.bool false)) D.w:=by
       simp[execOp,hop,hp,hn2,k7U,binOp,hq2]
      unfold Oper.wp;rw[hrun];exact⟨k1V a' o2.dst (.bool false),D,hq _ _ _ m1,rfl,m2.put o2.dst (.bool false),m3,m4⟩
     ·exact m1.elim
    ·cases h1
   ·cases hc
  ·cases hc
 ·cases hc
theorem k2I{P:Program}{F el:List Nat}{n:Nat}{code:Code}{c:k66}{Q Q':k17}{a:k09}{h:k00}(hc:(match k0U P F code with|some c=>some (k66.s c)|none=>none)=some c)(hd:k5A P F code=true)(hq:∀e a h,Q e a h->Q' e a h)(H:vcT std P F el n c Q a h):AWp P n code Q' a h:=by
 split at hc
 ·rename_i x hx
  simp only[Option.some.injEq] at hc;subst hc;exact k4X hx hd hq H
 ·cases hc
theorem k85{P:Program}{F el:List Nat}{n:Nat}:∀ {code:Code} {c:k66} {Q Q':k17} {a:k09} {h:k00},k0X P F code=some c->k9S P F code=true->(∀e a h,Q e a h->Q' e a h)->vcT std P F el n c Q a h->AWp P n code Q' a h
 | .seq x y,c,Q,Q',a,h,hc,hd,hq,H=>by
   simp only[k0X] at hc;split at hc
   ·rename_i p q hp hq2
    simp only[Option.some.injEq] at hc;subst hc;simp only[k9S,Bool.and_eq_true] at hd;refine AWp.seq (k85 hp hd.1 (λe a h hr=>?_) H)
    cases e with
    | normal=>exact k85 hq2 hd.2 hq hr
    | _=>exact hq _ _ _ hr
   ·cases hc
 | .region id ops false,c,Q,Q',a,h,hc,hd,hq,H=>by
   simp only[k0X] at hc
   cases hm:k0N F id with
   | true=>simp only[hm] at hc;exact kQK hc hq H
   | false=>simp only[hm] at hc;exact k2I (F:=F) hc hd hq H
 | .region id ops true,c,Q,Q',a,h,hc,hd,hq,H=>k2I (F:=F) hc hd hq H
 | .skip,c,Q,Q',a,h,hc,hd,hq,H=>k2I (F:=F) hc hd hq H
 | .ret,c,Q,Q',a,h,hc,hd,hq,H=>k2I (F:=F) hc hd hq H
 | .exit id,c,Q,Q',a,h,hc,hd,hq,H=>k2I (F:=F) hc hd hq H
 | .cond x p q,c,Q,Q',a,h,hc,hd,hq,H=>k2I (F:=F) hc hd hq H
 | .block id x,c,Q,Q',a,h,hc,hd,hq,H=>k2I (F:=F) hc hd hq H
 | .loop x,c,Q,Q',a,h,hc,hd,hq,H=>k2I (F:=F) hc hd hq H
 | .rangeFunc _ _ _ _,c,Q,Q',a,h,hc,hd,hq,H=>k2I (F:=F) hc hd hq H
 | .scope _,c,Q,Q',a,h,hc,hd,hq,H=>k2I (F:=F) hc hd hq H
 | .label _,c,Q,Q',a,h,hc,hd,hq,H=>k2I (F:=F) hc hd hq H
 | .goto _,c,Q,Q',a,h,hc,hd,hq,H=>k2I (F:=F) hc hd hq H
 | .refuse _,c,Q,Q',a,h,hc,hd,hq,H=>k2I (F:=F) hc hd hq H
theorem k06.ofT {P : Program} {F : List Nat} {g : FuncId} {fn : Func} {code : Code} {sc : k66} {r : List kE0} {args : List AV} {h : k00} {K : AV → k00 → Prop} (hf : P.funcs[g]? = some fn) (hname : (fn.name == "runtime.NumGoroutine") = false) (hb : fn.body = some code) (hr : kBP P fn.results.toList = some r)
 (hc:k0X P F code=some sc) (hdr:k9S P F code=true) (H:∀w,w=std->vcT w P F (kID [] sc) h.length sc (kG5 r K) (k63 args fn.ntmps) h):k06 P g args h K:=by
 have HA:AWp P h.length code (kVJ r K) (k63 args fn.ntmps) h:=k85 hc hdr (λe a h hr=>k95 e a h hr) (H std rfl);refine⟨⟨fn,hf,by simp[hb],hname⟩,λC vs hC RC hv=>?_⟩;refine calls_of_wp hf hb ?_;refine wp_mono (HA C _ hC (k7O RC hv fn.ntmps) (Nat.le_refl _)) λe act' w' ⟨a',D,h1,h2,h3,h4,h5⟩=>?_
 have fin:(∃l,k54 a' D.h r=some l/\K (k2Q l) D.h)->act'.defers=[]/\∃v,(results fn act'.tmps).run P w' = .ok v w' /\
  ∃v' r D,Ending.returned v = .returned v'/\K r D.h/\D.w=w'/\Rel D/\VR D r v'/\Ext h.length C D/\h.length<=D.h.length:=by
  rintro⟨l,hl,hK⟩
  obtain⟨u,k1,k2⟩:=k2V hr h3 hl;subst h2;exact⟨h3.nodef,u,k1,u,_,D,rfl,hK,rfl,h3.rel,k2,h4,h5⟩
 cases e with
 | normal=>exact fin h1
 | ret=>exact fin h1
 | exit id=>exact h1.elim
 | goto l=>exact h1.elim
 | panic c=>exact h1.elim
 | outgrown=>exact h1.elim
theorem k1Q.weak{P:Program}{n:Nat}{c:k2Z}{Q:k17}{a:k09}{h:k00}(H:k1Q P n c (λe a h=>∃a' h',Wk n a h a' h'/\Q e a' h') a h):k1Q P n c Q a h:=
 ⟨λcode h1 h2=>(match H with|⟨H⟩=>H code h1 h2).post λ_ _ _ hq=>hq⟩
inductive TOp where
 | o (a:k0J)
 | p (v:Bool) (x:k0B) (dst:Option Nat) (g:Option (Nat×Bool))
def kR5(P:Program)(l:List Oper)(o:Oper)(v:Bool)(t:TypeId)(x y:Operand):Option (Bool×k0B×Option (Nat×Bool)):=
 match P.underlying t,k0C x,k0C y with
  | some (.pointer _),some x',some (.const .nilp)=>(match o.guard with
    | none=>some (v,x',none)
    | some (j,want)=>(match (l[j]?).bind (·.dst) with|some t=>some (v,x',some (t,want))|none=>none))
  | _,_,_=>none
def kZX(P:Program)(l:List Oper)(o:Oper):Option (Bool×k0B×Option (Nat×Bool)):=
 match o.op with
 | .binOp .eql t x y _=>kR5 P l o false t x y
 | .binOp .neq t x y _=>kR5 P l o true t x y
 | _=>none
def kFQ(P:Program)(l0:List Oper):List Oper->Option (List TOp)
 | []=>some []
 | o::l=>(match kFQ P l0 l with
   | some al=>(match kZX P l0 o with
     | some (v,x,g)=>some (.p v x o.dst g::al)
     | none=>(match kON P l0 o with|some a=>some (.o a::al)|none=>none))
   | none=>none)
def pnK(v:Bool)(x:k0B)(dst:Option Nat)(K:k09->k00->Prop)(a:k09)(h:k00):Prop:=
 match evA a x with | .ref _ _ _ _=>K (k1V a dst (.bool v)) h|_=>False
def gdK(dst:Option Nat)(g:Option (Nat×Bool))(one:k09->k00->Prop)(K:k09->k00->Prop)(a:k09)(h:k00):Prop:=
 match g with
 | none=>one a h
 | some (t,want) =>
   match a.getD t .any with
   | .bool b =>
     match want with
     | true=>brL b (λ_=>one (a.set t (.bool true)) h) (λ_=>K (k1V (a.set t (.bool false)) dst .undef) h)
     | false=>brL b (λ_=>K (k1V (a.set t (.bool true)) dst .undef) h) (λ_=>one (a.set t (.bool false)) h)
   | .tuple []=>K (k1V a dst .undef) h
   | _=>False
def k9J(w:k01)(P:Program)(el:List Nat)(K:k09->k00->Prop):List TOp->k09->k00->Prop
 | [],a,h=>K a h
 | .o o::rest,a,h=>gdK o.dst o.guard (k86 w P el o (k9J w P el K rest)) (k9J w P el K rest) a h
 | .p v x dst g::rest,a,h=>gdK dst g (pnK v x dst (k9J w P el K rest)) (k9J w P el K rest) a h
section
variable {P:Program} {n:Nat} {Q:Act->World->Prop}
theorem kC8{l:List Oper}{o:Oper}{v v0:Bool}{t:TypeId}{x0 y0:Operand}{x:k0B}{g:Option (Nat×Bool)}(h:kR5 P l o v0 t x0 y0=some (v,x,g)):v=v0/\(∃e,P.underlying t=some (.pointer e)/\k0C x0=some x/\k0C y0=some (.const .nilp)) /\
 ((o.guard=none/\g=none)\/∃j want t,o.guard=some (j,want)/\(l[j]?).bind (·.dst)=some t/\g=some (t,want)):=by
 unfold kR5 at h;split at h
 ·rename_i e x' ht hx hy
  split at h
  ·rename_i hg
   simp only[Option.some.injEq,Prod.mk.injEq] at h;obtain⟨rfl,rfl,rfl⟩:=h;exact⟨rfl,⟨e,ht,hx,hy⟩,.inl ⟨hg,rfl⟩⟩
  ·rename_i j want hg
   split at h
   ·rename_i t' hj
    simp only[Option.some.injEq,Prod.mk.injEq] at h;obtain⟨rfl,rfl,rfl⟩:=h;exact⟨rfl,⟨e,ht,hx,hy⟩,.inr ⟨j,want,t',hg,hj,rfl⟩⟩
   ·cases h
 ·cases h
theorem kF2{l:List Oper}{o:Oper}{v:Bool}{x:k0B}{g:Option (Nat×Bool)}(h:kZX P l o=some (v,x,g)):(∃op t e x0 y0 u,o.op = .binOp op t x0 y0 u/\(op = .eql/\v=false\/op = .neq/\v=true)/\P.underlying t=some (.pointer e)/\k0C x0=some x/\k0C y0=some (.const .nilp)) /\
 ((o.guard=none/\g=none)\/∃j want t,o.guard=some (j,want)/\(l[j]?).bind (·.dst)=some t/\g=some (t,want)):=by
 unfold kZX at h;split at h
 ·rename_i t x0 y0 u hop
  obtain⟨h1,⟨e,h2,h3,h4⟩,h5⟩:=kC8 h;exact⟨⟨_,t,e,x0,y0,u,hop,.inl ⟨rfl,h1⟩,h2,h3,h4⟩,h5⟩
 ·rename_i t x0 y0 u hop
  obtain⟨h1,⟨e,h2,h3,h4⟩,h5⟩:=kC8 h;exact⟨⟨_,t,e,x0,y0,u,hop,.inr ⟨rfl,h1⟩,h2,h3,h4⟩,h5⟩
 ·cases h
theorem kG9{l:List Oper}{o:Oper}{v:Bool}{x:k0B}{g:Option (Nat×Bool)}{K:k09->k00->Prop}{K':Act->World->Prop}{R:Exit->Act->World->Prop}{a:k09}{C:Cfg}{act:Act}(hi:kZX P l o=some (v,x,g))(S:St C a act)(H:pnK v x o.dst K a C.h)
 (hK:∀a' act',K a' C.h->St C a' act'->K' act' C.w):o.wp P act C.w K' R:=by
 obtain⟨⟨op,t,e,x0,y0,u,hop,hov,ht,hx,hy⟩,_⟩:=kF2 hi;unfold pnK at H;split at H
 ·rename_i s z i o2 hev
  obtain⟨p,hp⟩:=kM6 (hev▸S.ev x0 x hx:VR C _ (act.eval x0));have hn2:=(S.ev y0 (.const .nilp) hy:VR C .nilp (act.eval y0)).nilp';have hq2:(Op.equal t (.pointer (some p)) (.pointer none)).run P C.w = .ok false C.w:=k9M ht p C.w 9999
  have hrun:(execOp act.eval o).run P C.w = .ok (.value (.bool v)) C.w:=by
   rcases hov with ⟨rfl,rfl⟩|⟨rfl,rfl⟩
   ·simp[execOp,hop,hp,hn2,k7U,binOp,hq2]
   ·simp[execOp,hop,hp,hn2,k7U,binOp,hq2]
  unfold Oper.wp;rw[hrun];exact hK _ _ H (S.put o.dst (.bool v))
 ·exact H.elim
theorem kKG{l0:List Oper}{o:Oper}{l:List Oper}{al:List TOp}(h:kFQ P l0 (o::l)=some al):∃al',kFQ P l0 l=some al'/\((∃v x g,kZX P l0 o=some (v,x,g)/\al = .p v x o.dst g::al')\/∃a,kON P l0 o=some a/\al = .o a::al'):=by
 simp only[kFQ] at h;split at h
 ·rename_i al' h1
  split at h
  ·rename_i v x g h2
   exact⟨al',h1,.inl ⟨v,x,g,h2,(Option.some.inj h).symm⟩⟩
  ·split at h
   ·rename_i a h3
    exact⟨al',h1,.inr ⟨a,h3,(Option.some.inj h).symm⟩⟩
   ·cases h
 ·cases h
theorem kI3{l0:List Oper}{o:Oper}{l:List Oper}{g:Option (Nat×Bool)}{one K:k09->k00->Prop}{R:Exit->Act->World->Prop}{a:k09}{C:Cfg}{act:Act}(hg:(o.guard=none/\g=none)\/∃j want t,o.guard=some (j,want)/\(l0[j]?).bind (·.dst)=some t/\g=some (t,want))(S:St C a act)
 (H:gdK o.dst g one K a C.h) (go:∀a',St C a' act->one a' C.h->o.wp P act C.w (wpList P l0.toArray R l) R) (skip:∀a',St C a' act->K (k1V a' o.dst .undef) C.h->wpList P l0.toArray R l (act.put o.dst undef) C.w):wpList P l0.toArray R (o::l) act C.w:=by
 unfold wpList;unfold gdK at H;rcases hg with ⟨g1,rfl⟩|⟨j,want,t,g1,g2,rfl⟩
 ·rw[if_pos (by simp[Region.wanted,g1])]
  exact .inl (go a S H)
 ·simp only at H
  split at H
  ·rename_i b hb
   have hy:=k9G g2 S hb
   have H2:(b=want->one (a.set t (.bool want)) C.h)/\(b = !want->K (k1V (a.set t (.bool (!want))) o.dst .undef) C.h):=by
    cases want with
    | true=>obtain⟨k1,k2⟩:=k7X H;exact⟨k1,k2⟩
    | false=>obtain⟨k1,k2⟩:=k7X H;exact⟨k2,k1⟩
   by_cases hbw:b=want
   ·rw[if_pos (by simp[Region.wanted,g1,hy,hbw])]
    exact .inl (go _ (S.setB (by rw[hb,hbw])) (H2.1 hbw))
   ·rw[if_neg (by simp[Region.wanted,g1,hy,hbw])]
    have hbn:b = !want:=(by cases b<;>cases want<;>simp_all);exact skip _ (S.setB (by rw[hb,hbn])) (H2.2 hbn)
  ·rename_i hb
   have hy:=k81 g2 S hb;rw[if_neg (by simp[Region.wanted,g1,hy])];exact skip _ S H
  ·exact H.elim
theorem k3G{el:List Nat}{K:k09->k00->Prop}{R:Exit->Act->World->Prop}{l0:List Oper}:∀ {l:List Oper} {al:List TOp} {a:k09} {C:Cfg} {act:Act},kFQ P l0 l=some al->St C a act->n<=C.h.length->k9J std P el K al a C.h ->
 (∀a' D act',K a' D.h->St D a' act'->Ext n C D->n<=D.h.length->R .normal act' D.w)->wpList P l0.toArray R l act C.w
 | [],al,a,C,act,hc,S,hn,H,hK=>by
   simp only[kFQ,Option.some.injEq] at hc;subst hc;exact hK a C act H S (Ext.refl _ _) hn
 | o::l,al,a,C,act,hc,S,hn,H,hK=>by
   obtain⟨al',h1,⟨v,x,g,h2,rfl⟩|⟨ao,h2,rfl⟩⟩:=kKG hc
   ·obtain⟨_,hg⟩:=kF2 h2
    refine kI3 hg S H (λa' S' H'=>?_) (λa' S' H'=>k3G h1 (S'.put o.dst (k83 C)) hn H' hK);exact kG9 h2 S' H' λa2 act2 m1 m2=>k3G h1 m2 hn m1 hK
   ·obtain⟨k1,k2,hg⟩:=k3C h2
    have H:gdK o.dst ao.guard (k86 std P el ao (k9J std P el K al')) (k9J std P el K al') a C.h:=(by rw[<- k2];exact H);refine kI3 hg S H (λa' S' H'=>?_) (λa' S' H'=>k3G h1 (S'.put o.dst (k83 C)) hn H' hK);exact k2U k1 k2 S' hn (k30 H' λa h hh=>hh) λa2 D act2 m1 m2 m3 m4=>k3G h1 m2 m4 m1 λa3 D3 act3 q1 q2 q3 q4=>hK a3 D3 act3 q1 q2 (m3.trans q3) q4
end
inductive k8X where
 | seq (x y:k8X)
 | pops (l:List TOp)
 | t (c:k66)
def k0W(P:Program)(F G:List Nat):Code->Option k8X
 | .seq a b=>(match k0W P F G a,k0W P F G b with|some x,some y=>some (.seq x y)|_,_=>none)
 | .region id ops false=>(match k0N G id with|true=>(match kFQ P ops.toList ops.toList with|some l=>some (.pops l)|none=>none)|false=>(match k0X P F (.region id ops false) with|some c=>some (.t c)|none=>none))
 | c=>(match k0X P F c with|some c=>some (.t c)|none=>none)
def k7B(P:Program)(F G:List Nat):Code->Bool
 | .seq a b=>k7B P F G a && k7B P F G b
 | .region id ops false=>(match k0N G id with|true=>true|false=>k9S P F (.region id ops false))
 | c=>k9S P F c
theorem kOK{P:Program}{F G:List Nat}{a b:Code}{x y:k8X}(h1:k0W P F G a=some x)(h2:k0W P F G b=some y):k0W P F G (.seq a b)=some (.seq x y):=by
 simp only[k0W,h1,h2]
theorem kY3{P:Program}{F G:List Nat}{id:Nat}{ops:Array Oper}{l:List TOp}(hm:k0N G id=true)(h:kFQ P ops.toList ops.toList=some l):k0W P F G (.region id ops false)=some (.pops l):=by
 simp only[k0W,hm,h]
theorem kY4{P:Program}{F G:List Nat}{id:Nat}{ops:Array Oper}{c:k66}(hm:k0N G id=false)(h:k0X P F (.region id ops false)=some c):k0W P F G (.region id ops false)=some (.t c):=by
 simp only[k0W,hm,h]
theorem kOM{P:Program}{F G:List Nat}{id:Nat}{ops:Array Oper}{c:k66}(h:k0X P F (.region id ops true)=some c):k0W P F G (.region id ops true)=some (.t c):=by
 simp only[k0W,h]
theorem kDN{P:Program}{F G:List Nat}{id:Nat}{a:Code}{c:k66}(h:k0X P F (.block id a)=some c):k0W P F G (.block id a)=some (.t c):=by
 simp only[k0W,h]
theorem kH6{P:Program}{F G:List Nat}{x:Operand}{a b:Code}{c:k66}(h:k0X P F (.cond x a b)=some c):k0W P F G (.cond x a b)=some (.t c):=by
 simp only[k0W,h]
theorem kOL{P:Program}{F G:List Nat}{c:k66}(h:k0X P F .ret=some c):k0W P F G .ret=some (.t c):=by
 simp only[k0W,h]
def kIC:List Nat->k8X->List Nat
 | acc,.seq x y=>kIC (kIC acc x) y
 | acc,.pops _=>acc
 | acc,.t c=>kID acc c
def vcU(w:k01)(P:Program)(F:List Nat)(el:List Nat)(n:Nat):k8X->k17->k09->k00->Prop
 | .seq x y,Q,a,h=>vcU w P F el n x (k6Y (vcU w P F el n y Q) Q) a h
 | .pops l,Q,a,h=>k9J w P el (Q .normal) l a h
 | .t c,Q,a,h=>vcT w P F el n c Q a h
theorem k2H{P:Program}{F el:List Nat}{n:Nat}{code:Code}{c:k8X}{Q Q':k17}{a:k09}{h:k00}(hc:(match k0X P F code with|some c=>some (k8X.t c)|none=>none)=some c)(hd:k9S P F code=true)(hq:∀e a h,Q e a h->Q' e a h)(H:vcU std P F el n c Q a h):AWp P n code Q' a h:=by
 split at hc
 ·rename_i x hx
  simp only[Option.some.injEq] at hc;subst hc;exact k85 hx hd hq H
 ·cases hc
theorem k84{P:Program}{F G el:List Nat}{n:Nat}:∀ {code:Code} {c:k8X} {Q Q':k17} {a:k09} {h:k00},k0W P F G code=some c->k7B P F G code=true->(∀e a h,Q e a h->Q' e a h)->vcU std P F el n c Q a h->AWp P n code Q' a h
 | .seq x y,c,Q,Q',a,h,hc,hd,hq,H=>by
   simp only[k0W] at hc;split at hc
   ·rename_i p q hp hq2
    simp only[Option.some.injEq] at hc;subst hc;simp only[k7B,Bool.and_eq_true] at hd;refine AWp.seq (k84 hp hd.1 (λe a h hr=>?_) H)
    cases e with
    | normal=>exact k84 hq2 hd.2 hq hr
    | _=>exact hq _ _ _ hr
   ·cases hc
 | .region id ops false,c,Q,Q',a,h,hc,hd,hq,H=>by
   simp only[k0W] at hc;simp only[k7B] at hd
   cases hm:k0N G id with
   | true =>
     simp only[hm] at hc;split at hc
     ·rename_i l hl
      simp only[Option.some.injEq] at hc;subst hc;intro C act hC S hn;subst hC;refine wp_region_list ?_;exact k3G (l0:=ops.toList) hl S hn H λa' D act' m1 m2 m3 m4=>⟨a',D,hq _ _ _ m1,rfl,m2,m3,m4⟩
     ·cases hc
   | false=>simp only[hm] at hc hd;exact k2H (F:=F) hc hd hq H
 | .region id ops true,c,Q,Q',a,h,hc,hd,hq,H=>k2H (F:=F) hc hd hq H
 | .skip,c,Q,Q',a,h,hc,hd,hq,H=>k2H (F:=F) hc hd hq H
 | .ret,c,Q,Q',a,h,hc,hd,hq,H=>k2H (F:=F) hc hd hq H
 | .exit id,c,Q,Q',a,h,hc,hd,hq,H=>k2H (F:=F) hc hd hq H
 | .cond x p q,c,Q,Q',a,h,hc,hd,hq,H=>k2H (F:=F) hc hd hq H
 | .block id x,c,Q,Q',a,h,hc,hd,hq,H=>k2H (F:=F) hc hd hq H
 | .loop x,c,Q,Q',a,h,hc,hd,hq,H=>k2H (F:=F) hc hd hq H
 | .rangeFunc _ _ _ _,c,Q,Q',a,h,hc,hd,hq,H=>k2H (F:=F) hc hd hq H
 | .scope _,c,Q,Q',a,h,hc,hd,hq,H=>k2H (F:=F) hc hd hq H
 | .label _,c,Q,Q',a,h,hc,hd,hq,H=>k2H (F:=F) hc hd hq H
 | .goto _,c,Q,Q',a,h,hc,hd,hq,H=>k2H (F:=F) hc hd hq H
 | .refuse _,c,Q,Q',a,h,hc,hd,hq,H=>k2H (F:=F) hc hd hq H
theorem k06.ofU {P : Program} {F G : List Nat} {g : FuncId} {fn : Func} {code : Code} {sc : k8X} {r : List kE0} {args : List AV} {h : k00} {K : AV → k00 → Prop} (hf : P.funcs[g]? = some fn) (hname : (fn.name == "runtime.NumGoroutine") = false) (hb : fn.body = some code) (hr : kBP P fn.results.toList = some r)
 (hc:k0W P F G code=some sc) (hdr:k7B P F G code=true) (H:∀w,w=std->vcU w P F (kIC [] sc) h.length sc (kG5 r K) (k63 args fn.ntmps) h):k06 P g args h K:=by
 have HA:AWp P h.length code (kVJ r K) (k63 args fn.ntmps) h:=k84 hc hdr (λe a h hr=>k95 e a h hr) (H std rfl);refine⟨⟨fn,hf,by simp[hb],hname⟩,λC vs hC RC hv=>?_⟩;refine calls_of_wp hf hb ?_;refine wp_mono (HA C _ hC (k7O RC hv fn.ntmps) (Nat.le_refl _)) λe act' w' ⟨a',D,h1,h2,h3,h4,h5⟩=>?_
 have fin:(∃l,k54 a' D.h r=some l/\K (k2Q l) D.h)->act'.defers=[]/\∃v,(results fn act'.tmps).run P w' = .ok v w' /\
  ∃v' r D,Ending.returned v = .returned v'/\K r D.h/\D.w=w'/\Rel D/\VR D r v'/\Ext h.length C D/\h.length<=D.h.length:=by
  rintro⟨l,hl,hK⟩
  obtain⟨u,k1,k2⟩:=k2V hr h3 hl;subst h2;exact⟨h3.nodef,u,k1,u,_,D,rfl,hK,rfl,h3.rel,k2,h4,h5⟩
 cases e with
 | normal=>exact fin h1
 | ret=>exact fin h1
 | exit id=>exact h1.elim
 | goto l=>exact h1.elim
 | panic c=>exact h1.elim
 | outgrown=>exact h1.elim
def k36(P:Program)(n:Nat)(K:k09->k00->Prop)(al:List k0J)(deps:List (List Nat)):Nat->List Nat->k09->k00->Prop
 | 0,done,a,h=>if (k16 done 0 deps).isEmpty then K a h else False
 | f+1,done,a,h=>if (k16 done 0 deps).isEmpty then K a h else kOV (k16 done 0 deps) λi=>match al[i]? with|some o=>k4B P (λx y=>∃a2 h2,Wk n x y a2 h2/\k36 P n K al deps f (i::done) a2 h2) [o] a h|none=>False
theorem kCN{P:Program}{n:Nat}{l0:List Oper}{al:List k0J}(hc:k0R P l0 l0=some al){E:List Nat}{ds:List (List Nat)}(yG:∀done:List Nat,(∀e,e∈E->done.contains e=true)->∀i,i∈k16 done 0 ds↔i∈k16 done 0 (l0.map k1A)){K:k09->k00->Prop}{Q:Exit->Act->World->Prop}:∀(f:Nat) (done:List Nat) (listed:Array Bool) (a:k09) (C:Cfg) (act:Act),
 listed.size=l0.length->(∀i,listed.getD i false=done.contains i)->(∀e,e∈E->done.contains e=true)->k36 P n K al ds f done a C.h->St C a act->n<=C.h.length ->
 (∀a' D act',K a' D.h->St D a' act'->Ext n C D->n<=D.h.length->Q .normal act' D.w)->wpAny P .any l0.toArray Q f listed act C.w:=by
 intro f
 induction f with
 | zero =>
   intro done listed a C act hs hrel hE H S hn hK;have rdy:∀x,x∈Region.ready .any l0.toArray listed↔x∈k16 done 0 ds:=λx=>(k39 hs hrel x).trans (yG done hE x).symm;simp only[k36] at H;split at H
   ·rename_i he
    refine⟨?_,hK _ _ _ H S (Ext.refl _ _) hn⟩
    cases hr:Region.ready .any l0.toArray listed with
    | nil=>rfl
    | cons x xs =>
      have:=(rdy x).1 (by rw[hr];simp);rw[List.isEmpty_iff.1 he] at this;cases this
   ·exact H.elim
 | succ f ih =>
   intro done listed a C act hs hrel hE H S hn hK;have rdy:∀x,x∈Region.ready .any l0.toArray listed↔x∈k16 done 0 ds:=λx=>(k39 hs hrel x).trans (yG done hE x).symm;simp only[k36] at H;split at H
   ·rename_i he
    have hnil:Region.ready .any l0.toArray listed=[]:=by
     cases hr:Region.ready .any l0.toArray listed with
     | nil=>rfl
     | cons x xs =>
       have:=(rdy x).1 (by rw[hr];simp);rw[List.isEmpty_iff.1 he] at this;cases this
    exact⟨λ_=>hK _ _ _ H S (Ext.refl _ _) hn,λi hi=>by rw[hnil] at hi;cases hi⟩
   ·rename_i he
    refine⟨λhnil=>?_,λi hi=>?_⟩
    ·exfalso
     apply he
     cases hr:k16 done 0 ds with
     | nil=>rfl
     | cons x xs =>
       have:=(rdy x).2 (by rw[hr];simp);rw[hnil] at this;cases this
    ·have H2:=k6X H i ((rdy i).1 hi)
     obtain⟨_,o,ho,_⟩:=mem_ready.1 hi;have ho:l0[i]?=some o:=(by simpa using ho);have hil:=(List.getElem?_eq_some_iff.1 ho).1;obtain⟨e1,e2⟩:=k1H hc;have hao:al[i]?=some al[i]:=List.getElem?_eq_getElem Z.o;rw[hao] at H2;simp only at H2
     have hc1:k0R P l0 [o]=some [al[i]]:=by
      have h1:=(e2 i).2;have h2:=(k1H h1).2 1
      have k1:(l0.drop i).take 1=[o]:=by
       rw[List.drop_eq_getElem_cons hil];simp only[List.take_succ_cons,List.take_zero];rw[List.getElem?_eq_getElem hil] at ho;rw[Option.some.inj ho]
      have k2:(al.drop i).take 1=[al[i]]:=by
       rw[List.drop_eq_getElem_cons Z.o];simp only[List.take_succ_cons,List.take_zero]
      rw[<- k1,<- k2];exact h2.1
     refine kHH ho ?_;refine k38 hc1 S hn H2 λa' D act' m1 m2 m3 m4=>?_;obtain⟨a2,h2,W,m1⟩:=m1;obtain⟨D2,d1,d2,d3,d4,d5⟩:=W D act' rfl m2 m4;subst d1;rw[<- d2];refine ih (i::done) _ a2 D2 act' (by simp[hs]) (λj=>?_) (λe he=>by have:=hE e he;simp at this ⊢;exact .inr this) m1 d3 d5 λa3 D3 act3 q1 q2 q3 q4=>hK a3 D3 act3 q1 q2 ((m3.trans d4).trans q3) q4;by_cases hij:j=i
     ·subst hij
      have:j<listed.size:=(by omega);simp[this]
     ·rw[getD_set_ne false (Ne.symm hij),hrel j]
      simp[hij]
theorem k9R{P:Program}{n:Nat}{l0:List Oper}{al:List k0J}(hc:k0R P l0 l0=some al)(hssa:kLO l0=true){K:k09->k00->Prop}{Q:Exit->Act->World->Prop}(hQ:∀c a w,¬Q (.panic c) a w){E:List Nat}:∀(todo done:List Nat) (f:Nat) (listed:Array Bool) (a:k09) (C:Cfg) (act:Act),
 E=done.reverse++todo->k9B l0 done todo=true->listed.size=l0.length->(∀i,listed.getD i false=done.contains i)->k36 P n K al (k2Y E 0 (l0.map k1A)) (todo.length+f) done a C.h->St C a act->n<=C.h.length ->
 (∀a' D act',K a' D.h->St D a' act'->Ext n C D->n<=D.h.length->Q .normal act' D.w)->wpAny P .any l0.toArray Q (todo.length+f) listed act C.w
 | [],done,f,listed,a,C,act,hE,hok,hs,hrel,H,S,hn,hK=>by
   refine kCN (n:=n) hc (E:=E) (λd hd i=>kFO d hd i) _ done listed a C act hs hrel (λe he=>?_) H S hn hK;rw[hE] at he;simpa using he
 | i::r,done,f,listed,a,C,act,hE,hok,hs,hrel,H,S,hn,hK=>by
   simp only[k9B,Bool.and_eq_true] at hok;obtain⟨hb,hok⟩:=hok;unfold kIE at hb;split at hb
   ·rename_i o ho
    simp only[Bool.and_eq_true] at hb;obtain⟨⟨h1,h3⟩,h4⟩:=hb
    have h2:o.guard.isNone=true:=by
     simp only[kLO,Bool.and_eq_true,List.all_eq_true] at hssa;exact(hssa.1 o (List.mem_of_getElem? ho)).1.1
    have hil:=(List.getElem?_eq_some_iff.1 ho).1;rw[k2O] at h3;have hnd:done.contains i=false:=by simpa using h3
    have h4:(k1A o).all done.contains=true:=by
     rw[List.all_eq_true] at h4 ⊢;intro x hx;rw[<- k2O];exact h4 x hx
    have hrdy0:i∈k16 done 0 (l0.map k1A):=by
     rw[k3H];refine⟨Nat.zero_le _,hnd,k1A o,by rw[Nat.sub_zero,List.getElem?_map,ho];rfl,λe he=>?_⟩;exact List.all_eq_true.1 h4 e he
    have hrdy:i∈k16 done 0 (k2Y E 0 (l0.map k1A)):=by
     rw[k3H];refine⟨Nat.zero_le _,hnd,_,by rw[Nat.sub_zero];exact k5S (d:=k1A o) (by rw[List.getElem?_map,ho];rfl),λe he=>?_⟩;have hcon:E.contains (0+i)=true:=(by rw[hE,Nat.zero_add];simp);rw[k2O,hcon] at he;simp only at he;rw[Nat.zero_add,hE,k96 (by simpa using hnd)] at he
     cases done with
     | nil=>simp at he
     | cons x d =>
       simp at he;subst he;simp
    have hready:i∈Region.ready .any l0.toArray listed:=(k39 hs hrel i).2 hrdy0;have e:(i::r).length+f=(r.length+f)+1:=(by simp;omega);rw[e] at H ⊢;simp only[k36] at H
    rw[if_neg (by cases hr:k16 done 0 (k2Y E 0 (l0.map k1A)) with
     | nil=>rw[hr] at hrdy;cases hrdy
     | cons x xs=>simp)] at H
    have H2:=k6X H i hrdy;obtain⟨e1,e2⟩:=k1H hc;have hao:al[i]?=some al[i]:=List.getElem?_eq_getElem Z.o;rw[hao] at H2;simp only at H2
    have hc1:k0R P l0 [o]=some [al[i]]:=by
     have h1:=(e2 i).2;have h2:=(k1H h1).2 1
     have k1:(l0.drop i).take 1=[o]:=by
      rw[List.drop_eq_getElem_cons hil];simp only[List.take_succ_cons,List.take_zero];rw[List.getElem?_eq_getElem hil] at ho;rw[Option.some.inj ho]
     have k2:(al.drop i).take 1=[al[i]]:=by
      rw[List.drop_eq_getElem_cons Z.o];simp only[List.take_succ_cons,List.take_zero]
     rw[<- k1,<- k2];exact h2.1
    simp only[k0R] at hc1;split at hc1
    ·rename_i ao al' hao' hal'
     simp only[Option.some.injEq] at hc1;simp only[Option.some.injEq] at hal';subst hal';have hao2:ao=al[i]:=(by simpa using hc1);subst hao2;obtain⟨g1,g2,g3⟩:=k3C hao'
     have hg:(al[i]).guard=none:=by
      rcases g3 with ⟨_,g⟩|⟨j,want,t,g,_⟩
      ·exact g
      ·rw[g] at h2;cases h2
     simp only[k4B,hg] at H2
     have hwp:=k2U (Q:=Q) (K':=λact' w'=>wpAny P .any l0.toArray Q (r.length+f) (listed.setIfInBounds i true) act' w') g1 g2 S hn H2 λa' D act' m1 m2 m3 m4=>by
      obtain⟨a2,h2,W,m1⟩:=m1;obtain⟨D2,d1,d2,d3,d4,d5⟩:=W D act' rfl m2 m4;subst d1;rw[<- d2];refine k9R hc hssa hQ r (i::done) f _ a2 D2 act' (by rw[hE];simp) hok (by simp[hs]) (λj=>?_) m1 d3 d5 λa3 D3 act3 q1 q2 q3 q4=>hK a3 D3 act3 q1 q2 ((m3.trans d4).trans q3) q4;by_cases hij:j=i
      ·subst hij
       have:j<listed.size:=(by omega);simp[this]
      ·rw[getD_set_ne false (Ne.symm hij),hrel j]
       simp[hij]
     obtain⟨v,hv,hk⟩:=kM9 h1 g1 (kMJ g1 S H2) hwp;refine wpAny_first (by simpa using ho) (Region.noSelect_spec (kLN hssa)) (λc a w h=>absurd h (hQ c _ w)) _ listed act C.w (λj oj hj hne yM hno=>?_) hready (.inl ⟨by simp[Region.wanted,Option.isNone_iff_eq_none.1 h2],hv⟩) hk;refine kEC hssa ho (by simpa using hj) hne ?_ ?_
     ·cases hc:(k1A oj).contains i with
      | false=>rfl
      | true =>
        obtain⟨e,he1,he2,he3⟩:=kI1.1 hc;exact absurd he3 (hno e he1 he2)
     ·cases hc:(k1A o).contains j with
      | false=>rfl
      | true =>
        have:=List.all_eq_true.1 h4 j (by simpa using hc);rw[<- hrel j,getD_both yM] at this;cases this
    ·cases hc1
   ·cases hb
theorem AWp.anyW0{P:Program}{n:Nat}{Q:k17}{a:k09}{h:k00}{id:Nat}{ops:Array Oper}{al:List k0J}(hm:P.follows .mixedOrders=true)(hc:k0R P ops.toList ops.toList=some al)(hQ:∀c a h,¬Q (.panic c) a h)(H:k36 P n (Q .normal) al (k46 ops.toList) al.length [] a h):AWp P n (.region id ops true) Q a h:=by
 intro C act hC S hn;refine wp_region_any hm ?_;obtain⟨R1,E1⟩:=S.rel.sameHeap (w:={ C.w with drawn:=C.w.drawn+1 }) rfl rfl rfl rfl C.h.length;have e1:=(k1H hc).1;have S1:St { C with w:={ C.w with drawn:=C.w.drawn+1 } } a act:=⟨R1,⟨S.vrs.1,λt x hx=>E1.vr' (S.vrs.2 t x hx)⟩,S.nodef⟩;have fin:∀(a':k09) (D:Cfg) (act':Act),Q .normal a' D.h->St D a' act'->Ext n { C with w:={ C.w with drawn:=C.w.drawn+1 } } D->n<=D.h.length->k7Z n C Q .normal act' D.w:=λa' D act' m1 m2 m3 m4=>⟨a',D,m1,rfl,m2,(E1.mono (hC▸hn)).trans m3,m4⟩;have hrel0:∀i,(Array.replicate ops.size false).getD i false=([]:List Nat).contains i:=λi=>by rw[getD_replicate_false];rfl
 have plain:k36 P n (Q .normal) al (ops.toList.map k1A) al.length [] a h->wpAny P .any ops (k7Z n C Q) ops.size (Array.replicate ops.size false) act { C.w with drawn:=C.w.drawn+1 }:=λH=>by
  have main:=kCN (n:=n) (Q:=k7Z n C Q) hc (E:=[]) (ds:=ops.toList.map k1A) (λ_ _ _=>Iff.rfl) al.length [] (Array.replicate ops.size false) a { C with w:={ C.w with drawn:=C.w.drawn+1 } } act (by simp) hrel0 (λe he=>by cases he) (by subst hC;exact H) S1 (hC▸hn) fin;simpa[e1] using main
 unfold k46 at H;split at H
 ·rename_i hssa
  unfold q1X at H;split at H
  ·rename_i hb
   simp only[Bool.and_eq_true] at hb;have hle:=Nat.le_of_ble_eq_true hb.2;have el:(k6M ops.toList).length+(al.length-(k6M ops.toList).length)=al.length:=(by omega);have main:=k9R (n:=n) (Q:=k7Z n C Q) hc hssa (λc a w h=>by obtain⟨a',D,h1,_⟩:=h;exact hQ _ _ _ h1) (E:=k6M ops.toList) (k6M ops.toList) [] (al.length-(k6M ops.toList).length) (Array.replicate ops.size false) a { C with w:={ C.w with drawn:=C.w.drawn+1 } } act (by simp) hb.1 (by simp) hrel0 (by rw[el];subst hC;exact H) S1 (hC▸hn) fin;rw[el] at main;simpa[e1] using main
  ·exact plain H
 ·exact plain H
theorem AWp.anyW{P:Program}{n:Nat}{Q:k17}{a:k09}{h:k00}{id:Nat}{ops:Array Oper}{al:List k0J}(hm:P.follows .mixedOrders=true)(hc:k0R P ops.toList ops.toList=some al)(H:k36 P n (Q .normal) al (k46 ops.toList) al.length [] a h):AWp P n (.region id ops true) Q a h:=
 (AWp.anyW0 (Q:=kVT Q) hm hc (λc a h hh=>hh) H).post λe a h hq=>by
   cases e with
   | normal=>exact⟨a,h,Wk.refl _ _ _,hq⟩
   | _=>exact hq.elim
theorem kC4{P:Program}{n:Nat}{el:List Nat}{K':k09->k00->Prop}{al:List k0J}{deps:List (List Nat)}{J:k09->k00->Prop}(hn:deps.length=al.length):∀(E d:List Nat) (f:Nat) (a:k09) (h:k00),kJL deps d E=true->E.length<=f->k1W std P el J (k8M al E) a h->(∀a h,J a h->k36 P n K' al deps (f-E.length) (E.reverse++d) a h)->k36 P n K' al deps f d a h
 | [],d,f,a,h,_,_,H,HJ=>HJ a h H
 | i::r,d,f,a,h,hb,hf,H,HJ=>by
   unfold kJL at hb;rw[Bool.and_eq_true] at hb;obtain⟨hb,hb2⟩:=hb
   cases hr:k16 d 0 deps with
   | nil=>rw[hr] at hb;cases hb
   | cons j l =>
     rw[hr] at hb
     cases l with
     | cons _ _=>cases hb
     | nil =>
       have hb:=Nat.eq_of_beq_eq_true hb;subst hb;have hj:=(k2F (d:=d) (deps:=deps) (k:=0) (i:=j)).1 (by rw[hr];exact List.mem_singleton.2 rfl);obtain⟨o,ho⟩:∃o,al[j]?=some o:=⟨_,List.getElem?_eq_getElem (show j<al.length by omega)⟩
       cases f with
       | zero=>simp at hf
       | succ f =>
         unfold k36;rw[hr];show (match al[j]? with|some o=>k4B P (λx y=>∃a2 h2,Wk n x y a2 h2/\k36 P n K' al deps f (j::d) a2 h2) [o] a h|none=>False);unfold k8M at H;rw[ho] at H ⊢;simp only[List.cons_append,List.nil_append] at H ⊢;rw[kAB] at H;refine k0Z (λx y hxy=>?_) H;refine⟨x,y,Wk.refl _ _ _,?_⟩;refine kC4 hn r (j::d) f x y hb2 (by simp at hf;omega) hxy λa h hJ=>?_;have:=HJ a h hJ;simpa[Nat.add_sub_add_right] using this
inductive kSZ(w:k01)(P:Program)(el:List Nat)(n:Nat)(K:k09->k00->Prop)(al:List k0J)(deps:List (List Nat))(E R:List Nat)(a:k09)(h:k00):Prop where
 | mk (vals:(Nat->Bool)->List AV) (hp:(Nat->Bool)->k00) (hh:hp (λ_=>false)=h)
   (hstep:kRJ R λi=>∀m:Nat->Bool,match al[i]? with|some o=>k1W w P el (λx y=>Wk n x y (stE al (kDW i (k4D E deps i) (kBI R deps i) m true) R (vals (kDW i (k4D E deps i) (kBI R deps i) m true)) a) (hp (kDW i (k4D E deps i) (kBI R deps i) m true))) [o] (stE al (kDW i (k4D E deps i) (kBI R deps i) m false) R (vals (kDW i (k4D E deps i) (kBI R deps i) m false)) a) (hp (kDW i (k4D E deps i) (kBI R deps i) m false))|none=>False)
   (hfin:K (stE al (k0N R) R (vals (k0N R)) a) (hp (k0N R)))
theorem kGT{P:Program}{n:Nat}{el:List Nat}{K K':k09->k00->Prop}(hk:∀a h,K a h->K' a h){al:List k0J}{deps:List (List Nat)}{E R:List Nat}{a:k09}{h:k00}(hl:ltB E deps al.length=true)(hR:k9O E al.length=R)(hEn:E.Nodup)(hEl:∀i,i∈E->i<al.length)(hEc:∀i,i∈E->∀j,j∈deps.getD i []->j∈E)(H:kSZ std P el n K al deps E R a h) :
 k36 P n K' al deps (al.length-E.length) E.reverse a h:=by
 obtain⟨vals,hp,hh,hstep,hfin⟩:=H;unfold ltB at hl;rw[Bool.and_eq_true,List.all_eq_true] at hl;obtain⟨hl0,hl1⟩:=hl;have hl0:=Nat.eq_of_beq_eq_true hl0
 have hlt:∀i,i<al.length->i ∉ E->∀j,j∈deps.getD i []->j∈E\/j<i:=λi hi hni j hj=>by
  have:=hl1 i (List.mem_range.2 hi);rw[Bool.or_eq_true] at this;rcases this with h|this
  ·exact absurd (k0I.1 h) hni
  rw[List.all_eq_true] at this;have h:=this j hj;rw[Bool.or_eq_true,Nat.blt_eq] at h;exact h.imp k0I.1 id
 have hRm:∀j,j∈R↔j<al.length/\j ∉ E:=λj=>by
  rw[<- hR];unfold k9O;rw[List.mem_filter,List.mem_range];constructor
  ·rintro⟨h1,h2⟩;exact⟨h1,λh3=>by rw[k0I.2 h3] at h2;cases h2⟩
  ·rintro⟨h1,h2⟩
   refine⟨h1,?_⟩
   cases hm:k0N E j with
   | false=>rfl
   | true=>exact absurd (k0I.1 hm) h2
 have key:∀(f:Nat) (d:List Nat),d.Nodup->(∀i,i∈d->i<al.length)->(∀i,i∈E->i∈d)->(∀i,i∈d->∀j,j∈deps.getD i []->j∈d)->f+d.length=al.length ->
  k36 P n K' al deps f d (stE al (λj=>match k0N E j with|true=>false|false=>k0N d j) R (vals (λj=>match k0N E j with|true=>false|false=>k0N d j)) a) (hp (λj=>match k0N E j with|true=>false|false=>k0N d j)):=by
  intro f
  induction f with
  | zero =>
    intro d hdn hdl hdE hdc hf;unfold k36
    have hr:k16 d 0 deps=[]:=by
     cases hr:k16 d 0 deps with
     | nil=>rfl
     | cons i r =>
       have hi:=(k2F (d:=d) (deps:=deps) (k:=0) (i:=i)).1 (by rw[hr];exact List.mem_cons_self)
       have:=k3V al.length (i::d) (List.nodup_cons.2 ⟨hi.2.2.1,hdn⟩) λx hx=>by
        rcases List.mem_cons.1 hx with rfl|hx
        ·omega
        ·exact hdl x hx
       simp only[List.length_cons] at this;omega
    rw[hr];simp only[List.isEmpty_nil,if_true]
    have hall:∀i,i<al.length->i∈d:=λi hi=>by
     apply Classical.byContradiction;intro hni
     have:=k3V al.length (i::d) (List.nodup_cons.2 ⟨hni,hdn⟩) λx hx=>by
      rcases List.mem_cons.1 hx with rfl|hx
      ·exact hi
      ·exact hdl x hx
     simp only[List.length_cons] at this;omega
    have hm:(λj=>match k0N E j with|true=>false|false=>k0N d j)=k0N R:=by
     funext j
     cases hE:k0N E j with
     | true =>
       cases hj:k0N R j with
       | false=>rfl
       | true=>exact absurd (k0I.1 hE) ((hRm j).1 (k0I.1 hj)).2
     | false =>
       show k0N d j=k0N R j
       cases hj:k0N R j with
       | true=>exact k0I.2 (hall j ((hRm j).1 (k0I.1 hj)).1)
       | false =>
         cases hj2:k0N d j with
         | false=>rfl
         | true =>
           have:j∈R:=(hRm j).2 ⟨hdl j (k0I.1 hj2),λh=>by rw[k0I.2 h] at hE;cases hE⟩;rw[k0I.2 this] at hj;cases hj
    rw[hm];exact hk _ _ hfin
  | succ f ih =>
    intro d hdn hdl hdE hdc hf;unfold k36
    have hne:k16 d 0 deps≠[]:=by
     intro hr
     have hall:∀k i,i<k->i<al.length->i∈d:=by
      intro k
      induction k with
      | zero=>intro i hi;omega
      | succ k ihk =>
        intro i hi yH;apply Classical.byContradiction;intro hni
        have:i∈k16 d 0 deps:=(k2F (d:=d) (deps:=deps) (k:=0) (i:=i)).2 ⟨Nat.zero_le _,by omega,hni,λj hj=>by
         rw[Nat.sub_zero] at hj;rcases hlt i yH (λh=>hni (hdE i h)) j hj with h|h
         ·exact hdE j h
         ·exact ihk j Z.o Z.o⟩
        rw[hr] at this;cases this
     have hsub:List.range al.length ⊆ d:=λx hx=>hall al.length x (List.mem_range.1 hx) (List.mem_range.1 hx);have:=(List.nodup_range (n:=al.length)).length_le_of_subset hsub;rw[List.length_range] at this;omega
    cases hr:k16 d 0 deps with
    | nil=>exact absurd hr hne
    | cons i0 r =>
      simp only[List.isEmpty_cons,Bool.false_eq_true,if_false];rw[<- hr];refine kDS λi hi=>?_;have hi2:=(k2F (d:=d) (deps:=deps) (k:=0) (i:=i)).1 hi;rw[Nat.sub_zero] at hi2;have yH:i<al.length:=(by omega);have hiR:i∈R:=(hRm i).2 ⟨yH,λh=>hi2.2.2.1 (hdE i h)⟩;have h4:=kB4 hstep i hiR (λj=>match k0N E j with|true=>false|false=>k0N d j)
      have hiE:k0N E i=false:=by
       cases hm:k0N E i with
       | false=>rfl
       | true=>exact absurd (hdE i (k0I.1 hm)) hi2.2.2.1
      have hdr:∀j,k0N (k4D E deps i) j=true->k0N E j=false/\k0N d j=true:=λj hj=>by
       have hj:=k0I.1 hj;unfold k4D at hj;rw[List.mem_filter] at hj;refine⟨by simpa using hj.2,k0I.2 (hi2.2.2.2 j hj.1)⟩
      have hsc:∀j,k0N (kBI R deps i) j=true->k0N d j=false:=λj hj=>by
       have hj:=k0I.1 hj;unfold kBI at hj;rw[List.mem_filter] at hj
       cases hm:k0N d j with
       | false=>rfl
       | true=>exact absurd (hdc j (k0I.1 hm) i (k0I.1 hj.2)) hi2.2.2.1
      have e0:kDW i (k4D E deps i) (kBI R deps i) (λj=>match k0N E j with|true=>false|false=>k0N d j) false=(λj=>match k0N E j with|true=>false|false=>k0N d j):=by
       funext j
       unfold kDW
       cases hb:Nat.beq j i with
       | true =>
         have hb:=Nat.eq_of_beq_eq_true hb;subst hb;rw[hiE];show false=k0N d j
         cases hm:k0N d j with
         | false=>rfl
         | true=>exact absurd (k0I.1 hm) hi2.2.2.1
       | false =>
         cases hm:k0N (k4D E deps i) j with
         | false =>
           cases hq:k0N (kBI R deps i) j with
           | false=>rfl
           | true=>rw[hsc j hq];cases k0N E j<;>rfl
         | true=>rw[(hdr j hm).1,(hdr j hm).2]
      have e1:kDW i (k4D E deps i) (kBI R deps i) (λj=>match k0N E j with|true=>false|false=>k0N d j) true=(λj=>match k0N E j with|true=>false|false=>k0N (i::d) j):=by
       funext j
       unfold kDW
       cases hb:Nat.beq j i with
       | true =>
         have hb:=Nat.eq_of_beq_eq_true hb;subst hb;rw[hiE];show true=k0N (j::d) j;exact(k0I.2 List.mem_cons_self).symm
       | false =>
         have hji:Nat.beq i j=false:=by
          cases hx:Nat.beq i j with
          | false=>rfl
          | true=>have:=Nat.eq_of_beq_eq_true hx;subst this;rw[hx] at hb;cases hb
         have hd2:k0N (i::d) j=k0N d j:=by
          show (match Nat.beq i j with|true=>true|false=>k0N d j)=_;rw[hji]
         rw[hd2]
         cases hm:k0N (k4D E deps i) j with
         | false =>
           cases hq:k0N (kBI R deps i) j with
           | false=>rfl
           | true=>rw[hsc j hq];cases k0N E j<;>rfl
         | true=>rw[(hdr j hm).1,(hdr j hm).2]
      rw[e0,e1] at h4
      cases ho:al[i]? with
      | none=>rw[ho] at h4;exact h4.elim
      | some o =>
        rw[ho] at h4;refine k0Z (λx y hxy=>?_) h4;refine⟨_,_,hxy,?_⟩;refine ih (i::d) (List.nodup_cons.2 ⟨hi2.2.2.1,hdn⟩) (λx hx=>?_) (λx hx=>List.mem_cons_of_mem _ (hdE x hx)) (λx hx t ht=>?_) (by simp only[List.length_cons];omega)
        ·rcases List.mem_cons.1 hx with rfl|hx
         ·exact yH
         ·exact hdl x hx
        ·rcases List.mem_cons.1 hx with rfl|hx
         ·exact List.mem_cons_of_mem _ (hi2.2.2.2 t ht)
         ·exact List.mem_cons_of_mem _ (hdc x hx t ht)
 have zE:=k3V al.length E hEn hEl;have:=key (al.length-E.length) E.reverse (List.pairwise_reverse.2 (hEn.imp Ne.symm)) (λi hi=>hEl i (List.mem_reverse.1 hi)) (λi hi=>List.mem_reverse.2 hi) (λi hi j hj=>List.mem_reverse.2 (hEc i (List.mem_reverse.1 hi) j hj)) (by rw[List.length_reverse];omega)
 have hm:(λj=>match k0N E j with|true=>false|false=>k0N E.reverse j)=(λ_=>false):=by
  funext j
  cases hE:k0N E j with
  | true=>rfl
  | false =>
    show k0N E.reverse j=false
    cases hx:k0N E.reverse j with
    | false=>rfl
    | true=>rw[k0I.2 (List.mem_reverse.1 (k0I.1 hx))] at hE;cases hE
 rw[hm,kLM al _ (λ_=>rfl),hh] at this;exact this
inductive kYM(w:k01)(P:Program)(el:List Nat)(n:Nat)(K:k09->k00->Prop)(al:List k0J)(deps:List (List Nat))(a:k09)(h:k00):Prop where
 | each (E R:List Nat) (hE:kJL deps [] E=true) (hl:ltB E deps al.length=true) (hR:k9O E al.length=R) (H:k1W w P el (λa h=>kSZ w P el n K al deps E R a h) (k8M al E) a h)
theorem kYM.sound{P:Program}{n:Nat}{el:List Nat}{K K':k09->k00->Prop}{al:List k0J}{deps:List (List Nat)}{a:k09}{h:k00}(hk:∀a h,K a h->K' a h)(H:kYM std P el n K al deps a h):k36 P n K' al deps al.length [] a h:=by
 obtain⟨E,R,hE,hl,hR,H⟩:=H;have hl':=hl;unfold ltB at hl';rw[Bool.and_eq_true] at hl';have hn:=Nat.eq_of_beq_eq_true hl'.1;obtain⟨k1,k2⟩:=kG7 hE;have hEl:∀i,i∈E->i<al.length:=λi hi=>by have:=(k2 i hi).1;omega
 refine kC4 hn E [] al.length a h hE (k3V _ _ k1 hEl) H λa h hJ=>?_;rw[List.append_nil];exact kGT hk hl hR k1 hEl (λi hi j hj=>(kG8 hE i hi j hj).resolve_left (λh=>by cases h)) hJ
theorem kYM.e{w:k01}{P:Program}{n:Nat}{el:List Nat}{K:k09->k00->Prop}{al:List k0J}{deps:List (List Nat)}{a:k09}{h:k00}(E:List Nat)(hE:kVO deps al.length []=E)(R:List Nat)(hR:k9O E al.length=R)(hb:(kJL deps [] E && ltB E deps al.length)=true)
 (H:k1W w P el (λa h=>kSZ w P el n K al deps E R a h) (k8M al E) a h):kYM w P el n K al deps a h:=by
 rw[Bool.and_eq_true] at hb;exact .each E R hb.1 hb.2 hR H
inductive k74 where
 | seq (x y:k74)
 | block (id:Nat) (x:k74)
 | loop (x:k74)
 | anyw (al:List k0J) (deps:List (List Nat))
 | lops (al:List k0J)
 | u (c:k8X)
def k0P(P:Program)(F G W:List Nat):Code->Option k74
 | .seq a b=>(match k0P P F G W a,k0P P F G W b with|some x,some y=>some (.seq x y)|_,_=>none)
 | .block id a=>(match k0P P F G W a with|some x=>some (.block id x)|none=>none)
 | .loop a=>(match k0P P F G W a with|some x=>some (.loop x)|none=>none)
 | .region id ops true=>(match k0N W id with
   | true=>(match k0R P ops.toList ops.toList with|some al=>some (.anyw al (k46 ops.toList))|none=>none)
   | false=>(match k0W P F G (.region id ops true) with|some c=>some (.u c)|none=>none))
 | .region id ops false=>(match k0N W id with
   | true=>(match k0R P ops.toList ops.toList with|some al=>some (.lops al)|none=>none)
   | false=>(match k0W P F G (.region id ops false) with|some c=>some (.u c)|none=>none))
 | c=>(match k0W P F G c with|some c=>some (.u c)|none=>none)
def k61(P:Program)(F G W:List Nat):Code->Bool
 | .seq a b=>k61 P F G W a && k61 P F G W b
 | .block _ a=>k61 P F G W a
 | .loop a=>k61 P F G W a
 | .region id ops true=>(match k0N W id with|true=>P.follows .mixedOrders|false=>k7B P F G (.region id ops true))
 | .region id ops false=>(match k0N W id with|true=>true|false=>k7B P F G (.region id ops false))
 | c=>k7B P F G c
section
variable {P:Program} {F G W:List Nat}
theorem kU2{a b:Code}{x y:k74}(h1:k0P P F G W a=some x)(h2:k0P P F G W b=some y):k0P P F G W (.seq a b)=some (.seq x y):=by
 simp only[k0P,h1,h2]
theorem kIR{id:Nat}{a:Code}{x:k74}(h1:k0P P F G W a=some x):k0P P F G W (.block id a)=some (.block id x):=by
 simp only[k0P,h1]
theorem kOI{a:Code}{x:k74}(h1:k0P P F G W a=some x):k0P P F G W (.loop a)=some (.loop x):=by
 simp only[k0P,h1]
theorem q0Z{id:Nat}{ops:Array Oper}{al:List k0J}(deps:List (List Nat))(hm:k0N W id=true)(hd:k46 ops.toList=deps)(h:k0R P ops.toList ops.toList=some al):k0P P F G W (.region id ops true)=some (.anyw al deps):=by
 simp only[k0P,hm,h,hd]
theorem kOH{id:Nat}{ops:Array Oper}{c:k8X}(hm:k0N W id=false)(h:k0W P F G (.region id ops true)=some c):k0P P F G W (.region id ops true)=some (.u c):=by
 simp only[k0P,hm,h]
theorem kU4{id:Nat}{ops:Array Oper}{c:k8X}(hm:k0N W id=false)(h:k0W P F G (.region id ops false)=some c):k0P P F G W (.region id ops false)=some (.u c):=by
 simp only[k0P,hm,h]
theorem q0Y{id:Nat}{ops:Array Oper}{al:List k0J}(hm:k0N W id=true)(h:k0R P ops.toList ops.toList=some al):k0P P F G W (.region id ops false)=some (.lops al):=by
 simp only[k0P,hm,h]
theorem kOJ{x:Operand}{a b:Code}{c:k8X}(h:k0W P F G (.cond x a b)=some c):k0P P F G W (.cond x a b)=some (.u c):=by
 simp only[k0P,h]
theorem kU3{c:k8X}(h:k0W P F G .ret=some c):k0P P F G W .ret=some (.u c):=by
 simp only[k0P,h]
end
def kCF:List Nat->k74->List Nat
 | acc,.seq x y=>kCF (kCF acc x) y
 | acc,.block _ x=>kCF acc x
 | acc,.loop x=>kCF acc x
 | acc,.anyw al _=>kDG acc al
 | acc,.lops al=>kDG acc al
 | acc,.u c=>kIC acc c
inductive k7Y(F G W:List Nat)(P:Program)(n:Nat)(c:k74)(Q:k17)(a:k09)(h:k00):Prop where
 | mk (c:∀code,k0P P F G W code=some c->k61 P F G W code=true->AWp P n (.loop code) Q a h)
def vcW(w:k01)(P:Program)(F G W:List Nat)(el:List Nat)(n:Nat):k74->k17->k09->k00->Prop
 | .seq x y,Q,a,h=>vcW w P F G W el n x (k6Y (vcW w P F G W el n y Q) Q) a h
 | .block id x,Q,a,h=>vcW w P F G W el n x (k33 id Q) a h
 | .loop x,Q,a,h=>k7Y F G W P n x Q a h
 | .anyw al deps,Q,a,h=>kYM w P el n (Q .normal) al deps a h
 | .lops al,Q,a,h=>k9K w P el (Q .normal) al a h
 | .u c,Q,a,h=>vcU w P F el n c Q a h
theorem k31{P:Program}{F G el:List Nat}{n:Nat}{code:Code}{c:k74}{W:List Nat}{Q Q':k17}{a:k09}{h:k00}(hc:(match k0W P F G code with|some c=>some (k74.u c)|none=>none)=some c)(hd:k7B P F G code=true)(hq:∀e a h,Q e a h->Q' e a h)(H:vcW std P F G W el n c Q a h):AWp P n code Q' a h:=by
 split at hc
 ·rename_i x hx
  simp only[Option.some.injEq] at hc;subst hc;exact k84 hx hd hq H
 ·cases hc
theorem k69{P:Program}{F G W el:List Nat}{n:Nat}:∀ {code:Code} {c:k74} {Q Q':k17} {a:k09} {h:k00},k0P P F G W code=some c->k61 P F G W code=true->(∀e a h,Q e a h->Q' e a h)->vcW std P F G W el n c Q a h->AWp P n code Q' a h
 | .seq x y,c,Q,Q',a,h,hc,hd,hq,H=>by
   simp only[k0P] at hc;split at hc
   ·rename_i p q hp hq2
    simp only[Option.some.injEq] at hc;subst hc;simp only[k61,Bool.and_eq_true] at hd;refine AWp.seq (k69 hp hd.1 (λe a h hr=>?_) H)
    cases e with
    | normal=>exact k69 hq2 hd.2 hq hr
    | _=>exact hq _ _ _ hr
   ·cases hc
 | .region id ops true,c,Q,Q',a,h,hc,hd,hq,H=>by
   simp only[k0P] at hc;simp only[k61] at hd
   cases hm:k0N W id with
   | true =>
     simp only[hm] at hc hd;split at hc
     ·rename_i al hal
      simp only[Option.some.injEq] at hc;subst hc;exact AWp.anyW hd hal (kYM.sound (λa h hr=>hq _ _ _ hr) H)
     ·cases hc
   | false =>
     simp only[hm] at hc hd;exact k31 hc hd hq H
 | .region id ops false,c,Q,Q',a,h,hc,hd,hq,H=>by
   simp only[k0P] at hc;simp only[k61] at hd
   cases hm:k0N W id with
   | true =>
     simp only[hm] at hc;split at hc
     ·rename_i l hl
      simp only[Option.some.injEq] at hc;subst hc;intro C act hC S hn;subst hC;refine wp_region_list ?_;exact k6B (l0:=ops.toList) hl S hn H λa' D act' m1 m2 m3 m4=>⟨a',D,hq _ _ _ m1,rfl,m2,m3,m4⟩
     ·cases hc
   | false=>simp only[hm] at hc hd;exact k31 hc hd hq H
 | .block id x,c,Q,Q',a,h,hc,hd,hq,H=>by
   simp only[k0P] at hc;split at hc
   ·rename_i y hy
    simp only[Option.some.injEq] at hc;subst hc;simp only[k61] at hd;refine AWp.block (k69 hy hd (λe a h hr=>?_) H)
    cases e with
    | exit i =>
      simp only[k33] at hr ⊢;split<;>rename_i hi
      ·rw[if_pos hi] at hr;exact hq _ _ _ hr
      ·rw[if_neg hi] at hr;exact hq _ _ _ hr
    | _=>exact hq _ _ _ hr
   ·cases hc
 | .loop x,c,Q,Q',a,h,hc,hd,hq,H=>by
   simp only[k0P] at hc;split at hc
   ·rename_i y hy
    simp only[Option.some.injEq] at hc;subst hc;simp only[k61] at hd;obtain⟨H⟩:=H;exact(H x hy hd).mono hq
   ·cases hc
 | .skip,c,Q,Q',a,h,hc,hd,hq,H=>k31 (F:=F) (G:=G) (W:=W) hc hd hq H
 | .ret,c,Q,Q',a,h,hc,hd,hq,H=>k31 (F:=F) (G:=G) (W:=W) hc hd hq H
 | .exit id,c,Q,Q',a,h,hc,hd,hq,H=>k31 (F:=F) (G:=G) (W:=W) hc hd hq H
 | .cond x p q,c,Q,Q',a,h,hc,hd,hq,H=>k31 (F:=F) (G:=G) (W:=W) hc hd hq H
 | .rangeFunc _ _ _ _,c,Q,Q',a,h,hc,hd,hq,H=>k31 (F:=F) (G:=G) (W:=W) hc hd hq H
 | .scope _,c,Q,Q',a,h,hc,hd,hq,H=>k31 (F:=F) (G:=G) (W:=W) hc hd hq H
 | .label _,c,Q,Q',a,h,hc,hd,hq,H=>k31 (F:=F) (G:=G) (W:=W) hc hd hq H
 | .goto _,c,Q,Q',a,h,hc,hd,hq,H=>k31 (F:=F) (G:=G) (W:=W) hc hd hq H
 | .refuse _,c,Q,Q',a,h,hc,hd,hq,H=>k31 (F:=F) (G:=G) (W:=W) hc hd hq H
theorem k7Y.dataN{F G W:List Nat}{P:Program}{n:Nat}{w:k01}(hw:w=std){c:k74}{Q:k17}{a:k09}{h:k00}{S:Type}(st:S->k09)(hp:S->k00)(inv:S->Prop)(m:S->Nat)(s0:S)(hwk:Wk n a h (st s0) (hp s0))(h0:inv s0)
 (round:∀s,inv s->∀Q':k17,(∀s' a1 h1,Wk n a1 h1 (st s') (hp s')->inv s'->m s'<m s->Q' .normal a1 h1)->(∀k a1 h1,Q (.exit k) a1 h1->Q' (.exit k) a1 h1)->(∀a1 h1,Q .ret a1 h1->Q' .ret a1 h1)->vcW w P F G W (kCF [] c) n c Q' (st s) (hp s)):k7Y F G W P n c Q a h:=by
 subst hw;refine⟨λcode hc hd=>?_⟩;refine AWp.pre hwk (AWp.loop (λa h=>∃s,st s=a/\hp s=h/\inv s) (k5Z st hp inv m) ⟨s0,rfl,rfl,h0⟩ λa h hI=>?_);obtain⟨s,rfl,rfl,h1,h2⟩:=k6V (m:=m) hI
 have:=k69 (Q':=k6Y (kHR n (λa h=>∃s,st s=a/\hp s=h/\inv s) (k5Z st hp inv m) (k5Z st hp inv m (st s) (hp s))) Q) hc hd (λe a h hr=>hr) (round s h1 _ (λs' a1 h1 k1 k2 k3=>⟨_,_,k1,⟨s',rfl,rfl,k2⟩,by
  rw[<- h2];exact Nat.lt_of_le_of_lt (k8K k2) k3⟩) (λk a1 h1 hq=>hq) (λa1 h1 hq=>hq))
 refine AWp.post this λe a2 h2 hq=>?_
 cases e with
 | normal =>
   obtain⟨a3,h3,w3,i3,m3⟩:=hq;exact⟨a3,h3,w3,i3,m3⟩
 | _=>exact⟨a2,h2,Wk.refl _ _ _,hq⟩
theorem k7Y.weak{F G W:List Nat}{P:Program}{n:Nat}{c:k74}{Q:k17}{a:k09}{h:k00}(H:k7Y F G W P n c (λe a h=>∃a' h',Wk n a h a' h'/\Q e a' h') a h):k7Y F G W P n c Q a h:=
 ⟨λcode h1 h2=>(match H with|⟨H⟩=>H code h1 h2).post λ_ _ _ hq=>hq⟩
theorem k06.ofW {P : Program} {F G W : List Nat} {g : FuncId} {fn : Func} {code : Code} {sc : k74} {r : List kE0} {args : List AV} {h : k00} {K : AV → k00 → Prop} (hf : P.funcs[g]? = some fn) (hname : (fn.name == "runtime.NumGoroutine") = false) (hb : fn.body = some code) (hr : kBP P fn.results.toList = some r)
 (hc:k0P P F G W code=some sc) (hdr:k61 P F G W code=true) (H:∀w,w=std->vcW w P F G W (kCF [] sc) h.length sc (kG5 r K) (k63 args fn.ntmps) h):k06 P g args h K:=by
 have HA:AWp P h.length code (kVJ r K) (k63 args fn.ntmps) h:=k69 hc hdr (λe a h hr=>k95 e a h hr) (H std rfl);refine⟨⟨fn,hf,by simp[hb],hname⟩,λC vs hC RC hv=>?_⟩;refine calls_of_wp hf hb ?_;refine wp_mono (HA C _ hC (k7O RC hv fn.ntmps) (Nat.le_refl _)) λe act' w' ⟨a',D,h1,h2,h3,h4,h5⟩=>?_
 have fin:(∃l,k54 a' D.h r=some l/\K (k2Q l) D.h)->act'.defers=[]/\∃v,(results fn act'.tmps).run P w' = .ok v w' /\
  ∃v' r D,Ending.returned v = .returned v'/\K r D.h/\D.w=w'/\Rel D/\VR D r v'/\Ext h.length C D/\h.length<=D.h.length:=by
  rintro⟨l,hl,hK⟩
  obtain⟨u,k1,k2⟩:=k2V hr h3 hl;subst h2;exact⟨h3.nodef,u,k1,u,_,D,rfl,hK,rfl,h3.rel,k2,h4,h5⟩
 cases e with
 | normal=>exact fin h1
 | ret=>exact fin h1
 | exit id=>exact h1.elim
 | goto l=>exact h1.elim
 | panic c=>exact h1.elim
 | outgrown=>exact h1.elim
end Go.Eng
