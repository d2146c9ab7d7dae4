/- Parts of the proofs. -/
import Derived.Test.YtlchlddijclhjaaGreatS9
import Derived.Test.YtlchlddijclhjaaGreatS19
import Derived.Test.YtlchlddijclhjaaGreatSZ
set_option linter.unusedVariables false
set_option linter.unusedSimpArgs false
set_option maxHeartbeats 4000000
namespace Go.Eng
open Go Go.RowKit
inductive k4V where
 | seq (x y:k4V)
 | any (al:List k0J) (deps:List (List Nat))
 | block (id:Nat) (x:k4V)
 | loop (x:k4V)
 | plain (c:k2Z)
def k0U(P:Program)(F:List Nat):Code->Option k4V
 | .seq a b =>
   match k0U P F a,k0U P F b with
   | some x,some y=>some (.seq x y)
   | _,_=>none
 | .region id ops true=>(match k0N F id with
   | true=>(match k0R P ops.toList ops.toList with|some al=>some (.any al (k46 ops.toList))|none=>none)
   | false=>(match k07 P (.region id ops true) with|some c=>some (.plain c)|none=>none))
 | .block id c=>(match k0U P F c with|some x=>some (.block id x)|none=>none)
 | .loop c=>(match k0U P F c with|some x=>some (.loop x)|none=>none)
 | c=>(match k07 P c with|some c=>some (.plain c)|none=>none)
theorem k3F{P:Program}{F:List Nat}{id:Nat}{a:Code}{x:k4V}(h1:k0U P F a=some x):k0U P F (.block id a)=some (.block id x):=by
 simp only[k0U,h1]
theorem k4U{P:Program}{F:List Nat}{a:Code}{x:k4V}(h1:k0U P F a=some x):k0U P F (.loop a)=some (.loop x):=by
 simp only[k0U,h1]
theorem k7D{P:Program}{F:List Nat}{a b:Code}{x y:k4V}(h1:k0U P F a=some x)(h2:k0U P F b=some y):k0U P F (.seq a b)=some (.seq x y):=by
 simp only[k0U,h1,h2]
theorem k25{P:Program}{F:List Nat}{id:Nat}{ops:Array Oper}{al:List k0J}(deps:List (List Nat))(hm:k0N F id=true)(hd:k46 ops.toList=deps)(h:k0R P ops.toList ops.toList=some al):k0U P F (.region id ops true)=some (.any al deps):=by
 simp only[k0U,hm,h,hd]
def k5A(P:Program)(F:List Nat):Code->Bool
 | .seq a b=>k5A P F a && k5A P F b
 | .region id ops true=>(match k0N F id with|true=>P.follows .mixedOrders|false=>k37 P (.region id ops true))
 | .block _ c=>k5A P F c
 | .loop c=>k5A P F c
 | c=>k37 P c
def kB2:List Nat->k4V->List Nat
 | acc,.seq x y=>kB2 (kB2 acc x) y
 | acc,.any al _=>kDG acc al
 | acc,.block _ x=>kB2 acc x
 | acc,.loop x=>kB2 acc x
 | acc,.plain c=>k5Q acc c
def q39(x:Nat):List Nat->List Nat
 | []=>[x]
 | y::r=>match Nat.blt x y with|true=>x::y::r|false=>y::q39 x r
def eqN:List Nat->List Nat->Bool
 | [],[]=>true
 | x::a,y::b=>match Nat.beq x y with|true=>eqN a b|false=>false
 | _,_=>false
def q3E(e:List Nat):List (List Nat)->List (List Nat)
 | []=>[e]
 | d::r=>match eqN d e with|true=>d::r|false=>d::q3E e r
def kU9(d:List Nat):List Nat->List (List Nat)->List (List Nat)
 | [],acc=>acc
 | i::r,acc=>kU9 d r (q3E (q39 i d) acc)
def q35(deps:List (List Nat)):List (List Nat)->List (List Nat)->List (List Nat)
 | [],acc=>acc
 | d::r,acc=>q35 deps r (kU9 d (k16 d 0 deps) acc)
def k78(deps:List (List Nat)):Nat->List (List Nat)->List (List Nat)
 | 0,L=>L
 | n+1,L=>L++k78 deps n (q35 deps L [])
def kZ9(d e:List Nat):Bool:=d.all λx=>k0N e x
def kOD(deps:List (List Nat))(n:Nat)(Ds:List (List Nat)):Bool:=
 Ds.all λd=>match k16 d 0 deps with
  | []=>true
  | r=>Nat.blt d.length n && r.all λi=>Ds.any λe=>Nat.beq e.length (d.length+1) && (kZ9 (i::d) e && kZ9 e (i::d))
def kYT:List (List Nat)->(List Nat->Prop)->Prop
 | [],_=>True
 | d::r,f=>f d/\kYT r f
theorem kDR{f:List Nat->Prop}:∀ {l:List (List Nat)},kYT l f->∀d,d∈l->f d
 | x::l,h,d,hd=>by
   rcases List.mem_cons.1 hd with rfl|hd
   ·exact h.1
   ·exact kDR h.2 d hd
def stT(mem:Nat->Bool):Nat->List k0J->List AV->k09->k09
 | k,o::l,v::vs,a=>stT mem (k+1) l vs (match mem k with|true=>k1V a o.dst v|false=>a)
 | _,_,_,a=>a
def pick(b:Bool)(v u:AV):AV:=match b with|true=>v|false=>u
def q33(a:k09):Option Nat->AV
 | some d=>a.getD d (.tuple [])
 | none=>.any
def kO8(al:List k0J)(i:Nat):Option Nat:=match al[i]? with|some o=>o.dst|none=>none
def stE(al:List k0J)(m:Nat->Bool):List Nat->List AV->k09->k09
 | i::r,v::vs,a=>stE al m r vs (k1V a (kO8 al i) (pick (m i) v (q33 a (kO8 al i))))
 | _,_,a=>a
def kDW(i:Nat)(ds sc:List Nat)(m:Nat->Bool)(b:Bool):Nat->Bool:=λj=>match Nat.beq j i with|true=>b|false=>(match k0N ds j with|true=>true|false=>(match k0N sc j with|true=>false|false=>m j))
def kBI(R:List Nat)(deps:List (List Nat))(i:Nat):List Nat:=R.filter λj=>k0N (deps.getD j []) i
def k4D(E:List Nat)(deps:List (List Nat))(i:Nat):List Nat:=(deps.getD i []).filter λj=> !k0N E j
def kJL(deps:List (List Nat)):List Nat->List Nat->Bool
 | _,[]=>true
 | d,i::r=>(match k16 d 0 deps with|[j]=>Nat.beq j i|_=>false) && kJL deps (i::d) r
def ltB(E:List Nat)(deps:List (List Nat))(n:Nat):Bool:=Nat.beq deps.length n && (List.range n).all λi=>k0N E i || (deps.getD i []).all λj=>k0N E j || Nat.blt j i
def kRJ:List Nat->(Nat->Prop)->Prop
 | [],_=>True
 | i::r,f=>f i/\kRJ r f
theorem kB4{f:Nat->Prop}:∀ {l:List Nat},kRJ l f->∀i,i∈l->f i
 | x::l,h,i,hi=>by
   rcases List.mem_cons.1 hi with rfl|hi
   ·exact h.1
   ·exact kB4 h.2 i hi
def k9O(E:List Nat)(n:Nat):List Nat:=(List.range n).filter λj=> !k0N E j
inductive k3M(w:k01)(P:Program)(el:List Nat)(K:k09->k00->Prop)(al:List k0J)(deps:List (List Nat))(E R:List Nat)(a:k09)(h:k00):Prop where
 | mk (vals:List AV) (hp:(Nat->Bool)->k00) (hh:hp (λ_=>false)=h)
   (hstep:kRJ R λi=>∀m:Nat->Bool,match al[i]? with|some o=>k1W w P el (λx y=>x=stE al (kDW i (k4D E deps i) (kBI R deps i) m true) R vals a/\y=hp (kDW i (k4D E deps i) (kBI R deps i) m true)) [o] (stE al (kDW i (k4D E deps i) (kBI R deps i) m false) R vals a) (hp (kDW i (k4D E deps i) (kBI R deps i) m false))|none=>False)
   (hfin:K (stE al (k0N R) R vals a) (hp (k0N R)))
def k8M(al:List k0J):List Nat->List k0J
 | []=>[]
 | i::r=>(match al[i]? with|some o=>[o]|none=>[])++k8M al r
inductive AnyQ(w:k01)(P:Program)(el:List Nat)(K:k09->k00->Prop)(al:List k0J)(deps:List (List Nat))(a:k09)(h:k00):Prop where
 | mk (a':k09) (h':k00) (H1:kBV w P el (λx y=>x=a'/\y=h') al deps al.length [] a h) (H2:K a' h')
 | sets (vals:List AV) (hp:(Nat->Bool)->k00) (hh:hp (k0N [])=h) (hc:kOD deps al.length (k78 deps al.length [[]])=true)
   (hstep:kYT (k78 deps al.length [[]]) λd=>kOV (k16 d 0 deps) λi=>match al[i]? with|some o=>k1W w P el (λx y=>x=stT (k0N (i::d)) 0 al vals a/\y=hp (k0N (i::d))) [o] (stT (k0N d) 0 al vals a) (hp (k0N d))|none=>False)
   (hfin:kYT (k78 deps al.length [[]]) λd=>match k16 d 0 deps with|[]=>K (stT (k0N d) 0 al vals a) (hp (k0N d))|_::_=>True)
 | each (E R:List Nat) (hE:kJL deps [] E=true) (hl:ltB E deps al.length=true) (hR:k9O E al.length=R) (H:k1W w P el (λa h=>k3M w P el K al deps E R a h) (k8M al E) a h)
theorem kQY{d e:List Nat}(h1:kZ9 d e=true)(h2:kZ9 e d=true):k0N d=k0N e:=by
 funext x
 unfold kZ9 at h1 h2;rw[List.all_eq_true] at h1 h2
 cases hx:k0N d x with
 | true=>rw[k2O,List.contains_iff_mem] at hx;exact(h1 x hx).symm
 | false =>
   cases hy:k0N e x with
   | false=>rfl
   | true=>rw[k2O,List.contains_iff_mem] at hy;rw[h2 x hy] at hx;cases hx
theorem kLL:∀(l:List k0J) (vs:List AV) (k:Nat) (a:k09),stT (k0N []) k l vs a=a
 | [],vs,k,a=>by unfold stT;rfl
 | o::l,[],k,a=>by unfold stT;rfl
 | o::l,v::vs,k,a=>by unfold stT;exact kLL l vs (k+1) a
theorem kJG(deps:List (List Nat)):∀n,[]∈k78 deps n [[]]
 | 0=>by simp[k78]
 | n+1=>by simp[k78]
inductive kP0(F:List Nat)(P:Program)(n:Nat)(c:k4V)(Q:k17)(a:k09)(h:k00):Prop where
 | mk (c:∀code,k0U P F code=some c->k5A P F code=true->AWp P n (.loop code) Q a h)
def vcS(w:k01)(P:Program)(F:List Nat)(el:List Nat)(n:Nat):k4V->k17->k09->k00->Prop
 | .seq x y,Q,a,h=>vcS w P F el n x (k6Y (vcS w P F el n y Q) Q) a h
 | .block id x,Q,a,h=>vcS w P F el n x (k33 id Q) a h
 | .loop x,Q,a,h=>kP0 F P n x Q a h
 | .any al deps,Q,a,h=>AnyQ w P el (Q .normal) al deps a h
 | .plain c,Q,a,h=>k2D w P el n c Q a h
theorem kAM{d e:List Nat}(h:k0N d=k0N e):∀(deps:List (List Nat)) (k:Nat),k16 d k deps=k16 e k deps:=by
 have hc:∀x,d.contains x=e.contains x:=λx=>by rw[<- k2O,<- k2O,h]
 have hf:d.contains=e.contains:=funext hc;intro deps
 induction deps with
 | nil=>intro k;rfl
 | cons y ys ih=>intro k;unfold k16;rw[hf,ih (k+1)]
theorem kDS{F:Nat->Prop}:∀ {l:List Nat},(∀i,i∈l->F i)->kOV l F
 | [],_=>trivial
 | [j],h=>h j (List.mem_singleton.2 rfl)
 | j::k::l,h=>⟨h j (List.mem_cons.2 (.inl rfl)),kDS λi hi=>h i (List.mem_cons.2 (.inr hi))⟩
theorem k0I{l:List Nat}{x:Nat}:k0N l x=true↔x∈l:=by rw[k2O,List.contains_iff_mem]
theorem k2F{d:List Nat}:∀ {deps:List (List Nat)} {k i:Nat},i∈k16 d k deps↔k<=i/\i<k+deps.length/\i ∉ d/\∀j,j∈deps.getD (i-k) []->j∈d
 | [],k,i=>by simp only[k16,List.length_nil];constructor;· intro h;cases h
              ·intro h;omega
 | ds::deps,k,i=>by
   have ih:=k2F (d:=d) (deps:=deps) (k:=k+1) (i:=i)
   have hc:(!d.contains k && ds.all d.contains)=true↔k ∉ d/\∀j,j∈ds->j∈d:=by
    simp[List.all_eq_true]
   have hs:∀h:k+1<=i,(ds::deps).getD (i-k) []=deps.getD (i-(k+1)) []:=λh=>by
    rw[show i-k=(i-(k+1))+1 by omega];simp
   unfold k16;split
   ·rename_i h1
    have h1:=hc.1 h1;rw[List.mem_cons,ih];constructor
    ·rintro(rfl|⟨a1,a2,a3,a4⟩)
     ·exact⟨Nat.le_refl _,by simp,h1.1,by simpa using h1.2⟩
     ·refine⟨by omega,by simp only[List.length_cons];omega,a3,?_⟩
      rw[hs a1];exact a4
    ·rintro⟨a1,a2,a3,a4⟩
     by_cases he:i=k
     ·exact .inl he
     ·refine .inr ⟨by omega,by simp only[List.length_cons] at a2;omega,a3,?_⟩
      rw[hs Z.o] at a4;exact a4
   ·rename_i h1
    rw[ih];constructor
    ·rintro⟨a1,a2,a3,a4⟩
     refine⟨by omega,by simp only[List.length_cons];omega,a3,?_⟩;rw[hs a1];exact a4
    ·rintro⟨a1,a2,a3,a4⟩
     have he:i≠k:=λhe=>h1 (hc.2 ⟨by rw[<- he];exact a3,by subst he;simpa using a4⟩);refine⟨by omega,by simp only[List.length_cons] at a2;omega,a3,?_⟩;rw[hs Z.o] at a4;exact a4
theorem kAB{w:k01}{P:Program}{el:List Nat}{K:k09->k00->Prop}{o:k0J}{l:List k0J}{a:k09}{h:k00}:k1W w P el K (o::l) a h=k1W w P el (k1W w P el K l) [o] a h:=rfl
theorem k3V:∀(n:Nat) (l:List Nat),l.Nodup->(∀i,i∈l->i<n)->l.length<=n
 | 0,l,_,h2=>by
   cases l with
   | nil=>exact Nat.le_refl _
   | cons a b=>have:=h2 a List.mem_cons_self;omega
 | n+1,l,h1,h2=>by
   have h3:=k3V n (l.erase n) (h1.erase n) λi hi=>by
    have:=(List.Nodup.mem_erase_iff h1).1 hi;have:=h2 i this.2;omega
   by_cases hm:n∈l
   ·have:=List.length_erase_of_mem hm;omega
   ·rw[List.erase_of_not_mem hm] at h3;omega
theorem kLM(al:List k0J)(m:Nat->Bool)(hm:∀i,m i=false):∀(R:List Nat) (vs:List AV) (a:k09),stE al m R vs a=a
 | [],vs,a=>by unfold stE;rfl
 | i::r,[],a=>by unfold stE;rfl
 | i::r,v::vs,a=>by
   unfold stE
   have e:k1V a (kO8 al i) (pick (m i) v (q33 a (kO8 al i)))=a:=by
    rw[hm i];unfold pick
    cases kO8 al i with
    | none=>rfl
    | some d =>
      show a.set d (a.getD d (.tuple []))=a;apply List.ext_getElem?;intro j;rw[List.getElem?_set];split
      ·rename_i hj
       subst hj;split
       ·rename_i hl
        rw[List.getD_eq_getElem?_getD,List.getElem?_eq_getElem hl];rfl
       ·rename_i hl
        rw[List.getElem?_eq_none Z.o]
      ·rfl
   rw[e];exact kLM al m hm r vs a
theorem kEN{P:Program}{el:List Nat}{K':k09->k00->Prop}{al:List k0J}{deps:List (List Nat)}{J:k09->k00->Prop}(hn:deps.length=al.length):∀(E d:List Nat) (f:Nat) (a:k09) (h:k00),kJL deps d E=true->E.length<=f->k1W std P el J (k8M al E) a h->(∀a h,J a h->k35 P K' al deps (f-E.length) (E.reverse++d) a h)->k35 P K' al deps f d a h
 | [],d,f,a,h,_,_,H,HJ=>HJ a h H
 | i::r,d,f,a,h,hb,hf,H,HJ=>by
   unfold kJL at hb;rw[Bool.and_eq_true] at hb;obtain⟨hb,hb2⟩:=hb
   cases hr:k16 d 0 deps with
   | nil=>rw[hr] at hb;cases hb
   | cons j l =>
     rw[hr] at hb
     cases l with
     | cons _ _=>cases hb
     | nil =>
       have hb:=Nat.eq_of_beq_eq_true hb;subst hb;have hj:=(k2F (d:=d) (deps:=deps) (k:=0) (i:=j)).1 (by rw[hr];exact List.mem_singleton.2 rfl);obtain⟨o,ho⟩:∃o,al[j]?=some o:=⟨_,List.getElem?_eq_getElem (show j<al.length by omega)⟩
       cases f with
       | zero=>simp at hf
       | succ f =>
         unfold k35;rw[hr];show (match al[j]? with|some o=>k4B P (k35 P K' al deps f (j::d)) [o] a h|none=>False);unfold k8M at H;rw[ho] at H ⊢;simp only[List.cons_append,List.nil_append] at H ⊢;rw[kAB] at H;refine k0Z (λx y hxy=>?_) H;refine kEN hn r (j::d) f x y hb2 (by simp at hf;omega) hxy λa h hJ=>?_;have:=HJ a h hJ;simpa[Nat.add_sub_add_right] using this
theorem kK8{P:Program}{el:List Nat}{K K':k09->k00->Prop}(hk:∀a h,K a h->K' a h){al:List k0J}{deps:List (List Nat)}{E R:List Nat}{a:k09}{h:k00}(hl:ltB E deps al.length=true)(hR:k9O E al.length=R)(hEn:E.Nodup)(hEl:∀i,i∈E->i<al.length)(hEc:∀i,i∈E->∀j,j∈deps.getD i []->j∈E)(H:k3M std P el K al deps E R a h) :
 k35 P K' al deps (al.length-E.length) E.reverse a h:=by
 obtain⟨vals,hp,hh,hstep,hfin⟩:=H;unfold ltB at hl;rw[Bool.and_eq_true,List.all_eq_true] at hl;obtain⟨hl0,hl1⟩:=hl;have hl0:=Nat.eq_of_beq_eq_true hl0
 have hlt:∀i,i<al.length->i ∉ E->∀j,j∈deps.getD i []->j∈E\/j<i:=λi hi hni j hj=>by
  have:=hl1 i (List.mem_range.2 hi);rw[Bool.or_eq_true] at this;rcases this with h|this
  ·exact absurd (k0I.1 h) hni
  rw[List.all_eq_true] at this;have h:=this j hj;rw[Bool.or_eq_true,Nat.blt_eq] at h;exact h.imp k0I.1 id
 have hRm:∀j,j∈R↔j<al.length/\j ∉ E:=λj=>by
  rw[<- hR];unfold k9O;rw[List.mem_filter,List.mem_range];constructor
  ·rintro⟨h1,h2⟩;exact⟨h1,λh3=>by rw[k0I.2 h3] at h2;cases h2⟩
  ·rintro⟨h1,h2⟩
   refine⟨h1,?_⟩
   cases hm:k0N E j with
   | false=>rfl
   | true=>exact absurd (k0I.1 hm) h2
 have key:∀(f:Nat) (d:List Nat),d.Nodup->(∀i,i∈d->i<al.length)->(∀i,i∈E->i∈d)->(∀i,i∈d->∀j,j∈deps.getD i []->j∈d)->f+d.length=al.length ->
  k35 P K' al deps f d (stE al (λj=>match k0N E j with|true=>false|false=>k0N d j) R vals a) (hp (λj=>match k0N E j with|true=>false|false=>k0N d j)):=by
  intro f
  induction f with
  | zero =>
    intro d hdn hdl hdE hdc hf;unfold k35
    have hr:k16 d 0 deps=[]:=by
     cases hr:k16 d 0 deps with
     | nil=>rfl
     | cons i r =>
       have hi:=(k2F (d:=d) (deps:=deps) (k:=0) (i:=i)).1 (by rw[hr];exact List.mem_cons_self)
       have:=k3V al.length (i::d) (List.nodup_cons.2 ⟨hi.2.2.1,hdn⟩) λx hx=>by
        rcases List.mem_cons.1 hx with rfl|hx
        ·omega
        ·exact hdl x hx
       simp only[List.length_cons] at this;omega
    rw[hr];simp only[List.isEmpty_nil,if_true]
    have hall:∀i,i<al.length->i∈d:=λi hi=>by
     apply Classical.byContradiction;intro hni
     have:=k3V al.length (i::d) (List.nodup_cons.2 ⟨hni,hdn⟩) λx hx=>by
      rcases List.mem_cons.1 hx with rfl|hx
      ·exact hi
      ·exact hdl x hx
     simp only[List.length_cons] at this;omega
    have hm:(λj=>match k0N E j with|true=>false|false=>k0N d j)=k0N R:=by
     funext j
     cases hE:k0N E j with
     | true =>
       cases hj:k0N R j with
       | false=>rfl
       | true=>exact absurd (k0I.1 hE) ((hRm j).1 (k0I.1 hj)).2
     | false =>
       show k0N d j=k0N R j
       cases hj:k0N R j with
       | true=>exact k0I.2 (hall j ((hRm j).1 (k0I.1 hj)).1)
       | false =>
         cases hj2:k0N d j with
         | false=>rfl
         | true =>
           have:j∈R:=(hRm j).2 ⟨hdl j (k0I.1 hj2),λh=>by rw[k0I.2 h] at hE;cases hE⟩;rw[k0I.2 this] at hj;cases hj
    rw[hm];exact hk _ _ hfin
  | succ f ih =>
    intro d hdn hdl hdE hdc hf;unfold k35
    have hne:k16 d 0 deps≠[]:=by
     intro hr
     have hall:∀k i,i<k->i<al.length->i∈d:=by
      intro k
      induction k with
      | zero=>intro i hi;omega
      | succ k ihk =>
        intro i hi yH;apply Classical.byContradiction;intro hni
        have:i∈k16 d 0 deps:=(k2F (d:=d) (deps:=deps) (k:=0) (i:=i)).2 ⟨Nat.zero_le _,by omega,hni,λj hj=>by
         rw[Nat.sub_zero] at hj;rcases hlt i yH (λh=>hni (hdE i h)) j hj with h|h
         ·exact hdE j h
         ·exact ihk j Z.o Z.o⟩
        rw[hr] at this;cases this
     have hsub:List.range al.length ⊆ d:=λx hx=>hall al.length x (List.mem_range.1 hx) (List.mem_range.1 hx);have:=(List.nodup_range (n:=al.length)).length_le_of_subset hsub;rw[List.length_range] at this;omega
    cases hr:k16 d 0 deps with
    | nil=>exact absurd hr hne
    | cons i0 r =>
      simp only[List.isEmpty_cons,Bool.false_eq_true,if_false];rw[<- hr];refine kDS λi hi=>?_;have hi2:=(k2F (d:=d) (deps:=deps) (k:=0) (i:=i)).1 hi;rw[Nat.sub_zero] at hi2;have yH:i<al.length:=(by omega);have hiR:i∈R:=(hRm i).2 ⟨yH,λh=>hi2.2.2.1 (hdE i h)⟩;have h4:=kB4 hstep i hiR (λj=>match k0N E j with|true=>false|false=>k0N d j)
      have hiE:k0N E i=false:=by
       cases hm:k0N E i with
       | false=>rfl
       | true=>exact absurd (hdE i (k0I.1 hm)) hi2.2.2.1
      have hdr:∀j,k0N (k4D E deps i) j=true->k0N E j=false/\k0N d j=true:=λj hj=>by
       have hj:=k0I.1 hj;unfold k4D at hj;rw[List.mem_filter] at hj;refine⟨by simpa using hj.2,k0I.2 (hi2.2.2.2 j hj.1)⟩
      have hsc:∀j,k0N (kBI R deps i) j=true->k0N d j=false:=λj hj=>by
       have hj:=k0I.1 hj;unfold kBI at hj;rw[List.mem_filter] at hj
       cases hm:k0N d j with
       | false=>rfl
       | true=>exact absurd (hdc j (k0I.1 hm) i (k0I.1 hj.2)) hi2.2.2.1
      have e0:kDW i (k4D E deps i) (kBI R deps i) (λj=>match k0N E j with|true=>false|false=>k0N d j) false=(λj=>match k0N E j with|true=>false|false=>k0N d j):=by
       funext j
       unfold kDW
       cases hb:Nat.beq j i with
       | true =>
         have hb:=Nat.eq_of_beq_eq_true hb;subst hb;rw[hiE];show false=k0N d j
         cases hm:k0N d j with
         | false=>rfl
         | true=>exact absurd (k0I.1 hm) hi2.2.2.1
       | false =>
         cases hm:k0N (k4D E deps i) j with
         | false =>
           cases hq:k0N (kBI R deps i) j with
           | false=>rfl
           | true=>rw[hsc j hq];cases k0N E j<;>rfl
         | true=>rw[(hdr j hm).1,(hdr j hm).2]
      have e1:kDW i (k4D E deps i) (kBI R deps i) (λj=>match k0N E j with|true=>false|false=>k0N d j) true=(λj=>match k0N E j with|true=>false|false=>k0N (i::d) j):=by
       funext j
       unfold kDW
       cases hb:Nat.beq j i with
       | true =>
         have hb:=Nat.eq_of_beq_eq_true hb;subst hb;rw[hiE];show true=k0N (j::d) j;exact(k0I.2 List.mem_cons_self).symm
       | false =>
         have hji:Nat.beq i j=false:=by
          cases hx:Nat.beq i j with
          | false=>rfl
          | true=>have:=Nat.eq_of_beq_eq_true hx;subst this;rw[hx] at hb;cases hb
         have hd2:k0N (i::d) j=k0N d j:=by
          show (match Nat.beq i j with|true=>true|false=>k0N d j)=_;rw[hji]
         rw[hd2]
         cases hm:k0N (k4D E deps i) j with
         | false =>
           cases hq:k0N (kBI R deps i) j with
           | false=>rfl
           | true=>rw[hsc j hq];cases k0N E j<;>rfl
         | true=>rw[(hdr j hm).1,(hdr j hm).2]
      rw[e0,e1] at h4
      cases ho:al[i]? with
      | none=>rw[ho] at h4;exact h4.elim
      | some o =>
        rw[ho] at h4;refine k0Z (λx y hxy=>?_) h4;rw[hxy.1,hxy.2];refine ih (i::d) (List.nodup_cons.2 ⟨hi2.2.2.1,hdn⟩) (λx hx=>?_) (λx hx=>List.mem_cons_of_mem _ (hdE x hx)) (λx hx t ht=>?_) (by simp only[List.length_cons];omega)
        ·rcases List.mem_cons.1 hx with rfl|hx
         ·exact yH
         ·exact hdl x hx
        ·rcases List.mem_cons.1 hx with rfl|hx
         ·exact List.mem_cons_of_mem _ (hi2.2.2.2 t ht)
         ·exact List.mem_cons_of_mem _ (hdc x hx t ht)
 have zE:=k3V al.length E hEn hEl;have:=key (al.length-E.length) E.reverse (List.pairwise_reverse.2 (hEn.imp Ne.symm)) (λi hi=>hEl i (List.mem_reverse.1 hi)) (λi hi=>List.mem_reverse.2 hi) (λi hi j hj=>List.mem_reverse.2 (hEc i (List.mem_reverse.1 hi) j hj)) (by rw[List.length_reverse];omega)
 have hm:(λj=>match k0N E j with|true=>false|false=>k0N E.reverse j)=(λ_=>false):=by
  funext j
  cases hE:k0N E j with
  | true=>rfl
  | false =>
    show k0N E.reverse j=false
    cases hx:k0N E.reverse j with
    | false=>rfl
    | true=>rw[k0I.2 (List.mem_reverse.1 (k0I.1 hx))] at hE;cases hE
 rw[hm,kLM al _ (λ_=>rfl),hh] at this;exact this
theorem kG7{deps:List (List Nat)}:∀ {E d:List Nat},kJL deps d E=true->E.Nodup/\∀i,i∈E->i<deps.length/\i ∉ d
 | [],d,_=>⟨List.nodup_nil,λi hi=>by cases hi⟩
 | i::r,d,h=>by
   unfold kJL at h;rw[Bool.and_eq_true] at h;obtain⟨h1,h2⟩:=h;obtain⟨k1,k2⟩:=kG7 h2
   have hi:i<deps.length/\i ∉ d:=by
    cases hr:k16 d 0 deps with
    | nil=>rw[hr] at h1;cases h1
    | cons j l =>
      rw[hr] at h1
      cases l with
      | cons _ _=>cases h1
      | nil =>
        have h1:=Nat.eq_of_beq_eq_true h1;subst h1;have:=(k2F (d:=d) (deps:=deps) (k:=0) (i:=j)).1 (by rw[hr];exact List.mem_singleton.2 rfl);exact⟨by omega,this.2.2.1⟩
   refine⟨List.nodup_cons.2 ⟨λhx=>(k2 i hx).2 List.mem_cons_self,k1⟩,λj hj=>?_⟩;rcases List.mem_cons.1 hj with rfl|hj
   ·exact hi
   ·exact⟨(k2 j hj).1,λhx=>(k2 j hj).2 (List.mem_cons_of_mem _ hx)⟩
theorem kG8{deps:List (List Nat)}:∀ {E d:List Nat},kJL deps d E=true->∀i,i∈E->∀j,j∈deps.getD i []->j∈d\/j∈E
 | [],d,_,i,hi,j,hj=>by cases hi
 | i::r,d,h,x,hx,j,hj=>by
   unfold kJL at h;rw[Bool.and_eq_true] at h;obtain⟨h1,h2⟩:=h;rcases List.mem_cons.1 hx with rfl|hx
   ·cases hr:k16 d 0 deps with
    | nil=>rw[hr] at h1;cases h1
    | cons y l =>
      rw[hr] at h1
      cases l with
      | cons _ _=>cases h1
      | nil =>
        have h1:=Nat.eq_of_beq_eq_true h1;subst h1;have:=(k2F (d:=d) (deps:=deps) (k:=0) (i:=y)).1 (by rw[hr];exact List.mem_singleton.2 rfl);rw[Nat.sub_zero] at this;exact .inl (this.2.2.2 j hj)
   ·rcases kG8 h2 x hx j hj with h|h
    ·rcases List.mem_cons.1 h with rfl|h
     ·exact .inr List.mem_cons_self
     ·exact .inl h
    ·exact .inr (List.mem_cons_of_mem _ h)
theorem AnyQ.sound{P:Program}{el:List Nat}{K K':k09->k00->Prop}{al:List k0J}{deps:List (List Nat)}{a:k09}{h:k00}(hk:∀a h,K a h->K' a h)(H:AnyQ std P el K al deps a h):k35 P K' al deps al.length [] a h:=by
 cases H with
 | mk a' h' H1 H2 =>
   refine k6E (λx y hxy=>?_) H1;rw[hxy.1,hxy.2];exact hk _ _ H2
 | each E R hE hl hR H =>
   have hl':=hl;unfold ltB at hl';rw[Bool.and_eq_true] at hl';have hn:=Nat.eq_of_beq_eq_true hl'.1;obtain⟨k1,k2⟩:=kG7 hE;have hEl:∀i,i∈E->i<al.length:=λi hi=>by have:=(k2 i hi).1;omega
   refine kEN hn E [] al.length a h hE (k3V _ _ k1 hEl) H λa h hJ=>?_;rw[List.append_nil];exact kK8 hk hl hR k1 hEl (λi hi j hj=>(kG8 hE i hi j hj).resolve_left (λh=>by cases h)) hJ
 | sets vals hp hh hc hstep hfin =>
   obtain⟨st,est⟩:∃st:(Nat->Bool)->k09,st=λm=>stT m 0 al vals a:=⟨_,rfl⟩;have ha:st (k0N [])=a:=(by rw[est];exact kLL _ _ _ _);have hstep:kYT (k78 deps al.length [[]]) λd=>kOV (k16 d 0 deps) λi=>match al[i]? with|some o=>k1W std P el (λx y=>x=st (k0N (i::d))/\y=hp (k0N (i::d))) [o] (st (k0N d)) (hp (k0N d))|none=>False:=by rw[est];exact hstep
   have hfin:kYT (k78 deps al.length [[]]) λd=>match k16 d 0 deps with|[]=>K (st (k0N d)) (hp (k0N d))|_::_=>True:=by rw[est];exact hfin
   clear est;generalize hDs:k78 deps al.length [[]]=Ds at hc hstep hfin;have h0:[]∈Ds:=(by rw[<- hDs];exact kJG _ _);have hstep:=kDR hstep;have hfin:=kDR hfin;unfold kOD at hc;rw[List.all_eq_true] at hc
   have key:∀(f:Nat) (d d0:List Nat),d0∈Ds->k0N d=k0N d0->f+d0.length=al.length->k35 P K' al deps f d (st (k0N d0)) (hp (k0N d0)):=by
    intro f
    induction f with
    | zero =>
      intro d d0 hd hm hl;have h1:=hc d0 hd;have h2:=hfin d0 hd;unfold k35;rw[kAM hm]
      cases hr:k16 d0 0 deps with
      | nil=>rw[hr] at h2;exact hk _ _ h2
      | cons i r =>
        rw[hr] at h1;simp only[Bool.and_eq_true,Nat.blt_eq] at h1;omega
    | succ f ih =>
      intro d d0 hd hm hl;have h1:=hc d0 hd;have h2:=hfin d0 hd;have h3:=hstep d0 hd;unfold k35;rw[kAM hm]
      cases hr:k16 d0 0 deps with
      | nil=>rw[hr] at h2;exact hk _ _ h2
      | cons i r =>
        rw[hr] at h1 h3;simp only[Bool.and_eq_true] at h1;simp only[List.isEmpty_cons,Bool.false_eq_true,if_false];have hall:=h1.2;rw[List.all_eq_true] at hall;refine kDS λj hj=>?_;have h4:=k6X h3 j hj;have h5:=hall j hj;rw[List.any_eq_true] at h5;obtain⟨e,he,h6⟩:=h5;simp only[Bool.and_eq_true] at h6;obtain⟨h6,h7,h8⟩:=h6;have h6:=Nat.eq_of_beq_eq_true h6;have hme:=kQY h7 h8
        cases ho:al[j]? with
        | none=>rw[ho] at h4;exact h4.elim
        | some o =>
          rw[ho] at h4;refine k0Z (λx y hxy=>?_) h4;rw[hxy.1,hxy.2,hme];refine ih (j::d) e he ?_ Z.o;rw[<- hme];funext x
          unfold k0N;rw[hm]
   have:=key al.length [] [] h0 rfl (by simp);rw[ha,hh] at this;exact this
theorem k2C{P:Program}{F el:List Nat}{n:Nat}{code:Code}{c:k4V}{Q Q':k17}{a:k09}{h:k00}(hc:(match k07 P code with|some c=>some (k4V.plain c)|none=>none)=some c)(hd:k37 P code=true)(hq:∀e a h,Q e a h->Q' e a h)(H:vcS std P F el n c Q a h):AWp P n code Q' a h:=by
 split at hc
 ·rename_i x hx
  simp only[Option.some.injEq] at hc;subst hc;exact k1G hx hd (k0F hq H)
 ·cases hc
theorem k4X{P:Program}{F el:List Nat}{n:Nat}:∀ {code:Code} {c:k4V} {Q Q':k17} {a:k09} {h:k00},k0U P F code=some c->k5A P F code=true->(∀e a h,Q e a h->Q' e a h)->vcS std P F el n c Q a h->AWp P n code Q' a h
 | .seq x y,c,Q,Q',a,h,hc,hd,hq,H=>by
   simp only[k0U] at hc;split at hc
   ·rename_i p q hp hq2
    simp only[Option.some.injEq] at hc;subst hc;simp only[k5A,Bool.and_eq_true] at hd;refine AWp.seq (k4X hp hd.1 (λe a h hr=>?_) H)
    cases e with
    | normal=>exact k4X hq2 hd.2 hq hr
    | _=>exact hq _ _ _ hr
   ·cases hc
 | .region id ops true,c,Q,Q',a,h,hc,hd,hq,H=>by
   simp only[k0U] at hc;simp only[k5A] at hd
   cases hm:k0N F id with
   | true =>
     simp only[hm] at hc hd;split at hc
     ·rename_i al hal
      simp only[Option.some.injEq] at hc;subst hc;exact AWp.any hd hal (AnyQ.sound (λa h hr=>hq _ _ _ hr) H)
     ·cases hc
   | false =>
     simp only[hm] at hc hd;exact k2C (F:=F) hc hd hq H
 | .region id ops false,c,Q,Q',a,h,hc,hd,hq,H=>k2C (F:=F) hc hd hq H
 | .skip,c,Q,Q',a,h,hc,hd,hq,H=>k2C (F:=F) hc hd hq H
 | .ret,c,Q,Q',a,h,hc,hd,hq,H=>k2C (F:=F) hc hd hq H
 | .exit id,c,Q,Q',a,h,hc,hd,hq,H=>k2C (F:=F) hc hd hq H
 | .cond x p q,c,Q,Q',a,h,hc,hd,hq,H=>k2C (F:=F) hc hd hq H
 | .block id x,c,Q,Q',a,h,hc,hd,hq,H=>by
   simp only[k0U] at hc;split at hc
   ·rename_i y hy
    simp only[Option.some.injEq] at hc;subst hc;simp only[k5A] at hd;refine AWp.block (k4X hy hd (λe a h hr=>?_) H)
    cases e with
    | exit i =>
      simp only[k33] at hr ⊢;split<;>rename_i hi
      ·rw[if_pos hi] at hr;exact hq _ _ _ hr
      ·rw[if_neg hi] at hr;exact hq _ _ _ hr
    | _=>exact hq _ _ _ hr
   ·cases hc
 | .loop x,c,Q,Q',a,h,hc,hd,hq,H=>by
   simp only[k0U] at hc;split at hc
   ·rename_i y hy
    simp only[Option.some.injEq] at hc;subst hc;simp only[k5A] at hd;obtain⟨H⟩:=H;exact(H x hy hd).mono hq
   ·cases hc
 | .rangeFunc _ _ _ _,c,Q,Q',a,h,hc,hd,hq,H=>k2C (F:=F) hc hd hq H
 | .scope _,c,Q,Q',a,h,hc,hd,hq,H=>k2C (F:=F) hc hd hq H
 | .label _,c,Q,Q',a,h,hc,hd,hq,H=>k2C (F:=F) hc hd hq H
 | .goto _,c,Q,Q',a,h,hc,hd,hq,H=>k2C (F:=F) hc hd hq H
 | .refuse _,c,Q,Q',a,h,hc,hd,hq,H=>k2C (F:=F) hc hd hq H
theorem kP0.dataN{F:List Nat}{P:Program}{n:Nat}{w:k01}(hw:w=std){c:k4V}{Q:k17}{a:k09}{h:k00}{S:Type}(st:S->k09)(hp:S->k00)(inv:S->Prop)(m:S->Nat)(s0:S)(hwk:Wk n a h (st s0) (hp s0))(h0:inv s0)
 (round:∀s,inv s->∀Q':k17,(∀s' a1 h1,Wk n a1 h1 (st s') (hp s')->inv s'->m s'<m s->Q' .normal a1 h1)->(∀k a1 h1,Q (.exit k) a1 h1->Q' (.exit k) a1 h1)->(∀a1 h1,Q .ret a1 h1->Q' .ret a1 h1)->vcS w P F (kB2 [] c) n c Q' (st s) (hp s)):kP0 F P n c Q a h:=by
 subst hw;refine⟨λcode hc hd=>?_⟩;refine AWp.pre hwk (AWp.loop (λa h=>∃s,st s=a/\hp s=h/\inv s) (k5Z st hp inv m) ⟨s0,rfl,rfl,h0⟩ λa h hI=>?_);obtain⟨s,rfl,rfl,h1,h2⟩:=k6V (m:=m) hI
 have:=k4X (Q':=k6Y (kHR n (λa h=>∃s,st s=a/\hp s=h/\inv s) (k5Z st hp inv m) (k5Z st hp inv m (st s) (hp s))) Q) hc hd (λe a h hr=>hr) (round s h1 _ (λs' a1 h1 k1 k2 k3=>⟨_,_,k1,⟨s',rfl,rfl,k2⟩,by
  rw[<- h2];exact Nat.lt_of_le_of_lt (k8K k2) k3⟩) (λk a1 h1 hq=>hq) (λa1 h1 hq=>hq))
 refine AWp.post this λe a2 h2 hq=>?_
 cases e with
 | normal =>
   obtain⟨a3,h3,w3,i3,m3⟩:=hq;exact⟨a3,h3,w3,i3,m3⟩
 | _=>exact⟨a2,h2,Wk.refl _ _ _,hq⟩
theorem k06.ofP {P : Program} {F : List Nat} {g : FuncId} {fn : Func} {code : Code} {sc : k4V} {r : List kE0} {args : List AV} {h : k00} {K : AV → k00 → Prop} (hf : P.funcs[g]? = some fn) (hname : (fn.name == "runtime.NumGoroutine") = false) (hb : fn.body = some code) (hr : kBP P fn.results.toList = some r)
 (hc:k0U P F code=some sc) (hdr:k5A P F code=true) (H:∀w,w=std->vcS w P F (kB2 [] sc) h.length sc (kG5 r K) (k63 args fn.ntmps) h):k06 P g args h K:=by
 have HA:AWp P h.length code (kVJ r K) (k63 args fn.ntmps) h:=k4X hc hdr (λe a h hr=>k95 e a h hr) (H std rfl);refine⟨⟨fn,hf,by simp[hb],hname⟩,λC vs hC RC hv=>?_⟩;refine calls_of_wp hf hb ?_;refine wp_mono (HA C _ hC (k7O RC hv fn.ntmps) (Nat.le_refl _)) λe act' w' ⟨a',D,h1,h2,h3,h4,h5⟩=>?_
 have fin:(∃l,k54 a' D.h r=some l/\K (k2Q l) D.h)->act'.defers=[]/\∃v,(results fn act'.tmps).run P w' = .ok v w' /\
  ∃v' r D,Ending.returned v = .returned v'/\K r D.h/\D.w=w'/\Rel D/\VR D r v'/\Ext h.length C D/\h.length<=D.h.length:=by
  rintro⟨l,hl,hK⟩
  obtain⟨u,k1,k2⟩:=k2V hr h3 hl;subst h2;exact⟨h3.nodef,u,k1,u,_,D,rfl,hK,rfl,h3.rel,k2,h4,h5⟩
 cases e with
 | normal=>exact fin h1
 | ret=>exact fin h1
 | exit id=>exact h1.elim
 | goto l=>exact h1.elim
 | panic c=>exact h1.elim
 | outgrown=>exact h1.elim
def kVO(deps:List (List Nat)):Nat->List Nat->List Nat
 | 0,_=>[]
 | f+1,d=>match k16 d 0 deps with|[j]=>j::kVO deps f (j::d)|_=>[]
theorem AnyQ.e{w:k01}{P:Program}{el:List Nat}{K:k09->k00->Prop}{al:List k0J}{deps:List (List Nat)}{a:k09}{h:k00}(E:List Nat)(hE:kVO deps al.length []=E)(R:List Nat)(hR:k9O E al.length=R)(hb:(kJL deps [] E && ltB E deps al.length)=true)
 (H:k1W w P el (λa h=>k3M w P el K al deps E R a h) (k8M al E) a h):AnyQ w P el K al deps a h:=by
 rw[Bool.and_eq_true] at hb;exact .each E R hb.1 hb.2 hR H
end Go.Eng
