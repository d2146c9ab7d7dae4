/- Parts of the proofs. -/
import Derived.Test.YtlchlddijclhjaaGreatQ9
import Derived.Test.YtlchlddijclhjaaGreatQ16
import Derived.Test.YtlchlddijclhjaaGreatQ13
import Derived.Test.YtlchlddijclhjaaGreatQ8
import Derived.KernelRfl
import Derived.Test.YtlchlddijclhjaaGreatQ15
import Derived.Test.YtlchlddijclhjaaGreatQZ
set_option linter.unusedVariables false
set_option linter.unusedSimpArgs false
set_option maxHeartbeats 4000000
namespace Go.Eng
open Go Go.RowKit
inductive CY where
 | seq (x y:CY)
 | any (al:List Ad) (deps:List (List Nat))
 | block (id:Nat) (x:CY)
 | loop (x:CY)
 | plain (c:BR)
def BV(P:Program)(F:List Nat):Code->Option CY
 | .seq a b =>
   match BV P F a,BV P F b with
   | some x,some y=>some (.seq x y)
   | _,_=>none
 | .region id ops true=>(match Aa F id with
   | true=>(match Aw P ops.toList ops.toList with|some al=>some (.any al (J6 ops.toList))|none=>none)
   | false=>(match Am P (.region id ops true) with|some c=>some (.plain c)|none=>none))
 | .block id c=>(match BV P F c with|some x=>some (.block id x)|none=>none)
 | .loop c=>(match BV P F c with|some x=>some (.loop x)|none=>none)
 | c=>(match Am P c with|some c=>some (.plain c)|none=>none)
theorem IR{P:Program}{F:List Nat}{id:Nat}{a:Code}{x:CY}(h1:BV P F a=some x):BV P F (.block id a)=some (.block id x):=by
 simp only[BV,h1]
theorem IU{P:Program}{F:List Nat}{a:Code}{x:CY}(h1:BV P F a=some x):BV P F (.loop a)=some (.loop x):=by
 simp only[BV,h1]
theorem IQ{P:Program}{F:List Nat}{a b:Code}{x y:CY}(h1:BV P F a=some x)(h2:BV P F b=some y):BV P F (.seq a b)=some (.seq x y):=by
 simp only[BV,h1,h2]
theorem Cg{P:Program}{F:List Nat}{id:Nat}{ops:Array Oper}{al:List Ad}(deps:List (List Nat))(hm:Aa F id=true)(hd:J6 ops.toList=deps)(h:Aw P ops.toList ops.toList=some al):BV P F (.region id ops true)=some (.any al deps):=by
 simp only[BV,hm,h,hd]
def Ea(P:Program)(F:List Nat):Code->Bool
 | .seq a b=>Ea P F a && Ea P F b
 | .region id ops true=>(match Aa F id with|true=>P.follows .mixedOrders|false=>CW P (.region id ops true))
 | .block _ c=>Ea P F c
 | .loop c=>Ea P F c
 | c=>CW P c
def Ic:List Nat->CY->List Nat
 | acc,.seq x y=>Ic (Ic acc x) y
 | acc,.any al _=>Ib acc al
 | acc,.block _ x=>Ic acc x
 | acc,.loop x=>Ic acc x
 | acc,.plain c=>DY acc c
def U1(x:Nat):List Nat->List Nat
 | []=>[x]
 | y::r=>match Nat.blt x y with|true=>x::y::r|false=>y::U1 x r
def eqN:List Nat->List Nat->Bool
 | [],[]=>true
 | x::a,y::b=>match Nat.beq x y with|true=>eqN a b|false=>false
 | _,_=>false
def U2(e:List Nat):List (List Nat)->List (List Nat)
 | []=>[e]
 | d::r=>match eqN d e with|true=>d::r|false=>d::U2 e r
def U3(d:List Nat):List Nat->List (List Nat)->List (List Nat)
 | [],acc=>acc
 | i::r,acc=>U3 d r (U2 (U1 i d) acc)
def U4(deps:List (List Nat)):List (List Nat)->List (List Nat)->List (List Nat)
 | [],acc=>acc
 | d::r,acc=>U4 deps r (U3 d (Ay d 0 deps) acc)
def G6(deps:List (List Nat)):Nat->List (List Nat)->List (List Nat)
 | 0,L=>L
 | n+1,L=>L++G6 deps n (U4 deps L [])
def Ko(d e:List Nat):Bool:=d.all λx=>Aa e x
def U5(deps:List (List Nat))(n:Nat)(Ds:List (List Nat)):Bool:=
 Ds.all λd=>match Ay d 0 deps with
  | []=>true
  | r=>Nat.blt d.length n && r.all λi=>Ds.any λe=>Nat.beq e.length (d.length+1) && (Ko (i::d) e && Ko e (i::d))
def Jq:List (List Nat)->(List Nat->Prop)->Prop
 | [],_=>True
 | d::r,f=>f d/\Jq r f
theorem PM{f:List Nat->Prop}:∀ {l:List (List Nat)},Jq l f->∀d,d∈l->f d
 | x::l,h,d,hd=>by
   rcases List.mem_cons.1 hd with rfl|hd
   ·exact h.1
   ·exact PM h.2 d hd
def stT(mem:Nat->Bool):Nat->List Ad->List AV->AA->AA
 | k,o::l,v::vs,a=>stT mem (k+1) l vs (match mem k with|true=>Aj a o.dst v|false=>a)
 | _,_,_,a=>a
def pick(b:Bool)(v u:AV):AV:=match b with|true=>v|false=>u
def U6(a:AA):Option Nat->AV
 | some d=>a.getD d (.tuple [])
 | none=>.any
def Kq(al:List Ad)(i:Nat):Option Nat:=match al[i]? with|some o=>o.dst|none=>none
def stE(al:List Ad)(m:Nat->Bool):List Nat->List AV->AA->AA
 | i::r,v::vs,a=>stE al m r vs (Aj a (Kq al i) (pick (m i) v (U6 a (Kq al i))))
 | _,_,a=>a
def I5(i:Nat)(ds sc:List Nat)(m:Nat->Bool)(b:Bool):Nat->Bool:=λj=>match Nat.beq j i with|true=>b|false=>(match Aa ds j with|true=>true|false=>(match Aa sc j with|true=>false|false=>m j))
def G7(R:List Nat)(deps:List (List Nat))(i:Nat):List Nat:=R.filter λj=>Aa (deps.getD j []) i
def G8(E:List Nat)(deps:List (List Nat))(i:Nat):List Nat:=(deps.getD i []).filter λj=> !Aa E j
def Gj(deps:List (List Nat)):List Nat->List Nat->Bool
 | _,[]=>true
 | d,i::r=>(match Ay d 0 deps with|[j]=>Nat.beq j i|_=>false) && Gj deps (i::d) r
def ltB(E:List Nat)(deps:List (List Nat))(n:Nat):Bool:=Nat.beq deps.length n && (List.range n).all λi=>Aa E i || (deps.getD i []).all λj=>Aa E j || Nat.blt j i
def PN:List Nat->(Nat->Prop)->Prop
 | [],_=>True
 | i::r,f=>f i/\PN r f
theorem U7{f:Nat->Prop}:∀ {l:List Nat},PN l f->∀i,i∈l->f i
 | x::l,h,i,hi=>by
   rcases List.mem_cons.1 hi with rfl|hi
   ·exact h.1
   ·exact U7 h.2 i hi
def Ma(E:List Nat)(n:Nat):List Nat:=(List.range n).filter λj=> !Aa E j
inductive CJ(w:A8)(P:Program)(el:List Nat)(K:AA->A7->Prop)(al:List Ad)(deps:List (List Nat))(E R:List Nat)(a:AA)(h:A7):Prop where
 | mk (vals:List AV) (hp:(Nat->Bool)->A7) (hh:hp (λ_=>false)=h)
   (hstep:PN R λi=>∀m:Nat->Bool,match al[i]? with|some o=>CK w P el (λx y=>x=stE al (I5 i (G8 E deps i) (G7 R deps i) m true) R vals a/\y=hp (I5 i (G8 E deps i) (G7 R deps i) m true)) [o] (stE al (I5 i (G8 E deps i) (G7 R deps i) m false) R vals a) (hp (I5 i (G8 E deps i) (G7 R deps i) m false))|none=>False)
   (hfin:K (stE al (Aa R) R vals a) (hp (Aa R)))
def Kr(al:List Ad):List Nat->List Ad
 | []=>[]
 | i::r=>(match al[i]? with|some o=>[o]|none=>[])++Kr al r
inductive AnyQ(w:A8)(P:Program)(el:List Nat)(K:AA->A7->Prop)(al:List Ad)(deps:List (List Nat))(a:AA)(h:A7):Prop where
 | mk (a':AA) (h':A7) (H1:JY w P el (λx y=>x=a'/\y=h') al deps al.length [] a h) (H2:K a' h')
 | sets (vals:List AV) (hp:(Nat->Bool)->A7) (hh:hp (Aa [])=h) (hc:U5 deps al.length (G6 deps al.length [[]])=true)
   (hstep:Jq (G6 deps al.length [[]]) λd=>FW (Ay d 0 deps) λi=>match al[i]? with|some o=>CK w P el (λx y=>x=stT (Aa (i::d)) 0 al vals a/\y=hp (Aa (i::d))) [o] (stT (Aa d) 0 al vals a) (hp (Aa d))|none=>False)
   (hfin:Jq (G6 deps al.length [[]]) λd=>match Ay d 0 deps with|[]=>K (stT (Aa d) 0 al vals a) (hp (Aa d))|_::_=>True)
 | each (E R:List Nat) (hE:Gj deps [] E=true) (hl:ltB E deps al.length=true) (hR:Ma E al.length=R) (H:CK w P el (λa h=>CJ w P el K al deps E R a h) (Kr al E) a h)
theorem fJ{d e:List Nat}(h1:Ko d e=true)(h2:Ko e d=true):Aa d=Aa e:=by
 funext x
 unfold Ko at h1 h2;rw[List.all_eq_true] at h1 h2
 cases hx:Aa d x with
 | true=>rw[EN,List.contains_iff_mem] at hx;exact(h1 x hx).symm
 | false =>
   cases hy:Aa e x with
   | false=>rfl
   | true=>rw[EN,List.contains_iff_mem] at hy;rw[h2 x hy] at hx;cases hx
theorem U8:∀(l:List Ad) (vs:List AV) (k:Nat) (a:AA),stT (Aa []) k l vs a=a
 | [],vs,k,a=>by unfold stT;rfl
 | o::l,[],k,a=>by unfold stT;rfl
 | o::l,v::vs,k,a=>by unfold stT;exact U8 l vs (k+1) a
theorem fK(deps:List (List Nat)):∀n,[]∈G6 deps n [[]]
 | 0=>by simp[G6]
 | n+1=>by simp[G6]
inductive KU(F:List Nat)(P:Program)(n:Nat)(c:CY)(Q:Aq)(a:AA)(h:A7):Prop where
 | mk (c:∀code,BV P F code=some c->Ea P F code=true->AWp P n (.loop code) Q a h)
def vcS(w:A8)(P:Program)(F:List Nat)(el:List Nat)(n:Nat):CY->Aq->AA->A7->Prop
 | .seq x y,Q,a,h=>vcS w P F el n x (Dw (vcS w P F el n y Q) Q) a h
 | .block id x,Q,a,h=>vcS w P F el n x (GD id Q) a h
 | .loop x,Q,a,h=>KU F P n x Q a h
 | .any al deps,Q,a,h=>AnyQ w P el (Q .normal) al deps a h
 | .plain c,Q,a,h=>Cs w P el n c Q a h
theorem U9{d e:List Nat}(h:Aa d=Aa e):∀(deps:List (List Nat)) (k:Nat),Ay d k deps=Ay e k deps:=by
 have hc:∀x,d.contains x=e.contains x:=λx=>by rw[<- EN,<- EN,h]
 have hf:d.contains=e.contains:=funext hc;intro deps
 induction deps with
 | nil=>intro k;rfl
 | cons y ys ih=>intro k;unfold Ay;rw[hf,ih (k+1)]
theorem PO{F:Nat->Prop}:∀ {l:List Nat},(∀i,i∈l->F i)->FW l F
 | [],_=>trivial
 | [j],h=>h j (List.mem_singleton.2 rfl)
 | j::k::l,h=>⟨h j (List.mem_cons.2 (.inl rfl)),PO λi hi=>h i (List.mem_cons.2 (.inr hi))⟩
theorem Ca{l:List Nat}{x:Nat}:Aa l x=true↔x∈l:=by rw[EN,List.contains_iff_mem]
theorem Iz{d:List Nat}:∀ {deps:List (List Nat)} {k i:Nat},i∈Ay d k deps↔k<=i/\i<k+deps.length/\i ∉ d/\∀j,j∈deps.getD (i-k) []->j∈d
 | [],k,i=>by simp only[Ay,List.length_nil];constructor;· intro h;cases h
              ·intro h;omega
 | ds::deps,k,i=>by
   have ih:=Iz (d:=d) (deps:=deps) (k:=k+1) (i:=i)
   have hc:(!d.contains k && ds.all d.contains)=true↔k ∉ d/\∀j,j∈ds->j∈d:=by
    simp[List.all_eq_true]
   have hs:∀h:k+1<=i,(ds::deps).getD (i-k) []=deps.getD (i-(k+1)) []:=λh=>by
    rw[show i-k=(i-(k+1))+1 by omega];simp
   unfold Ay;split
   ·rename_i h1
    have h1:=hc.1 h1;rw[List.mem_cons,ih];constructor
    ·rintro(rfl|⟨a1,a2,a3,a4⟩)
     ·exact⟨Nat.le_refl _,by simp,h1.1,by simpa using h1.2⟩
     ·refine⟨by omega,by simp only[List.length_cons];omega,a3,?_⟩
      rw[hs a1];exact a4
    ·rintro⟨a1,a2,a3,a4⟩
     by_cases he:i=k
     ·exact .inl he
     ·refine .inr ⟨by omega,by simp only[List.length_cons] at a2;omega,a3,?_⟩
      rw[hs Z.o] at a4;exact a4
   ·rename_i h1
    rw[ih];constructor
    ·rintro⟨a1,a2,a3,a4⟩
     refine⟨by omega,by simp only[List.length_cons];omega,a3,?_⟩;rw[hs a1];exact a4
    ·rintro⟨a1,a2,a3,a4⟩
     have he:i≠k:=λhe=>h1 (hc.2 ⟨by rw[<- he];exact a3,by subst he;simpa using a4⟩);refine⟨by omega,by simp only[List.length_cons] at a2;omega,a3,?_⟩;rw[hs Z.o] at a4;exact a4
theorem fM{w:A8}{P:Program}{el:List Nat}{K:AA->A7->Prop}{o:Ad}{l:List Ad}{a:AA}{h:A7}:CK w P el K (o::l) a h=CK w P el (CK w P el K l) [o] a h:=rfl
theorem Kt:∀(n:Nat) (l:List Nat),l.Nodup->(∀i,i∈l->i<n)->l.length<=n
 | 0,l,_,h2=>by
   cases l with
   | nil=>exact Nat.le_refl _
   | cons a b=>have:=h2 a List.mem_cons_self;omega
 | n+1,l,h1,h2=>by
   have h3:=Kt n (l.erase n) (h1.erase n) λi hi=>by
    have:=(List.Nodup.mem_erase_iff h1).1 hi;have:=h2 i this.2;omega
   by_cases hm:n∈l
   ·have:=List.length_erase_of_mem hm;omega
   ·rw[List.erase_of_not_mem hm] at h3;omega
theorem UA(al:List Ad)(m:Nat->Bool)(hm:∀i,m i=false):∀(R:List Nat) (vs:List AV) (a:AA),stE al m R vs a=a
 | [],vs,a=>by unfold stE;rfl
 | i::r,[],a=>by unfold stE;rfl
 | i::r,v::vs,a=>by
   unfold stE
   have e:Aj a (Kq al i) (pick (m i) v (U6 a (Kq al i)))=a:=by
    rw[hm i];unfold pick
    cases Kq al i with
    | none=>rfl
    | some d =>
      show a.set d (a.getD d (.tuple []))=a;apply List.ext_getElem?;intro j;rw[List.getElem?_set];split
      ·rename_i hj
       subst hj;split
       ·rename_i hl
        rw[List.getD_eq_getElem?_getD,List.getElem?_eq_getElem hl];rfl
       ·rename_i hl
        rw[List.getElem?_eq_none Z.o]
      ·rfl
   rw[e];exact UA al m hm r vs a
theorem UB{P:Program}{el:List Nat}{K':AA->A7->Prop}{al:List Ad}{deps:List (List Nat)}{J:AA->A7->Prop}(hn:deps.length=al.length):∀(E d:List Nat) (f:Nat) (a:AA) (h:A7),Gj deps d E=true->E.length<=f->CK std P el J (Kr al E) a h->(∀a h,J a h->Bg P K' al deps (f-E.length) (E.reverse++d) a h)->Bg P K' al deps f d a h
 | [],d,f,a,h,_,_,H,HJ=>HJ a h H
 | i::r,d,f,a,h,hb,hf,H,HJ=>by
   unfold Gj at hb;rw[Bool.and_eq_true] at hb;obtain⟨hb,hb2⟩:=hb
   cases hr:Ay d 0 deps with
   | nil=>rw[hr] at hb;cases hb
   | cons j l =>
     rw[hr] at hb
     cases l with
     | cons _ _=>cases hb
     | nil =>
       have hb:=Nat.eq_of_beq_eq_true hb;subst hb;have hj:=(Iz (d:=d) (deps:=deps) (k:=0) (i:=j)).1 (by rw[hr];exact List.mem_singleton.2 rfl);obtain⟨o,ho⟩:∃o,al[j]?=some o:=⟨_,List.getElem?_eq_getElem (show j<al.length by omega)⟩
       cases f with
       | zero=>simp at hf
       | succ f =>
         unfold Bg;rw[hr];show (match al[j]? with|some o=>Ck P (Bg P K' al deps f (j::d)) [o] a h|none=>False);unfold Kr at H;rw[ho] at H ⊢;simp only[List.cons_append,List.nil_append] at H ⊢;rw[fM] at H;refine Eb (λx y hxy=>?_) H;refine UB hn r (j::d) f x y hb2 (by simp at hf;omega) hxy λa h hJ=>?_;have:=HJ a h hJ;simpa[Nat.add_sub_add_right] using this
theorem fO{P:Program}{el:List Nat}{K K':AA->A7->Prop}(hk:∀a h,K a h->K' a h){al:List Ad}{deps:List (List Nat)}{E R:List Nat}{a:AA}{h:A7}(hl:ltB E deps al.length=true)(hR:Ma E al.length=R)(hEn:E.Nodup)(hEl:∀i,i∈E->i<al.length)(hEc:∀i,i∈E->∀j,j∈deps.getD i []->j∈E)(H:CJ std P el K al deps E R a h) :
 Bg P K' al deps (al.length-E.length) E.reverse a h:=by
 obtain⟨vals,hp,hh,hstep,hfin⟩:=H;unfold ltB at hl;rw[Bool.and_eq_true,List.all_eq_true] at hl;obtain⟨hl0,hl1⟩:=hl;have hl0:=Nat.eq_of_beq_eq_true hl0
 have hlt:∀i,i<al.length->i ∉ E->∀j,j∈deps.getD i []->j∈E\/j<i:=λi hi hni j hj=>by
  have:=hl1 i (List.mem_range.2 hi);rw[Bool.or_eq_true] at this;rcases this with h|this
  ·exact absurd (Ca.1 h) hni
  rw[List.all_eq_true] at this;have h:=this j hj;rw[Bool.or_eq_true,Nat.blt_eq] at h;exact h.imp Ca.1 id
 have hRm:∀j,j∈R↔j<al.length/\j ∉ E:=λj=>by
  rw[<- hR];unfold Ma;rw[List.mem_filter,List.mem_range];constructor
  ·rintro⟨h1,h2⟩;exact⟨h1,λh3=>by rw[Ca.2 h3] at h2;cases h2⟩
  ·rintro⟨h1,h2⟩
   refine⟨h1,?_⟩
   cases hm:Aa E j with
   | false=>rfl
   | true=>exact absurd (Ca.1 hm) h2
 have key:∀(f:Nat) (d:List Nat),d.Nodup->(∀i,i∈d->i<al.length)->(∀i,i∈E->i∈d)->(∀i,i∈d->∀j,j∈deps.getD i []->j∈d)->f+d.length=al.length ->
  Bg P K' al deps f d (stE al (λj=>match Aa E j with|true=>false|false=>Aa d j) R vals a) (hp (λj=>match Aa E j with|true=>false|false=>Aa d j)):=by
  intro f
  induction f with
  | zero =>
    intro d hdn hdl hdE hdc hf;unfold Bg
    have hr:Ay d 0 deps=[]:=by
     cases hr:Ay d 0 deps with
     | nil=>rfl
     | cons i r =>
       have hi:=(Iz (d:=d) (deps:=deps) (k:=0) (i:=i)).1 (by rw[hr];exact List.mem_cons_self)
       have:=Kt al.length (i::d) (List.nodup_cons.2 ⟨hi.2.2.1,hdn⟩) λx hx=>by
        rcases List.mem_cons.1 hx with rfl|hx
        ·omega
        ·exact hdl x hx
       simp only[List.length_cons] at this;omega
    rw[hr];simp only[List.isEmpty_nil,if_true]
    have hall:∀i,i<al.length->i∈d:=λi hi=>by
     apply Classical.byContradiction;intro hni
     have:=Kt al.length (i::d) (List.nodup_cons.2 ⟨hni,hdn⟩) λx hx=>by
      rcases List.mem_cons.1 hx with rfl|hx
      ·exact hi
      ·exact hdl x hx
     simp only[List.length_cons] at this;omega
    have hm:(λj=>match Aa E j with|true=>false|false=>Aa d j)=Aa R:=by
     funext j
     cases hE:Aa E j with
     | true =>
       cases hj:Aa R j with
       | false=>rfl
       | true=>exact absurd (Ca.1 hE) ((hRm j).1 (Ca.1 hj)).2
     | false =>
       show Aa d j=Aa R j
       cases hj:Aa R j with
       | true=>exact Ca.2 (hall j ((hRm j).1 (Ca.1 hj)).1)
       | false =>
         cases hj2:Aa d j with
         | false=>rfl
         | true =>
           have:j∈R:=(hRm j).2 ⟨hdl j (Ca.1 hj2),λh=>by rw[Ca.2 h] at hE;cases hE⟩;rw[Ca.2 this] at hj;cases hj
    rw[hm];exact hk _ _ hfin
  | succ f ih =>
    intro d hdn hdl hdE hdc hf;unfold Bg
    have hne:Ay d 0 deps≠[]:=by
     intro hr
     have hall:∀k i,i<k->i<al.length->i∈d:=by
      intro k
      induction k with
      | zero=>intro i hi;omega
      | succ k ihk =>
        intro i hi yC;apply Classical.byContradiction;intro hni
        have:i∈Ay d 0 deps:=(Iz (d:=d) (deps:=deps) (k:=0) (i:=i)).2 ⟨Nat.zero_le _,by omega,hni,λj hj=>by
         rw[Nat.sub_zero] at hj;rcases hlt i yC (λh=>hni (hdE i h)) j hj with h|h
         ·exact hdE j h
         ·exact ihk j Z.o Z.o⟩
        rw[hr] at this;cases this
     have hsub:List.range al.length ⊆ d:=λx hx=>hall al.length x (List.mem_range.1 hx) (List.mem_range.1 hx);have:=(List.nodup_range (n:=al.length)).length_le_of_subset hsub;rw[List.length_range] at this;omega
    cases hr:Ay d 0 deps with
    | nil=>exact absurd hr hne
    | cons i0 r =>
      simp only[List.isEmpty_cons,Bool.false_eq_true,if_false];rw[<- hr];refine PO λi hi=>?_;have hi2:=(Iz (d:=d) (deps:=deps) (k:=0) (i:=i)).1 hi;rw[Nat.sub_zero] at hi2;have yC:i<al.length:=(by omega);have hiR:i∈R:=(hRm i).2 ⟨yC,λh=>hi2.2.2.1 (hdE i h)⟩;have h4:=U7 hstep i hiR (λj=>match Aa E j with|true=>false|false=>Aa d j)
      have hiE:Aa E i=false:=by
       cases hm:Aa E i with
       | false=>rfl
       | true=>exact absurd (hdE i (Ca.1 hm)) hi2.2.2.1
      have hdr:∀j,Aa (G8 E deps i) j=true->Aa E j=false/\Aa d j=true:=λj hj=>by
       have hj:=Ca.1 hj;unfold G8 at hj;rw[List.mem_filter] at hj;refine⟨by simpa using hj.2,Ca.2 (hi2.2.2.2 j hj.1)⟩
      have hsc:∀j,Aa (G7 R deps i) j=true->Aa d j=false:=λj hj=>by
       have hj:=Ca.1 hj;unfold G7 at hj;rw[List.mem_filter] at hj
       cases hm:Aa d j with
       | false=>rfl
       | true=>exact absurd (hdc j (Ca.1 hm) i (Ca.1 hj.2)) hi2.2.2.1
      have e0:I5 i (G8 E deps i) (G7 R deps i) (λj=>match Aa E j with|true=>false|false=>Aa d j) false=(λj=>match Aa E j with|true=>false|false=>Aa d j):=by
       funext j
       unfold I5
       cases hb:Nat.beq j i with
       | true =>
         have hb:=Nat.eq_of_beq_eq_true hb;subst hb;rw[hiE];show false=Aa d j
         cases hm:Aa d j with
         | false=>rfl
         | true=>exact absurd (Ca.1 hm) hi2.2.2.1
       | false =>
         cases hm:Aa (G8 E deps i) j with
         | false =>
           cases hq:Aa (G7 R deps i) j with
           | false=>rfl
           | true=>rw[hsc j hq];cases Aa E j<;>rfl
         | true=>rw[(hdr j hm).1,(hdr j hm).2]
      have e1:I5 i (G8 E deps i) (G7 R deps i) (λj=>match Aa E j with|true=>false|false=>Aa d j) true=(λj=>match Aa E j with|true=>false|false=>Aa (i::d) j):=by
       funext j
       unfold I5
       cases hb:Nat.beq j i with
       | true =>
         have hb:=Nat.eq_of_beq_eq_true hb;subst hb;rw[hiE];show true=Aa (j::d) j;exact(Ca.2 List.mem_cons_self).symm
       | false =>
         have hji:Nat.beq i j=false:=by
          cases hx:Nat.beq i j with
          | false=>rfl
          | true=>have:=Nat.eq_of_beq_eq_true hx;subst this;rw[hx] at hb;cases hb
         have hd2:Aa (i::d) j=Aa d j:=by
          show (match Nat.beq i j with|true=>true|false=>Aa d j)=_;rw[hji]
         rw[hd2]
         cases hm:Aa (G8 E deps i) j with
         | false =>
           cases hq:Aa (G7 R deps i) j with
           | false=>rfl
           | true=>rw[hsc j hq];cases Aa E j<;>rfl
         | true=>rw[(hdr j hm).1,(hdr j hm).2]
      rw[e0,e1] at h4
      cases ho:al[i]? with
      | none=>rw[ho] at h4;exact h4.elim
      | some o =>
        rw[ho] at h4;refine Eb (λx y hxy=>?_) h4;rw[hxy.1,hxy.2];refine ih (i::d) (List.nodup_cons.2 ⟨hi2.2.2.1,hdn⟩) (λx hx=>?_) (λx hx=>List.mem_cons_of_mem _ (hdE x hx)) (λx hx t ht=>?_) (by simp only[List.length_cons];omega)
        ·rcases List.mem_cons.1 hx with rfl|hx
         ·exact yC
         ·exact hdl x hx
        ·rcases List.mem_cons.1 hx with rfl|hx
         ·exact List.mem_cons_of_mem _ (hi2.2.2.2 t ht)
         ·exact List.mem_cons_of_mem _ (hdc x hx t ht)
 have zH:=Kt al.length E hEn hEl;have:=key (al.length-E.length) E.reverse (List.pairwise_reverse.2 (hEn.imp Ne.symm)) (λi hi=>hEl i (List.mem_reverse.1 hi)) (λi hi=>List.mem_reverse.2 hi) (λi hi j hj=>List.mem_reverse.2 (hEc i (List.mem_reverse.1 hi) j hj)) (by rw[List.length_reverse];omega)
 have hm:(λj=>match Aa E j with|true=>false|false=>Aa E.reverse j)=(λ_=>false):=by
  funext j
  cases hE:Aa E j with
  | true=>rfl
  | false =>
    show Aa E.reverse j=false
    cases hx:Aa E.reverse j with
    | false=>rfl
    | true=>rw[Ca.2 (List.mem_reverse.1 (Ca.1 hx))] at hE;cases hE
 rw[hm,UA al _ (λ_=>rfl),hh] at this;exact this
theorem UC{deps:List (List Nat)}:∀ {E d:List Nat},Gj deps d E=true->E.Nodup/\∀i,i∈E->i<deps.length/\i ∉ d
 | [],d,_=>⟨List.nodup_nil,λi hi=>by cases hi⟩
 | i::r,d,h=>by
   unfold Gj at h;rw[Bool.and_eq_true] at h;obtain⟨h1,h2⟩:=h;obtain⟨k1,k2⟩:=UC h2
   have hi:i<deps.length/\i ∉ d:=by
    cases hr:Ay d 0 deps with
    | nil=>rw[hr] at h1;cases h1
    | cons j l =>
      rw[hr] at h1
      cases l with
      | cons _ _=>cases h1
      | nil =>
        have h1:=Nat.eq_of_beq_eq_true h1;subst h1;have:=(Iz (d:=d) (deps:=deps) (k:=0) (i:=j)).1 (by rw[hr];exact List.mem_singleton.2 rfl);exact⟨by omega,this.2.2.1⟩
   refine⟨List.nodup_cons.2 ⟨λhx=>(k2 i hx).2 List.mem_cons_self,k1⟩,λj hj=>?_⟩;rcases List.mem_cons.1 hj with rfl|hj
   ·exact hi
   ·exact⟨(k2 j hj).1,λhx=>(k2 j hj).2 (List.mem_cons_of_mem _ hx)⟩
theorem UD{deps:List (List Nat)}:∀ {E d:List Nat},Gj deps d E=true->∀i,i∈E->∀j,j∈deps.getD i []->j∈d\/j∈E
 | [],d,_,i,hi,j,hj=>by cases hi
 | i::r,d,h,x,hx,j,hj=>by
   unfold Gj at h;rw[Bool.and_eq_true] at h;obtain⟨h1,h2⟩:=h;rcases List.mem_cons.1 hx with rfl|hx
   ·cases hr:Ay d 0 deps with
    | nil=>rw[hr] at h1;cases h1
    | cons y l =>
      rw[hr] at h1
      cases l with
      | cons _ _=>cases h1
      | nil =>
        have h1:=Nat.eq_of_beq_eq_true h1;subst h1;have:=(Iz (d:=d) (deps:=deps) (k:=0) (i:=y)).1 (by rw[hr];exact List.mem_singleton.2 rfl);rw[Nat.sub_zero] at this;exact .inl (this.2.2.2 j hj)
   ·rcases UD h2 x hx j hj with h|h
    ·rcases List.mem_cons.1 h with rfl|h
     ·exact .inr List.mem_cons_self
     ·exact .inl h
    ·exact .inr (List.mem_cons_of_mem _ h)
theorem AnyQ.sound{P:Program}{el:List Nat}{K K':AA->A7->Prop}{al:List Ad}{deps:List (List Nat)}{a:AA}{h:A7}(hk:∀a h,K a h->K' a h)(H:AnyQ std P el K al deps a h):Bg P K' al deps al.length [] a h:=by
 cases H with
 | mk a' h' H1 H2 =>
   refine Oa (λx y hxy=>?_) H1;rw[hxy.1,hxy.2];exact hk _ _ H2
 | each E R hE hl hR H =>
   have hl':=hl;unfold ltB at hl';rw[Bool.and_eq_true] at hl';have hn:=Nat.eq_of_beq_eq_true hl'.1;obtain⟨k1,k2⟩:=UC hE;have hEl:∀i,i∈E->i<al.length:=λi hi=>by have:=(k2 i hi).1;omega
   refine UB hn E [] al.length a h hE (Kt _ _ k1 hEl) H λa h hJ=>?_;rw[List.append_nil];exact fO hk hl hR k1 hEl (λi hi j hj=>(UD hE i hi j hj).resolve_left (λh=>by cases h)) hJ
 | sets vals hp hh hc hstep hfin =>
   obtain⟨st,est⟩:∃st:(Nat->Bool)->AA,st=λm=>stT m 0 al vals a:=⟨_,rfl⟩;have ha:st (Aa [])=a:=(by rw[est];exact U8 _ _ _ _);have hstep:Jq (G6 deps al.length [[]]) λd=>FW (Ay d 0 deps) λi=>match al[i]? with|some o=>CK std P el (λx y=>x=st (Aa (i::d))/\y=hp (Aa (i::d))) [o] (st (Aa d)) (hp (Aa d))|none=>False:=by rw[est];exact hstep
   have hfin:Jq (G6 deps al.length [[]]) λd=>match Ay d 0 deps with|[]=>K (st (Aa d)) (hp (Aa d))|_::_=>True:=by rw[est];exact hfin
   clear est;generalize hDs:G6 deps al.length [[]]=Ds at hc hstep hfin;have h0:[]∈Ds:=(by rw[<- hDs];exact fK _ _);have hstep:=PM hstep;have hfin:=PM hfin;unfold U5 at hc;rw[List.all_eq_true] at hc
   have key:∀(f:Nat) (d d0:List Nat),d0∈Ds->Aa d=Aa d0->f+d0.length=al.length->Bg P K' al deps f d (st (Aa d0)) (hp (Aa d0)):=by
    intro f
    induction f with
    | zero =>
      intro d d0 hd hm hl;have h1:=hc d0 hd;have h2:=hfin d0 hd;unfold Bg;rw[U9 hm]
      cases hr:Ay d0 0 deps with
      | nil=>rw[hr] at h2;exact hk _ _ h2
      | cons i r =>
        rw[hr] at h1;simp only[Bool.and_eq_true,Nat.blt_eq] at h1;omega
    | succ f ih =>
      intro d d0 hd hm hl;have h1:=hc d0 hd;have h2:=hfin d0 hd;have h3:=hstep d0 hd;unfold Bg;rw[U9 hm]
      cases hr:Ay d0 0 deps with
      | nil=>rw[hr] at h2;exact hk _ _ h2
      | cons i r =>
        rw[hr] at h1 h3;simp only[Bool.and_eq_true] at h1;simp only[List.isEmpty_cons,Bool.false_eq_true,if_false];have hall:=h1.2;rw[List.all_eq_true] at hall;refine PO λj hj=>?_;have h4:=L8 h3 j hj;have h5:=hall j hj;rw[List.any_eq_true] at h5;obtain⟨e,he,h6⟩:=h5;simp only[Bool.and_eq_true] at h6;obtain⟨h6,h7,h8⟩:=h6;have h6:=Nat.eq_of_beq_eq_true h6;have hme:=fJ h7 h8
        cases ho:al[j]? with
        | none=>rw[ho] at h4;exact h4.elim
        | some o =>
          rw[ho] at h4;refine Eb (λx y hxy=>?_) h4;rw[hxy.1,hxy.2,hme];refine ih (j::d) e he ?_ Z.o;rw[<- hme];funext x
          unfold Aa;rw[hm]
   have:=key al.length [] [] h0 rfl (by simp);rw[ha,hh] at this;exact this
theorem FU{P:Program}{F el:List Nat}{n:Nat}{code:Code}{c:CY}{Q Q':Aq}{a:AA}{h:A7}(hc:(match Am P code with|some c=>some (CY.plain c)|none=>none)=some c)(hd:CW P code=true)(hq:∀e a h,Q e a h->Q' e a h)(H:vcS std P F el n c Q a h):AWp P n code Q' a h:=by
 split at hc
 ·rename_i x hx
  simp only[Option.some.injEq] at hc;subst hc;exact CQ hx hd (C9 hq H)
 ·cases hc
theorem JV{P:Program}{F el:List Nat}{n:Nat}:∀ {code:Code} {c:CY} {Q Q':Aq} {a:AA} {h:A7},BV P F code=some c->Ea P F code=true->(∀e a h,Q e a h->Q' e a h)->vcS std P F el n c Q a h->AWp P n code Q' a h
 | .seq x y,c,Q,Q',a,h,hc,hd,hq,H=>by
   simp only[BV] at hc;split at hc
   ·rename_i p q hp hq2
    simp only[Option.some.injEq] at hc;subst hc;simp only[Ea,Bool.and_eq_true] at hd;refine AWp.seq (JV hp hd.1 (λe a h hr=>?_) H)
    cases e with
    | normal=>exact JV hq2 hd.2 hq hr
    | _=>exact hq _ _ _ hr
   ·cases hc
 | .region id ops true,c,Q,Q',a,h,hc,hd,hq,H=>by
   simp only[BV] at hc;simp only[Ea] at hd
   cases hm:Aa F id with
   | true =>
     simp only[hm] at hc hd;split at hc
     ·rename_i al hal
      simp only[Option.some.injEq] at hc;subst hc;exact AWp.any hd hal (AnyQ.sound (λa h hr=>hq _ _ _ hr) H)
     ·cases hc
   | false =>
     simp only[hm] at hc hd;exact FU (F:=F) hc hd hq H
 | .region id ops false,c,Q,Q',a,h,hc,hd,hq,H=>FU (F:=F) hc hd hq H
 | .skip,c,Q,Q',a,h,hc,hd,hq,H=>FU (F:=F) hc hd hq H
 | .ret,c,Q,Q',a,h,hc,hd,hq,H=>FU (F:=F) hc hd hq H
 | .exit id,c,Q,Q',a,h,hc,hd,hq,H=>FU (F:=F) hc hd hq H
 | .cond x p q,c,Q,Q',a,h,hc,hd,hq,H=>FU (F:=F) hc hd hq H
 | .block id x,c,Q,Q',a,h,hc,hd,hq,H=>by
   simp only[BV] at hc;split at hc
   ·rename_i y hy
    simp only[Option.some.injEq] at hc;subst hc;simp only[Ea] at hd;refine AWp.block (JV hy hd (λe a h hr=>?_) H)
    cases e with
    | exit i =>
      simp only[GD] at hr ⊢;split<;>rename_i hi
      ·rw[if_pos hi] at hr;exact hq _ _ _ hr
      ·rw[if_neg hi] at hr;exact hq _ _ _ hr
    | _=>exact hq _ _ _ hr
   ·cases hc
 | .loop x,c,Q,Q',a,h,hc,hd,hq,H=>by
   simp only[BV] at hc;split at hc
   ·rename_i y hy
    simp only[Option.some.injEq] at hc;subst hc;simp only[Ea] at hd;obtain⟨H⟩:=H;exact(H x hy hd).mono hq
   ·cases hc
 | .rangeFunc _ _ _ _,c,Q,Q',a,h,hc,hd,hq,H=>FU (F:=F) hc hd hq H
 | .scope _,c,Q,Q',a,h,hc,hd,hq,H=>FU (F:=F) hc hd hq H
 | .label _,c,Q,Q',a,h,hc,hd,hq,H=>FU (F:=F) hc hd hq H
 | .goto _,c,Q,Q',a,h,hc,hd,hq,H=>FU (F:=F) hc hd hq H
 | .refuse _,c,Q,Q',a,h,hc,hd,hq,H=>FU (F:=F) hc hd hq H
theorem KU.dataN{F:List Nat}{P:Program}{n:Nat}{w:A8}(hw:w=std){c:CY}{Q:Aq}{a:AA}{h:A7}{S:Type}(st:S->AA)(hp:S->A7)(inv:S->Prop)(m:S->Nat)(s0:S)(hwk:Wk n a h (st s0) (hp s0))(h0:inv s0)
 (round:∀s,inv s->∀Q':Aq,(∀s' a1 h1,Wk n a1 h1 (st s') (hp s')->inv s'->m s'<m s->Q' .normal a1 h1)->(∀k a1 h1,Q (.exit k) a1 h1->Q' (.exit k) a1 h1)->(∀a1 h1,Q .ret a1 h1->Q' .ret a1 h1)->vcS w P F (Ic [] c) n c Q' (st s) (hp s)):KU F P n c Q a h:=by
 subst hw;refine⟨λcode hc hd=>?_⟩;refine AWp.pre hwk (AWp.loop (λa h=>∃s,st s=a/\hp s=h/\inv s) (GX st hp inv m) ⟨s0,rfl,rfl,h0⟩ λa h hI=>?_);obtain⟨s,rfl,rfl,h1,h2⟩:=OI (m:=m) hI
 have:=JV (Q':=Dw (NA n (λa h=>∃s,st s=a/\hp s=h/\inv s) (GX st hp inv m) (GX st hp inv m (st s) (hp s))) Q) hc hd (λe a h hr=>hr) (round s h1 _ (λs' a1 h1 k1 k2 k3=>⟨_,_,k1,⟨s',rfl,rfl,k2⟩,by
  rw[<- h2];exact Nat.lt_of_le_of_lt (OJ k2) k3⟩) (λk a1 h1 hq=>hq) (λa1 h1 hq=>hq))
 refine AWp.post this λe a2 h2 hq=>?_
 cases e with
 | normal =>
   obtain⟨a3,h3,w3,i3,m3⟩:=hq;exact⟨a3,h3,w3,i3,m3⟩
 | _=>exact⟨a2,h2,Wk.refl _ _ _,hq⟩
theorem AJ.ofP {P : Program} {F : List Nat} {g : FuncId} {fn : Func} {code : Code} {sc : CY} {r : List DT} {args : List AV} {h : A7} {K : AV → A7 → Prop} (hf : P.funcs[g]? = some fn) (hname : (fn.name == "runtime.NumGoroutine") = false) (hb : fn.body = some code) (hr : Gy P fn.results.toList = some r)
 (hc:BV P F code=some sc) (hdr:Ea P F code=true) (H:∀w,w=std->vcS w P F (Ic [] sc) h.length sc (KS r K) (DU args fn.ntmps) h):AJ P g args h K:=by
 have HA:AWp P h.length code (KT r K) (DU args fn.ntmps) h:=JV hc hdr (λe a h hr=>Lp e a h hr) (H std rfl);refine⟨⟨fn,hf,by simp[hb],hname⟩,λC vs hC RC hv=>?_⟩;refine calls_of_wp hf hb ?_;refine wp_mono (HA C _ hC (JC RC hv fn.ntmps) (Nat.le_refl _)) λe act' w' ⟨a',D,h1,h2,h3,h4,h5⟩=>?_
 have fin:(∃l,Cm a' D.h r=some l/\K (Cb l) D.h)->act'.defers=[]/\∃v,(results fn act'.tmps).run P w' = .ok v w' /\
  ∃v' r D,Ending.returned v = .returned v'/\K r D.h/\D.w=w'/\Rel D/\VR D r v'/\Ext h.length C D/\h.length<=D.h.length:=by
  rintro⟨l,hl,hK⟩
  obtain⟨u,k1,k2⟩:=JB hr h3 hl;subst h2;exact⟨h3.nodef,u,k1,u,_,D,rfl,hK,rfl,h3.rel,k2,h4,h5⟩
 cases e with
 | normal=>exact fin h1
 | ret=>exact fin h1
 | exit id=>exact h1.elim
 | goto l=>exact h1.elim
 | panic c=>exact h1.elim
 | outgrown=>exact h1.elim
def UE(deps:List (List Nat)):Nat->List Nat->List Nat
 | 0,_=>[]
 | f+1,d=>match Ay d 0 deps with|[j]=>j::UE deps f (j::d)|_=>[]
theorem AnyQ.e{w:A8}{P:Program}{el:List Nat}{K:AA->A7->Prop}{al:List Ad}{deps:List (List Nat)}{a:AA}{h:A7}(E:List Nat)(hE:UE deps al.length []=E)(R:List Nat)(hR:Ma E al.length=R)(hb:(Gj deps [] E && ltB E deps al.length)=true)
 (H:CK w P el (λa h=>CJ w P el K al deps E R a h) (Kr al E) a h):AnyQ w P el K al deps a h:=by
 rw[Bool.and_eq_true] at hb;exact .each E R hb.1 hb.2 hR H
end Go.Eng
namespace Go.Proofs.YtlchlddijclhjaaGreat
open Go Go.RowKit Go.Eng
set_option maxRecDepth 100000
def ER(c:Cf):Prop:=ES c.c0 c.c1 c.c2 c.c3 c.c4 c.c5 c.c6 c.c7 c.c8 c.c9 c.c10 c.c11 c.c12 c.c13
structure F7(m:Ml):Prop where
 v1:m.has 1=true->0<=m.val 1/\m.val 1<=65535
 v2:m.has 2=true->0<=m.val 2/\m.val 2<=65535
 v3:m.has 3=true -> -2147483648<=m.val 3/\m.val 3<=2147483648
 v4:m.has 4=true -> -2147483648<=m.val 4/\m.val 4<=2147483648
structure Ou(n:Nv):Prop where
 cf:ER n.c
 k0: -1099511627776<=n.k0.su/\n.k0.su<=1099511627776
 k1: -1099511627776<=n.k1.su/\n.k1.su<=1099511627776
 c0:0<n.a0/\n.a0<=n.b0/\n.b0<=8388608
 c1:0<n.a1/\n.a1<=n.b1/\n.b1<=8388608
 sp: -n.c.c6<=n.lo/\n.lo<=n.hi/\n.hi<=n.c.c6
def Ce(ss:List Sg)(mm:List (List Int))(n:Nv)(m:Ml):Nv×Fu:=
 let a:=Gl n m
 let b:=Gm a.1 m
 let r:=I6 b.1 m
 let c:=LM ss mm b.1 m
 (b.1,Ff (max (n.lo-n.c.c7) (-n.c.c6)) (min (n.hi+n.c.c7) n.c.c6) a.2.1 b.2.1 r.1 c.1 a.2.2.1 a.2.2.2 b.2.2.1 b.2.2.2 r.2.1 r.2.2 c.2.1 c.2.2)
theorem UF{d lo hi p:Int}(d0: -32768<=d)(d1:d<=32767)(h0:0<lo)(h1:lo<=hi)(h2:hi<=8388608)(hp:1<=p):I62 (I7 d lo hi p)/\I62 (I8 d lo hi p):=by
 have key:∀k z:Int,-40000<=k->k<=40000->0<z->z<=8388608 -> -335544320000<=k*z/\k*z<=335544320000:=λk z k0 k1 z0 z1=>by
  have a1:=Int.mul_le_mul_of_nonneg_right k1 (show 0<=z by omega);have a2:=Int.mul_le_mul_of_nonneg_right k0 (show 0<=z by omega);omega
 have kd:∀v:Int,-335544320000<=v->v<=335544320000 -> -335544320000<=v/p/\v/p<=335544320000:=λv v0 v1=>by
  constructor
  ·exact Int.le_ediv_of_mul_le Z.o (by have:=Int.mul_le_mul_of_nonpos_left (show (-335544320000:Int)<=0 by decide) hp;omega)
  ·refine Int.ediv_le_of_le_mul Z.o ?_
   have:=Int.mul_le_mul_of_nonneg_left hp (show (0:Int)<=335544320000 by decide);omega
 unfold I7 I8 flD clD I62;refine⟨?_,?_⟩
 ·have h:=key (d-1) (if d<1 then hi else lo) Z.o Z.o (by split<;>omega) (by split<;>omega)
  have:=kd _ h.1 h.2;omega
 ·have h:=key (d+1) (if d < -1 then lo else hi) Z.o Z.o (by split<;>omega) (by split<;>omega)
  have:=kd (-((d+1)*(if d < -1 then lo else hi))) Z.o Z.o;omega
theorem UG{k:Ct}{v:Int}{has:Bool}(h:(pnV k v has).2.2=true): -32768<=(pnV k v has).2.1/\(pnV k v has).2.1<=32767:=by
 unfold pnV at h ⊢;split
 ·rename_i h1;rw[if_pos h1] at h;cases h
 ·rename_i h1
  rw[if_neg h1] at h;split
  ·rename_i h2;rw[if_pos h2] at h;cases h
  ·unfold Gd;simp only;omega
theorem fP{n:Nv}{m:Ml}(hn:Ou n)(h:(Gl n m).2.1=true):I62 (Gl n m).2.2.1/\I62 (Gl n m).2.2.2:=by
 have hc:=hn.cf;unfold ER ES at hc;unfold Gl at h ⊢;simp only at h ⊢;have hd:=UG h;rw[h,if_pos rfl,if_pos rfl];exact UF hd.1 hd.2 hn.c0.1 hn.c0.2.1 hn.c0.2.2 Z.o
theorem fQ{n:Nv}{m:Ml}(hcf:ER n.c)(h1:0<n.a1/\n.a1<=n.b1/\n.b1<=8388608)(h:(Gm n m).2.1=true):I62 (Gm n m).2.2.1/\I62 (Gm n m).2.2.2:=by
 have hc:=hcf;unfold ER ES at hc;unfold Gm at h ⊢;simp only at h ⊢;have hd:=UG h;rw[h,if_pos rfl,if_pos rfl];exact UF hd.1 hd.2 h1.1 h1.2.1 h1.2.2 Z.o
theorem F6{a:Int}(h:I62 a):I64 a:=by unfold I62 at h;unfold I64;omega
theorem fT{n:Nv}{m:Ml}(hc:ER n.c)(hm:F7 m)(h:(I6 n m).1=true):I62 (I6 n m).2.1/\I62 (I6 n m).2.2:=by
 unfold I6 at h ⊢;split at h
 ·rename_i hh
  rw[if_pos hh];have hv:=hm.v3 hh;unfold ER ES at hc;have:=PP (c3:=n.c.c3) (c4:=n.c.c4) (r:=m.val 3) Z.o Z.o hv;unfold I62;simp only;omega
 ·cases h
def snD1:List (List Nat):=[[],[6],[6,0,1],[0],[6],[6,3,4,2],[3],[6],[6,6,7,5],[6,2,5,8],[6],[6,10,9,8,0,1,2,3,4,5,6,7,8,9,10]]
theorem Vl(ss:List Sg)(gs:List Gr)(mm:List (List Int))(n:Nv)(hu:NvU n)(zQ:n.es=ss.map Ah)(zY:n.ds=gs.map Ak)(hln:CS ss)(hpc:∀s,s∈ss->Ev s.ps)(hon:n.on=true->JM ss mm n)
 (hn:Ou n) (m:Ml) (hm:F7 m) (hbe:(CX ss mm n).1<=(CX ss mm n).2 /\ -1048576<=(CX ss mm n).1/\(CX ss mm n).2<=1048576) (v:Nv) (f:Fu) (e:(v,f)=Ce ss mm n m) :
 AJ Tryz.prog 46 [.ref 0 55 0 0,.agg m.row] [.live 55 [n.row]] (λr hp=>r = .agg [f.lo,f.hi,f.n,f.cl,f.cf,f.s0,f.s1]/\∃j,hp = .live 55 [v.row]::j):=by
 have hc:=hn.cf;unfold ER ES at hc;obtain⟨⟨n1,f0,l0,h0⟩,e0⟩:=Z.e (Gl n m);obtain⟨⟨n2,f1,l1,h1⟩,e1⟩:=Z.e (Gm n1 m);obtain⟨⟨f2,l2,h2⟩,e2⟩:=Z.e (I6 n2 m);obtain⟨⟨f3,l3,h3⟩,e3⟩:=Z.e (LM ss mm n2 m);have q0:=fU n hu m ⟨by omega,by omega⟩ hn.c0 hn.k0 hm.v1 n1 f0 l0 h0 e0;have en1:n1={ n with k0:=n1.k0 }:=by rw[show n1=(Gl n m).1 from congrArg Prod.fst e0];rfl
 have hu1:NvU n1:=by rw[en1];exact⟨hu.es,hu.ds,hu.os,hu.rs⟩
 have hs1:n1.c=n.c/\n1.a1=n.a1/\n1.b1=n.b1/\n1.k1=n.k1:=by rw[en1];exact⟨rfl,rfl,rfl,rfl⟩
 have q1:=fV n1 hu1 m (by rw[hs1.1];exact⟨by omega,by omega⟩) (by rw[hs1.2.1,hs1.2.2.1];exact hn.c1) (by rw[hs1.2.2.2];exact hn.k1) hm.v2 n2 f1 l1 h1 e1;have en2:n2={ n with k0:=n1.k0,k1:=n2.k1 }:=by rw[show n2=(Gm n1 m).1 from congrArg Prod.fst e1,en1];rfl
 have hu2:NvU n2:=by rw[en2];exact⟨hu.es,hu.ds,hu.os,hu.rs⟩
 have hc2:n2.c=n.c:=by rw[en2]
 have q2:=fZ n2 m (by rw[hc2];exact⟨by omega,by omega⟩) (by rw[hc2];exact⟨by omega,by omega⟩) hm.v3 f2 l2 h2 e2;have hb2:CX ss mm n2=CX ss mm n:=by rw[en2];rfl
 have hsp2:n2.lo=n.lo/\n2.hi=n.hi/\n2.es=n.es/\n2.ds=n.ds/\n2.on=n.on:=by rw[en2];exact⟨rfl,rfl,rfl,rfl,rfl⟩
 have hsp:=hn.sp
 have q3:=WU ss gs mm n2 hu2 (by rw[hsp2.2.2.1];exact zQ) (by rw[hsp2.2.2.2.1];exact zY) hln hpc (λho=>by rw[hsp2.2.2.2.2] at ho;have:=hon ho;rw[en2];exact⟨this.fr,this.way,this.few,this.rs⟩) m (by rw[hc2];exact⟨by omega,by omega⟩) hm.v4 (by rw[hb2];exact hbe)
  (by rw[hsp2.1,hsp2.2.1];exact⟨hsp.2.1,⟨by omega,by omega⟩,⟨by omega,by omega⟩⟩) f3 l3 h3 e3
 obtain⟨pb,epl⟩:=Z.e (max (n.lo-n.c.c7) (-n.c.c6));obtain⟨pt,epr⟩:=Z.e (min (n.hi+n.c.c7) n.c.c6);have q4:=fu n.c.c0 n.c.c1 n.c.c2 n.c.c3 n.c.c4 n.c.c5 n.c.c6 n.c.c7 n.c.c8 n.c.c9 n.c.c10 n.c.c11 n.c.c12 n.c.c13 n.lo n.hi pb pt ⟨by omega,by omega⟩ ⟨by omega,by omega⟩ hsp.2.1 hsp.1 hsp.2.2 epl epr
 have i0:f0=true->I64 l0/\I64 h0:=λhf=>by
  have:=fP (m:=m) hn;rw[<- e0] at this;exact⟨F6 (this hf).1,F6 (this hf).2⟩
 have i1:f1=true->I64 l1/\I64 h1:=λhf=>by
  have:=fQ (n:=n1) (m:=m) (by rw[hs1.1];exact hn.cf) (by rw[hs1.2.1,hs1.2.2.1];exact hn.c1);rw[<- e1] at this;exact⟨F6 (this hf).1,F6 (this hf).2⟩
 have i2:f2=true->I64 l2/\I64 h2:=λhf=>by
  have:=fT (n:=n2) (by rw[hc2];exact hn.cf) hm;rw[<- e2] at this;exact⟨F6 (this hf).1,F6 (this hf).2⟩
 unfold Ce at e;simp only at e;rw[<- e0] at e;simp only at e;rw[<- e1] at e;simp only at e;rw[<- e2,<- e3,<- epl,<- epr] at e;simp only[Prod.mk.injEq] at e;obtain⟨ev,ef⟩:=e;have q5:=Wn pb pt f0 f1 f2 f3 l0 h0 l1 h1 l2 h2 l3 h3 (Wq i0 i1 i2) f ef;have u0:=hu.row;have u1:=hu1.row;have u2:=hu2.row;have ek1:n1.k0=n1.k0:=rfl;obtain⟨k0',ek0⟩:=Z.e n1.k0;obtain⟨k1',ek1⟩:=Z.e n2.k1;rw[<- ek0,<- ek1] at en2;rw[<- ek0] at en1;subst ev;clear e0 e1 e2 e3 ef i0 i1 i2 hb2 hsp2 hsp epl epr hc2 hs1 ek0 ek1 hon hm hbe hc hn hpc hln zQ zY;subst en1;subst en2;obtain⟨⟨c0,c1,c2,c3,c4,c5,c6,c7,c8,c9,c10,c11,c12,c13⟩,es,ds,cy,g0,g1,os,⟨kn0,la0,su0⟩,⟨kn1,la1,su1⟩,a0,b0,a1,b1,lo,hi,di,on,gr,⟨pl,ph,pe,fr,rs⟩,cl,o0,o1,s0,s1,sc,so,ra,ro,m0,m1,⟨wi,wt,wf⟩⟩:=n;obtain⟨kn0',la0',su0'⟩:=k0';obtain⟨kn1',la1',su1'⟩:=k1';obtain⟨flo,fhi,fn,fcl,fcf,fs0,fs1⟩:=f;obtain⟨p1,p2,p3,p4,p5,x1,x2,x3,x4,x5,bad,stale,twice,beyond⟩:=m;(refine AJ.ofP (F:=[1]) (sc:=?scc) (r:=?rr) Tryz.func46 (by kernel_rfl) rfl ?hr ?hc (by kernel_rfl) λw hw=>?H);(case hr=>((conv=>lhs;cbv);(try exact rfl)));(case hc=>((repeat' (first|refine' IQ ?_ ?_|refine' IR ?_|refine' IU ?_|refine' Cg (id:=1) snD1 rfl (by kernel_rfl) ?_|fail));(try any_goals (conv=>lhs;cbv));(try any_goals exact rfl)));(obtain⟨zB,zE,yN,zD,zF,zX,yO,zP,zS,zR,yA,yB,zK,zU,zM,zN,zO,yG,zT,yH⟩:=w);(have zC:=Z.w1 hw);(have zA:=Z.w2 hw);(have yJ:=Z.w3 hw);(have zG:=Z.w4 hw);(have zI:=Z.w5 hw);(have yM:=Z.w6 hw);(have yS:=Z.w7 hw);(have zZ:=Z.w8 hw);(have yF:=Z.w9 hw);(have yE:=Z.w10 hw);(have yT:=Z.w11 hw);(have yU:=Z.w12 hw);(have zH:=Z.w13 hw);(have yR:=Z.w14 hw);(have zV:=Z.w15 hw);(have yI:=Z.w16 hw);(have yL:=Z.w17 hw);(have yX:=Z.w18 hw);(have yQ:=Z.w19 hw);(have yY:=Z.w20 hw);(have hz:=Z.z hw);(conv=>arg 4;cbv);(generalize hP:Tryz.prog=P);cbv
 refine AnyQ.sets [.ref 0 55 0 0,.agg [.bool false,p1,p2,p3,p4,p5,(0:Int),x1,x2,x3,x4,x5,bad,stale,twice,beyond],.agg [f0,l0,h0],.ref 0 55 0 0,.agg [.bool false,p1,p2,p3,p4,p5,(0:Int),x1,x2,x3,x4,x5,bad,stale,twice,beyond],.agg [f1,l1,h1],.ref 0 55 0 0,.agg [.bool false,p1,p2,p3,p4,p5,(0:Int),x1,x2,x3,x4,x5,bad,stale,twice,beyond],.agg [f2,l2,h2],.agg [f0,l0,h0,f1,l1,h1,f2,l2,h2],.ref 3 9 0 0,.any]
  (λm=>[.live 55 [match m 5 with|true=>[.int .i64 c0,.int .i64 c1,.int .i64 c2,.int .i64 c3,.int .i64 c4,.int .i64 c5,.int .i64 c6,.int .i64 c7,.int .i64 c8,.int .i64 c9,.int .i64 c10,.int .i64 c11,.int .i64 c12,.int .i64 c13,.list 3 es,.list 5 ds,.bool false,.int .i64 cy,.int .i64 g0,.int .i64 g1,.list 1 os,.bool kn0',.int .u16 la0',.int .i64 su0',.bool kn1',.int .u16 la1',.int .i64 su1',.int .i64 a0,.int .i64 b0,.int .i64 a1,.int .i64 b1,.int .i64 lo,.int .i64 hi,.int .i64 di,.bool on,.int .i64 gr,.int .i64 pl,.int .i64 ph,.int .i64 pe,.int .i64 fr,.list 13 rs,.bool cl,.int .i64 o0,.int .i64 o1,.int .i64 s0,.int .i64 s1,.int .i64 sc,.bool so,.bool ra,.bool ro,.int .i64 m0,.int .i64 m1,.int .i64 wi,.int .i64 wt,.bool wf]|false=>(match m 2 with|true=>[.int .i64 c0,.int .i64 c1,.int .i64 c2,.int .i64 c3,.int .i64 c4,.int .i64 c5,.int .i64 c6,.int .i64 c7,.int .i64 c8,.int .i64 c9,.int .i64 c10,.int .i64 c11,.int .i64 c12,.int .i64 c13,.list 3 es,.list 5 ds,.bool false,.int .i64 cy,.int .i64 g0,.int .i64 g1,.list 1 os,.bool kn0',.int .u16 la0',.int .i64 su0',.bool kn1,.int .u16 la1,.int .i64 su1,.int .i64 a0,.int .i64 b0,.int .i64 a1,.int .i64 b1,.int .i64 lo,.int .i64 hi,.int .i64 di,.bool on,.int .i64 gr,.int .i64 pl,.int .i64 ph,.int .i64 pe,.int .i64 fr,.list 13 rs,.bool cl,.int .i64 o0,.int .i64 o1,.int .i64 s0,.int .i64 s1,.int .i64 sc,.bool so,.bool ra,.bool ro,.int .i64 m0,.int .i64 m1,.int .i64 wi,.int .i64 wt,.bool wf]|false=>[.int .i64 c0,.int .i64 c1,.int .i64 c2,.int .i64 c3,.int .i64 c4,.int .i64 c5,.int .i64 c6,.int .i64 c7,.int .i64 c8,.int .i64 c9,.int .i64 c10,.int .i64 c11,.int .i64 c12,.int .i64 c13,.list 3 es,.list 5 ds,.bool false,.int .i64 cy,.int .i64 g0,.int .i64 g1,.list 1 os,.bool kn0,.int .u16 la0,.int .i64 su0,.bool kn1,.int .u16 la1,.int .i64 su1,.int .i64 a0,.int .i64 b0,.int .i64 a1,.int .i64 b1,.int .i64 lo,.int .i64 hi,.int .i64 di,.bool on,.int .i64 gr,.int .i64 pl,.int .i64 ph,.int .i64 pe,.int .i64 fr,.list 13 rs,.bool cl,.int .i64 o0,.int .i64 o1,.int .i64 s0,.int .i64 s1,.int .i64 sc,.bool so,.bool ra,.bool ro,.int .i64 m0,.int .i64 m1,.int .i64 wi,.int .i64 wt,.bool wf])],.live 16 [[.bool false,p1,p2,p3,p4,p5,(0:Int),x1,x2,x3,x4,x5,bad,stale,twice,beyond]],.live 7 [[(0:Int),(0:Int),(0:Int),.bool false,.bool false,(0:Int),(0:Int)]]]++(match m 10 with|true=>[.live 9 [match m 11 with|true=>[f0,l0,h0,f1,l1,h1,f2,l2,h2]|false=>[.bool false,(0:Int),(0:Int),.bool false,(0:Int),(0:Int),.bool false,(0:Int),(0:Int)]]]|false=>[]))
  rfl (by cbv) ?h1 ?h2
 case h1 =>
  cbv
  repeat' first
   | exact⟨rfl,rfl⟩
   | exact rfl
   | exact trivial
   | (refine And.intro ?_ ?_)
   | (refine Call.o hP q0 u0 u1 rfl rfl rfl rfl ?_;cbv)
   | (refine Call.o hP q1 u1 u2 rfl rfl rfl rfl ?_;cbv)
   | (refine Call.o hP q2 u2 u2 rfl rfl rfl rfl ?_;cbv)
   | fail
 cbv;simp only at q4 q5;repeat' (first|(refine Call.s hP q4 ?_;cbv)|(refine AB.s hP q4 ?_;cbv)|(refine Call.s hP q5 ?_;cbv)|(refine AB.s hP q5 ?_;cbv)|(refine AB.o hP q3 u2 rfl rfl rfl rfl ?_;cbv)|exact trivial|(refine And.intro ?_ ?_)|fail)
 all_goals exact⟨_,rfl⟩
theorem UH{a b:Int}(h:b=CF a)(ha:I62 a):A9 Tryz.prog 95 [a] (· = .tuple [b,.bool true]):=by
 have h0:I62 0:=by unfold I62;omega
 unfold CF at h;by_cases hn:a<0
 ·rw[if_pos hn] at h
  have q1:=Je (a:=0) (b:=a) (d:=b) Z.o h0 ha
  have q2:A9 Tryz.prog 151 [a] (· = .tuple [b,.bool true]):=by
   clear h ha hn h0;refine Z.y Tryz.func151 λ_ _ _ _ _ _ _ _ _ _ _ _ _ hz R hR P hP=>?_;cbv;repeat' (first|(refine Call.s hP q1 ?_;cbv)|(refine AB.s hP q1 ?_;cbv)|fail)
   exact Z.r hR
  clear q1 h ha h0;refine Z.y Tryz.func95 λ_ _ _ _ _ _ _ _ zA _ _ _ _ hz R hR P hP=>?_;cbv;have d1:=W.lt zA hn;repeat' (first|(simp only[d1];cbv)|(refine Call.s hP q2 ?_;cbv)|(refine AB.s hP q2 ?_;cbv)|fail)
  exact Z.r hR
 ·rw[if_neg hn] at h
  subst h;clear ha h0;refine Z.y Tryz.func95 λ_ _ _ _ _ _ _ _ zA _ _ _ _ _ R hR P hP=>?_;cbv;have d1:=W.nlt zA (show 0<=b by omega);repeat' (first|(simp only[d1];cbv)|fail)
  exact Z.r hR
theorem Vo(n:Nv)(hu:NvU n)(hon:n.on=false)(a b:Int)(ha:I62 a)(hb:I62 b)(hd:0<=n.di/\n.di<=2305843009213693952)(hab: -2305843009213693952<=(a+b)/2/\(a+b)/2<=2305843009213693952)(v:Nv)(hv:v={ n with lo:=a,hi:=b,di:=n.di+CF ((a+b)/2) }) :
 AJ Tryz.prog 47 [.ref 0 55 0 0,.agg [a,b]] [.live 55 [n.row]] (λr hp=>r = .bool false/\∃j,hp = .live 55 [v.row]::j):=by
 obtain⟨md,emd⟩:∃x,(a+b)/2=x:=⟨_,rfl⟩;obtain⟨sz,esz⟩:=Z.e (CF md);obtain⟨di',edi⟩:=Z.f (n.di+sz);rw[emd,<- esz,edi] at hv;rw[emd] at hab;have hsz:0<=sz/\sz<=2305843009213693952:=by rw[esz];unfold CF;split<;>omega
 have q1:=Jd emd (F6 ha) (F6 hb);have q2:=UH esz ⟨by omega,by omega⟩;have q3:=Iy edi ⟨by omega,by omega⟩ ⟨by omega,by omega⟩;subst hv;have h1:=hu;clear esz edi hsz emd hd;obtain⟨⟨c0,c1,c2,c3,c4,c5,c6,c7,c8,c9,c10,c11,c12,c13⟩,es,ds,cy,g0,g1,os,⟨kn0,la0,su0⟩,⟨kn1,la1,su1⟩,a0,b0,a1,b1,lo,hi,di,on,gr,⟨pl,ph,pe,fr,rs⟩,cl,o0,o1,s0,s1,sc,so,ra,ro,m0,m1,⟨wi,wt,wf⟩⟩:=n;simp only at hon q3;subst hon;obtain⟨hue,hud,huo,hur⟩:=h1;simp only at hue hud huo hur;refine Z.x Tryz.func47 λ_ _ _ _ zF _ _ _ _ _ _ zI _ _ P hP=>?_;cbv;have n1:zF false=true:=by rw[zI];rfl
 have n2:zF true=false:=by rw[zI];rfl
 repeat' (first|(simp only[n1,n2];cbv)|(refine Call.s hP q1 ?_;cbv)|(refine AB.s hP q1 ?_;cbv)|(refine Call.s hP q2 ?_;cbv)|(refine AB.s hP q2 ?_;cbv)|(refine Call.s hP q3 ?_;cbv)|(refine AB.s hP q3 ?_;cbv)|fail)
 all_goals first|exact⟨_,rfl⟩|(skip;skip;fail   )
theorem fw(a b v:Int)(hv:v=a):A9 Tryz.prog 161 [a,b] (· = .agg [b,.list 13 [[(1:Int),v,(0:Int),(0:Int),(0:Int),(0:Int),(0:Int),(0:Int),(0:Int),(0:Int),(0:Int),(0:Int),(0:Int)]]]):=by
 subst hv;refine Z.y Tryz.func161 λ_ _ _ _ _ _ _ _ _ _ _ _ _ _ R hR P hP=>?_;cbv;refine InN.mk Z.d Z.d ?_;exact Z.r hR
theorem f_(es ds:List (List AV))(hu:Up0 es)(hud:Up0 ds)(g:Int)(hg:0<=g)(G:Gr)(hG:ds[g.toNat]?=some (Ak G))(c0 c1 c2 c3 c4 c5 c6 c7 c8 c9 c10 c11 c12 c13:Int)(hc:0<=c8/\c8<=1048576)(hacc:0<=G.acc/\G.acc<=1048576)(a b lo hi est:Int)(ha:I62 a)(hb: -4611686018427387904<=b/\b<=4611686018423193599)(hlo: -(G.acc+c8)+min 0 a=lo)(hhi:G.acc+c8+max 0 b=hi)(hest:(lo+hi)/2=est)(r0:List (List AV))(er0:r0=[rtC [G.seg]]) :
 A9 Tryz.prog 101 [.agg [c0,c1,c2,c3,c4,c5,c6,c7,c8,c9,c10,c11,c12,c13],.agg [.list 3 es,.list 5 ds],g,.agg [a,b]] (· = .agg [.bool true,g,lo,hi,est,G.off,.list 13 r0]):=by
 obtain⟨gid,gseg,goff,gacc,gsl⟩:=G;have hbeg:=fw gseg goff gseg rfl;have hbeg:A9 Tryz.prog 161 [gseg,goff] (· = .agg [goff,.list 13 r0]):=by rw[er0];exact hbeg
 have hG:ds[g.toNat]?=some [.int .i64 gid,.int .i64 gseg,.int .i64 goff,.int .i64 gacc,.int .i64 gsl]:=hG;have er0':=er0;clear er0;unfold I62 at ha;simp only at hacc hlo hhi;have hmid:=Jd hest ⟨by omega,by omega⟩ ⟨by omega,by omega⟩;(refine A9.ofY Tryz.func101 (by kernel_rfl) (by kernel_rfl) (Z.w λzB _ yN _ _ _ yO _ _ _ _ _ _ _ _ _ _ _ _ _ _ zC _ yJ _ _ _ yS _ _ _ _ _ _ _ _ _ _ _ _ _ _ R hR=>?_));(conv=>arg 2;cbv);(generalize hP:Tryz.prog=P);cbv;refine Idx.mk _ hg hG ?_;cbv;obtain⟨fa,efa⟩:=Z.f (gacc+c8);obtain⟨nf,enf⟩:∃z,-fa=z:=⟨_,rfl⟩;obtain⟨x,ex⟩:=Z.f (min 0 a);obtain⟨y,ey⟩:=Z.f (max 0 b);have b1:zB .add .i64 gacc c8=fa:=by rw[zC,Ag Z.o Z.o];exact efa
 have b2:yN .neg .i64 fa=nf:=by rw[yJ,Ha Z.o Z.o];exact enf
 have b3:yO false 0 a=x:=by rw[yS,G5,ex]
 have b4:yO true 0 b=y:=by rw[yS,I1,ey]
 have b5:zB .add .i64 nf x=lo:=by rw[zC,Ag Z.o Z.o];omega
 have b6:zB .add .i64 fa y=hi:=by rw[zC,Ag Z.o Z.o];omega
 simp only[b1,b2,b3,b4,b5,b6]
 repeat' (first
  | (refine AB.stepE (by rw[<- hP];exact hmid) rfl ?_;cbv)
  | (refine Call.stepE (by rw[<- hP];exact hmid) rfl ?_;cbv)
  | (refine AB.stepE (by rw[<- hP];exact hbeg) rfl ?_;cbv)
  | (refine Call.stepE (by rw[<- hP];exact hbeg) rfl ?_;cbv)
  | (refine And.intro ?_ ?_))
 all_goals
  have hur0:Up0 r0:=(by rw[er0'];exact⟨rfl⟩);exact⟨_,Vw.same (by simp only[Cb,AV.upto,Af,hur0.get];rfl),hR _ rfl⟩
theorem FV{G:Prop} (h:G:=by
 have hu:Up0 es:=by rw[zQ];exact Bu ss
 have hud:Up0 ds:=by rw[zY];exact Bv gs
 intro en e m hok he hen hl K hK;have hlast:=hl (XL y0 y1 y2 y3 y4 y5 y6 y7 y8 y9 y10 y11) (by simp[XS,XL]);obtain⟨sg0,hd0,xA⟩:=BI (f:=Ah) (ds:=ss) (i:=(XL y0 y1 y2 y3 y4 y5 y6 y7 y8 y9 y10 y11)) hlast.1 hlast.2;have hnxe:nxAt ss (XL y0 y1 y2 y3 y4 y5 y6 y7 y8 y9 y10 y11)=sg0.nx:=by unfold nxAt;rw[hd0]
 have hnx0:∀n,n∈sg0.nx->0<=n/\n.toNat<ss.length:=λn hn=>O_ yK (by rw[hnxe];exact hn);have hnx2:sg0.nx.length<=2:=by have:=TJ yK (XL y0 y1 y2 y3 y4 y5 y6 y7 y8 y9 y10 y11);rw[hnxe] at this;exact this
 have hF:Be ss lo hi dp (XS y0 y1 y2 y3 y4 y5 y6 y7 y8 y9 y10 y11) en (e,m)=(if e≠0 then (e,m) else if hi<=en\/sg0.nx=[] then (if 16<(if lo<=en then Ba m (XS y0 y1 y2 y3 y4 y5 y6 y7 y8 y9 y10 y11) else m).length then 13 else 0,if lo<=en then Ba m (XS y0 y1 y2 y3 y4 y5 y6 y7 y8 y9 y10 y11) else m) else sg0.nx.foldl (λs n=>Be ss lo hi dq (XN y0 y1 y2 y3 y4 y5 y6 y7 y8 y9 y10 y11 n) (en+BD ss n) s) (e,m)):=by
  rw[<- hnxe];rfl
 rw[hF] at hK;obtain⟨len,pcs,nx⟩:=sg0;obtain⟨q0,eq0⟩:=Z.f (pcs.map Ap);obtain⟨ns,ens⟩:=Z.f (nx.map Ac);have huns:Up0 ns:=by rw[<- ens];exact CG nx
 have hnl:ns.length=nx.length:=by rw[<- ens];simp
 have xA:es[(XL y0 y1 y2 y3 y4 y5 y6 y7 y8 y9 y10 y11).toNat]?=some [.int .i64 len,.list 2 q0,.list 1 ns]:=by rw[zQ,<- eq0,<- ens];exact xA
 have hput:=Oz m (XS y0 y1 y2 y3 y4 y5 y6 y7 y8 y9 y10 y11) (by simp only[XS,XN,List.length_cons,List.length_nil];omega) (λj hj=>(hok.all j hj).1);obtain⟨em,eem⟩:=Z.f (ents m);obtain⟨em2,eem2⟩:=Z.f (ents (Ba m (XS y0 y1 y2 y3 y4 y5 y6 y7 y8 y9 y10 y11)));have hum:Up0 em:=by rw[<- eem];exact Jm m
 have htwo:∀e,e∈em->e.length=2:=by rw[<- eem];exact Kj m
 have htwo2:∀e,e∈em2->e.length=2:=by rw[<- eem2];exact Kj _
 have heml:em.length=m.length:=by rw[<- eem];exact Jo m
 have heml2:em2.length=(Ba m (XS y0 y1 y2 y3 y4 y5 y6 y7 y8 y9 y10 y11)).length:=by rw[<- eem2];exact Jo _
 rw[eem,eem2] at hput;rw[eem];have hnxs:∀n,n∈nx->0<=n/\n.toNat<ss.length:=hnx0;have hnx2:nx.length<=2:=hnx2;show AJ Tryz.prog 209 [.ref 0 6 0 0,.agg (RA y0 y1 y2 y3 y4 y5 y6 y7 y8 y9 y10 y11),en] [.live 6 [DD es ds lo hi 1 e],.live 0 em] K;refine Z.x Tryz.func209 λzB zE _ _ _ zK hw zC zA _ _ _ zH hz P hP=>?_;cbv;have s1:zB .sub .i64 nA 1=nP:=by rw[zC];rfl
 simp only[s1];refine InN.mk Z.d Z.d ?_;cbv
 repeat' (first
  | (refine Ik.mk _ rfl ?_;cbv)
  | (refine Idx.mk _ hlast.1 xA ?_;cbv))
 have hKz:e=0->(hi<=en\/nx=[])->∀j,K (.tuple []) (.live 6 [DD es ds lo hi 1 (if 16<(if lo<=en then Ba m (XS y0 y1 y2 y3 y4 y5 y6 y7 y8 y9 y10 y11) else m).length then 13 else 0)] :: .live 0 (ents (if lo<=en then Ba m (XS y0 y1 y2 y3 y4 y5 y6 y7 y8 y9 y10 y11) else m))::j):=λh0 hc j=>by
  have:=hK j;rw[if_neg (by simp[h0]),if_pos hc] at this;exact this
 rcases he with rfl|rfl
 rotate_left 1
 ·have c0:zE .neq 13 0=true:=by rw[zA];rfl
  simp only[c0];cbv;have:=hK [.live 13 [(RA y0 y1 y2 y3 y4 y5 y6 y7 y8 y9 y10 y11)]];rw[if_pos Z.d,eem] at this;exact this
 have c0:zE .neq 0 0=false:=by rw[zA];rfl
 simp only[c0];cbv
 (obtain⟨L,eL,L0,Ln⟩:∃L:Int,zK ns=L/\0<=L/\L.toNat=ns.length:=⟨(ns.length:Int),by rw[zH],Int.natCast_nonneg _,Int.toNat_natCast _⟩)
 have hKz:=hKz rfl;have n0:nx=[]↔L=0:=by rw[<- List.length_eq_zero_iff,<- hnl,<- Ln];omega
 have blockA:(hi<=en\/nx=[])->(lo<=en->∀j,K (.tuple []) (.live 6 [DD es ds lo hi 1 (if (16:Int)<em2.length then 13 else 0)] :: .live 0 em2::j))/\(en<lo->∀j,K (.tuple []) (.live 6 [DD es ds lo hi 1 0] :: .live 0 em::j)):=λhA=>by
  refine⟨λhlo j=>?_,λhlo j=>?_⟩
  ·have:=hKz hA j
   rw[if_pos hlo,eem2] at this;by_cases hq:16<(Ba m (XS y0 y1 y2 y3 y4 y5 y6 y7 y8 y9 y10 y11)).length
   ·rw[if_pos hq] at this
    rw[if_pos (by have h5:=heml2;(try simp only[XS] at h5);(try simp only[XS] at hq);omega)];exact this
   ·rw[if_neg hq] at this
    rw[if_neg (by have h5:=heml2;(try simp only[XS] at h5);(try simp only[XS] at hq);omega)];exact this
  ·have:=hKz hA j
   rw[if_neg (show ¬lo<=en by omega),eem,if_neg (show ¬16<m.length by have:=hok.few rfl;simp only at this;omega)] at this;exact this
 obtain⟨n1,en1⟩:∃n:Int,n=em.length:=⟨_,rfl⟩;obtain⟨n2,en2⟩:∃n:Int,n=em2.length:=⟨_,rfl⟩;have h16:n1<=16:=by have:=hok.few rfl;simp only at this;omega
 simp only[<- en2] at blockA;have lm1:∀ {K':AV->A7->Prop} {hp:A7} {c:Go.Call} {ty t kt et:TypeId} {x:Operand},hp[1]?=some (.live 0 em)->c.callee = .builtin .len->c.args = #[x]->c.argTypes = #[t]->P.underlying t=some (.map kt et)->K' (.int .i64 n1) hp->Xo P (.call c) ty [.mapr 1] hp K':=λh1 h2 h3 h4 h5 h6=>Xo.lenm h2 h3 h4 h5 h1 htwo n1 en1 h6;have lm2:∀ {K':AV->A7->Prop} {hp:A7} {c:Go.Call} {ty t kt et:TypeId} {x:Operand},hp[1]?=some (.live 0 em2)->c.callee = .builtin .len->c.args = #[x]->c.argTypes = #[t]->P.underlying t=some (.map kt et)->K' (.int .i64 n2) hp->Xo P (.call c) ty [.mapr 1] hp K':=λh1 h2 h3 h4 h5 h6=>Xo.lenm h2 h3 h4 h5 h1 htwo2 n2 en2 h6;(split<;>rename_i h1<;>(try (simp only[hz,Z.a,AF,AC,AO,AP,AL,reduceCtorEq] at h1))<;>(try cbv))
 ·obtain⟨hy,hno⟩:=blockA (.inl h1)
  clear blockA hKz;(split<;>rename_i h3<;>(try (simp only[hz,Z.a,AF,AC,AO,AP,AL,reduceCtorEq] at h3))<;>(try cbv))
  ·refine Put.mk em2 rfl hput ?_
   cbv;refine lm2 (kt:=239) (et:=3) rfl rfl rfl rfl (by rw[<- hP];kernel_rfl) ?_;cbv;(split<;>rename_i h4<;>(try (simp only[hz,Z.a,AF,AC,AO,AP,AL,reduceCtorEq] at h4))<;>(try cbv))
   ·have:=hy h3 [.live 13 [(RA y0 y1 y2 y3 y4 y5 y6 y7 y8 y9 y10 y11)]]
    rw[if_pos Z.o] at this;exact this
   ·have:=hy h3 [.live 13 [(RA y0 y1 y2 y3 y4 y5 y6 y7 y8 y9 y10 y11)]]
    rw[if_neg Z.o] at this;exact this
  ·refine lm1 (kt:=239) (et:=3) rfl rfl rfl rfl (by rw[<- hP];kernel_rfl) ?_
   cbv;(split<;>rename_i h4<;>(try (simp only[hz,Z.a,AF,AC,AO,AP,AL,reduceCtorEq] at h4))<;>(try cbv))
   ·exfalso;omega
   ·exact hno h3 [.live 13 [(RA y0 y1 y2 y3 y4 y5 y6 y7 y8 y9 y10 y11)]]
 ·simp only[eL]
  (split<;>rename_i h2<;>(try (simp only[hz,Z.a,AF,AC,AO,AP,AL,reduceCtorEq] at h2))<;>(try cbv))
  ·obtain⟨hy,hno⟩:=blockA (.inr (n0.2 h2))
   clear blockA hKz;(split<;>rename_i h3<;>(try (simp only[hz,Z.a,AF,AC,AO,AP,AL,reduceCtorEq] at h3))<;>(try cbv))
   ·refine Put.mk em2 rfl hput ?_
    cbv;refine lm2 (kt:=239) (et:=3) rfl rfl rfl rfl (by rw[<- hP];kernel_rfl) ?_;cbv;(split<;>rename_i h4<;>(try (simp only[hz,Z.a,AF,AC,AO,AP,AL,reduceCtorEq] at h4))<;>(try cbv))
    ·have:=hy h3 [.live 13 [(RA y0 y1 y2 y3 y4 y5 y6 y7 y8 y9 y10 y11)]]
     rw[if_pos Z.o] at this;exact this
    ·have:=hy h3 [.live 13 [(RA y0 y1 y2 y3 y4 y5 y6 y7 y8 y9 y10 y11)]]
     rw[if_neg Z.o] at this;exact this
   ·refine lm1 (kt:=239) (et:=3) rfl rfl rfl rfl (by rw[<- hP];kernel_rfl) ?_
    cbv;(split<;>rename_i h4<;>(try (simp only[hz,Z.a,AF,AC,AO,AP,AL,reduceCtorEq] at h4))<;>(try cbv))
    ·exfalso;omega
    ·exact hno h3 [.live 13 [(RA y0 y1 y2 y3 y4 y5 y6 y7 y8 y9 y10 y11)]]
  ·have hK:=hK
   have ck:zE .eql nA 12=false:=(by rw[zA];rfl);have a1:zB .add .i64 nA 1=nB:=(by rw[zC];rfl);have a2:zB .sub .i64 nB 1=nA:=(by rw[zC];rfl);have hnh:¬(hi<=en\/nx=[]):=(by rw[n0];omega);have hen': -1099511627776<=en/\en<=11*1099511627776:=by have h:=hen;simp only[XS,Bh] at h;omega
   have hKl:∀s',s'=nx.foldl (λs n=>Be ss lo hi dq (XN y0 y1 y2 y3 y4 y5 y6 y7 y8 y9 y10 y11 n) (en+BD ss n) s) (0,m)->∀j,K (.tuple []) (.live 6 [DD es ds lo hi 1 s'.1] :: .live 0 (ents s'.2)::j):=λs' hs' j=>by
    have:=hK j;rw[if_neg Z.d,if_neg hnh] at this;rw[hs'];exact this
   clear hK blockA hKz lm1 lm2;simp only[ck];cbv;simp only[a1]
   repeat' (first
    | (refine Ik.mk _ rfl ?_;cbv)
    | (simp only[a1];cbv)
    | (refine Ie.mk _ _ rfl rfl ?_;cbv))
   simp only[eL]
   refine Ae.dataN hw (S:=Int×Int×(Int×List (List Int))×List (List AV)) (λs=>fr 103 [(0,.ref 0 6 0 0),(2,en),(4,.ref 2 13 0 0),(76,.list 1 ns),(77,L),(78,s.1)])
    (λs=>[.live 6 [[.list 3 es,.list 5 ds,lo,hi,.mapr 1,s.2.2.1.1]],.live 0 s.2.2.2,.live 13 [(RB y0 y1 y2 y3 y4 y5 y6 y7 y8 y9 y10 y11 s.2.1)]])
    (λs=>0<=s.1/\s.1<=L/\s.2.2.1=(nx.take s.1.toNat).foldl (λs n=>Be ss lo hi dq (XN y0 y1 y2 y3 y4 y5 y6 y7 y8 y9 y10 y11 n) (en+BD ss n) s) (0,m)/\GOk s.2.2.1/\(s.2.2.1.1=0\/s.2.2.1.1=13)/\s.2.2.2=ents s.2.2.1.2/\Up0 s.2.2.2) (λs=>(L-s.1).toNat) (0,0,(0,m),em) (by(refine Z.n (id) ?_;cbv<;>exact Z.q)) ⟨Int.le_refl _,L0,rfl,hok,.inl rfl,eem.symm,hum⟩ ?_
   rintro⟨i,y,⟨e,m'⟩,em'⟩ zJ Q' hN hE hR'
   have zJ:0<=i/\i<=L/\(e,m')=(nx.take i.toNat).foldl (λs n=>Be ss lo hi dq (XN y0 y1 y2 y3 y4 y5 y6 y7 y8 y9 y10 y11 n) (en+BD ss n) s) (0,m)/\GOk (e,m')/\(e=0\/e=13)/\em'=ents m'/\Up0 em':=zJ;cbv;obtain⟨zW,yZ,hfold,hok',he',hem',hum'⟩:=zJ;(split<;>rename_i hc<;>(try (simp only[hz,Z.a,AF,AC,AO,AP,AL,reduceCtorEq] at hc))<;>(try cbv))
   ·have hit:i.toNat<nx.length:=by omega
    obtain⟨n,hn⟩:∃n,nx[i.toNat]?=some n:=⟨_,List.getElem?_eq_getElem hit⟩;have hni:ns[i.toNat]?=some (Ac n):=(by rw[<- ens,List.getElem?_map,hn];rfl);have hnb:=hnxs n (List.mem_of_getElem? hn);obtain⟨sg1,hd1,hrow1⟩:=BI (f:=Ah) (ds:=ss) (i:=n) hnb.1 hnb.2;have hle:BD ss n=sg1.len:=(by unfold BD;rw[hd1]);have hl1:=hln.pos sg1 (List.mem_of_getElem? hd1);obtain⟨len1,pcs1,nx1⟩:=sg1;have hl1:1<=len1/\len1<=1099511627776:=hl1;have hle:BD ss n=len1:=hle;obtain⟨q1,eq1⟩:=Z.f (pcs1.map Ap);obtain⟨q2,eq2⟩:=Z.f (nx1.map Ac);have hrow1:es[n.toNat]?=some [.int .i64 len1,.list 2 q1,.list 1 q2]:=by rw[zQ,<- eq1,<- eq2];exact hrow1
    have hs2:(Be ss lo hi dq (XN y0 y1 y2 y3 y4 y5 y6 y7 y8 y9 y10 y11 n) (en+len1) (e,m'))=(nx.take (i+1).toNat).foldl (λs n=>Be ss lo hi dq (XN y0 y1 y2 y3 y4 y5 y6 y7 y8 y9 y10 y11 n) (en+BD ss n) s) (0,m):=by
     rw[Eu zW hn,List.foldl_append,<- hfold,List.foldl_cons,List.foldl_nil,hle]
    have hok2:=MO ss lo hi dq (XN y0 y1 y2 y3 y4 y5 y6 y7 y8 y9 y10 y11 n) (en+len1) (e,m') hok' (by simp only[XS,XN,List.length_cons,List.length_nil];omega);have he2:=MP ss lo hi dq (XN y0 y1 y2 y3 y4 y5 y6 y7 y8 y9 y10 y11 n) (en+len1) (e,m') he';have a3:zB .add .i64 en len1=en+len1:=by rw[zC];show IntKind.i64.wrap (en+len1)=en+len1;rw[IntKind.wrap_i64];omega
    obtain⟨en2,een2⟩:=Z.e (en+len1);rw[<- een2] at hs2 hok2 he2 a3;have hen2: -1099511627776<=en2/\en2<=Bh (XN y0 y1 y2 y3 y4 y5 y6 y7 y8 y9 y10 y11 n)*1099511627776:=by have h:=hen;simp only[XS,XN,Bh] at h ⊢;omega
    have hl2:∀x,x∈(XN y0 y1 y2 y3 y4 y5 y6 y7 y8 y9 y10 y11 n)->0<=x/\x.toNat<ss.length:=λx hx=>by
     have:x∈(XS y0 y1 y2 y3 y4 y5 y6 y7 y8 y9 y10 y11)\/x=n:=(by simpa[XS,XN,or_assoc] using hx);rcases this with h|rfl
     ·exact hl x h
     ·exact hnb
    obtain⟨⟨e3,m3⟩,es3⟩:∃s',Be ss lo hi dq (XN y0 y1 y2 y3 y4 y5 y6 y7 y8 y9 y10 y11 n) en2 (e,m')=s':=⟨_,rfl⟩;obtain⟨em3,eem3⟩:=Z.e (ents m3);have hum3:Up0 em3:=(by rw[eem3];exact Jm m3);rw[es3] at hs2 hok2 he2;refine Idx.mk _ zW hni ?_;cbv
    repeat' (first
     | (refine Ik.mk _ rfl ?_;cbv)
     | (simp only[a2];cbv)
     | (refine InN.mk Z.d Z.d ?_;cbv)
     | (refine Ie.mk _ _ rfl rfl ?_;cbv)
     | (refine Idx.mk _ hnb.1 hrow1 ?_;cbv))
    simp only[a3];refine Call.of (BJ.call hu hud (NX ss gs es ds zQ zY hln yK lo hi y0 y1 y2 y3 y4 y5 y6 y7 y8 y9 y10 y11 n) hP (sg:=0) (sm:=1) (h:=[.live 6 [DD es ds lo hi 1 e],.live 0 em',.live 13 [(RB y0 y1 y2 y3 y4 y5 y6 y7 y8 y9 y10 y11 n)]]) Z.d rfl (by rw[<- hem'];rfl) hok' he' hen2 hl2 ?_);rw[es3,<- eem3];have a4:zB .add .i64 i 1=i+1:=by rw[zC];show IntKind.i64.wrap (i+1)=i+1;rw[IntKind.wrap_i64];omega
    cbv;simp only[a4];refine hN (i+1,n,(e3,m3),em3) _ _ (by(refine Z.n (id) ?_;cbv<;>exact Z.q)) ⟨by simp only;omega,by simp only;omega,hs2,hok2,he2,eem3,hum3⟩ ?_;simp only;omega
   ·refine hE _ _ _ ?_
    cbv;have:=hKl (e,m') (by rw[hfold,List.take_of_length_le Z.o]) [.live 13 [(RB y0 y1 y2 y3 y4 y5 y6 y7 y8 y9 y10 y11 y)]];rw[<- hem'] at this;exact this):G:=h
section
variable (ss:List Sg) (gs:List Gr) (es ds:List (List AV)) (zQ:es=ss.map Ah) (zY:ds=gs.map Ak) (hln:CS ss) (yK:EJ ss) (lo hi:Int)
include zQ zY hln yK
namespace Gw11
@[reducible] def XS(y0 y1 y2 y3 y4 y5 y6 y7 y8 y9 y10 y11:Int):List Int:=[y0,y1,y2,y3,y4,y5,y6,y7,y8,y9,y10]
@[reducible] def XN(y0 y1 y2 y3 y4 y5 y6 y7 y8 y9 y10 y11 n:Int):List Int:=[y0,y1,y2,y3,y4,y5,y6,y7,y8,y9,y10,n]
@[reducible] def XL(y0 y1 y2 y3 y4 y5 y6 y7 y8 y9 y10 y11:Int):Int:=y10
@[reducible] def RA(y0 y1 y2 y3 y4 y5 y6 y7 y8 y9 y10 y11:Int):List AV:=[(11:Int),y0,y1,y2,y3,y4,y5,y6,y7,y8,y9,y10,(0:Int)]
@[reducible] def RB(y0 y1 y2 y3 y4 y5 y6 y7 y8 y9 y10 y11 n:Int):List AV:=[(12:Int),y0,y1,y2,y3,y4,y5,y6,y7,y8,y9,y10,n]
@[reducible] def dp:Nat:=2
@[reducible] def dq:Nat:=1
@[reducible] def nP:Int:=10
@[reducible] def nA:Int:=11
@[reducible] def nB:Int:=12
theorem NX(y0 y1 y2 y3 y4 y5 y6 y7 y8 y9 y10 y11 n:Int):BJ ss es ds lo hi dq (XN y0 y1 y2 y3 y4 y5 y6 y7 y8 y9 y10 y11 n):=TL ss gs es ds zQ zY hln yK lo hi y0 y1 y2 y3 y4 y5 y6 y7 y8 y9 y10 n
theorem gr(y0 y1 y2 y3 y4 y5 y6 y7 y8 y9 y10 y11:Int):BJ ss es ds lo hi dp (XS y0 y1 y2 y3 y4 y5 y6 y7 y8 y9 y10 y11):=by exact FV
end Gw11
theorem gB(y0 y1 y2 y3 y4 y5 y6 y7 y8 y9 y10:Int):BJ ss es ds lo hi 2 [y0,y1,y2,y3,y4,y5,y6,y7,y8,y9,y10]:=Gw11.gr ss gs es ds zQ zY hln yK lo hi y0 y1 y2 y3 y4 y5 y6 y7 y8 y9 y10 0
namespace Gw10
@[reducible] def XS(y0 y1 y2 y3 y4 y5 y6 y7 y8 y9 y10 y11:Int):List Int:=[y0,y1,y2,y3,y4,y5,y6,y7,y8,y9]
@[reducible] def XN(y0 y1 y2 y3 y4 y5 y6 y7 y8 y9 y10 y11 n:Int):List Int:=[y0,y1,y2,y3,y4,y5,y6,y7,y8,y9,n]
@[reducible] def XL(y0 y1 y2 y3 y4 y5 y6 y7 y8 y9 y10 y11:Int):Int:=y9
@[reducible] def RA(y0 y1 y2 y3 y4 y5 y6 y7 y8 y9 y10 y11:Int):List AV:=[(10:Int),y0,y1,y2,y3,y4,y5,y6,y7,y8,y9,(0:Int),(0:Int)]
@[reducible] def RB(y0 y1 y2 y3 y4 y5 y6 y7 y8 y9 y10 y11 n:Int):List AV:=[(11:Int),y0,y1,y2,y3,y4,y5,y6,y7,y8,y9,n,(0:Int)]
@[reducible] def dp:Nat:=3
@[reducible] def dq:Nat:=2
@[reducible] def nP:Int:=9
@[reducible] def nA:Int:=10
@[reducible] def nB:Int:=11
theorem NX(y0 y1 y2 y3 y4 y5 y6 y7 y8 y9 y10 y11 n:Int):BJ ss es ds lo hi dq (XN y0 y1 y2 y3 y4 y5 y6 y7 y8 y9 y10 y11 n):=Gw11.gr ss gs es ds zQ zY hln yK lo hi y0 y1 y2 y3 y4 y5 y6 y7 y8 y9 n 0
theorem gr(y0 y1 y2 y3 y4 y5 y6 y7 y8 y9 y10 y11:Int):BJ ss es ds lo hi dp (XS y0 y1 y2 y3 y4 y5 y6 y7 y8 y9 y10 y11):=by exact FV
end Gw10
theorem gD(y0 y1 y2 y3 y4 y5 y6 y7 y8 y9:Int):BJ ss es ds lo hi 3 [y0,y1,y2,y3,y4,y5,y6,y7,y8,y9]:=Gw10.gr ss gs es ds zQ zY hln yK lo hi y0 y1 y2 y3 y4 y5 y6 y7 y8 y9 0 0
namespace Gw9
@[reducible] def XS(y0 y1 y2 y3 y4 y5 y6 y7 y8 y9 y10 y11:Int):List Int:=[y0,y1,y2,y3,y4,y5,y6,y7,y8]
@[reducible] def XN(y0 y1 y2 y3 y4 y5 y6 y7 y8 y9 y10 y11 n:Int):List Int:=[y0,y1,y2,y3,y4,y5,y6,y7,y8,n]
@[reducible] def XL(y0 y1 y2 y3 y4 y5 y6 y7 y8 y9 y10 y11:Int):Int:=y8
@[reducible] def RA(y0 y1 y2 y3 y4 y5 y6 y7 y8 y9 y10 y11:Int):List AV:=[(9:Int),y0,y1,y2,y3,y4,y5,y6,y7,y8,(0:Int),(0:Int),(0:Int)]
@[reducible] def RB(y0 y1 y2 y3 y4 y5 y6 y7 y8 y9 y10 y11 n:Int):List AV:=[(10:Int),y0,y1,y2,y3,y4,y5,y6,y7,y8,n,(0:Int),(0:Int)]
@[reducible] def dp:Nat:=4
@[reducible] def dq:Nat:=3
@[reducible] def nP:Int:=8
@[reducible] def nA:Int:=9
@[reducible] def nB:Int:=10
theorem NX(y0 y1 y2 y3 y4 y5 y6 y7 y8 y9 y10 y11 n:Int):BJ ss es ds lo hi dq (XN y0 y1 y2 y3 y4 y5 y6 y7 y8 y9 y10 y11 n):=Gw10.gr ss gs es ds zQ zY hln yK lo hi y0 y1 y2 y3 y4 y5 y6 y7 y8 n 0 0
theorem gr(y0 y1 y2 y3 y4 y5 y6 y7 y8 y9 y10 y11:Int):BJ ss es ds lo hi dp (XS y0 y1 y2 y3 y4 y5 y6 y7 y8 y9 y10 y11):=by exact FV
end Gw9
theorem gF(y0 y1 y2 y3 y4 y5 y6 y7 y8:Int):BJ ss es ds lo hi 4 [y0,y1,y2,y3,y4,y5,y6,y7,y8]:=Gw9.gr ss gs es ds zQ zY hln yK lo hi y0 y1 y2 y3 y4 y5 y6 y7 y8 0 0 0
namespace Gw8
@[reducible] def XS(y0 y1 y2 y3 y4 y5 y6 y7 y8 y9 y10 y11:Int):List Int:=[y0,y1,y2,y3,y4,y5,y6,y7]
@[reducible] def XN(y0 y1 y2 y3 y4 y5 y6 y7 y8 y9 y10 y11 n:Int):List Int:=[y0,y1,y2,y3,y4,y5,y6,y7,n]
@[reducible] def XL(y0 y1 y2 y3 y4 y5 y6 y7 y8 y9 y10 y11:Int):Int:=y7
@[reducible] def RA(y0 y1 y2 y3 y4 y5 y6 y7 y8 y9 y10 y11:Int):List AV:=[(8:Int),y0,y1,y2,y3,y4,y5,y6,y7,(0:Int),(0:Int),(0:Int),(0:Int)]
@[reducible] def RB(y0 y1 y2 y3 y4 y5 y6 y7 y8 y9 y10 y11 n:Int):List AV:=[(9:Int),y0,y1,y2,y3,y4,y5,y6,y7,n,(0:Int),(0:Int),(0:Int)]
@[reducible] def dp:Nat:=5
@[reducible] def dq:Nat:=4
@[reducible] def nP:Int:=7
@[reducible] def nA:Int:=8
@[reducible] def nB:Int:=9
theorem NX(y0 y1 y2 y3 y4 y5 y6 y7 y8 y9 y10 y11 n:Int):BJ ss es ds lo hi dq (XN y0 y1 y2 y3 y4 y5 y6 y7 y8 y9 y10 y11 n):=Gw9.gr ss gs es ds zQ zY hln yK lo hi y0 y1 y2 y3 y4 y5 y6 y7 n 0 0 0
theorem gr(y0 y1 y2 y3 y4 y5 y6 y7 y8 y9 y10 y11:Int):BJ ss es ds lo hi dp (XS y0 y1 y2 y3 y4 y5 y6 y7 y8 y9 y10 y11):=by exact FV
end Gw8
theorem gG(y0 y1 y2 y3 y4 y5 y6 y7:Int):BJ ss es ds lo hi 5 [y0,y1,y2,y3,y4,y5,y6,y7]:=Gw8.gr ss gs es ds zQ zY hln yK lo hi y0 y1 y2 y3 y4 y5 y6 y7 0 0 0 0
namespace Gw7
@[reducible] def XS(y0 y1 y2 y3 y4 y5 y6 y7 y8 y9 y10 y11:Int):List Int:=[y0,y1,y2,y3,y4,y5,y6]
@[reducible] def XN(y0 y1 y2 y3 y4 y5 y6 y7 y8 y9 y10 y11 n:Int):List Int:=[y0,y1,y2,y3,y4,y5,y6,n]
@[reducible] def XL(y0 y1 y2 y3 y4 y5 y6 y7 y8 y9 y10 y11:Int):Int:=y6
@[reducible] def RA(y0 y1 y2 y3 y4 y5 y6 y7 y8 y9 y10 y11:Int):List AV:=[(7:Int),y0,y1,y2,y3,y4,y5,y6,(0:Int),(0:Int),(0:Int),(0:Int),(0:Int)]
@[reducible] def RB(y0 y1 y2 y3 y4 y5 y6 y7 y8 y9 y10 y11 n:Int):List AV:=[(8:Int),y0,y1,y2,y3,y4,y5,y6,n,(0:Int),(0:Int),(0:Int),(0:Int)]
@[reducible] def dp:Nat:=6
@[reducible] def dq:Nat:=5
@[reducible] def nP:Int:=6
@[reducible] def nA:Int:=7
@[reducible] def nB:Int:=8
theorem NX(y0 y1 y2 y3 y4 y5 y6 y7 y8 y9 y10 y11 n:Int):BJ ss es ds lo hi dq (XN y0 y1 y2 y3 y4 y5 y6 y7 y8 y9 y10 y11 n):=Gw8.gr ss gs es ds zQ zY hln yK lo hi y0 y1 y2 y3 y4 y5 y6 n 0 0 0 0
theorem gr(y0 y1 y2 y3 y4 y5 y6 y7 y8 y9 y10 y11:Int):BJ ss es ds lo hi dp (XS y0 y1 y2 y3 y4 y5 y6 y7 y8 y9 y10 y11):=by exact FV
end Gw7
theorem gH(y0 y1 y2 y3 y4 y5 y6:Int):BJ ss es ds lo hi 6 [y0,y1,y2,y3,y4,y5,y6]:=Gw7.gr ss gs es ds zQ zY hln yK lo hi y0 y1 y2 y3 y4 y5 y6 0 0 0 0 0
namespace Gw6
@[reducible] def XS(y0 y1 y2 y3 y4 y5 y6 y7 y8 y9 y10 y11:Int):List Int:=[y0,y1,y2,y3,y4,y5]
@[reducible] def XN(y0 y1 y2 y3 y4 y5 y6 y7 y8 y9 y10 y11 n:Int):List Int:=[y0,y1,y2,y3,y4,y5,n]
@[reducible] def XL(y0 y1 y2 y3 y4 y5 y6 y7 y8 y9 y10 y11:Int):Int:=y5
@[reducible] def RA(y0 y1 y2 y3 y4 y5 y6 y7 y8 y9 y10 y11:Int):List AV:=[(6:Int),y0,y1,y2,y3,y4,y5,(0:Int),(0:Int),(0:Int),(0:Int),(0:Int),(0:Int)]
@[reducible] def RB(y0 y1 y2 y3 y4 y5 y6 y7 y8 y9 y10 y11 n:Int):List AV:=[(7:Int),y0,y1,y2,y3,y4,y5,n,(0:Int),(0:Int),(0:Int),(0:Int),(0:Int)]
@[reducible] def dp:Nat:=7
@[reducible] def dq:Nat:=6
@[reducible] def nP:Int:=5
@[reducible] def nA:Int:=6
@[reducible] def nB:Int:=7
theorem NX(y0 y1 y2 y3 y4 y5 y6 y7 y8 y9 y10 y11 n:Int):BJ ss es ds lo hi dq (XN y0 y1 y2 y3 y4 y5 y6 y7 y8 y9 y10 y11 n):=Gw7.gr ss gs es ds zQ zY hln yK lo hi y0 y1 y2 y3 y4 y5 n 0 0 0 0 0
theorem gr(y0 y1 y2 y3 y4 y5 y6 y7 y8 y9 y10 y11:Int):BJ ss es ds lo hi dp (XS y0 y1 y2 y3 y4 y5 y6 y7 y8 y9 y10 y11):=by exact FV
end Gw6
theorem gI(y0 y1 y2 y3 y4 y5:Int):BJ ss es ds lo hi 7 [y0,y1,y2,y3,y4,y5]:=Gw6.gr ss gs es ds zQ zY hln yK lo hi y0 y1 y2 y3 y4 y5 0 0 0 0 0 0
namespace Gw5
@[reducible] def XS(y0 y1 y2 y3 y4 y5 y6 y7 y8 y9 y10 y11:Int):List Int:=[y0,y1,y2,y3,y4]
@[reducible] def XN(y0 y1 y2 y3 y4 y5 y6 y7 y8 y9 y10 y11 n:Int):List Int:=[y0,y1,y2,y3,y4,n]
@[reducible] def XL(y0 y1 y2 y3 y4 y5 y6 y7 y8 y9 y10 y11:Int):Int:=y4
@[reducible] def RA(y0 y1 y2 y3 y4 y5 y6 y7 y8 y9 y10 y11:Int):List AV:=[(5:Int),y0,y1,y2,y3,y4,(0:Int),(0:Int),(0:Int),(0:Int),(0:Int),(0:Int),(0:Int)]
@[reducible] def RB(y0 y1 y2 y3 y4 y5 y6 y7 y8 y9 y10 y11 n:Int):List AV:=[(6:Int),y0,y1,y2,y3,y4,n,(0:Int),(0:Int),(0:Int),(0:Int),(0:Int),(0:Int)]
@[reducible] def dp:Nat:=8
@[reducible] def dq:Nat:=7
@[reducible] def nP:Int:=4
@[reducible] def nA:Int:=5
@[reducible] def nB:Int:=6
theorem NX(y0 y1 y2 y3 y4 y5 y6 y7 y8 y9 y10 y11 n:Int):BJ ss es ds lo hi dq (XN y0 y1 y2 y3 y4 y5 y6 y7 y8 y9 y10 y11 n):=Gw6.gr ss gs es ds zQ zY hln yK lo hi y0 y1 y2 y3 y4 n 0 0 0 0 0 0
theorem gr(y0 y1 y2 y3 y4 y5 y6 y7 y8 y9 y10 y11:Int):BJ ss es ds lo hi dp (XS y0 y1 y2 y3 y4 y5 y6 y7 y8 y9 y10 y11):=by exact FV
end Gw5
theorem gJ(y0 y1 y2 y3 y4:Int):BJ ss es ds lo hi 8 [y0,y1,y2,y3,y4]:=Gw5.gr ss gs es ds zQ zY hln yK lo hi y0 y1 y2 y3 y4 0 0 0 0 0 0 0
namespace Gw4
@[reducible] def XS(y0 y1 y2 y3 y4 y5 y6 y7 y8 y9 y10 y11:Int):List Int:=[y0,y1,y2,y3]
@[reducible] def XN(y0 y1 y2 y3 y4 y5 y6 y7 y8 y9 y10 y11 n:Int):List Int:=[y0,y1,y2,y3,n]
@[reducible] def XL(y0 y1 y2 y3 y4 y5 y6 y7 y8 y9 y10 y11:Int):Int:=y3
@[reducible] def RA(y0 y1 y2 y3 y4 y5 y6 y7 y8 y9 y10 y11:Int):List AV:=[(4:Int),y0,y1,y2,y3,(0:Int),(0:Int),(0:Int),(0:Int),(0:Int),(0:Int),(0:Int),(0:Int)]
@[reducible] def RB(y0 y1 y2 y3 y4 y5 y6 y7 y8 y9 y10 y11 n:Int):List AV:=[(5:Int),y0,y1,y2,y3,n,(0:Int),(0:Int),(0:Int),(0:Int),(0:Int),(0:Int),(0:Int)]
@[reducible] def dp:Nat:=9
@[reducible] def dq:Nat:=8
@[reducible] def nP:Int:=3
@[reducible] def nA:Int:=4
@[reducible] def nB:Int:=5
theorem NX(y0 y1 y2 y3 y4 y5 y6 y7 y8 y9 y10 y11 n:Int):BJ ss es ds lo hi dq (XN y0 y1 y2 y3 y4 y5 y6 y7 y8 y9 y10 y11 n):=Gw5.gr ss gs es ds zQ zY hln yK lo hi y0 y1 y2 y3 n 0 0 0 0 0 0 0
theorem gr(y0 y1 y2 y3 y4 y5 y6 y7 y8 y9 y10 y11:Int):BJ ss es ds lo hi dp (XS y0 y1 y2 y3 y4 y5 y6 y7 y8 y9 y10 y11):=by exact FV
end Gw4
theorem gK(y0 y1 y2 y3:Int):BJ ss es ds lo hi 9 [y0,y1,y2,y3]:=Gw4.gr ss gs es ds zQ zY hln yK lo hi y0 y1 y2 y3 0 0 0 0 0 0 0 0
namespace Gw3
@[reducible] def XS(y0 y1 y2 y3 y4 y5 y6 y7 y8 y9 y10 y11:Int):List Int:=[y0,y1,y2]
@[reducible] def XN(y0 y1 y2 y3 y4 y5 y6 y7 y8 y9 y10 y11 n:Int):List Int:=[y0,y1,y2,n]
@[reducible] def XL(y0 y1 y2 y3 y4 y5 y6 y7 y8 y9 y10 y11:Int):Int:=y2
@[reducible] def RA(y0 y1 y2 y3 y4 y5 y6 y7 y8 y9 y10 y11:Int):List AV:=[(3:Int),y0,y1,y2,(0:Int),(0:Int),(0:Int),(0:Int),(0:Int),(0:Int),(0:Int),(0:Int),(0:Int)]
@[reducible] def RB(y0 y1 y2 y3 y4 y5 y6 y7 y8 y9 y10 y11 n:Int):List AV:=[(4:Int),y0,y1,y2,n,(0:Int),(0:Int),(0:Int),(0:Int),(0:Int),(0:Int),(0:Int),(0:Int)]
@[reducible] def dp:Nat:=10
@[reducible] def dq:Nat:=9
@[reducible] def nP:Int:=2
@[reducible] def nA:Int:=3
@[reducible] def nB:Int:=4
theorem NX(y0 y1 y2 y3 y4 y5 y6 y7 y8 y9 y10 y11 n:Int):BJ ss es ds lo hi dq (XN y0 y1 y2 y3 y4 y5 y6 y7 y8 y9 y10 y11 n):=Gw4.gr ss gs es ds zQ zY hln yK lo hi y0 y1 y2 n 0 0 0 0 0 0 0 0
theorem gr(y0 y1 y2 y3 y4 y5 y6 y7 y8 y9 y10 y11:Int):BJ ss es ds lo hi dp (XS y0 y1 y2 y3 y4 y5 y6 y7 y8 y9 y10 y11):=by exact FV
end Gw3
theorem gL(y0 y1 y2:Int):BJ ss es ds lo hi 10 [y0,y1,y2]:=Gw3.gr ss gs es ds zQ zY hln yK lo hi y0 y1 y2 0 0 0 0 0 0 0 0 0
namespace Gw2
@[reducible] def XS(y0 y1 y2 y3 y4 y5 y6 y7 y8 y9 y10 y11:Int):List Int:=[y0,y1]
@[reducible] def XN(y0 y1 y2 y3 y4 y5 y6 y7 y8 y9 y10 y11 n:Int):List Int:=[y0,y1,n]
@[reducible] def XL(y0 y1 y2 y3 y4 y5 y6 y7 y8 y9 y10 y11:Int):Int:=y1
@[reducible] def RA(y0 y1 y2 y3 y4 y5 y6 y7 y8 y9 y10 y11:Int):List AV:=[(2:Int),y0,y1,(0:Int),(0:Int),(0:Int),(0:Int),(0:Int),(0:Int),(0:Int),(0:Int),(0:Int),(0:Int)]
@[reducible] def RB(y0 y1 y2 y3 y4 y5 y6 y7 y8 y9 y10 y11 n:Int):List AV:=[(3:Int),y0,y1,n,(0:Int),(0:Int),(0:Int),(0:Int),(0:Int),(0:Int),(0:Int),(0:Int),(0:Int)]
@[reducible] def dp:Nat:=11
@[reducible] def dq:Nat:=10
@[reducible] def nP:Int:=1
@[reducible] def nA:Int:=2
@[reducible] def nB:Int:=3
theorem NX(y0 y1 y2 y3 y4 y5 y6 y7 y8 y9 y10 y11 n:Int):BJ ss es ds lo hi dq (XN y0 y1 y2 y3 y4 y5 y6 y7 y8 y9 y10 y11 n):=Gw3.gr ss gs es ds zQ zY hln yK lo hi y0 y1 n 0 0 0 0 0 0 0 0 0
theorem gr(y0 y1 y2 y3 y4 y5 y6 y7 y8 y9 y10 y11:Int):BJ ss es ds lo hi dp (XS y0 y1 y2 y3 y4 y5 y6 y7 y8 y9 y10 y11):=by exact FV
end Gw2
theorem gM(y0 y1:Int):BJ ss es ds lo hi 11 [y0,y1]:=Gw2.gr ss gs es ds zQ zY hln yK lo hi y0 y1 0 0 0 0 0 0 0 0 0 0
namespace Gw1
@[reducible] def XS(y0 y1 y2 y3 y4 y5 y6 y7 y8 y9 y10 y11:Int):List Int:=[y0]
@[reducible] def XN(y0 y1 y2 y3 y4 y5 y6 y7 y8 y9 y10 y11 n:Int):List Int:=[y0,n]
@[reducible] def XL(y0 y1 y2 y3 y4 y5 y6 y7 y8 y9 y10 y11:Int):Int:=y0
@[reducible] def RA(y0 y1 y2 y3 y4 y5 y6 y7 y8 y9 y10 y11:Int):List AV:=[(1:Int),y0,(0:Int),(0:Int),(0:Int),(0:Int),(0:Int),(0:Int),(0:Int),(0:Int),(0:Int),(0:Int),(0:Int)]
@[reducible] def RB(y0 y1 y2 y3 y4 y5 y6 y7 y8 y9 y10 y11 n:Int):List AV:=[(2:Int),y0,n,(0:Int),(0:Int),(0:Int),(0:Int),(0:Int),(0:Int),(0:Int),(0:Int),(0:Int),(0:Int)]
@[reducible] def dp:Nat:=12
@[reducible] def dq:Nat:=11
@[reducible] def nP:Int:=0
@[reducible] def nA:Int:=1
@[reducible] def nB:Int:=2
theorem NX(y0 y1 y2 y3 y4 y5 y6 y7 y8 y9 y10 y11 n:Int):BJ ss es ds lo hi dq (XN y0 y1 y2 y3 y4 y5 y6 y7 y8 y9 y10 y11 n):=Gw2.gr ss gs es ds zQ zY hln yK lo hi y0 n 0 0 0 0 0 0 0 0 0 0
theorem gr(y0 y1 y2 y3 y4 y5 y6 y7 y8 y9 y10 y11:Int):BJ ss es ds lo hi dp (XS y0 y1 y2 y3 y4 y5 y6 y7 y8 y9 y10 y11):=by exact FV
end Gw1
theorem gN(y0:Int):BJ ss es ds lo hi 12 [y0]:=Gw1.gr ss gs es ds zQ zY hln yK lo hi y0 0 0 0 0 0 0 0 0 0 0 0
end
end Go.Proofs.YtlchlddijclhjaaGreat
