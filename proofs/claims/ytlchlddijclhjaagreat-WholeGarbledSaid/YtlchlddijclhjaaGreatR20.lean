/- Parts of the proofs. -/
import Derived.Test.YtlchlddijclhjaaGreatR9
import Derived.Test.YtlchlddijclhjaaGreatR19
import Derived.Test.YtlchlddijclhjaaGreatRZ
set_option linter.unusedVariables false
set_option linter.unusedSimpArgs false
set_option maxHeartbeats 4000000
namespace Go.Eng
open Go Go.RowKit
inductive CY where
 | seq (x y:CY)
 | any (al:List Ad) (deps:List (List Nat))
 | block (id:Nat) (x:CY)
 | loop (x:CY)
 | plain (c:BR)
def BV(P:Program)(F:List Nat):Code->Option CY
 | .seq a b =>
   match BV P F a,BV P F b with
   | some x,some y=>some (.seq x y)
   | _,_=>none
 | .region id ops true=>(match Aa F id with
   | true=>(match Aw P ops.toList ops.toList with|some al=>some (.any al (J6 ops.toList))|none=>none)
   | false=>(match Am P (.region id ops true) with|some c=>some (.plain c)|none=>none))
 | .block id c=>(match BV P F c with|some x=>some (.block id x)|none=>none)
 | .loop c=>(match BV P F c with|some x=>some (.loop x)|none=>none)
 | c=>(match Am P c with|some c=>some (.plain c)|none=>none)
theorem IR{P:Program}{F:List Nat}{id:Nat}{a:Code}{x:CY}(h1:BV P F a=some x):BV P F (.block id a)=some (.block id x):=by
 simp only[BV,h1]
theorem IU{P:Program}{F:List Nat}{a:Code}{x:CY}(h1:BV P F a=some x):BV P F (.loop a)=some (.loop x):=by
 simp only[BV,h1]
theorem IQ{P:Program}{F:List Nat}{a b:Code}{x y:CY}(h1:BV P F a=some x)(h2:BV P F b=some y):BV P F (.seq a b)=some (.seq x y):=by
 simp only[BV,h1,h2]
theorem Cg{P:Program}{F:List Nat}{id:Nat}{ops:Array Oper}{al:List Ad}(deps:List (List Nat))(hm:Aa F id=true)(hd:J6 ops.toList=deps)(h:Aw P ops.toList ops.toList=some al):BV P F (.region id ops true)=some (.any al deps):=by
 simp only[BV,hm,h,hd]
def Ea(P:Program)(F:List Nat):Code->Bool
 | .seq a b=>Ea P F a && Ea P F b
 | .region id ops true=>(match Aa F id with|true=>P.follows .mixedOrders|false=>CW P (.region id ops true))
 | .block _ c=>Ea P F c
 | .loop c=>Ea P F c
 | c=>CW P c
def Ic:List Nat->CY->List Nat
 | acc,.seq x y=>Ic (Ic acc x) y
 | acc,.any al _=>Ib acc al
 | acc,.block _ x=>Ic acc x
 | acc,.loop x=>Ic acc x
 | acc,.plain c=>DY acc c
def U1(x:Nat):List Nat->List Nat
 | []=>[x]
 | y::r=>match Nat.blt x y with|true=>x::y::r|false=>y::U1 x r
def eqN:List Nat->List Nat->Bool
 | [],[]=>true
 | x::a,y::b=>match Nat.beq x y with|true=>eqN a b|false=>false
 | _,_=>false
def U2(e:List Nat):List (List Nat)->List (List Nat)
 | []=>[e]
 | d::r=>match eqN d e with|true=>d::r|false=>d::U2 e r
def U3(d:List Nat):List Nat->List (List Nat)->List (List Nat)
 | [],acc=>acc
 | i::r,acc=>U3 d r (U2 (U1 i d) acc)
def U4(deps:List (List Nat)):List (List Nat)->List (List Nat)->List (List Nat)
 | [],acc=>acc
 | d::r,acc=>U4 deps r (U3 d (Ay d 0 deps) acc)
def G6(deps:List (List Nat)):Nat->List (List Nat)->List (List Nat)
 | 0,L=>L
 | n+1,L=>L++G6 deps n (U4 deps L [])
def Ko(d e:List Nat):Bool:=d.all λx=>Aa e x
def U5(deps:List (List Nat))(n:Nat)(Ds:List (List Nat)):Bool:=
 Ds.all λd=>match Ay d 0 deps with
  | []=>true
  | r=>Nat.blt d.length n && r.all λi=>Ds.any λe=>Nat.beq e.length (d.length+1) && (Ko (i::d) e && Ko e (i::d))
def Jq:List (List Nat)->(List Nat->Prop)->Prop
 | [],_=>True
 | d::r,f=>f d/\Jq r f
theorem PM{f:List Nat->Prop}:∀ {l:List (List Nat)},Jq l f->∀d,d∈l->f d
 | x::l,h,d,hd=>by
   rcases List.mem_cons.1 hd with rfl|hd
   ·exact h.1
   ·exact PM h.2 d hd
def stT(mem:Nat->Bool):Nat->List Ad->List AV->AA->AA
 | k,o::l,v::vs,a=>stT mem (k+1) l vs (match mem k with|true=>Aj a o.dst v|false=>a)
 | _,_,_,a=>a
def pick(b:Bool)(v u:AV):AV:=match b with|true=>v|false=>u
def U6(a:AA):Option Nat->AV
 | some d=>a.getD d (.tuple [])
 | none=>.any
def Kq(al:List Ad)(i:Nat):Option Nat:=match al[i]? with|some o=>o.dst|none=>none
def stE(al:List Ad)(m:Nat->Bool):List Nat->List AV->AA->AA
 | i::r,v::vs,a=>stE al m r vs (Aj a (Kq al i) (pick (m i) v (U6 a (Kq al i))))
 | _,_,a=>a
def I5(i:Nat)(ds sc:List Nat)(m:Nat->Bool)(b:Bool):Nat->Bool:=λj=>match Nat.beq j i with|true=>b|false=>(match Aa ds j with|true=>true|false=>(match Aa sc j with|true=>false|false=>m j))
def G7(R:List Nat)(deps:List (List Nat))(i:Nat):List Nat:=R.filter λj=>Aa (deps.getD j []) i
def G8(E:List Nat)(deps:List (List Nat))(i:Nat):List Nat:=(deps.getD i []).filter λj=> !Aa E j
def Gj(deps:List (List Nat)):List Nat->List Nat->Bool
 | _,[]=>true
 | d,i::r=>(match Ay d 0 deps with|[j]=>Nat.beq j i|_=>false) && Gj deps (i::d) r
def ltB(E:List Nat)(deps:List (List Nat))(n:Nat):Bool:=Nat.beq deps.length n && (List.range n).all λi=>Aa E i || (deps.getD i []).all λj=>Aa E j || Nat.blt j i
def PN:List Nat->(Nat->Prop)->Prop
 | [],_=>True
 | i::r,f=>f i/\PN r f
theorem U7{f:Nat->Prop}:∀ {l:List Nat},PN l f->∀i,i∈l->f i
 | x::l,h,i,hi=>by
   rcases List.mem_cons.1 hi with rfl|hi
   ·exact h.1
   ·exact U7 h.2 i hi
def Ma(E:List Nat)(n:Nat):List Nat:=(List.range n).filter λj=> !Aa E j
inductive CJ(w:A8)(P:Program)(el:List Nat)(K:AA->A7->Prop)(al:List Ad)(deps:List (List Nat))(E R:List Nat)(a:AA)(h:A7):Prop where
 | mk (vals:List AV) (hp:(Nat->Bool)->A7) (hh:hp (λ_=>false)=h)
   (lX:PN R λi=>∀m:Nat->Bool,match al[i]? with|some o=>CK w P el (λx y=>x=stE al (I5 i (G8 E deps i) (G7 R deps i) m true) R vals a/\y=hp (I5 i (G8 E deps i) (G7 R deps i) m true)) [o] (stE al (I5 i (G8 E deps i) (G7 R deps i) m false) R vals a) (hp (I5 i (G8 E deps i) (G7 R deps i) m false))|none=>False)
   (nC:K (stE al (Aa R) R vals a) (hp (Aa R)))
def Kr(al:List Ad):List Nat->List Ad
 | []=>[]
 | i::r=>(match al[i]? with|some o=>[o]|none=>[])++Kr al r
inductive AnyQ(w:A8)(P:Program)(el:List Nat)(K:AA->A7->Prop)(al:List Ad)(deps:List (List Nat))(a:AA)(h:A7):Prop where
 | mk (a':AA) (h':A7) (H1:JY w P el (λx y=>x=a'/\y=h') al deps al.length [] a h) (H2:K a' h')
 | sets (vals:List AV) (hp:(Nat->Bool)->A7) (hh:hp (Aa [])=h) (hc:U5 deps al.length (G6 deps al.length [[]])=true)
   (lX:Jq (G6 deps al.length [[]]) λd=>FW (Ay d 0 deps) λi=>match al[i]? with|some o=>CK w P el (λx y=>x=stT (Aa (i::d)) 0 al vals a/\y=hp (Aa (i::d))) [o] (stT (Aa d) 0 al vals a) (hp (Aa d))|none=>False)
   (nC:Jq (G6 deps al.length [[]]) λd=>match Ay d 0 deps with|[]=>K (stT (Aa d) 0 al vals a) (hp (Aa d))|_::_=>True)
 | each (E R:List Nat) (hE:Gj deps [] E=true) (hl:ltB E deps al.length=true) (hR:Ma E al.length=R) (H:CK w P el (λa h=>CJ w P el K al deps E R a h) (Kr al E) a h)
theorem fJ{d e:List Nat}(h1:Ko d e=true)(h2:Ko e d=true):Aa d=Aa e:=by
 funext x
 unfold Ko at h1 h2;rw[List.all_eq_true] at h1 h2
 cases hx:Aa d x with
 | true=>rw[EN,List.contains_iff_mem] at hx;exact(h1 x hx).symm
 | false =>
   cases hy:Aa e x with
   | false=>rfl
   | true=>rw[EN,List.contains_iff_mem] at hy;rw[h2 x hy] at hx;cases hx
theorem U8:∀(l:List Ad) (vs:List AV) (k:Nat) (a:AA),stT (Aa []) k l vs a=a
 | [],vs,k,a=>by unfold stT;rfl
 | o::l,[],k,a=>by unfold stT;rfl
 | o::l,v::vs,k,a=>by unfold stT;exact U8 l vs (k+1) a
theorem fK(deps:List (List Nat)):∀n,[]∈G6 deps n [[]]
 | 0=>by simp[G6]
 | n+1=>by simp[G6]
inductive KU(F:List Nat)(P:Program)(n:Nat)(c:CY)(Q:Aq)(a:AA)(h:A7):Prop where
 | mk (c:∀code,BV P F code=some c->Ea P F code=true->AWp P n (.loop code) Q a h)
def vcS(w:A8)(P:Program)(F:List Nat)(el:List Nat)(n:Nat):CY->Aq->AA->A7->Prop
 | .seq x y,Q,a,h=>vcS w P F el n x (Dw (vcS w P F el n y Q) Q) a h
 | .block id x,Q,a,h=>vcS w P F el n x (GD id Q) a h
 | .loop x,Q,a,h=>KU F P n x Q a h
 | .any al deps,Q,a,h=>AnyQ w P el (Q .normal) al deps a h
 | .plain c,Q,a,h=>Cs w P el n c Q a h
theorem U9{d e:List Nat}(h:Aa d=Aa e):∀(deps:List (List Nat)) (k:Nat),Ay d k deps=Ay e k deps:=by
 have hc:∀x,d.contains x=e.contains x:=λx=>by rw[<- EN,<- EN,h]
 have hf:d.contains=e.contains:=funext hc;intro deps
 induction deps with
 | nil=>intro k;rfl
 | cons y ys ih=>intro k;unfold Ay;rw[hf,ih (k+1)]
theorem PO{F:Nat->Prop}:∀ {l:List Nat},(∀i,i∈l->F i)->FW l F
 | [],_=>trivial
 | [j],h=>h j (List.mem_singleton.2 rfl)
 | j::k::l,h=>⟨h j (List.mem_cons.2 (.inl rfl)),PO λi hi=>h i (List.mem_cons.2 (.inr hi))⟩
theorem Ca{l:List Nat}{x:Nat}:Aa l x=true↔x∈l:=by rw[EN,List.contains_iff_mem]
theorem Iz{d:List Nat}:∀ {deps:List (List Nat)} {k i:Nat},i∈Ay d k deps↔k<=i/\i<k+deps.length/\i ∉ d/\∀j,j∈deps.getD (i-k) []->j∈d
 | [],k,i=>by simp only[Ay,List.length_nil];constructor;· intro h;cases h
              ·intro h;omega
 | ds::deps,k,i=>by
   have ih:=Iz (d:=d) (deps:=deps) (k:=k+1) (i:=i)
   have hc:(!d.contains k && ds.all d.contains)=true↔k ∉ d/\∀j,j∈ds->j∈d:=by
    simp[List.all_eq_true]
   have hs:∀h:k+1<=i,(ds::deps).getD (i-k) []=deps.getD (i-(k+1)) []:=λh=>by
    rw[show i-k=(i-(k+1))+1 by omega];simp
   unfold Ay;split
   ·rename_i h1
    have h1:=hc.1 h1;rw[List.mem_cons,ih];constructor
    ·rintro(rfl|⟨a1,a2,a3,a4⟩)
     ·exact⟨Nat.le_refl _,by simp,h1.1,by simpa using h1.2⟩
     ·refine⟨by omega,by simp only[List.length_cons];omega,a3,?_⟩
      rw[hs a1];exact a4
    ·rintro⟨a1,a2,a3,a4⟩
     by_cases he:i=k
     ·exact .inl he
     ·refine .inr ⟨by omega,by simp only[List.length_cons] at a2;omega,a3,?_⟩
      rw[hs Z.o] at a4;exact a4
   ·rename_i h1
    rw[ih];constructor
    ·rintro⟨a1,a2,a3,a4⟩
     refine⟨by omega,by simp only[List.length_cons];omega,a3,?_⟩;rw[hs a1];exact a4
    ·rintro⟨a1,a2,a3,a4⟩
     have he:i≠k:=λhe=>h1 (hc.2 ⟨by rw[<- he];exact a3,by subst he;simpa using a4⟩);refine⟨by omega,by simp only[List.length_cons] at a2;omega,a3,?_⟩;rw[hs Z.o] at a4;exact a4
theorem fM{w:A8}{P:Program}{el:List Nat}{K:AA->A7->Prop}{o:Ad}{l:List Ad}{a:AA}{h:A7}:CK w P el K (o::l) a h=CK w P el (CK w P el K l) [o] a h:=rfl
theorem Kt:∀(n:Nat) (l:List Nat),l.Nodup->(∀i,i∈l->i<n)->l.length<=n
 | 0,l,_,h2=>by
   cases l with
   | nil=>exact Nat.le_refl _
   | cons a b=>have:=h2 a List.mem_cons_self;omega
 | n+1,l,h1,h2=>by
   have h3:=Kt n (l.erase n) (h1.erase n) λi hi=>by
    have:=(List.Nodup.mem_erase_iff h1).1 hi;have:=h2 i this.2;omega
   by_cases hm:n∈l
   ·have:=List.length_erase_of_mem hm;omega
   ·rw[List.erase_of_not_mem hm] at h3;omega
theorem UA(al:List Ad)(m:Nat->Bool)(hm:∀i,m i=false):∀(R:List Nat) (vs:List AV) (a:AA),stE al m R vs a=a
 | [],vs,a=>by unfold stE;rfl
 | i::r,[],a=>by unfold stE;rfl
 | i::r,v::vs,a=>by
   unfold stE
   have e:Aj a (Kq al i) (pick (m i) v (U6 a (Kq al i)))=a:=by
    rw[hm i];unfold pick
    cases Kq al i with
    | none=>rfl
    | some d =>
      show a.set d (a.getD d (.tuple []))=a;apply List.ext_getElem?;intro j;rw[List.getElem?_set];split
      ·rename_i hj
       subst hj;split
       ·rename_i hl
        rw[List.getD_eq_getElem?_getD,List.getElem?_eq_getElem hl];rfl
       ·rename_i hl
        rw[List.getElem?_eq_none Z.o]
      ·rfl
   rw[e];exact UA al m hm r vs a
theorem UB{P:Program}{el:List Nat}{K':AA->A7->Prop}{al:List Ad}{deps:List (List Nat)}{J:AA->A7->Prop}(hn:deps.length=al.length):∀(E d:List Nat) (f:Nat) (a:AA) (h:A7),Gj deps d E=true->E.length<=f->CK std P el J (Kr al E) a h->(∀a h,J a h->Bg P K' al deps (f-E.length) (E.reverse++d) a h)->Bg P K' al deps f d a h
 | [],d,f,a,h,_,_,H,HJ=>HJ a h H
 | i::r,d,f,a,h,hb,hf,H,HJ=>by
   unfold Gj at hb;rw[Bool.and_eq_true] at hb;obtain⟨hb,vg⟩:=hb
   cases hr:Ay d 0 deps with
   | nil=>rw[hr] at hb;cases hb
   | cons j l =>
     rw[hr] at hb
     cases l with
     | cons _ _=>cases hb
     | nil =>
       have hb:=Nat.eq_of_beq_eq_true hb;subst hb;have hj:=(Iz (d:=d) (deps:=deps) (k:=0) (i:=j)).1 (by rw[hr];exact List.mem_singleton.2 rfl);obtain⟨o,ho⟩:∃o,al[j]?=some o:=⟨_,List.getElem?_eq_getElem (show j<al.length by omega)⟩
       cases f with
       | zero=>simp at hf
       | succ f =>
         unfold Bg;rw[hr];show (match al[j]? with|some o=>Ck P (Bg P K' al deps f (j::d)) [o] a h|none=>False);unfold Kr at H;rw[ho] at H ⊢;simp only[List.cons_append,List.nil_append] at H ⊢;rw[fM] at H;refine Eb (λx y kz=>?_) H;refine UB hn r (j::d) f x y vg (by simp at hf;omega) kz λa h hJ=>?_;have:=HJ a h hJ;simpa[Nat.add_sub_add_right] using this
theorem fO{P:Program}{el:List Nat}{K K':AA->A7->Prop}(hk:∀a h,K a h->K' a h){al:List Ad}{deps:List (List Nat)}{E R:List Nat}{a:AA}{h:A7}(hl:ltB E deps al.length=true)(hR:Ma E al.length=R)(hEn:E.Nodup)(hEl:∀i,i∈E->i<al.length)(hEc:∀i,i∈E->∀j,j∈deps.getD i []->j∈E)(H:CJ std P el K al deps E R a h) :
 Bg P K' al deps (al.length-E.length) E.reverse a h:=by
 obtain⟨vals,hp,hh,lX,nC⟩:=H;unfold ltB at hl;rw[Bool.and_eq_true,List.all_eq_true] at hl;obtain⟨zo,wW⟩:=hl;have zo:=Nat.eq_of_beq_eq_true zo
 have kS:∀i,i<al.length->i ∉ E->∀j,j∈deps.getD i []->j∈E\/j<i:=λi hi uW j hj=>by
  have:=wW i (List.mem_range.2 hi);rw[Bool.or_eq_true] at this;rcases this with h|this
  ·exact absurd (Ca.1 h) uW
  rw[List.all_eq_true] at this;have h:=this j hj;rw[Bool.or_eq_true,Nat.blt_eq] at h;exact h.imp Ca.1 id
 have hRm:∀j,j∈R↔j<al.length/\j ∉ E:=λj=>by
  rw[<- hR];unfold Ma;rw[List.mem_filter,List.mem_range];constructor
  ·rintro⟨h1,h2⟩;exact⟨h1,λh3=>by rw[Ca.2 h3] at h2;cases h2⟩
  ·rintro⟨h1,h2⟩
   refine⟨h1,?_⟩
   cases hm:Aa E j with
   | false=>rfl
   | true=>exact absurd (Ca.1 hm) h2
 have key:∀(f:Nat) (d:List Nat),d.Nodup->(∀i,i∈d->i<al.length)->(∀i,i∈E->i∈d)->(∀i,i∈d->∀j,j∈deps.getD i []->j∈d)->f+d.length=al.length ->
  Bg P K' al deps f d (stE al (λj=>match Aa E j with|true=>false|false=>Aa d j) R vals a) (hp (λj=>match Aa E j with|true=>false|false=>Aa d j)):=by
  intro f
  induction f with
  | zero =>
    intro d hdn uH hdE sI hf;unfold Bg
    have hr:Ay d 0 deps=[]:=by
     cases hr:Ay d 0 deps with
     | nil=>rfl
     | cons i r =>
       have hi:=(Iz (d:=d) (deps:=deps) (k:=0) (i:=i)).1 (by rw[hr];exact List.mem_cons_self)
       have:=Kt al.length (i::d) (List.nodup_cons.2 ⟨hi.2.2.1,hdn⟩) λx hx=>by
        rcases List.mem_cons.1 hx with rfl|hx
        ·omega
        ·exact uH x hx
       simp only[List.length_cons] at this;omega
    rw[hr];simp only[List.isEmpty_nil,if_true]
    have kT:∀i,i<al.length->i∈d:=λi hi=>by
     apply Classical.byContradiction;intro uW
     have:=Kt al.length (i::d) (List.nodup_cons.2 ⟨uW,hdn⟩) λx hx=>by
      rcases List.mem_cons.1 hx with rfl|hx
      ·exact hi
      ·exact uH x hx
     simp only[List.length_cons] at this;omega
    have hm:(λj=>match Aa E j with|true=>false|false=>Aa d j)=Aa R:=by
     funext j
     cases hE:Aa E j with
     | true =>
       cases hj:Aa R j with
       | false=>rfl
       | true=>exact absurd (Ca.1 hE) ((hRm j).1 (Ca.1 hj)).2
     | false =>
       show Aa d j=Aa R j
       cases hj:Aa R j with
       | true=>exact Ca.2 (kT j ((hRm j).1 (Ca.1 hj)).1)
       | false =>
         cases hj2:Aa d j with
         | false=>rfl
         | true =>
           have:j∈R:=(hRm j).2 ⟨uH j (Ca.1 hj2),λh=>by rw[Ca.2 h] at hE;cases hE⟩;rw[Ca.2 this] at hj;cases hj
    rw[hm];exact hk _ _ nC
  | succ f ih =>
    intro d hdn uH hdE sI hf;unfold Bg
    have kv:Ay d 0 deps≠[]:=by
     intro hr
     have kT:∀k i,i<k->i<al.length->i∈d:=by
      intro k
      induction k with
      | zero=>intro i hi;omega
      | succ k ihk =>
        intro i hi yC;apply Classical.byContradiction;intro uW
        have:i∈Ay d 0 deps:=(Iz (d:=d) (deps:=deps) (k:=0) (i:=i)).2 ⟨Nat.zero_le _,by omega,uW,λj hj=>by
         rw[Nat.sub_zero] at hj;rcases kS i yC (λh=>uW (hdE i h)) j hj with h|h
         ·exact hdE j h
         ·exact ihk j Z.o Z.o⟩
        rw[hr] at this;cases this
     have lD:List.range al.length ⊆ d:=λx hx=>kT al.length x (List.mem_range.1 hx) (List.mem_range.1 hx);have:=(List.nodup_range (n:=al.length)).length_le_of_subset lD;rw[List.length_range] at this;omega
    cases hr:Ay d 0 deps with
    | nil=>exact absurd hr kv
    | cons i0 r =>
      simp only[List.isEmpty_cons,Bool.false_eq_true,if_false];rw[<- hr];refine PO λi hi=>?_;have hi2:=(Iz (d:=d) (deps:=deps) (k:=0) (i:=i)).1 hi;rw[Nat.sub_zero] at hi2;have yC:i<al.length:=(by omega);have hiR:i∈R:=(hRm i).2 ⟨yC,λh=>hi2.2.2.1 (hdE i h)⟩;have h4:=U7 lX i hiR (λj=>match Aa E j with|true=>false|false=>Aa d j)
      have hiE:Aa E i=false:=by
       cases hm:Aa E i with
       | false=>rfl
       | true=>exact absurd (hdE i (Ca.1 hm)) hi2.2.2.1
      have lL:∀j,Aa (G8 E deps i) j=true->Aa E j=false/\Aa d j=true:=λj hj=>by
       have hj:=Ca.1 hj;unfold G8 at hj;rw[List.mem_filter] at hj;refine⟨by simpa using hj.2,Ca.2 (hi2.2.2.2 j hj.1)⟩
      have hsc:∀j,Aa (G7 R deps i) j=true->Aa d j=false:=λj hj=>by
       have hj:=Ca.1 hj;unfold G7 at hj;rw[List.mem_filter] at hj
       cases hm:Aa d j with
       | false=>rfl
       | true=>exact absurd (sI j (Ca.1 hm) i (Ca.1 hj.2)) hi2.2.2.1
      have e0:I5 i (G8 E deps i) (G7 R deps i) (λj=>match Aa E j with|true=>false|false=>Aa d j) false=(λj=>match Aa E j with|true=>false|false=>Aa d j):=by
       funext j
       unfold I5
       cases hb:Nat.beq j i with
       | true =>
         have hb:=Nat.eq_of_beq_eq_true hb;subst hb;rw[hiE];show false=Aa d j
         cases hm:Aa d j with
         | false=>rfl
         | true=>exact absurd (Ca.1 hm) hi2.2.2.1
       | false =>
         cases hm:Aa (G8 E deps i) j with
         | false =>
           cases hq:Aa (G7 R deps i) j with
           | false=>rfl
           | true=>rw[hsc j hq];cases Aa E j<;>rfl
         | true=>rw[(lL j hm).1,(lL j hm).2]
      have e1:I5 i (G8 E deps i) (G7 R deps i) (λj=>match Aa E j with|true=>false|false=>Aa d j) true=(λj=>match Aa E j with|true=>false|false=>Aa (i::d) j):=by
       funext j
       unfold I5
       cases hb:Nat.beq j i with
       | true =>
         have hb:=Nat.eq_of_beq_eq_true hb;subst hb;rw[hiE];show true=Aa (j::d) j;exact(Ca.2 List.mem_cons_self).symm
       | false =>
         have uD:Nat.beq i j=false:=by
          cases hx:Nat.beq i j with
          | false=>rfl
          | true=>have:=Nat.eq_of_beq_eq_true hx;subst this;rw[hx] at hb;cases hb
         have qD:Aa (i::d) j=Aa d j:=by
          show (match Nat.beq i j with|true=>true|false=>Aa d j)=_;rw[uD]
         rw[qD]
         cases hm:Aa (G8 E deps i) j with
         | false =>
           cases hq:Aa (G7 R deps i) j with
           | false=>rfl
           | true=>rw[hsc j hq];cases Aa E j<;>rfl
         | true=>rw[(lL j hm).1,(lL j hm).2]
      rw[e0,e1] at h4
      cases ho:al[i]? with
      | none=>rw[ho] at h4;exact h4.elim
      | some o =>
        rw[ho] at h4;refine Eb (λx y kz=>?_) h4;rw[kz.1,kz.2];refine ih (i::d) (List.nodup_cons.2 ⟨hi2.2.2.1,hdn⟩) (λx hx=>?_) (λx hx=>List.mem_cons_of_mem _ (hdE x hx)) (λx hx t ht=>?_) (by simp only[List.length_cons];omega)
        ·rcases List.mem_cons.1 hx with rfl|hx
         ·exact yC
         ·exact uH x hx
        ·rcases List.mem_cons.1 hx with rfl|hx
         ·exact List.mem_cons_of_mem _ (hi2.2.2.2 t ht)
         ·exact List.mem_cons_of_mem _ (sI x hx t ht)
 have zH:=Kt al.length E hEn hEl;have:=key (al.length-E.length) E.reverse (List.pairwise_reverse.2 (hEn.imp Ne.symm)) (λi hi=>hEl i (List.mem_reverse.1 hi)) (λi hi=>List.mem_reverse.2 hi) (λi hi j hj=>List.mem_reverse.2 (hEc i (List.mem_reverse.1 hi) j hj)) (by rw[List.length_reverse];omega)
 have hm:(λj=>match Aa E j with|true=>false|false=>Aa E.reverse j)=(λ_=>false):=by
  funext j
  cases hE:Aa E j with
  | true=>rfl
  | false =>
    show Aa E.reverse j=false
    cases hx:Aa E.reverse j with
    | false=>rfl
    | true=>rw[Ca.2 (List.mem_reverse.1 (Ca.1 hx))] at hE;cases hE
 rw[hm,UA al _ (λ_=>rfl),hh] at this;exact this
theorem UC{deps:List (List Nat)}:∀ {E d:List Nat},Gj deps d E=true->E.Nodup/\∀i,i∈E->i<deps.length/\i ∉ d
 | [],d,_=>⟨List.nodup_nil,λi hi=>by cases hi⟩
 | i::r,d,h=>by
   unfold Gj at h;rw[Bool.and_eq_true] at h;obtain⟨h1,h2⟩:=h;obtain⟨k1,k2⟩:=UC h2
   have hi:i<deps.length/\i ∉ d:=by
    cases hr:Ay d 0 deps with
    | nil=>rw[hr] at h1;cases h1
    | cons j l =>
      rw[hr] at h1
      cases l with
      | cons _ _=>cases h1
      | nil =>
        have h1:=Nat.eq_of_beq_eq_true h1;subst h1;have:=(Iz (d:=d) (deps:=deps) (k:=0) (i:=j)).1 (by rw[hr];exact List.mem_singleton.2 rfl);exact⟨by omega,this.2.2.1⟩
   refine⟨List.nodup_cons.2 ⟨λhx=>(k2 i hx).2 List.mem_cons_self,k1⟩,λj hj=>?_⟩;rcases List.mem_cons.1 hj with rfl|hj
   ·exact hi
   ·exact⟨(k2 j hj).1,λhx=>(k2 j hj).2 (List.mem_cons_of_mem _ hx)⟩
theorem UD{deps:List (List Nat)}:∀ {E d:List Nat},Gj deps d E=true->∀i,i∈E->∀j,j∈deps.getD i []->j∈d\/j∈E
 | [],d,_,i,hi,j,hj=>by cases hi
 | i::r,d,h,x,hx,j,hj=>by
   unfold Gj at h;rw[Bool.and_eq_true] at h;obtain⟨h1,h2⟩:=h;rcases List.mem_cons.1 hx with rfl|hx
   ·cases hr:Ay d 0 deps with
    | nil=>rw[hr] at h1;cases h1
    | cons y l =>
      rw[hr] at h1
      cases l with
      | cons _ _=>cases h1
      | nil =>
        have h1:=Nat.eq_of_beq_eq_true h1;subst h1;have:=(Iz (d:=d) (deps:=deps) (k:=0) (i:=y)).1 (by rw[hr];exact List.mem_singleton.2 rfl);rw[Nat.sub_zero] at this;exact .inl (this.2.2.2 j hj)
   ·rcases UD h2 x hx j hj with h|h
    ·rcases List.mem_cons.1 h with rfl|h
     ·exact .inr List.mem_cons_self
     ·exact .inl h
    ·exact .inr (List.mem_cons_of_mem _ h)
theorem AnyQ.sound{P:Program}{el:List Nat}{K K':AA->A7->Prop}{al:List Ad}{deps:List (List Nat)}{a:AA}{h:A7}(hk:∀a h,K a h->K' a h)(H:AnyQ std P el K al deps a h):Bg P K' al deps al.length [] a h:=by
 cases H with
 | mk a' h' H1 H2 =>
   refine Oa (λx y kz=>?_) H1;rw[kz.1,kz.2];exact hk _ _ H2
 | each E R hE hl hR H =>
   have hl':=hl;unfold ltB at hl';rw[Bool.and_eq_true] at hl';have hn:=Nat.eq_of_beq_eq_true hl'.1;obtain⟨k1,k2⟩:=UC hE;have hEl:∀i,i∈E->i<al.length:=λi hi=>by have:=(k2 i hi).1;omega
   refine UB hn E [] al.length a h hE (Kt _ _ k1 hEl) H λa h hJ=>?_;rw[List.append_nil];exact fO hk hl hR k1 hEl (λi hi j hj=>(UD hE i hi j hj).resolve_left (λh=>by cases h)) hJ
 | sets vals hp hh hc lX nC =>
   obtain⟨st,est⟩:∃st:(Nat->Bool)->AA,st=λm=>stT m 0 al vals a:=⟨_,rfl⟩;have ha:st (Aa [])=a:=(by rw[est];exact U8 _ _ _ _);have lX:Jq (G6 deps al.length [[]]) λd=>FW (Ay d 0 deps) λi=>match al[i]? with|some o=>CK std P el (λx y=>x=st (Aa (i::d))/\y=hp (Aa (i::d))) [o] (st (Aa d)) (hp (Aa d))|none=>False:=by rw[est];exact lX
   have nC:Jq (G6 deps al.length [[]]) λd=>match Ay d 0 deps with|[]=>K (st (Aa d)) (hp (Aa d))|_::_=>True:=by rw[est];exact nC
   clear est;generalize hDs:G6 deps al.length [[]]=Ds at hc lX nC;have h0:[]∈Ds:=(by rw[<- hDs];exact fK _ _);have lX:=PM lX;have nC:=PM nC;unfold U5 at hc;rw[List.all_eq_true] at hc
   have key:∀(f:Nat) (d d0:List Nat),d0∈Ds->Aa d=Aa d0->f+d0.length=al.length->Bg P K' al deps f d (st (Aa d0)) (hp (Aa d0)):=by
    intro f
    induction f with
    | zero =>
      intro d d0 hd hm hl;have h1:=hc d0 hd;have h2:=nC d0 hd;unfold Bg;rw[U9 hm]
      cases hr:Ay d0 0 deps with
      | nil=>rw[hr] at h2;exact hk _ _ h2
      | cons i r =>
        rw[hr] at h1;simp only[Bool.and_eq_true,Nat.blt_eq] at h1;omega
    | succ f ih =>
      intro d d0 hd hm hl;have h1:=hc d0 hd;have h2:=nC d0 hd;have h3:=lX d0 hd;unfold Bg;rw[U9 hm]
      cases hr:Ay d0 0 deps with
      | nil=>rw[hr] at h2;exact hk _ _ h2
      | cons i r =>
        rw[hr] at h1 h3;simp only[Bool.and_eq_true] at h1;simp only[List.isEmpty_cons,Bool.false_eq_true,if_false];have kT:=h1.2;rw[List.all_eq_true] at kT;refine PO λj hj=>?_;have h4:=L8 h3 j hj;have h5:=kT j hj;rw[List.any_eq_true] at h5;obtain⟨e,he,h6⟩:=h5;simp only[Bool.and_eq_true] at h6;obtain⟨h6,h7,h8⟩:=h6;have h6:=Nat.eq_of_beq_eq_true h6;have hme:=fJ h7 h8
        cases ho:al[j]? with
        | none=>rw[ho] at h4;exact h4.elim
        | some o =>
          rw[ho] at h4;refine Eb (λx y kz=>?_) h4;rw[kz.1,kz.2,hme];refine ih (j::d) e he ?_ Z.o;rw[<- hme];funext x
          unfold Aa;rw[hm]
   have:=key al.length [] [] h0 rfl (by simp);rw[ha,hh] at this;exact this
theorem FU{P:Program}{F el:List Nat}{n:Nat}{code:Code}{c:CY}{Q Q':Aq}{a:AA}{h:A7}(hc:(match Am P code with|some c=>some (CY.plain c)|none=>none)=some c)(hd:CW P code=true)(hq:∀e a h,Q e a h->Q' e a h)(H:vcS std P F el n c Q a h):AWp P n code Q' a h:=by
 split at hc
 ·rename_i x hx
  simp only[Option.some.injEq] at hc;subst hc;exact CQ hx hd (C9 hq H)
 ·cases hc
theorem JV{P:Program}{F el:List Nat}{n:Nat}:∀ {code:Code} {c:CY} {Q Q':Aq} {a:AA} {h:A7},BV P F code=some c->Ea P F code=true->(∀e a h,Q e a h->Q' e a h)->vcS std P F el n c Q a h->AWp P n code Q' a h
 | .seq x y,c,Q,Q',a,h,hc,hd,hq,H=>by
   simp only[BV] at hc;split at hc
   ·rename_i p q hp rZ
    simp only[Option.some.injEq] at hc;subst hc;simp only[Ea,Bool.and_eq_true] at hd;refine AWp.seq (JV hp hd.1 (λe a h hr=>?_) H)
    cases e with
    | normal=>exact JV rZ hd.2 hq hr
    | _=>exact hq _ _ _ hr
   ·cases hc
 | .region id ops true,c,Q,Q',a,h,hc,hd,hq,H=>by
   simp only[BV] at hc;simp only[Ea] at hd
   cases hm:Aa F id with
   | true =>
     simp only[hm] at hc hd;split at hc
     ·rename_i al oF
      simp only[Option.some.injEq] at hc;subst hc;exact AWp.any hd oF (AnyQ.sound (λa h hr=>hq _ _ _ hr) H)
     ·cases hc
   | false =>
     simp only[hm] at hc hd;exact FU (F:=F) hc hd hq H
 | .region id ops false,c,Q,Q',a,h,hc,hd,hq,H=>FU (F:=F) hc hd hq H
 | .skip,c,Q,Q',a,h,hc,hd,hq,H=>FU (F:=F) hc hd hq H
 | .ret,c,Q,Q',a,h,hc,hd,hq,H=>FU (F:=F) hc hd hq H
 | .exit id,c,Q,Q',a,h,hc,hd,hq,H=>FU (F:=F) hc hd hq H
 | .cond x p q,c,Q,Q',a,h,hc,hd,hq,H=>FU (F:=F) hc hd hq H
 | .block id x,c,Q,Q',a,h,hc,hd,hq,H=>by
   simp only[BV] at hc;split at hc
   ·rename_i y hy
    simp only[Option.some.injEq] at hc;subst hc;simp only[Ea] at hd;refine AWp.block (JV hy hd (λe a h hr=>?_) H)
    cases e with
    | exit i =>
      simp only[GD] at hr ⊢;split<;>rename_i hi
      ·rw[if_pos hi] at hr;exact hq _ _ _ hr
      ·rw[if_neg hi] at hr;exact hq _ _ _ hr
    | _=>exact hq _ _ _ hr
   ·cases hc
 | .loop x,c,Q,Q',a,h,hc,hd,hq,H=>by
   simp only[BV] at hc;split at hc
   ·rename_i y hy
    simp only[Option.some.injEq] at hc;subst hc;simp only[Ea] at hd;obtain⟨H⟩:=H;exact(H x hy hd).mono hq
   ·cases hc
 | .rangeFunc _ _ _ _,c,Q,Q',a,h,hc,hd,hq,H=>FU (F:=F) hc hd hq H
 | .scope _,c,Q,Q',a,h,hc,hd,hq,H=>FU (F:=F) hc hd hq H
 | .label _,c,Q,Q',a,h,hc,hd,hq,H=>FU (F:=F) hc hd hq H
 | .goto _,c,Q,Q',a,h,hc,hd,hq,H=>FU (F:=F) hc hd hq H
 | .refuse _,c,Q,Q',a,h,hc,hd,hq,H=>FU (F:=F) hc hd hq H
theorem KU.dataN{F:List Nat}{P:Program}{n:Nat}{w:A8}(hw:w=std){c:CY}{Q:Aq}{a:AA}{h:A7}{S:Type}(st:S->AA)(hp:S->A7)(inv:S->Prop)(m:S->Nat)(s0:S)(hwk:Wk n a h (st s0) (hp s0))(h0:inv s0)
 (round:∀s,inv s->∀Q':Aq,(∀s' a1 h1,Wk n a1 h1 (st s') (hp s')->inv s'->m s'<m s->Q' .normal a1 h1)->(∀k a1 h1,Q (.exit k) a1 h1->Q' (.exit k) a1 h1)->(∀a1 h1,Q .ret a1 h1->Q' .ret a1 h1)->vcS w P F (Ic [] c) n c Q' (st s) (hp s)):KU F P n c Q a h:=by
 subst hw;refine⟨λcode hc hd=>?_⟩;refine AWp.pre hwk (AWp.loop (λa h=>∃s,st s=a/\hp s=h/\inv s) (GX st hp inv m) ⟨s0,rfl,rfl,h0⟩ λa h hI=>?_);obtain⟨s,rfl,rfl,h1,h2⟩:=OI (m:=m) hI
 have:=JV (Q':=Dw (NA n (λa h=>∃s,st s=a/\hp s=h/\inv s) (GX st hp inv m) (GX st hp inv m (st s) (hp s))) Q) hc hd (λe a h hr=>hr) (round s h1 _ (λs' a1 h1 k1 k2 k3=>⟨_,_,k1,⟨s',rfl,rfl,k2⟩,by
  rw[<- h2];exact Nat.lt_of_le_of_lt (OJ k2) k3⟩) (λk a1 h1 hq=>hq) (λa1 h1 hq=>hq))
 refine AWp.post this λe a2 h2 hq=>?_
 cases e with
 | normal =>
   obtain⟨a3,h3,w3,i3,m3⟩:=hq;exact⟨a3,h3,w3,i3,m3⟩
 | _=>exact⟨a2,h2,Wk.refl _ _ _,hq⟩
theorem AJ.ofP {P : Program} {F : List Nat} {g : FuncId} {fn : Func} {code : Code} {sc : CY} {r : List DT} {args : List AV} {h : A7} {K : AV → A7 → Prop} (hf : P.funcs[g]? = some fn) (hname : (fn.name == "runtime.NumGoroutine") = false) (hb : fn.body = some code) (hr : Gy P fn.results.toList = some r)
 (hc:BV P F code=some sc) (lL:Ea P F code=true) (H:∀w,w=std->vcS w P F (Ic [] sc) h.length sc (KS r K) (DU args fn.ntmps) h):AJ P g args h K:=by
 have HA:AWp P h.length code (KT r K) (DU args fn.ntmps) h:=JV hc lL (λe a h hr=>Lp e a h hr) (H std rfl);refine⟨⟨fn,hf,by simp[hb],hname⟩,λC vs hC RC hv=>?_⟩;refine calls_of_wp hf hb ?_;refine wp_mono (HA C _ hC (JC RC hv fn.ntmps) (Nat.le_refl _)) λe act' w' ⟨a',D,h1,h2,h3,h4,h5⟩=>?_
 have fin:(∃l,Cm a' D.h r=some l/\K (Cb l) D.h)->act'.defers=[]/\∃v,(results fn act'.tmps).run P w' = .ok v w' /\
  ∃v' r D,Ending.returned v = .returned v'/\K r D.h/\D.w=w'/\Rel D/\VR D r v'/\Ext h.length C D/\h.length<=D.h.length:=by
  rintro⟨l,hl,hK⟩
  obtain⟨u,k1,k2⟩:=JB hr h3 hl;subst h2;exact⟨h3.nodef,u,k1,u,_,D,rfl,hK,rfl,h3.rel,k2,h4,h5⟩
 cases e with
 | normal=>exact fin h1
 | ret=>exact fin h1
 | exit id=>exact h1.elim
 | goto l=>exact h1.elim
 | panic c=>exact h1.elim
 | outgrown=>exact h1.elim
def UE(deps:List (List Nat)):Nat->List Nat->List Nat
 | 0,_=>[]
 | f+1,d=>match Ay d 0 deps with|[j]=>j::UE deps f (j::d)|_=>[]
theorem AnyQ.e{w:A8}{P:Program}{el:List Nat}{K:AA->A7->Prop}{al:List Ad}{deps:List (List Nat)}{a:AA}{h:A7}(E:List Nat)(hE:UE deps al.length []=E)(R:List Nat)(hR:Ma E al.length=R)(hb:(Gj deps [] E && ltB E deps al.length)=true)
 (H:CK w P el (λa h=>CJ w P el K al deps E R a h) (Kr al E) a h):AnyQ w P el K al deps a h:=by
 rw[Bool.and_eq_true] at hb;exact .each E R hb.1 hb.2 hR H
end Go.Eng
