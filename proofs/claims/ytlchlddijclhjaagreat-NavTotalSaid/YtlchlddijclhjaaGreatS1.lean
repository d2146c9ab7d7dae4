/- Parts of the proofs. -/
import Derived.Laws.StructEq
import Derived.ChangeKeysEq
import Derived.Test.YtlchlddijclhjaaGreatS0
set_option linter.unusedVariables false
set_option linter.unusedSimpArgs false
namespace Go.Eng
open Go Go.RowKit
variable {P:Program}
theorem k9A{xs ys:List AV}:∀ {a b:List (Nat×Nat)} {r:Bool},k0O xs ys (a++b)=some r->∃p q,k0O xs ys a=some p/\k0O xs ys b=some q/\r=(p && q)
 | [],b,r,h=>⟨true,r,rfl,h,by simp⟩
 | (o,qq)::a,b,r,h=>by
   simp only[List.cons_append,k0O] at h;split at h
   ·rename_i x y hx hy
    simp only[Option.some.injEq] at h;obtain⟨p,q,h1,h2,h3⟩:=k9A hy;exact⟨x && p,q,by simp only[k0O,hx,h1],h2,by rw[<- h,h3,Bool.and_assoc]⟩
   ·cases h
theorem k7T{xs ys:List AV}{base k:Nat}:∀ {os:List (Nat×Nat)},(∀o,o∈os->o.1<k)->k0O xs ys (kEG base os)=k0O ((xs.drop base).take k) ((ys.drop base).take k) os
 | [],_=>rfl
 | (o,qq)::os,h=>by
   have ho:o<k:=h (o,qq) (by simp);have ih:=k7T (xs:=xs) (ys:=ys) (base:=base) (k:=k) (os:=os) (λo' h'=>h o' (by simp[h']))
   have e:∀l:List AV,((l.drop base).take k).getD o .any=l.getD (base+o) .any:=λl=>by
    rw[List.getD_eq_getElem?_getD,List.getElem?_take,if_pos ho,List.getElem?_drop,List.getD_eq_getElem?_getD]
   unfold kEG at ih ⊢;simp only[List.map_cons,k0O,ih,e]
def q2V(P:Program)(m:Nat)(t:TypeId):Prop:=
 ∀(d:Nat) (os:List (Nat×Nat)) (xs ys:List AV) (r:Bool) (c:Cfg) (g:Bool) (k:Nat) (a b:Value),m<=d->k1J P m t=some os->k0O xs ys os=some r->k19 P t=some g->k3O P t=some k->(g=true\/k=1)->xs.length=k->ys.length=k ->
  VR c (k1S g k xs 0) a->VR c (k1S g k ys 0) b->(Op.equalIn d t a b).run P c.w = .ok r c.w
theorem kW4{m:Nat}{t:TypeId}{os:List (Nat×Nat)}(hu:P.underlying t=some .bool\/(∃k,P.underlying t=some (.int k))\/P.underlying t=some .string)(hos:k1J P (m+1) t=some os) :
 k19 P t=some false/\((os=[(0,0)]/\P.underlying t=some .bool)\/(os=[(0,1)]/\∃k,P.underlying t=some (.int k))\/(os=[(0,2)]/\P.underlying t=some .string)):=by
 unfold k1J at hos;unfold k19;rcases hu with hu|⟨k,hu⟩|hu<;>rw[hu] at hos ⊢ <;> simp only[Option.some.injEq] at hos
 ·exact⟨rfl,.inl ⟨hos.symm,rfl⟩⟩
 ·exact⟨rfl,.inr (.inl ⟨hos.symm,k,rfl⟩)⟩
 ·exact⟨rfl,.inr (.inr ⟨hos.symm,rfl⟩)⟩
theorem kB1{m d:Nat}{c:Cfg}{xs ys:List AV}{va vb:Array Value}(hva:VRs c xs va)(hvb:VRs c ys vb)(hd:m<=d)(IH:∀t,q2V P m t)(zE:xs.length=ys.length):∀ {fs:List Field} {os:List (Nat×Nat)} {r:Bool},
 k5N (λu=>match k1J P m u,k3O P u with|some os,some k=>if os.all (λo=>decide (o.1<k))=true/\(k19 P u=some true\/k=1) then some os else none|_,_=>none) fs=some os ->
 (∀f,f∈fs->∀k,k3O P f.type=some k->f.offset+k<=xs.length)->k0O xs ys os=some r->(Op.eqFields d va vb fs).run P c.w = .ok r c.w
 | [],os,r,h,_,he=>by
   simp only[k5N,Option.some.injEq] at h;subst h;simp only[k0O,Option.some.injEq] at he;subst he;simp[Op.eqFields]
 | f::fs,os,r,h,hb,he=>by
   simp only[k5N] at h;split at h
   ·rename_i la lb ha hb'
    split at h
    ·rename_i hname
     simp only[Option.some.injEq] at h;subst h;obtain⟨p,q,h1,h2,h3⟩:=k9A he;split at ha
     ·rename_i os' k hos hk
      split at ha
      ·rename_i hcond
       simp only[Option.some.injEq] at ha;subst ha;obtain⟨hlt,hgk⟩:=hcond;have hlt':∀o,o∈os'->o.1<k:=λo ho=>(by simpa using List.all_eq_true.1 hlt o ho);have hbd:=hb f (by simp) k hk;rw[k7T hlt'] at h1
       have hg:∃g,k19 P f.type=some g/\(g=true\/k=1):=by
        cases hag:k19 P f.type with
        | none =>
          exfalso;unfold k19 at hag;split at hag<;>simp at hag
          rename_i yM
          cases m with
          | zero=>simp[k1J] at hos
          | succ m=>unfold k1J at hos;rw[yM] at hos;simp at hos
        | some g=>exact⟨g,rfl,by rcases hgk with h|h;· rw[hag] at h;simp at h;exact .inl h
                                 ·exact .inr h⟩
       obtain⟨g,hg,hgk'⟩:=hg;obtain⟨ca,p1,v1⟩:=k4I (P:=P) c hg hk hgk' hva f.offset hbd;obtain⟨cb,p2,v2⟩:=k4I (P:=P) c hg hk hgk' hvb f.offset (by omega)
       have e:∀l:List AV,k1S g k ((l.drop f.offset).take k) 0=k1S g k l f.offset:=λl=>by
        cases g with
        | true=>simp[k1S,List.take_take]
        | false =>
          have:k=1:=(by simpa using hgk');subst this;simp[k1S,List.getD_eq_getElem?_getD,List.getElem?_take,List.getElem?_drop]
       have h4:=IH f.type d os' _ _ p c g k ca cb hd hos h1 hg hk hgk' (by simp;omega) (by simp;omega) (by rw[e];exact v1) (by rw[e];exact v2);have h5:=kB1 (fs:=fs) hva hvb hd IH zE hb' (λf' hf'=>hb f' (by simp[hf'])) h2;subst h3;simp only[Op.eqFields,hname,ne_eq,not_false_eq_true,if_true,Sem.run_bind,p1,p2,h4,Result.andThen_ok]
       cases p<;>simp[h5]
      ·cases ha
     ·cases ha
    ·cases h
   ·cases h
theorem kCD{m d:Nat}{c:Cfg}{e:TypeId}{xs ys:List AV}{va vb:Array Value}(hva:VRs c xs va)(hvb:VRs c ys vb)(hd:m<=d)(IH:q2V P m e)(zE:xs.length=ys.length){os':List (Nat×Nat)}{k:Nat}{g:Bool}(hos:k1J P m e=some os')(hk:k3O P e=some k)
 (hg:k19 P e=some g) (hgk:g=true\/k=1) (hlt:∀o,o∈os'->o.1<k):∀ {is:List Nat} {r:Bool},(∀i,i∈is->i*k+k<=xs.length)->k0O xs ys (is.flatMap λi=>kEG (i*k) os')=some r->(Op.eqItems d e (P.cellsOf e) va vb is).run P c.w = .ok r c.w
 | [],r,_,he=>by
   simp only[List.flatMap_nil,k0O,Option.some.injEq] at he;subst he;simp[Op.eqItems]
 | i::is,r,hb,he=>by
   rw[List.flatMap_cons] at he;obtain⟨p,q,h1,h2,h3⟩:=k9A he;rw[k7T hlt] at h1;have hbd:=hb i (by simp);have hcell:P.cellsOf e=k:=(by unfold Program.cellsOf;unfold k3O at hk;rw[hk];rfl);obtain⟨ca,p1,v1⟩:=k4I (P:=P) c hg hk hgk hva (i*k) hbd;obtain⟨cb,p2,v2⟩:=k4I (P:=P) c hg hk hgk hvb (i*k) (by omega)
   have e1:∀l:List AV,k1S g k ((l.drop (i*k)).take k) 0=k1S g k l (i*k):=λl=>by
    cases g with
    | true=>simp[k1S,List.take_take]
    | false =>
      have:k=1:=(by simpa using hgk);subst this;simp[k1S,List.getD_eq_getElem?_getD,List.getElem?_take,List.getElem?_drop]
   have h4:=IH d os' _ _ p c g k ca cb hd hos h1 hg hk hgk (by simp;omega) (by simp;omega) (by rw[e1];exact v1) (by rw[e1];exact v2);have h5:=kCD (is:=is) hva hvb hd IH zE hos hk hg hgk hlt (λj hj=>hb j (by simp[hj])) h2;subst h3;simp only[Op.eqItems,hcell,Sem.run_bind,p1,p2,h4,Result.andThen_ok] at h5 ⊢
   cases p<;>simp[h5]
theorem q1F(P:Program):∀(m:Nat) (t:TypeId),q2V P m t
 | 0,t=>λd os xs ys r c g k a b hd hl=>by simp[k1J] at hl
 | m+1,t=>by
   intro d os xs ys r c g k a b hd hl he hg hk hgk hx hy va vb;obtain⟨d,rfl⟩:∃d',d=d'+1:=⟨d-1,by omega⟩
   have leaf:(P.underlying t=some .bool\/(∃k,P.underlying t=some (.int k))\/P.underlying t=some .string)->(Op.equalIn (d+1) t a b).run P c.w = .ok r c.w:=by
    intro hu;obtain⟨hga,hk3⟩:=kW4 hu hl;rw[hga] at hg;cases hg
    simp only[k1S,Bool.false_eq_true,if_false] at va vb
    have key:∀q,k0O xs ys [(0,q)]=some r->eqA q (xs.getD 0 .any) (ys.getD 0 .any)=some r:=λq h=>by
     simp only[k0O] at h;split at h
     ·rename_i x y hx hy
      simp only[Option.some.injEq] at hy;subst hy;rw[hx];simpa using h
     ·cases h
    rcases hk3 with ⟨rfl,hu⟩|⟨rfl,kk,hu⟩|⟨rfl,hu⟩
    ·have he:=key _ he
     cases hx0:xs.getD 0 .any<;>cases hy0:ys.getD 0 .any<;>rw[hx0,hy0] at he<;>simp only[eqA,Option.some.injEq,reduceCtorEq] at he
     rw[hx0] at va;rw[hy0] at vb;have h1:=va.bool';have h2:=vb.bool';subst h1;subst h2;subst he;exact run_equalIn_bool' c.w d t _ _ hu
    ·have he:=key _ he
     cases hx0:xs.getD 0 .any<;>cases hy0:ys.getD 0 .any<;>rw[hx0,hy0] at he<;>simp only[eqA,Option.some.injEq,reduceCtorEq] at he
     rw[hx0] at va;rw[hy0] at vb;have h1:=va.int';have h2:=vb.int';split at he
     ·rename_i hkk
      subst hkk;simp only[Option.some.injEq] at he;subst h1;subst h2;subst he;exact run_equalIn_int c.w d t _ _ _ _ hu
     ·cases he
    ·have he:=key _ he
     cases hx0:xs.getD 0 .any<;>cases hy0:ys.getD 0 .any<;>rw[hx0,hy0] at he<;>simp only[eqA,Option.some.injEq,reduceCtorEq] at he
     rw[hx0] at va;rw[hy0] at vb;have h1:=va.str';have h2:=vb.str';subst h1;subst h2;subst he;exact run_equalIn_string c.w d t _ _ hu
   unfold k1J at hl;split at hl
   ·rename_i hu;exact leaf (.inl hu)
   ·rename_i k hu;exact leaf (.inr (.inl ⟨k,hu⟩))
   ·rename_i hu;exact leaf (.inr (.inr hu))
   ·rename_i fs hu
    split at hl
    ·rename_i hcond
     have hg':g=true:=(by unfold k19 at hg;rw[hu] at hg;simpa using hg.symm);subst hg';simp only[k1S,if_true,List.drop_zero] at va vb;rw[List.take_of_length_le (by omega)] at va vb;obtain⟨ua,rfl,hua⟩:=va.agg';obtain⟨ub,rfl,hub⟩:=vb.agg';have hfs:P.fieldsOf t=fs:=(by simp[Program.fieldsOf,hu]);rw[run_equalIn_struct c.w d t ua ub (by rw[hfs];exact hu) hcond.1,hfs];refine kB1 hua hub (by omega) (q1F P m) (by omega) hl (λf hf k' hk'=>?_) he;have:=List.all_eq_true.1 hcond.2 f hf;simp only[hk',hk,decide_eq_true_eq] at this;omega
    ·cases hl
   ·rename_i n e hu
    split at hl
    ·rename_i os' k' hos hk'
     split at hl
     ·rename_i hcond
      simp only[Option.some.injEq] at hl;subst hl;have hg':g=true:=(by unfold k19 at hg;rw[hu] at hg;simpa using hg.symm);subst hg';simp only[k1S,if_true,List.drop_zero] at va vb;rw[List.take_of_length_le (by omega)] at va vb;obtain⟨ua,rfl,hua⟩:=va.agg';obtain⟨ub,rfl,hub⟩:=vb.agg';obtain⟨i,hi,_⟩:=k4Z hk';rw[run_equalIn_array c.w d ua ub hu hi];obtain⟨hc1,hc2,hc3⟩:=hcond;simp only[kH9,hk,decide_eq_true_eq] at hc3
      have hge:∃g,k19 P e=some g/\(g=true\/k'=1):=by
       cases hag:k19 P e with
       | none =>
         exfalso;unfold k19 at hag;split at hag<;>simp at hag
         rename_i yM
         cases m with
         | zero=>simp[k1J] at hos
         | succ m=>unfold k1J at hos;rw[yM] at hos;simp at hos
       | some g=>exact⟨g,rfl,by rcases hc2 with h|h;· rw[hag] at h;simp at h;exact .inl h
                                ·exact .inr h⟩
      obtain⟨g,hg2,hgk2⟩:=hge;refine kCD hua hub (by omega) (q1F P m e) (by omega) hos hk' hg2 hgk2 (λo ho=>by simpa using List.all_eq_true.1 hc1 o ho) (λi hi=>?_) he;have:=Nat.mul_le_mul_right k' (show i+1<=n from List.mem_range.1 hi);rw[Nat.succ_mul] at this;omega
     ·cases hl
    ·cases hl
   ·cases hl
theorem k5P(P:Program):∀(m d:Nat) (t:TypeId) (os:List (Nat×Nat)),m<=d->k1J P m t=some os->P.eqGuardType d t=false
 | 0,d,t,os,_,h=>by simp[k1J] at h
 | m+1,d,t,os,hd,h=>by
   obtain⟨d,rfl⟩:∃d',d=d'+1:=⟨d-1,by omega⟩;unfold k1J at h;unfold Program.eqGuardType;split at h
   ·rename_i hu;simp[hu]
   ·rename_i k hu;simp[hu]
   ·rename_i hu;simp[hu]
   ·rename_i fs hu
    split at h
    ·simp only[hu]
     have:∀(fs:List Field) (os:List (Nat×Nat)),k5N (λu=>match k1J P m u,k3O P u with|some os,some k=>if os.all (λo=>decide (o.1<k))=true/\(k19 P u=some true\/k=1) then some os else none|_,_=>none) fs=some os ->
      ∀f,f∈fs->P.eqGuardType d f.type=false:=by
      intro fs
      induction fs with
      | nil=>intro os _ f hf;cases hf
      | cons g fs ih =>
        intro os h f hf;simp only[k5N] at h;split at h
        ·rename_i la lb ha hb
         rcases List.mem_cons.1 hf with rfl|hf
         ·split at ha
          ·rename_i os' k' hos _
           exact k5P P m d _ os' (by omega) hos
          ·cases ha
         ·exact ih lb hb f hf
        ·cases h
     rw[<- Array.any_toList,List.any_eq_false];intro f hf;simp[this _ _ h f hf]
    ·cases h
   ·rename_i n e hu
    simp only[hu];split at h
    ·rename_i os' k' hos _
     exact k5P P m d _ os' (by omega) hos
    ·cases h
   ·cases h
theorem kCU{o:Oper}{ev:k0B->AV}{h:k00}{op:BinOp}{t u:TypeId}{x y:Operand}{x' y':k0B}{n:Nat}{os:List (Nat×Nat)}{K:Res->Prop}(neq:Bool)(hop:op=if neq then .neq else .eql)(ho:o.op = .binOp op t x y u)
 (hag:k19 P t=some true) (hn:k3O P t=some n) (hl:k1J P 8 t=some os) (hx:k0C x=some x') (hy:k0C y=some y') (hK:k0T (.eqs neq n os x' y') ev h K):∃r,K r/\k0A P o ev h r:=by
 simp only[k0T] at hK;split at hK
 ·rename_i a b hxa hyb
  obtain⟨⟨h1,h2⟩,hK⟩:=hK;split at hK
  ·rename_i r hr
   refine⟨_,hK,k0A.val λc e R hs he=>⟨_,?_,.bool _⟩⟩;have va:=(hxa▸he x x' hx:VR c _ (e x));have vb:=(hyb▸he y y' hy:VR c _ (e y));obtain⟨ua,hua,_⟩:=va.agg';obtain⟨ub,hub,_⟩:=vb.agg';have e1:k1S true n a 0 = .agg a:=(by simp[k1S,<- h1]);have e2:k1S true n b 0 = .agg b:=(by simp[k1S,<- h2]);have hq:=q1F P 8 t 10000 os a b r c true n (e x) (e y) (by omega) hl hr hag hn (.inl rfl) h1 h2 (by rw[e1];exact va) (by rw[e2];exact vb)
   have hgd:(eqGuard op t x y (e x) (e y)).run P c.w = .ok () c.w:=by
    rw[hua,hub];refine run_eqGuard_agg c.w op t x y ua ub (k5P P 8 _ t os ?_ hl);unfold Program.depth Made.depth;omega
   rw[hua,hub] at hq hgd
   cases neq<;>simp only[Bool.false_eq_true,if_false,if_true] at hop<;>subst hop
   ·have:=run_eql_struct (P:=P) c.w t ua ub
    rw[hq] at this;simp only[execOp,ho,Sem.run_bind,hua,hub,hgd,Result.andThen_ok,this,Sem.run_pure,Bool.false_eq_true,if_false]
   ·have:=run_neq_struct (P:=P) c.w t ua ub
    rw[hq] at this;simp only[execOp,ho,Sem.run_bind,hua,hub,hgd,Result.andThen_ok,this,Sem.run_pure,if_true]
  ·exact hK.elim
 ·exact hK.elim
end Go.Eng
namespace Go.Eng
open Go Go.RowKit
variable {P:Program} {o:Oper} {ev:k0B->AV} {h:k00}
theorem kHI{c:Cfg}{cs:List AV}{vs:Array Value}(hv:VRs c cs vs)(z:Nat):∀(i:Nat) (e:List AV),[cs][i]?=some e->∀(j:Nat) (x:AV),e[j]?=some x->VR c x (vs.getD (i*z+j) undef):=by
 intro i e hi j x hx
 cases i with
 | zero =>
   simp only[List.getElem?_cons_zero,Option.some.injEq] at hi;subst hi;simpa using hv.2 j x hx
 | succ i=>simp at hi
theorem k0A.fresh{z:Nat}{es:List (List AV)}(sl:Option Nat)(hz:0<z)(zU:∀e,e∈es->e.length=z)
 (H:∀(c:Cfg) (e:Operand->Value),Rel c->kSX h c.h->kJ2 c ev e->∃(nx:Next) (cv:Value) (w:World) (vs:Array Value) (ty:TypeId),(execOp e o).run P c.w = .ok nx (w.alloc (.cells vs ty))/\kES nx=some cv/\w.heap=c.w.heap/\w.os=c.w.os/\w.tape=c.w.tape/\w.output=c.w.output /\
   es.length*z<=vs.size/\(∀(i:Nat) (e:List AV),es[i]?=some e->∀(j:Nat) (x:AV),e[j]?=some x->VR c x (vs.getD (i*z+j) undef)) /\
   (match sl with|none=>cv = .pointer (some ⟨c.w.heap.size,0,none⟩)|some n=>∃cap,cv = .slice (some ⟨c.w.heap.size,0,none⟩) n cap/\n<=cap/\cap*z<=vs.size)):k0A P o ev h (.new sl z es):=by
 intro c e R hs he t h' ht hh;obtain⟨nx,cv,w,vs,ty,hrun,yS,hw1,hw2,hw3,hw4,hsz,hv,hsl⟩:=H c e R hs he;obtain⟨R1,E1⟩:=R.sameHeap hw1 hw2 hw3 hw4 c.h.length;have ht1:¬Cfg.used { c with w:=w } t:=ht;obtain⟨R2,E2⟩:=Rel.fresh R1 t h' z es vs ty c.h.length ht1 hh.1 hh.2 hz zU hsz (λi e hi j x hx=>E1.vr' (hv i e hi j x hx));refine⟨nx,cv,_,hrun,yS,R2,E1.trans E2,rfl,?_⟩;have hu:Cfg.used { c with w:=w.alloc (.cells vs ty),r:=λs=>if s=t then w.heap.size else c.r s,h:=h' } t:=⟨_,hh.1,by simp⟩
 cases sl with
 | none =>
   simp only at hsl;subst hsl;have:=VR.ref (c:={ c with w:=w.alloc (.cells vs ty),r:=λs=>if s=t then w.heap.size else c.r s,h:=h' }) t z 0 0 hu;simpa[hw1,Res.at] using this
 | some n =>
   obtain⟨cap,rfl,hc,hcz⟩:=hsl
   have:=VR.sl (c:={ c with w:=w.alloc (.cells vs ty),r:=λs=>if s=t then w.heap.size else c.r s,h:=h' }) t z 0 n cap hu hc ⟨ty,vs.size,by
    have:=heap_alloc_new w (.cells vs ty);simp only[if_true];unfold World.shape?;rw[this],by simpa using hcz⟩
   obtain⟨z',rfl⟩:∃z',z=z'+1:=⟨z-1,by omega⟩;simpa[hw1,Res.at,Nat.beq] using this
theorem kV2{t:TypeId}{zs:List AV}{k:Nat}(ho:o.op = .alloc t)(hz:k4W P t=some zs)(hl:zs.length=k)(hk:0<k):k0A P o ev h (.new none k [zs]):=by
 refine k0A.fresh none hk (by simp[hl]) λc e R hs he=>?_;obtain⟨z,hz',rfl⟩:=kQ9 c.w hz;refine⟨.value (.pointer (some ⟨c.w.heap.size,0,none⟩)),_,c.w,z.cells,t,by simp[execOp,ho,Instr.alloc,hz',newVar,newRow],rfl,rfl,rfl,rfl,rfl,by simp at hl;simp[hl],kHI (k5F c z.cells) k,rfl⟩
theorem kV8{t:TypeId}{x:Operand}{y:k0B}{z:Nat}{K:Res->Prop}(ho:o.op = .box t x)(hx:k0C x=some y)(hz:0<z)(hK:k0T (.box z y) ev h K):∃r,K r/\k0A P o ev h r:=by
 simp only[k0T] at hK;split at hK
 ·rename_i cs hcs
  obtain⟨⟨h1,h2⟩,hK⟩:=hK;refine⟨_,hK,k0A.fresh none hz (by simp[h1]) λc e R hs he=>?_⟩;have hV:=(he x y hx).cells hcs;exact⟨.value (.pointer (some ⟨c.w.heap.size,0,none⟩)),_,c.w,(e x).cells,t,by simp[execOp,ho,Instr.box,newVar,newRow],rfl,rfl,rfl,rfl,rfl,by simp[hV.1,h1],kHI hV z,rfl⟩
 ·exact hK.elim
theorem Rel.not_own_new{c:Cfg}(R:Rel c):¬c.own c.w.heap.size:=by
 rintro(h|h)
 ·have:=R.olt _ h;omega
 ·have:=R.lown_lt h;omega
theorem k2L(z:Nat):∀(n:Nat) (l:List AV),(k62 z n l).length=n
 | 0,l=>rfl
 | n+1,l=>by simp[k62,k2L z n]
theorem k5C(z:Nat):∀(n:Nat) (l:List AV) (i:Nat),i<n->(k62 z n l)[i]?=some ((l.drop (i*z)).take z)
 | 0,l,i,h=>by omega
 | n+1,l,0,h=>by simp[k62]
 | n+1,l,i+1,h=>by
   simp only[k62,List.getElem?_cons_succ];rw[k5C z n _ i (by omega),List.drop_drop];congr 3
   rw[Nat.succ_mul];omega
theorem k53{i n j z:Nat}(hi:i<n)(hj:j<z):i*z+j<n*z:=by
 have:(i+1)*z<=n*z:=Nat.mul_le_mul_right z hi;rw[Nat.succ_mul] at this;omega
theorem kDM(w:World)(vs:Array Value)(ty:TypeId)(i:Nat)(hi:i<vs.size):(w.alloc (.cells vs ty)).cell? ⟨w.heap.size,i,none⟩=some (vs.getD i undef):=by
 have:=heap_alloc_new w (.cells vs ty);unfold World.cell?;rw[this];simp[hi,Array.getD_eq_getD_getElem?]
theorem k0A.listed{z:Nat}{es:List (List AV)}(zU:∀e,e∈es->e.length=z)
 (H:∀(c:Cfg) (e:Operand->Value),Rel c->kSX h c.h->kJ2 c ev e->∃(cap:Nat) (vs:Array Value) (ty:TypeId),(execOp e o).run P c.w = .ok (.value (.slice (some ⟨c.w.heap.size,0,none⟩) es.length cap)) (c.w.alloc (.cells vs ty))/\es.length<=cap /\
   es.length*z<=vs.size/\(∀(i:Nat) (e:List AV),es[i]?=some e->∀(j:Nat) (x:AV),e[j]?=some x->VR c x (vs.getD (i*z+j) undef))):k0A P o ev h (.val (.list z es)):=by
 intro c e R hs he t h' ht hh;obtain⟨cap,vs,ty,hrun,hcap,hsz,hv⟩:=H c e R hs he;obtain⟨R1,E1⟩:=R.alloc (.cells vs ty) c.h.length;have hh:h'=c.h:=hh;subst hh;refine⟨_,_,_,hrun,rfl,R1,E1,rfl,?_⟩
 exact .list z es ⟨c.w.heap.size,0,none⟩ es.length cap (λi j=>vs.getD (i*z+j) undef) rfl hcap rfl zU (λi j hi hj=>by
  simp only[Nat.zero_add];exact kDM _ _ _ _ (Nat.lt_of_lt_of_le (k53 hi hj) hsz)) (λ_ _=>R.not_own_new) λi e hi j x hx=>E1.vr' (hv i e hi j x hx)
theorem kJE{t e0:TypeId}{parts:Array (Nat×Operand)}{n z:Nat}{zs:List AV}{ps:List (Nat×Nat×k0B)}{K:Res->Prop}(ho:o.op = .buildSlice t n parts)(hu:P.underlying t=some (.slice e0))(hz:k4W P e0=some zs)(hk:k3O P e0=some z)
 (hzl:zs.length=z) (hz0:0<z) (hn0:0<n) (hnz:n*z<=16777216) (hf:k7W (λi=>some (i*z,z)) parts.toList=some ps) (hK:k0T (.bslice z n zs ps) ev h K):∃r,K r/\k0A P o ev h r:=by
 simp only[k0T] at hK;split at hK
 ·rename_i cs hcs
  obtain⟨it,zv,hi,hzz,rfl⟩:=k5E hz;obtain⟨ie,hie,hiz⟩:=k4Z hk;rw[hi] at hie;cases hie
  have hzc:zv.cells.size=z:=by simpa using hzl
  have zE:∀c:Cfg,VRs c (List.replicate n (zv.cells.toList.map AV.ofCell)).flatten ((Array.range (n*z)).map (zv.cells[· % zv.cells.size]!)):=by
   intro c;refine⟨by simp[hzc],λi x hx=>?_⟩
   have hlt:i<n*z:=by
    have:=(List.getElem?_eq_some_iff.1 hx).1;simpa[hzc] using this
   have hmod:i%z<z:=Nat.mod_lt _ hz0
   have hget:∀(m i:Nat),i<m*z->(List.replicate m (zv.cells.toList.map AV.ofCell)).flatten[i]?=some (AV.ofCell (zv.cells.getD (i%z) undef)):=by
    intro m
    induction m with
    | zero=>intro i hi;omega
    | succ m ih =>
      intro i hi;rw[List.replicate_succ,List.flatten_cons];by_cases hiz:i<z
      ·rw[List.getElem?_append_left (by simp[hzc];exact hiz),Nat.mod_eq_of_lt hiz]
       simp[Array.getD_eq_getD_getElem?,show i<zv.cells.size by omega]
      ·rw[List.getElem?_append_right (by simp[hzc];omega),ih]
       ·simp only[List.length_map,Array.length_toList,hzc]
        have hm:(i-z)%z=i%z:=(Nat.mod_eq_sub_mod (Nat.le_of_not_lt hiz)).symm;rw[hm]
       ·simp only[List.length_map,Array.length_toList,hzc]
        rw[Nat.succ_mul] at hi;omega
   rw[hget n i hlt] at hx;simp only[Option.some.injEq] at hx;subst hx
   have:(Array.map (zv.cells[· % zv.cells.size]!) (Array.range (n*z))).getD i undef=zv.cells.getD (i%z) undef:=by
    simp[Array.getD_eq_getD_getElem?,hlt,hzc];simp[hmod,hzc]
   rw[this];exact k56 c _
  have hflat:cs.length=n*z:=by
   have:∀c:Cfg,Rel c->True:=λ_ _=>trivial;have hl0:(List.replicate n (zv.cells.toList.map AV.ofCell)).flatten.length=n*z:=(by simp[hzc]);rw[<- hl0];exact kAX hcs
  refine⟨_,hK,k0A.listed (λe he=>?_) λc e R hs he=>?_⟩
  ·obtain⟨i,hi⟩:=List.mem_iff_getElem?.1 he
   have yH:i<n:=by
    have:=(List.getElem?_eq_some_iff.1 hi).1
    rwa [k2L] at this
   rw[k5C z n cs i yH] at hi;cases hi
   have:(i+1)*z<=n*z:=Nat.mul_le_mul_right z yH;rw[Nat.succ_mul] at this;simp;omega
  ·obtain⟨arr,h1,h2,h3⟩:=kAW he _ hf (zE c) hcs
   have hb:=run_buildSlice (P:=P) c.w t e0 n (parts.map λ(i,x)=>(i,e x)) arr it zv hu hi hzz (by rw[hiz];simp;omega) (by rw[hiz];exact Nat.ne_of_gt (Nat.mul_pos hn0 hz0)) (by rw[hiz];simpa using h1);refine⟨n,arr,e0,by rw[k2L];simp[execOp,ho,hb],by rw[k2L];exact Nat.le_refl _,by rw[k2L,h2.1,hflat];exact Nat.le_refl _,λi e' hi j x hx=>?_⟩
   have yH:i<n:=by
    have:=(List.getElem?_eq_some_iff.1 hi).1
    rwa [k2L] at this
   rw[k5C z n cs i yH] at hi;cases hi
   have hj:j<z:=by
    have:=(List.getElem?_eq_some_iff.1 hx).1;simp at this;omega
   rw[List.getElem?_take,if_pos hj,List.getElem?_drop] at hx;exact h2.2 _ _ hx
 ·exact hK.elim
end Go.Eng
namespace Go.Eng
open Go Go.RowKit
theorem k6U(P:Program)(g off:Nat)(t:TypeId)(fz:Nat×Nat):∀(news:List Value) (i:Nat) (cur:Array Value) (w:World),w.heap[g]?=some (.cells cur t fz)->kFW cur fz->off+i+news.length<=cur.size->(∀v∈news,v.oneCell'=true) ->
 (storeCells ⟨g,off,none⟩ news i).run P w = .ok () (w.setRow g (cur.toList.take (off+i)++news++cur.toList.drop (off+i+news.length)).toArray)
 | [],i,cur,w,hg,_,_,_=>by
   have hs:w.setRow g cur=w:=setRow_self w g cur t fz hg;simp only[storeCells,List.append_nil,List.length_nil,Nat.add_zero,List.take_append_drop,Array.toArray_toList,hs];rfl
 | v::news,i,cur,w,hg,hf,hl,h1=>by
   simp only[List.length_cons] at hl;have hi:off+i<cur.size:=(by omega);have hadd:(⟨g,off,none⟩:Addr).add i=⟨g,off+i,none⟩:=by unfold Addr.add;split<;>simp_all
   have hfro:w.frozen? ⟨g,off+i,none⟩=false:=by
    obtain⟨a,b⟩:=fz;unfold kFW at hf;simp only at hf;simp only[World.frozen?,hg,Bool.and_eq_false_iff,decide_eq_false_iff_not];omega
   have hst:(store ((⟨g,off,none⟩:Addr).add i) v).run P w = .ok () (w.setRow g (cur.setIfInBounds (off+i) v)):=by
    rw[hadd,run_store P w _ v _ (h1 v (by simp)),show w.cell? ⟨g,off+i,none⟩=some cur[off+i] by simp[World.cell?,hg,hi]];simp[hfro,setCell_eq_setRow w g (off+i) cur t fz v hg]
   have hf':kFW (cur.setIfInBounds (off+i) v) fz:=(by unfold kFW at hf ⊢;simpa using hf);have ih:=k6U P g off t fz news (i+1) (cur.setIfInBounds (off+i) v) (w.setRow g (cur.setIfInBounds (off+i) v)) (setRow_heap w g cur _ t _ hg) hf' (by simp;omega) (λx hx=>h1 x (by simp[hx]));simp only[storeCells,Sem.run_bind,hst,Result.andThen_ok,ih,setRow_setRow];congr 2
   have e:=list_seg_step cur.toList (off+i) v news (by simp;omega);simp only[Array.toList_setIfInBounds,List.length_cons];rw[show off+(i+1)=off+i+1 by omega];simpa[Nat.add_assoc,Nat.add_comm,Nat.add_left_comm] using congrArg List.toArray e
variable {P:Program} {o:Oper} {ev:k0B->AV} {h:k00}
theorem k1P{α: Type}{l:List α}{i:Nat}(d: α)(hi:i<l.length):l[i]?=some (l.getD i d):=by simp[List.getD_eq_getElem?_getD,hi]
theorem kPZ{t:TypeId}{a:Operand}{y:k0B}{g:Bool}{k:Nat}{K:Res->Prop}(ho:o.op = .load t a)(ha:k0C a=some y)(hg:k19 P t=some g)(hk:k3O P t=some k)(hgk:g=true\/k=1)(hk0:0<k)
 (hK:k0T (.load g k y) ev h K):∃r,K r/\k0A P o ev h r:=by
 simp only[k0T] at hK;split at hK
 ·rename_i s z i off hy
  split at hK
  ·rename_i z' es hs
   obtain⟨⟨rfl,hi,hok⟩,hK⟩:=hK;refine⟨_,hK,k0A.val λc e R hsub he=>?_⟩;obtain⟨hu,hv⟩:=(hy▸he a y ha:VR c _ (e a)).ref';obtain⟨hz,_,zU,vs,ty,fz,hh,hfz,hsz,hvr⟩:=R.live s z' es (hsub _ _ _ hs) (by omega);have zL:(es.getD i []).length=z':=zU _ (List.mem_of_getElem? (k1P [] hi));have hlt:=k53 (i:=i) (n:=es.length) (z:=z') hi (j:=z'-1) (by omega)
   obtain⟨cv,h1,h2⟩:=kAJ (P:=P) c (cs:=es.getD i []) (f:=λj=>vs.getD (i*z'+off+j) undef) ⟨c.r s,i*z'+off,none⟩ rfl hg hk hgk off (by omega) (λj hj=>by
    have:i*z'+off+j<vs.size:=(by omega);unfold World.cell?;rw[hh];simp[this,Array.getD_eq_getD_getElem?])
    (λj x hj hx=>by
      have:=hvr i _ (k1P [] hi) (off+j) x hx
      rwa [<- Nat.add_assoc] at this)
   exact⟨cv,by simp[execOp,ho,hv,h1],h2⟩
  ·exact hK.elim
 ·rename_i cs hy
  obtain⟨hle,hK⟩:=hK;refine⟨_,hK,k0A.val λc e R hsub he=>?_⟩;obtain⟨ad,f,hv,hsp,hcell,hown,hvr⟩:=(hy▸he a y ha:VR c _ (e a)).crefs;obtain⟨cv,h1,h2⟩:=kAJ (P:=P) c (cs:=cs) (f:=f) ad hsp hg hk hgk 0 (by omega) (λj hj=>hcell j (by omega)) (λj x hj hx=>hvr j x (by simpa using hx));exact⟨cv,by simp[execOp,ho,hv,h1],h2⟩
 ·exact hK.elim
theorem k7H(w:World)(g:Nat)(c:Array Value):(w.setRow g c).heap.size=w.heap.size:=by simp[World.setRow]
theorem kLQ{t:TypeId}{a x:Operand}{y y':k0B}{k:Nat}{K:Res->Prop}(ho:o.op = .store t a x)(ha:k0C a=some y)(hx:k0C x=some y')(hk:k3O P t=some k)(hk0:0<k)
 (hK:k0T (.store k y y') ev h K):∃r,K r/\k0A P o ev h r:=by
 simp only[k0T] at hK;split at hK
 ·rename_i s z i off hy
  split at hK
  ·rename_i z' es hs
   split at hK
   ·rename_i cs hcs
    obtain⟨⟨rfl,hi,hck,hok,hcok⟩,hK⟩:=hK;refine⟨_,hK,?_⟩;intro c e R hsub he t' h' ht hh;obtain⟨hu,hv⟩:=(hy▸he a y ha:VR c _ (e a)).ref';have hC:=(he x y' hx).cells hcs;obtain⟨hz,hO,zU,vs,ty,fz,hh0,hfz,hsz,hvr⟩:=R.live s z' es (hsub _ _ _ hs) (by omega);have zL:(es.getD i []).length=z':=zU _ (List.mem_of_getElem? (k1P [] hi));have hlt:=k53 (i:=i) (n:=es.length) (z:=z') hi (j:=z'-1) (by omega);have hcl:(e x).cells.toList.length=cs.length:=(by simpa using hC.1);have hcz:=hC.1;have hst:=k6U P (c.r s) (i*z'+off) ty fz (e x).cells.toList 0 vs c.w hh0 hfz (by omega) (hC.oneCell hcok);have hh:h'=c.h.set s (.live z' (es.set i (k51 (es.getD i []) off cs))):=hh;subst hh;have hsp:(k51 (es.getD i []) off cs).length=z':=(by rw[k50 _ _ _ (by omega)];exact zL);have hslt:s<c.h.length:=(List.getElem?_eq_some_iff.1 (hsub _ _ _ hs)).1
    obtain⟨R1,E1⟩:=Rel.write R s (c.h.set s (.live z' (es.set i (k51 (es.getD i []) off cs)))) (c.w.setRow (c.r s) (vs.toList.take (i*z'+off+0)++(e x).cells.toList++vs.toList.drop (i*z'+off+0+(e x).cells.toList.length)).toArray)
     z' es (es.set i (k51 (es.getD i []) off cs)) vs (vs.toList.take (i*z'+off+0)++(e x).cells.toList++vs.toList.drop (i*z'+off+0+(e x).cells.toList.length)).toArray ty c.h.length
     hz (hsub _ _ _ hs) (by simp[hslt]) (λq hq=>by rw[List.getElem?_set_ne (Ne.symm hq)]) hfz hh0 (setRow_heap _ _ _ _ _ _ hh0) (by simp;omega)
     (λb hb=>setRow_other _ _ _ _ (by omega)) rfl rfl rfl (k7H _ _ _) (λe' he'=>by
       rcases List.mem_or_eq_of_mem_set he' with h|h
       ·exact zU _ h
       ·rw[h];exact hsp) (by simp;omega) (λi' e' hi' j u hj=>by
       have hjz:j<z':=by
        have h1:=(List.getElem?_eq_some_iff.1 hj).1;by_cases hii:i=i'
        ·subst hii
         rw[List.getElem?_set_self hi] at hi'
         cases hi'
         omega
        ·rw[List.getElem?_set_ne hii] at hi'
         have:=zU _ (List.mem_of_getElem? hi');omega
       have hi'l:i'<es.length:=by
        have:=(List.getElem?_eq_some_iff.1 hi').1;simpa using this
       have hlt':=k53 (i:=i') (n:=es.length) (z:=z') hi'l hjz
       have hget:((vs.toList.take (i*z'+off+0)++(e x).cells.toList++vs.toList.drop (i*z'+off+0+(e x).cells.toList.length)).toArray).getD (i'*z'+j) undef =
        if i*z'+off<=i'*z'+j/\i'*z'+j<i*z'+off+cs.length then (e x).cells.getD (i'*z'+j-(i*z'+off)) undef else vs.getD (i'*z'+j) undef:=by
        simp only[Array.getD_eq_getD_getElem?,List.getElem?_toArray,Nat.add_zero];by_cases h1:i'*z'+j<i*z'+off
        ·rw[if_neg (by omega),List.append_assoc,List.getElem?_append_left (by simp;omega),List.getElem?_take,if_pos h1]
         simp
        ·rw[List.append_assoc,List.getElem?_append_right (by simp;omega)]
         have hmin:(vs.toList.take (i*z'+off)).length=i*z'+off:=(by simp;omega);rw[hmin];by_cases h2:i'*z'+j<i*z'+off+cs.length
         ·rw[if_pos (by omega),List.getElem?_append_left (by omega)]
          simp
         ·rw[if_neg (by omega),List.getElem?_append_right (by omega),List.getElem?_drop,hcl]
          have:i*z'+off+cs.length+(i'*z'+j-(i*z'+off)-cs.length)=i'*z'+j:=(by omega);rw[this];simp
       rw[hget];by_cases hii:i=i'
       ·subst hii
        rw[List.getElem?_set_self hi] at hi'
        cases hi'
        rw[kBX _ _ _ (by omega)] at hj;by_cases yH:off<=j/\j<off+cs.length
        ·rw[if_pos yH] at hj
         rw[if_pos (by omega)];have:i*z'+j-(i*z'+off)=j-off:=(by omega);rw[this];exact hC.2 _ _ hj
        ·rw[if_neg yH] at hj
         rw[if_neg (by omega)];exact hvr i _ (k1P [] hi) j u hj
       ·rw[List.getElem?_set_ne hii] at hi'
        have hout:¬(i*z'+off<=i'*z'+j/\i'*z'+j<i*z'+off+cs.length):=by
         rintro⟨g1,g2⟩
         rcases Nat.lt_or_gt_of_ne hii with hl|hl
         ·have:(i+1)*z'<=i'*z':=Nat.mul_le_mul_right z' hl
          rw[Nat.succ_mul] at this;omega
         ·have:(i'+1)*z'<=i*z':=Nat.mul_le_mul_right z' hl
          rw[Nat.succ_mul] at this;omega
        rw[if_neg hout];exact hvr i' e' hi' j u hj)
    have hne:(e x).cells.size=k:=(by rw[hC.1];exact hck);refine⟨.skip,undef,_,?_,rfl,R1,E1,rfl,.tuple [] #[] rfl (λi x hx=>by simp at hx)⟩;simp[execOp,ho,hv,Instr.storeAt,Instr.sureAddr,storeVar,k3E c.w hk,hne,hst]
   ·exact hK.elim
  ·exact hK.elim
 ·exact hK.elim
end Go.Eng
namespace Go.Eng
open Go Go.RowKit
variable {P:Program} {o:Oper} {ev:k0B->AV} {h:k00}
theorem VR.lists{c:Cfg}{z:Nat}{es:List (List AV)}{v:Value}(h:VR c (.list z es) v):((∃(a:Option Addr) (cap:Nat),v = .slice a 0 cap)/\es=[]) \/
 ∃(a:Addr) (cap:Nat) (f:Nat->Nat->Value),v = .slice (some a) es.length cap/\es.length<=cap/\a.spot=none/\(∀e,e∈es->e.length=z) /\
  (∀i j,i<es.length->j<z->c.w.cell? ⟨a.block,a.off+(i*z+j),none⟩=some (f i j))/\(0<es.length->0<z->¬c.own a.block) /\
  ∀(i:Nat) (e:List AV),es[i]?=some e->∀(j:Nat) (x:AV),e[j]?=some x->VR c x (f i j):=by
 cases h with
 | listNil=>exact .inl ⟨⟨_,_,rfl⟩,rfl⟩
 | list _ _ a n cap f hn hc ha hz hcell hown hv=>subst hn;exact .inr ⟨a,cap,f,rfl,hc,ha,hz,hcell,hown,hv⟩
theorem VR.sls{c:Cfg}{s z i n:Nat}{v:Value}(h:VR c (.sl s z i n) v):∃cap,v = .slice (some ⟨c.r s,i*z,none⟩) n cap/\c.used s/\n<=cap/\∃e m,c.w.shape? (c.r s)=some (e,m)/\(i+cap)*z<=m:=by
 cases h with|sl _ _ _ _ cap hs hc hsz=>exact⟨cap,rfl,hs,hc,hsz⟩
theorem VR.drop{c:Cfg}{z:Nat}{es:List (List AV)}{a:Addr}{f:Nat->Nat->Value}{i:Nat}(ha:a.spot=none)(hz:∀e,e∈es->e.length=z)(hi:i<es.length)
 (hcell:∀i j,i<es.length->j<z->c.w.cell? ⟨a.block,a.off+(i*z+j),none⟩=some (f i j)) (hown:0<es.length->0<z->¬c.own a.block)
 (hv:∀(i:Nat) (e:List AV),es[i]?=some e->∀(j:Nat) (x:AV),e[j]?=some x->VR c x (f i j)):VR c (.cref (es.getD i [])) (.pointer (some (a.add (i*z)))):=by
 have zL:(es.getD i []).length=z:=hz _ (List.mem_of_getElem? (k1P [] hi));rw[k8W a _ ha];refine .cref _ _ (λj=>f i j) rfl (λj hj=>?_) (λhl=>hown (by omega) (by omega)) λj x hx=>hv i _ (k1P [] hi) j x hx;have:=hcell i j hi (by omega);simpa[Nat.add_assoc] using this
theorem kQ4{t e0:TypeId}{n z:Nat}{x i:Operand}{y q:k0B}{K:Res->Prop}(ho:o.op = .indexAddr t x i)(hu:P.underlying t=some (.array n e0))(hk:k3O P e0=some z)(hx:k0C x=some y)(hi:k0C i=some q)
 (hK:k0T (.iadA n z y q) ev h K):∃r,K r/\k0A P o ev h r:=by
 have run:∀(w:World) (a:Addr) (k:IntKind) (q:Int),0<=q->q<n->(Instr.indexAt t (.pointer (some a)) (.int k q)).run P w = .ok (.pointer (some (a.add (q.toNat*z)))) w:=by
  intro w a k q h0 h1;simp[Instr.indexAt,asIntOf,k0L w hu,Instr.sureAddr,k3E w hk,h0,h1]
 simp only[k0T] at hK;split at hK
 ·rename_i s z' j off k b hy hq
  obtain⟨⟨h0,h1⟩,hK⟩:=hK;refine⟨_,hK,k0A.val λc e R hs he=>?_⟩;obtain⟨g1,g2⟩:=(hy▸he x y hx:VR c _ (e x)).ref';have g3:=(hq▸he i q hi:VR c _ (e i)).int';exact⟨.pointer (some ⟨c.r s,j*z'+(off+b.toNat*z),none⟩),by simp only[execOp,ho,g2,g3,Sem.run_bind,run _ _ _ _ h0 h1,Result.andThen_ok,Sem.run_pure,k5W,Nat.add_assoc],.ref _ _ _ _ g1⟩
 ·rename_i cs k b hy hq
  obtain⟨⟨h0,h1⟩,hK⟩:=hK;refine⟨_,hK,k0A.val λc e R hs he=>?_⟩;obtain⟨a,g2,hd⟩:=(hy▸he x y hx:VR c _ (e x)).cref';have g3:=(hq▸he i q hi:VR c _ (e i)).int';exact⟨.pointer (some (a.add (b.toNat*z))),by simp only[execOp,ho,g2,g3,Sem.run_bind,run _ _ _ _ h0 h1,Result.andThen_ok,Sem.run_pure],hd _⟩
 ·exact hK.elim
theorem kQ3{t e0:TypeId}{z:Nat}{x i:Operand}{y q:k0B}{K:Res->Prop}(ho:o.op = .indexAddr t x i)(hu:P.underlying t=some (.slice e0))(hk:k3O P e0=some z)(hx:k0C x=some y)(hi:k0C i=some q)
 (hK:k0T (.iadS z y q) ev h K):∃r,K r/\k0A P o ev h r:=by
 have run:∀(w:World) (a:Addr) (k:IntKind) (q:Int) (n cap:Nat),0<=q->q<n->(Instr.indexAt t (.slice (some a) n cap) (.int k q)).run P w = .ok (.pointer (some (a.add (q.toNat*z)))) w:=by
  intro w a k q n cap h0 h1;simp[Instr.indexAt,asIntOf,k0L w hu,k3E w hk,h0,h1]
 simp only[k0T] at hK;split at hK
 ·rename_i z' es k b hy hq
  obtain⟨⟨rfl,h0,h1⟩,hK⟩:=hK;refine⟨_,hK,k0A.val λc e R hs he=>?_⟩;have g3:=(hq▸he i q hi:VR c _ (e i)).int';rcases (hy▸he x y hx:VR c _ (e x)).lists with ⟨⟨a0,c0,g1⟩,g2⟩|⟨a,cap,f,g1,hcap,hsp,hz,hcell,hown,hv⟩
  ·subst g2;simp at h1;omega
  ·exact⟨.pointer (some (a.add (b.toNat*z'))),by simp only[execOp,ho,g1,g3,Sem.run_bind,run _ _ _ _ _ _ h0 h1,Result.andThen_ok,Sem.run_pure],VR.drop hsp hz (by omega) hcell hown hv⟩
 ·rename_i s z' j n k b hy hq
  obtain⟨⟨rfl,h0,h1⟩,hK⟩:=hK;refine⟨_,hK,k0A.val λc e R hs he=>?_⟩;have g3:=(hq▸he i q hi:VR c _ (e i)).int';obtain⟨cap,g1,hus,hcap,_⟩:=(hy▸he x y hx:VR c _ (e x)).sls;have h1':b<(n:Int):=h1;refine⟨.pointer (some ⟨c.r s,(j+b.toNat)*z'+0,none⟩),?_,.ref _ _ _ _ hus⟩;simp only[execOp,ho,g1,g3,Sem.run_bind,run _ _ _ _ _ _ h0 h1',Result.andThen_ok,Sem.run_pure,k5W,Nat.add_mul,Nat.add_zero]
 ·exact hK.elim
theorem kV5{t e0:TypeId}{n k:Nat}{g:Bool}{x i:Operand}{y q:k0B}{K:Res->Prop}(ho:o.op = .index t x i)(hu:P.underlying t=some (.array n e0))(hk:k3O P e0=some k)(hg:k19 P e0=some g)(hgk:g=true\/k=1)(hx:k0C x=some y)
 (hi:k0C i=some q) (hK:k0T (.idx g n k y q) ev h K):∃r,K r/\k0A P o ev h r:=by
 simp only[k0T] at hK;split at hK
 ·rename_i cs k' b hy hq
  obtain⟨⟨h0,h1,h2⟩,hK⟩:=hK;refine⟨_,hK,k0A.val λc e R hs he=>?_⟩;have g3:=(hq▸he i q hi:VR c _ (e i)).int';obtain⟨vs,hvs,hV⟩:=(hy▸he x y hx:VR c _ (e x)).agg';have hb:b.toNat<n:=(by omega);have:=Nat.mul_le_mul_right k (show b.toNat+1<=n from hb);rw[Nat.succ_mul] at this;obtain⟨cv,h3,h4⟩:=k4I (P:=P) c hg hk hgk hV (b.toNat*k) (by omega);exact⟨cv,by simp[execOp,ho,hvs,g3,Instr.index,asIntOf,k0L c.w hu,k3E c.w hk,h0,h1,h3],h4⟩
 ·exact hK.elim
theorem kJD{t:TypeId}{x i:Operand}{y q:k0B}{K:Res->Prop}(ho:o.op = .index t x i)(hu:P.underlying t=some .string)(hx:k0C x=some y)(hi:k0C i=some q)(hK:k0T (.idxStr y q) ev h K) :
 ∃r,K r/\k0A P o ev h r:=by
 simp only[k0T] at hK;split at hK
 ·rename_i s k' b hy hq
  obtain⟨⟨h0,h1⟩,hK⟩:=hK;refine⟨_,hK,k0A.val λc e R hs he=>⟨_,?_,.int _ _⟩⟩;have g3:=(hq▸he i q hi:VR c _ (e i)).int';have g1:=(hy▸he x y hx:VR c _ (e x)).str';have hlt:b.toNat<s.size:=(by omega);have hlt':b.toNat<s.data.size:=hlt
  have e1:s[b.toNat]?=some (s.data.toList.getD b.toNat 0):=by
   rw[getElem?_pos s b.toNat hlt]
   have e2:s.data.toList.getD b.toNat 0=s.data[b.toNat]:=by
    have e3:s.data.toList[b.toNat]?=some s.data[b.toNat]:=(by rw[Array.getElem?_toList];exact Array.getElem?_eq_getElem hlt');rw[List.getD_eq_getElem?_getD,e3];rfl
   rw[e2];rfl
  simp[execOp,ho,g1,g3,Instr.index,asIntOf,k0L c.w hu,h0,e1]
 ·exact hK.elim
theorem kQ0{t e0:TypeId}{cl:Call}{x:Operand}{y:k0B}{K:Res->Prop}(ho:o.op = .call cl)(hc1:cl.callee = .builtin .len)(hc2:cl.args = #[x])(hc3:cl.argTypes = #[t])(hu:P.underlying t=some (.slice e0))(hx:k0C x=some y)
 (hK:k0T (.lenx y) ev h K):∃r,K r/\k0A P o ev h r:=by
 have run:∀(w:World) (a:Option Addr) (n cap:Nat) (e:Operand->Value),e x = .slice a n cap->(execOp e o).run P w = .ok (.value (.int .i64 n)) w:=by
  intro w a n cap e hv;simp[execOp,ho,resolve,hc1,hc2,hc3,invoke,builtin,Builtin.len_,k0L w hu,goInt,hv]
 simp only[k0T] at hK;split at hK
 ·rename_i z es hy
  refine⟨_,hK,k0A.val λc e R hs he=>?_⟩;rcases (hy▸he x y hx:VR c _ (e x)).lists with ⟨⟨a0,c0,g1⟩,g2⟩|⟨a,cap,f,g1,_⟩
  ·subst g2;exact⟨_,run _ _ _ _ _ g1,.int _ _⟩
  ·exact⟨_,run _ _ _ _ _ g1,.int _ _⟩
 ·rename_i s z i n hy
  refine⟨_,hK,k0A.val λc e R hs he=>?_⟩;obtain⟨cap,g1,_⟩:=(hy▸he x y hx:VR c _ (e x)).sls;exact⟨_,run _ _ _ _ _ g1,.int _ _⟩
 ·rename_i hy
  refine⟨_,hK,k0A.val λc e R hs he=>?_⟩;have g1:=(hy▸he x y hx:VR c _ (e x)).nils';exact⟨_,run _ _ _ _ _ g1,.int _ _⟩
 ·rename_i hy
  refine⟨_,hK,k0A.val λc e R hs he=>?_⟩;obtain⟨a,g1⟩:=(hy▸he x y hx:VR c _ (e x)).emp';exact⟨_,run _ _ _ _ _ g1,.int _ _⟩
 ·exact hK.elim
theorem kQ1{t:TypeId}{cl:Call}{x:Operand}{y:k0B}{K:Res->Prop}(ho:o.op = .call cl)(hc1:cl.callee = .builtin .len)(hc2:cl.args = #[x])(hc3:cl.argTypes = #[t])(hu:P.underlying t=some .string)(hx:k0C x=some y)
 (hK:k0T (.lens y) ev h K):∃r,K r/\k0A P o ev h r:=by
 simp only[k0T] at hK;split at hK
 ·rename_i s hy
  refine⟨_,hK,k0A.val λc e R hs he=>⟨_,?_,.int _ _⟩⟩;have g1:=(hy▸he x y hx:VR c _ (e x)).str';simp[execOp,ho,resolve,hc1,hc2,hc3,invoke,builtin,Builtin.len_,k0L c.w hu,goInt,g1]
 ·exact hK.elim
theorem kQ2{t e0:TypeId}{n:Nat}{cl:Call}{x:Operand}{K:Res->Prop}(ho:o.op = .call cl)(hc1:cl.callee = .builtin .len)(hc2:cl.args = #[x])(hc3:cl.argTypes = #[t])(hu:P.underlying t=some (.array n e0))(hK:k0T (.lenc n) ev h K) :
 ∃r,K r/\k0A P o ev h r:=by
 simp only[k0T] at hK;refine⟨_,hK,k0A.val λc e R hs he=>⟨_,?_,.int _ _⟩⟩;simp[execOp,ho,resolve,hc1,hc2,hc3,invoke,builtin,Builtin.len_,k0L c.w hu,goInt]
theorem kLY{c:Cfg}{e:Operand->Value}(he:kJ2 c ev e)(w:World):∀ {xs:List Operand} {ys:List k0B} {v:AV} {u:AV} {a:Value},k1X xs=some ys->VR c v a->mmA true ev v ys=some u ->
 ∃b,((xs.map e).foldlM Builtin.max2 a).run P w = .ok b w/\VR c u b
 | [],ys,v,u,a,hc,hv,hm=>by
   simp only[k1X,Option.some.injEq] at hc;subst hc
   cases v<;>simp only[mmA,Option.some.injEq] at hm<;>subst hm<;>exact⟨a,by simp,hv⟩
 | x::xs,ys,v,u,a,hc,hv,hm=>by
   simp only[k1X] at hc;split at hc
   ·rename_i y ys' hy hys
    simp only[Option.some.injEq] at hc;subst hc
    cases v<;>simp only[mmA,reduceCtorEq] at hm
    rename_i k n;split at hm
    ·rename_i k' m hym
     split at hm
     ·rename_i hkk
      subst hkk;have h1:=hv.int';have h2:=(hym▸he x y hy:VR c _ (e x)).int';subst h1;obtain⟨b,g1,g2⟩:=kLY he w (a:=.int k (k0M true n m)) hys (.int _ _) hm;refine⟨b,?_,g2⟩;simp only[List.map_cons,List.foldlM_cons,h2,Builtin.max2,Sem.run_bind,Sem.run_pure,Result.andThen_ok];simpa[k0M] using g1
     ·cases hm
    ·cases hm
   ·cases hc
theorem kLX{c:Cfg}{e:Operand->Value}(he:kJ2 c ev e)(w:World):∀ {xs:List Operand} {ys:List k0B} {v:AV} {u:AV} {a:Value},k1X xs=some ys->VR c v a->mmA false ev v ys=some u ->
 ∃b,((xs.map e).foldlM Builtin.min2 a).run P w = .ok b w/\VR c u b
 | [],ys,v,u,a,hc,hv,hm=>by
   simp only[k1X,Option.some.injEq] at hc;subst hc
   cases v<;>simp only[mmA,Option.some.injEq] at hm<;>subst hm<;>exact⟨a,by simp,hv⟩
 | x::xs,ys,v,u,a,hc,hv,hm=>by
   simp only[k1X] at hc;split at hc
   ·rename_i y ys' hy hys
    simp only[Option.some.injEq] at hc;subst hc
    cases v<;>simp only[mmA,reduceCtorEq] at hm
    rename_i k n;split at hm
    ·rename_i k' m hym
     split at hm
     ·rename_i hkk
      subst hkk;have h1:=hv.int';have h2:=(hym▸he x y hy:VR c _ (e x)).int';subst h1;obtain⟨b,g1,g2⟩:=kLX he w (a:=.int k (k0M false n m)) hys (.int _ _) hm;refine⟨b,?_,g2⟩;simp only[List.map_cons,List.foldlM_cons,h2,Builtin.min2,Sem.run_bind,Sem.run_pure,Result.andThen_ok];simpa[k0M] using g1
     ·cases hm
    ·cases hm
   ·cases hc
theorem kT4{isMax:Bool}{cl:Call}{x:Operand}{xs:List Operand}{y:k0B}{ys:List k0B}{K:Res->Prop}(ho:o.op = .call cl)(hc1:cl.callee = .builtin (if isMax then .max else .min))(hc2:cl.args.toList=x::xs)(hx:k0C x=some y)(hxs:k1X xs=some ys)
 (hK:k0T (.mm isMax y ys) ev h K):∃r,K r/\k0A P o ev h r:=by
 simp only[k0T] at hK;split at hK
 ·rename_i v hv
  refine⟨_,hK,k0A.val λc e R hs he=>?_⟩;have ha:(cl.args.map e).toList=e x::xs.map e:=by simp[hc2]
  cases isMax with
  | true =>
    obtain⟨b,g1,g2⟩:=kLY (P:=P) he c.w hxs (he x y hx) hv;exact⟨b,by simp only[execOp,ho,resolve,hc1,if_true,Sem.run_bind,Sem.run_pure,Result.andThen_ok,invoke,builtin,Builtin.max_,ha,g1],g2⟩
  | false =>
    obtain⟨b,g1,g2⟩:=kLX (P:=P) he c.w hxs (he x y hx) hv;exact⟨b,by simp only[execOp,ho,resolve,hc1,Bool.false_eq_true,if_false,Sem.run_bind,Sem.run_pure,Result.andThen_ok,invoke,builtin,Builtin.min_,ha,g1],g2⟩
 ·exact hK.elim
end Go.Eng
namespace Go.Eng
open Go Go.RowKit
variable {P:Program} {o:Oper} {ev:k0B->AV} {h:k00}
theorem VR.piece{c:Cfg}{z:Nat}{es:List (List AV)}{a:Addr}{cap:Nat}{f:Nat->Nat->Value}{lo hi:Nat}(hc:es.length<=cap)(ha:a.spot=none)(hz:∀e,e∈es->e.length=z)
 (hcell:∀i j,i<es.length->j<z->c.w.cell? ⟨a.block,a.off+(i*z+j),none⟩=some (f i j)) (hown:0<es.length->0<z->¬c.own a.block)
 (hv:∀(i:Nat) (e:List AV),es[i]?=some e->∀(j:Nat) (x:AV),e[j]?=some x->VR c x (f i j)) (h1:lo<=hi) (h2:hi<=es.length) :
 VR c (.list z ((es.take hi).drop lo)) (.slice (some (if cap=lo then a else a.add (lo*z))) (hi-lo) (cap-lo)):=by
 have zE:((es.take hi).drop lo).length=hi-lo:=by simp;omega
 by_cases hcl:cap=lo
 ·have:hi-lo=0:=by omega
  have hnil:(es.take hi).drop lo=[]:=List.eq_nil_of_length_eq_zero (by omega);rw[if_pos hcl,hnil,this];exact .list z [] a 0 _ (λ_ _=>undef) rfl (by omega) ha (by simp) (λi j hi=>by omega) (λh=>by omega) (λi e he=>by simp at he)
 ·rw[if_neg hcl,k8W a _ ha]
  refine .list z _ _ _ _ (λi j=>f (lo+i) j) zE (by omega) rfl (λe he=>hz e (List.mem_of_mem_take (List.mem_of_mem_drop he))) (λi j hi hj=>?_) (λh0 hz0=>hown (by omega) hz0) λi e he j x hx=>hv (lo+i) e ?_ j x hx
  ·have:=hcell (lo+i) j (by omega) hj
   rw[Nat.add_mul] at this;simpa[Nat.add_assoc] using this
  ·rw[List.getElem?_drop,List.getElem?_take] at he
   split at he
   ·exact he
   ·cases he
theorem k8B{x:Value}{k:IntKind}{q:Int}(w:World)(y:Nat)(code:BoundsCode)(hx:x = .int k q)(h0:0<=q)(h1:q<=y):(Instr.sliceBound x y code).run P w = .ok q.toNat w:=by
 simp[Instr.sliceBound,hx,asIntOf,h0,h1]
theorem kV0{t e0:TypeId}{z:Nat}{x:Operand}{y:k0B}{lo hi:Option Operand}{lo' hi':Option k0B}{K:Res->Prop}(ho:o.op = .slice t x lo hi none)(hu:P.underlying t=some (.slice e0))(hk:k3O P e0=some z)
 (hx:k0C x=some y) (hlo:kDP lo=some lo') (hhi:kDP hi=some hi') (hK:k0T (.slc z y lo' hi') ev h K):∃r,K r/\k0A P o ev h r:=by
 have run:∀(w:World) (e:Operand->Value) (a:Option Addr) (n cap l h:Nat),e x = .slice a n cap->(Instr.sliceBounds true n cap (lo.map e) (hi.map e) none).run P w = .ok (l,h,cap) w ->
  (execOp e o).run P w = .ok (.value (.slice (if cap=l then a else a.map (·.add (l*z))) (h-l) (cap-l))) w:=by
  intro w e a n cap l h hv hb;simp[execOp,ho,Instr.sliceAt,Instr.slice,k0L w hu,k3E w hk,hv,hb]
 -- the bounds,as the operands have them
 have step:∀(l hh:Nat) (z':Nat) (es:List (List AV)) (r:AV),ev y = .list z es->l<=hh->hh<=es.length->r = .list z ((es.take hh).drop l) ->
  (∀(c:Cfg) (e:Operand->Value),kJ2 c ev e->∀cap,es.length<=cap->(Instr.sliceBounds true es.length cap (lo.map e) (hi.map e) none).run P c.w = .ok (l,hh,cap) c.w)->k0A P o ev h (.val r):=by
  intro l hh z' es r hy hl hhh hr hb;refine k0A.val λc e R hs he=>?_;subst hr;rcases (hy▸he x y hx:VR c _ (e x)).lists with ⟨⟨a0,c0,g1⟩,g2⟩|⟨a,cap,f,g1,hcap,hsp,hz,hcell,hown,hv⟩
  ·subst g2
   have:=run c.w e a0 0 c0 l hh g1 (hb c e he c0 (Nat.zero_le _));have h0:hh=0:=(by simpa using hhh);subst h0;have h0:l=0:=(by omega);subst h0;exact⟨_,this,by simpa using VR.listNil z _ _⟩
  ·refine⟨_,run c.w e (some a) _ cap l hh g1 (hb c e he cap hcap),?_⟩
   have:=VR.piece hcap hsp hz hcell hown hv hl hhh;split
   ·rename_i hc;simpa[hc] using this
   ·rename_i hc;simpa[hc] using this
 simp only[k0T] at hK;split at hK
 ·rename_i z' es hy
  cases lo with
  | none =>
    simp only[kDP,Option.some.injEq] at hlo;subst hlo
    cases hi with
    | none =>
      simp only[kDP,Option.some.injEq] at hhi;subst hhi;simp only[Option.map_none] at hK;obtain⟨rfl,hK⟩:=hK;exact⟨_,hK,step 0 es.length z' es _ hy (Nat.zero_le _) (Nat.le_refl _) (by simp) λc e he cap hcap=>by simp[Instr.sliceBounds]⟩
    | some b =>
      simp only[kDP] at hhi
      cases hb:k0C b with
      | none=>simp[hb] at hhi
      | some b' =>
        simp only[hb,Option.map_some,Option.some.injEq] at hhi;subst hhi;simp only[Option.map_none,Option.map_some] at hK
        cases hbv:ev b'<;>simp only[hbv] at hK<;>try exact hK.elim
        rename_i k q;obtain⟨⟨rfl,h0,h1⟩,hK⟩:=hK
        exact⟨_,hK,step 0 q.toNat z' es _ hy (Nat.zero_le _) (by omega) (by simp) λc e he cap hcap=>by
         have:=(hbv▸he b b' hb:VR c _ (e b)).int';simp[Instr.sliceBounds,k8B (P:=P) c.w cap .sliceAcap this h0 (by omega)]⟩
  | some a =>
    simp only[kDP] at hlo
    cases ha:k0C a with
    | none=>simp[ha] at hlo
    | some a' =>
      simp only[ha,Option.map_some,Option.some.injEq] at hlo;subst hlo
      cases hi with
      | none =>
        simp only[kDP,Option.some.injEq] at hhi;subst hhi;simp only[Option.map_none,Option.map_some] at hK
        cases hav:ev a'<;>simp only[hav] at hK<;>try exact hK.elim
        rename_i k q;obtain⟨⟨rfl,h0,h1⟩,hK⟩:=hK
        exact⟨_,hK,step q.toNat es.length z' es _ hy (by omega) (Nat.le_refl _) (by simp) λc e he cap hcap=>by
         have:=(hav▸he a a' ha:VR c _ (e a)).int';simp[Instr.sliceBounds,k8B (P:=P) c.w es.length .sliceB this h0 (by omega)]⟩
      | some b =>
        simp only[kDP] at hhi
        cases hb:k0C b with
        | none=>simp[hb] at hhi
        | some b' =>
          simp only[hb,Option.map_some,Option.some.injEq] at hhi;subst hhi;simp only[Option.map_some] at hK
          cases hav:ev a'<;>simp only[hav] at hK<;>try exact hK.elim
          rename_i k q
          cases hbv:ev b'<;>simp only[hbv] at hK<;>try exact hK.elim
          rename_i k2 q2;obtain⟨⟨rfl,h0,h1,h2⟩,hK⟩:=hK
          exact⟨_,hK,step q.toNat q2.toNat z' es _ hy (by omega) (by omega) rfl λc e he cap hcap=>by
           have g1:=(hav▸he a a' ha:VR c _ (e a)).int';have g2:=(hbv▸he b b' hb:VR c _ (e b)).int';have e1:=k8B (P:=P) c.w cap .sliceAcap g2 (by omega) (by omega);have e2:=k8B (P:=P) c.w q2.toNat .sliceB g1 h0 (by omega);simp[Instr.sliceBounds,e1,e2]⟩
 ·exact hK.elim
end Go.Eng
namespace Go.Eng
open Go Go.RowKit
variable {P:Program} {o:Oper} {ev:k0B->AV} {h:k00}
theorem kKU{zs:Array Value}{k n:Nat}(hk:zs.size=k)(hk0:0<k)(i:Nat)(hi:i<n):((Array.range n).map (zs[· % zs.size]!)).getD i undef=zs.getD (i%k) undef:=by
 have hmod:i%k<k:=Nat.mod_lt _ hk0;simp[Array.getD_eq_getD_getElem?,hi,hk,hmod]
theorem kZD{t e0:TypeId}{it:TypeInfo}{zs:List AV}{l c:Operand}{l' c':k0B}{K:Res->Prop}(ho:o.op = .makeSlice t l c)(hu:P.underlying t=some (.slice e0))(hi:P.info? e0=some it)(hz:k4W P e0=some zs)
 (hzl:zs.length=it.size) (hz0:0<it.size) (hl:k0C l=some l') (hc:k0C c=some c') (hK:k0T (.mk it.size it.bytes zs l' c') ev h K):∃r,K r/\k0A P o ev h r:=by
 simp only[k0T] at hK;split at hK
 ·rename_i a b ha hb
  obtain⟨⟨h0,h1,h2,h3⟩,hK⟩:=hK;refine⟨_,hK,k0A.fresh _ hz0 (λe he=>by rw[(List.mem_replicate.1 he).2];exact hzl) λcf e R hs he=>?_⟩;have g1:=(ha▸he l l' hl:VR cf _ (e l)).int';have g2:=(hb▸he c c' hc:VR cf _ (e c)).int';obtain⟨it',z,hi',hzz,rfl⟩:=k5E hz;rw[hi] at hi'
  cases hi'
  have hzc:z.cells.size=it.size:=(by simpa using hzl);have w1:IntKind.i64.wrap a=a:=(by simp only[IntKind.wrap,IntKind.bits,IntKind.signed];simp;split<;>omega);have w2:IntKind.i64.wrap b=b:=(by simp only[IntKind.wrap,IntKind.bits,IntKind.signed];simp;split<;>omega);have c1:¬(b<0):=(by omega);have c2:¬(a<0):=(by omega);have c3:¬(a>b):=(by omega);have c4:¬((it.bytes:Int)*b>281474976710656):=(by rw[Int.mul_comm];omega);refine⟨.value (.slice (some ⟨cf.w.heap.size,0,none⟩) a.toNat b.toNat),_,cf.w,(Array.range (b.toNat*it.size)).map (z.cells[· % z.cells.size]!),e0,?_,rfl,rfl,rfl,rfl,rfl,?_,?_,?_⟩
  ·by_cases hb0:b.toNat*it.size=0
   ·simp[execOp,ho,g1,g2,Instr.makeSlice,k0L cf.w hu,asInt,asIntOf,kCV cf.w hi,w1,w2,c1,c2,c3,c4,sizeOf,hb0,newRow]
    rw[show (Array.range 0) = #[] from rfl];simp
   ·simp[execOp,ho,g1,g2,Instr.makeSlice,k0L cf.w hu,asInt,asIntOf,kCV cf.w hi,w1,w2,c1,c2,c3,c4,sizeOf,hb0,newRow,zeroValue,hzz]
  ·simp
   exact Nat.mul_le_mul_right _ (by omega)
  ·intro i e' hi' j x hx
   have hil:i<a.toNat:=by
    have:=(List.getElem?_eq_some_iff.1 hi').1;simpa using this
   rw[List.getElem?_replicate,if_pos hil] at hi'
   cases hi'
   have hj:j<it.size:=by
    have:=(List.getElem?_eq_some_iff.1 hx).1;omega
   have hlt:=k53 (n:=b.toNat) (z:=it.size) (i:=i) (j:=j) (by omega) hj;rw[kKU hzc hz0 _ hlt];have:(i*it.size+j)%it.size=j:=(by rw[Nat.mul_comm,Nat.mul_add_mod];exact Nat.mod_eq_of_lt hj);rw[this];exact(k5F cf z.cells).2 j x hx
  ·exact⟨b.toNat,rfl,by omega,by simp⟩
 ·exact hK.elim
theorem VR.news{c:Cfg}{z:Nat}{es:List (List AV)}{a:Addr}{f:Nat->Nat->Value}(hz0:0<z)(ha:a.spot=none)(hz:∀e,e∈es->e.length=z)
 (hcell:∀i j,i<es.length->j<z->c.w.cell? ⟨a.block,a.off+(i*z+j),none⟩=some (f i j))
 (hv:∀(i:Nat) (e:List AV),es[i]?=some e->∀(j:Nat) (x:AV),e[j]?=some x->VR c x (f i j)) :
 ∃news:List Value,news.length=es.length*z/\(∀j v,news[j]?=some v->c.w.cell? (a.add j)=some v)/\∀(i:Nat) (e:List AV),es[i]?=some e->∀(j:Nat) (x:AV),e[j]?=some x->∃v,news[i*z+j]?=some v/\VR c x v:=by
 refine⟨(List.range (es.length*z)).map λq=>f (q/z) (q%z),by simp,λj v hj=>?_,λi e he j x hx=>?_⟩
 ·rw[List.getElem?_map] at hj
  have hlt:j<es.length*z:=by
   rcases Nat.lt_or_ge j (es.length*z) with h|h
   ·exact h
   ·rw[List.getElem?_eq_none (by simpa using h)] at hj;cases hj
  rw[List.getElem?_range hlt] at hj;simp only[Option.map_some,Option.some.injEq] at hj;subst hj;have h1:j/z<es.length:=(Nat.div_lt_iff_lt_mul hz0).2 hlt;have:=hcell (j/z) (j%z) h1 (Nat.mod_lt _ hz0);rw[Nat.mul_comm,Nat.div_add_mod] at this;rw[k8W a j ha];exact this
 ·have hi:i<es.length:=(List.getElem?_eq_some_iff.1 he).1
  have hj:j<z:=by
   have:=(List.getElem?_eq_some_iff.1 hx).1;have:=hz e (List.mem_of_getElem? he);omega
  have hlt:=k53 hi hj;have e1:(i*z+j)/z=i:=(by rw[Nat.mul_comm,Nat.mul_add_div hz0,Nat.div_eq_of_lt hj,Nat.add_zero]);have e2:(i*z+j)%z=j:=(by rw[Nat.mul_comm,Nat.mul_add_mod];exact Nat.mod_eq_of_lt hj);exact⟨f i j,by rw[List.getElem?_map,List.getElem?_range hlt];simp[e1,e2],hv i e he j x hx⟩
theorem k94:∀ {es:List (List AV)} {i:Nat} {e:List AV},k2M es=true->es[i]?=some e->k2P e=true
 | [],i,x,_,h=>by simp at h
 | c::cs,0,x,hb,h=>by
   simp only[List.getElem?_cons_zero,Option.some.injEq] at h;subst h;simp only[k2M,Bool.and_eq_true] at hb;exact hb.1
 | c::cs,i+1,x,hb,h=>by
   simp only[k2M,Bool.and_eq_true] at hb;exact k94 hb.2 (by simpa using h)
theorem Rel.move{c:Cfg}(R:Rel c)(s t:Nat)(h':k00)(w:World)(z:Nat)(es es':List (List AV))(vs vs':Array Value)(ty:TypeId)
 (hz:0<z) (hs:c.h[s]?=some (.live z es)) (ht:¬c.used t) (h1:h'[t]?=some (.live z es')) (h1':h'[s]?=some .dead) (h2:∀k x,k≠t->k≠s->x ≠ .free->(h'[k]?=some x↔c.h[k]?=some x))
 {fz:Nat×Nat} (hfz:kFW vs fz) (hw0:c.w.heap[c.r s]?=some (.cells vs ty fz)) (hw1:w.heap[c.r s]?=some (.cells vs' ty fz)) (hvs:vs'.size=vs.size) (hw2:∀b,b≠c.r s->w.heap[b]?=c.w.heap[b]?)
 (ho:w.os=c.w.os) (htp:w.tape=c.w.tape) (hp:w.output=c.w.output) (hsz:w.heap.size=c.w.heap.size)
 (zU:∀e,e∈es'->e.length=z) (hle:es'.length*z<=vs'.size) (hv:∀(i:Nat) (e:List AV),es'[i]?=some e->∀(j:Nat) (x:AV),e[j]?=some x->VR c x (vs'.getD (i*z+j) undef)) (n:Nat) :
 Rel { c with r:=λk=>if k=t then c.r s else c.r k,h:=h',w:=w }/\Ext n c { c with r:=λk=>if k=t then c.r s else c.r k,h:=h',w:=w }:=by
 have hl:c.live s:=⟨z,es,hs⟩;have hst:s≠t:=λe=>ht (e▸Cfg.used_of_live hl)
 have hlive:∀k,k≠t->Cfg.live { c with r:=λk=>if k=t then c.r s else c.r k,h:=h',w:=w } k->c.live k/\k≠s:=by
  rintro k hk ⟨a,b,hx⟩;by_cases hks:k=s
  ·subst hks
   have:some (k27.live a b)=some .dead:=hx.symm.trans h1';cases this
  ·exact⟨⟨a,b,(h2 k _ hk hks (by simp)).1 hx⟩,hks⟩
 have he:∀n,Ext n c { c with r:=λk=>if k=t then c.r s else c.r k,h:=h',w:=w }:=by
  intro n;refine⟨rfl,ho,htp,hp,by simp[hsz],λk _ hu=>?_,λb hb hno=>⟨hw2 b λe=>hno ⟨s,hl,e.symm⟩,?_⟩,λb x hx=>?_⟩
  ·have hkt:k≠t:=λe=>ht (e▸hu)
   refine⟨?_,by simp[hkt]⟩;by_cases hks:k=s
   ·subst hks;exact⟨_,h1',by simp⟩
   ·obtain⟨x,hx,hf⟩:=hu;exact⟨x,(h2 k x hkt hks hf).2 hx,hf⟩
  ·rintro⟨k,hk,hkb⟩
   by_cases hkt:k=t
   ·subst hkt;simp at hkb;exact hno ⟨s,hl,hkb⟩
   ·simp only[hkt,if_false] at hkb
    exact hno ⟨k,(hlive k hkt hk).1,hkb⟩
  ·by_cases hb:b=c.r s
   ·subst hb
    unfold World.shape? at hx ⊢;simp only[hw0] at hx;simp only[hw1,hvs];exact hx
   ·unfold World.shape? at hx ⊢
    simp only[hw2 b hb];exact hx
 obtain⟨a1,a2,a3,_⟩:=R.live s z es hs hz;refine⟨R.of_ext (he _) (λk z' e' hk=>?_) (λa b ha hb hr=>?_),he n⟩
 ·by_cases hkt:k=t
  ·subst hkt
   have:k27.live z es'=k27.live z' e':=by
    have:some (k27.live z es')=some (k27.live z' e'):=h1.symm.trans hk;simpa using this
   cases this
   exact .inr (k27.Ok.cells a1 (by simpa using a2) zU ⟨vs',ty,fz,by simpa using hw1,by unfold kFW at hfz ⊢;rw[hvs];exact hfz,hle,λi e he' j x hx=>(he c.h.length).vr' (hv i e he' j x hx)⟩)
  ·obtain⟨h3,h4⟩:=hlive k hkt ⟨z',e',hk⟩
   have hk':=(h2 k _ hkt h4 (by simp)).1 hk;exact .inl ⟨hk',by simp[hkt],hw2 _ λe=>h4 (R.inj k s h3 hl e)⟩
 ·by_cases hat:a=t<;>by_cases hbt:b=t
  ·omega
  ·obtain⟨h3,h4⟩:=hlive b hbt hb
   simp[hat,hbt] at hr;exact absurd (R.inj s b hl h3 hr).symm h4
  ·obtain⟨h3,h4⟩:=hlive a hat ha
   simp[hat,hbt] at hr;exact absurd (R.inj a s h3 hl hr) h4
  ·simp[hat,hbt] at hr
   exact R.inj a b (hlive a hat ha).1 (hlive b hbt hb).1 hr
theorem kV9{t e0:TypeId}{it:TypeInfo}{zv:Value}{cl:Call}{x y:Operand}{x' y':k0B}{K:Res->Prop}(ho:o.op = .call cl)(hc1:cl.callee = .builtin .append)(hc2:cl.args = #[x,y])(hc3:cl.argTypes = #[t,t])
 (hu:P.underlying t=some (.slice e0)) (hi:P.info? e0=some it) (hz:it.zero=some zv) (hzs:zv.cells.size=it.size) (hz0:0<it.size) (hx:k0C x=some x') (hy:k0C y=some y')
 (hK:k0T (.app it.size it.bytes x' y') ev h K):∃r,K r/\k0A P o ev h r:=by
 have run:∀(w w':World) (e:Operand->Value) (a b r:Value),e x=a->e y=b->(Builtin.append_ #[t,t] o.type #[a,b]).run P w = .ok r w'->(execOp e o).run P w = .ok (.value r) w':=by
  intro w w' e a b r ha hb hr;simp[execOp,ho,resolve,hc1,hc2,hc3,invoke,builtin,ha,hb,hr]
 -- nothing is appended
 have runE:∀(w:World) (a:Option Addr) (n cap:Nat) (b:Option Addr) (m:Nat),n<=cap->(Builtin.append_ #[t,t] o.type #[.slice a n cap,.slice b 0 m]).run P w = .ok (.slice a n cap) w:=by
  intro w a n cap b m hn
  cases a<;>cases b<;>simp[Builtin.append_,k0L w hu,kCV w hi,sizeOf,Builtin.lenOf,hn,Builtin.firstCells,loadCells,loadCellsFrom,storeCells]
 simp only[k0T] at hK;split at hK
 ·rename_i hye
  split at hK
  ·rename_i hxe
   refine⟨_,hK,k0A.val λc e R hs he=>⟨.slice none 0 0,?_,.nils⟩⟩;exact run _ _ _ _ _ _ (hxe▸he x x' hx:VR c _ (e x)).nils' (hye▸he y y' hy:VR c _ (e y)).nils' (runE _ _ _ _ _ _ (Nat.le_refl _))
  ·rename_i s z' i n hxe
   refine⟨_,hK,k0A.val λc e R hs he=>?_⟩;have hV:=(hxe▸he x x' hx:VR c _ (e x));obtain⟨cap,g1,g2,g3,g4⟩:=hV.sls;exact⟨_,run _ _ _ _ _ _ g1 (hye▸he y y' hy:VR c _ (e y)).nils' (runE _ _ _ _ _ _ g3),by rw[<- g1];exact hV⟩
  ·exact hK.elim
 ·rename_i z' new hye
  split at hK
  ·rename_i hxe
   by_cases hnew:new=[]
   ·refine⟨_,hK.1 hnew,k0A.val λc e R hs he=>?_⟩
    subst hnew;obtain⟨ae,g0⟩:=(hxe▸he x x' hx:VR c _ (e x)).emp';rcases (hye▸he y y' hy:VR c _ (e y)).lists with ⟨⟨a0,c0,g1⟩,g2⟩|⟨a,cap,f,g1,hcap,hsp,hzz,hcell,hown,hv⟩
    ·exact⟨_,run _ _ _ _ _ _ g0 g1 (runE _ _ _ _ _ _ (Nat.le_refl _)),.emp _⟩
    ·exact⟨_,run _ _ _ _ _ _ g0 g1 (runE _ _ _ _ _ _ (Nat.le_refl _)),.emp _⟩
   ·have hK2:=hK.2 hnew
    clear hK;obtain⟨⟨rfl,h1,h2⟩,hK⟩:=hK2;have hpos:0<new.length:=List.length_pos_iff.2 hnew;refine⟨_,hK,?_⟩;intro c e R hs he tt h' ht hh;obtain⟨ae,g0⟩:=(hxe▸he x x' hx:VR c _ (e x)).emp';rcases (hye▸he y y' hy:VR c _ (e y)).lists with ⟨⟨a0,c0,g1⟩,g2⟩|⟨a,cap,f,g1,hcap,hsp,hzz,hcell,hown,hv⟩
    ·exact absurd g2 hnew
    ·obtain⟨news,n1,n2,n3⟩:=VR.news hz0 hsp hzz hcell hv
     have hr:=run_append_grow (P:=P) c.w t o.type e0 it zv hu hi hz ae 0 0 [] (by simp) (by simp) a new.length cap news n1 n2 (by omega) (by omega) (by rw[Nat.zero_add,nextslicecap_zero hpos];omega);simp only[Nat.zero_add,Array.empty_append] at hr;have hge:=grownCap_ge c.w new.length 0 e0
     have hsz:(news.toArray++Builtin.zeroCells zv.cells (grownCap c.w new.length 0 e0-new.length)).size=grownCap c.w new.length 0 e0*it.size:=by
      simp only[Array.size_append,List.size_toArray,size_zeroCells,hzs,n1,<- Nat.add_mul];congr 1;omega
     obtain⟨R1,E1⟩:=R.sameHeap (w:=c.w.drew) rfl rfl rfl rfl c.h.length;have ht1:¬Cfg.used { c with w:=c.w.drew } tt:=ht;have hnz:new.length*it.size<=(news.toArray++Builtin.zeroCells zv.cells (grownCap c.w new.length 0 e0-new.length)).size:=by rw[hsz];exact Nat.mul_le_mul_right _ hge
     obtain⟨R2,E2⟩:=Rel.fresh R1 tt h' it.size new (news.toArray++Builtin.zeroCells zv.cells (grownCap c.w new.length 0 e0-new.length)) e0 c.h.length ht1 hh.1 hh.2 hz0 hzz hnz (λi q hq j u hu'=>by
      obtain⟨v,hv1,hv2⟩:=n3 i q hq j u hu';have hjl:=(List.getElem?_eq_some_iff.1 hv1).1
      have:(news.toArray++Builtin.zeroCells zv.cells (grownCap c.w new.length 0 e0-new.length)).getD (i*it.size+j) undef=v:=by
       rw[Array.getD_eq_getD_getElem?,Array.getElem?_append_left (by simpa using hjl)];simp[hv1]
      rw[this];exact E1.vr' hv2)
     refine⟨_,_,_,run _ _ _ _ _ _ g0 g1 hr,rfl,R2,E1.trans E2,rfl,?_⟩
     have:=VR.sl (c:={ c with w:=c.w.drew.alloc (.cells (news.toArray++Builtin.zeroCells zv.cells (grownCap c.w new.length 0 e0-new.length)) e0),r:=λs=>if s=tt then c.w.heap.size else c.r s,h:=h' }) tt it.size 0 new.length (grownCap c.w new.length 0 e0)
      ⟨_,hh.1,by simp⟩ hge ⟨e0,_,by
        have:=heap_alloc_new c.w.drew (.cells (news.toArray++Builtin.zeroCells zv.cells (grownCap c.w new.length 0 e0-new.length)) e0);simp only[if_true];unfold World.shape?;rw[show c.w.drew.heap.size=c.w.heap.size from rfl] at this;rw[this],by rw[hsz];simp⟩
     (obtain⟨zz,hzz1⟩:∃zz,it.size=zz+1:=⟨it.size-1,by omega⟩;rw[hzz1] at this ⊢;simpa[Res.at,Nat.beq] using this)
  ·rename_i hxe
   by_cases hnew:new=[]
   ·refine⟨_,hK.1 hnew,k0A.val λc e R hs he=>?_⟩
    subst hnew;have g0:=(hxe▸he x x' hx:VR c _ (e x)).nils';rcases (hye▸he y y' hy:VR c _ (e y)).lists with ⟨⟨a0,c0,g1⟩,g2⟩|⟨a,cap,f,g1,hcap,hsp,hzz,hcell,hown,hv⟩
    ·exact⟨_,run _ _ _ _ _ _ g0 g1 (runE _ _ _ _ _ _ (Nat.le_refl _)),.nils⟩
    ·exact⟨_,run _ _ _ _ _ _ g0 g1 (runE _ _ _ _ _ _ (Nat.le_refl _)),.nils⟩
   ·have hK2:=hK.2 hnew
    clear hK;obtain⟨⟨rfl,h1,h2⟩,hK⟩:=hK2;have hpos:0<new.length:=List.length_pos_iff.2 hnew;refine⟨_,hK,?_⟩;intro c e R hs he tt h' ht hh;have g0:=(hxe▸he x x' hx:VR c _ (e x)).nils';rcases (hye▸he y y' hy:VR c _ (e y)).lists with ⟨⟨a0,c0,g1⟩,g2⟩|⟨a,cap,f,g1,hcap,hsp,hzz,hcell,hown,hv⟩
    ·exact absurd g2 hnew
    ·obtain⟨news,n1,n2,n3⟩:=VR.news hz0 hsp hzz hcell hv
     have hr:=run_append_nil (P:=P) c.w t o.type e0 it zv hu hi hz a new.length cap news n1 n2 hpos (by omega) (by omega);have hge:=grownCap_ge c.w new.length 0 e0
     have hsz:(news.toArray++Builtin.zeroCells zv.cells (grownCap c.w new.length 0 e0-new.length)).size=grownCap c.w new.length 0 e0*it.size:=by
      simp only[Array.size_append,List.size_toArray,size_zeroCells,hzs,n1,<- Nat.add_mul];congr 1;omega
     obtain⟨R1,E1⟩:=R.sameHeap (w:=c.w.drew) rfl rfl rfl rfl c.h.length;have ht1:¬Cfg.used { c with w:=c.w.drew } tt:=ht;have hnz:new.length*it.size<=(news.toArray++Builtin.zeroCells zv.cells (grownCap c.w new.length 0 e0-new.length)).size:=by rw[hsz];exact Nat.mul_le_mul_right _ hge
     obtain⟨R2,E2⟩:=Rel.fresh R1 tt h' it.size new (news.toArray++Builtin.zeroCells zv.cells (grownCap c.w new.length 0 e0-new.length)) e0 c.h.length ht1 hh.1 hh.2 hz0 hzz hnz (λi q hq j u hu'=>by
      obtain⟨v,hv1,hv2⟩:=n3 i q hq j u hu';have hjl:=(List.getElem?_eq_some_iff.1 hv1).1
      have:(news.toArray++Builtin.zeroCells zv.cells (grownCap c.w new.length 0 e0-new.length)).getD (i*it.size+j) undef=v:=by
       rw[Array.getD_eq_getD_getElem?,Array.getElem?_append_left (by simpa using hjl)];simp[hv1]
      rw[this];exact E1.vr' hv2)
     refine⟨_,_,_,run _ _ _ _ _ _ g0 g1 hr,rfl,R2,E1.trans E2,rfl,?_⟩
     have:=VR.sl (c:={ c with w:=c.w.drew.alloc (.cells (news.toArray++Builtin.zeroCells zv.cells (grownCap c.w new.length 0 e0-new.length)) e0),r:=λs=>if s=tt then c.w.heap.size else c.r s,h:=h' }) tt it.size 0 new.length (grownCap c.w new.length 0 e0)
      ⟨_,hh.1,by simp⟩ hge ⟨e0,_,by
        have:=heap_alloc_new c.w.drew (.cells (news.toArray++Builtin.zeroCells zv.cells (grownCap c.w new.length 0 e0-new.length)) e0);simp only[if_true];unfold World.shape?;rw[show c.w.drew.heap.size=c.w.heap.size from rfl] at this;rw[this],by rw[hsz];simp⟩
     (obtain⟨zz,hzz1⟩:∃zz,it.size=zz+1:=⟨it.size-1,by omega⟩;rw[hzz1] at this ⊢;simpa[Res.at,Nat.beq] using this)
  ·rename_i s z'' i n hxe
   split at hK
   ·rename_i w0 es hs0
    by_cases hnew:new=[]
    ·rcases hK.1 hnew with hK0|⟨⟨rfl,rfl,rfl,rfl⟩,hK0⟩
     rotate_left 1
     ·refine⟨_,hK0,?_⟩
      subst hnew;intro c e R hs he tt h' ht hh;obtain⟨cap,g1,hus,hnc,e1,m1,hsh,hm1⟩:=(hxe▸he x x' hx:VR c _ (e x)).sls;simp only[Nat.zero_mul,Nat.zero_add] at g1 hm1;have hs0':=hs _ _ _ hs0;obtain⟨_,hO,zU,vs,ty,fz,hh0,hfz,hsz,hvr⟩:=R.live s _ es hs0' hz0;have hslt:s<c.h.length:=(List.getElem?_eq_some_iff.1 hs0').1;obtain⟨hh1,hh2',hh3⟩:=hh;obtain⟨R1,E1⟩:=Rel.move R s tt h' c.w _ es es vs vs ty hz0 hs0' ht hh1 (hh2' hslt) hh3 hfz hh0 hh0 rfl (λb _=>rfl) rfl rfl rfl rfl zU hsz hvr c.h.length
      have hrun:∃b m,e y = .slice b 0 m:=by
       rcases (hye▸he y y' hy:VR c _ (e y)).lists with ⟨⟨a0,c0,k1⟩,k2⟩|⟨a,cap',f,k1,hcap,hsp,hzz,hcell,hown,hv⟩
       ·exact⟨_,_,k1⟩
       ·exact⟨_,_,k1⟩
      obtain⟨b,m,k1⟩:=hrun;refine⟨_,_,{ c with r:=λk=>if k=tt then c.r s else c.r k,h:=h',w:=c.w },run _ _ _ _ _ _ g1 k1 (runE _ _ _ _ _ _ hnc),rfl,R1,E1,rfl,?_⟩;have:=VR.sl (c:={ c with r:=λk=>if k=tt then c.r s else c.r k,h:=h',w:=c.w }) tt it.size 0 es.length cap ⟨_,hh1,by simp⟩ hnc ⟨e1,m1,by simp only[if_true];exact hsh,by simpa using hm1⟩
      (obtain⟨zz,hzz1⟩:∃zz,it.size=zz+1:=⟨it.size-1,by omega⟩;rw[hzz1] at this ⊢;simpa[Res.at,Nat.beq] using this)
     refine⟨_,hK0,k0A.val λc e R hs he=>?_⟩;subst hnew;have hV:=(hxe▸he x x' hx:VR c _ (e x));obtain⟨cap,g1,g2,g3,g4⟩:=hV.sls;rcases (hye▸he y y' hy:VR c _ (e y)).lists with ⟨⟨a0,c0,k1⟩,k2⟩|⟨a,cap',f,k1,hcap,hsp,hzz,hcell,hown,hv⟩
     ·exact⟨_,run _ _ _ _ _ _ g1 k1 (runE _ _ _ _ _ _ g3),by rw[<- g1];exact hV⟩
     ·exact⟨_,run _ _ _ _ _ _ g1 k1 (runE _ _ _ _ _ _ g3),by rw[<- g1];exact hV⟩
    ·have hK2:=hK.2 hnew
     clear hK;obtain⟨⟨rfl,rfl,rfl,rfl,rfl,zL,h63,h47⟩,hK⟩:=hK2;have hpos:0<new.length:=List.length_pos_iff.2 hnew;refine⟨_,hK,?_⟩;intro c e R hs he tt h' ht hh;obtain⟨cap,g1,hus,hnc,e1,m1,hsh,hm1⟩:=(hxe▸he x x' hx:VR c _ (e x)).sls;simp only[Nat.zero_mul,Nat.zero_add] at g1 hm1;have hs0':=hs _ _ _ hs0;obtain⟨_,hO,zU,vs,ty,fz,hh0,hfz,hsz,hvr⟩:=R.live s _ es hs0' hz0
     have hm2:m1=vs.size:=by
      unfold World.shape? at hsh;simp only[hh0,Option.some.injEq,Prod.mk.injEq] at hsh;exact hsh.2.symm
     subst hm2;have hslt:s<c.h.length:=(List.getElem?_eq_some_iff.1 hs0').1;have hl:c.live s:=⟨_,_,hs0'⟩;have hst:s≠tt:=λq=>ht (q▸Cfg.used_of_live hl);obtain⟨hh1,hh2',hh3⟩:=hh;have hh2:=hh2' hslt;rcases (hye▸he y y' hy:VR c _ (e y)).lists with ⟨⟨a0,c0,k1⟩,k2⟩|⟨a,cap',f,k1,hcap,hsp,hzz,hcell,hown,hv⟩
     ·exact absurd k2 hnew
     obtain⟨news,n1,n2,n3⟩:=VR.news hz0 hsp hzz hcell hv
     have hes':∀q,q∈es++new->q.length=it.size:=λq hq=>by
      rcases List.mem_append.1 hq with hq|hq
      ·exact zU q hq
      ·exact hzz q hq
     have hone:∀v,v∈news->v.oneCell'=true:=by
      intro v hv';obtain⟨q,hq⟩:=List.mem_iff_getElem?.1 hv';have hql:q<new.length*it.size:=(by rw[<- n1];exact(List.getElem?_eq_some_iff.1 hq).1);have h1:q/it.size<new.length:=(Nat.div_lt_iff_lt_mul hz0).2 hql;have hrow':=k1P (l:=new) [] h1;have zE:=hzz _ (List.mem_of_getElem? hrow');have h2:q%it.size<(new.getD (q/it.size) []).length:=(by rw[zE];exact Nat.mod_lt _ hz0);obtain⟨u,hu1,hu2⟩:=n3 _ _ hrow' _ _ (k1P .any h2);rw[Nat.mul_comm,Nat.div_add_mod,hq] at hu1;cases hu1
      exact hu2.cell (k5T (k94 zL hrow') (k1P .any h2))
     -- what the new row holds,wherever it lies
     have hcont:∀(d:Cfg) (arr:Array Value),(∀(x:AV) (v:Value),VR c x v->VR d x v)->(∀q,q<es.length*it.size->arr[q]?=vs[q]?)->(∀q,q<new.length*it.size->arr[es.length*it.size+q]?=news[q]?) ->
      ∀(i:Nat) (r:List AV),(es++new)[i]?=some r->∀(j:Nat) (u:AV),r[j]?=some u->VR d u (arr.getD (i*it.size+j) undef):=by
      intro d arr hd ha1 ha2 i r hi' j u hj
      have hjz:j<it.size:=by
       have h1:=(List.getElem?_eq_some_iff.1 hj).1;have:=hes' r (List.mem_of_getElem? hi');omega
      by_cases yH:i<es.length
      ·rw[List.getElem?_append_left yH] at hi'
       have:=hvr i r hi' j u hj;rw[Array.getD_eq_getD_getElem?] at this ⊢;rw[ha1 _ (k53 yH hjz)];exact hd _ _ this
      ·rw[List.getElem?_append_right (by omega)] at hi'
       obtain⟨v,hv1,hv2⟩:=n3 _ r hi' j u hj;have hlt:=(List.getElem?_eq_some_iff.1 hv1).1
       have hidx:i*it.size+j=es.length*it.size+((i-es.length)*it.size+j):=by
        have:i=es.length+(i-es.length):=(by omega);rw[this,Nat.add_mul];simp;omega
       rw[Array.getD_eq_getD_getElem?,hidx,ha2 _ (by rw[<- n1];exact hlt),hv1];exact hd _ _ hv2
     by_cases hroom:es.length+new.length<=cap
     ·have hfit:es.length*it.size+news.length<=vs.size:=by
       rw[n1,<- Nat.add_mul];exact Nat.le_trans (Nat.mul_le_mul_right _ hroom) hm1
      have hst':=k6U P (c.r s) (es.length*it.size) ty fz news 0 vs c.w hh0 hfz (by omega) hone;have hf:=run_firstCells_some (P:=P) c.w it.size new.length a new.length cap' news n1 n2;simp only[Nat.add_zero] at hst'
      have hr:(Builtin.append_ #[t,t] o.type #[.slice (some ⟨c.r s,0,none⟩) es.length cap,.slice (some a) new.length cap']).run P c.w = .ok (.slice (some ⟨c.r s,0,none⟩) (es.length+new.length) cap)
       (c.w.setRow (c.r s) (vs.toList.take (es.length*it.size)++news++vs.toList.drop (es.length*it.size+news.length)).toArray):=by
       simp[Builtin.append_,k0L c.w hu,sizeOf,typeInfo,hi,Builtin.lenOf,hroom,hf,k5W,hst']
      have hsize:(vs.toList.take (es.length*it.size)++news++vs.toList.drop (es.length*it.size+news.length)).toArray.size=vs.size:=by
       simp;omega
      have hmin:(vs.toList.take (es.length*it.size)).length=es.length*it.size:=by simp;omega
      obtain⟨R1,E1⟩:=Rel.move R s tt h' _ it.size es (es++new) vs _ ty hz0 hs0' ht hh1 hh2 hh3 hfz hh0 (setRow_heap _ _ _ _ _ _ hh0) hsize (λb hb=>setRow_other _ _ _ _ (by omega)) rfl rfl rfl (k7H _ _ _) hes'
       (by rw[hsize,List.length_append,Nat.add_mul,<- n1];exact hfit)
       (hcont c _ (λ_ _ h=>h) (λq hq=>by
         rw[List.getElem?_toArray,List.append_assoc,List.getElem?_append_left (by omega),List.getElem?_take,if_pos hq];simp) (λq hq=>by
         rw[List.getElem?_toArray,List.append_assoc,List.getElem?_append_right (by omega),hmin,List.getElem?_append_left (by omega)];congr 1;omega)) c.h.length
      refine⟨_,_,_,run _ _ _ _ _ _ g1 k1 hr,rfl,R1,E1,rfl,?_⟩
      have:=VR.sl (c:={ c with r:=λk=>if k=tt then c.r s else c.r k,h:=h',w:=(c.w.setRow (c.r s) (vs.toList.take (es.length*it.size)++news++vs.toList.drop (es.length*it.size+news.length)).toArray) }) tt it.size 0 (es++new).length cap
       ⟨_,hh1,by simp⟩ (by simpa using hroom) ⟨ty,vs.size,by
         simp only[if_true];unfold World.shape?;rw[setRow_heap _ _ _ _ _ _ hh0];simp only[hsize],by simpa using hm1⟩
      (obtain⟨zz,hzz1⟩:∃zz,it.size=zz+1:=⟨it.size-1,by omega⟩;rw[hzz1] at this ⊢;simpa[Res.at,Nat.beq] using this)
     ·have holds:∀j v,(vs.toList.take (es.length*it.size))[j]?=some v->c.w.cell? ((⟨c.r s,0,none⟩:Addr).add j)=some v:=by
       intro j v hj;rw[k5W,Nat.zero_add];rw[List.getElem?_take] at hj;split at hj
       ·unfold World.cell?
        rw[hh0];simpa using hj
       ·cases hj
      have hmin:(vs.toList.take (es.length*it.size)).length=es.length*it.size:=(by simp;omega);have hr:=run_append_grow (P:=P) c.w t o.type e0 it zv hu hi hz ⟨c.r s,0,none⟩ es.length cap (vs.toList.take (es.length*it.size)) hmin holds a new.length cap' news n1 n2 (by omega) (by omega) (growslice_fits (by omega) h47);have hge:=grownCap_ge c.w (es.length+new.length) cap e0
      obtain⟨R0,E0⟩:=Rel.leave R (c.h.set s .dead) c.h.length (λk x hk=>by
       by_cases hks:k=s
       ·subst hks;rw[List.getElem?_set_self hslt] at hk;cases hk;exact .inr rfl
       ·rw[List.getElem?_set_ne (Ne.symm hks)] at hk;exact .inl hk)
       (λk hk x hx hf=>by
         by_cases hks:k=s
         ·subst hks;exact⟨.dead,List.getElem?_set_self hslt,by simp⟩
         ·exact⟨x,by rw[List.getElem?_set_ne (Ne.symm hks)];exact hx,hf⟩) (Nat.le_refl _)
       (λk z' e' hk q hq u hu'=>by
         by_cases hks:k=s
         ·subst hks;rw[List.getElem?_set_self hslt] at hk;cases hk
         ·rw[List.getElem?_set_ne (Ne.symm hks)] at hk
          obtain⟨_,_,_,_,_,hvr'⟩:=R.livx k z' e' hk;obtain⟨i,hi'⟩:=List.mem_iff_getElem?.1 hq;obtain⟨j,hj⟩:=List.mem_iff_getElem?.1 hu';exact(hvr' i q hi' j u hj).upto)
      obtain⟨R1,E1⟩:=R0.sameHeap (w:=c.w.drew) rfl rfl rfl rfl c.h.length
      have ht1:¬Cfg.used { c with h:=c.h.set s .dead,w:=c.w.drew } tt:=by
       rintro⟨x,hx,hf⟩
       have hx':(c.h.set s .dead)[tt]?=some x:=hx;rw[List.getElem?_set_ne hst] at hx';exact ht ⟨x,hx',hf⟩
      have hsize:((vs.toList.take (es.length*it.size)).toArray++news.toArray++Builtin.zeroCells zv.cells (grownCap c.w (es.length+new.length) cap e0-(es.length+new.length))).size=grownCap c.w (es.length+new.length) cap e0*it.size:=by
       simp only[Array.size_append,List.size_toArray,size_zeroCells,hzs,n1,hmin,<- Nat.add_mul];congr 1;omega
      have E01:=E0.trans E1
      obtain⟨R2,E2⟩:=Rel.fresh R1 tt h' it.size (es++new) _ e0 c.h.length ht1 hh1 (λk x hk hf=>by
       show h'[k]?=some x↔(c.h.set s .dead)[k]?=some x;by_cases hks:k=s
       ·subst hks;rw[hh2,List.getElem?_set_self hslt]
       ·rw[List.getElem?_set_ne (Ne.symm hks)];exact hh3 k x hk hks hf) hz0 hes'
       (by rw[hsize,List.length_append];exact Nat.mul_le_mul_right _ hge)
       (hcont _ ((vs.toList.take (es.length*it.size)).toArray++news.toArray++Builtin.zeroCells zv.cells (grownCap c.w (es.length+new.length) cap e0-(es.length+new.length))) (λx v hv'=>E01.vr' hv') (λq hq=>by
         rw[Array.append_assoc,Array.getElem?_append_left (by simpa using (by omega:q<(vs.toList.take (es.length*it.size)).length)),List.getElem?_toArray,List.getElem?_take,if_pos hq];simp) (λq hq=>by
         rw[Array.append_assoc,Array.getElem?_append_right (by simp;omega)];simp only[List.size_toArray,hmin];rw[Array.getElem?_append_left (by simp;omega),List.getElem?_toArray];congr 1;omega))
      refine⟨_,_,_,run _ _ _ _ _ _ g1 k1 hr,rfl,R2,E01.trans E2,rfl,?_⟩
      have:=VR.sl (c:={ c with w:=c.w.drew.alloc (.cells ((vs.toList.take (es.length*it.size)).toArray++news.toArray++Builtin.zeroCells zv.cells (grownCap c.w (es.length+new.length) cap e0-(es.length+new.length))) e0),r:=λs=>if s=tt then c.w.heap.size else c.r s,h:=h' })
       tt it.size 0 (es++new).length (grownCap c.w (es.length+new.length) cap e0)
       ⟨_,hh1,by simp⟩ (by simpa using hge) ⟨e0,_,by
         have:=heap_alloc_new c.w.drew (.cells ((vs.toList.take (es.length*it.size)).toArray++news.toArray++Builtin.zeroCells zv.cells (grownCap c.w (es.length+new.length) cap e0-(es.length+new.length))) e0);simp only[if_true];unfold World.shape?;rw[show c.w.drew.heap.size=c.w.heap.size from rfl] at this;rw[this],by rw[hsize];simp⟩
      (obtain⟨zz,hzz1⟩:∃zz,it.size=zz+1:=⟨it.size-1,by omega⟩;rw[hzz1] at this ⊢;simpa[Res.at,Nat.beq] using this)
   ·exact hK.elim
  ·exact hK.elim
 ·exact hK.elim
end Go.Eng
