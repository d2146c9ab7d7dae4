/- Parts of the proofs. -/
import Derived.WideKeyRuns
import Derived.Test.YtlchlddijclhjaaGreatS1
set_option linter.unusedVariables false
set_option linter.unusedSimpArgs false
namespace Go.Eng
open Go Go.RowKit
variable {P:Program} {o:Oper} {ev:k0B->AV} {h:k00}
theorem k7K{ents:Array MapEntry}{clock:Nat}{vss:List (List Value)}(h:k2X (.map ents clock)=some vss):clock=ents.size/\(∀(i:Nat) (e:MapEntry),ents[i]?=some e->e.born=i)/\vss=ents.toList.map λe=>[e.key,e.val]:=by
 simp only[k2X] at h;split at h
 ·rename_i hc
  simp only[Option.some.injEq] at h;refine⟨hc.1,λi e he=>?_,h.symm⟩;obtain⟨hi,rfl⟩:=Array.getElem?_eq_some_iff.1 he;exact hc.2 ⟨i,hi⟩
 ·cases h
theorem kC6{ents:Array MapEntry}(h:∀(i:Nat) (e:MapEntry),ents[i]?=some e->e.born=i):k2X (.map ents ents.size)=some (ents.toList.map λe=>[e.key,e.val]):=by
 simp only[k2X];rw[if_pos];exact⟨trivial,λi=>h i.1 _ (Array.getElem?_eq_getElem i.2)⟩
theorem Rel.map{c:Cfg}(R:Rel c){s:Nat}{es:List (List AV)}(hs:c.h[s]?=some (.live 0 es))(h2:∀e,e∈es->e.length=2):¬c.O (c.r s)/\∃ents:Array MapEntry,c.w.heap[c.r s]?=some (.map ents ents.size)/\ents.size=es.length/\(∀(i:Nat) (e:MapEntry),ents[i]?=some e->e.born=i) /\
 ∀(i:Nat) (k v:AV),es[i]?=some [k,v]->∃e,ents[i]?=some e/\VR c k e.key/\VR c v e.val:=by
 obtain⟨h1,o,g,h3,h4,h5⟩:=R.livx s 0 es hs;refine⟨h1,?_⟩;rcases h4 with ⟨k0,_⟩|⟨_,vss,k1,k2,k3,rfl⟩
 ·omega
 cases o<;>try (simp[k2X] at k1;done)
 ·rename_i ents clock
  obtain⟨rfl,hb,rfl⟩:=k7K k1;simp only[List.length_map,Array.length_toList] at k2;refine⟨ents,h3,k2,hb,λi k v hi=>?_⟩;have hil:i<ents.size:=(by rw[k2];exact(List.getElem?_eq_some_iff.1 hi).1);have e1:=h5 i _ hi 0 k rfl;have e2:=h5 i _ hi 1 v rfl;refine⟨ents[i],Array.getElem?_eq_getElem hil,?_,?_⟩
  ·simpa[List.getD_eq_getElem?_getD,hil] using e1
  ·simpa[List.getD_eq_getElem?_getD,hil] using e2
 ·rename_i m since seen last
  exfalso
  cases m with
  | none=>simp[k2X] at k1
  | some b =>
    simp only[k2X,Option.some.injEq] at k1;subst k1
    cases es with
    | nil=>simp at k2
    | cons e es =>
      have h6:=k3 0 e rfl;have h7:=h2 e (by simp);rw[h7] at h6;simp at h6
theorem kNG{g:Bool}{n:Nat}{os:List (Nat×Nat)}:∀ {es:List (List AV)} {k:AV} {r:Option AV},k64 g n os es k=some r->es=[]\/∃k' v es',es=[k',v]::es'
 | [],_,_,_=>.inl rfl
 | e::es,k,r,h=>by
   unfold k64 at h;split at h
   ·exact .inr ⟨_,_,_,rfl⟩
   ·cases h
theorem Rel.map1{c:Cfg}(R:Rel c){s:Nat}{es:List (List AV)}(hs:c.h[s]?=some (.live 0 es))(h2:es=[]\/∃k v es',es=[k,v]::es'):(∀e,e∈es->e.length=2):=by
 obtain⟨h1,o,g,h3,h4,h5⟩:=R.livx s 0 es hs;rcases h4 with ⟨k0,_⟩|⟨_,vss,k1,k2,k3,rfl⟩
 ·omega
 rcases h2 with rfl|⟨k,v,es',rfl⟩
 ·intro e he;cases he
 cases o<;>try (simp[k2X] at k1;done)
 ·rename_i ents clock
  obtain⟨rfl,hb,rfl⟩:=k7K k1;intro e he;obtain⟨i,hi⟩:=List.mem_iff_getElem?.1 he
  have hil:i<ents.size:=by
   have:=(List.getElem?_eq_some_iff.1 hi).1;simp only[List.length_map,Array.length_toList] at k2;omega
  rw[k3 i e hi];simp[List.getD_eq_getElem?_getD,hil]
 ·rename_i m since seen last
  exfalso
  cases m with
  | none=>simp[k2X] at k1
  | some b =>
    simp only[k2X,Option.some.injEq] at k1;subst k1;have h6:=k3 0 _ rfl;simp at h6
theorem k3A{t:TypeId}{g:Bool}{n:Nat}{os:List (Nat×Nat)}(h:k3R P t=some (g,n,os)):k19 P t=some g/\k3O P t=some n/\k1J P 8 t=some os/\(g=true\/n=1)/\os.map (·.1)=List.range n:=by
 unfold k3R at h;split at h
 ·rename_i g' n' os' h1 h2 h3
  split at h
  ·rename_i hc
   simp only[Option.some.injEq,Prod.mk.injEq] at h;obtain⟨rfl,rfl,rfl⟩:=h;exact⟨h1,h2,h3,hc.1,hc.2⟩
  ·cases h
 ·cases h
theorem k48{c:Cfg}{g:Bool}{n:Nat}{a:AV}{v:Value}{xs:List AV}(h:VR c a v)(hk:k2S g n a=some xs):xs.length=n/\VR c (k1S g n xs 0) v/\VRs c xs v.cells:=by
 unfold k2S at hk;split at hk
 ·split at hk
  ·rename_i cs
   split at hk
   ·rename_i hl
    simp only[Option.some.injEq] at hk;subst hk;refine⟨hl,by simp only[k1S,if_true,List.drop_zero];rw[List.take_of_length_le (by omega)];exact h,?_⟩;obtain⟨vs,rfl,hv⟩:=h.agg';exact hv
   ·cases hk
  ·cases hk
 ·split at hk
  ·rename_i hc
   simp only[Option.some.injEq] at hk;subst hk;refine⟨by simp[hc.1],by simpa[k1S] using h,?_⟩
   have hcell:a.cellsOf=some [a]:=by
    have:=hc.2
    cases a<;>simp[AV.isCell] at this<;>rfl
   exact h.cells hcell
  ·cases hk
theorem kA3{t:TypeId}{g:Bool}{n:Nat}{os:List (Nat×Nat)}(hk:k3R P t=some (g,n,os)){c:Cfg}{a b:AV}{u v:Value}(ha:VR c a u)(hb:VR c b v){r:Bool}(h:k58 g n os a b=some r):(Op.equal t u v).run P c.w = .ok r c.w:=by
 obtain⟨h1,h2,h3,h4,h5⟩:=k3A hk;unfold k58 at h;split at h
 ·rename_i xs ys hx hy
  obtain⟨k1,k2,_⟩:=k48 ha hx;obtain⟨k3,k4,_⟩:=k48 hb hy;exact q1F P 8 t 10000 os xs ys r c g n u v (by omega) h3 h h1 h2 h4 k1 k3 k2 k4
 ·cases h
theorem k7S{xs ys:List AV}:∀ {os:List (Nat×Nat)},k0O xs ys os=some true->∀p,p∈os->eqA p.2 (xs.getD p.1 .any) (ys.getD p.1 .any)=some true
 | [],_,p,hp=>by cases hp
 | (o,q)::os,h,p,hp=>by
   simp only[k0O] at h;split at h
   ·rename_i a b h1 h2
    simp only[Option.some.injEq,Bool.and_eq_true] at h;obtain⟨rfl,rfl⟩:=h;rcases List.mem_cons.1 hp with rfl|hp
    ·exact h1
    ·exact k7S h2 p hp
   ·cases h
theorem toList_inj{a b:ByteArray}(h:a.toList=b.toList):a=b:=by
 have h1:∀x:ByteArray,x.toList=x.data.toList:=λx=>ByteArray.toList_eq x;rw[h1,h1] at h;obtain⟨x⟩:=a;obtain⟨y⟩:=b;have:x=y:=Array.toList_inj.1 h;rw[this]
theorem k4R{t:TypeId}(hu:P.underlying t=some .bool\/(∃k,P.underlying t=some (.int k))\/P.underlying t=some .string)(em:Bool)(d:Nat)(v:Value)(w:World):(Instr.checkKey em (d+1) t v).run P w = .ok () w:=by
 unfold Instr.checkKey;rcases hu with hu|⟨k,hu⟩|hu<;>simp only[Sem.run_bind,k0L w hu,Result.andThen_ok]<;>rfl
def q2W(P:Program)(em:Bool)(m:Nat)(t:TypeId):Prop:=
 ∀(d:Nat) (os:List (Nat×Nat)) (xs:List AV) (c:Cfg) (g:Bool) (k:Nat) (a:Value),m<=d->k1J P m t=some os->k19 P t=some g->k3O P t=some k->(g=true\/k=1)->xs.length=k->VR c (k1S g k xs 0) a->(Instr.checkKey em d t a).run P c.w = .ok () c.w
theorem kIX{m:Nat}{t:TypeId}{os:List (Nat×Nat)}{k:Nat}(hos:k1J P m t=some os)(hc:k19 P t=some true\/k=1):∃g,k19 P t=some g/\(g=true\/k=1):=by
 cases hag:k19 P t with
 | none =>
   exfalso;unfold k19 at hag;split at hag<;>simp at hag
   rename_i yM
   cases m with
   | zero=>simp[k1J] at hos
   | succ m=>unfold k1J at hos;rw[yM] at hos;simp at hos
 | some g=>exact⟨g,rfl,by rcases hc with h|h;· rw[hag] at h;simp at h;exact .inl h
                          ·exact .inr h⟩
theorem kEP(l:List AV)(o k:Nat)(g:Bool)(hg:g=true\/k=1):k1S g k ((l.drop o).take k) 0=k1S g k l o:=by
 cases g with
 | true=>simp[k1S,List.take_take]
 | false =>
   have:k=1:=(by simpa using hg);subst this;simp[k1S,List.getD_eq_getElem?_getD,List.getElem?_take,List.getElem?_drop]
theorem kI5{α: Type}{w:World}{f: α -> PUnit->Sem (ForInStep PUnit)}:∀(l:List α),(∀a,a∈l->(f a ⟨⟩).run P w = .ok (.yield ⟨⟩) w)->(forIn l PUnit.unit f:Sem PUnit).run P w = .ok ⟨⟩ w
 | [],_=>by simp
 | a::l,h=>by
   simp only[List.forIn_cons,Sem.run_bind,h a (by simp),Result.andThen_ok];exact kI5 l λb hb=>h b (by simp[hb])
theorem kF6{α: Type}{w:World}{f: α -> PUnit->Sem (ForInStep PUnit)}(l:List α)(h:∀a,a∈l->(f a ⟨⟩).run P w = .ok (.yield ⟨⟩) w):(((forIn l PUnit.unit f:Sem PUnit).run P w).andThen λa w'=>(pure ():Sem Unit).run P w') = .ok () w:=by
 rw[kI5 l h];rfl
theorem kY0(P:Program)(em:Bool):∀(m:Nat) (t:TypeId),q2W P em m t
 | 0,t=>λd os xs c g k a hd hl=>by simp[k1J] at hl
 | m+1,t=>by
   intro d os xs c g k a hd hl hg hk hgk hx va;obtain⟨d,rfl⟩:∃d',d=d'+1:=⟨d-1,by omega⟩;unfold k1J at hl;split at hl
   ·rename_i hu;exact k4R (.inl hu) em d a c.w
   ·rename_i k hu;exact k4R (.inr (.inl ⟨k,hu⟩)) em d a c.w
   ·rename_i hu;exact k4R (.inr (.inr hu)) em d a c.w
   ·rename_i fs hu
    split at hl
    ·rename_i hcond
     have hg':g=true:=(by unfold k19 at hg;rw[hu] at hg;simpa using hg.symm);subst hg';simp only[k1S,if_true,List.drop_zero] at va;rw[List.take_of_length_le (by omega)] at va;obtain⟨ua,rfl,hua⟩:=va.agg';unfold Instr.checkKey;simp only[Sem.run_bind,k0L c.w hu,Result.andThen_ok];rw[<- Array.forIn_toList];refine kF6 fs.toList λf hf=>?_
     have step:∀(fs:List Field) (os:List (Nat×Nat)),k5N (λu=>match k1J P m u,k3O P u with|some os,some k=>if os.all (λo=>decide (o.1<k))=true/\(k19 P u=some true\/k=1) then some os else none|_,_=>none) fs=some os ->
      ∀f,f∈fs->∃os' k',k1J P m f.type=some os'/\k3O P f.type=some k'/\(k19 P f.type=some true\/k'=1):=by
      intro fs
      induction fs with
      | nil=>intro os _ f hf;cases hf
      | cons g fs ih =>
        intro os h f hf;simp only[k5N] at h;split at h
        ·rename_i la lb ha hb
         rcases List.mem_cons.1 hf with rfl|hf
         ·split at ha
          ·rename_i os' k' hos hk'
           split at ha
           ·rename_i hc;exact⟨os',k',hos,hk',hc.2⟩
           ·cases ha
          ·cases ha
         ·exact ih lb hb f hf
        ·cases h
     obtain⟨os',k',hos,hk',hc⟩:=step _ _ hl f hf;obtain⟨g',hg',hgk'⟩:=kIX hos hc;have hfit:=List.all_eq_true.1 hcond.2 f hf;simp only[hk',hk,decide_eq_true_eq] at hfit;obtain⟨cv,p1,v1⟩:=k4I (P:=P) c hg' hk' hgk' hua f.offset (by omega);have h4:=kY0 P em m f.type d os' ((xs.drop f.offset).take k') c g' k' cv (by omega) hos hg' hk' hgk' (by simp;omega) (by rw[kEP _ _ _ _ hgk'];exact v1)
     by_cases hn : f.name ≠ "_"
     ·simp only[hn,ne_eq,not_false_eq_true,if_true,Sem.run_bind,p1,h4,Result.andThen_ok,Sem.run_pure]
     ·simp only[hn,if_false,Sem.run_pure]
    ·cases hl
   ·rename_i n e hu
    split at hl
    ·rename_i os' k' hos hk'
     split at hl
     ·rename_i hcond
      have hg':g=true:=(by unfold k19 at hg;rw[hu] at hg;simpa using hg.symm);subst hg';simp only[k1S,if_true,List.drop_zero] at va;rw[List.take_of_length_le (by omega)] at va;obtain⟨ua,rfl,hua⟩:=va.agg';obtain⟨hc1,hc2,hc3⟩:=hcond;simp only[kH9,hk,decide_eq_true_eq] at hc3;obtain⟨g',hg',hgk'⟩:=kIX hos hc2;unfold Instr.checkKey;simp only[Sem.run_bind,k0L c.w hu,Result.andThen_ok];simp only[Std.Legacy.Range.forIn_eq_forIn_range',Std.Legacy.Range.size,Nat.sub_zero,Nat.add_one_sub_one,Nat.div_one];refine kF6 _ λi hi=>?_
      have yH:i<n:=by
       have:=List.mem_range'.1 hi;omega
      have hb:=Nat.mul_le_mul_right k' (show i+1<=n from yH);rw[Nat.succ_mul] at hb;obtain⟨cv,p1,v1⟩:=k4I (P:=P) c hg' hk' hgk' hua (i*k') (by omega);have h4:=kY0 P em m e d os' ((xs.drop (i*k')).take k') c g' k' cv (by omega) hos hg' hk' hgk' (by simp;omega) (by rw[kEP _ _ _ _ hgk'];exact v1);simp only[Sem.run_bind,k3E c.w hk',Result.andThen_ok,p1,h4,Sem.run_pure]
     ·cases hl
    ·cases hl
   ·cases hl
theorem kF1{t:TypeId}{g:Bool}{n:Nat}{os:List (Nat×Nat)}(hk:k3R P t=some (g,n,os)){c:Cfg}{a:AV}{u:Value}(ha:VR c a u){xs:List AV}(hx:k2S g n a=some xs)(em:Bool):(Instr.checkKey em 10000 t u).run P c.w = .ok () c.w:=by
 obtain⟨h1,h2,h3,h4,h5⟩:=k3A hk;obtain⟨k1,k2,_⟩:=k48 ha hx;exact kY0 P em 8 t 10000 os xs c g n u (by omega) h3 h1 h2 h4 k1 k2
theorem kOO(x y:ByteArray):(x == y)=(x.toList == y.toList):=by
 by_cases hxy:x=y
 ·subst hxy;simp[(MapKept.bytes_beq x x).2 rfl]
 ·have h1:(x == y)=false:=by
   cases hq:(x == y) with
   | false=>rfl
   | true=>exact absurd ((MapKept.bytes_beq x y).1 hq) hxy
  have h2:(x.toList == y.toList)=false:=by
   rw[beq_eq_false_iff_ne];exact λe=>hxy (toList_inj e)
  rw[h1,h2]
theorem k6T{t:TypeId}{g:Bool}{n:Nat}{os:List (Nat×Nat)}(hk:k3R P t=some (g,n,os)){d:TypeDesc}(hu:P.underlying t=some d)(hb:d = .bool\/(∃k,d = .int k)\/d = .string){c:Cfg}{a b:AV}{u v:Value}(ha:VR c a u)(hb':VR c b v){r:Bool}(h:k58 g n os a b=some r) :
 Instr.sameNow d u v=some r:=by
 obtain⟨h1,h2,h3,h4,h5⟩:=k3A hk
 have hag:g=false/\(os=[(0,0)]/\d = .bool\/os=[(0,1)]/\(∃k,d = .int k)\/os=[(0,2)]/\d = .string):=by
  unfold k19 at h1;unfold k1J at h3;rw[hu] at h1 h3;rcases hb with rfl|⟨k,rfl⟩|rfl<;>simp only[Option.some.injEq] at h1 h3<;>refine⟨h1.symm,?_⟩
  ·exact .inl ⟨h3.symm,rfl⟩
  ·exact .inr (.inl ⟨h3.symm,k,rfl⟩)
  ·exact .inr (.inr ⟨h3.symm,rfl⟩)
 obtain⟨rfl,hos⟩:=hag;unfold k58 at h;split at h
 ·rename_i xs ys hx hy
  have cell:∀ {v:AV} {xs:List AV},k2S false n v=some xs->xs=[v]:=by
   intro v xs h;have h:(if n=1/\v.isCell=true then some [v] else none)=some xs:=h;split at h
   ·simpa using h.symm
   ·cases h
  obtain rfl:=cell hx;obtain rfl:=cell hy
  have key:∀q,k0O [a] [b] [(0,q)]=some r->eqA q a b=some r:=λq h=>by
   simp only[k0O] at h;split at h
   ·rename_i x y hx hy
    simp only[Option.some.injEq] at hy;subst hy;have:eqA q a b=some x:=hx;rw[this];simpa using h
   ·cases h
  rcases hos with ⟨rfl,rfl⟩|⟨rfl,k,rfl⟩|⟨rfl,rfl⟩
  ·replace h:=key _ h
   clear key
   cases a<;>cases b<;>simp only[eqA,Option.some.injEq,reduceCtorEq] at h
   rw[ha.bool',hb'.bool',<- h];rfl
  ·replace h:=key _ h
   clear key
   cases a<;>cases b<;>simp only[eqA,Option.some.injEq,reduceCtorEq] at h
   rw[ha.int',hb'.int'];split at h
   ·rename_i hkk
    subst hkk
    (try simp only[Option.some.injEq] at h)
    rw[<- h];simp[Instr.sameNow]
   ·cases h
  ·replace h:=key _ h
   clear key
   cases a<;>cases b<;>simp only[eqA,Option.some.injEq,reduceCtorEq] at h
   rw[ha.str',hb'.str',<- h];simp only[Instr.sameNow,Option.some.injEq];exact kOO _ _
 ·cases h
def k5D(c:Cfg)(es:List (List AV))(l:List MapEntry):Prop:=l.length=es.length/\∀(i:Nat) (k v:AV),es[i]?=some [k,v]->∃e,l[i]?=some e/\VR c k e.key/\VR c v e.val
theorem k5D.tail{c:Cfg}{e:List AV}{es:List (List AV)}{m:MapEntry}{l:List MapEntry}(h:k5D c (e::es) (m::l)):k5D c es l:=⟨by have:=h.1;simpa using this,λi k v hi=>by simpa using h.2 (i+1) k v (by simpa using hi)⟩
theorem k8N{t:TypeId}{g:Bool}{n:Nat}{os:List (Nat×Nat)}(hk:k3R P t=some (g,n,os)){c:Cfg}{a:AV}{u:Value}(ha:VR c a u):∀ {es:List (List AV)} {l:List MapEntry} {r:Option AV} {i:Nat},k5D c es l->k64 g n os es a=some r ->
 ∃q,(Instr.findAsking t u l i).run P c.w = .ok q c.w/\(match r with|none=>q=none|some v=>∃j x,q=some (i+j,x)/\VR c v x/\∃k,es[j]?=some [k,v])
 | [],[],r,i,hr,h=>by
   simp only[k64,Option.some.injEq] at h;subst h;exact⟨none,by simp[Instr.findAsking],rfl⟩
 | [],m::l,r,i,hr,h=>by have:=hr.1;simp at this
 | e::es,[],r,i,hr,h=>by have:=hr.1;simp at this
 | e::es,m::l,r,i,hr,h=>by
   unfold k64 at h;split at h
   ·rename_i k' v
    obtain⟨m',hm,hkv,hvv⟩:=hr.2 0 k' v rfl;simp only[List.getElem?_cons_zero,Option.some.injEq] at hm;subst hm;split at h
    ·rename_i hq
     simp only[Option.some.injEq] at h;subst h;exact⟨some (i,m.val),by simp[Instr.findAsking,kA3 hk ha hkv hq],0,m.val,rfl,hvv,k',rfl⟩
    ·rename_i hq
     obtain⟨q,h1,h2⟩:=k8N hk ha (i:=i+1) hr.tail h;refine⟨q,by simp[Instr.findAsking,kA3 hk ha hkv hq,h1],?_⟩
     cases r with
     | none=>exact h2
     | some v' =>
       obtain⟨j,x,h3,h4,k,h5⟩:=h2;exact⟨j+1,x,by rw[h3];simp;omega,h4,k,by simpa using h5⟩
    ·cases h
   ·cases h
theorem kCA{t:TypeId}{g:Bool}{n:Nat}{os:List (Nat×Nat)}(hk:k3R P t=some (g,n,os)){d:TypeDesc}(hu:P.underlying t=some d)(hb:d = .bool\/(∃k,d = .int k)\/d = .string){c:Cfg}{a:AV}{u:Value}(ha:VR c a u):∀ {es:List (List AV)} {l:List MapEntry} {r:Option AV} {i:Nat},k5D c es l->k64 g n os es a=some r ->
 ∃q,Instr.findNow d u l i=some q/\(match r with|none=>q=none|some v=>∃j x,q=some (i+j,x)/\VR c v x/\∃k,es[j]?=some [k,v])
 | [],[],r,i,hr,h=>by
   simp only[k64,Option.some.injEq] at h;subst h;exact⟨none,by simp[Instr.findNow],rfl⟩
 | [],m::l,r,i,hr,h=>by have:=hr.1;simp at this
 | e::es,[],r,i,hr,h=>by have:=hr.1;simp at this
 | e::es,m::l,r,i,hr,h=>by
   unfold k64 at h;split at h
   ·rename_i k' v
    obtain⟨m',hm,hkv,hvv⟩:=hr.2 0 k' v rfl;simp only[List.getElem?_cons_zero,Option.some.injEq] at hm;subst hm;split at h
    ·rename_i hq
     simp only[Option.some.injEq] at h;subst h;exact⟨some (i,m.val),by simp[Instr.findNow,k6T hk hu hb ha hkv hq],0,m.val,rfl,hvv,k',rfl⟩
    ·rename_i hq
     obtain⟨q,h1,h2⟩:=kCA hk hu hb ha (i:=i+1) hr.tail h;refine⟨q,by simp[Instr.findNow,k6T hk hu hb ha hkv hq,h1],?_⟩
     cases r with
     | none=>exact h2
     | some v' =>
       obtain⟨j,x,h3,h4,k,h5⟩:=h2;exact⟨j+1,x,by rw[h3];simp;omega,h4,k,by simpa using h5⟩
    ·cases h
   ·cases h
theorem kCC{t:TypeId}{g:Bool}{n:Nat}{os:List (Nat×Nat)}(hk:k3R P t=some (g,n,os)){c:Cfg}{a:AV}{u:Value}(ha:VR c a u){es:List (List AV)}{l:List MapEntry}{r:Option AV}(hr:k5D c es l)(h:k64 g n os es a=some r) :
 ∃q,(Instr.findKey t u l).run P c.w = .ok q c.w/\(match r with|none=>q=none|some v=>∃j x,q=some (j,x)/\VR c v x/\∃k,es[j]?=some [k,v]):=by
 obtain⟨h1,h2,h3,h4,h5⟩:=k3A hk
 cases hu:P.underlying t with
 | none=>unfold k19 at h1;rw[hu] at h1;cases h1
 | some d =>
   by_cases hb:d = .bool\/(∃k,d = .int k)\/d = .string
   ·obtain⟨q,k1,k2⟩:=kCA hk hu hb ha (i:=0) hr h
    refine⟨q,MapKept.run_findKey hu k1,?_⟩
    cases r with
    | none=>exact k2
    | some v=>simpa using k2
   ·have hwide:(match P.underlying t with|some (.array _ _)|some (.struct _)=>true|_=>false)=true:=by
     rw[hu];unfold k1J at h3;rw[hu] at h3
     cases d<;>simp at hb h3 ⊢
    obtain⟨q,k1,k2⟩:=k8N hk ha (i:=0) hr h;refine⟨q,by rw[run_findKey_eq c.w hwide];exact k1,?_⟩
    cases r with
    | none=>exact k2
    | some v=>simpa using k2
theorem VR.mapr'{c:Cfg}{s:Nat}{v:Value}(h:VR c (.mapr s) v):c.used s/\v = .map (some (c.r s)):=by cases h;exact⟨‹_›,rfl⟩
theorem kJH{t:TypeId}{z:AV}(h:kHF P t=some z)(c:Cfg):∃v,(zeroValue t).run P c.w = .ok v c.w/\VR c z v:=by
 unfold kHF at h;split at h
 ·rename_i i hi
  split at h
  ·rename_i v hv
   simp only[Option.some.injEq] at h;subst h;exact⟨v,by simp[zeroValue,typeInfo,hi,hv],kD5 c v⟩
  ·cases h
 ·cases h
theorem k5D.of{c:Cfg}{es:List (List AV)}{ents:Array MapEntry}(hl:ents.size=es.length)(h:∀(i:Nat) (k v:AV),es[i]?=some [k,v]->∃e,ents[i]?=some e/\VR c k e.key/\VR c v e.val):k5D c es ents.toList:=
 ⟨by simpa using hl,λi k v hi=>by simpa using h i k v hi⟩
theorem kPY{t kt et:TypeId}{x k:Operand}{ok:Bool}{g:Bool}{n:Nat}{os:List (Nat×Nat)}{z:AV}{x' k':k0B}{K:Res->Prop}(ho:o.op = .lookup t x k ok)(hu:P.underlying t=some (.map kt et))(hk:k3R P kt=some (g,n,os))(hz:kHF P et=some z)
 (hx:k0C x=some x') (hkk:k0C k=some k') (hK:k0T (.look g n os z ok x' k') ev h K):∃r,K r/\k0A P o ev h r:=by
 simp only[k0T] at hK;split at hK
 ·rename_i s hxe
  split at hK
  ·rename_i es hs
   split at hK
   ·rename_i ks r hks hr
    refine⟨_,hK,k0A.val λc e R hsub he=>?_⟩;obtain⟨hu1,hv1⟩:=(hxe▸he x x' hx:VR c _ (e x)).mapr';have hkv:=he k k' hkk;have hs':=hsub _ _ _ hs;obtain⟨hO,ents,hh,hl,hb,zL⟩:=R.map hs' (R.map1 hs' (kNG hr));obtain⟨q,k1,k2⟩:=kCC hk hkv (k5D.of hl zL) hr;obtain⟨zv,z1,z2⟩:=kJH hz c;have h1:=kF1 hk hkv hks ents.isEmpty;have hg:(getObj (c.r s)).run P c.w = .ok (.map ents ents.size) c.w:=MapKept.run_getObj_map hh
    have hrun:∀q',q=q'->∃cv,(execOp e o).run P c.w = .ok (.value cv) c.w/\(match q' with|some (_,v)=>cv=if ok then .tuple #[v,.bool true] else v|none=>cv=if ok then .tuple #[zv,.bool false] else zv):=by
     intro q' hq';subst hq'
     cases q with
     | none =>
       refine⟨if ok then .tuple #[zv,.bool false] else zv,?_,rfl⟩;simp only[execOp,ho,hv1,Instr.lookup,Sem.run_bind,k0L c.w hu,Result.andThen_ok,hg,Sem.run_pure,h1,k1,z1]
     | some p =>
       refine⟨if ok then .tuple #[p.2,.bool true] else p.2,?_,rfl⟩;simp only[execOp,ho,hv1,Instr.lookup,Sem.run_bind,k0L c.w hu,Result.andThen_ok,hg,Sem.run_pure,h1,k1]
    obtain⟨cv,r1,r2⟩:=hrun q rfl;refine⟨cv,r1,?_⟩
    have tup:∀(a:AV) (u:Value) (b:Bool),VR c a u->VR c (.tuple [a,.bool b]) (.tuple #[u,.bool b]):=λa u b ha=>by
     refine .tuple _ _ rfl λi y hy=>?_
     match i with
     | 0=>simp at hy;subst hy;exact ha
     | 1=>simp at hy;subst hy;exact .bool b
     | i+2=>simp at hy
    cases r with
    | none =>
      subst k2;simp only at r2;subst r2;cases ok
      ·exact z2
      ·exact tup _ _ _ z2
    | some v =>
      obtain⟨j,w,rfl,hw,_⟩:=k2;simp only at r2;subst r2;cases ok
      ·exact hw
      ·exact tup _ _ _ hw
   ·exact hK.elim
  ·exact hK.elim
 ·exact hK.elim
theorem kQE{g:Bool}{n:Nat}{os:List (Nat×Nat)}{es fs:List (List AV)}{k v:AV}(h:kM8 g n os es k v=some fs):es=[]\/∃k' v' es',es=[k',v']::es':=by
 cases es with
 | nil=>exact .inl rfl
 | cons e es =>
   unfold kM8 at h;split at h
   ·exact .inr ⟨_,_,_,rfl⟩
   ·cases h
theorem kEL{g:Bool}{n:Nat}{os:List (Nat×Nat)}{k v:AV}:∀ {es fs:List (List AV)},kM8 g n os es k v=some fs->(k64 g n os es k=some none/\fs=es++[[k,v]])\/∃j k' v',k64 g n os es k=some (some v')/\es[j]?=some [k',v']/\k58 g n os k k'=some true/\fs=es.set j [k,v]/\(∀i k'' v'',i<j->es[i]?=some [k'',v'']->k58 g n os k k''=some false)
 | [],fs,h=>by
   simp only[kM8,Option.some.injEq] at h;subst h;exact .inl ⟨rfl,rfl⟩
 | e::es,fs,h=>by
   unfold kM8 at h;split at h
   ·rename_i k' v'
    split at h
    ·rename_i hq
     simp only[Option.some.injEq] at h;subst h;exact .inr ⟨0,k',v',by simp[k64,hq],rfl,hq,rfl,λi _ _ hi=>by omega⟩
    ·rename_i hq
     split at h
     ·rename_i r hr
      simp only[Option.some.injEq] at h;subst h;rcases kEL hr with ⟨h1,h2⟩|⟨j,k2,v2,h1,h2,h3,h4,h5⟩
      ·exact .inl ⟨by simp[k64,hq,h1],by rw[h2];rfl⟩
      ·refine .inr ⟨j+1,k2,v2,by simp[k64,hq,h1],by simpa using h2,h3,by rw[h4];rfl,λi a b hi hia=>?_⟩
       cases i with
       | zero=>simp only[List.getElem?_cons_zero,Option.some.injEq,List.cons.injEq,and_true] at hia;obtain⟨rfl,rfl⟩:=hia;exact hq
       | succ i=>exact h5 i a b (by omega) (by simpa using hia)
     ·cases h
    ·cases h
   ·cases h
theorem kF8{t:TypeId}{g:Bool}{n:Nat}{os:List (Nat×Nat)}(hk:k3R P t=some (g,n,os)){c:Cfg}{a:AV}{u:Value}(ha:VR c a u):∀ {es:List (List AV)} {l:List MapEntry} {i j:Nat} {k' v':AV},k5D c es l->es[j]?=some [k',v']->k58 g n os a k'=some true->(∀i e,i<j->es[i]?=some e->∃k'' v'',e=[k'',v'']/\k58 g n os a k''=some false) ->
 ∃x,(Instr.findAsking t u l i).run P c.w = .ok (some (i+j,x)) c.w
 | es,[],i,j,k',v',hr,hj,hq,hb=>by
   have h1:=(List.getElem?_eq_some_iff.1 hj).1;have:=hr.1;simp at this;omega
 | [],m::l,i,j,k',v',hr,hj,hq,hb=>by simp at hj
 | e::es,m::l,i,0,k',v',hr,hj,hq,hb=>by
   obtain⟨m',hm,hkv,hvv⟩:=hr.2 0 k' v' hj;simp only[List.getElem?_cons_zero,Option.some.injEq] at hm;subst hm;exact⟨m.val,by simp[Instr.findAsking,kA3 hk ha hkv hq]⟩
 | e::es,m::l,i,j+1,k',v',hr,hj,hq,hb=>by
   obtain⟨k2,v2,rfl,hq2⟩:=hb 0 e (by omega) rfl;obtain⟨m',hm,hkv,hvv⟩:=hr.2 0 k2 v2 rfl;simp only[List.getElem?_cons_zero,Option.some.injEq] at hm;subst hm;obtain⟨x,hx⟩:=kF8 hk ha (i:=i+1) hr.tail (by simpa using hj) hq λi' e' hi he=>hb (i'+1) e' (by omega) (by simpa using he);exact⟨x,by simp[Instr.findAsking,kA3 hk ha hkv hq2,hx];omega⟩
theorem kK0{t:TypeId}{g:Bool}{n:Nat}{os:List (Nat×Nat)}(hk:k3R P t=some (g,n,os)){c:Cfg}{a b:AV}{u v:Value}(ha:VR c a u)(hb:VR c b v)(h:k58 g n os a b=some true):Instr.sameBits 10000 v u=true:=by
 obtain⟨h1,h2,h3,h4,h5⟩:=k3A hk;unfold k58 at h;split at h
 ·rename_i xs ys hx hy
  obtain⟨k1,k2,k3⟩:=k48 ha hx;obtain⟨m1,m2,m3⟩:=k48 hb hy
  have cell:∀(d:Nat) (p q:AV) (x y:Value) (kk:Nat),VR c p x->VR c q y->eqA kk p q=some true->Instr.sameBits d y x=true:=by
   intro d p q x y kk hp hq he;have s1:∀(d:Nat) (a:Bool),Instr.sameBits d (.bool a) (.bool a)=true:=λd a=>(by cases d<;>simp[Instr.sameBits]);have s2:∀(d:Nat) (k:IntKind) (a:Int),Instr.sameBits d (.int k a) (.int k a)=true:=λd k a=>(by cases d<;>simp[Instr.sameBits]);have s3:∀(d:Nat) (a:ByteArray),Instr.sameBits d (.string a) (.string a)=true:=λd a=>by cases d<;>simp[Instr.sameBits,(MapKept.bytes_beq a a).2 rfl]
   match kk,p,q,he with
   | 0,.bool a,.bool b,he =>
     simp only[eqA,Option.some.injEq,beq_iff_eq] at he;subst he;rw[hp.bool',hq.bool'];exact s1 d a
   | 1,.int k a,.int k' b,he =>
     simp only[eqA] at he;split at he
     ·rename_i hkk
      subst hkk;simp only[Option.some.injEq,beq_iff_eq] at he;subst he;rw[hp.int',hq.int'];exact s2 d k a
     ·cases he
   | 2,.str a,.str b,he =>
     simp only[eqA,Option.some.injEq,beq_iff_eq] at he;obtain rfl:=toList_inj he;rw[hp.str',hq.str'];exact s3 d a
  have each:∀(d i:Nat),i<n->Instr.sameBits d (v.cells.getD i undef) (u.cells.getD i undef)=true:=by
   intro d i hi;have yH:i∈os.map (·.1):=(by rw[h5];exact List.mem_range.2 hi);obtain⟨p,hp,rfl⟩:=List.mem_map.1 yH;have he:=k7S h p hp;exact cell d _ _ _ _ _ (k3.2 p.1 _ (k1P .any (by omega))) (m3.2 p.1 _ (k1P .any (by omega))) he
  cases g with
  | true =>
    simp only[k1S,if_true,List.drop_zero] at k2 m2;rw[List.take_of_length_le (by omega)] at k2 m2;obtain⟨us,rfl,hus⟩:=k2.agg';obtain⟨vs,rfl,hvs⟩:=m2.agg';simp only[Value.cells] at each;simp only[Instr.sameBits,Bool.and_eq_true,beq_iff_eq,List.all_eq_true];refine⟨by rw[hvs.1,hus.1,m1,k1],λp hp=>?_⟩;obtain⟨i,hi⟩:=List.mem_iff_getElem?.1 hp;rw[List.getElem?_zip_eq_some] at hi;obtain⟨yZ,hi2⟩:=hi
    have yH:i<n:=by
     have:=(List.getElem?_eq_some_iff.1 yZ).1;simp only[Array.length_toList] at this;rw[hvs.1] at this;omega
    have e1:vs.getD i undef=p.1:=(by rw[Array.getD_eq_getD_getElem?];simp at yZ;rw[yZ];rfl);have e2:us.getD i undef=p.2:=(by rw[Array.getD_eq_getD_getElem?];simp at hi2;rw[hi2];rfl);have:=each 9999 i yH;rw[e1,e2] at this;exact this
  | false =>
    have hn:n=1:=(by simpa using h4);subst hn
    have hx2:xs=[a]:=by
     have hx:(if 1=1/\a.isCell=true then some [a] else none)=some xs:=hx;split at hx
     ·simpa using hx.symm
     ·cases hx
    have hy2:ys=[b]:=by
     have hy:(if 1=1/\b.isCell=true then some [b] else none)=some ys:=hy;split at hy
     ·simpa using hy.symm
     ·cases hy
    subst hx2;subst hy2;have yH:(0:Nat)∈os.map (·.1):=(by rw[h5];simp);obtain⟨p,hp,hp0⟩:=List.mem_map.1 yH;have he:=k7S h p hp;rw[hp0] at he;exact cell 10000 a b u v p.2 ha hb he
 ·cases h
theorem kV3{t:TypeId}{K:Res->Prop}(ho:o.op = .makeMap t none)(hK:k0T .mkm ev h K):∃r,K r/\k0A P o ev h r:=by
 refine⟨_,hK,λc e R hs he t' h' ht hh=>?_⟩;obtain⟨R1,E1⟩:=Rel.freshX R t' h' 0 [] (.map #[] 0) (λi j=>(([]:List (List Value)).getD i []).getD j undef) c.h.length ht hh.1 hh.2 (.inr ⟨rfl,[],by simpa using kC6 (ents:= #[]) (λi e he=>by simp at he),rfl,λi e he=>by simp at he,rfl⟩) (λi e he=>by simp at he);refine⟨.value (.map (some c.w.heap.size)),_,_,by simp[execOp,ho,Instr.makeMap,newObj];rfl,rfl,R1,E1,rfl,?_⟩;have:=VR.mapr (c:={ c with r:=λs=>if s=t' then c.w.heap.size else c.r s,h:=h',w:=c.w.alloc (.map #[] 0) }) t' ⟨_,hh.1,by simp⟩;simpa[Res.at,Nat.beq] using this
theorem kK2{w:World}{r:Nat}{x o:Obj}(hb:w.heap[r]?=some x):({ w with heap:=w.heap.setIfInBounds r o }:World).heap[r]?=some o/\∀b,b≠r->({ w with heap:=w.heap.setIfInBounds r o }:World).heap[b]?=w.heap[b]? :=
 ⟨(MapKept.heap_set (o':=o) hb).1,λb hb'=>(MapKept.heap_set (o':=o) hb).2 b hb'⟩
theorem kCB{t:TypeId}{g:Bool}{n:Nat}{os:List (Nat×Nat)}(hk:k3R P t=some (g,n,os)){d:TypeDesc}(hu:P.underlying t=some d)(hb0:d = .bool\/(∃k,d = .int k)\/d = .string){c:Cfg}{a:AV}{u:Value}(ha:VR c a u):∀ {es:List (List AV)} {l:List MapEntry} {i j:Nat} {k' v':AV},k5D c es l->es[j]?=some [k',v']->k58 g n os a k'=some true->(∀i e,i<j->es[i]?=some e->∃k'' v'',e=[k'',v'']/\k58 g n os a k''=some false) ->
 ∃x,Instr.findNow d u l i=some (some (i+j,x))
 | es,[],i,j,k',v',hr,hj,hq,hb=>by
   have h1:=(List.getElem?_eq_some_iff.1 hj).1;have:=hr.1;simp at this;omega
 | [],m::l,i,j,k',v',hr,hj,hq,hb=>by simp at hj
 | e::es,m::l,i,0,k',v',hr,hj,hq,hb=>by
   obtain⟨m',hm,hkv,hvv⟩:=hr.2 0 k' v' hj;simp only[List.getElem?_cons_zero,Option.some.injEq] at hm;subst hm;exact⟨m.val,by simp[Instr.findNow,k6T hk hu hb0 ha hkv hq]⟩
 | e::es,m::l,i,j+1,k',v',hr,hj,hq,hb=>by
   obtain⟨k2,v2,rfl,hq2⟩:=hb 0 e (by omega) rfl;obtain⟨m',hm,hkv,hvv⟩:=hr.2 0 k2 v2 rfl;simp only[List.getElem?_cons_zero,Option.some.injEq] at hm;subst hm;obtain⟨x,hx⟩:=kCB hk hu hb0 ha (i:=i+1) hr.tail (by simpa using hj) hq λi' e' hi he=>hb (i'+1) e' (by omega) (by simpa using he);exact⟨x,by simp[Instr.findNow,k6T hk hu hb0 ha hkv hq2,hx];omega⟩
theorem kK7{t:TypeId}{g:Bool}{n:Nat}{os:List (Nat×Nat)}(hk:k3R P t=some (g,n,os)){c:Cfg}{a:AV}{u:Value}(ha:VR c a u){es:List (List AV)}{l:List MapEntry}{j:Nat}{k' v':AV}(hr:k5D c es l)(hj:es[j]?=some [k',v'])(hq:k58 g n os a k'=some true)
 (hb:∀i e,i<j->es[i]?=some e->∃k'' v'',e=[k'',v'']/\k58 g n os a k''=some false):∃x,(Instr.findKey t u l).run P c.w = .ok (some (j,x)) c.w:=by
 obtain⟨h1,h2,h3,h4,h5⟩:=k3A hk
 cases hu:P.underlying t with
 | none=>unfold k19 at h1;rw[hu] at h1;cases h1
 | some d =>
   by_cases hb0:d = .bool\/(∃k,d = .int k)\/d = .string
   ·obtain⟨x,k1⟩:=kCB hk hu hb0 ha (i:=0) hr hj hq hb
    exact⟨x,by rw[Nat.zero_add] at k1;exact MapKept.run_findKey hu k1⟩
   ·have hwide:(match P.underlying t with|some (.array _ _)|some (.struct _)=>true|_=>false)=true:=by
     rw[hu];unfold k1J at h3;rw[hu] at h3
     cases d<;>simp at hb0 h3 ⊢
    obtain⟨x,k1⟩:=kF8 hk ha (i:=0) hr hj hq hb;exact⟨x,by rw[run_findKey_eq c.w hwide];rw[Nat.zero_add] at k1;exact k1⟩
theorem kPX{t kt et:TypeId}{x k v:Operand}{g:Bool}{n:Nat}{os:List (Nat×Nat)}{x' k' v':k0B}{K:Res->Prop}(ho:o.op = .mapUpdate t x k v)(hu:P.underlying t=some (.map kt et))(hk:k3R P kt=some (g,n,os))
 (hx:k0C x=some x') (hkk:k0C k=some k') (hvv:k0C v=some v') (hK:k0T (.mput g n os x' k' v') ev h K):∃r,K r/\k0A P o ev h r:=by
 simp only[k0T] at hK;split at hK
 ·rename_i s hxe
  split at hK
  ·rename_i es hs
   split at hK
   ·rename_i ks fs hks hr
    refine⟨_,hK,λc e R hsub he t' h' ht hh=>?_⟩;have hh:h'=c.h.set s (.live 0 fs):=hh;subst hh;obtain⟨hu1,hv1⟩:=(hxe▸he x x' hx:VR c _ (e x)).mapr';have hkv:=he k k' hkk;have hvv':=he v v' hvv;have hs':=hsub _ _ _ hs;have htwo:=R.map1 hs' (kQE hr);obtain⟨hO,ents,hheap,hl,hb,zL⟩:=R.map hs' htwo;have hslt:s<c.h.length:=(List.getElem?_eq_some_iff.1 hs').1;have hlt:c.r s<c.w.heap.size:=(Array.getElem?_eq_some_iff.1 hheap).1;have h1:=kF1 hk hkv hks false;have hg:(getObj (c.r s)).run P c.w = .ok (.map ents ents.size) c.w:=MapKept.run_getObj_map hheap;have rowsAt:=k5D.of hl zL
    -- what the new entries are
    have fin:∀(ents':Array MapEntry),(execOp e o).run P c.w = .ok .skip { c.w with heap:=c.w.heap.setIfInBounds (c.r s) (.map ents' ents'.size) }->ents'.size=fs.length->(∀(i:Nat) (e:MapEntry),ents'[i]?=some e->e.born=i) ->
     (∀(i:Nat) (r:List AV),fs[i]?=some r->∃p q m,r=[p,q]/\ents'[i]?=some m/\VR c p m.key/\VR c q m.val) ->
     ∃nx cv d,(execOp e o).run P c.w = .ok nx d.w/\kES nx=some cv/\Rel d/\Ext c.h.length c d/\d.h=c.h.set s (.live 0 fs)/\VR d ((Res.upd s 0 fs).at t') cv:=by
     intro ents' hrun hsz hbn hrows;obtain⟨w1,w2⟩:=kK2 (w:=c.w) (o:=.map ents' ents'.size) hheap
     obtain⟨R1,E1⟩:=Rel.writeX R s (c.h.set s (.live 0 fs)) { c.w with heap:=c.w.heap.setIfInBounds (c.r s) (.map ents' ents'.size) } es fs (.map ents' ents'.size) (λi j=>((ents'.toList.map λe=>[e.key,e.val]).getD i []).getD j undef) c.h.length
      hs' (List.getElem?_set_self hslt) (λq hq=>List.getElem?_set_ne (Ne.symm hq)) w1 w2 rfl rfl rfl (by simp) (.inr ⟨rfl,_,kC6 hbn,by simpa using hsz,λi r hi=>by
       obtain⟨p,q,m,rfl,hm,_⟩:=hrows i r hi;have:i<ents'.size:=(Array.getElem?_eq_some_iff.1 hm).1;simp[List.getD_eq_getElem?_getD,this],rfl⟩) (λi r hi j y hy=>by
       obtain⟨p,q,m,rfl,hm,hp,hq⟩:=hrows i r hi
       have e1:(ents'.toList.map λe=>[e.key,e.val]).getD i []=[m.key,m.val]:=by
        rw[List.getD_eq_getElem?_getD,List.getElem?_map];have:ents'.toList[i]?=some m:=(by simpa using hm);rw[this];rfl
       rw[e1]
       match j with
       | 0=>simp at hy;subst hy;exact hp
       | 1=>simp at hy;subst hy;exact hq
       | j+2=>simp at hy)
     exact⟨.skip,undef,_,hrun,rfl,R1,E1,rfl,.tuple [] #[] rfl (λi x hx=>by simp at hx)⟩
    have row2:∀(i:Nat) (r:List AV),es[i]?=some r->∃p q m,r=[p,q]/\ents[i]?=some m/\VR c p m.key/\VR c q m.val:=by
     intro i r hi;have:=htwo r (List.mem_of_getElem? hi)
     match r,this with
     | [p,q],_=>obtain⟨m,h1,h2,h3⟩:=zL i p q hi;exact⟨p,q,m,rfl,h1,h2,h3⟩
    rcases kEL hr with ⟨h2,rfl⟩|⟨j,kk,vv,h2,h3,h4,rfl,h5⟩
    ·obtain⟨q,q1,q2⟩:=kCC hk hkv rowsAt h2
     simp only at q2;subst q2;refine fin (ents.push { key:=e k,val:=e v,born:=ents.size }) ?_ (by simp[hl]) (λi m hm=>?_) (λi r hi=>?_)
     ·have hso:=MapKept.run_setObj_map (P:=P) (Obj.map (ents.push { key:=e k,val:=e v,born:=ents.size }) (ents.size+1)) hheap
      simp only[execOp,ho,hv1,Instr.mapUpdate,Sem.run_bind,k0L c.w hu,Result.andThen_ok,hg,h1,q1,hso,Array.size_push,Sem.run_pure]
     ·rw[Array.getElem?_push] at hm
      split at hm
      ·rename_i hi;cases hm;exact hi.symm
      ·exact hb i m hm
     ·by_cases hil:i<es.length
      ·rw[List.getElem?_append_left hil] at hi
       obtain⟨p,q,m,h6,h7,h8⟩:=row2 i r hi;exact⟨p,q,m,h6,by rw[Array.getElem?_push,if_neg (by omega)];exact h7,h8⟩
      ·rw[List.getElem?_append_right (by omega)] at hi
       have:i-es.length=0:=by
        have:=(List.getElem?_eq_some_iff.1 hi).1;simp at this;omega
       rw[this] at hi;simp at hi;subst hi;exact⟨_,_,_,rfl,by rw[Array.getElem?_push,if_pos (by omega)],hkv,hvv'⟩
    ·have hjl:j<es.length:=(List.getElem?_eq_some_iff.1 h3).1
     obtain⟨mx,q1⟩:=kK7 hk hkv rowsAt h3 h4 (λi r hi hir=>by
      have:=htwo r (List.mem_of_getElem? hir)
      match r,this with
      | [p,q],_=>exact⟨p,q,rfl,h5 i p q hi hir⟩)
     obtain⟨_,_,mj,hmj0,hmj,hkj,hvj⟩:=row2 j _ h3;simp only[List.cons.injEq,and_true] at hmj0;obtain⟨rfl,rfl⟩:=hmj0;have hsb:=kK0 hk hkv hkj h4;have hstay:(Instr.keyThatStays mj.key (e k)).run P c.w = .ok (e k) c.w:=(by simp[Instr.keyThatStays,hsb]);refine fin (ents.modify j λm=>{ m with key:=e k,val:=e v }) ?_ (by simp[hl]) (λi m hm=>?_) (λi r hi=>?_)
     ·have hso:=MapKept.run_setObj_map (P:=P) (Obj.map (ents.modify j λm=>{ m with key:=e k,val:=e v }) ents.size) hheap
      have hgd:(((ents[j]?).map (·.key)).getD (e k))=mj.key:=(by rw[hmj];rfl);simp only[execOp,ho,hv1,Instr.mapUpdate,Sem.run_bind,k0L c.w hu,Result.andThen_ok,hg,h1,q1,hgd,hstay,hso,Array.size_modify,Sem.run_pure]
     ·rw[Array.getElem?_modify] at hm
      split at hm
      ·rename_i hi
       subst hi;rw[hmj] at hm;simp only[Option.map_some,Option.some.injEq] at hm;subst hm;exact hb j mj hmj
      ·exact hb i m hm
     ·by_cases hij:j=i
      ·subst hij
       rw[List.getElem?_set_self hjl] at hi;cases hi
       exact⟨_,_,_,rfl,by rw[Array.getElem?_modify,if_pos rfl,hmj];rfl,hkv,hvv'⟩
      ·rw[List.getElem?_set_ne hij] at hi
       obtain⟨p,q,m,h6,h7,h8⟩:=row2 i r hi;exact⟨p,q,m,h6,by rw[Array.getElem?_modify,if_neg hij];exact h7,h8⟩
   ·exact hK.elim
  ·exact hK.elim
 ·exact hK.elim
end Go.Eng
