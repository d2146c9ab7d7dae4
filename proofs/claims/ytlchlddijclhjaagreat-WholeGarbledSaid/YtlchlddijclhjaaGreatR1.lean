/- Parts of the proofs. -/
import Derived.Laws.StructEq
import Derived.ChangeKeysEq
import Derived.Test.YtlchlddijclhjaaGreatR0
set_option linter.unusedVariables false
set_option linter.unusedSimpArgs false
namespace Go.Eng
open Go Go.RowKit
variable {P:Program}
theorem Ni{xs ys:List AV}:∀ {a b:List (Nat×Nat)} {r:Bool},Au xs ys (a++b)=some r->∃p q,Au xs ys a=some p/\Au xs ys b=some q/\r=(p && q)
 | [],b,r,h=>⟨true,r,rfl,h,by simp⟩
 | (o,qq)::a,b,r,h=>by
   simp only[List.cons_append,Au] at h;split at h
   ·rename_i x y hx hy
    simp only[Option.some.injEq] at h;obtain⟨p,q,h1,h2,h3⟩:=Ni hy;exact⟨x && p,q,by simp only[Au,hx,h1],h2,by rw[<- h,h3,Bool.and_assoc]⟩
   ·cases h
theorem Nj{xs ys:List AV}{base k:Nat}:∀ {os:List (Nat×Nat)},(∀o,o∈os->o.1<k)->Au xs ys (KH base os)=Au ((xs.drop base).take k) ((ys.drop base).take k) os
 | [],_=>rfl
 | (o,qq)::os,h=>by
   have ho:o<k:=h (o,qq) (by simp);have ih:=Nj (xs:=xs) (ys:=ys) (base:=base) (k:=k) (os:=os) (λo' h'=>h o' (by simp[h']))
   have e:∀l:List AV,((l.drop base).take k).getD o .any=l.getD (base+o) .any:=λl=>by
    rw[List.getD_eq_getElem?_getD,List.getElem?_take,if_pos ho,List.getElem?_drop,List.getD_eq_getElem?_getD]
   unfold KH at ih ⊢;simp only[List.map_cons,Au,ih,e]
def Nk(P:Program)(m:Nat)(t:TypeId):Prop:=
 ∀(d:Nat) (os:List (Nat×Nat)) (xs ys:List AV) (r:Bool) (c:Cfg) (g:Bool) (k:Nat) (a b:Value),m<=d->BQ P m t=some os->Au xs ys os=some r->Az P t=some g->A_ P t=some k->(g=true\/k=1)->xs.length=k->ys.length=k ->
  VR c (BG g k xs 0) a->VR c (BG g k ys 0) b->(Op.equalIn d t a b).run P c.w = .ok r c.w
theorem XH{m:Nat}{t:TypeId}{os:List (Nat×Nat)}(hu:P.underlying t=some .bool\/(∃k,P.underlying t=some (.int k))\/P.underlying t=some .string)(kV:BQ P (m+1) t=some os) :
 Az P t=some false/\((os=[(0,0)]/\P.underlying t=some .bool)\/(os=[(0,1)]/\∃k,P.underlying t=some (.int k))\/(os=[(0,2)]/\P.underlying t=some .string)):=by
 unfold BQ at kV;unfold Az;rcases hu with hu|⟨k,hu⟩|hu<;>rw[hu] at kV ⊢ <;> simp only[Option.some.injEq] at kV
 ·exact⟨rfl,.inl ⟨kV.symm,rfl⟩⟩
 ·exact⟨rfl,.inr (.inl ⟨kV.symm,k,rfl⟩)⟩
 ·exact⟨rfl,.inr (.inr ⟨kV.symm,rfl⟩)⟩
theorem Qp{m d:Nat}{c:Cfg}{xs ys:List AV}{va vb:Array Value}(uz:VRs c xs va)(hvb:VRs c ys vb)(hd:m<=d)(IH:∀t,Nk P m t)(zH:xs.length=ys.length):∀ {fs:List Field} {os:List (Nat×Nat)} {r:Bool},
 GK (λu=>match BQ P m u,A_ P u with|some os,some k=>if os.all (λo=>decide (o.1<k))=true/\(Az P u=some true\/k=1) then some os else none|_,_=>none) fs=some os ->
 (∀f,f∈fs->∀k,A_ P f.type=some k->f.offset+k<=xs.length)->Au xs ys os=some r->(Op.eqFields d va vb fs).run P c.w = .ok r c.w
 | [],os,r,h,_,he=>by
   simp only[GK,Option.some.injEq] at h;subst h;simp only[Au,Option.some.injEq] at he;subst he;simp[Op.eqFields]
 | f::fs,os,r,h,hb,he=>by
   simp only[GK] at h;split at h
   ·rename_i la lb ha hb'
    split at h
    ·rename_i hname
     simp only[Option.some.injEq] at h;subst h;obtain⟨p,q,h1,h2,h3⟩:=Ni he;split at ha
     ·rename_i os' k kV hk
      split at ha
      ·rename_i hcond
       simp only[Option.some.injEq] at ha;subst ha;obtain⟨kS,oC⟩:=hcond;have wU:∀o,o∈os'->o.1<k:=λo ho=>(by simpa using List.all_eq_true.1 kS o ho);have hbd:=hb f (by simp) k hk;rw[Nj wU] at h1
       have hg:∃g,Az P f.type=some g/\(g=true\/k=1):=by
        cases nz:Az P f.type with
        | none =>
          exfalso;unfold Az at nz;split at nz<;>simp at nz
          rename_i yJ
          cases m with
          | zero=>simp[BQ] at kV
          | succ m=>unfold BQ at kV;rw[yJ] at kV;simp at kV
        | some g=>exact⟨g,rfl,by rcases oC with h|h;· rw[nz] at h;simp at h;exact .inl h
                                 ·exact .inr h⟩
       obtain⟨g,hg,oV⟩:=hg;obtain⟨ca,p1,v1⟩:=H7 (P:=P) c hg hk oV uz f.offset hbd;obtain⟨cb,p2,v2⟩:=H7 (P:=P) c hg hk oV hvb f.offset (by omega)
       have e:∀l:List AV,BG g k ((l.drop f.offset).take k) 0=BG g k l f.offset:=λl=>by
        cases g with
        | true=>simp[BG,List.take_take]
        | false =>
          have:k=1:=(by simpa using oV);subst this;simp[BG,List.getD_eq_getElem?_getD,List.getElem?_take,List.getElem?_drop]
       have h4:=IH f.type d os' _ _ p c g k ca cb hd kV h1 hg hk oV (by simp;omega) (by simp;omega) (by rw[e];exact v1) (by rw[e];exact v2);have h5:=Qp (fs:=fs) uz hvb hd IH zH hb' (λf' hf'=>hb f' (by simp[hf'])) h2;subst h3;simp only[Op.eqFields,hname,ne_eq,not_false_eq_true,if_true,Sem.run_bind,p1,p2,h4,Result.andThen_ok]
       cases p<;>simp[h5]
      ·cases ha
     ·cases ha
    ·cases h
   ·cases h
theorem Qq{m d:Nat}{c:Cfg}{e:TypeId}{xs ys:List AV}{va vb:Array Value}(uz:VRs c xs va)(hvb:VRs c ys vb)(hd:m<=d)(IH:Nk P m e)(zH:xs.length=ys.length){os':List (Nat×Nat)}{k:Nat}{g:Bool}(kV:BQ P m e=some os')(hk:A_ P e=some k)
 (hg:Az P e=some g) (oC:g=true\/k=1) (kS:∀o,o∈os'->o.1<k):∀ {is:List Nat} {r:Bool},(∀i,i∈is->i*k+k<=xs.length)->Au xs ys (is.flatMap λi=>KH (i*k) os')=some r->(Op.eqItems d e (P.cellsOf e) va vb is).run P c.w = .ok r c.w
 | [],r,_,he=>by
   simp only[List.flatMap_nil,Au,Option.some.injEq] at he;subst he;simp[Op.eqItems]
 | i::is,r,hb,he=>by
   rw[List.flatMap_cons] at he;obtain⟨p,q,h1,h2,h3⟩:=Ni he;rw[Nj kS] at h1;have hbd:=hb i (by simp);have aS:P.cellsOf e=k:=(by unfold Program.cellsOf;unfold A_ at hk;rw[hk];rfl);obtain⟨ca,p1,v1⟩:=H7 (P:=P) c hg hk oC uz (i*k) hbd;obtain⟨cb,p2,v2⟩:=H7 (P:=P) c hg hk oC hvb (i*k) (by omega)
   have e1:∀l:List AV,BG g k ((l.drop (i*k)).take k) 0=BG g k l (i*k):=λl=>by
    cases g with
    | true=>simp[BG,List.take_take]
    | false =>
      have:k=1:=(by simpa using oC);subst this;simp[BG,List.getD_eq_getElem?_getD,List.getElem?_take,List.getElem?_drop]
   have h4:=IH d os' _ _ p c g k ca cb hd kV h1 hg hk oC (by simp;omega) (by simp;omega) (by rw[e1];exact v1) (by rw[e1];exact v2);have h5:=Qq (is:=is) uz hvb hd IH zH kV hk hg oC kS (λj hj=>hb j (by simp[hj])) h2;subst h3;simp only[Op.eqItems,aS,Sem.run_bind,p1,p2,h4,Result.andThen_ok] at h5 ⊢
   cases p<;>simp[h5]
theorem LU(P:Program):∀(m:Nat) (t:TypeId),Nk P m t
 | 0,t=>λd os xs ys r c g k a b hd hl=>by simp[BQ] at hl
 | m+1,t=>by
   intro d os xs ys r c g k a b hd hl he hg hk oC hx hy va vb;obtain⟨d,rfl⟩:∃d',d=d'+1:=⟨d-1,by omega⟩
   have leaf:(P.underlying t=some .bool\/(∃k,P.underlying t=some (.int k))\/P.underlying t=some .string)->(Op.equalIn (d+1) t a b).run P c.w = .ok r c.w:=by
    intro hu;obtain⟨hga,hk3⟩:=XH hu hl;rw[hga] at hg;cases hg
    simp only[BG,Bool.false_eq_true,if_false] at va vb
    have key:∀q,Au xs ys [(0,q)]=some r->eqA q (xs.getD 0 .any) (ys.getD 0 .any)=some r:=λq h=>by
     simp only[Au] at h;split at h
     ·rename_i x y hx hy
      simp only[Option.some.injEq] at hy;subst hy;rw[hx];simpa using h
     ·cases h
    rcases hk3 with ⟨rfl,hu⟩|⟨rfl,kk,hu⟩|⟨rfl,hu⟩
    ·have he:=key _ he
     cases rA:xs.getD 0 .any<;>cases hy0:ys.getD 0 .any<;>rw[rA,hy0] at he<;>simp only[eqA,Option.some.injEq,reduceCtorEq] at he
     rw[rA] at va;rw[hy0] at vb;have h1:=va.bool';have h2:=vb.bool';subst h1;subst h2;subst he;exact run_equalIn_bool' c.w d t _ _ hu
    ·have he:=key _ he
     cases rA:xs.getD 0 .any<;>cases hy0:ys.getD 0 .any<;>rw[rA,hy0] at he<;>simp only[eqA,Option.some.injEq,reduceCtorEq] at he
     rw[rA] at va;rw[hy0] at vb;have h1:=va.int';have h2:=vb.int';split at he
     ·rename_i pX
      subst pX;simp only[Option.some.injEq] at he;subst h1;subst h2;subst he;exact run_equalIn_int c.w d t _ _ _ _ hu
     ·cases he
    ·have he:=key _ he
     cases rA:xs.getD 0 .any<;>cases hy0:ys.getD 0 .any<;>rw[rA,hy0] at he<;>simp only[eqA,Option.some.injEq,reduceCtorEq] at he
     rw[rA] at va;rw[hy0] at vb;have h1:=va.str';have h2:=vb.str';subst h1;subst h2;subst he;exact run_equalIn_string c.w d t _ _ hu
   unfold BQ at hl;split at hl
   ·rename_i hu;exact leaf (.inl hu)
   ·rename_i k hu;exact leaf (.inr (.inl ⟨k,hu⟩))
   ·rename_i hu;exact leaf (.inr (.inr hu))
   ·rename_i fs hu
    split at hl
    ·rename_i hcond
     have hg':g=true:=(by unfold Az at hg;rw[hu] at hg;simpa using hg.symm);subst hg';simp only[BG,if_true,List.drop_zero] at va vb;rw[List.take_of_length_le (by omega)] at va vb;obtain⟨ua,rfl,uU⟩:=va.agg';obtain⟨ub,rfl,qd⟩:=vb.agg';have hfs:P.fieldsOf t=fs:=(by simp[Program.fieldsOf,hu]);rw[run_equalIn_struct c.w d t ua ub (by rw[hfs];exact hu) hcond.1,hfs];refine Qp uU qd (by omega) (LU P m) (by omega) hl (λf hf k' hk'=>?_) he;have:=List.all_eq_true.1 hcond.2 f hf;simp only[hk',hk,decide_eq_true_eq] at this;omega
    ·cases hl
   ·rename_i n e hu
    split at hl
    ·rename_i os' k' kV hk'
     split at hl
     ·rename_i hcond
      simp only[Option.some.injEq] at hl;subst hl;have hg':g=true:=(by unfold Az at hg;rw[hu] at hg;simpa using hg.symm);subst hg';simp only[BG,if_true,List.drop_zero] at va vb;rw[List.take_of_length_le (by omega)] at va vb;obtain⟨ua,rfl,uU⟩:=va.agg';obtain⟨ub,rfl,qd⟩:=vb.agg';obtain⟨i,hi,_⟩:=KI hk';rw[run_equalIn_array c.w d ua ub hu hi];obtain⟨mY,lT,oI⟩:=hcond;simp only[NT,hk,decide_eq_true_eq] at oI
      have pQ:∃g,Az P e=some g/\(g=true\/k'=1):=by
       cases nz:Az P e with
       | none =>
         exfalso;unfold Az at nz;split at nz<;>simp at nz
         rename_i yJ
         cases m with
         | zero=>simp[BQ] at kV
         | succ m=>unfold BQ at kV;rw[yJ] at kV;simp at kV
       | some g=>exact⟨g,rfl,by rcases lT with h|h;· rw[nz] at h;simp at h;exact .inl h
                                ·exact .inr h⟩
      obtain⟨g,hg2,hgk2⟩:=pQ;refine Qq uU qd (by omega) (LU P m e) (by omega) kV hk' hg2 hgk2 (λo ho=>by simpa using List.all_eq_true.1 mY o ho) (λi hi=>?_) he;have:=Nat.mul_le_mul_right k' (show i+1<=n from List.mem_range.1 hi);rw[Nat.succ_mul] at this;omega
     ·cases hl
    ·cases hl
   ·cases hl
theorem Nl(P:Program):∀(m d:Nat) (t:TypeId) (os:List (Nat×Nat)),m<=d->BQ P m t=some os->P.eqGuardType d t=false
 | 0,d,t,os,_,h=>by simp[BQ] at h
 | m+1,d,t,os,hd,h=>by
   obtain⟨d,rfl⟩:∃d',d=d'+1:=⟨d-1,by omega⟩;unfold BQ at h;unfold Program.eqGuardType;split at h
   ·rename_i hu;simp[hu]
   ·rename_i k hu;simp[hu]
   ·rename_i hu;simp[hu]
   ·rename_i fs hu
    split at h
    ·simp only[hu]
     have:∀(fs:List Field) (os:List (Nat×Nat)),GK (λu=>match BQ P m u,A_ P u with|some os,some k=>if os.all (λo=>decide (o.1<k))=true/\(Az P u=some true\/k=1) then some os else none|_,_=>none) fs=some os ->
      ∀f,f∈fs->P.eqGuardType d f.type=false:=by
      intro fs
      induction fs with
      | nil=>intro os _ f hf;cases hf
      | cons g fs ih =>
        intro os h f hf;simp only[GK] at h;split at h
        ·rename_i la lb ha hb
         rcases List.mem_cons.1 hf with rfl|hf
         ·split at ha
          ·rename_i os' k' kV _
           exact Nl P m d _ os' (by omega) kV
          ·cases ha
         ·exact ih lb hb f hf
        ·cases h
     rw[<- Array.any_toList,List.any_eq_false];intro f hf;simp[this _ _ h f hf]
    ·cases h
   ·rename_i n e hu
    simp only[hu];split at h
    ·rename_i os' k' kV _
     exact Nl P m d _ os' (by omega) kV
    ·cases h
   ·cases h
theorem Lf{o:Oper}{ev:AR->AV}{h:A7}{op:BinOp}{t u:TypeId}{x y:Operand}{x' y':AR}{n:Nat}{os:List (Nat×Nat)}{K:Res->Prop}(neq:Bool)(hop:op=if neq then .neq else .eql)(ho:o.op = .binOp op t x y u)
 (nz:Az P t=some true) (hn:A_ P t=some n) (hl:BQ P 8 t=some os) (hx:AY x=some x') (hy:AY y=some y') (hK:AQ (.eqs neq n os x' y') ev h K):∃r,K r/\Ab P o ev h r:=by
 simp only[AQ] at hK;split at hK
 ·rename_i a b hxa sS
  obtain⟨⟨h1,h2⟩,hK⟩:=hK;split at hK
  ·rename_i r hr
   refine⟨_,hK,Ab.val λc e R hs he=>⟨_,?_,.bool _⟩⟩;have va:=(hxa▸he x x' hx:VR c _ (e x));have vb:=(sS▸he y y' hy:VR c _ (e y));obtain⟨ua,uU,_⟩:=va.agg';obtain⟨ub,qd,_⟩:=vb.agg';have e1:BG true n a 0 = .agg a:=(by simp[BG,<- h1]);have e2:BG true n b 0 = .agg b:=(by simp[BG,<- h2]);have hq:=LU P 8 t 10000 os a b r c true n (e x) (e y) (by omega) hl hr nz hn (.inl rfl) h1 h2 (by rw[e1];exact va) (by rw[e2];exact vb)
   have hgd:(eqGuard op t x y (e x) (e y)).run P c.w = .ok () c.w:=by
    rw[uU,qd];refine run_eqGuard_agg c.w op t x y ua ub (Nl P 8 _ t os ?_ hl);unfold Program.depth Made.depth;omega
   rw[uU,qd] at hq hgd
   cases neq<;>simp only[Bool.false_eq_true,if_false,if_true] at hop<;>subst hop
   ·have:=run_eql_struct (P:=P) c.w t ua ub
    rw[hq] at this;simp only[execOp,ho,Sem.run_bind,uU,qd,hgd,Result.andThen_ok,this,Sem.run_pure,Bool.false_eq_true,if_false]
   ·have:=run_neq_struct (P:=P) c.w t ua ub
    rw[hq] at this;simp only[execOp,ho,Sem.run_bind,uU,qd,hgd,Result.andThen_ok,this,Sem.run_pure,if_true]
  ·exact hK.elim
 ·exact hK.elim
end Go.Eng
namespace Go.Eng
open Go Go.RowKit
variable {P:Program} {o:Oper} {ev:AR->AV} {h:A7}
theorem Qr{c:Cfg}{cs:List AV}{vs:Array Value}(hv:VRs c cs vs)(z:Nat):∀(i:Nat) (e:List AV),[cs][i]?=some e->∀(j:Nat) (x:AV),e[j]?=some x->VR c x (vs.getD (i*z+j) undef):=by
 intro i e hi j x hx
 cases i with
 | zero =>
   simp only[List.getElem?_cons_zero,Option.some.injEq] at hi;subst hi;simpa using hv.2 j x hx
 | succ i=>simp at hi
theorem Ab.fresh{z:Nat}{es:List (List AV)}(sl:Option Nat)(hz:0<z)(zQ:∀e,e∈es->e.length=z)
 (H:∀(c:Cfg) (e:Operand->Value),Rel c->GL h c.h->EC c ev e->∃(nx:Next) (cv:Value) (w:World) (vs:Array Value) (ty:TypeId),(execOp e o).run P c.w = .ok nx (w.alloc (.cells vs ty))/\H8 nx=some cv/\w.heap=c.w.heap/\w.os=c.w.os/\w.tape=c.w.tape/\w.output=c.w.output /\
   es.length*z<=vs.size/\(∀(i:Nat) (e:List AV),es[i]?=some e->∀(j:Nat) (x:AV),e[j]?=some x->VR c x (vs.getD (i*z+j) undef)) /\
   (match sl with|none=>cv = .pointer (some ⟨c.w.heap.size,0,none⟩)|some n=>∃cap,cv = .slice (some ⟨c.w.heap.size,0,none⟩) n cap/\n<=cap/\cap*z<=vs.size)):Ab P o ev h (.new sl z es):=by
 intro c e R hs he t h' ht hh;obtain⟨nx,cv,w,vs,ty,lZ,yK,lU,mX,rP,hw4,hsz,hv,qG⟩:=H c e R hs he;obtain⟨R1,E1⟩:=R.sameHeap lU mX rP hw4 c.h.length;have yx:¬Cfg.used { c with w:=w } t:=ht;obtain⟨R2,E2⟩:=Rel.fresh R1 t h' z es vs ty c.h.length yx hh.1 hh.2 hz zQ hsz (λi e hi j x hx=>E1.vr' (hv i e hi j x hx));refine⟨nx,cv,_,lZ,yK,R2,E1.trans E2,rfl,?_⟩;have hu:Cfg.used { c with w:=w.alloc (.cells vs ty),r:=λs=>if s=t then w.heap.size else c.r s,h:=h' } t:=⟨_,hh.1,by simp⟩
 cases sl with
 | none =>
   simp only at qG;subst qG;have:=VR.ref (c:={ c with w:=w.alloc (.cells vs ty),r:=λs=>if s=t then w.heap.size else c.r s,h:=h' }) t z 0 0 hu;simpa[lU,Res.at] using this
 | some n =>
   obtain⟨cap,rfl,hc,hcz⟩:=qG
   have:=VR.sl (c:={ c with w:=w.alloc (.cells vs ty),r:=λs=>if s=t then w.heap.size else c.r s,h:=h' }) t z 0 n cap hu hc ⟨ty,vs.size,by
    have:=heap_alloc_new w (.cells vs ty);simp only[if_true];unfold World.shape?;rw[this],by simpa using hcz⟩
   obtain⟨z',rfl⟩:∃z',z=z'+1:=⟨z-1,by omega⟩;simpa[lU,Res.at,Nat.beq] using this
theorem XI{t:TypeId}{zs:List AV}{k:Nat}(ho:o.op = .alloc t)(hz:EW P t=some zs)(hl:zs.length=k)(hk:0<k):Ab P o ev h (.new none k [zs]):=by
 refine Ab.fresh none hk (by simp[hl]) λc e R hs he=>?_;obtain⟨z,hz',rfl⟩:=XJ c.w hz;refine⟨.value (.pointer (some ⟨c.w.heap.size,0,none⟩)),_,c.w,z.cells,t,by simp[execOp,ho,Instr.alloc,hz',newVar,newRow],rfl,rfl,rfl,rfl,rfl,by simp at hl;simp[hl],Qr (Lg c z.cells) k,rfl⟩
theorem XK{t:TypeId}{x:Operand}{y:AR}{z:Nat}{K:Res->Prop}(ho:o.op = .box t x)(hx:AY x=some y)(hz:0<z)(hK:AQ (.box z y) ev h K):∃r,K r/\Ab P o ev h r:=by
 simp only[AQ] at hK;split at hK
 ·rename_i cs hcs
  obtain⟨⟨h1,h2⟩,hK⟩:=hK;refine⟨_,hK,Ab.fresh none hz (by simp[h1]) λc e R hs he=>?_⟩;have hV:=(he x y hx).cells hcs;exact⟨.value (.pointer (some ⟨c.w.heap.size,0,none⟩)),_,c.w,(e x).cells,t,by simp[execOp,ho,Instr.box,newVar,newRow],rfl,rfl,rfl,rfl,rfl,by simp[hV.1,h1],Qr hV z,rfl⟩
 ·exact hK.elim
theorem Rel.not_own_new{c:Cfg}(R:Rel c):¬c.own c.w.heap.size:=by
 rintro(h|h)
 ·have:=R.olt _ h;omega
 ·have:=R.lown_lt h;omega
theorem GM(z:Nat):∀(n:Nat) (l:List AV),(EX z n l).length=n
 | 0,l=>rfl
 | n+1,l=>by simp[EX,GM z n]
theorem KJ(z:Nat):∀(n:Nat) (l:List AV) (i:Nat),i<n->(EX z n l)[i]?=some ((l.drop (i*z)).take z)
 | 0,l,i,h=>by omega
 | n+1,l,0,h=>by simp[EX]
 | n+1,l,i+1,h=>by
   simp only[EX,List.getElem?_cons_succ];rw[KJ z n _ i (by omega),List.drop_drop];congr 3
   rw[Nat.succ_mul];omega
theorem EP{i n j z:Nat}(hi:i<n)(hj:j<z):i*z+j<n*z:=by
 have:(i+1)*z<=n*z:=Nat.mul_le_mul_right z hi;rw[Nat.succ_mul] at this;omega
theorem XM(w:World)(vs:Array Value)(ty:TypeId)(i:Nat)(hi:i<vs.size):(w.alloc (.cells vs ty)).cell? ⟨w.heap.size,i,none⟩=some (vs.getD i undef):=by
 have:=heap_alloc_new w (.cells vs ty);unfold World.cell?;rw[this];simp[hi,Array.getD_eq_getD_getElem?]
theorem Ab.listed{z:Nat}{es:List (List AV)}(zQ:∀e,e∈es->e.length=z)
 (H:∀(c:Cfg) (e:Operand->Value),Rel c->GL h c.h->EC c ev e->∃(cap:Nat) (vs:Array Value) (ty:TypeId),(execOp e o).run P c.w = .ok (.value (.slice (some ⟨c.w.heap.size,0,none⟩) es.length cap)) (c.w.alloc (.cells vs ty))/\es.length<=cap /\
   es.length*z<=vs.size/\(∀(i:Nat) (e:List AV),es[i]?=some e->∀(j:Nat) (x:AV),e[j]?=some x->VR c x (vs.getD (i*z+j) undef))):Ab P o ev h (.val (.list z es)):=by
 intro c e R hs he t h' ht hh;obtain⟨cap,vs,ty,lZ,lh,hsz,hv⟩:=H c e R hs he;obtain⟨R1,E1⟩:=R.alloc (.cells vs ty) c.h.length;have hh:h'=c.h:=hh;subst hh;refine⟨_,_,_,lZ,rfl,R1,E1,rfl,?_⟩
 exact .list z es ⟨c.w.heap.size,0,none⟩ es.length cap (λi j=>vs.getD (i*z+j) undef) rfl lh rfl zQ (λi j hi hj=>by
  simp only[Nat.zero_add];exact XM _ _ _ _ (Nat.lt_of_lt_of_le (EP hi hj) hsz)) (λ_ _=>R.not_own_new) λi e hi j x hx=>E1.vr' (hv i e hi j x hx)
theorem XO{t e0:TypeId}{parts:Array (Nat×Operand)}{n z:Nat}{zs:List AV}{ps:List (Nat×Nat×AR)}{K:Res->Prop}(ho:o.op = .buildSlice t n parts)(hu:P.underlying t=some (.slice e0))(hz:EW P e0=some zs)(hk:A_ P e0=some z)
 (xH:zs.length=z) (mR:0<z) (xP:0<n) (hnz:n*z<=16777216) (hf:Dp (λi=>some (i*z,z)) parts.toList=some ps) (hK:AQ (.bslice z n zs ps) ev h K):∃r,K r/\Ab P o ev h r:=by
 simp only[AQ] at hK;split at hK
 ·rename_i cs hcs
  obtain⟨it,zv,hi,oZ,rfl⟩:=Lh hz;obtain⟨ie,vV,rR⟩:=KI hk;rw[hi] at vV;cases vV
  have pu:zv.cells.size=z:=by simpa using xH
  have zH:∀c:Cfg,VRs c (List.replicate n (zv.cells.toList.map AV.ofCell)).flatten ((Array.range (n*z)).map (zv.cells[· % zv.cells.size]!)):=by
   intro c;refine⟨by simp[pu],λi x hx=>?_⟩
   have kS:i<n*z:=by
    have:=(List.getElem?_eq_some_iff.1 hx).1;simpa[pu] using this
   have vO:i%z<z:=Nat.mod_lt _ mR
   have nV:∀(m i:Nat),i<m*z->(List.replicate m (zv.cells.toList.map AV.ofCell)).flatten[i]?=some (AV.ofCell (zv.cells.getD (i%z) undef)):=by
    intro m
    induction m with
    | zero=>intro i hi;omega
    | succ m ih =>
      intro i hi;rw[List.replicate_succ,List.flatten_cons];by_cases rR:i<z
      ·rw[List.getElem?_append_left (by simp[pu];exact rR),Nat.mod_eq_of_lt rR]
       simp[Array.getD_eq_getD_getElem?,show i<zv.cells.size by omega]
      ·rw[List.getElem?_append_right (by simp[pu];omega),ih]
       ·simp only[List.length_map,Array.length_toList,pu]
        have hm:(i-z)%z=i%z:=(Nat.mod_eq_sub_mod (Nat.le_of_not_lt rR)).symm;rw[hm]
       ·simp only[List.length_map,Array.length_toList,pu]
        rw[Nat.succ_mul] at hi;omega
   rw[nV n i kS] at hx;simp only[Option.some.injEq] at hx;subst hx
   have:(Array.map (zv.cells[· % zv.cells.size]!) (Array.range (n*z))).getD i undef=zv.cells.getD (i%z) undef:=by
    simp[Array.getD_eq_getD_getElem?,kS,pu];simp[vO,pu]
   rw[this];exact JR c _
  have tC:cs.length=n*z:=by
   have:∀c:Cfg,Rel c->True:=λ_ _=>trivial;have zo:(List.replicate n (zv.cells.toList.map AV.ofCell)).flatten.length=n*z:=(by simp[pu]);rw[<- zo];exact Np hcs
  refine⟨_,hK,Ab.listed (λe he=>?_) λc e R hs he=>?_⟩
  ·obtain⟨i,hi⟩:=List.mem_iff_getElem?.1 he
   have yC:i<n:=by
    have:=(List.getElem?_eq_some_iff.1 hi).1
    rwa [GM] at this
   rw[KJ z n cs i yC] at hi;cases hi
   have:(i+1)*z<=n*z:=Nat.mul_le_mul_right z yC;rw[Nat.succ_mul] at this;simp;omega
  ·obtain⟨arr,h1,h2,h3⟩:=KL he _ hf (zH c) hcs
   have hb:=run_buildSlice (P:=P) c.w t e0 n (parts.map λ(i,x)=>(i,e x)) arr it zv hu hi oZ (by rw[rR];simp;omega) (by rw[rR];exact Nat.ne_of_gt (Nat.mul_pos xP mR)) (by rw[rR];simpa using h1);refine⟨n,arr,e0,by rw[GM];simp[execOp,ho,hb],by rw[GM];exact Nat.le_refl _,by rw[GM,h2.1,tC];exact Nat.le_refl _,λi e' hi j x hx=>?_⟩
   have yC:i<n:=by
    have:=(List.getElem?_eq_some_iff.1 hi).1
    rwa [GM] at this
   rw[KJ z n cs i yC] at hi;cases hi
   have hj:j<z:=by
    have:=(List.getElem?_eq_some_iff.1 hx).1;simp at this;omega
   rw[List.getElem?_take,if_pos hj,List.getElem?_drop] at hx;exact h2.2 _ _ hx
 ·exact hK.elim
end Go.Eng
namespace Go.Eng
open Go Go.RowKit
theorem Nq(P:Program)(g off:Nat)(t:TypeId)(fz:Nat×Nat):∀(news:List Value) (i:Nat) (cur:Array Value) (w:World),w.heap[g]?=some (.cells cur t fz)->Dq cur fz->off+i+news.length<=cur.size->(∀v∈news,v.oneCell'=true) ->
 (storeCells ⟨g,off,none⟩ news i).run P w = .ok () (w.setRow g (cur.toList.take (off+i)++news++cur.toList.drop (off+i+news.length)).toArray)
 | [],i,cur,w,hg,_,_,_=>by
   have hs:w.setRow g cur=w:=setRow_self w g cur t fz hg;simp only[storeCells,List.append_nil,List.length_nil,Nat.add_zero,List.take_append_drop,Array.toArray_toList,hs];rfl
 | v::news,i,cur,w,hg,hf,hl,h1=>by
   simp only[List.length_cons] at hl;have hi:off+i<cur.size:=(by omega);have wo:(⟨g,off,none⟩:Addr).add i=⟨g,off+i,none⟩:=by unfold Addr.add;split<;>simp_all
   have hfro:w.frozen? ⟨g,off+i,none⟩=false:=by
    obtain⟨a,b⟩:=fz;unfold Dq at hf;simp only at hf;simp only[World.frozen?,hg,Bool.and_eq_false_iff,decide_eq_false_iff_not];omega
   have kX:(store ((⟨g,off,none⟩:Addr).add i) v).run P w = .ok () (w.setRow g (cur.setIfInBounds (off+i) v)):=by
    rw[wo,run_store P w _ v _ (h1 v (by simp)),show w.cell? ⟨g,off+i,none⟩=some cur[off+i] by simp[World.cell?,hg,hi]];simp[hfro,setCell_eq_setRow w g (off+i) cur t fz v hg]
   have hf':Dq (cur.setIfInBounds (off+i) v) fz:=(by unfold Dq at hf ⊢;simpa using hf);have ih:=Nq P g off t fz news (i+1) (cur.setIfInBounds (off+i) v) (w.setRow g (cur.setIfInBounds (off+i) v)) (setRow_heap w g cur _ t _ hg) hf' (by simp;omega) (λx hx=>h1 x (by simp[hx]));simp only[storeCells,Sem.run_bind,kX,Result.andThen_ok,ih,setRow_setRow];congr 2
   have e:=list_seg_step cur.toList (off+i) v news (by simp;omega);simp only[Array.toList_setIfInBounds,List.length_cons];rw[show off+(i+1)=off+i+1 by omega];simpa[Nat.add_assoc,Nat.add_comm,Nat.add_left_comm] using congrArg List.toArray e
variable {P:Program} {o:Oper} {ev:AR->AV} {h:A7}
theorem Dx{α: Type}{l:List α}{i:Nat}(d: α)(hi:i<l.length):l[i]?=some (l.getD i d):=by simp[List.getD_eq_getElem?_getD,hi]
theorem XP{t:TypeId}{a:Operand}{y:AR}{g:Bool}{k:Nat}{K:Res->Prop}(ho:o.op = .load t a)(ha:AY a=some y)(hg:Az P t=some g)(hk:A_ P t=some k)(oC:g=true\/k=1)(oH:0<k)
 (hK:AQ (.load g k y) ev h K):∃r,K r/\Ab P o ev h r:=by
 simp only[AQ] at hK;split at hK
 ·rename_i s z i off hy
  split at hK
  ·rename_i z' es hs
   obtain⟨⟨rfl,hi,kU⟩,hK⟩:=hK;refine⟨_,hK,Ab.val λc e R lD he=>?_⟩;obtain⟨hu,hv⟩:=(hy▸he a y ha:VR c _ (e a)).ref';obtain⟨hz,_,zQ,vs,ty,fz,hh,hfz,hsz,oJ⟩:=R.live s z' es (lD _ _ _ hs) (by omega);have zL:(es.getD i []).length=z':=zQ _ (List.mem_of_getElem? (Dx [] hi));have kS:=EP (i:=i) (n:=es.length) (z:=z') hi (j:=z'-1) (by omega)
   obtain⟨cv,h1,h2⟩:=NB (P:=P) c (cs:=es.getD i []) (f:=λj=>vs.getD (i*z'+off+j) undef) ⟨c.r s,i*z'+off,none⟩ rfl hg hk oC off (by omega) (λj hj=>by
    have:i*z'+off+j<vs.size:=(by omega);unfold World.cell?;rw[hh];simp[this,Array.getD_eq_getD_getElem?])
    (λj x hj hx=>by
      have:=oJ i _ (Dx [] hi) (off+j) x hx
      rwa [<- Nat.add_assoc] at this)
   exact⟨cv,by simp[execOp,ho,hv,h1],h2⟩
  ·exact hK.elim
 ·rename_i cs hy
  obtain⟨nR,hK⟩:=hK;refine⟨_,hK,Ab.val λc e R lD he=>?_⟩;obtain⟨ad,f,hv,hsp,aS,aT,oJ⟩:=(hy▸he a y ha:VR c _ (e a)).crefs;obtain⟨cv,h1,h2⟩:=NB (P:=P) c (cs:=cs) (f:=f) ad hsp hg hk oC 0 (by omega) (λj hj=>aS j (by omega)) (λj x hj hx=>oJ j x (by simpa using hx));exact⟨cv,by simp[execOp,ho,hv,h1],h2⟩
 ·exact hK.elim
theorem Qs(w:World)(g:Nat)(c:Array Value):(w.setRow g c).heap.size=w.heap.size:=by simp[World.setRow]
theorem XQ{t:TypeId}{a x:Operand}{y y':AR}{k:Nat}{K:Res->Prop}(ho:o.op = .store t a x)(ha:AY a=some y)(hx:AY x=some y')(hk:A_ P t=some k)(oH:0<k)
 (hK:AQ (.store k y y') ev h K):∃r,K r/\Ab P o ev h r:=by
 simp only[AQ] at hK;split at hK
 ·rename_i s z i off hy
  split at hK
  ·rename_i z' es hs
   split at hK
   ·rename_i cs hcs
    obtain⟨⟨rfl,hi,hck,kU,hcok⟩,hK⟩:=hK;refine⟨_,hK,?_⟩;intro c e R lD he t' h' ht hh;obtain⟨hu,hv⟩:=(hy▸he a y ha:VR c _ (e a)).ref';have hC:=(he x y' hx).cells hcs;obtain⟨hz,hO,zQ,vs,ty,fz,uE,hfz,hsz,oJ⟩:=R.live s z' es (lD _ _ _ hs) (by omega);have zL:(es.getD i []).length=z':=zQ _ (List.mem_of_getElem? (Dx [] hi));have kS:=EP (i:=i) (n:=es.length) (z:=z') hi (j:=z'-1) (by omega);have sK:(e x).cells.toList.length=cs.length:=(by simpa using hC.1);have hcz:=hC.1;have kX:=Nq P (c.r s) (i*z'+off) ty fz (e x).cells.toList 0 vs c.w uE hfz (by omega) (hC.oneCell hcok);have hh:h'=c.h.set s (.live z' (es.set i (EY (es.getD i []) off cs))):=hh;subst hh;have hsp:(EY (es.getD i []) off cs).length=z':=(by rw[KM _ _ _ (by omega)];exact zL);have ni:s<c.h.length:=(List.getElem?_eq_some_iff.1 (lD _ _ _ hs)).1
    obtain⟨R1,E1⟩:=Rel.write R s (c.h.set s (.live z' (es.set i (EY (es.getD i []) off cs)))) (c.w.setRow (c.r s) (vs.toList.take (i*z'+off+0)++(e x).cells.toList++vs.toList.drop (i*z'+off+0+(e x).cells.toList.length)).toArray)
     z' es (es.set i (EY (es.getD i []) off cs)) vs (vs.toList.take (i*z'+off+0)++(e x).cells.toList++vs.toList.drop (i*z'+off+0+(e x).cells.toList.length)).toArray ty c.h.length
     hz (lD _ _ _ hs) (by simp[ni]) (λq hq=>by rw[List.getElem?_set_ne (Ne.symm hq)]) hfz uE (setRow_heap _ _ _ _ _ _ uE) (by simp;omega)
     (λb hb=>setRow_other _ _ _ _ (by omega)) rfl rfl rfl (Qs _ _ _) (λe' he'=>by
       rcases List.mem_or_eq_of_mem_set he' with h|h
       ·exact zQ _ h
       ·rw[h];exact hsp) (by simp;omega) (λi' e' hi' j u hj=>by
       have hjz:j<z':=by
        have h1:=(List.getElem?_eq_some_iff.1 hj).1;by_cases hii:i=i'
        ·subst hii
         rw[List.getElem?_set_self hi] at hi'
         cases hi'
         omega
        ·rw[List.getElem?_set_ne hii] at hi'
         have:=zQ _ (List.mem_of_getElem? hi');omega
       have hi'l:i'<es.length:=by
        have:=(List.getElem?_eq_some_iff.1 hi').1;simpa using this
       have wU:=EP (i:=i') (n:=es.length) (z:=z') hi'l hjz
       have nV:((vs.toList.take (i*z'+off+0)++(e x).cells.toList++vs.toList.drop (i*z'+off+0+(e x).cells.toList.length)).toArray).getD (i'*z'+j) undef =
        if i*z'+off<=i'*z'+j/\i'*z'+j<i*z'+off+cs.length then (e x).cells.getD (i'*z'+j-(i*z'+off)) undef else vs.getD (i'*z'+j) undef:=by
        simp only[Array.getD_eq_getD_getElem?,List.getElem?_toArray,Nat.add_zero];by_cases h1:i'*z'+j<i*z'+off
        ·rw[if_neg (by omega),List.append_assoc,List.getElem?_append_left (by simp;omega),List.getElem?_take,if_pos h1]
         simp
        ·rw[List.append_assoc,List.getElem?_append_right (by simp;omega)]
         have pK:(vs.toList.take (i*z'+off)).length=i*z'+off:=(by simp;omega);rw[pK];by_cases h2:i'*z'+j<i*z'+off+cs.length
         ·rw[if_pos (by omega),List.getElem?_append_left (by omega)]
          simp
         ·rw[if_neg (by omega),List.getElem?_append_right (by omega),List.getElem?_drop,sK]
          have:i*z'+off+cs.length+(i'*z'+j-(i*z'+off)-cs.length)=i'*z'+j:=(by omega);rw[this];simp
       rw[nV];by_cases hii:i=i'
       ·subst hii
        rw[List.getElem?_set_self hi] at hi'
        cases hi'
        rw[Qt _ _ _ (by omega)] at hj;by_cases yC:off<=j/\j<off+cs.length
        ·rw[if_pos yC] at hj
         rw[if_pos (by omega)];have:i*z'+j-(i*z'+off)=j-off:=(by omega);rw[this];exact hC.2 _ _ hj
        ·rw[if_neg yC] at hj
         rw[if_neg (by omega)];exact oJ i _ (Dx [] hi) j u hj
       ·rw[List.getElem?_set_ne hii] at hi'
        have hout:¬(i*z'+off<=i'*z'+j/\i'*z'+j<i*z'+off+cs.length):=by
         rintro⟨g1,g2⟩
         rcases Nat.lt_or_gt_of_ne hii with hl|hl
         ·have:(i+1)*z'<=i'*z':=Nat.mul_le_mul_right z' hl
          rw[Nat.succ_mul] at this;omega
         ·have:(i'+1)*z'<=i*z':=Nat.mul_le_mul_right z' hl
          rw[Nat.succ_mul] at this;omega
        rw[if_neg hout];exact oJ i' e' hi' j u hj)
    have kv:(e x).cells.size=k:=(by rw[hC.1];exact hck);refine⟨.skip,undef,_,?_,rfl,R1,E1,rfl,.tuple [] #[] rfl (λi x hx=>by simp at hx)⟩;simp[execOp,ho,hv,Instr.storeAt,Instr.sureAddr,storeVar,FX c.w hk,kv,kX]
   ·exact hK.elim
  ·exact hK.elim
 ·exact hK.elim
end Go.Eng
namespace Go.Eng
open Go Go.RowKit
variable {P:Program} {o:Oper} {ev:AR->AV} {h:A7}
theorem VR.lists{c:Cfg}{z:Nat}{es:List (List AV)}{v:Value}(h:VR c (.list z es) v):((∃(a:Option Addr) (cap:Nat),v = .slice a 0 cap)/\es=[]) \/
 ∃(a:Addr) (cap:Nat) (f:Nat->Nat->Value),v = .slice (some a) es.length cap/\es.length<=cap/\a.spot=none/\(∀e,e∈es->e.length=z) /\
  (∀i j,i<es.length->j<z->c.w.cell? ⟨a.block,a.off+(i*z+j),none⟩=some (f i j))/\(0<es.length->0<z->¬c.own a.block) /\
  ∀(i:Nat) (e:List AV),es[i]?=some e->∀(j:Nat) (x:AV),e[j]?=some x->VR c x (f i j):=by
 cases h with
 | listNil=>exact .inl ⟨⟨_,_,rfl⟩,rfl⟩
 | list _ _ a n cap f hn hc ha hz aS aT hv=>subst hn;exact .inr ⟨a,cap,f,rfl,hc,ha,hz,aS,aT,hv⟩
theorem VR.sls{c:Cfg}{s z i n:Nat}{v:Value}(h:VR c (.sl s z i n) v):∃cap,v = .slice (some ⟨c.r s,i*z,none⟩) n cap/\c.used s/\n<=cap/\∃e m,c.w.shape? (c.r s)=some (e,m)/\(i+cap)*z<=m:=by
 cases h with|sl _ _ _ _ cap hs hc hsz=>exact⟨cap,rfl,hs,hc,hsz⟩
theorem VR.drop{c:Cfg}{z:Nat}{es:List (List AV)}{a:Addr}{f:Nat->Nat->Value}{i:Nat}(ha:a.spot=none)(hz:∀e,e∈es->e.length=z)(hi:i<es.length)
 (aS:∀i j,i<es.length->j<z->c.w.cell? ⟨a.block,a.off+(i*z+j),none⟩=some (f i j)) (aT:0<es.length->0<z->¬c.own a.block)
 (hv:∀(i:Nat) (e:List AV),es[i]?=some e->∀(j:Nat) (x:AV),e[j]?=some x->VR c x (f i j)):VR c (.cref (es.getD i [])) (.pointer (some (a.add (i*z)))):=by
 have zL:(es.getD i []).length=z:=hz _ (List.mem_of_getElem? (Dx [] hi));rw[Li a _ ha];refine .cref _ _ (λj=>f i j) rfl (λj hj=>?_) (λhl=>aT (by omega) (by omega)) λj x hx=>hv i _ (Dx [] hi) j x hx;have:=aS i j hi (by omega);simpa[Nat.add_assoc] using this
theorem XR{t e0:TypeId}{n z:Nat}{x i:Operand}{y q:AR}{K:Res->Prop}(ho:o.op = .indexAddr t x i)(hu:P.underlying t=some (.array n e0))(hk:A_ P e0=some z)(hx:AY x=some y)(hi:AY i=some q)
 (hK:AQ (.iadA n z y q) ev h K):∃r,K r/\Ab P o ev h r:=by
 have run:∀(w:World) (a:Addr) (k:IntKind) (q:Int),0<=q->q<n->(Instr.indexAt t (.pointer (some a)) (.int k q)).run P w = .ok (.pointer (some (a.add (q.toNat*z)))) w:=by
  intro w a k q h0 h1;simp[Instr.indexAt,asIntOf,BF w hu,Instr.sureAddr,FX w hk,h0,h1]
 simp only[AQ] at hK;split at hK
 ·rename_i s z' j off k b hy hq
  obtain⟨⟨h0,h1⟩,hK⟩:=hK;refine⟨_,hK,Ab.val λc e R hs he=>?_⟩;obtain⟨g1,g2⟩:=(hy▸he x y hx:VR c _ (e x)).ref';have g3:=(hq▸he i q hi:VR c _ (e i)).int';exact⟨.pointer (some ⟨c.r s,j*z'+(off+b.toNat*z),none⟩),by simp only[execOp,ho,g2,g3,Sem.run_bind,run _ _ _ _ h0 h1,Result.andThen_ok,Sem.run_pure,JS,Nat.add_assoc],.ref _ _ _ _ g1⟩
 ·rename_i cs k b hy hq
  obtain⟨⟨h0,h1⟩,hK⟩:=hK;refine⟨_,hK,Ab.val λc e R hs he=>?_⟩;obtain⟨a,g2,hd⟩:=(hy▸he x y hx:VR c _ (e x)).cref';have g3:=(hq▸he i q hi:VR c _ (e i)).int';exact⟨.pointer (some (a.add (b.toNat*z))),by simp only[execOp,ho,g2,g3,Sem.run_bind,run _ _ _ _ h0 h1,Result.andThen_ok,Sem.run_pure],hd _⟩
 ·exact hK.elim
theorem XT{t e0:TypeId}{z:Nat}{x i:Operand}{y q:AR}{K:Res->Prop}(ho:o.op = .indexAddr t x i)(hu:P.underlying t=some (.slice e0))(hk:A_ P e0=some z)(hx:AY x=some y)(hi:AY i=some q)
 (hK:AQ (.iadS z y q) ev h K):∃r,K r/\Ab P o ev h r:=by
 have run:∀(w:World) (a:Addr) (k:IntKind) (q:Int) (n cap:Nat),0<=q->q<n->(Instr.indexAt t (.slice (some a) n cap) (.int k q)).run P w = .ok (.pointer (some (a.add (q.toNat*z)))) w:=by
  intro w a k q n cap h0 h1;simp[Instr.indexAt,asIntOf,BF w hu,FX w hk,h0,h1]
 simp only[AQ] at hK;split at hK
 ·rename_i z' es k b hy hq
  obtain⟨⟨rfl,h0,h1⟩,hK⟩:=hK;refine⟨_,hK,Ab.val λc e R hs he=>?_⟩;have g3:=(hq▸he i q hi:VR c _ (e i)).int';rcases (hy▸he x y hx:VR c _ (e x)).lists with ⟨⟨a0,c0,g1⟩,g2⟩|⟨a,cap,f,g1,lh,hsp,hz,aS,aT,hv⟩
  ·subst g2;simp at h1;omega
  ·exact⟨.pointer (some (a.add (b.toNat*z'))),by simp only[execOp,ho,g1,g3,Sem.run_bind,run _ _ _ _ _ _ h0 h1,Result.andThen_ok,Sem.run_pure],VR.drop hsp hz (by omega) aS aT hv⟩
 ·rename_i s z' j n k b hy hq
  obtain⟨⟨rfl,h0,h1⟩,hK⟩:=hK;refine⟨_,hK,Ab.val λc e R hs he=>?_⟩;have g3:=(hq▸he i q hi:VR c _ (e i)).int';obtain⟨cap,g1,kZ,lh,_⟩:=(hy▸he x y hx:VR c _ (e x)).sls;have tN:b<(n:Int):=h1;refine⟨.pointer (some ⟨c.r s,(j+b.toNat)*z'+0,none⟩),?_,.ref _ _ _ _ kZ⟩;simp only[execOp,ho,g1,g3,Sem.run_bind,run _ _ _ _ _ _ h0 tN,Result.andThen_ok,Sem.run_pure,JS,Nat.add_mul,Nat.add_zero]
 ·exact hK.elim
theorem XU{t e0:TypeId}{n k:Nat}{g:Bool}{x i:Operand}{y q:AR}{K:Res->Prop}(ho:o.op = .index t x i)(hu:P.underlying t=some (.array n e0))(hk:A_ P e0=some k)(hg:Az P e0=some g)(oC:g=true\/k=1)(hx:AY x=some y)
 (hi:AY i=some q) (hK:AQ (.idx g n k y q) ev h K):∃r,K r/\Ab P o ev h r:=by
 simp only[AQ] at hK;split at hK
 ·rename_i cs k' b hy hq
  obtain⟨⟨h0,h1,h2⟩,hK⟩:=hK;refine⟨_,hK,Ab.val λc e R hs he=>?_⟩;have g3:=(hq▸he i q hi:VR c _ (e i)).int';obtain⟨vs,o7,hV⟩:=(hy▸he x y hx:VR c _ (e x)).agg';have hb:b.toNat<n:=(by omega);have:=Nat.mul_le_mul_right k (show b.toNat+1<=n from hb);rw[Nat.succ_mul] at this;obtain⟨cv,h3,h4⟩:=H7 (P:=P) c hg hk oC hV (b.toNat*k) (by omega);exact⟨cv,by simp[execOp,ho,o7,g3,Instr.index,asIntOf,BF c.w hu,FX c.w hk,h0,h1,h3],h4⟩
 ·exact hK.elim
theorem XV{t:TypeId}{x i:Operand}{y q:AR}{K:Res->Prop}(ho:o.op = .index t x i)(hu:P.underlying t=some .string)(hx:AY x=some y)(hi:AY i=some q)(hK:AQ (.idxStr y q) ev h K) :
 ∃r,K r/\Ab P o ev h r:=by
 simp only[AQ] at hK;split at hK
 ·rename_i s k' b hy hq
  obtain⟨⟨h0,h1⟩,hK⟩:=hK;refine⟨_,hK,Ab.val λc e R hs he=>⟨_,?_,.int _ _⟩⟩;have g3:=(hq▸he i q hi:VR c _ (e i)).int';have g1:=(hy▸he x y hx:VR c _ (e x)).str';have kS:b.toNat<s.size:=(by omega);have wU:b.toNat<s.data.size:=kS
  have e1:s[b.toNat]?=some (s.data.toList.getD b.toNat 0):=by
   rw[getElem?_pos s b.toNat kS]
   have e2:s.data.toList.getD b.toNat 0=s.data[b.toNat]:=by
    have e3:s.data.toList[b.toNat]?=some s.data[b.toNat]:=(by rw[Array.getElem?_toList];exact Array.getElem?_eq_getElem wU);rw[List.getD_eq_getElem?_getD,e3];rfl
   rw[e2];rfl
  simp[execOp,ho,g1,g3,Instr.index,asIntOf,BF c.w hu,h0,e1]
 ·exact hK.elim
theorem XW{t e0:TypeId}{cl:Call}{x:Operand}{y:AR}{K:Res->Prop}(ho:o.op = .call cl)(mY:cl.callee = .builtin .len)(lT:cl.args = #[x])(oI:cl.argTypes = #[t])(hu:P.underlying t=some (.slice e0))(hx:AY x=some y)
 (hK:AQ (.lenx y) ev h K):∃r,K r/\Ab P o ev h r:=by
 have run:∀(w:World) (a:Option Addr) (n cap:Nat) (e:Operand->Value),e x = .slice a n cap->(execOp e o).run P w = .ok (.value (.int .i64 n)) w:=by
  intro w a n cap e hv;simp[execOp,ho,resolve,mY,lT,oI,invoke,builtin,Builtin.len_,BF w hu,goInt,hv]
 simp only[AQ] at hK;split at hK
 ·rename_i z es hy
  refine⟨_,hK,Ab.val λc e R hs he=>?_⟩;rcases (hy▸he x y hx:VR c _ (e x)).lists with ⟨⟨a0,c0,g1⟩,g2⟩|⟨a,cap,f,g1,_⟩
  ·subst g2;exact⟨_,run _ _ _ _ _ g1,.int _ _⟩
  ·exact⟨_,run _ _ _ _ _ g1,.int _ _⟩
 ·rename_i s z i n hy
  refine⟨_,hK,Ab.val λc e R hs he=>?_⟩;obtain⟨cap,g1,_⟩:=(hy▸he x y hx:VR c _ (e x)).sls;exact⟨_,run _ _ _ _ _ g1,.int _ _⟩
 ·rename_i hy
  refine⟨_,hK,Ab.val λc e R hs he=>?_⟩;have g1:=(hy▸he x y hx:VR c _ (e x)).nils';exact⟨_,run _ _ _ _ _ g1,.int _ _⟩
 ·rename_i hy
  refine⟨_,hK,Ab.val λc e R hs he=>?_⟩;obtain⟨a,g1⟩:=(hy▸he x y hx:VR c _ (e x)).emp';exact⟨_,run _ _ _ _ _ g1,.int _ _⟩
 ·exact hK.elim
theorem XX{t:TypeId}{cl:Call}{x:Operand}{y:AR}{K:Res->Prop}(ho:o.op = .call cl)(mY:cl.callee = .builtin .len)(lT:cl.args = #[x])(oI:cl.argTypes = #[t])(hu:P.underlying t=some .string)(hx:AY x=some y)
 (hK:AQ (.lens y) ev h K):∃r,K r/\Ab P o ev h r:=by
 simp only[AQ] at hK;split at hK
 ·rename_i s hy
  refine⟨_,hK,Ab.val λc e R hs he=>⟨_,?_,.int _ _⟩⟩;have g1:=(hy▸he x y hx:VR c _ (e x)).str';simp[execOp,ho,resolve,mY,lT,oI,invoke,builtin,Builtin.len_,BF c.w hu,goInt,g1]
 ·exact hK.elim
theorem XY{t e0:TypeId}{n:Nat}{cl:Call}{x:Operand}{K:Res->Prop}(ho:o.op = .call cl)(mY:cl.callee = .builtin .len)(lT:cl.args = #[x])(oI:cl.argTypes = #[t])(hu:P.underlying t=some (.array n e0))(hK:AQ (.lenc n) ev h K) :
 ∃r,K r/\Ab P o ev h r:=by
 simp only[AQ] at hK;refine⟨_,hK,Ab.val λc e R hs he=>⟨_,?_,.int _ _⟩⟩;simp[execOp,ho,resolve,mY,lT,oI,invoke,builtin,Builtin.len_,BF c.w hu,goInt]
theorem Qu{c:Cfg}{e:Operand->Value}(he:EC c ev e)(w:World):∀ {xs:List Operand} {ys:List AR} {v:AV} {u:AV} {a:Value},Br xs=some ys->VR c v a->mmA true ev v ys=some u ->
 ∃b,((xs.map e).foldlM Builtin.max2 a).run P w = .ok b w/\VR c u b
 | [],ys,v,u,a,hc,hv,hm=>by
   simp only[Br,Option.some.injEq] at hc;subst hc
   cases v<;>simp only[mmA,Option.some.injEq] at hm<;>subst hm<;>exact⟨a,by simp,hv⟩
 | x::xs,ys,v,u,a,hc,hv,hm=>by
   simp only[Br] at hc;split at hc
   ·rename_i y ys' hy qO
    simp only[Option.some.injEq] at hc;subst hc
    cases v<;>simp only[mmA,reduceCtorEq] at hm
    rename_i k n;split at hm
    ·rename_i k' m hym
     split at hm
     ·rename_i pX
      subst pX;have h1:=hv.int';have h2:=(hym▸he x y hy:VR c _ (e x)).int';subst h1;obtain⟨b,g1,g2⟩:=Qu he w (a:=.int k (AL true n m)) qO (.int _ _) hm;refine⟨b,?_,g2⟩;simp only[List.map_cons,List.foldlM_cons,h2,Builtin.max2,Sem.run_bind,Sem.run_pure,Result.andThen_ok];simpa[AL] using g1
     ·cases hm
    ·cases hm
   ·cases hc
theorem Qv{c:Cfg}{e:Operand->Value}(he:EC c ev e)(w:World):∀ {xs:List Operand} {ys:List AR} {v:AV} {u:AV} {a:Value},Br xs=some ys->VR c v a->mmA false ev v ys=some u ->
 ∃b,((xs.map e).foldlM Builtin.min2 a).run P w = .ok b w/\VR c u b
 | [],ys,v,u,a,hc,hv,hm=>by
   simp only[Br,Option.some.injEq] at hc;subst hc
   cases v<;>simp only[mmA,Option.some.injEq] at hm<;>subst hm<;>exact⟨a,by simp,hv⟩
 | x::xs,ys,v,u,a,hc,hv,hm=>by
   simp only[Br] at hc;split at hc
   ·rename_i y ys' hy qO
    simp only[Option.some.injEq] at hc;subst hc
    cases v<;>simp only[mmA,reduceCtorEq] at hm
    rename_i k n;split at hm
    ·rename_i k' m hym
     split at hm
     ·rename_i pX
      subst pX;have h1:=hv.int';have h2:=(hym▸he x y hy:VR c _ (e x)).int';subst h1;obtain⟨b,g1,g2⟩:=Qv he w (a:=.int k (AL false n m)) qO (.int _ _) hm;refine⟨b,?_,g2⟩;simp only[List.map_cons,List.foldlM_cons,h2,Builtin.min2,Sem.run_bind,Sem.run_pure,Result.andThen_ok];simpa[AL] using g1
     ·cases hm
    ·cases hm
   ·cases hc
theorem Qw{isMax:Bool}{cl:Call}{x:Operand}{xs:List Operand}{y:AR}{ys:List AR}{K:Res->Prop}(ho:o.op = .call cl)(mY:cl.callee = .builtin (if isMax then .max else .min))(lT:cl.args.toList=x::xs)(hx:AY x=some y)(hxs:Br xs=some ys)
 (hK:AQ (.mm isMax y ys) ev h K):∃r,K r/\Ab P o ev h r:=by
 simp only[AQ] at hK;split at hK
 ·rename_i v hv
  refine⟨_,hK,Ab.val λc e R hs he=>?_⟩;have ha:(cl.args.map e).toList=e x::xs.map e:=by simp[lT]
  cases isMax with
  | true =>
    obtain⟨b,g1,g2⟩:=Qu (P:=P) he c.w hxs (he x y hx) hv;exact⟨b,by simp only[execOp,ho,resolve,mY,if_true,Sem.run_bind,Sem.run_pure,Result.andThen_ok,invoke,builtin,Builtin.max_,ha,g1],g2⟩
  | false =>
    obtain⟨b,g1,g2⟩:=Qv (P:=P) he c.w hxs (he x y hx) hv;exact⟨b,by simp only[execOp,ho,resolve,mY,Bool.false_eq_true,if_false,Sem.run_bind,Sem.run_pure,Result.andThen_ok,invoke,builtin,Builtin.min_,ha,g1],g2⟩
 ·exact hK.elim
end Go.Eng
namespace Go.Eng
open Go Go.RowKit
variable {P:Program} {o:Oper} {ev:AR->AV} {h:A7}
theorem VR.piece{c:Cfg}{z:Nat}{es:List (List AV)}{a:Addr}{cap:Nat}{f:Nat->Nat->Value}{lo hi:Nat}(hc:es.length<=cap)(ha:a.spot=none)(hz:∀e,e∈es->e.length=z)
 (aS:∀i j,i<es.length->j<z->c.w.cell? ⟨a.block,a.off+(i*z+j),none⟩=some (f i j)) (aT:0<es.length->0<z->¬c.own a.block)
 (hv:∀(i:Nat) (e:List AV),es[i]?=some e->∀(j:Nat) (x:AV),e[j]?=some x->VR c x (f i j)) (h1:lo<=hi) (h2:hi<=es.length) :
 VR c (.list z ((es.take hi).drop lo)) (.slice (some (if cap=lo then a else a.add (lo*z))) (hi-lo) (cap-lo)):=by
 have zH:((es.take hi).drop lo).length=hi-lo:=by simp;omega
 by_cases sK:cap=lo
 ·have:hi-lo=0:=by omega
  have qX:(es.take hi).drop lo=[]:=List.eq_nil_of_length_eq_zero (by omega);rw[if_pos sK,qX,this];exact .list z [] a 0 _ (λ_ _=>undef) rfl (by omega) ha (by simp) (λi j hi=>by omega) (λh=>by omega) (λi e he=>by simp at he)
 ·rw[if_neg sK,Li a _ ha]
  refine .list z _ _ _ _ (λi j=>f (lo+i) j) zH (by omega) rfl (λe he=>hz e (List.mem_of_mem_take (List.mem_of_mem_drop he))) (λi j hi hj=>?_) (λh0 mR=>aT (by omega) mR) λi e he j x hx=>hv (lo+i) e ?_ j x hx
  ·have:=aS (lo+i) j (by omega) hj
   rw[Nat.add_mul] at this;simpa[Nat.add_assoc] using this
  ·rw[List.getElem?_drop,List.getElem?_take] at he
   split at he
   ·exact he
   ·cases he
theorem Lj{x:Value}{k:IntKind}{q:Int}(w:World)(y:Nat)(code:BoundsCode)(hx:x = .int k q)(h0:0<=q)(h1:q<=y):(Instr.sliceBound x y code).run P w = .ok q.toNat w:=by
 simp[Instr.sliceBound,hx,asIntOf,h0,h1]
theorem XZ{t e0:TypeId}{z:Nat}{x:Operand}{y:AR}{lo hi:Option Operand}{lo' hi':Option AR}{K:Res->Prop}(ho:o.op = .slice t x lo hi none)(hu:P.underlying t=some (.slice e0))(hk:A_ P e0=some z)
 (hx:AY x=some y) (lg:Co lo=some lo') (m_:Co hi=some hi') (hK:AQ (.slc z y lo' hi') ev h K):∃r,K r/\Ab P o ev h r:=by
 have run:∀(w:World) (e:Operand->Value) (a:Option Addr) (n cap l h:Nat),e x = .slice a n cap->(Instr.sliceBounds true n cap (lo.map e) (hi.map e) none).run P w = .ok (l,h,cap) w ->
  (execOp e o).run P w = .ok (.value (.slice (if cap=l then a else a.map (·.add (l*z))) (h-l) (cap-l))) w:=by
  intro w e a n cap l h hv hb;simp[execOp,ho,Instr.sliceAt,Instr.slice,BF w hu,FX w hk,hv,hb]
 -- the bounds,as the operands have them
 have step:∀(l hh:Nat) (z':Nat) (es:List (List AV)) (r:AV),ev y = .list z es->l<=hh->hh<=es.length->r = .list z ((es.take hh).drop l) ->
  (∀(c:Cfg) (e:Operand->Value),EC c ev e->∀cap,es.length<=cap->(Instr.sliceBounds true es.length cap (lo.map e) (hi.map e) none).run P c.w = .ok (l,hh,cap) c.w)->Ab P o ev h (.val r):=by
  intro l hh z' es r hy hl hhh hr hb;refine Ab.val λc e R hs he=>?_;subst hr;rcases (hy▸he x y hx:VR c _ (e x)).lists with ⟨⟨a0,c0,g1⟩,g2⟩|⟨a,cap,f,g1,lh,hsp,hz,aS,aT,hv⟩
  ·subst g2
   have:=run c.w e a0 0 c0 l hh g1 (hb c e he c0 (Nat.zero_le _));have h0:hh=0:=(by simpa using hhh);subst h0;have h0:l=0:=(by omega);subst h0;exact⟨_,this,by simpa using VR.listNil z _ _⟩
  ·refine⟨_,run c.w e (some a) _ cap l hh g1 (hb c e he cap lh),?_⟩
   have:=VR.piece lh hsp hz aS aT hv hl hhh;split
   ·rename_i hc;simpa[hc] using this
   ·rename_i hc;simpa[hc] using this
 simp only[AQ] at hK;split at hK
 ·rename_i z' es hy
  cases lo with
  | none =>
    simp only[Co,Option.some.injEq] at lg;subst lg
    cases hi with
    | none =>
      simp only[Co,Option.some.injEq] at m_;subst m_;simp only[Option.map_none] at hK;obtain⟨rfl,hK⟩:=hK;exact⟨_,hK,step 0 es.length z' es _ hy (Nat.zero_le _) (Nat.le_refl _) (by simp) λc e he cap lh=>by simp[Instr.sliceBounds]⟩
    | some b =>
      simp only[Co] at m_
      cases hb:AY b with
      | none=>simp[hb] at m_
      | some b' =>
        simp only[hb,Option.map_some,Option.some.injEq] at m_;subst m_;simp only[Option.map_none,Option.map_some] at hK
        cases hbv:ev b'<;>simp only[hbv] at hK<;>try exact hK.elim
        rename_i k q;obtain⟨⟨rfl,h0,h1⟩,hK⟩:=hK
        exact⟨_,hK,step 0 q.toNat z' es _ hy (Nat.zero_le _) (by omega) (by simp) λc e he cap lh=>by
         have:=(hbv▸he b b' hb:VR c _ (e b)).int';simp[Instr.sliceBounds,Lj (P:=P) c.w cap .sliceAcap this h0 (by omega)]⟩
  | some a =>
    simp only[Co] at lg
    cases ha:AY a with
    | none=>simp[ha] at lg
    | some a' =>
      simp only[ha,Option.map_some,Option.some.injEq] at lg;subst lg
      cases hi with
      | none =>
        simp only[Co,Option.some.injEq] at m_;subst m_;simp only[Option.map_none,Option.map_some] at hK
        cases hav:ev a'<;>simp only[hav] at hK<;>try exact hK.elim
        rename_i k q;obtain⟨⟨rfl,h0,h1⟩,hK⟩:=hK
        exact⟨_,hK,step q.toNat es.length z' es _ hy (by omega) (Nat.le_refl _) (by simp) λc e he cap lh=>by
         have:=(hav▸he a a' ha:VR c _ (e a)).int';simp[Instr.sliceBounds,Lj (P:=P) c.w es.length .sliceB this h0 (by omega)]⟩
      | some b =>
        simp only[Co] at m_
        cases hb:AY b with
        | none=>simp[hb] at m_
        | some b' =>
          simp only[hb,Option.map_some,Option.some.injEq] at m_;subst m_;simp only[Option.map_some] at hK
          cases hav:ev a'<;>simp only[hav] at hK<;>try exact hK.elim
          rename_i k q
          cases hbv:ev b'<;>simp only[hbv] at hK<;>try exact hK.elim
          rename_i k2 q2;obtain⟨⟨rfl,h0,h1,h2⟩,hK⟩:=hK
          exact⟨_,hK,step q.toNat q2.toNat z' es _ hy (by omega) (by omega) rfl λc e he cap lh=>by
           have g1:=(hav▸he a a' ha:VR c _ (e a)).int';have g2:=(hbv▸he b b' hb:VR c _ (e b)).int';have e1:=Lj (P:=P) c.w cap .sliceAcap g2 (by omega) (by omega);have e2:=Lj (P:=P) c.w q2.toNat .sliceB g1 h0 (by omega);simp[Instr.sliceBounds,e1,e2]⟩
 ·exact hK.elim
end Go.Eng
namespace Go.Eng
open Go Go.RowKit
variable {P:Program} {o:Oper} {ev:AR->AV} {h:A7}
theorem Xa{zs:Array Value}{k n:Nat}(hk:zs.size=k)(oH:0<k)(i:Nat)(hi:i<n):((Array.range n).map (zs[· % zs.size]!)).getD i undef=zs.getD (i%k) undef:=by
 have vO:i%k<k:=Nat.mod_lt _ oH;simp[Array.getD_eq_getD_getElem?,hi,hk,vO]
theorem Xb{t e0:TypeId}{it:TypeInfo}{zs:List AV}{l c:Operand}{l' c':AR}{K:Res->Prop}(ho:o.op = .makeSlice t l c)(hu:P.underlying t=some (.slice e0))(hi:P.info? e0=some it)(hz:EW P e0=some zs)
 (xH:zs.length=it.size) (mR:0<it.size) (hl:AY l=some l') (hc:AY c=some c') (hK:AQ (.mk it.size it.bytes zs l' c') ev h K):∃r,K r/\Ab P o ev h r:=by
 simp only[AQ] at hK;split at hK
 ·rename_i a b ha hb
  obtain⟨⟨h0,h1,h2,h3⟩,hK⟩:=hK;refine⟨_,hK,Ab.fresh _ mR (λe he=>by rw[(List.mem_replicate.1 he).2];exact xH) λcf e R hs he=>?_⟩;have g1:=(ha▸he l l' hl:VR cf _ (e l)).int';have g2:=(hb▸he c c' hc:VR cf _ (e c)).int';obtain⟨it',z,hi',oZ,rfl⟩:=Lh hz;rw[hi] at hi'
  cases hi'
  have pu:z.cells.size=it.size:=(by simpa using xH);have w1:IntKind.i64.wrap a=a:=(by simp only[IntKind.wrap,IntKind.bits,IntKind.signed];simp;split<;>omega);have w2:IntKind.i64.wrap b=b:=(by simp only[IntKind.wrap,IntKind.bits,IntKind.signed];simp;split<;>omega);have c1:¬(b<0):=(by omega);have c2:¬(a<0):=(by omega);have c3:¬(a>b):=(by omega);have c4:¬((it.bytes:Int)*b>281474976710656):=(by rw[Int.mul_comm];omega);refine⟨.value (.slice (some ⟨cf.w.heap.size,0,none⟩) a.toNat b.toNat),_,cf.w,(Array.range (b.toNat*it.size)).map (z.cells[· % z.cells.size]!),e0,?_,rfl,rfl,rfl,rfl,rfl,?_,?_,?_⟩
  ·by_cases rJ:b.toNat*it.size=0
   ·simp[execOp,ho,g1,g2,Instr.makeSlice,BF cf.w hu,asInt,asIntOf,Nr cf.w hi,w1,w2,c1,c2,c3,c4,sizeOf,rJ,newRow]
    rw[show (Array.range 0) = #[] from rfl];simp
   ·simp[execOp,ho,g1,g2,Instr.makeSlice,BF cf.w hu,asInt,asIntOf,Nr cf.w hi,w1,w2,c1,c2,c3,c4,sizeOf,rJ,newRow,zeroValue,oZ]
  ·simp
   exact Nat.mul_le_mul_right _ (by omega)
  ·intro i e' hi' j x hx
   have mD:i<a.toNat:=by
    have:=(List.getElem?_eq_some_iff.1 hi').1;simpa using this
   rw[List.getElem?_replicate,if_pos mD] at hi'
   cases hi'
   have hj:j<it.size:=by
    have:=(List.getElem?_eq_some_iff.1 hx).1;omega
   have kS:=EP (n:=b.toNat) (z:=it.size) (i:=i) (j:=j) (by omega) hj;rw[Xa pu mR _ kS];have:(i*it.size+j)%it.size=j:=(by rw[Nat.mul_comm,Nat.mul_add_mod];exact Nat.mod_eq_of_lt hj);rw[this];exact(Lg cf z.cells).2 j x hx
  ·exact⟨b.toNat,rfl,by omega,by simp⟩
 ·exact hK.elim
theorem VR.news{c:Cfg}{z:Nat}{es:List (List AV)}{a:Addr}{f:Nat->Nat->Value}(mR:0<z)(ha:a.spot=none)(hz:∀e,e∈es->e.length=z)
 (aS:∀i j,i<es.length->j<z->c.w.cell? ⟨a.block,a.off+(i*z+j),none⟩=some (f i j))
 (hv:∀(i:Nat) (e:List AV),es[i]?=some e->∀(j:Nat) (x:AV),e[j]?=some x->VR c x (f i j)) :
 ∃news:List Value,news.length=es.length*z/\(∀j v,news[j]?=some v->c.w.cell? (a.add j)=some v)/\∀(i:Nat) (e:List AV),es[i]?=some e->∀(j:Nat) (x:AV),e[j]?=some x->∃v,news[i*z+j]?=some v/\VR c x v:=by
 refine⟨(List.range (es.length*z)).map λq=>f (q/z) (q%z),by simp,λj v hj=>?_,λi e he j x hx=>?_⟩
 ·rw[List.getElem?_map] at hj
  have kS:j<es.length*z:=by
   rcases Nat.lt_or_ge j (es.length*z) with h|h
   ·exact h
   ·rw[List.getElem?_eq_none (by simpa using h)] at hj;cases hj
  rw[List.getElem?_range kS] at hj;simp only[Option.map_some,Option.some.injEq] at hj;subst hj;have h1:j/z<es.length:=(Nat.div_lt_iff_lt_mul mR).2 kS;have:=aS (j/z) (j%z) h1 (Nat.mod_lt _ mR);rw[Nat.mul_comm,Nat.div_add_mod] at this;rw[Li a j ha];exact this
 ·have hi:i<es.length:=(List.getElem?_eq_some_iff.1 he).1
  have hj:j<z:=by
   have:=(List.getElem?_eq_some_iff.1 hx).1;have:=hz e (List.mem_of_getElem? he);omega
  have kS:=EP hi hj;have e1:(i*z+j)/z=i:=(by rw[Nat.mul_comm,Nat.mul_add_div mR,Nat.div_eq_of_lt hj,Nat.add_zero]);have e2:(i*z+j)%z=j:=(by rw[Nat.mul_comm,Nat.mul_add_mod];exact Nat.mod_eq_of_lt hj);exact⟨f i j,by rw[List.getElem?_map,List.getElem?_range kS];simp[e1,e2],hv i e he j x hx⟩
theorem Qx:∀ {es:List (List AV)} {i:Nat} {e:List AV},DK es=true->es[i]?=some e->DW e=true
 | [],i,x,_,h=>by simp at h
 | c::cs,0,x,hb,h=>by
   simp only[List.getElem?_cons_zero,Option.some.injEq] at h;subst h;simp only[DK,Bool.and_eq_true] at hb;exact hb.1
 | c::cs,i+1,x,hb,h=>by
   simp only[DK,Bool.and_eq_true] at hb;exact Qx hb.2 (by simpa using h)
theorem Rel.move{c:Cfg}(R:Rel c)(s t:Nat)(h':A7)(w:World)(z:Nat)(es kw:List (List AV))(vs vs':Array Value)(ty:TypeId)
 (hz:0<z) (hs:c.h[s]?=some (.live z es)) (ht:¬c.used t) (h1:h'[t]?=some (.live z kw)) (tN:h'[s]?=some .dead) (h2:∀k x,k≠t->k≠s->x ≠ .free->(h'[k]?=some x↔c.h[k]?=some x))
 {fz:Nat×Nat} (hfz:Dq vs fz) (ny:c.w.heap[c.r s]?=some (.cells vs ty fz)) (lU:w.heap[c.r s]?=some (.cells vs' ty fz)) (o7:vs'.size=vs.size) (mX:∀b,b≠c.r s->w.heap[b]?=c.w.heap[b]?)
 (ho:w.os=c.w.os) (htp:w.tape=c.w.tape) (hp:w.output=c.w.output) (hsz:w.heap.size=c.w.heap.size)
 (zQ:∀e,e∈kw->e.length=z) (nR:kw.length*z<=vs'.size) (hv:∀(i:Nat) (e:List AV),kw[i]?=some e->∀(j:Nat) (x:AV),e[j]?=some x->VR c x (vs'.getD (i*z+j) undef)) (n:Nat) :
 Rel { c with r:=λk=>if k=t then c.r s else c.r k,h:=h',w:=w }/\Ext n c { c with r:=λk=>if k=t then c.r s else c.r k,h:=h',w:=w }:=by
 have hl:c.live s:=⟨z,es,hs⟩;have kX:s≠t:=λe=>ht (e▸Cfg.used_of_live hl)
 have kR:∀k,k≠t->Cfg.live { c with r:=λk=>if k=t then c.r s else c.r k,h:=h',w:=w } k->c.live k/\k≠s:=by
  rintro k hk ⟨a,b,hx⟩;by_cases l_:k=s
  ·subst l_
   have:some (Ai.live a b)=some .dead:=hx.symm.trans tN;cases this
  ·exact⟨⟨a,b,(h2 k _ hk l_ (by simp)).1 hx⟩,l_⟩
 have he:∀n,Ext n c { c with r:=λk=>if k=t then c.r s else c.r k,h:=h',w:=w }:=by
  intro n;refine⟨rfl,ho,htp,hp,by simp[hsz],λk _ hu=>?_,λb hb ku=>⟨mX b λe=>ku ⟨s,hl,e.symm⟩,?_⟩,λb x hx=>?_⟩
  ·have sD:k≠t:=λe=>ht (e▸hu)
   refine⟨?_,by simp[sD]⟩;by_cases l_:k=s
   ·subst l_;exact⟨_,tN,by simp⟩
   ·obtain⟨x,hx,hf⟩:=hu;exact⟨x,(h2 k x sD l_ hf).2 hx,hf⟩
  ·rintro⟨k,hk,sw⟩
   by_cases sD:k=t
   ·subst sD;simp at sw;exact ku ⟨s,hl,sw⟩
   ·simp only[sD,if_false] at sw
    exact ku ⟨k,(kR k sD hk).1,sw⟩
  ·by_cases hb:b=c.r s
   ·subst hb
    unfold World.shape? at hx ⊢;simp only[ny] at hx;simp only[lU,o7];exact hx
   ·unfold World.shape? at hx ⊢
    simp only[mX b hb];exact hx
 obtain⟨a1,a2,a3,_⟩:=R.live s z es hs hz;refine⟨R.of_ext (he _) (λk z' e' hk=>?_) (λa b ha hb hr=>?_),he n⟩
 ·by_cases sD:k=t
  ·subst sD
   have:Ai.live z kw=Ai.live z' e':=by
    have:some (Ai.live z kw)=some (Ai.live z' e'):=h1.symm.trans hk;simpa using this
   cases this
   exact .inr (Ai.Ok.cells a1 (by simpa using a2) zQ ⟨vs',ty,fz,by simpa using lU,by unfold Dq at hfz ⊢;rw[o7];exact hfz,nR,λi e he' j x hx=>(he c.h.length).vr' (hv i e he' j x hx)⟩)
  ·obtain⟨h3,h4⟩:=kR k sD ⟨z',e',hk⟩
   have hk':=(h2 k _ sD h4 (by simp)).1 hk;exact .inl ⟨hk',by simp[sD],mX _ λe=>h4 (R.inj k s h3 hl e)⟩
 ·by_cases ow:a=t<;>by_cases hbt:b=t
  ·omega
  ·obtain⟨h3,h4⟩:=kR b hbt hb
   simp[ow,hbt] at hr;exact absurd (R.inj s b hl h3 hr).symm h4
  ·obtain⟨h3,h4⟩:=kR a ow ha
   simp[ow,hbt] at hr;exact absurd (R.inj a s h3 hl hr) h4
  ·simp[ow,hbt] at hr
   exact R.inj a b (kR a ow ha).1 (kR b hbt hb).1 hr
theorem Xc{t e0:TypeId}{it:TypeInfo}{zv:Value}{cl:Call}{x y:Operand}{x' y':AR}{K:Res->Prop}(ho:o.op = .call cl)(mY:cl.callee = .builtin .append)(lT:cl.args = #[x,y])(oI:cl.argTypes = #[t,t])
 (hu:P.underlying t=some (.slice e0)) (hi:P.info? e0=some it) (hz:it.zero=some zv) (hzs:zv.cells.size=it.size) (mR:0<it.size) (hx:AY x=some x') (hy:AY y=some y')
 (hK:AQ (.app it.size it.bytes x' y') ev h K):∃r,K r/\Ab P o ev h r:=by
 have run:∀(w w':World) (e:Operand->Value) (a b r:Value),e x=a->e y=b->(Builtin.append_ #[t,t] o.type #[a,b]).run P w = .ok r w'->(execOp e o).run P w = .ok (.value r) w':=by
  intro w w' e a b r ha hb hr;simp[execOp,ho,resolve,mY,lT,oI,invoke,builtin,ha,hb,hr]
 -- nothing is appended
 have runE:∀(w:World) (a:Option Addr) (n cap:Nat) (b:Option Addr) (m:Nat),n<=cap->(Builtin.append_ #[t,t] o.type #[.slice a n cap,.slice b 0 m]).run P w = .ok (.slice a n cap) w:=by
  intro w a n cap b m hn
  cases a<;>cases b<;>simp[Builtin.append_,BF w hu,Nr w hi,sizeOf,Builtin.lenOf,hn,Builtin.firstCells,loadCells,loadCellsFrom,storeCells]
 simp only[AQ] at hK;split at hK
 ·rename_i q_
  split at hK
  ·rename_i hxe
   refine⟨_,hK,Ab.val λc e R hs he=>⟨.slice none 0 0,?_,.nils⟩⟩;exact run _ _ _ _ _ _ (hxe▸he x x' hx:VR c _ (e x)).nils' (q_▸he y y' hy:VR c _ (e y)).nils' (runE _ _ _ _ _ _ (Nat.le_refl _))
  ·rename_i s z' i n hxe
   refine⟨_,hK,Ab.val λc e R hs he=>?_⟩;have hV:=(hxe▸he x x' hx:VR c _ (e x));obtain⟨cap,g1,g2,g3,g4⟩:=hV.sls;exact⟨_,run _ _ _ _ _ _ g1 (q_▸he y y' hy:VR c _ (e y)).nils' (runE _ _ _ _ _ _ g3),by rw[<- g1];exact hV⟩
  ·exact hK.elim
 ·rename_i z' new q_
  split at hK
  ·rename_i hxe
   by_cases mE:new=[]
   ·refine⟨_,hK.1 mE,Ab.val λc e R hs he=>?_⟩
    subst mE;obtain⟨ae,g0⟩:=(hxe▸he x x' hx:VR c _ (e x)).emp';rcases (q_▸he y y' hy:VR c _ (e y)).lists with ⟨⟨a0,c0,g1⟩,g2⟩|⟨a,cap,f,g1,lh,hsp,oZ,aS,aT,hv⟩
    ·exact⟨_,run _ _ _ _ _ _ g0 g1 (runE _ _ _ _ _ _ (Nat.le_refl _)),.emp _⟩
    ·exact⟨_,run _ _ _ _ _ _ g0 g1 (runE _ _ _ _ _ _ (Nat.le_refl _)),.emp _⟩
   ·have hK2:=hK.2 mE
    clear hK;obtain⟨⟨rfl,h1,h2⟩,hK⟩:=hK2;have qV:0<new.length:=List.length_pos_iff.2 mE;refine⟨_,hK,?_⟩;intro c e R hs he tt h' ht hh;obtain⟨ae,g0⟩:=(hxe▸he x x' hx:VR c _ (e x)).emp';rcases (q_▸he y y' hy:VR c _ (e y)).lists with ⟨⟨a0,c0,g1⟩,g2⟩|⟨a,cap,f,g1,lh,hsp,oZ,aS,aT,hv⟩
    ·exact absurd g2 mE
    ·obtain⟨news,n1,n2,n3⟩:=VR.news mR hsp oZ aS hv
     have hr:=run_append_grow (P:=P) c.w t o.type e0 it zv hu hi hz ae 0 0 [] (by simp) (by simp) a new.length cap news n1 n2 (by omega) (by omega) (by rw[Nat.zero_add,nextslicecap_zero qV];omega);simp only[Nat.zero_add,Array.empty_append] at hr;have pQ:=grownCap_ge c.w new.length 0 e0
     have hsz:(news.toArray++Builtin.zeroCells zv.cells (grownCap c.w new.length 0 e0-new.length)).size=grownCap c.w new.length 0 e0*it.size:=by
      simp only[Array.size_append,List.size_toArray,size_zeroCells,hzs,n1,<- Nat.add_mul];congr 1;omega
     obtain⟨R1,E1⟩:=R.sameHeap (w:=c.w.drew) rfl rfl rfl rfl c.h.length;have yx:¬Cfg.used { c with w:=c.w.drew } tt:=ht;have hnz:new.length*it.size<=(news.toArray++Builtin.zeroCells zv.cells (grownCap c.w new.length 0 e0-new.length)).size:=by rw[hsz];exact Nat.mul_le_mul_right _ pQ
     obtain⟨R2,E2⟩:=Rel.fresh R1 tt h' it.size new (news.toArray++Builtin.zeroCells zv.cells (grownCap c.w new.length 0 e0-new.length)) e0 c.h.length yx hh.1 hh.2 mR oZ hnz (λi q hq j u hu'=>by
      obtain⟨v,lv,o_⟩:=n3 i q hq j u hu';have wX:=(List.getElem?_eq_some_iff.1 lv).1
      have:(news.toArray++Builtin.zeroCells zv.cells (grownCap c.w new.length 0 e0-new.length)).getD (i*it.size+j) undef=v:=by
       rw[Array.getD_eq_getD_getElem?,Array.getElem?_append_left (by simpa using wX)];simp[lv]
      rw[this];exact E1.vr' o_)
     refine⟨_,_,_,run _ _ _ _ _ _ g0 g1 hr,rfl,R2,E1.trans E2,rfl,?_⟩
     have:=VR.sl (c:={ c with w:=c.w.drew.alloc (.cells (news.toArray++Builtin.zeroCells zv.cells (grownCap c.w new.length 0 e0-new.length)) e0),r:=λs=>if s=tt then c.w.heap.size else c.r s,h:=h' }) tt it.size 0 new.length (grownCap c.w new.length 0 e0)
      ⟨_,hh.1,by simp⟩ pQ ⟨e0,_,by
        have:=heap_alloc_new c.w.drew (.cells (news.toArray++Builtin.zeroCells zv.cells (grownCap c.w new.length 0 e0-new.length)) e0);simp only[if_true];unfold World.shape?;rw[show c.w.drew.heap.size=c.w.heap.size from rfl] at this;rw[this],by rw[hsz];simp⟩
     (obtain⟨zz,qN⟩:∃zz,it.size=zz+1:=⟨it.size-1,by omega⟩;rw[qN] at this ⊢;simpa[Res.at,Nat.beq] using this)
  ·rename_i hxe
   by_cases mE:new=[]
   ·refine⟨_,hK.1 mE,Ab.val λc e R hs he=>?_⟩
    subst mE;have g0:=(hxe▸he x x' hx:VR c _ (e x)).nils';rcases (q_▸he y y' hy:VR c _ (e y)).lists with ⟨⟨a0,c0,g1⟩,g2⟩|⟨a,cap,f,g1,lh,hsp,oZ,aS,aT,hv⟩
    ·exact⟨_,run _ _ _ _ _ _ g0 g1 (runE _ _ _ _ _ _ (Nat.le_refl _)),.nils⟩
    ·exact⟨_,run _ _ _ _ _ _ g0 g1 (runE _ _ _ _ _ _ (Nat.le_refl _)),.nils⟩
   ·have hK2:=hK.2 mE
    clear hK;obtain⟨⟨rfl,h1,h2⟩,hK⟩:=hK2;have qV:0<new.length:=List.length_pos_iff.2 mE;refine⟨_,hK,?_⟩;intro c e R hs he tt h' ht hh;have g0:=(hxe▸he x x' hx:VR c _ (e x)).nils';rcases (q_▸he y y' hy:VR c _ (e y)).lists with ⟨⟨a0,c0,g1⟩,g2⟩|⟨a,cap,f,g1,lh,hsp,oZ,aS,aT,hv⟩
    ·exact absurd g2 mE
    ·obtain⟨news,n1,n2,n3⟩:=VR.news mR hsp oZ aS hv
     have hr:=run_append_nil (P:=P) c.w t o.type e0 it zv hu hi hz a new.length cap news n1 n2 qV (by omega) (by omega);have pQ:=grownCap_ge c.w new.length 0 e0
     have hsz:(news.toArray++Builtin.zeroCells zv.cells (grownCap c.w new.length 0 e0-new.length)).size=grownCap c.w new.length 0 e0*it.size:=by
      simp only[Array.size_append,List.size_toArray,size_zeroCells,hzs,n1,<- Nat.add_mul];congr 1;omega
     obtain⟨R1,E1⟩:=R.sameHeap (w:=c.w.drew) rfl rfl rfl rfl c.h.length;have yx:¬Cfg.used { c with w:=c.w.drew } tt:=ht;have hnz:new.length*it.size<=(news.toArray++Builtin.zeroCells zv.cells (grownCap c.w new.length 0 e0-new.length)).size:=by rw[hsz];exact Nat.mul_le_mul_right _ pQ
     obtain⟨R2,E2⟩:=Rel.fresh R1 tt h' it.size new (news.toArray++Builtin.zeroCells zv.cells (grownCap c.w new.length 0 e0-new.length)) e0 c.h.length yx hh.1 hh.2 mR oZ hnz (λi q hq j u hu'=>by
      obtain⟨v,lv,o_⟩:=n3 i q hq j u hu';have wX:=(List.getElem?_eq_some_iff.1 lv).1
      have:(news.toArray++Builtin.zeroCells zv.cells (grownCap c.w new.length 0 e0-new.length)).getD (i*it.size+j) undef=v:=by
       rw[Array.getD_eq_getD_getElem?,Array.getElem?_append_left (by simpa using wX)];simp[lv]
      rw[this];exact E1.vr' o_)
     refine⟨_,_,_,run _ _ _ _ _ _ g0 g1 hr,rfl,R2,E1.trans E2,rfl,?_⟩
     have:=VR.sl (c:={ c with w:=c.w.drew.alloc (.cells (news.toArray++Builtin.zeroCells zv.cells (grownCap c.w new.length 0 e0-new.length)) e0),r:=λs=>if s=tt then c.w.heap.size else c.r s,h:=h' }) tt it.size 0 new.length (grownCap c.w new.length 0 e0)
      ⟨_,hh.1,by simp⟩ pQ ⟨e0,_,by
        have:=heap_alloc_new c.w.drew (.cells (news.toArray++Builtin.zeroCells zv.cells (grownCap c.w new.length 0 e0-new.length)) e0);simp only[if_true];unfold World.shape?;rw[show c.w.drew.heap.size=c.w.heap.size from rfl] at this;rw[this],by rw[hsz];simp⟩
     (obtain⟨zz,qN⟩:∃zz,it.size=zz+1:=⟨it.size-1,by omega⟩;rw[qN] at this ⊢;simpa[Res.at,Nat.beq] using this)
  ·rename_i s z'' i n hxe
   split at hK
   ·rename_i w0 es qR
    by_cases mE:new=[]
    ·rcases hK.1 mE with hK0|⟨⟨rfl,rfl,rfl,rfl⟩,hK0⟩
     rotate_left 1
     ·refine⟨_,hK0,?_⟩
      subst mE;intro c e R hs he tt h' ht hh;obtain⟨cap,g1,kZ,v_,e1,m1,p_,ko⟩:=(hxe▸he x x' hx:VR c _ (e x)).sls;simp only[Nat.zero_mul,Nat.zero_add] at g1 ko;have rC:=hs _ _ _ qR;obtain⟨_,hO,zQ,vs,ty,fz,uE,hfz,hsz,oJ⟩:=R.live s _ es rC mR;have ni:s<c.h.length:=(List.getElem?_eq_some_iff.1 rC).1;obtain⟨wD,zt,hh3⟩:=hh;obtain⟨R1,E1⟩:=Rel.move R s tt h' c.w _ es es vs vs ty mR rC ht wD (zt ni) hh3 hfz uE uE rfl (λb _=>rfl) rfl rfl rfl rfl zQ hsz oJ c.h.length
      have lZ:∃b m,e y = .slice b 0 m:=by
       rcases (q_▸he y y' hy:VR c _ (e y)).lists with ⟨⟨a0,c0,k1⟩,k2⟩|⟨a,cap',f,k1,lh,hsp,oZ,aS,aT,hv⟩
       ·exact⟨_,_,k1⟩
       ·exact⟨_,_,k1⟩
      obtain⟨b,m,k1⟩:=lZ;refine⟨_,_,{ c with r:=λk=>if k=tt then c.r s else c.r k,h:=h',w:=c.w },run _ _ _ _ _ _ g1 k1 (runE _ _ _ _ _ _ v_),rfl,R1,E1,rfl,?_⟩;have:=VR.sl (c:={ c with r:=λk=>if k=tt then c.r s else c.r k,h:=h',w:=c.w }) tt it.size 0 es.length cap ⟨_,wD,by simp⟩ v_ ⟨e1,m1,by simp only[if_true];exact p_,by simpa using ko⟩
      (obtain⟨zz,qN⟩:∃zz,it.size=zz+1:=⟨it.size-1,by omega⟩;rw[qN] at this ⊢;simpa[Res.at,Nat.beq] using this)
     refine⟨_,hK0,Ab.val λc e R hs he=>?_⟩;subst mE;have hV:=(hxe▸he x x' hx:VR c _ (e x));obtain⟨cap,g1,g2,g3,g4⟩:=hV.sls;rcases (q_▸he y y' hy:VR c _ (e y)).lists with ⟨⟨a0,c0,k1⟩,k2⟩|⟨a,cap',f,k1,lh,hsp,oZ,aS,aT,hv⟩
     ·exact⟨_,run _ _ _ _ _ _ g1 k1 (runE _ _ _ _ _ _ g3),by rw[<- g1];exact hV⟩
     ·exact⟨_,run _ _ _ _ _ _ g1 k1 (runE _ _ _ _ _ _ g3),by rw[<- g1];exact hV⟩
    ·have hK2:=hK.2 mE
     clear hK;obtain⟨⟨rfl,rfl,rfl,rfl,rfl,zL,h63,sP⟩,hK⟩:=hK2;have qV:0<new.length:=List.length_pos_iff.2 mE;refine⟨_,hK,?_⟩;intro c e R hs he tt h' ht hh;obtain⟨cap,g1,kZ,v_,e1,m1,p_,ko⟩:=(hxe▸he x x' hx:VR c _ (e x)).sls;simp only[Nat.zero_mul,Nat.zero_add] at g1 ko;have rC:=hs _ _ _ qR;obtain⟨_,hO,zQ,vs,ty,fz,uE,hfz,hsz,oJ⟩:=R.live s _ es rC mR
     have nU:m1=vs.size:=by
      unfold World.shape? at p_;simp only[uE,Option.some.injEq,Prod.mk.injEq] at p_;exact p_.2.symm
     subst nU;have ni:s<c.h.length:=(List.getElem?_eq_some_iff.1 rC).1;have hl:c.live s:=⟨_,_,rC⟩;have kX:s≠tt:=λq=>ht (q▸Cfg.used_of_live hl);obtain⟨wD,zt,hh3⟩:=hh;have hh2:=zt ni;rcases (q_▸he y y' hy:VR c _ (e y)).lists with ⟨⟨a0,c0,k1⟩,k2⟩|⟨a,cap',f,k1,lh,hsp,oZ,aS,aT,hv⟩
     ·exact absurd k2 mE
     obtain⟨news,n1,n2,n3⟩:=VR.news mR hsp oZ aS hv
     have hes':∀q,q∈es++new->q.length=it.size:=λq hq=>by
      rcases List.mem_append.1 hq with hq|hq
      ·exact zQ q hq
      ·exact oZ q hq
     have hone:∀v,v∈news->v.oneCell'=true:=by
      intro v hv';obtain⟨q,hq⟩:=List.mem_iff_getElem?.1 hv';have zb:q<new.length*it.size:=(by rw[<- n1];exact(List.getElem?_eq_some_iff.1 hq).1);have h1:q/it.size<new.length:=(Nat.div_lt_iff_lt_mul mR).2 zb;have vH:=Dx (l:=new) [] h1;have zH:=oZ _ (List.mem_of_getElem? vH);have h2:q%it.size<(new.getD (q/it.size) []).length:=(by rw[zH];exact Nat.mod_lt _ mR);obtain⟨u,kg,pF⟩:=n3 _ _ vH _ _ (Dx .any h2);rw[Nat.mul_comm,Nat.div_add_mod,hq] at kg;cases kg
      exact pF.cell (Ns (Qx zL vH) (Dx .any h2))
     -- what the new row holds,wherever it lies
     have xV:∀(d:Cfg) (arr:Array Value),(∀(x:AV) (v:Value),VR c x v->VR d x v)->(∀q,q<es.length*it.size->arr[q]?=vs[q]?)->(∀q,q<new.length*it.size->arr[es.length*it.size+q]?=news[q]?) ->
      ∀(i:Nat) (r:List AV),(es++new)[i]?=some r->∀(j:Nat) (u:AV),r[j]?=some u->VR d u (arr.getD (i*it.size+j) undef):=by
      intro d arr hd ha1 ha2 i r hi' j u hj
      have hjz:j<it.size:=by
       have h1:=(List.getElem?_eq_some_iff.1 hj).1;have:=hes' r (List.mem_of_getElem? hi');omega
      by_cases yC:i<es.length
      ·rw[List.getElem?_append_left yC] at hi'
       have:=oJ i r hi' j u hj;rw[Array.getD_eq_getD_getElem?] at this ⊢;rw[ha1 _ (EP yC hjz)];exact hd _ _ this
      ·rw[List.getElem?_append_right (by omega)] at hi'
       obtain⟨v,lv,o_⟩:=n3 _ r hi' j u hj;have kS:=(List.getElem?_eq_some_iff.1 lv).1
       have hidx:i*it.size+j=es.length*it.size+((i-es.length)*it.size+j):=by
        have:i=es.length+(i-es.length):=(by omega);rw[this,Nat.add_mul];simp;omega
       rw[Array.getD_eq_getD_getElem?,hidx,ha2 _ (by rw[<- n1];exact kS),lv];exact hd _ _ o_
     by_cases hroom:es.length+new.length<=cap
     ·have zx:es.length*it.size+news.length<=vs.size:=by
       rw[n1,<- Nat.add_mul];exact Nat.le_trans (Nat.mul_le_mul_right _ hroom) ko
      have o8:=Nq P (c.r s) (es.length*it.size) ty fz news 0 vs c.w uE hfz (by omega) hone;have hf:=run_firstCells_some (P:=P) c.w it.size new.length a new.length cap' news n1 n2;simp only[Nat.add_zero] at o8
      have hr:(Builtin.append_ #[t,t] o.type #[.slice (some ⟨c.r s,0,none⟩) es.length cap,.slice (some a) new.length cap']).run P c.w = .ok (.slice (some ⟨c.r s,0,none⟩) (es.length+new.length) cap)
       (c.w.setRow (c.r s) (vs.toList.take (es.length*it.size)++news++vs.toList.drop (es.length*it.size+news.length)).toArray):=by
       simp[Builtin.append_,BF c.w hu,sizeOf,typeInfo,hi,Builtin.lenOf,hroom,hf,JS,o8]
      have qH:(vs.toList.take (es.length*it.size)++news++vs.toList.drop (es.length*it.size+news.length)).toArray.size=vs.size:=by
       simp;omega
      have pK:(vs.toList.take (es.length*it.size)).length=es.length*it.size:=by simp;omega
      obtain⟨R1,E1⟩:=Rel.move R s tt h' _ it.size es (es++new) vs _ ty mR rC ht wD hh2 hh3 hfz uE (setRow_heap _ _ _ _ _ _ uE) qH (λb hb=>setRow_other _ _ _ _ (by omega)) rfl rfl rfl (Qs _ _ _) hes'
       (by rw[qH,List.length_append,Nat.add_mul,<- n1];exact zx)
       (xV c _ (λ_ _ h=>h) (λq hq=>by
         rw[List.getElem?_toArray,List.append_assoc,List.getElem?_append_left (by omega),List.getElem?_take,if_pos hq];simp) (λq hq=>by
         rw[List.getElem?_toArray,List.append_assoc,List.getElem?_append_right (by omega),pK,List.getElem?_append_left (by omega)];congr 1;omega)) c.h.length
      refine⟨_,_,_,run _ _ _ _ _ _ g1 k1 hr,rfl,R1,E1,rfl,?_⟩
      have:=VR.sl (c:={ c with r:=λk=>if k=tt then c.r s else c.r k,h:=h',w:=(c.w.setRow (c.r s) (vs.toList.take (es.length*it.size)++news++vs.toList.drop (es.length*it.size+news.length)).toArray) }) tt it.size 0 (es++new).length cap
       ⟨_,wD,by simp⟩ (by simpa using hroom) ⟨ty,vs.size,by
         simp only[if_true];unfold World.shape?;rw[setRow_heap _ _ _ _ _ _ uE];simp only[qH],by simpa using ko⟩
      (obtain⟨zz,qN⟩:∃zz,it.size=zz+1:=⟨it.size-1,by omega⟩;rw[qN] at this ⊢;simpa[Res.at,Nat.beq] using this)
     ·have holds:∀j v,(vs.toList.take (es.length*it.size))[j]?=some v->c.w.cell? ((⟨c.r s,0,none⟩:Addr).add j)=some v:=by
       intro j v hj;rw[JS,Nat.zero_add];rw[List.getElem?_take] at hj;split at hj
       ·unfold World.cell?
        rw[uE];simpa using hj
       ·cases hj
      have pK:(vs.toList.take (es.length*it.size)).length=es.length*it.size:=(by simp;omega);have hr:=run_append_grow (P:=P) c.w t o.type e0 it zv hu hi hz ⟨c.r s,0,none⟩ es.length cap (vs.toList.take (es.length*it.size)) pK holds a new.length cap' news n1 n2 (by omega) (by omega) (growslice_fits (by omega) sP);have pQ:=grownCap_ge c.w (es.length+new.length) cap e0
      obtain⟨R0,E0⟩:=Rel.leave R (c.h.set s .dead) c.h.length (λk x hk=>by
       by_cases l_:k=s
       ·subst l_;rw[List.getElem?_set_self ni] at hk;cases hk;exact .inr rfl
       ·rw[List.getElem?_set_ne (Ne.symm l_)] at hk;exact .inl hk)
       (λk hk x hx hf=>by
         by_cases l_:k=s
         ·subst l_;exact⟨.dead,List.getElem?_set_self ni,by simp⟩
         ·exact⟨x,by rw[List.getElem?_set_ne (Ne.symm l_)];exact hx,hf⟩) (Nat.le_refl _)
       (λk z' e' hk q hq u hu'=>by
         by_cases l_:k=s
         ·subst l_;rw[List.getElem?_set_self ni] at hk;cases hk
         ·rw[List.getElem?_set_ne (Ne.symm l_)] at hk
          obtain⟨_,_,_,_,_,hvr'⟩:=R.livx k z' e' hk;obtain⟨i,hi'⟩:=List.mem_iff_getElem?.1 hq;obtain⟨j,hj⟩:=List.mem_iff_getElem?.1 hu';exact(hvr' i q hi' j u hj).upto)
      obtain⟨R1,E1⟩:=R0.sameHeap (w:=c.w.drew) rfl rfl rfl rfl c.h.length
      have yx:¬Cfg.used { c with h:=c.h.set s .dead,w:=c.w.drew } tt:=by
       rintro⟨x,hx,hf⟩
       have hx':(c.h.set s .dead)[tt]?=some x:=hx;rw[List.getElem?_set_ne kX] at hx';exact ht ⟨x,hx',hf⟩
      have qH:((vs.toList.take (es.length*it.size)).toArray++news.toArray++Builtin.zeroCells zv.cells (grownCap c.w (es.length+new.length) cap e0-(es.length+new.length))).size=grownCap c.w (es.length+new.length) cap e0*it.size:=by
       simp only[Array.size_append,List.size_toArray,size_zeroCells,hzs,n1,pK,<- Nat.add_mul];congr 1;omega
      have E01:=E0.trans E1
      obtain⟨R2,E2⟩:=Rel.fresh R1 tt h' it.size (es++new) _ e0 c.h.length yx wD (λk x hk hf=>by
       show h'[k]?=some x↔(c.h.set s .dead)[k]?=some x;by_cases l_:k=s
       ·subst l_;rw[hh2,List.getElem?_set_self ni]
       ·rw[List.getElem?_set_ne (Ne.symm l_)];exact hh3 k x hk l_ hf) mR hes'
       (by rw[qH,List.length_append];exact Nat.mul_le_mul_right _ pQ)
       (xV _ ((vs.toList.take (es.length*it.size)).toArray++news.toArray++Builtin.zeroCells zv.cells (grownCap c.w (es.length+new.length) cap e0-(es.length+new.length))) (λx v hv'=>E01.vr' hv') (λq hq=>by
         rw[Array.append_assoc,Array.getElem?_append_left (by simpa using (by omega:q<(vs.toList.take (es.length*it.size)).length)),List.getElem?_toArray,List.getElem?_take,if_pos hq];simp) (λq hq=>by
         rw[Array.append_assoc,Array.getElem?_append_right (by simp;omega)];simp only[List.size_toArray,pK];rw[Array.getElem?_append_left (by simp;omega),List.getElem?_toArray];congr 1;omega))
      refine⟨_,_,_,run _ _ _ _ _ _ g1 k1 hr,rfl,R2,E01.trans E2,rfl,?_⟩
      have:=VR.sl (c:={ c with w:=c.w.drew.alloc (.cells ((vs.toList.take (es.length*it.size)).toArray++news.toArray++Builtin.zeroCells zv.cells (grownCap c.w (es.length+new.length) cap e0-(es.length+new.length))) e0),r:=λs=>if s=tt then c.w.heap.size else c.r s,h:=h' })
       tt it.size 0 (es++new).length (grownCap c.w (es.length+new.length) cap e0)
       ⟨_,wD,by simp⟩ (by simpa using pQ) ⟨e0,_,by
         have:=heap_alloc_new c.w.drew (.cells ((vs.toList.take (es.length*it.size)).toArray++news.toArray++Builtin.zeroCells zv.cells (grownCap c.w (es.length+new.length) cap e0-(es.length+new.length))) e0);simp only[if_true];unfold World.shape?;rw[show c.w.drew.heap.size=c.w.heap.size from rfl] at this;rw[this],by rw[qH];simp⟩
      (obtain⟨zz,qN⟩:∃zz,it.size=zz+1:=⟨it.size-1,by omega⟩;rw[qN] at this ⊢;simpa[Res.at,Nat.beq] using this)
   ·exact hK.elim
  ·exact hK.elim
 ·exact hK.elim
end Go.Eng
