/- Parts of the proofs. -/
import Derived.Test.YtlchlddijclhjaaGreatS9
import Derived.Test.YtlchlddijclhjaaGreatSZ
set_option linter.unusedVariables false
set_option linter.unusedSimpArgs false
set_option maxHeartbeats 4000000
namespace Go.Eng
open Go Go.RowKit
theorem k7C{P:Program}{op:Op}{ty:TypeId}{z n:Nat}{zero:List AV}{ps:List (Nat×Nat×k0B)}(hc:k1F P op ty=some (.bslice z n zero ps)) :
 ∃t e0 parts,op = .buildSlice t n parts/\P.underlying t=some (.slice e0)/\k4W P e0=some zero/\k3O P e0=some z/\zero.length=z/\0<z/\0<n/\n*z<=16777216/\k7W (λi=>some (i*z,z)) parts.toList=some ps:=by
 cases op<;>simp only[k1F] at hc
 case buildSlice t m parts =>
  split at hc
  ·rename_i e hu
   split at hc
   ·rename_i zs k hz hk
    split at hc
    ·cases hc
    split at hc
    ·rename_i hcond
     cases hf:k7W (λi=>some (i*k,k)) parts.toList with
     | none=>simp[hf] at hc
     | some qs =>
       simp only[hf,Option.map_some,Option.some.injEq,AOp.bslice.injEq] at hc;obtain⟨rfl,rfl,rfl,rfl⟩:=hc;exact⟨t,e,parts,rfl,hu,hz,hk,hcond.1,hcond.2.1,hcond.2.2.1,hcond.2.2.2,hf⟩
    ·cases hc
   ·cases hc
  ·cases hc
 case call cl =>
  exfalso;split at hc
  ·cases hc
  split at hc
  ·cases hc
  unfold k3B at hc;repeat' (split at hc)
  all_goals simp_all
 all_goals (exfalso;repeat' (split at hc))
 all_goals first
  | (simp_all;done)
  | (cases hc;done)
theorem kG3{P:Program}{o:Oper}{ev:k0B->AV}{h:k00}{z n:Nat}{zs:List AV}{ps:List (Nat×Nat×k0B)}{cs:List AV}(hc:k1F P o.op o.type=some (.bslice z n zs ps))(hcs:k6L ev (List.replicate n zs).flatten ps=some cs) :
 k0A P o ev h (.new (some n) z (k62 z n cs)):=by
 obtain⟨t,e0,parts,ho,hu,hz,hk,hzl,hz0,hn0,hnz,hf⟩:=k7C hc;obtain⟨it,zv,hi,hzz,rfl⟩:=k5E hz;obtain⟨ie,hie,hiz⟩:=k4Z hk;rw[hi] at hie;cases hie
 have hzc:zv.cells.size=z:=by simpa using hzl
 have zE:∀c:Cfg,VRs c (List.replicate n (zv.cells.toList.map AV.ofCell)).flatten ((Array.range (n*z)).map (zv.cells[· % zv.cells.size]!)):=by
  intro c;refine⟨by simp[hzc],λi x hx=>?_⟩
  have hlt:i<n*z:=by
   have:=(List.getElem?_eq_some_iff.1 hx).1;simpa[hzc] using this
  have hmod:i%z<z:=Nat.mod_lt _ hz0
  have hget:∀(m i:Nat),i<m*z->(List.replicate m (zv.cells.toList.map AV.ofCell)).flatten[i]?=some (AV.ofCell (zv.cells.getD (i%z) undef)):=by
   intro m
   induction m with
   | zero=>intro i hi;omega
   | succ m ih =>
     intro i hi;rw[List.replicate_succ,List.flatten_cons];by_cases hiz:i<z
     ·rw[List.getElem?_append_left (by simp[hzc];exact hiz),Nat.mod_eq_of_lt hiz]
      simp[Array.getD_eq_getD_getElem?,show i<zv.cells.size by omega]
     ·rw[List.getElem?_append_right (by simp[hzc];omega),ih]
      ·simp only[List.length_map,Array.length_toList,hzc]
       have hm:(i-z)%z=i%z:=(Nat.mod_eq_sub_mod (Nat.le_of_not_lt hiz)).symm;rw[hm]
      ·simp only[List.length_map,Array.length_toList,hzc]
       rw[Nat.succ_mul] at hi;omega
  rw[hget n i hlt] at hx;simp only[Option.some.injEq] at hx;subst hx
  have:(Array.map (zv.cells[· % zv.cells.size]!) (Array.range (n*z))).getD i undef=zv.cells.getD (i%z) undef:=by
   simp[Array.getD_eq_getD_getElem?,hlt,hzc];simp[hmod,hzc]
  rw[this];exact k56 c _
 have hflat:cs.length=n*z:=by
  have hl0:(List.replicate n (zv.cells.toList.map AV.ofCell)).flatten.length=n*z:=(by simp[hzc]);rw[<- hl0];exact kAX hcs
 refine k0A.fresh (some n) hz0 (λe he=>?_) λc e R hs he=>?_
 ·obtain⟨i,hi⟩:=List.mem_iff_getElem?.1 he
  have yH:i<n:=by
   have:=(List.getElem?_eq_some_iff.1 hi).1
   rwa [k2L] at this
  rw[k5C z n cs i yH] at hi;cases hi
  have:(i+1)*z<=n*z:=Nat.mul_le_mul_right z yH;rw[Nat.succ_mul] at this;simp;omega
 ·obtain⟨arr,h1,h2,h3⟩:=kAW he _ hf (zE c) hcs
  have hb:=run_buildSlice (P:=P) c.w t e0 n (parts.map λ(i,x)=>(i,e x)) arr it zv hu hi hzz (by rw[hiz];simp;omega) (by rw[hiz];exact Nat.ne_of_gt (Nat.mul_pos hn0 hz0)) (by rw[hiz];simpa using h1);refine⟨.value (.slice (some ⟨c.w.heap.size,0,none⟩) n n),_,c.w,arr,e0,by simp[execOp,ho,hb],rfl,rfl,rfl,rfl,rfl,by rw[k2L,h2.1,hflat];exact Nat.le_refl _,λi e' hi j x hx=>?_,n,rfl,Nat.le_refl _,by rw[h2.1,hflat];exact Nat.le_refl _⟩
  have yH:i<n:=by
   have:=(List.getElem?_eq_some_iff.1 hi).1
   rwa [k2L] at this
  rw[k5C z n cs i yH] at hi;cases hi
  have hj:j<z:=by
   have:=(List.getElem?_eq_some_iff.1 hx).1;simp at this;omega
  rw[List.getElem?_take,if_pos hj,List.getElem?_drop] at hx;exact h2.2 _ _ hx
section
variable {P:Program} {n:Nat} {Q:Exit->Act->World->Prop}
theorem kEY{o:Oper}{dst:Option Nat}{K:k09->k00->Prop}{K':Act->World->Prop}{a:k09}{C:Cfg}{act:Act}{z m:Nat}{zero:List AV}{ps:List (Nat×Nat×k0B)}{cs:List AV}(hc:k1F P o.op o.type=some (.bslice z m zero ps))(hd:dst=o.dst)(S:St C a act)(hn:n<=C.h.length)
 (hf:k6L (evA a) (List.replicate m zero).flatten ps=some cs) (H:K (k1V a dst (.sl C.h.length z 0 m)) (C.h++[.live z (k62 z m cs)])) (hK:∀a' D act',K a' D.h->St D a' act'->Ext n C D->n<=D.h.length->K' act' D.w):o.wp P act C.w K' Q:=by
 have hs:=kG3 (h:=C.h) hc hf
 obtain⟨nx,cv,D,g1,g2,g3,g4,g5,g6⟩:=hs C act.eval S.rel (λ_ _ _ h=>h) S.ev C.h.length ((Res.new (some m) z (k62 z m cs)).push C.h) (λhu=>absurd (Cfg.used_lt hu) (Nat.lt_irrefl _)) (by
  refine⟨by simp[Res.push],λs x hs hx=>?_⟩;simp only[Res.push];by_cases hlt:s<C.h.length
  ·rw[List.getElem?_append_left hlt]
  ·rw[List.getElem?_append_right Z.o,List.getElem?_eq_none (show C.h.length<=s by omega)]
   rw[show s-C.h.length=(s-C.h.length-1)+1 by omega];simp)
 have hk:K' (act.put o.dst cv) D.w:=by
  refine hK _ D _ ?_ ((S.ext g3 g4).put o.dst g6) (g4.mono hn) ?_
  ·rw[g5,<- hd]
   obtain⟨_,_,_,_,_,_,_,_,hz0,_⟩:=k7C hc;have hb:Nat.beq z 0=false:=(by cases z with|zero=>omega|succ z=>rfl);show K (k1V a dst (match Nat.beq z 0 with|true=>.mapr C.h.length|false=>.sl C.h.length z 0 m)) _;rw[hb];exact H
  ·rw[g5];simp[Res.push];omega
 unfold Oper.wp;rw[g1]
 cases nx<;>simp only[kES,Option.some.injEq,reduceCtorEq] at g2
 ·subst g2;exact hk
 ·subst g2;exact hk
def kZV(d:Option Nat)(rest:List k0J):Bool:=
 match d with
 | some t=>rest.any λo=>match o.op with | .app _ _ _ (.tmp u)=>Nat.beq t u|_=>false
 | none=>false
def k9K(w:k01)(P:Program)(el:List Nat)(K:k09->k00->Prop):List k0J->k09->k00->Prop
 | [],a,h=>K a h
 | o::rest,a,h =>
   match o.guard with
   | some _=>False
   | none =>
     match o.op with
     | .bslice z m zero ps=>(match kZV o.dst rest with
       | true=>k86 w P el o (k9K w P el K rest) a h
       | false=>(match k6L (evA a) (List.replicate m zero).flatten ps with|some cs=>k9K w P el K rest (k1V a o.dst (.sl h.length z 0 m)) (h++[.live z (k62 z m cs)])|none=>False))
     | _=>k86 w P el o (k9K w P el K rest) a h
theorem k6B{el:List Nat}{K:k09->k00->Prop}{l0:List Oper}:∀ {l:List Oper} {al:List k0J} {a:k09} {C:Cfg} {act:Act},k0R P l0 l=some al->St C a act->n<=C.h.length->k9K std P el K al a C.h ->
 (∀a' D act',K a' D.h->St D a' act'->Ext n C D->n<=D.h.length->Q .normal act' D.w)->wpList P l0.toArray Q l act C.w
 | [],al,a,C,act,hc,S,hn,H,hK=>by
   simp only[k0R,Option.some.injEq] at hc;subst hc;exact hK a C act H S (Ext.refl _ _) hn
 | o::l,al,a,C,act,hc,S,hn,H,hK=>by
   simp only[k0R] at hc;split at hc
   ·rename_i ao al' hao hal
    simp only[Option.some.injEq] at hc;subst hc;obtain⟨h1,h2,h3⟩:=k3C hao
    have next:∀a' D act',k9K std P el K al' a' D.h->St D a' act'->Ext n C D->n<=D.h.length->wpList P l0.toArray Q l act' D.w:=λa'' D act' k1 k2 k3 k4 =>
     k6B hal k2 k4 k1 λa3 D3 act3 m1 m2 m3 m4=>hK a3 D3 act3 m1 m2 (k3.trans m3) m4
    unfold wpList;simp only[k9K] at H;rcases h3 with ⟨g1,g2⟩|⟨j,want,t,g1,g2,g3⟩
    ·simp only[g2] at H
     rw[if_pos (by simp[Region.wanted,g1])];refine .inl ?_;split at H
     ·rename_i z m zero ps hop
      split at H
      ·exact k2U h1 h2 S hn (k30 H λa h hr=>hr) next
      ·split at H
       ·rename_i cs hcs
        exact kEY (by rw[<- hop];exact h1) h2 S hn hcs H next
       ·exact H.elim
     ·exact k2U h1 h2 S hn (k30 H λa h hr=>hr) next
    ·simp only[g3] at H
   ·cases hc
def q01(l:List k0J):Bool:=l.any λo=>match o.op with | .bslice _ _ _ _=>true|_=>false
end
def kYX(w:k01)(P:Program)(el:List Nat)(n:Nat):k2Z->k17->k09->k00->Prop
 | .seq x y,Q,a,h=>kYX w P el n x (k6Y (kYX w P el n y Q) Q) a h
 | .ops l,Q,a,h=>(match q01 l with|true=>k9K w P el (Q .normal) l a h|false=>k1W w P el (Q .normal) l a h)
 | c,Q,a,h=>k2D w P el n c Q a h
theorem k90{P:Program}{el:List Nat}{n:Nat}:∀ {code:Code} {c:k2Z} {Q Q':k17} {a:k09} {h:k00},k07 P code=some c->k37 P code=true->(∀e a h,Q e a h->Q' e a h)->kYX std P el n c Q a h->AWp P n code Q' a h
 | .seq x y,c,Q,Q',a,h,hc,hd,hq,H=>by
   simp only[k07] at hc;split at hc
   ·rename_i p q hp hq2
    simp only[Option.some.injEq] at hc;subst hc;simp only[k37,Bool.and_eq_true] at hd;refine AWp.seq (k90 hp hd.1 (λe a h hr=>?_) H)
    cases e with
    | normal=>exact k90 hq2 hd.2 hq hr
    | _=>exact hq _ _ _ hr
   ·cases hc
 | .region id ops false,c,Q,Q',a,h,hc,hd,hq,H=>by
   simp only[k07] at hc
   cases hx:k0R P ops.toList ops.toList with
   | none =>
     simp only[hx,Option.map_none,k6Z,Option.some.injEq] at hc;subst hc;exact(H:False).elim
   | some al =>
     simp only[hx,Option.map_some,k6Z,Option.some.injEq] at hc;subst hc;simp only[kYX] at H;split at H
     ·intro C act hC S hn
      refine wp_region_list ?_;have:=k6B (Q:=k7Z n C Q') (n:=n) hx S (hC▸hn) (by subst hC;exact H) λa3 D3 act3 m1 m2 m3 m4=>⟨a3,D3,hq _ _ _ m1,rfl,m2,m3,m4⟩;simpa using this
     ·have hH:k2D std P el n (.ops al) Q a h:=H
      exact k1G (by simp only[k07,hx,Option.map_some,k6Z]) hd (k0F hq hH)
 | .skip,c,Q,Q',a,h,hc,hd,hq,H=>k1G hc hd (k0F hq (by simp only[k07,Option.some.injEq] at hc;subst hc;exact H))
 | .ret,c,Q,Q',a,h,hc,hd,hq,H=>k1G hc hd (k0F hq (by simp only[k07,Option.some.injEq] at hc;subst hc;exact H))
 | .exit id,c,Q,Q',a,h,hc,hd,hq,H=>k1G hc hd (k0F hq (by simp only[k07,Option.some.injEq] at hc;subst hc;exact H))
 | .cond x p q,c,Q,Q',a,h,hc,hd,hq,H=>by
   have hc0:=hc;simp only[k07] at hc;split at hc
   ·simp only[Option.some.injEq] at hc
    subst hc;exact k1G hc0 hd (k0F hq H)
   ·cases hc
 | .block id x,c,Q,Q',a,h,hc,hd,hq,H=>by
   have hc0:=hc;simp only[k07] at hc
   cases hx:k07 P x with
   | none=>simp[hx] at hc
   | some y =>
     simp only[hx,Option.map_some,Option.some.injEq] at hc;subst hc;exact k1G hc0 hd (k0F hq H)
 | .loop x,c,Q,Q',a,h,hc,hd,hq,H=>by
   have hc0:=hc;simp only[k07] at hc
   cases hx:k07 P x with
   | none=>simp[hx] at hc
   | some y =>
     simp only[hx,Option.map_some,Option.some.injEq] at hc;subst hc;exact k1G hc0 hd (k0F hq H)
 | .region id ops true,c,Q,Q',a,h,hc,hd,hq,H=>by
   have hc0:=hc;simp only[k07] at hc;split at hc
   ·cases hx:k0R P ops.toList ops.toList with
    | none =>
      simp only[hx,Option.map_none,k6Z,Option.some.injEq] at hc;subst hc;exact k1G hc0 hd (k0F hq H)
    | some al =>
      simp only[hx,Option.map_some,k6Z,Option.some.injEq] at hc;subst hc;exact k1G hc0 hd (k0F hq H)
   ·cases hx:k0R P (k6H ops.toList) (k6H ops.toList) with
    | none =>
      simp only[hx,Option.map_none,k6Z,Option.some.injEq] at hc;subst hc;exact k1G hc0 hd (k0F hq H)
    | some al =>
      simp only[hx,Option.map_some,k6Z,Option.some.injEq] at hc;subst hc;exact k1G hc0 hd (k0F hq H)
 | .rangeFunc _ _ _ _,c,Q,Q',a,h,hc,hd,hq,H=>by
   simp only[k07,Option.some.injEq] at hc;subst hc;exact(H:False).elim
 | .scope _,c,Q,Q',a,h,hc,hd,hq,H=>by
   simp only[k07,Option.some.injEq] at hc;subst hc;exact(H:False).elim
 | .label _,c,Q,Q',a,h,hc,hd,hq,H=>by
   simp only[k07,Option.some.injEq] at hc;subst hc;exact(H:False).elim
 | .goto _,c,Q,Q',a,h,hc,hd,hq,H=>by
   simp only[k07,Option.some.injEq] at hc;subst hc;exact(H:False).elim
 | .refuse _,c,Q,Q',a,h,hc,hd,hq,H=>by
   simp only[k07,Option.some.injEq] at hc;subst hc;exact(H:False).elim
def kT0(w:k01)(F:Option kPC)(P:Program)(args:List AV)(R:AV->Prop):Prop:=
 match F with
 | some F=>kYX w P (k5Q [] F.code) 0 F.code (kM1 F.rets R) (k63 args F.n) []
 | none=>False
theorem k02.ofL {P : Program} {g : FuncId} {fn : Func} {args : List AV} {R : AV → Prop} (hf : P.funcs[g]? = some fn) (hname : (fn.name == "runtime.NumGoroutine") = false) (hdr : k5B P fn = true) (H : ∀ w, w = std → ∀ R' : AV → Prop, (∀ r, R r → R' r) → kT0 w (k2K P fn) P args R') : k02 P g args R := by
 have H:=H std rfl R λ_ h=>h;unfold kT0 at H;split at H
 ·rename_i F hc
  unfold k2K at hc;split at hc
  ·rename_i code hb
   split at hc
   ·rename_i c r hcc hr
    simp only[Option.some.injEq] at hc;subst hc;have HA:AWp P 0 code (kZG r R) (k63 args fn.ntmps) []:=k90 hcc (by unfold k5B at hdr;rw[hb] at hdr;exact hdr) (λe a h hr=>kAL e a h hr) H;refine⟨⟨fn,hf,by simp[hb],hname⟩,λC vs hC RC hv=>?_⟩;refine calls_of_wp hf hb ?_;refine wp_mono (HA C _ hC (k7O RC hv fn.ntmps) (Nat.zero_le _)) λe act' w' ⟨a',D,h1,h2,h3,h4,h5⟩=>?_
    have fin:(∃l,k54 a' D.h r=some l/\∃x,Vw D.h (k2Q l) x/\R x)->act'.defers=[]/\∃v,(results fn act'.tmps).run P w' = .ok v w' /\
     ∃v' r D,Ending.returned v = .returned v'/\R r/\D.h=[]/\D.w=w'/\Rel D/\VR D r v'/\Ext 0 C D:=by
     rintro⟨l,hl,x,hx,hRx⟩
     obtain⟨u,k1,k2⟩:=k2V hr h3 hl;subst h2;refine⟨h3.nodef,u,k1,u,x,{ D with h:=[] },rfl,hRx,rfl,rfl,?_,hx D rfl h3.rel u k2,?_⟩
     ·exact⟨λs z es h=>by simp at h,λs t ⟨z,es,h⟩=>by simp at h,h3.rel.olt,λp hp=>(h3.rel.glo p hp).recfg (C:=D) (D:={ D with h:=[] }) rfl (λb hb=>hb.elim .inl λ⟨s,⟨z,es,h⟩,_⟩=>by simp at h) (k49 hp 0),h3.rel.gsz⟩
     ·exact⟨h4.O,h4.os,h4.tape,h4.output,h4.size,λs hs=>absurd hs (Nat.not_lt_zero _),λb hb hno=>⟨(h4.keep b hb hno).1,λ⟨s,⟨z,es,h⟩,_⟩=>by simp at h⟩,h4.shape⟩
    cases e with
    | normal=>exact fin h1
    | ret=>exact fin h1
    | exit id=>exact h1.elim
    | goto l=>exact h1.elim
    | panic c=>exact h1.elim
    | outgrown=>exact h1.elim
   ·cases hc
  ·cases hc
 ·exact H.elim
end Go.Eng
