/- Parts of the proofs. -/
import Derived.Test.YtlchlddijclhjaaGreatR9
import Derived.Test.YtlchlddijclhjaaGreatRZ
set_option linter.unusedVariables false
set_option linter.unusedSimpArgs false
set_option maxHeartbeats 4000000
namespace Go.Eng
open Go Go.RowKit
theorem Su{P:Program}{op:Op}{ty:TypeId}{z n:Nat}{zero:List AV}{ps:List (Nat×Nat×AR)}(hc:Cw P op ty=some (.bslice z n zero ps)) :
 ∃t e0 parts,op = .buildSlice t n parts/\P.underlying t=some (.slice e0)/\EW P e0=some zero/\A_ P e0=some z/\zero.length=z/\0<z/\0<n/\n*z<=16777216/\Dp (λi=>some (i*z,z)) parts.toList=some ps:=by
 cases op<;>simp only[Cw] at hc
 case buildSlice t m parts =>
  split at hc
  ·rename_i e hu
   split at hc
   ·rename_i zs k hz hk
    split at hc
    ·cases hc
    split at hc
    ·rename_i hcond
     cases hf:Dp (λi=>some (i*k,k)) parts.toList with
     | none=>simp[hf] at hc
     | some qs =>
       simp only[hf,Option.map_some,Option.some.injEq,AOp.bslice.injEq] at hc;obtain⟨rfl,rfl,rfl,rfl⟩:=hc;exact⟨t,e,parts,rfl,hu,hz,hk,hcond.1,hcond.2.1,hcond.2.2.1,hcond.2.2.2,hf⟩
    ·cases hc
   ·cases hc
  ·cases hc
 case call cl =>
  exfalso;split at hc
  ·cases hc
  split at hc
  ·cases hc
  unfold Jg at hc;repeat' (split at hc)
  all_goals simp_all
 all_goals (exfalso;repeat' (split at hc))
 all_goals first
  | (simp_all;done)
  | (cases hc;done)
theorem bC{P:Program}{o:Oper}{ev:AR->AV}{h:A7}{z n:Nat}{zs:List AV}{ps:List (Nat×Nat×AR)}{cs:List AV}(hc:Cw P o.op o.type=some (.bslice z n zs ps))(hcs:D9 ev (List.replicate n zs).flatten ps=some cs) :
 Ab P o ev h (.new (some n) z (EX z n cs)):=by
 obtain⟨t,e0,parts,ho,hu,hz,hk,xH,mR,xP,hnz,hf⟩:=Su hc;obtain⟨it,zv,hi,oZ,rfl⟩:=Lh hz;obtain⟨ie,vV,rR⟩:=KI hk;rw[hi] at vV;cases vV
 have pu:zv.cells.size=z:=by simpa using xH
 have zH:∀c:Cfg,VRs c (List.replicate n (zv.cells.toList.map AV.ofCell)).flatten ((Array.range (n*z)).map (zv.cells[· % zv.cells.size]!)):=by
  intro c;refine⟨by simp[pu],λi x hx=>?_⟩
  have kS:i<n*z:=by
   have:=(List.getElem?_eq_some_iff.1 hx).1;simpa[pu] using this
  have vO:i%z<z:=Nat.mod_lt _ mR
  have nV:∀(m i:Nat),i<m*z->(List.replicate m (zv.cells.toList.map AV.ofCell)).flatten[i]?=some (AV.ofCell (zv.cells.getD (i%z) undef)):=by
   intro m
   induction m with
   | zero=>intro i hi;omega
   | succ m ih =>
     intro i hi;rw[List.replicate_succ,List.flatten_cons];by_cases rR:i<z
     ·rw[List.getElem?_append_left (by simp[pu];exact rR),Nat.mod_eq_of_lt rR]
      simp[Array.getD_eq_getD_getElem?,show i<zv.cells.size by omega]
     ·rw[List.getElem?_append_right (by simp[pu];omega),ih]
      ·simp only[List.length_map,Array.length_toList,pu]
       have hm:(i-z)%z=i%z:=(Nat.mod_eq_sub_mod (Nat.le_of_not_lt rR)).symm;rw[hm]
      ·simp only[List.length_map,Array.length_toList,pu]
       rw[Nat.succ_mul] at hi;omega
  rw[nV n i kS] at hx;simp only[Option.some.injEq] at hx;subst hx
  have:(Array.map (zv.cells[· % zv.cells.size]!) (Array.range (n*z))).getD i undef=zv.cells.getD (i%z) undef:=by
   simp[Array.getD_eq_getD_getElem?,kS,pu];simp[vO,pu]
  rw[this];exact JR c _
 have tC:cs.length=n*z:=by
  have zo:(List.replicate n (zv.cells.toList.map AV.ofCell)).flatten.length=n*z:=(by simp[pu]);rw[<- zo];exact Np hcs
 refine Ab.fresh (some n) mR (λe he=>?_) λc e R hs he=>?_
 ·obtain⟨i,hi⟩:=List.mem_iff_getElem?.1 he
  have yC:i<n:=by
   have:=(List.getElem?_eq_some_iff.1 hi).1
   rwa [GM] at this
  rw[KJ z n cs i yC] at hi;cases hi
  have:(i+1)*z<=n*z:=Nat.mul_le_mul_right z yC;rw[Nat.succ_mul] at this;simp;omega
 ·obtain⟨arr,h1,h2,h3⟩:=KL he _ hf (zH c) hcs
  have hb:=run_buildSlice (P:=P) c.w t e0 n (parts.map λ(i,x)=>(i,e x)) arr it zv hu hi oZ (by rw[rR];simp;omega) (by rw[rR];exact Nat.ne_of_gt (Nat.mul_pos xP mR)) (by rw[rR];simpa using h1);refine⟨.value (.slice (some ⟨c.w.heap.size,0,none⟩) n n),_,c.w,arr,e0,by simp[execOp,ho,hb],rfl,rfl,rfl,rfl,rfl,by rw[GM,h2.1,tC];exact Nat.le_refl _,λi e' hi j x hx=>?_,n,rfl,Nat.le_refl _,by rw[h2.1,tC];exact Nat.le_refl _⟩
  have yC:i<n:=by
   have:=(List.getElem?_eq_some_iff.1 hi).1
   rwa [GM] at this
  rw[KJ z n cs i yC] at hi;cases hi
  have hj:j<z:=by
   have:=(List.getElem?_eq_some_iff.1 hx).1;simp at this;omega
  rw[List.getElem?_take,if_pos hj,List.getElem?_drop] at hx;exact h2.2 _ _ hx
section
variable {P:Program} {n:Nat} {Q:Exit->Act->World->Prop}
theorem Sv{o:Oper}{dst:Option Nat}{K:AA->A7->Prop}{K':Act->World->Prop}{a:AA}{C:Cfg}{act:Act}{z m:Nat}{zero:List AV}{ps:List (Nat×Nat×AR)}{cs:List AV}(hc:Cw P o.op o.type=some (.bslice z m zero ps))(hd:dst=o.dst)(S:St C a act)(hn:n<=C.h.length)
 (hf:D9 (evA a) (List.replicate m zero).flatten ps=some cs) (H:K (Aj a dst (.sl C.h.length z 0 m)) (C.h++[.live z (EX z m cs)])) (hK:∀a' D act',K a' D.h->St D a' act'->Ext n C D->n<=D.h.length->K' act' D.w):o.wp P act C.w K' Q:=by
 have hs:=bC (h:=C.h) hc hf
 obtain⟨nx,cv,D,g1,g2,g3,g4,g5,g6⟩:=hs C act.eval S.rel (λ_ _ _ h=>h) S.ev C.h.length ((Res.new (some m) z (EX z m cs)).push C.h) (λhu=>absurd (Cfg.used_lt hu) (Nat.lt_irrefl _)) (by
  refine⟨by simp[Res.push],λs x hs hx=>?_⟩;simp only[Res.push];by_cases kS:s<C.h.length
  ·rw[List.getElem?_append_left kS]
  ·rw[List.getElem?_append_right Z.o,List.getElem?_eq_none (show C.h.length<=s by omega)]
   rw[show s-C.h.length=(s-C.h.length-1)+1 by omega];simp)
 have hk:K' (act.put o.dst cv) D.w:=by
  refine hK _ D _ ?_ ((S.ext g3 g4).put o.dst g6) (g4.mono hn) ?_
  ·rw[g5,<- hd]
   obtain⟨_,_,_,_,_,_,_,_,mR,_⟩:=Su hc;have hb:Nat.beq z 0=false:=(by cases z with|zero=>omega|succ z=>rfl);show K (Aj a dst (match Nat.beq z 0 with|true=>.mapr C.h.length|false=>.sl C.h.length z 0 m)) _;rw[hb];exact H
  ·rw[g5];simp[Res.push];omega
 unfold Oper.wp;rw[g1]
 cases nx<;>simp only[H8,Option.some.injEq,reduceCtorEq] at g2
 ·subst g2;exact hk
 ·subst g2;exact hk
def bD(d:Option Nat)(rest:List Ad):Bool:=
 match d with
 | some t=>rest.any λo=>match o.op with | .app _ _ _ (.tmp u)=>Nat.beq t u|_=>false
 | none=>false
def Iq(w:A8)(P:Program)(el:List Nat)(K:AA->A7->Prop):List Ad->AA->A7->Prop
 | [],a,h=>K a h
 | o::rest,a,h =>
   match o.guard with
   | some _=>False
   | none =>
     match o.op with
     | .bslice z m zero ps=>(match bD o.dst rest with
       | true=>Ga w P el o (Iq w P el K rest) a h
       | false=>(match D9 (evA a) (List.replicate m zero).flatten ps with|some cs=>Iq w P el K rest (Aj a o.dst (.sl h.length z 0 m)) (h++[.live z (EX z m cs)])|none=>False))
     | _=>Ga w P el o (Iq w P el K rest) a h
theorem Sw{el:List Nat}{K:AA->A7->Prop}{l0:List Oper}:∀ {l:List Oper} {al:List Ad} {a:AA} {C:Cfg} {act:Act},Aw P l0 l=some al->St C a act->n<=C.h.length->Iq std P el K al a C.h ->
 (∀a' D act',K a' D.h->St D a' act'->Ext n C D->n<=D.h.length->Q .normal act' D.w)->wpList P l0.toArray Q l act C.w
 | [],al,a,C,act,hc,S,hn,H,hK=>by
   simp only[Aw,Option.some.injEq] at hc;subst hc;exact hK a C act H S (Ext.refl _ _) hn
 | o::l,al,a,C,act,hc,S,hn,H,hK=>by
   simp only[Aw] at hc;split at hc
   ·rename_i ao al' uK oF
    simp only[Option.some.injEq] at hc;subst hc;obtain⟨h1,h2,h3⟩:=J8 uK
    have next:∀a' D act',Iq std P el K al' a' D.h->St D a' act'->Ext n C D->n<=D.h.length->wpList P l0.toArray Q l act' D.w:=λa'' D act' k1 k2 k3 k4 =>
     Sw oF k2 k4 k1 λa3 D3 act3 m1 m2 m3 m4=>hK a3 D3 act3 m1 m2 (k3.trans m3) m4
    unfold wpList;simp only[Iq] at H;rcases h3 with ⟨g1,g2⟩|⟨j,want,t,g1,g2,g3⟩
    ·simp only[g2] at H
     rw[if_pos (by simp[Region.wanted,g1])];refine .inl ?_;split at H
     ·rename_i z m zero ps hop
      split at H
      ·exact IG h1 h2 S hn (Il H λa h hr=>hr) next
      ·split at H
       ·rename_i cs hcs
        exact Sv (by rw[<- hop];exact h1) h2 S hn hcs H next
       ·exact H.elim
     ·exact IG h1 h2 S hn (Il H λa h hr=>hr) next
    ·simp only[g3] at H
   ·cases hc
def Sy(l:List Ad):Bool:=l.any λo=>match o.op with | .bslice _ _ _ _=>true|_=>false
end
def Jh(w:A8)(P:Program)(el:List Nat)(n:Nat):BR->Aq->AA->A7->Prop
 | .seq x y,Q,a,h=>Jh w P el n x (Dw (Jh w P el n y Q) Q) a h
 | .ops l,Q,a,h=>(match Sy l with|true=>Iq w P el (Q .normal) l a h|false=>CK w P el (Q .normal) l a h)
 | c,Q,a,h=>Cs w P el n c Q a h
theorem Cv{P:Program}{el:List Nat}{n:Nat}:∀ {code:Code} {c:BR} {Q Q':Aq} {a:AA} {h:A7},Am P code=some c->CW P code=true->(∀e a h,Q e a h->Q' e a h)->Jh std P el n c Q a h->AWp P n code Q' a h
 | .seq x y,c,Q,Q',a,h,hc,hd,hq,H=>by
   simp only[Am] at hc;split at hc
   ·rename_i p q hp rZ
    simp only[Option.some.injEq] at hc;subst hc;simp only[CW,Bool.and_eq_true] at hd;refine AWp.seq (Cv hp hd.1 (λe a h hr=>?_) H)
    cases e with
    | normal=>exact Cv rZ hd.2 hq hr
    | _=>exact hq _ _ _ hr
   ·cases hc
 | .region id ops false,c,Q,Q',a,h,hc,hd,hq,H=>by
   simp only[Am] at hc
   cases hx:Aw P ops.toList ops.toList with
   | none =>
     simp only[hx,Option.map_none,CP,Option.some.injEq] at hc;subst hc;exact(H:False).elim
   | some al =>
     simp only[hx,Option.map_some,CP,Option.some.injEq] at hc;subst hc;simp only[Jh] at H;split at H
     ·intro C act hC S hn
      refine wp_region_list ?_;have:=Sw (Q:=Dv n C Q') (n:=n) hx S (hC▸hn) (by subst hC;exact H) λa3 D3 act3 m1 m2 m3 m4=>⟨a3,D3,hq _ _ _ m1,rfl,m2,m3,m4⟩;simpa using this
     ·have hH:Cs std P el n (.ops al) Q a h:=H
      exact CQ (by simp only[Am,hx,Option.map_some,CP]) hd (C9 hq hH)
 | .skip,c,Q,Q',a,h,hc,hd,hq,H=>CQ hc hd (C9 hq (by simp only[Am,Option.some.injEq] at hc;subst hc;exact H))
 | .ret,c,Q,Q',a,h,hc,hd,hq,H=>CQ hc hd (C9 hq (by simp only[Am,Option.some.injEq] at hc;subst hc;exact H))
 | .exit id,c,Q,Q',a,h,hc,hd,hq,H=>CQ hc hd (C9 hq (by simp only[Am,Option.some.injEq] at hc;subst hc;exact H))
 | .cond x p q,c,Q,Q',a,h,hc,hd,hq,H=>by
   have lM:=hc;simp only[Am] at hc;split at hc
   ·simp only[Option.some.injEq] at hc
    subst hc;exact CQ lM hd (C9 hq H)
   ·cases hc
 | .block id x,c,Q,Q',a,h,hc,hd,hq,H=>by
   have lM:=hc;simp only[Am] at hc
   cases hx:Am P x with
   | none=>simp[hx] at hc
   | some y =>
     simp only[hx,Option.map_some,Option.some.injEq] at hc;subst hc;exact CQ lM hd (C9 hq H)
 | .loop x,c,Q,Q',a,h,hc,hd,hq,H=>by
   have lM:=hc;simp only[Am] at hc
   cases hx:Am P x with
   | none=>simp[hx] at hc
   | some y =>
     simp only[hx,Option.map_some,Option.some.injEq] at hc;subst hc;exact CQ lM hd (C9 hq H)
 | .region id ops true,c,Q,Q',a,h,hc,hd,hq,H=>by
   have lM:=hc;simp only[Am] at hc;split at hc
   ·cases hx:Aw P ops.toList ops.toList with
    | none =>
      simp only[hx,Option.map_none,CP,Option.some.injEq] at hc;subst hc;exact CQ lM hd (C9 hq H)
    | some al =>
      simp only[hx,Option.map_some,CP,Option.some.injEq] at hc;subst hc;exact CQ lM hd (C9 hq H)
   ·cases hx:Aw P (CO ops.toList) (CO ops.toList) with
    | none =>
      simp only[hx,Option.map_none,CP,Option.some.injEq] at hc;subst hc;exact CQ lM hd (C9 hq H)
    | some al =>
      simp only[hx,Option.map_some,CP,Option.some.injEq] at hc;subst hc;exact CQ lM hd (C9 hq H)
 | .rangeFunc _ _ _ _,c,Q,Q',a,h,hc,hd,hq,H=>by
   simp only[Am,Option.some.injEq] at hc;subst hc;exact(H:False).elim
 | .scope _,c,Q,Q',a,h,hc,hd,hq,H=>by
   simp only[Am,Option.some.injEq] at hc;subst hc;exact(H:False).elim
 | .label _,c,Q,Q',a,h,hc,hd,hq,H=>by
   simp only[Am,Option.some.injEq] at hc;subst hc;exact(H:False).elim
 | .goto _,c,Q,Q',a,h,hc,hd,hq,H=>by
   simp only[Am,Option.some.injEq] at hc;subst hc;exact(H:False).elim
 | .refuse _,c,Q,Q',a,h,hc,hd,hq,H=>by
   simp only[Am,Option.some.injEq] at hc;subst hc;exact(H:False).elim
def Sz(w:A8)(F:Option FB)(P:Program)(args:List AV)(R:AV->Prop):Prop:=
 match F with
 | some F=>Jh w P (DY [] F.code) 0 F.code (JZ F.rets R) (DU args F.n) []
 | none=>False
theorem A9.ofL {P : Program} {g : FuncId} {fn : Func} {args : List AV} {R : AV → Prop} (hf : P.funcs[g]? = some fn) (hname : (fn.name == "runtime.NumGoroutine") = false) (lL : EQ P fn = true) (H : ∀ w, w = std → ∀ R' : AV → Prop, (∀ r, R r → R' r) → Sz w (Dh P fn) P args R') : A9 P g args R := by
 have H:=H std rfl R λ_ h=>h;unfold Sz at H;split at H
 ·rename_i F hc
  unfold Dh at hc;split at hc
  ·rename_i code hb
   split at hc
   ·rename_i c r vZ hr
    simp only[Option.some.injEq] at hc;subst hc;have HA:AWp P 0 code (J9 r R) (DU args fn.ntmps) []:=Cv vZ (by unfold EQ at lL;rw[hb] at lL;exact lL) (λe a h hr=>MC e a h hr) H;refine⟨⟨fn,hf,by simp[hb],hname⟩,λC vs hC RC hv=>?_⟩;refine calls_of_wp hf hb ?_;refine wp_mono (HA C _ hC (JC RC hv fn.ntmps) (Nat.zero_le _)) λe act' w' ⟨a',D,h1,h2,h3,h4,h5⟩=>?_
    have fin:(∃l,Cm a' D.h r=some l/\∃x,Vw D.h (Cb l) x/\R x)->act'.defers=[]/\∃v,(results fn act'.tmps).run P w' = .ok v w' /\
     ∃v' r D,Ending.returned v = .returned v'/\R r/\D.h=[]/\D.w=w'/\Rel D/\VR D r v'/\Ext 0 C D:=by
     rintro⟨l,hl,x,hx,hRx⟩
     obtain⟨u,k1,k2⟩:=JB hr h3 hl;subst h2;refine⟨h3.nodef,u,k1,u,x,{ D with h:=[] },rfl,hRx,rfl,rfl,?_,hx D rfl h3.rel u k2,?_⟩
     ·exact⟨λs z es h=>by simp at h,λs t ⟨z,es,h⟩=>by simp at h,h3.rel.olt,λp hp=>(h3.rel.glo p hp).recfg (C:=D) (D:={ D with h:=[] }) rfl (λb hb=>hb.elim .inl λ⟨s,⟨z,es,h⟩,_⟩=>by simp at h) (FC hp 0),h3.rel.gsz⟩
     ·exact⟨h4.O,h4.os,h4.tape,h4.output,h4.size,λs hs=>absurd hs (Nat.not_lt_zero _),λb hb ku=>⟨(h4.keep b hb ku).1,λ⟨s,⟨z,es,h⟩,_⟩=>by simp at h⟩,h4.shape⟩
    cases e with
    | normal=>exact fin h1
    | ret=>exact fin h1
    | exit id=>exact h1.elim
    | goto l=>exact h1.elim
    | panic c=>exact h1.elim
    | outgrown=>exact h1.elim
   ·cases hc
  ·cases hc
 ·exact H.elim
end Go.Eng
