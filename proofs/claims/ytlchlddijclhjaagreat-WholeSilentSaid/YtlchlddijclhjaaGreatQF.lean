/- Parts of the proofs. -/
import Derived.Test.YtlchlddijclhjaaGreatQ5
import Derived.SizedLaws
import Derived.ProofKit
import Derived.ChangeArms
import Derived.Lib.SmallJoins
set_option linter.unusedVariables false
set_option linter.unusedSimpArgs false
set_option maxHeartbeats 4000000
namespace Go.Eng
open Go Go.RowKit Go.WideShapes
def cfg0(w:World):Cfg:={ O:=λ_=>False,r:=λ_=>0,h:=[],w:=w }
def Glo(w:World):Prop:=∀p,p∈gs->VR (cfg0 w) (.cref p.2) (.pointer (some ⟨p.1,0,none⟩))/\∃ty,w.shape? p.1=some (ty,p.2.length)
theorem glo_nil(h:gs=[])(w:World):Glo w:=λp hp=>by rw[h] at hp;cases hp
theorem rel0{w:World}(hg:Glo w):Rel (cfg0 w):=⟨λs z es h=>by simp[cfg0] at h,λs t ⟨z,es,h⟩=>by simp[cfg0] at h,λb h=>h.elim,λp hp=>(hg p hp).1,λp hp=>(hg p hp).2⟩
theorem own0(w:World)(b:Nat):¬(cfg0 w).own b:=by
 rintro(h|⟨s,⟨z,es,h⟩,_⟩)
 ·exact h
 ·simp[cfg0] at h
theorem A9.law{P:Program}{g:FuncId}{args:List AV}(H:A9 P g args (λr=>r = .bool true)){w:World}(hg:Glo w){vs:Array Value}(hv:VRs (cfg0 w) args vs) :
 Calls P g vs w λe w'=>e = .returned (.bool true)/\Below w.heap.size w w':=by
 refine(H.2 (cfg0 w) vs rfl (rel0 hg) hv).mono λe w' ⟨v,r,D,h1,h2,h3,h4,h5,h6,h7⟩=>?_;subst h2;have:=h6.bool';subst this;subst h4;refine⟨h1,⟨h7.os,h7.tape,h7.output,h7.size,λk hk=>(h7.keep k hk ?_).1⟩⟩
 rintro⟨s,⟨z,es,h⟩,_⟩
 simp[cfg0] at h
theorem weightsAll_mem{H:Type}{P:Program}{e:TypeId}{d:DataW H}:∀ {ds:List (DataW H)},d∈ds->∀ {q:Nat},q∈d.weights P e->q∈DataW.weightsAll P e ds
 | [],h,_,_=>by cases h
 | x::ds,h,q,hq=>by
   simp only[DataW.weightsAll,List.mem_append];rcases List.mem_cons.1 h with rfl|h
   ·exact .inl hq
   ·exact .inr (weightsAll_mem h hq)
def tyB(P:Program):Nat->TypeId->Bool
 | 0,_=>false
 | m+1,t =>
   match P.underlying t with
   | some .bool=>true
   | some (.int _)=>true
   | some .string=>true
   | some (.struct fs)=>fs.toList.all (λf=>tyB P m f.type) && decide (KP P 0 fs.toList=some (P.cellsOf t))
   | some (.array n e)=>tyB P m e && decide (P.cellsOf t=n*P.cellsOf e)
   | some (.slice e)=>tyB P m e && decide (0<P.cellsOf e/\0<P.bytesOf e)
   | _=>false
def VRL(c:Cfg)(xs:List AV)(cs:List Value):Prop:=cs.length=xs.length/\∀(i:Nat) (x:AV),xs[i]?=some x->VR c x (cs.getD i undef)
theorem VRL.app{c:Cfg}{xs ys:List AV}{cs ds:List Value}(h:VRL c xs cs)(k:VRL c ys ds):VRL c (xs++ys) (cs++ds):=by
 refine⟨by simp[h.1,k.1],λi x hx=>?_⟩;by_cases hi:i<xs.length
 ·rw[List.getElem?_append_left hi] at hx
  have:=h.2 i x hx;rw[List.getD_eq_getElem?_getD] at this ⊢
  rwa [List.getElem?_append_left (by rw[h.1];exact hi)]
 ·rw[List.getElem?_append_right (by omega)] at hx
  have:=k.2 _ x hx;rw[List.getD_eq_getElem?_getD] at this ⊢
  rwa [List.getElem?_append_right (by rw[h.1];omega),h.1]
theorem VRL.one{c:Cfg}{x:AV}{v:Value}(h:VR c x v):VRL c [x] [v]:=⟨rfl,λi y hy=>by
 cases i with
 | zero=>simp at hy;subst hy;simpa using h
 | succ i=>simp at hy⟩
section
variable {H:Type} {enc:TypeId×Value->H} {P:Program} {w:World} {spare:Nat->Bool} {held:Bool}
def Opens(P:Program)(w:World)(m:Nat)(t:TypeId)(cs:List Value):Prop:=∃xs,VRL (cfg0 w) xs cs/\TyL P m t xs
theorem glue{m:Nat}{cs:List Value}:∀ {fs:List Field} {o k:Nat},KP P o fs=some k->k=cs.length->o<=k->(∀f,f∈fs->Opens P w m f.type ((cs.drop f.offset).take (P.cellsOf f.type))/\f.offset+P.cellsOf f.type<=cs.length) ->
 ∃xs,VRL (cfg0 w) xs (cs.drop o)/\∀f,f∈fs->o<=f.offset/\TyL P m f.type ((xs.drop (f.offset-o)).take (P.cellsOf f.type))
 | [],o,k,ht,hk,ho,_=>by
   simp only[KP,Option.some.injEq] at ht;subst ht;exact⟨[],⟨by simp[hk],λi x hx=>by simp at hx⟩,λf hf=>by cases hf⟩
 | f::fs,o,k,ht,hk,ho,hall=>by
   simp only[KP] at ht;split at ht
   ·rename_i hfo
    subst hfo;obtain⟨⟨xf,h1,h2⟩,hb⟩:=hall f (by simp);have hok:f.offset+P.cellsOf f.type<=k:=(by omega);obtain⟨xs,h3,h4⟩:=glue ht hk hok (λg hg=>hall g (by simp[hg]))
    have zH:xf.length=P.cellsOf f.type:=by
     have:=h1.1;simp at this;omega
    have hcut:cs.drop f.offset=(cs.drop f.offset).take (P.cellsOf f.type)++cs.drop (f.offset+P.cellsOf f.type):=by
     rw[<- List.drop_drop,List.take_append_drop]
    refine⟨xf++xs,by rw[hcut];exact h1.app h3,λg hg=>?_⟩;rcases List.mem_cons.1 hg with rfl|hg
    ·refine⟨Nat.le_refl _,?_⟩
     rw[Nat.sub_self,List.drop_zero,<- zH,List.take_left];exact h2
    ·obtain⟨k1,k2⟩:=h4 g hg
     refine⟨by omega,?_⟩;have:g.offset-f.offset=xf.length+(g.offset-(f.offset+P.cellsOf f.type)):=(by omega);rw[this,List.drop_append,List.drop_eq_nil_of_le (by omega),List.nil_append,show xf.length+(g.offset-(f.offset+P.cellsOf f.type))-xf.length=g.offset-(f.offset+P.cellsOf f.type) by omega];exact k2
   ·cases ht
theorem tiles_le:∀ {fs:List Field} {o k:Nat},KP P o fs=some k->o<=k/\∀f,f∈fs->f.offset+P.cellsOf f.type<=k
 | [],o,k,h=>by simp only[KP,Option.some.injEq] at h;exact⟨by omega,λf hf=>by cases hf⟩
 | f::fs,o,k,h=>by
   simp only[KP] at h;split at h
   ·rename_i hfo
    obtain⟨h1,h2⟩:=tiles_le h;refine⟨by omega,λg hg=>?_⟩;rcases List.mem_cons.1 hg with rfl|hg
    ·omega
    ·exact h2 g hg
   ·cases h
theorem glueN{m z:Nat}{e:TypeId}{cs:List Value}(hz:P.cellsOf e=z):∀ {n o:Nat},cs.length=(o+n)*z->(∀i,i<n->Opens P w m e ((cs.drop ((o+i)*z)).take z)) ->
 ∃xs,VRL (cfg0 w) xs (cs.drop (o*z))/\∀i,i<n->TyL P m e ((xs.drop (i*z)).take z)
 | 0,o,hl,_=>⟨[],⟨by simp[hl],λi x hx=>by simp at hx⟩,λi hi=>by omega⟩
 | n+1,o,hl,hall=>by
   obtain⟨xf,h1,h2⟩:=hall 0 (by omega);simp only[Nat.add_zero] at h1;obtain⟨xs,h3,h4⟩:=glueN (n:=n) (o:=o+1) hz (by rw[hl];congr 1;omega) (λi hi=>by have:=hall (i+1) (by omega);rwa [show o+(i+1)=o+1+i by omega] at this)
   have hzl:o*z+z<=cs.length:=by
    rw[hl];have:(o+1)*z<=(o+(n+1))*z:=Nat.mul_le_mul_right z (show o+1<=o+(n+1) by omega);rw[Nat.succ_mul] at this;exact this
   have zH:xf.length=z:=by
    have:=h1.1;simp at this;omega
   have hcut:cs.drop (o*z)=(cs.drop (o*z)).take z++cs.drop ((o+1)*z):=by
    rw[Nat.succ_mul,<- List.drop_drop,List.take_append_drop]
   refine⟨xf++xs,by rw[hcut];exact h1.app h3,λi hi=>?_⟩
   cases i with
   | zero=>rw[Nat.zero_mul,List.drop_zero,<- zH,List.take_left];exact h2
   | succ i =>
     have:=h4 i (by omega);rw[Nat.succ_mul,show i*z+z=xf.length+i*z by omega,List.drop_append,List.drop_eq_nil_of_le (by omega),List.nil_append,show xf.length+i*z-xf.length=i*z by omega];exact this
theorem open_trod:∀(m:Nat) (t:TypeId),tyB P m t=true->∀(fuel:Nat) (cs:List Value) (y:DataW H×List MemPlace),DataW.trod enc P w 0 spare held fuel t cs=some y->(∀n,n∈y.1.weights P t->n<=reachBytes)->Opens P w m t cs
 | 0,t,hb=>by simp[tyB] at hb
 | m+1,t,hb=>by
   intro fuel cs y h hwt;unfold tyB at hb;split at hb
   ·rename_i hu
    obtain⟨b,rfl,_⟩:=DataW.trod_bool hu h;exact⟨[.bool b],VRL.one (.bool b),by unfold TyL;rw[hu];exact⟨b,rfl⟩⟩
   ·rename_i k hu
    obtain⟨n,rfl,_,hw⟩:=DataW.trod_int hu h;exact⟨[.int k n],VRL.one (.int k n),by unfold TyL;rw[hu];exact⟨n,rfl,hw⟩⟩
   ·rename_i hu
    obtain⟨s,rfl,hy,hw⟩:=DataW.trod_string hu h
    have hs:s.size<=GN:=by
     have h1:=hwt s.data.toList.length (by rw[hy];simp[DataW.weights]);have h2:s.data.toList.length=s.size:=(by rw[Array.length_toList];rfl);have h3:=reachBytes_lt;unfold GN;omega
    exact⟨[.str s],VRL.one (.str s),by unfold TyL;rw[hu];exact⟨s,rfl,hs⟩⟩
   ·rename_i fs hu
    simp only[Bool.and_eq_true,decide_eq_true_eq] at hb;obtain⟨hb1,hb2⟩:=hb;obtain⟨xs,n,_,hy,hl,hxl,hf⟩:=DataW.trod_struct hu h;obtain⟨_,hle⟩:=tiles_le hb2
    obtain⟨zs,h1,h2⟩:=glue (m:=m) (w:=w) (cs:=cs) hb2 hl.symm (Nat.zero_le _) (λf hf'=>by
     obtain⟨i,hi⟩:=List.mem_iff_getElem?.1 hf';have hfi:=hf i f (by simpa using hi);have hbf:=List.all_eq_true.1 hb1 f hf'
     have hlt:i<xs.length:=by
      have:=(List.getElem?_eq_some_iff.1 hi).1;simp at this;omega
     rw[List.getElem?_eq_getElem hlt] at hfi;refine⟨open_trod m f.type hbf n _ _ hfi λq hq=>hwt q ?_,by have:=hle f hf';omega⟩;rw[hy];simp only[DataW.weights,hu];exact DataW.weights_mem_each (j:=i) (by rw[List.getElem?_map,hi];rfl) (by rw[List.getElem?_map,List.getElem?_eq_getElem hlt];rfl) q hq)
    rw[List.drop_zero] at h1;refine⟨zs,h1,?_⟩;unfold TyL;rw[hu];exact⟨by rw[<- h1.1];exact hl,λf hf'=>by simpa using (h2 f hf').2⟩
   ·rename_i n e hu
    simp only[Bool.and_eq_true,decide_eq_true_eq] at hb;obtain⟨hb1,hb2⟩:=hb
    have harr:cs.length=P.cellsOf t/\∃fuel',∀i,i<n->∃z,DataW.trod enc P w 0 spare held fuel' e ((cs.drop (i*P.cellsOf e)).take (P.cellsOf e))=some z/\∀q,q∈z.1.weights P e->q∈y.1.weights P t:=by
     cases fuel with
     | zero=>simp[DataW.trod] at h
     | succ fuel =>
       unfold DataW.trod at h;simp only[hu] at h;split at h
       ·rename_i hcl
        refine⟨hcl,fuel,λi hi=>?_⟩
        cases yS:(List.range n).mapM (λi=>DataW.trod enc P w 0 spare held fuel e ((cs.drop (i*P.cellsOf e)).take (P.cellsOf e))) with
        | none=>rw[yS] at h;simp at h
        | some l =>
          have h1:=mapM_some_get yS i i (by simp[hi]);have h2:=mapM_some_length yS;have h3:i<l.length:=(by rw[h2];simpa using hi);refine⟨l[i],by rw[h1,List.getElem?_eq_getElem h3],λq hq=>?_⟩
          have hy:y.1 = .agg (l.map (·.1)):=by
           rw[yS] at h;simp at h;rw[<- h]
          rw[hy];simp only[DataW.weights,hu];exact weightsAll_mem (List.mem_map_of_mem (List.getElem_mem h3)) hq
       ·cases h
    obtain⟨hcl,fuel',hel⟩:=harr
    obtain⟨zs,h1,h2⟩:=glueN (m:=m) (w:=w) (cs:=cs) (e:=e) (n:=n) (o:=0) rfl (by rw[hcl,hb2,Nat.zero_add]) (λi hi=>by
     obtain⟨z,hy,hq⟩:=hel i hi;rw[Nat.zero_add];exact open_trod m e hb1 fuel' _ z hy λn hn=>hwt n (hq n hn))
    rw[Nat.zero_mul,List.drop_zero] at h1;refine⟨zs,h1,?_⟩;unfold TyL;rw[hu];exact⟨by rw[<- h1.1];exact hcl,h2⟩
   ·rename_i e hu
    simp only[Bool.and_eq_true,decide_eq_true_eq] at hb;obtain⟨hb1,hz,hby⟩:=hb;rcases DataW.trod_slice hu h with ⟨rfl,_⟩|⟨a,len,cap,DY,rest,n,_,rfl,hy,_,hl,hm,hel,hi,_⟩
    ·refine⟨[.list (P.cellsOf e) []],VRL.one (.listNil _ _ _),?_⟩
     unfold TyL;rw[hu];exact⟨[],rfl,Nat.zero_le _,λr hr=>by cases hr⟩
    ·have hex:∀i,∃(xs:List AV) (cs:List Value),i<len->w.cells? 0 (a.add (i*P.cellsOf e)) (P.cellsOf e)=some cs/\VRL (cfg0 w) xs cs/\TyL P m e xs:=by
      intro i;by_cases h:i<len
      ·have h1:=hi i h
       rw[List.getElem?_eq_getElem (by omega)] at h1;obtain⟨cs,h2,h3⟩:=Option.bind_eq_some_iff.1 h1
       obtain⟨xs,h4,h5⟩:=open_trod m e hb1 n _ _ h3 λq hq=>hwt q (by
        rw[hy];simp only[DataW.weights,hu];exact List.mem_cons_of_mem _ (List.mem_append_left _ (weightsAll_mem (List.mem_map_of_mem (List.getElem_mem _)) hq)))
       exact⟨xs,cs,λ_=>⟨h2,h4,h5⟩⟩
      ·exact⟨[],[],λh'=>absurd h' h⟩
     obtain⟨f,hf⟩:=Classical.axiomOfChoice hex;obtain⟨g,hg⟩:=Classical.axiomOfChoice hf
     have cell:∀i,i<len->∀j,j<P.cellsOf e->w.cell? ((a.add (i*P.cellsOf e)).add j)=some ((g i).getD j undef):=by
      intro i hi j hj;obtain⟨h1,_⟩:=hg i hi;obtain⟨_,h2,h3⟩:=World.cells?_some h1;rw[h3 j hj,List.getD_eq_getElem?_getD,List.getElem?_eq_getElem (by omega)];rfl
     have lens:∀i,i<len->(f i).length=P.cellsOf e:=by
      intro i hi;obtain⟨h1,h2,_⟩:=hg i hi;obtain⟨_,h3,_⟩:=World.cells?_some h1;rw[<- h2.1];exact h3
     refine⟨[.list (P.cellsOf e) ((List.range len).map f)],VRL.one ?_,?_⟩
     ·rcases Nat.eq_zero_or_pos len with h0|h0
      ·subst h0
       exact .listNil _ _ _
      ·have hsp:a.spot=none:=by
        have h:=cell 0 h0 0 hz;have:=World.cell?_spot h;simpa[Addr.add] using this
       refine .list _ _ a len cap (λi j=>(g i).getD j undef) (by simp) hl hsp (λr hr=>?_) (λi j hi hj=>?_) (λ_ _=>own0 w _) (λi r hr j x hx=>?_)
       ·obtain⟨i,hi,rfl⟩:=List.mem_map.1 hr
        exact lens i (List.mem_range.1 hi)
       ·have h:=cell i hi j hj
        rw[Li a _ hsp,JS,Nat.add_assoc] at h;exact h
       ·have hil:i<len:=by
         have:=(List.getElem?_eq_some_iff.1 hr).1;simpa using this
        rw[List.getElem?_map,List.getElem?_range hil] at hr;simp only[Option.map_some,Option.some.injEq] at hr;subst hr;exact(hg i hil).2.1.2 j x hx
     ·unfold TyL
      rw[hu]
      have zH:len<=GN:=by
       have h1:=hwt ((DY.length+rest.length)*P.bytesOf e) (by rw[hy];simp[DataW.weights,hu]);have h2:DY.length+rest.length<=(DY.length+rest.length)*P.bytesOf e:=Nat.le_mul_of_pos_right _ hby;have h3:=reachBytes_lt;unfold GN;omega
      refine⟨_,rfl,by simpa using zH,λr hr=>?_⟩;obtain⟨i,hi,rfl⟩:=List.mem_map.1 hr;exact(hg i (List.mem_range.1 hi)).2.2
   ·cases hb
end
theorem open_av{H:Type}{enc:TypeId×Value->H}{P:Program}{w:World}{b0:Nat}{spare:Nat->Bool}{held:Bool}{r:Reach}{t:TypeId}{v:Value}{d:DataW H}{p:List MemPlace}(m:Nat)(hb:tyB P m t=true)
 (hv:Value.okWide P w r b0 t v) (h:DataW.Trod enc P w 0 spare held t v d p) (hwt:∀n,n∈d.weights P t->n<=reachBytes):∃x,VR (cfg0 w) x v/\TyV P m t x:=by
 obtain⟨fuel,hf⟩:=h;obtain⟨xs,h1,h2⟩:=open_trod m t hb fuel _ _ hf hwt
 have agg:Az P t=some true->∃x,VR (cfg0 w) x v/\TyV P m t x:=by
  intro hag
  have:∃cs,v = .agg cs:=by
   unfold Az at hag;unfold Value.okWide at hv;split at hag
   ·rename_i hu;rw[hu] at hv;obtain⟨cs,rfl,_⟩:=hv;exact⟨cs,rfl⟩
   ·rename_i hu;rw[hu] at hv;obtain⟨cs,rfl,_⟩:=hv;exact⟨cs,rfl⟩
   ·cases hag
   ·cases hag
  obtain⟨cs,rfl⟩:=this;refine⟨.agg xs,.agg _ _ (by simpa[Value.cells] using h1.1) λi x hx=>?_,by unfold TyV;rw[hag];exact⟨xs,rfl,h2⟩⟩;have:=h1.2 i x hx;simpa[Value.cells,List.getD_eq_getElem?_getD,Array.getD_eq_getD_getElem?] using this
 have one:Az P t≠some true->(∃x,xs=[x])->v.cells = #[v]->∃x,VR (cfg0 w) x v/\TyV P m t x:=by
  intro hag ⟨x,hx⟩ hc;subst hx;refine⟨x,?_,?_⟩
  ·have:=h1.2 0 x rfl
   simpa[hc] using this
  ·unfold TyV
   split
   ·rename_i h;exact absurd h hag
   ·exact h2
 cases m with
 | zero=>simp[tyB] at hb
 | succ m =>
   have h2':=h2;unfold TyL at h2'
   cases hu:P.underlying t with
   | none=>rw[hu] at h2';exact h2'.elim
   | some k =>
     have hcell:∀c,v.cells.toList=[c]->Az P t≠some true->v.cells = #[v]:=by
      intro c hc hag
      cases v<;>first
       | rfl
       | (rename_i cs
          exfalso;unfold Value.okWide at hv;rw[hu] at hv;unfold Az at hag;rw[hu] at hag
          cases k<;>simp at hag<;>simp[Cell.okWide,Cell.ok] at hv)
     cases k
     case struct fs=>exact agg (by unfold Az;rw[hu])
     case array n e=>exact agg (by unfold Az;rw[hu])
     case bool =>
      rw[hu] at h2';obtain⟨b,rfl⟩:=h2';have hl:∃c,v.cells.toList=[c]:=List.length_eq_one_iff.1 (by simpa using h1.1);obtain⟨c,hc⟩:=hl;exact one (by unfold Az;rw[hu];simp) ⟨_,rfl⟩ (hcell c hc (by unfold Az;rw[hu];simp))
     case int kk =>
      rw[hu] at h2';obtain⟨n,rfl,_⟩:=h2';have hl:∃c,v.cells.toList=[c]:=List.length_eq_one_iff.1 (by simpa using h1.1);obtain⟨c,hc⟩:=hl;exact one (by unfold Az;rw[hu];simp) ⟨_,rfl⟩ (hcell c hc (by unfold Az;rw[hu];simp))
     case string =>
      rw[hu] at h2';obtain⟨n,rfl,_⟩:=h2';have hl:∃c,v.cells.toList=[c]:=List.length_eq_one_iff.1 (by simpa using h1.1);obtain⟨c,hc⟩:=hl;exact one (by unfold Az;rw[hu];simp) ⟨_,rfl⟩ (hcell c hc (by unfold Az;rw[hu];simp))
     case slice e =>
      rw[hu] at h2';obtain⟨n,rfl,_⟩:=h2';have hl:∃c,v.cells.toList=[c]:=List.length_eq_one_iff.1 (by simpa using h1.1);obtain⟨c,hc⟩:=hl;exact one (by unfold Az;rw[hu];simp) ⟨_,rfl⟩ (hcell c hc (by unfold Az;rw[hu];simp))
     all_goals (rw[hu] at h2';exact h2'.elim)
theorem vrs_nil(c:Cfg):VRs c [] #[]:=⟨rfl,λi x hx=>by simp at hx⟩
theorem vrs_cons{c:Cfg}{x:AV}{v:Value}{xs:List AV}{vs:List Value}(h:VR c x v)(hs:VRs c xs vs.toArray):VRs c (x::xs) (v::vs).toArray:=by
 refine⟨by have:=hs.1;simp at this;simp[this],λi y hy=>?_⟩
 cases i with
 | zero=>simp at hy;subst hy;simpa using h
 | succ i =>
   have:=hs.2 i y (by simpa using hy);simpa[Array.getD_eq_getD_getElem?] using this
end Go.Eng
