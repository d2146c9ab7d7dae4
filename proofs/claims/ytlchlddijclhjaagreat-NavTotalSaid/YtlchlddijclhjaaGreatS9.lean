/- Parts of the proofs. -/
import Derived.Maps.RangeRun
import Derived.Test.YtlchlddijclhjaaGreatS8
import Derived.StillTail
import Derived.Below
import Derived.Sort.Grow
import Derived.Test.YtlchlddijclhjaaGreatS0
import Derived.KernelRfl
import Derived.Test.YtlchlddijclhjaaGreatS6
import Derived.Test.YtlchlddijclhjaaGreatS5
import Derived.Test.YtlchlddijclhjaaGreatS7
set_option linter.unusedVariables false
set_option linter.unusedSimpArgs false
set_option maxHeartbeats 4000000
namespace Go.Eng
open Go Go.RowKit
open Go.ChangeMaps (setBlock)
variable {P:Program}
theorem VRs.one'{C:Cfg}{x:AV}{v:Value}(h:VRs C [x] #[v]):VR C x v:=by
 have:=h.2 0 x rfl;simpa using this
theorem Xo.lenm{c:Go.Call}{ty t kt et:TypeId}{x:Operand}{s:Nat}{es:List (List AV)}{h:k00}{K:AV->k00->Prop}(hb:c.callee = .builtin .len)(ha:c.args = #[x])(ht:c.argTypes = #[t])(hu:P.underlying t=some (.map kt et))(hs:h[s]?=some (.live 0 es))(h2:∀e,e∈es->e.length=2)
 (n:Int) (hn:n=es.length) (hk:K (.int .i64 n) h):Xo P (.call c) ty [.mapr s] h K:=by
 refine⟨λC e o ho hty hC RC hv=>?_⟩;subst hC;have hop:(Op.call c).operands.map e = #[e x]:=by simp[Op.operands,Call.operands,hb,ha]
 rw[hop] at hv;have hx:=hv.one'.mapr';obtain⟨hO,ents,hheap,hl,hbn,zL⟩:=RC.map hs h2;have hg:(getObj (C.r s)).run P C.w = .ok (.map ents ents.size) C.w:=MapKept.run_getObj_map hheap
 have hrun:(execOp e o).run P C.w = .ok (.value (.int .i64 (ents.size:Nat))) C.w:=by
  simp[execOp,ho,resolve,hb,ha,ht,invoke,builtin,Builtin.len_,k0L C.w hu,goInt,hx.2,hg]
 exact⟨_,_,_,C,hrun,rfl,hk,RC,by rw[hn,<- hl];exact .int _ _,Ext.refl _ _,Nat.le_refl _⟩
theorem kN3{c:Cfg}{s N:Nat}{n:Int}(hn:n=N)(hu:c.used s)(L:List Nat) :
 Holds 0 (.mapIter (some (c.r s)) N L.toArray N) ([.mapr s,.int .i64 n,.int .i64 n]::L.map λk:Nat=>[AV.int .i64 (k:Int)]) (λi j=>(([Value.map (some (c.r s)),.int .i64 N,.int .i64 N]::L.map λk:Nat=>[Value.int .i64 (k:Int)]).getD i []).getD j undef) /\
 ∀(i:Nat) (e:List AV),([AV.mapr s,.int .i64 n,.int .i64 n]::L.map λk:Nat=>[AV.int .i64 (k:Int)])[i]?=some e->∀(j:Nat) (x:AV),e[j]?=some x->VR c x ((([Value.map (some (c.r s)),.int .i64 N,.int .i64 N]::L.map λk:Nat=>[Value.int .i64 (k:Int)]).getD i []).getD j undef):=by
 subst hn;refine⟨.inr ⟨rfl,_,rfl,by simp,λi e he=>?_,rfl⟩,λi e he j x hx=>?_⟩
 ·match i,he with
  | 0,he=>simp at he;subst he;rfl
  | i+1,he =>
    simp only[List.getElem?_cons_succ,List.getElem?_map] at he
    cases hl:L[i]? with
    | none=>rw[hl] at he;cases he
    | some k =>
      rw[hl] at he;simp only[Option.map_some,Option.some.injEq] at he;subst he;simp[List.getD_eq_getElem?_getD,hl]
 ·match i,he with
  | 0,he =>
    simp at he;subst he
    match j,hx with
    | 0,hx=>simp at hx;subst hx;exact .mapr s hu
    | 1,hx=>simp at hx;subst hx;exact .int _ _
    | 2,hx=>simp at hx;subst hx;exact .int _ _
    | j+3,hx=>simp at hx
  | i+1,he =>
    simp only[List.getElem?_cons_succ,List.getElem?_map] at he
    cases hl:L[i]? with
    | none=>rw[hl] at he;cases he
    | some k =>
      rw[hl] at he;simp only[Option.map_some,Option.some.injEq] at he;subst he
      match j,hx with
      | 0,hx=>simp at hx;subst hx;simp[List.getD_eq_getElem?_getD,hl];exact .int _ _
      | j+1,hx=>simp at hx
theorem Xo.range{ty t kt et:TypeId}{x:Operand}{s:Nat}{es:List (List AV)}{h:k00}{K:AV->k00->Prop}(hu:P.underlying t=some (.map kt et))(hs:h[s]?=some (.live 0 es))(h2:∀e,e∈es->e.length=2)
 (n:Int) (hn:n=es.length) (hk:K (.ref h.length 0 0 0) (h++[.live 0 [[.mapr s,.int .i64 n,.int .i64 n]]])):Xo P (.range t x) ty [.mapr s] h K:=by
 refine⟨λC e o ho hty hC RC hv=>?_⟩;subst hC;have hop:(Op.range t x).operands.map e = #[e x]:=by simp[Op.operands]
 rw[hop] at hv;have hx:=hv.one'.mapr';obtain⟨hO,ents,hheap,hl,hbn,zL⟩:=RC.map hs h2;have hg:(getObj (C.r s)).run P C.w = .ok (.map ents ents.size) C.w:=MapKept.run_getObj_map hheap;have hlt:s<C.h.length:=(List.getElem?_eq_some_iff.1 hs).1
 have hrun:(execOp e o).run P C.w = .ok (.value (.pointer (some ⟨C.w.heap.size,0,none⟩))) (C.w.alloc (.mapIter (some (C.r s)) ents.size #[] ents.size)):=by
  simp[execOp,ho,Instr.range,k0L C.w hu,hx.2,hg,newObj];rfl
 have zI:¬C.used C.h.length:=λhu=>absurd (Cfg.used_lt hu) (Nat.lt_irrefl _);obtain⟨H1,H2⟩:=kN3 (c:=C) (N:=ents.size) (n:=n) (by omega) hx.1 []
 obtain⟨R1,E1⟩:=Rel.freshX RC C.h.length (C.h++[.live 0 [[.mapr s,.int .i64 n,.int .i64 n]]]) 0 _ _ _ C.h.length zI (by simp) (λq y hq hy=>by
  by_cases hql:q<C.h.length
  ·rw[List.getElem?_append_left hql]
  ·rw[List.getElem?_eq_none (by simp;omega),List.getElem?_eq_none (by omega)]) H1 H2
 refine⟨_,_,_,_,hrun,rfl,hk,R1,?_,E1,by simp⟩;have:=VR.ref (c:={ C with r:=λs=>if s=C.h.length then C.w.heap.size else C.r s,h:=C.h++[.live 0 [[.mapr s,.int .i64 n,.int .i64 n]]],w:=C.w.alloc (.mapIter (some (C.r s)) ents.size #[] ents.size) }) C.h.length 0 0 0 ⟨_,by simp;rfl,by simp⟩;simpa using this
theorem Rel.iter{c:Cfg}(R:Rel c){it s:Nat}{n:Int}{sr:List (List AV)}(hs:c.h[it]?=some (.live 0 ([.mapr s,.int .i64 n,.int .i64 n]::sr))){sn:List Nat}(hsr:sr=sn.map λk:Nat=>[AV.int .i64 (k:Int)]) :
 ∃N:Nat,n=N/\c.w.heap[c.r it]?=some (.mapIter (some (c.r s)) N sn.toArray N):=by
 obtain⟨h1,o,g,h3,h4,h5⟩:=R.livx it 0 _ hs;rcases h4 with ⟨k0,_⟩|⟨_,vss,k1,k2,k3,rfl⟩
 ·omega
 cases o<;>try (simp[k2X] at k1;done)
 ·rename_i ents clock
  obtain⟨rfl,hb,rfl⟩:=k7K k1;have:=k3 0 _ rfl;exfalso
  cases hl:ents.toList with
  | nil=>rw[hl] at this;simp at this
  | cons a l=>rw[hl] at this;simp at this
 ·rename_i m since seen last
  cases m with
  | none=>simp[k2X] at k1
  | some b =>
    simp only[k2X,Option.some.injEq] at k1;subst k1;have a0:=(h5 0 _ rfl 0 _ rfl).mapr';have a1:=(h5 0 _ rfl 1 _ rfl).int';have a2:=(h5 0 _ rfl 2 _ rfl).int';simp at a0 a1 a2;refine⟨since,a1.symm,?_⟩
    have hseen:seen=sn.toArray:=by
     subst hsr;simp at k2;apply Array.ext';apply List.ext_getElem?;intro i;by_cases hi:i<sn.length
     ·have a3:=(h5 (i+1) [AV.int .i64 (sn[i]:Int)] (by simp[hi]) 0 _ rfl).int'
      have hi2:i<seen.size:=(by omega);simp[List.getD_eq_getElem?_getD,hi2] at a3;simp[hi,hi2];omega
     ·rw[List.getElem?_eq_none (by simp;omega),List.getElem?_eq_none (by simp;omega)]
    rw[h3,hseen];have e1:last=since:=(by omega);rw[e1,a0.2]
theorem Xo.next{ty:TypeId}{x:Operand}{it s:Nat}{n:Int}{es sr:List (List AV)}{sn:List Nat}{h:k00}{K:AV->k00->Prop}(hit:h[it]?=some (.live 0 ([.mapr s,.int .i64 n,.int .i64 n]::sr)))(hs:h[s]?=some (.live 0 es))(h2:∀e,e∈es->e.length=2)(hn:n=es.length)
 (hsr:sr=sn.map λk:Nat=>[AV.int .i64 (k:Int)]) (hK0:(∀i,i<es.length->i∈sn)->K (.tuple [.bool false]) h)
 (hK1:∀(i:Nat) (k v:AV),i ∉ sn->es[i]?=some [k,v]->K (.tuple [.bool true,k,v]) (h.set it (.live 0 ([.mapr s,.int .i64 n,.int .i64 n]::(sr++[[.int .i64 (i:Int)]]))))):Xo P (.next x false) ty [.ref it 0 0 0] h K:=by
 refine⟨λC e o ho hty hC RC hv=>?_⟩;subst hC;have hop:(Op.next x false).operands.map e = #[e x]:=by simp[Op.operands]
 rw[hop] at hv;have hx:=hv.one'.ref';obtain⟨hO,ents,hheap,hl,hbn,zL⟩:=RC.map hs h2;obtain⟨N,hN,hiter⟩:=RC.iter hit hsr;have hNe:N=ents.size:=by omega
 subst hNe;have hlt:it<C.h.length:=(List.getElem?_eq_some_iff.1 hit).1
 have hex:∀(w:World) (nx:Value) (w':World),(Instr.next (.pointer (some ⟨C.r it,0,none⟩)) false o.type).run P w = .ok nx w'->(execOp e o).run P w = .ok (.value nx) w':=by
  intro w nx w' h;simp[execOp,ho,hx.2,h]
 have hbl:∀m,m∈ents.toList->m.born<ents.size:=λm hm=>by
  obtain⟨i,hi⟩:=List.mem_iff_getElem?.1 hm;have hi':ents[i]?=some m:=(by simpa using hi);rw[hbn i m hi'];exact(Array.getElem?_eq_some_iff.1 hi').1
 rcases run_next_at (P:=P) C.w o.type (C.r it) (C.r s) ents.size ents.size sn.toArray ents ents.size hiter hheap hbl (Nat.le_refl _) with ⟨h0,hr⟩|⟨m,hm,w1,hw1,hr⟩
 ·refine⟨_,_,_,C,hex _ _ _ hr,rfl,hK0 λi hi=>?_,RC,?_,Ext.refl _ _,Nat.le_refl _⟩
  ·rw[<- hl] at hi
   by_cases yH:i∈sn
   ·exact yH
   ·exfalso
    have hmem:ents[i]∈leftOf ents sn.toArray:=by
     unfold leftOf;rw[Array.mem_filter];refine⟨by simp,?_⟩;rw[hbn i _ (Array.getElem?_eq_getElem hi)];simpa using yH
    rw[Array.eq_empty_of_size_eq_zero h0] at hmem;simp at hmem
  ·exact .tuple _ _ rfl λi y hy=>by
    match i,hy with
    | 0,hy=>simp at hy;subst hy;exact .bool _
 ·have hm2:m∈leftOf ents sn.toArray:=by simpa using hm
  unfold leftOf at hm2;rw[Array.mem_filter] at hm2;obtain⟨hme,hmn⟩:=hm2;obtain⟨i,hi,hie⟩:=Array.mem_iff_getElem.1 hme;have hi':ents[i]?=some m:=(by rw[Array.getElem?_eq_getElem hi,hie]);have hborn:=hbn i m hi';have hni:i ∉ sn:=(by rw[hborn] at hmn;simpa using hmn);have hil:i<es.length:=by omega
  obtain⟨k,v,hkv⟩:∃k v,es[i]?=some [k,v]:=by
   have:=h2 es[i] (List.getElem_mem hil);rw[List.getElem?_eq_getElem hil]
   match es[i],this with
   | [k,v],_=>exact⟨k,v,rfl⟩
  obtain⟨m',hm',hk1,hv1⟩:=zL i k v hkv;rw[hi'] at hm'
  cases hm'
  obtain⟨hw1h,hw1o,hw1t,hw1p⟩:w1.heap=C.w.heap/\w1.os=C.w.os/\w1.tape=C.w.tape/\w1.output=C.w.output:=(by rcases hw1 with rfl|rfl<;>exact⟨rfl,rfl,rfl,rfl⟩);have hiter1:w1.heap[C.r it]?=some (.mapIter (some (C.r s)) ents.size sn.toArray ents.size):=(by rw[hw1h];exact hiter);have hilt:C.r it<C.w.heap.size:=(Array.getElem?_eq_some_iff.1 hiter).1
  have hset:∀b,b≠C.r it->(setBlock w1 (C.r it) (.mapIter (some (C.r s)) ents.size (sn.toArray.push m.born) ents.size)).heap[b]?=C.w.heap[b]?:=λb hb=>by
   show (w1.heap.setIfInBounds _ _)[b]?=_;rw[hw1h,Array.getElem?_setIfInBounds_ne (Ne.symm hb)]
  have hget:(setBlock w1 (C.r it) (.mapIter (some (C.r s)) ents.size (sn.toArray.push m.born) ents.size)).heap[C.r it]?=some (.mapIter (some (C.r s)) ents.size (sn.toArray.push m.born) ents.size):=by
   show (w1.heap.setIfInBounds _ _)[_]?=_;rw[hw1h,Array.getElem?_setIfInBounds_self_of_lt hilt]
  have hrows:([AV.mapr s,.int .i64 n,.int .i64 n]::(sr++[[.int .i64 (i:Int)]]))=([AV.mapr s,.int .i64 n,.int .i64 n]::(sn++[i]).map λk:Nat=>[AV.int .i64 (k:Int)]):=(by rw[hsr];simp);have hs1:C.used s:=⟨_,hs,by simp⟩;obtain⟨H1,H2⟩:=kN3 (c:=C) (N:=ents.size) (n:=n) hN hs1 (sn++[i]);rw[<- hrows] at H1 H2;have hpush:sn.toArray.push m.born=(sn++[i]).toArray:=(by rw[hborn];simp);rw[hpush] at hset hget hr
  obtain⟨R1,E1⟩:=Rel.writeX RC it (C.h.set it (.live 0 ([.mapr s,.int .i64 n,.int .i64 n]::(sr++[[.int .i64 (i:Int)]])))) (setBlock w1 (C.r it) (.mapIter (some (C.r s)) ents.size (sn++[i]).toArray ents.size)) _ _ _ _ C.h.length
   hit (List.getElem?_set_self hlt) (λq hq=>List.getElem?_set_ne (Ne.symm hq)) hget hset hw1o hw1t hw1p (by show (w1.heap.setIfInBounds _ _).size=_;rw[Array.size_setIfInBounds,hw1h]) H1 H2
  refine⟨_,_,_,_,hex _ _ _ hr,rfl,hK1 i k v hni hkv,R1,?_,E1,by simp⟩
  exact .tuple _ _ rfl λq y hy=>by
   match q,hy with
   | 0,hy=>simp at hy;subst hy;exact .bool _
   | 1,hy=>simp at hy;subst hy;exact E1.vr' hk1
   | 2,hy=>simp at hy;subst hy;exact E1.vr' hv1
theorem Xo.entry{ty:TypeId}{x:Operand}{it s i:Nat}{n:Int}{k v:AV}{es sr sr0:List (List AV)}{sn:List Nat}{h:k00}{K:AV->k00->Prop}(hit:h[it]?=some (.live 0 ([.mapr s,.int .i64 n,.int .i64 n]::sr)))(hs:h[s]?=some (.live 0 es))(h2:∀e,e∈es->e.length=2)(hn:n=es.length)
 (hsr0:sr0=sn.map λk:Nat=>[AV.int .i64 (k:Int)]) (hsr:sr=sr0++[[.int .i64 (i:Int)]]) (hi:es[i]?=some [k,v]) (hK:K (.tuple [k,v]) h):Xo P (.entry x) ty [.ref it 0 0 0] h K:=by
 refine⟨λC e o ho hty hC RC hv=>?_⟩;subst hC;have hop:(Op.entry x).operands.map e = #[e x]:=by simp[Op.operands]
 rw[hop] at hv;have hx:=hv.one'.ref';obtain⟨hO,ents,hheap,hl,hbn,zL⟩:=RC.map hs h2;have hsr2:sr=(sn++[i]).map λk:Nat=>[AV.int .i64 (k:Int)]:=by rw[hsr,hsr0];simp
 obtain⟨N,hN,hiter⟩:=RC.iter hit hsr2;have hNe:N=ents.size:=by omega
 subst hNe;obtain⟨m,hm,hk1,hv1⟩:=zL i k v hi;have hborn:=hbn i m hm;have hpush:(sn++[i]).toArray=sn.toArray.push m.born:=by rw[hborn];simp
 rw[hpush] at hiter
 have hnd:(ents.toList.map (·.born)).Nodup:=by
  have:ents.toList.map (·.born)=List.range ents.size:=by
   apply List.ext_getElem?;intro j;rw[List.getElem?_map];by_cases hj:j<ents.size
   ·have h1:ents.toList[j]?=some ents[j]:=by simp[hj]
    rw[h1,List.getElem?_range hj];simp only[Option.map_some,Option.some.injEq];exact hbn j _ (Array.getElem?_eq_getElem hj)
   ·rw[List.getElem?_eq_none (by simpa using hj),List.getElem?_eq_none (by simpa using hj)]
    rfl
  rw[this];exact List.nodup_range
 have hr:=run_entry_at (P:=P) C.w (C.r it) (C.r s) ents.size sn.toArray ents ents.size m hiter hheap (by
  have:=List.mem_of_getElem? (show ents.toList[i]?=some m by simpa using hm);exact this) hnd
 have hrun:(execOp e o).run P C.w = .ok (.value (.tuple #[m.key,m.val])) C.w:=by
  simp[execOp,ho,hx.2,hr]
 refine⟨_,_,_,C,hrun,rfl,hK,RC,?_,Ext.refl _ _,Nat.le_refl _⟩
 exact .tuple _ _ rfl λq y hy=>by
  match q,hy with
  | 0,hy=>simp at hy;subst hy;exact hk1
  | 1,hy=>simp at hy;subst hy;exact hv1
end Go.Eng
namespace Go.Eng
open Go Go.RowKit
theorem k06.ofI {P : Program} {g : FuncId} {fn : Func} {args : List AV} {h : k00} {K : AV → k00 → Prop} (hf : P.funcs[g]? = some fn) (hname : (fn.name == "runtime.NumGoroutine") = false) (hdr : k5B P fn = true)
 (H:∀w,w=std->kKZ w (k2K P fn) P args h K):k06 P g args h K:=by
 have H:=H std rfl;unfold kKZ at H;split at H
 ·rename_i F hF
  exact k06.inl hf hname hF hdr (k0F (λe a h hr=>k95 e a h hr) H)
 ·exact H.elim
theorem Call.of{P:Program}{g:FuncId}{args:List AV}{h:k00}{K:k09->k00->Prop}{a:k09}{dst:Option Nat}(H:k06 P g args h (k4T K a dst)):Call P g args h (k4T K a dst):=⟨H⟩
def hpD(f:Nat->Nat)(m:Nat)(h:k00):Nat->k00->Prop
 | _,[]=>True
 | j,s::r=>(match s with
   | .live z es=>(match h[f j]? with
     | some (.live z' fs)=>(match Nat.beq z z' with|true=>k26 f h m es fs/\hpD f m h (j+1) r|false=>False)
     | _=>False)
   | .dead=>(match h[f j]? with
     | some .dead=>hpD f m h (j+1) r
     | some (.live _ _)=>hpD f m h (j+1) r
     | _=>False)
   | _=>False)
theorem kN7{f:Nat->Nat}{m:Nat}{h:k00}:∀ {r:k00} {j:Nat},hpD f m h j r->∀(i:Nat) (x:k27),r[i]?=some x->(∃z es fs,x = .live z es/\h[f (j+i)]?=some (.live z fs)/\k26 f h m es fs)\/x = .dead
 | [],j,H,i,x,hx=>by simp at hx
 | s::r,j,H,i,x,hx=>by
   have step:hpD f m h (j+1) r->∀i,(s::r)[i+1]?=some x->(∃z es fs,x = .live z es/\h[f (j+(i+1))]?=some (.live z fs)/\k26 f h m es fs)\/x = .dead:=λH i hx=>by
    rcases kN7 H i x (by simpa using hx) with ⟨z,es,fs,e1,e2,e3⟩|e
    ·exact .inl ⟨z,es,fs,e1,by rw[show j+(i+1)=j+1+i by omega];exact e2,e3⟩
    ·exact .inr e
   unfold hpD at H;split at H
   ·split at H
    ·rename_i h1
     split at H
     ·rename_i hb
      have:=Nat.eq_of_beq_eq_true hb;subst this
      match i,hx with
      | 0,hx=>simp at hx;subst hx;exact .inl ⟨_,_,_,rfl,by simpa using h1,H.1⟩
      | i+1,hx=>exact step H.2 i hx
     ·exact H.elim
    ·exact H.elim
   ·split at H
    ·match i,hx with
     | 0,hx=>simp at hx;exact .inr hx.symm
     | i+1,hx=>exact step H i hx
    ·match i,hx with
     | 0,hx=>simp at hx;exact .inr hx.symm
     | i+1,hx=>exact step H i hx
    ·exact H.elim
   ·exact H.elim
theorem Wk.eqzN{n:Nat}{a a':k09}{h h':k00}(f:Nat->Nat)(hid:∀i,i<n->f i=i)(hnl:n<=h'.length)(hinj:∀i,i<h'.length->∀j,j<h'.length->f i=f j->i=j)(H:wkZ f h h'.length a' a/\hpD f h'.length h 0 h'):Wk n a h a' h':=by
 intro C act hC S hn;subst hC;obtain⟨ha,hh⟩:=H
 have hall:∀s,s<h'.length->(∃z es fs,h'[s]?=some (.live z es)/\C.h[f s]?=some (.live z fs)/\k26 f C.h h'.length es fs)\/h'[s]?=some .dead:=by
  intro s hs;rcases kN7 hh s h'[s] (by simp[hs]) with ⟨z,es,fs,e1,e2,e3⟩|e1
  ·exact .inl ⟨z,es,fs,by rw[<- e1];simp[hs],by simpa using e2,e3⟩
  ·exact .inr (by rw[<- e1];simp[hs])
 have hlive:∀s,s<h'.length->∀z0 es0,h'[s]?=some (.live z0 es0)->∃z es fs,h'[s]?=some (.live z es)/\C.h[f s]?=some (.live z fs)/\k26 f C.h h'.length es fs:=by
  intro s hs z0 es0 he;rcases hall s hs with h|h
  ·exact h
  ·rw[h] at he;cases he
 have hDlive:∀s,Cfg.live { C with h:=h',r:=λs=>C.r (f s) } s->s<h'.length/\C.live (f s):=by
  rintro s ⟨z,es,hx⟩;have hs:=(List.getElem?_eq_some_iff.1 hx).1;obtain⟨z',es',fs,_,e2,_⟩:=hlive s hs _ _ hx;exact⟨hs,z',_,e2⟩
 have hown:∀b,Cfg.own { C with h:=h',r:=λs=>C.r (f s) } b->C.own b:=by
  rintro b (hb|⟨s,hs,hr⟩)
  ·exact .inl hb
  ·exact .inr ⟨f s,(hDlive s hs).2,hr⟩
 have hused:∀s,s<h'.length->Cfg.used { C with h:=h',r:=λs=>C.r (f s) } s:=λs hs=>by
  rcases hall s hs with ⟨z,es,fs,e1,_,_⟩|e1
  ·exact⟨_,e1,by simp⟩
  ·exact⟨_,e1,by simp⟩
 have G:Fzg f C.h h'.length C { C with h:=h',r:=λs=>C.r (f s) }:={
  hw:=rfl,ho:=hown,hs:=λs hs _=>⟨hused s hs,rfl⟩,hD:=rfl,hC:=rfl,R:=S.rel,
  hfr:=λs z es hs hf=>by
   rintro(hb|⟨t,ht,hr⟩)
   ·exact(S.rel.livx s z es hs).1 hb
   ·obtain⟨h1,h2⟩:=hDlive t ht
    exact hf t h1 (S.rel.inj _ _ h2 ⟨z,es,hs⟩ hr) }
 obtain⟨h1,h2⟩:=kG0 G ha;refine⟨{ C with h:=h',r:=λs=>C.r (f s) },rfl,rfl,⟨?_,?_,S.nodef⟩,?_,hnl⟩
 ·refine⟨λs z es hl=>?_,λs t hs ht hr=>?_,S.rel.olt,λp hp=>(S.rel.glo p hp).recfg (C:=C) (D:={ C with h:=h',r:=λs=>C.r (f s) }) rfl hown (k49 hp 0),S.rel.gsz⟩
  ·have hs:=(List.getElem?_eq_some_iff.1 hl).1
   obtain⟨z',es',fs,e1,e2,e3⟩:=hlive s hs _ _ hl
   have:k27.live z es=k27.live z' es':=by
    have:some (k27.live z es)=some (k27.live z' es'):=hl.symm.trans e1;simpa using this
   cases this
   obtain⟨k1,k2⟩:=e3.ok G;obtain⟨g2,o,gg,g4,g5,g6⟩:=S.rel.livx (f s) z _ e2;refine⟨g2,o,gg,g4,g5.congr k1 λi e he=>?_,λi e he j x hx=>?_⟩
   ·obtain⟨g,hg,hl,_⟩:=k2 i e he
    exact⟨g,hg,hl⟩
   ·obtain⟨g,hg,hl,hc⟩:=k2 i e he
    obtain⟨y,hy,hok⟩:=hc j x hx;exact hok _ (g6 i g hg j y hy)
  ·obtain⟨k1,k2⟩:=hDlive s hs
   obtain⟨k3,k4⟩:=hDlive t ht;exact hinj s k1 t k3 (S.rel.inj _ _ k2 k4 hr)
 ·refine⟨by rw[S.vrs.1,h1],λi x hx=>?_⟩
  rcases h2 i x hx with rfl|⟨y,h3,h4⟩
  ·exact .any _
  ·exact h4 _ (S.vrs.2 i _ h3)
 ·exact⟨rfl,rfl,rfl,rfl,Nat.le_refl _,λs hs _=>⟨hused s (by omega),congrArg C.r (hid s hs)⟩,λb hb hno=>⟨rfl,λ⟨s,hs,hr⟩=>hno ⟨f s,(hDlive s hs).2,hr⟩⟩,λb x hx=>hx⟩
theorem k1Q.introN{P:Program}{n:Nat}{c:k2Z}{Q:k17}{a:k09}{h:k00}(I:k09->k00->Prop)(m:k09->k00->Nat)(a':k09)(h':k00)(hw:Wk n a h a' h')(h0:I a' h')
 (round:∀a h,I a h->∀w,w=std->∀Q':k17,(∀a1 h1 a2 h2,Wk n a1 h1 a2 h2->I a2 h2->m a2 h2<m a h->Q' .normal a1 h1)->(∀k a1 h1,Q (.exit k) a1 h1->Q' (.exit k) a1 h1)->(∀a1 h1,Q .ret a1 h1->Q' .ret a1 h1)->k2D w P (k5Q [] c) n c Q' a h):k1Q P n c Q a h:=
 ⟨kHE.intro I m a' h' hw h0 λa h hI=>k0F (λ_ _ _ h=>h) (round a h hI std rfl _ (λa1 h1 a2 h2 w2 i2 m2=>⟨a2,h2,w2,i2,m2⟩) (λk a1 h1 hq=>hq) (λa1 h1 hq=>hq))⟩
theorem k1Q.dataN{P:Program}{n:Nat}{w:k01}(hw:w=std){c:k2Z}{Q:k17}{a:k09}{h:k00}{S:Type}(st:S->k09)(hp:S->k00)(inv:S->Prop)(m:S->Nat)(s0:S)(hwk:Wk n a h (st s0) (hp s0))(h0:inv s0)
 (round:∀s,inv s->∀Q':k17,(∀s' a1 h1,Wk n a1 h1 (st s') (hp s')->inv s'->m s'<m s->Q' .normal a1 h1)->(∀k a1 h1,Q (.exit k) a1 h1->Q' (.exit k) a1 h1)->(∀a1 h1,Q .ret a1 h1->Q' .ret a1 h1)->k2D w P (k5Q [] c) n c Q' (st s) (hp s)):k1Q P n c Q a h:=
 k1Q.introN (λa h=>∃s,st s=a/\hp s=h/\inv s) (k5Z st hp inv m) (st s0) (hp s0) hwk ⟨s0,rfl,rfl,h0⟩ (by
  intro a h hI w' hw' Q' hN hE hR;obtain rfl:w'=w:=hw'.trans hw.symm;obtain⟨s,rfl,rfl,h1,h2⟩:=k6V (m:=m) hI;refine round s h1 Q' (λs' a1 h1 k1 k2 k3=>hN _ _ _ _ k1 ⟨s',rfl,rfl,k2⟩ ?_) hE hR;rw[<- h2];exact Nat.lt_of_le_of_lt (k8K k2) k3)
end Go.Eng
namespace Go.LD
open Go Go.RowKit
structure BelD(w w':World):Prop where
 b:Below w.heap.size w w'
 d:w.drawn<=w'.drawn
theorem BelD.refl(w:World):BelD w w:=⟨Below.refl _ _,Nat.le_refl _⟩
theorem BelD.trans{a b c:World}(h:BelD a b)(k:BelD b c):BelD a c:=⟨h.b.trans (k.b.mono h.b.size),Nat.le_trans h.d k.d⟩
theorem BelD.grown{w w':World}(h:BelD w w'):∃q os,w'=Go.Sort.grow (w.drewN q) os:=by
 refine⟨w'.drawn-w.drawn,w'.heap.extract w.heap.size w'.heap.size,?_⟩
 have e:w'.heap=w.heap++w'.heap.extract w.heap.size w'.heap.size:=by
  apply Array.ext_getElem?;intro i;have hs:=h.b.size;by_cases hi:i<w.heap.size
  ·rw[h.b.block i hi,Array.getElem?_append_left hi]
  ·rw[Array.getElem?_append_right (by omega),Array.getElem?_extract]
   by_cases hj:i<w'.heap.size
   ·rw[if_pos (by omega)]
    congr 1
    omega
   ·rw[if_neg (by omega),Array.getElem?_eq_none (by omega)]
 have hd:=h.d;have h1:=h.b.os;have h2:=h.b.tape;have h3:=h.b.output
 cases w' with
 | mk hp tp dr os out =>
   cases w with
   | mk hp0 tp0 dr0 os0 out0 =>
     simp only at h1 h2 h3 e hd;subst h1 h2 h3;simp only[Go.Sort.grow,World.drewN,World.mk.injEq,true_and,and_true];exact⟨e,by omega⟩
section
variable {P:Program} {ops:Array Oper}
def k4L(o:Oper)(a:Act):Value:=match o.dst with|some d=>a.tmps.getD d undef|none=>undef
def ordB(ops:Array Oper)(n:Nat):Bool:=(List.range n).all λi=>match ops[i]? with|some o=>o.guard.isNone && o.dst.isSome && o.after.all λe=> !Region.binds .any e || decide (e.on<i)|none=>false
def dstB(ops:Array Oper)(n:Nat):Bool:=(List.range n).all λi=>(List.range n).all λj=>i == j || (((ops[i]?).bind (·.dst)).isNone || ((ops[i]?).bind (·.dst)) != ((ops[j]?).bind (·.dst)))
structure LInv(ops:Array Oper)(n:Nat)(D:Nat->Prop)(V:Nat->Value->World->Prop)(a0:Act)(w0:World)(listed:Array Bool)(a:Act)(w:World):Prop where
 head:HeadInv .any ops n listed
 ext:BelD w0 w
 spec:∀i o,i<n->ops[i]?=some o->listed.getD i false=true->V i (k4L o a) w
 frame:∀t,(∀i o,i<n->ops[i]?=some o->o.dst≠some t)->a.tmps.getD t undef=a0.tmps.getD t undef
 size:a.tmps.size=a0.tmps.size
 defers:a.defers=a0.defers
 ptr:∀i o,i<n->ops[i]?=some o->D i->listed.getD i false=true->∃b,k4L o a = .pointer (some ⟨b,0,none⟩)/\b<w.heap.size
 apart:∀i j oi oj,i<n->j<n->i≠j->ops[i]?=some oi->ops[j]?=some oj->D i->D j->listed.getD i false=true->listed.getD j false=true->k4L oi a≠k4L oj a
theorem kAT(a:Act)(d t:Tmp)(v:Value)(h:d≠t):(a.put (some d) v).tmps.getD t undef=a.tmps.getD t undef:=by
 simp only[Act.put];rw[Array.getD_eq_getD_getElem?,Array.getD_eq_getD_getElem?,Array.getElem?_setIfInBounds,if_neg (λe=>h e)]
theorem kGO(a:Act)(d:Tmp)(v:Value)(h:d<a.tmps.size):(a.put (some d) v).tmps.getD d undef=v:=by
 simp only[Act.put];rw[Array.getD_eq_getD_getElem?,Array.getElem?_setIfInBounds,if_pos rfl,if_pos h];rfl
theorem wp_region_local{id:Nat}{Q:Exit->Act->World->Prop}{a0:Act}{w0:World}{l:List Oper}(n:Nat)(D:Nat->Prop)(V:Nat->Value->World->Prop)
 (hm:P.follows .mixedOrders=true)
 (hB:(ordB l.toArray n && dstB l.toArray n && (decide (n=l.length) || (decide (n<l.length) && Region.sinkB .any l.toArray n && Region.chainB .any l.toArray n))
   && Region.seqB .any l.toArray (l.length-n) n (List.replicate n true++List.replicate (l.length-n) false).toArray && (l.take n).all λo=>o.dst.all λd=>decide (d<a0.tmps.size))=true)
 (hV:∀i v w w',V i v w->BelD w w'->V i v w')
 (hop:∀i o,i<n->l.toArray[i]?=some o->∀a w,BelD w0 w->a.tmps.size=a0.tmps.size->(∀t,(∀i o,i<n->l.toArray[i]?=some o->o.dst≠some t)->a.tmps.getD t undef=a0.tmps.getD t undef) ->
   (∀e∈o.after,Region.binds .any e=true->∀oe,l.toArray[e.on]?=some oe->V e.on (k4L oe a) w) ->
   ∀K:Act->World->Prop,(∀v w',BelD w w'->V i v w'->(D i->∃b,v = .pointer (some ⟨b,0,none⟩)/\w.heap.size<=b/\b<w'.heap.size)->K (a.put o.dst v) w')->o.wp P a w K Q)
 (hend:∀a w,BelD w0 w->a.tmps.size=a0.tmps.size->a.defers=a0.defers->(∀t,(∀i o,i<n->l.toArray[i]?=some o->o.dst≠some t)->a.tmps.getD t undef=a0.tmps.getD t undef) ->
   (∀i o,i<n->l.toArray[i]?=some o->V i (k4L o a) w)->(∀i j oi oj,i<n->j<n->i≠j->l.toArray[i]?=some oi->l.toArray[j]?=some oj->D i->D j->k4L oi a≠k4L oj a)->wpList P l.toArray Q (l.drop n) a w) :
 (Code.region id l.toArray true).wp P Q a0 w0:=by
 simp only[Bool.and_eq_true] at hB;obtain⟨⟨⟨⟨hord,hdst⟩,htl⟩,hseq⟩,yH⟩:=hB
 have hnl:n<=l.length:=by
  simp only[Bool.or_eq_true,Bool.and_eq_true,decide_eq_true_eq] at htl;omega
 have ord:∀i o,i<n->l.toArray[i]?=some o->(o.guard=none/\o.dst.isSome=true)/\∀e∈o.after,Region.binds .any e=true->e.on<i:=by
  intro i o hi ho;have h:=List.all_eq_true.1 hord i (List.mem_range.2 hi);rw[ho] at h;simp only[Bool.and_eq_true,Option.isNone_iff_eq_none] at h;refine⟨h.1,λe he hb=>?_⟩;have h2:=Array.all_eq_true'.1 h.2 e he;simpa[hb] using h2
 have dst:∀i j oi oj d,i<n->j<n->i≠j->l.toArray[i]?=some oi->l.toArray[j]?=some oj->oi.dst=some d->oj.dst≠some d:=by
  intro i j oi oj d hi hj hij hoi hoj hd hd';have h:=List.all_eq_true.1 (List.all_eq_true.1 hdst i (List.mem_range.2 hi)) j (List.mem_range.2 hj);rw[hoi,hoj] at h;simp[hd,hd',hij] at h
 have hin':∀i o d,i<n->l.toArray[i]?=some o->o.dst=some d->d<a0.tmps.size:=by
  intro i o d hi ho hd
  have hmem:o∈l.take n:=by
   have:(l.take n)[i]?=some o:=(by rw[List.getElem?_take,if_pos hi];simpa using ho);exact List.mem_of_getElem? this
  have h:=List.all_eq_true.1 yH o hmem;simpa[hd] using h
 have waits:∀listed,HeadInv .any l.toArray n listed->∀i,i<n->listed.getD i true=false->∀t,n<=t->t ∉ Region.ready .any l.toArray listed:=by
  intro listed inv i hi yM t ht hr;simp only[Bool.or_eq_true,Bool.and_eq_true,decide_eq_true_eq] at htl;rcases htl with h|⟨⟨h1,h2⟩,h3⟩
  ·obtain⟨_,o,ho,_⟩:=mem_ready.1 hr
   have:=(Array.getElem?_eq_some_iff.1 ho).1;simp at this;omega
  ·exact tail_waits h2 h3 (by simpa using h1) inv _ i rfl hi yM t ht hr
 have main:∀(f:Nat) (listed:Array Bool) (a:Act) (w:World),listed.toList.count false=f->LInv l.toArray n D V a0 w0 listed a w->wpAny P .any l.toArray Q f listed a w:=by
  intro f
  induction f with
  | zero =>
    intro listed a w hc inv
    have hall:∀i,i<l.length->listed.getD i false=true:=by
     intro i hi;have hs:i<listed.size:=(by rw[inv.head.size];simpa using hi);have h0:=List.count_eq_zero.1 hc
     cases h:listed[i] with
     | true=>simp[hs,h]
     | false=>exact absurd (by rw[<- h];simp) h0
    have hn:n=l.length:=by
     refine Classical.byContradiction λhne=>?_;have h1:=inv.head.tail n (Nat.le_refl _) (by simp;omega);have h2:=hall n (by omega);have hs:n<listed.size:=(by rw[inv.head.size];simp;omega);simp[hs] at h1 h2;rw[h1] at h2;cases h2
    have hw:=hend a w inv.ext inv.size inv.defers inv.frame (λi o hi ho=>inv.spec i o hi ho (hall i (by omega))) (λi j oi oj hi hj hij hoi hoj h1 h2=>inv.apart i j oi oj hi hj hij hoi hoj h1 h2 (hall i (by omega)) (hall j (by omega)));refine⟨?_,?_⟩
    ·refine List.eq_nil_iff_forall_not_mem.2 λj hj=>?_
     obtain⟨h1,o,ho,_⟩:=mem_ready.1 hj;have hj':j<l.length:=by have:=(Array.getElem?_eq_some_iff.1 ho).1;simpa using this
     have h2:=hall j hj';have hs:j<listed.size:=(by rw[inv.head.size];simpa using hj');simp[hs] at h1 h2;rw[h1] at h2;cases h2
    ·rw[hn,List.drop_length] at hw
     exact hw
  | succ f ih =>
    intro listed a w hc inv;by_cases hex:∃i,i<n/\listed.getD i false=false
    ·have key:∀j∈Region.ready .any l.toArray listed,wpOp P l.toArray Q j (wpAny P .any l.toArray Q f (listed.setIfInBounds j true)) a w:=by
      intro j hj;obtain⟨i,hi,hiu⟩:=hex;have his:i<listed.size:=(by rw[inv.head.size];simp;omega);have hjn:j<n:=Nat.lt_of_not_le λh=>waits listed inv.head i hi (getD_in his hiu) j h hj;obtain⟨hju,o,ho,hall⟩:=mem_ready.1 hj;have hjs:j<listed.size:=(by rw[inv.head.size];simp;omega);obtain⟨⟨hg,hdsome⟩,hlt⟩:=ord j o hjn ho;refine wpOp_step ho λK' hK=>?_;rw[if_pos (by simp[Region.wanted,hg])];refine hop j o hjn ho a w inv.ext inv.size inv.frame (λe he hb oe hoe=>inv.spec e.on oe (Nat.lt_trans (hlt e he hb) hjn) hoe (hall e he hb)) K' λv w' hbw hv hp=>hK _ _ (ih _ _ _ ?_ ?_)
      ·have hf:listed.toList[j]'(by simpa using hjs)=false:=by simp[hjs] at hju;simpa using hju
       have h1:=List.count_set (a:=true) (b:=false) (l:=listed.toList) (i:=j) (by simpa using hjs);rw[hf,hc] at h1;rw[Array.toList_setIfInBounds,h1];rfl
      ·have keepL:∀k ok,k<n->l.toArray[k]?=some ok->k≠j->k4L ok (a.put o.dst v)=k4L ok a:=by
        intro k ok hk hok hkj;unfold k4L
        cases hd:ok.dst with
        | none=>rfl
        | some d =>
          simp only
          cases hd2:o.dst with
          | none=>rfl
          | some d2 =>
            refine kAT a d2 d v λe=>?_;subst e;exact dst j k o ok d2 hjn hk (λe=>hkj e.symm) ho hok hd2 hd
       have newL:k4L o (a.put o.dst v)=v:=by
        unfold k4L
        cases hd:o.dst with
        | none=>rw[hd] at hdsome;cases hdsome
        | some d =>
          simp only;exact kGO a d v (by rw[inv.size];exact hin' j o d hjn ho hd)
       refine⟨inv.head.set hj hjn,inv.ext.trans hbw,?_,?_,?_,?_,?_,?_⟩
       ·intro k ok hk hok hkl
        by_cases hkj:k=j
        ·subst hkj
         have:ok=o:=Option.some.inj (hok.symm.trans ho);subst this;rw[newL];exact hv
        ·have hkl':listed.getD k false=true:=by rwa [getD_set_ne false (λe=>hkj e.symm)] at hkl
         rw[keepL k ok hk hok hkj];exact hV k _ w w' (inv.spec k ok hk hok hkl') hbw
       ·intro t ht
        rw[<- inv.frame t ht]
        cases hd:o.dst with
        | none=>rfl
        | some d=>exact kAT a d t v λe=>ht j o hjn ho (by rw[hd,e])
       ·rw[<- inv.size]
        cases o.dst<;>simp[Act.put]
       ·rw[<- inv.defers]
        cases o.dst<;>simp[Act.put]
       ·intro k ok hk hok hD hkl
        by_cases hkj:k=j
        ·subst hkj
         have:ok=o:=Option.some.inj (hok.symm.trans ho);subst this;rw[newL];obtain⟨b,h1,_,h3⟩:=hp hD;exact⟨b,h1,h3⟩
        ·have hkl':listed.getD k false=true:=by rwa [getD_set_ne false (λe=>hkj e.symm)] at hkl
         rw[keepL k ok hk hok hkj];obtain⟨b,h1,h2⟩:=inv.ptr k ok hk hok hD hkl';exact⟨b,h1,Nat.lt_of_lt_of_le h2 hbw.b.size⟩
       ·intro k m ok om hk hm hkm hok hom hDk hDm hkl hml
        have old:∀k ok,k<n->l.toArray[k]?=some ok->D k->k≠j->(listed.setIfInBounds j true).getD k false=true->∃b,k4L ok (a.put o.dst v) = .pointer (some ⟨b,0,none⟩)/\b<w.heap.size:=by
         intro k ok hk hok hD hkj hkl;have hkl':listed.getD k false=true:=(by rwa [getD_set_ne false (λe=>hkj e.symm)] at hkl);rw[keepL k ok hk hok hkj];exact inv.ptr k ok hk hok hD hkl'
        by_cases hkj:k=j
        ·subst hkj
         have:ok=o:=Option.some.inj (hok.symm.trans ho);subst this;obtain⟨b,h1,h2,h3⟩:=hp hDk;obtain⟨b',h1',h2'⟩:=old m om hm hom hDm (λe=>hkm e.symm) hml;rw[newL,h1',h1];intro e;cases e
         omega
        ·by_cases hmj:m=j
         ·subst hmj
          have:om=o:=Option.some.inj (hom.symm.trans ho);subst this;obtain⟨b,h1,h2,h3⟩:=hp hDm;obtain⟨b',h1',h2'⟩:=old k ok hk hok hDk hkm hkl;rw[newL,h1',h1];intro e;cases e
          omega
         ·have hkl':listed.getD k false=true:=by rwa [getD_set_ne false (λe=>hkj e.symm)] at hkl
          have hml':listed.getD m false=true:=(by rwa [getD_set_ne false (λe=>hmj e.symm)] at hml);rw[keepL k ok hk hok hkj,keepL m om hm hom hmj];exact inv.apart k m ok om hk hm hkm hok hom hDk hDm hkl' hml'
     refine⟨λh0=>?_,key⟩
     -- something of the head may come up
     exfalso;obtain⟨i,hi,hiu⟩:=hex
     have hmin:∀d i,i<=d->i<n->listed.getD i false=false->∃j,j∈Region.ready .any l.toArray listed:=by
      intro d
      induction d using Nat.strongRecOn with
      | _ d ihd =>
        intro i hid yH yM;have his:i<listed.size:=(by rw[inv.head.size];simp;omega);have ho:l.toArray[i]?=some l[i]:=(by simp);by_cases hr:∀e∈(l[i]).after,Region.binds .any e=true->listed.getD e.on false=true
        ·exact⟨i,mem_ready.2 ⟨getD_in his yM,_,ho,hr⟩⟩
        ·obtain⟨e,he⟩:=Classical.not_forall.1 hr
         obtain⟨he1,he2⟩:=Classical.not_forall.1 he;obtain⟨hb,hl⟩:=Classical.not_forall.1 he2;have hlt:=(ord i _ yH ho).2 e he1 hb;have hl':listed.getD e.on false=false:=(by simpa using hl);exact ihd e.on (by omega) e.on (Nat.le_refl _) (by omega) hl'
     obtain⟨j,hj⟩:=hmin i i (Nat.le_refl _) hi hiu;rw[h0] at hj;cases hj
    ·have hall:∀i,i<n->listed.getD i false=true:=by
      intro i hi
      cases h:listed.getD i false with
      | true=>rfl
      | false=>exact absurd ⟨i,hi,h⟩ hex
     have hlisted:listed.toList=List.replicate n true++List.replicate (l.length-n) false:=by
      apply List.ext_getElem
      ·have:=inv.head.size;simp at this ⊢;omega
      ·intro i h1 h2
       have h1':i<l.length:=by have:=inv.head.size;simp at this h1;omega
       by_cases hi:i<n
       ·have:=hall i hi
        simp at h1;simp[h1] at this;simp[this,hi,List.getElem_append]
       ·have:=inv.head.tail i (by omega) (by simpa using h1')
        simp at h1;simp[h1] at this;simp[this,hi,List.getElem_append]
     have hw:=hend a w inv.ext inv.size inv.defers inv.frame (λi o hi ho=>inv.spec i o hi ho (hall i hi)) (λi j oi oj hi hj hij hoi hoj h1 h2=>inv.apart i j oi oj hi hj hij hoi hoj h1 h2 (hall i hi) (hall j hj));have h:=wpAny_of_seq (md:=.any) (Q':=Q) (P:=P) (ops:=l.toArray) (l.drop n) n listed a w (λj=>by simp[List.getElem?_drop]) (by rw[show listed=(List.replicate n true++List.replicate (l.length-n) false).toArray by rw[<- hlisted]];simpa using hseq) hw
     have zE:(l.drop n).length=f+1:=by
      rw[<- hc,hlisted,List.count_append,List.count_replicate,List.count_replicate];simp
     rw[zE] at h;exact h
 refine wp_region_any hm (main _ _ _ _ ?_ ?_)
 ·simp
 ·refine⟨⟨by simp,λj oj _ hl=>(by rw[getD_replicate_false] at hl;cases hl),λt _ ht=>getD_in (by simpa using ht) (getD_replicate_false _ _)⟩,?_,λi o _ _ hl=>(by rw[getD_replicate_false] at hl;cases hl),λ_ _=>rfl,rfl,rfl,λi o _ _ _ hl=>(by rw[getD_replicate_false] at hl;cases hl),λi j _ _ _ _ _ _ _ _ _ hl=>(by rw[getD_replicate_false] at hl;cases hl)⟩
  exact⟨⟨rfl,rfl,rfl,Nat.le_refl _,λ_ _=>rfl⟩,Nat.le_succ _⟩
end
end Go.LD
namespace Go.Proofs.YtlchlddijclhjaaGreat
open Go Go.RowKit Go.Eng
set_option maxRecDepth 100000
def kUY(p:Int×Int):List AV:=[.int .i64 p.1,.int .i64 p.2]
def k29(ps:List (Int×Int)):List (List AV):=ps.map kUY
theorem k6F(ps:List (Int×Int)):k18 0 (k29 ps)=true:=by
 induction ps with
 | nil=>rfl
 | cons p t ih=>exact ih
theorem k40(ps:List (Int×Int)):(k29 ps).length=ps.length:=by simp[k29]
theorem kNB(ps:List (Int×Int))(i:Int)(h0:0<=i)(h:i<ps.length):∃l u,ps[i.toNat]?=some (l,u)/\(k29 ps)[i.toNat]?=some [.int .i64 l,.int .i64 u]:=by
 have h1:i.toNat<ps.length:=by omega
 exact⟨ps[i.toNat].1,ps[i.toNat].2,by simp[h1],by simp[k29,kUY,h1]⟩
theorem kSV{a b:Int}(h1: -9223372036854775808<=a+b)(h2:a+b<9223372036854775808):std.1 .add .i64 a b=a+b:=by
 show IntKind.i64.wrap (a+b)=a+b;simp only[IntKind.wrap,IntKind.bits,IntKind.signed];simp;split<;>omega
def iAt(a:k09)(k:Nat):Int:=match a.getD k .any with | .int _ i=>i|_=>0
theorem q34{n:Nat}{i:Int}(h0:0<=i)(h:i<n):n-(i+1).toNat<n-i.toNat:=by omega
abbrev sp2(lo hi:Int):AV:=.agg [.int .i64 lo,.int .i64 hi]
def kUB(lo:Int)(a:Bool)(hi:Int)(b:Bool)(r:AV):Prop:=∃l h o,r = .tuple [sp2 l h,.bool o]/\(o=true↔a=true/\b=true/\lo<=hi)/\(o=true->l=lo/\h=hi)/\(o=false->l=0/\h=0)
theorem kTV(lo hi:Int)(a b:Bool):k02 Tryz.prog 164 [.int .i64 lo,.bool a,.int .i64 hi,.bool b] (kUB lo a hi b):=by
 (refine k02.ofX Tryz.func164 (by kernel_rfl) (by kernel_rfl) λw hw R hR=>?_);(conv=>arg 2;cbv);(generalize hP:Tryz.prog=P);cbv;subst hw;repeat' (split<;>rename_i h<;>(try (simp only[std,k05,k04,k08,k03,k0M,Bool.not_eq_true',Bool.not_eq_false',decide_eq_true_eq,decide_eq_false_iff_not,Int.not_lt,Int.not_le,if_true,if_false,Bool.false_eq_true,beq_iff_eq,bne_iff_ne,ne_eq,Bool.not_eq_eq_eq_not,Bool.not_true,Bool.not_false,beq_eq_false_iff_ne,bne_eq_false_iff_eq,Int.ofNat_eq_natCast] at h)))
 all_goals refine⟨_,Vw.same rfl,hR _ ⟨_,_,_,rfl,?_⟩⟩
 all_goals (simp_all;try omega)
theorem kIK(a b c d:Int):k02 Tryz.prog 147 [sp2 a b,sp2 c d] (kUB (max a c) true (min b d) true):=by
 (refine k02.ofX Tryz.func147 (by kernel_rfl) (by kernel_rfl) λw hw R hR=>?_);(conv=>arg 2;cbv);(generalize hP:Tryz.prog=P);cbv;refine Call.step (by rw[<- hP];exact kTV _ _ _ _) rfl ?_;rintro r ⟨l,h,o,rfl,h1,h2,h3⟩;cbv;subst hw;refine⟨_,Vw.same rfl,hR _ ⟨_,_,_,rfl,?_⟩⟩;simp only[std,k05,k04,k08,k03,k0M,Bool.not_eq_true',Bool.not_eq_false',decide_eq_true_eq,decide_eq_false_iff_not,Int.not_lt,Int.not_le,if_true,if_false,Bool.false_eq_true,beq_iff_eq,bne_iff_ne,ne_eq,Bool.not_eq_eq_eq_not,Bool.not_true,Bool.not_false,beq_eq_false_iff_ne,bne_eq_false_iff_eq,Int.ofNat_eq_natCast] at h1 h2;have e1:(if c>a then c else a)=max a c:=by omega
 have e2:(if d<b then d else b)=min b d:=by omega
 simp only[e1,e2] at h1 h2;exact⟨by simpa using h1,by simpa using h2,by simpa using h3⟩
structure k3J(a b:Nat->Int)(S:Nat->Nat->Prop)(lo hi:Int)(f:Bool):Prop where
 some_:f=true->∃i j,S i j/\max (a i) (a j)<=min (b i) (b j)
 none_:f=false->lo=0/\hi=0/\∀i j,S i j->¬max (a i) (a j)<=min (b i) (b j)
 lo_:f=true->(∃i j,S i j/\max (a i) (a j)<=min (b i) (b j)/\lo=max (a i) (a j))/\∀i j,S i j->max (a i) (a j)<=min (b i) (b j)->lo<=max (a i) (a j)
 hi_:f=true->(∃i j,S i j/\max (a i) (a j)<=min (b i) (b j)/\hi=min (b i) (b j))/\∀i j,S i j->max (a i) (a j)<=min (b i) (b j)->min (b i) (b j)<=hi
def k1L(n k m:Nat)(i j:Nat):Prop:=(i<k/\i<j/\j<n)\/(i=k/\k<j/\j<k+(1+m))
theorem kL9(a b:Nat->Int)(n:Nat):k3J a b (k1L n 0 0) 0 0 false:=
 ⟨λh=>(by cases h),λ_=>⟨rfl,rfl,λi j h=>(by unfold k1L at h;omega)⟩,λh=>(by cases h),λh=>(by cases h)⟩
theorem kLE{a b:Nat->Int}{S S':Nat->Nat->Prop}{lo hi:Int}{f:Bool}(h:k3J a b S lo hi f)(e:∀i j,S i j↔S' i j):k3J a b S' lo hi f:=by
 have:S=S':=by funext i j;exact propext (e i j)
 rw[<- this];exact h
theorem kPM(a b:Nat->Int)(n k:Nat)(lo hi:Int)(f:Bool)(hk:k<n)(h:k3J a b (k1L n k (n-(k+1))) lo hi f):k3J a b (k1L n (k+1) 0) lo hi f:=
 kLE h λi j=>by unfold k1L;omega
theorem kZ0(a b:Nat->Int)(n k m:Nat)(lo hi:Int)(f:Bool)(h:k3J a b (k1L n k m) lo hi f)(hn:¬max (a k) (a (k+(1+m)))<=min (b k) (b (k+(1+m)))):k3J a b (k1L n k (m+1)) lo hi f:=by
 have key:∀i j,k1L n k (m+1) i j->k1L n k m i j\/(i=k/\j=k+(1+m)):=by intro i j;unfold k1L;omega
 have key2:∀i j,k1L n k m i j->k1L n k (m+1) i j:=by intro i j;unfold k1L;omega
 refine⟨λhf=>?_,λhf=>?_,λhf=>?_,λhf=>?_⟩
 ·obtain⟨i,j,h1,h2⟩:=h.some_ hf;exact⟨i,j,key2 _ _ h1,h2⟩
 ·obtain⟨h1,h2,h3⟩:=h.none_ hf
  refine⟨h1,h2,λi j hp=>?_⟩;rcases key i j hp with hp|⟨rfl,rfl⟩
  ·exact h3 i j hp
  ·exact hn
 ·obtain⟨⟨i,j,h1,h2,h3⟩,h4⟩:=h.lo_ hf
  refine⟨⟨i,j,key2 _ _ h1,h2,h3⟩,λi j hp hq=>?_⟩;rcases key i j hp with hp|⟨rfl,rfl⟩
  ·exact h4 i j hp hq
  ·exact absurd hq hn
 ·obtain⟨⟨i,j,h1,h2,h3⟩,h4⟩:=h.hi_ hf
  refine⟨⟨i,j,key2 _ _ h1,h2,h3⟩,λi j hp hq=>?_⟩;rcases key i j hp with hp|⟨rfl,rfl⟩
  ·exact h4 i j hp hq
  ·exact absurd hq hn
theorem kLD(a b:Nat->Int)(n k m:Nat)(lo hi:Int)(h:k3J a b (k1L n k m) lo hi false)(hp:max (a k) (a (k+(1+m)))<=min (b k) (b (k+(1+m)))) :
 k3J a b (k1L n k (m+1)) (max (a k) (a (k+(1+m)))) (min (b k) (b (k+(1+m)))) true:=by
 have key:∀i j,k1L n k (m+1) i j->k1L n k m i j\/(i=k/\j=k+(1+m)):=by intro i j;unfold k1L;omega
 have own:k1L n k (m+1) k (k+(1+m)):=by unfold k1L;omega
 obtain⟨_,_,h3⟩:=h.none_ rfl;refine⟨λ_=>⟨_,_,own,hp⟩,λhf=>(by cases hf),λ_=>⟨⟨_,_,own,hp,rfl⟩,λi j hq hr=>?_⟩,λ_=>⟨⟨_,_,own,hp,rfl⟩,λi j hq hr=>?_⟩⟩
 ·rcases key i j hq with hq|⟨rfl,rfl⟩
  ·exact absurd hr (h3 i j hq)
  ·exact Int.le_refl _
 ·rcases key i j hq with hq|⟨rfl,rfl⟩
  ·exact absurd hr (h3 i j hq)
  ·exact Int.le_refl _
theorem kPN(a b:Nat->Int)(n k m:Nat)(lo hi:Int)(h:k3J a b (k1L n k m) lo hi true)(hp:max (a k) (a (k+(1+m)))<=min (b k) (b (k+(1+m)))) :
 k3J a b (k1L n k (m+1)) (min lo (max (a k) (a (k+(1+m))))) (max hi (min (b k) (b (k+(1+m))))) true:=by
 have key:∀i j,k1L n k (m+1) i j->k1L n k m i j\/(i=k/\j=k+(1+m)):=by intro i j;unfold k1L;omega
 have key2:∀i j,k1L n k m i j->k1L n k (m+1) i j:=by intro i j;unfold k1L;omega
 have own:k1L n k (m+1) k (k+(1+m)):=by unfold k1L;omega
 obtain⟨⟨i1,j1,l1,l2,l3⟩,l4⟩:=h.lo_ rfl;obtain⟨⟨i2,j2,g1,g2,g3⟩,g4⟩:=h.hi_ rfl;refine⟨λ_=>⟨_,_,own,hp⟩,λhf=>(by cases hf),λ_=>⟨?_,λi j hq hr=>?_⟩,λ_=>⟨?_,λi j hq hr=>?_⟩⟩
 ·by_cases hc:lo<=max (a k) (a (k+(1+m)))
  ·exact⟨i1,j1,key2 _ _ l1,l2,by rw[<- l3];omega⟩
  ·exact⟨_,_,own,hp,by omega⟩
 ·rcases key i j hq with hq|⟨rfl,rfl⟩
  ·have:=l4 i j hq hr;omega
  ·omega
 ·by_cases hc:min (b k) (b (k+(1+m)))<=hi
  ·exact⟨i2,j2,key2 _ _ g1,g2,by rw[<- g3];omega⟩
  ·exact⟨_,_,own,hp,by omega⟩
 ·rcases key i j hq with hq|⟨rfl,rfl⟩
  ·have:=g4 i j hq hr;omega
  ·omega
theorem kLA{a b:Nat->Int}{S:Nat->Nat->Prop}{lo hi:Int}(h:k3J a b S lo hi true):lo<=hi:=by
 obtain⟨i,j,h1,h2⟩:=h.some_ rfl;have:=(h.lo_ rfl).2 i j h1 h2;have:=(h.hi_ rfl).2 i j h1 h2;omega
structure k4O(a b:Nat->Int)(n:Nat)(lo hi:Int)(f:Bool):Prop where
 yes:f=true->lo<=hi/\(∃i,i<n/\lo=a i)/\(∀i,i<n->a i<=lo)/\(∃i,i<n/\hi=b i)/\∀i,i<n->hi<=b i
 no:f=false->lo=0/\hi=0/\(n=0\/∃i j,i<n/\j<n/\b j<a i)
structure kBS(a b:Nat->Int)(k:Nat)(lo hi:Int):Prop where
 l1:∃i,(i<k\/i=0)/\lo=a i
 l2:∀i,(i<k\/i=0)->a i<=lo
 h1:∃i,(i<k\/i=0)/\hi=b i
 h2:∀i,(i<k\/i=0)->hi<=b i
 le:0<k->lo<=hi
theorem kMA(a b:Nat->Int):kBS a b 0 (a 0) (b 0):=by
 refine⟨⟨0,Or.inr rfl,rfl⟩,λi h=>?_,⟨0,Or.inr rfl,rfl⟩,λi h=>?_,λh=>absurd h (by omega)⟩
 ·have:i=0:=by omega
  subst this;exact Int.le_refl _
 ·have:i=0:=by omega
  subst this;exact Int.le_refl _
theorem kQH{a b:Nat->Int}{k:Nat}{lo hi:Int}(h:kBS a b k lo hi)(hok:max lo (a k)<=min hi (b k)):kBS a b (k+1) (max lo (a k)) (min hi (b k)):=by
 obtain⟨⟨i1,q1,e1⟩,l2,⟨i2,q2,e2⟩,h2,_⟩:=h;refine⟨?_,λi hi=>?_,?_,λi hi=>?_,λ_=>hok⟩
 ·by_cases hc:a k<=lo
  ·exact⟨i1,by omega,by omega⟩
  ·exact⟨k,by omega,by omega⟩
 ·by_cases hik:i=k
  ·subst hik;omega
  ·have:=l2 i (by omega);omega
 ·by_cases hc:hi<=b k
  ·exact⟨i2,by omega,by omega⟩
  ·exact⟨k,by omega,by omega⟩
 ·by_cases hik:i=k
  ·subst hik;omega
  ·have:=h2 i (by omega);omega
theorem kZI{a b:Nat->Int}{n k:Nat}{lo hi:Int}(hk:k<n)(h:kBS a b k lo hi)(hno:¬max lo (a k)<=min hi (b k)):k4O a b n 0 0 false:=by
 obtain⟨⟨i1,q1,e1⟩,l2,⟨i2,q2,e2⟩,h2,_⟩:=h;refine⟨λh=>(by cases h),λ_=>⟨rfl,rfl,Or.inr ?_⟩⟩;by_cases c1:lo<=a k
 ·by_cases c2:hi<=b k
  ·exact⟨k,i2,hk,by omega,by omega⟩
  ·exact⟨k,k,hk,hk,by omega⟩
 ·by_cases c2:hi<=b k
  ·exact⟨i1,i2,by omega,by omega,by omega⟩
  ·exact⟨i1,k,by omega,by omega,by omega⟩
theorem kVN{a b:Nat->Int}{n:Nat}{lo hi:Int}(hn:0<n)(h:kBS a b n lo hi):k4O a b n lo hi true:=by
 obtain⟨⟨i1,q1,e1⟩,l2,⟨i2,q2,e2⟩,h2,hle⟩:=h;exact⟨λ_=>⟨hle hn,⟨i1,by omega,e1⟩,λi hi=>l2 i (Or.inl hi),⟨i2,by omega,e2⟩,λi hi=>h2 i (Or.inl hi)⟩,λh=>(by cases h)⟩
theorem kNX(a b:Int):k02 Tryz.prog 73 [sp2 a b] (λr=>∃o:Bool,r = .bool o/\(o=true↔a<=b)):=by
 (refine k02.ofX Tryz.func73 (by kernel_rfl) (by kernel_rfl) λw hw R hR=>?_);(conv=>arg 2;cbv);(generalize hP:Tryz.prog=P);cbv;subst hw;exact⟨_,Vw.same rfl,hR _ ⟨_,rfl,by simp[std,k04]⟩⟩
theorem q0P(a b c d:Int):k02 Tryz.prog 84 [sp2 a b,sp2 c d] (λr=>∃l h,r=sp2 l h/\(a<=b->c<=d->l=min a c/\h=max b d)):=by
 (refine k02.ofX Tryz.func84 (by kernel_rfl) (by kernel_rfl) λw hw R hR=>?_);(conv=>arg 2;cbv);(generalize hP:Tryz.prog=P);cbv;refine Call.step (by rw[<- hP];exact kNX _ _) rfl ?_;rintro r ⟨o,rfl,ho⟩;cbv;split<;>rename_i h0<;>rw[hw] at h0<;>simp only[std,k05,k04,k08,k03,k0M,Bool.not_eq_true',Bool.not_eq_false',decide_eq_true_eq,decide_eq_false_iff_not,Int.not_lt,Int.not_le,if_true,if_false,Bool.false_eq_true,beq_iff_eq,bne_iff_ne,ne_eq,Bool.not_eq_eq_eq_not,Bool.not_true,Bool.not_false,beq_eq_false_iff_ne,bne_eq_false_iff_eq,Int.ofNat_eq_natCast] at h0
 ·refine⟨_,Vw.same rfl,hR _ ⟨_,_,rfl,λh1 h2=>?_⟩⟩
  rw[h0] at ho;simp at ho;omega
 ·refine Call.step (by rw[<- hP];exact kNX _ _) rfl ?_
  rintro r ⟨o2,rfl,ho2⟩;cbv;split<;>rename_i h3<;>rw[hw] at h3<;>simp only[std,k05,k04,k08,k03,k0M,Bool.not_eq_true',Bool.not_eq_false',decide_eq_true_eq,decide_eq_false_iff_not,Int.not_lt,Int.not_le,if_true,if_false,Bool.false_eq_true,beq_iff_eq,bne_iff_ne,ne_eq,Bool.not_eq_eq_eq_not,Bool.not_true,Bool.not_false,beq_eq_false_iff_ne,bne_eq_false_iff_eq,Int.ofNat_eq_natCast] at h3
  ·refine⟨_,Vw.same rfl,hR _ ⟨_,_,rfl,λh1 h2=>?_⟩⟩
   rw[h3] at ho2;simp at ho2;omega
  ·subst hw
   refine⟨_,Vw.same rfl,hR _ ⟨_,_,rfl,λh1 h2=>?_⟩⟩
   constructor<;>(simp only[std,k05,k04,k08,k03,k0M,Bool.not_eq_true',Bool.not_eq_false',decide_eq_true_eq,decide_eq_false_iff_not,Int.not_lt,Int.not_le,if_true,if_false,Bool.false_eq_true,beq_iff_eq,bne_iff_ne,ne_eq,Bool.not_eq_eq_eq_not,Bool.not_true,Bool.not_false,beq_eq_false_iff_ne,bne_eq_false_iff_eq,Int.ofNat_eq_natCast];omega)
def aOf(ps:List (Int×Int))(i:Nat):Int:=(ps.getD i (0,0)).1
def bOf(ps:List (Int×Int))(i:Nat):Int:=(ps.getD i (0,0)).2
theorem k3X{ps:List (Int×Int)}{l u:Int}{i:Nat}(hp:ps[i]?=some (l,u)):aOf ps i=l/\bOf ps i=u:=by simp[aOf,bOf,List.getD,hp]
abbrev k93(lo hi:Int):k27:=.live 2 [[.int .i64 lo,.int .i64 hi]]
theorem len0{ps:List (Int×Int)}(h:((k29 ps).length:Int)=0):ps.length=0:=by rw[k40] at h;omega
theorem q24{ps:List (Int×Int)}(h:ps.length=0):((k29 ps).length:Int)=0:=by rw[k40];omega
theorem kTO{n:Nat}{i:Int}(h0:0<=i)(h1:i<=n)(h2:(n:Int)<=i):i.toNat=n:=by omega
theorem kVM{ps:List (Int×Int)}{i l u lo hi:Int}(h0:0<=i)(yZ:i<ps.length)(hp:ps[i.toNat]?=some (l,u))(h:kBS (aOf ps) (bOf ps) i.toNat lo hi)(hn:¬max lo l<=min hi u):k4O (aOf ps) (bOf ps) ps.length 0 0 false:=by
 obtain⟨e1,e2⟩:=k3X hp;exact kZI (by omega) h (by rw[e1,e2];exact hn)
theorem kMB{ps:List (Int×Int)}{i l u lo hi:Int}(h0:0<=i)(hp:ps[i.toNat]?=some (l,u))(h:kBS (aOf ps) (bOf ps) i.toNat lo hi)(hn:max lo l<=min hi u):kBS (aOf ps) (bOf ps) (i+1).toNat (max lo l) (min hi u):=by
 obtain⟨e1,e2⟩:=k3X hp;rw[show (i+1).toNat=i.toNat+1 by omega,<- e1,<- e2];exact kQH h (by rw[e1,e2];exact hn)
theorem kSG(ps:List (Int×Int))(es:List (List AV))(zU:es=k29 ps)(zE:ps.length<=1000):k02 Tryz.prog 205 [.list 2 es] (λr=>∃lo hi f,r = .tuple [sp2 lo hi,.bool f]/\k4O (aOf ps) (bOf ps) ps.length lo hi f):=by
 have hu:(AV.list 2 es).upto 0=true:=by subst zU;exact k6F ps
 obtain⟨N,hN0⟩:∃N:Int,std.13 es=N:=⟨_,rfl⟩;have hN1:N=ps.length:=by rw[<- hN0,zU];simp[std,k29]
 (refine k02.ofX Tryz.func205 (by kernel_rfl) (by kernel_rfl) λw hw R hR=>?_);(conv=>arg 2;cbv);(generalize hP:Tryz.prog=P);cbv;split<;>rename_i h0<;>rw[hw] at h0<;>simp only[std,k05,k04,k08,k03,k0M,Bool.not_eq_true',Bool.not_eq_false',decide_eq_true_eq,decide_eq_false_iff_not,Int.not_lt,Int.not_le,if_true,if_false,Bool.false_eq_true,beq_iff_eq,bne_iff_ne,ne_eq,Bool.not_eq_eq_eq_not,Bool.not_true,Bool.not_false,beq_eq_false_iff_ne,bne_eq_false_iff_eq,Int.ofNat_eq_natCast] at h0
 ·refine⟨_,Vw.same rfl,hR _ ⟨_,_,_,rfl,λh=>(by cases h),λ_=>⟨rfl,rfl,.inl ?_⟩⟩⟩
  exact len0 (zU▸h0)
 ·have hpos:0<ps.length:=Nat.pos_of_ne_zero λe=>h0 (by rw[zU];exact q24 e)
  obtain⟨l0,u0,hp0,hr0⟩:=kNB ps 0 (by omega) (by omega);refine Idx.mk [.int .i64 l0,.int .i64 u0] (by omega) (by rw[zU];exact hr0) ?_;cbv
  have hst:kBS (aOf ps) (bOf ps) 0 l0 u0:=by
   have:=kMA (aOf ps) (bOf ps);rw[(k3X (i:=0) hp0).1,(k3X (i:=0) hp0).2] at this;exact this
  refine k1Q.introQ (λa h=>∃(lo hi i:Int),a=fr 32 [(2,.ref 0 2 0 0),(4,.ref 1 2 0 0),(15,.list 2 es),(16,.int .i64 N),(17,.int .i64 i)]/\h=[k93 0 0,k93 lo hi]/\0<=i/\i<=ps.length/\kBS (aOf ps) (bOf ps) i.toNat lo hi) (λa _=>ps.length-(iAt a 17).toNat)
   (fr 32 [(2,.ref 0 2 0 0),(4,.ref 1 2 0 0),(15,.list 2 es),(16,.int .i64 N),(17,.int .i64 0)]) [k93 0 0,k93 l0 u0] (by rw[<- hw] at hN0;(refine Wk.ren id ?_ ?_ (λi j _ _ e=>e);(focus (repeat' (first|exact k67|exact kE2|refine k4E ?_ ?_|exact wk0 rfl rfl|exact kE1 rfl rfl|exact wkSl rfl rfl|exact wkSlR rfl rfl rfl|exact wkSlR rfl rfl (by assumption)|exact wkI (by assumption)|exact wkU (by assumption)|exact wkE (by assumption) (by assumption))));(repeat' (first|exact k68|refine k4F rfl rfl rfl ?_|refine wkH_up rfl (by assumption) ?_)))) ⟨l0,u0,0,rfl,rfl,by omega,by omega,hst⟩ ?_
  clear h0;rintro a h ⟨lo,hi,i,rfl,rfl,yJ,yZ,hn⟩ w hw Q' hN hE hR';have yZ:i<=ps.length:=yZ;generalize hM:ps.length-(iAt (fr 32 [(2,.ref 0 2 0 0),(4,.ref 1 2 0 0),(15,.list 2 es),(16,.int .i64 N),(17,.int .i64 i)]) 17).toNat=M at hN;cbv;split<;>rename_i hc<;>rw[hw] at hc<;>simp only[std,k05,k04,k08,k03,k0M,Bool.not_eq_true',Bool.not_eq_false',decide_eq_true_eq,decide_eq_false_iff_not,Int.not_lt,Int.not_le,if_true,if_false,Bool.false_eq_true,beq_iff_eq,bne_iff_ne,ne_eq,Bool.not_eq_eq_eq_not,Bool.not_true,Bool.not_false,beq_eq_false_iff_ne,bne_eq_false_iff_eq,Int.ofNat_eq_natCast] at hc
  ·have hc':i<ps.length:=by rw[hN1] at hc;exact hc
   obtain⟨l,u,hp,hr⟩:=kNB ps i yJ hc';have ei:w.1 .add .i64 i 1=i+1:=(by rw[hw];exact kSV (by omega) (by omega));refine Idx.mk [.int .i64 l,.int .i64 u] yJ (by rw[zU];exact hr) ?_;cbv;refine Call.step (by rw[<- hP];exact kIK _ _ _ _) rfl ?_;rintro r ⟨x,y,o,rfl,h1,h2,h3⟩;cbv;split<;>rename_i h0<;>rw[hw] at h0<;>simp only[std,k05,k04,k08,k03,k0M,Bool.not_eq_true',Bool.not_eq_false',decide_eq_true_eq,decide_eq_false_iff_not,Int.not_lt,Int.not_le,if_true,if_false,Bool.false_eq_true,beq_iff_eq,bne_iff_ne,ne_eq,Bool.not_eq_eq_eq_not,Bool.not_true,Bool.not_false,beq_eq_false_iff_ne,bne_eq_false_iff_eq,Int.ofNat_eq_natCast] at h0
   ·refine hR' _ _ ?_
    cbv;refine⟨_,Vw.same rfl,hR _ ⟨_,_,_,rfl,?_⟩⟩;refine kVM yJ hc' hp hn λyU=>?_;have:=h1.2 ⟨rfl,rfl,yU⟩;rw[h0] at this;cases this
   ·obtain⟨rfl,rfl⟩:=h2 h0
    have yU:=(h1.1 h0).2.2;have yS:=kMB yJ hp hn yU
    revert yS
    generalize max lo l=lo',min hi u=hi';intro yS;exact hN _ _ (fr 32 [(2,.ref 0 2 0 0),(4,.ref 1 2 0 0),(15,.list 2 es),(16,.int .i64 N),(17,.int .i64 (i+1))]) [k93 0 0,k93 lo' hi'] (by(refine Wk.ren id ?_ ?_ (λi j _ _ e=>e);(focus (repeat' (first|exact k67|exact kE2|refine k4E ?_ ?_|exact wk0 rfl rfl|exact kE1 rfl rfl|exact wkSl rfl rfl|exact wkSlR rfl rfl rfl|exact wkSlR rfl rfl (by assumption)|exact wkI (by assumption)|exact wkU (by assumption)|exact wkE (by assumption) (by assumption))));(repeat' (first|exact k68|refine k4F rfl rfl rfl ?_|refine wkH_up rfl (by assumption) ?_)))) ⟨_,_,_,rfl,rfl,by omega,by omega,yS⟩ (by rw[<- hM];exact q34 yJ hc')
  ·refine hE _ _ _ ?_
   cbv;have e:i.toNat=ps.length:=(by rw[hN1] at hc;exact kTO yJ yZ hc);rw[e] at hn;exact⟨_,Vw.same rfl,hR _ ⟨_,_,_,rfl,kVN hpos hn⟩⟩
theorem kUD(ps:List (Int×Int))(k:Nat):k18 0 ((k29 ps).drop k)=true:=by
 have e:(k29 ps).drop k=k29 (ps.drop k):=by simp[k29]
 rw[e];exact k6F _
theorem kR0{ps:List (Int×Int)}{i:Int}(h0:0<=i)(h:i<ps.length):std.13 (std.17 (k29 ps) (i+1))=ps.length-(i+1):=by
 show (((k29 ps).drop (i+1).toNat).length:Int)=_;rw[List.length_drop,k40];omega
theorem q21{x i:Int}(e:x=i+1)(h:0<=i):0<=x:=by omega
theorem q25{x i n:Int}(e:x=i+1)(h:i+1<=n):x<=n:=by omega
theorem kZW{ps:List (Int×Int)}{i:Int}(h0:0<=i)(h:i<ps.length):i+1<=std.13 (k29 ps):=by
 show i+1<=((k29 ps).length:Int);rw[k40];omega
theorem kWB(ps:List (Int×Int))(i m:Int)(h0:0<=i)(hm:0<=m)(h:m<ps.length-(i+1)):∃l u,ps[i.toNat+(1+m.toNat)]?=some (l,u)/\((k29 ps).drop (i+1).toNat)[m.toNat]?=some [.int .i64 l,.int .i64 u]:=by
 have h1:i.toNat+(1+m.toNat)<ps.length:=by omega
 have e:(i+1).toNat+m.toNat=i.toNat+(1+m.toNat):=by omega
 refine⟨ps[i.toNat+(1+m.toNat)].1,ps[i.toNat+(1+m.toNat)].2,by simp[h1],?_⟩;rw[List.getElem?_drop,e];simp[k29,kUY,h1]
theorem kVZ{N m:Int}(h0:0<=m)(h:m<N):N.toNat-(m+1).toNat<N.toNat-m.toNat:=by omega
theorem i_lt{i:Int}{n:Nat}(h:i<n)(hn:n<=1000):i<1000:=by omega
theorem q22{N2 i:Int}{n:Nat}(h:N2=n-(i+1))(h0:0<=i)(hc:i<n)(hn:n<=1000):0<=N2/\N2<1000/\∀m,m<N2->m<n-(i+1):=⟨by omega,by omega,λm h=>by omega⟩
theorem q23{N2 i m:Int}{n:Nat}(h:N2=n-(i+1))(h1:m<=N2)(h2:N2<=m):m=n-(i+1):=by omega
section
variable {ps:List (Int×Int)} {i m l u l2 u2 lo hi:Int} {f:Bool}
theorem kUH(yJ:0<=i)(hm0:0<=m)(hp:ps[i.toNat]?=some (l,u))(hp2:ps[i.toNat+(1+m.toNat)]?=some (l2,u2))(hn:k3J (aOf ps) (bOf ps) (k1L ps.length i.toNat m.toNat) lo hi f)(h:¬max l l2<=min u u2):k3J (aOf ps) (bOf ps) (k1L ps.length i.toNat (m+1).toNat) lo hi f:=by
 rw[show (m+1).toNat=m.toNat+1 by omega];exact kZ0 _ _ _ _ _ _ _ _ hn (by rw[(k3X hp).1,(k3X hp).2,(k3X hp2).1,(k3X hp2).2];exact h)
theorem kJ8(yJ:0<=i)(hm0:0<=m)(hp:ps[i.toNat]?=some (l,u))(hp2:ps[i.toNat+(1+m.toNat)]?=some (l2,u2))(hn:k3J (aOf ps) (bOf ps) (k1L ps.length i.toNat m.toNat) lo hi false)(h:max l l2<=min u u2):k3J (aOf ps) (bOf ps) (k1L ps.length i.toNat (m+1).toNat) (max l l2) (min u u2) true:=by
 rw[show (m+1).toNat=m.toNat+1 by omega];have:=kLD _ _ _ _ _ _ _ hn (by rw[(k3X hp).1,(k3X hp).2,(k3X hp2).1,(k3X hp2).2];exact h);rw[(k3X hp).1,(k3X hp).2,(k3X hp2).1,(k3X hp2).2] at this;exact this
theorem kLC(yJ:0<=i)(hm0:0<=m)(hp:ps[i.toNat]?=some (l,u))(hp2:ps[i.toNat+(1+m.toNat)]?=some (l2,u2))(hn:k3J (aOf ps) (bOf ps) (k1L ps.length i.toNat m.toNat) lo hi true)(h:max l l2<=min u u2):k3J (aOf ps) (bOf ps) (k1L ps.length i.toNat (m+1).toNat) (min lo (max l l2)) (max hi (min u u2)) true:=by
 rw[show (m+1).toNat=m.toNat+1 by omega];have:=kPN _ _ _ _ _ _ _ hn (by rw[(k3X hp).1,(k3X hp).2,(k3X hp2).1,(k3X hp2).2];exact h);rw[(k3X hp).1,(k3X hp).2,(k3X hp2).1,(k3X hp2).2] at this;exact this
theorem kLB{N2:Int}(yJ:0<=i)(hc:i<ps.length)(hn:k3J (aOf ps) (bOf ps) (k1L ps.length i.toNat m.toNat) lo hi f)(hm:m=ps.length-(i+1)):k3J (aOf ps) (bOf ps) (k1L ps.length (i+1).toNat 0) lo hi f:=by
 rw[show (i+1).toNat=i.toNat+1 by omega];have e:m.toNat=ps.length-(i.toNat+1):=by omega
 rw[e] at hn;exact kPM _ _ _ _ _ _ _ (by omega) hn
end
theorem q2E(ps:List (Int×Int))(es:List (List AV))(zU:es=k29 ps)(zE:ps.length<=1000):k02 Tryz.prog 206 [.list 2 es] (λr=>∃lo hi f,r = .tuple [sp2 lo hi,.bool f]/\k3J (aOf ps) (bOf ps) (k1L ps.length ps.length 0) lo hi f):=by
 have hu:(AV.list 2 es).upto 0=true:=by subst zU;exact k6F ps
 obtain⟨N,hN0⟩:∃N:Int,std.13 es=N:=⟨_,rfl⟩;have hN1:N=ps.length:=by rw[<- hN0,zU];simp[std,k29]
 (refine k02.ofX Tryz.func206 (by kernel_rfl) (by kernel_rfl) λw hw R hR=>?_);(conv=>arg 2;cbv);(generalize hP:Tryz.prog=P);cbv
 refine k1Q.introQ (λa h=>∃(lo hi i:Int) (f:Bool),a=fr 49 [(0,.list 2 es),(2,.ref 0 2 0 0),(4,.ref 1 2 0 0),(12,.list 2 es),(13,.int .i64 N),(5,.bool f),(14,.int .i64 i)]/\h=[k93 0 0,k93 lo hi]/\0<=i/\i<=ps.length/\k3J (aOf ps) (bOf ps) (k1L ps.length i.toNat 0) lo hi f) (λa _=>ps.length-(iAt a 14).toNat)
  (fr 49 [(0,.list 2 es),(2,.ref 0 2 0 0),(4,.ref 1 2 0 0),(12,.list 2 es),(13,.int .i64 N),(5,.bool false),(14,.int .i64 0)]) [k93 0 0,k93 0 0] (by rw[<- hw] at hN0;(refine Wk.ren id ?_ ?_ (λi j _ _ e=>e);(focus (repeat' (first|exact k67|exact kE2|refine k4E ?_ ?_|exact wk0 rfl rfl|exact kE1 rfl rfl|exact wkSl rfl rfl|exact wkSlR rfl rfl rfl|exact wkSlR rfl rfl (by assumption)|exact wkI (by assumption)|exact wkU (by assumption)|exact wkE (by assumption) (by assumption))));(repeat' (first|exact k68|refine k4F rfl rfl rfl ?_|refine wkH_up rfl (by assumption) ?_)))) ⟨0,0,0,false,rfl,rfl,by omega,by omega,kL9 _ _ _⟩ ?_
 rintro a h ⟨lo,hi,i,f,rfl,rfl,yJ,yZ,hn⟩ w hw Q' hN hE hR';have yZ:i<=ps.length:=yZ;generalize hM:ps.length-(iAt (fr 49 [(0,.list 2 es),(2,.ref 0 2 0 0),(4,.ref 1 2 0 0),(12,.list 2 es),(13,.int .i64 N),(5,.bool f),(14,.int .i64 i)]) 14).toNat=M at hN;cbv;split<;>rename_i hc<;>rw[hw] at hc<;>simp only[std,k05,k04,k08,k03,k0M,Bool.not_eq_true',Bool.not_eq_false',decide_eq_true_eq,decide_eq_false_iff_not,Int.not_lt,Int.not_le,if_true,if_false,Bool.false_eq_true,beq_iff_eq,bne_iff_ne,ne_eq,Bool.not_eq_eq_eq_not,Bool.not_true,Bool.not_false,beq_eq_false_iff_ne,bne_eq_false_iff_eq,Int.ofNat_eq_natCast] at hc
 ·have hc':i<ps.length:=by rw[hN1] at hc;exact hc
  obtain⟨l,u,hp,hr⟩:=kNB ps i yJ hc';refine Idx.mk [.int .i64 l,.int .i64 u] yJ (by rw[zU];exact hr) ?_;cbv;have hi2:i<1000:=i_lt hc' zE;have ei:w.1 .add .i64 i 1=i+1:=(by rw[hw];exact kSV (by omega) (by omega));obtain⟨es2,hes2⟩:∃es2,es2=(k29 ps).drop (i+1).toNat:=⟨_,rfl⟩;have he2:AV.list 2 (w.17 es (w.1 .add .i64 i 1)) = .list 2 es2:=(by rw[ei,hw,hes2,zU];rfl);have hu2:(AV.list 2 es2).upto 0=true:=(by rw[hes2];exact kUD _ _);obtain⟨N2,hN2⟩:∃N2:Int,w.13 (w.17 es (w.1 .add .i64 i 1))=N2:=⟨_,rfl⟩;have hN3:N2=ps.length-(i+1):=(by rw[<- hN2,ei,hw,zU];exact kR0 yJ hc');obtain⟨hN4,hN5,hN6⟩:=q22 hN3 yJ hc' zE;refine Nn.mk (q21 ei yJ) (Le.mk (q25 ei (by rw[hw,zU];exact kZW yJ hc')) ?_)
  refine k1Q.introQ (λa h=>∃(lo hi m:Int) (f:Bool),a=(fr 49 [(0,.list 2 es),(2,.ref 0 2 0 0),(4,.ref 1 2 0 0),(12,.list 2 es),(13,.int .i64 N),(5,.bool f),(7,.ref 2 2 0 0),(14,.int .i64 i),(22,.list 2 es2),(23,.int .i64 N2),(24,.int .i64 m)])/\h=[k93 0 0,k93 lo hi,k93 l u]/\0<=m/\m<=N2/\k3J (aOf ps) (bOf ps) (k1L ps.length i.toNat m.toNat) lo hi f) (λa _=>N2.toNat-(iAt a 24).toNat)
   (fr 49 [(0,.list 2 es),(2,.ref 0 2 0 0),(4,.ref 1 2 0 0),(12,.list 2 es),(13,.int .i64 N),(5,.bool f),(7,.ref 2 2 0 0),(14,.int .i64 i),(22,.list 2 es2),(23,.int .i64 N2),(24,.int .i64 0)]) [k93 0 0,k93 lo hi,k93 l u] (by(refine Wk.ren id ?_ ?_ (λi j _ _ e=>e);(focus (repeat' (first|exact k67|exact kE2|refine k4E ?_ ?_|exact wk0 rfl rfl|exact kE1 rfl rfl|exact wkSl rfl rfl|exact wkSlR rfl rfl rfl|exact wkSlR rfl rfl (by assumption)|exact wkI (by assumption)|exact wkU (by assumption)|exact wkE (by assumption) (by assumption))));(repeat' (first|exact k68|refine k4F rfl rfl rfl ?_|refine wkH_up rfl (by assumption) ?_)))) ⟨lo,hi,0,f,rfl,rfl,by omega,by omega,hn⟩ ?_
  clear hn hE hR' he2 hN2;rintro a h ⟨lo,hi,m,f,rfl,rfl,hm0,hm1,hn⟩ w2 hw2 Q2 hN2 hE2 hR2;generalize hM2:N2.toNat-(iAt (fr 49 [(0,.list 2 es),(2,.ref 0 2 0 0),(4,.ref 1 2 0 0),(12,.list 2 es),(13,.int .i64 N),(5,.bool f),(7,.ref 2 2 0 0),(14,.int .i64 i),(22,.list 2 es2),(23,.int .i64 N2),(24,.int .i64 m)]) 24).toNat=M2 at hN2;cbv;split<;>rename_i hc2<;>rw[hw2] at hc2<;>simp only[std,k05,k04,k08,k03,k0M,Bool.not_eq_true',Bool.not_eq_false',decide_eq_true_eq,decide_eq_false_iff_not,Int.not_lt,Int.not_le,if_true,if_false,Bool.false_eq_true,beq_iff_eq,bne_iff_ne,ne_eq,Bool.not_eq_eq_eq_not,Bool.not_true,Bool.not_false,beq_eq_false_iff_ne,bne_eq_false_iff_eq,Int.ofNat_eq_natCast] at hc2
  ·obtain⟨l2,u2,hp2,hr2⟩:=kWB ps i m yJ hm0 (hN6 m hc2)
   have em:w2.1 .add .i64 m 1=m+1:=(by rw[hw2];exact kSV (by omega) (by omega));refine Idx.mk [.int .i64 l2,.int .i64 u2] hm0 (by rw[hes2];exact hr2) ?_;cbv;refine Call.step (by rw[<- hP];exact kIK _ _ _ _) rfl ?_;rintro r ⟨x,y,o,rfl,h1,h2,h3⟩
   cases o with
   | false =>
     have hno:¬max l l2<=min u u2:=λyU=>by have:=h1.2 ⟨rfl,rfl,yU⟩;cases this
     cbv;exact hN2 _ _ (fr 49 [(0,.list 2 es),(2,.ref 0 2 0 0),(4,.ref 1 2 0 0),(12,.list 2 es),(13,.int .i64 N),(5,.bool f),(7,.ref 2 2 0 0),(14,.int .i64 i),(22,.list 2 es2),(23,.int .i64 N2),(24,.int .i64 (m+1))]) [k93 0 0,k93 lo hi,k93 l u] (by(refine Wk.ren id ?_ ?_ (λi j _ _ e=>e);(focus (repeat' (first|exact k67|exact kE2|refine k4E ?_ ?_|exact wk0 rfl rfl|exact kE1 rfl rfl|exact wkSl rfl rfl|exact wkSlR rfl rfl rfl|exact wkSlR rfl rfl (by assumption)|exact wkI (by assumption)|exact wkU (by assumption)|exact wkE (by assumption) (by assumption))));(repeat' (first|exact k68|refine k4F rfl rfl rfl ?_|refine wkH_up rfl (by assumption) ?_)))) ⟨_,_,_,_,rfl,rfl,by omega,by omega,kUH yJ hm0 hp hp2 hn hno⟩ (by rw[<- hM2];exact kVZ hm0 hc2)
   | true =>
     have yU:=(h1.1 rfl).2.2;obtain⟨rfl,rfl⟩:=h2 rfl
     cases f with
     | false =>
       have yS:=kJ8 yJ hm0 hp hp2 hn yU
       revert yS
       generalize max l l2=lo',min u u2=hi';intro yS;cbv;exact hN2 _ _ (fr 49 [(0,.list 2 es),(2,.ref 0 2 0 0),(4,.ref 1 2 0 0),(12,.list 2 es),(13,.int .i64 N),(5,.bool true),(7,.ref 2 2 0 0),(14,.int .i64 i),(22,.list 2 es2),(23,.int .i64 N2),(24,.int .i64 (m+1))]) [k93 0 0,k93 lo' hi',k93 l u] (by(refine Wk.ren id ?_ ?_ (λi j _ _ e=>e);(focus (repeat' (first|exact k67|exact kE2|refine k4E ?_ ?_|exact wk0 rfl rfl|exact kE1 rfl rfl|exact wkSl rfl rfl|exact wkSlR rfl rfl rfl|exact wkSlR rfl rfl (by assumption)|exact wkI (by assumption)|exact wkU (by assumption)|exact wkE (by assumption) (by assumption))));(repeat' (first|exact k68|refine k4F rfl rfl rfl ?_|refine wkH_up rfl (by assumption) ?_)))) ⟨_,_,_,_,rfl,rfl,by omega,by omega,yS⟩ (by rw[<- hM2];exact kVZ hm0 hc2)
     | true =>
       have yS:=kLC yJ hm0 hp hp2 hn yU;have hri:=kLA hn
       revert yS yU
       generalize max l l2=lo',min u u2=hi';intro yU yS;cbv;refine Call.step (by rw[<- hP];exact q0P _ _ _ _) rfl ?_;rintro r ⟨x,y,rfl,h4⟩;obtain⟨e4,e5⟩:=h4 hri yU;rw[<- e4,<- e5] at yS;cbv;exact hN2 _ _ (fr 49 [(0,.list 2 es),(2,.ref 0 2 0 0),(4,.ref 1 2 0 0),(12,.list 2 es),(13,.int .i64 N),(5,.bool true),(7,.ref 2 2 0 0),(14,.int .i64 i),(22,.list 2 es2),(23,.int .i64 N2),(24,.int .i64 (m+1))]) [k93 0 0,k93 x y,k93 l u] (by(refine Wk.ren id ?_ ?_ (λi j _ _ e=>e);(focus (repeat' (first|exact k67|exact kE2|refine k4E ?_ ?_|exact wk0 rfl rfl|exact kE1 rfl rfl|exact wkSl rfl rfl|exact wkSlR rfl rfl rfl|exact wkSlR rfl rfl (by assumption)|exact wkI (by assumption)|exact wkU (by assumption)|exact wkE (by assumption) (by assumption))));(repeat' (first|exact k68|refine k4F rfl rfl rfl ?_|refine wkH_up rfl (by assumption) ?_)))) ⟨_,_,_,_,rfl,rfl,by omega,by omega,yS⟩ (by rw[<- hM2];exact kVZ hm0 hc2)
  ·refine hE2 _ _ _ ?_
   cbv;have yS:=kLB (N2:=N2) yJ hc' hn (q23 hN3 hm1 hc2);exact hN _ _ (fr 49 [(0,.list 2 es),(2,.ref 0 2 0 0),(4,.ref 1 2 0 0),(12,.list 2 es),(13,.int .i64 N),(5,.bool f),(14,.int .i64 (i+1))]) [k93 0 0,k93 lo hi] (by(refine Wk.ren id ?_ ?_ (λi j _ _ e=>e);(focus (repeat' (first|exact k67|exact kE2|refine k4E ?_ ?_|exact wk0 rfl rfl|exact kE1 rfl rfl|exact wkSl rfl rfl|exact wkSlR rfl rfl rfl|exact wkSlR rfl rfl (by assumption)|exact wkI (by assumption)|exact wkU (by assumption)|exact wkE (by assumption) (by assumption))));(repeat' (first|exact k68|refine k4F rfl rfl rfl ?_|refine wkH_up rfl (by assumption) ?_)))) ⟨_,_,_,_,rfl,rfl,by omega,by omega,yS⟩ (by rw[<- hM];exact q34 yJ hc')
 ·refine hE _ _ _ ?_
  cbv;have e:i.toNat=ps.length:=(by rw[hN1] at hc;exact kTO yJ yZ hc);rw[e] at hn;exact⟨_,Vw.same rfl,hR _ ⟨_,_,_,rfl,hn⟩⟩
def k6S(c0 c1 c2 c3 c4 c5 c6 c7 c8 c9 c10 c11 c12 c13:Int):Prop:=
 (1<=c0/\c0<=1024)/\(131072<=c1/\c1<=8388608/\c1<=c2/\c2<=8388608)/\(c2-c1)*16<=c1/\(0<=c3/\c3<=1048576/\0<=c4/\c4<=65536)/\(0<=c5/\c5<=1048576)/\(1<=c6/\c6<=16777216/\1<=c7/\c7<=1048576)/\c6*c0<=32000*c1/\(0<=c8/\c8<=1048576)/\(1<=c9/\c9<=1000/\1<=c12/\c12<=1000)/\((c2+c0-1)/c0<=c10/\3*c3<=c10/\c10<=16777216)/\(0<=c11/\c11<=1073741824)/\(1<=c13/\c13<=1048576)
def k9I(c0 c1 c2 c3 c4 c5 c6 c7 c8 c9 c10 c11 c12 c13:Int):Int:=
 if c0<1\/1024<c0 then 1 else
 if c1<131072\/8388608<c1\/c2<c1\/8388608<c2 then 2 else
 if c1<IntKind.i64.wrap (IntKind.i64.wrap (c2-c1)*16) then 3 else
 if c3<0\/1048576<c3\/c4<0\/65536<c4 then 4 else
 if c5<0\/1048576<c5 then 5 else
 if c6<1\/16777216<c6\/c7<1\/1048576<c7 then 6 else
 if IntKind.i64.wrap (32000*c1)<IntKind.i64.wrap (c6*c0) then 7 else
 if c8<0\/1048576<c8 then 8 else
 if c9<1\/1000<c9\/c12<1\/1000<c12 then 9 else
 if c10<(c2+c0-1)/c0\/c10<IntKind.i64.wrap (3*c3)\/16777216<c10 then 10 else
 if c11<0\/1073741824<c11 then 11 else
 if c13<1\/1048576<c13 then 12 else 0
theorem k2T{p:Prop}[Decidable p]{a b:Int}(h:(if p then a else b)=0)(ha:a≠0):¬p/\b=0:=by
 by_cases hp:p
 ·rw[if_pos hp] at h;exact absurd h ha
 ·rw[if_neg hp] at h;exact⟨hp,h⟩
theorem kA0{c0 c1 c2 c3 c4 c5 c6 c7 c8 c9 c10 c11 c12 c13:Int}(h:k9I c0 c1 c2 c3 c4 c5 c6 c7 c8 c9 c10 c11 c12 c13=0):k6S c0 c1 c2 c3 c4 c5 c6 c7 c8 c9 c10 c11 c12 c13:=by
 unfold k9I at h;replace h:=k2T h (by decide);have k1:=h.1;replace h:=h.2
 replace h:=k2T h (by decide);have k2:=h.1;replace h:=h.2
 replace h:=k2T h (by decide);have k3:=h.1;replace h:=h.2
 replace h:=k2T h (by decide);have k4:=h.1;replace h:=h.2
 replace h:=k2T h (by decide);have k5:=h.1;replace h:=h.2
 replace h:=k2T h (by decide);have k6:=h.1;replace h:=h.2
 replace h:=k2T h (by decide);have k7:=h.1;replace h:=h.2
 replace h:=k2T h (by decide);have k8:=h.1;replace h:=h.2
 replace h:=k2T h (by decide);have k9:=h.1;replace h:=h.2
 replace h:=k2T h (by decide);have k10:=h.1;replace h:=h.2
 replace h:=k2T h (by decide);have k11:=h.1;replace h:=h.2
 replace h:=k2T h (by decide);have k12:=h.1;replace h:=h.2
 clear h;have b1:IntKind.i64.wrap (IntKind.i64.wrap (c2-c1)*16)=(c2-c1)*16:=by rw[IntKind.wrap_i64,IntKind.wrap_i64];omega
 have b2:c6*c0<=16777216*1024:=Int.mul_le_mul (by omega) (by omega) (by omega) (by omega);have b3:0<=c6*c0:=Int.mul_nonneg (by omega) (by omega);have b4:IntKind.i64.wrap (c6*c0)=c6*c0:=by rw[IntKind.wrap_i64];omega
 have b5:IntKind.i64.wrap (32000*c1)=32000*c1:=by rw[IntKind.wrap_i64];omega
 have b6:IntKind.i64.wrap (3*c3)=3*c3:=by rw[IntKind.wrap_i64];omega
 unfold k6S;rw[b1] at k3;rw[b4,b5] at k7;rw[b6] at k10;clear b1 b2 b3 b4 b5 b6
 and_intros<;>omega
end Go.Proofs.YtlchlddijclhjaaGreat
set_option linter.unusedSectionVars false
namespace Go.Proofs.YtlchlddijclhjaaGreat
def lq(a b:Int):Prop:=b<0\/(0<=a/\a<=b)
theorem kGK(a:Int):lq a a:=by unfold lq;omega
theorem k8I{a b c:Int}(h:lq a b)(h':lq b c):lq a c:=by unfold lq at *;omega
theorem kMX{a b:Int}(ha: -1<=a)(hb: -1<=b)(h:lq a b)(h':lq b a):a=b:=by unfold lq at *;omega
def bst(b c l:Int):Int:=if 0<=c/\(b<0\/c+l<b) then c+l else b
theorem kSS{b b' c c' l:Int}(h:lq b b')(h':lq c c')(hl:0<=l):lq (bst b c l) (bst b' c' l):=by
 unfold lq bst at *;split<;>split<;>omega
theorem q11{b c l:Int}(hl:0<=l):lq (bst b c l) b:=by unfold lq bst;split<;>omega
theorem kY5{b c l:Int}(hl:0<=l)(hc:0<=c)(hb: -1<=b):lq (bst b c l) (c+l):=by unfold lq bst;split<;>omega
theorem kU6{b c l:Int}(hl:0<=l)(hb: -1<=b): -1<=bst b c l:=by unfold bst;split<;>omega
section
variable (n:Nat) (nx:Nat->List Int) (L:Nat->Int)
def fld(cur:Nat->Int)(b:Int)(l:List Int):Int:=l.foldl (λb j=>bst b (cur j.toNat) (L j.toNat)) b
def jac(cur:Nat->Int)(i:Nat):Int:=fld L cur (cur i) (nx i)
def J:Nat->Nat->Int
 | 0,i=>if (nx i).isEmpty then 0 else -1
 | r+1,i=>jac nx L (J r) i
end
section
variable {n:Nat} {nx:Nat->List Int} {L:Nat->Int}
theorem kI6{cur:Nat->Int}:∀ {l:List Int} {b:Int},(∀j,j∈l->0<=L j.toNat)->lq (fld L cur b l) b
 | [],b,h=>kGK b
 | j::l,b,h=>k8I (kI6 (l:=l) (b:=bst b (cur j.toNat) (L j.toNat)) λk hk=>h k (List.mem_cons_of_mem _ hk)) (q11 (h j (List.mem_cons_self ..)))
theorem kTN{cur:Nat->Int}:∀ {l:List Int} {b:Int},(∀j,j∈l->0<=L j.toNat) -> -1<=b -> -1<=fld L cur b l
 | [],b,h,hb=>hb
 | j::l,b,h,hb=>kTN (l:=l) (λk hk=>h k (List.mem_cons_of_mem _ hk)) (kU6 (h j (List.mem_cons_self ..)) hb)
theorem kND{cur:Nat->Int}:∀ {l:List Int} {b:Int},(∀j,j∈l->0<=L j.toNat) -> -1<=b->∀j,j∈l->0<=cur j.toNat->lq (fld L cur b l) (cur j.toNat+L j.toNat)
 | [],b,h,hb,j,hj,hc=>by cases hj
 | k::l,b,h,hb,j,hj,hc=>by
   have hk:=h k (List.mem_cons_self ..);have ht:∀j,j∈l->0<=L j.toNat:=λj hj=>h j (List.mem_cons_of_mem _ hj);rcases List.mem_cons.1 hj with rfl|hj
   ·exact k8I (kI6 (l:=l) (b:=bst b (cur j.toNat) (L j.toNat)) ht) (kY5 hk hc hb)
   ·exact kND (l:=l) ht (kU6 hk hb) j hj hc
theorem kNE{cur:Nat->Int}:∀ {l:List Int} {b:Int},fld L cur b l=b\/∃j,j∈l/\0<=cur j.toNat/\fld L cur b l=cur j.toNat+L j.toNat
 | [],b=>.inl rfl
 | k::l,b=>by
   rcases kNE (cur:=cur) (l:=l) (b:=bst b (cur k.toNat) (L k.toNat)) with h|⟨j,h1,h2,h3⟩
   ·have e:fld L cur b (k::l)=bst b (cur k.toNat) (L k.toNat):=h
    rw[e];unfold bst;split
    ·rename_i hc;exact .inr ⟨k,List.mem_cons_self ..,hc.1,rfl⟩
    ·exact .inl rfl
   ·exact .inr ⟨j,List.mem_cons_of_mem _ h1,h2,h3⟩
variable (yH:∀i,i<n->∀j,j∈nx i->j.toNat<n) (hL:∀i,i<n->1<=L i)
include yH hL
theorem kHY{i:Nat}(hi:i<n):∀j,j∈nx i->0<=L j.toNat:=λj hj=>by have:=hL _ (yH i hi j hj);omega
theorem kYU:∀(r:Nat) {i:Nat},i<n -> -1<=J nx L r i
 | 0,i,hi=>by unfold J;split<;>omega
 | r+1,i,hi=>kTN (kHY yH hL hi) (kYU r hi)
theorem kP1(r:Nat){i:Nat}(hi:i<n):lq (J nx L (r+1) i) (J nx L r i):=kI6 (kHY yH hL hi)
theorem kHC(r:Nat){i:Nat}(hi:i<n):∀d,lq (J nx L (r+d) i) (J nx L r i)
 | 0=>kGK _
 | d+1=>k8I (kP1 yH hL (r+d) hi) (kHC r hi d)
theorem kUA(r:Nat){i:Nat}(hi:i<n){j:Int}(hj:j∈nx i)(hc:0<=J nx L r j.toNat):lq (J nx L (r+1) i) (J nx L r j.toNat+L j.toNat):=
 kND (kHY yH hL hi) (kYU yH hL r hi) j hj hc
theorem q1A(r:Nat){i:Nat}(hi:i<n)(h:J nx L (r+1) i≠J nx L r i):∃j,j∈nx i/\0<=J nx L r j.toNat/\J nx L (r+1) i=J nx L r j.toNat+L j.toNat:=by
 rcases kNE (L:=L) (cur:=J nx L r) (l:=nx i) (b:=J nx L r i) with h'|h'
 ·exact absurd h' h
 ·exact h'
theorem kYK:∀(r i:Nat),i<n->J nx L (r+1) i≠J nx L r i->∃c:Nat->Nat,c r=i/\(∀s,s<=r->c s<n/\0<=J nx L (s+1) (c s))/\∀s,s<r->J nx L (s+1) (c s)<J nx L (s+2) (c (s+1)):=by
 intro r
 induction r with
 | zero =>
   intro i hi h;obtain⟨j,h1,h2,h3⟩:=q1A yH hL 0 hi h;have:=hL _ (yH i hi j h1);refine⟨λ_=>i,rfl,λs hs=>⟨hi,?_⟩,λs hs=>by omega⟩;obtain rfl:s=0:=(by omega);show 0<=J nx L 1 i;rw[h3];omega
 | succ r ih =>
   intro i hi h;obtain⟨j,h1,h2,h3⟩:=q1A yH hL (r+1) hi h;have hjn:=yH i hi j h1;have hLj:=hL _ hjn
   have hup:J nx L (r+1) j.toNat≠J nx L r j.toNat:=by
    intro e;rw[e] at h2 h3;have k1:=kUA yH hL r hi h1 h2;rw[<- h3] at k1;exact h (kMX (kYU yH hL (r+2) hi) (kYU yH hL (r+1) hi) (kP1 yH hL (r+1) hi) k1)
   obtain⟨c,c1,c2,c3⟩:=ih j.toNat hjn hup;refine⟨λs=>if s=r+1 then i else c s,by simp,λs hs=>?_,λs hs=>?_⟩
   ·by_cases hsr:s=r+1
    ·subst hsr
     simp only[if_true];exact⟨hi,by rw[h3];omega⟩
    ·simp only[hsr,if_false]
     exact c2 s (by omega)
   ·have hs1:s≠r+1:=by omega
    simp only[hs1,if_false];by_cases hsr:s=r
    ·subst hsr
     simp only[if_true];rw[c1,h3];omega
    ·have:s+1≠r+1:=by omega
     simp only[this,if_false];exact c3 s (by omega)
omit yH hL in
theorem kTE:∀(n:Nat) (f:Nat->Nat),(∀k,k<=n->f k<n)->∃a b,a<b/\b<=n/\f a=f b
 | 0,f,h=>by have:=h 0 (by omega);omega
 | n+1,f,h=>by
   by_cases hx:∃a,a<=n/\f a=f (n+1)
   ·obtain⟨a,h1,h2⟩:=hx
    exact⟨a,n+1,by omega,by omega,h2⟩
   ·-- give the value n the place of the last one
    have hx:∀a,a<=n->f a≠f (n+1):=λa ha e=>hx ⟨a,ha,e⟩
    obtain⟨a,b,h1,h2,h3⟩:=kTE n (λk=>if f k=n then f (n+1) else f k) (λk hk=>by
     have h1:=h k (by omega);have h2:=h (n+1) (by omega);have h3:=hx k hk;show (if f k=n then f (n+1) else f k)<n;split<;>omega)
    refine⟨a,b,h1,by omega,?_⟩;have ha:=hx a (by omega);have hb:=hx b (by omega);have h3:(if f a=n then f (n+1) else f a)=(if f b=n then f (n+1) else f b):=h3;split at h3<;>split at h3<;>omega
theorem q2S{i:Nat}(hi:i<n):J nx L (n+1) i=J nx L n i:=by
 refine Classical.byContradiction λh=>?_;obtain⟨c,c1,c2,c3⟩:=kYK yH hL n i hi h;obtain⟨a,b,h1,h2,h3⟩:=kTE n c λk hk=>(c2 k hk).1
 have up:∀d,a+d<=n->J nx L (a+1) (c a)+d<=J nx L (a+d+1) (c (a+d)):=by
  intro d
  induction d with
  | zero=>intro _;show J nx L (a+1) (c a)+0<=J nx L (a+1) (c a);omega
  | succ d ih =>
    intro hd;have:=ih (by omega);have k:=c3 (a+d) (by omega);have e:a+(d+1)=a+d+1:=(by omega);rw[e];have e2:a+d+1+1=a+d+2:=(by omega);rw[e2];omega
 have k1:=up (b-a) (by omega);have e:a+(b-a)=b:=by omega
 rw[e] at k1;have k2:=kHC yH hL (a+1) (c2 b h2).1 (b-a);have e2:a+1+(b-a)=b+1:=by omega
 rw[e2,<- h3] at k2;rw[<- h3] at k1;have k3:=(c2 a (by omega)).2;unfold lq at k2;omega
theorem q2R{i:Nat}(hi:i<n){j:Int}(hj:j∈nx i){ci cj:Int}(h1:lq (J nx L n i) ci)(h2:lq (J nx L n j.toNat) cj):lq (J nx L n i) (bst ci cj (L j.toNat)):=by
 have hl:=hL _ (yH i hi j hj);unfold bst;split
 ·rename_i hc
  have h3:0<=J nx L n j.toNat/\J nx L n j.toNat<=cj:=(by unfold lq at h2;omega);have k:=kUA yH hL n hi hj h3.1;rw[q2S yH hL hi] at k;unfold lq at *;omega
 ·exact h1
theorem kYJ{i:Nat}(hi:i<n):lq (J nx L n i) (J nx L 0 i):=by
 have:=kHC yH hL 0 hi n;rw[Nat.zero_add] at this;exact this
end
end Go.Proofs.YtlchlddijclhjaaGreat
set_option linter.unusedSectionVars false
namespace Go.Proofs.YtlchlddijclhjaaGreat
structure Gs(n:Nat)(nx:Nat->List Int)(L:Nat->Int)(r i k:Nat)(B:Int)(f:Nat->Int):Prop where
 lo:∀x,x<n->lq (J nx L n x) (f x)
 ge:∀x,x<n -> -1<=f x/\f x<=B
 old:∀x,x<i->x<n->lq (f x) (J nx L (r+1) x)
 new:∀x,i<x->x<n->lq (f x) (J nx L r x)
 at_:i<n->lq (f i) (fld L (J nx L r) (J nx L r i) ((nx i).take k))
structure Gr0(n:Nat)(nx:Nat->List Int)(L:Nat->Int)(r:Nat)(B:Int)(f:Nat->Int):Prop where
 lo:∀x,x<n->lq (J nx L n x) (f x)
 ge:∀x,x<n -> -1<=f x/\f x<=B
 up:∀x,x<n->lq (f x) (J nx L r x)
def upd(f:Nat->Int)(i:Nat)(v:Int):Nat->Int:=λx=>if x=i then v else f x
section
variable {n:Nat} {nx:Nat->List Int} {L:Nat->Int} (yH:∀i,i<n->∀j,j∈nx i->j.toNat<n) (hL:∀i,i<n->1<=L i) {r i k:Nat} {B:Int} {f:Nat->Int}
include yH hL
theorem kRA(hB:0<=B)(hf:∀x,x<n->f x=J nx L 0 x):Gr0 n nx L 0 B f:=by
 refine⟨λx hx=>by rw[hf x hx];exact kYJ yH hL hx,λx hx=>?_,λx hx=>by rw[hf x hx];exact kGK _⟩;rw[hf x hx];unfold J;split<;>omega
theorem kR8(h:Gr0 n nx L r B f):Gs n nx L r 0 0 B f:=
 ⟨h.lo,h.ge,λx hx=>by omega,λx _ hx=>h.up x hx,λhi=>h.up 0 hi⟩
theorem kR9(h:Gs n nx L r n 0 B f):Gr0 n nx L (r+1) B f:=⟨h.lo,h.ge,λx hx=>h.old x hx hx⟩
theorem kW8(hi:i<n)(h:Gs n nx L r i (nx i).length B f):Gs n nx L r (i+1) 0 B f:=by
 refine⟨h.lo,h.ge,λx hx hn=>?_,λx hx hn=>h.new x (by omega) hn,λhn=>h.new (i+1) (by omega) hn⟩;by_cases hxi:x=i
 ·subst hxi
  have:=h.at_ hi;rw[List.take_length] at this;exact this
 ·exact h.old x (by omega) hn
theorem q2B(hi:i<n)(h:Gs n nx L r i k B f){x:Nat}(hx:x<n):lq (f x) (J nx L r x):=by
 rcases Nat.lt_trichotomy x i with h1|h1|h1
 ·exact k8I (h.old x h1 hx) (kP1 yH hL r hx)
 ·subst h1
  exact k8I (h.at_ hi) (kI6 λj hj=>kHY yH hL hi j (List.mem_of_mem_take hj))
 ·exact h.new x h1 hx
theorem kW9(hi:i<n)(h:Gs n nx L r i k B f){j:Int}(hj:(nx i)[k]?=some j){B':Int}(hB:B+L j.toNat<=B')(hB0:0<=L j.toNat){g:Nat->Int}(hg:∀x,x<n->g x=if x=i then bst (f i) (f j.toNat) (L j.toNat) else f x):Gs n nx L r i (k+1) B' g:=by
 have hm:j∈nx i:=List.mem_of_getElem? hj;have hjn:=yH i hi j hm;have hl:=hL _ hjn;have e:(nx i).take (k+1)=(nx i).take k++[j]:=by rw[List.take_add_one,hj];rfl
 refine⟨λx hx=>?_,λx hx=>?_,λx hxi hx=>?_,λx hxi hx=>?_,λ_=>?_⟩
 ·rw[hg x hx]
  split
  ·rename_i e;subst e
   exact q2R yH hL hx hm (h.lo x hx) (h.lo _ hjn)
  ·exact h.lo x hx
 ·rw[hg x hx]
  have h1:=h.ge x hx;have h2:=h.ge _ hjn;have h3:=h.ge i hi;split
  ·unfold bst;split<;>omega
  ·omega
 ·rw[hg x hx,if_neg (by omega)];exact h.old x hxi hx
 ·rw[hg x hx,if_neg (by omega)];exact h.new x hxi hx
 ·rw[hg i hi,if_pos rfl,e]
  unfold fld;rw[List.foldl_append];exact kSS (h.at_ hi) (q2B yH hL hi h hjn) (by omega)
theorem q02(h:Gr0 n nx L n B f){x:Nat}(hx:x<n):f x=J nx L n x:=
 kMX (h.ge x hx).1 (kYU yH hL n hx) (h.up x hx) (h.lo x hx)
end
open Go Go.RowKit Go.Eng
set_option maxRecDepth 100000
def kFV(X r:Int):Prop:=0<=r/\r*r<=X/\X<(r+1)*(r+1)
theorem kVI(n:Nat):∃r,kFV n r:=by
 induction n with
 | zero=>exact⟨0,by decide,by decide,by decide⟩
 | succ n ih =>
   obtain⟨r,h0,h1,h2⟩:=ih;by_cases h:(r+1)*(r+1)<=((n+1:Nat):Int)
   ·refine⟨r+1,by omega,h,?_⟩
    have:(r+1+1)*(r+1+1)=(r+1)*(r+1)+2*(r+1)+1:=(by rw[Int.mul_add,Int.add_mul];omega);omega
   ·exact⟨r,h0,by omega,by omega⟩
theorem kHS{X:Int}(h:0<=X):∃r,kFV X r:=by
 obtain⟨n,rfl⟩:=Int.eq_ofNat_of_zero_le h;exact kVI n
theorem kVH{X r b:Int}(h:kFV X r)(hb:0<=b)(hX:X<b*b):r<b:=by
 obtain⟨h0,h1,h2⟩:=h;apply Int.lt_of_not_ge;intro hge;have:b*b<=r*r:=Int.mul_le_mul hge hge hb (by omega);omega
theorem kWR{a b r:Int}(ha0:0<=a)(ha1:a<9223372036854775808)(hb0:0<=b)(hb1:b<9223372036854775808)(hr:kFV (a*b) r):k02 Tryz.prog 168 [.int .i64 a,.int .i64 b] (· = .tuple [.int .i64 r,.int .i64 0]):=by
 (refine k02.ofY Tryz.func168 (by kernel_rfl) (by kernel_rfl) λw hw R hR=>?_);(obtain⟨zA,zG,yT,zD,zF,zW,yR,zN,zQ,zP,yC,zZ,zV,zT,zK,zM,zO,yE,zS,yF⟩:=w);(have zC:zA=k05:=congrArg k01.bin hw);(have zB:zG=k04:=congrArg k01.cmp hw);(have yM:yT=k08:=congrArg k01.un hw);(have zH:zD=λk n=>k.wrap n:=congrArg k01.conv hw);(have zI:zF=λb=> !b:=congrArg k01.not hw);(have yK:zW=λa b=>a == b:=congrArg k01.beq hw);(have yU:yR=k0M:=congrArg k01.mm hw);(have zX:zN=k03:=congrArg k01.scmp hw);(have yB:zQ=λx y=>x++y:=congrArg k01.sadd hw);(have yA:zP=λs=>(s.size:Int):=congrArg k01.slen hw);(have yQ:yC=std.sat:=congrArg k01.sat hw);(have yP:zZ=λa b os=>(k0O a b os).getD false:=congrArg k01.eqs hw);(have zE:zV=λes=>(es.length:Int):=congrArg k01.len hw);(have yO:zT=λes=>es.length:=congrArg k01.nlen hw);(have zR:zK=(λn:Nat=>(n:Int)):=congrArg k01.ofNat hw);(have yD:zM=λes b=>es.take b.toNat:=congrArg k01.take hw);(have yI:zO=λes a=>es.drop a.toNat:=congrArg k01.drop hw);(have yW:yE=λa b=>a++b:=congrArg k01.app hw);(have yN:zS=λn z=>List.replicate n.toNat z:=congrArg k01.zero hw);(have yX:yF=λn=>n.toNat:=congrArg k01.nat hw);(conv=>arg 2;cbv);(generalize hP:Tryz.prog=P);cbv;have hab0:0<=a*b:=Int.mul_nonneg ha0 hb0;have hab1:a*b<=9223372036854775807*9223372036854775807:=Int.mul_le_mul (by omega) (by omega) hb0 (by decide);have hr1:r<9223372036854775808:=kVH hr (by decide) (by omega);obtain⟨h0,h1,h2⟩:=hr;(split<;>rename_i h<;>(try (simp only[zC,zB,yM,zH,zI,yK,yU,zX,yB,yA,yQ,yP,zR,k05,k04,k08,k03,k0M,Bool.not_eq_true',Bool.not_eq_false',decide_eq_true_eq,decide_eq_false_iff_not,Int.not_lt,Int.not_le,if_true,if_false,Bool.false_eq_true,beq_iff_eq,bne_iff_ne,ne_eq,Bool.not_eq_eq_eq_not,Bool.not_true,Bool.not_false,beq_eq_false_iff_ne,bne_eq_false_iff_eq,Int.ofNat_eq_natCast,Bool.not_not,not_true_eq_false,not_false_eq_true,reduceCtorEq] at h))<;>(try cbv))
 ·exfalso;omega
 (split<;>rename_i h<;>(try (simp only[zC,zB,yM,zH,zI,yK,yU,zX,yB,yA,yQ,yP,zR,k05,k04,k08,k03,k0M,Bool.not_eq_true',Bool.not_eq_false',decide_eq_true_eq,decide_eq_false_iff_not,Int.not_lt,Int.not_le,if_true,if_false,Bool.false_eq_true,beq_iff_eq,bne_iff_ne,ne_eq,Bool.not_eq_eq_eq_not,Bool.not_true,Bool.not_false,beq_eq_false_iff_ne,bne_eq_false_iff_eq,Int.ofNat_eq_natCast,Bool.not_not,not_true_eq_false,not_false_eq_true,reduceCtorEq] at h))<;>(try cbv))
 ·exfalso;omega
 have ca:zD .u64 a=a:=by rw[zH];show IntKind.u64.wrap a=a;rw[IntKind.wrap_u64];omega
 have cb:zD .u64 b=b:=by rw[zH];show IntKind.u64.wrap b=b;rw[IntKind.wrap_u64];omega
 have cr:zD .i64 r=r:=by rw[zH];show IntKind.i64.wrap r=r;rw[IntKind.wrap_i64];omega
 simp only[ca,cb];obtain⟨mh,emh⟩:∃x,a*b/18446744073709551616=x:=⟨_,rfl⟩;obtain⟨ml,eml⟩:∃x,a*b%18446744073709551616=x:=⟨_,rfl⟩;refine Call.stepE (by rw[<- hP];exact kX2 ha0 (by omega) hb0 (by omega) emh eml) rfl ?_;cbv;have em:mh*18446744073709551616+ml=a*b:=by omega
 refine Call.stepE (by rw[<- hP];exact q0K _ _ r (by omega) (by omega) (by omega) (by omega) h0 (by omega) (by omega)) rfl ?_;cbv;refine⟨_,Vw.same rfl,hR _ ?_⟩;show AV.tuple _=AV.tuple _;rw[cr]
def k8Y(X m v:Int):Prop:=0<=v/\v<=m/\v*v<=X/\(v=m\/X<(v+1)*(v+1))
theorem kMF{X Y m v u:Int}(h:k8Y X m v)(k:k8Y Y m u)(hXY:X<=Y):v<=u:=by
 obtain⟨h0,h1,h2,h3⟩:=h;obtain⟨k0,k1,k2,k3⟩:=k;refine Int.not_lt.1 λhlt=>?_;rcases k3 with k3|k3
 ·omega
 ·have:(u+1)*(u+1)<=v*v:=Int.mul_le_mul hlt hlt (by omega) (by omega)
  omega
theorem kVQ{X m v u:Int}(h:k8Y X m v)(k:k8Y X m u):v=u:=by
 have:=kMF h k (Int.le_refl _);have:=kMF k h (Int.le_refl _);omega
theorem k9P{X m r:Int}(hm:0<=m)(h:kFV X r):k8Y X m (if m<r then m else r):=by
 obtain⟨h0,h1,h2⟩:=h;split
 ·rename_i hlt
  refine⟨hm,by omega,?_,.inl rfl⟩;have:m*m<=r*r:=Int.mul_le_mul (by omega) (by omega) hm h0;omega
 ·exact⟨h0,by omega,h1,.inr h2⟩
def kQZ(f:Int):Int:=if f<0 then 0 else f
theorem kGX{c0 c1 c2 c3 c4 c5 c6 c7 c8 c9 c10 c11 c12 c13 f v:Int}(hb0:1<=c13)(hb1:c13<=1048576)(hm:0<=c6)(hf1:f<=9223372036854775807)(hf0: -9223372036854775808<=f)(hv:k8Y (2*c13*kQZ f) c6 v):k02 Tryz.prog 109 [.agg [.int .i64 c0,.int .i64 c1,.int .i64 c2,.int .i64 c3,.int .i64 c4,.int .i64 c5,.int .i64 c6,.int .i64 c7,.int .i64 c8,.int .i64 c9,.int .i64 c10,.int .i64 c11,.int .i64 c12,.int .i64 c13],.int .i64 f] (· = .int .i64 v):=by
 (refine k02.ofY Tryz.func109 (by kernel_rfl) (by kernel_rfl) λw hw R hR=>?_);(obtain⟨zA,zG,yT,zD,zF,zW,yR,zN,zQ,zP,yC,zZ,zV,zT,zK,zM,zO,yE,zS,yF⟩:=w);(have zC:zA=k05:=congrArg k01.bin hw);(have zB:zG=k04:=congrArg k01.cmp hw);(have yM:yT=k08:=congrArg k01.un hw);(have zH:zD=λk n=>k.wrap n:=congrArg k01.conv hw);(have zI:zF=λb=> !b:=congrArg k01.not hw);(have yK:zW=λa b=>a == b:=congrArg k01.beq hw);(have yU:yR=k0M:=congrArg k01.mm hw);(have zX:zN=k03:=congrArg k01.scmp hw);(have yB:zQ=λx y=>x++y:=congrArg k01.sadd hw);(have yA:zP=λs=>(s.size:Int):=congrArg k01.slen hw);(have yQ:yC=std.sat:=congrArg k01.sat hw);(have yP:zZ=λa b os=>(k0O a b os).getD false:=congrArg k01.eqs hw);(have zE:zV=λes=>(es.length:Int):=congrArg k01.len hw);(have yO:zT=λes=>es.length:=congrArg k01.nlen hw);(have zR:zK=(λn:Nat=>(n:Int)):=congrArg k01.ofNat hw);(have yD:zM=λes b=>es.take b.toNat:=congrArg k01.take hw);(have yI:zO=λes a=>es.drop a.toNat:=congrArg k01.drop hw);(have yW:yE=λa b=>a++b:=congrArg k01.app hw);(have yN:zS=λn z=>List.replicate n.toNat z:=congrArg k01.zero hw);(have yX:yF=λn=>n.toNat:=congrArg k01.nat hw);(conv=>arg 2;cbv);(generalize hP:Tryz.prog=P);cbv;obtain⟨b2,eb2⟩:∃x,2*c13=x:=⟨_,rfl⟩;obtain⟨g,eg⟩:∃x,kQZ f=x:=⟨_,rfl⟩;have hg:0<=g/\g<=9223372036854775807:=by rw[<- eg];unfold kQZ;split<;>omega
 have e1:zA .mul .i64 2 c13=b2:=by rw[zC];exact(kN5 (by omega) (by omega)).trans eb2
 have e2:yR true f 0=g:=by rw[yU,<- eg];simp only[k0M,kQZ,if_true]
 rw[eb2,eg] at hv;obtain⟨r,hr⟩:=kHS (X:=b2*g) (Int.mul_nonneg (by omega) hg.1);have hvr:=kVQ hv (k9P hm hr);simp only[e1,e2];refine Call.stepE (by rw[<- hP];exact kWR (by omega) (by omega) hg.1 (by omega) hr) rfl ?_;cbv;repeat' (split<;>rename_i h<;>(try (simp only[zC,zB,yM,zH,zI,yK,yU,zX,yB,yA,yQ,yP,zR,k05,k04,k08,k03,k0M,Bool.not_eq_true',Bool.not_eq_false',decide_eq_true_eq,decide_eq_false_iff_not,Int.not_lt,Int.not_le,if_true,if_false,Bool.false_eq_true,beq_iff_eq,bne_iff_ne,ne_eq,Bool.not_eq_eq_eq_not,Bool.not_true,Bool.not_false,beq_eq_false_iff_ne,bne_eq_false_iff_eq,Int.ofNat_eq_natCast,Bool.not_not,not_true_eq_false,not_false_eq_true,reduceCtorEq] at h))<;>(try cbv))
 ·refine⟨_,Vw.same rfl,hR _ (congrArg (AV.int .i64) ?_)⟩
  rw[hvr,if_pos (by omega)]
 ·refine⟨_,Vw.same rfl,hR _ (congrArg (AV.int .i64) ?_)⟩
  rw[hvr,if_neg (by omega)]
end Go.Proofs.YtlchlddijclhjaaGreat
namespace Go.Proofs.YtlchlddijclhjaaGreat
open Go Go.RowKit Go.Eng
set_option maxRecDepth 100000
theorem q0W(a b:Int):k02 Tryz.prog 96 [.int .i64 a,.int .i64 b] (λr=>∃s o,r = .tuple [.int .i64 s,.bool o]/\((-9223372036854775808<=a+b/\a+b<9223372036854775808)->o=true/\s=a+b)):=by
 (refine k02.ofX Tryz.func96 (by kernel_rfl) (by kernel_rfl) λw hw R hR=>?_);(conv=>arg 2;cbv);(generalize hP:Tryz.prog=P);cbv;subst hw;have hwr:(-9223372036854775808<=a+b/\a+b<9223372036854775808)->std.1 .add .i64 a b=a+b:=λh=>kSV h.1 h.2;repeat' (split<;>rename_i h<;>(try (simp only[std,k05,k04,k08,k03,k0M,Bool.not_eq_true',Bool.not_eq_false',decide_eq_true_eq,decide_eq_false_iff_not,Int.not_lt,Int.not_le,if_true,if_false,Bool.false_eq_true,beq_iff_eq,bne_iff_ne,ne_eq,Bool.not_eq_eq_eq_not,Bool.not_true,Bool.not_false,beq_eq_false_iff_ne,bne_eq_false_iff_eq,Int.ofNat_eq_natCast] at h)))
 ·refine⟨_,Vw.same rfl,hR _ ⟨_,_,rfl,λhr=>?_⟩⟩
  have e:IntKind.i64.wrap (a+b)=a+b:=hwr hr;clear hR;simp only[e,decide_eq_decide] at *;omega
 ·exact⟨_,Vw.same rfl,hR _ ⟨_,_,rfl,λhr=>⟨rfl,hwr hr⟩⟩⟩
 ·exact⟨_,Vw.same rfl,hR _ ⟨_,_,rfl,λhr=>⟨rfl,hwr hr⟩⟩⟩
def InR(x:Int):Prop:= -9223372036854775808<=x/\x<9223372036854775808
theorem kIH(a b:Int):k02 Tryz.prog 73 [sp2 a b] (λr=>∃o:Bool,r = .bool o/\(o=true↔a<=b)):=by
 (refine k02.ofX Tryz.func73 (by kernel_rfl) (by kernel_rfl) λw hw R hR=>?_);(conv=>arg 2;cbv);(generalize hP:Tryz.prog=P);cbv;subst hw;exact⟨_,Vw.same rfl,hR _ ⟨_,rfl,by simp[std,k04]⟩⟩
theorem q0J(a b c d:Int):k02 Tryz.prog 105 [sp2 a b,sp2 c d] (λr=>∃l h o,r = .tuple [sp2 l h,.bool o]/\(a<=b->c<=d->InR (a+c)->InR (b+d)->o=true/\l=a+c/\h=b+d)):=by
 (refine k02.ofX Tryz.func105 (by kernel_rfl) (by kernel_rfl) λw hw R hR=>?_);(conv=>arg 2;cbv);(generalize hP:Tryz.prog=P);cbv;refine Call.step (by rw[<- hP];exact kIH _ _) rfl ?_;rintro r ⟨o,rfl,ho⟩;cbv;split<;>rename_i h0<;>rw[hw] at h0<;>simp only[std,k05,k04,k08,k03,k0M,Bool.not_eq_true',Bool.not_eq_false',decide_eq_true_eq,decide_eq_false_iff_not,Int.not_lt,Int.not_le,if_true,if_false,Bool.false_eq_true,beq_iff_eq,bne_iff_ne,ne_eq,Bool.not_eq_eq_eq_not,Bool.not_true,Bool.not_false,beq_eq_false_iff_ne,bne_eq_false_iff_eq,Int.ofNat_eq_natCast] at h0
 ·refine⟨_,Vw.same rfl,hR _ ⟨_,_,_,rfl,λh1=>?_⟩⟩
  rw[h0] at ho;simp at ho;omega
 refine Call.step (by rw[<- hP];exact kIH _ _) rfl ?_;rintro r ⟨o2,rfl,ho2⟩;cbv;split<;>rename_i h2<;>rw[hw] at h2<;>simp only[std,k05,k04,k08,k03,k0M,Bool.not_eq_true',Bool.not_eq_false',decide_eq_true_eq,decide_eq_false_iff_not,Int.not_lt,Int.not_le,if_true,if_false,Bool.false_eq_true,beq_iff_eq,bne_iff_ne,ne_eq,Bool.not_eq_eq_eq_not,Bool.not_true,Bool.not_false,beq_eq_false_iff_ne,bne_eq_false_iff_eq,Int.ofNat_eq_natCast] at h2
 ·refine⟨_,Vw.same rfl,hR _ ⟨_,_,_,rfl,λh1 h3=>?_⟩⟩
  rw[h2] at ho2;simp at ho2;omega
 refine Call.step (by rw[<- hP];exact q0W _ _) rfl ?_;rintro r ⟨x,o3,rfl,h3⟩;cbv;refine Call.step (by rw[<- hP];exact q0W _ _) rfl ?_;rintro r ⟨y,o4,rfl,h4⟩;cbv;refine Call.step (by rw[<- hP];exact kTV _ _ _ _) rfl ?_;rintro r ⟨l,h,o5,rfl,h5,h6,h7⟩;cbv;refine⟨_,Vw.same rfl,hR _ ⟨_,_,_,rfl,λg1 g2 g3 g4=>?_⟩⟩;obtain⟨k1,k2⟩:=h3 g3;obtain⟨k3,k4⟩:=h4 g4;have k5:o5=true:=h5.2 ⟨k1,k3,by omega⟩;obtain⟨k6,k7⟩:=h6 k5;exact⟨k5,by omega,by omega⟩
end Go.Proofs.YtlchlddijclhjaaGreat
