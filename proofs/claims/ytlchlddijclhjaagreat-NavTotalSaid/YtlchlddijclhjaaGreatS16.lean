/- Parts of the proofs. -/
import Derived.Test.YtlchlddijclhjaaGreatS13
import Derived.KernelRfl
import Derived.OwnWalk
import Derived.Below
import Derived.Test.YtlchlddijclhjaaGreatS8
import Derived.Test.YtlchlddijclhjaaGreatShelfQ
import Derived.WalkKit
import Derived.ProofKit
import Derived.LoopN
import Derived.Test.YtlchlddijclhjaaGreatS9
import Derived.Test.YtlchlddijclhjaaGreatSZ
set_option linter.unusedVariables false
set_option linter.unusedSimpArgs false
set_option maxHeartbeats 4000000
namespace Go.Proofs.YtlchlddijclhjaaGreat
open Go Go.RowKit Go.Eng
structure Sg where
 len:Int
 ps:List (Int×Int)
 nx:List Int
structure Gr where
 id:Int
 seg:Int
 off:Int
 acc:Int
 sl:Int
def k1E(p:Int×Int):List AV:=[p.1,p.2]
def k0K(n:Int):List AV:=[n]
def k0Y(s:Sg):List AV:=[s.len,.list 2 (s.ps.map k1E),.list 1 (s.nx.map k0K)]
def k14(g:Gr):List AV:=[g.id,g.seg,g.off,g.acc,g.sl]
theorem kE8{len:Int}{q n:List (List AV)}(hq:Up0 q)(hn:Up0 n):k0Q 0 [len,.list 2 q,.list 1 n]=true:=
 Bool.and_eq_true_iff.mpr ⟨rfl,Up0.one hq (Up0.one hn rfl)⟩
theorem kYY{len:Int}{q n:List (List AV)}(hq:Up0 q)(hn:Up0 n):Up0 [[len,.list 2 q,.list 1 n]]:=
 ⟨Bool.and_eq_true_iff.mpr ⟨kE8 hq hn,rfl⟩⟩
theorem k7F(ps:List (Int×Int)):Up0 (ps.map k1E):=k1D (f:=k1E) (λd=>rfl) ps
theorem k3K(ns:List Int):Up0 (ns.map k0K):=k1D (f:=k0K) (λd=>rfl) ns
theorem k43(gs:List Gr):Up0 (gs.map k14):=k1D (f:=k14) (λd=>rfl) gs
theorem k42(ss:List Sg):Up0 (ss.map k0Y):=k1D (f:=k0Y) (λs=>kE8 (k7F s.ps) (k3K s.nx)) ss
set_option maxRecDepth 100000
def q1L(ps:List (Int×Int))(len:Int)(j:Nat):Prop:=
 ∀p,ps[j]?=some p -> -1048576<=p.2/\p.2<=1048576/\p.1<len/\(0<j->∀o,ps[j-1]?=some o->o.1<p.1)
structure kSW(ps:List (Int×Int))(len:Int):Prop where
 ne:1<=ps.length
 le:ps.length<=64
 zero:∀p,ps[0]?=some p->p.1=0
 all:∀j,j<ps.length->q1L ps len j
theorem k8U{P:Nat->Prop}{i:Int}(h0:0<=i)(h:∀j,j<i.toNat->P j)(hi:P i.toNat):∀j,j<(i+1).toNat->P j:=by
 intro j hj;by_cases e:j=i.toNat
 ·rw[e];exact hi
 ·exact h j Z.o
structure kDV(s:Sg)(many:Int):Prop where
 pos:1<=s.len
 le:s.len<=1099511627776
 may:kSW s.ps s.len
 two:s.nx.length<=2
 nx:∀j,j<s.nx.length->∀n,s.nx[j]?=some n->0<=n/\n<many
 lt:∀a b,s.nx[0]?=some a->s.nx[1]?=some b->a<b
def q1B(ss:List Sg)(gs:List Gr)(j:Nat):Prop:=
 ∀g,gs[j]?=some g->0<g.id/\g.id<=65535/\0<=g.seg/\g.seg.toNat<ss.length/\0<=g.off/\(∀s,ss[g.seg.toNat]?=some s->g.off<=s.len)/\0<=g.acc/\g.acc<=1048576/\0<=g.sl/\g.sl<=16777216/\(0<j->∀o,gs[j-1]?=some o->o.id<g.id)
structure k1I(ss:List Sg)(gs:List Gr):Prop where
 ne:1<=ss.length
 le:ss.length<=200
 gle:gs.length<=400
 seg:∀j,j<ss.length->∀s,ss[j]?=some s->kDV s ss.length
 grp:∀j,j<gs.length->q1B ss gs j
def k1O(ss:List Sg)(n:Int):Int:=match ss[n.toNat]? with|some s=>s.len|none=>0
def k8C(l:List Int):List AV:=[.list 1 (l.map k0K)]
theorem kL4(rs:List (List Int)):Up0 (rs.map k8C):=k1D (f:=k8C) (λd=>Up0.one (k3K d) rfl) rs
theorem k24{α: Type}{l:List α}{i:Int}{a: α}(h0:0<=i)(hr:l[i.toNat]?=some a):l.take (i+1).toNat=l.take i.toNat++[a]:=by
 rw[show (i+1).toNat=i.toNat+1 by omega,List.take_add_one,hr];rfl
structure k2N(ss:List Sg):Prop where
 pos:∀s,s∈ss->1<=s.len/\s.len<=1099511627776
set_option maxRecDepth 100000
theorem Rel.below{C:Cfg}(R:Rel C){w':World}(hb:Below C.w.heap.size C.w w'):Rel { C with w:=w' }/\∀n,Ext n C { C with w:=w' }:=by
 have he:∀n,Ext n C { C with w:=w' }:=λn=>⟨rfl,hb.os,hb.tape,hb.output,hb.size,λs _ h=>⟨h,rfl⟩,λb hlt ho=>⟨hb.block b hlt,ho⟩,λb x hx=>by
  have hlt:b<C.w.heap.size:=by
   unfold World.shape? at hx;split at hx
   ·rename_i c el fz he;exact(Array.getElem?_eq_some_iff.1 he).1
   ·cases hx
  unfold World.shape? at hx ⊢;show (match w'.heap[b]? with|some (.cells c elem _)=>some (elem,c.size)|_=>none)=some x;rw[hb.block b hlt];exact hx⟩
 exact⟨R.of_ext (he _) (λs z es hl=>.inl ⟨hl,rfl,hb.block _ (R.lown_lt ⟨s,⟨z,es,hl⟩,rfl⟩)⟩) R.inj,he⟩
theorem kJY{C:Cfg}(R:Rel C){w':World}{g:Nat}(hg:C.w.heap.size<=g):¬Cfg.own { C with w:=w' } g:=by
 rintro(ho|⟨s,⟨z,es,hs⟩,hr⟩)
 ·have:=R.olt _ ho;omega
 ·have:=R.lown_lt ⟨s,⟨z,es,hs⟩,rfl⟩
  simp only at hr;omega
theorem kQA{C:Cfg}(R:Rel C){w':World}{e:TypeId}{z:Nat}{v:Value}{es:List (List AV)}{xs:List Value}(hz0:0<z)(ho:w'.ownsRow C.w.heap.size e z v es.length xs)(hz:∀r,r∈es->r.length=z)
 (hv:∀(i:Nat) (r:List AV),es[i]?=some r->∀(j:Nat) (x:AV),r[j]?=some x->VR { C with w:=w' } x (xs.getD (i*z+j) undef)):VR { C with w:=w' } (.list z es) v:=by
 obtain⟨hxl,⟨rfl,h0⟩|⟨g,cap,cur,rfl,hg,hcell,hn,hcap,hsz,yD⟩⟩:=ho
 ·have:es=[]:=List.length_eq_zero_iff.1 h0
  subst this;exact .listNil z none 0
 ·refine .list z _ ⟨g,0,none⟩ es.length cap (λi j=>xs.getD (i*z+j) undef) rfl hn rfl hz (λi j hi hj=>?_) (λ_ _ ho=>kJY R hg ho) hv
  have hlt:=k53 (n:=es.length) (z:=z) hi hj;have hcz:es.length*z<=cap*z:=Nat.mul_le_mul_right z hn;show w'.cell? _=_
  have h1:cur[i*z+j]?=xs[i*z+j]?:=by
   rw[<- yD,List.getElem?_take,if_pos hlt,Array.getElem?_toList]
  have h2:xs[i*z+j]?=some (xs.getD (i*z+j) undef):=k1P undef Z.o;rw[<- h2,<- h1];unfold World.cell?;simp only[hcell,Nat.zero_add,Option.isSome_none,Bool.false_eq_true,if_false]
theorem kN4{C:Cfg}(R:Rel C){w':World}{e:TypeId}{v:Value}{ns:List Int}(ho:w'.ownsRow C.w.heap.size e 1 v ns.length (ns.map (Value.int .i64))):VR { C with w:=w' } (.list 1 (ns.map k0K)) v:=by
 refine kQA R (z:=1) (es:=ns.map k0K) Z.d (by simpa using ho) (λr hr=>?_) λi r hr j x hx=>?_
 ·obtain⟨y,_,rfl⟩:=List.mem_map.1 hr;rfl
 ·rw[List.getElem?_map] at hr
  cases hi:ns[i]? with
  | none=>rw[hi] at hr;cases hr
  | some y =>
    rw[hi] at hr;simp only[Option.map_some,Option.some.injEq] at hr;subst hr
    cases j with
    | zero =>
      simp only[k0K,List.getElem?_cons_zero,Option.some.injEq] at hx;subst hx;have:(ns.map (Value.int .i64)).getD (i*1+0) undef = .int .i64 y:=(by simp[List.getD_eq_getElem?_getD,hi]);rw[this];exact .int _ _
    | succ j=>simp[k0K] at hx
theorem kGF{w:World}{b b':Nat}(h:b'<=b){e:TypeId}{z n:Nat}{v:Value}{xs:List Value}(ho:w.ownsRow b e z v n xs):w.ownsRow b' e z v n xs:=by
 obtain⟨h1,h2|⟨g,cap,cur,h3,h4,h5⟩⟩:=ho
 ·exact⟨h1,.inl h2⟩
 ·exact⟨h1,.inr ⟨g,cap,cur,h3,by omega,h5⟩⟩
open Go Go.RowKit Go.Eng Go.Shelf Go.Sort Go.Lib
set_option maxRecDepth 100000
theorem kGP{w:World}{b:Nat}{cs:Array Value}{t:TypeId}{fz:Nat×Nat}(h:w.heap[b]?=some (.cells cs t fz))(hz:kFW cs fz)(i:Nat)(hi:i<cs.size):w.frozen? ⟨b,i,none⟩=false:=by
 obtain⟨lo,hi'⟩:=fz;unfold World.frozen?;unfold kFW at hz;simp only[h,Bool.and_eq_false_iff,decide_eq_false_iff_not];simp only at hz;omega
theorem kZR{ns:List Int}{i:Nat}{r:List AV}(h:(ns.map k0K)[i]?=some r):i<ns.length/\r=[.int .i64 ns[i]!]:=by
 rw[List.getElem?_map] at h
 cases hi:ns[i]? with
 | none=>rw[hi] at h;cases h
 | some y =>
   rw[hi] at h;simp only[Option.map_some,Option.some.injEq] at h;obtain⟨h1,h2⟩:=List.getElem?_eq_some_iff.1 hi;exact⟨h1,by rw[<- h,getElem!_pos ns i h1,h2];rfl⟩
theorem kI2{C:Cfg}(RC:Rel C){s:Nat}{ns:List Int}(hs:C.h[s]?=some (.live 1 (ns.map k0K))):C.r s<C.w.heap.size/\Go.Sort.Holds (Value.int .i64) C.w (C.r s) 0 ns.toArray:=by
 obtain⟨_,hO,hrl,us,ty,fz,hcell,hfz,hul,hur⟩:=RC.live s 1 _ hs Z.d;refine⟨(Array.getElem?_eq_some_iff.1 hcell).1,λj hj=>⟨?_,kGP hcell hfz _ (by simp at hul hj;omega)⟩⟩;have hj':j<ns.length:=by simpa using hj
 have hv:=(hur j [.int .i64 ns[j]!] (by rw[List.getElem?_map,List.getElem?_eq_getElem hj',getElem!_pos ns j hj'];rfl) 0 _ rfl).int';have hju:j<us.size:=by simp at hul;omega
 unfold World.cell?;simp only[hcell,Option.isSome_none,Bool.false_eq_true,if_false,Nat.zero_add];rw[Nat.mul_one,Nat.add_zero,Array.getD_eq_getD_getElem?,Array.getElem?_eq_getElem hju] at hv;rw[Array.getElem?_eq_getElem hju];simp only[Option.getD_some] at hv;rw[hv];simp[hj']
theorem kTC{C:Cfg}(RC:Rel C){s:Nat}{ns ns':List Int}(hs:C.h[s]?=some (.live 1 (ns.map k0K)))(hl:ns'.length=ns.length)(m:Nat) :
 Rel { C with h:=C.h.set s (.live 1 (ns'.map k0K)),w:=putRow (Value.int .i64) (Sort.ahead C.w m) (C.r s) 0 ns'.toArray }/\Ext C.h.length C { C with h:=C.h.set s (.live 1 (ns'.map k0K)),w:=putRow (Value.int .i64) (Sort.ahead C.w m) (C.r s) 0 ns'.toArray }:=by
 obtain⟨_,hO,hrl,us,ty,fz,hcell,hfz,hul,hur⟩:=RC.live s 1 _ hs Z.d;have hslt:s<C.h.length:=(List.getElem?_eq_some_iff.1 hs).1
 have hw1:(putRow (Value.int .i64) (Sort.ahead C.w m) (C.r s) 0 ns'.toArray).heap[C.r s]?=some (.cells (putCells (Value.int .i64) 0 ns'.toArray us) ty fz):=by
  simp only[putRow,mapBlock,Sort.ahead,Array.getElem?_modify,if_true,hcell,Option.map_some,onCells]
 have hw2:∀b,b≠C.r s->(putRow (Value.int .i64) (Sort.ahead C.w m) (C.r s) 0 ns'.toArray).heap[b]?=C.w.heap[b]?:=λb hb=>by
  simp only[putRow,mapBlock,Sort.ahead,Array.getElem?_modify,if_neg (Ne.symm hb)]
 refine Rel.write RC s (C.h.set s (.live 1 (ns'.map k0K))) (putRow (Value.int .i64) (Sort.ahead C.w m) (C.r s) 0 ns'.toArray) 1 (ns.map k0K) (ns'.map k0K) us (putCells (Value.int .i64) 0 ns'.toArray us) ty C.h.length Z.d hs
  (List.getElem?_set_self hslt) (λk hk=>List.getElem?_set_ne (Ne.symm hk)) hfz hcell hw1 (by simp[putCells]) hw2 rfl rfl rfl (by simp[putRow,mapBlock,Sort.ahead])
  (λe he=>by obtain⟨x,_,rfl⟩:=List.mem_map.1 he;rfl) (by simp[putCells] at hul ⊢;omega) (λi e he j x hx=>?_)
 obtain⟨hi,rfl⟩:=kZR he
 cases j with
 | succ j=>simp at hx
 | zero =>
   simp only[List.getElem?_cons_zero,Option.some.injEq] at hx;subst hx;have hiu:i<us.size:=by simp at hul;omega
   have:(putCells (Value.int .i64) 0 ns'.toArray us).getD (i*1+0) undef = .int .i64 ns'[i]! :=by
    rw[Nat.mul_one,Nat.add_zero,Array.getD_eq_getD_getElem?];unfold putCells;rw[Array.getElem?_mapIdx,Array.getElem?_eq_getElem hiu];simp only[Option.map_some,Option.getD_some,Nat.zero_le,true_and,Nat.zero_add,Nat.sub_zero];rw[if_pos (by simpa using hi)];simp[hi]
   rw[this];exact .int _ _
theorem kH5{P:Program}(hP:Tryz.prog=P){h:k00}{K:AV->k00->Prop}{s n:Nat}{es:List (List AV)}{ns:List Int}(hs:h[s]?=some (.live 1 es))(zU:es=ns.map k0K)(hn:n=ns.length)(hsz:ns.length<=1000000)
 (hK:∀ns':List Int,ns'.Perm ns->ns'.Pairwise (· <= ·)->K (.tuple []) (h.set s (.live 1 (ns'.map k0K)))) :
 k06 P 231 [.sl s 1 0 n] h K:=by
 subst hP zU;refine⟨⟨_,Tryz.func231,by kernel_rfl,by kernel_rfl⟩,λC vs hC RC hv=>?_⟩;subst hC;obtain⟨hvl,hv0⟩:=hv
 have hvs:vs = #[vs.getD 0 undef]:=by
  have hn:vs.size=1:=(by simpa using hvl);obtain⟨l⟩:=vs
  match l,hn with
  | [x],_=>rfl
 obtain⟨cap,e0,hus,hnc,_⟩:=(hv0 0 _ rfl).sls;rw[hvs,e0];obtain⟨hBm,hH⟩:=kI2 RC hs;have hcall:=AnyM.slices_Sort_int Tryz.sortL64 (C.r s) 0 cap ns C.w hH hBm Z.o;rw[<- hn] at hcall;refine hcall.mono ?_;rintro e w' ⟨rfl,m,os,rfl⟩;have hperm:(ns.mergeSort λx y=>decide (x<=y)).Perm ns:=List.mergeSort_perm _ _
 have hsort:(ns.mergeSort λx y=>decide (x<=y)).Pairwise (· <= ·):=by
  have:=List.pairwise_mergeSort (le:=λx y:Int=>decide (x<=y)) (λa b c h1 h2=>by simp at h1 h2 ⊢;omega) (λa b=>by simp;omega) ns;exact this.imp λh=>by simpa using h
 generalize ns.mergeSort (λx y=>decide (x<=y))=ns' at hperm hsort;obtain⟨R1,E1⟩:=kTC RC hs hperm.length_eq m
 have hbel:Below (putRow (Value.int .i64) (Sort.ahead C.w m) (C.r s) 0 ns'.toArray).heap.size (putRow (Value.int .i64) (Sort.ahead C.w m) (C.r s) 0 ns'.toArray) (Go.Sort.grow (putRow (Value.int .i64) (Sort.ahead C.w m) (C.r s) 0 ns'.toArray) os):=
  ⟨rfl,rfl,rfl,by simp[Go.Sort.grow],λb hb=>by simp only[Go.Sort.grow];rw[Array.getElem?_append_left hb]⟩
 obtain⟨R2,E2⟩:=Rel.below R1 hbel;exact⟨_,_,_,rfl,hK ns' hperm hsort,rfl,R2,.tuple [] #[] rfl (λi x hx=>by simp at hx),E1.trans (E2 _),by simp⟩
theorem kBC{P:Program}(hP:Tryz.prog=P):k02 P 231 [.nils] (· = .tuple []):=by
 subst hP;refine⟨⟨_,Tryz.func231,by kernel_rfl,by kernel_rfl⟩,λC vs hC RC hv=>?_⟩;obtain⟨hvl,hv0⟩:=hv
 have hvs:vs = #[vs.getD 0 undef]:=by
  have hn:vs.size=1:=(by simpa using hvl);obtain⟨l⟩:=vs
  match l,hn with
  | [x],_=>rfl
 have e0:=(hv0 0 _ rfl).nils';rw[hvs,e0];refine(AnyM.slices_Sort_int_none Tryz.sortL64 none 0 C.w).mono ?_;rintro e w' ⟨rfl,rfl⟩;exact⟨_,_,C,rfl,rfl,hC,rfl,RC,.tuple [] #[] rfl (λi x hx=>by simp at hx),.refl _ _⟩
theorem kBN{ns:List Int}(h:ns.Pairwise (· <= ·)):(compactUpTo ns.toArray ns.length).Pairwise (· < ·)/\∀x,x∈compactUpTo ns.toArray ns.length↔x∈ns:=by
 have key:∀m,m<=ns.length->(compactUpTo ns.toArray m).Pairwise (· < ·)/\(∀x,x∈compactUpTo ns.toArray m↔x∈ns.take m):=by
  intro m
  induction m with
  | zero=>intro _;simp[compactUpTo]
  | succ m ih =>
    intro hm;obtain⟨h1,h2⟩:=ih Z.o;have yU:ns.toArray[m]! = ns[m]:=(by rw[getElem!_pos _ _ (by simp;omega)];simp);have ht:ns.take (m+1)=ns.take m++[ns[m]]:=(by rw[List.take_add_one,List.getElem?_eq_getElem Z.o];rfl);rw[compactUpTo_succ,ht];by_cases hk:keeps ns.toArray m=true
    ·rw[if_pos hk,yU]
     refine⟨List.pairwise_append.2 ⟨h1,List.pairwise_singleton _ _,λx hx y hy=>?_⟩,λx=>by rw[List.mem_append,List.mem_append,h2]⟩;simp at hy;subst hy;have hx':=(h2 x).1 hx;obtain⟨i,hi,rfl⟩:=List.getElem_of_mem hx';rw[List.length_take] at hi;rw[List.getElem_take]
     have hk':m=0\/ns[m]! ≠ ns[m-1]! :=by
      unfold keeps at hk;simpa using hk
     have hm0:m≠0:=(by omega);rcases hk' with hk'|hk'
     ·exact absurd hk' hm0
     ·rw[getElem!_pos ns m Z.o,getElem!_pos ns (m-1) Z.o] at hk'
      rw[List.pairwise_iff_getElem] at h;have a1:=h (m-1) m Z.o Z.o Z.o
      have a2:ns[i]<=ns[m-1]:=by
       by_cases e:i=m-1
       ·subst e;exact Int.le_refl _
       ·exact h i (m-1) Z.o Z.o Z.o
      omega
    ·rw[if_neg hk,List.append_nil]
     refine⟨h1,λx=>?_⟩;rw[h2,List.mem_append,List.mem_singleton]
     have hk':¬(m=0\/ns[m]! ≠ ns[m-1]!):=by
      unfold keeps at hk;simpa using hk
     have e:ns[m]=ns[m-1]:=by
      have h3:ns[m]! = ns[m-1]! :=by
       apply Classical.byContradiction;intro h3;exact hk' (.inr h3)
      rwa [getElem!_pos ns m Z.o,getElem!_pos ns (m-1) Z.o] at h3
     constructor
     ·exact .inl
     ·rintro(h4|h4)
      ·exact h4
      ·rw[h4,e]
       have hm0:m≠0:=λh5=>hk' (.inl h5);exact List.mem_take_iff_getElem.2 ⟨m-1,by omega,rfl⟩
 have:=key ns.length (Nat.le_refl _)
 rwa [List.take_length] at this
theorem kH3(d:Array Int)(m:Nat):(compactUpTo d m).length<=m:=by
 unfold compactUpTo;rw[List.length_map];exact Nat.le_trans (List.length_filter_le _ _) (by simp)
theorem kBO{P:Program}(hP:Tryz.prog=P){h:k00}{K:AV->k00->Prop}{s n:Nat}{es:List (List AV)}{ns:List Int}(hs:h[s]?=some (.live 1 es))(zU:es=ns.map k0K)(hn:n=ns.length)(hsz:ns.length<=1000000)(hsort:ns.Pairwise (· <= ·))
 (hK:∀(os zs:List Int),os.Pairwise (· < ·)->(∀x,x∈os↔x∈ns)->os.length<=ns.length->K (.sl s 1 0 os.length) (h.set s (.live 1 ((os++zs).map k0K)))) :
 k06 P 232 [.sl s 1 0 n] h K:=by
 subst hP zU;refine⟨⟨_,Tryz.func232,by kernel_rfl,by kernel_rfl⟩,λC vs hC RC hv=>?_⟩;subst hC;obtain⟨hvl,hv0⟩:=hv
 have hvs:vs = #[vs.getD 0 undef]:=by
  have hn:vs.size=1:=(by simpa using hvl);obtain⟨l⟩:=vs
  match l,hn with
  | [x],_=>rfl
 obtain⟨cap,e0,hus,hnc,hshape⟩:=(hv0 0 _ rfl).sls;rw[hvs,e0];obtain⟨hBm,hH⟩:=kI2 RC hs;have hcall:=AnyE.slices_Compact Tryz.compactL (Value.int .i64) (λ_=>rfl) (EqlAt.intD _ _ .i64) (NeqAt.intD _ _ .i64) 0 Tryz.zeroValue2 (C.r s) 0 cap ns.toArray C.w hH (by simp;omega) (by simp;omega);have hsz':ns.toArray.size=n:=by simp[hn]
 rw[hsz'] at hcall;refine hcall.mono ?_;rintro e w' ⟨rfl,m,rfl⟩;have hcl:=kH3 ns.toArray n;obtain⟨c1,c2⟩:=kBN hsort;rw[<- hn] at c1 c2;generalize compactUpTo ns.toArray n=os at hcl c1 c2;have zE:(os++List.replicate (n-os.length) 0).length=ns.length:=by simp;omega
 obtain⟨R1,E1⟩:=kTC RC hs zE m;exact⟨_,_,_,rfl,hK os _ c1 c2 Z.o,rfl,R1,E1.vr' (VR.sl s 1 0 os.length cap hus Z.o hshape),E1,by simp⟩
end Go.Proofs.YtlchlddijclhjaaGreat
namespace Go.Proofs.YtlchlddijclhjaaGreat
open Go Go.RowKit Go.Eng Go.Shelf
set_option maxRecDepth 100000
noncomputable def infI:TypeInfo:=(Tryz.prog.info? 3).get (by kernel_rfl)
theorem kY2(b off n c:Nat)(news:List Value)(w:World)(hl:news.length=n)(hn:n<=12)(hc:∀j u,news[j]?=some u->w.cell? ⟨b,off+j,none⟩=some u)(h1:∀u∈news,u.oneCell'=true) :
 Calls Tryz.prog 165 #[.slice (some ⟨b,off,none⟩) n c] w λe w'=>∃v',e = .returned v'/\w'.ownsRow w.heap.size 3 1 v' n news/\v' ≠ .slice none 0 0/\Below w.heap.size w w':=
 AnyE.slices_Clone Tryz.cloneL infI (.int .i64 0) 1 8 (by kernel_rfl) (by kernel_rfl) (by kernel_rfl) (by kernel_rfl) rfl Z.d Tryz.sizeOf3 b off n c news w Z.o (by unfold maxLen;omega) Z.o hc h1
theorem k1U(vs:Array Value)(ty:TypeId)(k:Nat)(hk:k<=12)(hv:vs.size=13)(h1:∀u∈vs.toList,u.oneCell'=true)(w:World)(news:List Value)(hnews:news=(vs.toList.drop 1).take k) :
 Calls Tryz.prog 165 #[.slice (some ⟨w.heap.size,1,none⟩) k 12] (w.alloc (.cells vs ty)) λe w'=>∃v',e = .returned v'/\w'.ownsRow w.heap.size 3 1 v' k news/\Below w.heap.size w w':=by
 refine(kY2 w.heap.size 1 k 12 news _ (by rw[hnews];simp;omega) hk (λj u hj=>?_) (λu hu=>?_)).mono ?_
 ·rw[hnews,List.getElem?_take] at hj
  split at hj
  ·rw[List.getElem?_drop] at hj
   have h2:vs[1+j]?=some u:=(by simpa using hj);unfold World.cell?;have h3:(w.alloc (.cells vs ty)).heap[w.heap.size]?=some (.cells vs ty (0,0)):=heap_alloc_new w _;simp only[h3,Option.isSome_none,Bool.false_eq_true,if_false];exact h2
  ·cases hj
 ·rw[hnews] at hu
  exact h1 u (List.mem_of_mem_drop (List.mem_of_mem_take hu))
 ·rintro e w' ⟨v',rfl,hown,_,hbel⟩
  exact⟨v',rfl,kGF (by simp) hown,((Below.refl _ w).alloc (Nat.le_refl _) _).trans (hbel.mono (by simp))⟩
theorem kJW(N s0 s1 s2 s3 s4 s5 s6 s7 s8 s9 s10 s11:Int)(hk:min (max N 0) 12=0)(w:World) :
 Calls Tryz.prog 107 #[.agg #[.int .i64 N,.int .i64 s0,.int .i64 s1,.int .i64 s2,.int .i64 s3,.int .i64 s4,.int .i64 s5,.int .i64 s6,.int .i64 s7,.int .i64 s8,.int .i64 s9,.int .i64 s10,.int .i64 s11]] w λe w'=>∃v',e = .returned v'/\w'.ownsRow w.heap.size 3 1 v' 0 []/\Below w.heap.size w w':=by
 have hc:=k1U #[.int .i64 N,.int .i64 s0,.int .i64 s1,.int .i64 s2,.int .i64 s3,.int .i64 s4,.int .i64 s5,.int .i64 s6,.int .i64 s7,.int .i64 s8,.int .i64 s9,.int .i64 s10,.int .i64 s11] 239 0 Z.d rfl (λu hu=>by simp at hu;rcases hu with rfl|rfl|rfl|rfl|rfl|rfl|rfl|rfl|rfl|rfl|rfl|rfl|rfl<;>rfl) w [] rfl
 go_enter Tryz.func107,Tryz.ntmps107
 go_wp2_with (go_at_call 165;refine hc.mono ?_;rintro e w' ⟨v',rfl,hown,hbel⟩)
 go_ret
 exact⟨_,rfl,hown,hbel⟩
theorem kJV(N s0 s1 s2 s3 s4 s5 s6 s7 s8 s9 s10 s11:Int)(hk:min (max N 0) 12=1)(w:World) :
 Calls Tryz.prog 107 #[.agg #[.int .i64 N,.int .i64 s0,.int .i64 s1,.int .i64 s2,.int .i64 s3,.int .i64 s4,.int .i64 s5,.int .i64 s6,.int .i64 s7,.int .i64 s8,.int .i64 s9,.int .i64 s10,.int .i64 s11]] w λe w'=>∃v',e = .returned v'/\w'.ownsRow w.heap.size 3 1 v' 1 [.int .i64 s0]/\Below w.heap.size w w':=by
 have hc:=k1U #[.int .i64 N,.int .i64 s0,.int .i64 s1,.int .i64 s2,.int .i64 s3,.int .i64 s4,.int .i64 s5,.int .i64 s6,.int .i64 s7,.int .i64 s8,.int .i64 s9,.int .i64 s10,.int .i64 s11] 239 1 Z.d rfl (λu hu=>by simp at hu;rcases hu with rfl|rfl|rfl|rfl|rfl|rfl|rfl|rfl|rfl|rfl|rfl|rfl|rfl<;>rfl) w [.int .i64 s0] rfl
 go_enter Tryz.func107,Tryz.ntmps107
 go_wp2_with (go_at_call 165;refine hc.mono ?_;rintro e w' ⟨v',rfl,hown,hbel⟩)
 go_ret
 exact⟨_,rfl,hown,hbel⟩
theorem kJU(N s0 s1 s2 s3 s4 s5 s6 s7 s8 s9 s10 s11:Int)(hk:min (max N 0) 12=2)(w:World) :
 Calls Tryz.prog 107 #[.agg #[.int .i64 N,.int .i64 s0,.int .i64 s1,.int .i64 s2,.int .i64 s3,.int .i64 s4,.int .i64 s5,.int .i64 s6,.int .i64 s7,.int .i64 s8,.int .i64 s9,.int .i64 s10,.int .i64 s11]] w λe w'=>∃v',e = .returned v'/\w'.ownsRow w.heap.size 3 1 v' 2 [.int .i64 s0,.int .i64 s1]/\Below w.heap.size w w':=by
 have hc:=k1U #[.int .i64 N,.int .i64 s0,.int .i64 s1,.int .i64 s2,.int .i64 s3,.int .i64 s4,.int .i64 s5,.int .i64 s6,.int .i64 s7,.int .i64 s8,.int .i64 s9,.int .i64 s10,.int .i64 s11] 239 2 Z.d rfl (λu hu=>by simp at hu;rcases hu with rfl|rfl|rfl|rfl|rfl|rfl|rfl|rfl|rfl|rfl|rfl|rfl|rfl<;>rfl) w [.int .i64 s0,.int .i64 s1] rfl
 go_enter Tryz.func107,Tryz.ntmps107
 go_wp2_with (go_at_call 165;refine hc.mono ?_;rintro e w' ⟨v',rfl,hown,hbel⟩)
 go_ret
 exact⟨_,rfl,hown,hbel⟩
theorem kJT(N s0 s1 s2 s3 s4 s5 s6 s7 s8 s9 s10 s11:Int)(hk:min (max N 0) 12=3)(w:World) :
 Calls Tryz.prog 107 #[.agg #[.int .i64 N,.int .i64 s0,.int .i64 s1,.int .i64 s2,.int .i64 s3,.int .i64 s4,.int .i64 s5,.int .i64 s6,.int .i64 s7,.int .i64 s8,.int .i64 s9,.int .i64 s10,.int .i64 s11]] w λe w'=>∃v',e = .returned v'/\w'.ownsRow w.heap.size 3 1 v' 3 [.int .i64 s0,.int .i64 s1,.int .i64 s2]/\Below w.heap.size w w':=by
 have hc:=k1U #[.int .i64 N,.int .i64 s0,.int .i64 s1,.int .i64 s2,.int .i64 s3,.int .i64 s4,.int .i64 s5,.int .i64 s6,.int .i64 s7,.int .i64 s8,.int .i64 s9,.int .i64 s10,.int .i64 s11] 239 3 Z.d rfl (λu hu=>by simp at hu;rcases hu with rfl|rfl|rfl|rfl|rfl|rfl|rfl|rfl|rfl|rfl|rfl|rfl|rfl<;>rfl) w [.int .i64 s0,.int .i64 s1,.int .i64 s2] rfl
 go_enter Tryz.func107,Tryz.ntmps107
 go_wp2_with (go_at_call 165;refine hc.mono ?_;rintro e w' ⟨v',rfl,hown,hbel⟩)
 go_ret
 exact⟨_,rfl,hown,hbel⟩
theorem kJS(N s0 s1 s2 s3 s4 s5 s6 s7 s8 s9 s10 s11:Int)(hk:min (max N 0) 12=4)(w:World) :
 Calls Tryz.prog 107 #[.agg #[.int .i64 N,.int .i64 s0,.int .i64 s1,.int .i64 s2,.int .i64 s3,.int .i64 s4,.int .i64 s5,.int .i64 s6,.int .i64 s7,.int .i64 s8,.int .i64 s9,.int .i64 s10,.int .i64 s11]] w λe w'=>∃v',e = .returned v'/\w'.ownsRow w.heap.size 3 1 v' 4 [.int .i64 s0,.int .i64 s1,.int .i64 s2,.int .i64 s3]/\Below w.heap.size w w':=by
 have hc:=k1U #[.int .i64 N,.int .i64 s0,.int .i64 s1,.int .i64 s2,.int .i64 s3,.int .i64 s4,.int .i64 s5,.int .i64 s6,.int .i64 s7,.int .i64 s8,.int .i64 s9,.int .i64 s10,.int .i64 s11] 239 4 Z.d rfl (λu hu=>by simp at hu;rcases hu with rfl|rfl|rfl|rfl|rfl|rfl|rfl|rfl|rfl|rfl|rfl|rfl|rfl<;>rfl) w [.int .i64 s0,.int .i64 s1,.int .i64 s2,.int .i64 s3] rfl
 go_enter Tryz.func107,Tryz.ntmps107
 go_wp2_with (go_at_call 165;refine hc.mono ?_;rintro e w' ⟨v',rfl,hown,hbel⟩)
 go_ret
 exact⟨_,rfl,hown,hbel⟩
theorem kJR(N s0 s1 s2 s3 s4 s5 s6 s7 s8 s9 s10 s11:Int)(hk:min (max N 0) 12=5)(w:World) :
 Calls Tryz.prog 107 #[.agg #[.int .i64 N,.int .i64 s0,.int .i64 s1,.int .i64 s2,.int .i64 s3,.int .i64 s4,.int .i64 s5,.int .i64 s6,.int .i64 s7,.int .i64 s8,.int .i64 s9,.int .i64 s10,.int .i64 s11]] w λe w'=>∃v',e = .returned v'/\w'.ownsRow w.heap.size 3 1 v' 5 [.int .i64 s0,.int .i64 s1,.int .i64 s2,.int .i64 s3,.int .i64 s4]/\Below w.heap.size w w':=by
 have hc:=k1U #[.int .i64 N,.int .i64 s0,.int .i64 s1,.int .i64 s2,.int .i64 s3,.int .i64 s4,.int .i64 s5,.int .i64 s6,.int .i64 s7,.int .i64 s8,.int .i64 s9,.int .i64 s10,.int .i64 s11] 239 5 Z.d rfl (λu hu=>by simp at hu;rcases hu with rfl|rfl|rfl|rfl|rfl|rfl|rfl|rfl|rfl|rfl|rfl|rfl|rfl<;>rfl) w [.int .i64 s0,.int .i64 s1,.int .i64 s2,.int .i64 s3,.int .i64 s4] rfl
 go_enter Tryz.func107,Tryz.ntmps107
 go_wp2_with (go_at_call 165;refine hc.mono ?_;rintro e w' ⟨v',rfl,hown,hbel⟩)
 go_ret
 exact⟨_,rfl,hown,hbel⟩
theorem kJQ(N s0 s1 s2 s3 s4 s5 s6 s7 s8 s9 s10 s11:Int)(hk:min (max N 0) 12=6)(w:World) :
 Calls Tryz.prog 107 #[.agg #[.int .i64 N,.int .i64 s0,.int .i64 s1,.int .i64 s2,.int .i64 s3,.int .i64 s4,.int .i64 s5,.int .i64 s6,.int .i64 s7,.int .i64 s8,.int .i64 s9,.int .i64 s10,.int .i64 s11]] w λe w'=>∃v',e = .returned v'/\w'.ownsRow w.heap.size 3 1 v' 6 [.int .i64 s0,.int .i64 s1,.int .i64 s2,.int .i64 s3,.int .i64 s4,.int .i64 s5]/\Below w.heap.size w w':=by
 have hc:=k1U #[.int .i64 N,.int .i64 s0,.int .i64 s1,.int .i64 s2,.int .i64 s3,.int .i64 s4,.int .i64 s5,.int .i64 s6,.int .i64 s7,.int .i64 s8,.int .i64 s9,.int .i64 s10,.int .i64 s11] 239 6 Z.d rfl (λu hu=>by simp at hu;rcases hu with rfl|rfl|rfl|rfl|rfl|rfl|rfl|rfl|rfl|rfl|rfl|rfl|rfl<;>rfl) w [.int .i64 s0,.int .i64 s1,.int .i64 s2,.int .i64 s3,.int .i64 s4,.int .i64 s5] rfl
 go_enter Tryz.func107,Tryz.ntmps107
 go_wp2_with (go_at_call 165;refine hc.mono ?_;rintro e w' ⟨v',rfl,hown,hbel⟩)
 go_ret
 exact⟨_,rfl,hown,hbel⟩
theorem kJP(N s0 s1 s2 s3 s4 s5 s6 s7 s8 s9 s10 s11:Int)(hk:min (max N 0) 12=7)(w:World) :
 Calls Tryz.prog 107 #[.agg #[.int .i64 N,.int .i64 s0,.int .i64 s1,.int .i64 s2,.int .i64 s3,.int .i64 s4,.int .i64 s5,.int .i64 s6,.int .i64 s7,.int .i64 s8,.int .i64 s9,.int .i64 s10,.int .i64 s11]] w λe w'=>∃v',e = .returned v'/\w'.ownsRow w.heap.size 3 1 v' 7 [.int .i64 s0,.int .i64 s1,.int .i64 s2,.int .i64 s3,.int .i64 s4,.int .i64 s5,.int .i64 s6]/\Below w.heap.size w w':=by
 have hc:=k1U #[.int .i64 N,.int .i64 s0,.int .i64 s1,.int .i64 s2,.int .i64 s3,.int .i64 s4,.int .i64 s5,.int .i64 s6,.int .i64 s7,.int .i64 s8,.int .i64 s9,.int .i64 s10,.int .i64 s11] 239 7 Z.d rfl (λu hu=>by simp at hu;rcases hu with rfl|rfl|rfl|rfl|rfl|rfl|rfl|rfl|rfl|rfl|rfl|rfl|rfl<;>rfl) w [.int .i64 s0,.int .i64 s1,.int .i64 s2,.int .i64 s3,.int .i64 s4,.int .i64 s5,.int .i64 s6] rfl
 go_enter Tryz.func107,Tryz.ntmps107
 go_wp2_with (go_at_call 165;refine hc.mono ?_;rintro e w' ⟨v',rfl,hown,hbel⟩)
 go_ret
 exact⟨_,rfl,hown,hbel⟩
theorem kJO(N s0 s1 s2 s3 s4 s5 s6 s7 s8 s9 s10 s11:Int)(hk:min (max N 0) 12=8)(w:World) :
 Calls Tryz.prog 107 #[.agg #[.int .i64 N,.int .i64 s0,.int .i64 s1,.int .i64 s2,.int .i64 s3,.int .i64 s4,.int .i64 s5,.int .i64 s6,.int .i64 s7,.int .i64 s8,.int .i64 s9,.int .i64 s10,.int .i64 s11]] w λe w'=>∃v',e = .returned v'/\w'.ownsRow w.heap.size 3 1 v' 8 [.int .i64 s0,.int .i64 s1,.int .i64 s2,.int .i64 s3,.int .i64 s4,.int .i64 s5,.int .i64 s6,.int .i64 s7]/\Below w.heap.size w w':=by
 have hc:=k1U #[.int .i64 N,.int .i64 s0,.int .i64 s1,.int .i64 s2,.int .i64 s3,.int .i64 s4,.int .i64 s5,.int .i64 s6,.int .i64 s7,.int .i64 s8,.int .i64 s9,.int .i64 s10,.int .i64 s11] 239 8 Z.d rfl (λu hu=>by simp at hu;rcases hu with rfl|rfl|rfl|rfl|rfl|rfl|rfl|rfl|rfl|rfl|rfl|rfl|rfl<;>rfl) w [.int .i64 s0,.int .i64 s1,.int .i64 s2,.int .i64 s3,.int .i64 s4,.int .i64 s5,.int .i64 s6,.int .i64 s7] rfl
 go_enter Tryz.func107,Tryz.ntmps107
 go_wp2_with (go_at_call 165;refine hc.mono ?_;rintro e w' ⟨v',rfl,hown,hbel⟩)
 go_ret
 exact⟨_,rfl,hown,hbel⟩
theorem kJN(N s0 s1 s2 s3 s4 s5 s6 s7 s8 s9 s10 s11:Int)(hk:min (max N 0) 12=9)(w:World) :
 Calls Tryz.prog 107 #[.agg #[.int .i64 N,.int .i64 s0,.int .i64 s1,.int .i64 s2,.int .i64 s3,.int .i64 s4,.int .i64 s5,.int .i64 s6,.int .i64 s7,.int .i64 s8,.int .i64 s9,.int .i64 s10,.int .i64 s11]] w λe w'=>∃v',e = .returned v'/\w'.ownsRow w.heap.size 3 1 v' 9 [.int .i64 s0,.int .i64 s1,.int .i64 s2,.int .i64 s3,.int .i64 s4,.int .i64 s5,.int .i64 s6,.int .i64 s7,.int .i64 s8]/\Below w.heap.size w w':=by
 have hc:=k1U #[.int .i64 N,.int .i64 s0,.int .i64 s1,.int .i64 s2,.int .i64 s3,.int .i64 s4,.int .i64 s5,.int .i64 s6,.int .i64 s7,.int .i64 s8,.int .i64 s9,.int .i64 s10,.int .i64 s11] 239 9 Z.d rfl (λu hu=>by simp at hu;rcases hu with rfl|rfl|rfl|rfl|rfl|rfl|rfl|rfl|rfl|rfl|rfl|rfl|rfl<;>rfl) w [.int .i64 s0,.int .i64 s1,.int .i64 s2,.int .i64 s3,.int .i64 s4,.int .i64 s5,.int .i64 s6,.int .i64 s7,.int .i64 s8] rfl
 go_enter Tryz.func107,Tryz.ntmps107
 go_wp2_with (go_at_call 165;refine hc.mono ?_;rintro e w' ⟨v',rfl,hown,hbel⟩)
 go_ret
 exact⟨_,rfl,hown,hbel⟩
theorem kGE(N s0 s1 s2 s3 s4 s5 s6 s7 s8 s9 s10 s11:Int)(hk:min (max N 0) 12=10)(w:World) :
 Calls Tryz.prog 107 #[.agg #[.int .i64 N,.int .i64 s0,.int .i64 s1,.int .i64 s2,.int .i64 s3,.int .i64 s4,.int .i64 s5,.int .i64 s6,.int .i64 s7,.int .i64 s8,.int .i64 s9,.int .i64 s10,.int .i64 s11]] w λe w'=>∃v',e = .returned v'/\w'.ownsRow w.heap.size 3 1 v' 10 [.int .i64 s0,.int .i64 s1,.int .i64 s2,.int .i64 s3,.int .i64 s4,.int .i64 s5,.int .i64 s6,.int .i64 s7,.int .i64 s8,.int .i64 s9]/\Below w.heap.size w w':=by
 have hc:=k1U #[.int .i64 N,.int .i64 s0,.int .i64 s1,.int .i64 s2,.int .i64 s3,.int .i64 s4,.int .i64 s5,.int .i64 s6,.int .i64 s7,.int .i64 s8,.int .i64 s9,.int .i64 s10,.int .i64 s11] 239 10 Z.d rfl (λu hu=>by simp at hu;rcases hu with rfl|rfl|rfl|rfl|rfl|rfl|rfl|rfl|rfl|rfl|rfl|rfl|rfl<;>rfl) w [.int .i64 s0,.int .i64 s1,.int .i64 s2,.int .i64 s3,.int .i64 s4,.int .i64 s5,.int .i64 s6,.int .i64 s7,.int .i64 s8,.int .i64 s9] rfl
 go_enter Tryz.func107,Tryz.ntmps107
 go_wp2_with (go_at_call 165;refine hc.mono ?_;rintro e w' ⟨v',rfl,hown,hbel⟩)
 go_ret
 exact⟨_,rfl,hown,hbel⟩
theorem kGD(N s0 s1 s2 s3 s4 s5 s6 s7 s8 s9 s10 s11:Int)(hk:min (max N 0) 12=11)(w:World) :
 Calls Tryz.prog 107 #[.agg #[.int .i64 N,.int .i64 s0,.int .i64 s1,.int .i64 s2,.int .i64 s3,.int .i64 s4,.int .i64 s5,.int .i64 s6,.int .i64 s7,.int .i64 s8,.int .i64 s9,.int .i64 s10,.int .i64 s11]] w λe w'=>∃v',e = .returned v'/\w'.ownsRow w.heap.size 3 1 v' 11 [.int .i64 s0,.int .i64 s1,.int .i64 s2,.int .i64 s3,.int .i64 s4,.int .i64 s5,.int .i64 s6,.int .i64 s7,.int .i64 s8,.int .i64 s9,.int .i64 s10]/\Below w.heap.size w w':=by
 have hc:=k1U #[.int .i64 N,.int .i64 s0,.int .i64 s1,.int .i64 s2,.int .i64 s3,.int .i64 s4,.int .i64 s5,.int .i64 s6,.int .i64 s7,.int .i64 s8,.int .i64 s9,.int .i64 s10,.int .i64 s11] 239 11 Z.d rfl (λu hu=>by simp at hu;rcases hu with rfl|rfl|rfl|rfl|rfl|rfl|rfl|rfl|rfl|rfl|rfl|rfl|rfl<;>rfl) w [.int .i64 s0,.int .i64 s1,.int .i64 s2,.int .i64 s3,.int .i64 s4,.int .i64 s5,.int .i64 s6,.int .i64 s7,.int .i64 s8,.int .i64 s9,.int .i64 s10] rfl
 go_enter Tryz.func107,Tryz.ntmps107
 go_wp2_with (go_at_call 165;refine hc.mono ?_;rintro e w' ⟨v',rfl,hown,hbel⟩)
 go_ret
 exact⟨_,rfl,hown,hbel⟩
theorem kGC(N s0 s1 s2 s3 s4 s5 s6 s7 s8 s9 s10 s11:Int)(hk:min (max N 0) 12=12)(w:World) :
 Calls Tryz.prog 107 #[.agg #[.int .i64 N,.int .i64 s0,.int .i64 s1,.int .i64 s2,.int .i64 s3,.int .i64 s4,.int .i64 s5,.int .i64 s6,.int .i64 s7,.int .i64 s8,.int .i64 s9,.int .i64 s10,.int .i64 s11]] w λe w'=>∃v',e = .returned v'/\w'.ownsRow w.heap.size 3 1 v' 12 [.int .i64 s0,.int .i64 s1,.int .i64 s2,.int .i64 s3,.int .i64 s4,.int .i64 s5,.int .i64 s6,.int .i64 s7,.int .i64 s8,.int .i64 s9,.int .i64 s10,.int .i64 s11]/\Below w.heap.size w w':=by
 have hc:=k1U #[.int .i64 N,.int .i64 s0,.int .i64 s1,.int .i64 s2,.int .i64 s3,.int .i64 s4,.int .i64 s5,.int .i64 s6,.int .i64 s7,.int .i64 s8,.int .i64 s9,.int .i64 s10,.int .i64 s11] 239 12 Z.d rfl (λu hu=>by simp at hu;rcases hu with rfl|rfl|rfl|rfl|rfl|rfl|rfl|rfl|rfl|rfl|rfl|rfl|rfl<;>rfl) w [.int .i64 s0,.int .i64 s1,.int .i64 s2,.int .i64 s3,.int .i64 s4,.int .i64 s5,.int .i64 s6,.int .i64 s7,.int .i64 s8,.int .i64 s9,.int .i64 s10,.int .i64 s11] rfl
 go_enter Tryz.func107,Tryz.ntmps107
 go_wp2_with (go_at_call 165;refine hc.mono ?_;rintro e w' ⟨v',rfl,hown,hbel⟩)
 go_ret
 exact⟨_,rfl,hown,hbel⟩
theorem kPF{C:Cfg}{ns:List Int}{us:Array Value}(h:VRs C (ns.map (AV.int .i64)) us):us=(ns.map (Value.int .i64)).toArray:=by
 obtain⟨h1,h2⟩:=h;apply Array.ext
 ·simpa using h1
 ·intro i hi hi2
  have hil:i<ns.length:=(by simpa using hi2);have:=(h2 i (.int .i64 ns[i]) (by simp[hil])).int';simp[hi] at this;simp[this]
theorem vrs1{C:Cfg}{x:AV}{vs:Array Value}(h:VRs C [x] vs):∃v,vs = #[v]/\VR C x v:=by
 obtain⟨h1,h2⟩:=h;have h3:=h2 0 x rfl;obtain⟨l⟩:=vs
 match l,h1 with
 | [v],_=>exact⟨v,rfl,by simpa using h3⟩
theorem k1T(cells:List Int)(N:Int)(k:Nat)(l:List Int)(hk:l.length=k)(H:∀w:World,Calls Tryz.prog 107 #[.agg (((N::cells).map (Value.int .i64)).toArray)] w λe w'=>∃v',e = .returned v'/\w'.ownsRow w.heap.size 3 1 v' k (l.map (Value.int .i64))/\Below w.heap.size w w') :
 k02 Tryz.prog 107 [.agg ((N::cells).map (AV.int .i64))] (· = .list 1 (l.map k0K)):=by
 refine⟨⟨_,Tryz.func107,by kernel_rfl,by kernel_rfl⟩,λC vs hC RC hv=>?_⟩;obtain⟨v,rfl,hv1⟩:=vrs1 hv;obtain⟨us,rfl,hus⟩:=hv1.agg';rw[kPF hus];refine(H C.w).mono ?_;rintro e w' ⟨v',rfl,hown,hbel⟩;obtain⟨R1,E1⟩:=Rel.below RC hbel;subst hk;exact⟨v',_,{ C with w:=w' },rfl,rfl,hC,rfl,R1,kN4 RC hown,E1 _⟩
theorem q0L(N s0 s1 s2 s3 s4 s5 s6 s7 s8 s9 s10 s11:Int)(l:List Int)(hl:l=[s0,s1,s2,s3,s4,s5,s6,s7,s8,s9,s10,s11].take (min (max N 0) 12).toNat) :
 k02 Tryz.prog 107 [.agg [N,s0,s1,s2,s3,s4,s5,s6,s7,s8,s9,s10,s11]] (· = .list 1 (l.map k0K)):=by
 have hc:min (max N 0) 12=0\/min (max N 0) 12=1\/min (max N 0) 12=2\/min (max N 0) 12=3\/min (max N 0) 12=4\/min (max N 0) 12=5\/min (max N 0) 12=6\/min (max N 0) 12=7\/min (max N 0) 12=8\/min (max N 0) 12=9\/min (max N 0) 12=10\/min (max N 0) 12=11\/min (max N 0) 12=12:=by omega
 rcases hc with hc|hc|hc|hc|hc|hc|hc|hc|hc|hc|hc|hc|hc<;>rw[hc] at hl
 ·exact k1T [s0,s1,s2,s3,s4,s5,s6,s7,s8,s9,s10,s11] N 0 l (by rw[hl];rfl) λw=>by rw[hl];exact kJW N s0 s1 s2 s3 s4 s5 s6 s7 s8 s9 s10 s11 hc w
 ·exact k1T [s0,s1,s2,s3,s4,s5,s6,s7,s8,s9,s10,s11] N 1 l (by rw[hl];rfl) λw=>by rw[hl];exact kJV N s0 s1 s2 s3 s4 s5 s6 s7 s8 s9 s10 s11 hc w
 ·exact k1T [s0,s1,s2,s3,s4,s5,s6,s7,s8,s9,s10,s11] N 2 l (by rw[hl];rfl) λw=>by rw[hl];exact kJU N s0 s1 s2 s3 s4 s5 s6 s7 s8 s9 s10 s11 hc w
 ·exact k1T [s0,s1,s2,s3,s4,s5,s6,s7,s8,s9,s10,s11] N 3 l (by rw[hl];rfl) λw=>by rw[hl];exact kJT N s0 s1 s2 s3 s4 s5 s6 s7 s8 s9 s10 s11 hc w
 ·exact k1T [s0,s1,s2,s3,s4,s5,s6,s7,s8,s9,s10,s11] N 4 l (by rw[hl];rfl) λw=>by rw[hl];exact kJS N s0 s1 s2 s3 s4 s5 s6 s7 s8 s9 s10 s11 hc w
 ·exact k1T [s0,s1,s2,s3,s4,s5,s6,s7,s8,s9,s10,s11] N 5 l (by rw[hl];rfl) λw=>by rw[hl];exact kJR N s0 s1 s2 s3 s4 s5 s6 s7 s8 s9 s10 s11 hc w
 ·exact k1T [s0,s1,s2,s3,s4,s5,s6,s7,s8,s9,s10,s11] N 6 l (by rw[hl];rfl) λw=>by rw[hl];exact kJQ N s0 s1 s2 s3 s4 s5 s6 s7 s8 s9 s10 s11 hc w
 ·exact k1T [s0,s1,s2,s3,s4,s5,s6,s7,s8,s9,s10,s11] N 7 l (by rw[hl];rfl) λw=>by rw[hl];exact kJP N s0 s1 s2 s3 s4 s5 s6 s7 s8 s9 s10 s11 hc w
 ·exact k1T [s0,s1,s2,s3,s4,s5,s6,s7,s8,s9,s10,s11] N 8 l (by rw[hl];rfl) λw=>by rw[hl];exact kJO N s0 s1 s2 s3 s4 s5 s6 s7 s8 s9 s10 s11 hc w
 ·exact k1T [s0,s1,s2,s3,s4,s5,s6,s7,s8,s9,s10,s11] N 9 l (by rw[hl];rfl) λw=>by rw[hl];exact kJN N s0 s1 s2 s3 s4 s5 s6 s7 s8 s9 s10 s11 hc w
 ·exact k1T [s0,s1,s2,s3,s4,s5,s6,s7,s8,s9,s10,s11] N 10 l (by rw[hl];rfl) λw=>by rw[hl];exact kGE N s0 s1 s2 s3 s4 s5 s6 s7 s8 s9 s10 s11 hc w
 ·exact k1T [s0,s1,s2,s3,s4,s5,s6,s7,s8,s9,s10,s11] N 11 l (by rw[hl];rfl) λw=>by rw[hl];exact kGD N s0 s1 s2 s3 s4 s5 s6 s7 s8 s9 s10 s11 hc w
 ·exact k1T [s0,s1,s2,s3,s4,s5,s6,s7,s8,s9,s10,s11] N 12 l (by rw[hl];rfl) λw=>by rw[hl];exact kGC N s0 s1 s2 s3 s4 s5 s6 s7 s8 s9 s10 s11 hc w
def k8S(x y:Int):Int:=if x<y then -1 else if y<x then 1 else 0
theorem q2H(a:Int)(w:World):Calls Tryz.prog 213 #[.int .i64 a] w λe w'=>e = .returned (.bool false)/\w'=w:=by
 go_enter Tryz.func213,Tryz.ntmps213
 go_wp2
 go_ret
 simp
theorem kU1(a b:Int)(w:World):Calls Tryz.prog 158 #[.int .i64 a,.int .i64 b] w λe w'=>e = .returned (.int .i64 (k8S a b))/\w'=w:=by
 go_enter Tryz.func158,Tryz.ntmps158
 go_wp2_with (go_at_call 213;refine(q2H _ _).mono ?_;rintro e w' ⟨rfl,rfl⟩)
 all_goals go_ret
 all_goals (refine⟨?_,rfl⟩;unfold k8S;(repeat' split)<;>first|rfl|omega)
def kDZ:List Int->List Int->Int
 | a::l,b::m=>if k8S a b=0 then kDZ l m else k8S a b
 | _,_=>0
theorem kOG(p q:Nat)(a0 a1 a2 a3 a4 a5 a6 a7 a8 a9 a10 a11 b0 b1 b2 b3 b4 b5 b6 b7 b8 b9 b10 b11:Int)(w:World)
 (hp0:w.cell? ⟨p,1,none⟩=some (.int .i64 a0)) (hq0:w.cell? ⟨q,1,none⟩=some (.int .i64 b0))
 (hp1:w.cell? ⟨p,2,none⟩=some (.int .i64 a1)) (hq1:w.cell? ⟨q,2,none⟩=some (.int .i64 b1))
 (hp2:w.cell? ⟨p,3,none⟩=some (.int .i64 a2)) (hq2:w.cell? ⟨q,3,none⟩=some (.int .i64 b2))
 (hp3:w.cell? ⟨p,4,none⟩=some (.int .i64 a3)) (hq3:w.cell? ⟨q,4,none⟩=some (.int .i64 b3))
 (hp4:w.cell? ⟨p,5,none⟩=some (.int .i64 a4)) (hq4:w.cell? ⟨q,5,none⟩=some (.int .i64 b4))
 (hp5:w.cell? ⟨p,6,none⟩=some (.int .i64 a5)) (hq5:w.cell? ⟨q,6,none⟩=some (.int .i64 b5))
 (hp6:w.cell? ⟨p,7,none⟩=some (.int .i64 a6)) (hq6:w.cell? ⟨q,7,none⟩=some (.int .i64 b6))
 (hp7:w.cell? ⟨p,8,none⟩=some (.int .i64 a7)) (hq7:w.cell? ⟨q,8,none⟩=some (.int .i64 b7))
 (hp8:w.cell? ⟨p,9,none⟩=some (.int .i64 a8)) (hq8:w.cell? ⟨q,9,none⟩=some (.int .i64 b8))
 (hp9:w.cell? ⟨p,10,none⟩=some (.int .i64 a9)) (hq9:w.cell? ⟨q,10,none⟩=some (.int .i64 b9))
 (hp10:w.cell? ⟨p,11,none⟩=some (.int .i64 a10)) (hq10:w.cell? ⟨q,11,none⟩=some (.int .i64 b10))
 (hp11:w.cell? ⟨p,12,none⟩=some (.int .i64 a11)) (hq11:w.cell? ⟨q,12,none⟩=some (.int .i64 b11))
 : Calls Tryz.prog 229 #[.slice (some ⟨p,1,none⟩) 12 12,.slice (some ⟨q,1,none⟩) 12 12] w λe w'=>e = .returned (.int .i64 (kDZ [a0,a1,a2,a3,a4,a5,a6,a7,a8,a9,a10,a11] [b0,b1,b2,b3,b4,b5,b6,b7,b8,b9,b10,b11]))/\w'=w:=by
 go_enter Tryz.func229,Tryz.ntmps229
 go_wp2_with (fail)
 refine wp_loop_rounds 13 ?_
 go_wp2_with (first|(with_reducible refine kEI ?_)|(go_at_call 158;refine(kU1 _ _ _).mono ?_;rintro e w' ⟨rfl,rfl⟩))
 all_goals go_ret
 all_goals (clear hp0 hq0 hp1 hq1 hp2 hq2 hp3 hq3 hp4 hq4 hp5 hq5 hp6 hq6 hp7 hq7 hp8 hq8 hp9 hq9 hp10 hq10 hp11 hq11)
 all_goals simp only[bne_iff_ne,ne_eq,bne_eq_false_iff_eq] at *
 all_goals (simp only[kDZ, *];simp)
open Go Go.RowKit Go.Eng Go.Shelf Go.Sort
set_option maxRecDepth 100000
theorem c_or(p:Nat)(a b:Int)(w:World)(h0:w.cell? ⟨p,0,none⟩=some (.int .i64 a))(h1:w.cell? ⟨p,1,none⟩=some (.int .i64 b)) :
 Calls Tryz.prog 228 #[.slice (some ⟨p,0,none⟩) 2 2] w λe w'=>e = .returned (.int .i64 (if a=0 then b else a))/\w'=w:=by
 go_enter Tryz.func228,Tryz.ntmps228
 go_wp2_with (fail)
 refine wp_loop_rounds 3 ?_
 go_wp2_with (first|(with_reducible refine kEI ?_))
 all_goals go_ret
 all_goals (clear h0 h1)
 all_goals simp only[bne_iff_ne,ne_eq,bne_eq_false_iff_eq] at *
 all_goals first|(simp[*];done)|(simp[*];omega)|omega
theorem q15(w:World)(A B:Array Value)(ty:TypeId):Go.LD.BelD w ((w.alloc (.cells A ty)).alloc (.cells B ty))/\(∀i,((w.alloc (.cells A ty)).alloc (.cells B ty)).cell? ⟨w.heap.size,i,none⟩=A[i]?)/\(∀i,((w.alloc (.cells A ty)).alloc (.cells B ty)).cell? ⟨w.heap.size+1,i,none⟩=B[i]?):=by
 have e1:((w.alloc (.cells A ty)).alloc (.cells B ty)).heap[w.heap.size]?=some (.cells A ty (0,0)):=by
  rw[Below.heap_alloc _ _ _ (by simp)];exact heap_alloc_new w _
 have e2:((w.alloc (.cells A ty)).alloc (.cells B ty)).heap[w.heap.size+1]?=some (.cells B ty (0,0)):=by
  have:=heap_alloc_new (w.alloc (.cells A ty)) (.cells B ty);simpa using this
 refine⟨⟨((Below.refl _ w).alloc (Nat.le_refl _) _).alloc (by simp) _,Nat.le_refl _⟩,λi=>?_,λi=>?_⟩
 ·unfold World.cell?;simp only[e1,Option.isSome_none,Bool.false_eq_true,if_false]
 ·unfold World.cell?;simp only[e2,Option.isSome_none,Bool.false_eq_true,if_false]
def evO(p b:Nat)(M N C D:Int):Operand->Value
 | .tmp 2=>.pointer (some ⟨p,0,none⟩)
 | .tmp 3=>.pointer (some ⟨p+1,0,none⟩)
 | .tmp 5=>.pointer (some ⟨p,1,none⟩)
 | .tmp 6=>.slice (some ⟨p,1,none⟩) 12 12
 | .tmp 7=>.pointer (some ⟨p+1,1,none⟩)
 | .tmp 8=>.slice (some ⟨p+1,1,none⟩) 12 12
 | .tmp 9=>.int .i64 C
 | .tmp 10=>.pointer (some ⟨p,0,none⟩)
 | .tmp 11=>.int .i64 M
 | .tmp 12=>.pointer (some ⟨p+1,0,none⟩)
 | .tmp 13=>.int .i64 N
 | .tmp 14=>.int .i64 D
 | .tmp 15=>.slice (some ⟨b,0,none⟩) 2 2
 | .tmp 16=>.int .i64 (if C=0 then D else C)
 | .func f=>.func (.func f) #[] #[]
 | _=>undef
theorem kJX(M a0 a1 a2 a3 a4 a5 a6 a7 a8 a9 a10 a11 N b0 b1 b2 b3 b4 b5 b6 b7 b8 b9 b10 b11:Int)(w:World) :
 Calls Tryz.prog 211 #[.agg #[.int .i64 M,.int .i64 a0,.int .i64 a1,.int .i64 a2,.int .i64 a3,.int .i64 a4,.int .i64 a5,.int .i64 a6,.int .i64 a7,.int .i64 a8,.int .i64 a9,.int .i64 a10,.int .i64 a11],.agg #[.int .i64 N,.int .i64 b0,.int .i64 b1,.int .i64 b2,.int .i64 b3,.int .i64 b4,.int .i64 b5,.int .i64 b6,.int .i64 b7,.int .i64 b8,.int .i64 b9,.int .i64 b10,.int .i64 b11]] w λe w'=>e = .returned (.int .i64 (if kDZ [a0,a1,a2,a3,a4,a5,a6,a7,a8,a9,a10,a11] [b0,b1,b2,b3,b4,b5,b6,b7,b8,b9,b10,b11]=0 then k8S M N else kDZ [a0,a1,a2,a3,a4,a5,a6,a7,a8,a9,a10,a11] [b0,b1,b2,b3,b4,b5,b6,b7,b8,b9,b10,b11]))/\∃q os',w'=grow (w.drewN q) os':=by
 obtain⟨hW0,hA,hB⟩:=q15 w #[.int .i64 M,.int .i64 a0,.int .i64 a1,.int .i64 a2,.int .i64 a3,.int .i64 a4,.int .i64 a5,.int .i64 a6,.int .i64 a7,.int .i64 a8,.int .i64 a9,.int .i64 a10,.int .i64 a11] #[.int .i64 N,.int .i64 b0,.int .i64 b1,.int .i64 b2,.int .i64 b3,.int .i64 b4,.int .i64 b5,.int .i64 b6,.int .i64 b7,.int .i64 b8,.int .i64 b9,.int .i64 b10,.int .i64 b11] 239
 go_enter Tryz.func211,Tryz.ntmps211
 go_wp2_with (fail)
 generalize World.alloc (World.alloc w _) _=W at *;obtain⟨p,ep⟩:=Z.f w.heap.size;rw[ep] at hA hB;simp only[ep];obtain⟨C,eC⟩:=Z.f (kDZ [a0,a1,a2,a3,a4,a5,a6,a7,a8,a9,a10,a11] [b0,b1,b2,b3,b4,b5,b6,b7,b8,b9,b10,b11]);obtain⟨D,eD⟩:=Z.f (k8S M N)
 refine Go.LD.wp_region_local 13 (λ_=>False) (λi v w=>match i with
  | 0=>v = .pointer (some ⟨p,1,none⟩)
  | 1=>v = .slice (some ⟨p,1,none⟩) 12 12
  | 2=>v = .pointer (some ⟨p+1,1,none⟩)
  | 3=>v = .slice (some ⟨p+1,1,none⟩) 12 12
  | 4=>v = .int .i64 C
  | 5=>v = .pointer (some ⟨p,0,none⟩)
  | 6=>v = .int .i64 M
  | 7=>v = .pointer (some ⟨p+1,0,none⟩)
  | 8=>v = .int .i64 N
  | 9=>v = .int .i64 D
  | 10=>∃b,v = .slice (some ⟨b,0,none⟩) 2 2/\w.cell? ⟨b,0,none⟩=some (.int .i64 C)/\w.cell? ⟨b,1,none⟩=some (.int .i64 D)
  | _=>v = .int .i64 (if C=0 then D else C)) (by kernel_rfl) (by kernel_rfl) ?hV ?hop ?hend
 case hV =>
  intro i v w1 w2 hv hb
  match i,hv with
  | 10,hv =>
    obtain⟨b,h1,h2,h3⟩:=hv;have hlt:=World.block_lt_of_cell? _ _ h2;exact⟨b,h1,by rw[World.cell?_of_block (hb.b.block b hlt)];exact h2,by rw[World.cell?_of_block (hb.b.block b hlt)];exact h3⟩
  | 0,hv=>exact hv
  | 1,hv=>exact hv
  | 2,hv=>exact hv
  | 3,hv=>exact hv
  | 4,hv=>exact hv
  | 5,hv=>exact hv
  | 6,hv=>exact hv
  | 7,hv=>exact hv
  | 8,hv=>exact hv
  | 9,hv=>exact hv
  | i+11,hv=>exact hv
 case hop =>
  intro i o hi ho a w1 hb hsz hfr hdep K hK
  have f2:a.tmps.getD 2 undef = .pointer (some ⟨p,0,none⟩):=hfr 2 (λj o hj ho=>by
   match j,hj,ho with
   | 0,hj,ho=>simp at ho;subst ho;decide
   | 1,hj,ho=>simp at ho;subst ho;decide
   | 2,hj,ho=>simp at ho;subst ho;decide
   | 3,hj,ho=>simp at ho;subst ho;decide
   | 4,hj,ho=>simp at ho;subst ho;decide
   | 5,hj,ho=>simp at ho;subst ho;decide
   | 6,hj,ho=>simp at ho;subst ho;decide
   | 7,hj,ho=>simp at ho;subst ho;decide
   | 8,hj,ho=>simp at ho;subst ho;decide
   | 9,hj,ho=>simp at ho;subst ho;decide
   | 10,hj,ho=>simp at ho;subst ho;decide
   | 11,hj,ho=>simp at ho;subst ho;decide
   | 12,hj,ho=>simp at ho;subst ho;decide
   | j+13,hj,ho=>omega)
  have f3:a.tmps.getD 3 undef = .pointer (some ⟨p+1,0,none⟩):=hfr 3 (λj o hj ho=>by
   match j,hj,ho with
   | 0,hj,ho=>simp at ho;subst ho;decide
   | 1,hj,ho=>simp at ho;subst ho;decide
   | 2,hj,ho=>simp at ho;subst ho;decide
   | 3,hj,ho=>simp at ho;subst ho;decide
   | 4,hj,ho=>simp at ho;subst ho;decide
   | 5,hj,ho=>simp at ho;subst ho;decide
   | 6,hj,ho=>simp at ho;subst ho;decide
   | 7,hj,ho=>simp at ho;subst ho;decide
   | 8,hj,ho=>simp at ho;subst ho;decide
   | 9,hj,ho=>simp at ho;subst ho;decide
   | 10,hj,ho=>simp at ho;subst ho;decide
   | 11,hj,ho=>simp at ho;subst ho;decide
   | 12,hj,ho=>simp at ho;subst ho;decide
   | j+13,hj,ho=>omega)
  clear hfr
  have hcp:∀(c i:Nat) (v:Value),W.cell? ⟨c,i,none⟩=some v->w1.cell? ⟨c,i,none⟩=some v:=λc i v h=>by
   rw[World.cell?_of_block (hb.b.block c (World.block_lt_of_cell? _ _ h))];exact h
  have ev:∀(b:Nat) (o:Oper) (hs:∀cs b,o.op ≠ .select cs b),(∀x∈o.op.operands,a.eval x=evO p b M N C D x)->execOp a.eval o=execOp (evO p b M N C D) o:=λb o hs h=>execOp_congr o hs h
  match i,hi,ho with
  | 0,hi,ho =>
    simp only[List.getElem?_toArray,List.getElem?_cons_zero,List.getElem?_cons_succ,Option.some.injEq] at ho;subst ho;unfold Oper.wp;rw[ev 0]
    rotate_left 1
    ·intro cs b h;cases h
    ·intro x hx;simp[Op.operands,Call.operands] at hx;(first|(rcases hx with rfl)|subst hx)<;>first|rfl|exact f2
    clear ev hdep;simp only[execOp,evO]
    go_simp
    exact hK _ _ (Go.LD.BelD.refl _) rfl (λh=>h.elim)
  | 1,hi,ho =>
    simp only[List.getElem?_toArray,List.getElem?_cons_zero,List.getElem?_cons_succ,Option.some.injEq] at ho;subst ho;have f5:=hdep ⟨0,.data⟩ (by simp) (by rfl) _ rfl;unfold Oper.wp;rw[ev 0]
    rotate_left 1
    ·intro cs b h;cases h
    ·intro x hx;simp[Op.operands,Call.operands] at hx;(first|(rcases hx with rfl)|subst hx)<;>first|rfl|exact f5
    clear ev hdep;simp only[execOp,evO]
    go_simp
    exact hK _ _ (Go.LD.BelD.refl _) rfl (λh=>h.elim)
  | 2,hi,ho =>
    simp only[List.getElem?_toArray,List.getElem?_cons_zero,List.getElem?_cons_succ,Option.some.injEq] at ho;subst ho;unfold Oper.wp;rw[ev 0]
    rotate_left 1
    ·intro cs b h;cases h
    ·intro x hx;simp[Op.operands,Call.operands] at hx;(first|(rcases hx with rfl)|subst hx)<;>first|rfl|exact f3
    clear ev hdep;simp only[execOp,evO]
    go_simp
    exact hK _ _ (Go.LD.BelD.refl _) rfl (λh=>h.elim)
  | 3,hi,ho =>
    simp only[List.getElem?_toArray,List.getElem?_cons_zero,List.getElem?_cons_succ,Option.some.injEq] at ho;subst ho;have f7:=hdep ⟨2,.data⟩ (by simp) (by rfl) _ rfl;unfold Oper.wp;rw[ev 0]
    rotate_left 1
    ·intro cs b h;cases h
    ·intro x hx;simp[Op.operands,Call.operands] at hx;(first|(rcases hx with rfl)|subst hx)<;>first|rfl|exact f7
    clear ev hdep;simp only[execOp,evO]
    go_simp
    exact hK _ _ (Go.LD.BelD.refl _) rfl (λh=>h.elim)
  | 4,hi,ho =>
    simp only[List.getElem?_toArray,List.getElem?_cons_zero,List.getElem?_cons_succ,Option.some.injEq] at ho;subst ho;have f6:=hdep ⟨1,.data⟩ (by simp) (by rfl) _ rfl;have f8:=hdep ⟨3,.data⟩ (by simp) (by rfl) _ rfl;unfold Oper.wp;rw[ev 0]
    rotate_left 1
    ·intro cs b h;cases h
    ·intro x hx;simp[Op.operands,Call.operands] at hx;(first|(rcases hx with rfl|rfl|rfl)|subst hx)<;>first|rfl|exact f6|exact f8
    clear ev hdep;simp only[execOp,evO]
    go_simp
    simp only[evO]
    go_simp
    refine(kOG p (p+1) a0 a1 a2 a3 a4 a5 a6 a7 a8 a9 a10 a11 b0 b1 b2 b3 b4 b5 b6 b7 b8 b9 b10 b11 w1 (hcp p 1 _ (hA 1)) (hcp (p+1) 1 _ (hB 1)) (hcp p 2 _ (hA 2)) (hcp (p+1) 2 _ (hB 2)) (hcp p 3 _ (hA 3)) (hcp (p+1) 3 _ (hB 3)) (hcp p 4 _ (hA 4)) (hcp (p+1) 4 _ (hB 4)) (hcp p 5 _ (hA 5)) (hcp (p+1) 5 _ (hB 5)) (hcp p 6 _ (hA 6)) (hcp (p+1) 6 _ (hB 6)) (hcp p 7 _ (hA 7)) (hcp (p+1) 7 _ (hB 7)) (hcp p 8 _ (hA 8)) (hcp (p+1) 8 _ (hB 8)) (hcp p 9 _ (hA 9)) (hcp (p+1) 9 _ (hB 9)) (hcp p 10 _ (hA 10)) (hcp (p+1) 10 _ (hB 10)) (hcp p 11 _ (hA 11)) (hcp (p+1) 11 _ (hB 11)) (hcp p 12 _ (hA 12)) (hcp (p+1) 12 _ (hB 12))).mono ?_;rintro e w' ⟨rfl,rfl⟩;exact hK _ _ (Go.LD.BelD.refl _) (by rw[eC];exact rfl) (λh=>h.elim)
  | 5,hi,ho =>
    simp only[List.getElem?_toArray,List.getElem?_cons_zero,List.getElem?_cons_succ,Option.some.injEq] at ho;subst ho;unfold Oper.wp;rw[ev 0]
    rotate_left 1
    ·intro cs b h;cases h
    ·intro x hx;simp[Op.operands,Call.operands] at hx;(first|(rcases hx with rfl)|subst hx)<;>first|rfl|exact f2
    clear ev hdep;simp only[execOp,evO]
    go_simp
    exact hK _ _ (Go.LD.BelD.refl _) rfl (λh=>h.elim)
  | 6,hi,ho =>
    simp only[List.getElem?_toArray,List.getElem?_cons_zero,List.getElem?_cons_succ,Option.some.injEq] at ho;subst ho;have f10:=hdep ⟨5,.data⟩ (by simp) (by rfl) _ rfl;unfold Oper.wp;rw[ev 0]
    rotate_left 1
    ·intro cs b h;cases h
    ·intro x hx;simp[Op.operands,Call.operands] at hx;(first|(rcases hx with rfl)|subst hx)<;>first|rfl|exact f10
    clear ev hdep;have hc:=hcp p 0 _ (hA 0);simp only[execOp,evO]
    go_simp
    exact hK _ _ (Go.LD.BelD.refl _) rfl (λh=>h.elim)
  | 7,hi,ho =>
    simp only[List.getElem?_toArray,List.getElem?_cons_zero,List.getElem?_cons_succ,Option.some.injEq] at ho;subst ho;unfold Oper.wp;rw[ev 0]
    rotate_left 1
    ·intro cs b h;cases h
    ·intro x hx;simp[Op.operands,Call.operands] at hx;(first|(rcases hx with rfl)|subst hx)<;>first|rfl|exact f3
    clear ev hdep;simp only[execOp,evO]
    go_simp
    exact hK _ _ (Go.LD.BelD.refl _) rfl (λh=>h.elim)
  | 8,hi,ho =>
    simp only[List.getElem?_toArray,List.getElem?_cons_zero,List.getElem?_cons_succ,Option.some.injEq] at ho;subst ho;have f12:=hdep ⟨7,.data⟩ (by simp) (by rfl) _ rfl;unfold Oper.wp;rw[ev 0]
    rotate_left 1
    ·intro cs b h;cases h
    ·intro x hx;simp[Op.operands,Call.operands] at hx;(first|(rcases hx with rfl)|subst hx)<;>first|rfl|exact f12
    clear ev hdep;have hc:=hcp (p+1) 0 _ (hB 0);simp only[execOp,evO]
    go_simp
    exact hK _ _ (Go.LD.BelD.refl _) rfl (λh=>h.elim)
  | 9,hi,ho =>
    simp only[List.getElem?_toArray,List.getElem?_cons_zero,List.getElem?_cons_succ,Option.some.injEq] at ho;subst ho;have f11:=hdep ⟨6,.data⟩ (by simp) (by rfl) _ rfl;have f13:=hdep ⟨8,.data⟩ (by simp) (by rfl) _ rfl;unfold Oper.wp;rw[ev 0]
    rotate_left 1
    ·intro cs b h;cases h
    ·intro x hx;simp[Op.operands,Call.operands] at hx;(first|(rcases hx with rfl|rfl|rfl)|subst hx)<;>first|rfl|exact f11|exact f13
    clear ev hdep;simp only[execOp,evO]
    go_simp
    simp only[evO]
    go_simp
    refine(kU1 M N w1).mono ?_;rintro e w' ⟨rfl,rfl⟩;exact hK _ _ (Go.LD.BelD.refl _) (by rw[eD];exact rfl) (λh=>h.elim)
  | 10,hi,ho =>
    simp only[List.getElem?_toArray,List.getElem?_cons_zero,List.getElem?_cons_succ,Option.some.injEq] at ho;subst ho;have f9:=hdep ⟨4,.data⟩ (by simp) (by rfl) _ rfl;have f14:=hdep ⟨9,.data⟩ (by simp) (by rfl) _ rfl;unfold Oper.wp;rw[ev 0]
    rotate_left 1
    ·intro cs b h;cases h
    ·intro x hx;simp[Op.operands,Call.operands] at hx;(first|(rcases hx with rfl|rfl)|subst hx)<;>first|rfl|exact f9|exact f14
    clear ev hdep;simp only[execOp,evO]
    go_simp
    refine hK _ _ ⟨(Below.refl _ w1).alloc (Nat.le_refl _) _,Nat.le_refl _⟩ ⟨w1.heap.size,rfl,?_,?_⟩ (λh=>h.elim)
    ·unfold World.cell?;simp only[heap_alloc_new,Option.isSome_none,Bool.false_eq_true,if_false];rfl
    ·unfold World.cell?;simp only[heap_alloc_new,Option.isSome_none,Bool.false_eq_true,if_false];rfl
  | 11,hi,ho =>
    simp only[List.getElem?_toArray,List.getElem?_cons_zero,List.getElem?_cons_succ,Option.some.injEq] at ho;subst ho;have f15:=hdep ⟨10,.data⟩ (by simp) (by rfl) _ rfl;obtain⟨b,f15,h2,h3⟩:=f15;unfold Oper.wp;rw[ev b]
    rotate_left 1
    ·intro cs b h;cases h
    ·intro x hx;simp[Op.operands,Call.operands] at hx;(first|(rcases hx with rfl|rfl)|subst hx)<;>first|rfl|exact f15
    clear ev hdep;simp only[execOp,evO]
    go_simp
    simp only[evO]
    go_simp
    refine(c_or b C D w1 h2 h3).mono ?_;rintro e w' ⟨rfl,rfl⟩;exact hK _ _ (Go.LD.BelD.refl _) rfl (λh=>h.elim)
  | 12,hi,ho =>
    simp only[List.getElem?_toArray,List.getElem?_cons_zero,List.getElem?_cons_succ,Option.some.injEq] at ho;subst ho;have f16:=hdep ⟨11,.data⟩ (by simp) (by rfl) _ rfl;unfold Oper.wp;rw[ev 0]
    rotate_left 1
    ·intro cs b h;cases h
    ·intro x hx;simp[Op.operands,Call.operands] at hx;(first|(rcases hx with rfl)|subst hx)<;>first|rfl|exact f16
    clear ev hdep;simp only[execOp,evO]
    go_simp
    exact hK _ _ (Go.LD.BelD.refl _) rfl (λh=>h.elim)
  | i+13,hi,ho=>omega
 case hend =>
  intro a w2 hb hsz hdf hfr hspec hap;have f4:a.tmps.getD 4 undef = .int .i64 (if C=0 then D else C):=hspec 12 _ Z.d rfl;have hD:=Go.LD.BelD.grown (hW0.trans hb);clear hspec hfr hA hB hap;simp only[List.drop_succ_cons,List.drop_zero,List.drop_nil,wpList];rename_i Kx hKx;show Kx a w2;refine hKx a w2 ?_;refine wp_ret ?_;refine bodyPost_ret (results_tmp rfl _ _ _) hdf ?_;show _/\_;refine⟨?_,hD⟩;show Ending.returned (a.tmps.getD 4 undef)=_;rw[f4,eC,eD]
end Go.Proofs.YtlchlddijclhjaaGreat
namespace Go.Proofs.YtlchlddijclhjaaGreat
open Go Go.RowKit Go.Eng Go.Shelf Go.Sort
set_option maxRecDepth 100000
structure R13 where
 n:Int
 s0:Int
 s1:Int
 s2:Int
 s3:Int
 s4:Int
 s5:Int
 s6:Int
 s7:Int
 s8:Int
 s9:Int
 s10:Int
 s11:Int
 deriving Inhabited,DecidableEq
def R13.segs(x:R13):List Int:=[x.s0,x.s1,x.s2,x.s3,x.s4,x.s5,x.s6,x.s7,x.s8,x.s9,x.s10,x.s11]
def R13.enc(x:R13):List Value:=[.int .i64 x.n,.int .i64 x.s0,.int .i64 x.s1,.int .i64 x.s2,.int .i64 x.s3,.int .i64 x.s4,.int .i64 x.s5,.int .i64 x.s6,.int .i64 x.s7,.int .i64 x.s8,.int .i64 x.s9,.int .i64 x.s10,.int .i64 x.s11]
def R13.row(x:R13):List AV:=[x.n,x.s0,x.s1,x.s2,x.s3,x.s4,x.s5,x.s6,x.s7,x.s8,x.s9,x.s10,x.s11]
def R13.cf(x y:R13):Int:=if kDZ x.segs y.segs=0 then k8S x.n y.n else kDZ x.segs y.segs
theorem kXZ{a b:Int}:k8S a b<0↔a<b:=by unfold k8S;(repeat' split)<;>omega
theorem kOC{a b:Int}:k8S a b=0↔a=b:=by unfold k8S;(repeat' split)<;>omega
theorem kFN:∀(l m:List Int) (M N:Int),l.length=m.length->kDZ (l++[M]) (m++[N])=if kDZ l m=0 then k8S M N else kDZ l m
 | [],[],M,N,_=>by
   simp only[List.nil_append,kDZ];split<;>simp_all
 | a::l,b::m,M,N,h=>by
   have ih:=kFN l m M N (by simpa using h);simp only[List.cons_append,kDZ];rw[ih];by_cases hc:k8S a b=0
   ·simp only[hc,if_true]
   ·simp only[hc,if_false]
def ltL:List Int->List Int->Prop
 | a::l,b::m=>a<b\/a=b/\ltL l m
 | _,_=>False
theorem kOB:∀(l m:List Int),kDZ l m<0↔ltL l m
 | [],[]=>by simp[kDZ,ltL]
 | [],_::_=>by simp[kDZ,ltL]
 | _::_,[]=>by simp[kDZ,ltL]
 | a::l,b::m=>by
   have ih:=kOB l m;simp only[kDZ,ltL];by_cases hc:k8S a b=0
   ·rw[if_pos hc]
    have:=kOC.1 hc;subst this;rw[ih];constructor
    ·exact λh=>.inr ⟨rfl,h⟩
    ·rintro(h|h)
     ·omega
     ·exact h.2
   ·rw[if_neg hc,kXZ]
    have hne:a≠b:=λe=>hc (kOC.2 e);constructor
    ·exact λh=>.inl h
    ·rintro(h|h)
     ·exact h
     ·exact absurd h.1 hne
theorem k97:∀l:List Int,¬ltL l l
 | []=>λh=>h
 | a::l=>by
   rintro(h|h)
   ·omega
   ·exact k97 l h.2
theorem k8G:∀l m k:List Int,ltL l m->ltL m k->ltL l k
 | a::l,b::m,c::k,h1,h2=>by
   rcases h1 with h1|⟨rfl,h1⟩
   ·rcases h2 with h2|⟨rfl,h2⟩
    ·exact .inl Z.o
    ·exact .inl h1
   ·rcases h2 with h2|⟨rfl,h2⟩
    ·exact .inl h2
    ·exact .inr ⟨rfl,k8G l m k h1 h2⟩
 | [],_,_,h,_=>h.elim
 | _::_,[],_,h,_=>h.elim
 | _::_,_::_,[],_,h=>h.elim
theorem k8H:∀l m:List Int,l.length=m.length->ltL l m\/l=m\/ltL m l
 | [],[],_=>.inr (.inl rfl)
 | a::l,b::m,h=>by
   rcases Int.lt_trichotomy a b with hab|rfl|hab
   ·exact .inl (.inl hab)
   ·rcases k8H l m (by simpa using h) with h1|rfl|h1
    ·exact .inl (.inr ⟨rfl,h1⟩)
    ·exact .inr (.inl rfl)
    ·exact .inr (.inr (.inr ⟨rfl,h1⟩))
   ·exact .inr (.inr (.inl hab))
def R13.key(x:R13):List Int:=x.segs++[x.n]
theorem R13.cf_lt(x y:R13):ltOf R13.cf x y=true↔ltL x.key y.key:=by
 unfold ltOf R13.cf R13.key;rw[<- kFN x.segs y.segs x.n y.n rfl,decide_eq_true_iff,kOB]
theorem R13.key_inj{x y:R13}(h:x.key=y.key):x=y:=by
 cases x;cases y
 simp[R13.key,R13.segs] at h;simp[h]
theorem R13.swo:SWO (ltOf R13.cf) where
 irrefl x:=by rw[Bool.eq_false_iff];intro h;exact k97 _ ((R13.cf_lt x x).1 h)
 trans x y z h1 h2:=(R13.cf_lt x z).2 (k8G _ _ _ ((R13.cf_lt x y).1 h1) ((R13.cf_lt y z).1 h2))
 ntrans x y z h1 h2:=by
  rw[Bool.eq_false_iff] at *;intro h3;have h3:=(R13.cf_lt x z).1 h3;rcases k8H y.key z.key rfl with h|h|h
  ·exact h2 ((R13.cf_lt y z).2 h)
  ·rw[<- h] at h3;exact h1 ((R13.cf_lt x y).2 h3)
  ·exact h1 ((R13.cf_lt x y).2 (k8G _ _ _ h3 h))
theorem kQD(blk off size:Nat)(w:World):CmpLays Tryz.prog 211 #[] R13.enc 13 R13.cf blk off size w:=
 λ_ _ _ _ x y=>kJX x.n x.s0 x.s1 x.s2 x.s3 x.s4 x.s5 x.s6 x.s7 x.s8 x.s9 x.s10 x.s11 y.n y.s0 y.s1 y.s2 y.s3 y.s4 y.s5 y.s6 y.s7 y.s8 y.s9 y.s10 y.s11 _
theorem kY1(blk off cap:Nat)(d:Array R13)(w:World)(hH:HoldsK R13.enc 13 w blk off d)(hblk:blk<w.heap.size)(hsz:d.size<4611686018427387904) :
 Calls Tryz.prog 210 #[.slice (some ⟨blk,off,none⟩) d.size cap,.func (.func 211) #[] #[]] w λe w'=>e = .returned (.tuple #[])/\∃d' n os,PermIn 0 d.size d d'/\SortedIn (ltOf R13.cf) 0 d.size d'/\w'=sortWorldK R13.enc 13 w blk off n d' os:=by
 have eg:∀args w,(callFunc 211 args).run Tryz.prog w = .ok (.enter 211 args) w:=enters_of Tryz.func211 (by kernel_rfl) rfl;exact AnyQ.slices_SortFunc Tryz.sortFL 13 Tryz.isAgg239 Tryz.sizeOf239 R13.enc (λ_=>rfl) (λx v hv=>by simp only[R13.enc,List.mem_cons,List.not_mem_nil,or_false] at hv;rcases hv with rfl|rfl|rfl|rfl|rfl|rfl|rfl|rfl|rfl|rfl|rfl|rfl|rfl<;>rfl) R13.cf R13.swo 211 #[] blk off cap d w eg (kQD blk off d.size w) hH hblk hsz
theorem R13.enc_row(x:R13)(c:Nat)(hc:c<13):∃n,x.enc[c]! = .int .i64 n/\x.row[c]?=some (.int .i64 n):=by
 match c,hc with
 | 0,_=>exact⟨_,rfl,rfl⟩
 | 1,_=>exact⟨_,rfl,rfl⟩
 | 2,_=>exact⟨_,rfl,rfl⟩
 | 3,_=>exact⟨_,rfl,rfl⟩
 | 4,_=>exact⟨_,rfl,rfl⟩
 | 5,_=>exact⟨_,rfl,rfl⟩
 | 6,_=>exact⟨_,rfl,rfl⟩
 | 7,_=>exact⟨_,rfl,rfl⟩
 | 8,_=>exact⟨_,rfl,rfl⟩
 | 9,_=>exact⟨_,rfl,rfl⟩
 | 10,_=>exact⟨_,rfl,rfl⟩
 | 11,_=>exact⟨_,rfl,rfl⟩
 | 12,_=>exact⟨_,rfl,rfl⟩
theorem kK5{w:World}{b:Nat}{cs:Array Value}{t:TypeId}{fz:Nat×Nat}(h:w.heap[b]?=some (.cells cs t fz))(hz:kFW cs fz)(i:Nat)(hi:i<cs.size):w.frozen? ⟨b,i,none⟩=false:=by
 obtain⟨lo,hi'⟩:=fz;unfold World.frozen?;unfold kFW at hz;simp only[h,Bool.and_eq_false_iff,decide_eq_false_iff_not];simp only at hz;omega
theorem kKF{P:Program}(hP:Tryz.prog=P){h:k00}{K:AV->k00->Prop}{s n:Nat}{es:List (List AV)}{rs:List R13}(hs:h[s]?=some (.live 13 es))(zU:es=rs.map R13.row)(hn:n=rs.length)(hsz:rs.length<=1000000)
 (hK:∀rs':List R13,rs'.Perm rs->rs'.Pairwise (λx y=>¬ltL y.key x.key)->K (.tuple []) (h.set s (.live 13 (rs'.map R13.row)))) :
 k06 P 210 [.sl s 13 0 n,.func (.func 211) [] []] h K:=by
 subst hP;refine⟨⟨_,Tryz.func210,by kernel_rfl,by kernel_rfl⟩,λC vs hC RC hv=>?_⟩;subst hC;obtain⟨hvl,hv0⟩:=hv
 have hvs:vs = #[vs.getD 0 undef,vs.getD 1 undef]:=by
  have hn:vs.size=2:=(by simpa using hvl);obtain⟨l⟩:=vs
  match l,hn with
  | [x,y],_=>rfl
 obtain⟨cap,e0,hus,hnc,_⟩:=(hv0 0 _ rfl).sls;obtain⟨vf,vc,e1,hvf,hvc⟩:=(hv0 1 _ rfl).func';obtain rfl:vf = #[]:=Array.eq_empty_of_size_eq_zero (by simpa using hvf.1);obtain rfl:vc = #[]:=Array.eq_empty_of_size_eq_zero (by simpa using hvc.1);rw[hvs,e0,e1];obtain⟨_,hO,hrl,us,ty,fz,hcell,hfz,hul,hur⟩:=RC.live s 13 es hs Z.d;have hBm:C.r s<C.w.heap.size:=(Array.getElem?_eq_some_iff.1 hcell).1;have hel:es.length=rs.length:=by rw[zU];simp
 have cellOf:∀i c,i<rs.length->c<13->us.getD (i*13+c) undef=(R13.enc rs[i]!)[c]! :=by
  intro i c hi hc;obtain⟨m,h1,h2⟩:=R13.enc_row rs[i]! c hc;have:=(hur i (R13.row rs[i]!) (by rw[zU];simp[hi]) c _ h2).int';rw[this,h1]
 have hH:HoldsK R13.enc 13 C.w (C.r s) 0 rs.toArray:=by
  intro j hj;rw[size_flatK] at hj;simp only[List.size_toArray] at hj;refine⟨?_,kK5 hcell hfz _ (by simp only[Nat.zero_add];omega)⟩;have hi:j/13<rs.length:=(by omega);have hc:j%13<13:=(by omega);have h1:=cellOf (j/13) (j%13) hi hc;rw[show j/13*13+j%13=j by omega] at h1;have h2:=get_flatK R13.enc 13 rs.toArray j (by simpa using hj);unfold World.cell?;simp only[hcell,Option.isSome_none,Bool.false_eq_true,if_false,Nat.zero_add];have hju:j<us.size:=(by omega);rw[Array.getD_eq_getD_getElem?,Array.getElem?_eq_getElem hju] at h1;rw[Array.getElem?_eq_getElem hju];simp only[Option.getD_some] at h1;rw[h1];simp only[id,h2];simp[hi]
 have hcall:=kY1 (C.r s) 0 cap rs.toArray C.w hH hBm (by simp;omega);rw[show rs.toArray.size=n by simp[hn]] at hcall;refine hcall.mono ?_;rintro e w' ⟨rfl,d',m,os,hperm,hsort,rfl⟩;obtain⟨hps,_,hpp⟩:=hperm;have yG:d'.size=n:=by rw[hps];simp[hn]
 have hp2:d'.toList.Perm rs:=by
  have e1:d'.extract 0 n=d':=(by rw[<- yG];simp);have e2:rs.toArray.extract 0 n=rs.toArray:=(by rw[show n=rs.toArray.size by simp[hn]];simp);rw[e1,e2] at hpp;simpa using hpp
 have hsorted:d'.toList.Pairwise (λx y=>¬ltL y.key x.key):=by
  rw[List.pairwise_iff_getElem];intro i j hi hj hij;simp only[Array.length_toList] at hi hj;have:=hsort i j (Nat.zero_le _) hij Z.o;rw[Bool.eq_false_iff] at this;intro hl;apply this;rw[R13.cf_lt];simpa[hi,hj] using hl
 have hF:(flatK R13.enc 13 d').size=n*13:=by simp[yG]
 -- the sorted row
 have hw1:(putRowK R13.enc 13 (Sort.ahead C.w m) (C.r s) 0 d').heap[C.r s]?=some (.cells (putCells id 0 (flatK R13.enc 13 d') us) ty fz):=by
  simp only[putRowK,putRow,mapBlock,Sort.ahead,Array.getElem?_modify,if_true,hcell,Option.map_some,onCells]
 have hw2:∀b,b≠C.r s->(putRowK R13.enc 13 (Sort.ahead C.w m) (C.r s) 0 d').heap[b]?=C.w.heap[b]?:=λb hb=>by
  simp only[putRowK,putRow,mapBlock,Sort.ahead,Array.getElem?_modify,if_neg (Ne.symm hb)]
 have hnew:∀i c,i<n->c<13->(putCells id 0 (flatK R13.enc 13 d') us).getD (i*13+c) undef=(R13.enc d'[i]!)[c]! :=by
  intro i c hi hc;have hk:i*13+c<us.size:=(by omega);rw[Array.getD_eq_getD_getElem?];unfold putCells;rw[Array.getElem?_mapIdx,Array.getElem?_eq_getElem hk];simp only[Option.map_some,Option.getD_some,Nat.zero_le,true_and,Nat.zero_add,Nat.sub_zero,id];rw[if_pos Z.o,get_flatK _ _ _ _ Z.o,show (i*13+c)/13=i by omega,show (i*13+c)%13=c by omega]
 have hslt:s<C.h.length:=(List.getElem?_eq_some_iff.1 hs).1
 obtain⟨R1,E1⟩:=Rel.write RC s (C.h.set s (.live 13 (d'.toList.map R13.row))) (putRowK R13.enc 13 (Sort.ahead C.w m) (C.r s) 0 d') 13 es (d'.toList.map R13.row) us (putCells id 0 (flatK R13.enc 13 d') us) ty C.h.length Z.d hs
  (List.getElem?_set_self hslt) (λk hk=>List.getElem?_set_ne (Ne.symm hk)) hfz hcell hw1 (by simp[putCells]) hw2 rfl rfl rfl (by simp[putRowK,putRow,mapBlock,Sort.ahead])
  (λe he=>by obtain⟨x,_,rfl⟩:=List.mem_map.1 he;rfl) (by simp[putCells,yG];omega) (λi e he j x hx=>by
    rw[List.getElem?_map] at he
    cases hd:d'.toList[i]? with
    | none=>rw[hd] at he;cases he
    | some y =>
      rw[hd] at he;simp only[Option.map_some,Option.some.injEq] at he;subst he;have hil:i<d'.size:=by simpa using (List.getElem?_eq_some_iff.1 hd).1
      have hj:j<13:=by
       have:=(List.getElem?_eq_some_iff.1 hx).1;simpa[R13.row] using this
      obtain⟨k,h1,h2⟩:=R13.enc_row y j hj;rw[h2] at hx;simp only[Option.some.injEq] at hx;subst hx;rw[hnew i j Z.o hj]
      have:d'[i]! = y:=by
       have:=(List.getElem?_eq_some_iff.1 hd).2;simp at this;simp[hil,this]
      rw[this,h1];exact .int _ _)
 have hbel:Below (putRowK R13.enc 13 (Sort.ahead C.w m) (C.r s) 0 d').heap.size (putRowK R13.enc 13 (Sort.ahead C.w m) (C.r s) 0 d') (sortWorldK R13.enc 13 C.w (C.r s) 0 m d' os):=
  ⟨rfl,rfl,rfl,by simp[sortWorldK,Go.Sort.grow],λb hb=>by simp only[sortWorldK,Go.Sort.grow];rw[Array.getElem?_append_left hb]⟩
 obtain⟨R2,E2⟩:=Rel.below R1 hbel;refine⟨_,_,_,rfl,hK d'.toList hp2 hsorted,rfl,R2,.tuple [] #[] rfl (λi x hx=>by simp at hx),E1.trans (E2 _),by simp⟩
open Go Go.RowKit Go.Eng
set_option maxRecDepth 100000
def k8Z:List Int->Int
 | []=>0
 | _::l=>k8Z l+1
theorem k5L:∀l:List Int,k8Z l=l.length
 | []=>rfl
 | _::l=>by simp only[k8Z,k5L l,List.length_cons];omega
def toR(l:List Int):R13:=⟨k8Z l,l.getD 0 0,l.getD 1 0,l.getD 2 0,l.getD 3 0,l.getD 4 0,l.getD 5 0,l.getD 6 0,l.getD 7 0,l.getD 8 0,l.getD 9 0,l.getD 10 0,l.getD 11 0⟩
def rtC(l:List Int):List AV:=(toR l).row
theorem kUK{l m:List Int}(hl:l.length<=12)(hm:m.length<=12)(h:toR l=toR m):l=m:=by
 simp only[toR,R13.mk.injEq] at h;obtain⟨h0,k0,k1,k2,k3,k4,k5,k6,k7,k8,k9,k10,k11⟩:=h;rw[k5L,k5L] at h0;apply List.ext_getElem
 ·omega
 ·intro i hi hj
  have key:∀j,j<12->l.getD j 0=m.getD j 0:=by
   intro j hj
   match j,hj with
   | 0,_=>exact k0
   | 1,_=>exact k1
   | 2,_=>exact k2
   | 3,_=>exact k3
   | 4,_=>exact k4
   | 5,_=>exact k5
   | 6,_=>exact k6
   | 7,_=>exact k7
   | 8,_=>exact k8
   | 9,_=>exact k9
   | 10,_=>exact k10
   | 11,_=>exact k11
  have:=key i Z.o;simpa[List.getD_eq_getElem?_getD,hi,hj] using this
theorem kZ2{l m:List Int}(hl:l.length<=12)(hm:m.length<=12):toR l=toR m↔l=m:=⟨kUK hl hm,λh=>by rw[h]⟩
def kVR:List (Nat×Nat):=[(0,1),(1,1),(2,1),(3,1),(4,1),(5,1),(6,1),(7,1),(8,1),(9,1),(10,1),(11,1),(12,1)]
theorem kW5(x y:R13):k58 true 13 kVR (.agg x.row) (.agg y.row)=some (decide (x=y)):=by
 obtain⟨n,s0,s1,s2,s3,s4,s5,s6,s7,s8,s9,s10,s11⟩:=x;obtain⟨n',s0',s1',s2',s3',s4',s5',s6',s7',s8',s9',s10',s11'⟩:=y;simp only[k58,k2S,R13.row,List.length_cons,List.length_nil,if_true,kVR];simp only[k0O,eqA,List.getD_cons_zero,List.getD_cons_succ,if_true,Option.some.injEq,Bool.and_true];rw[Bool.eq_iff_iff];simp only[Bool.and_eq_true,beq_iff_eq,decide_eq_true_eq,R13.mk.injEq,and_assoc]
def enR(l:List Int):List AV:=[.agg (rtC l),jz (k8Z l)]
def ents(m:List (List Int)):List (List AV):=m.map enR
theorem k92(m:List (List Int)):Up0 (ents m):=k1D (f:=enR) (λd=>rfl) m
theorem k8O(m:List (List Int)):∀e,e∈ents m->e.length=2:=λe he=>by obtain⟨l,_,rfl⟩:=List.mem_map.1 he;rfl
theorem k6W(m:List (List Int)):(ents m).length=m.length:=by simp[ents]
def k80(m:List (List Int))(l:List Int):List (List Int):=if l∈m then m else m++[l]
theorem kD0:∀(m:List (List Int)) (l:List Int),l.length<=12->(∀k,k∈m->k.length<=12)->kM8 true 13 kVR (ents m) (.agg (rtC l)) (jz (k8Z l))=some (ents (k80 m l))
 | [],l,hl,hm=>rfl
 | k::m,l,hl,hm=>by
   have hk:=hm k List.mem_cons_self;have ih:=kD0 m l hl λj hj=>hm j (List.mem_cons_of_mem _ hj)
   have e:k58 true 13 kVR (.agg (rtC l)) (.agg (rtC k))=some (decide (l=k)):=by
    have:=kW5 (toR l) (toR k);rw[show decide (toR l=toR k)=decide (l=k) by rw[Bool.eq_iff_iff,decide_eq_true_iff,decide_eq_true_iff,kZ2 hl hk]] at this;exact this
   have e2:kM8 true 13 kVR (ents (k::m)) (.agg (rtC l)) (jz (k8Z l))=(match k58 true 13 kVR (.agg (rtC l)) (.agg (rtC k)) with
    | some true=>some ([.agg (rtC l),jz (k8Z l)]::ents m)
    | some false=>(match kM8 true 13 kVR (ents m) (.agg (rtC l)) (jz (k8Z l)) with|some r=>some (enR k::r)|none=>none)
    | none=>none):=rfl
   rw[e2,e];by_cases h:l=k
   ·subst h
    simp only[decide_true];simp[k80,ents,enR]
   ·have hd:decide (l=k)=false:=by simp[h]
    rw[hd];simp only[ih];unfold k80;by_cases hm2:l∈m
    ·rw[if_pos hm2,if_pos (List.mem_cons_of_mem _ hm2)];rfl
    ·rw[if_neg hm2,if_neg (by simp[h,hm2])];simp[ents]
def nxAt(ss:List Sg)(n:Int):List Int:=match ss[n.toNat]? with|some s=>s.nx|none=>[]
def k3L:List Int->Int
 | []=>0
 | [a]=>a
 | _::b::l=>k3L (b::l)
def k34(ss:List Sg)(lo hi:Int):Nat->List Int->Int->Int×List (List Int)->Int×List (List Int)
 | 0,_,_,s=>s
 | f+1,l,en,s =>
   if s.1≠0 then s
   else if hi<=en\/nxAt ss (k3L l)=[] then
    (if 16<(if lo<=en then k80 s.2 l else s.2).length then 13 else 0,if lo<=en then k80 s.2 l else s.2)
   else if l.length=12 then (13,s.2)
   else (nxAt ss (k3L l)).foldl (λs n=>k34 ss lo hi f (l++[n]) (en+k1O ss n) s) s
structure k4N(ss:List Sg):Prop where
 all:∀s,s∈ss->s.nx.length<=2/\∀n,n∈s.nx->0<=n/\n.toNat<ss.length
theorem k1I.nextOk{ss:List Sg}{gs:List Gr}(h:k1I ss gs):k4N ss:=⟨λs hs=>by
 obtain⟨j,hj⟩:=List.mem_iff_getElem?.1 hs;have:=h.seg j (List.getElem?_eq_some_iff.1 hj).1 s hj;refine⟨this.two,λn hn=>?_⟩;obtain⟨k,hk⟩:=List.mem_iff_getElem?.1 hn;have:=this.nx k (List.getElem?_eq_some_iff.1 hk).1 n hk
 omega⟩
theorem k1I.lensOk{ss:List Sg}{gs:List Gr}(h:k1I ss gs):k2N ss:=⟨λs hs=>by
 obtain⟨j,hj⟩:=List.mem_iff_getElem?.1 hs;have:=h.seg j (List.getElem?_eq_some_iff.1 hj).1 s hj;exact⟨this.pos,this.le⟩⟩
theorem kGH{ss:List Sg}(h:k4N ss){q n:Int}(hn:n∈nxAt ss q):0<=n/\n.toNat<ss.length:=by
 unfold nxAt at hn;split at hn
 ·rename_i s hs;exact(h.all s (List.mem_of_getElem? hs)).2 n hn
 ·cases hn
theorem kHZ{ss:List Sg}(h:k4N ss)(q:Int):(nxAt ss q).length<=2:=by
 unfold nxAt;split
 ·rename_i s hs;exact(h.all s (List.mem_of_getElem? hs)).1
 ·simp
theorem kQF(m:List (List Int))(l:List Int):(k80 m l).length<=m.length+1:=by unfold k80;split<;>simp
theorem kHV{m:List (List Int)}{l k:List Int}:k∈k80 m l↔k∈m\/k=l:=by
 unfold k80;split
 ·rename_i h
  exact⟨λh=>.inl h,λh'=>h'.elim id λe=>e▸h⟩
 ·simp
structure GOk(s:Int×List (List Int)):Prop where
 len:s.2.length<=17
 few:s.1=0->s.2.length<=16
 all:∀k,k∈s.2->k.length<=12/\1<=k.length
 nd:s.2.Nodup
theorem GOk.put{s:Int×List (List Int)}(h:GOk s)(h0:s.1=0){l:List Int}(hl:l.length<=12/\1<=l.length):GOk (if 16<(k80 s.2 l).length then 13 else 0,k80 s.2 l):=by
 have:=kQF s.2 l;have:=h.few h0;refine⟨by simp only;omega,λe=>by simp only at e ⊢;split at e<;>omega,λk hk=>?_,?_⟩
 ·rcases kHV.1 hk with hk|rfl
  ·exact h.all k hk
  ·exact hl
 ·show (k80 s.2 l).Nodup
  unfold k80;split
  ·exact h.nd
  ·rename_i hn
   exact List.nodup_append.2 ⟨h.nd,by simp,λa ha b hb=>by simp at hb;subst hb;exact λe=>hn (e▸ha)⟩
theorem kA4(ss:List Sg)(lo hi:Int):∀(f:Nat) (l:List Int) (en:Int) (s:Int×List (List Int)),GOk s->(l.length<=12/\1<=l.length)->GOk (k34 ss lo hi f l en s)
 | 0,l,en,s,h,hl=>h
 | f+1,l,en,s,h,hl=>by
   unfold k34;split
   ·exact h
   ·rename_i h0
    have h0:s.1=0:=Classical.not_not.1 h0;split
    ·by_cases hlo:lo<=en
     ·simp only[if_pos hlo];exact h.put h0 hl
     ·simp only[if_neg hlo]
      have:=h.few h0;exact⟨h.len,λ_=>this,h.all,h.nd⟩
    ·split
     ·exact⟨h.len,λe=>(by cases e),h.all,h.nd⟩
     ·rename_i h12
      generalize nxAt ss (k3L l)=ns
      have step:∀(ns:List Int) (s:Int×List (List Int)),GOk s->GOk (ns.foldl (λs n=>k34 ss lo hi f (l++[n]) (en+k1O ss n) s) s):=by
       intro ns
       induction ns with
       | nil=>intro s h;exact h
       | cons n ns ih=>intro s h;exact ih _ (kA4 ss lo hi f (l++[n]) _ s h (by simp;omega))
      exact step ns s h
theorem kDB(ss:List Sg)(lo hi:Int):∀(f:Nat) (l:List Int) (en:Int) (s:Int×List (List Int)),(s.1=0\/s.1=13)->((k34 ss lo hi f l en s).1=0\/(k34 ss lo hi f l en s).1=13)
 | 0,l,en,s,h=>h
 | f+1,l,en,s,h=>by
   unfold k34;split
   ·exact h
   ·split
    ·show (if 16<(if lo<=en then k80 s.2 l else s.2).length then (13:Int) else 0)=0\/(if 16<(if lo<=en then k80 s.2 l else s.2).length then (13:Int) else 0)=13
     by_cases hq:16<(if lo<=en then k80 s.2 l else s.2).length
     ·rw[if_pos hq];exact .inr rfl
     ·rw[if_neg hq];exact .inl rfl
    ·split
     ·exact .inr rfl
     ·generalize nxAt ss (k3L l)=ns
      have step:∀(ns:List Int) (s:Int×List (List Int)),(s.1=0\/s.1=13)->((ns.foldl (λs n=>k34 ss lo hi f (l++[n]) (en+k1O ss n) s) s).1=0\/(ns.foldl (λs n=>k34 ss lo hi f (l++[n]) (en+k1O ss n) s) s).1=13):=by
       intro ns
       induction ns with
       | nil=>intro s h;exact h
       | cons n ns ih=>intro s h;exact ih _ (kDB ss lo hi f (l++[n]) _ s h)
      exact step ns s h
end Go.Proofs.YtlchlddijclhjaaGreat
namespace Go.Proofs.YtlchlddijclhjaaGreat
open Go Go.RowKit Go.Eng
set_option maxRecDepth 100000
abbrev kDX(es ds:List (List AV))(lo hi:Int)(sm:Nat)(e:Int):List AV:=[.list 3 es,.list 5 ds,lo,hi,.mapr sm,e]
def k23(ss:List Sg)(es ds:List (List AV))(lo hi:Int)(f:Nat)(l:List Int):Prop:=
 ∀(en:Int) (e:Int) (m:List (List Int)),GOk (e,m)->(e=0\/e=13)->(-1099511627776<=en/\en<=k8Z l*1099511627776)->(∀n,n∈l->0<=n/\n.toNat<ss.length)->∀K:AV->k00->Prop,
  (∀j,K (.tuple []) (.live 6 [kDX es ds lo hi 1 (k34 ss lo hi f l en (e,m)).1] :: .live 0 (ents (k34 ss lo hi f l en (e,m)).2)::j)) ->
  k06 Tryz.prog 209 [.ref 0 6 0 0,.agg (rtC l),en] [.live 6 [kDX es ds lo hi 1 e],.live 0 (ents m)] K
theorem kCY{f:Nat->Nat}{es:List (List AV)}(h:Up0 es):k32 f es=es:=k3Z f es h.get
theorem k23.call{ss:List Sg}{es ds:List (List AV)}(hu:Up0 es)(hud:Up0 ds){lo hi:Int}{f:Nat}{l:List Int}(H:k23 ss es ds lo hi f l){P:Program}(hP:Tryz.prog=P){h:k00}{sg sm:Nat}(hne:sg≠sm){en e:Int}{m:List (List Int)}(hg:h[sg]?=some (.live 6 [kDX es ds lo hi sm e]))(hm:h[sm]?=some (.live 0 (ents m)))
 (hok:GOk (e,m)) (he:e=0\/e=13) (hen: -1099511627776<=en/\en<=k8Z l*1099511627776) (hl:∀n,n∈l->0<=n/\n.toNat<ss.length) {K:AV->k00->Prop}
 (hK:K (.tuple []) ((h.set sg (.live 6 [kDX es ds lo hi sm (k34 ss lo hi f l en (e,m)).1])).set sm (.live 0 (ents (k34 ss lo hi f l en (e,m)).2)))) :
 k06 P 209 [.ref sg 6 0 0,.agg (rtC l),en] h K:=by
 subst hP
 have u0:∀e':Int,k18 2 [kDX es ds lo hi 1 e']=true:=λe'=>by
  simp only[k18,k0Q,AV.upto,k21 2 es hu.get,k21 2 ds hud.get];rfl
 have u1:∀m,k18 2 (ents m)=true:=λm=>k21 2 _ (k92 m).get
 have r0:∀e':Int,k32 (λi=>if i=0 then sg else sm) [kDX es ds lo hi 1 e']=[kDX es ds lo hi sm e']:=λe'=>by
  simp only[k32,k4C,AV.ren,kCY hu,kCY hud];rfl
 have r1:∀m,k32 (λi=>if i=0 then sg else sm) (ents m)=ents m:=λm=>kCY (k92 m);refine k06.frame (λi=>if i=0 then sg else sm) (H en e m hok he hen hl (λr hD=>r = .tuple []/\∃j,hD = .live 6 [kDX es ds lo hi 1 (k34 ss lo hi f l en (e,m)).1] :: .live 0 (ents (k34 ss lo hi f l en (e,m)).2)::j) λj=>⟨rfl,j,rfl⟩) ?_ ?_ ?_ ?_ ?_
 ·intro i hi j hj hij
  simp only[List.length_cons,List.length_nil] at hi hj;by_cases h1:i=0<;>by_cases h2:j=0<;>simp[h1,h2] at hij<;>omega
 ·intro i hi
  match i,hi with
  | 0,_=>exact⟨6,_,rfl,u0 e,by rw[r0];exact hg⟩
  | 1,_=>exact⟨0,_,rfl,u1 m,by rw[r1];exact hm⟩
  | i+2,hi=>simp only[List.length_cons,List.length_nil] at hi;omega
 ·rfl
 ·rfl
 ·rintro r hD ⟨rfl,j,rfl⟩
  refine⟨rfl,λi hi=>?_,?_⟩
  ·match i,hi with
   | 0,_=>exact⟨6,_,rfl,u0 _⟩
   | 1,_=>exact⟨0,_,rfl,u1 _⟩
   | i+2,hi=>simp only[List.length_cons,List.length_nil] at hi;omega
  ·simp only[List.length_cons,List.length_nil,kL3,kM5,List.getD_cons_zero,List.getD_cons_succ,r0,r1]
   exact hK
theorem kIL(ss:List Sg)(gs:List Gr)(es ds:List (List AV))(zU:es=ss.map k0Y)(yG:ds=gs.map k14)(hln:k2N ss)(yS:k4N ss)(lo hi:Int)(x0 x1 x2 x3 x4 x5 x6 x7 x8 x9 x10 x11:Int):k23 ss es ds lo hi 1 [x0,x1,x2,x3,x4,x5,x6,x7,x8,x9,x10,x11]:=by
 have hu:Up0 es:=by rw[zU];exact k42 ss
 have hud:Up0 ds:=by rw[yG];exact k43 gs
 intro en e m hok he hen hl K hK;have hlast:=hl x11 (by simp);obtain⟨sg0,hd0,xA⟩:=k0V (f:=k0Y) (ds:=ss) (i:=x11) hlast.1 hlast.2;have hnxe:nxAt ss x11=sg0.nx:=by unfold nxAt;rw[hd0]
 have hnx0:∀n,n∈sg0.nx->0<=n/\n.toNat<ss.length:=λn hn=>kGH yS (by rw[hnxe];exact hn);have hnx2:sg0.nx.length<=2:=by have:=kHZ yS x11;rw[hnxe] at this;exact this
 have hF:k34 ss lo hi 1 [x0,x1,x2,x3,x4,x5,x6,x7,x8,x9,x10,x11] en (e,m)=(if e≠0 then (e,m) else if hi<=en\/sg0.nx=[] then (if 16<(if lo<=en then k80 m [x0,x1,x2,x3,x4,x5,x6,x7,x8,x9,x10,x11] else m).length then 13 else 0,if lo<=en then k80 m [x0,x1,x2,x3,x4,x5,x6,x7,x8,x9,x10,x11] else m) else (13,m)):=by
  rw[<- hnxe];rfl
 rw[hF] at hK;obtain⟨len,pcs,nx⟩:=sg0;obtain⟨q0,eq0⟩:=Z.f (pcs.map k1E);obtain⟨ns,ens⟩:=Z.f (nx.map k0K);have huns:Up0 ns:=by rw[<- ens];exact k3K nx
 have hnl:ns.length=nx.length:=by rw[<- ens];simp
 have xA:es[x11.toNat]?=some [.int .i64 len,.list 2 q0,.list 1 ns]:=by rw[zU,<- eq0,<- ens];exact xA
 have hput:=kD0 m [x0,x1,x2,x3,x4,x5,x6,x7,x8,x9,x10,x11] (by simp only[List.length_cons,List.length_nil];omega) (λj hj=>(hok.all j hj).1);obtain⟨em,eem⟩:=Z.f (ents m);obtain⟨em2,eem2⟩:=Z.f (ents (k80 m [x0,x1,x2,x3,x4,x5,x6,x7,x8,x9,x10,x11]));have hum:Up0 em:=by rw[<- eem];exact k92 m
 have htwo:∀e,e∈em->e.length=2:=by rw[<- eem];exact k8O m
 have htwo2:∀e,e∈em2->e.length=2:=by rw[<- eem2];exact k8O _
 have heml:em.length=m.length:=by rw[<- eem];exact k6W m
 have heml2:em2.length=(k80 m [x0,x1,x2,x3,x4,x5,x6,x7,x8,x9,x10,x11]).length:=by rw[<- eem2];exact k6W _
 rw[eem,eem2] at hput;rw[eem];have hnxs:∀n,n∈nx->0<=n/\n.toNat<ss.length:=hnx0;have hnx2:nx.length<=2:=hnx2;show k06 Tryz.prog 209 [.ref 0 6 0 0,.agg [jz 12,x0,x1,x2,x3,x4,x5,x6,x7,x8,x9,x10,x11],en] [.live 6 [kDX es ds lo hi 1 e],.live 0 em] K;refine Z.x Tryz.func209 λzA zG _ _ _ _ _ zC zB _ _ _ zE hz P hP=>?_;cbv;have s1:zA .sub .i64 12 1=11:=by rw[zC];rfl
 simp only[s1];refine InN.mk Z.d Z.d ?_;cbv
 repeat' (first
  | (refine kHB.mk _ rfl ?_;cbv)
  | (refine Idx.mk _ hlast.1 xA ?_;cbv))
 have hKz:e=0->(hi<=en\/nx=[])->∀j,K (.tuple []) (.live 6 [kDX es ds lo hi 1 (if 16<(if lo<=en then k80 m [x0,x1,x2,x3,x4,x5,x6,x7,x8,x9,x10,x11] else m).length then 13 else 0)] :: .live 0 (ents (if lo<=en then k80 m [x0,x1,x2,x3,x4,x5,x6,x7,x8,x9,x10,x11] else m))::j):=λh0 hc j=>by
  have:=hK j;rw[if_neg (by simp[h0]),if_pos hc] at this;exact this
 rcases he with rfl|rfl
 rotate_left 1
 ·have c0:zG .neq 13 0=true:=by rw[zB];rfl
  simp only[c0];cbv;have:=hK [.live 13 [[jz 12,x0,x1,x2,x3,x4,x5,x6,x7,x8,x9,x10,x11]]];rw[if_pos Z.d,eem] at this;exact this
 have c0:zG .neq 0 0=false:=by rw[zB];rfl
 simp only[c0];cbv;obtain⟨L,eL,L0,Ln⟩:=Z.l zE ns;have hKz:=hKz rfl;have n0:nx=[]↔L=0:=by rw[<- List.length_eq_zero_iff,<- hnl,<- Ln];omega
 have blockA:(hi<=en\/nx=[])->(lo<=en->∀j,K (.tuple []) (.live 6 [kDX es ds lo hi 1 (if (16:Int)<em2.length then 13 else 0)] :: .live 0 em2::j))/\(en<lo->∀j,K (.tuple []) (.live 6 [kDX es ds lo hi 1 0] :: .live 0 em::j)):=λhA=>by
  refine⟨λhlo j=>?_,λhlo j=>?_⟩
  ·have:=hKz hA j
   rw[if_pos hlo,eem2] at this;by_cases hq:16<(k80 m [x0,x1,x2,x3,x4,x5,x6,x7,x8,x9,x10,x11]).length
   ·rw[if_pos hq] at this
    rw[if_pos (by rw[heml2];omega)];exact this
   ·rw[if_neg hq] at this
    rw[if_neg (by rw[heml2];omega)];exact this
  ·have:=hKz hA j
   rw[if_neg (show ¬lo<=en by omega),eem,if_neg (show ¬16<m.length by have:=hok.few rfl;simp only at this;omega)] at this;exact this
 obtain⟨n1,en1⟩:∃n:Int,n=em.length:=⟨_,rfl⟩;obtain⟨n2,en2⟩:∃n:Int,n=em2.length:=⟨_,rfl⟩;have h16:n1<=16:=by have:=hok.few rfl;simp only at this;omega
 simp only[<- en2] at blockA;have lm1:∀ {K':AV->k00->Prop} {hp:k00} {c:Go.Call} {ty t kt et:TypeId} {x:Operand},hp[1]?=some (.live 0 em)->c.callee = .builtin .len->c.args = #[x]->c.argTypes = #[t]->P.underlying t=some (.map kt et)->K' (.int .i64 n1) hp->Xo P (.call c) ty [.mapr 1] hp K':=λh1 h2 h3 h4 h5 h6=>Xo.lenm h2 h3 h4 h5 h1 htwo n1 en1 h6;have lm2:∀ {K':AV->k00->Prop} {hp:k00} {c:Go.Call} {ty t kt et:TypeId} {x:Operand},hp[1]?=some (.live 0 em2)->c.callee = .builtin .len->c.args = #[x]->c.argTypes = #[t]->P.underlying t=some (.map kt et)->K' (.int .i64 n2) hp->Xo P (.call c) ty [.mapr 1] hp K':=λh1 h2 h3 h4 h5 h6=>Xo.lenm h2 h3 h4 h5 h1 htwo2 n2 en2 h6;(split<;>rename_i h1<;>(try (simp only[hz,Z.a,k05,k04,k08,k03,k0M,reduceCtorEq] at h1))<;>(try cbv))
 ·obtain⟨hy,hno⟩:=blockA (.inl h1)
  clear blockA hKz;(split<;>rename_i h3<;>(try (simp only[hz,Z.a,k05,k04,k08,k03,k0M,reduceCtorEq] at h3))<;>(try cbv))
  ·refine Put.mk em2 rfl hput ?_
   cbv;refine lm2 (kt:=239) (et:=3) rfl rfl rfl rfl (by rw[<- hP];kernel_rfl) ?_;cbv;(split<;>rename_i h4<;>(try (simp only[hz,Z.a,k05,k04,k08,k03,k0M,reduceCtorEq] at h4))<;>(try cbv))
   ·have:=hy h3 [.live 13 [[jz 12,x0,x1,x2,x3,x4,x5,x6,x7,x8,x9,x10,x11]]]
    rw[if_pos Z.o] at this;exact this
   ·have:=hy h3 [.live 13 [[jz 12,x0,x1,x2,x3,x4,x5,x6,x7,x8,x9,x10,x11]]]
    rw[if_neg Z.o] at this;exact this
  ·refine lm1 (kt:=239) (et:=3) rfl rfl rfl rfl (by rw[<- hP];kernel_rfl) ?_
   cbv;(split<;>rename_i h4<;>(try (simp only[hz,Z.a,k05,k04,k08,k03,k0M,reduceCtorEq] at h4))<;>(try cbv))
   ·exfalso;omega
   ·exact hno h3 [.live 13 [[jz 12,x0,x1,x2,x3,x4,x5,x6,x7,x8,x9,x10,x11]]]
 ·simp only[eL]
  (split<;>rename_i h2<;>(try (simp only[hz,Z.a,k05,k04,k08,k03,k0M,reduceCtorEq] at h2))<;>(try cbv))
  ·obtain⟨hy,hno⟩:=blockA (.inr (n0.2 h2))
   clear blockA hKz;(split<;>rename_i h3<;>(try (simp only[hz,Z.a,k05,k04,k08,k03,k0M,reduceCtorEq] at h3))<;>(try cbv))
   ·refine Put.mk em2 rfl hput ?_
    cbv;refine lm2 (kt:=239) (et:=3) rfl rfl rfl rfl (by rw[<- hP];kernel_rfl) ?_;cbv;(split<;>rename_i h4<;>(try (simp only[hz,Z.a,k05,k04,k08,k03,k0M,reduceCtorEq] at h4))<;>(try cbv))
    ·have:=hy h3 [.live 13 [[jz 12,x0,x1,x2,x3,x4,x5,x6,x7,x8,x9,x10,x11]]]
     rw[if_pos Z.o] at this;exact this
    ·have:=hy h3 [.live 13 [[jz 12,x0,x1,x2,x3,x4,x5,x6,x7,x8,x9,x10,x11]]]
     rw[if_neg Z.o] at this;exact this
   ·refine lm1 (kt:=239) (et:=3) rfl rfl rfl rfl (by rw[<- hP];kernel_rfl) ?_
    cbv;(split<;>rename_i h4<;>(try (simp only[hz,Z.a,k05,k04,k08,k03,k0M,reduceCtorEq] at h4))<;>(try cbv))
    ·exfalso;omega
    ·exact hno h3 [.live 13 [[jz 12,x0,x1,x2,x3,x4,x5,x6,x7,x8,x9,x10,x11]]]
  ·have hK:=hK
   have c12:zG .eql 12 12=true:=(by rw[zB];rfl);simp only[c12];cbv;have:=hK [.live 13 [[jz 12,x0,x1,x2,x3,x4,x5,x6,x7,x8,x9,x10,x11]]];rw[if_neg Z.d,if_neg (show ¬(hi<=en\/nx=[]) by rw[n0];omega),eem] at this;exact this
def k7V(ss:List Sg)(from_:Int)(l:List Int):Int:=l.foldl (λe n=>e+k1O ss n) (-from_)
theorem k5M{ss:List Sg}(h:k2N ss)(n:Int):0<=k1O ss n/\k1O ss n<=1099511627776:=by
 unfold k1O;split
 ·rename_i s hs;have:=h.pos s (List.mem_of_getElem? hs);omega
 ·omega
theorem kNC{ss:List Sg}(h:k2N ss):∀(l:List Int) (e:Int),e<=l.foldl (λe n=>e+k1O ss n) e/\l.foldl (λe n=>e+k1O ss n) e<=e+k8Z l*1099511627776
 | [],e=>by simp[k8Z]
 | n::l,e=>by
   have h1:=k5M h n;have h2:=kNC h l (e+k1O ss n);simp only[List.foldl_cons,k8Z];omega
theorem kNK{ss:List Sg}(h:k2N ss){from_:Int}(h0:0<=from_/\from_<=1099511627776)(l:List Int): -1099511627776<=k7V ss from_ l/\k7V ss from_ l<=k8Z l*1099511627776:=by
 have:=kNC h l (-from_);unfold k7V;omega
theorem kZL:∀(l:List Int) (h:l.length<=12),l=[l.getD 0 0,l.getD 1 0,l.getD 2 0,l.getD 3 0,l.getD 4 0,l.getD 5 0,l.getD 6 0,l.getD 7 0,l.getD 8 0,l.getD 9 0,l.getD 10 0,l.getD 11 0].take (min (max (k8Z l) 0) 12).toNat
 | [],_=>rfl
 | [_],_=>rfl
 | [_,_],_=>rfl
 | [_,_,_],_=>rfl
 | [_,_,_,_],_=>rfl
 | [_,_,_,_,_],_=>rfl
 | [_,_,_,_,_,_],_=>rfl
 | [_,_,_,_,_,_,_],_=>rfl
 | [_,_,_,_,_,_,_,_],_=>rfl
 | [_,_,_,_,_,_,_,_,_],_=>rfl
 | [_,_,_,_,_,_,_,_,_,_],_=>rfl
 | [_,_,_,_,_,_,_,_,_,_,_],_=>rfl
 | [_,_,_,_,_,_,_,_,_,_,_,_],_=>rfl
 | _::_::_::_::_::_::_::_::_::_::_::_::_::_,h=>by simp at h
theorem kB8(l:List Int)(h:l.length<=12):k02 Tryz.prog 107 [.agg (rtC l)] (· = .list 1 (l.map k0K)):=
 q0L (k8Z l) _ _ _ _ _ _ _ _ _ _ _ _ l (kZL l h)
theorem kXO(ss:List Sg)(gs:List Gr)(es ds:List (List AV))(zU:es=ss.map k0Y)(yG:ds=gs.map k14)(hln:k2N ss)(from_:Int)(hf:0<=from_/\from_<=1099511627776)(rs:List (List AV))(yL:Up0 rs)(l:List Int)(hl:l.length<=12)(hb:∀n,n∈l->0<=n/\n.toNat<ss.length) :
 k02 Tryz.prog 167 [.agg [from_,.list 13 rs],.agg [.list 3 es,.list 5 ds],.agg (rtC l)] (· = jz (k7V ss from_ l)):=by
 have hu:Up0 es:=by rw[zU];exact k42 ss
 have hud:Up0 ds:=by rw[yG];exact k43 gs
 obtain⟨y,ey⟩:=Z.e (k7V ss from_ l);have hp:=kB8 l hl;obtain⟨row,erow⟩:=Z.e (toR l);have hp:k02 Tryz.prog 107 [.agg row.row] (· = .list 1 (l.map k0K)):=by rw[erow];exact hp
 rw[<- ey];show k02 Tryz.prog 167 [.agg [from_,.list 13 rs],.agg [.list 3 es,.list 5 ds],.agg (toR l).row] (· = jz y);rw[<- erow];clear erow;obtain⟨n,s0,s1,s2,s3,s4,s5,s6,s7,s8,s9,s10,s11⟩:=row;obtain⟨ns,ens⟩:=Z.f (l.map k0K);have huns:Up0 ns:=by rw[<- ens];exact k3K l
 have hnl:ns.length=l.length:=by rw[<- ens];simp
 rw[ens] at hp;refine Z.y Tryz.func167 λzA _ yT _ _ _ hw zC _ yM _ _ zE hz R hR P hP=>?_;cbv;obtain⟨a0,ea0⟩:∃a0,a0 = -from_:=⟨_,rfl⟩;have c0:yT .neg .i64 from_=a0:=by rw[yM,ea0];simp only[k08];rw[IntKind.wrap_i64];omega
 simp only[c0];refine Call.stepE (by rw[<- hP];exact hp) rfl ?_;cbv;obtain⟨L,eL,L0,Ln⟩:=Z.l zE ns;simp only[eL]
 refine k1Q.data hw (S:=Int×Int) (λs=>fr 30 [(4,.ref 1 2 0 0),(7,s.2),(14,.list 1 ns),(15,L),(16,s.1)])
  (λs=>[.live 2 [[from_,.list 13 rs]],.live 2 [[.list 3 es,.list 5 ds]],.live 13 [[n,s0,s1,s2,s3,s4,s5,s6,s7,s8,s9,s10,s11]]])
  (λs=>0<=s.1/\s.1<=L/\s.2=(l.take s.1.toNat).foldl (λe n=>e+k1O ss n) a0 /\ -1099511627776<=s.2/\s.2<=s.1*1099511627776) (λs=>(L-s.1).toNat) (0,a0) Z.i ⟨Int.le_refl _,L0,rfl,by simp only;omega,by simp only;omega⟩ ?_
 rintro⟨i,e⟩ zJ Q' hN hE hR'
 have zJ:0<=i/\i<=L/\e=(l.take i.toNat).foldl (λe n=>e+k1O ss n) a0 /\ -1099511627776<=e/\e<=i*1099511627776:=zJ;cbv;obtain⟨yJ,yZ,hfold,hb1,hb2⟩:=zJ;(split<;>rename_i hc<;>(try (simp only[hz,Z.a,k05,k04,k08,k03,k0M,reduceCtorEq] at hc))<;>(try cbv))
 ·have hit:i.toNat<l.length:=by omega
  obtain⟨q,hq⟩:∃q,l[i.toNat]?=some q:=⟨_,List.getElem?_eq_getElem hit⟩;have hni:ns[i.toNat]?=some (k0K q):=(by rw[<- ens,List.getElem?_map,hq];rfl);have hnb:=hb q (List.mem_of_getElem? hq);obtain⟨sg1,hd1,hrow1⟩:=k0V (f:=k0Y) (ds:=ss) (i:=q) hnb.1 hnb.2;have hle:k1O ss q=sg1.len:=(by unfold k1O;rw[hd1]);have hl1:=hln.pos sg1 (List.mem_of_getElem? hd1);obtain⟨len1,pcs1,nx1⟩:=sg1;have hl1:1<=len1/\len1<=1099511627776:=hl1;have hle:k1O ss q=len1:=hle;obtain⟨q1,eq1⟩:=Z.f (pcs1.map k1E);obtain⟨q2,eq2⟩:=Z.f (nx1.map k0K);have hrow1:es[q.toNat]?=some [jz len1,.list 2 q1,.list 1 q2]:=(by rw[zU,<- eq1,<- eq2];exact hrow1);obtain⟨e2,ee2⟩:=Z.e (e+len1);obtain⟨i2,ei2⟩:=Z.e (i+1);have a3:zA .add .i64 e len1=e2:=by rw[zC,ee2];show IntKind.i64.wrap (e+len1)=e+len1;rw[IntKind.wrap_i64];omega
  have a4:zA .add .i64 i 1=i2:=by rw[zC,ei2];show IntKind.i64.wrap (i+1)=i+1;rw[IntKind.wrap_i64];omega
  have hf2:e2=(l.take i2.toNat).foldl (λe n=>e+k1O ss n) a0:=by
   rw[ei2,k24 yJ hq,List.foldl_append,<- hfold,List.foldl_cons,List.foldl_nil,hle,ee2]
  refine Idx.mk _ yJ hni ?_;cbv;refine Idx.mk _ hnb.1 hrow1 ?_;cbv;simp only[a3,a4];refine hN (i2,e2) _ _ ?hx ?hi ?ht
  case hx=>exact Z.i
  case hi=>exact⟨by simp only;omega,by simp only;omega,hf2,by simp only;omega,by simp only;omega⟩
  case ht=>simp only;omega
 ·refine hE _ _ _ ?_
  cbv;have:e=y:=(by rw[ey,hfold,List.take_of_length_le Z.o,ea0];rfl);exact⟨_,Vw.same rfl,hR _ (by rw[this];rfl)⟩
end Go.Proofs.YtlchlddijclhjaaGreat
