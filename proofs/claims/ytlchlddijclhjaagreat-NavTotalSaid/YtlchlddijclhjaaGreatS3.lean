/- Parts of the proofs. -/
import Derived.Laws.IdiomStrings
import Derived.Test.YtlchlddijclhjaaGreatS1
import Derived.Test.YtlchlddijclhjaaGreatS2
import Derived.StillTail
set_option linter.unusedVariables false
set_option linter.unusedSimpArgs false
namespace Go.Eng
open Go Go.RowKit
variable {P:Program} {o:Oper} {ev:k0B->AV} {h:k00}
theorem k5K{w:World}(n:Nat)(lo hi:Option Value)(l h':Nat)(hh:(hi=none/\h'=n)\/∃k,hi=some (.int k h')/\h'<=n)(hl:(lo=none/\l=0)\/∃k,lo=some (.int k l)/\l<=h') :
 (Instr.sliceBounds false n n lo hi none).run P w = .ok (l,h',n) w:=by
 rcases hh with ⟨rfl,rfl⟩|⟨k,rfl,h2⟩<;>rcases hl with ⟨rfl,rfl⟩|⟨k2,rfl,h4⟩
 ·simp[Instr.sliceBounds]
 ·simp[Instr.sliceBounds,Instr.sliceBound,asIntOf,h4]
 ·simp[Instr.sliceBounds,Instr.sliceBound,asIntOf,h2]
 ·simp[Instr.sliceBounds,Instr.sliceBound,asIntOf,h2,h4]
theorem kPU{t:TypeId}{x:Operand}{y:k0B}{lo hi:Option Operand}{lo' hi':Option k0B}{K:Res->Prop}(ho:o.op = .slice t x lo hi none)(hu:P.underlying t=some .string)
 (hx:k0C x=some y) (hlo:kDP lo=some lo') (hhi:kDP hi=some hi') (hK:k0T (.slcS y lo' hi') ev h K):∃r,K r/\k0A P o ev h r:=by
 simp only[k0T] at hK;split at hK
 ·rename_i s hy
  have go:∀(l hh:Nat),(∀(c:Cfg) (e:Operand->Value),Rel c->kJ2 c ev e->(Instr.sliceBounds false s.size s.size (lo.map e) (hi.map e) none).run P c.w = .ok (l,hh,s.size) c.w)->k0A P o ev h (.val (.str (s.extract l hh))):=by
   intro l hh H;refine k0A.val λc e R hs he=>⟨_,?_,.str _⟩;have g1:=(hy▸he x y hx:VR c _ (e x)).str';simp[execOp,ho,Instr.sliceAt,Instr.slice,k0L c.w hu,g1,H c e R he]
  have opt:∀ {q:Option Operand} {q':Option k0B} {k:IntKind} {b:Int},kDP q=some q'->q'.map ev=some (.int k b)->∀(c:Cfg) (e:Operand->Value),kJ2 c ev e->q.map e=some (.int k b):=by
   intro q q' k b hq hb c e he
   cases q with
   | none=>simp only[kDP,Option.some.injEq] at hq;subst hq;cases hb
   | some q0 =>
     simp only[kDP,Option.map_eq_some_iff] at hq;obtain⟨q1,h1,rfl⟩:=hq;simp only[Option.map_some,Option.some.injEq] at hb;rw[Option.map_some,(hb▸he q0 q1 h1:VR c _ (e q0)).int']
  have opn:∀ {q:Option Operand} {q':Option k0B},kDP q=some q'->q'.map ev=none->q=none:=by
   intro q q' hq hb
   cases q with
   | none=>rfl
   | some q0 =>
     simp only[kDP,Option.map_eq_some_iff] at hq;obtain⟨q1,h1,rfl⟩:=hq;cases hb
  split at hK
  ·rename_i k b h1 h2
   obtain⟨⟨b0,b1⟩,hK⟩:=hK;refine⟨_,hK,go _ _ λc e R he=>?_⟩;rw[opt hhi h2 c e he,opn hlo h1];exact k5K _ _ _ _ _ (.inr ⟨k,by rw[Int.toNat_of_nonneg b0],by omega⟩) (.inl ⟨rfl,rfl⟩)
  ·rename_i k a h1 h2
   obtain⟨⟨b0,b1⟩,hK⟩:=hK;refine⟨_,hK,go _ _ λc e R he=>?_⟩;rw[opt hlo h1 c e he,opn hhi h2];exact k5K _ _ _ _ _ (.inl ⟨rfl,rfl⟩) (.inr ⟨k,by rw[Int.toNat_of_nonneg b0],by omega⟩)
  ·rename_i k a k2 b h1 h2
   obtain⟨⟨b0,b1,b2⟩,hK⟩:=hK;refine⟨_,hK,go _ _ λc e R he=>?_⟩;rw[opt hlo h1 c e he,opt hhi h2 c e he];exact k5K _ _ _ _ _ (.inr ⟨k2,by rw[Int.toNat_of_nonneg (by omega)],by omega⟩) (.inr ⟨k,by rw[Int.toNat_of_nonneg b0],by omega⟩)
  ·rename_i h1 h2
   refine⟨_,hK,go _ _ λc e R he=>?_⟩;rw[opn hlo h1,opn hhi h2];exact k5K _ _ _ _ _ (.inl ⟨rfl,rfl⟩) (.inl ⟨rfl,rfl⟩)
  ·exact hK.elim
 ·exact hK.elim
theorem k8T(s:ByteArray):(k13 s).length=s.size:=by
 unfold k13;rw[List.length_map,Array.length_toList];rfl
theorem k5U{s:ByteArray}{j:Nat}(hj:j<s.data.toList.length):(k13 s)[j]?=some [.int .u8 (s.data.toList[j].toNat:Int)]:=by
 unfold k13;rw[List.getElem?_map,List.getElem?_eq_getElem hj];rfl
theorem kIV(s:ByteArray):s.data.toList.length=s.size:=by rw[Array.length_toList];rfl
theorem kIW(s:ByteArray):(⟨s.data.toList.toArray⟩:ByteArray)=s:=by
 show ByteArray.mk (s.data.toList.toArray)=s;rw[Array.toArray_toList]
theorem kUZ{s d e0:TypeId}{x:Operand}{y:k0B}{K:Res->Prop}(ho:o.op = .convert s d x)(hs:P.underlying s=some (.slice e0))(h8:P.underlying e0=some (.int .u8))(hd:P.underlying d=some .string)(hx:k0C x=some y)
 (hK:k0T (.toS y) ev h K):∃r,K r/\k0A P o ev h r:=by
 simp only[k0T] at hK;split at hK
 ·rename_i z es hy
  obtain⟨b,⟨rfl,rfl⟩,hK⟩:=hK;refine⟨_,hK,k0A.val λc e R hsub he=>⟨_,?_,.str _⟩⟩;rcases (hy▸he x y hx:VR c _ (e x)).lists with ⟨⟨a0,c0,g1⟩,g2⟩|⟨a,cap,f,g1,hcap,hsp,hz,hcell,hown,hv⟩
  ·have hb:b = .empty:=by
    have h1:=k8T b;rw[g2] at h1;simp only[List.length_nil] at h1;exact ByteArray.ext (Array.eq_empty_of_size_eq_zero h1.symm)
   subst hb
   cases a0 with
   | none=>simp[execOp,ho,g1,convert,k0L c.w hs,k0L c.w hd,k0L c.w h8,Conv.bytesToString]
   | some a =>
     have:=run_convert_bytes_back (P:=P) c.w s d e0 a c0 [] hs h8 hd (λj hj=>absurd hj (Nat.not_lt_zero _));simp only[List.length_nil] at this;simp[execOp,ho,g1,this];rfl
  ·have hl:(k13 b).length=b.data.toList.length:=by unfold k13;rw[List.length_map]
   have:=run_convert_bytes_back (P:=P) c.w s d e0 a cap b.data.toList hs h8 hd (λj hj=>by
    have h1:=hcell j 0 (by omega) (by omega);have h2:=(hv j _ (k5U hj) 0 _ rfl).int'
    have h3:a.add j=⟨a.block,a.off+(j*1+0),none⟩:=by
     cases a with|mk q w sp=>simp only at hsp;subst hsp;simp[Addr.add]
    rw[h3,h1,h2])
   rw[kIW,kIV] at this;rw[hl,kIV] at g1;simp[execOp,ho,g1,this]
 ·rename_i q z i n hy
  split at hK
  ·rename_i z' es hq
   obtain⟨b,⟨rfl,rfl,yH,hb⟩,hK⟩:=hK;refine⟨_,hK,k0A.val λc e R hsub he=>⟨_,?_,.str _⟩⟩;obtain⟨cap,g1,hus,hcap,_⟩:=(hy▸he x y hx:VR c _ (e x)).sls;obtain⟨_,hO,zU,vs,ty,fz,hh,hfz,hsz,hvr⟩:=R.live q 1 es (hsub _ _ _ hq) (by omega)
   have hl:b.data.toList.length=n:=by
    have h1:(k13 b).length=b.data.toList.length:=(by unfold k13;rw[List.length_map]);rw[<- h1,<- hb];simp;omega
   have:=run_convert_bytes_back (P:=P) c.w s d e0 ⟨c.r q,i*1,none⟩ cap b.data.toList hs h8 hd (λj hj=>by
    have h1:es[i+j]?=some [.int .u8 (b.data.toList[j].toNat:Int)]:=by
     have h2:=k5U hj;rw[<- hb,List.getElem?_take,if_pos (by omega),List.getElem?_drop] at h2;exact h2
    have h2:=(hvr (i+j) _ h1 0 _ rfl).int';have h4:=(List.getElem?_eq_some_iff.1 h1).1;have h3:(⟨c.r q,i*1,none⟩:Addr).add j=⟨c.r q,i+j,none⟩:=(by simp[Addr.add]);rw[h3,World.cell?];simp only[hh];have h5:i+j<vs.size:=(by omega);simp only[Nat.mul_one,Nat.add_zero,Array.getD_eq_getD_getElem?] at h2;rw[Array.getElem?_eq_getElem h5] at h2 ⊢;simp only[Option.getD_some] at h2;simp[h2])
   rw[kIW,hl] at this;simp only[Nat.mul_one] at g1 this;simp[execOp,ho,g1,this]
  ·exact hK.elim
 ·rename_i hy
  refine⟨_,hK,k0A.val λc e R hsub he=>⟨_,?_,.str _⟩⟩;have g1:=(hy▸he x y hx:VR c _ (e x)).nils';simp[execOp,ho,g1,convert,k0L c.w hs,k0L c.w hd,k0L c.w h8,Conv.bytesToString]
 ·rename_i hy
  refine⟨_,hK,k0A.val λc e R hsub he=>⟨_,?_,.str _⟩⟩;obtain⟨a,g1⟩:=(hy▸he x y hx:VR c _ (e x)).emp';have:=run_convert_bytes_back (P:=P) c.w s d e0 a 0 [] hs h8 hd (λj hj=>absurd hj (Nat.not_lt_zero _));simp only[List.length_nil] at this;simp[execOp,ho,g1,this];rfl
 ·exact hK.elim
theorem kV1{s d e0:TypeId}{x:Operand}{y:k0B}{K:Res->Prop}(ho:o.op = .convert s d x)(hs:P.underlying s=some .string)(h8:P.underlying e0=some (.int .u8))(hd:P.underlying d=some (.slice e0))(hx:k0C x=some y)
 (hK:k0T (.ofS y) ev h K):∃r,K r/\k0A P o ev h r:=by
 simp only[k0T] at hK;split at hK
 ·rename_i b hy
  refine⟨_,hK,?_⟩;intro c e R hsub he t h' ht hh;obtain⟨hh1,hh2⟩:=hh;have g1:=(hy▸he x y hx:VR c _ (e x)).str';obtain⟨cap,ecap⟩:∃cap,cap=grownCap c.w b.size 0 e0:=⟨_,rfl⟩;obtain⟨vs,evs⟩:∃vs,vs=bytesRow b cap:=⟨_,rfl⟩;have hrun:=run_bytes_of_string (P:=P) c.w s d e0 b hs hd h8;rw[<- ecap,<- evs] at hrun;have hcap:b.size<=cap:=(by rw[ecap];exact grownCap_ge _ _ _ _);have hvs:vs.size=cap:=by rw[evs];unfold bytesRow;simp;show b.size+_=_;omega
  have hbl:b.data.toList.length=b.size:=by rw[Array.length_toList];rfl
  have hvj:∀j (hj:j<b.data.toList.length),vs.getD j undef = .int .u8 (b.data.toList[j].toNat:Int):=by
   intro j hj;have hj':j<b.data.size:=(by rw[Array.length_toList] at hj;exact hj);rw[evs];unfold bytesRow;rw[Array.getD_eq_getD_getElem?,Array.getElem?_append_left (by simpa using hj')];simp[Array.getElem?_eq_getElem hj']
  obtain⟨R1,E1⟩:=R.drew (c.w.drawn+1) c.h.length;have R1:Rel { c with w:=c.w.drew }:=R1;have E1:Ext c.h.length c { c with w:=c.w.drew }:=E1
  obtain⟨R2,E2⟩:=Rel.freshX R1 t h' 1 (k13 b) (.cells vs e0 (vs.size,vs.size+1)) (λi j=>vs.getD (i*1+j) undef) c.h.length ht hh1 (λq y hq hy=>hh2 q y hq hy)
   (.inl ⟨Nat.one_pos,λe he=>by unfold k13 at he;obtain⟨u,_,rfl⟩:=List.mem_map.1 he;rfl,vs,e0,_,rfl,.inr (Nat.le_refl _),by rw[k8T];omega,rfl⟩)
   (λi e hi j u hj=>by
     have hil:=(List.getElem?_eq_some_iff.1 hi).1;have hil:i<b.data.toList.length:=(by unfold k13 at hil;rwa [List.length_map] at hil);rw[k5U hil] at hi;cases hi
     match j,hj with
     | 0,hj =>
       simp only[List.getElem?_cons_zero,Option.some.injEq] at hj;subst hj;show VR _ _ (vs.getD (i*1+0) undef);rw[show i*1+0=i by omega,hvj i hil];exact .int _ _
     | j+1,hj=>simp at hj)
  refine⟨.value (.slice (some ⟨c.w.heap.size,0,none⟩) b.size cap),_,_,?_,rfl,R2,E1.trans E2,rfl,?_⟩
  ·show (execOp e o).run P c.w=_
   simp only[execOp,ho,g1];simp[hrun]
  ·have q:=VR.sl (c:={ c with r:=λs=>if s=t then c.w.drew.heap.size else c.r s,h:=h',w:=c.w.drew.alloc (.cells vs e0 (vs.size,vs.size+1)) }) t 1 0 b.size cap ⟨_,hh1,by simp⟩ hcap ⟨e0,vs.size,by
    unfold World.shape?;simp[World.drew,World.alloc,-World.alloc_eq,-World.drew_eq],by omega⟩
   have e2:(Value.slice (some ⟨c.w.heap.size,0,none⟩) b.size cap)=Value.slice (some ⟨if t=t then c.w.drew.heap.size else c.r t,0*1,none⟩) b.size cap:=(by rw[if_pos rfl];rfl);rw[e2];exact q
 ·exact hK.elim
theorem kQ7{t e0:TypeId}{parts:Array (Nat×Operand)}{z:Nat}{K:Res->Prop}(ho:o.op = .buildSlice t 0 parts)(hu:P.underlying t=some (.slice e0))(hk:k3O P e0=some z)(hp:parts.size=0)
 (hK:k0T .bemp ev h K):∃r,K r/\k0A P o ev h r:=by
 simp only[k0T] at hK;refine⟨_,hK,?_⟩;intro c e R hs he t' h' ht hh;have hh:h'=c.h:=hh;subst hh;obtain⟨ie,hie,hiz⟩:=k4Z hk;have hpn:parts = #[]:=Array.eq_empty_of_size_eq_zero hp;subst hpn;obtain⟨R1,E1⟩:=R.alloc (.cells #[] e0) c.h.length;refine⟨.value (.slice (some ⟨c.w.heap.size,0,none⟩) 0 0),.slice (some ⟨c.w.heap.size,0,none⟩) 0 0,_,?_,rfl,R1,E1,rfl,.emp _⟩;show (execOp e o).run P c.w=_;simp[execOp,ho,Instr.buildSlice,k0L c.w hu,sizeOf,typeInfo,hie,Instr.fill,newRow];have:Array.map (λx:Nat=>(default:Value)) (Array.range 0) = #[]:=Array.eq_empty_of_size_eq_zero (by simp);rw[this]
end Go.Eng
namespace Go.Eng
open Go Go.RowKit
theorem kYS{α: Type}{a:Array α}{x: α}(h:a.toList=[x]):a = #[x]:=by apply Array.ext';simpa using h
theorem q3C{α: Type}{a:Array α}{x y: α}(h:a.toList=[x,y]):a = #[x,y]:=by apply Array.ext';simpa using h
theorem kJC{P:Program}{o:Oper}{cl:Call}{ao:AOp}{ev:k0B->AV}{h:k00}{K:Res->Prop}(ho:o.op = .call cl)(hc:k3B P cl o.type=some ao)(hK:k0T ao ev h K):∃r,K r/\k0A P o ev h r:=by
 unfold k3B at hc;split at hc
 ·split at hc
  ·simp only[Option.some.injEq] at hc
   subst hc;exact hK.elim
  ·cases hc
 ·cases hc
 ·rename_i b hb
  split at hc
  ·rename_i x t hx ht
   split at hc
   ·rename_i n e hu
    simp only[Option.some.injEq] at hc;subst hc;exact kQ2 ho hb (kYS hx) (kYS ht) hu hK
   ·rename_i e hu
    cases hcx:k0C x with
    | none=>simp[hcx] at hc
    | some y =>
      simp only[hcx,Option.map_some,Option.some.injEq] at hc;subst hc;exact kQ0 ho hb (kYS hx) (kYS ht) hu hcx hK
   ·rename_i hu
    cases hcx:k0C x with
    | none=>simp[hcx] at hc
    | some y =>
      simp only[hcx,Option.map_some,Option.some.injEq] at hc;subst hc;exact kQ1 ho hb (kYS hx) (kYS ht) hu hcx hK
   ·cases hc
  ·rename_i x xs ts hx
   split at hc
   ·rename_i y ys hy hys
    simp only[Option.some.injEq] at hc;subst hc;exact kT4 ho (by simpa using hb) hx hy hys hK
   ·cases hc
  ·rename_i x xs ts hx
   split at hc
   ·rename_i y ys hy hys
    simp only[Option.some.injEq] at hc;subst hc;exact kT4 ho (by simpa using hb) hx hy hys hK
   ·cases hc
  ·rename_i x y t u hx ht
   split at hc
   ·rename_i e hu
    split at hc
    ·rename_i htu
     subst htu;split at hc
     ·rename_i i hi
      split at hc
      ·rename_i hcond
       simp only[Bool.and_eq_true,decide_eq_true_eq] at hcond;obtain⟨⟨h1,h2⟩,h3⟩:=hcond;split at hc
       ·rename_i a b ha hb'
        simp only[Option.some.injEq] at hc;subst hc
        cases hz:i.zero with
        | none=>simp[hz] at h1
        | some zv =>
          simp only[hz,Option.map_some,Option.some.injEq] at h3;exact kV9 ho hb (q3C hx) (q3C ht) hu hi hz h3 h2 ha hb' hK
       ·cases hc
      ·cases hc
     ·cases hc
    ·cases hc
   ·cases hc
  ·cases hc
theorem sound{P:Program}{o:Oper}{ao:AOp}{ev:k0B->AV}{h:k00}{K:Res->Prop}(hc:k1F P o.op o.type=some ao)(hK:k0T ao ev h K):∃r,K r/\k0A P o ev h r:=by
 cases hop:o.op<;>simp only[k1F,hop,reduceCtorEq] at hc
 case move x =>
  cases hx:k0C x with
  | none=>simp[hx] at hc
  | some y=>simp only[hx,Option.map_some,Option.some.injEq] at hc;subst hc;exact⟨_,hK,kT3 (.inl hop) hx⟩
 case assign x =>
  cases hx:k0C x with
  | none=>simp[hx] at hc
  | some y=>simp only[hx,Option.map_some,Option.some.injEq] at hc;subst hc;exact⟨_,hK,kT3 (.inr hop) hx⟩
 case pick c a b =>
  split at hc
  ·rename_i c' a' b' h1 h2 h3
   simp only[Option.some.injEq] at hc;subst hc;simp only[k0T] at hK;split at hK
   ·rename_i t ht
    exact⟨_,hK,kPV hop h1 h2 h3 ht⟩
   ·exact hK.elim
  ·cases hc
 case alloc e =>
  split at hc
  ·rename_i zs k hz hk
   split at hc
   ·rename_i hcond
    simp only[Option.some.injEq] at hc;subst hc;exact⟨_,hK,kV2 hop hz hcond.1 hcond.2.1⟩
   ·cases hc
  ·cases hc
 case box e x =>
  split at hc
  ·rename_i y k hx hk
   split at hc
   ·rename_i h0
    simp only[Option.some.injEq] at hc;subst hc;exact kV8 hop hx h0 hK
   ·cases hc
  ·cases hc
 case build t parts =>
  split at hc
  ·rename_i fs zs hu hz
   split at hc
   ·rename_i pl hpl
    cases hf:k7W (pl.toArray[·]?) parts.toList with
    | none=>rw[hf] at hc;cases hc
    | some ps=>rw[hf] at hc;simp only[Option.map_some,Option.some.injEq] at hc;subst hc;exact kEE hop hz (.inl ⟨fs,pl,hu,hpl,hf⟩) hK
   ·cases hc
  ·rename_i n e zs hu hz
   split at hc
   ·rename_i k hk
    cases hf:k7W (λi=>some (i*k,k)) parts.toList with
    | none=>simp[hf] at hc
    | some ps=>simp only[hf,Option.map_some,Option.some.injEq] at hc;subst hc;exact kEE hop hz (.inr ⟨n,e,k,hu,hk,hf⟩) hK
   ·cases hc
  ·cases hc
 case buildSlice t n parts =>
  split at hc
  ·rename_i e hu
   split at hc
   ·rename_i zs k hz hk
    split at hc
    ·rename_i hcond
     obtain⟨rfl,hzl,hp⟩:=hcond;simp only[Option.some.injEq] at hc;subst hc;exact kQ7 hop hu hk hp hK
    split at hc
    ·rename_i hcond
     cases hf:k7W (λi=>some (i*k,k)) parts.toList with
     | none=>simp[hf] at hc
     | some ps=>simp only[hf,Option.map_some,Option.some.injEq] at hc;subst hc;exact kJE hop hu hz hk hcond.1 hcond.2.1 hcond.2.2.1 hcond.2.2.2 hf hK
    ·cases hc
   ·cases hc
  ·cases hc
 case load t a =>
  split at hc
  ·rename_i g k y hg hk hy
   split at hc
   ·rename_i hgk
    simp only[Option.some.injEq] at hc;subst hc;exact kPZ hop hy hg hk hgk.1 hgk.2 hK
   ·cases hc
  ·cases hc
 case store t a x =>
  split at hc
  ·rename_i k a' x' hk ha hx
   split at hc
   ·rename_i hk0
    simp only[Option.some.injEq] at hc;subst hc;exact kLQ hop ha hx hk hk0 hK
   ·cases hc
  ·cases hc
 case nilCheck x =>
  cases hx:k0C x with
  | none=>simp[hx] at hc
  | some y=>simp only[hx,Option.map_some,Option.some.injEq] at hc;subst hc;exact kPW hop hx hK
 case binOp op t x y u =>
  split at hc
  ·rename_i x' y' hx hy
   split at hc
   ·simp only[Option.some.injEq] at hc;subst hc;exact kLT hop hx hy hK
   ·simp only[Option.some.injEq] at hc;subst hc;exact kLT hop hx hy hK
   ·rename_i hu
    split at hc
    ·simp only[Option.some.injEq] at hc;subst hc;exact kLR false rfl hop hu hx hy hK
    ·simp only[Option.some.injEq] at hc;subst hc;exact kLR true rfl hop hu hx hy hK
    ·cases hc
   ·rename_i fs hu
    split at hc
    ·rename_i n os hn hl
     simp only[Option.some.injEq] at hc;subst hc;exact kCU false rfl hop (by unfold k19;rw[hu]) hn hl hx hy hK
    ·rename_i n os hn hl
     simp only[Option.some.injEq] at hc;subst hc;exact kCU true rfl hop (by unfold k19;rw[hu]) hn hl hx hy hK
    ·cases hc
   ·rename_i k e hu
    split at hc
    ·rename_i n os hn hl
     simp only[Option.some.injEq] at hc;subst hc;exact kCU false rfl hop (by unfold k19;rw[hu]) hn hl hx hy hK
    ·rename_i n os hn hl
     simp only[Option.some.injEq] at hc;subst hc;exact kCU true rfl hop (by unfold k19;rw[hu]) hn hl hx hy hK
    ·cases hc
   ·cases hc
  ·cases hc
 case unOp op t x =>
  cases hx:k0C x with
  | none=>simp[hx] at hc
  | some y=>simp only[hx,Option.map_some,Option.some.injEq] at hc;subst hc;exact kZC hop hx hK
 case convert s d x =>
  split at hc
  ·rename_i k0 k hs hd
   cases hx:k0C x with
   | none=>simp[hx] at hc
   | some y=>simp only[hx,Option.map_some,Option.some.injEq] at hc;subst hc;exact kQ6 hop hs hd hx hK
  ·rename_i hs hd
   cases hx:k0C x with
   | none=>simp[hx] at hc
   | some y=>simp only[hx,Option.map_some,Option.some.injEq] at hc;subst hc;exact kLS hop hs hd hx hK
  ·rename_i e0 hs hd
   split at hc
   ·rename_i h8
    cases hx:k0C x with
    | none=>simp[hx] at hc
    | some y=>simp only[hx,Option.map_some,Option.some.injEq] at hc;subst hc;exact kUZ hop hs h8 hd hx hK
   ·cases hc
  ·rename_i e0 hs hd
   split at hc
   ·rename_i h8
    cases hx:k0C x with
    | none=>simp[hx] at hc
    | some y=>simp only[hx,Option.map_some,Option.some.injEq] at hc;subst hc;exact kV1 hop hs h8 hd hx hK
   ·cases hc
  ·split at hc
   ·cases hx:k0C x with
    | none=>simp[hx] at hc
    | some y=>simp only[hx,Option.map_some,Option.some.injEq] at hc;subst hc;exact hK.elim
   ·cases hc
  ·cases hc
 case makeFunc fn first caps =>
  split at hc
  ·rename_i a b ha hb
   simp only[Option.some.injEq] at hc;subst hc;exact⟨_,hK,kV4 hop ha hb⟩
  ·cases hc
 case makeSlice t l c =>
  split at hc
  ·rename_i e hu
   split at hc
   ·rename_i i zs l' c' hi hz hl hc'
    split at hc
    ·rename_i hcond
     simp only[Option.some.injEq] at hc;subst hc;exact kZD hop hu hi hz hcond.1 hcond.2 hl hc' hK
    ·cases hc
   ·cases hc
  ·cases hc
 case slice t x lo hi mx =>
  cases mx with
  | some m=>simp at hc
  | none =>
    simp only at hc;split at hc
    ·rename_i e hu
     split at hc
     ·rename_i k y lo' hi' hk hy hlo hhi
      simp only[Option.some.injEq] at hc;subst hc;exact kV0 hop hu hk hy hlo hhi hK
     ·cases hc
    ·rename_i hu
     split at hc
     ·rename_i y lo' hi' hy hlo hhi
      simp only[Option.some.injEq] at hc;subst hc;exact kPU hop hu hy hlo hhi hK
     ·cases hc
    ·cases hc
 case fieldAddr s x f =>
  split at hc
  ·rename_i off k g y hf hy
   split at hc
   ·rename_i h0
    simp only[Option.some.injEq] at hc;subst hc;exact kQ5 hop hf hy h0 hK
   ·cases hc
  ·cases hc
 case field s x f =>
  split at hc
  ·rename_i off k g y hf hy
   split at hc
   ·rename_i h0
    simp only[Option.some.injEq] at hc;subst hc;exact kV6 hop hf hy h0 hK
   ·cases hc
  ·cases hc
 case indexAddr t x i =>
  split at hc
  ·rename_i n e y q hu hy hq
   cases hk:k3O P e with
   | none=>simp[hk] at hc
   | some k=>simp only[hk,Option.map_some,Option.some.injEq] at hc;subst hc;exact kQ4 hop hu hk hy hq hK
  ·rename_i e y q hu hy hq
   split at hc
   ·rename_i k hk
    split at hc
    ·simp only[Option.some.injEq] at hc;subst hc;exact kQ3 hop hu hk hy hq hK
    ·cases hc
   ·cases hc
  ·cases hc
 case index t x i =>
  split at hc
  ·rename_i n e y q hu hy hq
   split at hc
   ·rename_i k g hk hg
    split at hc
    ·rename_i hgk
     simp only[Option.some.injEq] at hc;subst hc;exact kV5 hop hu hk hg hgk hy hq hK
    ·cases hc
   ·cases hc
  ·rename_i y q hu hy hq
   simp only[Option.some.injEq] at hc;subst hc;exact kJD hop hu hy hq hK
  ·cases hc
 case extract x i =>
  cases hx:k0C x with
  | none=>simp[hx] at hc
  | some y=>simp only[hx,Option.map_some,Option.some.injEq] at hc;subst hc;exact kV7 hop hx hK
 case call cl =>
  split at hc
  ·simp only[Option.some.injEq] at hc;subst hc;exact hK.elim
  ·split at hc
   ·simp only[Option.some.injEq] at hc;subst hc;exact hK.elim
   ·exact kJC hop hc hK
 case makeMap t r =>
  cases r with
  | some r=>simp at hc
  | none =>
    simp only[Option.some.injEq] at hc;subst hc;exact kV3 hop hK
 case lookup t x k ok =>
  split at hc
  ·rename_i kt et x' k' hu hx hk
   split at hc
   ·rename_i g n os z hkt hz
    simp only[Option.some.injEq] at hc;subst hc;exact kPY hop hu hkt hz hx hk hK
   ·cases hc
  ·cases hc
 case mapUpdate t x k v =>
  split at hc
  ·rename_i kt et x' k' v' hu hx hk hv
   split at hc
   ·rename_i g n os hkt
    simp only[Option.some.injEq] at hc;subst hc;exact kPX hop hu hkt hx hk hv hK
   ·cases hc
  ·cases hc
 case range t x =>
  cases hx:k0C x with
  | none=>simp[hx] at hc
  | some y=>simp only[hx,Option.map_some,Option.some.injEq] at hc;subst hc;exact hK.elim
 case next x s =>
  cases hx:k0C x with
  | none=>simp[hx] at hc
  | some y=>simp only[hx,Option.map_some,Option.some.injEq] at hc;subst hc;exact hK.elim
 case entry x =>
  cases hx:k0C x with
  | none=>simp[hx] at hc
  | some y=>simp only[hx,Option.map_some,Option.some.injEq] at hc;subst hc;exact hK.elim
abbrev k09:=List AV
abbrev k17:=Exit->k09->k00->Prop
def evA(a:k09):k0B->AV
 | .tmp t=>a.getD t .any
 | .const v=>v
 | .func f=>.func (.func f) [] []
def k1V(a:k09)(d:Option Nat)(v:AV):k09:=
 match d with
 | some d=>a.set d v
 | none=>a
def k6Y(K:k09->k00->Prop)(Q:k17):k17
 | .normal,a,h=>K a h
 | e,a,h=>Q e a h
def k33(id:Nat)(Q:k17):k17
 | .exit i,a,h=>if i=id then Q .normal a h else Q (.exit i) a h
 | e,a,h=>Q e a h
structure St(C:Cfg)(a:k09)(act:Act):Prop where
 rel:Rel C
 vrs:VRs C a act.tmps
 nodef:act.defers=[]
theorem VRs.get{C:Cfg}{a:k09}{v:Array Value}(h:VRs C a v)(t:Nat):VR C (a.getD t .any) (v.getD t undef):=by
 cases ht:a[t]? with
 | none=>rw[List.getD_eq_getElem?_getD,ht];exact .any _
 | some x=>rw[List.getD_eq_getElem?_getD,ht];exact h.2 t x ht
theorem kAR:∀ {l:List (Nat×List AV)} {g:Nat} {cs:List AV},kRB l g=some cs->(g,cs)∈l
 | [],g,cs,h=>by cases h
 | (k,ds)::l,g,cs,h=>by
   simp only[kRB] at h;split at h
   ·rename_i hk
    have:=Nat.eq_of_beq_eq_true hk;subst this;cases h
    exact List.mem_cons_self
   ·exact List.mem_cons_of_mem _ (kAR h)
theorem St.ev{C:Cfg}{a:k09}{act:Act}(h:St C a act):kJ2 C (evA a) act.eval:=by
 intro x y hxy
 cases x with
 | tmp t=>simp only[k0C,Option.some.injEq] at hxy;subst hxy;exact h.vrs.get t
 | const v=>simp only[k0C,Option.some.injEq] at hxy;subst hxy;exact kD5 C v
 | func f=>simp only[k0C,Option.some.injEq] at hxy;subst hxy;exact .func _ [] [] #[] #[] rfl rfl (λi x hx=>by simp at hx) (λi x hx=>by simp at hx)
 | global g =>
   simp only[k0C] at hxy;split at hxy
   ·rename_i cs hg
    simp only[Option.some.injEq] at hxy;subst hxy;exact h.rel.glo (g,cs) (kAR hg)
   ·cases hxy
theorem VRs.put{C:Cfg}{a:k09}{v:Array Value}(h:VRs C a v)(d:Nat){x:AV}{u:Value}(hx:VR C x u):VRs C (a.set d x) (v.setIfInBounds d u):=by
 refine⟨by simp[h.1],λi y hy=>?_⟩;by_cases hid:d=i
 ·subst hid
  have hlt:d<a.length:=by
   have:=(List.getElem?_eq_some_iff.1 hy).1;simpa using this
  rw[List.getElem?_set_self hlt] at hy;cases hy
  have:d<v.size:=(by rw[h.1];exact hlt);simpa[Array.getD_eq_getD_getElem?,this] using hx
 ·rw[List.getElem?_set_ne hid] at hy
  have:=h.2 i y hy;rw[Array.getD_eq_getD_getElem?] at this ⊢
  rwa [Array.getElem?_setIfInBounds_ne hid]
theorem St.put{C:Cfg}{a:k09}{act:Act}(h:St C a act)(d:Option Nat){x:AV}{u:Value}(hx:VR C x u):St C (k1V a d x) (act.put d u):=by
 cases d with
 | none=>exact h
 | some d=>exact⟨h.rel,h.vrs.put d hx,h.nodef⟩
theorem St.ext{C D:Cfg}{a:k09}{act:Act}(h:St C a act)(R:Rel D)(E:Ext C.h.length C D):St D a act:=⟨R,E.vrs h.vrs,h.nodef⟩
theorem k83(C:Cfg):VR C .undef undef:=.tuple [] #[] rfl (λi x hx=>by simp at hx)
def k7Z(n:Nat)(C:Cfg)(Q:k17):Exit->Act->World->Prop:=λe act w=>∃a D,Q e a D.h/\D.w=w/\St D a act/\Ext n C D/\n<=D.h.length
def AWp(P:Program)(n:Nat)(c:Code)(Q:k17)(a:k09)(h:k00):Prop:=
 ∀(C:Cfg) (act:Act),C.h=h->St C a act->n<=h.length->c.wp P (k7Z n C Q) act C.w
section
variable {P:Program} {n:Nat} {Q:k17} {a:k09} {h:k00}
theorem k7Z.trans{C D:Cfg}{e:Exit}{act:Act}{w:World}(E:Ext n C D)(H:k7Z n D Q e act w):k7Z n C Q e act w:=by
 obtain⟨a,D',h1,h2,h3,h4,h5⟩:=H;exact⟨a,D',h1,h2,h3,E.trans h4,h5⟩
theorem AWp.skip(H:Q .normal a h):AWp P n .skip Q a h:=λC act hC S hn=>wp_skip ⟨a,C,hC▸H,rfl,S,Ext.refl _ _,hC▸hn⟩
theorem AWp.ret(H:Q .ret a h):AWp P n .ret Q a h:=λC act hC S hn=>wp_ret ⟨a,C,hC▸H,rfl,S,Ext.refl _ _,hC▸hn⟩
theorem AWp.exit{id:Nat}(H:Q (.exit id) a h):AWp P n (.exit id) Q a h:=λC act hC S hn=>wp_exit ⟨a,C,hC▸H,rfl,S,Ext.refl _ _,hC▸hn⟩
theorem AWp.seq{x y:Code}(H:AWp P n x (k6Y (AWp P n y Q) Q) a h):AWp P n (.seq x y) Q a h:=by
 intro C act hC S hn;refine wp_seq (wp_mono (H C act hC S hn) λe act' w' hp=>?_);obtain⟨a',D,h1,h2,h3,h4,h5⟩:=hp
 cases e with
 | normal =>
   subst h2;exact wp_mono (h1 D act' rfl h3 h5) λe act'' w'' hq=>hq.trans h4
 | _=>exact⟨a',D,h1,h2,h3,h4,h5⟩
theorem AWp.cond{c:Operand}{x:k0B}{t:Bool}{p q:Code}(hc:k0C c=some x)(hx:evA a x = .bool t)(H1:t=true->AWp P n p Q a h)(H2:t=false->AWp P n q Q a h):AWp P n (.cond c p q) Q a h:=by
 intro C act hC S hn;have:=(hx▸S.ev c x hc:VR C (.bool t) (act.eval c)).bool';exact wp_cond_split this (λe=>H1 e C act hC S hn) (λe=>H2 e C act hC S hn)
theorem AWp.block{id:Nat}{c:Code}(H:AWp P n c (k33 id Q) a h):AWp P n (.block id c) Q a h:=by
 intro C act hC S hn;refine wp_block (wp_mono (H C act hC S hn) λe act' w' hp=>?_);obtain⟨a',D,h1,h2,h3,h4,h5⟩:=hp
 cases e with
 | exit i =>
   simp only[Exit.inBlock,k33] at h1 ⊢;split at h1
   ·rename_i hi;rw[if_pos hi];exact⟨a',D,h1,h2,h3,h4,h5⟩
   ·rename_i hi;rw[if_neg hi];exact⟨a',D,h1,h2,h3,h4,h5⟩
 | _=>exact⟨a',D,h1,h2,h3,h4,h5⟩
theorem AWp.mono{c:Code}{Q':k17}(H:AWp P n c Q a h)(hq:∀e a h,Q e a h->Q' e a h):AWp P n c Q' a h:=
 λC act hC S hn=>wp_mono (H C act hC S hn) λe act' w' ⟨a',D,h1,h2,h3,h4,h5⟩=>⟨a',D,hq _ _ _ h1,h2,h3,h4,h5⟩
def Wk(n:Nat)(a:k09)(h:k00)(a':k09)(h':k00):Prop:=
 ∀(C:Cfg) (act:Act),C.h=h->St C a act->n<=h.length->∃D,D.h=h'/\D.w=C.w/\St D a' act/\Ext n C D/\n<=h'.length
theorem Wk.refl(n:Nat)(a:k09)(h:k00):Wk n a h a h:=λC act hC S hn=>⟨C,hC,rfl,S,Ext.refl _ _,hn⟩
theorem AWp.pre{c:Code}{a':k09}{h':k00}(W:Wk n a h a' h')(H:AWp P n c Q a' h'):AWp P n c Q a h:=by
 intro C act hC S hn;obtain⟨D,h1,h2,h3,h4,h5⟩:=W C act hC S hn;have:=H D act h1 h3 h5;rw[h2] at this;exact wp_mono this λe act'' w'' hq=>hq.trans h4
theorem AWp.post{c:Code}{Q':k17}(H:AWp P n c Q a h)(hq:∀e a h,Q e a h->∃a' h',Wk n a h a' h'/\Q' e a' h'):AWp P n c Q' a h:=by
 intro C act hC S hn;refine wp_mono (H C act hC S hn) λe act' w' ⟨a',D,h1,h2,h3,h4,h5⟩=>?_;obtain⟨a2,h2',W,hQ⟩:=hq _ _ _ h1;obtain⟨D2,k1,k2,k3,k4,k5⟩:=W D act' rfl h3 h5;exact⟨a2,D2,k1▸hQ,k2.trans h2,k3,h4.trans k4,k1▸k5⟩
theorem kR1{p:Nat->Prop}(h:∃k,p k):∃k,p k/\∀j,p j->k<=j:=by
 obtain⟨k,hk⟩:=h
 induction k using Nat.strongRecOn with
 | _ k ih =>
   by_cases hj:∃j,j<k/\p j
   ·obtain⟨j,hjk,hp⟩:=hj;exact ih j hjk hp
   ·exact⟨k,hk,λj hp=>Nat.le_of_not_lt λhjk=>hj ⟨j,hjk,hp⟩⟩
theorem AWp.loop{c:Code}(I:k09->k00->Prop)(m:k09->k00->Nat)(h0:I a h)(round:∀a h,I a h->AWp P n c (k6Y (λa' h'=>I a' h'/\m a' h'<m a h) Q) a h):AWp P n (.loop c) Q a h:=by
 intro C act hC S hn
 let J (act:Act) (w:World) (k:Nat):Prop:=∃a D,I a D.h/\D.w=w/\St D a act/\Ext n C D/\n<=D.h.length/\m a D.h=k
 have hex:∃k,J act C.w k:=⟨m a C.h,a,C,hC▸h0,rfl,S,Ext.refl _ _,hC▸hn,rfl⟩
 classical
 let M (act:Act) (w:World):Nat:=if hh:∃k,J act w k then Classical.choose (kR1 hh) else 0
 refine wp_loop (λact w=>∃k,J act w k) M hex λact1 w1 h1=>?_;have hM:J act1 w1 (M act1 w1):=by simp only[M];rw[dif_pos h1];exact(Classical.choose_spec (kR1 h1)).1
 obtain⟨a1,D1,i1,i2,i3,i4,i5,i6⟩:=hM;have:=round a1 D1.h i1 D1 act1 rfl i3 i5;rw[i2] at this;refine wp_mono this λe act' w' hp=>?_;obtain⟨a',D,k1,k2,k3,k4,k5⟩:=hp
 cases e with
 | normal =>
   obtain⟨k1a,k1b⟩:=k1;have hJ:J act' w' (m a' D.h):=⟨a',D,k1a,k2,k3,i4.trans k4,k5,rfl⟩;refine⟨⟨_,hJ⟩,?_⟩
   have hle:M act' w'<=m a' D.h:=by
    simp only[M];rw[dif_pos ⟨_,hJ⟩];exact(Classical.choose_spec (kR1 ⟨_,hJ⟩)).2 _ hJ
   omega
 | _=>exact⟨a',D,k1,k2,k3,i4.trans k4,k5⟩
end
def kJ3 (P : Program) (g : FuncId) : Prop := ∃ fn, P.funcs[g]? = some fn ∧ fn.body.isNone = false ∧ (fn.name == "runtime.NumGoroutine") = false
def k02(P:Program)(g:FuncId)(args:List AV)(R:AV->Prop):Prop:=
 kJ3 P g/\∀(C:Cfg) (vs:Array Value),C.h=[]->Rel C->VRs C args vs->Calls P g vs C.w λe w'=>∃v r D,e = .returned v/\R r/\D.h=[]/\D.w=w'/\Rel D/\VR D r v/\Ext 0 C D
def k06(P:Program)(g:FuncId)(args:List AV)(h:k00)(K:AV->k00->Prop):Prop:=
 kJ3 P g/\∀(C:Cfg) (vs:Array Value),C.h=h->Rel C->VRs C args vs->Calls P g vs C.w λe w'=>∃v r D,e = .returned v/\K r D.h/\D.w=w'/\Rel D/\VR D r v/\Ext h.length C D/\h.length<=D.h.length
def AX(P:Program)(op:Op)(ty:TypeId)(xs:List AV)(h:k00)(K:AV->k00->Prop):Prop:=
 ∀(C:Cfg) (e:Operand->Value) (o:Oper),o.op=op->o.type=ty->C.h=h->Rel C->VRs C xs (op.operands.map e)->∃nx cv r D,(execOp e o).run P C.w = .ok nx D.w/\kES nx=some cv/\K r D.h/\Rel D/\VR D r cv/\Ext h.length C D/\h.length<=D.h.length
theorem kH2{P:Program}{op op':Op}{ty ty':TypeId}{xs:List k0B}(hc:k1F P op ty=some (.xop op' ty' xs)):op'=op/\ty'=ty/\k1X op.operands.toList=some xs:=by
 cases op<;>simp only[k1F] at hc
 case range t x =>
  cases hx:k0C x with
  | none=>simp[hx] at hc
  | some y =>
    simp only[hx,Option.map_some,Option.some.injEq,AOp.xop.injEq] at hc;obtain⟨rfl,rfl,rfl⟩:=hc;exact⟨rfl,rfl,by simp[Op.operands,k1X,hx]⟩
 case next x s =>
  cases hx:k0C x with
  | none=>simp[hx] at hc
  | some y =>
    simp only[hx,Option.map_some,Option.some.injEq,AOp.xop.injEq] at hc;obtain⟨rfl,rfl,rfl⟩:=hc;exact⟨rfl,rfl,by simp[Op.operands,k1X,hx]⟩
 case convert s d x =>
  split at hc
  ·cases hx:k0C x<;>simp[hx] at hc
  ·cases hx:k0C x<;>simp[hx] at hc
  ·split at hc<;>(try (cases hx:k0C x<;>simp[hx] at hc))<;>(try cases hc)
  ·split at hc<;>(try (cases hx:k0C x<;>simp[hx] at hc))<;>(try cases hc)
  ·split at hc
   ·cases hx:k0C x with
    | none=>simp[hx] at hc
    | some y =>
      simp only[hx,Option.map_some,Option.some.injEq,AOp.xop.injEq] at hc;obtain⟨rfl,rfl,rfl⟩:=hc;exact⟨rfl,rfl,by simp[Op.operands,k1X,hx]⟩
   ·cases hc
  ·cases hc
 case entry x =>
  cases hx:k0C x with
  | none=>simp[hx] at hc
  | some y =>
    simp only[hx,Option.map_some,Option.some.injEq,AOp.xop.injEq] at hc;obtain⟨rfl,rfl,rfl⟩:=hc;exact⟨rfl,rfl,by simp[Op.operands,k1X,hx]⟩
 case call cl =>
  split at hc
  ·rename_i y hy
   simp only[Option.some.injEq,AOp.xop.injEq] at hc;obtain⟨rfl,rfl,rfl⟩:=hc;refine⟨rfl,rfl,?_⟩;unfold kTJ at hy;split at hy
   ·rename_i x t hb hx ht
    split at hy
    ·have ha:(Op.call cl).operands.toList=[x]:=by simp[Op.operands,Call.operands,hb,hx]
     rw[ha];simp[k1X,hy]
    ·cases hy
   ·cases hy
  ·split at hc
   ·rename_i ys hy
    simp only[Option.some.injEq,AOp.xop.injEq] at hc;obtain⟨rfl,rfl,rfl⟩:=hc;refine⟨rfl,rfl,?_⟩;unfold kTZ at hy;split at hy
    ·rename_i x y hb hx
     have ha:(Op.call cl).operands.toList=[x,y]:=(by simp[Op.operands,Call.operands,hb,hx]);rw[ha];exact hy
    ·cases hy
   ·exfalso
    unfold k3B at hc;repeat' (split at hc)
    all_goals first
     | (simp_all;done)
     | (cases hc;done)
 all_goals (exfalso;repeat' (split at hc))
 all_goals first
  | (simp_all;done)
  | (cases hc;done)
def Cfg.shut(C:Cfg):Cfg:={ O:=C.own,r:=C.r,h:=[],w:=C.w }
theorem kHN(C:Cfg)(b:Nat):C.shut.own b↔C.own b:=by
 constructor
 ·rintro(h|⟨s,⟨z,es,hs⟩,_⟩)
  ·exact h
  ·simp[Cfg.shut] at hs
 ·exact λh=>.inl h
theorem VR.recfg{C D:Cfg}(hw:D.w=C.w)(ho:∀b,D.own b->C.own b){x:AV}{v:Value}(h:VR C x v):x.upto 0=true->VR D x v:=by
 induction h with
 | any v=>exact λ_=>.any v
 | bool b=>exact λ_=>.bool b
 | int k n=>exact λ_=>.int k n
 | str s=>exact λ_=>.str s
 | nilp=>exact λ_=>.nilp
 | nils=>exact λ_=>.nils
 | emp a=>exact λ_=>.emp a
 | nilFunc=>exact λ_=>.nilFunc
 | nilIface=>exact λ_=>.nilIface
 | agg cs vs hl h ih=>exact λhb=>.agg cs vs hl λi x hi=>ih i x hi (k0G hb hi)
 | tuple cs vs hl h ih=>exact λhb=>.tuple cs vs hl λi x hi=>ih i x hi (k0G hb hi)
 | list z es a m cap f hn hc ha hz hcell hown hv ih =>
   intro hb;exact .list z es a m cap f hn hc ha hz (λi j hi hj=>by rw[hw];exact hcell i j hi hj) (λh1 h2 h3=>hown h1 h2 (ho _ h3)) λi e he j x hx=>ih i e he j x hx (k0G (k1C hb he) hx)
 | listNil z a cap=>exact λ_=>.listNil z a cap
 | sl s z i m cap hs hc hsz=>intro hb;simp[AV.upto] at hb
 | ref s z i o hs=>intro hb;simp[AV.upto] at hb
 | mapr s hs=>intro hb;simp[AV.upto] at hb
 | cref cs a f ha hcell hown hv ih =>
   intro hb;exact .cref cs a f ha (λj hj=>by rw[hw];exact hcell j hj) (λh1 h3=>hown h1 (ho _ h3)) λj x hx=>ih j x hx (k0G hb hx)
 | func fn first caps vf vc hf hc h1 h2 ih1 ih2 =>
   intro hb;simp only[AV.upto,Bool.and_eq_true] at hb;exact .func fn first caps vf vc hf hc (λi x hi=>ih1 i x hi (k0G hb.1 hi)) λi x hi=>ih2 i x hi (k0G hb.2 hi)
 | iface t x v h ih=>exact λhb=>.iface t x v (ih hb)
theorem Rel.shut{C:Cfg}(R:Rel C):Rel C.shut:=by
 refine⟨λs z es h=>by simp[Cfg.shut] at h,λs t ⟨z,es,h⟩=>by simp[Cfg.shut] at h,λb hb=>?_,λp hp=>?_,R.gsz⟩
 rotate_left 1
 ·exact(R.glo p hp).recfg (C:=C) (D:=C.shut) rfl (λb hb=>(kHN C b).1 hb) (k49 hp 0)
 rcases hb with hb|hb
 ·exact R.olt b hb
 ·exact R.lown_lt hb
theorem VRs.recfg{C D:Cfg}(hw:D.w=C.w)(ho:∀b,D.own b->C.own b){l:List AV}{vs:Array Value}(h:VRs C l vs)(hl:k0Q 0 l=true):VRs D l vs:=
 ⟨h.1,λi x hx=>(h.2 i x hx).recfg hw ho (k0G hl hx)⟩
theorem Rel.back{C D:Cfg}(R:Rel C)(hD:D.h=[])(E:Ext 0 C.shut D):Rel { C with w:=D.w }/\Ext C.h.length C { C with w:=D.w }/\∀b,Cfg.own { C with w:=D.w } b↔D.own b:=by
 have hno:∀b,¬C.shut.lown b:=by
  rintro b ⟨s,⟨z,es,hs⟩,_⟩;simp[Cfg.shut] at hs
 have he:∀n,Ext n C { C with w:=D.w }:=λn=>⟨rfl,E.os,E.tape,E.output,E.size,λs _ h=>⟨h,rfl⟩,λb hb hl=>⟨(E.keep b hb (hno b)).1,hl⟩,E.shape⟩;refine⟨R.of_ext (he _) (λs z es hl=>.inl ⟨hl,rfl,(E.keep _ (R.lown_lt ⟨s,⟨z,es,hl⟩,rfl⟩) (hno _)).1⟩) R.inj,he _,λb=>?_⟩;have hDo:D.O=C.own:=E.O;constructor
 ·intro h
  exact .inl (by rw[hDo];exact h)
 ·rintro(h|⟨s,⟨z,es,hs⟩,_⟩)
  ·rw[hDo] at h;exact h
  ·rw[hD] at hs;simp at hs
theorem k06.of_pure{P:Program}{g:FuncId}{args:List AV}{R:AV->Prop}{h:k00}{K:AV->k00->Prop}(H:k02 P g args R)(ha:k0Q 0 args=true)(hK:∀r,R r->K r h):k06 P g args h K:=by
 refine⟨H.1,λC vs hC RC hv=>?_⟩;refine(H.2 C.shut vs rfl RC.shut (hv.recfg (C:=C) (D:=C.shut) rfl (λb hb=>(kHN C b).1 hb) ha)).mono λe w' ⟨v,r,D,h1,h2,h3,h4,h5,h6,h7⟩=>?_;obtain⟨R1,E1,O1⟩:=RC.back h3 h7;subst h4;have hup:r.upto 0=true:=by have:=h6.upto;rwa [h3] at this
 subst hC;exact⟨v,r,{ C with w:=D.w },h1,hK r h2,rfl,R1,h6.recfg (C:=D) (D:={ C with w:=D.w }) rfl (λb hb=>(O1 b).1 hb) hup,E1,Nat.le_refl _⟩
theorem k02.mono{P:Program}{g:FuncId}{args:List AV}{R R':AV->Prop}(H:k02 P g args R)(hr:∀r,R r->R' r):k02 P g args R':=
 ⟨H.1,λC vs hC RC hv=>(H.2 C vs hC RC hv).mono λe w' ⟨v,r,D,h1,h2,h3⟩=>⟨v,r,D,h1,hr r h2,h3⟩⟩
def fin(K:k09->k00->Prop)(a:k09)(dst:Option Nat)(h:k00):Res->Prop:=λr=>K (k1V a dst (r.at h.length)) (r.push h)
def k4T(K:k09->k00->Prop)(a:k09)(dst:Option Nat):AV->k00->Prop:=λr h=>K (k1V a dst r) h
def k91(P:Program)(o:k0J)(K:k09->k00->Prop)(a:k09)(h:k00):Prop:=
 match o.op with
 | .call f xs=>(match evA a f with | .func (.func g) first caps=>k06 P g (first++evs (evA a) xs++caps) h (k4T K a o.dst)|_=>False)
 | .xop op ty xs=>AX P op ty (evs (evA a) xs) h (k4T K a o.dst)
 | op=>k0T op (evA a) h (fin K a o.dst h)
def k4B(P:Program)(K:k09->k00->Prop):List k0J->k09->k00->Prop
 | [],a,h=>K a h
 | o::rest,a,h =>
   match o.guard with
   | none=>k91 P o (k4B P K rest) a h
   | some (t,want) =>
     match a.getD t .any with
     | .bool b=>(b=want->k91 P o (k4B P K rest) (a.set t (.bool want)) h)/\(b = !want->k4B P K rest (k1V (a.set t (.bool (!want))) o.dst .undef) h)
     | .tuple []=>k4B P K rest (k1V a o.dst .undef) h
     | _=>False
def kON(P:Program)(ops:List Oper)(o:Oper):Option k0J:=
 match k1F P o.op o.type with
 | some ao =>
   match o.guard with
   | none=>some ⟨o.dst,ao,none⟩
   | some (j,want) =>
     match (ops[j]?).bind (·.dst) with
     | some t=>some ⟨o.dst,ao,some (t,want)⟩
     | none=>none
 | none=>none
def k0R(P:Program)(ops:List Oper):List Oper->Option (List k0J)
 | []=>some []
 | o::l =>
   match kON P ops o,k0R P ops l with
   | some x,some y=>some (x::y)
   | _,_=>none
theorem VRs.app{C:Cfg}{l m:List AV}{u v:Array Value}(h:VRs C l u)(k:VRs C m v):VRs C (l++m) (u++v):=by
 refine⟨by simp[h.1,k.1],λi x hx=>?_⟩;rw[Array.getD_eq_getD_getElem?];by_cases hi:i<l.length
 ·rw[List.getElem?_append_left hi] at hx
  have:=h.2 i x hx;rw[Array.getD_eq_getD_getElem?] at this
  rwa [Array.getElem?_append_left (by rw[h.1];exact hi)]
 ·rw[List.getElem?_append_right (by omega)] at hx
  have:=k.2 _ x hx;rw[Array.getD_eq_getD_getElem?] at this
  rwa [Array.getElem?_append_right (by rw[h.1];omega),h.1]
theorem k9N{P:Program}{g:FuncId}(h:kJ3 P g)(vs:Array Value)(w:World):(callFunc g vs).run P w = .ok (.enter g vs) w:=by
 obtain⟨fn,h1,h2,h3⟩:=h;unfold callFunc;simp only[Sem.run_bind,run_program,Result.andThen_ok,h1,h2,h3,Bool.false_eq_true,if_false,Sem.run_pure]
section
variable {P:Program} {Q:Exit->Act->World->Prop} {ops:Array Oper} {n:Nat}
theorem k9T{op:Op}{ty:TypeId}{f:k0B}{xs:List k0B}(hc:k1F P op ty=some (.call f xs)):∃cl fo,op = .call cl/\cl.callee = .value fo/\k0C fo=some f/\k1X cl.args.toList=some xs:=by
 cases op<;>simp only[k1F] at hc
 case call cl =>
  split at hc
  ·cases hc
  split at hc
  ·cases hc
  unfold k3B at hc;split at hc
  ·rename_i fo hcal
   split at hc
   ·rename_i g' ys hg hys
    simp only[Option.some.injEq,AOp.call.injEq] at hc;obtain⟨rfl,rfl⟩:=hc;exact⟨cl,fo,rfl,hcal,hg,hys⟩
   ·cases hc
  ·cases hc
  ·exfalso
   repeat' (split at hc)
   all_goals simp_all
 all_goals (exfalso;repeat' (split at hc))
 all_goals first
  | (simp_all;done)
  | (cases hc;done)
theorem k2U{o:Oper}{ao:k0J}{K:k09->k00->Prop}{K':Act->World->Prop}{a:k09}{C:Cfg}{act:Act}(hc:k1F P o.op o.type=some ao.op)(hd:ao.dst=o.dst)(S:St C a act)(hn:n<=C.h.length)
 (H:k91 P ao K a C.h) (hK:∀a' D act',K a' D.h->St D a' act'->Ext n C D->n<=D.h.length->K' act' D.w):o.wp P act C.w K' Q:=by
 have other:k0T ao.op (evA a) C.h (fin K a ao.dst C.h)->o.wp P act C.w K' Q:=by
  intro H;obtain⟨r,hr,hs⟩:=sound hc H;have zE:C.h.length<=(r.push C.h).length:=by cases r<;>simp[Res.push]
  obtain⟨nx,cv,D,g1,g2,g3,g4,g5,g6⟩:=hs C act.eval S.rel (λ_ _ _ h=>h) S.ev C.h.length (r.push C.h) (λhu=>absurd (Cfg.used_lt hu) (Nat.lt_irrefl _)) (by
   cases r with
   | val v=>rfl
   | new sl z es =>
     refine⟨by simp[Res.push],λs x hs hx=>?_⟩;simp only[Res.push];by_cases hlt:s<C.h.length
     ·rw[List.getElem?_append_left hlt]
     ·rw[List.getElem?_append_right (by omega),List.getElem?_eq_none (show C.h.length<=s by omega)]
      rw[show s-C.h.length=(s-C.h.length-1)+1 by omega];simp
   | upd s z es=>rfl
   | repl s z es =>
     refine⟨by simp[Res.push],λhs=>by simp only[Res.push];rw[List.getElem?_append_left (by simpa using hs),List.getElem?_set_self hs],λk x hk hks hx=>?_⟩;simp only[Res.push];by_cases hlt:k<C.h.length
     ·rw[List.getElem?_append_left (by simpa using hlt),List.getElem?_set_ne (Ne.symm hks)]
     ·rw[List.getElem?_append_right (by simp;omega),List.getElem?_eq_none (show C.h.length<=k by omega)]
      simp only[List.length_set];rw[show k-C.h.length=(k-C.h.length-1)+1 by omega];simp)
  have hk:K' (act.put o.dst cv) D.w:=by
   refine hK _ D _ ?_ ((S.ext g3 g4).put o.dst g6) (g4.mono hn) ?_
   ·have:fin K a ao.dst C.h r:=hr
    unfold fin at this;rw[g5,<- hd];exact this
   ·rw[g5];omega
  unfold Oper.wp;rw[g1]
  cases nx<;>simp only[kES,Option.some.injEq,reduceCtorEq] at g2
  ·subst g2;exact hk
  ·subst g2;exact hk
 unfold k91 at H;split at H
 ·rename_i f xs hop
  split at H
  ·rename_i g first caps hf
   rw[hop] at hc;obtain⟨cl,fo,hoo,hcal,hg,hys⟩:=k9T hc;obtain⟨vf,vc,hfe,hvf,hvc⟩:=(hf▸S.ev fo f hg:VR C _ (act.eval fo)).func';have hargs:=S.ev.opnds hys;have e1:(cl.args.toList.map act.eval).toArray=cl.args.map act.eval:=(by apply Array.ext';simp);rw[e1] at hargs;obtain⟨hent,hcalls⟩:=H
   have hrun:(execOp act.eval o).run P C.w = .ok (.enter g (vf++cl.args.map act.eval++vc)) C.w:=by
    simp only[execOp,hoo,resolve,hcal,hfe,Deferred.ofValue,Sem.run_bind,Sem.run_pure,Result.andThen_ok,invoke];exact k9N hent _ _
   unfold Oper.wp;rw[hrun];refine(hcalls C _ rfl S.rel ((hvf.app hargs).app hvc)).mono λe w' ⟨v,r,D,h1,h2,h3,h4,h5,h6,h7⟩=>?_;subst h1;subst h3;have:=hK _ D _ h2 ((S.ext h4 h6).put ao.dst h5) (h6.mono hn) (by omega);rw[hd] at this;exact this
  ·exact H.elim
 ·rename_i op ty xs hop
  rw[hop] at hc;obtain⟨rfl,rfl,hys⟩:=kH2 hc;have hargs:=S.ev.opnds hys;have e1:(o.op.operands.toList.map act.eval).toArray=o.op.operands.map act.eval:=(by apply Array.ext';simp);rw[e1] at hargs;obtain⟨nx,cv,r,D,g1,g2,g3,g4,g5,g6,g7⟩:=H C act.eval o rfl rfl rfl S.rel hargs;have hk:=hK _ D _ g3 ((S.ext g4 g6).put ao.dst g5) (g6.mono hn) (by omega);rw[hd] at hk;unfold Oper.wp;rw[g1]
  cases nx<;>simp only[kES,Option.some.injEq,reduceCtorEq] at g2
  ·subst g2;exact hk
  ·subst g2;exact hk
 ·exact other H
theorem k3C{l:List Oper}{o:Oper}{ao:k0J}(h:kON P l o=some ao):k1F P o.op o.type=some ao.op/\ao.dst=o.dst /\
 ((o.guard=none/\ao.guard=none)\/∃j want t,o.guard=some (j,want)/\(l[j]?).bind (·.dst)=some t/\ao.guard=some (t,want)):=by
 unfold kON at h;split at h
 ·rename_i op hop
  split at h
  ·rename_i hg
   simp only[Option.some.injEq] at h;subst h;exact⟨hop,rfl,.inl ⟨hg,rfl⟩⟩
  ·rename_i j want hg
   split at h
   ·rename_i t ht
    simp only[Option.some.injEq] at h;subst h;exact⟨hop,rfl,.inr ⟨j,want,t,hg,ht,rfl⟩⟩
   ·cases h
 ·cases h
theorem k9G{l:List Oper}{j t:Nat}(ht:(l[j]?).bind (·.dst)=some t){C:Cfg}{a:k09}{act:Act}(S:St C a act){b:Bool}(hb:a.getD t .any = .bool b):yielded l.toArray act.tmps j=some b:=by
 have h1:=(hb▸S.vrs.get t:VR C (.bool b) _).bool'
 have h2:act.tmps[t]?=some (.bool b):=by
  rw[Array.getD_eq_getD_getElem?] at h1
  cases hx:act.tmps[t]? with
  | none=>rw[hx] at h1;simp[undef] at h1
  | some u=>rw[hx] at h1;simp at h1;rw[h1]
 unfold yielded;have:((l.toArray[j]?).bind (·.dst))=some t:=by simpa using ht
 rw[this];simp[h2]
theorem k81{l:List Oper}{j t:Nat}(ht:(l[j]?).bind (·.dst)=some t){C:Cfg}{a:k09}{act:Act}(S:St C a act)(hb:a.getD t .any = .tuple []):yielded l.toArray act.tmps j=none:=by
 obtain⟨vs,h1,h3⟩:=(hb▸S.vrs.get t:VR C (.tuple []) _).tuple';unfold yielded;have:((l.toArray[j]?).bind (·.dst))=some t:=by simpa using ht
 rw[this]
 cases hx:act.tmps[t]? with
 | none=>simp[hx]
 | some u =>
   have:u = .tuple vs:=(by rw[Array.getD_eq_getD_getElem?,hx] at h1;simpa using h1);subst this;simp[hx]
theorem St.setB{C:Cfg}{a:k09}{act:Act}(S:St C a act){t:Nat}{b:Bool}(hb:a.getD t .any = .bool b):St C (a.set t (.bool b)) act:=by
 refine⟨S.rel,⟨by simpa using S.vrs.1,λi x hx=>?_⟩,S.nodef⟩;by_cases hti:t=i
 ·subst hti
  have hlt:t<a.length:=by
   have:=(List.getElem?_eq_some_iff.1 hx).1;simpa using this
  rw[List.getElem?_set_self hlt] at hx;cases hx
  have:=S.vrs.get t
  rwa [hb] at this
 ·rw[List.getElem?_set_ne hti] at hx
  exact S.vrs.2 i x hx
theorem k38{K:k09->k00->Prop}{l0:List Oper}:∀ {l:List Oper} {al:List k0J} {a:k09} {C:Cfg} {act:Act},k0R P l0 l=some al->St C a act->n<=C.h.length->k4B P K al a C.h ->
 (∀a' D act',K a' D.h->St D a' act'->Ext n C D->n<=D.h.length->Q .normal act' D.w)->wpList P l0.toArray Q l act C.w
 | [],al,a,C,act,hc,S,hn,H,hK=>by
   simp only[k0R,Option.some.injEq] at hc;subst hc;exact hK a C act H S (Ext.refl _ _) hn
 | o::l,al,a,C,act,hc,S,hn,H,hK=>by
   simp only[k0R] at hc;split at hc
   ·rename_i ao al' hao hal
    simp only[Option.some.injEq] at hc;subst hc;obtain⟨h1,h2,h3⟩:=k3C hao
    have go:∀a',St C a' act->k91 P ao (k4B P K al') a' C.h->o.wp P act C.w (wpList P l0.toArray Q l) Q:=λa' S' H' =>
     k2U h1 h2 S' hn H' λa'' D act' k1 k2 k3 k4=>k38 hal k2 k4 k1 λa3 D3 act3 m1 m2 m3 m4=>hK a3 D3 act3 m1 m2 (k3.trans m3) m4
    have skip:∀a',St C a' act->k4B P K al' (k1V a' ao.dst .undef) C.h->wpList P l0.toArray Q l (act.put o.dst undef) C.w:=λa' S' H'=>by
     refine k38 hal ?_ hn H' hK;rw[h2];exact S'.put o.dst (k83 C)
    unfold wpList;simp only[k4B] at H;rcases h3 with ⟨g1,g2⟩|⟨j,want,t,g1,g2,g3⟩
    ·simp only[g2] at H
     rw[if_pos (by simp[Region.wanted,g1])];exact .inl (go a S H)
    ·simp only[g3] at H
     split at H
     ·rename_i b hb
      have hy:=k9G g2 S hb;by_cases hbw:b=want
      ·rw[if_pos (by simp[Region.wanted,g1,hy,hbw])]
       exact .inl (go _ (S.setB (by rw[hb,hbw])) (H.1 hbw))
      ·rw[if_neg (by simp[Region.wanted,g1,hy,hbw])]
       have hbn:b = !want:=(by cases b<;>cases want<;>simp_all);exact skip _ (S.setB (by rw[hb,hbn])) (H.2 hbn)
     ·rename_i hb
      have hy:=k81 g2 S hb;rw[if_neg (by simp[Region.wanted,g1,hy])];exact skip _ S H
     ·exact H.elim
   ·cases hc
end
def AOp.opnds:AOp->List k0B
 | .mv x=>[x]
 | .pick c a b=>[c,a,b]
 | .new _ _=>[]
 | .box _ x=>[x]
 | .build _ ps=>ps.map (·.2.2)
 | .bslice _ _ _ ps=>ps.map (·.2.2)
 | .load _ _ a=>[a]
 | .store _ a x=>[a,x]
 | .nilc x=>[x]
 | .bin _ x y=>[x,y]
 | .eqb _ x y=>[x,y]
 | .mvs x=>[x]
 | .eqs _ _ _ x y=>[x,y]
 | .un _ x=>[x]
 | .conv _ x=>[x]
 | .fadr _ x=>[x]
 | .fld _ _ _ x=>[x]
 | .iadA _ _ x i=>[x,i]
 | .iadS _ x i=>[x,i]
 | .idx _ _ _ x i=>[x,i]
 | .idxStr x i=>[x,i]
 | .lenx x=>[x]
 | .lens x=>[x]
 | .lenc _=>[]
 | .mm _ x xs=>x::xs
 | .app _ _ x y=>[x,y]
 | .slc _ x lo hi=>x::(lo.toList++hi.toList)
 | .mk _ _ _ l c=>[l,c]
 | .ext x _=>[x]
 | .mkf _ f c=>f++c
 | .call f xs=>f::xs
 | .mkm=>[]
 | .look _ _ _ _ _ x k=>[x,k]
 | .mput _ _ _ x k v=>[x,k,v]
 | .slcS x lo hi=>x::(lo.toList++hi.toList)
 | .toS x=>[x]
 | .bemp=>[]
 | .ofS x=>[x]
 | .xop _ _ xs=>xs
section
variable {ev ev':k0B->AV}
theorem k7P:∀ {ps:List (Nat×Nat×k0B)} {cs:List AV},(∀p,p∈ps->ev p.2.2=ev' p.2.2)->k6L ev cs ps=k6L ev' cs ps
 | [],cs,_=>rfl
 | (o,k,x)::ps,cs,h=>by
   have hx:=h (o,k,x) (by simp);simp only at hx;have ih:=λcs=>k7P (cs:=cs) (λp hp=>h p (by simp[hp]):∀p,p∈ps->ev p.2.2=ev' p.2.2);simp only[k6L,hx,ih]
theorem kET{b:Bool}:∀ {xs:List k0B} {v:AV},(∀x,x∈xs->ev x=ev' x)->mmA b ev v xs=mmA b ev' v xs
 | [],v,_=>by cases v<;>rfl
 | x::xs,v,h=>by
   have hx:=h x (by simp);have ih:=λv=>kET (b:=b) (v:=v) (λp hp=>h p (by simp[hp]):∀p,p∈xs->ev p=ev' p)
   cases v<;>simp only[mmA,hx,ih]
theorem kAY{xs:List k0B}(h:∀x,x∈xs->ev x=ev' x):evs ev xs=evs ev' xs:=List.map_congr_left h
theorem kJ5{o:AOp}{h:k00}{K:Res->Prop}(H:∀x,x∈o.opnds->ev x=ev' x)(hK:k0T o ev h K):k0T o ev' h K:=by
 cases o<;>simp only[AOp.opnds,List.mem_cons,List.not_mem_nil,or_false,forall_eq_or_imp,forall_eq,List.mem_append,List.mem_map,Option.mem_toList] at H<;>simp only[k0T] at hK ⊢
 case build zero ps =>
  rw[<- k7P (ev:=ev) (λp hp=>H _ ⟨p,hp,rfl⟩)];exact hK
 case bslice z n zero ps =>
  rw[<- k7P (ev:=ev) (λp hp=>H _ ⟨p,hp,rfl⟩)];exact hK
 case mm b x xs =>
  rw[<- H.1,<- kET (ev:=ev) H.2];exact hK
 case mkf fn f c =>
  rw[<- kAY (ev:=ev) (λx hx=>H x (.inl hx)),<- kAY (ev:=ev) (λx hx=>H x (.inr hx))];exact hK
 case slc z x lo hi =>
  have e1:lo.map ev=lo.map ev':=(by cases lo with|none=>rfl|some l=>simp[H.2 l (.inl rfl)]);have e2:hi.map ev=hi.map ev':=(by cases hi with|none=>rfl|some l=>simp[H.2 l (.inr rfl)]);rw[<- H.1,<- e1,<- e2];exact hK
 case mv x=>rw[<- H];exact hK
 case pick c a b=>rw[<- H.1,<- H.2.1,<- H.2.2];exact hK
 case new z e=>exact hK
 case box z x=>rw[<- H];exact hK
 case load g k a=>rw[<- H];exact hK
 case store k a x=>rw[<- H.1,<- H.2];exact hK
 case nilc x=>rw[<- H];exact hK
 case bin op x y=>rw[<- H.1,<- H.2];exact hK
 case eqb op x y=>rw[<- H.1,<- H.2];exact hK
 case mvs x=>rw[<- H];exact hK
 case eqs a b c x y=>rw[<- H.1,<- H.2];exact hK
 case un op x=>rw[<- H];exact hK
 case conv op x=>rw[<- H];exact hK
 case fadr op x=>rw[<- H];exact hK
 case fld a b c x=>rw[<- H];exact hK
 case iadA a b x i=>rw[<- H.1,<- H.2];exact hK
 case iadS a x i=>rw[<- H.1,<- H.2];exact hK
 case idx a b c x i=>rw[<- H.1,<- H.2];exact hK
 case idxStr x i=>rw[<- H.1,<- H.2];exact hK
 case lenx x=>rw[<- H];exact hK
 case lens x=>rw[<- H];exact hK
 case lenc n=>exact hK
 case app a b x y=>rw[<- H.1,<- H.2];exact hK
 case mk a b c x y=>rw[<- H.1,<- H.2];exact hK
 case mkm=>exact hK
 case bemp=>exact hK
 case look a b c d e x k=>rw[<- H.1,<- H.2];exact hK
 case mput a b c x k v=>rw[<- H.1,<- H.2.1,<- H.2.2];exact hK
 case ext x i=>rw[<- H];exact hK
 case toS x=>rw[<- H];exact hK
 case ofS x=>rw[<- H];exact hK
 case slcS x lo hi =>
  have e1:lo.map ev=lo.map ev':=(by cases lo with|none=>rfl|some l=>simp[H.2 l (.inl rfl)]);have e2:hi.map ev=hi.map ev':=(by cases hi with|none=>rfl|some l=>simp[H.2 l (.inr rfl)]);rw[<- H.1,<- e1,<- e2];exact hK
end
def k0J.looks(o:k0J):List Nat:=(o.op.opnds.filterMap fun | .tmp t=>some t|_=>none)++(match o.guard with|some (t,_)=>[t]|none=>[])
def kD7(ts:List Nat)(a:k09):k09:=a.mapIdx λi x=>if ts.contains i then x else .any
theorem kEW(ts:List Nat)(a:k09)(t:Nat):(kD7 ts a).getD t .any=if t∈ts then a.getD t .any else .any:=by
 unfold kD7;rw[List.getD_eq_getElem?_getD,List.getElem?_mapIdx,List.getD_eq_getElem?_getD]
 cases a[t]? with
 | none=>simp
 | some x=>by_cases h:t∈ts<;>simp[h]
def AOp.slots:AOp->Nat
 | .new _ _=>1
 | .box _ _=>1
 | .mk _ _ _ _ _=>1
 | .mkm=>1
 | .ofS _=>1
 | _=>0
def q2N(P:Program)(g:FuncId)(args:List AV)(h0:k00)(r:AV):Prop:=
 kJ3 P g/\∀(C:Cfg) (vs:Array Value),kSX h0 C.h->Rel C->VRs C args vs->Calls P g vs C.w λe w'=>∃v D,e = .returned v/\D.h=C.h/\D.w=w'/\Rel D/\VR D r v/\Ext C.h.length C D
def kBH(P:Program)(g:FuncId)(args:List AV)(h0:k00)(K:AV->Prop):Prop:=∃r,q2N P g args h0 r/\K r
theorem kBH.of_pure{P:Program}{g:FuncId}{args:List AV}{r:AV}{h0:k00}{K:AV->Prop}(H:k02 P g args (· = r))(ha:k0Q 0 args=true)(hK:K r):kBH P g args h0 K:=by
 refine⟨r,⟨H.1,λC vs hs R hv=>?_⟩,hK⟩;have:=(k06.of_pure (h:=C.h) (K:=λx h'=>x=r/\h'=C.h) H ha λx hx=>⟨hx,rfl⟩).2 C vs rfl R hv;exact this.mono λe w' ⟨v,x,D,h1,⟨h2,h3⟩,h4,h5,h6,h7,_⟩=>⟨v,D,h1,h3,h4,h5,h2▸h6,h7⟩
def kRH(K:k09->k00->Prop)(a:k09)(dst:Option Nat)(base k:Nat)(news:k00):Res->Prop
 | .val v=>k=0/\K (k1V a dst v) news
 | .new sl z es=>k=1/\K (k1V a dst ((Res.new sl z es).at base)) (news++[.live z es])
 | _=>False
def kFP(K:k09->k00->Prop)(a:k09)(dst:Option Nat)(news:k00):AV->Prop:=λr=>K (k1V a dst r) news
def k6D(P:Program)(o:k0J)(h0:k00)(K:k09->k00->Prop)(a:k09)(news:k00):Prop:=
 match o.op with
 | .call f xs=>(match evA a f with | .func (.func g) first caps=>kBH P g (first++evs (evA a) xs++caps) h0 (kFP K a o.dst news)|_=>False)
 | op=>k0T op (evA a) h0 (kRH K a o.dst (h0.length+news.length) op.slots news)
def k4H(P:Program)(h0:k00)(K:k09->k00->Prop):List k0J->k09->k00->Prop
 | [],a,news=>K a news
 | o::rest,a,news =>
   match o.guard with
   | none=>k6D P o h0 (k4H P h0 K rest) a news
   | some (t,want) =>
     match a.getD t .any with
     | .bool b=>(b=want->k6D P o h0 (k4H P h0 K rest) (a.set t (.bool want)) news)/\(b = !want->k4H P h0 K rest (k1V (a.set t (.bool (!want))) o.dst .undef) (news++List.replicate o.op.slots .free))
     | .tuple []=>k4H P h0 K rest (k1V a o.dst .undef) (news++List.replicate o.op.slots .free)
     | _=>False
structure q18(P:Program)(h0:k00)(l0:List Oper)(o:Oper)(ts:List Nat)(a:k09)(t:Nat)(v:AV)(s:List k27):Prop where
 run:∀(C:Cfg) (act:Act) (Q:Exit->Act->World->Prop) (K':Act->World->Prop),kSX h0 C.h->Rel C->(∀u,u∈ts->VR C (a.getD u .any) (act.tmps.getD u undef))->(s≠[]->C.h[t]?=some .free) ->
  (∀cv D,D.h=(match s with|[x]=>C.h.set t x|_=>C.h)->Rel D->VR D v cv->Ext C.h.length C D->K' (act.put o.dst cv) D.w) ->
  if Region.wanted o (yielded l0.toArray act.tmps) then o.wp P act C.w K' Q else K' (act.put o.dst undef) C.w
inductive kFX(P:Program)(h0:k00)(l0:List Oper):List Oper->List k0J->k09->k00->List (AV×List k27)->k09->k00->Prop where
 | nil (a:k09) (news:k00):kFX P h0 l0 [] [] a news [] a news
 | cons (o:Oper) (ao:k0J) (l:List Oper) (al:List k0J) (a:k09) (news:k00) (v:AV) (s:List k27) (rs:List (AV×List k27)) (a':k09) (news':k00) (hy:q18 P h0 l0 o ao.looks a (h0.length+news.length) v s) (hd:ao.dst=o.dst)
    (hs:s.length=ao.op.slots) (hs1:s.length<=1) (ht:kFX P h0 l0 l al (k1V a o.dst v) (news++s) rs a' news'):kFX P h0 l0 (o::l) (ao::al) a news ((v,s)::rs) a' news'
variable {P:Program} {h0:k00}
theorem k82{l:List Oper}{j t:Nat}(ht:(l[j]?).bind (·.dst)=some t){C:Cfg}{v:Array Value}{b:Bool}(hb:VR C (.bool b) (v.getD t undef)):yielded l.toArray v j=some b:=by
 have h1:=hb.bool'
 have h2:v[t]?=some (.bool b):=by
  rw[Array.getD_eq_getD_getElem?] at h1
  cases hx:v[t]? with
  | none=>rw[hx] at h1;simp[undef] at h1
  | some u=>rw[hx] at h1;simp at h1;rw[h1]
 unfold yielded;have:((l.toArray[j]?).bind (·.dst))=some t:=by simpa using ht
 rw[this];simp[h2]
theorem kBJ{l:List Oper}{j t:Nat}(ht:(l[j]?).bind (·.dst)=some t){C:Cfg}{v:Array Value}(hb:VR C (.tuple []) (v.getD t undef)):yielded l.toArray v j=none:=by
 obtain⟨vs,h1,h3⟩:=hb.tuple';unfold yielded;have:((l.toArray[j]?).bind (·.dst))=some t:=by simpa using ht
 rw[this]
 cases hx:v[t]? with
 | none=>simp[hx]
 | some u =>
   have:u = .tuple vs:=(by rw[Array.getD_eq_getD_getElem?,hx] at h1;simpa using h1);subst this;simp[hx]
theorem kHO{a:k09}{t:Nat}{b:Bool}(h:a.getD t .any = .bool b):a.set t (.bool b)=a:=by
 apply List.ext_getElem?;intro i;by_cases hti:t=i
 ·subst hti
  rw[List.getD_eq_getElem?_getD] at h
  cases hx:a[t]? with
  | none=>rw[hx] at h;simp at h
  | some x =>
    rw[hx] at h;simp at h;subst h;have:=(List.getElem?_eq_some_iff.1 hx).1;rw[List.getElem?_set_self this]
 ·rw[List.getElem?_set_ne hti]
theorem kF9{ts:List Nat}{a:k09}{C:Cfg}{act:Act}(R:Rel C)(h:∀u,u∈ts->VR C (a.getD u .any) (act.tmps.getD u undef)):kJ2 C (evA (kD7 ts a)) act.eval:=by
 intro x y hxy
 cases x with
 | tmp t =>
   simp only[k0C,Option.some.injEq] at hxy;subst hxy;show VR C ((kD7 ts a).getD t .any) (act.tmps.getD t undef);rw[kEW];split
   ·rename_i ht;exact h t ht
   ·exact .any _
 | const v=>simp only[k0C,Option.some.injEq] at hxy;subst hxy;exact kD5 C v
 | func f=>simp only[k0C,Option.some.injEq] at hxy;subst hxy;exact .func _ [] [] #[] #[] rfl rfl (λi x hx=>by simp at hx) (λi x hx=>by simp at hx)
 | global g =>
   simp only[k0C] at hxy;split at hxy
   ·rename_i cs hg
    simp only[Option.some.injEq] at hxy;subst hxy;exact R.glo (g,cs) (kAR hg)
   ·cases hxy
theorem kGR{o:k0J}{a:k09}(x:k0B)(hx:x∈o.op.opnds):evA a x=evA (kD7 o.looks a) x:=by
 cases x with
 | tmp t =>
   show a.getD t .any=(kD7 o.looks a).getD t .any;rw[kEW,if_pos];exact List.mem_append_left _ (List.mem_filterMap.2 ⟨.tmp t,hx,rfl⟩)
 | const v=>rfl
 | func f=>rfl
def kJ1(P:Program)(h0:k00)(o:Oper)(ao:k0J)(a:k09)(news:k00)(K:k09->k00->Prop):Prop:=
 ∃(v:AV) (s:List k27),K (k1V a ao.dst v) (news++s)/\s.length=ao.op.slots/\s.length<=1 /\
    ∀(C:Cfg) (act:Act) (Q:Exit->Act->World->Prop) (K':Act->World->Prop),kSX h0 C.h->Rel C->(∀u,u∈ao.looks->VR C (a.getD u .any) (act.tmps.getD u undef))->(s≠[]->C.h[h0.length+news.length]?=some .free) ->
     (∀cv D,D.h=(match s with|[x]=>C.h.set (h0.length+news.length) x|_=>C.h)->Rel D->VR D v cv->Ext C.h.length C D->K' (act.put o.dst cv) D.w)->o.wp P act C.w K' Q
theorem k9H{l0:List Oper}{o:Oper}{ao:k0J}{a:k09}{news:k00}{K:k09->k00->Prop}(hc:k1F P o.op o.type=some ao.op)(hd:ao.dst=o.dst)(H:k6D P ao h0 K a news):kJ1 P h0 o ao a news K:=by
 have other:k0T ao.op (evA a) h0 (kRH K a ao.dst (h0.length+news.length) ao.op.slots news)->kJ1 P h0 o ao a news K:=λH=>by
  unfold kJ1;obtain⟨r,hr,hs⟩:=sound hc (kJ5 (ev':=evA (kD7 ao.looks a)) (λx hx=>kGR x hx) H)
  have go:∀(C:Cfg) (act:Act) (Q:Exit->Act->World->Prop) (K':Act->World->Prop) (t:Nat) (h':k00),kSX h0 C.h->Rel C->(∀u,u∈ao.looks->VR C (a.getD u .any) (act.tmps.getD u undef))->¬C.used t->r.heap t C.h h' ->
   (∀cv D,D.h=h'->Rel D->VR D (r.at t) cv->Ext C.h.length C D->K' (act.put o.dst cv) D.w)->o.wp P act C.w K' Q:=by
   intro C act Q K' t h' hsub R hl ht hh hk;obtain⟨nx,cv,D,g1,g2,g3,g4,g5,g6⟩:=hs C act.eval R hsub (kF9 R hl) t h' ht hh;have hk':=hk cv D g5 g3 g6 g4;unfold Oper.wp;rw[g1]
   cases nx<;>simp only[kES,Option.some.injEq,reduceCtorEq] at g2
   ·subst g2;exact hk'
   ·subst g2;exact hk'
  cases r with
  | val v =>
    simp only[kRH] at hr;exact⟨v,[],by simpa using hr.2,by simp[hr.1],by simp,λC act Q K' hsub R hl _ hk=>go C act Q K' C.h.length C.h hsub R hl (λhu=>absurd (Cfg.used_lt hu) (Nat.lt_irrefl _)) rfl (λcv D k1 k2 k3 k4=>hk cv D k1 k2 k3 k4)⟩
  | new sl z es =>
    simp only[kRH] at hr;refine⟨_,[.live z es],hr.2,by simp[hr.1],by simp,λC act Q K' hsub R hl hfree hk=>?_⟩;have hf:=hfree (by simp);have hlt:h0.length+news.length<C.h.length:=(List.getElem?_eq_some_iff.1 hf).1;refine go C act Q K' (h0.length+news.length) (C.h.set (h0.length+news.length) (.live z es)) hsub R hl ?_ ⟨List.getElem?_set_self hlt,λs x hs hx=>by rw[List.getElem?_set_ne (Ne.symm hs)]⟩ (λcv D k1 k2 k3 k4=>hk cv D k1 k2 k3 k4)
    rintro⟨x,hx,hx'⟩
    rw[hf] at hx;cases hx
    exact hx' rfl
  | upd s z es=>exact hr.elim
  | repl s z es=>exact hr.elim
 unfold k6D at H;unfold kJ1;split at H
 ·rename_i f xs hop
  split at H
  ·rename_i g first caps hf
   rw[hop] at hc;obtain⟨cl,fo,hoo,hcal,hg,hys⟩:=k9T hc;obtain⟨r,⟨hent,hcalls⟩,hK⟩:=H;refine⟨r,[],by simpa[kFP] using hK,by simp[hop,AOp.slots],by simp,λC act Q K' hsub R hl _ hk=>?_⟩;have he:=kF9 R hl;have hf':evA (kD7 ao.looks a) f = .func (.func g) first caps:=by rw[<- kGR f (by rw[hop];simp[AOp.opnds])];exact hf
   have hxs':evs (evA (kD7 ao.looks a)) xs=evs (evA a) xs:=(kAY λx hx=>kGR x (by rw[hop];simp[AOp.opnds,hx])).symm;obtain⟨vf,vc,hfe,hvf,hvc⟩:=(hf'▸he fo f hg:VR C _ (act.eval fo)).func';have hargs:=he.opnds hys;have e1:(cl.args.toList.map act.eval).toArray=cl.args.map act.eval:=(by apply Array.ext';simp);rw[e1,hxs'] at hargs
   have hrun:(execOp act.eval o).run P C.w = .ok (.enter g (vf++cl.args.map act.eval++vc)) C.w:=by
    simp only[execOp,hoo,resolve,hcal,hfe,Deferred.ofValue,Sem.run_bind,Sem.run_pure,Result.andThen_ok,invoke];exact k9N hent _ _
   unfold Oper.wp;rw[hrun];refine(hcalls C _ hsub R ((hvf.app hargs).app hvc)).mono λe w' ⟨v,D,h1,h2,h3,h4,h5,h6⟩=>?_;subst h1;subst h3;exact hk v D h2 h4 h5 h6
  ·exact H.elim
 ·exact other H
theorem kA8{l0:List Oper}{K:k09->k00->Prop}:∀ {l:List Oper} {al:List k0J} {a:k09} {news:k00},k0R P l0 l=some al->k4H P h0 K al a news->∃rs a' news',kFX P h0 l0 l al a news rs a' news'/\K a' news'
 | [],al,a,news,hc,H=>by
   simp only[k0R,Option.some.injEq] at hc;subst hc;exact⟨[],a,news,.nil a news,H⟩
 | o::l,al,a,news,hc,H=>by
   simp only[k0R] at hc;split at hc
   ·rename_i ao al' hao hal
    simp only[Option.some.injEq] at hc;subst hc;obtain⟨h1,h2,h3⟩:=k3C hao;simp only[k4H] at H;rcases h3 with ⟨g1,g2⟩|⟨j,want,t,g1,g2,g3⟩
    ·simp only[g2] at H
     obtain⟨v,s,k1,k2,k3,k4⟩:=k9H (l0:=l0) h1 h2 H;obtain⟨rs,a',news',c1,c2⟩:=kA8 hal k1;refine⟨(v,s)::rs,a',news',.cons o ao l al' a news v s rs a' news' ⟨λC act Q K' b1 b2 b3 b4 b5=>?_⟩ h2 k2 k3 (h2▸c1),c2⟩;rw[if_pos (by simp[Region.wanted,g1])];exact k4 C act Q K' b1 b2 b3 b4 b5
    ·simp only[g3] at H
     have hlook:t∈ao.looks:=by unfold k0J.looks;rw[g3];simp
     have skip:∀(K0:k4H P h0 K al' (k1V a ao.dst .undef) (news++List.replicate ao.op.slots .free)) (hno:∀(C:Cfg) (act:Act),(∀u,u∈ao.looks->VR C (a.getD u .any) (act.tmps.getD u undef))->¬(Region.wanted o (yielded l0.toArray act.tmps)=true)),
      ∃rs a' news',kFX P h0 l0 (o::l) (ao::al') a news rs a' news'/\K a' news':=by
      intro K0 hno;obtain⟨rs,a',news',c1,c2⟩:=kA8 hal K0;have hk1:ao.op.slots<=1:=(by cases ao.op<;>simp[AOp.slots]);refine⟨(.undef,List.replicate ao.op.slots .free)::rs,a',news',.cons o ao l al' a news _ _ rs a' news' ⟨λC act Q K' b1 b2 b3 b4 b5=>?_⟩ h2 (by simp) (by simpa using hk1) (h2▸c1),c2⟩;rw[if_neg (hno C act b3)];refine b5 undef C ?_ b2 (k83 C) (Ext.refl _ _);rcases Nat.le_one_iff_eq_zero_or_eq_one.1 hk1 with h|h
      ·rw[h];rfl
      ·rw[h]
       have hf:=b4 (by rw[h];simp);show C.h=C.h.set (h0.length+news.length) .free;have hlt:=(List.getElem?_eq_some_iff.1 hf);obtain⟨q1,q2⟩:=hlt;rw[<- q2];exact(List.set_getElem_self q1).symm
     split at H
     ·rename_i b hb
      by_cases hbw:b=want
      ·have H1:=H.1 hbw
       subst hbw;rw[kHO hb] at H1;obtain⟨v,s,k1,k2,k3,k4⟩:=k9H (l0:=l0) h1 h2 H1;obtain⟨rs,a',news',c1,c2⟩:=kA8 hal k1;refine⟨(v,s)::rs,a',news',.cons o ao l al' a news v s rs a' news' ⟨λC act Q K' b1 b2 b3 b4 b5=>?_⟩ h2 k2 k3 (h2▸c1),c2⟩;have hy:=k82 g2 (hb▸b3 t hlook);rw[if_pos (by simp[Region.wanted,g1,hy])];exact k4 C act Q K' b1 b2 b3 b4 b5
      ·have hbn:b = !want:=by cases b<;>cases want<;>simp_all
       have H2:=H.2 hbn;rw[<- hbn,kHO hb] at H2;refine skip H2 λC act b3=>?_;have hy:=k82 g2 (hb▸b3 t hlook);simp[Region.wanted,g1,hy,hbw]
     ·rename_i hb
      refine skip H λC act b3=>?_;have hy:=kBJ g2 (hb▸b3 t hlook);simp[Region.wanted,g1,hy]
     ·exact H.elim
   ·cases hc
end Go.Eng
namespace Go.Eng
open Go Go.RowKit
variable {P:Program} {h0:k00}
def k72(al:List k0J)(i:Nat):Option Nat:=(al[i]?).bind (·.dst)
def kD8(al:List k0J)(i:Nat):List Nat:=match al[i]? with|some o=>o.looks|none=>[]
def kOE(al:List k0J)(i j:Nat):Bool:=
 (match k72 al i with|some d=>(kD8 al j).contains d || k72 al j == some d|none=>false) || (match k72 al j with|some d=>(kD8 al i).contains d|none=>false)
def kD9(n m:Nat):Array Bool:=Array.replicate n true++Array.replicate (m-n) false
def kN2(ops:Array Oper)(n j:Nat):Bool:=match ops[j]? with
 | some o=>(match o.op with | .extract _ _=>true|_=>false) && o.guard.isNone && Region.noSelect ops &&
   (List.range ops.size).all (λi=>i == j || Region.waitsFor .any ops j i || Region.waitsFor .any ops i j || match ops[i]? with|some oi=>o.apart ops oi|none=>true) &&
   o.after.all (λe=> !Region.binds .any e || Region.waitsFor .any ops n e.on)
 | none=>false
def kVB(ops:Array Oper)(n:Nat):Bool:=(List.range n).all λi=>(List.range (n+1)).any (λj=>decide (i<j) && Region.waitsFor .any ops j i) || kN2 ops n i
def kK3(ops:List Oper)(al:List k0J):Bool:=
 (List.range al.length).all (λi=>(match ops[i]? with|some o=>o.after.all (λe=> !Region.binds .any e || decide (e.on<i))|none=>false) &&
   (List.range al.length).all (λj=> !decide (i<j) || !kOE al i j || Region.waitsFor .any ops.toArray j i)) &&
 (decide (al.length=ops.length) || (decide (al.length<ops.length) && kVB ops.toArray al.length && Region.chainB .any ops.toArray al.length)) &&
 Region.seqB .any ops.toArray (ops.length-al.length) al.length (kD9 al.length ops.length)
def cur(dst:Nat->Option Nat)(val:Nat->AV)(S:Nat->Bool)(g:Nat->AV):Nat->Nat->AV
 | 0,t=>g t
 | m+1,t=>if S m=true/\dst m=some t then val m else cur dst val S g m t
theorem kFK{dst:Nat->Option Nat}{val:Nat->AV}{S:Nat->Bool}{g:Nat->AV}{n j u:Nat}(hj:j<=n)(h1:∀i,i<j->dst i=some u->S i=true)(h2:∀i,j<=i->i<n->S i=true->dst i≠some u) :
 cur dst val S g n u=cur dst val (λ_=>true) g j u:=by
 have e1:∀m,j<=m->m<=n->cur dst val S g m u=cur dst val S g j u:=by
  intro m
  induction m with
  | zero=>intro h _;have:j=0:=by omega
          subst this;rfl
  | succ m ih =>
    intro hm hmn;by_cases hjm:j=m+1
    ·subst hjm;rfl
    ·rw[cur,if_neg (λhh=>h2 m (by omega) (by omega) hh.1 hh.2)]
     exact ih (by omega) (by omega)
 rw[e1 n hj (Nat.le_refl _)]
 have e2:∀m,m<=j->cur dst val S g m u=cur dst val (λ_=>true) g m u:=by
  intro m
  induction m with
  | zero=>intro _;rfl
  | succ m ih =>
    intro hm;rw[cur,cur,ih (by omega)];by_cases hd:dst m=some u
    ·rw[if_pos ⟨h1 m (by omega) hd,hd⟩,if_pos ⟨rfl,hd⟩]
    ·rw[if_neg (λh=>hd h.2),if_neg (λh=>hd h.2)]
 exact e2 j (Nat.le_refl _)
def kFZ(S:Nat->Bool)(j:Nat):Nat->Bool:=λi=>if i=j then true else S i
theorem kXW{dst:Nat->Option Nat}{val:Nat->AV}{S:Nat->Bool}{g:Nat->AV}{n j t:Nat}(hj:j<n)(hd:dst j=some t)(h2:∀i,j<i->i<n->S i=true->dst i≠some t):cur dst val (kFZ S j) g n t=val j:=by
 have e1:∀m,j<m->m<=n->cur dst val (kFZ S j) g m t=val j:=by
  intro m
  induction m with
  | zero=>intro h _;omega
  | succ m ih =>
    intro hm hmn;by_cases hjm:j=m
    ·subst hjm;rw[cur,if_pos ⟨by simp[kFZ],hd⟩]
    ·rw[cur,if_neg (λhh=>h2 m (by omega) (by omega) (by have:=hh.1;simpa[kFZ,Ne.symm hjm] using this) hh.2)]
     exact ih (by omega) (by omega)
 exact e1 n hj (Nat.le_refl _)
theorem kSN{dst:Nat->Option Nat}{val:Nat->AV}{S:Nat->Bool}{g:Nat->AV}{j t:Nat}(hd:dst j≠some t):∀n,cur dst val (kFZ S j) g n t=cur dst val S g n t:=by
 intro m
 induction m with
 | zero=>rfl
 | succ m ih =>
   rw[cur,cur,ih];by_cases hjm:m=j
   ·subst hjm;rw[if_neg (λh=>hd h.2),if_neg (λh=>hd h.2)]
   ·simp[kFZ,hjm]
theorem kXX{dst:Nat->Option Nat}{val:Nat->AV}{S:Nat->Bool}{g:Nat->AV}{n t:Nat}(h:∀i,i<n->S i=true):cur dst val S g n t=cur dst val (λ_=>true) g n t:=
 kFK (Nat.le_refl _) (λi hi _=>h i hi) λi h1 h2=>by omega
def k87(rs:List (AV×List k27))(i:Nat):AV:=match rs[i]? with|some x=>x.1|none=>.any
def k1B(rs:List (AV×List k27))(i:Nat):List k27:=match rs[i]? with|some x=>x.2|none=>[]
def k3U:List (AV×List k27)->Nat->Nat
 | _,0=>0
 | [],_+1=>0
 | x::rs,i+1=>x.2.length+k3U rs i
theorem kHW(a:k09)(d:Option Nat)(v:AV):(k1V a d v).length=a.length:=by cases d<;>simp[k1V]
theorem kQG(a:k09)(d:Option Nat)(v:AV)(t:Nat)(ht:t<a.length):(k1V a d v).getD t .any=if d=some t then v else a.getD t .any:=by
 cases d with
 | none=>simp[k1V]
 | some d =>
   simp only[k1V,Option.some.injEq];by_cases h:d=t
   ·subst h;rw[if_pos rfl,List.getD_eq_getElem?_getD,List.getElem?_set_self ht];rfl
   ·rw[if_neg h,List.getD_eq_getElem?_getD,List.getElem?_set_ne h,List.getD_eq_getElem?_getD]
theorem kFJ(dst:Nat->Option Nat)(val:Nat->AV)(S:Nat->Bool)(g:Nat->AV)(t:Nat):∀m,cur dst val S g (m+1) t=cur (λi=>dst (i+1)) (λi=>val (i+1)) (λi=>S (i+1)) (λu=>if S 0=true/\dst 0=some u then val 0 else g u) m t
 | 0=>rfl
 | m+1=>by rw[cur,kFJ dst val S g t m,cur]
theorem kIO{dst dst':Nat->Option Nat}{val val':Nat->AV}{S:Nat->Bool}{g g':Nat->AV}{t:Nat}(hg:g t=g' t):∀m,(∀i,i<m->dst i=dst' i)->(∀i,i<m->val i=val' i)->cur dst val S g m t=cur dst' val' S g' m t
 | 0,_,_=>hg
 | m+1,h1,h2=>by rw[cur,cur,kIO hg m (λi hi=>h1 i (by omega)) (λi hi=>h2 i (by omega)),h1 m (by omega),h2 m (by omega)]
theorem kFX.at{l0:List Oper}{l:List Oper}{al:List k0J}{a:k09}{news:k00}{rs:List (AV×List k27)}{a':k09}{news':k00}(h:kFX P h0 l0 l al a news rs a' news') :
 l.length=al.length/\rs.length=al.length/\a'.length=a.length/\(∀t,t<a.length->a'.getD t .any=cur (k72 al) (k87 rs) (λ_=>true) (λu=>a.getD u .any) al.length t)/\news'=news++(rs.map (·.2)).flatten /\
 ∀i,i<al.length->∃o ao ai,l[i]?=some o/\al[i]?=some ao/\ao.dst=o.dst/\(k1B rs i).length<=1/\ai.length=a.length/\(∀t,t<a.length->ai.getD t .any=cur (k72 al) (k87 rs) (λ_=>true) (λu=>a.getD u .any) i t) /\
  q18 P h0 l0 o ao.looks ai (h0.length+news.length+k3U rs i) (k87 rs i) (k1B rs i):=by
 induction h with
 | nil a news=>exact⟨rfl,rfl,rfl,λt ht=>rfl,by simp,λi hi=>by simp at hi⟩
 | cons o ao l al a news v s rs a' news' hy hd hs hs1 ht ih =>
   obtain⟨i1,i2,i3,i4,i5,i6⟩:=ih;rw[kHW] at i3 i4
   have hg:∀t,t<a.length->(k1V a o.dst v).getD t .any=if (λ_:Nat=>true) 0=true/\k72 (ao::al) 0=some t then k87 ((v,s)::rs) 0 else a.getD t .any:=by
    intro t ht';rw[kQG _ _ _ _ ht',<- hd];simp[k72,k87]
   have hcur:∀t,t<a.length->∀m,cur (k72 al) (k87 rs) (λ_=>true) (λu=>(k1V a o.dst v).getD u .any) m t=cur (k72 (ao::al)) (k87 ((v,s)::rs)) (λ_=>true) (λu=>a.getD u .any) (m+1) t:=by
    intro t ht' m;rw[kFJ];exact kIO (hg t ht') m (λi _=>by simp[k72]) (λi _=>by simp[k87])
   refine⟨by simp[i1],by simp[i2],i3,λt ht'=>?_,by simp[i5],λi hi=>?_⟩
   ·rw[i4 t ht',hcur t ht'];rfl
   ·cases i with
    | zero=>exact⟨o,ao,a,rfl,rfl,hd,by simpa[k1B] using hs1,rfl,λt ht'=>rfl,by simpa[k3U,k87,k1B] using hy⟩
    | succ i =>
      obtain⟨o',ao',ai,k1,k2,k3,k4,k5,k6,k7⟩:=i6 i (by simpa using hi);rw[kHW] at k5 k6;refine⟨o',ao',ai,by simpa using k1,by simpa using k2,k3,by simpa[k1B] using k4,k5,λt ht'=>?_,?_⟩
      ·rw[k6 t ht',hcur t ht']
      ·have:h0.length+(news++s).length+k3U rs i=h0.length+news.length+k3U ((v,s)::rs) (i+1):=by simp[k3U];omega
       rw[this] at k7;simpa[k87,k1B] using k7
theorem kD1:∀ {rs:List (AV×List k27)} {i j:Nat},i<j->k1B rs i≠[]->k3U rs i<k3U rs j
 | [],i,j,_,h=>by simp[k1B] at h
 | x::rs,0,j+1,_,h=>by
   simp only[k1B,List.getElem?_cons_zero] at h;have:=List.length_pos_iff.2 h;simp only[k3U];omega
 | x::rs,i+1,j+1,hij,h=>by
   have:=kD1 (rs:=rs) (i:=i) (j:=j) (by omega) (by simpa[k1B] using h);simp only[k3U];omega
theorem kQJ{rs:List (AV×List k27)}{i j:Nat}(hij:i≠j)(hi:k1B rs i≠[])(hj:k1B rs j≠[]):k3U rs i≠k3U rs j:=by
 rcases Nat.lt_or_gt_of_ne hij with h|h
 ·have:=kD1 h hi;omega
 ·have:=kD1 h hj;omega
theorem kAN:∀ {rs:List (AV×List k27)} {i:Nat} {x:k27},k1B rs i=[x]->(rs.map (·.2)).flatten[k3U rs i]?=some x
 | [],i,x,h=>by simp[k1B] at h
 | y::rs,0,x,h=>by
   have:y.2=[x]:=(by simpa[k1B] using h);simp[k3U,this]
 | y::rs,i+1,x,h=>by
   have ih:=kAN (rs:=rs) (i:=i) (x:=x) (by simpa[k1B] using h);simp only[List.map_cons,List.flatten_cons,k3U];rw[List.getElem?_append_right (by omega)];rw[show y.2.length+k3U rs i-y.2.length=k3U rs i by omega];exact ih
theorem kTD:∀ {rs:List (AV×List k27)} {k:Nat},(∀i,(k1B rs i).length<=1)->k<(rs.map (·.2)).flatten.length->∃i x,i<rs.length/\k1B rs i=[x]/\k3U rs i=k
 | [],k,_,h=>by simp at h
 | y::rs,k,h1,h=>by
   have hy:y.2.length<=1:=by have:=h1 0;simpa[k1B] using this
   have h1':∀i,(k1B rs i).length<=1:=λi=>by have:=h1 (i+1);simpa[k1B] using this
   by_cases hk:k<y.2.length
   ·have h1:y.2.length=1:=by omega
    obtain⟨x,hx⟩:=List.length_eq_one_iff.1 h1;exact⟨0,x,by simp,by simpa[k1B] using hx,by simp[k3U];omega⟩
   ·obtain⟨i,x,h2,h3,h4⟩:=kTD (rs:=rs) (k:=k-y.2.length) h1' (by simp at h ⊢;omega)
    exact⟨i+1,x,by simpa using h2,by simpa[k1B] using h3,by simp[k3U,h4];omega⟩
end Go.Eng
namespace Go.Eng
open Go Go.RowKit
variable {P:Program} {h0:k00}
theorem kC9{ops:List Oper}{al:List k0J}(h:kK3 ops al=true) :
 (∀i,i<al.length->∃o,ops[i]?=some o/\∀e,e∈o.after->Region.binds .any e=true->e.on<i) /\
 (∀i j,i<j->j<al.length->kOE al i j=true->Region.waitsFor .any ops.toArray j i=true) /\
 (al.length=ops.length\/(al.length<ops.length/\kVB ops.toArray al.length=true/\Region.chainB .any ops.toArray al.length=true)) /\
 Region.seqB .any ops.toArray (ops.length-al.length) al.length (kD9 al.length ops.length)=true:=by
 simp only[kK3,Bool.and_eq_true,Bool.or_eq_true,decide_eq_true_eq] at h;obtain⟨⟨h1,h2⟩,h3⟩:=h;rw[List.all_eq_true] at h1;refine⟨λi hi=>?_,λi j hij hj hc=>?_,?_,h3⟩
 ·have:=h1 i (List.mem_range.2 hi)
  simp only[Bool.and_eq_true] at this;obtain⟨k1,_⟩:=this;split at k1
  ·rename_i o ho
   refine⟨o,ho,λe he hb=>?_⟩;have:=Array.all_eq_true_iff_forall_mem.1 k1 e he;simpa[hb] using this
  ·cases k1
 ·have:=h1 i (List.mem_range.2 (by omega))
  simp only[Bool.and_eq_true] at this;have:=List.all_eq_true.1 this.2 j (List.mem_range.2 hj);simpa[hij,hc] using this
 ·rcases h2 with h2|⟨⟨h2,h3⟩,h4⟩
  ·exact .inl h2
  ·exact .inr ⟨h2,h3,h4⟩
theorem kMZ{o:Oper}{a:Act}{w:World}{K:Act->World->Prop}{Q:Exit->Act->World->Prop}(ho:(match o.op with | .extract _ _=>true|_=>false)=true)(h:o.wp P a w K Q):∃v,(∀w,(execOp a.eval o).run P w = .ok (.value v) w)/\K (a.put o.dst v) w:=by
 split at ho
 ·rename_i x i hop
  cases hx:a.eval x with
  | tuple vs =>
    cases hi:vs[i]? with
    | some v =>
      have e:∀w,(execOp a.eval o).run P w = .ok (.value v) w:=λw=>by simp[execOp,hop,hx,Instr.extract,hi];try rfl
      refine⟨v,e,?_⟩;unfold Oper.wp at h;rw[e] at h;exact h
    | none =>
      unfold Oper.wp at h;simp[execOp,hop,hx,Instr.extract,hi,Oper.upon,stuck] at h
  | _ =>
    unfold Oper.wp at h;simp[execOp,hop,hx,Instr.extract,Oper.upon,stuck] at h
 ·cases ho
theorem kF0{ops:Array Oper}{n j:Nat}(h:kN2 ops n j=true):∃o,ops[j]?=some o/\(match o.op with | .extract _ _=>true|_=>false)=true/\o.guard=none/\Region.noSelect ops=true /\
 (∀i oi,ops[i]?=some oi->i≠j->Region.waitsFor .any ops j i=false->Region.waitsFor .any ops i j=false->o.apart ops oi=true)/\∀e,e∈o.after->Region.binds .any e=true->Region.waitsFor .any ops n e.on=true:=by
 unfold kN2 at h;split at h
 ·rename_i o ho
  simp only[Bool.and_eq_true] at h;obtain⟨⟨⟨⟨h1,h2⟩,h3⟩,h4⟩,h5⟩:=h;refine⟨o,ho,h1,by simpa using h2,h3,λi oi hi hne hw1 hw2=>?_,λe he hb=>?_⟩
  ·have:=List.all_eq_true.1 h4 i (List.mem_range.2 (Array.getElem?_eq_some_iff.1 hi).1)
   simpa[hne,hw1,hw2,hi] using this
  ·have:=Array.all_eq_true_iff_forall_mem.1 h5 e he
   simpa[hb] using this
 ·cases h
theorem kLJ{ops:Array Oper}{n:Nat}{listed:Array Bool}(hs:kVB ops n=true)(hc:Region.chainB .any ops n=true)(hn:n<ops.size)(inv:HeadInv .any ops n listed)
 (hl:∀j,j<n->kN2 ops n j=true->j ∉ Region.ready .any ops listed):∀(d i:Nat),n-i=d->i<n->listed.getD i true=false->∀t,n<=t->t ∉ Region.ready .any ops listed:=by
 intro d
 induction d using Nat.strongRecOn with
 | _ d ih =>
   intro i hd hi yM t ht hr;obtain⟨_,ot,hot,hall⟩:=mem_ready.1 hr;have htlt:t<ops.size:=(Array.getElem?_eq_some_iff.1 hot).1;by_cases htn:t=n
   ·subst htn
    have h1:=List.all_eq_true.1 hs i (List.mem_range.2 hi);rw[Bool.or_eq_true] at h1;rcases h1 with h1|h1
    ·obtain⟨j,hj,hj2⟩:=List.any_eq_true.1 h1
     simp only[Bool.and_eq_true,decide_eq_true_eq] at hj2;obtain⟨oj,hoj,e,he,hb,hon⟩:=Region.waitsFor_spec hj2.2;have hjle:j<=t:=by have:=List.mem_range.1 hj;omega
     by_cases hjt:j=t
     ·subst hjt
      have:oj=ot:=Option.some.inj (hoj.symm.trans hot);subst this;have h2:=hall e he hb;rw[hon,getD_both yM] at h2;cases h2
     ·cases hl':listed.getD j false with
      | true =>
        have h2:=inv.closed j oj hoj hl' e he hb;rw[hon,getD_both yM] at h2;cases h2
      | false =>
        have hjs:j<listed.size:=(by rw[inv.size];omega);exact ih (t-j) (by omega) j rfl (by omega) (getD_in hjs hl') t (Nat.le_refl _) hr
    ·refine hl i hi h1 ?_
     obtain⟨o,ho,_,_,_,_,h5⟩:=kF0 h1;refine mem_ready.2 ⟨yM,o,ho,λe he hb=>?_⟩;obtain⟨ot',hot',e',he',hb',hon'⟩:=Region.waitsFor_spec (h5 e he hb);have:ot'=ot:=Option.some.inj (hot'.symm.trans hot);subst this;have:=hall e' he' hb'
     rwa [hon'] at this
   ·have h1:=List.all_eq_true.1 hc t (List.mem_range.2 htlt)
    simp only[Bool.or_eq_true,decide_eq_true_eq] at h1;rcases h1 with h1|h1
    ·omega
    ·obtain⟨o',ho',e,he,hb,hon⟩:=Region.waitsFor_spec h1
     have:o'=ot:=Option.some.inj (ho'.symm.trans hot);subst this;have h2:=hall e he hb;rw[hon,getD_both (inv.tail (t-1) (by omega) (by omega))] at h2;cases h2
def kKP(S:Nat->Bool):Nat->Nat
 | 0=>0
 | m+1=>kKP S m+(if S m=true then 0 else 1)
theorem kIQ{S:Nat->Bool}{j:Nat}(hj:S j=false):∀m,kKP S m=kKP (kFZ S j) m+(if j<m then 1 else 0)
 | 0=>by simp[kKP]
 | m+1=>by
   have ih:=kIQ hj m;simp only[kKP];by_cases h:m=j
   ·subst h
    rw[ih];simp[kFZ,hj]
   ·have:kFZ S j m=S m:=by simp[kFZ,h]
    rw[this,ih];by_cases h2:j<m
    ·have h3:j<m+1:=by omega
     simp only[h2,h3,if_true];omega
    ·have h3:¬j<m+1:=by omega
     simp only[h2,h3,if_false];omega
theorem kFM{S:Nat->Bool}:∀ {m:Nat},kKP S m=0->∀i,i<m->S i=true
 | 0,_,i,hi=>by omega
 | m+1,h,i,hi=>by
   simp only[kKP] at h;by_cases him:i=m
   ·subst him
    by_cases hs:S i=true
    ·exact hs
    ·rw[if_neg hs] at h;omega
   ·exact kFM (m:=m) (by omega) i (by omega)
structure q2T(h0:k00)(al:List k0J)(rs:List (AV×List k27))(a:k09)(S:Nat->Bool)(C:Cfg)(act:Act):Prop where
 rel:Rel C
 nodef:act.defers=[]
 size:act.tmps.size=a.length
 len:C.h.length=h0.length+(rs.map (·.2)).flatten.length
 old:∀k,k<h0.length->C.h[k]?=h0[k]?
 new:∀i x,k1B rs i=[x]->C.h[h0.length+k3U rs i]?=some (if S i=true then x else .free)
 vrs:∀t,t<a.length->VR C (cur (k72 al) (k87 rs) S (λu=>a.getD u .any) al.length t) (act.tmps.getD t undef)
theorem kR7{l0:List Oper}{l:List Oper}{al:List k0J}{a:k09}{rs:List (AV×List k27)}{a':k09}{news':k00}(hch:kFX P h0 l0 l al a [] rs a' news')(hl:∀i,i<al.length->l[i]?=l0[i]?)(hB:kK3 l0 al=true)
 {Q:Exit->Act->World->Prop} (hQp:∀c a w,¬Q (.panic c) a w) (C0:Cfg) (hN:h0.length<=C0.h.length)
 (Hfin:∀C act,q2T h0 al rs a (λ_=>true) C act->Ext C0.h.length C0 C->wpList P l0.toArray Q (l0.drop al.length) act C.w) :
 ∀(k:Nat) (listed:Array Bool) (C:Cfg) (act:Act),kKP (λi=>listed.getD i false) al.length=k->HeadInv .any l0.toArray al.length listed->q2T h0 al rs a (λi=>listed.getD i false) C act->Ext C0.h.length C0 C ->
  C.h.length=C0.h.length->wpAny P .any l0.toArray Q (k+(l0.length-al.length)) listed act C.w:=by
 obtain⟨b1,b2,b3,b4⟩:=kC9 hB;obtain⟨c1,c2,c3,c4,c5,c6⟩:=hch.at
 have hle:al.length<=l0.length:=by rcases b3 with h|h<;>omega
 intro k
 induction k with
 | zero =>
   intro listed C act hk inv I E zE;have hall:=kFM hk
   have hl2:listed=kD9 al.length l0.length:=by
    apply Array.ext_getElem?;intro i;unfold kD9;rw[Array.getElem?_append];simp only[Array.size_replicate,Array.getElem?_replicate];by_cases hi:i<al.length
    ·rw[if_pos hi,if_pos hi]
     have:=hall i hi;simp only[Array.getD_eq_getD_getElem?] at this
     cases hx:listed[i]? with
     | none=>rw[hx] at this;simp at this
     | some b=>rw[hx] at this;simp at this;rw[this]
    ·rw[if_neg hi]
     by_cases hi2:i<l0.length
     ·rw[if_pos (by omega)]
      have:=inv.tail i (by omega) (by simpa using hi2);simp only[Array.getD_eq_getD_getElem?] at this
      cases hx:listed[i]? with
      | none=>rw[hx] at this;simp at this
      | some b=>rw[hx] at this;simp at this;rw[this]
     ·rw[if_neg (by omega)]
      exact Array.getElem?_eq_none (by rw[inv.size];simpa using hi2)
   have hfin:=Hfin C act ⟨I.rel,I.nodef,I.size,I.len,I.old,λi x hx=>by
    rw[I.new i x hx]
    have hil:i<al.length:=by
     rcases Nat.lt_or_ge i al.length with h|h
     ·exact h
     ·simp only[k1B] at hx
      rw[List.getElem?_eq_none (by omega)] at hx;cases hx
    simp only[hall i hil,if_true],λt ht=>by rw[<- kXX (S:=λi=>listed.getD i false) hall];exact I.vrs t ht⟩ E
   rw[Nat.zero_add];have:=wpAny_of_seq (md:=.any) (ops:=l0.toArray) (Q':=Q) (l0.drop al.length) al.length listed act C.w (λj=>by simp[List.getElem?_drop]) (by rw[hl2];simpa using b4) hfin;simpa using this
 | succ k ih =>
   intro listed C act hk inv I E zE;have hsz:listed.size=l0.length:=by simpa using inv.size
   -- the first that is not listed is ready
   have hex:∃i,i<al.length/\listed.getD i false=false:=by
    by_cases h:∃i,i<al.length/\listed.getD i false=false
    ·exact h
    ·exfalso
     have:∀m,m<=al.length->kKP (λi=>listed.getD i false) m=0:=by
      intro m
      induction m with
      | zero=>intro _;rfl
      | succ m ihm =>
        intro hm;simp only[kKP];rw[ihm (by omega)]
        have:listed.getD m false=true:=by
         cases hx:listed.getD m false with
         | true=>rfl
         | false=>exact absurd ⟨m,by omega,hx⟩ h
        simp[this]
     rw[this _ (Nat.le_refl _)] at hk;cases hk
   obtain⟨i0,⟨yJ,hu0⟩,hmin⟩:=kR1 (p:=λi=>i<al.length/\listed.getD i false=false) hex
   have hr0:i0∈Region.ready .any l0.toArray listed:=by
    obtain⟨o,ho,hdep⟩:=b1 i0 yJ;refine mem_ready.2 ⟨getD_in (by omega) hu0,o,by simpa using ho,λe he hb=>?_⟩;have:=hdep e he hb
    cases hx:listed.getD e.on false with
    | true=>rfl
    | false=>have:=hmin e.on ⟨by omega,hx⟩;omega
   rw[show k+1+(l0.length-al.length)=(k+(l0.length-al.length))+1 by omega]
   -- what an operation of the head does that is ready
   have step:∀j,j∈Region.ready .any l0.toArray listed->j<al.length->∃oj,l0.toArray[j]?=some oj/\(if Region.wanted oj (yielded l0.toArray act.tmps) then oj.wp P act C.w (wpAny P .any l0.toArray Q (k+(l0.length-al.length)) (listed.setIfInBounds j true)) Q else wpAny P .any l0.toArray Q (k+(l0.length-al.length)) (listed.setIfInBounds j true) (act.put oj.dst undef) C.w):=by
    intro j hj hjn;obtain⟨yM,oj,hoj,hall⟩:=mem_ready.1 hj;have hunf:listed.getD j false=false:=getD_both yM;obtain⟨o,ao,aj,k1,k2,k3,k4,k5,k6,k7⟩:=c6 j hjn
    have hoo:oj=o:=by
     have:=hl j hjn;rw[k1] at this;have h2:l0[j]?=some oj:=(by simpa using hoj);rw[h2] at this;exact(Option.some.inj this).symm
    subst hoo;have hdj:k72 al j=oj.dst:=(by simp[k72,k2,k3]);have hlj:kD8 al j=ao.looks:=by simp[kD8,k2]
    -- what is known of those that are listed
    have closed:∀i,i<al.length->listed.getD i false=true->Region.waitsFor .any l0.toArray i j=true->False:=by
     intro i hi hli hw;obtain⟨oi,hoi,e,he,hb,hon⟩:=Region.waitsFor_spec hw;have:=inv.closed i oi hoi hli e he hb;rw[hon,hunf] at this;cases this
    have needs:∀i,i<j->Region.waitsFor .any l0.toArray j i=true->listed.getD i false=true:=by
     intro i hi hw;obtain⟨oi,hoi,e,he,hb,hon⟩:=Region.waitsFor_spec hw;have:oi=oj:=Option.some.inj (hoi.symm.trans hoj);subst this;have:=hall e he hb
     rwa [hon] at this
    have reads:∀u,u∈ao.looks->cur (k72 al) (k87 rs) (λi=>listed.getD i false) (λu=>a.getD u .any) al.length u=cur (k72 al) (k87 rs) (λ_=>true) (λu=>a.getD u .any) j u:=by
     intro u hu;refine kFK (by omega) (λi hi hd=>?_) (λi h1 h2 hS hd=>?_)
     ·refine needs i hi (b2 i j hi hjn ?_)
      simp[kOE,hd,hlj,hu]
     ·by_cases hij:i=j
      ·subst hij;rw[hunf] at hS;cases hS
      ·refine closed i h2 hS (b2 j i (by omega) h2 ?_)
       simp[kOE,hd,hlj,hu]
    have hsub:kSX h0 C.h:=λs z es hs=>by
     have hlt:=(List.getElem?_eq_some_iff.1 hs).1;rw[I.old s hlt];exact hs
    have hpos:∀x,k1B rs j=[x]->C.h[h0.length+([]:k00).length+k3U rs j]?=some .free:=by
     intro x hx;have:=I.new j x hx;simpa[hunf] using this
    have hfree:k1B rs j≠[]->C.h[h0.length+([]:k00).length+k3U rs j]?=some .free:=by
     intro hne;have h1:=List.length_pos_iff.2 hne;obtain⟨x,hx⟩:=List.length_eq_one_iff.1 (show (k1B rs j).length=1 by omega);exact hpos x hx
    have hy:=k7.run C act Q (wpAny P .any l0.toArray Q (k+(l0.length-al.length)) (listed.setIfInBounds j true)) hsub I.rel (λu hu=>by
     by_cases hul:u<a.length
     ·rw[k6 u hul,<- reads u hu];exact I.vrs u hul
     ·rw[List.getD_eq_getElem?_getD,List.getElem?_eq_none (by omega)];exact .any _) hfree (λcv D d1 d2 d3 d4=>?_)
    ·exact⟨oj,hoj,hy⟩
    ·have hjs:j<listed.size:=by omega
     have hS':(λi=>(listed.setIfInBounds j true).getD i false)=kFZ (λi=>listed.getD i false) j:=by
      funext i
      by_cases hij:i=j
      ·subst hij;simp[kFZ,hjs]
      ·simp only[kFZ,hij,if_false]
       exact getD_set_ne false (Ne.symm hij)
     have hcnt:=kIQ (S:=λi=>listed.getD i false) (j:=j) hunf al.length;rw[if_pos hjn,hk] at hcnt
     have hDlen:D.h.length=C.h.length:=by
      rw[d1];split<;>simp
     refine ih (listed.setIfInBounds j true) D (act.put oj.dst cv) (by rw[hS'];omega) (inv.set hj hjn) ?_ (E.trans (zE▸d4)) (by omega);rw[hS'];refine⟨d2,?_,?_,by rw[hDlen];exact I.len,λq hq=>?_,λi x hx=>?_,λt ht=>?_⟩
     ·cases oj.dst<;>simpa[Act.put] using I.nodef
     ·cases oj.dst<;>simpa[Act.put] using I.size
     ·rw[d1]
      split
      ·rw[List.getElem?_set_ne (by simp;omega)];exact I.old q hq
      ·exact I.old q hq
     ·by_cases hij:i=j
      ·subst hij
       rw[d1,hx];have hf:=hpos x hx;have hlt:=(List.getElem?_eq_some_iff.1 hf).1;simp only[List.length_nil,Nat.add_zero] at hlt ⊢;rw[List.getElem?_set_self hlt];simp[kFZ]
      ·have hold:=I.new i x hx
       have e1:kFZ (λi=>listed.getD i false) j i=listed.getD i false:=(by simp[kFZ,hij]);rw[e1,<- hold,d1];split
       ·rename_i y hy'
        have:=kQJ (rs:=rs) hij (by rw[hx];simp) (by rw[hy'];simp);rw[List.getElem?_set_ne (by simp;omega)]
       ·rfl
     ·by_cases hd:oj.dst=some t
      ·have hcur:=kXW (dst:=k72 al) (val:=k87 rs) (S:=λi=>listed.getD i false) (g:=λu=>a.getD u .any) hjn (by rw[hdj];exact hd) (λi h1 h2 hS hd'=>by
        refine closed i h2 hS (b2 j i h1 h2 ?_);simp[kOE,hdj,hd,hd'])
       rw[hcur,hd];have hts:t<act.tmps.size:=(by rw[I.size];exact ht);have:(act.put (some t) cv).tmps.getD t undef=cv:=(by simp[Act.put,Array.getD_eq_getD_getElem?,hts]);rw[this];exact d3
      ·rw[kSN (by rw[hdj];exact hd)]
       have:(act.put oj.dst cv).tmps.getD t undef=act.tmps.getD t undef:=by
        cases hdd:oj.dst with
        | none=>rfl
        | some d =>
          have:d≠t:=λe=>hd (by rw[hdd,e]);simp[Act.put,Array.getD_eq_getD_getElem?,Array.getElem?_setIfInBounds_ne this]
       rw[this];exact d4.vr' (I.vrs t ht)
   by_cases hlate:∃j,j<al.length/\kN2 l0.toArray al.length j=true/\j∈Region.ready .any l0.toArray listed
   ·-- one that may come late comes at once
    obtain⟨j,hjn,hlj,hj⟩:=hlate;obtain⟨oj,hoj,hst⟩:=step j hj hjn;obtain⟨o,ho,m1,m2,m3,m4,m5⟩:=kF0 hlj;have:o=oj:=Option.some.inj (ho.symm.trans hoj);subst this;have hwant:Region.wanted o (yielded l0.toArray act.tmps)=true:=(by simp[Region.wanted,m2]);rw[if_pos hwant] at hst;obtain⟨v,hv,hK⟩:=kMZ m1 hst;refine wpAny_first ho (Region.noSelect_spec m3) (λc a w h=>absurd h (hQp c _ w)) _ listed act C.w (λi oi hi hne yM hno=>?_) hj (.inl ⟨hwant,hv⟩) hK;refine m4 i oi hi hne ?_ ?_
    ·cases hw:Region.waitsFor .any l0.toArray j i with
     | false=>rfl
     | true =>
       obtain⟨oj',hoj',e,he,hb,hon⟩:=Region.waitsFor_spec hw;have:oj'=o:=Option.some.inj (hoj'.symm.trans ho);subst this;obtain⟨_,oj2,hoj2,hall⟩:=mem_ready.1 hj;have:oj2=oj':=Option.some.inj (hoj2.symm.trans ho);subst this;have:=hall e he hb;rw[hon,getD_both yM] at this;cases this
    ·cases hw:Region.waitsFor .any l0.toArray i j with
     | false=>rfl
     | true =>
       obtain⟨oi',hoi',e,he,hb,hon⟩:=Region.waitsFor_spec hw;have:oi'=oi:=Option.some.inj (hoi'.symm.trans hi);subst this;exact absurd hon (hno e he hb)
   ·refine⟨λh=>(by rw[h] at hr0;cases hr0),λj hj=>?_⟩
    obtain⟨yM,oj,hoj,hall⟩:=mem_ready.1 hj
    have hjlt:j<l0.length:=by
     have:=(Array.getElem?_eq_some_iff.1 hoj).1;simpa using this
    have hjn:j<al.length:=by
     rcases b3 with h|⟨h1,h2,h3⟩
     ·omega
     ·rcases Nat.lt_or_ge j al.length with h|h
      ·exact h
      ·exact absurd hj (kLJ h2 h3 (by simpa using h1) inv (λi hi hl hr=>hlate ⟨i,hi,hl,hr⟩) _ i0 rfl yJ (getD_in (by omega) hu0) j h)
    obtain⟨oj',hoj',hy⟩:=step j hj hjn;have:oj'=oj:=Option.some.inj (hoj'.symm.trans hoj);subst this;unfold wpOp;rw[hoj];simp only;split
    ·rename_i hw;rw[if_pos hw] at hy;exact .inl hy
    ·rename_i hw;rw[if_neg hw] at hy;exact hy
end Go.Eng
