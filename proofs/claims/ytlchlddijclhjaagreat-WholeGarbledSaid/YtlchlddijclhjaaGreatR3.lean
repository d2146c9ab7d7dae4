/- Parts of the proofs. -/
import Derived.Laws.IdiomStrings
import Derived.Test.YtlchlddijclhjaaGreatR1
import Derived.Test.YtlchlddijclhjaaGreatR2
import Derived.StillTail
set_option linter.unusedVariables false
set_option linter.unusedSimpArgs false
namespace Go.Eng
open Go Go.RowKit
variable {P:Program} {o:Oper} {ev:AR->AV} {h:A7}
theorem MR{w:World}(n:Nat)(lo hi:Option Value)(l h':Nat)(hh:(hi=none/\h'=n)\/∃k,hi=some (.int k h')/\h'<=n)(hl:(lo=none/\l=0)\/∃k,lo=some (.int k l)/\l<=h') :
 (Instr.sliceBounds false n n lo hi none).run P w = .ok (l,h',n) w:=by
 rcases hh with ⟨rfl,rfl⟩|⟨k,rfl,h2⟩<;>rcases hl with ⟨rfl,rfl⟩|⟨k2,rfl,h4⟩
 ·simp[Instr.sliceBounds]
 ·simp[Instr.sliceBounds,Instr.sliceBound,asIntOf,h4]
 ·simp[Instr.sliceBounds,Instr.sliceBound,asIntOf,h2]
 ·simp[Instr.sliceBounds,Instr.sliceBound,asIntOf,h2,h4]
theorem dU{t:TypeId}{x:Operand}{y:AR}{lo hi:Option Operand}{lo' hi':Option AR}{K:Res->Prop}(ho:o.op = .slice t x lo hi none)(hu:P.underlying t=some .string)
 (hx:AY x=some y) (lg:Co lo=some lo') (m_:Co hi=some hi') (hK:AQ (.slcS y lo' hi') ev h K):∃r,K r/\Ab P o ev h r:=by
 simp only[AQ] at hK;split at hK
 ·rename_i s hy
  have go:∀(l hh:Nat),(∀(c:Cfg) (e:Operand->Value),Rel c->EC c ev e->(Instr.sliceBounds false s.size s.size (lo.map e) (hi.map e) none).run P c.w = .ok (l,hh,s.size) c.w)->Ab P o ev h (.val (.str (s.extract l hh))):=by
   intro l hh H;refine Ab.val λc e R hs he=>⟨_,?_,.str _⟩;have g1:=(hy▸he x y hx:VR c _ (e x)).str';simp[execOp,ho,Instr.sliceAt,Instr.slice,BF c.w hu,g1,H c e R he]
  have opt:∀ {q:Option Operand} {q':Option AR} {k:IntKind} {b:Int},Co q=some q'->q'.map ev=some (.int k b)->∀(c:Cfg) (e:Operand->Value),EC c ev e->q.map e=some (.int k b):=by
   intro q q' k b hq hb c e he
   cases q with
   | none=>simp only[Co,Option.some.injEq] at hq;subst hq;cases hb
   | some q0 =>
     simp only[Co,Option.map_eq_some_iff] at hq;obtain⟨q1,h1,rfl⟩:=hq;simp only[Option.map_some,Option.some.injEq] at hb;rw[Option.map_some,(hb▸he q0 q1 h1:VR c _ (e q0)).int']
  have opn:∀ {q:Option Operand} {q':Option AR},Co q=some q'->q'.map ev=none->q=none:=by
   intro q q' hq hb
   cases q with
   | none=>rfl
   | some q0 =>
     simp only[Co,Option.map_eq_some_iff] at hq;obtain⟨q1,h1,rfl⟩:=hq;cases hb
  split at hK
  ·rename_i k b h1 h2
   obtain⟨⟨b0,b1⟩,hK⟩:=hK;refine⟨_,hK,go _ _ λc e R he=>?_⟩;rw[opt m_ h2 c e he,opn lg h1];exact MR _ _ _ _ _ (.inr ⟨k,by rw[Int.toNat_of_nonneg b0],by omega⟩) (.inl ⟨rfl,rfl⟩)
  ·rename_i k a h1 h2
   obtain⟨⟨b0,b1⟩,hK⟩:=hK;refine⟨_,hK,go _ _ λc e R he=>?_⟩;rw[opt lg h1 c e he,opn m_ h2];exact MR _ _ _ _ _ (.inl ⟨rfl,rfl⟩) (.inr ⟨k,by rw[Int.toNat_of_nonneg b0],by omega⟩)
  ·rename_i k a k2 b h1 h2
   obtain⟨⟨b0,b1,b2⟩,hK⟩:=hK;refine⟨_,hK,go _ _ λc e R he=>?_⟩;rw[opt lg h1 c e he,opt m_ h2 c e he];exact MR _ _ _ _ _ (.inr ⟨k2,by rw[Int.toNat_of_nonneg (by omega)],by omega⟩) (.inr ⟨k,by rw[Int.toNat_of_nonneg b0],by omega⟩)
  ·rename_i h1 h2
   refine⟨_,hK,go _ _ λc e R he=>?_⟩;rw[opn lg h1,opn m_ h2];exact MR _ _ _ _ _ (.inl ⟨rfl,rfl⟩) (.inl ⟨rfl,rfl⟩)
  ·exact hK.elim
 ·exact hK.elim
theorem TU(s:ByteArray):(CR s).length=s.size:=by
 unfold CR;rw[List.length_map,Array.length_toList];rfl
theorem P9{s:ByteArray}{j:Nat}(hj:j<s.data.toList.length):(CR s)[j]?=some [.int .u8 (s.data.toList[j].toNat:Int)]:=by
 unfold CR;rw[List.getElem?_map,List.getElem?_eq_getElem hj];rfl
theorem TV(s:ByteArray):s.data.toList.length=s.size:=by rw[Array.length_toList];rfl
theorem TW(s:ByteArray):(⟨s.data.toList.toArray⟩:ByteArray)=s:=by
 show ByteArray.mk (s.data.toList.toArray)=s;rw[Array.toArray_toList]
theorem dV{s d e0:TypeId}{x:Operand}{y:AR}{K:Res->Prop}(ho:o.op = .convert s d x)(hs:P.underlying s=some (.slice e0))(h8:P.underlying e0=some (.int .u8))(hd:P.underlying d=some .string)(hx:AY x=some y)
 (hK:AQ (.toS y) ev h K):∃r,K r/\Ab P o ev h r:=by
 simp only[AQ] at hK;split at hK
 ·rename_i z es hy
  obtain⟨b,⟨rfl,rfl⟩,hK⟩:=hK;refine⟨_,hK,Ab.val λc e R lD he=>⟨_,?_,.str _⟩⟩;rcases (hy▸he x y hx:VR c _ (e x)).lists with ⟨⟨a0,c0,g1⟩,g2⟩|⟨a,cap,f,g1,lh,hsp,hz,aS,aT,hv⟩
  ·have hb:b = .empty:=by
    have h1:=TU b;rw[g2] at h1;simp only[List.length_nil] at h1;exact ByteArray.ext (Array.eq_empty_of_size_eq_zero h1.symm)
   subst hb
   cases a0 with
   | none=>simp[execOp,ho,g1,convert,BF c.w hs,BF c.w hd,BF c.w h8,Conv.bytesToString]
   | some a =>
     have:=run_convert_bytes_back (P:=P) c.w s d e0 a c0 [] hs h8 hd (λj hj=>absurd hj (Nat.not_lt_zero _));simp only[List.length_nil] at this;simp[execOp,ho,g1,this];rfl
  ·have hl:(CR b).length=b.data.toList.length:=by unfold CR;rw[List.length_map]
   have:=run_convert_bytes_back (P:=P) c.w s d e0 a cap b.data.toList hs h8 hd (λj hj=>by
    have h1:=aS j 0 (by omega) (by omega);have h2:=(hv j _ (P9 hj) 0 _ rfl).int'
    have h3:a.add j=⟨a.block,a.off+(j*1+0),none⟩:=by
     cases a with|mk q w sp=>simp only at hsp;subst hsp;simp[Addr.add]
    rw[h3,h1,h2])
   rw[TW,TV] at this;rw[hl,TV] at g1;simp[execOp,ho,g1,this]
 ·rename_i q z i n hy
  split at hK
  ·rename_i z' es hq
   obtain⟨b,⟨rfl,rfl,yC,hb⟩,hK⟩:=hK;refine⟨_,hK,Ab.val λc e R lD he=>⟨_,?_,.str _⟩⟩;obtain⟨cap,g1,kZ,lh,_⟩:=(hy▸he x y hx:VR c _ (e x)).sls;obtain⟨_,hO,zQ,vs,ty,fz,hh,hfz,hsz,oJ⟩:=R.live q 1 es (lD _ _ _ hq) (by omega)
   have hl:b.data.toList.length=n:=by
    have h1:(CR b).length=b.data.toList.length:=(by unfold CR;rw[List.length_map]);rw[<- h1,<- hb];simp;omega
   have:=run_convert_bytes_back (P:=P) c.w s d e0 ⟨c.r q,i*1,none⟩ cap b.data.toList hs h8 hd (λj hj=>by
    have h1:es[i+j]?=some [.int .u8 (b.data.toList[j].toNat:Int)]:=by
     have h2:=P9 hj;rw[<- hb,List.getElem?_take,if_pos (by omega),List.getElem?_drop] at h2;exact h2
    have h2:=(oJ (i+j) _ h1 0 _ rfl).int';have h4:=(List.getElem?_eq_some_iff.1 h1).1;have h3:(⟨c.r q,i*1,none⟩:Addr).add j=⟨c.r q,i+j,none⟩:=(by simp[Addr.add]);rw[h3,World.cell?];simp only[hh];have h5:i+j<vs.size:=(by omega);simp only[Nat.mul_one,Nat.add_zero,Array.getD_eq_getD_getElem?] at h2;rw[Array.getElem?_eq_getElem h5] at h2 ⊢;simp only[Option.getD_some] at h2;simp[h2])
   rw[TW,hl] at this;simp only[Nat.mul_one] at g1 this;simp[execOp,ho,g1,this]
  ·exact hK.elim
 ·rename_i hy
  refine⟨_,hK,Ab.val λc e R lD he=>⟨_,?_,.str _⟩⟩;have g1:=(hy▸he x y hx:VR c _ (e x)).nils';simp[execOp,ho,g1,convert,BF c.w hs,BF c.w hd,BF c.w h8,Conv.bytesToString]
 ·rename_i hy
  refine⟨_,hK,Ab.val λc e R lD he=>⟨_,?_,.str _⟩⟩;obtain⟨a,g1⟩:=(hy▸he x y hx:VR c _ (e x)).emp';have:=run_convert_bytes_back (P:=P) c.w s d e0 a 0 [] hs h8 hd (λj hj=>absurd hj (Nat.not_lt_zero _));simp only[List.length_nil] at this;simp[execOp,ho,g1,this];rfl
 ·exact hK.elim
theorem dW{s d e0:TypeId}{x:Operand}{y:AR}{K:Res->Prop}(ho:o.op = .convert s d x)(hs:P.underlying s=some .string)(h8:P.underlying e0=some (.int .u8))(hd:P.underlying d=some (.slice e0))(hx:AY x=some y)
 (hK:AQ (.ofS y) ev h K):∃r,K r/\Ab P o ev h r:=by
 simp only[AQ] at hK;split at hK
 ·rename_i b hy
  refine⟨_,hK,?_⟩;intro c e R lD he t h' ht hh;obtain⟨wD,hh2⟩:=hh;have g1:=(hy▸he x y hx:VR c _ (e x)).str';obtain⟨cap,ecap⟩:∃cap,cap=grownCap c.w b.size 0 e0:=⟨_,rfl⟩;obtain⟨vs,evs⟩:∃vs,vs=bytesRow b cap:=⟨_,rfl⟩;have lZ:=run_bytes_of_string (P:=P) c.w s d e0 b hs hd h8;rw[<- ecap,<- evs] at lZ;have lh:b.size<=cap:=(by rw[ecap];exact grownCap_ge _ _ _ _);have o7:vs.size=cap:=by rw[evs];unfold bytesRow;simp;show b.size+_=_;omega
  have rU:b.data.toList.length=b.size:=by rw[Array.length_toList];rfl
  have hvj:∀j (hj:j<b.data.toList.length),vs.getD j undef = .int .u8 (b.data.toList[j].toNat:Int):=by
   intro j hj;have hj':j<b.data.size:=(by rw[Array.length_toList] at hj;exact hj);rw[evs];unfold bytesRow;rw[Array.getD_eq_getD_getElem?,Array.getElem?_append_left (by simpa using hj')];simp[Array.getElem?_eq_getElem hj']
  obtain⟨R1,E1⟩:=R.drew (c.w.drawn+1) c.h.length;have R1:Rel { c with w:=c.w.drew }:=R1;have E1:Ext c.h.length c { c with w:=c.w.drew }:=E1
  obtain⟨R2,E2⟩:=Rel.freshX R1 t h' 1 (CR b) (.cells vs e0 (vs.size,vs.size+1)) (λi j=>vs.getD (i*1+j) undef) c.h.length ht wD (λq y hq hy=>hh2 q y hq hy)
   (.inl ⟨Nat.one_pos,λe he=>by unfold CR at he;obtain⟨u,_,rfl⟩:=List.mem_map.1 he;rfl,vs,e0,_,rfl,.inr (Nat.le_refl _),by rw[TU];omega,rfl⟩)
   (λi e hi j u hj=>by
     have mD:=(List.getElem?_eq_some_iff.1 hi).1;have mD:i<b.data.toList.length:=(by unfold CR at mD;rwa [List.length_map] at mD);rw[P9 mD] at hi;cases hi
     match j,hj with
     | 0,hj =>
       simp only[List.getElem?_cons_zero,Option.some.injEq] at hj;subst hj;show VR _ _ (vs.getD (i*1+0) undef);rw[show i*1+0=i by omega,hvj i mD];exact .int _ _
     | j+1,hj=>simp at hj)
  refine⟨.value (.slice (some ⟨c.w.heap.size,0,none⟩) b.size cap),_,_,?_,rfl,R2,E1.trans E2,rfl,?_⟩
  ·show (execOp e o).run P c.w=_
   simp only[execOp,ho,g1];simp[lZ]
  ·have q:=VR.sl (c:={ c with r:=λs=>if s=t then c.w.drew.heap.size else c.r s,h:=h',w:=c.w.drew.alloc (.cells vs e0 (vs.size,vs.size+1)) }) t 1 0 b.size cap ⟨_,wD,by simp⟩ lh ⟨e0,vs.size,by
    unfold World.shape?;simp[World.drew,World.alloc,-World.alloc_eq,-World.drew_eq],by omega⟩
   have e2:(Value.slice (some ⟨c.w.heap.size,0,none⟩) b.size cap)=Value.slice (some ⟨if t=t then c.w.drew.heap.size else c.r t,0*1,none⟩) b.size cap:=(by rw[if_pos rfl];rfl);rw[e2];exact q
 ·exact hK.elim
theorem dX{t e0:TypeId}{parts:Array (Nat×Operand)}{z:Nat}{K:Res->Prop}(ho:o.op = .buildSlice t 0 parts)(hu:P.underlying t=some (.slice e0))(hk:A_ P e0=some z)(hp:parts.size=0)
 (hK:AQ .bemp ev h K):∃r,K r/\Ab P o ev h r:=by
 simp only[AQ] at hK;refine⟨_,hK,?_⟩;intro c e R hs he t' h' ht hh;have hh:h'=c.h:=hh;subst hh;obtain⟨ie,vV,rR⟩:=KI hk;have ze:parts = #[]:=Array.eq_empty_of_size_eq_zero hp;subst ze;obtain⟨R1,E1⟩:=R.alloc (.cells #[] e0) c.h.length;refine⟨.value (.slice (some ⟨c.w.heap.size,0,none⟩) 0 0),.slice (some ⟨c.w.heap.size,0,none⟩) 0 0,_,?_,rfl,R1,E1,rfl,.emp _⟩;show (execOp e o).run P c.w=_;simp[execOp,ho,Instr.buildSlice,BF c.w hu,sizeOf,typeInfo,vV,Instr.fill,newRow];have:Array.map (λx:Nat=>(default:Value)) (Array.range 0) = #[]:=Array.eq_empty_of_size_eq_zero (by simp);rw[this]
end Go.Eng
namespace Go.Eng
open Go Go.RowKit
theorem Jp{α: Type}{a:Array α}{x: α}(h:a.toList=[x]):a = #[x]:=by apply Array.ext';simpa using h
theorem TY{α: Type}{a:Array α}{x y: α}(h:a.toList=[x,y]):a = #[x,y]:=by apply Array.ext';simpa using h
theorem dY{P:Program}{o:Oper}{cl:Call}{ao:AOp}{ev:AR->AV}{h:A7}{K:Res->Prop}(ho:o.op = .call cl)(hc:Jg P cl o.type=some ao)(hK:AQ ao ev h K):∃r,K r/\Ab P o ev h r:=by
 unfold Jg at hc;split at hc
 ·split at hc
  ·simp only[Option.some.injEq] at hc
   subst hc;exact hK.elim
  ·cases hc
 ·cases hc
 ·rename_i b hb
  split at hc
  ·rename_i x t hx ht
   split at hc
   ·rename_i n e hu
    simp only[Option.some.injEq] at hc;subst hc;exact XY ho hb (Jp hx) (Jp ht) hu hK
   ·rename_i e hu
    cases hcx:AY x with
    | none=>simp[hcx] at hc
    | some y =>
      simp only[hcx,Option.map_some,Option.some.injEq] at hc;subst hc;exact XW ho hb (Jp hx) (Jp ht) hu hcx hK
   ·rename_i hu
    cases hcx:AY x with
    | none=>simp[hcx] at hc
    | some y =>
      simp only[hcx,Option.map_some,Option.some.injEq] at hc;subst hc;exact XX ho hb (Jp hx) (Jp ht) hu hcx hK
   ·cases hc
  ·rename_i x xs ts hx
   split at hc
   ·rename_i y ys hy qO
    simp only[Option.some.injEq] at hc;subst hc;exact Qw ho (by simpa using hb) hx hy qO hK
   ·cases hc
  ·rename_i x xs ts hx
   split at hc
   ·rename_i y ys hy qO
    simp only[Option.some.injEq] at hc;subst hc;exact Qw ho (by simpa using hb) hx hy qO hK
   ·cases hc
  ·rename_i x y t u hx ht
   split at hc
   ·rename_i e hu
    split at hc
    ·rename_i htu
     subst htu;split at hc
     ·rename_i i hi
      split at hc
      ·rename_i hcond
       simp only[Bool.and_eq_true,decide_eq_true_eq] at hcond;obtain⟨⟨h1,h2⟩,h3⟩:=hcond;split at hc
       ·rename_i a b ha hb'
        simp only[Option.some.injEq] at hc;subst hc
        cases hz:i.zero with
        | none=>simp[hz] at h1
        | some zv =>
          simp only[hz,Option.map_some,Option.some.injEq] at h3;exact Xc ho hb (TY hx) (TY ht) hu hi hz h3 h2 ha hb' hK
       ·cases hc
      ·cases hc
     ·cases hc
    ·cases hc
   ·cases hc
  ·cases hc
theorem sound{P:Program}{o:Oper}{ao:AOp}{ev:AR->AV}{h:A7}{K:Res->Prop}(hc:Cw P o.op o.type=some ao)(hK:AQ ao ev h K):∃r,K r/\Ab P o ev h r:=by
 cases hop:o.op<;>simp only[Cw,hop,reduceCtorEq] at hc
 case move x =>
  cases hx:AY x with
  | none=>simp[hx] at hc
  | some y=>simp only[hx,Option.map_some,Option.some.injEq] at hc;subst hc;exact⟨_,hK,TZ (.inl hop) hx⟩
 case assign x =>
  cases hx:AY x with
  | none=>simp[hx] at hc
  | some y=>simp only[hx,Option.map_some,Option.some.injEq] at hc;subst hc;exact⟨_,hK,TZ (.inr hop) hx⟩
 case pick c a b =>
  split at hc
  ·rename_i c' a' b' h1 h2 h3
   simp only[Option.some.injEq] at hc;subst hc;simp only[AQ] at hK;split at hK
   ·rename_i t ht
    exact⟨_,hK,dZ hop h1 h2 h3 ht⟩
   ·exact hK.elim
  ·cases hc
 case alloc e =>
  split at hc
  ·rename_i zs k hz hk
   split at hc
   ·rename_i hcond
    simp only[Option.some.injEq] at hc;subst hc;exact⟨_,hK,XI hop hz hcond.1 hcond.2.1⟩
   ·cases hc
  ·cases hc
 case box e x =>
  split at hc
  ·rename_i y k hx hk
   split at hc
   ·rename_i h0
    simp only[Option.some.injEq] at hc;subst hc;exact XK hop hx h0 hK
   ·cases hc
  ·cases hc
 case build t parts =>
  split at hc
  ·rename_i fs zs hu hz
   split at hc
   ·rename_i pl oQ
    cases hf:Dp (pl.toArray[·]?) parts.toList with
    | none=>rw[hf] at hc;cases hc
    | some ps=>rw[hf] at hc;simp only[Option.map_some,Option.some.injEq] at hc;subst hc;exact Ta hop hz (.inl ⟨fs,pl,hu,oQ,hf⟩) hK
   ·cases hc
  ·rename_i n e zs hu hz
   split at hc
   ·rename_i k hk
    cases hf:Dp (λi=>some (i*k,k)) parts.toList with
    | none=>simp[hf] at hc
    | some ps=>simp only[hf,Option.map_some,Option.some.injEq] at hc;subst hc;exact Ta hop hz (.inr ⟨n,e,k,hu,hk,hf⟩) hK
   ·cases hc
  ·cases hc
 case buildSlice t n parts =>
  split at hc
  ·rename_i e hu
   split at hc
   ·rename_i zs k hz hk
    split at hc
    ·rename_i hcond
     obtain⟨rfl,xH,hp⟩:=hcond;simp only[Option.some.injEq] at hc;subst hc;exact dX hop hu hk hp hK
    split at hc
    ·rename_i hcond
     cases hf:Dp (λi=>some (i*k,k)) parts.toList with
     | none=>simp[hf] at hc
     | some ps=>simp only[hf,Option.map_some,Option.some.injEq] at hc;subst hc;exact XO hop hu hz hk hcond.1 hcond.2.1 hcond.2.2.1 hcond.2.2.2 hf hK
    ·cases hc
   ·cases hc
  ·cases hc
 case load t a =>
  split at hc
  ·rename_i g k y hg hk hy
   split at hc
   ·rename_i oC
    simp only[Option.some.injEq] at hc;subst hc;exact XP hop hy hg hk oC.1 oC.2 hK
   ·cases hc
  ·cases hc
 case store t a x =>
  split at hc
  ·rename_i k a' x' hk ha hx
   split at hc
   ·rename_i oH
    simp only[Option.some.injEq] at hc;subst hc;exact XQ hop ha hx hk oH hK
   ·cases hc
  ·cases hc
 case nilCheck x =>
  cases hx:AY x with
  | none=>simp[hx] at hc
  | some y=>simp only[hx,Option.map_some,Option.some.injEq] at hc;subst hc;exact df hop hx hK
 case binOp op t x y u =>
  split at hc
  ·rename_i x' y' hx hy
   split at hc
   ·simp only[Option.some.injEq] at hc;subst hc;exact Tc hop hx hy hK
   ·simp only[Option.some.injEq] at hc;subst hc;exact Tc hop hx hy hK
   ·rename_i hu
    split at hc
    ·simp only[Option.some.injEq] at hc;subst hc;exact Td false rfl hop hu hx hy hK
    ·simp only[Option.some.injEq] at hc;subst hc;exact Td true rfl hop hu hx hy hK
    ·cases hc
   ·rename_i fs hu
    split at hc
    ·rename_i n os hn hl
     simp only[Option.some.injEq] at hc;subst hc;exact Lf false rfl hop (by unfold Az;rw[hu]) hn hl hx hy hK
    ·rename_i n os hn hl
     simp only[Option.some.injEq] at hc;subst hc;exact Lf true rfl hop (by unfold Az;rw[hu]) hn hl hx hy hK
    ·cases hc
   ·rename_i k e hu
    split at hc
    ·rename_i n os hn hl
     simp only[Option.some.injEq] at hc;subst hc;exact Lf false rfl hop (by unfold Az;rw[hu]) hn hl hx hy hK
    ·rename_i n os hn hl
     simp only[Option.some.injEq] at hc;subst hc;exact Lf true rfl hop (by unfold Az;rw[hu]) hn hl hx hy hK
    ·cases hc
   ·cases hc
  ·cases hc
 case unOp op t x =>
  cases hx:AY x with
  | none=>simp[hx] at hc
  | some y=>simp only[hx,Option.map_some,Option.some.injEq] at hc;subst hc;exact dm hop hx hK
 case convert s d x =>
  split at hc
  ·rename_i k0 k hs hd
   cases hx:AY x with
   | none=>simp[hx] at hc
   | some y=>simp only[hx,Option.map_some,Option.some.injEq] at hc;subst hc;exact dx hop hs hd hx hK
  ·rename_i hs hd
   cases hx:AY x with
   | none=>simp[hx] at hc
   | some y=>simp only[hx,Option.map_some,Option.some.injEq] at hc;subst hc;exact dz hop hs hd hx hK
  ·rename_i e0 hs hd
   split at hc
   ·rename_i h8
    cases hx:AY x with
    | none=>simp[hx] at hc
    | some y=>simp only[hx,Option.map_some,Option.some.injEq] at hc;subst hc;exact dV hop hs h8 hd hx hK
   ·cases hc
  ·rename_i e0 hs hd
   split at hc
   ·rename_i h8
    cases hx:AY x with
    | none=>simp[hx] at hc
    | some y=>simp only[hx,Option.map_some,Option.some.injEq] at hc;subst hc;exact dW hop hs h8 hd hx hK
   ·cases hc
  ·split at hc
   ·cases hx:AY x with
    | none=>simp[hx] at hc
    | some y=>simp only[hx,Option.map_some,Option.some.injEq] at hc;subst hc;exact hK.elim
   ·cases hc
  ·cases hc
 case makeFunc fn first caps =>
  split at hc
  ·rename_i a b ha hb
   simp only[Option.some.injEq] at hc;subst hc;exact⟨_,hK,d_ hop ha hb⟩
  ·cases hc
 case makeSlice t l c =>
  split at hc
  ·rename_i e hu
   split at hc
   ·rename_i i zs l' c' hi hz hl hc'
    split at hc
    ·rename_i hcond
     simp only[Option.some.injEq] at hc;subst hc;exact Xb hop hu hi hz hcond.1 hcond.2 hl hc' hK
    ·cases hc
   ·cases hc
  ·cases hc
 case slice t x lo hi mx =>
  cases mx with
  | some m=>simp at hc
  | none =>
    simp only at hc;split at hc
    ·rename_i e hu
     split at hc
     ·rename_i k y lo' hi' hk hy lg m_
      simp only[Option.some.injEq] at hc;subst hc;exact XZ hop hu hk hy lg m_ hK
     ·cases hc
    ·rename_i hu
     split at hc
     ·rename_i y lo' hi' hy lg m_
      simp only[Option.some.injEq] at hc;subst hc;exact dU hop hu hy lg m_ hK
     ·cases hc
    ·cases hc
 case fieldAddr s x f =>
  split at hc
  ·rename_i off k g y hf hy
   split at hc
   ·rename_i h0
    simp only[Option.some.injEq] at hc;subst hc;exact eG hop hf hy h0 hK
   ·cases hc
  ·cases hc
 case field s x f =>
  split at hc
  ·rename_i off k g y hf hy
   split at hc
   ·rename_i h0
    simp only[Option.some.injEq] at hc;subst hc;exact eH hop hf hy h0 hK
   ·cases hc
  ·cases hc
 case indexAddr t x i =>
  split at hc
  ·rename_i n e y q hu hy hq
   cases hk:A_ P e with
   | none=>simp[hk] at hc
   | some k=>simp only[hk,Option.map_some,Option.some.injEq] at hc;subst hc;exact XR hop hu hk hy hq hK
  ·rename_i e y q hu hy hq
   split at hc
   ·rename_i k hk
    split at hc
    ·simp only[Option.some.injEq] at hc;subst hc;exact XT hop hu hk hy hq hK
    ·cases hc
   ·cases hc
  ·cases hc
 case index t x i =>
  split at hc
  ·rename_i n e y q hu hy hq
   split at hc
   ·rename_i k g hk hg
    split at hc
    ·rename_i oC
     simp only[Option.some.injEq] at hc;subst hc;exact XU hop hu hk hg oC hy hq hK
    ·cases hc
   ·cases hc
  ·rename_i y q hu hy hq
   simp only[Option.some.injEq] at hc;subst hc;exact XV hop hu hy hq hK
  ·cases hc
 case extract x i =>
  cases hx:AY x with
  | none=>simp[hx] at hc
  | some y=>simp only[hx,Option.map_some,Option.some.injEq] at hc;subst hc;exact eP hop hx hK
 case call cl =>
  split at hc
  ·simp only[Option.some.injEq] at hc;subst hc;exact hK.elim
  ·split at hc
   ·simp only[Option.some.injEq] at hc;subst hc;exact hK.elim
   ·exact dY hop hc hK
 case makeMap t r =>
  cases r with
  | some r=>simp at hc
  | none =>
    simp only[Option.some.injEq] at hc;subst hc;exact W_ hop hK
 case lookup t x k ok =>
  split at hc
  ·rename_i kt et x' k' hu hx hk
   split at hc
   ·rename_i g n os z sD hz
    simp only[Option.some.injEq] at hc;subst hc;exact Wx hop hu sD hz hx hk hK
   ·cases hc
  ·cases hc
 case mapUpdate t x k v =>
  split at hc
  ·rename_i kt et x' k' v' hu hx hk hv
   split at hc
   ·rename_i g n os sD
    simp only[Option.some.injEq] at hc;subst hc;exact X5 hop hu sD hx hk hv hK
   ·cases hc
  ·cases hc
 case range t x =>
  cases hx:AY x with
  | none=>simp[hx] at hc
  | some y=>simp only[hx,Option.map_some,Option.some.injEq] at hc;subst hc;exact hK.elim
 case next x s =>
  cases hx:AY x with
  | none=>simp[hx] at hc
  | some y=>simp only[hx,Option.map_some,Option.some.injEq] at hc;subst hc;exact hK.elim
 case entry x =>
  cases hx:AY x with
  | none=>simp[hx] at hc
  | some y=>simp only[hx,Option.map_some,Option.some.injEq] at hc;subst hc;exact hK.elim
abbrev AA:=List AV
abbrev Aq:=Exit->AA->A7->Prop
def evA(a:AA):AR->AV
 | .tmp t=>a.getD t .any
 | .const v=>v
 | .func f=>.func (.func f) [] []
def Aj(a:AA)(d:Option Nat)(v:AV):AA:=
 match d with
 | some d=>a.set d v
 | none=>a
def Dw(K:AA->A7->Prop)(Q:Aq):Aq
 | .normal,a,h=>K a h
 | e,a,h=>Q e a h
def GD(id:Nat)(Q:Aq):Aq
 | .exit i,a,h=>if i=id then Q .normal a h else Q (.exit i) a h
 | e,a,h=>Q e a h
structure St(C:Cfg)(a:AA)(act:Act):Prop where
 rel:Rel C
 vrs:VRs C a act.tmps
 nodef:act.defers=[]
theorem VRs.get{C:Cfg}{a:AA}{v:Array Value}(h:VRs C a v)(t:Nat):VR C (a.getD t .any) (v.getD t undef):=by
 cases ht:a[t]? with
 | none=>rw[List.getD_eq_getElem?_getD,ht];exact .any _
 | some x=>rw[List.getD_eq_getElem?_getD,ht];exact h.2 t x ht
theorem PD:∀ {l:List (Nat×List AV)} {g:Nat} {cs:List AV},MS l g=some cs->(g,cs)∈l
 | [],g,cs,h=>by cases h
 | (k,ds)::l,g,cs,h=>by
   simp only[MS] at h;split at h
   ·rename_i hk
    have:=Nat.eq_of_beq_eq_true hk;subst this;cases h
    exact List.mem_cons_self
   ·exact List.mem_cons_of_mem _ (PD h)
theorem St.ev{C:Cfg}{a:AA}{act:Act}(h:St C a act):EC C (evA a) act.eval:=by
 intro x y kz
 cases x with
 | tmp t=>simp only[AY,Option.some.injEq] at kz;subst kz;exact h.vrs.get t
 | const v=>simp only[AY,Option.some.injEq] at kz;subst kz;exact NU C v
 | func f=>simp only[AY,Option.some.injEq] at kz;subst kz;exact .func _ [] [] #[] #[] rfl rfl (λi x hx=>by simp at hx) (λi x hx=>by simp at hx)
 | global g =>
   simp only[AY] at kz;split at kz
   ·rename_i cs hg
    simp only[Option.some.injEq] at kz;subst kz;exact h.rel.glo (g,cs) (PD hg)
   ·cases kz
theorem VRs.put{C:Cfg}{a:AA}{v:Array Value}(h:VRs C a v)(d:Nat){x:AV}{u:Value}(hx:VR C x u):VRs C (a.set d x) (v.setIfInBounds d u):=by
 refine⟨by simp[h.1],λi y hy=>?_⟩;by_cases hid:d=i
 ·subst hid
  have kS:d<a.length:=by
   have:=(List.getElem?_eq_some_iff.1 hy).1;simpa using this
  rw[List.getElem?_set_self kS] at hy;cases hy
  have:d<v.size:=(by rw[h.1];exact kS);simpa[Array.getD_eq_getD_getElem?,this] using hx
 ·rw[List.getElem?_set_ne hid] at hy
  have:=h.2 i y hy;rw[Array.getD_eq_getD_getElem?] at this ⊢
  rwa [Array.getElem?_setIfInBounds_ne hid]
theorem St.put{C:Cfg}{a:AA}{act:Act}(h:St C a act)(d:Option Nat){x:AV}{u:Value}(hx:VR C x u):St C (Aj a d x) (act.put d u):=by
 cases d with
 | none=>exact h
 | some d=>exact⟨h.rel,h.vrs.put d hx,h.nodef⟩
theorem St.ext{C D:Cfg}{a:AA}{act:Act}(h:St C a act)(R:Rel D)(E:Ext C.h.length C D):St D a act:=⟨R,E.vrs h.vrs,h.nodef⟩
theorem NC(C:Cfg):VR C .undef undef:=.tuple [] #[] rfl (λi x hx=>by simp at hx)
def Dv(n:Nat)(C:Cfg)(Q:Aq):Exit->Act->World->Prop:=λe act w=>∃a D,Q e a D.h/\D.w=w/\St D a act/\Ext n C D/\n<=D.h.length
def AWp(P:Program)(n:Nat)(c:Code)(Q:Aq)(a:AA)(h:A7):Prop:=
 ∀(C:Cfg) (act:Act),C.h=h->St C a act->n<=h.length->c.wp P (Dv n C Q) act C.w
section
variable {P:Program} {n:Nat} {Q:Aq} {a:AA} {h:A7}
theorem Dv.trans{C D:Cfg}{e:Exit}{act:Act}{w:World}(E:Ext n C D)(H:Dv n D Q e act w):Dv n C Q e act w:=by
 obtain⟨a,D',h1,h2,h3,h4,h5⟩:=H;exact⟨a,D',h1,h2,h3,E.trans h4,h5⟩
theorem AWp.skip(H:Q .normal a h):AWp P n .skip Q a h:=λC act hC S hn=>wp_skip ⟨a,C,hC▸H,rfl,S,Ext.refl _ _,hC▸hn⟩
theorem AWp.ret(H:Q .ret a h):AWp P n .ret Q a h:=λC act hC S hn=>wp_ret ⟨a,C,hC▸H,rfl,S,Ext.refl _ _,hC▸hn⟩
theorem AWp.exit{id:Nat}(H:Q (.exit id) a h):AWp P n (.exit id) Q a h:=λC act hC S hn=>wp_exit ⟨a,C,hC▸H,rfl,S,Ext.refl _ _,hC▸hn⟩
theorem AWp.seq{x y:Code}(H:AWp P n x (Dw (AWp P n y Q) Q) a h):AWp P n (.seq x y) Q a h:=by
 intro C act hC S hn;refine wp_seq (wp_mono (H C act hC S hn) λe act' w' hp=>?_);obtain⟨a',D,h1,h2,h3,h4,h5⟩:=hp
 cases e with
 | normal =>
   subst h2;exact wp_mono (h1 D act' rfl h3 h5) λe act'' w'' hq=>hq.trans h4
 | _=>exact⟨a',D,h1,h2,h3,h4,h5⟩
theorem AWp.cond{c:Operand}{x:AR}{t:Bool}{p q:Code}(hc:AY c=some x)(hx:evA a x = .bool t)(H1:t=true->AWp P n p Q a h)(H2:t=false->AWp P n q Q a h):AWp P n (.cond c p q) Q a h:=by
 intro C act hC S hn;have:=(hx▸S.ev c x hc:VR C (.bool t) (act.eval c)).bool';exact wp_cond_split this (λe=>H1 e C act hC S hn) (λe=>H2 e C act hC S hn)
theorem AWp.block{id:Nat}{c:Code}(H:AWp P n c (GD id Q) a h):AWp P n (.block id c) Q a h:=by
 intro C act hC S hn;refine wp_block (wp_mono (H C act hC S hn) λe act' w' hp=>?_);obtain⟨a',D,h1,h2,h3,h4,h5⟩:=hp
 cases e with
 | exit i =>
   simp only[Exit.inBlock,GD] at h1 ⊢;split at h1
   ·rename_i hi;rw[if_pos hi];exact⟨a',D,h1,h2,h3,h4,h5⟩
   ·rename_i hi;rw[if_neg hi];exact⟨a',D,h1,h2,h3,h4,h5⟩
 | _=>exact⟨a',D,h1,h2,h3,h4,h5⟩
theorem AWp.mono{c:Code}{Q':Aq}(H:AWp P n c Q a h)(hq:∀e a h,Q e a h->Q' e a h):AWp P n c Q' a h:=
 λC act hC S hn=>wp_mono (H C act hC S hn) λe act' w' ⟨a',D,h1,h2,h3,h4,h5⟩=>⟨a',D,hq _ _ _ h1,h2,h3,h4,h5⟩
def Wk(n:Nat)(a:AA)(h:A7)(a':AA)(h':A7):Prop:=
 ∀(C:Cfg) (act:Act),C.h=h->St C a act->n<=h.length->∃D,D.h=h'/\D.w=C.w/\St D a' act/\Ext n C D/\n<=h'.length
theorem Wk.refl(n:Nat)(a:AA)(h:A7):Wk n a h a h:=λC act hC S hn=>⟨C,hC,rfl,S,Ext.refl _ _,hn⟩
theorem AWp.pre{c:Code}{a':AA}{h':A7}(W:Wk n a h a' h')(H:AWp P n c Q a' h'):AWp P n c Q a h:=by
 intro C act hC S hn;obtain⟨D,h1,h2,h3,h4,h5⟩:=W C act hC S hn;have:=H D act h1 h3 h5;rw[h2] at this;exact wp_mono this λe act'' w'' hq=>hq.trans h4
theorem AWp.post{c:Code}{Q':Aq}(H:AWp P n c Q a h)(hq:∀e a h,Q e a h->∃a' h',Wk n a h a' h'/\Q' e a' h'):AWp P n c Q' a h:=by
 intro C act hC S hn;refine wp_mono (H C act hC S hn) λe act' w' ⟨a',D,h1,h2,h3,h4,h5⟩=>?_;obtain⟨a2,rV,W,hQ⟩:=hq _ _ _ h1;obtain⟨D2,k1,k2,k3,k4,k5⟩:=W D act' rfl h3 h5;exact⟨a2,D2,k1▸hQ,k2.trans h2,k3,h4.trans k4,k1▸k5⟩
theorem MU{p:Nat->Prop}(h:∃k,p k):∃k,p k/\∀j,p j->k<=j:=by
 obtain⟨k,hk⟩:=h
 induction k using Nat.strongRecOn with
 | _ k ih =>
   by_cases hj:∃j,j<k/\p j
   ·obtain⟨j,hjk,hp⟩:=hj;exact ih j hjk hp
   ·exact⟨k,hk,λj hp=>Nat.le_of_not_lt λhjk=>hj ⟨j,hjk,hp⟩⟩
theorem AWp.loop{c:Code}(I:AA->A7->Prop)(m:AA->A7->Nat)(h0:I a h)(round:∀a h,I a h->AWp P n c (Dw (λa' h'=>I a' h'/\m a' h'<m a h) Q) a h):AWp P n (.loop c) Q a h:=by
 intro C act hC S hn
 let J (act:Act) (w:World) (k:Nat):Prop:=∃a D,I a D.h/\D.w=w/\St D a act/\Ext n C D/\n<=D.h.length/\m a D.h=k
 have hex:∃k,J act C.w k:=⟨m a C.h,a,C,hC▸h0,rfl,S,Ext.refl _ _,hC▸hn,rfl⟩
 classical
 let M (act:Act) (w:World):Nat:=if hh:∃k,J act w k then Classical.choose (MU hh) else 0
 refine wp_loop (λact w=>∃k,J act w k) M hex λact1 w1 h1=>?_;have hM:J act1 w1 (M act1 w1):=by simp only[M];rw[dif_pos h1];exact(Classical.choose_spec (MU h1)).1
 obtain⟨a1,D1,i1,i2,i3,i4,i5,i6⟩:=hM;have:=round a1 D1.h i1 D1 act1 rfl i3 i5;rw[i2] at this;refine wp_mono this λe act' w' hp=>?_;obtain⟨a',D,k1,k2,k3,k4,k5⟩:=hp
 cases e with
 | normal =>
   obtain⟨k1a,k1b⟩:=k1;have hJ:J act' w' (m a' D.h):=⟨a',D,k1a,k2,k3,i4.trans k4,k5,rfl⟩;refine⟨⟨_,hJ⟩,?_⟩
   have nR:M act' w'<=m a' D.h:=by
    simp only[M];rw[dif_pos ⟨_,hJ⟩];exact(Classical.choose_spec (MU ⟨_,hJ⟩)).2 _ hJ
   omega
 | _=>exact⟨a',D,k1,k2,k3,i4.trans k4,k5⟩
end
def MV (P : Program) (g : FuncId) : Prop := ∃ fn, P.funcs[g]? = some fn ∧ fn.body.isNone = false ∧ (fn.name == "runtime.NumGoroutine") = false
def A9(P:Program)(g:FuncId)(args:List AV)(R:AV->Prop):Prop:=
 MV P g/\∀(C:Cfg) (vs:Array Value),C.h=[]->Rel C->VRs C args vs->Calls P g vs C.w λe w'=>∃v r D,e = .returned v/\R r/\D.h=[]/\D.w=w'/\Rel D/\VR D r v/\Ext 0 C D
def AJ(P:Program)(g:FuncId)(args:List AV)(h:A7)(K:AV->A7->Prop):Prop:=
 MV P g/\∀(C:Cfg) (vs:Array Value),C.h=h->Rel C->VRs C args vs->Calls P g vs C.w λe w'=>∃v r D,e = .returned v/\K r D.h/\D.w=w'/\Rel D/\VR D r v/\Ext h.length C D/\h.length<=D.h.length
def AX(P:Program)(op:Op)(ty:TypeId)(xs:List AV)(h:A7)(K:AV->A7->Prop):Prop:=
 ∀(C:Cfg) (e:Operand->Value) (o:Oper),o.op=op->o.type=ty->C.h=h->Rel C->VRs C xs (op.operands.map e)->∃nx cv r D,(execOp e o).run P C.w = .ok nx D.w/\H8 nx=some cv/\K r D.h/\Rel D/\VR D r cv/\Ext h.length C D/\h.length<=D.h.length
theorem eT{P:Program}{op op':Op}{ty ty':TypeId}{xs:List AR}(hc:Cw P op ty=some (.xop op' ty' xs)):op'=op/\ty'=ty/\Br op.operands.toList=some xs:=by
 cases op<;>simp only[Cw] at hc
 case range t x =>
  cases hx:AY x with
  | none=>simp[hx] at hc
  | some y =>
    simp only[hx,Option.map_some,Option.some.injEq,AOp.xop.injEq] at hc;obtain⟨rfl,rfl,rfl⟩:=hc;exact⟨rfl,rfl,by simp[Op.operands,Br,hx]⟩
 case next x s =>
  cases hx:AY x with
  | none=>simp[hx] at hc
  | some y =>
    simp only[hx,Option.map_some,Option.some.injEq,AOp.xop.injEq] at hc;obtain⟨rfl,rfl,rfl⟩:=hc;exact⟨rfl,rfl,by simp[Op.operands,Br,hx]⟩
 case convert s d x =>
  split at hc
  ·cases hx:AY x<;>simp[hx] at hc
  ·cases hx:AY x<;>simp[hx] at hc
  ·split at hc<;>(try (cases hx:AY x<;>simp[hx] at hc))<;>(try cases hc)
  ·split at hc<;>(try (cases hx:AY x<;>simp[hx] at hc))<;>(try cases hc)
  ·split at hc
   ·cases hx:AY x with
    | none=>simp[hx] at hc
    | some y =>
      simp only[hx,Option.map_some,Option.some.injEq,AOp.xop.injEq] at hc;obtain⟨rfl,rfl,rfl⟩:=hc;exact⟨rfl,rfl,by simp[Op.operands,Br,hx]⟩
   ·cases hc
  ·cases hc
 case entry x =>
  cases hx:AY x with
  | none=>simp[hx] at hc
  | some y =>
    simp only[hx,Option.map_some,Option.some.injEq,AOp.xop.injEq] at hc;obtain⟨rfl,rfl,rfl⟩:=hc;exact⟨rfl,rfl,by simp[Op.operands,Br,hx]⟩
 case call cl =>
  split at hc
  ·rename_i y hy
   simp only[Option.some.injEq,AOp.xop.injEq] at hc;obtain⟨rfl,rfl,rfl⟩:=hc;refine⟨rfl,rfl,?_⟩;unfold Te at hy;split at hy
   ·rename_i x t hb hx ht
    split at hy
    ·have ha:(Op.call cl).operands.toList=[x]:=by simp[Op.operands,Call.operands,hb,hx]
     rw[ha];simp[Br,hy]
    ·cases hy
   ·cases hy
  ·split at hc
   ·rename_i ys hy
    simp only[Option.some.injEq,AOp.xop.injEq] at hc;obtain⟨rfl,rfl,rfl⟩:=hc;refine⟨rfl,rfl,?_⟩;unfold Tf at hy;split at hy
    ·rename_i x y hb hx
     have ha:(Op.call cl).operands.toList=[x,y]:=(by simp[Op.operands,Call.operands,hb,hx]);rw[ha];exact hy
    ·cases hy
   ·exfalso
    unfold Jg at hc;repeat' (split at hc)
    all_goals first
     | (simp_all;done)
     | (cases hc;done)
 all_goals (exfalso;repeat' (split at hc))
 all_goals first
  | (simp_all;done)
  | (cases hc;done)
def Cfg.shut(C:Cfg):Cfg:={ O:=C.own,r:=C.r,h:=[],w:=C.w }
theorem Tg(C:Cfg)(b:Nat):C.shut.own b↔C.own b:=by
 constructor
 ·rintro(h|⟨s,⟨z,es,hs⟩,_⟩)
  ·exact h
  ·simp[Cfg.shut] at hs
 ·exact λh=>.inl h
theorem VR.recfg{C D:Cfg}(hw:D.w=C.w)(ho:∀b,D.own b->C.own b){x:AV}{v:Value}(h:VR C x v):x.upto 0=true->VR D x v:=by
 induction h with
 | any v=>exact λ_=>.any v
 | bool b=>exact λ_=>.bool b
 | int k n=>exact λ_=>.int k n
 | str s=>exact λ_=>.str s
 | nilp=>exact λ_=>.nilp
 | nils=>exact λ_=>.nils
 | emp a=>exact λ_=>.emp a
 | nilFunc=>exact λ_=>.nilFunc
 | nilIface=>exact λ_=>.nilIface
 | agg cs vs hl h ih=>exact λhb=>.agg cs vs hl λi x hi=>ih i x hi (BK hb hi)
 | tuple cs vs hl h ih=>exact λhb=>.tuple cs vs hl λi x hi=>ih i x hi (BK hb hi)
 | list z es a m cap f hn hc ha hz aS aT hv ih =>
   intro hb;exact .list z es a m cap f hn hc ha hz (λi j hi hj=>by rw[hw];exact aS i j hi hj) (λh1 h2 h3=>aT h1 h2 (ho _ h3)) λi e he j x hx=>ih i e he j x hx (BK (Di hb he) hx)
 | listNil z a cap=>exact λ_=>.listNil z a cap
 | sl s z i m cap hs hc hsz=>intro hb;simp[AV.upto] at hb
 | ref s z i o hs=>intro hb;simp[AV.upto] at hb
 | mapr s hs=>intro hb;simp[AV.upto] at hb
 | cref cs a f ha aS aT hv ih =>
   intro hb;exact .cref cs a f ha (λj hj=>by rw[hw];exact aS j hj) (λh1 h3=>aT h1 (ho _ h3)) λj x hx=>ih j x hx (BK hb hx)
 | func fn first caps vf vc hf hc h1 h2 uu uq =>
   intro hb;simp only[AV.upto,Bool.and_eq_true] at hb;exact .func fn first caps vf vc hf hc (λi x hi=>uu i x hi (BK hb.1 hi)) λi x hi=>uq i x hi (BK hb.2 hi)
 | iface t x v h ih=>exact λhb=>.iface t x v (ih hb)
theorem Rel.shut{C:Cfg}(R:Rel C):Rel C.shut:=by
 refine⟨λs z es h=>by simp[Cfg.shut] at h,λs t ⟨z,es,h⟩=>by simp[Cfg.shut] at h,λb hb=>?_,λp hp=>?_,R.gsz⟩
 rotate_left 1
 ·exact(R.glo p hp).recfg (C:=C) (D:=C.shut) rfl (λb hb=>(Tg C b).1 hb) (FC hp 0)
 rcases hb with hb|hb
 ·exact R.olt b hb
 ·exact R.lown_lt hb
theorem VRs.recfg{C D:Cfg}(hw:D.w=C.w)(ho:∀b,D.own b->C.own b){l:List AV}{vs:Array Value}(h:VRs C l vs)(hl:Af 0 l=true):VRs D l vs:=
 ⟨h.1,λi x hx=>(h.2 i x hx).recfg hw ho (BK hl hx)⟩
theorem Rel.back{C D:Cfg}(R:Rel C)(hD:D.h=[])(E:Ext 0 C.shut D):Rel { C with w:=D.w }/\Ext C.h.length C { C with w:=D.w }/\∀b,Cfg.own { C with w:=D.w } b↔D.own b:=by
 have ku:∀b,¬C.shut.lown b:=by
  rintro b ⟨s,⟨z,es,hs⟩,_⟩;simp[Cfg.shut] at hs
 have he:∀n,Ext n C { C with w:=D.w }:=λn=>⟨rfl,E.os,E.tape,E.output,E.size,λs _ h=>⟨h,rfl⟩,λb hb hl=>⟨(E.keep b hb (ku b)).1,hl⟩,E.shape⟩;refine⟨R.of_ext (he _) (λs z es hl=>.inl ⟨hl,rfl,(E.keep _ (R.lown_lt ⟨s,⟨z,es,hl⟩,rfl⟩) (ku _)).1⟩) R.inj,he _,λb=>?_⟩;have hDo:D.O=C.own:=E.O;constructor
 ·intro h
  exact .inl (by rw[hDo];exact h)
 ·rintro(h|⟨s,⟨z,es,hs⟩,_⟩)
  ·rw[hDo] at h;exact h
  ·rw[hD] at hs;simp at hs
theorem AJ.of_pure{P:Program}{g:FuncId}{args:List AV}{R:AV->Prop}{h:A7}{K:AV->A7->Prop}(H:A9 P g args R)(ha:Af 0 args=true)(hK:∀r,R r->K r h):AJ P g args h K:=by
 refine⟨H.1,λC vs hC RC hv=>?_⟩;refine(H.2 C.shut vs rfl RC.shut (hv.recfg (C:=C) (D:=C.shut) rfl (λb hb=>(Tg C b).1 hb) ha)).mono λe w' ⟨v,r,D,h1,h2,h3,h4,h5,h6,h7⟩=>?_;obtain⟨R1,E1,O1⟩:=RC.back h3 h7;subst h4;have nJ:r.upto 0=true:=by have:=h6.upto;rwa [h3] at this
 subst hC;exact⟨v,r,{ C with w:=D.w },h1,hK r h2,rfl,R1,h6.recfg (C:=D) (D:={ C with w:=D.w }) rfl (λb hb=>(O1 b).1 hb) nJ,E1,Nat.le_refl _⟩
theorem A9.mono{P:Program}{g:FuncId}{args:List AV}{R R':AV->Prop}(H:A9 P g args R)(hr:∀r,R r->R' r):A9 P g args R':=
 ⟨H.1,λC vs hC RC hv=>(H.2 C vs hC RC hv).mono λe w' ⟨v,r,D,h1,h2,h3⟩=>⟨v,r,D,h1,hr r h2,h3⟩⟩
def fin(K:AA->A7->Prop)(a:AA)(dst:Option Nat)(h:A7):Res->Prop:=λr=>K (Aj a dst (r.at h.length)) (r.push h)
def Cn(K:AA->A7->Prop)(a:AA)(dst:Option Nat):AV->A7->Prop:=λr h=>K (Aj a dst r) h
def EO(P:Program)(o:Ad)(K:AA->A7->Prop)(a:AA)(h:A7):Prop:=
 match o.op with
 | .call f xs=>(match evA a f with | .func (.func g) first caps=>AJ P g (first++evs (evA a) xs++caps) h (Cn K a o.dst)|_=>False)
 | .xop op ty xs=>AX P op ty (evs (evA a) xs) h (Cn K a o.dst)
 | op=>AQ op (evA a) h (fin K a o.dst h)
def Ck(P:Program)(K:AA->A7->Prop):List Ad->AA->A7->Prop
 | [],a,h=>K a h
 | o::rest,a,h =>
   match o.guard with
   | none=>EO P o (Ck P K rest) a h
   | some (t,want) =>
     match a.getD t .any with
     | .bool b=>(b=want->EO P o (Ck P K rest) (a.set t (.bool want)) h)/\(b = !want->Ck P K rest (Aj (a.set t (.bool (!want))) o.dst .undef) h)
     | .tuple []=>Ck P K rest (Aj a o.dst .undef) h
     | _=>False
def PE(P:Program)(ops:List Oper)(o:Oper):Option Ad:=
 match Cw P o.op o.type with
 | some ao =>
   match o.guard with
   | none=>some ⟨o.dst,ao,none⟩
   | some (j,want) =>
     match (ops[j]?).bind (·.dst) with
     | some t=>some ⟨o.dst,ao,some (t,want)⟩
     | none=>none
 | none=>none
def Aw(P:Program)(ops:List Oper):List Oper->Option (List Ad)
 | []=>some []
 | o::l =>
   match PE P ops o,Aw P ops l with
   | some x,some y=>some (x::y)
   | _,_=>none
theorem VRs.app{C:Cfg}{l m:List AV}{u v:Array Value}(h:VRs C l u)(k:VRs C m v):VRs C (l++m) (u++v):=by
 refine⟨by simp[h.1,k.1],λi x hx=>?_⟩;rw[Array.getD_eq_getD_getElem?];by_cases hi:i<l.length
 ·rw[List.getElem?_append_left hi] at hx
  have:=h.2 i x hx;rw[Array.getD_eq_getD_getElem?] at this
  rwa [Array.getElem?_append_left (by rw[h.1];exact hi)]
 ·rw[List.getElem?_append_right (by omega)] at hx
  have:=k.2 _ x hx;rw[Array.getD_eq_getD_getElem?] at this
  rwa [Array.getElem?_append_right (by rw[h.1];omega),h.1]
theorem Ti{P:Program}{g:FuncId}(h:MV P g)(vs:Array Value)(w:World):(callFunc g vs).run P w = .ok (.enter g vs) w:=by
 obtain⟨fn,h1,h2,h3⟩:=h;unfold callFunc;simp only[Sem.run_bind,run_program,Result.andThen_ok,h1,h2,h3,Bool.false_eq_true,if_false,Sem.run_pure]
section
variable {P:Program} {Q:Exit->Act->World->Prop} {ops:Array Oper} {n:Nat}
theorem Tj{op:Op}{ty:TypeId}{f:AR}{xs:List AR}(hc:Cw P op ty=some (.call f xs)):∃cl fo,op = .call cl/\cl.callee = .value fo/\AY fo=some f/\Br cl.args.toList=some xs:=by
 cases op<;>simp only[Cw] at hc
 case call cl =>
  split at hc
  ·cases hc
  split at hc
  ·cases hc
  unfold Jg at hc;split at hc
  ·rename_i fo ve
   split at hc
   ·rename_i g' ys hg qO
    simp only[Option.some.injEq,AOp.call.injEq] at hc;obtain⟨rfl,rfl⟩:=hc;exact⟨cl,fo,rfl,ve,hg,qO⟩
   ·cases hc
  ·cases hc
  ·exfalso
   repeat' (split at hc)
   all_goals simp_all
 all_goals (exfalso;repeat' (split at hc))
 all_goals first
  | (simp_all;done)
  | (cases hc;done)
theorem IG{o:Oper}{ao:Ad}{K:AA->A7->Prop}{K':Act->World->Prop}{a:AA}{C:Cfg}{act:Act}(hc:Cw P o.op o.type=some ao.op)(hd:ao.dst=o.dst)(S:St C a act)(hn:n<=C.h.length)
 (H:EO P ao K a C.h) (hK:∀a' D act',K a' D.h->St D a' act'->Ext n C D->n<=D.h.length->K' act' D.w):o.wp P act C.w K' Q:=by
 have other:AQ ao.op (evA a) C.h (fin K a ao.dst C.h)->o.wp P act C.w K' Q:=by
  intro H;obtain⟨r,hr,hs⟩:=sound hc H;have zH:C.h.length<=(r.push C.h).length:=by cases r<;>simp[Res.push]
  obtain⟨nx,cv,D,g1,g2,g3,g4,g5,g6⟩:=hs C act.eval S.rel (λ_ _ _ h=>h) S.ev C.h.length (r.push C.h) (λhu=>absurd (Cfg.used_lt hu) (Nat.lt_irrefl _)) (by
   cases r with
   | val v=>rfl
   | new sl z es =>
     refine⟨by simp[Res.push],λs x hs hx=>?_⟩;simp only[Res.push];by_cases kS:s<C.h.length
     ·rw[List.getElem?_append_left kS]
     ·rw[List.getElem?_append_right (by omega),List.getElem?_eq_none (show C.h.length<=s by omega)]
      rw[show s-C.h.length=(s-C.h.length-1)+1 by omega];simp
   | upd s z es=>rfl
   | repl s z es =>
     refine⟨by simp[Res.push],λhs=>by simp only[Res.push];rw[List.getElem?_append_left (by simpa using hs),List.getElem?_set_self hs],λk x hk l_ hx=>?_⟩;simp only[Res.push];by_cases kS:k<C.h.length
     ·rw[List.getElem?_append_left (by simpa using kS),List.getElem?_set_ne (Ne.symm l_)]
     ·rw[List.getElem?_append_right (by simp;omega),List.getElem?_eq_none (show C.h.length<=k by omega)]
      simp only[List.length_set];rw[show k-C.h.length=(k-C.h.length-1)+1 by omega];simp)
  have hk:K' (act.put o.dst cv) D.w:=by
   refine hK _ D _ ?_ ((S.ext g3 g4).put o.dst g6) (g4.mono hn) ?_
   ·have:fin K a ao.dst C.h r:=hr
    unfold fin at this;rw[g5,<- hd];exact this
   ·rw[g5];omega
  unfold Oper.wp;rw[g1]
  cases nx<;>simp only[H8,Option.some.injEq,reduceCtorEq] at g2
  ·subst g2;exact hk
  ·subst g2;exact hk
 unfold EO at H;split at H
 ·rename_i f xs hop
  split at H
  ·rename_i g first caps hf
   rw[hop] at hc;obtain⟨cl,fo,hoo,ve,hg,qO⟩:=Tj hc;obtain⟨vf,vc,wY,hvf,hvc⟩:=(hf▸S.ev fo f hg:VR C _ (act.eval fo)).func';have hargs:=S.ev.opnds qO;have e1:(cl.args.toList.map act.eval).toArray=cl.args.map act.eval:=(by apply Array.ext';simp);rw[e1] at hargs;obtain⟨hent,sM⟩:=H
   have lZ:(execOp act.eval o).run P C.w = .ok (.enter g (vf++cl.args.map act.eval++vc)) C.w:=by
    simp only[execOp,hoo,resolve,ve,wY,Deferred.ofValue,Sem.run_bind,Sem.run_pure,Result.andThen_ok,invoke];exact Ti hent _ _
   unfold Oper.wp;rw[lZ];refine(sM C _ rfl S.rel ((hvf.app hargs).app hvc)).mono λe w' ⟨v,r,D,h1,h2,h3,h4,h5,h6,h7⟩=>?_;subst h1;subst h3;have:=hK _ D _ h2 ((S.ext h4 h6).put ao.dst h5) (h6.mono hn) (by omega);rw[hd] at this;exact this
  ·exact H.elim
 ·rename_i op ty xs hop
  rw[hop] at hc;obtain⟨rfl,rfl,qO⟩:=eT hc;have hargs:=S.ev.opnds qO;have e1:(o.op.operands.toList.map act.eval).toArray=o.op.operands.map act.eval:=(by apply Array.ext';simp);rw[e1] at hargs;obtain⟨nx,cv,r,D,g1,g2,g3,g4,g5,g6,g7⟩:=H C act.eval o rfl rfl rfl S.rel hargs;have hk:=hK _ D _ g3 ((S.ext g4 g6).put ao.dst g5) (g6.mono hn) (by omega);rw[hd] at hk;unfold Oper.wp;rw[g1]
  cases nx<;>simp only[H8,Option.some.injEq,reduceCtorEq] at g2
  ·subst g2;exact hk
  ·subst g2;exact hk
 ·exact other H
theorem J8{l:List Oper}{o:Oper}{ao:Ad}(h:PE P l o=some ao):Cw P o.op o.type=some ao.op/\ao.dst=o.dst /\
 ((o.guard=none/\ao.guard=none)\/∃j want t,o.guard=some (j,want)/\(l[j]?).bind (·.dst)=some t/\ao.guard=some (t,want)):=by
 unfold PE at h;split at h
 ·rename_i op hop
  split at h
  ·rename_i hg
   simp only[Option.some.injEq] at h;subst h;exact⟨hop,rfl,.inl ⟨hg,rfl⟩⟩
  ·rename_i j want hg
   split at h
   ·rename_i t ht
    simp only[Option.some.injEq] at h;subst h;exact⟨hop,rfl,.inr ⟨j,want,t,hg,ht,rfl⟩⟩
   ·cases h
 ·cases h
theorem eY{l:List Oper}{j t:Nat}(ht:(l[j]?).bind (·.dst)=some t){C:Cfg}{a:AA}{act:Act}(S:St C a act){b:Bool}(hb:a.getD t .any = .bool b):yielded l.toArray act.tmps j=some b:=by
 have h1:=(hb▸S.vrs.get t:VR C (.bool b) _).bool'
 have h2:act.tmps[t]?=some (.bool b):=by
  rw[Array.getD_eq_getD_getElem?] at h1
  cases hx:act.tmps[t]? with
  | none=>rw[hx] at h1;simp[undef] at h1
  | some u=>rw[hx] at h1;simp at h1;rw[h1]
 unfold yielded;have:((l.toArray[j]?).bind (·.dst))=some t:=by simpa using ht
 rw[this];simp[h2]
theorem eZ{l:List Oper}{j t:Nat}(ht:(l[j]?).bind (·.dst)=some t){C:Cfg}{a:AA}{act:Act}(S:St C a act)(hb:a.getD t .any = .tuple []):yielded l.toArray act.tmps j=none:=by
 obtain⟨vs,h1,h3⟩:=(hb▸S.vrs.get t:VR C (.tuple []) _).tuple';unfold yielded;have:((l.toArray[j]?).bind (·.dst))=some t:=by simpa using ht
 rw[this]
 cases hx:act.tmps[t]? with
 | none=>simp[hx]
 | some u =>
   have:u = .tuple vs:=(by rw[Array.getD_eq_getD_getElem?,hx] at h1;simpa using h1);subst this;simp[hx]
theorem St.setB{C:Cfg}{a:AA}{act:Act}(S:St C a act){t:Nat}{b:Bool}(hb:a.getD t .any = .bool b):St C (a.set t (.bool b)) act:=by
 refine⟨S.rel,⟨by simpa using S.vrs.1,λi x hx=>?_⟩,S.nodef⟩;by_cases hti:t=i
 ·subst hti
  have kS:t<a.length:=by
   have:=(List.getElem?_eq_some_iff.1 hx).1;simpa using this
  rw[List.getElem?_set_self kS] at hx;cases hx
  have:=S.vrs.get t
  rwa [hb] at this
 ·rw[List.getElem?_set_ne hti] at hx
  exact S.vrs.2 i x hx
theorem K5{K:AA->A7->Prop}{l0:List Oper}:∀ {l:List Oper} {al:List Ad} {a:AA} {C:Cfg} {act:Act},Aw P l0 l=some al->St C a act->n<=C.h.length->Ck P K al a C.h ->
 (∀a' D act',K a' D.h->St D a' act'->Ext n C D->n<=D.h.length->Q .normal act' D.w)->wpList P l0.toArray Q l act C.w
 | [],al,a,C,act,hc,S,hn,H,hK=>by
   simp only[Aw,Option.some.injEq] at hc;subst hc;exact hK a C act H S (Ext.refl _ _) hn
 | o::l,al,a,C,act,hc,S,hn,H,hK=>by
   simp only[Aw] at hc;split at hc
   ·rename_i ao al' uK oF
    simp only[Option.some.injEq] at hc;subst hc;obtain⟨h1,h2,h3⟩:=J8 uK
    have go:∀a',St C a' act->EO P ao (Ck P K al') a' C.h->o.wp P act C.w (wpList P l0.toArray Q l) Q:=λa' S' H' =>
     IG h1 h2 S' hn H' λa'' D act' k1 k2 k3 k4=>K5 oF k2 k4 k1 λa3 D3 act3 m1 m2 m3 m4=>hK a3 D3 act3 m1 m2 (k3.trans m3) m4
    have skip:∀a',St C a' act->Ck P K al' (Aj a' ao.dst .undef) C.h->wpList P l0.toArray Q l (act.put o.dst undef) C.w:=λa' S' H'=>by
     refine K5 oF ?_ hn H' hK;rw[h2];exact S'.put o.dst (NC C)
    unfold wpList;simp only[Ck] at H;rcases h3 with ⟨g1,g2⟩|⟨j,want,t,g1,g2,g3⟩
    ·simp only[g2] at H
     rw[if_pos (by simp[Region.wanted,g1])];exact .inl (go a S H)
    ·simp only[g3] at H
     split at H
     ·rename_i b hb
      have hy:=eY g2 S hb;by_cases uh:b=want
      ·rw[if_pos (by simp[Region.wanted,g1,hy,uh])]
       exact .inl (go _ (S.setB (by rw[hb,uh])) (H.1 uh))
      ·rw[if_neg (by simp[Region.wanted,g1,hy,uh])]
       have rT:b = !want:=(by cases b<;>cases want<;>simp_all);exact skip _ (S.setB (by rw[hb,rT])) (H.2 rT)
     ·rename_i hb
      have hy:=eZ g2 S hb;rw[if_neg (by simp[Region.wanted,g1,hy])];exact skip _ S H
     ·exact H.elim
   ·cases hc
end
def AOp.opnds:AOp->List AR
 | .mv x=>[x]
 | .pick c a b=>[c,a,b]
 | .new _ _=>[]
 | .box _ x=>[x]
 | .build _ ps=>ps.map (·.2.2)
 | .bslice _ _ _ ps=>ps.map (·.2.2)
 | .load _ _ a=>[a]
 | .store _ a x=>[a,x]
 | .nilc x=>[x]
 | .bin _ x y=>[x,y]
 | .eqb _ x y=>[x,y]
 | .mvs x=>[x]
 | .eqs _ _ _ x y=>[x,y]
 | .un _ x=>[x]
 | .conv _ x=>[x]
 | .fadr _ x=>[x]
 | .fld _ _ _ x=>[x]
 | .iadA _ _ x i=>[x,i]
 | .iadS _ x i=>[x,i]
 | .idx _ _ _ x i=>[x,i]
 | .idxStr x i=>[x,i]
 | .lenx x=>[x]
 | .lens x=>[x]
 | .lenc _=>[]
 | .mm _ x xs=>x::xs
 | .app _ _ x y=>[x,y]
 | .slc _ x lo hi=>x::(lo.toList++hi.toList)
 | .mk _ _ _ l c=>[l,c]
 | .ext x _=>[x]
 | .mkf _ f c=>f++c
 | .call f xs=>f::xs
 | .mkm=>[]
 | .look _ _ _ _ _ x k=>[x,k]
 | .mput _ _ _ x k v=>[x,k,v]
 | .slcS x lo hi=>x::(lo.toList++hi.toList)
 | .toS x=>[x]
 | .bemp=>[]
 | .ofS x=>[x]
 | .xop _ _ xs=>xs
section
variable {ev ev':AR->AV}
theorem PG:∀ {ps:List (Nat×Nat×AR)} {cs:List AV},(∀p,p∈ps->ev p.2.2=ev' p.2.2)->D9 ev cs ps=D9 ev' cs ps
 | [],cs,_=>rfl
 | (o,k,x)::ps,cs,h=>by
   have hx:=h (o,k,x) (by simp);simp only at hx;have ih:=λcs=>PG (cs:=cs) (λp hp=>h p (by simp[hp]):∀p,p∈ps->ev p.2.2=ev' p.2.2);simp only[D9,hx,ih]
theorem Tk{b:Bool}:∀ {xs:List AR} {v:AV},(∀x,x∈xs->ev x=ev' x)->mmA b ev v xs=mmA b ev' v xs
 | [],v,_=>by cases v<;>rfl
 | x::xs,v,h=>by
   have hx:=h x (by simp);have ih:=λv=>Tk (b:=b) (v:=v) (λp hp=>h p (by simp[hp]):∀p,p∈xs->ev p=ev' p)
   cases v<;>simp only[mmA,hx,ih]
theorem PH{xs:List AR}(h:∀x,x∈xs->ev x=ev' x):evs ev xs=evs ev' xs:=List.map_congr_left h
theorem fA{o:AOp}{h:A7}{K:Res->Prop}(H:∀x,x∈o.opnds->ev x=ev' x)(hK:AQ o ev h K):AQ o ev' h K:=by
 cases o<;>simp only[AOp.opnds,List.mem_cons,List.not_mem_nil,or_false,forall_eq_or_imp,forall_eq,List.mem_append,List.mem_map,Option.mem_toList] at H<;>simp only[AQ] at hK ⊢
 case build zero ps =>
  rw[<- PG (ev:=ev) (λp hp=>H _ ⟨p,hp,rfl⟩)];exact hK
 case bslice z n zero ps =>
  rw[<- PG (ev:=ev) (λp hp=>H _ ⟨p,hp,rfl⟩)];exact hK
 case mm b x xs =>
  rw[<- H.1,<- Tk (ev:=ev) H.2];exact hK
 case mkf fn f c =>
  rw[<- PH (ev:=ev) (λx hx=>H x (.inl hx)),<- PH (ev:=ev) (λx hx=>H x (.inr hx))];exact hK
 case slc z x lo hi =>
  have e1:lo.map ev=lo.map ev':=(by cases lo with|none=>rfl|some l=>simp[H.2 l (.inl rfl)]);have e2:hi.map ev=hi.map ev':=(by cases hi with|none=>rfl|some l=>simp[H.2 l (.inr rfl)]);rw[<- H.1,<- e1,<- e2];exact hK
 case mv x=>rw[<- H];exact hK
 case pick c a b=>rw[<- H.1,<- H.2.1,<- H.2.2];exact hK
 case new z e=>exact hK
 case box z x=>rw[<- H];exact hK
 case load g k a=>rw[<- H];exact hK
 case store k a x=>rw[<- H.1,<- H.2];exact hK
 case nilc x=>rw[<- H];exact hK
 case bin op x y=>rw[<- H.1,<- H.2];exact hK
 case eqb op x y=>rw[<- H.1,<- H.2];exact hK
 case mvs x=>rw[<- H];exact hK
 case eqs a b c x y=>rw[<- H.1,<- H.2];exact hK
 case un op x=>rw[<- H];exact hK
 case conv op x=>rw[<- H];exact hK
 case fadr op x=>rw[<- H];exact hK
 case fld a b c x=>rw[<- H];exact hK
 case iadA a b x i=>rw[<- H.1,<- H.2];exact hK
 case iadS a x i=>rw[<- H.1,<- H.2];exact hK
 case idx a b c x i=>rw[<- H.1,<- H.2];exact hK
 case idxStr x i=>rw[<- H.1,<- H.2];exact hK
 case lenx x=>rw[<- H];exact hK
 case lens x=>rw[<- H];exact hK
 case lenc n=>exact hK
 case app a b x y=>rw[<- H.1,<- H.2];exact hK
 case mk a b c x y=>rw[<- H.1,<- H.2];exact hK
 case mkm=>exact hK
 case bemp=>exact hK
 case look a b c d e x k=>rw[<- H.1,<- H.2];exact hK
 case mput a b c x k v=>rw[<- H.1,<- H.2.1,<- H.2.2];exact hK
 case ext x i=>rw[<- H];exact hK
 case toS x=>rw[<- H];exact hK
 case ofS x=>rw[<- H];exact hK
 case slcS x lo hi =>
  have e1:lo.map ev=lo.map ev':=(by cases lo with|none=>rfl|some l=>simp[H.2 l (.inl rfl)]);have e2:hi.map ev=hi.map ev':=(by cases hi with|none=>rfl|some l=>simp[H.2 l (.inr rfl)]);rw[<- H.1,<- e1,<- e2];exact hK
end
def Ad.looks(o:Ad):List Nat:=(o.op.opnds.filterMap fun | .tmp t=>some t|_=>none)++(match o.guard with|some (t,_)=>[t]|none=>[])
def Gi(ts:List Nat)(a:AA):AA:=a.mapIdx λi x=>if ts.contains i then x else .any
theorem Tm(ts:List Nat)(a:AA)(t:Nat):(Gi ts a).getD t .any=if t∈ts then a.getD t .any else .any:=by
 unfold Gi;rw[List.getD_eq_getElem?_getD,List.getElem?_mapIdx,List.getD_eq_getElem?_getD]
 cases a[t]? with
 | none=>simp
 | some x=>by_cases h:t∈ts<;>simp[h]
def AOp.slots:AOp->Nat
 | .new _ _=>1
 | .box _ _=>1
 | .mk _ _ _ _ _=>1
 | .mkm=>1
 | .ofS _=>1
 | _=>0
def fB(P:Program)(g:FuncId)(args:List AV)(h0:A7)(r:AV):Prop:=
 MV P g/\∀(C:Cfg) (vs:Array Value),GL h0 C.h->Rel C->VRs C args vs->Calls P g vs C.w λe w'=>∃v D,e = .returned v/\D.h=C.h/\D.w=w'/\Rel D/\VR D r v/\Ext C.h.length C D
def FD(P:Program)(g:FuncId)(args:List AV)(h0:A7)(K:AV->Prop):Prop:=∃r,fB P g args h0 r/\K r
theorem FD.of_pure{P:Program}{g:FuncId}{args:List AV}{r:AV}{h0:A7}{K:AV->Prop}(H:A9 P g args (· = r))(ha:Af 0 args=true)(hK:K r):FD P g args h0 K:=by
 refine⟨r,⟨H.1,λC vs hs R hv=>?_⟩,hK⟩;have:=(AJ.of_pure (h:=C.h) (K:=λx h'=>x=r/\h'=C.h) H ha λx hx=>⟨hx,rfl⟩).2 C vs rfl R hv;exact this.mono λe w' ⟨v,x,D,h1,⟨h2,h3⟩,h4,h5,h6,h7,_⟩=>⟨v,D,h1,h3,h4,h5,h2▸h6,h7⟩
def Gh(K:AA->A7->Prop)(a:AA)(dst:Option Nat)(base k:Nat)(news:A7):Res->Prop
 | .val v=>k=0/\K (Aj a dst v) news
 | .new sl z es=>k=1/\K (Aj a dst ((Res.new sl z es).at base)) (news++[.live z es])
 | _=>False
def Gz(K:AA->A7->Prop)(a:AA)(dst:Option Nat)(news:A7):AV->Prop:=λr=>K (Aj a dst r) news
def FN(P:Program)(o:Ad)(h0:A7)(K:AA->A7->Prop)(a:AA)(news:A7):Prop:=
 match o.op with
 | .call f xs=>(match evA a f with | .func (.func g) first caps=>FD P g (first++evs (evA a) xs++caps) h0 (Gz K a o.dst news)|_=>False)
 | op=>AQ op (evA a) h0 (Gh K a o.dst (h0.length+news.length) op.slots news)
def Df(P:Program)(h0:A7)(K:AA->A7->Prop):List Ad->AA->A7->Prop
 | [],a,news=>K a news
 | o::rest,a,news =>
   match o.guard with
   | none=>FN P o h0 (Df P h0 K rest) a news
   | some (t,want) =>
     match a.getD t .any with
     | .bool b=>(b=want->FN P o h0 (Df P h0 K rest) (a.set t (.bool want)) news)/\(b = !want->Df P h0 K rest (Aj (a.set t (.bool (!want))) o.dst .undef) (news++List.replicate o.op.slots .free))
     | .tuple []=>Df P h0 K rest (Aj a o.dst .undef) (news++List.replicate o.op.slots .free)
     | _=>False
structure Tn(P:Program)(h0:A7)(l0:List Oper)(o:Oper)(ts:List Nat)(a:AA)(t:Nat)(v:AV)(s:List Ai):Prop where
 run:∀(C:Cfg) (act:Act) (Q:Exit->Act->World->Prop) (K':Act->World->Prop),GL h0 C.h->Rel C->(∀u,u∈ts->VR C (a.getD u .any) (act.tmps.getD u undef))->(s≠[]->C.h[t]?=some .free) ->
  (∀cv D,D.h=(match s with|[x]=>C.h.set t x|_=>C.h)->Rel D->VR D v cv->Ext C.h.length C D->K' (act.put o.dst cv) D.w) ->
  if Region.wanted o (yielded l0.toArray act.tmps) then o.wp P act C.w K' Q else K' (act.put o.dst undef) C.w
inductive I4(P:Program)(h0:A7)(l0:List Oper):List Oper->List Ad->AA->A7->List (AV×List Ai)->AA->A7->Prop where
 | nil (a:AA) (news:A7):I4 P h0 l0 [] [] a news [] a news
 | cons (o:Oper) (ao:Ad) (l:List Oper) (al:List Ad) (a:AA) (news:A7) (v:AV) (s:List Ai) (rs:List (AV×List Ai)) (a':AA) (news':A7) (hy:Tn P h0 l0 o ao.looks a (h0.length+news.length) v s) (hd:ao.dst=o.dst)
    (hs:s.length=ao.op.slots) (hs1:s.length<=1) (ht:I4 P h0 l0 l al (Aj a o.dst v) (news++s) rs a' news'):I4 P h0 l0 (o::l) (ao::al) a news ((v,s)::rs) a' news'
variable {P:Program} {h0:A7}
theorem Tp{l:List Oper}{j t:Nat}(ht:(l[j]?).bind (·.dst)=some t){C:Cfg}{v:Array Value}{b:Bool}(hb:VR C (.bool b) (v.getD t undef)):yielded l.toArray v j=some b:=by
 have h1:=hb.bool'
 have h2:v[t]?=some (.bool b):=by
  rw[Array.getD_eq_getD_getElem?] at h1
  cases hx:v[t]? with
  | none=>rw[hx] at h1;simp[undef] at h1
  | some u=>rw[hx] at h1;simp at h1;rw[h1]
 unfold yielded;have:((l.toArray[j]?).bind (·.dst))=some t:=by simpa using ht
 rw[this];simp[h2]
theorem fC{l:List Oper}{j t:Nat}(ht:(l[j]?).bind (·.dst)=some t){C:Cfg}{v:Array Value}(hb:VR C (.tuple []) (v.getD t undef)):yielded l.toArray v j=none:=by
 obtain⟨vs,h1,h3⟩:=hb.tuple';unfold yielded;have:((l.toArray[j]?).bind (·.dst))=some t:=by simpa using ht
 rw[this]
 cases hx:v[t]? with
 | none=>simp[hx]
 | some u =>
   have:u = .tuple vs:=(by rw[Array.getD_eq_getD_getElem?,hx] at h1;simpa using h1);subst this;simp[hx]
theorem Tq{a:AA}{t:Nat}{b:Bool}(h:a.getD t .any = .bool b):a.set t (.bool b)=a:=by
 apply List.ext_getElem?;intro i;by_cases hti:t=i
 ·subst hti
  rw[List.getD_eq_getElem?_getD] at h
  cases hx:a[t]? with
  | none=>rw[hx] at h;simp at h
  | some x =>
    rw[hx] at h;simp at h;subst h;have:=(List.getElem?_eq_some_iff.1 hx).1;rw[List.getElem?_set_self this]
 ·rw[List.getElem?_set_ne hti]
theorem Tt{ts:List Nat}{a:AA}{C:Cfg}{act:Act}(R:Rel C)(h:∀u,u∈ts->VR C (a.getD u .any) (act.tmps.getD u undef)):EC C (evA (Gi ts a)) act.eval:=by
 intro x y kz
 cases x with
 | tmp t =>
   simp only[AY,Option.some.injEq] at kz;subst kz;show VR C ((Gi ts a).getD t .any) (act.tmps.getD t undef);rw[Tm];split
   ·rename_i ht;exact h t ht
   ·exact .any _
 | const v=>simp only[AY,Option.some.injEq] at kz;subst kz;exact NU C v
 | func f=>simp only[AY,Option.some.injEq] at kz;subst kz;exact .func _ [] [] #[] #[] rfl rfl (λi x hx=>by simp at hx) (λi x hx=>by simp at hx)
 | global g =>
   simp only[AY] at kz;split at kz
   ·rename_i cs hg
    simp only[Option.some.injEq] at kz;subst kz;exact R.glo (g,cs) (PD hg)
   ·cases kz
theorem PI{o:Ad}{a:AA}(x:AR)(hx:x∈o.op.opnds):evA a x=evA (Gi o.looks a) x:=by
 cases x with
 | tmp t =>
   show a.getD t .any=(Gi o.looks a).getD t .any;rw[Tm,if_pos];exact List.mem_append_left _ (List.mem_filterMap.2 ⟨.tmp t,hx,rfl⟩)
 | const v=>rfl
 | func f=>rfl
def MW(P:Program)(h0:A7)(o:Oper)(ao:Ad)(a:AA)(news:A7)(K:AA->A7->Prop):Prop:=
 ∃(v:AV) (s:List Ai),K (Aj a ao.dst v) (news++s)/\s.length=ao.op.slots/\s.length<=1 /\
    ∀(C:Cfg) (act:Act) (Q:Exit->Act->World->Prop) (K':Act->World->Prop),GL h0 C.h->Rel C->(∀u,u∈ao.looks->VR C (a.getD u .any) (act.tmps.getD u undef))->(s≠[]->C.h[h0.length+news.length]?=some .free) ->
     (∀cv D,D.h=(match s with|[x]=>C.h.set (h0.length+news.length) x|_=>C.h)->Rel D->VR D v cv->Ext C.h.length C D->K' (act.put o.dst cv) D.w)->o.wp P act C.w K' Q
theorem Tu{l0:List Oper}{o:Oper}{ao:Ad}{a:AA}{news:A7}{K:AA->A7->Prop}(hc:Cw P o.op o.type=some ao.op)(hd:ao.dst=o.dst)(H:FN P ao h0 K a news):MW P h0 o ao a news K:=by
 have other:AQ ao.op (evA a) h0 (Gh K a ao.dst (h0.length+news.length) ao.op.slots news)->MW P h0 o ao a news K:=λH=>by
  unfold MW;obtain⟨r,hr,hs⟩:=sound hc (fA (ev':=evA (Gi ao.looks a)) (λx hx=>PI x hx) H)
  have go:∀(C:Cfg) (act:Act) (Q:Exit->Act->World->Prop) (K':Act->World->Prop) (t:Nat) (h':A7),GL h0 C.h->Rel C->(∀u,u∈ao.looks->VR C (a.getD u .any) (act.tmps.getD u undef))->¬C.used t->r.heap t C.h h' ->
   (∀cv D,D.h=h'->Rel D->VR D (r.at t) cv->Ext C.h.length C D->K' (act.put o.dst cv) D.w)->o.wp P act C.w K' Q:=by
   intro C act Q K' t h' lD R hl ht hh hk;obtain⟨nx,cv,D,g1,g2,g3,g4,g5,g6⟩:=hs C act.eval R lD (Tt R hl) t h' ht hh;have hk':=hk cv D g5 g3 g6 g4;unfold Oper.wp;rw[g1]
   cases nx<;>simp only[H8,Option.some.injEq,reduceCtorEq] at g2
   ·subst g2;exact hk'
   ·subst g2;exact hk'
  cases r with
  | val v =>
    simp only[Gh] at hr;exact⟨v,[],by simpa using hr.2,by simp[hr.1],by simp,λC act Q K' lD R hl _ hk=>go C act Q K' C.h.length C.h lD R hl (λhu=>absurd (Cfg.used_lt hu) (Nat.lt_irrefl _)) rfl (λcv D k1 k2 k3 k4=>hk cv D k1 k2 k3 k4)⟩
  | new sl z es =>
    simp only[Gh] at hr;refine⟨_,[.live z es],hr.2,by simp[hr.1],by simp,λC act Q K' lD R hl pR hk=>?_⟩;have hf:=pR (by simp);have kS:h0.length+news.length<C.h.length:=(List.getElem?_eq_some_iff.1 hf).1;refine go C act Q K' (h0.length+news.length) (C.h.set (h0.length+news.length) (.live z es)) lD R hl ?_ ⟨List.getElem?_set_self kS,λs x hs hx=>by rw[List.getElem?_set_ne (Ne.symm hs)]⟩ (λcv D k1 k2 k3 k4=>hk cv D k1 k2 k3 k4)
    rintro⟨x,hx,hx'⟩
    rw[hf] at hx;cases hx
    exact hx' rfl
  | upd s z es=>exact hr.elim
  | repl s z es=>exact hr.elim
 unfold FN at H;unfold MW;split at H
 ·rename_i f xs hop
  split at H
  ·rename_i g first caps hf
   rw[hop] at hc;obtain⟨cl,fo,hoo,ve,hg,qO⟩:=Tj hc;obtain⟨r,⟨hent,sM⟩,hK⟩:=H;refine⟨r,[],by simpa[Gz] using hK,by simp[hop,AOp.slots],by simp,λC act Q K' lD R hl _ hk=>?_⟩;have he:=Tt R hl;have hf':evA (Gi ao.looks a) f = .func (.func g) first caps:=by rw[<- PI f (by rw[hop];simp[AOp.opnds])];exact hf
   have hxs':evs (evA (Gi ao.looks a)) xs=evs (evA a) xs:=(PH λx hx=>PI x (by rw[hop];simp[AOp.opnds,hx])).symm;obtain⟨vf,vc,wY,hvf,hvc⟩:=(hf'▸he fo f hg:VR C _ (act.eval fo)).func';have hargs:=he.opnds qO;have e1:(cl.args.toList.map act.eval).toArray=cl.args.map act.eval:=(by apply Array.ext';simp);rw[e1,hxs'] at hargs
   have lZ:(execOp act.eval o).run P C.w = .ok (.enter g (vf++cl.args.map act.eval++vc)) C.w:=by
    simp only[execOp,hoo,resolve,ve,wY,Deferred.ofValue,Sem.run_bind,Sem.run_pure,Result.andThen_ok,invoke];exact Ti hent _ _
   unfold Oper.wp;rw[lZ];refine(sM C _ lD R ((hvf.app hargs).app hvc)).mono λe w' ⟨v,D,h1,h2,h3,h4,h5,h6⟩=>?_;subst h1;subst h3;exact hk v D h2 h4 h5 h6
  ·exact H.elim
 ·exact other H
theorem K3{l0:List Oper}{K:AA->A7->Prop}:∀ {l:List Oper} {al:List Ad} {a:AA} {news:A7},Aw P l0 l=some al->Df P h0 K al a news->∃rs a' news',I4 P h0 l0 l al a news rs a' news'/\K a' news'
 | [],al,a,news,hc,H=>by
   simp only[Aw,Option.some.injEq] at hc;subst hc;exact⟨[],a,news,.nil a news,H⟩
 | o::l,al,a,news,hc,H=>by
   simp only[Aw] at hc;split at hc
   ·rename_i ao al' uK oF
    simp only[Option.some.injEq] at hc;subst hc;obtain⟨h1,h2,h3⟩:=J8 uK;simp only[Df] at H;rcases h3 with ⟨g1,g2⟩|⟨j,want,t,g1,g2,g3⟩
    ·simp only[g2] at H
     obtain⟨v,s,k1,k2,k3,k4⟩:=Tu (l0:=l0) h1 h2 H;obtain⟨rs,a',news',c1,c2⟩:=K3 oF k1;refine⟨(v,s)::rs,a',news',.cons o ao l al' a news v s rs a' news' ⟨λC act Q K' b1 b2 b3 b4 b5=>?_⟩ h2 k2 k3 (h2▸c1),c2⟩;rw[if_pos (by simp[Region.wanted,g1])];exact k4 C act Q K' b1 b2 b3 b4 b5
    ·simp only[g3] at H
     have vP:t∈ao.looks:=by unfold Ad.looks;rw[g3];simp
     have skip:∀(K0:Df P h0 K al' (Aj a ao.dst .undef) (news++List.replicate ao.op.slots .free)) (ku:∀(C:Cfg) (act:Act),(∀u,u∈ao.looks->VR C (a.getD u .any) (act.tmps.getD u undef))->¬(Region.wanted o (yielded l0.toArray act.tmps)=true)),
      ∃rs a' news',I4 P h0 l0 (o::l) (ao::al') a news rs a' news'/\K a' news':=by
      intro K0 ku;obtain⟨rs,a',news',c1,c2⟩:=K3 oF K0;have oU:ao.op.slots<=1:=(by cases ao.op<;>simp[AOp.slots]);refine⟨(.undef,List.replicate ao.op.slots .free)::rs,a',news',.cons o ao l al' a news _ _ rs a' news' ⟨λC act Q K' b1 b2 b3 b4 b5=>?_⟩ h2 (by simp) (by simpa using oU) (h2▸c1),c2⟩;rw[if_neg (ku C act b3)];refine b5 undef C ?_ b2 (NC C) (Ext.refl _ _);rcases Nat.le_one_iff_eq_zero_or_eq_one.1 oU with h|h
      ·rw[h];rfl
      ·rw[h]
       have hf:=b4 (by rw[h];simp);show C.h=C.h.set (h0.length+news.length) .free;have kS:=(List.getElem?_eq_some_iff.1 hf);obtain⟨q1,q2⟩:=kS;rw[<- q2];exact(List.set_getElem_self q1).symm
     split at H
     ·rename_i b hb
      by_cases uh:b=want
      ·have H1:=H.1 uh
       subst uh;rw[Tq hb] at H1;obtain⟨v,s,k1,k2,k3,k4⟩:=Tu (l0:=l0) h1 h2 H1;obtain⟨rs,a',news',c1,c2⟩:=K3 oF k1;refine⟨(v,s)::rs,a',news',.cons o ao l al' a news v s rs a' news' ⟨λC act Q K' b1 b2 b3 b4 b5=>?_⟩ h2 k2 k3 (h2▸c1),c2⟩;have hy:=Tp g2 (hb▸b3 t vP);rw[if_pos (by simp[Region.wanted,g1,hy])];exact k4 C act Q K' b1 b2 b3 b4 b5
      ·have rT:b = !want:=by cases b<;>cases want<;>simp_all
       have H2:=H.2 rT;rw[<- rT,Tq hb] at H2;refine skip H2 λC act b3=>?_;have hy:=Tp g2 (hb▸b3 t vP);simp[Region.wanted,g1,hy,uh]
     ·rename_i hb
      refine skip H λC act b3=>?_;have hy:=fC g2 (hb▸b3 t vP);simp[Region.wanted,g1,hy]
     ·exact H.elim
   ·cases hc
end Go.Eng
namespace Go.Eng
open Go Go.RowKit
variable {P:Program} {h0:A7}
def Db(al:List Ad)(i:Nat):Option Nat:=(al[i]?).bind (·.dst)
def MX(al:List Ad)(i:Nat):List Nat:=match al[i]? with|some o=>o.looks|none=>[]
def Kl(al:List Ad)(i j:Nat):Bool:=
 (match Db al i with|some d=>(MX al j).contains d || Db al j == some d|none=>false) || (match Db al j with|some d=>(MX al i).contains d|none=>false)
def MZ(n m:Nat):Array Bool:=Array.replicate n true++Array.replicate (m-n) false
def Km(ops:Array Oper)(n j:Nat):Bool:=match ops[j]? with
 | some o=>(match o.op with | .extract _ _=>true|_=>false) && o.guard.isNone && Region.noSelect ops &&
   (List.range ops.size).all (λi=>i == j || Region.waitsFor .any ops j i || Region.waitsFor .any ops i j || match ops[i]? with|some oi=>o.apart ops oi|none=>true) &&
   o.after.all (λe=> !Region.binds .any e || Region.waitsFor .any ops n e.on)
 | none=>false
def PK(ops:Array Oper)(n:Nat):Bool:=(List.range n).all λi=>(List.range (n+1)).any (λj=>decide (i<j) && Region.waitsFor .any ops j i) || Km ops n i
def Gu(ops:List Oper)(al:List Ad):Bool:=
 (List.range al.length).all (λi=>(match ops[i]? with|some o=>o.after.all (λe=> !Region.binds .any e || decide (e.on<i))|none=>false) &&
   (List.range al.length).all (λj=> !decide (i<j) || !Kl al i j || Region.waitsFor .any ops.toArray j i)) &&
 (decide (al.length=ops.length) || (decide (al.length<ops.length) && PK ops.toArray al.length && Region.chainB .any ops.toArray al.length)) &&
 Region.seqB .any ops.toArray (ops.length-al.length) al.length (MZ al.length ops.length)
def cur(dst:Nat->Option Nat)(val:Nat->AV)(S:Nat->Bool)(g:Nat->AV):Nat->Nat->AV
 | 0,t=>g t
 | m+1,t=>if S m=true/\dst m=some t then val m else cur dst val S g m t
theorem Tv{dst:Nat->Option Nat}{val:Nat->AV}{S:Nat->Bool}{g:Nat->AV}{n j u:Nat}(hj:j<=n)(h1:∀i,i<j->dst i=some u->S i=true)(h2:∀i,j<=i->i<n->S i=true->dst i≠some u) :
 cur dst val S g n u=cur dst val (λ_=>true) g j u:=by
 have e1:∀m,j<=m->m<=n->cur dst val S g m u=cur dst val S g j u:=by
  intro m
  induction m with
  | zero=>intro h _;have:j=0:=by omega
          subst this;rfl
  | succ m ih =>
    intro hm hmn;by_cases wC:j=m+1
    ·subst wC;rfl
    ·rw[cur,if_neg (λhh=>h2 m (by omega) (by omega) hh.1 hh.2)]
     exact ih (by omega) (by omega)
 rw[e1 n hj (Nat.le_refl _)]
 have e2:∀m,m<=j->cur dst val S g m u=cur dst val (λ_=>true) g m u:=by
  intro m
  induction m with
  | zero=>intro _;rfl
  | succ m ih =>
    intro hm;rw[cur,cur,ih (by omega)];by_cases hd:dst m=some u
    ·rw[if_pos ⟨h1 m (by omega) hd,hd⟩,if_pos ⟨rfl,hd⟩]
    ·rw[if_neg (λh=>hd h.2),if_neg (λh=>hd h.2)]
 exact e2 j (Nat.le_refl _)
def Dc(S:Nat->Bool)(j:Nat):Nat->Bool:=λi=>if i=j then true else S i
theorem fD{dst:Nat->Option Nat}{val:Nat->AV}{S:Nat->Bool}{g:Nat->AV}{n j t:Nat}(hj:j<n)(hd:dst j=some t)(h2:∀i,j<i->i<n->S i=true->dst i≠some t):cur dst val (Dc S j) g n t=val j:=by
 have e1:∀m,j<m->m<=n->cur dst val (Dc S j) g m t=val j:=by
  intro m
  induction m with
  | zero=>intro h _;omega
  | succ m ih =>
    intro hm hmn;by_cases wC:j=m
    ·subst wC;rw[cur,if_pos ⟨by simp[Dc],hd⟩]
    ·rw[cur,if_neg (λhh=>h2 m (by omega) (by omega) (by have:=hh.1;simpa[Dc,Ne.symm wC] using this) hh.2)]
     exact ih (by omega) (by omega)
 exact e1 n hj (Nat.le_refl _)
theorem fE{dst:Nat->Option Nat}{val:Nat->AV}{S:Nat->Bool}{g:Nat->AV}{j t:Nat}(hd:dst j≠some t):∀n,cur dst val (Dc S j) g n t=cur dst val S g n t:=by
 intro m
 induction m with
 | zero=>rfl
 | succ m ih =>
   rw[cur,cur,ih];by_cases wC:m=j
   ·subst wC;rw[if_neg (λh=>hd h.2),if_neg (λh=>hd h.2)]
   ·simp[Dc,wC]
theorem fF{dst:Nat->Option Nat}{val:Nat->AV}{S:Nat->Bool}{g:Nat->AV}{n t:Nat}(h:∀i,i<n->S i=true):cur dst val S g n t=cur dst val (λ_=>true) g n t:=
 Tv (Nat.le_refl _) (λi hi _=>h i hi) λi h1 h2=>by omega
def EK(rs:List (AV×List Ai))(i:Nat):AV:=match rs[i]? with|some x=>x.1|none=>.any
def BX(rs:List (AV×List Ai))(i:Nat):List Ai:=match rs[i]? with|some x=>x.2|none=>[]
def Bt:List (AV×List Ai)->Nat->Nat
 | _,0=>0
 | [],_+1=>0
 | x::rs,i+1=>x.2.length+Bt rs i
theorem Tw(a:AA)(d:Option Nat)(v:AV):(Aj a d v).length=a.length:=by cases d<;>simp[Aj]
theorem fG(a:AA)(d:Option Nat)(v:AV)(t:Nat)(ht:t<a.length):(Aj a d v).getD t .any=if d=some t then v else a.getD t .any:=by
 cases d with
 | none=>simp[Aj]
 | some d =>
   simp only[Aj,Option.some.injEq];by_cases h:d=t
   ·subst h;rw[if_pos rfl,List.getD_eq_getElem?_getD,List.getElem?_set_self ht];rfl
   ·rw[if_neg h,List.getD_eq_getElem?_getD,List.getElem?_set_ne h,List.getD_eq_getElem?_getD]
theorem Tx(dst:Nat->Option Nat)(val:Nat->AV)(S:Nat->Bool)(g:Nat->AV)(t:Nat):∀m,cur dst val S g (m+1) t=cur (λi=>dst (i+1)) (λi=>val (i+1)) (λi=>S (i+1)) (λu=>if S 0=true/\dst 0=some u then val 0 else g u) m t
 | 0=>rfl
 | m+1=>by rw[cur,Tx dst val S g t m,cur]
theorem Ty{dst dst':Nat->Option Nat}{val val':Nat->AV}{S:Nat->Bool}{g g':Nat->AV}{t:Nat}(hg:g t=g' t):∀m,(∀i,i<m->dst i=dst' i)->(∀i,i<m->val i=val' i)->cur dst val S g m t=cur dst' val' S g' m t
 | 0,_,_=>hg
 | m+1,h1,h2=>by rw[cur,cur,Ty hg m (λi hi=>h1 i (by omega)) (λi hi=>h2 i (by omega)),h1 m (by omega),h2 m (by omega)]
theorem I4.at{l0:List Oper}{l:List Oper}{al:List Ad}{a:AA}{news:A7}{rs:List (AV×List Ai)}{a':AA}{news':A7}(h:I4 P h0 l0 l al a news rs a' news') :
 l.length=al.length/\rs.length=al.length/\a'.length=a.length/\(∀t,t<a.length->a'.getD t .any=cur (Db al) (EK rs) (λ_=>true) (λu=>a.getD u .any) al.length t)/\news'=news++(rs.map (·.2)).flatten /\
 ∀i,i<al.length->∃o ao ai,l[i]?=some o/\al[i]?=some ao/\ao.dst=o.dst/\(BX rs i).length<=1/\ai.length=a.length/\(∀t,t<a.length->ai.getD t .any=cur (Db al) (EK rs) (λ_=>true) (λu=>a.getD u .any) i t) /\
  Tn P h0 l0 o ao.looks ai (h0.length+news.length+Bt rs i) (EK rs i) (BX rs i):=by
 induction h with
 | nil a news=>exact⟨rfl,rfl,rfl,λt ht=>rfl,by simp,λi hi=>by simp at hi⟩
 | cons o ao l al a news v s rs a' news' hy hd hs hs1 ht ih =>
   obtain⟨i1,i2,i3,i4,i5,i6⟩:=ih;rw[Tw] at i3 i4
   have hg:∀t,t<a.length->(Aj a o.dst v).getD t .any=if (λ_:Nat=>true) 0=true/\Db (ao::al) 0=some t then EK ((v,s)::rs) 0 else a.getD t .any:=by
    intro t ht';rw[fG _ _ _ _ ht',<- hd];simp[Db,EK]
   have wZ:∀t,t<a.length->∀m,cur (Db al) (EK rs) (λ_=>true) (λu=>(Aj a o.dst v).getD u .any) m t=cur (Db (ao::al)) (EK ((v,s)::rs)) (λ_=>true) (λu=>a.getD u .any) (m+1) t:=by
    intro t ht' m;rw[Tx];exact Ty (hg t ht') m (λi _=>by simp[Db]) (λi _=>by simp[EK])
   refine⟨by simp[i1],by simp[i2],i3,λt ht'=>?_,by simp[i5],λi hi=>?_⟩
   ·rw[i4 t ht',wZ t ht'];rfl
   ·cases i with
    | zero=>exact⟨o,ao,a,rfl,rfl,hd,by simpa[BX] using hs1,rfl,λt ht'=>rfl,by simpa[Bt,EK,BX] using hy⟩
    | succ i =>
      obtain⟨o',ao',ai,k1,k2,k3,k4,k5,k6,k7⟩:=i6 i (by simpa using hi);rw[Tw] at k5 k6;refine⟨o',ao',ai,by simpa using k1,by simpa using k2,k3,by simpa[BX] using k4,k5,λt ht'=>?_,?_⟩
      ·rw[k6 t ht',wZ t ht']
      ·have:h0.length+(news++s).length+Bt rs i=h0.length+news.length+Bt ((v,s)::rs) (i+1):=by simp[Bt];omega
       rw[this] at k7;simpa[EK,BX] using k7
theorem PL:∀ {rs:List (AV×List Ai)} {i j:Nat},i<j->BX rs i≠[]->Bt rs i<Bt rs j
 | [],i,j,_,h=>by simp[BX] at h
 | x::rs,0,j+1,_,h=>by
   simp only[BX,List.getElem?_cons_zero] at h;have:=List.length_pos_iff.2 h;simp only[Bt];omega
 | x::rs,i+1,j+1,mI,h=>by
   have:=PL (rs:=rs) (i:=i) (j:=j) (by omega) (by simpa[BX] using h);simp only[Bt];omega
theorem fH{rs:List (AV×List Ai)}{i j:Nat}(mI:i≠j)(hi:BX rs i≠[])(hj:BX rs j≠[]):Bt rs i≠Bt rs j:=by
 rcases Nat.lt_or_gt_of_ne mI with h|h
 ·have:=PL h hi;omega
 ·have:=PL h hj;omega
theorem K4:∀ {rs:List (AV×List Ai)} {i:Nat} {x:Ai},BX rs i=[x]->(rs.map (·.2)).flatten[Bt rs i]?=some x
 | [],i,x,h=>by simp[BX] at h
 | y::rs,0,x,h=>by
   have:y.2=[x]:=(by simpa[BX] using h);simp[Bt,this]
 | y::rs,i+1,x,h=>by
   have ih:=K4 (rs:=rs) (i:=i) (x:=x) (by simpa[BX] using h);simp only[List.map_cons,List.flatten_cons,Bt];rw[List.getElem?_append_right (by omega)];rw[show y.2.length+Bt rs i-y.2.length=Bt rs i by omega];exact ih
theorem Ms:∀ {rs:List (AV×List Ai)} {k:Nat},(∀i,(BX rs i).length<=1)->k<(rs.map (·.2)).flatten.length->∃i x,i<rs.length/\BX rs i=[x]/\Bt rs i=k
 | [],k,_,h=>by simp at h
 | y::rs,k,h1,h=>by
   have hy:y.2.length<=1:=by have:=h1 0;simpa[BX] using this
   have tN:∀i,(BX rs i).length<=1:=λi=>by have:=h1 (i+1);simpa[BX] using this
   by_cases hk:k<y.2.length
   ·have h1:y.2.length=1:=by omega
    obtain⟨x,hx⟩:=List.length_eq_one_iff.1 h1;exact⟨0,x,by simp,by simpa[BX] using hx,by simp[Bt];omega⟩
   ·obtain⟨i,x,h2,h3,h4⟩:=Ms (rs:=rs) (k:=k-y.2.length) tN (by simp at h ⊢;omega)
    exact⟨i+1,x,by simpa using h2,by simpa[BX] using h3,by simp[Bt,h4];omega⟩
end Go.Eng
namespace Go.Eng
open Go Go.RowKit
variable {P:Program} {h0:A7}
theorem Mr{ops:List Oper}{al:List Ad}(h:Gu ops al=true) :
 (∀i,i<al.length->∃o,ops[i]?=some o/\∀e,e∈o.after->Region.binds .any e=true->e.on<i) /\
 (∀i j,i<j->j<al.length->Kl al i j=true->Region.waitsFor .any ops.toArray j i=true) /\
 (al.length=ops.length\/(al.length<ops.length/\PK ops.toArray al.length=true/\Region.chainB .any ops.toArray al.length=true)) /\
 Region.seqB .any ops.toArray (ops.length-al.length) al.length (MZ al.length ops.length)=true:=by
 simp only[Gu,Bool.and_eq_true,Bool.or_eq_true,decide_eq_true_eq] at h;obtain⟨⟨h1,h2⟩,h3⟩:=h;rw[List.all_eq_true] at h1;refine⟨λi hi=>?_,λi j mI hj hc=>?_,?_,h3⟩
 ·have:=h1 i (List.mem_range.2 hi)
  simp only[Bool.and_eq_true] at this;obtain⟨k1,_⟩:=this;split at k1
  ·rename_i o ho
   refine⟨o,ho,λe he hb=>?_⟩;have:=Array.all_eq_true_iff_forall_mem.1 k1 e he;simpa[hb] using this
  ·cases k1
 ·have:=h1 i (List.mem_range.2 (by omega))
  simp only[Bool.and_eq_true] at this;have:=List.all_eq_true.1 this.2 j (List.mem_range.2 hj);simpa[mI,hc] using this
 ·rcases h2 with h2|⟨⟨h2,h3⟩,h4⟩
  ·exact .inl h2
  ·exact .inr ⟨h2,h3,h4⟩
theorem Px{o:Oper}{a:Act}{w:World}{K:Act->World->Prop}{Q:Exit->Act->World->Prop}(ho:(match o.op with | .extract _ _=>true|_=>false)=true)(h:o.wp P a w K Q):∃v,(∀w,(execOp a.eval o).run P w = .ok (.value v) w)/\K (a.put o.dst v) w:=by
 split at ho
 ·rename_i x i hop
  cases hx:a.eval x with
  | tuple vs =>
    cases hi:vs[i]? with
    | some v =>
      have e:∀w,(execOp a.eval o).run P w = .ok (.value v) w:=λw=>by simp[execOp,hop,hx,Instr.extract,hi];try rfl
      refine⟨v,e,?_⟩;unfold Oper.wp at h;rw[e] at h;exact h
    | none =>
      unfold Oper.wp at h;simp[execOp,hop,hx,Instr.extract,hi,Oper.upon,stuck] at h
  | _ =>
    unfold Oper.wp at h;simp[execOp,hop,hx,Instr.extract,Oper.upon,stuck] at h
 ·cases ho
theorem Tz{ops:Array Oper}{n j:Nat}(h:Km ops n j=true):∃o,ops[j]?=some o/\(match o.op with | .extract _ _=>true|_=>false)=true/\o.guard=none/\Region.noSelect ops=true /\
 (∀i oi,ops[i]?=some oi->i≠j->Region.waitsFor .any ops j i=false->Region.waitsFor .any ops i j=false->o.apart ops oi=true)/\∀e,e∈o.after->Region.binds .any e=true->Region.waitsFor .any ops n e.on=true:=by
 unfold Km at h;split at h
 ·rename_i o ho
  simp only[Bool.and_eq_true] at h;obtain⟨⟨⟨⟨h1,h2⟩,h3⟩,h4⟩,h5⟩:=h;refine⟨o,ho,h1,by simpa using h2,h3,λi oi hi kv lU mX=>?_,λe he hb=>?_⟩
  ·have:=List.all_eq_true.1 h4 i (List.mem_range.2 (Array.getElem?_eq_some_iff.1 hi).1)
   simpa[kv,lU,mX,hi] using this
  ·have:=Array.all_eq_true_iff_forall_mem.1 h5 e he
   simpa[hb] using this
 ·cases h
theorem fI{ops:Array Oper}{n:Nat}{listed:Array Bool}(hs:PK ops n=true)(hc:Region.chainB .any ops n=true)(hn:n<ops.size)(inv:HeadInv .any ops n listed)
 (hl:∀j,j<n->Km ops n j=true->j ∉ Region.ready .any ops listed):∀(d i:Nat),n-i=d->i<n->listed.getD i true=false->∀t,n<=t->t ∉ Region.ready .any ops listed:=by
 intro d
 induction d using Nat.strongRecOn with
 | _ d ih =>
   intro i hd hi yJ t ht hr;obtain⟨_,ot,zf,kT⟩:=mem_ready.1 hr;have htlt:t<ops.size:=(Array.getElem?_eq_some_iff.1 zf).1;by_cases htn:t=n
   ·subst htn
    have h1:=List.all_eq_true.1 hs i (List.mem_range.2 hi);rw[Bool.or_eq_true] at h1;rcases h1 with h1|h1
    ·obtain⟨j,hj,hj2⟩:=List.any_eq_true.1 h1
     simp only[Bool.and_eq_true,decide_eq_true_eq] at hj2;obtain⟨oj,pW,e,he,hb,lV⟩:=Region.waitsFor_spec hj2.2;have hjle:j<=t:=by have:=List.mem_range.1 hj;omega
     by_cases hjt:j=t
     ·subst hjt
      have:oj=ot:=Option.some.inj (pW.symm.trans zf);subst this;have h2:=kT e he hb;rw[lV,getD_both yJ] at h2;cases h2
     ·cases hl':listed.getD j false with
      | true =>
        have h2:=inv.closed j oj pW hl' e he hb;rw[lV,getD_both yJ] at h2;cases h2
      | false =>
        have nu:j<listed.size:=(by rw[inv.size];omega);exact ih (t-j) (by omega) j rfl (by omega) (getD_in nu hl') t (Nat.le_refl _) hr
    ·refine hl i hi h1 ?_
     obtain⟨o,ho,_,_,_,_,h5⟩:=Tz h1;refine mem_ready.2 ⟨yJ,o,ho,λe he hb=>?_⟩;obtain⟨ot',hot',e',he',hb',hon'⟩:=Region.waitsFor_spec (h5 e he hb);have:ot'=ot:=Option.some.inj (hot'.symm.trans zf);subst this;have:=kT e' he' hb'
     rwa [hon'] at this
   ·have h1:=List.all_eq_true.1 hc t (List.mem_range.2 htlt)
    simp only[Bool.or_eq_true,decide_eq_true_eq] at h1;rcases h1 with h1|h1
    ·omega
    ·obtain⟨o',ho',e,he,hb,lV⟩:=Region.waitsFor_spec h1
     have:o'=ot:=Option.some.inj (ho'.symm.trans zf);subst this;have h2:=kT e he hb;rw[lV,getD_both (inv.tail (t-1) (by omega) (by omega))] at h2;cases h2
def Ej(S:Nat->Bool):Nat->Nat
 | 0=>0
 | m+1=>Ej S m+(if S m=true then 0 else 1)
theorem T_{S:Nat->Bool}{j:Nat}(hj:S j=false):∀m,Ej S m=Ej (Dc S j) m+(if j<m then 1 else 0)
 | 0=>by simp[Ej]
 | m+1=>by
   have ih:=T_ hj m;simp only[Ej];by_cases h:m=j
   ·subst h
    rw[ih];simp[Dc,hj]
   ·have:Dc S j m=S m:=by simp[Dc,h]
    rw[this,ih];by_cases h2:j<m
    ·have h3:j<m+1:=by omega
     simp only[h2,h3,if_true];omega
    ·have h3:¬j<m+1:=by omega
     simp only[h2,h3,if_false];omega
theorem U0{S:Nat->Bool}:∀ {m:Nat},Ej S m=0->∀i,i<m->S i=true
 | 0,_,i,hi=>by omega
 | m+1,h,i,hi=>by
   simp only[Ej] at h;by_cases him:i=m
   ·subst him
    by_cases hs:S i=true
    ·exact hs
    ·rw[if_neg hs] at h;omega
   ·exact U0 (m:=m) (by omega) i (by omega)
structure L6(h0:A7)(al:List Ad)(rs:List (AV×List Ai))(a:AA)(S:Nat->Bool)(C:Cfg)(act:Act):Prop where
 rel:Rel C
 nodef:act.defers=[]
 size:act.tmps.size=a.length
 len:C.h.length=h0.length+(rs.map (·.2)).flatten.length
 old:∀k,k<h0.length->C.h[k]?=h0[k]?
 new:∀i x,BX rs i=[x]->C.h[h0.length+Bt rs i]?=some (if S i=true then x else .free)
 vrs:∀t,t<a.length->VR C (cur (Db al) (EK rs) S (λu=>a.getD u .any) al.length t) (act.tmps.getD t undef)
theorem Pp{l0:List Oper}{l:List Oper}{al:List Ad}{a:AA}{rs:List (AV×List Ai)}{a':AA}{news':A7}(hch:I4 P h0 l0 l al a [] rs a' news')(hl:∀i,i<al.length->l[i]?=l0[i]?)(hB:Gu l0 al=true)
 {Q:Exit->Act->World->Prop} (hQp:∀c a w,¬Q (.panic c) a w) (C0:Cfg) (hN:h0.length<=C0.h.length)
 (Hfin:∀C act,L6 h0 al rs a (λ_=>true) C act->Ext C0.h.length C0 C->wpList P l0.toArray Q (l0.drop al.length) act C.w) :
 ∀(k:Nat) (listed:Array Bool) (C:Cfg) (act:Act),Ej (λi=>listed.getD i false) al.length=k->HeadInv .any l0.toArray al.length listed->L6 h0 al rs a (λi=>listed.getD i false) C act->Ext C0.h.length C0 C ->
  C.h.length=C0.h.length->wpAny P .any l0.toArray Q (k+(l0.length-al.length)) listed act C.w:=by
 obtain⟨b1,b2,b3,b4⟩:=Mr hB;obtain⟨c1,c2,c3,c4,c5,c6⟩:=hch.at
 have nR:al.length<=l0.length:=by rcases b3 with h|h<;>omega
 intro k
 induction k with
 | zero =>
   intro listed C act hk inv I E zH;have kT:=U0 hk
   have hl2:listed=MZ al.length l0.length:=by
    apply Array.ext_getElem?;intro i;unfold MZ;rw[Array.getElem?_append];simp only[Array.size_replicate,Array.getElem?_replicate];by_cases hi:i<al.length
    ·rw[if_pos hi,if_pos hi]
     have:=kT i hi;simp only[Array.getD_eq_getD_getElem?] at this
     cases hx:listed[i]? with
     | none=>rw[hx] at this;simp at this
     | some b=>rw[hx] at this;simp at this;rw[this]
    ·rw[if_neg hi]
     by_cases hi2:i<l0.length
     ·rw[if_pos (by omega)]
      have:=inv.tail i (by omega) (by simpa using hi2);simp only[Array.getD_eq_getD_getElem?] at this
      cases hx:listed[i]? with
      | none=>rw[hx] at this;simp at this
      | some b=>rw[hx] at this;simp at this;rw[this]
     ·rw[if_neg (by omega)]
      exact Array.getElem?_eq_none (by rw[inv.size];simpa using hi2)
   have nC:=Hfin C act ⟨I.rel,I.nodef,I.size,I.len,I.old,λi x hx=>by
    rw[I.new i x hx]
    have mD:i<al.length:=by
     rcases Nat.lt_or_ge i al.length with h|h
     ·exact h
     ·simp only[BX] at hx
      rw[List.getElem?_eq_none (by omega)] at hx;cases hx
    simp only[kT i mD,if_true],λt ht=>by rw[<- fF (S:=λi=>listed.getD i false) kT];exact I.vrs t ht⟩ E
   rw[Nat.zero_add];have:=wpAny_of_seq (md:=.any) (ops:=l0.toArray) (Q':=Q) (l0.drop al.length) al.length listed act C.w (λj=>by simp[List.getElem?_drop]) (by rw[hl2];simpa using b4) nC;simpa using this
 | succ k ih =>
   intro listed C act hk inv I E zH;have hsz:listed.size=l0.length:=by simpa using inv.size
   -- the first that is not listed is ready
   have hex:∃i,i<al.length/\listed.getD i false=false:=by
    by_cases h:∃i,i<al.length/\listed.getD i false=false
    ·exact h
    ·exfalso
     have:∀m,m<=al.length->Ej (λi=>listed.getD i false) m=0:=by
      intro m
      induction m with
      | zero=>intro _;rfl
      | succ m ihm =>
        intro hm;simp only[Ej];rw[ihm (by omega)]
        have:listed.getD m false=true:=by
         cases hx:listed.getD m false with
         | true=>rfl
         | false=>exact absurd ⟨m,by omega,hx⟩ h
        simp[this]
     rw[this _ (Nat.le_refl _)] at hk;cases hk
   obtain⟨i0,⟨zW,hu0⟩,pK⟩:=MU (p:=λi=>i<al.length/\listed.getD i false=false) hex
   have tu:i0∈Region.ready .any l0.toArray listed:=by
    obtain⟨o,ho,lI⟩:=b1 i0 zW;refine mem_ready.2 ⟨getD_in (by omega) hu0,o,by simpa using ho,λe he hb=>?_⟩;have:=lI e he hb
    cases hx:listed.getD e.on false with
    | true=>rfl
    | false=>have:=pK e.on ⟨by omega,hx⟩;omega
   rw[show k+1+(l0.length-al.length)=(k+(l0.length-al.length))+1 by omega]
   -- what an operation of the head does that is ready
   have step:∀j,j∈Region.ready .any l0.toArray listed->j<al.length->∃oj,l0.toArray[j]?=some oj/\(if Region.wanted oj (yielded l0.toArray act.tmps) then oj.wp P act C.w (wpAny P .any l0.toArray Q (k+(l0.length-al.length)) (listed.setIfInBounds j true)) Q else wpAny P .any l0.toArray Q (k+(l0.length-al.length)) (listed.setIfInBounds j true) (act.put oj.dst undef) C.w):=by
    intro j hj mr;obtain⟨yJ,oj,pW,kT⟩:=mem_ready.1 hj;have wN:listed.getD j false=false:=getD_both yJ;obtain⟨o,ao,aj,k1,k2,k3,k4,k5,k6,k7⟩:=c6 j mr
    have hoo:oj=o:=by
     have:=hl j mr;rw[k1] at this;have h2:l0[j]?=some oj:=(by simpa using pW);rw[h2] at this;exact(Option.some.inj this).symm
    subst hoo;have hdj:Db al j=oj.dst:=(by simp[Db,k2,k3]);have hlj:MX al j=ao.looks:=by simp[MX,k2]
    -- what is known of those that are listed
    have closed:∀i,i<al.length->listed.getD i false=true->Region.waitsFor .any l0.toArray i j=true->False:=by
     intro i hi hli hw;obtain⟨oi,ry,e,he,hb,lV⟩:=Region.waitsFor_spec hw;have:=inv.closed i oi ry hli e he hb;rw[lV,wN] at this;cases this
    have needs:∀i,i<j->Region.waitsFor .any l0.toArray j i=true->listed.getD i false=true:=by
     intro i hi hw;obtain⟨oi,ry,e,he,hb,lV⟩:=Region.waitsFor_spec hw;have:oi=oj:=Option.some.inj (ry.symm.trans pW);subst this;have:=kT e he hb
     rwa [lV] at this
    have reads:∀u,u∈ao.looks->cur (Db al) (EK rs) (λi=>listed.getD i false) (λu=>a.getD u .any) al.length u=cur (Db al) (EK rs) (λ_=>true) (λu=>a.getD u .any) j u:=by
     intro u hu;refine Tv (by omega) (λi hi hd=>?_) (λi h1 h2 hS hd=>?_)
     ·refine needs i hi (b2 i j hi mr ?_)
      simp[Kl,hd,hlj,hu]
     ·by_cases mI:i=j
      ·subst mI;rw[wN] at hS;cases hS
      ·refine closed i h2 hS (b2 j i (by omega) h2 ?_)
       simp[Kl,hd,hlj,hu]
    have lD:GL h0 C.h:=λs z es hs=>by
     have kS:=(List.getElem?_eq_some_iff.1 hs).1;rw[I.old s kS];exact hs
    have qV:∀x,BX rs j=[x]->C.h[h0.length+([]:A7).length+Bt rs j]?=some .free:=by
     intro x hx;have:=I.new j x hx;simpa[wN] using this
    have pR:BX rs j≠[]->C.h[h0.length+([]:A7).length+Bt rs j]?=some .free:=by
     intro kv;have h1:=List.length_pos_iff.2 kv;obtain⟨x,hx⟩:=List.length_eq_one_iff.1 (show (BX rs j).length=1 by omega);exact qV x hx
    have hy:=k7.run C act Q (wpAny P .any l0.toArray Q (k+(l0.length-al.length)) (listed.setIfInBounds j true)) lD I.rel (λu hu=>by
     by_cases nQ:u<a.length
     ·rw[k6 u nQ,<- reads u hu];exact I.vrs u nQ
     ·rw[List.getD_eq_getElem?_getD,List.getElem?_eq_none (by omega)];exact .any _) pR (λcv D d1 d2 d3 d4=>?_)
    ·exact⟨oj,pW,hy⟩
    ·have nu:j<listed.size:=by omega
     have hS':(λi=>(listed.setIfInBounds j true).getD i false)=Dc (λi=>listed.getD i false) j:=by
      funext i
      by_cases mI:i=j
      ·subst mI;simp[Dc,nu]
      ·simp only[Dc,mI,if_false]
       exact getD_set_ne false (Ne.symm mI)
     have hcnt:=T_ (S:=λi=>listed.getD i false) (j:=j) wN al.length;rw[if_pos mr,hk] at hcnt
     have hDlen:D.h.length=C.h.length:=by
      rw[d1];split<;>simp
     refine ih (listed.setIfInBounds j true) D (act.put oj.dst cv) (by rw[hS'];omega) (inv.set hj mr) ?_ (E.trans (zH▸d4)) (by omega);rw[hS'];refine⟨d2,?_,?_,by rw[hDlen];exact I.len,λq hq=>?_,λi x hx=>?_,λt ht=>?_⟩
     ·cases oj.dst<;>simpa[Act.put] using I.nodef
     ·cases oj.dst<;>simpa[Act.put] using I.size
     ·rw[d1]
      split
      ·rw[List.getElem?_set_ne (by simp;omega)];exact I.old q hq
      ·exact I.old q hq
     ·by_cases mI:i=j
      ·subst mI
       rw[d1,hx];have hf:=qV x hx;have kS:=(List.getElem?_eq_some_iff.1 hf).1;simp only[List.length_nil,Nat.add_zero] at kS ⊢;rw[List.getElem?_set_self kS];simp[Dc]
      ·have hold:=I.new i x hx
       have e1:Dc (λi=>listed.getD i false) j i=listed.getD i false:=(by simp[Dc,mI]);rw[e1,<- hold,d1];split
       ·rename_i y hy'
        have:=fH (rs:=rs) mI (by rw[hx];simp) (by rw[hy'];simp);rw[List.getElem?_set_ne (by simp;omega)]
       ·rfl
     ·by_cases hd:oj.dst=some t
      ·have wZ:=fD (dst:=Db al) (val:=EK rs) (S:=λi=>listed.getD i false) (g:=λu=>a.getD u .any) mr (by rw[hdj];exact hd) (λi h1 h2 hS hd'=>by
        refine closed i h2 hS (b2 j i h1 h2 ?_);simp[Kl,hdj,hd,hd'])
       rw[wZ,hd];have hts:t<act.tmps.size:=(by rw[I.size];exact ht);have:(act.put (some t) cv).tmps.getD t undef=cv:=(by simp[Act.put,Array.getD_eq_getD_getElem?,hts]);rw[this];exact d3
      ·rw[fE (by rw[hdj];exact hd)]
       have:(act.put oj.dst cv).tmps.getD t undef=act.tmps.getD t undef:=by
        cases hdd:oj.dst with
        | none=>rfl
        | some d =>
          have:d≠t:=λe=>hd (by rw[hdd,e]);simp[Act.put,Array.getD_eq_getD_getElem?,Array.getElem?_setIfInBounds_ne this]
       rw[this];exact d4.vr' (I.vrs t ht)
   by_cases hlate:∃j,j<al.length/\Km l0.toArray al.length j=true/\j∈Region.ready .any l0.toArray listed
   ·-- one that may come late comes at once
    obtain⟨j,mr,hlj,hj⟩:=hlate;obtain⟨oj,pW,kX⟩:=step j hj mr;obtain⟨o,ho,m1,m2,m3,m4,m5⟩:=Tz hlj;have:o=oj:=Option.some.inj (ho.symm.trans pW);subst this;have xJ:Region.wanted o (yielded l0.toArray act.tmps)=true:=(by simp[Region.wanted,m2]);rw[if_pos xJ] at kX;obtain⟨v,hv,hK⟩:=Px m1 kX;refine wpAny_first ho (Region.noSelect_spec m3) (λc a w h=>absurd h (hQp c _ w)) _ listed act C.w (λi oi hi kv yJ ku=>?_) hj (.inl ⟨xJ,hv⟩) hK;refine m4 i oi hi kv ?_ ?_
    ·cases hw:Region.waitsFor .any l0.toArray j i with
     | false=>rfl
     | true =>
       obtain⟨oj',zg,e,he,hb,lV⟩:=Region.waitsFor_spec hw;have:oj'=o:=Option.some.inj (zg.symm.trans ho);subst this;obtain⟨_,oj2,hoj2,kT⟩:=mem_ready.1 hj;have:oj2=oj':=Option.some.inj (hoj2.symm.trans ho);subst this;have:=kT e he hb;rw[lV,getD_both yJ] at this;cases this
    ·cases hw:Region.waitsFor .any l0.toArray i j with
     | false=>rfl
     | true =>
       obtain⟨oi',hoi',e,he,hb,lV⟩:=Region.waitsFor_spec hw;have:oi'=oi:=Option.some.inj (hoi'.symm.trans hi);subst this;exact absurd lV (ku e he hb)
   ·refine⟨λh=>(by rw[h] at tu;cases tu),λj hj=>?_⟩
    obtain⟨yJ,oj,pW,kT⟩:=mem_ready.1 hj
    have hjlt:j<l0.length:=by
     have:=(Array.getElem?_eq_some_iff.1 pW).1;simpa using this
    have mr:j<al.length:=by
     rcases b3 with h|⟨h1,h2,h3⟩
     ·omega
     ·rcases Nat.lt_or_ge j al.length with h|h
      ·exact h
      ·exact absurd hj (fI h2 h3 (by simpa using h1) inv (λi hi hl hr=>hlate ⟨i,hi,hl,hr⟩) _ i0 rfl zW (getD_in (by omega) hu0) j h)
    obtain⟨oj',zg,hy⟩:=step j hj mr;have:oj'=oj:=Option.some.inj (zg.symm.trans pW);subst this;unfold wpOp;rw[pW];simp only;split
    ·rename_i hw;rw[if_pos hw] at hy;exact .inl hy
    ·rename_i hw;rw[if_neg hw] at hy;exact hy
end Go.Eng
