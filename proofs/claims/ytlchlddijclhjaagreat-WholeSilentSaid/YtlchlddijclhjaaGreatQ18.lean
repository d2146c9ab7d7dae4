/- Parts of the proofs. -/
import Derived.Shelf.SlSortCmp.NoneTotal
import Derived.KernelRfl
import Derived.Test.YtlchlddijclhjaaGreatQ17
import Derived.Test.YtlchlddijclhjaaGreatQ15
import Derived.Test.YtlchlddijclhjaaGreatQ11
import Derived.Test.YtlchlddijclhjaaGreatQ14
import Derived.Test.YtlchlddijclhjaaGreatQ8
import Derived.Test.YtlchlddijclhjaaGreatQ16
import Derived.Test.YtlchlddijclhjaaGreatQ13
import Derived.Test.YtlchlddijclhjaaGreatQZ
set_option linter.unusedVariables false
set_option linter.unusedSimpArgs false
set_option maxHeartbeats 4000000
namespace Go.Proofs.YtlchlddijclhjaaGreat
open Go Go.RowKit Go.Eng
set_option maxRecDepth 100000
theorem gY(ss:List Sg)(gs:List Gr)(es ds:List (List AV))(zQ:es=ss.map Ah)(zY:ds=gs.map Ak)(hln:CS ss)(yK:EJ ss)(lo hi:Int):∀l:List Int,l.length<=12/\1<=l.length->BJ ss es ds lo hi (13-l.length) l
 | [],h=>absurd h.2 Z.d
 | [x0],h=>gN ss gs es ds zQ zY hln yK lo hi x0
 | [x0,x1],h=>gM ss gs es ds zQ zY hln yK lo hi x0 x1
 | [x0,x1,x2],h=>gL ss gs es ds zQ zY hln yK lo hi x0 x1 x2
 | [x0,x1,x2,x3],h=>gK ss gs es ds zQ zY hln yK lo hi x0 x1 x2 x3
 | [x0,x1,x2,x3,x4],h=>gJ ss gs es ds zQ zY hln yK lo hi x0 x1 x2 x3 x4
 | [x0,x1,x2,x3,x4,x5],h=>gI ss gs es ds zQ zY hln yK lo hi x0 x1 x2 x3 x4 x5
 | [x0,x1,x2,x3,x4,x5,x6],h=>gH ss gs es ds zQ zY hln yK lo hi x0 x1 x2 x3 x4 x5 x6
 | [x0,x1,x2,x3,x4,x5,x6,x7],h=>gG ss gs es ds zQ zY hln yK lo hi x0 x1 x2 x3 x4 x5 x6 x7
 | [x0,x1,x2,x3,x4,x5,x6,x7,x8],h=>gF ss gs es ds zQ zY hln yK lo hi x0 x1 x2 x3 x4 x5 x6 x7 x8
 | [x0,x1,x2,x3,x4,x5,x6,x7,x8,x9],h=>gD ss gs es ds zQ zY hln yK lo hi x0 x1 x2 x3 x4 x5 x6 x7 x8 x9
 | [x0,x1,x2,x3,x4,x5,x6,x7,x8,x9,x10],h=>gB ss gs es ds zQ zY hln yK lo hi x0 x1 x2 x3 x4 x5 x6 x7 x8 x9 x10
 | [x0,x1,x2,x3,x4,x5,x6,x7,x8,x9,x10,x11],h=>TL ss gs es ds zQ zY hln yK lo hi x0 x1 x2 x3 x4 x5 x6 x7 x8 x9 x10 x11
 | _::_::_::_::_::_::_::_::_::_::_::_::_::_,h=>absurd h.1 (by simp)
instance ltL_dec:∀l m:List Int,Decidable (ltL l m)
 | a::l,b::m=>match ltL_dec l m with
   | .isTrue h=>if h1:a<b then .isTrue (.inl h1) else if h2:a=b then .isTrue (.inr ⟨h2,h⟩) else .isFalse λh3=>h3.elim h1 λh4=>h2 h4.1
   | .isFalse h=>if h1:a<b then .isTrue (.inl h1) else .isFalse λh3=>h3.elim h1 λh4=>h h4.2
 | [],_=>.isFalse λh=>h
 | _::_,[]=>.isFalse λh=>h
def ltR(l m:List Int):Prop:=ltL (toR l).key (toR m).key
instance (l m:List Int):Decidable (ltR l m):=ltL_dec _ _
def Jr(l:List Int):List (List Int)->List (List Int)
 | []=>[l]
 | k::m=>if ltR k l then k::Jr l m else l::k::m
def J2:List (List Int)->List (List Int)
 | []=>[]
 | l::m=>Jr l (J2 m)
theorem PS(l:List Int):∀m,(Jr l m).Perm (l::m)
 | []=>.refl _
 | k::m=>by
   unfold Jr;split
   ·exact((PS l m).cons k).trans (.swap l k m)
   ·exact .refl _
theorem Js:∀m,(J2 m).Perm m
 | []=>.refl _
 | l::m=>(PS l _).trans ((Js m).cons l)
theorem UM{a b c:List Int}:ltR a b->ltR b c->ltR a c:=MM _ _ _
theorem gZ(a:List Int):¬ltR a a:=Oy _
theorem gm(a b:List Int):ltR a b\/toR a=toR b\/ltR b a:=(MN (toR a).key (toR b).key rfl).imp id λh=>h.imp (λh=>R13.key_inj h) id
theorem gq{a b c:List Int}(h1:¬ltR b a)(h2:¬ltR c b):¬ltR c a:=λh=>by
 rcases gm a b with h3|h3|h3
 ·exact h2 (UM h h3)
 ·unfold ltR at h h2;rw[h3] at h;exact h2 h
 ·exact h1 h3
theorem UN(l:List Int):∀m,m.Pairwise (λx y=>¬ltR y x)->(Jr l m).Pairwise (λx y=>¬ltR y x)
 | [],_=>List.pairwise_singleton _ _
 | k::m,h=>by
   obtain⟨h1,h2⟩:=List.pairwise_cons.1 h;unfold Jr;split
   ·rename_i hk
    refine List.pairwise_cons.2 ⟨λx hx=>?_,UN l m h2⟩;rcases List.mem_cons.1 ((PS l m).mem_iff.1 hx) with rfl|hx
    ·exact λh3=>gZ _ (UM hk h3)
    ·exact h1 x hx
   ·rename_i hk
    refine List.pairwise_cons.2 ⟨λx hx=>?_,h⟩;rcases List.mem_cons.1 hx with rfl|hx
    ·exact hk
    ·exact gq hk (h1 x hx)
theorem PT:∀m,(J2 m).Pairwise (λx y=>¬ltR y x)
 | []=>List.Pairwise.nil
 | l::m=>UN l _ (PT m)
theorem UO:∀ {l m:List R13},l.Perm m->l.Pairwise (λx y=>¬ltL y.key x.key)->m.Pairwise (λx y=>¬ltL y.key x.key)->l=m
 | [],m,hp,_,_=>(List.nil_perm.1 hp).symm
 | a::l,[],hp,_,_=>absurd hp.length_eq (by simp)
 | a::l,b::m,hp,h1,h2=>by
   obtain⟨k1,k2⟩:=List.pairwise_cons.1 h1;obtain⟨k3,k4⟩:=List.pairwise_cons.1 h2
   have e:a=b:=by
    rcases List.mem_cons.1 (hp.mem_iff.1 (List.mem_cons_self (a:=a) (l:=l))) with e|ha
    ·exact e
    ·rcases List.mem_cons.1 (hp.mem_iff.2 (List.mem_cons_self (a:=b) (l:=m))) with e|hb
     ·exact e.symm
     ·have h3:=k3 a ha
      have h4:=k1 b hb;rcases MN a.key b.key rfl with h|h|h
      ·exact absurd h h3
      ·exact R13.key_inj h
      ·exact absurd h h4
   subst e;rw[UO (List.Perm.cons_inv hp) k2 k4]
theorem gu{m:List (List Int)}{rs:List R13}(hp:rs.Perm (m.map toR))(hs:rs.Pairwise (λx y=>¬ltL y.key x.key)):rs=(J2 m).map toR:=
 UO (hp.trans ((Js m).map toR).symm) hs (List.pairwise_map.2 (PT m))
def EL(ss:List Sg)(lo hi from_:Int)(ls:List (List Int)):Int×List (List Int):=ls.foldl (λs l=>Be ss lo hi (13-l.length) l (BU ss from_ l) s) (0,[])
def Ei(ss:List Sg)(lo hi from_:Int)(ls:List (List Int)):(Int×List (List Int))×Int:=
 if hi<lo\/lo < -from_ then ((0,[]),40)
 else if (EL ss lo hi from_ ls).1≠0 then ((0,[]),(EL ss lo hi from_ ls).1)
 else if (EL ss lo hi from_ ls).2=[] then ((0,[]),40)
 else ((from_,J2 (EL ss lo hi from_ ls).2),0)
structure Cu(ss:List Sg)(l:List Int):Prop where
 len:l.length<=12/\1<=l.length
 seg:∀n,n∈l->0<=n/\n.toNat<ss.length
theorem UQ(sn:List Nat)(j:Nat):Up0 (sn.map (λk:Nat=>[AV.int .i64 (k:Int)])++[[AV.int .i64 (j:Int)]]):=by
 have:=BM (f:=λk:Nat=>[AV.int .i64 (k:Int)]) (λd=>rfl) (sn++[j])
 rwa [List.map_append] at this
theorem Md:∀(n:Nat) (l:List Nat),l.Nodup->(∀i,i∈l->i<n)->l.length<=n
 | 0,l,_,h2=>by
   cases l with
   | nil=>simp
   | cons a l=>exact absurd (h2 a (by simp)) Z.o
 | n+1,l,h,h2=>by
   have:=Md n (l.erase n) (h.erase n) λi hi=>by
    have h3:=(h.mem_erase_iff.1 hi);have:=h2 i h3.2;omega
   rw[List.length_erase] at this;split at this<;>omega
theorem gy{P:Program}(hP:Tryz.prog=P){h:A7}{K:AV->A7->Prop}(hK:K (.tuple []) h) :
 AJ P 210 [.nils,.func (.func 211) [] []] h K:=by
 subst hP;refine⟨⟨_,Tryz.func210,by kernel_rfl,by kernel_rfl⟩,λC vs hC RC hv=>?_⟩;subst hC;obtain⟨hvl,hv0⟩:=hv
 have hvs:vs = #[vs.getD 0 undef,vs.getD 1 undef]:=by
  have hn:vs.size=2:=(by simpa using hvl);obtain⟨l⟩:=vs
  match l,hn with
  | [x,y],_=>rfl
 have e0:=(hv0 0 _ rfl).nils';rw[hvs,e0];have hcall:=AnyF.slices_SortFunc_none (P:=Tryz.prog) Tryz.sortFL none 0 (vs.getD 1 undef) C.w;refine hcall.mono ?_;rintro e w' ⟨rfl,rfl⟩;exact⟨_,_,_,rfl,hK,rfl,RC,.tuple [] #[] rfl (λi x hx=>by simp at hx),Ext.refl _ _,Nat.le_refl _⟩
theorem gz(a b:Int)(o:Bool)(h:o=decide (a<=b)):A9 Tryz.prog 73 [.agg [a,b]] (· = .bool o):=by
 (refine A9.ofX Tryz.func73 (by kernel_rfl) (by kernel_rfl) λw hw R hR=>?_);(conv=>arg 2;cbv);(generalize hP:Tryz.prog=P);cbv;subst hw;exact⟨_,Vw.same rfl,hR _ (by rw[h];rfl)⟩
theorem g_(ss:List Sg)(gs:List Gr)(es ds:List (List AV))(zQ:es=ss.map Ah)(zY:ds=gs.map Ak)(hln:CS ss)(yK:EJ ss)(lo hi from_:Int)(hf:0<=from_/\from_<=1099511627776)(ls:List (List Int))(hls:∀l,l∈ls->Cu ss l)(hsz1:ls.length<=1000)(rs:List (List AV))(yD:rs=ls.map rtC)(v:(Int×List (List Int))×Int)(hv:v=Ei ss lo hi from_ ls) :
 A9 Tryz.prog 153 [.agg [from_,.list 13 rs],.agg [.list 3 es,.list 5 ds],.agg [lo,hi]] (· = .tuple [.agg [v.1.1,.list 13 (v.1.2.map rtC)],v.2]):=by
 have hu:Up0 es:=by rw[zQ];exact Bu ss
 have hud:Up0 ds:=by rw[zY];exact Bv gs
 have hur:Up0 rs:=by rw[yD];exact BM (f:=rtC) (λd=>rfl) ls
 obtain⟨⟨v1,v2⟩,v3⟩:=v;obtain⟨vs,evs⟩:=Z.e (v2.map rtC);show A9 Tryz.prog 153 [.agg [from_,.list 13 rs],.agg [.list 3 es,.list 5 ds],.agg [lo,hi]] (· = .tuple [.agg [v1,.list 13 (v2.map rtC)],v3]);rw[<- evs];obtain⟨o,eo⟩:=Z.e (decide (lo<=hi));(refine A9.ofY Tryz.func153 (by kernel_rfl) (by kernel_rfl) (Z.w λzB zE yN _ zF _ _ _ _ _ _ _ zK _ zM _ _ _ _ _ hw zC zA yJ _ zI _ _ _ _ _ _ _ zH _ zV _ _ _ _ _ hz R hR=>?_));(conv=>arg 2;cbv);(generalize hP:Tryz.prog=P);cbv;refine Call.stepE (by rw[<- hP];exact gz lo hi o eo) rfl ?_;cbv;obtain⟨a0,ea0⟩:∃a0,a0 = -from_:=⟨_,rfl⟩;have c0:yN .neg .i64 from_=a0:=by rw[yJ,ea0];simp only[AO];rw[IntKind.wrap_i64];omega
 by_cases hr:lo<=hi
 rotate_left 1
 ·have n1:zF o=true:=by rw[zI,eo];simp[hr]
  simp only[n1];cbv
  have hva:(v1,v2,v3)=(0,[],40):=by
   unfold Ei at hv;rw[if_pos (.inl Z.o)] at hv;simp only[Prod.mk.injEq] at hv ⊢;exact⟨hv.1.1,hv.1.2,hv.2⟩
  simp only[Prod.mk.injEq] at hva;obtain⟨rfl,rfl,rfl⟩:=hva;subst evs;exact⟨_,Vw.tuple (rs:=[.agg [(0:Int),.list 13 []],.int .i64 40]) ⟨Vw.agg (rs:=[.int .i64 0,.list 13 []]) ⟨Vw.same rfl,Vw.nil 13,trivial⟩,Vw.same rfl,trivial⟩,hR _ rfl⟩
 have n1:zF o=false:=by rw[zI,eo];simp[hr]
 simp only[n1];cbv;simp only[c0];(split<;>rename_i h1<;>(try (simp only[hz,Z.a,AF,AC,AO,AP,AL,reduceCtorEq] at h1))<;>(try cbv))
 ·have hva:(v1,v2,v3)=(0,[],40):=by
   unfold Ei at hv;rw[if_pos (.inr Z.o)] at hv;simp only[Prod.mk.injEq] at hv ⊢;exact⟨hv.1.1,hv.1.2,hv.2⟩
  simp only[Prod.mk.injEq] at hva;obtain⟨rfl,rfl,rfl⟩:=hva;subst evs;exact⟨_,Vw.tuple (rs:=[.agg [(0:Int),.list 13 []],.int .i64 40]) ⟨Vw.agg (rs:=[.int .i64 0,.list 13 []]) ⟨Vw.same rfl,Vw.nil 13,trivial⟩,Vw.same rfl,trivial⟩,hR _ rfl⟩
 (obtain⟨L,eL,L0,Ln⟩:∃L:Int,zK rs=L/\0<=L/\L.toNat=rs.length:=⟨(rs.length:Int),by rw[zH],Int.natCast_nonneg _,Int.toNat_natCast _⟩)
 simp only[eL];have hemp:Up0 ([]:List (List AV)):=⟨rfl⟩;have hrl:rs.length=ls.length:=by rw[yD];simp
 unfold Ei at hv;rw[if_neg (show ¬(hi<lo\/lo < -from_) by omega)] at hv
 refine Ae.data hw (S:=Int×(Int×List (List Int))×List (List AV)) (λs=>fr 84 [(3,.ref 0 2 0 0),(4,.ref 1 2 0 0),(6,.ref 3 2 0 0),(8,.ref 5 6 0 0),(31,.list 13 rs),(32,L),(33,s.1)])
  (λs=>[.live 2 [[from_,.list 13 rs]],.live 2 [[.list 3 es,.list 5 ds]],.live 2 [[lo,hi]],.live 2 [[(0:Int),.nils]],.live 0 s.2.2,.live 6 [[.list 3 es,.list 5 ds,lo,hi,.mapr 4,s.2.1.1]]])
  (λs=>0<=s.1/\s.1<=L/\s.2.1=EL ss lo hi from_ (ls.take s.1.toNat)/\GOk s.2.1/\(s.2.1.1=0\/s.2.1.1=13)/\s.2.2=ents s.2.1.2/\Up0 s.2.2) (λs=>(L-s.1).toNat) (0,(0,[]),[]) Z.i ⟨Int.le_refl _,L0,rfl,⟨by simp,λ_=>by simp,λk hk=>by simp at hk,List.nodup_nil⟩,.inl rfl,rfl,hemp⟩ ?_
 rintro⟨i,⟨e,m⟩,em⟩ zJ Q' hN hE hR'
 have zJ:0<=i/\i<=L/\(e,m)=EL ss lo hi from_ (ls.take i.toNat)/\GOk (e,m)/\(e=0\/e=13)/\em=ents m/\Up0 em:=zJ;cbv;obtain⟨zW,yZ,hfold,hok,he,hem,hum⟩:=zJ;(split<;>rename_i hc<;>(try (simp only[hz,Z.a,AF,AC,AO,AP,AL,reduceCtorEq] at hc))<;>(try cbv))
 ·have hit:i.toNat<ls.length:=by omega
  obtain⟨l,hl⟩:∃l,ls[i.toNat]?=some l:=⟨_,List.getElem?_eq_getElem hit⟩;have hlo:=hls l (List.mem_of_getElem? hl);obtain⟨i2,ei2⟩:=Z.e (i+1);have a4:zB .add .i64 i 1=i2:=by rw[zC,ei2];show IntKind.i64.wrap (i+1)=i+1;rw[IntKind.wrap_i64];omega
  have hri:rs[i.toNat]?=some (toR l).row:=(by rw[yD,List.getElem?_map,hl];rfl);obtain⟨y,ey⟩:=Z.e (BU ss from_ l);have hend:=NJ ss gs es ds zQ zY hln from_ hf rs hur l hlo.len.1 hlo.seg;have hend:A9 Tryz.prog 167 [.agg [from_,.list 13 rs],.agg [.list 3 es,.list 5 ds],.agg (toR l).row] (· = .int .i64 y):=(by rw[ey];exact hend);obtain⟨⟨e3,m3⟩,es3⟩:∃s',s'=Be ss lo hi (13-l.length) l y (e,m):=⟨_,rfl⟩
  have hs2:(e3,m3)=EL ss lo hi from_ (ls.take i2.toNat):=by
   rw[es3,ei2,Eu zW hl];unfold EL at hfold ⊢;rw[List.foldl_append,<- hfold,List.foldl_cons,List.foldl_nil,ey]
  have hok2:=MO ss lo hi (13-l.length) l y (e,m) hok hlo.len;have he2:=MP ss lo hi (13-l.length) l y (e,m) he;rw[<- es3] at hok2 he2;obtain⟨em3,eem3⟩:=Z.e (ents m3);have hum3:Up0 em3:=(by rw[eem3];exact Jm m3);have hyb:=Sk hln hf l;rw[<- ey] at hyb
  have hgr:∀ {H:A7} {K:AV->A7->Prop},H[5]?=some (.live 6 [[.list 3 es,.list 5 ds,lo,hi,.mapr 4,e]])->H[4]?=some (.live 0 em)->K (.tuple []) ((H.set 5 (.live 6 [[.list 3 es,.list 5 ds,lo,hi,.mapr 4,e3]])).set 4 (.live 0 em3))->AJ P 209 [.ref 5 6 0 0,.agg (toR l).row,y] H K:=λh1 h2 hK =>
   BJ.call hu hud (gY ss gs es ds zQ zY hln yK lo hi l hlo.len) hP Z.d h1 (by rw[<- hem];exact h2) hok he hyb hlo.seg (by rw[<- es3,<- eem3];exact hK)
  obtain⟨row,erow⟩:=Z.e (toR l);rw[<- erow] at hri hend hgr;obtain⟨n,s0,s1,s2,s3,s4,s5,s6,s7,s8,s9,s10,s11⟩:=row;refine Idx.mk _ zW hri ?_;cbv;have hup:∀n s0 s1 s2 s3 s4 s5 s6 s7 s8 s9 s10 s11:Int,Af 0 [AV.agg [from_,.list 13 rs],.agg [.list 3 es,.list 5 ds],.agg [n,s0,s1,s2,s3,s4,s5,s6,s7,s8,s9,s10,s11]]=true:=λn s0 s1 s2 s3 s4 s5 s6 s7 s8 s9 s10 s11=>(by simp only[Af,AV.upto,hu.get,hud.get,hur.get];rfl);refine AB.stepE (by rw[<- hP];exact hend) (hup _ _ _ _ _ _ _ _ _ _ _ _ _) ?_;cbv;refine Call.of (hgr rfl rfl ?_);cbv;simp only[a4];refine hN (i2,(e3,m3),em3) _ _ ?hx ?hi ?ht
  case hx=>exact Z.i
  case hi=>exact⟨by simp only;omega,by simp only;omega,hs2,hok2,he2,eem3,hum3⟩
  case ht=>simp only;omega
 refine hE _ _ _ ?_;cbv;have hsv:(e,m)=EL ss lo hi from_ ls:=by rw[hfold,List.take_of_length_le Z.o]
 rw[<- hsv] at hv;clear hfold;have htwo:∀x,x∈em->x.length=2:=by rw[hem];exact Kj m
 obtain⟨nE,enE⟩:∃n:Int,n=em.length:=⟨_,rfl⟩;refine Xo.range (kt:=239) (et:=3) (by rw[<- hP];kernel_rfl) rfl htwo nE enE ?_;cbv
 refine Ae.data hw (S:=List Nat×List (List AV)×Option (Nat×List (List AV))) (λs=>fr 84 [(6,.ref 3 2 0 0),(8,.ref 5 6 0 0),(11,.ref 6 2 0 0),(52,.ref 7 0 0 0)])
  (λs=>match s.2.2 with
    | none=>[.live 2 [[from_,.list 13 rs]],.live 2 [[.list 3 es,.list 5 ds]],.live 2 [[lo,hi]],.live 2 [[(0:Int),.nils]],.live 0 em,.live 6 [[.list 3 es,.list 5 ds,lo,hi,.mapr 4,e]],.live 2 [[from_,.nils]],.live 0 ([.mapr 4,.int .i64 nE,.int .i64 nE]::s.2.1)]
    | some (k,w)=>[.live 2 [[from_,.list 13 rs]],.live 2 [[.list 3 es,.list 5 ds]],.live 2 [[lo,hi]],.live 2 [[(0:Int),.nils]],.live 0 em,.live 6 [[.list 3 es,.list 5 ds,lo,hi,.mapr 4,e]],.live 2 [[from_,.sl 8 13 0 k]],.live 0 ([.mapr 4,.int .i64 nE,.int .i64 nE]::s.2.1),.live 13 w])
  (λs=>s.1.Nodup/\(∀i,i∈s.1->i<m.length)/\s.2.1=s.1.map (λk:Nat=>[AV.int .i64 (k:Int)])/\Up0 s.2.1/\(match s.2.2 with|none=>s.1=[]|some (k,w)=>s.1≠[]/\k=s.1.length/\k=w.length/\Up0 w/\w=s.1.map (λi=>rtC (m.getD i [])))) (λs=>m.length-s.1.length) ([],[],none) Z.i ⟨List.nodup_nil,(λi hi=>by simp at hi),rfl,hemp,rfl⟩ ?_
 rintro⟨sn,sr,acc⟩ zJ Q' hN hE hR'
 cases acc with
 | none =>
   have zJ:sn.Nodup/\(∀i,i∈sn->i<m.length)/\sr=sn.map (λk:Nat=>[AV.int .i64 (k:Int)])/\Up0 sr/\sn=[]:=zJ;obtain⟨hnd,yC,hsr,husr,hs0⟩:=zJ;cbv;refine Xo.next (es:=em) (sr:=sr) (sn:=sn) rfl rfl htwo enE hsr ?_ ?_
   ·intro hall
    cbv;refine hE _ _ _ ?_;cbv
    have hm0:m=[]:=by
     have:em.length=0:=by
      by_cases h0:em.length=0
      ·exact h0
      ·have:=hall 0 Z.o;rw[hs0] at this;simp at this
     rw[hem,Jo] at this;exact List.length_eq_zero_iff.1 this
    rw[hm0] at hv;refine Call.of (gy hP ?_);cbv;(split<;>rename_i he0<;>(try (simp only[hz,Z.a,AF,AC,AO,AP,AL,reduceCtorEq] at he0))<;>(try cbv))
    ·rw[if_pos (show ¬(e,([]:List (List Int))).1=0 from he0)] at hv
     simp only[Prod.mk.injEq] at hv;obtain⟨⟨rfl,rfl⟩,rfl⟩:=hv;subst evs;repeat' (refine And.intro ?_ ?_)
     all_goals exact⟨_,Vw.tuple (rs:=[.agg [(0:Int),.list 13 []],.int .i64 v3]) ⟨Vw.agg (rs:=[.int .i64 0,.list 13 []]) ⟨Vw.same rfl,Vw.nil 13,trivial⟩,Vw.same rfl,trivial⟩,hR _ rfl⟩
    ·have c2:zM 0=0:=by rw[zV];rfl
     have c3:zE .eql 0 0=true:=(by rw[zA];rfl);simp only[c2,c3];cbv;rw[if_neg (show ¬¬(e,([]:List (List Int))).1=0 from λh=>h he0),if_pos rfl] at hv;simp only[Prod.mk.injEq] at hv;obtain⟨⟨rfl,rfl⟩,rfl⟩:=hv;subst evs;repeat' (refine And.intro ?_ ?_)
     all_goals exact⟨_,Vw.tuple (rs:=[.agg [(0:Int),.list 13 []],.int .i64 40]) ⟨Vw.agg (rs:=[.int .i64 0,.list 13 []]) ⟨Vw.same rfl,Vw.nil 13,trivial⟩,Vw.same rfl,trivial⟩,hR _ rfl⟩
   ·intro j kx vx hj hjs
    obtain⟨l,hl,rfl,rfl⟩:∃l,m[j]?=some l/\kx = .agg (toR l).row/\vx = .int .i64 (Bh l):=by
     rw[hem] at hjs;unfold ents at hjs;rw[List.getElem?_map] at hjs
     cases hm:m[j]? with
     | none=>rw[hm] at hjs;cases hjs
     | some l =>
       rw[hm] at hjs;simp only[Option.map_some,Option.some.injEq,enR,List.cons.injEq,and_true] at hjs;exact⟨l,rfl,hjs.1.symm,hjs.2.symm⟩
    have hjm:j<m.length:=(List.getElem?_eq_some_iff.1 hl).1;have hgl:m.getD j []=l:=(by rw[List.getD_eq_getElem?_getD,hl];rfl);obtain⟨sr2,esr2⟩:∃x,x=sr++[[AV.int .i64 (j:Int)]]:=⟨_,rfl⟩;have husr2:Up0 sr2:=(by rw[esr2,hsr];exact UQ sn j);obtain⟨row,erow⟩:=Z.e (toR l);obtain⟨q,eq⟩:=Z.e (Bh l);rw[<- erow,<- eq] at hjs;rw[<- erow,<- eq,<- esr2];have hsr2:sr2=(sn++[j]).map λk:Nat=>[AV.int .i64 (k:Int)]:=(by rw[esr2,hsr];simp);have hnd2:(sn++[j]).Nodup:=List.nodup_append.2 ⟨hnd,by simp,λa ha b hb=>by simp at hb;subst hb;exact λe=>hj (e▸ha)⟩
    have hin2:∀i,i∈sn++[j]->i<m.length:=λi hi=>by
     rcases List.mem_append.1 hi with hi|hi
     ·exact yC i hi
     ·simp at hi;omega
    have hlt:sn.length<m.length:=by
     have:=Md (m.length) (sn++[j]) hnd2 hin2;simp at this;omega
    have erow2:row.row=rtC l:=(by rw[erow];rfl);obtain⟨n,s0,s1,s2,s3,s4,s5,s6,s7,s8,s9,s10,s11⟩:=row;cbv;refine Xo.entry (es:=em) (sr:=sr2) (sr0:=sr) (sn:=sn) rfl rfl htwo enE hsr esr2 hjs ?_;cbv;refine Ob.mk Z.d ?_;refine hN (sn++[j],sr2,some (1,[[.int .i64 n,.int .i64 s0,.int .i64 s1,.int .i64 s2,.int .i64 s3,.int .i64 s4,.int .i64 s5,.int .i64 s6,.int .i64 s7,.int .i64 s8,.int .i64 s9,.int .i64 s10,.int .i64 s11]])) _ _ ?hx ?hi ?ht
    case hx=>(refine Z.k (λj=>[0,1,2,3,4,5,6,7,9].getD j 0) ?_;cbv;(repeat' (first|exact trivial|rfl|assumption|(refine Bn.hd (es0:=sr2) Z.m rfl rfl ?_;cbv)|apply And.intro|(simp only[hz,Z.a,AF,AC,AO,AP,AL,reduceCtorEq];first|done|assumption)|exact Bn.same Z.m (by first|assumption|rfl)|exact FzL.mk rfl rfl rfl Z.m (by first|assumption|rfl) Z.d|(refine Bn.one ?_;cbv))))
    case hi=>exact⟨hnd2,hin2,hsr2,husr2,by simp,by rw[hs0];rfl,rfl,⟨rfl⟩,by rw[hs0];show [R13.row ⟨n,s0,s1,s2,s3,s4,s5,s6,s7,s8,s9,s10,s11⟩]=[rtC (m.getD j [])];rw[hgl,<- erow2]⟩
    case ht=>simp only[List.length_append,List.length_cons,List.length_nil];omega
 | some acc =>
   obtain⟨k,w⟩:=acc;have zJ:sn.Nodup/\(∀i,i∈sn->i<m.length)/\sr=sn.map (λk:Nat=>[AV.int .i64 (k:Int)])/\Up0 sr/\(sn≠[]/\k=sn.length/\k=w.length/\Up0 w/\w=sn.map (λi=>rtC (m.getD i []))):=zJ;obtain⟨hnd,yC,hsr,husr,hs0,hk,hkw,huw,hw2⟩:=zJ;cbv;refine Xo.next (es:=em) (sr:=sr) (sn:=sn) rfl rfl htwo enE hsr ?_ ?_
   ·intro hall
    cbv;refine hE _ _ _ ?_;cbv;have hsp:sn.Perm (List.range m.length):=(List.perm_ext_iff_of_nodup hnd List.nodup_range).2 λi=>⟨λh=>List.mem_range.2 (yC i h),λh=>hall i (by rw[hem,Jo];exact List.mem_range.1 h)⟩
    have hperm:(sn.map λi=>toR (m.getD i [])).Perm (m.map toR):=by
     have e1:(List.range m.length).map (λi=>toR (m.getD i []))=m.map toR:=by
      apply List.ext_getElem
      ·simp
      ·intro i h1 h2
       simp at h1 h2;simp[List.getD_eq_getElem?_getD,h2]
     rw[<- e1];exact hsp.map _
    have hmn:m≠[]:=λh=>by
     rw[h] at yC
     cases sn with
     | nil=>exact hs0 rfl
     | cons a l=>exact absurd (yC a (by simp)) (by simp)
    refine Call.of (dK hP (s:=8) (n:=k) (rs:=sn.map λi=>toR (m.getD i [])) rfl (by rw[hw2,List.map_map];rfl) (by rw[hk,List.length_map]) (by rw[List.length_map];have:=Md _ _ hnd yC;have:m.length<=17:=hok.len;omega) ?_);intro rs' hp1 hp2;have hrs':=gu (hp1.trans hperm) hp2;have hrl':rs'.length=k:=(by rw[hp1.length_eq,hk,List.length_map]);obtain⟨ws,ews⟩:=Z.e (rs'.map R13.row);have hws:ws=(J2 m).map rtC:=(by rw[ews,hrs',List.map_map];rfl);have huws:Up0 ws:=(by rw[hws];exact BM (f:=rtC) (λd=>rfl) _);have hwl:ws.length=k:=(by rw[ews,List.length_map,hrl']);rw[<- ews];clear hw2;cbv;(split<;>rename_i he0<;>(try (simp only[hz,Z.a,AF,AC,AO,AP,AL,reduceCtorEq] at he0))<;>(try cbv))
    ·rw[if_pos (show ¬(e,m).1=0 from he0)] at hv
     simp only[Prod.mk.injEq] at hv;obtain⟨⟨rfl,rfl⟩,rfl⟩:=hv;subst evs;repeat' (refine And.intro ?_ ?_)
     all_goals exact⟨_,Vw.tuple (rs:=[.agg [(0:Int),.list 13 []],.int .i64 v3]) ⟨Vw.agg (rs:=[.int .i64 0,.list 13 []]) ⟨Vw.same rfl,Vw.nil 13,trivial⟩,Vw.same rfl,trivial⟩,hR _ rfl⟩
    ·have c2:zE .eql (zM k) 0=false:=by rw[zA,zV];simp only[AC];rw[beq_eq_false_iff_ne];have h9:sn.length≠0:=(λh=>hs0 (List.length_eq_zero_iff.1 h));show (k:Int)≠0;omega
     simp only[c2];cbv;rw[if_neg (show ¬¬(e,m).1=0 from λh=>h he0),if_neg hmn] at hv;simp only[Prod.mk.injEq] at hv;obtain⟨⟨rfl,rfl⟩,rfl⟩:=hv;have e1:(ws.drop 0).take k=ws:=by rw[List.drop_zero,List.take_of_length_le Z.o]
     have hvw:∀h:A7,h[8]?=some (.live 13 ws)->Vw h (.sl 8 13 0 k) (.list 13 ws):=λh hh=>by
      have:=Vw.sl hh huws.get (i:=0) (n:=k) Z.o
      rwa [e1] at this
     exact⟨_,Vw.tuple (rs:=[.agg [v1,.list 13 ws],.int .i64 0]) ⟨Vw.agg (rs:=[.int .i64 v1,.list 13 ws]) ⟨Vw.same rfl,hvw _ rfl,trivial⟩,Vw.same rfl,trivial⟩,hR _ (by rw[evs,hws])⟩
   ·intro j kx vx hj hjs
    obtain⟨l,hl,rfl,rfl⟩:∃l,m[j]?=some l/\kx = .agg (toR l).row/\vx = .int .i64 (Bh l):=by
     rw[hem] at hjs;unfold ents at hjs;rw[List.getElem?_map] at hjs
     cases hm:m[j]? with
     | none=>rw[hm] at hjs;cases hjs
     | some l =>
       rw[hm] at hjs;simp only[Option.map_some,Option.some.injEq,enR,List.cons.injEq,and_true] at hjs;exact⟨l,rfl,hjs.1.symm,hjs.2.symm⟩
    have hjm:j<m.length:=(List.getElem?_eq_some_iff.1 hl).1;have hgl:m.getD j []=l:=(by rw[List.getD_eq_getElem?_getD,hl];rfl);obtain⟨sr2,esr2⟩:∃x,x=sr++[[AV.int .i64 (j:Int)]]:=⟨_,rfl⟩;have husr2:Up0 sr2:=(by rw[esr2,hsr];exact UQ sn j);obtain⟨row,erow⟩:=Z.e (toR l);obtain⟨q,eq⟩:=Z.e (Bh l);rw[<- erow,<- eq] at hjs;rw[<- erow,<- eq,<- esr2];have hsr2:sr2=(sn++[j]).map λk:Nat=>[AV.int .i64 (k:Int)]:=(by rw[esr2,hsr];simp);have hnd2:(sn++[j]).Nodup:=List.nodup_append.2 ⟨hnd,by simp,λa ha b hb=>by simp at hb;subst hb;exact λe=>hj (e▸ha)⟩
    have hin2:∀i,i∈sn++[j]->i<m.length:=λi hi=>by
     rcases List.mem_append.1 hi with hi|hi
     ·exact yC i hi
     ·simp at hi;omega
    have hlt:sn.length<m.length:=by
     have:=Md (m.length) (sn++[j]) hnd2 hin2;simp at this;omega
    have erow2:row.row=rtC l:=(by rw[erow];rfl);obtain⟨n,s0,s1,s2,s3,s4,s5,s6,s7,s8,s9,s10,s11⟩:=row;cbv;refine Xo.entry (es:=em) (sr:=sr2) (sr0:=sr) (sn:=sn) rfl rfl htwo enE hsr esr2 hjs ?_;cbv;obtain⟨w2,ew2⟩:=Z.e (w++[[.int .i64 n,.int .i64 s0,.int .i64 s1,.int .i64 s2,.int .i64 s3,.int .i64 s4,.int .i64 s5,.int .i64 s6,.int .i64 s7,.int .i64 s8,.int .i64 s9,.int .i64 s10,.int .i64 s11]]);obtain⟨k2,ek2⟩:=Z.e (k+1);have hw3:w2=(sn++[j]).map (λi=>rtC (m.getD i [])):=by rw[ew2,hw2,List.map_append];show _++[R13.row ⟨n,s0,s1,s2,s3,s4,s5,s6,s7,s8,s9,s10,s11⟩]=_++[rtC (m.getD j [])];rw[hgl,<- erow2]
    have huw2:Up0 w2:=(by rw[hw3];exact BM (f:=λi=>rtC (m.getD i [])) (λd=>rfl) (sn++[j]));have hm17:m.length<=17:=hok.len;refine App.mk w2 k2 ew2 hkw ek2 Z.o Z.o ?_;cbv;refine hN (sn++[j],sr2,some (k2,w2)) _ _ ?hx ?hi ?ht
    case hx=>(refine Z.k (λj=>[0,1,2,3,4,5,6,7,10].getD j 0) ?_;cbv;(repeat' (first|exact trivial|rfl|assumption|(refine Bn.hd (es0:=sr2) Z.m rfl rfl ?_;cbv)|apply And.intro|(simp only[hz,Z.a,AF,AC,AO,AP,AL,reduceCtorEq];first|done|assumption)|exact Bn.same Z.m (by first|assumption|rfl)|exact FzL.mk rfl rfl rfl Z.m (by first|assumption|rfl) Z.d|(refine Bn.one ?_;cbv))))
    case hi=>exact⟨hnd2,hin2,hsr2,husr2,by simp,by simp;omega,by rw[ew2,ek2];simp;omega,huw2,hw3⟩
    case ht=>simp only[List.length_append,List.length_cons,List.length_nil];omega
def Gn(ss:List Sg)(lo hi from_:Int)(l:List Int):Prop:=lo<=BU ss from_ l/\(hi<=BU ss from_ l\/nxAt ss (Bw l)=[])
theorem h_(ss:List Sg)(from_:Int)(l:List Int)(n:Int):BU ss from_ (l++[n])=BU ss from_ l+BD ss n:=by unfold BU;rw[List.foldl_append];rfl
theorem Cu.snoc{ss:List Sg}(yK:EJ ss){l:List Int}(h:Cu ss l)(h12:l.length≠12){n q:Int}(hn:n∈nxAt ss q):Cu ss (l++[n]):=by
 have h1:=h.len;refine⟨by simp;omega,λx hx=>?_⟩;rcases List.mem_append.1 hx with hx|hx
 ·exact h.seg x hx
 ·simp at hx;subst hx;exact O_ yK hn
theorem UR{ss:List Sg}(yK:EJ ss){lo hi from_:Int}:∀(f:Nat) (l:List Int) (s:Int×List (List Int)),Cu ss l->(∀k,k∈s.2->Cu ss k/\Gn ss lo hi from_ k)->∀k,k∈(Be ss lo hi f l (BU ss from_ l) s).2->Cu ss k/\Gn ss lo hi from_ k
 | 0,l,s,hl,hs=>hs
 | f+1,l,s,hl,hs=>by
   unfold Be;split
   ·exact hs
   ·split
    ·rename_i hc
     intro k hk;by_cases hlo:lo<=BU ss from_ l
     ·simp only[if_pos hlo] at hk
      rcases TK.1 hk with hk|rfl
      ·exact hs k hk
      ·exact⟨hl,hlo,hc⟩
     ·simp only[if_neg hlo] at hk
      exact hs k hk
    ·split
     ·exact hs
     ·rename_i h12
      have step:∀(ns:List Int) (s:Int×List (List Int)),(∀n,n∈ns->n∈nxAt ss (Bw l))->(∀k,k∈s.2->Cu ss k/\Gn ss lo hi from_ k)->∀k,k∈(ns.foldl (λs n=>Be ss lo hi f (l++[n]) (BU ss from_ l+BD ss n) s) s).2->Cu ss k/\Gn ss lo hi from_ k:=by
       intro ns
       induction ns with
       | nil=>intro s _ h;exact h
       | cons n ns ih =>
         intro s hns h;refine ih _ (λx hx=>hns x (List.mem_cons_of_mem _ hx)) ?_;have:=UR yK f (l++[n]) s (hl.snoc yK h12 (hns n List.mem_cons_self)) h;rw[h_] at this;exact this
      exact step _ s (λn hn=>hn) hs
theorem Me{α β: Type}{f: β -> α -> β}{P: β -> Prop}:∀(l:List α) (s: β),P s->(∀s a,a∈l->P s->P (f s a))->P (l.foldl f s)
 | [],s,h,_=>h
 | a::l,s,h,hf=>Me l (f s a) (hf s a List.mem_cons_self h) λs b hb=>hf s b (List.mem_cons_of_mem _ hb)
theorem iA{ss:List Sg}(yK:EJ ss){lo hi from_:Int}(ls:List (List Int))(hl:∀l,l∈ls->Cu ss l):∀k,k∈(EL ss lo hi from_ ls).2->Cu ss k/\Gn ss lo hi from_ k:=
 Me (P:=λs:Int×List (List Int)=>∀k,k∈s.2->Cu ss k/\Gn ss lo hi from_ k) ls _ (λk hk=>by simp at hk) λs l h hs=>UR yK _ l s (hl l h) hs
theorem iB{ss:List Sg}{lo hi from_:Int}(ls:List (List Int))(hl:∀l,l∈ls->Cu ss l):GOk (EL ss lo hi from_ ls):=
 Me (P:=GOk) ls _ ⟨by simp,λ_=>by simp,λk hk=>by simp at hk,List.nodup_nil⟩ λs l h hs=>MO ss lo hi _ l _ s hs (hl l h).len
theorem iC{ss:List Sg}{lo hi from_:Int}(ls:List (List Int)):(EL ss lo hi from_ ls).1=0\/(EL ss lo hi from_ ls).1=13:=
 Me (P:=λs:Int×List (List Int)=>s.1=0\/s.1=13) ls _ (.inl rfl) λs l h hs=>MP ss lo hi _ l _ s hs
theorem iD{m:List (List Int)}{l:List Int}:l∈J2 m↔l∈m:=(Js m).mem_iff
structure iE(ss:List Sg)(lo hi from_:Int)(m:List (List Int)):Prop where
 le:lo<=hi /\ -from_<=lo
 ways:∀l,l∈m->Cu ss l/\Gn ss lo hi from_ l
 nd:m.Nodup
 few:m.length<=16
 some:m≠[]
 sort:m.Pairwise (λx y=>¬ltR y x)
theorem Oh{ss:List Sg}(yK:EJ ss){lo hi from_:Int}(ls:List (List Int))(hl:∀l,l∈ls->Cu ss l){v:(Int×List (List Int))×Int}(hv:v=Ei ss lo hi from_ ls):(v.2≠0/\v.1.2=[])\/(v.2=0/\v.1.1=from_/\iE ss lo hi from_ v.1.2):=by
 unfold Ei at hv;split at hv
 ·rw[hv];exact .inl ⟨by decide,rfl⟩
 ·rename_i h1
  split at hv
  ·rename_i h2;rw[hv];exact .inl ⟨h2,rfl⟩
  ·rename_i h2
   have h2:(EL ss lo hi from_ ls).1=0:=Classical.not_not.1 h2;split at hv
   ·rw[hv];exact .inl ⟨by decide,rfl⟩
   ·rename_i h3
    rw[hv];have hok:=iB (lo:=lo) (hi:=hi) (from_:=from_) ls hl
    exact .inr ⟨rfl,rfl,by omega,λl h=>iA yK ls hl l (iD.1 h),(Js _).nodup_iff.2 hok.nd,by rw[(Js _).length_eq];exact hok.few h2,
     λh=>h3 (List.length_eq_zero_iff.1 (by rw[<- (Js _).length_eq];simp only at h;rw[h];rfl)),PT _⟩
section
variable (ss:List Sg) (lo hi from_:Int)
def UT(l:List Int):Prop:=hi<=BU ss from_ l\/nxAt ss (Bw l)=[]
instance (l:List Int):Decidable (UT ss hi from_ l):=inferInstanceAs (Decidable (_\/_))
def UU(l:List Int):Prop:=¬UT ss hi from_ l/\l.length=12
structure FP(R:List Int->Prop)(s s':Int×List (List Int)):Prop where
 stay:s.1≠0->s'.1≠0
 good:s'.1=0->(∀k,k∈s'.2↔k∈s.2\/(R k/\Gn ss lo hi from_ k))/\(∀k,R k->¬UU ss hi from_ k)
 bad:s.1=0->s'.1≠0->(∃k,R k/\UU ss hi from_ k)\/(∃L:List (List Int),L.Nodup/\17<=L.length/\∀k,k∈L->k∈s.2\/(R k/\Gn ss lo hi from_ k))
end
variable {ss:List Sg} {lo hi from_:Int}
theorem FP.nil(s:Int×List (List Int)):FP ss lo hi from_ (λ_=>False) s s:=
 ⟨id,λ_=>⟨λk=>by simp,λk h=>h.elim⟩,λh h'=>absurd h h'⟩
end Go.Proofs.YtlchlddijclhjaaGreat
namespace Go.Proofs.YtlchlddijclhjaaGreat
open Go Go.RowKit Go.Eng
set_option maxRecDepth 100000
theorem UV{ss:List Sg}{lo hi from_:Int}{ls:List (List Int)}{v1 v3:Int}{v2:List (List Int)}(h:((v1,v2),v3)=Ei ss lo hi from_ ls):v3=0\/v3=13\/v3=40:=by
 have he:=iC (ss:=ss) (lo:=lo) (hi:=hi) (from_:=from_) ls;unfold Ei at h;split at h
 ·simp only[Prod.mk.injEq] at h;exact .inr (.inr h.2)
 ·split at h
  ·simp only[Prod.mk.injEq] at h;rw[h.2];exact he.imp id .inl
  ·split at h
   ·simp only[Prod.mk.injEq] at h;exact .inr (.inr h.2)
   ·simp only[Prod.mk.injEq] at h;exact .inl h.2
structure PlT where
 lo:Int
 hi:Int
 est:Int
 m:List (List Int)
structure Kg(ss:List Sg)(p:PlT):Prop where
 lo: -17592186044416<=p.lo
 hi:p.hi<=17592186044416
 le:p.lo<=p.est/\p.est<=p.hi
 way:∀l,l∈p.m->Cu ss l
 few:p.m.length<=16
def Dr(ss:List Sg)(from_:Int)(p:PlT)(a b:Int):PlT×Int:=
 if p.lo+a < -17592186044416\/17592186044416<p.hi+b then (p,20)
 else (⟨p.lo+a,p.hi+b,max (p.lo+a) (min (p.est+(a+b)/2) (p.hi+b)),(Ei ss (p.lo+a) (p.hi+b) from_ p.m).1.2⟩,(Ei ss (p.lo+a) (p.hi+b) from_ p.m).2)
theorem SE{ss:List Sg}(yK:EJ ss){from_:Int}{p:PlT}(hp:Kg ss p){a b:Int}(hab:a<=b){q:PlT}{e:Int}(hv:(q,e)=Dr ss from_ p a b):(e=0/\Kg ss q)\/e=13\/e=20\/e=40:=by
 have h1:=hp.lo;have h2:=hp.hi;have h3:=hp.le;unfold Dr at hv;split at hv
 ·simp only[Prod.mk.injEq] at hv;exact .inr (.inr (.inl hv.2))
 ·rename_i hn
  simp only[Prod.mk.injEq] at hv;have hc:=Oh (lo:=p.lo+a) (hi:=p.hi+b) (from_:=from_) yK p.m hp.way rfl;have he:e=0\/e=13\/e=40:=UV (ss:=ss) (lo:=p.lo+a) (hi:=p.hi+b) (from_:=from_) (ls:=p.m) (v1:=(Ei ss (p.lo+a) (p.hi+b) from_ p.m).1.1) (v2:=(Ei ss (p.lo+a) (p.hi+b) from_ p.m).1.2) (by rw[hv.2]);rcases he with he|he|he
  ·refine .inl ⟨he,?_⟩
   rcases hc with hc|hc
   ·exact absurd (hv.2.symm.trans he) hc.1
   ·rw[hv.1]
    exact⟨by simp only;omega,by simp only;omega,by simp only;omega,λl hl=>(hc.2.2.ways l hl).1,hc.2.2.few⟩
  ·exact .inr (.inl he)
  ·exact .inr (.inr (.inr he))
theorem iG(ss:List Sg)(gs:List Gr)(es ds:List (List AV))(zQ:es=ss.map Ah)(zY:ds=gs.map Ak)(hln:CS ss)(yK:EJ ss)(g from_:Int)(hf:0<=from_/\from_<=1099511627776)(p:PlT)(hp:Kg ss p)(rs:List (List AV))(yD:rs=p.m.map rtC)(a b:Int)(hab:a<=b)(ha: -1099511627776<=a)(hb:b<=1099511627776)(q:PlT)(e:Int)(hv:(q,e)=Dr ss from_ p a b)(us:List (List AV))(hus:us=q.m.map rtC) :
 A9 Tryz.prog 97 [.agg [.bool true,g,p.lo,p.hi,p.est,from_,.list 13 rs],.agg [.list 3 es,.list 5 ds],.agg [a,b]] (λr=>(e=0/\r = .tuple [.agg [.bool true,g,q.lo,q.hi,q.est,from_,.list 13 us],(0:Int)])\/(e≠0/\r = .tuple [.agg [.bool false,(0:Int),(0:Int),(0:Int),(0:Int),(0:Int),.nils],e])):=by
 have hu:Up0 es:=by rw[zQ];exact Bu ss
 have hud:Up0 ds:=by rw[zY];exact Bv gs
 have hur:Up0 rs:=by rw[yD];exact BM (f:=rtC) (λd=>rfl) p.m
 have huu:Up0 us:=by rw[hus];exact BM (f:=rtC) (λd=>rfl) q.m
 have hlo:=hp.lo;have hhi:=hp.hi;have hle:=hp.le;have hfew:=hp.few;obtain⟨v,ev⟩:=Z.e (Ei ss (p.lo+a) (p.hi+b) from_ p.m);have hA:=g_ ss gs es ds zQ zY hln yK (p.lo+a) (p.hi+b) from_ hf p.m hp.way Z.o rs yD v ev;have hok:=Oh yK p.m hp.way ev;unfold Dr at hv;rw[<- ev] at hv;have hem:=UV (show ((v.1.1,v.1.2),v.2)=_ from ev);obtain⟨⟨v1,v2⟩,v3⟩:=v;obtain⟨lo,hi,est,m⟩:=p;simp only at hlo hhi hle hA hv yD hfew hem hok;obtain⟨l',el'⟩:=Z.f (lo+a);obtain⟨h',eh'⟩:=Z.f (hi+b);obtain⟨md,emd⟩:∃x,(a+b)/2=x:=⟨_,rfl⟩;obtain⟨s',es'⟩:=Z.f (est+md);obtain⟨t',et'⟩:=Z.f (max l' (min s' h'));obtain⟨u',eu'⟩:=Z.f (v2.map rtC);rw[el',eh',emd,es',et'] at hv;rw[el',eh'] at hA;have hA:A9 Tryz.prog 153 [.agg [from_,.list 13 rs],.agg [.list 3 es,.list 5 ds],.agg [l',h']] (· = .tuple [.agg [v1,.list 13 u'],v3]):=by rw[<- eu'];exact hA
 have hugA:Af 0 [AV.agg [from_,.list 13 rs],.agg [.list 3 es,.list 5 ds],.agg [l',h']]=true:=by simp only[Af,AV.upto,hu.get,hud.get,hur.get];rfl
 have s1:=MQ Z.o hab el' eh' ⟨by omega,by omega⟩ ⟨by omega,by omega⟩ ⟨by omega,by omega⟩ ⟨by omega,by omega⟩;have s3:=Jd emd ⟨by omega,by omega⟩ ⟨by omega,by omega⟩;have s4:=TN es' ⟨by omega,by omega⟩ ⟨by omega,by omega⟩;have s5:=dR et';obtain⟨o,eo⟩:=Z.f (decide (l'<=h' -> -17592186044416<=l'/\h'<=17592186044416));have s2:=TP o eo;show A9 Tryz.prog 97 [.agg [.bool true,g,lo,hi,est,from_,.list 13 rs],.agg [.list 3 es,.list 5 ds],.agg [a,b]] _;refine Z.y Tryz.func97 λ_ _ _ _ zF _ _ _ _ _ _ zI _ hz R hR P hP=>?_;cbv;have n1:zF true=false:=by rw[zI];rfl
 have n2:zF false=true:=by rw[zI];rfl
 simp only[n1];cbv;refine Call.stepE (by rw[<- hP];exact s1) rfl ?_;cbv;simp only[n1];cbv;refine Call.stepE (by rw[<- hP];exact s2) rfl ?_;have hRR:∀r,((e=0/\r = .tuple [.agg [.bool true,g,q.lo,q.hi,q.est,from_,.list 13 us],(0:Int)])\/(e≠0/\r = .tuple [.agg [.bool false,(0:Int),(0:Int),(0:Int),(0:Int),(0:Int),.nils],e]))->R r:=hR;have hZ2:∀(x:Int) (h:A7),e≠0->x=e->Ret [.agg [.bool false,(0:Int),(0:Int),(0:Int),(0:Int),(0:Int),.nils],.int .i64 x] h R:=λx h h0 hx=>⟨_,Vw.same rfl,hR _ (.inr ⟨h0,by rw[<- hx];rfl⟩)⟩
 have hY:∀h:A7,e=0->q=⟨l',h',t',v2⟩->Ret [.agg [.bool true,g,l',h',t',from_,.list 13 u'],.int .i64 0] h R:=λh h0 hq=>by
  have huu':Up0 u':=(by rw[<- eu'];exact BM (f:=rtC) (λd=>rfl) v2);refine⟨_,Vw.same (by simp only[Cb,AV.upto,Af,huu'.get];rfl),hR _ (.inl ⟨h0,?_⟩)⟩;rw[hq] at hus ⊢;rw[hus,<- eu'];rfl
 by_cases hov:l' < -17592186044416\/17592186044416<h'
 ·rw[if_pos hov] at hv
  simp only[Prod.mk.injEq] at hv;have ho:o=false:=(by rw[<- eo];simp;omega);rw[ho];cbv;simp only[n2];cbv;exact hZ2 20 _ Z.o hv.2.symm
 ·rw[if_neg hov] at hv
  simp only[Prod.mk.injEq] at hv;have ho:o=true:=(by rw[<- eo];simp;omega);rw[ho];cbv;simp only[n1];cbv;refine Call.stepE (by rw[<- hP];exact hA) (by exact hugA) ?_;cbv;(split<;>rename_i h5<;>(try (simp only[hz,Z.a,AF,AC,AO,AP,AL,reduceCtorEq] at h5))<;>(try cbv))
  ·exact hZ2 v3 _ Z.o hv.2.symm
  have hv1:v1=from_:=by
   rcases hok with h|h
   ·exact absurd h5 h.1
   ·exact h.2.1
  subst hv1
  repeat' (first
   | (refine Call.stepE (by rw[<- hP];exact s3) rfl ?_;cbv)
   | (refine AB.stepE (by rw[<- hP];exact s3) rfl ?_;cbv)
   | (refine Call.stepE (by rw[<- hP];exact s4) rfl ?_;cbv)
   | (refine AB.stepE (by rw[<- hP];exact s4) rfl ?_;cbv)
   | (refine Call.stepE (by rw[<- hP];exact s5) rfl ?_;cbv)
   | (refine AB.stepE (by rw[<- hP];exact s5) rfl ?_;cbv)
   | (refine And.intro ?_ ?_))
  all_goals exact hY _ Z.o hv.1
def JG:Pz:=⟨0,0,0,0,[]⟩
def Bi(ss:List Sg)(mm:List (List Int))(n:Nv)(a b:Int):Nv×List (List Int)×Bool:=
 if n.on=true then
  if (Dr ss n.p.fr ⟨n.p.lo,n.p.hi,n.p.est,mm⟩ a b).2=0 then ({ n with lo:=a,hi:=b,di:=n.di+CF ((a+b)/2),p:=⟨(Dr ss n.p.fr ⟨n.p.lo,n.p.hi,n.p.est,mm⟩ a b).1.lo,(Dr ss n.p.fr ⟨n.p.lo,n.p.hi,n.p.est,mm⟩ a b).1.hi,(Dr ss n.p.fr ⟨n.p.lo,n.p.hi,n.p.est,mm⟩ a b).1.est,n.p.fr,(Dr ss n.p.fr ⟨n.p.lo,n.p.hi,n.p.est,mm⟩ a b).1.m.map rtC⟩ },(Dr ss n.p.fr ⟨n.p.lo,n.p.hi,n.p.est,mm⟩ a b).1.m,false)
  else ({ n with lo:=a,hi:=b,di:=n.di+CF ((a+b)/2),on:=false,gr:=0,p:=JG },[],decide ((Dr ss n.p.fr ⟨n.p.lo,n.p.hi,n.p.est,mm⟩ a b).2=20))
 else ({ n with lo:=a,hi:=b,di:=n.di+CF ((a+b)/2) },mm,false)
theorem Vn(ss:List Sg)(gs:List Gr)(mm:List (List Int))(n:Nv)(hu:NvU n)(zQ:n.es=ss.map Ah)(zY:n.ds=gs.map Ak)(hln:CS ss)(yK:EJ ss)(hon:n.on=true)(hfr:0<=n.p.fr/\n.p.fr<=1099511627776)(hp:Kg ss ⟨n.p.lo,n.p.hi,n.p.est,mm⟩)(yD:n.p.rs=mm.map rtC)
 (a b:Int) (hab:a<=b) (ha: -1099511627776<=a) (hb:b<=1099511627776) (hd:0<=n.di/\n.di<=2305843009213693952) (v:Nv) (m2:List (List Int)) (o:Bool) (hv:(v,m2,o)=Bi ss mm n a b) :
 AJ Tryz.prog 47 [.ref 0 55 0 0,.agg [a,b]] [.live 55 [n.row]] (λr hp=>r = .bool o/\∃j,hp = .live 55 [v.row]::j):=by
 refine AJ.mono (AJ.give (h':=[.live 55 [v.row]]) (r':=.bool o) ?_) (λr h hh=>⟨hh.1,[],hh.2⟩);obtain⟨md,emd⟩:∃x,(a+b)/2=x:=⟨_,rfl⟩;obtain⟨sz,esz⟩:=Z.e (CF md);obtain⟨di',edi⟩:=Z.f (n.di+sz);have hmd: -1099511627776<=md/\md<=1099511627776:=by omega
 have hsz:0<=sz/\sz<=1099511627776:=by rw[esz];unfold CF;split<;>omega
 have q1:=Jd emd (show I64 a by unfold I64;omega) (show I64 b by unfold I64;omega);have q2:=UH esz (show I62 md by unfold I62;omega);have q3:=Iy edi (show I62 n.di by unfold I62;omega) (show I62 sz by unfold I62;omega);obtain⟨⟨q,e⟩,eq⟩:∃x,x=Dr ss n.p.fr ⟨n.p.lo,n.p.hi,n.p.est,mm⟩ a b:=⟨_,rfl⟩;obtain⟨us,eus⟩:=Z.e (q.m.map rtC);have q4:=iG ss gs n.es n.ds zQ zY hln yK n.gr n.p.fr hfr ⟨n.p.lo,n.p.hi,n.p.est,mm⟩ hp n.p.rs yD a b hab ha hb q e eq us eus;have hE:=SE yK hp hab eq;have huu:Up0 us:=by rw[eus];exact BM (f:=rtC) (λd=>rfl) q.m
 unfold Bi at hv;rw[if_pos hon,emd,<- esz,edi,<- eq] at hv;simp only at hv;rw[<- eus] at hv;have hu1:=hu;clear esz edi hsz emd hd hmd eq hp;obtain⟨qlo,qhi,qest,qm⟩:=q;simp only at hv q4;obtain⟨hue,hud,huo,hur⟩:=hu1;by_cases he:e=0
 ·subst he
  rw[if_pos rfl] at hv;simp only[Prod.mk.injEq] at hv;obtain⟨rfl,rfl,rfl⟩:=hv
  have q5:=q4.mono (R':=(· = .tuple [.agg [.bool true,n.gr,qlo,qhi,qest,n.p.fr,.list 13 us],(0:Int)])) (by
   rintro r (⟨_,h⟩|⟨h,_⟩)
   ·exact h
   ·exact absurd rfl h)
  clear q4 hE eus;obtain⟨⟨c0,c1,c2,c3,c4,c5,c6,c7,c8,c9,c10,c11,c12,c13⟩,es,ds,cy,g0,g1,os,⟨kn0,la0,su0⟩,⟨kn1,la1,su1⟩,a0,b0,a1,b1,lo,hi,di,on,gr,⟨pl,ph,pe,fr,rs⟩,cl,o0,o1,s0,s1,sc,so,ra,ro,m0,m1,⟨wi,wt,wf⟩⟩:=n;simp only at hon q3 q5 hue hud huo hur;subst hon;have u0:Up0 [c0::c1::c2::c3::c4::c5::c6::c7::c8::c9::c10::c11::c12::c13 :: .list 3 es :: .list 5 ds :: .bool false::cy::g0::g1 :: .list 1 os::kn0 :: .int .u16 la0::su0::[kn1,.int .u16 la1,su1,a0,b0,a1,b1,lo,hi,di,.bool true,gr,pl,ph,pe,fr,.list 13 rs,cl,o0,o1,s0,s1,sc,so,ra,ro,m0,m1,wi,wt,wf]]:=hu.row;refine Z.x Tryz.func47 λ_ _ _ _ zF _ _ _ zA _ _ zI _ hz P hP=>?_;cbv;have n1:zF false=true:=(by rw[zI];rfl);have n2:zF true=false:=(by rw[zI];rfl);have d1:=W.neq zA (show (0:Int)≠20 by decide);repeat' (first|(simp only[n1,n2,d1];cbv)|(refine Call.s hP q1 ?_;cbv)|(refine AB.s hP q1 ?_;cbv)|(refine Call.s hP q2 ?_;cbv)|(refine AB.s hP q2 ?_;cbv)|(refine Call.s hP q3 ?_;cbv)|(refine AB.s hP q3 ?_;cbv)|(refine Call.s hP q5 ?_;cbv)|(refine AB.s hP q5 ?_;cbv)|fail)
  all_goals first|(refine WkB.mk ?_;(refine Z.n (id) ?_;cbv<;>exact Z.q))|(skip;skip;fail   )
 ·rw[if_neg he] at hv
  simp only[Prod.mk.injEq] at hv;obtain⟨rfl,rfl,eo⟩:=hv
  have q5:=q4.mono (R':=(· = .tuple [.agg [.bool false,(0:Int),(0:Int),(0:Int),(0:Int),(0:Int),.nils],e])) (by
   rintro r (⟨h,_⟩|⟨_,h⟩)
   ·exact absurd h he
   ·exact h)
  clear q4 hE eus he;obtain⟨⟨c0,c1,c2,c3,c4,c5,c6,c7,c8,c9,c10,c11,c12,c13⟩,es,ds,cy,g0,g1,os,⟨kn0,la0,su0⟩,⟨kn1,la1,su1⟩,a0,b0,a1,b1,lo,hi,di,on,gr,⟨pl,ph,pe,fr,rs⟩,cl,o0,o1,s0,s1,sc,so,ra,ro,m0,m1,⟨wi,wt,wf⟩⟩:=n;simp only at hon q3 q5 hue hud huo hur;subst hon;have u0:Up0 [c0::c1::c2::c3::c4::c5::c6::c7::c8::c9::c10::c11::c12::c13 :: .list 3 es :: .list 5 ds :: .bool false::cy::g0::g1 :: .list 1 os::kn0 :: .int .u16 la0::su0::[kn1,.int .u16 la1,su1,a0,b0,a1,b1,lo,hi,di,.bool true,gr,pl,ph,pe,fr,.list 13 rs,cl,o0,o1,s0,s1,sc,so,ra,ro,m0,m1,wi,wt,wf]]:=hu.row;refine Z.x Tryz.func47 λ_ zE _ _ zF _ _ _ zA _ _ zI _ hz P hP=>?_;cbv;have n1:zF false=true:=(by rw[zI];rfl);have n2:zF true=false:=(by rw[zI];rfl);have d1:zE .eql e 20=o:=(by rw[zA,eo];rfl);clear eo;repeat' (first|(simp only[n1,n2,d1];cbv)|(refine Call.s hP q1 ?_;cbv)|(refine AB.s hP q1 ?_;cbv)|(refine Call.s hP q2 ?_;cbv)|(refine AB.s hP q2 ?_;cbv)|(refine Call.s hP q3 ?_;cbv)|(refine AB.s hP q3 ?_;cbv)|(refine Call.s hP q5 ?_;cbv)|(refine AB.s hP q5 ?_;cbv)|fail)
  all_goals first|(refine WkB.mk ?_;(refine Z.n (id) ?_;cbv<;>exact Z.q))|(skip;skip;fail   )
theorem VW(n:Nv)(hu:NvU n)(m:Ml)(hm:m.has 5=false)(won:Bool)(wgr wl wh we wfr:Int)(ws:List (List AV))(huw:Up0 ws)(a b:Int) :
 AJ Tryz.prog 48 [.ref 0 55 0 0,.agg m.row,.agg [won,wgr,wl,wh,we,wfr,.list 13 ws],.agg [a,b]] [.live 55 [n.row]] (λr hp=>r = .agg [(0:Int),.list 1 [],.bool true,.bool false]/\∃j,hp = .live 55 [n.row]::j):=by
 refine AJ.mono (AJ.give (h':=[.live 55 [n.row]]) (r':=.agg [(0:Int),.list 1 [],.bool true,.bool false]) ?_) (λr h hh=>⟨hh.1,[],hh.2⟩);obtain⟨x,ex⟩:=Z.e (m.val 5);have q1:=G_ m 5 (.inr (.inr (.inr (.inr rfl)))) x false ex hm.symm;clear ex hm;have u0:=hu.row;obtain⟨⟨c0,c1,c2,c3,c4,c5,c6,c7,c8,c9,c10,c11,c12,c13⟩,es,ds,cy,g0,g1,os,⟨kn0,la0,su0⟩,⟨kn1,la1,su1⟩,a0,b0,a1,b1,lo,hi,di,on,gr,⟨pl,ph,pe,fr,rs⟩,cl,o0,o1,s0,s1,sc,so,ra,ro,m0,m1,⟨wi,wt,wf⟩⟩:=n;obtain⟨hue,hud,huo,hur⟩:=hu;simp only at hue hud huo hur;obtain⟨p1,p2,p3,p4,p5,x1,x2,x3,x4,x5,bad,stale,twice,beyond⟩:=m;refine Z.x Tryz.func48 λ_ _ _ _ zF _ _ _ _ _ _ zI _ hz P hP=>?_;cbv;have n1:zF false=true:=by rw[zI];rfl
 repeat' (first|(simp only[n1];cbv)|(refine Call.s hP q1 ?_;cbv)|(refine AB.s hP q1 ?_;cbv)|fail)
 all_goals first|(refine WkB.mk ?_;(refine Z.n (id) ?_;cbv<;>exact Z.q))|fail
def Cz(w lo hi:Int)(ps:List Int):List Int:=ps.filter λa=>decide (a-w<=hi/\lo<=a+w)
theorem iH(c0 c1 c2 c3 c4 c5 c6 c7 c8 c9 c10 c11 c12 c13 g1 g2 g3 g4 g5 w:Int)(h:g4+c8+g5=w)(h1:0<=c8/\c8<=1048576)(h2:0<=g4/\g4<=1048576)(h3:0<=g5/\g5<=16777216) :
 A9 Tryz.prog 215 [.agg [c0,c1,c2,c3,c4,c5,c6,c7,c8,c9,c10,c11,c12,c13],.agg [g1,g2,g3,g4,g5]] (· = .int .i64 w):=by
 refine Z.y Tryz.func215 λzB _ _ _ _ _ hw zC _ _ _ _ _ hz R hR P hP=>?_;cbv;obtain⟨x,ex⟩:=Z.f (g4+c8);have e1:zB .add .i64 g4 c8=x:=by rw[zC,Ag Z.o Z.o];exact ex
 have e2:zB .add .i64 x g5=w:=by rw[zC,Ag Z.o Z.o];omega
 simp only[e1,e2];exact Z.r hR
theorem UW{a w l h:Int}(h0:0<=w)(hl:a-w=l)(hh:a+w=h)(ha:I62 a)(hw:I62 w):A9 Tryz.prog 203 [a,w] (· = .tuple [.agg [l,h],.bool true]):=by
 have hg:A9 Tryz.prog 146 [.agg [a,a],w] (· = .tuple [.agg [l,h],.bool true]):=by
  have r1:=Dt (a:=a) (b:=a) true (by simp);have s1:=Je hl ha hw;have s2:=Iy hh ha hw;have b1:=Kk (lo:=l) (hi:=h) Z.o;refine Z.y Tryz.func146 λ_ _ _ _ zF _ _ _ _ _ _ zI _ hz R hR P hP=>?_;cbv;have n1:zF true=false:=by rw[zI];rfl
  repeat' (first
   | (refine Call.stepE (by rw[<- hP];exact r1) rfl ?_;cbv;simp only[n1];cbv)
   | (refine Call.stepE (by rw[<- hP];exact s1) rfl ?_;cbv)
   | (refine Call.stepE (by rw[<- hP];exact s2) rfl ?_;cbv)
   | (refine Call.stepE (by rw[<- hP];exact b1) rfl ?_;cbv))
  exact Z.r hR
 have h2:A9 Tryz.prog 82 [a] (· = .agg [a,a]):=by
  refine Z.y Tryz.func82 λ_ _ _ _ _ _ _ _ _ _ _ _ _ hz R hR P hP=>?_;cbv;exact Z.r hR
 refine Z.y Tryz.func203 λ_ _ _ _ _ _ _ _ _ _ _ _ _ hz R hR P hP=>?_;cbv
 repeat' (first
  | (refine Call.stepE (by rw[<- hP];exact h2) rfl ?_;cbv)
  | (refine Call.stepE (by rw[<- hP];exact hg) rfl ?_;cbv))
 exact Z.r hR
theorem iI(c0 c1 c2 c3 c4 c5 c6 c7 c8 c9 c10 c11 c12 c13:Int)(hc:0<=c8/\c8<=1048576)(es ds rs:List (List AV))(hu:Up0 es)(hud:Up0 ds)(hur:Up0 rs)(from_ lo hi g:Int)(hg:0<=g)(g1 g2 g3 g4 g5:Int)(hG:ds[g.toNat]?=some [.int .i64 g1,.int .i64 g2,.int .i64 g3,.int .i64 g4,.int .i64 g5])(h4:0<=g4/\g4<=1048576)(h5:0<=g5/\g5<=16777216)(hlh:lo<=hi)
 (w:Int) (hw0:g4+c8+g5=w) (ps:List Int) (hps:ps.length<=1000) (hpb:∀a,a∈ps -> -1125899906842624<=a/\a<=1125899906842624) (hpl:A9 Tryz.prog 214 [.agg [from_,.list 13 rs],.agg [.list 3 es,.list 5 ds],g] (· = .list 1 (ps.map Ac))) :
 A9 Tryz.prog 160 [.agg [c0,c1,c2,c3,c4,c5,c6,c7,c8,c9,c10,c11,c12,c13],.agg [.list 3 es,.list 5 ds],.agg [from_,.list 13 rs],.agg [lo,hi],g] (· = .list 1 ((Cz w lo hi ps).map Ac)):=by
 have hdl:g.toNat<ds.length:=(List.getElem?_eq_some_iff.1 hG).1;obtain⟨v,ev⟩:=Z.e (Cz w lo hi ps);obtain⟨q,eq⟩:=Z.e (ps.map Ac);have huq:Up0 q:=by rw[eq];exact CG ps
 have hql:q.length=ps.length:=by rw[eq];simp
 rw[<- eq] at hpl;rw[<- ev];have hup:Af 0 [AV.agg [from_,.list 13 rs],.agg [.list 3 es,.list 5 ds],g]=true:=by simp only[Af,AV.upto,hu.get,hud.get,hur.get];rfl
 refine Z.y Tryz.func160 λzB _ _ _ _ zK hw zC _ _ _ _ zH hz R hR P hP=>?_;cbv;refine Call.stepE (by rw[<- hP];exact hpl) (by exact hup) ?_;cbv
 (obtain⟨L,eL,L0,Ln⟩:∃L:Int,zK q=L/\0<=L/\L.toNat=q.length:=⟨(q.length:Int),by rw[zH],Int.natCast_nonneg _,Int.toNat_natCast _⟩)
 simp only[eL];have hwin:=iH c0 c1 c2 c3 c4 c5 c6 c7 c8 c9 c10 c11 c12 c13 g1 g2 g3 g4 g5 w hw0 hc h4 h5
 refine Ae.data hw (S:=Int×Option (Nat×List (List AV))) (λs=>match s.2 with
  | none=>fr 55 [(4,g),(5,.ref 0 14 0 0),(6,.ref 1 2 0 0),(8,.ref 3 2 0 0),(11,.nils),(21,.list 1 q),(22,L),(23,s.1)]
  | some (k,w)=>fr 55 [(4,g),(5,.ref 0 14 0 0),(6,.ref 1 2 0 0),(8,.ref 3 2 0 0),(11,.sl 4 1 0 k),(21,.list 1 q),(22,L),(23,s.1)])
  (λs=>match s.2 with
    | none=>[.live 14 [[c0,c1,c2,c3,c4,c5,c6,c7,c8,c9,c10,c11,c12,c13]],.live 2 [[.list 3 es,.list 5 ds]],.live 2 [[from_,.list 13 rs]],.live 2 [[lo,hi]]]
    | some (k,w)=>[.live 14 [[c0,c1,c2,c3,c4,c5,c6,c7,c8,c9,c10,c11,c12,c13]],.live 2 [[.list 3 es,.list 5 ds]],.live 2 [[from_,.list 13 rs]],.live 2 [[lo,hi]],.live 1 w])
  (λs=>0<=s.1/\s.1<=L/\Et s.2 (Cz w lo hi (ps.take s.1.toNat))) (λs=>(L-s.1).toNat) (0,none) Z.i ⟨Int.le_refl _,L0,rfl⟩ ?_
 rintro⟨i,(_|⟨k1,w1⟩)⟩ zJ Q' hN hE hR'
 ·have zJ:0<=i/\i<=L/\Et none (Cz w lo hi (ps.take i.toNat)):=zJ
  cbv;obtain⟨zW,yZ,hrep⟩:=zJ;have hfl:(Cz w lo hi (ps.take i.toNat)).length<=ps.length:=Nat.le_trans (List.length_filter_le _ _) (by simp;omega);(split<;>rename_i hd<;>(try (simp only[hz,Z.a,AF,AC,AO,AP,AL,reduceCtorEq] at hd))<;>(try cbv))
  rotate_left 1
  ·rw[List.take_of_length_le Z.o,<- ev] at hrep
   refine hE _ _ _ ?_;cbv;exact⟨_,Vw.nil 1,hR _ (by rw[show v=[] from hrep];rfl)⟩
  obtain⟨a,ha⟩:∃a,ps[i.toNat]?=some a:=⟨_,List.getElem?_eq_getElem (show i.toNat<ps.length by omega)⟩;have hqa:q[i.toNat]?=some [.int .i64 a]:=(by rw[eq,List.getElem?_map,ha];rfl);have hab:=hpb a (List.mem_of_getElem? ha);obtain⟨i2,ei2⟩:=Z.e (i+1);have a4:zB .add .i64 i 1=i2:=by rw[zC,ei2];show IntKind.i64.wrap (i+1)=i+1;rw[IntKind.wrap_i64];omega
  have hT2:(L-i2).toNat<(L-i).toNat:=(by omega);have htk:ps.take i2.toNat=ps.take i.toNat++[a]:=by rw[ei2];exact Eu zW ha
  have hst:Cz w lo hi (ps.take i2.toNat)=Cz w lo hi (ps.take i.toNat)++(if a-w<=hi/\lo<=a+w then [a] else []):=by
   rw[htk];unfold Cz;rw[List.filter_append];congr 1
   by_cases h:a-w<=hi/\lo<=a+w
   ·rw[if_pos h];simp[h.1,h.2]
   ·rw[if_neg h]
    simp only[List.filter_cons,List.filter_nil];rw[if_neg (by simpa using h)]
  obtain⟨l1,el1⟩:=Z.f (a-w);obtain⟨h1,eh1⟩:=Z.f (a+w);obtain⟨x1,ex1⟩:=Z.f (max l1 lo);obtain⟨y1,ey1⟩:=Z.f (min h1 hi);have s1:=UW Z.o el1 eh1 ⟨by omega,by omega⟩ ⟨by omega,by omega⟩;refine Idx.mk _ zW hqa ?_;cbv;refine Idx.mk _ hg hG ?_;cbv;refine AB.stepE (by rw[<- hP];exact hwin) rfl ?_;cbv;refine AB.stepE (by rw[<- hP];exact s1) rfl ?_;cbv;by_cases hm:x1<=y1
  ·have s2:=JL ex1 ey1 hm
   refine Call.stepE (by rw[<- hP];exact s2) rfl ?_;cbv;rw[if_pos Z.o] at hst;refine Ob.mk Z.d ?_;cbv;simp only[a4];refine hN (i2,some (1,[[.int .i64 a]])) _ _ ?hx ?hI hT2
   case hx=>(refine Z.k (λj=>[0,1,2,3,6].getD j 0) ?_;cbv<;>exact Z.q)
   case hI=>exact⟨by simp only;omega,by simp only;omega,by simp only;rw[hst,show Cz w lo hi (ps.take i.toNat)=[] from hrep];exact⟨rfl,rfl,⟨rfl⟩⟩⟩
  ·have s2:=KD ex1 ey1 (show y1<x1 by omega)
   refine Call.stepE (by rw[<- hP];exact s2) rfl ?_;cbv;rw[if_neg Z.o,List.append_nil] at hst;simp only[a4];refine hN (i2,none) _ _ ?hx ?hI hT2
   case hx=>exact Z.i
   case hI=>exact⟨by simp only;omega,by simp only;omega,by simp only;rw[hst];exact hrep⟩
 ·have zJ:0<=i/\i<=L/\Et (some (k1,w1)) (Cz w lo hi (ps.take i.toNat)):=zJ
  cbv;obtain⟨zW,yZ,hrep⟩:=zJ;have hfl:(Cz w lo hi (ps.take i.toNat)).length<=ps.length:=Nat.le_trans (List.length_filter_le _ _) (by simp;omega);have huw:Up0 w1:=hrep.2.2;have hk1:k1=w1.length:=hrep.2.1;have hwl1:w1.length=(Cz w lo hi (ps.take i.toNat)).length:=(by rw[hrep.1];simp);(split<;>rename_i hd<;>(try (simp only[hz,Z.a,AF,AC,AO,AP,AL,reduceCtorEq] at hd))<;>(try cbv))
  rotate_left 1
  ·rw[List.take_of_length_le Z.o,<- ev] at hrep
   refine hE _ _ _ ?_;cbv;have e1:(w1.drop 0).take k1=v.map Ac:=(by rw[List.drop_zero,List.take_of_length_le Z.o];exact hrep.1);refine⟨_,Vw.sl (s:=4) (z:=1) (n:=k1) (i:=0) rfl huw.get Z.o,hR _ ?_⟩;rw[e1]
  obtain⟨a,ha⟩:∃a,ps[i.toNat]?=some a:=⟨_,List.getElem?_eq_getElem (show i.toNat<ps.length by omega)⟩;have hqa:q[i.toNat]?=some [.int .i64 a]:=(by rw[eq,List.getElem?_map,ha];rfl);have hab:=hpb a (List.mem_of_getElem? ha);obtain⟨i2,ei2⟩:=Z.e (i+1);have a4:zB .add .i64 i 1=i2:=by rw[zC,ei2];show IntKind.i64.wrap (i+1)=i+1;rw[IntKind.wrap_i64];omega
  have hT2:(L-i2).toNat<(L-i).toNat:=(by omega);have htk:ps.take i2.toNat=ps.take i.toNat++[a]:=by rw[ei2];exact Eu zW ha
  have hst:Cz w lo hi (ps.take i2.toNat)=Cz w lo hi (ps.take i.toNat)++(if a-w<=hi/\lo<=a+w then [a] else []):=by
   rw[htk];unfold Cz;rw[List.filter_append];congr 1
   by_cases h:a-w<=hi/\lo<=a+w
   ·rw[if_pos h];simp[h.1,h.2]
   ·rw[if_neg h]
    simp only[List.filter_cons,List.filter_nil];rw[if_neg (by simpa using h)]
  obtain⟨l1,el1⟩:=Z.f (a-w);obtain⟨h1,eh1⟩:=Z.f (a+w);obtain⟨x1,ex1⟩:=Z.f (max l1 lo);obtain⟨y1,ey1⟩:=Z.f (min h1 hi);have s1:=UW Z.o el1 eh1 ⟨by omega,by omega⟩ ⟨by omega,by omega⟩;refine Idx.mk _ zW hqa ?_;cbv;refine Idx.mk _ hg hG ?_;cbv;refine AB.stepE (by rw[<- hP];exact hwin) rfl ?_;cbv;refine AB.stepE (by rw[<- hP];exact s1) rfl ?_;cbv;by_cases hm:x1<=y1
  ·have s2:=JL ex1 ey1 hm
   refine Call.stepE (by rw[<- hP];exact s2) rfl ?_;cbv;rw[if_pos Z.o] at hst;obtain⟨w2,ew2⟩:∃x:List (List AV),x=w1++[[.int .i64 a]]:=⟨_,rfl⟩;obtain⟨k2,ek2⟩:=Z.e (k1+1);have hwl2:w2.length=w1.length+1:=(by rw[ew2];simp);have hw2:w2=(Cz w lo hi (ps.take i.toNat)++[a]).map Ac:=(by rw[ew2,hrep.1];simp[Ac]);have huw2:Up0 w2:=(by rw[hw2];exact CG _);refine App.mk w2 k2 ew2 hk1 ek2 Z.o Z.o ?_;cbv;simp only[a4];refine hN (i2,some (k2,w2)) _ _ ?hx ?hI hT2
   case hx=>(refine Z.k (λj=>[0,1,2,3,7].getD j 0) ?_;cbv<;>exact Z.q)
   case hI=>exact⟨by simp only;omega,by simp only;omega,by simp only;rw[hst];exact⟨hw2,by omega,huw2⟩⟩
  ·have s2:=KD ex1 ey1 (show y1<x1 by omega)
   refine Call.stepE (by rw[<- hP];exact s2) rfl ?_;cbv;rw[if_neg Z.o,List.append_nil] at hst;simp only[a4];refine hN (i2,(some (k1,w1))) _ _ ?hx ?hI hT2
   case hx=>exact Z.i
   case hI=>exact⟨by simp only;omega,by simp only;omega,by simp only;rw[hst];exact hrep⟩
theorem iJ{a b c d l h:Int}(h1:a<=b)(hl:a+min 0 c=l)(hh:b+max 0 d=h)(ha: -1125899906842624<=a/\a<=1125899906842624)(hb: -1125899906842624<=b/\b<=1125899906842624)(hc: -1125899906842624<=c/\c<=1125899906842624)(hd: -1125899906842624<=d/\d<=1125899906842624)(hcd:c<=d) :
 A9 Tryz.prog 159 [.agg [a,b],.agg [c,d]] (· = .tuple [.agg [l,h],.bool true]):=by
 obtain⟨x,ex⟩:=Z.f (min 0 c);obtain⟨y,ey⟩:=Z.f (max 0 d);have s1:=MQ (l:=l) (h:=h) h1 (show x<=y by omega) Z.o Z.o ⟨by omega,by omega⟩ ⟨by omega,by omega⟩ ⟨by omega,by omega⟩ ⟨by omega,by omega⟩;(refine A9.ofY Tryz.func159 (by kernel_rfl) (by kernel_rfl) (Z.w λ_ _ _ _ _ _ yO _ _ _ _ _ _ _ _ _ _ _ _ _ _ _ _ _ _ _ _ yS _ _ _ _ _ _ _ _ _ _ _ _ _ _ R hR=>?_));(conv=>arg 2;cbv);(generalize hP:Tryz.prog=P);cbv;have e1:yO false 0 c=x:=by rw[yS,G5,ex]
 have e2:yO true 0 d=y:=by rw[yS,I1,ey]
 simp only[e1,e2];refine Call.stepE (by rw[<- hP];exact s1) rfl ?_;cbv;exact Z.r hR
theorem UX{ss:List Sg}(hln:CS ss)(sg:Int){off:Int}(hoff:0<=off/\off<=1099511627776):∀(l:List Int) (a:Int),∀x,x∈plc ss sg off a l->a<=x/\x<=a+Bh l*1099511627776+1099511627776
 | [],a,x,h=>by simp[plc] at h
 | n::l,a,x,h=>by
   have hb:=IV hln n;simp only[plc,Bh] at h ⊢;have hl0:0<=Bh l:=(by rw[Io];omega);rcases List.mem_append.1 h with h|h
   ·split at h
    ·simp at h;omega
    ·simp at h
   ·have:=UX hln sg hoff l (a+BD ss n) x h
    omega
theorem iK{ss:List Sg}(hln:CS ss){sg off from_:Int}(hf:0<=from_/\from_<=1099511627776)(hoff:0<=off/\off<=1099511627776)(m:List (List Int))(hm:∀l,l∈m->l.length<=12):∀x,x∈FK ss sg off from_ m -> -1125899906842624<=x/\x<=1125899906842624:=λx hx=>by
 unfold FK at hx;rw[(Mf (BS ss sg off from_ m) [] List.Pairwise.nil).2.1] at hx;rcases hx with hx|hx
 ·simp at hx
 ·unfold BS at hx
  obtain⟨l,hl,hx⟩:=List.mem_flatMap.1 hx;have h1:=UX hln sg hoff l (-from_) x hx;have h2:=hm l hl;have h3:=Io l;omega
theorem iL{ss:List Sg}{sg off from_:Int}(m:List (List Int))(hm:∀l,l∈m->l.length<=12)(hm2:m.length<=16):(FK ss sg off from_ m).length<=1000:=by
 have h1:=(Mf (BS ss sg off from_ m) [] List.Pairwise.nil).2.2;have h2:=K9 ss sg off from_ m hm;unfold FK;simp only[List.length_nil] at h1;omega
def FH(ss:List Sg)(mm:List (List Int))(n:Nv)(wl wh a b:Int)(G:Gr):List Int:=Cz (G.acc+n.c.c8+G.sl) (wl+min 0 a) (wh+max 0 b) (FK ss G.seg G.off n.p.fr mm)
theorem iM(ss:List Sg)(gs:List Gr)(mm:List (List Int))(n:Nv)(hu:NvU n)(zQ:n.es=ss.map Ah)(zY:n.ds=gs.map Ak)(hln:CS ss)(h8:0<=n.c.c8/\n.c.c8<=1048576)(hpl:JM ss mm n)
 (won:Bool) (wgr wl wh we wfr:Int) (ws:List (List AV)) (huw:Up0 ws) (hwl: -17592186044416<=wl) (hww:wl<=wh) (hwh:wh<=17592186044416) (a b:Int) (hab:a<=b) (ha: -1099511627776<=a) (hb:b<=1099511627776)
 (g:Int) (hg:0<=g) (G:Gr) (hG:gs[g.toNat]?=some G) (hoff:0<=G.off/\G.off<=1099511627776) (hacc:0<=G.acc/\G.acc<=1048576) (hsl:0<=G.sl/\G.sl<=16777216) (rs':List (List AV)) (ers:rs'=(FH ss mm n wl wh a b G).map Ac) :
 AJ Tryz.prog 100 [.ref 0 55 0 0,.agg [won,wgr,wl,wh,we,wfr,.list 13 ws],.agg [a,b],g] [.live 55 [n.row]] (λr hp=>r = .list 1 rs'/\∃j,hp = .live 55 [n.row]::j):=by
 obtain⟨lo',elo⟩:=Z.f (wl+min 0 a);obtain⟨hi',ehi⟩:=Z.f (wh+max 0 b);have q1:=iJ hww elo ehi ⟨by omega,by omega⟩ ⟨by omega,by omega⟩ ⟨by omega,by omega⟩ ⟨by omega,by omega⟩ hab;have hpp:=WN ss gs n.es n.ds zQ zY hln n.p.fr hpl.fr mm hpl.way (by have:=hpl.few;omega) n.p.rs hpl.rs g hg G hG hoff;have hpb:=iK hln (sg:=G.seg) (off:=G.off) (from_:=n.p.fr) hpl.fr hoff mm λl hl=>(hpl.way l hl).1;have hpn:=iL (ss:=ss) (sg:=G.seg) (off:=G.off) (from_:=n.p.fr) mm (λl hl=>(hpl.way l hl).1) hpl.few;unfold FH at ers;rw[elo,ehi] at ers;have hGd:n.ds[g.toNat]?=some (Ak G):=by rw[zY,List.getElem?_map,hG];rfl
 obtain⟨gid,gseg,goff,gacc,gsl⟩:=G;have q2:=iI n.c.c0 n.c.c1 n.c.c2 n.c.c3 n.c.c4 n.c.c5 n.c.c6 n.c.c7 n.c.c8 n.c.c9 n.c.c10 n.c.c11 n.c.c12 n.c.c13 h8 n.es n.ds n.p.rs hu.es hu.ds hu.rs n.p.fr lo' hi' g hg gid gseg goff gacc gsl hGd hacc hsl Z.o _ rfl _ hpn hpb hpp;rw[<- ers] at q2;have hur':Up0 rs':=by rw[ers];exact BM (f:=Ac) (λd=>rfl) _
 clear hpp hpb hpn ers elo ehi hGd;have hu1:=hu;obtain⟨⟨c0,c1,c2,c3,c4,c5,c6,c7,c8,c9,c10,c11,c12,c13⟩,es,ds,cy,g0,g1,os,⟨kn0,la0,su0⟩,⟨kn1,la1,su1⟩,a0,b0,a1,b1,lo,hi,di,on,gr,⟨pl,ph,pe,fr,rs⟩,cl,o0,o1,s0,s1,sc,so,ra,ro,m0,m1,⟨wi,wt,wf⟩⟩:=n;obtain⟨hue,hud,huo,hur⟩:=hu1;simp only at hue hud huo hur q2;refine Z.x Tryz.func100 λ_ _ _ _ zF _ _ _ _ _ _ zI _ _ P hP=>?_;cbv;have n1:zF true=false:=by rw[zI];rfl
 repeat' (first|(simp only[n1];cbv)|(refine Call.s hP q1 ?_;cbv)|(refine AB.s hP q1 ?_;cbv)|(refine Call.s hP q2 ?_;cbv)|(refine AB.s hP q2 ?_;cbv)|fail)
 all_goals first|exact⟨_,rfl⟩|(skip;skip;fail   )
def F8(x y:Int):Int:=if x<y then -1 else if y<x then 1 else 0
theorem iO(x y:Int):A9 Tryz.prog 158 [x,y] (· = .int .i64 (F8 x y)):=by
 have n1:∀a:Int,A9 Tryz.prog 213 [a] (· = .bool false):=by
  intro a;refine Z.y Tryz.func213 λ_ _ _ _ _ _ _ _ zA _ _ _ _ hz R hR P hP=>?_;cbv;refine⟨_,Vw.same rfl,hR _ ?_⟩;show AV.bool _=AV.bool false;rw[zA];simp[AC]
 refine Z.y Tryz.func158 λ_ _ _ _ _ _ _ _ _ _ _ _ _ hz R hR P hP=>?_;cbv;refine Call.stepE (by rw[<- hP];exact n1 x) rfl ?_;cbv;refine Call.stepE (by rw[<- hP];exact n1 y) rfl ?_;cbv;repeat' (split<;>rename_i h<;>(try (simp only[hz,Z.a,AF,AC,AO,AP,AL,reduceCtorEq] at h))<;>(try cbv))
 all_goals
  refine⟨_,Vw.same rfl,hR _ ?_⟩;show AV.int .i64 _=AV.int .i64 _;unfold F8
  first
   | rw[if_pos Z.m]
   | rw[if_neg Z.o,if_pos Z.o]
   | rw[if_neg Z.o,if_neg Z.o]
theorem half(s:Int)(h0:0<=s)(h1:s<9223372036854775808):IntKind.i64.wrap (AF .shr .u64 (IntKind.u64.wrap s) 1)=s/2:=by
 have e1:IntKind.u64.wrap s=s:=by
  simp only[IntKind.wrap,IntKind.bits,IntKind.signed];simp;omega
 rw[e1]
 have e2:AF .shr .u64 s 1=s/2:=by
  show s.fdiv (2 ^ (min (1:Int).toNat 64))=_;rw[Int.fdiv_eq_ediv_of_nonneg _ Z.d];rfl
 rw[e2,IntKind.wrap_i64];omega
structure J3{D:Type}(ds:List D)(key:D->Int)(t:Int)(i:Int)(f:Bool):Prop where
 i0:0<=i
 i1:i.toNat<=ds.length
 yes:f=true->∃d,ds[i.toNat]?=some d/\key d=t
 no:f=false->∀d,d∈ds->key d≠t
theorem iP{D:Type}(row:D->List AV)(key:D->Int)(zL:∀d,(row d).length=5/\Af 0 (row d)=true)(F:Nat)(ds:List D)(t:Int)(hF:∀d,d∈ds->∀rw,row d=rw->A9 Tryz.prog F [.agg rw,t] (· = .int .i64 (F8 (key d) t)))
 (hs:∀(i j:Nat) (a b:D),i<j->ds[i]?=some a->ds[j]?=some b->key a<key b) (hn:ds.length<=1000000) (ps:List (List AV)) (hps:ps=ds.map row) :
 A9 Tryz.prog 156 [.list 5 ps,t,.func (.func F) [] []] (λr=>∃i f,r = .tuple [.int .i64 i,.bool f]/\J3 ds key t i f):=by
 have hu:Up0 ps:=by rw[hps];exact BM (f:=row) (λd=>(zL d).2) ds
 have hpl:ps.length=ds.length:=by rw[hps];simp
 have five:∀d,∃a b c x0 x1,row d=[a,b,c,x0,x1]:=by
  intro d;have h:=(zL d).1
  match row d,h with
  | [a,b,c,x0,x1],_=>exact⟨a,b,c,x0,x1,rfl⟩
 refine Z.y Tryz.func156 λzB _ _ zD _ zK hw zC zA _ zG _ zH hz R hR P hP=>?_;cbv
 (obtain⟨L,eL,L0,Ln⟩:∃L:Int,zK ps=L/\0<=L/\L.toNat=ps.length:=⟨(ps.length:Int),by rw[zH],Int.natCast_nonneg _,Int.toNat_natCast _⟩)
 simp only[eL]
 refine Ae.data hw (S:=Int×Int) (λs=>fr 49 [(0,.list 5 ps),(1,t),(2,.func (.func F) [] []),(8,L),(9,s.1),(10,s.2)]) (λs=>[])
  (λs=>0<=s.1/\s.1<=s.2/\s.2<=L/\(∀k d,k<s.1.toNat->ds[k]?=some d->key d<t)/\(∀k d,s.2.toNat<=k->ds[k]?=some d->t<=key d)) (λs=>(s.2-s.1).toNat) (0,L) Z.i
  ⟨Int.le_refl _,L0,Int.le_refl _,λk d hk=>(by simp at hk),λk d hk hd=>(by have h1:=(List.getElem?_eq_some_iff.1 hd).1;have h2:L.toNat<=k:=hk;omega)⟩ ?_
 rintro⟨i,j⟩ zJ Q' hN hE hR'
 have zJ:0<=i/\i<=j/\j<=L/\(∀k d,k<i.toNat->ds[k]?=some d->key d<t)/\(∀k d,j.toNat<=k->ds[k]?=some d->t<=key d):=zJ;cbv;obtain⟨zW,hij,hjL,hlow,hup⟩:=zJ;(split<;>rename_i hc<;>(try (simp only[hz,Z.a,AF,AC,AO,AP,AL,reduceCtorEq] at hc))<;>(try cbv))
 ·obtain⟨h,eh⟩:∃x,(i+j)/2=x:=⟨_,rfl⟩
  have eij:zB .add .i64 i j=i+j:=by rw[zC,Ag Z.o Z.o]
  have e1:zD .i64 (zB .shr .u64 (zD .u64 (zB .add .i64 i j)) 1)=h:=by
   rw[eij,zG,zC];exact(half (i+j) Z.o Z.o).trans eh
  refine Nn.mk Z.d ?_;cbv;simp only[e1];obtain⟨d,hd,hr⟩:=BI (f:=row) (ds:=ds) (i:=h) Z.o Z.o;rw[<- hps] at hr;obtain⟨a,b,c,x0,x1,erow⟩:=five d;have hcall:=hF d (List.mem_of_getElem? hd) _ erow;have hup0:=(zL d).2;rw[erow] at hr hup0;refine Idx.mk _ Z.o hr ?_;cbv;refine Call.stepE (by rw[<- hP];exact hcall) (by exact Bool.and_eq_true_iff.mpr ⟨hup0,rfl⟩) ?_;obtain⟨cv,ecv⟩:=Z.f (F8 (key d) t);rw[ecv];cbv;obtain⟨h',eh'⟩:=Z.f (h+1);have ehh:zB .add .i64 h 1=h':=(by rw[zC,Ag Z.o Z.o];exact eh');(split<;>rename_i hc2<;>(try (simp only[hz,Z.a,AF,AC,AO,AP,AL,reduceCtorEq] at hc2))<;>(try cbv))
  ·have hlt:key d<t:=by unfold F8 at ecv;split at ecv<;>(try split at ecv)<;>omega
   refine hN (h',j) _ _ ?hx ?hI (show (j-h').toNat<(j-i).toNat by omega)
   case hx=>exact Z.i
   case hI =>
    refine⟨(show 0<=h' by omega),(show h'<=j by omega),hjL,λk d' hk hd'=>?_,hup⟩;have hk:k<h'.toNat:=hk;by_cases hkh:k=h.toNat
    ·subst hkh;rw[hd] at hd';cases hd';exact hlt
    ·have:=hs k h.toNat d' d Z.o hd' hd;omega
  ·have hge:t<=key d:=by unfold F8 at ecv;split at ecv<;>(try split at ecv)<;>omega
   refine hN (i,h) _ _ ?hx ?hI (show (h-i).toNat<(j-i).toNat by omega)
   case hx=>exact Z.i
   case hI =>
    refine⟨zW,(show i<=h by omega),(show h<=L by omega),hlow,λk d' hk hd'=>?_⟩;have hk:h.toNat<=k:=hk;by_cases hkh:k=h.toNat
    ·subst hkh;rw[hd] at hd';cases hd';exact hge
    ·have:=hs h.toNat k d d' Z.o hd hd';omega
 ·refine hE _ _ _ ?_
  cbv;obtain rfl:i=j:=(by omega);(split<;>rename_i hc2<;>(try (simp only[hz,Z.a,AF,AC,AO,AP,AL,reduceCtorEq] at hc2))<;>(try cbv))
  ·obtain⟨d,hd,hr⟩:=BI (f:=row) (ds:=ds) (i:=i) Z.o Z.o
   rw[<- hps] at hr;obtain⟨a,b,c,x0,x1,erow⟩:=five d;have hcall:=hF d (List.mem_of_getElem? hd) _ erow;have hup0:=(zL d).2;rw[erow] at hr hup0;refine Idx.mk _ Z.o hr ?_;cbv;refine Call.stepE (by rw[<- hP];exact hcall) (by exact Bool.and_eq_true_iff.mpr ⟨hup0,rfl⟩) ?_;obtain⟨cv,ecv⟩:=Z.f (F8 (key d) t);rw[ecv];cbv;refine⟨_,Vw.same rfl,hR _ ⟨i,_,rfl,zW,by omega,λhf=>⟨d,hd,?_⟩,λhf d' hd'=>?_⟩⟩
   ·rw[zA] at hf
    have hf:cv=0:=(by simpa[AC] using hf);unfold F8 at ecv;split at ecv<;>(try split at ecv)<;>omega
   ·rw[zA] at hf
    have hf:cv≠0:=(by simpa[AC] using hf);have hne:key d≠t:=(by unfold F8 at ecv;split at ecv<;>(try split at ecv)<;>omega);obtain⟨k,hk⟩:=List.mem_iff_getElem?.1 hd';by_cases hki:k<i.toNat
    ·have:=hlow k d' hki hk;omega
    ·by_cases hkh:k=i.toNat
     ·subst hkh;rw[hd] at hk;cases hk;exact hne
     ·have h1:=hs i.toNat k d d' Z.o hd hk
      have h2:=hup i.toNat d (Nat.le_refl _) hd;omega
  ·refine⟨_,Vw.same rfl,hR _ ⟨i,false,rfl,zW,by omega,λhf=>(by cases hf),λhf d' hd'=>?_⟩⟩
   obtain⟨k,hk⟩:=List.mem_iff_getElem?.1 hd';have h1:=(List.getElem?_eq_some_iff.1 hk).1;have:=hlow k d' Z.o hk;omega
theorem iQ(g:Gr)(t:Int):A9 Tryz.prog 157 [.agg (Ak g),t] (· = .int .i64 (F8 g.id t)):=by
 obtain⟨n,a,b,c,d⟩:=g;have hc:=iO n t;obtain⟨v,ev⟩:=Z.f (F8 n t);show A9 Tryz.prog 157 [.agg [n,a,b,c,d],t] (· = .int .i64 (F8 n t));rw[ev] at hc ⊢;refine Z.y Tryz.func157 λ_ _ _ _ _ _ _ _ _ _ _ _ _ hz R hR P hP=>?_;cbv;refine Call.stepE (by rw[<- hP];exact hc) rfl ?_;cbv;exact Z.r hR
theorem UY{ss:List Sg}{gs:List Gr}(h:BN ss gs):∀(i j:Nat) (a b:Gr),i<j->gs[i]?=some a->gs[j]?=some b->a.id<b.id:=by
 intro i j
 induction j with
 | zero=>intro a b hij;omega
 | succ j ih =>
   intro a b hij ha hb;have hjl:=(List.getElem?_eq_some_iff.1 hb).1;obtain⟨_,_,_,_,_,_,_,_,_,_,hl⟩:=h.grp (j+1) hjl b hb;obtain⟨c,hc⟩:∃c,gs[j]?=some c:=⟨gs[j],List.getElem?_eq_getElem Z.o⟩;have h1:=hl Z.o c hc;by_cases hij':i=j
   ·subst hij';rw[ha] at hc;cases hc;exact h1
   ·have:=ih a c Z.o ha hc;omega
theorem PU(ss:List Sg)(gs:List Gr)(es ds:List (List AV))(zQ:es=ss.map Ah)(zY:ds=gs.map Ak)(h:BN ss gs)(id:Int):A9 Tryz.prog 99 [.agg [.list 3 es,.list 5 ds],id] (λr=>∃i f,r = .tuple [.int .i64 i,.bool f]/\J3 gs (λg:Gr=>g.id) id i f):=by
 have hu:Up0 es:=by rw[zQ];exact Bu ss
 have hud:Up0 ds:=by rw[zY];exact Bv gs
 have hb:=iP Ak (λg:Gr=>g.id) (λd=>⟨rfl,rfl⟩) 157 gs id (λd _ rw_ e=>by rw[<- e];exact iQ d id) (UY h) (by have:=h.gle;omega) ds zY;refine Z.y Tryz.func99 λ_ _ _ _ _ _ _ _ _ _ _ _ _ _ R hR P hP=>?_;cbv;refine Call.step (by rw[<- hP];exact hb) (by exact Up0.one hud rfl) ?_;rintro r ⟨i,f,rfl,hF⟩;cbv;exact⟨_,Vw.same rfl,hR _ ⟨_,_,rfl,hF⟩⟩
theorem ul1{z:Nat}{es:List (List AV)}(h:Up0 es):(AV.list z es).upto 1=true:=Ed 1 _ h.get
structure Fo where
 g:Int
 at_:List Int
 ok:Bool
 ac:Bool
theorem VX(ss:List Sg)(gs:List Gr)(n:Nv)(hu:NvU n)(zQ:n.es=ss.map Ah)(zY:n.ds=gs.map Ak)(hT:BN ss gs)(m:Ml)(hm:m.has 5=true)(id:Int)(hid:m.val 5=id)(hib: -2147483648<=id/\id<=2147483648)(hno:∀g,g∈gs->g.id≠id)
 (won:Bool) (wgr wl wh we wfr:Int) (ws:List (List AV)) (huw:Up0 ws) (a b:Int) :
 AJ Tryz.prog 48 [.ref 0 55 0 0,.agg m.row,.agg [won,wgr,wl,wh,we,wfr,.list 13 ws],.agg [a,b]] [.live 55 [n.row]] (λr hp=>r = .agg [(0:Int),.list 1 [],.bool false,.bool false]/\∃j,hp = .live 55 [n.row]::j):=by
 refine AJ.mono (AJ.give (h':=[.live 55 [n.row]]) (r':=.agg [(0:Int),.list 1 [],.bool false,.bool false]) ?_) (λr h hh=>⟨hh.1,[],hh.2⟩);have u0:=hu.row;have q1:=G_ m 5 (.inr (.inr (.inr (.inr rfl)))) id true hid.symm hm.symm;have q2:=PU ss gs n.es n.ds zQ zY hT id
 have hno2:∀i f,J3 gs (λg:Gr=>g.id) id i f->f=false:=λi f hF=>by
  cases f with
  | false=>rfl
  | true =>
    obtain⟨d,hd,hk⟩:=hF.yes rfl;exact absurd hk (hno d (List.mem_of_getElem? hd))
 clear hno hm hid;have hu1:=hu;obtain⟨⟨c0,c1,c2,c3,c4,c5,c6,c7,c8,c9,c10,c11,c12,c13⟩,es,ds,cy,g0,g1,os,⟨kn0,la0,su0⟩,⟨kn1,la1,su1⟩,a0,b0,a1,b1,lo,hi,di,on,gr,⟨pl,ph,pe,fr,rs⟩,cl,o0,o1,s0,s1,sc,so,ra,ro,m0,m1,⟨wi,wt,wf⟩⟩:=n;obtain⟨hue,hud,huo,hur⟩:=hu1;simp only at hue hud huo hur q2;obtain⟨p1,p2,p3,p4,p5,x1,x2,x3,x4,x5,bad,stale,twice,beyond⟩:=m;have u0:Up0 [c0::c1::c2::c3::c4::c5::c6::c7::c8::c9::c10::c11::c12::c13 :: .list 3 es :: .list 5 ds :: .bool false::cy::g0::g1 :: .list 1 os::kn0 :: .int .u16 la0::su0::[kn1,.int .u16 la1,su1,a0,b0,a1,b1,lo,hi,di,on,gr,pl,ph,pe,fr,.list 13 rs,cl,o0,o1,s0,s1,sc,so,ra,ro,m0,m1,wi,wt,wf]]:=u0;refine Z.x Tryz.func48 λ_ _ _ _ zF _ _ _ _ _ _ zI _ hz P hP=>?_;cbv;have n1:zF true=false:=by rw[zI];rfl
 have n2:zF false=true:=by rw[zI];rfl
 repeat' (first|(simp only[n1,n2];cbv)|(refine Call.s hP q1 ?_;cbv)|(refine AB.s hP q1 ?_;cbv)|fail)
 refine Call.step (by rw[<- hP];exact q2) (by first|rfl|(repeat' (first|exact rfl|assumption|refine uc ?_ ?_|exact ul Z.m|refine ua ?_))) ?_;rintro r ⟨i,f,rfl,hF⟩;obtain rfl:=hno2 i f hF;cbv;repeat' (first|(simp only[n1,n2];cbv)|(refine Call.s hP q1 ?_;cbv)|(refine AB.s hP q1 ?_;cbv)|fail)
 all_goals first|(refine WkB.mk ?_;(refine Z.n (λi=>i) ?_;cbv<;>exact Z.q))|fail
theorem J3.at{gs:List Gr}{ss:List Sg}(hT:BN ss gs){g:Int}(hg:0<=g){G:Gr}(hG:gs[g.toNat]?=some G){i:Int}{f:Bool}(hF:J3 gs (λg:Gr=>g.id) G.id i f):i=g/\f=true:=by
 cases f with
 | false=>exact absurd rfl (hF.no rfl G (List.mem_of_getElem? hG))
 | true =>
   obtain⟨d,hd,hk⟩:=hF.yes rfl;refine⟨?_,rfl⟩;have h0:=hF.i0;have k1:=UY hT;by_cases h1:i.toNat<g.toNat
   ·have:=k1 _ _ _ _ h1 hd hG;omega
   ·by_cases h2:g.toNat<i.toNat
    ·have:=k1 _ _ _ _ h2 hG hd;omega
    ·omega
theorem VY(ss:List Sg)(gs:List Gr)(n:Nv)(hu:NvU n)(zQ:n.es=ss.map Ah)(zY:n.ds=gs.map Ak)(hT:BN ss gs)(m:Ml)(hm:m.has 5=true)(id:Int)(hid:m.val 5=id)(hib: -2147483648<=id/\id<=2147483648)(g:Int)(hg:0<=g)(G:Gr)(hG:gs[g.toNat]?=some G)(hGi:G.id=id)(hon:n.on=false)
 (won:Bool) (wgr wl wh we wfr:Int) (ws:List (List AV)) (huw:Up0 ws) (a b:Int) :
 AJ Tryz.prog 48 [.ref 0 55 0 0,.agg m.row,.agg [won,wgr,wl,wh,we,wfr,.list 13 ws],.agg [a,b]] [.live 55 [n.row]] (λr hp=>r = .agg [g,.list 1 [],.bool true,.bool true]/\∃j,hp = .live 55 [n.row]::j):=by
 refine AJ.mono (AJ.give (h':=[.live 55 [n.row]]) (r':=.agg [g,.list 1 [],.bool true,.bool true]) ?_) (λr h hh=>⟨hh.1,[],hh.2⟩);have u0:=hu.row;have q1:=G_ m 5 (.inr (.inr (.inr (.inr rfl)))) id true hid.symm hm.symm
 have q2:=(PU ss gs n.es n.ds zQ zY hT id).mono (R':=(· = .tuple [g,.bool true])) (by
  rintro r ⟨i,f,rfl,hF⟩;rw[<- hGi] at hF;obtain⟨rfl,rfl⟩:=J3.at hT hg hG hF
  rfl)
 clear hm hid hG hGi;have hu1:=hu;obtain⟨⟨c0,c1,c2,c3,c4,c5,c6,c7,c8,c9,c10,c11,c12,c13⟩,es,ds,cy,g0,g1,os,⟨kn0,la0,su0⟩,⟨kn1,la1,su1⟩,a0,b0,a1,b1,lo,hi,di,on,gr,⟨pl,ph,pe,fr,rs⟩,cl,o0,o1,s0,s1,sc,so,ra,ro,m0,m1,⟨wi,wt,wf⟩⟩:=n;obtain⟨hue,hud,huo,hur⟩:=hu1;simp only at hue hud huo hur q2 hon;subst hon;obtain⟨p1,p2,p3,p4,p5,x1,x2,x3,x4,x5,bad,stale,twice,beyond⟩:=m;have u0:Up0 [c0::c1::c2::c3::c4::c5::c6::c7::c8::c9::c10::c11::c12::c13 :: .list 3 es :: .list 5 ds :: .bool false::cy::g0::g1 :: .list 1 os::kn0 :: .int .u16 la0::su0::[kn1,.int .u16 la1,su1,a0,b0,a1,b1,lo,hi,di,.bool false,gr,pl,ph,pe,fr,.list 13 rs,cl,o0,o1,s0,s1,sc,so,ra,ro,m0,m1,wi,wt,wf]]:=u0;refine Z.x Tryz.func48 λ_ _ _ _ zF _ _ _ _ _ _ zI _ hz P hP=>?_;cbv;have n1:zF true=false:=by rw[zI];rfl
 have n2:zF false=true:=by rw[zI];rfl
 repeat' (first|(simp only[n1,n2];cbv)|(refine Call.s hP q1 ?_;cbv)|(refine AB.s hP q1 ?_;cbv)|(refine Call.s hP q2 ?_;cbv)|(refine AB.s hP q2 ?_;cbv)|fail)
 all_goals first|(refine WkB.mk ?_;(refine Z.n (λi=>i) ?_;cbv<;>exact Z.q))|fail
theorem VZ(ss:List Sg)(gs:List Gr)(mm:List (List Int))(n:Nv)(hu:NvU n)(zQ:n.es=ss.map Ah)(zY:n.ds=gs.map Ak)(hT:BN ss gs)(h8:0<=n.c.c8/\n.c.c8<=1048576)(m:Ml)(hm:m.has 5=true)(id:Int)(hid:m.val 5=id)(hib: -2147483648<=id/\id<=2147483648)(g:Int)(hg:0<=g)(G:Gr)(hG:gs[g.toNat]?=some G)(hGi:G.id=id)(hon:n.on=true)(hpl:JM ss mm n)
 (won:Bool) (wgr wl wh we wfr:Int) (ws:List (List AV)) (huw:Up0 ws) (hwl: -17592186044416<=wl) (hww:wl<=wh) (hwh:wh<=17592186044416) (a b:Int) (hab:a<=b) (ha: -1099511627776<=a) (hb:b<=1099511627776) (rs':List (List AV)) (ers:rs'=(FH ss mm n wl wh a b G).map Ac) (o:Bool) (eo:o=decide (0<(FH ss mm n wl wh a b G).length)) :
 AJ Tryz.prog 48 [.ref 0 55 0 0,.agg m.row,.agg [won,wgr,wl,wh,we,wfr,.list 13 ws],.agg [a,b]] [.live 55 [n.row]] (λr hp=>r = .agg [g,.list 1 rs',o,o]/\∃j,hp = .live 55 [n.row]::j):=by
 have q1:=G_ m 5 (.inr (.inr (.inr (.inr rfl)))) id true hid.symm hm.symm
 have q2:=(PU ss gs n.es n.ds zQ zY hT id).mono (R':=(· = .tuple [g,.bool true])) (by
  rintro r ⟨i,f,rfl,hF⟩;rw[<- hGi] at hF;obtain⟨rfl,rfl⟩:=J3.at hT hg hG hF
  rfl)
 obtain⟨k1,k2,k3,k4,k5,k6,k7,k8,k9,k10,_⟩:=hT.grp g.toNat (List.getElem?_eq_some_iff.1 hG).1 G hG
 have hoff:0<=G.off/\G.off<=1099511627776:=by
  obtain⟨s,hs⟩:∃s,ss[G.seg.toNat]?=some s:=⟨_,List.getElem?_eq_getElem k4⟩;have:=k6 s hs;have:=(hT.seg _ k4 s hs).le;omega
 have q3:=iM ss gs mm n hu zQ zY hT.lensOk h8 hpl won wgr wl wh we wfr ws huw hwl hww hwh a b hab ha hb g hg G hG hoff ⟨k7,k8⟩ ⟨k9,k10⟩ rs' ers;have u0:=hu.row;have hur':Up0 rs':=by rw[ers];exact BM (f:=Ac) (λd=>rfl) _
 have hrl:rs'.length=(FH ss mm n wl wh a b G).length:=by rw[ers];simp
 rw[<- hrl] at eo;clear hm hid hG hGi ers k1 k2 k3 k4 k5 k6 k7 k8 k9 k10 hpl hrl;have hu1:=hu;obtain⟨⟨c0,c1,c2,c3,c4,c5,c6,c7,c8,c9,c10,c11,c12,c13⟩,es,ds,cy,g0,g1,os,⟨kn0,la0,su0⟩,⟨kn1,la1,su1⟩,a0,b0,a1,b1,lo,hi,di,on,gr,⟨pl,ph,pe,fr,rs⟩,cl,o0,o1,s0,s1,sc,so,ra,ro,m0,m1,⟨wi,wt,wf⟩⟩:=n;obtain⟨hue,hud,huo,hur⟩:=hu1;simp only at hue hud huo hur q2 hon;subst hon;obtain⟨p1,p2,p3,p4,p5,x1,x2,x3,x4,x5,bad,stale,twice,beyond⟩:=m;refine Z.x Tryz.func48 λ_ zE _ _ zF zK _ _ zA _ _ zI zH _ P hP=>?_;cbv;have n1:zF true=false:=by rw[zI];rfl
 have n2:zF false=true:=by rw[zI];rfl
 (obtain⟨L,eL,L0,Ln⟩:∃L:Int,zK rs'=L/\0<=L/\L.toNat=rs'.length:=⟨(rs'.length:Int),by rw[zH],Int.natCast_nonneg _,Int.toNat_natCast _⟩)
 have d1:zE .gtr L 0=o:=by
  rw[zA,eo];simp only[AC];congr 1
  exact propext ⟨λh=>by omega,λh=>by omega⟩
 clear eo;repeat' (first|(simp only[n1,n2,eL,d1];cbv)|(refine Call.s hP q1 ?_;cbv)|(refine AB.s hP q1 ?_;cbv)|(refine Call.s hP q2 ?_;cbv)|(refine AB.s hP q2 ?_;cbv)|fail)
 refine Call.o (s:=0) hP q3 u0 u0 (by exact ul hur') rfl (by exact uc rfl (uc (ua (uc rfl (uc rfl (uc rfl (uc rfl (uc rfl (uc rfl (uc (ul1 huw) rfl)))))))) rfl)) (by simp only[BH,AV.ren,E_ huw]) ?_;cbv;repeat' (first|(simp only[n1,n2,eL,d1];cbv)|(refine Call.s hP q1 ?_;cbv)|(refine AB.s hP q1 ?_;cbv)|(refine Call.s hP q2 ?_;cbv)|(refine AB.s hP q2 ?_;cbv)|fail)
 all_goals first|exact⟨_,rfl⟩|(skip;skip;fail   )
def Jt(n:Nv)(x:Int):Nv:=
 { n with a0:=(Ef n.a0 n.b0 (n.p.lo+x-n.o1) (n.p.hi+x-n.o0) n.c.c0 (n.k0.su-n.s0)).1,b0:=(Ef n.a0 n.b0 (n.p.lo+x-n.o1) (n.p.hi+x-n.o0) n.c.c0 (n.k0.su-n.s0)).2,
          a1:=(Ef n.a1 n.b1 (n.p.lo+x-n.o1) (n.p.hi+x-n.o0) n.c.c0 (n.k1.su-n.s1)).1,b1:=(Ef n.a1 n.b1 (n.p.lo+x-n.o1) (n.p.hi+x-n.o0) n.c.c0 (n.k1.su-n.s1)).2 }
theorem iR(n:Nv)(hu:NvU n)(x:Int)(hx: -35184372088832<=x/\x<=35184372088832)(hp: -17592186044416<=n.p.lo/\n.p.lo<=n.p.hi/\n.p.hi<=17592186044416)(ho: -17592186044416<=n.o0/\n.o0<=n.o1/\n.o1<=17592186044416)(hc:1<=n.c.c0/\n.c.c0<=1024)
 (hk0: -1099511627776<=n.k0.su-n.s0/\n.k0.su-n.s0<=1099511627776) (hk1: -1099511627776<=n.k1.su-n.s1/\n.k1.su-n.s1<=1099511627776) (v:Nv) (hv:v=Jt n x) :
 AJ Tryz.prog 102 [.ref 0 55 0 0,x] [.live 55 [n.row]] (λr hp=>r = .tuple []/\∃j,hp = .live 55 [v.row]::j):=by
 obtain⟨u1,eu1⟩:=Z.f (n.p.lo+x);obtain⟨u2,eu2⟩:=Z.f (n.p.hi+x);obtain⟨w1,ew1⟩:=Z.f (u1-n.o1);obtain⟨w2,ew2⟩:=Z.f (u2-n.o0);obtain⟨d0,ed0⟩:=Z.f (n.k0.su-n.s0);obtain⟨d1,ed1⟩:=Z.f (n.k1.su-n.s1);unfold Jt at hv;rw[eu1,eu2,ew1,ew2,ed0,ed1] at hv;rw[ed0] at hk0;rw[ed1] at hk1;obtain⟨⟨y0,z0⟩,er0⟩:=Z.e (Ef n.a0 n.b0 w1 w2 n.c.c0 d0);obtain⟨⟨y1,z1⟩,er1⟩:=Z.e (Ef n.a1 n.b1 w1 w2 n.c.c0 d1);rw[<- er0,<- er1] at hv;simp only at hv;have q0:=PV x;have q1:=MQ (a:=n.p.lo) (b:=n.p.hi) (c:=x) (d:=x) (l:=u1) (h:=u2) hp.2.1 (Int.le_refl _) eu1 eu2 (by unfold I62;omega) (by unfold I62;omega) (by unfold I62;omega) (by unfold I62;omega);have q2:=PW (a:=u1) (b:=u2) (c:=n.o0) (d:=n.o1) (l:=w1) (h:=w2) Z.o ho.2.1 ew1 ew2 (by unfold I62;omega) (by unfold I62;omega) (by unfold I62;omega) (by unfold I62;omega);obtain⟨oa,q3⟩:=UZ (c:=n.a0) (d:=n.b0) (a:=w1) (b:=w2) (p:=n.c.c0) (n:=d0) Z.o Z.o Z.o hc hk0 er0;obtain⟨ob,q4⟩:=UZ (c:=n.a1) (d:=n.b1) (a:=w1) (b:=w2) (p:=n.c.c0) (n:=d1) Z.o Z.o Z.o hc hk1 er1;subst hv;clear er0 er1 eu1 eu2 ew1 ew2 hp ho hc;have hu1:=hu;obtain⟨⟨c0,c1,c2,c3,c4,c5,c6,c7,c8,c9,c10,c11,c12,c13⟩,es,ds,cy,g0,g1,os,⟨kn0,la0,su0⟩,⟨kn1,la1,su1⟩,a0,b0,a1,b1,lo,hi,di,on,gr,⟨pl,ph,pe,fr,rs⟩,cl,o0,o1,s0,s1,sc,so,ra,ro,m0,m1,⟨wi,wt,wf⟩⟩:=n;obtain⟨hue,hud,huo,hur⟩:=hu1;simp only at hue hud huo hur q1 q2 q3 q4 ed0 ed1;refine Z.x Tryz.func102 λzB zE _ _ zF _ hw zC zA _ _ zI _ _ P hP=>?_;cbv;have n1:zF true=false:=by rw[zI];rfl
 have n2:zF false=true:=by rw[zI];rfl
 have e1:zB .sub .i64 su0 s0=d0:=by rw[zC,Bj Z.o Z.o];exact ed0
 have e2:zB .sub .i64 su1 s1=d1:=by rw[zC,Bj Z.o Z.o];exact ed1
 clear ed0 ed1 hk0 hk1;repeat' (first|(simp only[n1,n2];cbv)|(refine Call.s hP q0 ?_;cbv)|(refine AB.s hP q0 ?_;cbv)|(refine Call.s hP q1 ?_;cbv)|(refine AB.s hP q1 ?_;cbv)|(refine Call.s hP q2 ?_;cbv)|(refine AB.s hP q2 ?_;cbv)|fail)
 (refine Ae.rounds hw 3 ?_;cbv);have c0':zE .lss 0 2=true:=W.lt zA Z.d;have c1':zE .lss 1 2=true:=W.lt zA Z.d;have c2':zE .lss 2 2=false:=W.nlt zA Z.d;have a0':zB .add .i64 0 1=1:=by rw[zC];rfl
 have a1':zB .add .i64 1 1=2:=by rw[zC];rfl
 repeat' (first|(simp only[c0',c1',c2',a0',a1',e1,e2];cbv)|(refine Call.s hP q3 ?_;cbv)|(refine AB.s hP q3 ?_;cbv)|(refine Call.s hP q4 ?_;cbv)|(refine AB.s hP q4 ?_;cbv)|(refine InN.mk Z.d Z.d ?_;(try cbv))|(refine And.intro ?_ ?_)|fail)
 all_goals first|exact⟨_,rfl⟩|(skip;skip;fail   )
def IJ(G:Gr)(n:Nv)(g a b:Int):Nv:={ n with on:=true,gr:=g,p:=⟨-(G.acc+n.c.c8)+min 0 a,G.acc+n.c.c8+max 0 b,(-(G.acc+n.c.c8)+min 0 a+(G.acc+n.c.c8+max 0 b))/2,G.off,[rtC [G.seg]]⟩ }
def lrn?(n m:Nv)(at_:List Int):Nv:=match n.on && n.cl,at_ with|true,[y]=>Jt m y|_,_=>m
def C_(G:Gr)(n:Nv)(x:Fo)(a b:Int):Nv:=
 { lrn? n (IJ G n x.g a b) x.at_ with cl:=true,o0:=(IJ G n x.g a b).p.lo,o1:=(IJ G n x.g a b).p.hi,s0:=n.k0.su,s1:=n.k1.su }
theorem Vp(gs:List Gr)(n:Nv)(hu:NvU n)(zY:n.ds=gs.map Ak)(h8:0<=n.c.c8/\n.c.c8<=1048576)(hc:1<=n.c.c0/\n.c.c0<=1024)(x:Fo)(hg:0<=x.g)(G:Gr)(hG:gs[x.g.toNat]?=some G)(hacc:0<=G.acc/\G.acc<=1048576)
 (a b:Int) (ha: -1099511627776<=a) (hb:b<=1099511627776) (hab:a<=b) (hx:∀y,y∈x.at_ -> -35184372088832<=y/\y<=35184372088832) (ho: -17592186044416<=n.o0/\n.o0<=n.o1/\n.o1<=17592186044416)
 (hk0: -1099511627776<=n.k0.su-n.s0/\n.k0.su-n.s0<=1099511627776) (hk1: -1099511627776<=n.k1.su-n.s1/\n.k1.su-n.s1<=1099511627776) (as_:List (List AV)) (eas:as_=x.at_.map Ac) (v:Nv) (hv:v=C_ G n x a b) :
 AJ Tryz.prog 49 [.ref 0 55 0 0,.agg [x.g,.list 1 as_,x.ok,x.ac],.agg [a,b]] [.live 55 [n.row]] (λr hp=>r = .tuple []/\∃j,hp = .live 55 [v.row]::j):=by
 obtain⟨lo',elo⟩:∃z,-(G.acc+n.c.c8)+min 0 a=z:=⟨_,rfl⟩;obtain⟨hi',ehi⟩:=Z.f (G.acc+n.c.c8+max 0 b);obtain⟨es',ees⟩:∃z,(lo'+hi')/2=z:=⟨_,rfl⟩;obtain⟨r0,er0⟩:∃z,z=[rtC [G.seg]]:=⟨_,rfl⟩;have hGd:n.ds[x.g.toNat]?=some (Ak G):=by rw[zY,List.getElem?_map,hG];rfl
 have q1:=f_ n.es n.ds hu.es hu.ds x.g hg G hGd n.c.c0 n.c.c1 n.c.c2 n.c.c3 n.c.c4 n.c.c5 n.c.c6 n.c.c7 n.c.c8 n.c.c9 n.c.c10 n.c.c11 n.c.c12 n.c.c13 h8 hacc a b lo' hi' es' (by unfold I62;omega) Z.o elo ehi ees r0 er0;have hur0:Up0 r0:=by rw[er0];exact⟨rfl⟩
 obtain⟨m,em⟩:=Z.e (IJ G n x.g a b);have hm:m={ n with on:=true,gr:=x.g,p:=⟨lo',hi',es',G.off,r0⟩ }:=by rw[em];unfold IJ;rw[elo,ehi,ees,er0]
 unfold C_ at hv;rw[<- em] at hv;have hv1:v={ lrn? n m x.at_ with cl:=true,o0:=lo',o1:=hi',s0:=n.k0.su,s1:=n.k1.su }:=by rw[hv,hm]
 clear hv em er0;have hu':NvU m:=by rw[hm];exact⟨hu.es,hu.ds,hu.os,hur0⟩
 have q2:∀y,y∈x.at_->∀u,u=Jt m y->AJ Tryz.prog 102 [.ref 0 55 0 0,y] [.live 55 [m.row]] (λr hp=>r = .tuple []/\∃j,hp = .live 55 [u.row]::j):=λy hy u eu =>
  iR m hu' y (hx y hy) (by rw[hm];simp only;omega) (by rw[hm];simp only;omega) (by rw[hm];exact hc) (by rw[hm];exact hk0) (by rw[hm];exact hk1) u eu
 have hul:∀y,NvU (Jt m y):=λy=>by rw[hm];exact⟨hu.es,hu.ds,hu.os,hur0⟩
 have hus:Up0 (x.at_.map Ac):=BM (f:=Ac) (λd=>rfl) _;have hasl:as_.length=x.at_.length:=by rw[eas];simp
 rw[<- eas] at hus;have hG0:∀y,x.at_=[y]->as_[(0:Int).toNat]?=some [.int .i64 y]:=λy hy=>by rw[eas,hy];rfl
 clear hGd elo ehi ees hx ho hk0 hk1 eas;obtain⟨xg,xa,xo,xc⟩:=x;simp only at hv1 hm q1 q2 hasl hG0 hul;obtain⟨gid,gseg,goff,gacc,gsl⟩:=G;simp only at hm q1;have hu1:=hu;obtain⟨⟨c0,c1,c2,c3,c4,c5,c6,c7,c8,c9,c10,c11,c12,c13⟩,es,ds,cy,g0,g1,os,⟨kn0,la0,su0⟩,⟨kn1,la1,su1⟩,a0,b0,a1,b1,lo,hi,di,on,gr,⟨pl,ph,pe,fr,rs⟩,cl,o0,o1,s0,s1,sc,so,ra,ro,m0,m1,⟨wi,wt,wf⟩⟩:=n;obtain⟨hue,hud,huo,hur⟩:=hu1;simp only at hue hud huo hur hv1 hm q1
 cases on with
 | false =>
   have hv2:v={ m with cl:=true,o0:=lo',o1:=hi',s0:=su0,s1:=su1 }:=(by rw[hv1];rfl);subst hm;subst hv2;clear q2 hv1 hul hu';refine Z.x Tryz.func49 λzB zE _ _ zF _ hw zC zA _ _ zI _ hz P hP=>?_;cbv;have n1:zF true=false:=(by rw[zI];rfl);have n2:zF false=true:=(by rw[zI];rfl);have c0':zE .lss 0 2=true:=W.lt zA Z.d;have c1':zE .lss 1 2=true:=W.lt zA Z.d;have c2':zE .lss 2 2=false:=W.nlt zA Z.d;have a0':zB .add .i64 0 1=1:=(by rw[zC];rfl);have a1':zB .add .i64 1 1=2:=(by rw[zC];rfl);repeat' (first|(simp only[n1,n2];cbv)|(refine Call.s hP q1 ?_;cbv)|(refine AB.s hP q1 ?_;cbv)|fail)
   (refine Ae.rounds hw 3 ?_;cbv);repeat' (first|(simp only[c0',c1',c2',a0',a1'];cbv)|(refine InN.mk Z.d Z.d ?_;(try cbv))|(refine And.intro ?_ ?_)|fail)
   all_goals first|exact⟨_,rfl⟩|(skip;skip;fail   )
 | true =>
   cases cl with
   | false =>
     have hv2:v={ m with cl:=true,o0:=lo',o1:=hi',s0:=su0,s1:=su1 }:=(by rw[hv1];rfl);subst hm;subst hv2;clear q2 hv1 hul hu';refine Z.x Tryz.func49 λzB zE _ _ zF _ hw zC zA _ _ zI _ hz P hP=>?_;cbv;have n1:zF true=false:=(by rw[zI];rfl);have n2:zF false=true:=(by rw[zI];rfl);have c0':zE .lss 0 2=true:=W.lt zA Z.d;have c1':zE .lss 1 2=true:=W.lt zA Z.d;have c2':zE .lss 2 2=false:=W.nlt zA Z.d;have a0':zB .add .i64 0 1=1:=(by rw[zC];rfl);have a1':zB .add .i64 1 1=2:=(by rw[zC];rfl);repeat' (first|(simp only[n1,n2];cbv)|(refine Call.s hP q1 ?_;cbv)|(refine AB.s hP q1 ?_;cbv)|fail)
     (refine Ae.rounds hw 3 ?_;cbv);repeat' (first|(simp only[c0',c1',c2',a0',a1'];cbv)|(refine InN.mk Z.d Z.d ?_;(try cbv))|(refine And.intro ?_ ?_)|fail)
     all_goals first|exact⟨_,rfl⟩|(skip;skip;fail   )
   | true =>
     by_cases h1:xa.length=1
     ·obtain⟨y,rfl⟩:∃y,xa=[y]:=by
       match xa,h1 with
       | [y],_=>exact⟨y,rfl⟩
      obtain⟨u,eu⟩:=Z.e (Jt m y);have q3:=q2 y (List.mem_singleton.2 rfl) u eu;have hr0:=hG0 y rfl;have u0:=hu'.row;have hnu:=hul y;rw[<- eu] at hnu;have u1:=hnu.row;have hv2:v={ u with cl:=true,o0:=lo',o1:=hi',s0:=su0,s1:=su1 }:=(by rw[hv1,eu];rfl);have hu2:∃y0 z0 y1 z1,u={ m with a0:=y0,b0:=z0,a1:=y1,b1:=z1 }:=⟨_,_,_,_,by rw[eu];rfl⟩;obtain⟨y0,z0,y1,z1,hu2⟩:=hu2;subst hm;subst hu2;subst hv2;clear q2 hv1 hul hu' hnu eu hG0;refine Z.x Tryz.func49 λzB zE _ _ zF zK hw zC zA _ _ zI zH hz P hP=>?_;cbv;have n1:zF true=false:=(by rw[zI];rfl);have n2:zF false=true:=(by rw[zI];rfl);have c0':zE .lss 0 2=true:=W.lt zA Z.d;have c1':zE .lss 1 2=true:=W.lt zA Z.d;have c2':zE .lss 2 2=false:=W.nlt zA Z.d;have a0':zB .add .i64 0 1=1:=(by rw[zC];rfl);have a1':zB .add .i64 1 1=2:=by rw[zC];rfl
      (obtain⟨L,eL,L0,Ln⟩:∃L:Int,zK as_=L/\0<=L/\L.toNat=as_.length:=⟨(as_.length:Int),by rw[zH],Int.natCast_nonneg _,Int.toNat_natCast _⟩)
      have d1:zE .eql L 1=true:=W.eq zA (by simp only[List.length_singleton] at hasl;omega);have i00:(0:Int)<=0:=Int.le_refl _;repeat' (first|(simp only[n1,n2,eL,d1];cbv)|(refine Call.s hP q1 ?_;cbv)|(refine AB.s hP q1 ?_;cbv)|(refine Idx.mk _ i00 hr0 ?_;cbv)|fail)
      refine Call.o (s:=0) hP q3 u0 u1 rfl rfl rfl rfl ?_;cbv;repeat' (first|(simp only[n1,n2,eL,d1];cbv)|(refine Call.s hP q1 ?_;cbv)|(refine AB.s hP q1 ?_;cbv)|(refine Idx.mk _ i00 hr0 ?_;cbv)|fail)
      (refine Ae.rounds hw 3 ?_;cbv);repeat' (first|(simp only[c0',c1',c2',a0',a1'];cbv)|(refine InN.mk Z.d Z.d ?_;(try cbv))|(refine And.intro ?_ ?_)|fail)
      all_goals first|exact⟨_,rfl⟩|(skip;skip;fail   )
     ·have hv2:v={ m with cl:=true,o0:=lo',o1:=hi',s0:=su0,s1:=su1 }:=by
       rw[hv1]
       match xa,h1 with
       | [],_=>rfl
       | _::_::_,_=>rfl
      subst hm;subst hv2;clear q2 hv1 hul hu';refine Z.x Tryz.func49 λzB zE _ _ zF zK hw zC zA _ _ zI zH _ P hP=>?_;cbv;have n1:zF true=false:=(by rw[zI];rfl);have n2:zF false=true:=(by rw[zI];rfl);have c0':zE .lss 0 2=true:=W.lt zA Z.d;have c1':zE .lss 1 2=true:=W.lt zA Z.d;have c2':zE .lss 2 2=false:=W.nlt zA Z.d;have a0':zB .add .i64 0 1=1:=(by rw[zC];rfl);have a1':zB .add .i64 1 1=2:=by rw[zC];rfl
      (obtain⟨L,eL,L0,Ln⟩:∃L:Int,zK as_=L/\0<=L/\L.toNat=as_.length:=⟨(as_.length:Int),by rw[zH],Int.natCast_nonneg _,Int.toNat_natCast _⟩)
      have d1:zE .eql L 1=false:=W.neq zA Z.o;repeat' (first|(simp only[n1,n2,eL,d1];cbv)|(refine Call.s hP q1 ?_;cbv)|(refine AB.s hP q1 ?_;cbv)|fail)
      (refine Ae.rounds hw 3 ?_;cbv);repeat' (first|(simp only[c0',c1',c2',a0',a1'];cbv)|(refine InN.mk Z.d Z.d ?_;(try cbv))|(refine And.intro ?_ ?_)|fail)
      all_goals first|exact⟨_,rfl⟩|(skip;skip;fail   )
def Du(x:Int×Int)(s:Sg):Int×Int:=(min x.1 (Bl s.ps 0 s.len s.ps.length).1,max x.2 (Bl s.ps 0 s.len s.ps.length).2.1)
def FJ(ss:List Sg):Int×Int:=ss.foldl Du (match ss[0]? with|some s=>((s.ps.getD 0 (0,0)).2,(s.ps.getD 0 (0,0)).2)|none=>(0,0))
theorem PX:∀(l:List Sg),(∀s,s∈l->Ev s.ps)->∀x:Int×Int,x.1<=x.2 -> -1048576<=x.1->x.2<=1048576->(l.foldl Du x).1<=(l.foldl Du x).2 /\ -1048576<=(l.foldl Du x).1/\(l.foldl Du x).2<=1048576
 | [],_,x,h1,h2,h3=>⟨h1,h2,h3⟩
 | s::l,hp,x,h1,h2,h3=>by
   rw[List.foldl_cons];have hb:=Oq (hp s List.mem_cons_self).gr 0 s.len _ (Nat.le_refl _);have hl:=JK s.ps 0 s.len s.ps.length;exact PX l (λs hs=>hp s (List.mem_cons_of_mem _ hs)) _ (by unfold Du;simp only;omega) (by unfold Du;simp only;omega) (by unfold Du;simp only;omega)
theorem WE{ss:List Sg}(hp:∀s,s∈ss->Ev s.ps):(FJ ss).1<=(FJ ss).2 /\ -1048576<=(FJ ss).1/\(FJ ss).2<=1048576:=by
 unfold FJ
 cases hs:ss[0]? with
 | none=>exact PX ss hp _ (Int.le_refl _) Z.d Z.d
 | some s =>
   have:=(hp s (List.mem_of_getElem? hs)).gr 0 (hp s (List.mem_of_getElem? hs)).ne;exact PX ss hp _ (Int.le_refl _) this.1 this.2
theorem WH(ss:List Sg)(gs:List Gr)(es ds:List (List AV))(zQ:es=ss.map Ah)(zY:ds=gs.map Ak)(hn:1<=ss.length)(hsl:ss.length<=1000000)(hln:CS ss)(hpc:∀s,s∈ss->Ev s.ps)(a b:Int)(e:(a,b)=FJ ss) :
 A9 Tryz.prog 35 [.agg [.list 3 es,.list 5 ds]] (· = .agg [a,b]):=by
 have hu:Up0 es:=by rw[zQ];exact Bu ss
 have hud:Up0 ds:=by rw[zY];exact Bv gs
 have hel:es.length=ss.length:=by rw[zQ];simp
 obtain⟨s0,hs0⟩:∃s,ss[0]?=some s:=⟨_,List.getElem?_eq_getElem Z.o⟩;have hp0:=hpc s0 (List.mem_of_getElem? hs0);obtain⟨x0,ex0⟩:∃x,x=(s0.ps.getD 0 (0,0)).2:=⟨_,rfl⟩;unfold FJ at e;rw[hs0] at e;simp only at e;rw[<- ex0] at e;obtain⟨len0,ps0,nx0⟩:=s0;simp only at hp0 ex0;obtain⟨⟨f0,g0⟩,hg0⟩:∃p,ps0[0]?=some p:=⟨_,List.getElem?_eq_getElem hp0.ne⟩;have hx0:x0=g0:=by rw[ex0,List.getD_eq_getElem?_getD,hg0];rfl
 subst hx0;obtain⟨pq0,epq0⟩:=Z.e (ps0.map Ap);obtain⟨xn0,exn0⟩:=Z.e (nx0.map Ac);have hr0:es[(0:Int).toNat]?=some [.int .i64 len0,.list 2 pq0,.list 1 xn0]:=by rw[zQ,List.getElem?_map,show (0:Int).toNat=0 from rfl,hs0,epq0,exn0];rfl
 have hr1:pq0[(0:Int).toNat]?=some [.int .i64 f0,.int .i64 x0]:=by rw[epq0,List.getElem?_map,show (0:Int).toNat=0 from rfl,hg0];rfl
 have q1:=PV x0;clear ex0 hs0 hp0 hg0 epq0 exn0;refine Z.y Tryz.func35 λzB _ _ _ _ zK hw zC zA _ _ _ zH hz R hR P hP=>?_;cbv;have i00:(0:Int)<=0:=Int.le_refl _;repeat' (first|(refine Idx.mk _ i00 hr0 ?_;cbv)|(refine Idx.mk _ i00 hr1 ?_;cbv)|(refine Call.s hP q1 ?_;cbv)|fail)
 (obtain⟨L,eL,L0,Ln⟩:∃L:Int,zK es=L/\0<=L/\L.toNat=es.length:=⟨(es.length:Int),by rw[zH],Int.natCast_nonneg _,Int.toNat_natCast _⟩)
 simp only[eL];have ez:Du=Du:=rfl
 refine Ae.data hw (S:=Int×Int×Int) (λs=>fr 38 [(2,.ref 1 2 0 0),(3,.ref 2 2 0 0),(18,.list 3 es),(19,L),(20,s.1)]) (λs=>[.live 2 [[.list 3 es,.list 5 ds]],.live 2 [[(0:Int),(0:Int)]],.live 2 [[s.2.1,s.2.2]]])
  (λs=>0<=s.1/\s.1<=L/\s.2.1<=s.2.2/\(s.2.1,s.2.2)=(ss.take s.1.toNat).foldl Du (x0,x0)) (λs=>(L-s.1).toNat) (0,x0,x0) Z.i ⟨Int.le_refl _,L0,Int.le_refl _,rfl⟩ ?_
 rintro⟨i,y1,y2⟩ zJ Q' hN hE hR'
 have zJ:0<=i/\i<=L/\y1<=y2/\(y1,y2)=(ss.take i.toNat).foldl Du (x0,x0):=zJ;obtain⟨zW,yZ,hy,hyf⟩:=zJ;by_cases yC:i<L
 ·obtain⟨s,hs⟩:∃l,ss[i.toNat]?=some l:=⟨_,List.getElem?_eq_getElem (show i.toNat<ss.length by omega)⟩
  have hps:=hpc s (List.mem_of_getElem? hs);have hls:=hln.pos s (List.mem_of_getElem? hs);obtain⟨i2,ei2⟩:=Z.e (i+1);have htk:ss.take i2.toNat=ss.take i.toNat++[s]:=(by rw[ei2];exact Eu zW hs);obtain⟨v,ev⟩:=Z.e (Bl s.ps 0 s.len s.ps.length);have hvl:=JK s.ps 0 s.len s.ps.length;rw[<- ev] at hvl;obtain⟨z1,ez1⟩:=Z.f (min y1 v.1);obtain⟨z2,ez2⟩:=Z.f (max y2 v.2.1)
  have hz:(z1,z2)=(ss.take i2.toNat).foldl Du (x0,x0):=by
   rw[htk,List.foldl_append,<- hyf];show _=Du (y1,y2) s;unfold Du;rw[<- ev,ez1,ez2]
  obtain⟨len,ps,nx⟩:=s;simp only at hps hls ev;obtain⟨pq,epq⟩:=Z.e (ps.map Ap);obtain⟨xn,exn⟩:=Z.e (nx.map Ac);have hupq:Up0 pq:=(by rw[epq];exact E5 ps);have zL:es[i.toNat]?=some [.int .i64 len,.list 2 pq,.list 1 xn]:=(by rw[zQ,List.getElem?_map,hs,epq,exn];rfl);have q2:=QQ ps (by have:=hps.le;omega) pq epq 0 len Z.o v ev;have q3:=KC hy hvl ez1 ez2;have hT:(L-i2).toNat<(L-i).toNat:=(by omega);have ck:=W.lt zA yC;have a4:zB .add .i64 i 1=i2:=(by rw[zC,Ag Z.o Z.o,ei2]);have hz12:z1<=z2:=(by omega);obtain⟨v1,v2,v3⟩:=v;simp only at q2 q3;clear ev ez1 ez2 htk hs hps epq hyf ez hpc;cbv;repeat' (first|(simp only[ck,a4];cbv)|(refine Call.s hP q2 ?_;cbv)|(refine AB.s hP q2 ?_;cbv)|(refine Call.s hP q3 ?_;cbv)|(refine AB.s hP q3 ?_;cbv)|(refine Idx.mk _ zW zL ?_;cbv)|fail)
  refine hN (i2,z1,z2) _ _ ?hx ?hi hT
  case hx=>exact Z.i
  case hi=>exact⟨by simp only;omega,by simp only;omega,by simp only;omega,hz⟩
 ·have ck:=W.nlt zA (show L<=i by omega)
  rw[List.take_of_length_le Z.o,<- e] at hyf;obtain⟨rfl,rfl⟩:=Prod.mk.inj hyf;clear hyf e ez hpc;cbv;simp only[ck];refine hE _ _ _ ?_;cbv;exact Z.r hR
end Go.Proofs.YtlchlddijclhjaaGreat
