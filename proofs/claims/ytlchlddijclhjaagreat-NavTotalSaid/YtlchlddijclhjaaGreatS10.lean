/- Parts of the proofs. -/
import Derived.KernelRfl
import Derived.Test.YtlchlddijclhjaaGreatS9
import Derived.Test.YtlchlddijclhjaaGreatS7
import Derived.Test.YtlchlddijclhjaaGreatS5
set_option linter.unusedVariables false
set_option linter.unusedSimpArgs false
namespace Go.Proofs.YtlchlddijclhjaaGreat
open Go Go.RowKit Go.Eng
set_option maxRecDepth 100000
theorem q0M(an on:Bool)(lo hi:Int)(still com:Bool)(a b:Int)(c0 c1 c2 c3 c4 c5 c6 c7 c8 c9 c10 c11 c12 c13:Int):k02 Tryz.prog 52 [.agg [.bool an,.bool on,.int .i64 lo,.int .i64 hi],.agg [.int .i64 c0,.int .i64 c1,.int .i64 c2,.int .i64 c3,.int .i64 c4,.int .i64 c5,.int .i64 c6,.int .i64 c7,.int .i64 c8,.int .i64 c9,.int .i64 c10,.int .i64 c11,.int .i64 c12,.int .i64 c13],.bool still,.bool com,sp2 a b] (λr=>∃an' on' lo' hi',r = .agg [.bool an',.bool on',.int .i64 lo',.int .i64 hi']/\(com=true->an'=false/\on'=false/\lo'=0/\hi'=0)/\(com=false->an=false->an'=still/\on'=false/\lo'=0/\hi'=0) /\
 (com=false->an=true->0<=c11->c11<2000000000->lo<=hi->a<=b->InR (lo+a)->InR (hi+b)->an'=true/\lo'=lo+a/\hi'=hi+b/\(on'=true↔on=true\/c11<lo+a\/hi+b < -c11))):=by
 (refine k02.ofY Tryz.func52 (by kernel_rfl) (by kernel_rfl) λw hw R hR=>?_);(conv=>arg 2;cbv);(generalize hP:Tryz.prog=P);cbv;(split<;>rename_i hb<;>(try (rw[hw] at hb))<;>(try (simp only[std,k05,k04,k08,k03,k0M,Bool.not_eq_true',Bool.not_eq_false',decide_eq_true_eq,decide_eq_false_iff_not,Int.not_lt,Int.not_le,if_true,if_false,Bool.false_eq_true,beq_iff_eq,bne_iff_ne,ne_eq,Bool.not_eq_eq_eq_not,Bool.not_true,Bool.not_false,beq_eq_false_iff_ne,bne_eq_false_iff_eq,Int.ofNat_eq_natCast] at hb))<;>(try cbv))
 ·exact⟨_,Vw.same rfl,hR _ ⟨_,_,_,_,rfl,(λ_=>⟨rfl,rfl,rfl,rfl⟩),(λh=>by simp at h),(λh=>by simp at h)⟩⟩
 (split<;>rename_i hb<;>(try (rw[hw] at hb))<;>(try (simp only[std,k05,k04,k08,k03,k0M,Bool.not_eq_true',Bool.not_eq_false',decide_eq_true_eq,decide_eq_false_iff_not,Int.not_lt,Int.not_le,if_true,if_false,Bool.false_eq_true,beq_iff_eq,bne_iff_ne,ne_eq,Bool.not_eq_eq_eq_not,Bool.not_true,Bool.not_false,beq_eq_false_iff_ne,bne_eq_false_iff_eq,Int.ofNat_eq_natCast] at hb))<;>(try cbv))
 ·refine⟨_,Vw.same rfl,hR _ ⟨_,_,_,_,rfl,(λh=>by simp at h),(λ_ _=>⟨rfl,rfl,rfl,rfl⟩),λ_ h=>?_⟩⟩
  rw[hb] at h;cases h
 refine Call.step (by rw[<- hP];exact q0J _ _ _ _) rfl ?_;rintro r ⟨l,h,o,rfl,h1⟩;cbv
 have end2:∀(on':Bool) (l' h':Int),o=true/\l'=l/\h'=h\/o=false/\l'=lo/\h'=hi->(on'=true↔on=true\/c11<l'\/h'<std.3 .neg .i64 c11)->R (.agg [.bool an,.bool on',.int .i64 l',.int .i64 h']):=by
  intro on' l' h' e1 e2;refine hR _ ⟨_,_,_,_,rfl,(λh=>by simp at h),(λ_ h=>by rw[hb] at h;cases h),λ_ _ g1 g2 g3 g4 g5 g6=>?_⟩;obtain⟨k1,k2,k3⟩:=h1 g3 g4 g5 g6
  have en:std.3 .neg .i64 c11 = - c11:=by
   show IntKind.i64.wrap (0-c11)=_;rw[IntKind.wrap_i64];omega
  rw[en] at e2;rcases e1 with ⟨_,rfl,rfl⟩|⟨h,_⟩
  ·refine⟨hb,k2,k3,e2.trans ?_⟩
   rw[k2,k3]
  ·rw[h] at k1;cases k1
 clear hR;repeat' (split<;>rename_i hb<;>(try (rw[hw] at hb))<;>(try (simp only[std,k05,k04,k08,k03,k0M,Bool.not_eq_true',Bool.not_eq_false',decide_eq_true_eq,decide_eq_false_iff_not,Int.not_lt,Int.not_le,if_true,if_false,Bool.false_eq_true,beq_iff_eq,bne_iff_ne,ne_eq,Bool.not_eq_eq_eq_not,Bool.not_true,Bool.not_false,beq_eq_false_iff_ne,bne_eq_false_iff_eq,Int.ofNat_eq_natCast] at hb))<;>(try cbv))
 all_goals
  refine⟨_,Vw.same rfl,end2 _ _ _ (by first|exact .inl ⟨rfl,rfl,rfl⟩|exact .inr ⟨rfl,rfl,rfl⟩) ?_⟩;subst hw;simp[std,k04] at *;try omega
end Go.Proofs.YtlchlddijclhjaaGreat
namespace Go.Eng
open Go Go.RowKit Go.WideShapes
inductive Sh where
 | bool
 | int (k:IntKind)
 | str
 | list (z:Nat) (row:List Sh)
mutual
def Sh.Ok:Sh->AV->Prop
 | .bool,x=>∃b,x = .bool b
 | .int k,x=>∃n,x = .int k n/\(Lit.int k n).wf=true
 | .str,x=>∃s:ByteArray,x = .str s/\s.size<=kEV
 | .list z row,x=>∃es,x = .list z es/\es.length<=kEV/\∀r,r∈es->OkL row r
def OkL:List Sh->List AV->Prop
 | [],xs=>xs=[]
 | s::l,xs=>∃x y,xs=x::y/\s.Ok x/\OkL l y
end
def kZE(P:Program)(g:TypeId->Option (List Sh)):List Field->Option (List Sh)
 | []=>some []
 | f::fs=>match g f.type,kZE P g fs with
   | some a,some b=>if a.length=P.cellsOf f.type then some (a++b) else none
   | _,_=>none
def shN(a:List Sh):Nat->List Sh
 | 0=>[]
 | n+1=>a++shN a n
def kJF(P:Program):Nat->TypeId->Option (List Sh)
 | 0,_=>none
 | m+1,t =>
   match P.underlying t with
   | some .bool=>some [.bool]
   | some (.int k)=>some [.int k]
   | some .string=>some [.str]
   | some (.struct fs)=>if k9W P 0 fs.toList=some (P.cellsOf t) then kZE P (kJF P m) fs.toList else none
   | some (.array n e)=>(match kJF P m e with|some a=>if a.length=P.cellsOf e/\P.cellsOf t=n*P.cellsOf e then some (shN a n) else none|none=>none)
   | some (.slice e)=>(match kJF P m e with|some a=>some [.list (P.cellsOf e) a]|none=>none)
   | _=>none
theorem OkL.app{a b:List Sh}:∀ {x y:List AV},OkL a x->OkL b y->OkL (a++b) (x++y):=by
 induction a with
 | nil=>intro x y h1 h2;unfold OkL at h1;subst h1;exact h2
 | cons s l ih =>
   intro x y h1 h2;unfold OkL at h1;obtain⟨x0,y0,rfl,h3,h4⟩:=h1;rw[List.cons_append,List.cons_append];unfold OkL;exact⟨x0,y0++y,rfl,h3,ih h4 h2⟩
theorem OkL.one{s:Sh}{x:AV}(h:s.Ok x):OkL [s] [x]:=by
 unfold OkL;exact⟨x,[],rfl,h,by unfold OkL;rfl⟩
theorem OkL.of_one{s:Sh}{x:AV}(h:OkL [s] [x]):s.Ok x:=by
 unfold OkL at h;obtain⟨y,z,e,h1,h2⟩:=h;simp at e;rw[e.1];exact h1
theorem kLV{P:Program}{m:Nat}(ih:∀t l xs,kJF P m t=some l->TyL P m t xs->OkL l xs){xs:List AV}:∀(fs:List Field) (o k:Nat) (l:List Sh),k9W P o fs=some k->k=xs.length->kZE P (kJF P m) fs=some l->(∀f,f∈fs->TyL P m f.type ((xs.drop f.offset).take (P.cellsOf f.type)))->OkL l (xs.drop o)
 | [],o,k,l,ht,hk,hs,hall=>by
   simp only[k9W,Option.some.injEq] at ht;simp only[kZE,Option.some.injEq] at hs;subst hs;rw[List.drop_eq_nil_of_le (by omega)];unfold OkL;rfl
 | f::fs,o,k,l,ht,hk,hs,hall=>by
   simp only[k9W] at ht;split at ht
   ·rename_i hfo
    simp only[kZE] at hs;split at hs
    ·rename_i a b ha hb
     split at hs
     ·rename_i hl
      simp only[Option.some.injEq] at hs;subst hs;have h1:=ih _ _ _ ha (hall f (List.mem_cons_self ..));have h2:=kLV ih fs _ k b ht hk hb (λg hg=>hall g (List.mem_cons_of_mem _ hg))
      have hcut:xs.drop o=(xs.drop o).take (P.cellsOf f.type)++xs.drop (o+P.cellsOf f.type):=by
       rw[<- List.drop_drop,List.take_append_drop]
      rw[hcut];rw[hfo] at h1;exact h1.app h2
     ·cases hs
    ·cases hs
   ·cases ht
theorem kT6{a:List Sh}{z:Nat}{xs:List AV}:∀(n o:Nat),xs.length=(o+n)*z->(∀i,i<n->OkL a ((xs.drop ((o+i)*z)).take z))->OkL (shN a n) (xs.drop (o*z))
 | 0,o,hl,h=>by
   rw[List.drop_eq_nil_of_le (by simp at hl;omega)];unfold shN OkL;rfl
 | n+1,o,hl,h=>by
   have h1:=h 0 (by omega);rw[Nat.add_zero] at h1;have h2:=kT6 (a:=a) (z:=z) (xs:=xs) n (o+1) (by rw[hl];congr 1;omega) (λi hi=>by have:=h (i+1) (by omega);rwa [show o+(i+1)=o+1+i by omega] at this)
   have hcut:xs.drop (o*z)=(xs.drop (o*z)).take z++xs.drop ((o+1)*z):=by
    rw[Nat.succ_mul,<- List.drop_drop,List.take_append_drop]
   rw[hcut];exact h1.app h2
theorem kAI{P:Program}:∀(m:Nat) (t:TypeId) (l:List Sh) (xs:List AV),kJF P m t=some l->TyL P m t xs->OkL l xs
 | 0,t,l,xs,hs,h=>by simp[kJF] at hs
 | m+1,t,l,xs,hs,h=>by
   unfold TyL at h;unfold kJF at hs;split at hs
   ·rename_i hu
    rw[hu] at h;obtain⟨b,rfl⟩:=h;simp only[Option.some.injEq] at hs;subst hs;exact .one (by unfold Sh.Ok;exact⟨b,rfl⟩)
   ·rename_i k hu
    rw[hu] at h;obtain⟨b,rfl,hb⟩:=h;simp only[Option.some.injEq] at hs;subst hs;exact .one (by unfold Sh.Ok;exact⟨b,rfl,hb⟩)
   ·rename_i hu
    rw[hu] at h;obtain⟨b,rfl,hb⟩:=h;simp only[Option.some.injEq] at hs;subst hs;exact .one (by unfold Sh.Ok;exact⟨b,rfl,hb⟩)
   ·rename_i fs hu
    rw[hu] at h;obtain⟨hl,hf⟩:=h;split at hs
    ·rename_i ht
     have:=kLV (kAI m) (xs:=xs) fs.toList 0 _ l ht hl.symm hs hf
     rwa [List.drop_zero] at this
    ·cases hs
   ·rename_i n e hu
    rw[hu] at h;obtain⟨hl,hf⟩:=h;split at hs
    ·rename_i a ha
     split at hs
     ·rename_i hc
      simp only[Option.some.injEq] at hs;subst hs;have:=kT6 (a:=a) (z:=P.cellsOf e) (xs:=xs) n 0 (by rw[Nat.zero_add,hl,hc.2]) (λi hi=>by rw[Nat.zero_add];exact kAI m e a _ ha (hf i hi))
      rwa [Nat.zero_mul,List.drop_zero] at this
     ·cases hs
    ·cases hs
   ·rename_i e hu
    rw[hu] at h;obtain⟨es,rfl,hl,hr⟩:=h;split at hs
    ·rename_i a ha
     simp only[Option.some.injEq] at hs;subst hs;exact .one (by unfold Sh.Ok;exact⟨es,rfl,hl,λr hrr=>kAI m e a _ ha (hr r hrr)⟩)
    ·cases hs
   ·cases hs
theorem TyV.agg{P:Program}{m:Nat}{t:TypeId}{x:AV}{l:List Sh}(h:TyV P m t x)(ha:k19 P t=some true)(hs:kJF P m t=some l):∃cs,x = .agg cs/\OkL l cs:=by
 unfold TyV at h;rw[ha] at h;obtain⟨cs,rfl,h⟩:=h;exact⟨cs,rfl,kAI m t l cs hs h⟩
theorem TyV.one{P:Program}{m:Nat}{t:TypeId}{x:AV}{s:Sh}(h:TyV P m t x)(ha:k19 P t=some false)(hs:kJF P m t=some [s]):s.Ok x:=by
 unfold TyV at h;rw[ha] at h;exact(kAI m t [s] [x] hs h).of_one
end Go.Eng
namespace Go.Proofs.YtlchlddijclhjaaGreat
open Go Go.RowKit Go.Eng
set_option maxRecDepth 100000
structure Rl where
 an:Bool
 on:Bool
 lo:Int
 hi:Int
def rlV(r:Rl):AV:=.agg [.bool r.an,.bool r.on,.int .i64 r.lo,.int .i64 r.hi]
def k44(c11:Int)(r:Rl)(still com:Bool)(a b:Int):Rl:=
 if com=true then ⟨false,false,0,0⟩ else if r.an=false then ⟨still,false,0,0⟩ else ⟨true,r.on || decide (c11<r.lo+a) || decide (r.hi+b < -c11),r.lo+a,r.hi+b⟩
theorem kX1(an on:Bool)(lo hi:Int)(still com:Bool)(a b:Int)(c0 c1 c2 c3 c4 c5 c6 c7 c8 c9 c10 c11 c12 c13:Int)(g1:0<=c11)(g2:c11<2000000000)(g3:lo<=hi)(g4:a<=b)(g5:InR (lo+a))(g6:InR (hi+b)):k02 Tryz.prog 52 [.agg [.bool an,.bool on,.int .i64 lo,.int .i64 hi],.agg [.int .i64 c0,.int .i64 c1,.int .i64 c2,.int .i64 c3,.int .i64 c4,.int .i64 c5,.int .i64 c6,.int .i64 c7,.int .i64 c8,.int .i64 c9,.int .i64 c10,.int .i64 c11,.int .i64 c12,.int .i64 c13],.bool still,.bool com,sp2 a b] (· = rlV (k44 c11 ⟨an,on,lo,hi⟩ still com a b)):=by
 refine(q0M an on lo hi still com a b c0 c1 c2 c3 c4 c5 c6 c7 c8 c9 c10 c11 c12 c13).mono ?_;rintro r ⟨an',on',lo',hi',rfl,h1,h2,h3⟩;unfold k44;cases com
 ·cases an
  ·obtain⟨rfl,rfl,rfl,rfl⟩:=h2 rfl rfl
   rfl
  ·obtain⟨rfl,rfl,rfl,h⟩:=h3 rfl rfl g1 g2 g3 g4 g5 g6
   show AV.agg _=AV.agg _
   have:on'=(on || decide (c11<lo+a) || decide (hi+b < -c11)):=by
    rw[Bool.eq_iff_iff,h];simp[or_assoc]
   rw[this];rfl
 ·obtain⟨rfl,rfl,rfl,rfl⟩:=h1 rfl
  rfl
theorem k2A{k:IntKind}{l:List Sh}{xs:List AV}(h:OkL (.int k::l) xs):∃n y,xs = .int k n::y/\(Lit.int k n).wf=true/\OkL l y:=by
 unfold OkL at h;obtain⟨x,y,rfl,h1,h2⟩:=h;unfold Sh.Ok at h1;obtain⟨n,rfl,hn⟩:=h1;exact⟨n,y,rfl,hn,h2⟩
theorem kVU{l:List Sh}{xs:List AV}(h:OkL (.bool::l) xs):∃b y,xs = .bool b::y/\OkL l y:=by
 unfold OkL at h;obtain⟨x,y,rfl,h1,h2⟩:=h;unfold Sh.Ok at h1;obtain⟨n,rfl⟩:=h1;exact⟨n,y,rfl,h2⟩
theorem k7I{z:Nat}{row l:List Sh}{xs:List AV}(h:OkL (.list z row::l) xs):∃es y,xs = .list z es::y/\es.length<=kEV/\(∀r,r∈es->OkL row r)/\OkL l y:=by
 unfold OkL at h;obtain⟨x,y,rfl,h1,h2⟩:=h;unfold Sh.Ok at h1;obtain⟨n,rfl,h3,h4⟩:=h1;exact⟨n,y,rfl,h3,h4,h2⟩
theorem k7A{xs:List AV}(h:OkL [] xs):xs=[]:=by unfold OkL at h;exact h
theorem wf64{n:Int}(h:(Lit.int .i64 n).wf=true): -9223372036854775808<=n/\n<=9223372036854775807:=by
 simp[Lit.wf,IntKind.min,IntKind.max,IntKind.signed,IntKind.bits] at h;omega
end Go.Proofs.YtlchlddijclhjaaGreat
