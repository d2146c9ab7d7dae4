/- Parts of the proofs. -/
import Derived.Test.YtlchlddijclhjaaGreatS4
import Derived.SizedLaws
import Derived.ProofKit
import Derived.ChangeArms
import Derived.Lib.SmallJoins
set_option linter.unusedVariables false
set_option linter.unusedSimpArgs false
namespace Go.Eng
open Go Go.RowKit
structure k01 where
 bin:BinOp->IntKind->Int->Int->Int
 cmp:BinOp->Int->Int->Bool
 un:UnOp->IntKind->Int->Int
 conv:IntKind->Int->Int
 not:Bool->Bool
 beq:Bool->Bool->Bool
 mm:Bool->Int->Int->Int
 scmp:BinOp->ByteArray->ByteArray->Bool
 sadd:ByteArray->ByteArray->ByteArray
 slen:ByteArray->Int
 sat:ByteArray->Int->Int
 eqs:List AV->List AV->List (Nat×Nat)->Bool
 len:List (List AV)->Int
 nlen:List (List AV)->Nat
 ofNat:Nat->Int
 take:List (List AV)->Int->List (List AV)
 drop:List (List AV)->Int->List (List AV)
 app:List (List AV)->List (List AV)->List (List AV)
 zero:Int->List AV->List (List AV)
 nat:Int->Nat
def k05(op:BinOp)(k:IntKind)(x y:Int):Int:=
 match op with
 | .add=>k.wrap (x+y)
 | .sub=>k.wrap (x-y)
 | .mul=>k.wrap (x*y)
 | .quo=>k.wrap (x.tdiv y)
 | .rem=>x.tmod y
 | .and=>k.wrap (BitVec.ofInt k.bits x &&& BitVec.ofInt k.bits y).toNat
 | .or=>k.wrap (BitVec.ofInt k.bits x ||| BitVec.ofInt k.bits y).toNat
 | .xor=>k.wrap (BitVec.ofInt k.bits x ^^^ BitVec.ofInt k.bits y).toNat
 | .andNot=>k.wrap (BitVec.ofInt k.bits x &&& ~~~ BitVec.ofInt k.bits y).toNat
 | .shl=>k.wrap (x*2 ^ (min y.toNat k.bits))
 | .shr=>x.fdiv (2 ^ (min y.toNat k.bits))
 | _=>0
def k04(op:BinOp)(x y:Int):Bool:=
 match op with
 | .eql=>x == y
 | .neq=>x != y
 | .lss=>decide (x<y)
 | .leq=>decide (x<=y)
 | .gtr=>decide (y<x)
 | .geq=>decide (y<=x)
 | _=>false
def k08(op:UnOp)(k:IntKind)(n:Int):Int:=
 match op with
 | .neg=>k.wrap (0-n)
 | .xor=>k.wrap (BitVec.ofInt k.bits (if k.signed then -1 else k.max) ^^^ BitVec.ofInt k.bits n).toNat
 | _=>0
def k03(op:BinOp)(x y:ByteArray):Bool:=
 match op with
 | .eql=>x.toList == y.toList
 | .neq=> !(x.toList == y.toList)
 | .lss=>Op.bytesLess x.toList y.toList
 | .leq=>Op.bytesLess x.toList y.toList || x.toList == y.toList
 | .gtr=> !(Op.bytesLess x.toList y.toList || x.toList == y.toList)
 | .geq=> !(Op.bytesLess x.toList y.toList)
 | _=>false
def std:k01 where
 bin:=k05
 cmp:=k04
 un:=k08
 conv:=λk n=>k.wrap n
 not:=λb=> !b
 beq:=λa b=>a == b
 mm:=k0M
 scmp:=k03
 sadd:=λx y=>x++y
 slen:=λs=>s.size
 sat:=λs q=>(s.data.toList.getD q.toNat 0).toNat
 eqs:=λa b os=>(k0O a b os).getD false
 len:=λes=>es.length
 nlen:=λes=>es.length
 ofNat:=λn=>n
 take:=λes b=>es.take b.toNat
 drop:=λes a=>es.drop a.toNat
 app:=λa b=>a++b
 zero:=λn z=>List.replicate n.toNat z
 nat:=λn=>n.toNat
inductive Ob(c:Unit->Prop)(k:Prop):Prop where
 | mk (h:c ()) (k:k)
inductive Nz(y:Int)(k:Prop):Prop where
 | mk (h:y≠0) (k:k)
inductive Nn(y:Int)(k:Prop):Prop where
 | mk (h:0<=y) (k:k)
inductive Le(q:Int)(n:Int)(k:Prop):Prop where
 | mk (h:q<=n) (k:k)
def br(b:Bool)(p q:Prop):Prop:=match b with|true=>p|false=>q
theorem kCM{b:Bool}{p q:Prop}(h:br b p q):(b=true->p)/\(b=false->q):=by
 cases b
 ·exact⟨λh=>(by cases h),λ_=>h⟩
 ·exact⟨λ_=>h,λh=>(by cases h)⟩
inductive Idx(es:List (List AV))(q:Int)(K:List AV->Prop):Prop where
 | mk (row:List AV) (h0:0<=q) (h:es[q.toNat]?=some row) (k:K row)
inductive Fb(k:Unit->Prop):Prop where
 | mk (h:k ())
inductive Ret(l:List AV)(h:k00)(R:AV->Prop):Prop where
 | mk (r:AV) (hv:Vw h (k2Q l) r) (hR:R r)
inductive Call(P:Program)(g:FuncId)(args:List AV)(h:k00)(K:AV->k00->Prop):Prop where
 | mk (c:k06 P g args h K)
inductive k1R(P:Program)(g:FuncId)(args:List AV)(h0:k00)(K:AV->Prop):Prop where
 | mk (c:kBH P g args h0 K)
inductive k1Q(P:Program)(n:Nat)(c:k2Z)(Q:k17)(a:k09)(h:k00):Prop where
 | mk (c:kHE P n c Q a h)
def kC7:IntKind->IntKind->Bool
 | .i8,.i8=>true
 | .i16,.i16=>true
 | .i32,.i32=>true
 | .i64,.i64=>true
 | .u8,.u8=>true
 | .u16,.u16=>true
 | .u32,.u32=>true
 | .u64,.u64=>true
 | _,_=>false
theorem k47{a b:IntKind}(h:kC7 a b=true):a=b:=by cases a<;>cases b<;>first|rfl|cases h
variable (w:k01)
def kU8:BinOp->Bool
 | .add=>true
 | .sub=>true
 | .mul=>true
 | .and=>true
 | .or=>true
 | .xor=>true
 | .andNot=>true
 | _=>false
def q1G:BinOp->Bool
 | .eql=>true
 | .neq=>true
 | .lss=>true
 | .leq=>true
 | .gtr=>true
 | .geq=>true
 | _=>false
def mmX(isMax:Bool)(ev:k0B->AV):AV->List k0B->Option AV
 | v,[]=>some v
 | .int k x,y::ys =>
   match ev y with
   | .int k' y=>match kC7 k k' with|true=>mmX isMax ev (.int k (w.mm isMax x y)) ys|false=>none
   | _=>none
 | _,_=>none
def q2J(op:BinOp)(k k':IntKind)(x y:Int)(K:Res->Prop):Prop:=
 match AOp.isShift op with
 | true=>Nn y (K (.val (.int k (w.bin op k x y))))
 | false =>
   match kC7 k' k with
   | false=>False
   | true =>
     match kU8 op with
     | true=>K (.val (.int k (w.bin op k x y)))
     | false =>
       match q1G op with
       | true=>K (.val (.bool (w.cmp op x y)))
       | false =>
         match op with
         | .quo=>Nz y (K (.val (.int k (w.bin .quo k x y))))
         | .rem=>Nz y (K (.val (.int k (w.bin .rem k x y))))
         | _=>False
def kY6(op:BinOp)(x y:ByteArray)(K:Res->Prop):Prop:=
 match q1G op with
 | true=>K (.val (.bool (w.scmp op x y)))
 | false=>match op with
   | .add=>Le (w.slen (w.sadd x y)) 9223372036854775807 (K (.val (.str (w.sadd x y))))
   | _=>False
def q2D:Nat->AV->AV->Bool
 | 0,.bool _,.bool _=>true
 | 1,.int k _,.int k' _=>kC7 k k'
 | 2,.str _,.str _=>true
 | _,_,_=>false
def kI9(xs ys:List AV):List (Nat×Nat)->Bool
 | []=>true
 | (o,q)::os=>match q2D q (xs.getD o .any) (ys.getD o .any) with|true=>kI9 xs ys os|false=>false
def k3S(o:AOp)(ev:k0B->AV)(h:k00)(fb:Unit->Prop)(K:Res->Prop):Prop:=
 match o with
 | .mv x=>K (.val (ev x))
 | .pick c a b=>(match ev c with | .bool t=>br t (K (.val (ev a))) (K (.val (ev b)))|_=>False)
 | .new z e=>K (.new none z [e])
 | .box z x=>(match (ev x).cellsOf with|some cs=>(match Nat.beq cs.length z,k2P cs with|true,true=>K (.new none z [cs])|_,_=>False)|none=>False)
 | .build zero ps=>(match k6L ev zero ps with|some cs=>K (.val (.agg cs))|none=>False)
 | .bslice z n zero ps=>(match k6L ev (List.replicate n zero).flatten ps with|some cs=>K (.val (.list z (k62 z n cs)))|none=>False)
 | .load g k a =>
   (match ev a with
   | .ref s z i o=>(match h[s]? with
     | some (.live z' es)=>(match Nat.beq z' z,es,Nat.beq i 0,Nat.ble (o+k) z with|true,[row],true,true=>K (.val (k1S g k row o))|_,_,_,_=>False)
     | _=>False)
   | .cref cs=>(match Nat.ble k cs.length with|true=>K (.val (k1S g k cs 0))|false=>False)
   | _=>False)
 | .store k a x =>
   (match ev a with
   | .ref s z i o=>(match h[s]? with
     | some (.live z' es)=>(match (ev x).cellsOf with
       | some cs=>(match Nat.beq z' z,es,Nat.beq i 0,Nat.beq cs.length k,Nat.ble (o+k) z,k2P cs with
         | true,[row],true,true,true,true=>K (.upd s z [k51 row o cs])
         | _,_,_,_,_,_=>False)
       | none=>False)
     | _=>False)
   | _=>False)
 | .nilc x =>
   (match ev x with
   | .ref s z i o=>K (.val (.ref s z i o))
   | .cref cs=>K (.val (.cref cs))
   | .func (.func f) a b=>K (.val (.func (.func f) a b))
   | .iface t v=>K (.val (.iface t v))
   | _=>False)
 | .bin op x y =>
   (match ev x,ev y with
   | .int k a,.int k' b=>q2J w op k k' a b K
   | .str a,.str b=>kY6 w op a b K
   | _,_=>False)
 | .eqb neq x y=>(match ev x,ev y with | .bool a,.bool b=>K (.val (.bool (match neq with|true=>w.not (w.beq a b)|false=>w.beq a b)))|_,_=>False)
 | .mvs x=>(match ev x with | .str s=>K (.val (.str s))|_=>False)
 | .eqs neq n os x y =>
   (match ev x,ev y with
   | .agg a,.agg b=>(match Nat.beq a.length n,Nat.beq b.length n,kI9 a b os with
     | true,true,true=>K (.val (.bool (match neq with|true=>w.not (w.eqs a b os)|false=>w.eqs a b os)))
     | _,_,_=>False)
   | _,_=>False)
 | .un op x =>
   (match op,ev x with
   | .neg,.int k n=>K (.val (.int k (w.un .neg k n)))
   | .not,.bool b=>K (.val (.bool (w.not b)))
   | .xor,.int k n=>K (.val (.int k (w.un .xor k n)))
   | _,_=>False)
 | .conv k x=>(match ev x with | .int _ n=>K (.val (.int k (w.conv k n)))|_=>False)
 | .fadr off x =>
   (match ev x with
   | .ref s z i o=>K (.val (.ref s z i (o+off)))
   | .cref cs=>K (.val (.cref (cs.drop off)))
   | _=>False)
 | .fld g off k x=>(match ev x with | .agg cs=>(match Nat.ble (off+k) cs.length with|true=>K (.val (k1S g k cs off))|false=>False)|_=>False)
 | .iadS z x i =>
   (match ev x,ev i with
   | .list z' es,.int _ q=>(match Nat.beq z' z with|true=>Idx es q (λrow=>K (.val (.cref row)))|false=>False)
   | _,_=>Fb fb)
 | .lenx x =>
   (match ev x with
   | .list _ es=>K (.val (.int .i64 (w.len es)))
   | .sl _ _ _ n=>K (.val (.int .i64 (w.ofNat n)))
   | .nils=>K (.val (.int .i64 (w.ofNat 0)))
   | .emp=>K (.val (.int .i64 (w.ofNat 0)))
   | _=>False)
 | .lens x=>(match ev x with | .str s=>K (.val (.int .i64 (w.slen s)))|_=>False)
 | .lenc n=>K (.val (.int .i64 (w.ofNat n)))
 | .mm isMax x xs=>(match mmX w isMax ev (ev x) xs with|some v=>K (.val v)|none=>False)
 | .app z bytes x y =>
   (match ev y with
   | .list z' [row] =>
     (match ev x,Nat.beq z' z,k2P row with
     | .nils,true,_=>Ob (λ_=>1*bytes<=140737488355328) (K (.new (some 1) z [row]))
     | .emp,_,_=>Fb fb
     | .sl s z'' i n,true,true=>(match h[s]?,Nat.beq z'' z,Nat.beq i 0 with
       | some (.live ww es),true,true=>(match Nat.beq ww z with
         | true=>Ob (λ_=>n=es.length/\es.length+1<=9223372036854775807/\(es.length+1)*bytes<=140737488355328) (K (.repl s z (w.app es [row])))
         | false=>False)
       | _,_,_=>False)
     | _,_,_=>False)
   | _=>Fb fb)
 | .slc z x lo hi =>
   (match ev x with
   | .list z' es =>
     (match Nat.beq z' z,lo.map ev,hi.map ev with
     | true,none,some (.int _ b)=>Nn b (Le b (w.len es) (K (.val (.list z (w.take es b)))))
     | true,some (.int _ a),none=>Nn a (Le a (w.len es) (K (.val (.list z (w.drop es a)))))
     | true,some (.int _ a),some (.int _ b)=>Nn a (Le a b (Le b (w.len es) (K (.val (.list z (w.drop (w.take es b) a))))))
     | true,none,none=>K (.val (.list z es))
     | _,_,_=>False)
   | _=>Fb fb)
 | .ext x i=>(match ev x with | .tuple vs=>(match Nat.ble (i+1) vs.length with|true=>K (.val (vs.getD i .any))|false=>False)|_=>False)
 | .mkf fn first caps=>K (.val (.func fn (evs ev first) (evs ev caps)))
 | .bemp=>K (.val .emp)
 | _=>Fb fb
end Go.Eng
namespace Go.Eng
open Go Go.RowKit
theorem kOR{op:BinOp}{k:IntKind}{x y:Int}{K K':Res->Prop}(hm:∀r,K r->K' r)(H:kYR op k x y K):kYR op k x y K':=by
 cases op<;>simp only[kYR] at H ⊢ <;> first|exact hm _ H|exact⟨H.1,hm _ H.2⟩|exact H.elim
theorem kG4{op:BinOp}{k:IntKind}{x y:Int}{K K':Res->Prop}(hm:∀r,K r->K' r)(H:kBZ op k x y K):kBZ op k x y K':=by
 cases op<;>simp only[kBZ] at H ⊢ <;> first|exact hm _ H|exact⟨H.1,hm _ H.2⟩|exact H.elim
theorem kOP{op:BinOp}{x y:ByteArray}{K K':Res->Prop}(hm:∀r,K r->K' r)(H:kYQ op x y K):kYQ op x y K':=by
 cases op<;>simp only[kYQ] at H ⊢ <;> first|exact hm _ H|exact⟨H.1,hm _ H.2⟩|exact H.elim
theorem k4Y{o:AOp}{ev:k0B->AV}{h:k00}{K K':Res->Prop}(hm:∀r,K r->K' r)(H:k0T o ev h K):k0T o ev h K':=by
 cases o with
 | mv x=>exact hm _ H
 | pick c a b=>simp only[k0T] at H ⊢;split at H<;>first|exact H.elim|(rename_i e;exact hm _ H)
 | new z e=>exact hm _ H
 | box z x=>simp only[k0T] at H ⊢;split at H<;>first|exact H.elim|(exact⟨H.1,hm _ H.2⟩)
 | build zero ps=>simp only[k0T] at H ⊢;split at H<;>first|exact H.elim|(exact hm _ H)
 | bslice z n zero ps=>simp only[k0T] at H ⊢;split at H<;>first|exact H.elim|(exact hm _ H)
 | load g k a =>
   simp only[k0T] at H ⊢;split at H
   ·split at H<;>first|exact H.elim|exact⟨H.1,hm _ H.2⟩
   ·exact⟨H.1,hm _ H.2⟩
   ·exact H.elim
 | store k a x =>
   simp only[k0T] at H ⊢;split at H
   ·split at H
    ·split at H<;>first|exact H.elim|exact⟨H.1,hm _ H.2⟩
    ·exact H.elim
   ·exact H.elim
 | nilc x=>simp only[k0T] at H ⊢;split at H<;>first|exact H.elim|exact hm _ H
 | bin op x y =>
   simp only[k0T] at H ⊢;split at H
   ·split at H
    ·rename_i hs;rw[if_pos hs];exact kG4 hm H
    ·rename_i hs;rw[if_neg hs];exact⟨H.1,kOR hm H.2⟩
   ·exact kOP hm H
   ·exact H.elim
 | eqb neq x y=>simp only[k0T] at H ⊢;split at H<;>first|exact H.elim|exact hm _ H
 | mvs x=>simp only[k0T] at H ⊢;split at H<;>first|exact H.elim|exact hm _ H
 | eqs neq n os x y =>
   simp only[k0T] at H ⊢;split at H
   ·refine⟨H.1,?_⟩
    have H2:=H.2;split at H2
    ·exact hm _ H2
    ·exact H2.elim
   ·exact H.elim
 | un op x=>simp only[k0T] at H ⊢;split at H<;>first|exact H.elim|exact hm _ H
 | conv k x=>simp only[k0T] at H ⊢;split at H<;>first|exact H.elim|exact hm _ H
 | fadr off x=>simp only[k0T] at H ⊢;split at H<;>first|exact H.elim|exact hm _ H
 | fld g off k x=>simp only[k0T] at H ⊢;split at H<;>first|exact H.elim|exact⟨H.1,hm _ H.2⟩
 | iadA n z x i=>simp only[k0T] at H ⊢;split at H<;>first|exact H.elim|exact⟨H.1,hm _ H.2⟩
 | iadS z x i=>simp only[k0T] at H ⊢;split at H<;>first|exact H.elim|exact⟨H.1,hm _ H.2⟩
 | idx g n k x i=>simp only[k0T] at H ⊢;split at H<;>first|exact H.elim|exact⟨H.1,hm _ H.2⟩
 | idxStr x i=>simp only[k0T] at H ⊢;split at H<;>first|exact H.elim|exact⟨H.1,hm _ H.2⟩
 | lenx x=>simp only[k0T] at H ⊢;split at H<;>first|exact H.elim|exact hm _ H
 | lens x=>simp only[k0T] at H ⊢;split at H<;>first|exact H.elim|exact hm _ H
 | lenc n=>exact hm _ H
 | mm b x xs=>simp only[k0T] at H ⊢;split at H<;>first|exact H.elim|exact hm _ H
 | app z b x y =>
   simp only[k0T] at H ⊢;split at H
   ·split at H<;>first|exact H.elim|exact hm _ H
   ·split at H
    ·exact⟨λe=>hm _ (H.1 e),λe=>⟨(H.2 e).1,hm _ (H.2 e).2⟩⟩
    ·exact⟨λe=>hm _ (H.1 e),λe=>⟨(H.2 e).1,hm _ (H.2 e).2⟩⟩
    ·split at H
     ·exact⟨λe=>(H.1 e).imp (hm _) λk=>⟨k.1,hm _ k.2⟩,λe=>⟨(H.2 e).1,hm _ (H.2 e).2⟩⟩
     ·exact H.elim
    ·exact H.elim
   ·exact H.elim
 | slc z x lo hi =>
   simp only[k0T] at H ⊢;split at H
   ·split at H<;>first|exact H.elim|exact⟨H.1,hm _ H.2⟩
   ·exact H.elim
 | mk z b zs l c=>simp only[k0T] at H ⊢;split at H<;>first|exact H.elim|exact⟨H.1,hm _ H.2⟩
 | ext x i=>simp only[k0T] at H ⊢;split at H<;>first|exact H.elim|exact⟨H.1,hm _ H.2⟩
 | mkf fn f c=>exact hm _ H
 | call f xs=>exact H.elim
 | mkm=>exact hm _ H
 | bemp=>exact hm _ H
 | slcS x lo hi =>
   simp only[k0T] at H ⊢;split at H
   ·split at H<;>first|exact H.elim|exact⟨H.1,hm _ H.2⟩|exact hm _ H
   ·exact H.elim
 | toS x =>
   simp only[k0T] at H ⊢;split at H
   ·obtain⟨s,h1,h2⟩:=H;exact⟨s,h1,hm _ h2⟩
   ·split at H
    ·obtain⟨s,h1,h2⟩:=H;exact⟨s,h1,hm _ h2⟩
    ·exact H.elim
   ·exact hm _ H
   ·exact hm _ H
   ·exact H.elim
 | ofS x=>simp only[k0T] at H ⊢;split at H<;>first|exact H.elim|exact hm _ H
 | look g n os z ok x k =>
   simp only[k0T] at H ⊢;split at H
   ·split at H
    ·split at H<;>first|exact H.elim|exact hm _ H
    ·exact H.elim
   ·exact H.elim
 | mput g n os x k v =>
   simp only[k0T] at H ⊢;split at H
   ·split at H
    ·split at H<;>first|exact H.elim|exact hm _ H
    ·exact H.elim
   ·exact H.elim
 | xop _ _ _=>exact H.elim
theorem kMR{b:Bool}{ev:k0B->AV}:∀ {xs:List k0B} {v u:AV},mmX std b ev v xs=some u->mmA b ev v xs=some u
 | [],v,u,h=>by cases v<;>exact h
 | x::xs,v,u,h=>by
   cases v<;>simp only[mmX,reduceCtorEq] at h
   rename_i k n;simp only[mmA];split at h
   ·rename_i k' y hy
    rw[hy];split at h
    ·rename_i hk
     have:=k47 hk;subst this;simp only[if_true];exact kMR h
    ·cases h
   ·cases h
theorem kST{op:BinOp}{k k':IntKind}{x y:Int}{K:Res->Prop}(H:q2J std op k k' x y K):(if AOp.isShift op=true then kBZ op k x y K else k'=k/\kYR op k x y K):=by
 unfold q2J at H;split at H
 ·rename_i hs
  rw[if_pos hs];obtain⟨h0,hk⟩:=H
  cases op<;>simp only[AOp.isShift,Bool.false_eq_true] at hs<;>exact⟨h0,hk⟩
 ·rename_i hs
  rw[if_neg (by rw[hs];simp)];split at H
  ·exact H.elim
  ·rename_i hk
   refine⟨k47 hk,?_⟩;split at H
   ·rename_i ha
    cases op<;>simp only[kU8,Bool.false_eq_true] at ha<;>exact H
   ·split at H
    ·rename_i _ hc
     cases op<;>simp only[q1G,Bool.false_eq_true] at hc<;>exact H
    ·split at H
     ·obtain⟨h0,hk⟩:=H;exact⟨h0,hk⟩
     ·obtain⟨h0,hk⟩:=H;exact⟨h0,hk⟩
     ·exact H.elim
theorem kOQ{op:BinOp}{x y:ByteArray}{K:Res->Prop}(H:kY6 std op x y K):kYQ op x y K:=by
 unfold kY6 at H;split at H
 ·rename_i hc
  cases op<;>simp only[q1G,Bool.false_eq_true] at hc<;>exact H
 ·split at H
  ·obtain⟨h0,hk⟩:=H
   refine⟨?_,hk⟩;have:((x++y).size:Int)<=9223372036854775807:=h0
   rwa [ByteArray.size_append] at this
  ·exact H.elim
theorem kCE{xs ys:List AV}:∀ {os:List (Nat×Nat)},kI9 xs ys os=true->∃r,k0O xs ys os=some r
 | [],_=>⟨true,rfl⟩
 | (o,q)::os,h=>by
   simp only[kI9] at h;split at h
   ·rename_i hc
    obtain⟨r,hr⟩:=kCE h
    have:∃p,eqA q (xs.getD o .any) (ys.getD o .any)=some p:=by
     generalize xs.getD o .any=a at hc;generalize ys.getD o .any=b at hc
     match q,a,b,hc with
     | 0,.bool _,.bool _,_=>exact⟨_,rfl⟩
     | 1,.int k _,.int k' _,hc=>exact⟨_,if_pos (k47 hc)⟩
     | 2,.str _,.str _,_=>exact⟨_,rfl⟩
    obtain⟨p,hp⟩:=this;exact⟨p && r,by simp only[k0O,hp,hr]⟩
   ·cases h
theorem k41{o:AOp}{ev:k0B->AV}{h:k00}{fb:Unit->Prop}{K:Res->Prop}(H:k3S std o ev h fb K)(hf:fb ()->k0T o ev h K):k0T o ev h K:=by
 cases o with
 | mv x=>exact H
 | pick c a b =>
   simp only[k3S,k0T] at H ⊢;split at H
   ·rename_i t e
    obtain⟨h1,h2⟩:=kCM H;rw[e];cases t
    ·exact h2 rfl
    ·exact h1 rfl
   ·exact H.elim
 | new z e=>exact H
 | box z x =>
   simp only[k3S,k0T] at H ⊢;split at H
   ·rename_i cs e
    rw[e];split at H
    ·rename_i e1 e2;exact⟨⟨Nat.eq_of_beq_eq_true e1,e2⟩,H⟩
    ·exact H.elim
   ·exact H.elim
 | build zero ps=>exact H
 | bslice z n zero ps=>exact H
 | load g k a =>
   simp only[k3S,k0T] at H ⊢;split at H
   ·rename_i s z i o' e
    rw[e];simp only;split at H
    ·rename_i z' es e2
     rw[e2];split at H
     ·rename_i row e3 e4 e5
      have h1:=Nat.eq_of_beq_eq_true e3;have h2:=Nat.eq_of_beq_eq_true e4;have h3:=Nat.le_of_ble_eq_true e5;subst h2;exact⟨⟨h1,by simp,h3⟩,by simpa using H⟩
     ·exact H.elim
    ·exact H.elim
   ·rename_i cs e
    rw[e];split at H
    ·rename_i e2;exact⟨Nat.le_of_ble_eq_true e2,H⟩
    ·exact H.elim
   ·exact H.elim
 | store k a x =>
   simp only[k3S,k0T] at H ⊢;split at H
   ·rename_i s z i o' e
    rw[e];simp only;split at H
    ·rename_i z' es e2
     rw[e2];simp only;split at H
     ·rename_i cs e3
      rw[e3];split at H
      ·rename_i row f1 f2 f3 f4 f5
       have h1:=Nat.eq_of_beq_eq_true f1;have h2:=Nat.eq_of_beq_eq_true f2;have h3:=Nat.eq_of_beq_eq_true f3;have h4:=Nat.le_of_ble_eq_true f4;subst h2;exact⟨⟨h1,by simp,h3,h4,f5⟩,by simpa using H⟩
      ·exact H.elim
     ·exact H.elim
    ·exact H.elim
   ·exact H.elim
 | nilc x=>exact H
 | bin op x y =>
   simp only[k3S,k0T] at H ⊢;split at H
   ·rename_i e1 e2;rw[e1,e2];exact kST H
   ·rename_i e1 e2;rw[e1,e2];exact kOQ H
   ·exact H.elim
 | eqb neq x y =>
   simp only[k3S,k0T] at H ⊢;split at H
   ·rename_i e1 e2;rw[e1,e2];cases neq<;>exact H
   ·exact H.elim
 | mvs x=>exact H
 | eqs neq n os x y =>
   simp only[k3S,k0T] at H ⊢;split at H
   ·rename_i a b e1 e2
    rw[e1,e2];split at H
    ·rename_i f1 f2 f3
     refine⟨⟨Nat.eq_of_beq_eq_true f1,Nat.eq_of_beq_eq_true f2⟩,?_⟩;obtain⟨r,hr⟩:=kCE f3;rw[hr]
     cases neq<;>simpa[std,hr] using H
    ·exact H.elim
   ·exact H.elim
 | un op x=>exact H
 | conv k x=>exact H
 | fadr off x=>exact H
 | fld g off k x =>
   simp only[k3S,k0T] at H ⊢;split at H
   ·rename_i cs e
    rw[e];split at H
    ·rename_i e2;exact⟨Nat.le_of_ble_eq_true e2,H⟩
    ·exact H.elim
   ·exact H.elim
 | iadA n z x i=>obtain⟨h⟩:=H;exact hf h
 | iadS z x i =>
   simp only[k3S] at H;split at H
   ·rename_i z' es k q e1 e2
    split at H
    ·rename_i e3
     obtain⟨row,h0,h1,hk⟩:=H;simp only[k0T,e1,e2];have hlt:=(List.getElem?_eq_some_iff.1 h1).1;refine⟨⟨Nat.eq_of_beq_eq_true e3,h0,by omega⟩,?_⟩;have:es.getD q.toNat []=row:=(by rw[List.getD_eq_getElem?_getD,h1];rfl);rw[this];exact hk
    ·exact H.elim
   ·obtain⟨h⟩:=H;exact hf h
 | idx g n k x i=>obtain⟨h⟩:=H;exact hf h
 | idxStr x i=>obtain⟨h⟩:=H;exact hf h
 | lenx x=>exact H
 | lens x=>exact H
 | lenc n=>exact H
 | mm b x xs =>
   simp only[k3S,k0T] at H ⊢;split at H
   ·rename_i v e
    rw[kMR e];exact H
   ·exact H.elim
 | app z b x y =>
   simp only[k3S] at H;split at H
   ·rename_i z' row e1
    simp only[k0T,e1];split at H
    rotate_left 1
    ·obtain⟨h⟩:=H;have:=hf h;simpa only [k0T,e1] using this
    rotate_right 1
    ·rename_i f0 f1 f2
     have h1:=Nat.eq_of_beq_eq_true f2;obtain⟨h2,hk⟩:=H;rw[f1];exact⟨λe=>(by cases e),λ_=>⟨⟨h1,by simp,h2⟩,hk⟩⟩
    ·rename_i s z'' i n f1 f2 f3
     rw[f1];simp only;split at H
     ·rename_i ww es g1 g2 g3
      split at H
      ·rename_i g4
       obtain⟨⟨h2,h3,h4⟩,hk⟩:=H;rw[g1];exact⟨λe=>(by cases e),λ_=>⟨⟨Nat.eq_of_beq_eq_true f2,Nat.eq_of_beq_eq_true g2,Nat.eq_of_beq_eq_true g4,Nat.eq_of_beq_eq_true g3,h2,by simp[k2M,f3],h3,h4⟩,hk⟩⟩
      ·exact H.elim
     ·exact H.elim
    ·exact H.elim
   ·obtain⟨h⟩:=H;exact hf h
 | slc z x lo hi =>
   simp only[k3S] at H;split at H
   ·rename_i z' es e1
    simp only[k0T,e1];split at H
    ·rename_i k b f1 f2 f3
     rw[f2,f3];obtain⟨h0,h1,hk⟩:=H;exact⟨⟨Nat.eq_of_beq_eq_true f1,h0,h1⟩,hk⟩
    ·rename_i k b f1 f2 f3
     rw[f2,f3];obtain⟨h0,h1,hk⟩:=H;exact⟨⟨Nat.eq_of_beq_eq_true f1,h0,h1⟩,hk⟩
    ·rename_i k b k2 b2 f1 f2 f3
     rw[f2,f3];obtain⟨h0,h1,h2,hk⟩:=H;exact⟨⟨Nat.eq_of_beq_eq_true f1,h0,h1,h2⟩,hk⟩
    ·rename_i f1 f2 f3
     rw[f2,f3];exact⟨Nat.eq_of_beq_eq_true f1,H⟩
    ·exact H.elim
   ·obtain⟨h⟩:=H;exact hf h
 | mk z b zs l c=>obtain⟨h⟩:=H;exact hf h
 | ext x i =>
   simp only[k3S,k0T] at H ⊢;split at H
   ·rename_i vs e
    rw[e];split at H
    ·rename_i e2;exact⟨Nat.le_of_ble_eq_true e2,H⟩
    ·exact H.elim
   ·exact H.elim
 | mkf fn f c=>exact H
 | call f xs=>obtain⟨h⟩:=H;exact hf h
 | mkm=>obtain⟨h⟩:=H;exact hf h
 | look _ _ _ _ _ _ _=>obtain⟨h⟩:=H;exact hf h
 | mput _ _ _ _ _ _=>obtain⟨h⟩:=H;exact hf h
 | slcS x lo hi=>obtain⟨h⟩:=H;exact hf h
 | toS x=>obtain⟨h⟩:=H;exact hf h
 | bemp=>exact H
 | ofS x=>obtain⟨h⟩:=H;exact hf h
 | xop _ _ _=>obtain⟨h⟩:=H;exact hf h
inductive Xo(P:Program)(op:Op)(ty:TypeId)(xs:List AV)(h:k00)(K:AV->k00->Prop):Prop where
 | mk (H:AX P op ty xs h K)
theorem AX.mono{P:Program}{op:Op}{ty:TypeId}{xs:List AV}{h:k00}{K K':AV->k00->Prop}(H:AX P op ty xs h K)(hk:∀r h,K r h->K' r h):AX P op ty xs h K':=
 λC e o h1 h2 h3 h4 h5=>by
  obtain⟨nx,cv,r,D,g1,g2,g3,g4⟩:=H C e o h1 h2 h3 h4 h5;exact⟨nx,cv,r,D,g1,g2,hk _ _ g3,g4⟩
section
variable (w:k01) (P:Program)
def k75(o:k0J)(K:k09->k00->Prop)(a:k09)(h:k00):Prop:=
 match o.op with
 | .call f xs=>(match evA a f with | .func (.func g) first caps=>Call P g (first++evs (evA a) xs++caps) h (k4T K a o.dst)|_=>False)
 | .xop op ty xs=>Xo P op ty (evs (evA a) xs) h (k4T K a o.dst)
 | op=>k3S w op (evA a) h (λ_=>k0T op (evA a) h (fin K a o.dst h)) (fin K a o.dst h)
def k6A(K:k09->k00->Prop):List k0J->k09->k00->Prop
 | [],a,h=>K a h
 | o::rest,a,h =>
   match o.guard with
   | none=>k75 w P o (k6A K rest) a h
   | some (t,want) =>
     match a.getD t .any with
     | .bool b =>
       match want with
       | true=>br b (k75 w P o (k6A K rest) (a.set t (.bool true)) h) (k6A K rest (k1V (a.set t (.bool false)) o.dst .undef) h)
       | false=>br b (k6A K rest (k1V (a.set t (.bool true)) o.dst .undef) h) (k75 w P o (k6A K rest) (a.set t (.bool false)) h)
     | .tuple []=>k6A K rest (k1V a o.dst .undef) h
     | _=>False
def kDE(K:k09->k00->Prop)(a:k09)(dst:Option Nat)(base k:Nat)(news:k00):Res->Prop
 | .val v=>(match k with|0=>K (k1V a dst v) news|_=>False)
 | .new sl z es=>(match k with|1=>K (k1V a dst ((Res.new sl z es).at base)) (news++[.live z es])|_=>False)
 | _=>False
def k6C(o:k0J)(h0:k00)(K:k09->k00->Prop)(a:k09)(news:k00):Prop:=
 match o.op with
 | .call f xs=>(match evA a f with | .func (.func g) first caps=>k1R P g (first++evs (evA a) xs++caps) h0 (kFP K a o.dst news)|_=>False)
 | op=>k3S w op (evA a) h0 (λ_=>k0T op (evA a) h0 (kDE K a o.dst (h0.length+news.length) op.slots news)) (kDE K a o.dst (h0.length+news.length) op.slots news)
def k5H(h0:k00)(K:k09->k00->Prop):List k0J->k09->k00->Prop
 | [],a,news=>K a news
 | o::rest,a,news =>
   match o.guard with
   | none=>k6C w P o h0 (k5H h0 K rest) a news
   | some (t,want) =>
     match a.getD t .any with
     | .bool b =>
       match want with
       | true=>br b (k6C w P o h0 (k5H h0 K rest) (a.set t (.bool true)) news) (k5H h0 K rest (k1V (a.set t (.bool false)) o.dst .undef) (news++List.replicate o.op.slots .free))
       | false=>br b (k5H h0 K rest (k1V (a.set t (.bool true)) o.dst .undef) (news++List.replicate o.op.slots .free)) (k6C w P o h0 (k5H h0 K rest) (a.set t (.bool false)) news)
     | .tuple []=>k5H h0 K rest (k1V a o.dst .undef) (news++List.replicate o.op.slots .free)
     | _=>False
def kZ5(K:k09->k00->Prop)(h:k00)(tl:List k0J):k09->k00->Prop:=λa news=>k6A w P K tl a (h++news)
def kE5(K:k09->k00->Prop)(al:List k0J)(deps:List (List Nat)):Nat->List Nat->k09->k00->Prop
 | 0,done,a,h=>if (k16 done 0 deps).isEmpty then K a h else False
 | f+1,done,a,h=>if (k16 done 0 deps).isEmpty then K a h else kOV (k16 done 0 deps) λi=>match al[i]? with|some o=>k6A w P (kE5 K al deps f (i::done)) [o] a h|none=>False
def k4Q(n:Nat):k2Z->k17->k09->k00->Prop
 | .skip,Q,a,h=>Q .normal a h
 | .ops l,Q,a,h=>k6A w P (Q .normal) l a h
 | .draw hd tl,Q,a,h=>k5H w P h (kZ5 w P (Q .normal) h tl) hd a []
 | .any al deps,Q,a,h=>kE5 w P (Q .normal) al deps al.length [] a h
 | .bad,Q,a,h=>False
 | .seq x y,Q,a,h=>k4Q n x (k6Y (k4Q n y Q) Q) a h
 | .cond x p q,Q,a,h=>(match evA a x with | .bool t=>br t (k4Q n p Q (kT7 a x true) h) (k4Q n q Q (kT7 a x false) h)|_=>False)
 | .block id c,Q,a,h=>k4Q n c (k33 id Q) a h
 | .loop c,Q,a,h=>k1Q P n c Q a h
 | .exit id,Q,a,h=>Q (.exit id) a h
 | .ret,Q,a,h=>Q .ret a h
end
def kM1(rs:List kE0)(R:AV->Prop):k17
 | .normal,a,h=>(match k54 a h rs with|some l=>Ret l h R|none=>False)
 | .ret,a,h=>(match k54 a h rs with|some l=>Ret l h R|none=>False)
 | _,_,_=>False
def kL0(w:k01)(F:Option kPC)(P:Program)(args:List AV)(R:AV->Prop):Prop:=
 match F with
 | some F=>k4Q w P 0 F.code (kM1 F.rets R) (k63 args F.n) []
 | none=>False
section
variable {P:Program}
theorem k06.mono{g:FuncId}{args:List AV}{h:k00}{K K':AV->k00->Prop}(H:k06 P g args h K)(hk:∀r h,K r h->K' r h):k06 P g args h K':=
 ⟨H.1,λC vs hC R hv=>(H.2 C vs hC R hv).mono λe w' ⟨v,r,D,h1,h2,h3⟩=>⟨v,r,D,h1,hk _ _ h2,h3⟩⟩
theorem kBH.mono{g:FuncId}{args:List AV}{h:k00}{K K':AV->Prop}(H:kBH P g args h K)(hk:∀r,K r->K' r):kBH P g args h K':=by
 obtain⟨r,h1,h2⟩:=H;exact⟨r,h1,hk r h2⟩
theorem k4G{o:k0J}{K K':k09->k00->Prop}{a:k09}{h:k00}(H:k75 std P o K a h)(hk:∀a h,K a h->K' a h):k91 P o K' a h:=by
 have other:∀op,k3S std op (evA a) h (λ_=>k0T op (evA a) h (fin K a o.dst h)) (fin K a o.dst h)->k0T op (evA a) h (fin K' a o.dst h):=λop H =>
  k4Y (λr hr=>hk _ _ hr) (k41 H λh=>h)
 unfold k75 at H;unfold k91;split at H
 ·rename_i f xs e
  rw[e];simp only;split at H
  ·rename_i g first caps e2
   rw[e2];obtain⟨hc⟩:=H;exact hc.mono λr h hr=>hk _ _ hr
  ·exact H.elim
 ·rename_i op ty xs e
  rw[e];simp only;obtain⟨hc⟩:=H;exact hc.mono λr h hr=>hk _ _ hr
 ·rename_i hne hne2
  have:=other _ H;split
  ·rename_i f xs e;exact absurd e (hne f xs)
  ·rename_i op ty xs e;exact absurd e (hne2 op ty xs)
  ·exact this
theorem k1N{K K':k09->k00->Prop}(hk:∀a h,K a h->K' a h):∀ {l:List k0J} {a:k09} {h:k00},k6A std P K l a h->k4B P K' l a h
 | [],a,h,H=>hk _ _ H
 | o::rest,a,h,H=>by
   simp only[k6A,k4B] at H ⊢;split at H
   ·rename_i e;rw[e];exact k4G H λa h=>k1N hk
   ·rename_i t want e
    rw[e];simp only;split at H
    ·rename_i b e2
     rw[e2]
     cases want with
     | true =>
       obtain⟨h1,h2⟩:=kCM H;exact⟨λe=>k4G (h1 e) λa h=>k1N hk,λe=>k1N hk (h2 e)⟩
     | false =>
       obtain⟨h1,h2⟩:=kCM H;exact⟨λe=>k4G (h2 e) λa h=>k1N hk,λe=>k1N hk (h1 e)⟩
    ·rename_i e2
     rw[e2];exact k1N hk H
    ·exact H.elim
theorem kAV{K:k09->k00->Prop}{a:k09}{dst:Option Nat}{base k:Nat}{news:k00}{r:Res}(H:kDE K a dst base k news r):kRH K a dst base k news r:=by
 cases r<;>simp only[kDE,kRH] at H ⊢
 ·split at H
  ·exact⟨rfl,H⟩
  ·exact H.elim
 ·split at H
  ·exact⟨rfl,H⟩
  ·exact H.elim
theorem kAU{K K':k09->k00->Prop}(hk:∀a h,K a h->K' a h){a:k09}{dst:Option Nat}{base k:Nat}{news:k00}{r:Res}(H:kRH K a dst base k news r):kRH K' a dst base k news r:=by
 cases r<;>simp only[kRH] at H ⊢
 ·exact⟨H.1,hk _ _ H.2⟩
 ·exact⟨H.1,hk _ _ H.2⟩
theorem k3T{o:k0J}{h0:k00}{K K':k09->k00->Prop}{a:k09}{news:k00}(H:k6C std P o h0 K a news)(hk:∀a h,K a h->K' a h):k6D P o h0 K' a news:=by
 unfold k6C at H;unfold k6D;split at H
 ·rename_i f xs e
  rw[e];simp only;split at H
  ·rename_i g first caps e2
   rw[e2];obtain⟨hc⟩:=H;exact hc.mono λr hr=>hk _ _ hr
  ·exact H.elim
 ·rename_i hne
  split
  ·rename_i f xs e;exact absurd e (hne f xs)
  ·exact k4Y (λr hr=>kAU hk (kAV hr)) (k41 H λh=>h)
theorem k1Z{h0:k00}{K K':k09->k00->Prop}(hk:∀a h,K a h->K' a h):∀ {l:List k0J} {a:k09} {news:k00},k5H std P h0 K l a news->k4H P h0 K' l a news
 | [],a,h,H=>hk _ _ H
 | o::rest,a,h,H=>by
   simp only[k5H,k4H] at H ⊢;split at H
   ·rename_i e;rw[e];exact k3T H λa h=>k1Z hk
   ·rename_i t want e
    rw[e];simp only;split at H
    ·rename_i b e2
     rw[e2]
     cases want with
     | true =>
       obtain⟨h1,h2⟩:=kCM H;exact⟨λe=>k3T (h1 e) λa h=>k1Z hk,λe=>k1Z hk (h2 e)⟩
     | false =>
       obtain⟨h1,h2⟩:=kCM H;exact⟨λe=>k3T (h2 e) λa h=>k1Z hk,λe=>k1Z hk (h1 e)⟩
    ·rename_i e2
     rw[e2];exact k1Z hk H
    ·exact H.elim
theorem k9L{K K':k09->k00->Prop}{al:List k0J}{deps:List (List Nat)}(hk:∀a h,K a h->K' a h):∀ {f:Nat} {done:List Nat} {a:k09} {h:k00},kE5 std P K al deps f done a h->k35 P K' al deps f done a h
 | 0,done,a,h,H=>by
   simp only[kE5,k35] at H ⊢;split at H
   ·rename_i he;rw[if_pos he];exact hk _ _ H
   ·exact H.elim
 | f+1,done,a,h,H=>by
   simp only[kE5,k35] at H ⊢;split at H
   ·rename_i he;rw[if_pos he];exact hk _ _ H
   ·rename_i he
    rw[if_neg he];refine kDT (λi hi=>?_) H;split at hi
    ·rename_i e1
     rw[e1];exact k1N (λa h hh=>k9L hk hh) hi
    ·exact hi.elim
theorem k20{n:Nat}:∀ {c:k2Z} {Q Q':k17} {a:k09} {h:k00},(∀e a h,Q e a h->Q' e a h)->k4Q std P n c Q a h->k3N P n c Q' a h
 | .skip,Q,Q',a,h,hq,H=>hq _ _ _ H
 | .ops l,Q,Q',a,h,hq,H=>k1N (λa h hr=>hq _ _ _ hr) H
 | .any al deps,Q,Q',a,h,hq,H=>k9L (λa h hr=>hq _ _ _ hr) H
 | .bad,Q,Q',a,h,hq,H=>H.elim
 | .draw hd tl,Q,Q',a,h,hq,H=>k1Z (λa news hr=>k1N (λa h hr=>hq _ _ _ hr) hr) H
 | .seq x y,Q,Q',a,h,hq,H=>k20 (c:=x) (λe a h hr=>by
    cases e with
    | normal=>exact k20 (c:=y) hq hr
    | _=>exact hq _ _ _ hr) H
 | .cond x p q,Q,Q',a,h,hq,H=>by
   simp only[k4Q,k3N] at H ⊢;split at H
   ·rename_i t e
    obtain⟨h1,h2⟩:=kCM H;rw[e];exact⟨λe=>k20 (c:=p) hq (h1 e),λe=>k20 (c:=q) hq (h2 e)⟩
   ·exact H.elim
 | .block id c,Q,Q',a,h,hq,H=>k20 (c:=c) (λe a h hr=>by
    cases e with
    | exit i =>
      simp only[k33] at hr ⊢;split at hr
      ·rename_i hi;rw[if_pos hi];exact hq _ _ _ hr
      ·rename_i hi;rw[if_neg hi];exact hq _ _ _ hr
    | _=>exact hq _ _ _ hr) H
 | .loop c,Q,Q',a,h,hq,H=>by
   obtain⟨hl⟩:=H;exact λcode hc hd=>(hl code hc hd).mono hq
 | .exit id,Q,Q',a,h,hq,H=>hq _ _ _ H
 | .ret,Q,Q',a,h,hq,H=>hq _ _ _ H
theorem kAL{rs:List kE0}{R:AV->Prop}(e:Exit)(a:k09)(h:k00)(H:kM1 rs R e a h):kZG rs R e a h:=by
 cases e<;>simp only[kM1,kZG] at H ⊢
 all_goals
  split at H
  ·rename_i l hl
   obtain⟨r,h1,h2⟩:=H;exact⟨l,hl,r,h1,h2⟩
  ·exact H.elim
theorem kE4{F:Option kPC}{args:List AV}{R:AV->Prop}(H:kL0 std F P args R):kJ6 F P args R:=by
 unfold kL0 at H;unfold kJ6;split at H
 ·exact k20 (λe a h hr=>kAL e a h hr) H
 ·exact H.elim
theorem k02.ofX {g : FuncId} {fn : Func} {args : List AV} {R : AV → Prop} (hf : P.funcs[g]? = some fn) (hname : (fn.name == "runtime.NumGoroutine") = false) (hdr : k5B P fn = true) (H : ∀ w, w = std → ∀ R' : AV → Prop, (∀ r, R r → R' r) → kL0 w (k2K P fn) P args R') : k02 P g args R :=
 k02.of hf hname hdr (kE4 (H std rfl R λ_ h=>h))
theorem Call.step{g:FuncId}{args:List AV}{R:AV->Prop}{h:k00}{K:k09->k00->Prop}{a:k09}{dst:Option Nat}(H:k02 P g args R)(ha:k0Q 0 args=true)(hK:∀r,R r->K (k1V a dst r) h):Call P g args h (k4T K a dst):=
 ⟨k06.step H ha hK⟩
theorem Call.stepE{g:FuncId}{args:List AV}{v:AV}{h:k00}{K:k09->k00->Prop}{a:k09}{dst:Option Nat}(H:k02 P g args (· = v))(ha:k0Q 0 args=true)(hK:K (k1V a dst v) h):Call P g args h (k4T K a dst):=
 ⟨k06.stepE H ha hK⟩
theorem k1R.stepE{g:FuncId}{args:List AV}{v:AV}{h0:k00}{K:k09->k00->Prop}{a:k09}{dst:Option Nat}{news:k00}(H:k02 P g args (· = v))(ha:k0Q 0 args=true)(hK:K (k1V a dst v) news):k1R P g args h0 (kFP K a dst news):=
 ⟨kBH.stepE H ha hK⟩
theorem k1Q.intro{n:Nat}{c:k2Z}{Q:k17}{a:k09}{h:k00}(I:k09->k00->Prop)(m:k09->k00->Nat)(a':k09)(h':k00)(hw:Wk n a h a' h')(h0:I a' h')
 (round:∀a h,I a h->∀w,w=std->k4Q w P n c (k6Y (kHR n I m (m a h)) Q) a h):k1Q P n c Q a h:=
 ⟨kHE.intro I m a' h' hw h0 λa h hI=>k20 (λ_ _ _ h=>h) (round a h hI std rfl)⟩
end
open Go Go.RowKit Go.WideShapes
def kFY(w:World):Cfg:={ O:=λ_=>False,r:=λ_=>0,h:=[],w:=w }
def Glo(w:World):Prop:=∀p,p∈gs->VR (kFY w) (.cref p.2) (.pointer (some ⟨p.1,0,none⟩))/\∃ty,w.shape? p.1=some (ty,p.2.length)
theorem glo_nil(h:gs=[])(w:World):Glo w:=λp hp=>by rw[h] at hp;cases hp
theorem rel0{w:World}(hg:Glo w):Rel (kFY w):=⟨λs z es h=>by simp[kFY] at h,λs t ⟨z,es,h⟩=>by simp[kFY] at h,λb h=>h.elim,λp hp=>(hg p hp).1,λp hp=>(hg p hp).2⟩
theorem own0(w:World)(b:Nat):¬(kFY w).own b:=by
 rintro(h|⟨s,⟨z,es,h⟩,_⟩)
 ·exact h
 ·simp[kFY] at h
theorem k02.law{P:Program}{g:FuncId}{args:List AV}(H:k02 P g args (λr=>r = .bool true)){w:World}(hg:Glo w){vs:Array Value}(hv:VRs (kFY w) args vs) :
 Calls P g vs w λe w'=>e = .returned (.bool true)/\Below w.heap.size w w':=by
 refine(H.2 (kFY w) vs rfl (rel0 hg) hv).mono λe w' ⟨v,r,D,h1,h2,h3,h4,h5,h6,h7⟩=>?_;subst h2;have:=h6.bool';subst this;subst h4;refine⟨h1,⟨h7.os,h7.tape,h7.output,h7.size,λk hk=>(h7.keep k hk ?_).1⟩⟩
 rintro⟨s,⟨z,es,h⟩,_⟩
 simp[kFY] at h
def k9W(P:Program):Nat->List Field->Option Nat
 | o,[]=>some o
 | o,f::fs=>if f.offset=o then k9W P (o+P.cellsOf f.type) fs else none
def kEV:Nat:=140737488355328
theorem k4P{H:Type}{P:Program}{e:TypeId}{d:DataW H}:∀ {ds:List (DataW H)},d∈ds->∀ {q:Nat},q∈d.weights P e->q∈DataW.weightsAll P e ds
 | [],h,_,_=>by cases h
 | x::ds,h,q,hq=>by
   simp only[DataW.weightsAll,List.mem_append];rcases List.mem_cons.1 h with rfl|h
   ·exact .inl hq
   ·exact .inr (k4P h hq)
def TyL(P:Program):Nat->TypeId->List AV->Prop
 | 0,_,_=>False
 | m+1,t,xs =>
   match P.underlying t with
   | some .bool=>∃b,xs=[.bool b]
   | some (.int k)=>∃n,xs=[.int k n]/\(Lit.int k n).wf=true
   | some .string=>∃s:ByteArray,xs=[.str s]/\s.size<=kEV
   | some (.struct fs)=>xs.length=P.cellsOf t/\∀f,f∈fs.toList->TyL P m f.type ((xs.drop f.offset).take (P.cellsOf f.type))
   | some (.array n e)=>xs.length=P.cellsOf t/\∀i,i<n->TyL P m e ((xs.drop (i*P.cellsOf e)).take (P.cellsOf e))
   | some (.slice e)=>∃es,xs=[.list (P.cellsOf e) es]/\es.length<=kEV/\∀r,r∈es->TyL P m e r
   | _=>False
def tyB(P:Program):Nat->TypeId->Bool
 | 0,_=>false
 | m+1,t =>
   match P.underlying t with
   | some .bool=>true
   | some (.int _)=>true
   | some .string=>true
   | some (.struct fs)=>fs.toList.all (λf=>tyB P m f.type) && decide (k9W P 0 fs.toList=some (P.cellsOf t))
   | some (.array n e)=>tyB P m e && decide (P.cellsOf t=n*P.cellsOf e)
   | some (.slice e)=>tyB P m e && decide (0<P.cellsOf e/\0<P.bytesOf e)
   | _=>false
def VRL(c:Cfg)(xs:List AV)(cs:List Value):Prop:=cs.length=xs.length/\∀(i:Nat) (x:AV),xs[i]?=some x->VR c x (cs.getD i undef)
theorem VRL.app{c:Cfg}{xs ys:List AV}{cs ds:List Value}(h:VRL c xs cs)(k:VRL c ys ds):VRL c (xs++ys) (cs++ds):=by
 refine⟨by simp[h.1,k.1],λi x hx=>?_⟩;by_cases hi:i<xs.length
 ·rw[List.getElem?_append_left hi] at hx
  have:=h.2 i x hx;rw[List.getD_eq_getElem?_getD] at this ⊢
  rwa [List.getElem?_append_left (by rw[h.1];exact hi)]
 ·rw[List.getElem?_append_right (by omega)] at hx
  have:=k.2 _ x hx;rw[List.getD_eq_getElem?_getD] at this ⊢
  rwa [List.getElem?_append_right (by rw[h.1];omega),h.1]
theorem VRL.one{c:Cfg}{x:AV}{v:Value}(h:VR c x v):VRL c [x] [v]:=⟨rfl,λi y hy=>by
 cases i with
 | zero=>simp at hy;subst hy;simpa using h
 | succ i=>simp at hy⟩
section
variable {H:Type} {enc:TypeId×Value->H} {P:Program} {w:World} {spare:Nat->Bool} {held:Bool}
def kYI(P:Program)(w:World)(m:Nat)(t:TypeId)(cs:List Value):Prop:=∃xs,VRL (kFY w) xs cs/\TyL P m t xs
theorem q3A{m:Nat}{cs:List Value}:∀ {fs:List Field} {o k:Nat},k9W P o fs=some k->k=cs.length->o<=k->(∀f,f∈fs->kYI P w m f.type ((cs.drop f.offset).take (P.cellsOf f.type))/\f.offset+P.cellsOf f.type<=cs.length) ->
 ∃xs,VRL (kFY w) xs (cs.drop o)/\∀f,f∈fs->o<=f.offset/\TyL P m f.type ((xs.drop (f.offset-o)).take (P.cellsOf f.type))
 | [],o,k,ht,hk,ho,_=>by
   simp only[k9W,Option.some.injEq] at ht;subst ht;exact⟨[],⟨by simp[hk],λi x hx=>by simp at hx⟩,λf hf=>by cases hf⟩
 | f::fs,o,k,ht,hk,ho,hall=>by
   simp only[k9W] at ht;split at ht
   ·rename_i hfo
    subst hfo;obtain⟨⟨xf,h1,h2⟩,hb⟩:=hall f (by simp);have hok:f.offset+P.cellsOf f.type<=k:=(by omega);obtain⟨xs,h3,h4⟩:=q3A ht hk hok (λg hg=>hall g (by simp[hg]))
    have zE:xf.length=P.cellsOf f.type:=by
     have:=h1.1;simp at this;omega
    have hcut:cs.drop f.offset=(cs.drop f.offset).take (P.cellsOf f.type)++cs.drop (f.offset+P.cellsOf f.type):=by
     rw[<- List.drop_drop,List.take_append_drop]
    refine⟨xf++xs,by rw[hcut];exact h1.app h3,λg hg=>?_⟩;rcases List.mem_cons.1 hg with rfl|hg
    ·refine⟨Nat.le_refl _,?_⟩
     rw[Nat.sub_self,List.drop_zero,<- zE,List.take_left];exact h2
    ·obtain⟨k1,k2⟩:=h4 g hg
     refine⟨by omega,?_⟩;have:g.offset-f.offset=xf.length+(g.offset-(f.offset+P.cellsOf f.type)):=(by omega);rw[this,List.drop_append,List.drop_eq_nil_of_le (by omega),List.nil_append,show xf.length+(g.offset-(f.offset+P.cellsOf f.type))-xf.length=g.offset-(f.offset+P.cellsOf f.type) by omega];exact k2
   ·cases ht
theorem kHM:∀ {fs:List Field} {o k:Nat},k9W P o fs=some k->o<=k/\∀f,f∈fs->f.offset+P.cellsOf f.type<=k
 | [],o,k,h=>by simp only[k9W,Option.some.injEq] at h;exact⟨by omega,λf hf=>by cases hf⟩
 | f::fs,o,k,h=>by
   simp only[k9W] at h;split at h
   ·rename_i hfo
    obtain⟨h1,h2⟩:=kHM h;refine⟨by omega,λg hg=>?_⟩;rcases List.mem_cons.1 hg with rfl|hg
    ·omega
    ·exact h2 g hg
   ·cases h
theorem q04{m z:Nat}{e:TypeId}{cs:List Value}(hz:P.cellsOf e=z):∀ {n o:Nat},cs.length=(o+n)*z->(∀i,i<n->kYI P w m e ((cs.drop ((o+i)*z)).take z)) ->
 ∃xs,VRL (kFY w) xs (cs.drop (o*z))/\∀i,i<n->TyL P m e ((xs.drop (i*z)).take z)
 | 0,o,hl,_=>⟨[],⟨by simp[hl],λi x hx=>by simp at hx⟩,λi hi=>by omega⟩
 | n+1,o,hl,hall=>by
   obtain⟨xf,h1,h2⟩:=hall 0 (by omega);simp only[Nat.add_zero] at h1;obtain⟨xs,h3,h4⟩:=q04 (n:=n) (o:=o+1) hz (by rw[hl];congr 1;omega) (λi hi=>by have:=hall (i+1) (by omega);rwa [show o+(i+1)=o+1+i by omega] at this)
   have hzl:o*z+z<=cs.length:=by
    rw[hl];have:(o+1)*z<=(o+(n+1))*z:=Nat.mul_le_mul_right z (show o+1<=o+(n+1) by omega);rw[Nat.succ_mul] at this;exact this
   have zE:xf.length=z:=by
    have:=h1.1;simp at this;omega
   have hcut:cs.drop (o*z)=(cs.drop (o*z)).take z++cs.drop ((o+1)*z):=by
    rw[Nat.succ_mul,<- List.drop_drop,List.take_append_drop]
   refine⟨xf++xs,by rw[hcut];exact h1.app h3,λi hi=>?_⟩
   cases i with
   | zero=>rw[Nat.zero_mul,List.drop_zero,<- zE,List.take_left];exact h2
   | succ i =>
     have:=h4 i (by omega);rw[Nat.succ_mul,show i*z+z=xf.length+i*z by omega,List.drop_append,List.drop_eq_nil_of_le (by omega),List.nil_append,show xf.length+i*z-xf.length=i*z by omega];exact this
theorem k8F:∀(m:Nat) (t:TypeId),tyB P m t=true->∀(fuel:Nat) (cs:List Value) (y:DataW H×List MemPlace),DataW.trod enc P w 0 spare held fuel t cs=some y->(∀n,n∈y.1.weights P t->n<=reachBytes)->kYI P w m t cs
 | 0,t,hb=>by simp[tyB] at hb
 | m+1,t,hb=>by
   intro fuel cs y h hwt;unfold tyB at hb;split at hb
   ·rename_i hu
    obtain⟨b,rfl,_⟩:=DataW.trod_bool hu h;exact⟨[.bool b],VRL.one (.bool b),by unfold TyL;rw[hu];exact⟨b,rfl⟩⟩
   ·rename_i k hu
    obtain⟨n,rfl,_,hw⟩:=DataW.trod_int hu h;exact⟨[.int k n],VRL.one (.int k n),by unfold TyL;rw[hu];exact⟨n,rfl,hw⟩⟩
   ·rename_i hu
    obtain⟨s,rfl,hy,hw⟩:=DataW.trod_string hu h
    have hs:s.size<=kEV:=by
     have h1:=hwt s.data.toList.length (by rw[hy];simp[DataW.weights]);have h2:s.data.toList.length=s.size:=(by rw[Array.length_toList];rfl);have h3:=reachBytes_lt;unfold kEV;omega
    exact⟨[.str s],VRL.one (.str s),by unfold TyL;rw[hu];exact⟨s,rfl,hs⟩⟩
   ·rename_i fs hu
    simp only[Bool.and_eq_true,decide_eq_true_eq] at hb;obtain⟨hb1,hb2⟩:=hb;obtain⟨xs,n,_,hy,hl,hxl,hf⟩:=DataW.trod_struct hu h;obtain⟨_,hle⟩:=kHM hb2
    obtain⟨zs,h1,h2⟩:=q3A (m:=m) (w:=w) (cs:=cs) hb2 hl.symm (Nat.zero_le _) (λf hf'=>by
     obtain⟨i,hi⟩:=List.mem_iff_getElem?.1 hf';have hfi:=hf i f (by simpa using hi);have hbf:=List.all_eq_true.1 hb1 f hf'
     have hlt:i<xs.length:=by
      have:=(List.getElem?_eq_some_iff.1 hi).1;simp at this;omega
     rw[List.getElem?_eq_getElem hlt] at hfi;refine⟨k8F m f.type hbf n _ _ hfi λq hq=>hwt q ?_,by have:=hle f hf';omega⟩;rw[hy];simp only[DataW.weights,hu];exact DataW.weights_mem_each (j:=i) (by rw[List.getElem?_map,hi];rfl) (by rw[List.getElem?_map,List.getElem?_eq_getElem hlt];rfl) q hq)
    rw[List.drop_zero] at h1;refine⟨zs,h1,?_⟩;unfold TyL;rw[hu];exact⟨by rw[<- h1.1];exact hl,λf hf'=>by simpa using (h2 f hf').2⟩
   ·rename_i n e hu
    simp only[Bool.and_eq_true,decide_eq_true_eq] at hb;obtain⟨hb1,hb2⟩:=hb
    have harr:cs.length=P.cellsOf t/\∃fuel',∀i,i<n->∃z,DataW.trod enc P w 0 spare held fuel' e ((cs.drop (i*P.cellsOf e)).take (P.cellsOf e))=some z/\∀q,q∈z.1.weights P e->q∈y.1.weights P t:=by
     cases fuel with
     | zero=>simp[DataW.trod] at h
     | succ fuel =>
       unfold DataW.trod at h;simp only[hu] at h;split at h
       ·rename_i hcl
        refine⟨hcl,fuel,λi hi=>?_⟩
        cases yU:(List.range n).mapM (λi=>DataW.trod enc P w 0 spare held fuel e ((cs.drop (i*P.cellsOf e)).take (P.cellsOf e))) with
        | none=>rw[yU] at h;simp at h
        | some l =>
          have h1:=mapM_some_get yU i i (by simp[hi]);have h2:=mapM_some_length yU;have h3:i<l.length:=(by rw[h2];simpa using hi);refine⟨l[i],by rw[h1,List.getElem?_eq_getElem h3],λq hq=>?_⟩
          have hy:y.1 = .agg (l.map (·.1)):=by
           rw[yU] at h;simp at h;rw[<- h]
          rw[hy];simp only[DataW.weights,hu];exact k4P (List.mem_map_of_mem (List.getElem_mem h3)) hq
       ·cases h
    obtain⟨hcl,fuel',hel⟩:=harr
    obtain⟨zs,h1,h2⟩:=q04 (m:=m) (w:=w) (cs:=cs) (e:=e) (n:=n) (o:=0) rfl (by rw[hcl,hb2,Nat.zero_add]) (λi hi=>by
     obtain⟨z,hy,hq⟩:=hel i hi;rw[Nat.zero_add];exact k8F m e hb1 fuel' _ z hy λn hn=>hwt n (hq n hn))
    rw[Nat.zero_mul,List.drop_zero] at h1;refine⟨zs,h1,?_⟩;unfold TyL;rw[hu];exact⟨by rw[<- h1.1];exact hcl,h2⟩
   ·rename_i e hu
    simp only[Bool.and_eq_true,decide_eq_true_eq] at hb;obtain⟨hb1,hz,hby⟩:=hb;rcases DataW.trod_slice hu h with ⟨rfl,_⟩|⟨a,len,cap,k5Q,rest,n,_,rfl,hy,_,hl,hm,hel,hi,_⟩
    ·refine⟨[.list (P.cellsOf e) []],VRL.one (.listNil _ _ _),?_⟩
     unfold TyL;rw[hu];exact⟨[],rfl,Nat.zero_le _,λr hr=>by cases hr⟩
    ·have hex:∀i,∃(xs:List AV) (cs:List Value),i<len->w.cells? 0 (a.add (i*P.cellsOf e)) (P.cellsOf e)=some cs/\VRL (kFY w) xs cs/\TyL P m e xs:=by
      intro i;by_cases h:i<len
      ·have h1:=hi i h
       rw[List.getElem?_eq_getElem (by omega)] at h1;obtain⟨cs,h2,h3⟩:=Option.bind_eq_some_iff.1 h1
       obtain⟨xs,h4,h5⟩:=k8F m e hb1 n _ _ h3 λq hq=>hwt q (by
        rw[hy];simp only[DataW.weights,hu];exact List.mem_cons_of_mem _ (List.mem_append_left _ (k4P (List.mem_map_of_mem (List.getElem_mem _)) hq)))
       exact⟨xs,cs,λ_=>⟨h2,h4,h5⟩⟩
      ·exact⟨[],[],λh'=>absurd h' h⟩
     obtain⟨f,hf⟩:=Classical.axiomOfChoice hex;obtain⟨g,hg⟩:=Classical.axiomOfChoice hf
     have cell:∀i,i<len->∀j,j<P.cellsOf e->w.cell? ((a.add (i*P.cellsOf e)).add j)=some ((g i).getD j undef):=by
      intro i hi j hj;obtain⟨h1,_⟩:=hg i hi;obtain⟨_,h2,h3⟩:=World.cells?_some h1;rw[h3 j hj,List.getD_eq_getElem?_getD,List.getElem?_eq_getElem (by omega)];rfl
     have lens:∀i,i<len->(f i).length=P.cellsOf e:=by
      intro i hi;obtain⟨h1,h2,_⟩:=hg i hi;obtain⟨_,h3,_⟩:=World.cells?_some h1;rw[<- h2.1];exact h3
     refine⟨[.list (P.cellsOf e) ((List.range len).map f)],VRL.one ?_,?_⟩
     ·rcases Nat.eq_zero_or_pos len with h0|h0
      ·subst h0
       exact .listNil _ _ _
      ·have hsp:a.spot=none:=by
        have h:=cell 0 h0 0 hz;have:=World.cell?_spot h;simpa[Addr.add] using this
       refine .list _ _ a len cap (λi j=>(g i).getD j undef) (by simp) hl hsp (λr hr=>?_) (λi j hi hj=>?_) (λ_ _=>own0 w _) (λi r hr j x hx=>?_)
       ·obtain⟨i,hi,rfl⟩:=List.mem_map.1 hr
        exact lens i (List.mem_range.1 hi)
       ·have h:=cell i hi j hj
        rw[k8W a _ hsp,k5W,Nat.add_assoc] at h;exact h
       ·have hil:i<len:=by
         have:=(List.getElem?_eq_some_iff.1 hr).1;simpa using this
        rw[List.getElem?_map,List.getElem?_range hil] at hr;simp only[Option.map_some,Option.some.injEq] at hr;subst hr;exact(hg i hil).2.1.2 j x hx
     ·unfold TyL
      rw[hu]
      have zE:len<=kEV:=by
       have h1:=hwt ((k5Q.length+rest.length)*P.bytesOf e) (by rw[hy];simp[DataW.weights,hu]);have h2:k5Q.length+rest.length<=(k5Q.length+rest.length)*P.bytesOf e:=Nat.le_mul_of_pos_right _ hby;have h3:=reachBytes_lt;unfold kEV;omega
      refine⟨_,rfl,by simpa using zE,λr hr=>?_⟩;obtain⟨i,hi,rfl⟩:=List.mem_map.1 hr;exact(hg i (List.mem_range.1 hi)).2.2
   ·cases hb
end
def TyV(P:Program)(m:Nat)(t:TypeId)(x:AV):Prop:=
 match k19 P t with
 | some true=>∃cs,x = .agg cs/\TyL P m t cs
 | _=>TyL P m t [x]
theorem open_av{H:Type}{enc:TypeId×Value->H}{P:Program}{w:World}{b0:Nat}{spare:Nat->Bool}{held:Bool}{r:Reach}{t:TypeId}{v:Value}{d:DataW H}{p:List MemPlace}(m:Nat)(hb:tyB P m t=true)
 (hv:Value.okWide P w r b0 t v) (h:DataW.Trod enc P w 0 spare held t v d p) (hwt:∀n,n∈d.weights P t->n<=reachBytes):∃x,VR (kFY w) x v/\TyV P m t x:=by
 obtain⟨fuel,hf⟩:=h;obtain⟨xs,h1,h2⟩:=k8F m t hb fuel _ _ hf hwt
 have agg:k19 P t=some true->∃x,VR (kFY w) x v/\TyV P m t x:=by
  intro hag
  have:∃cs,v = .agg cs:=by
   unfold k19 at hag;unfold Value.okWide at hv;split at hag
   ·rename_i hu;rw[hu] at hv;obtain⟨cs,rfl,_⟩:=hv;exact⟨cs,rfl⟩
   ·rename_i hu;rw[hu] at hv;obtain⟨cs,rfl,_⟩:=hv;exact⟨cs,rfl⟩
   ·cases hag
   ·cases hag
  obtain⟨cs,rfl⟩:=this;refine⟨.agg xs,.agg _ _ (by simpa[Value.cells] using h1.1) λi x hx=>?_,by unfold TyV;rw[hag];exact⟨xs,rfl,h2⟩⟩;have:=h1.2 i x hx;simpa[Value.cells,List.getD_eq_getElem?_getD,Array.getD_eq_getD_getElem?] using this
 have one:k19 P t≠some true->(∃x,xs=[x])->v.cells = #[v]->∃x,VR (kFY w) x v/\TyV P m t x:=by
  intro hag ⟨x,hx⟩ hc;subst hx;refine⟨x,?_,?_⟩
  ·have:=h1.2 0 x rfl
   simpa[hc] using this
  ·unfold TyV
   split
   ·rename_i h;exact absurd h hag
   ·exact h2
 cases m with
 | zero=>simp[tyB] at hb
 | succ m =>
   have h2':=h2;unfold TyL at h2'
   cases hu:P.underlying t with
   | none=>rw[hu] at h2';exact h2'.elim
   | some k =>
     have hcell:∀c,v.cells.toList=[c]->k19 P t≠some true->v.cells = #[v]:=by
      intro c hc hag
      cases v<;>first
       | rfl
       | (rename_i cs
          exfalso;unfold Value.okWide at hv;rw[hu] at hv;unfold k19 at hag;rw[hu] at hag
          cases k<;>simp at hag<;>simp[Cell.okWide,Cell.ok] at hv)
     cases k
     case struct fs=>exact agg (by unfold k19;rw[hu])
     case array n e=>exact agg (by unfold k19;rw[hu])
     case bool =>
      rw[hu] at h2';obtain⟨b,rfl⟩:=h2';have hl:∃c,v.cells.toList=[c]:=List.length_eq_one_iff.1 (by simpa using h1.1);obtain⟨c,hc⟩:=hl;exact one (by unfold k19;rw[hu];simp) ⟨_,rfl⟩ (hcell c hc (by unfold k19;rw[hu];simp))
     case int kk =>
      rw[hu] at h2';obtain⟨n,rfl,_⟩:=h2';have hl:∃c,v.cells.toList=[c]:=List.length_eq_one_iff.1 (by simpa using h1.1);obtain⟨c,hc⟩:=hl;exact one (by unfold k19;rw[hu];simp) ⟨_,rfl⟩ (hcell c hc (by unfold k19;rw[hu];simp))
     case string =>
      rw[hu] at h2';obtain⟨n,rfl,_⟩:=h2';have hl:∃c,v.cells.toList=[c]:=List.length_eq_one_iff.1 (by simpa using h1.1);obtain⟨c,hc⟩:=hl;exact one (by unfold k19;rw[hu];simp) ⟨_,rfl⟩ (hcell c hc (by unfold k19;rw[hu];simp))
     case slice e =>
      rw[hu] at h2';obtain⟨n,rfl,_⟩:=h2';have hl:∃c,v.cells.toList=[c]:=List.length_eq_one_iff.1 (by simpa using h1.1);obtain⟨c,hc⟩:=hl;exact one (by unfold k19;rw[hu];simp) ⟨_,rfl⟩ (hcell c hc (by unfold k19;rw[hu];simp))
     all_goals (rw[hu] at h2';exact h2'.elim)
theorem vrs_nil(c:Cfg):VRs c [] #[]:=⟨rfl,λi x hx=>by simp at hx⟩
theorem vrs_cons{c:Cfg}{x:AV}{v:Value}{xs:List AV}{vs:List Value}(h:VR c x v)(hs:VRs c xs vs.toArray):VRs c (x::xs) (v::vs).toArray:=by
 refine⟨by have:=hs.1;simp at this;simp[this],λi y hy=>?_⟩
 cases i with
 | zero=>simp at hy;subst hy;simpa using h
 | succ i =>
   have:=hs.2 i y (by simpa using hy);simpa[Array.getD_eq_getD_getElem?] using this
end Go.Eng
