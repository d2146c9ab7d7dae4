/- Parts of the proofs. -/
import Derived.Test.YtlchlddijclhjaaGreatS6
import Derived.KernelRfl
import Derived.Handy
import Derived.IntWalk
set_option linter.unusedVariables false
set_option linter.unusedSimpArgs false
namespace Go.Eng
open Go Go.RowKit
def brL(b:Bool)(p q:Unit->Prop):Prop:=match b with|true=>p ()|false=>q ()
theorem k7X{b:Bool}{p q:Unit->Prop}(h:brL b p q):(b=true->p ())/\(b=false->q ()):=by
 cases b
 ·exact⟨λh=>(by cases h),λ_=>h⟩
 ·exact⟨λ_=>h,λh=>(by cases h)⟩
inductive App(es:List (List AV))(row:List AV)(bytes n:Nat)(K:List (List AV)->Nat->Prop):Prop where
 | mk (fs:List (List AV)) (n':Nat) (h:fs=es++[row]) (hn:n=es.length) (hn':n'=n+1) (hm:n+1<=9223372036854775807) (hb:(n+1)*bytes<=140737488355328) (k:K fs n')
inductive kKT(es new:List (List AV))(bytes n:Nat)(K:List (List AV)->Nat->Prop):Prop where
 | mk (fs:List (List AV)) (n':Nat) (h:fs=es++new) (hn:n=es.length) (hn':n'=n+new.length) (ho:k2M new=true) (hm:n'<=9223372036854775807) (hb:n'*bytes<=140737488355328) (k:K fs n')
inductive kYV(new:List (List AV))(bytes:Nat)(K0:Prop)(K:Nat->Prop):Prop where
 | nil (h:new=[]) (k:K0)
 | mk (n:Nat) (hn:n=new.length) (h0:new≠[]) (hm:n<=9223372036854775807) (hb:n*bytes<=140737488355328) (k:K n)
inductive At(q:Int)(j n:Nat)(K:Nat->Prop):Prop where
 | mk (k:Nat) (h0:0<=q) (h1:q<n) (hk:j+q.toNat=k) (k1:K k)
inductive kHB(es:List (List AV))(i:Nat)(K:List AV->Prop):Prop where
 | mk (row:List AV) (h:es[i]?=some row) (k:K row)
inductive kBF(es:List (List AV))(i o:Nat)(cs:List AV)(K:List (List AV)->Prop):Prop where
 | mk (row:List AV) (fs:List (List AV)) (h:es[i]?=some row) (hf:fs=es.set i (k51 row o cs)) (k:K fs)
inductive Mk(l c:Int)(bytes:Nat)(zero:List AV)(K:List (List AV)->Nat->Prop):Prop where
 | mk (es:List (List AV)) (n:Nat) (h0:0<=l) (h1:l<=c) (h2:c<=9223372036854775807) (h3:c*bytes<=140737488355328) (hn:n=l.toNat) (he:es=List.replicate n zero) (k:K es n)
inductive SlcS(s:ByteArray)(lo hi:Option AV)(K:ByteArray->Prop):Prop where
 | all (t:ByteArray) (hlo:lo=none) (hhi:hi=none) (h:s.extract 0 s.size=t) (k1:K t)
 | to_ {k:IntKind} {b:Int} (t:ByteArray) (hlo:lo=none) (hhi:hi=some (.int k b)) (h0:0<=b) (h1:b<=s.size) (h:s.extract 0 b.toNat=t) (k1:K t)
 | from_ {k:IntKind} {a:Int} (t:ByteArray) (hlo:lo=some (.int k a)) (hhi:hi=none) (h0:0<=a) (h1:a<=s.size) (h:s.extract a.toNat s.size=t) (k1:K t)
 | both {k k2:IntKind} {a b:Int} (t:ByteArray) (hlo:lo=some (.int k a)) (hhi:hi=some (.int k2 b)) (h0:0<=a) (h1:a<=b) (h2:b<=s.size) (h:s.extract a.toNat b.toNat=t) (k1:K t)
inductive ToS(z:Nat)(es:List (List AV))(K:ByteArray->Prop):Prop where
 | mk (s:ByteArray) (hz:z=1) (h:es=k13 s) (k:K s)
inductive ToSl(z z' i n:Nat)(es:List (List AV))(K:ByteArray->Prop):Prop where
 | mk (s:ByteArray) (hz:z=1) (hz':z'=1) (hn:i+n<=es.length) (h:(es.drop i).take n=k13 s) (k:K s)
inductive IdxS(s:ByteArray)(q:Int)(K:Int->Prop):Prop where
 | mk (c:Int) (h0:0<=q) (h1:q<s.size) (h:((s.data.toList.getD q.toNat 0).toNat:Int)=c) (k:K c)
inductive OfS(s:ByteArray)(K:List (List AV)->Nat->Prop):Prop where
 | mk (es:List (List AV)) (n:Nat) (h:es=k13 s) (hn:n=s.size) (k:K es n)
inductive InN(q:Int)(n:Nat)(k:Prop):Prop where
 | mk (h0:0<=q) (h1:q<n) (k1:k)
inductive Look(g:Bool)(n:Nat)(os:List (Nat×Nat))(z:AV)(ok:Bool)(es:List (List AV))(key:AV)(K:AV->Prop):Prop where
 | hit (v:AV) (h0:(k2S g n key).isSome=true) (h:k64 g n os es key=some (some v)) (k:K (k98 ok z (some v)))
 | miss (h0:(k2S g n key).isSome=true) (h:k64 g n os es key=some none) (k:K (k98 ok z none))
inductive Put(g:Bool)(n:Nat)(os:List (Nat×Nat))(es:List (List AV))(key v:AV)(K:List (List AV)->Prop):Prop where
 | mk (fs:List (List AV)) (h0:(k2S g n key).isSome=true) (h:kM8 g n os es key v=some fs) (k:K fs)
def kDG:List Nat->List k0J->List Nat
 | acc,[]=>acc
 | acc,o::l=>kDG (match o.dst with
   | some d=>(match o.op with
     | .iadS _ _ _=>d::acc
     | .bslice _ m _ _=>(match Nat.beq m 1 with|true=>(1000000+d)::acc|false=>acc)
     | .fadr _ x=>(match x with | .tmp t=>(match acc.elem t with|true=>d::acc|false=>acc)|_=>acc)
     | _=>acc)
   | none=>acc) l
def k5Q:List Nat->k2Z->List Nat
 | acc,.ops l=>kDG acc l
 | acc,.draw hd tl=>kDG (kDG acc hd) tl
 | acc,.any al _=>kDG acc al
 | acc,.seq x y=>k5Q (k5Q acc x) y
 | acc,.cond _ p q=>k5Q (k5Q acc p) q
 | acc,.block _ c=>k5Q acc c
 | acc,.loop c=>k5Q acc c
 | acc,_=>acc
def q26(el:List Nat):k0B->Bool
 | .tmp t=>el.elem (1000000+t)
 | _=>false
def q38(el:List Nat):k0B->Bool
 | .tmp t=>el.elem t
 | _=>false
def rdY(el:List Nat)(o:AOp)(ev:k0B->AV)(h:k00)(Kv:AV->Prop)(fb:Prop):Prop:=
 match o with
 | .iadS z x i=>(match ev x with
   | .sl s z' j n=>(match ev i,Nat.beq z' z with | .int _ q,true=>At q j n (λk=>Kv (.ref s z k 0))|_,_=>False)
   | _=>fb)
 | .load g k x=>(match q38 el x with
   | true=>(match ev x with
     | .ref s z i o=>(match h[s]? with
       | some (.live z' es)=>(match Nat.beq z' z,Nat.ble (o+k) z with|true,true=>kHB es i (λrow=>Kv (k1S g k row o))|_,_=>False)
       | _=>False)
     | _=>fb)
   | false=>fb)
 | .idx g n k x i=>(match ev x with
   | .agg cs=>(match ev i,Nat.ble (n*k) cs.length with | .int _ q,true=>InN q n (Kv (k1S g k cs (q.toNat*k)))|_,_=>False)
   | _=>fb)
 | .iadA n z x i=>(match ev x with
   | .ref s z' j o=>(match ev i with | .int _ q=>InN q n (Kv (.ref s z' j (o+q.toNat*z)))|_=>False)
   | .cref cs=>(match ev i with | .int _ q=>InN q n (Kv (.cref (cs.drop (q.toNat*z))))|_=>False)
   | _=>fb)
 | .look g n os z ok x k=>(match ev x with
   | .mapr s=>(match h[s]? with
     | some (.live zz es)=>(match zz with|0=>Look g n os z ok es (ev k) Kv|_=>False)
     | _=>False)
   | _=>fb)
 | .slcS x lo hi=>(match ev x with | .str s=>SlcS s (lo.map ev) (hi.map ev) (λt=>Kv (.str t))|_=>fb)
 | .toS x=>(match ev x with
   | .list z es=>ToS z es (λs=>Kv (.str s))
   | .sl q z i n=>(match h[q]? with|some (.live z' es)=>ToSl z z' i n es (λs=>Kv (.str s))|_=>False)
   | .nils=>Kv (.str .empty)
   | .emp=>Kv (.str .empty)
   | _=>fb)
 | .idxStr x i=>(match ev x with | .str s=>(match ev i with | .int _ q=>IdxS s q (λc=>Kv (.int .u8 c))|_=>fb)|_=>fb)
 | _=>fb
def wrY(el:List Nat)(o:AOp)(ev:k0B->AV)(h:k00)(Kh:AV->k00->Prop)(fb:Prop):Prop:=
 match o with
 | .store k x y=>(match q38 el x with
   | true=>(match ev x with
     | .ref s z i o=>(match h[s]? with
       | some (.live z' es)=>(match (ev y).cellsOf with
         | some cs=>(match Nat.beq z' z,Nat.beq cs.length k,Nat.ble (o+k) z,k2P cs with|true,true,true,true=>kBF es i o cs (λfs=>Kh .undef (h.set s (.live z fs)))|_,_,_,_=>False)
         | none=>False)
       | _=>False)
     | _=>fb)
   | false=>fb)
 | .mk z bytes zero l c=>(match ev l,ev c with
   | .int .i64 l,.int .i64 c=>(match Nat.beq z 0 with|true=>False|false=>Mk l c bytes zero (λes n=>Kh (.sl h.length z 0 n) (h++[.live z es])))
   | _,_=>False)
 | .mkm=>Kh (.mapr h.length) (h++[.live 0 []])
 | .mput g n os x k v=>(match ev x with
   | .mapr s=>(match h[s]? with
     | some (.live zz es)=>(match zz with|0=>Put g n os es (ev k) (ev v) (λfs=>Kh .undef (h.set s (.live 0 fs)))|_=>False)
     | _=>False)
   | _=>fb)
 | .ofS x=>(match ev x with | .str s=>OfS s (λes n=>Kh (.sl h.length 1 0 n) (h++[.live 1 es]))|_=>fb)
 | _=>fb
theorem kEJ{el:List Nat}{o:AOp}{ev:k0B->AV}{h:k00}{Kv:AV->Prop}{fb:Prop}{K:Res->Prop}(H:rdY el o ev h Kv fb)(hk:∀v,Kv v->K (.val v))(hf:fb->k0T o ev h K):k0T o ev h K:=by
 unfold rdY at H;split at H
 ·rename_i z x i
  split at H
  ·rename_i s z' j n e
   split at H
   ·rename_i q e2 e3
    obtain⟨k,h0,h1,rfl,hK⟩:=H;simp only[k0T,e,e2];exact⟨⟨Nat.eq_of_beq_eq_true e3,h0,h1⟩,hk _ hK⟩
   ·exact H.elim
  ·exact hf H
 ·rename_i g k x
  split at H
  ·split at H
   ·rename_i s z i o e
    split at H
    ·rename_i z' es e2
     split at H
     ·rename_i e3 e4
      obtain⟨row,zL,hK⟩:=H;have hi:=(List.getElem?_eq_some_iff.1 zL).1;simp only[k0T,e,e2];refine⟨⟨Nat.eq_of_beq_eq_true e3,hi,Nat.le_of_ble_eq_true e4⟩,?_⟩;have:es.getD i []=row:=(by rw[List.getD_eq_getElem?_getD,zL];rfl);rw[this];exact hk _ hK
     ·exact H.elim
    ·exact H.elim
   ·exact hf H
  ·exact hf H
 ·rename_i g n k x i
  split at H
  ·rename_i cs e
   split at H
   ·rename_i q e2 e3
    obtain⟨h0,h1,hK⟩:=H;simp only[k0T,e,e2];exact⟨⟨h0,h1,Nat.le_of_ble_eq_true e3⟩,hk _ hK⟩
   ·exact H.elim
  ·exact hf H
 ·rename_i n z x i
  split at H
  ·rename_i s z' j o e
   split at H
   ·rename_i q e2
    obtain⟨h0,h1,hK⟩:=H;simp only[k0T,e,e2];exact⟨⟨h0,h1⟩,hk _ hK⟩
   ·exact H.elim
  ·rename_i cs e
   split at H
   ·rename_i q e2
    obtain⟨h0,h1,hK⟩:=H;simp only[k0T,e,e2];exact⟨⟨h0,h1⟩,hk _ hK⟩
   ·exact H.elim
  ·exact hf H
 ·rename_i g n os z ok x k
  split at H
  ·rename_i s e
   split at H
   ·rename_i zz es e2
    split at H
    ·cases H with
     | hit v h0 h1 hK =>
       obtain⟨ks,hks⟩:=Option.isSome_iff_exists.1 h0;simp only[k0T,e,e2];rw[hks,h1];exact hk _ hK
     | miss h0 h1 hK =>
       obtain⟨ks,hks⟩:=Option.isSome_iff_exists.1 h0;simp only[k0T,e,e2];rw[hks,h1];exact hk _ hK
    ·exact H.elim
   ·exact H.elim
  ·exact hf H
 ·rename_i x lo hi
  split at H
  ·rename_i s e
   simp only[k0T,e]
   cases H with
   | all t hlo hhi h k1=>rw[hlo,hhi];subst h;exact hk _ k1
   | to_ t hlo hhi h0 h1 h k1=>rw[hlo,hhi];subst h;exact⟨⟨h0,h1⟩,hk _ k1⟩
   | from_ t hlo hhi h0 h1 h k1=>rw[hlo,hhi];subst h;exact⟨⟨h0,h1⟩,hk _ k1⟩
   | both t hlo hhi h0 h1 h2 h k1=>rw[hlo,hhi];subst h;exact⟨⟨h0,h1,h2⟩,hk _ k1⟩
  ·exact hf H
 ·rename_i x
  split at H
  ·rename_i z es e
   obtain⟨s,hz,h,hK⟩:=H;simp only[k0T,e];exact⟨s,⟨hz,h⟩,hk _ hK⟩
  ·rename_i q z i n e
   split at H
   ·rename_i z' es e2
    obtain⟨s,hz,hz',hn,h,hK⟩:=H;simp only[k0T,e,e2];exact⟨s,⟨hz,hz',hn,h⟩,hk _ hK⟩
   ·exact H.elim
  ·rename_i e
   simp only[k0T,e];exact hk _ H
  ·rename_i e
   simp only[k0T,e];exact hk _ H
  ·exact hf H
 ·rename_i x i
  split at H
  ·rename_i s e
   split at H
   ·rename_i k q e2
    obtain⟨c,h0,h1,rfl,hK⟩:=H;simp only[k0T,e,e2];exact⟨⟨h0,h1⟩,hk _ hK⟩
   ·exact hf H
  ·exact hf H
 ·exact hf H
theorem kKV{el:List Nat}{o:AOp}{ev:k0B->AV}{h:k00}{Kh:AV->k00->Prop}{fb:Prop}{K:Res->Prop}(H:wrY el o ev h Kh fb)(hk:∀r,Kh (Res.at h.length r) (Res.push h r)->K r)(hf:fb->k0T o ev h K):k0T o ev h K:=by
 unfold wrY at H;split at H
 ·rename_i k x y
  split at H
  ·split at H
   ·rename_i s z i o e
    split at H
    ·rename_i z' es e2
     split at H
     ·rename_i cs e5
      split at H
      ·rename_i e3 e4 e6 e7
       obtain⟨row,fs,zL,rfl,hK⟩:=H;have hi:=(List.getElem?_eq_some_iff.1 zL).1;simp only[k0T,e,e2,e5];refine⟨⟨Nat.eq_of_beq_eq_true e3,hi,Nat.eq_of_beq_eq_true e4,Nat.le_of_ble_eq_true e6,e7⟩,?_⟩;have:es.getD i []=row:=(by rw[List.getD_eq_getElem?_getD,zL];rfl);rw[this];exact hk (.upd s z _) hK
      ·exact H.elim
     ·exact H.elim
    ·exact H.elim
   ·exact hf H
  ·exact hf H
 ·rename_i z bytes zero l c
  split at H
  ·rename_i l' c' e1 e2
   split at H
   ·exact H.elim
   ·rename_i hz0
    obtain⟨es,n,h0,h1,h2,h3,rfl,rfl,hK⟩:=H;simp only[k0T,e1,e2];exact⟨⟨h0,h1,h2,h3⟩,hk (.new (some l'.toNat) z _) (by simp only[Res.at,hz0];exact hK)⟩
  ·exact H.elim
 ·exact hk (.new (some 0) 0 []) H
 ·rename_i g n os x k v
  split at H
  ·rename_i s e
   split at H
   ·rename_i zz es e2
    split at H
    ·obtain⟨fs,h0,h1,hK⟩:=H
     simp only[k0T,e,e2];obtain⟨ks,hks⟩:=Option.isSome_iff_exists.1 h0;rw[hks,h1];exact hk (.upd s 0 _) hK
    ·exact H.elim
   ·exact H.elim
  ·exact hf H
 ·rename_i x
  split at H
  ·rename_i s e
   obtain⟨es,n,rfl,rfl,hK⟩:=H;simp only[k0T,e];exact hk (.new (some s.size) 1 (k13 s)) hK
  ·exact hf H
 ·exact hf H
section
variable (w:k01) (P:Program) (el:List Nat)
def q2K(z bytes:Nat)(x y:AV)(dst:Option Nat)(fb:Prop)(K:k09->k00->Prop)(a:k09)(h:k00):Prop:=
 match y with
 | .list z' [row] =>
   (match x,Nat.beq z' z,k2P row with
   | .emp,_,_=>fb
   | .nils,true,_=>(match Nat.beq z 0 with|true=>False|false=>Ob (λ_=>1*bytes<=140737488355328) (K (k1V a dst (.sl h.length z 0 1)) (h++[.live z [row]])))
   | .sl s z'' i n,true,true=>(match h[s]?,Nat.beq z'' z,Nat.beq i 0 with
     | some (.live ww es),true,true=>(match Nat.beq ww z with
       | true=>App es row bytes n (λfs n'=>K (k1V a dst (.sl h.length z 0 n')) (h.set s .dead++[.live z fs]))
       | false=>False)
     | _,_,_=>False)
   | _,_,_=>False)
 | _=>fb
def q2L(z bytes:Nat)(x y:AV)(dst:Option Nat)(fb:Prop)(K:k09->k00->Prop)(a:k09)(h:k00):Prop:=
 match y with
 | .list z' new =>
   (match x,Nat.beq z' z with
   | .emp,true=>kYV new bytes (K (k1V a dst .emp) h) (λn=>(match Nat.beq z 0 with|true=>False|false=>K (k1V a dst (.sl h.length z 0 n)) (h++[.live z new])))
   | .nils,true=>kYV new bytes (K (k1V a dst .nils) h) (λn=>(match Nat.beq z 0 with|true=>False|false=>K (k1V a dst (.sl h.length z 0 n)) (h++[.live z new])))
   | .sl s z'' i n,true=>(match h[s]?,Nat.beq z'' z,Nat.beq i 0 with
     | some (.live ww es),true,true=>(match Nat.beq ww z with
       | true=>kKT es new bytes n (λfs n'=>K (k1V a dst (.sl h.length z 0 n')) (h.set s .dead++[.live z fs]))
       | false=>False)
     | _,_,_=>fb)
   | _,_=>fb)
 | _=>fb
def q3D(one:Bool)(z bytes:Nat)(x y:AV)(dst:Option Nat)(fb:Prop)(K:k09->k00->Prop)(a:k09)(h:k00):Prop:=
 match one with|true=>q2K z bytes x y dst fb K a h|false=>q2L z bytes x y dst fb K a h
def k86(o:k0J)(K:k09->k00->Prop)(a:k09)(h:k00):Prop:=
 match o.op with
 | .call f xs=>(match evA a f with | .func (.func g) first caps=>Call P g (first++evs (evA a) xs++caps) h (k4T K a o.dst)|_=>False)
 | .xop op ty xs=>Xo P op ty (evs (evA a) xs) h (k4T K a o.dst)
 | .pick c x y=>(match evA a c with | .bool t=>brL t (λ_=>K (k1V a o.dst (evA a x)) h) (λ_=>K (k1V a o.dst (evA a y)) h)|_=>False)
 | .app z bytes x y=>q3D (q26 el y) z bytes (evA a x) (evA a y) o.dst (Fb (λ_=>k0T (.app z bytes x y) (evA a) h (fin K a o.dst h))) K a h
 | op=>wrY el op (evA a) h (λv h'=>K (k1V a o.dst v) h') (rdY el op (evA a) h (λv=>K (k1V a o.dst v) h) (k3S w op (evA a) h (λ_=>k0T op (evA a) h (fin K a o.dst h)) (fin K a o.dst h)))
def k1W(K:k09->k00->Prop):List k0J->k09->k00->Prop
 | [],a,h=>K a h
 | o::rest,a,h =>
   match o.guard with
   | none=>k86 w P el o (k1W K rest) a h
   | some (t,want) =>
     match a.getD t .any with
     | .bool b =>
       match want with
       | true=>brL b (λ_=>k86 w P el o (k1W K rest) (a.set t (.bool true)) h) (λ_=>k1W K rest (k1V (a.set t (.bool false)) o.dst .undef) h)
       | false=>brL b (λ_=>k1W K rest (k1V (a.set t (.bool true)) o.dst .undef) h) (λ_=>k86 w P el o (k1W K rest) (a.set t (.bool false)) h)
     | .tuple []=>k1W K rest (k1V a o.dst .undef) h
     | _=>False
def kAC(o:k0J)(h0:k00)(K:k09->k00->Prop)(a:k09)(news:k00):Prop:=
 match o.op with
 | .call f xs=>(match evA a f with | .func (.func g) first caps=>k1R P g (first++evs (evA a) xs++caps) h0 (kFP K a o.dst news)|_=>False)
 | .pick c x y=>(match evA a c with | .bool t=>brL t (λ_=>K (k1V a o.dst (evA a x)) news) (λ_=>K (k1V a o.dst (evA a y)) news)|_=>False)
 | op=>rdY el op (evA a) h0 (λv=>K (k1V a o.dst v) news) (k3S w op (evA a) h0 (λ_=>k0T op (evA a) h0 (kDE K a o.dst (h0.length+news.length) op.slots news)) (kDE K a o.dst (h0.length+news.length) op.slots news))
def k5G(h0:k00)(K:k09->k00->Prop):List k0J->k09->k00->Prop
 | [],a,news=>K a news
 | o::rest,a,news =>
   match o.guard with
   | none=>kAC w P el o h0 (k5G h0 K rest) a news
   | some (t,want) =>
     match a.getD t .any with
     | .bool b =>
       match want with
       | true=>brL b (λ_=>kAC w P el o h0 (k5G h0 K rest) (a.set t (.bool true)) news) (λ_=>k5G h0 K rest (k1V (a.set t (.bool false)) o.dst .undef) (news++List.replicate o.op.slots .free))
       | false=>brL b (λ_=>k5G h0 K rest (k1V (a.set t (.bool true)) o.dst .undef) (news++List.replicate o.op.slots .free)) (λ_=>kAC w P el o h0 (k5G h0 K rest) (a.set t (.bool false)) news)
     | .tuple []=>k5G h0 K rest (k1V a o.dst .undef) (news++List.replicate o.op.slots .free)
     | _=>False
def kZ4(K:k09->k00->Prop)(h:k00)(tl:List k0J):k09->k00->Prop:=λa news=>k1W w P el K tl a (h++news)
def kBV(K:k09->k00->Prop)(al:List k0J)(deps:List (List Nat)):Nat->List Nat->k09->k00->Prop
 | 0,done,a,h=>if (k16 done 0 deps).isEmpty then K a h else False
 | f+1,done,a,h=>if (k16 done 0 deps).isEmpty then K a h else kOV (k16 done 0 deps) λi=>match al[i]? with|some o=>k1W w P el (kBV K al deps f (i::done)) [o] a h|none=>False
def k2D(n:Nat):k2Z->k17->k09->k00->Prop
 | .skip,Q,a,h=>Q .normal a h
 | .ops l,Q,a,h=>k1W w P el (Q .normal) l a h
 | .draw hd tl,Q,a,h=>k5G w P el h (kZ4 w P el (Q .normal) h tl) hd a []
 | .any al deps,Q,a,h=>kBV w P el (Q .normal) al deps al.length [] a h
 | .bad,Q,a,h=>False
 | .seq x y,Q,a,h=>k2D n x (k6Y (k2D n y Q) Q) a h
 | .cond x p q,Q,a,h=>(match evA a x with | .bool t=>brL t (λ_=>k2D n p Q (kT7 a x true) h) (λ_=>k2D n q Q (kT7 a x false) h)|_=>False)
 | .block id c,Q,a,h=>k2D n c (k33 id Q) a h
 | .loop c,Q,a,h=>k1Q P n c Q a h
 | .exit id,Q,a,h=>Q (.exit id) a h
 | .ret,Q,a,h=>Q .ret a h
end
def kHJ(w:k01)(F:Option kPC)(P:Program)(args:List AV)(R:AV->Prop):Prop:=
 match F with
 | some F=>k2D w P (k5Q [] F.code) 0 F.code (kM1 F.rets R) (k63 args F.n) []
 | none=>False
section
variable {P:Program} {el:List Nat}
theorem kU7{b:Bool}{p q:Unit->Prop}{p' q':Prop}(h:brL b p q)(hp:p ()->p')(hq:q ()->q'):br b p' q':=by
 cases b
 ·exact hq h
 ·exact hp h
theorem q14{z bytes:Nat}{x y:k0B}{dst:Option Nat}{K:k09->k00->Prop}{a:k09}{h:k00}(H:q2K z bytes (evA a x) (evA a y) dst (Fb (λ_=>k0T (.app z bytes x y) (evA a) h (fin K a dst h))) K a h):k3S std (.app z bytes x y) (evA a) h (λ_=>k0T (.app z bytes x y) (evA a) h (fin K a dst h)) (fin K a dst h):=by
 unfold q2K at H;simp only[k3S];split at H
 ·rename_i z' row e
  rw[e];simp only;split at H
  ·rename_i h1
   rw[h1];exact H
  ·rename_i h1 h2
   rw[h1,h2];split at H
   ·exact H.elim
   ·rename_i hz0
    simp only[fin,Res.at,hz0];exact H
  ·rename_i s z'' i n h1 h2 h3
   rw[h1,h2,h3];simp only;split at H
   ·rename_i ww es k1 k2 k3
    rw[k1,k2,k3];simp only;split at H
    ·rename_i hz
     rw[hz];simp only;obtain⟨fs,n',rfl,rfl,rfl,h6,h7,h8⟩:=H;refine Ob.mk ⟨rfl,h6,h7⟩ ?_;show K _ _;have e:(std.app es [row]).length=es.length+1:=by show (es++[row]).length=_;simp
     simp only[Res.at,Res.push,e];exact h8
    ·exact H.elim
   ·exact H.elim
  ·exact H.elim
 ·rename_i hne
  split
  ·rename_i z' row e;exact absurd e (hne z' row)
  ·exact H
theorem kYA{z bytes:Nat}{x y:k0B}{dst:Option Nat}{K:k09->k00->Prop}{a:k09}{h:k00}(H:q2L z bytes (evA a x) (evA a y) dst (Fb (λ_=>k0T (.app z bytes x y) (evA a) h (fin K a dst h))) K a h):k0T (.app z bytes x y) (evA a) h (fin K a dst h):=by
 unfold q2L at H;split at H
 ·rename_i z' new e
  split at H
  ·rename_i e1 hz
   have hz:=Nat.eq_of_beq_eq_true hz;subst hz;simp only[k0T,e,e1]
   cases H with
   | nil h k=>subst h;exact⟨λ_=>k,λh=>absurd rfl h⟩
   | mk n hn h0 hm hb k =>
     subst hn;refine⟨λh=>absurd h h0,λ_=>⟨⟨trivial,hm,hb⟩,?_⟩⟩;split at k
     ·exact k.elim
     ·rename_i hz0
      simp only[fin,Res.at,hz0];exact k
  ·rename_i e1 hz
   have hz:=Nat.eq_of_beq_eq_true hz;subst hz;simp only[k0T,e,e1]
   cases H with
   | nil h k=>subst h;exact⟨λ_=>k,λh=>absurd rfl h⟩
   | mk n hn h0 hm hb k =>
     subst hn;refine⟨λh=>absurd h h0,λ_=>⟨⟨trivial,hm,hb⟩,?_⟩⟩;split at k
     ·exact k.elim
     ·rename_i hz0
      simp only[fin,Res.at,hz0];exact k
  ·rename_i s z'' i n e1 hz
   have hz:=Nat.eq_of_beq_eq_true hz;subst hz;split at H
   ·rename_i ww es g1 g2 g3
    split at H
    ·rename_i g4
     have g2:=Nat.eq_of_beq_eq_true g2;have g3:=Nat.eq_of_beq_eq_true g3;have g4:=Nat.eq_of_beq_eq_true g4;subst g2 g3 g4;obtain⟨fs,n',rfl,rfl,rfl,ho,hm,hb,k⟩:=H;simp only[k0T,e,e1,g1]
     have hK:fin K a dst h (.repl s ww (es++new)):=by
      simp only[fin,Res.at,Res.push,List.length_append];exact k
     refine⟨λhnew=>.inr ⟨⟨trivial,trivial,trivial,trivial⟩,?_⟩,λhnew=>⟨⟨trivial,trivial,trivial,trivial,trivial,ho,hm,hb⟩,hK⟩⟩;subst hnew
     rwa [List.append_nil] at hK
    ·exact H.elim
   ·exact H.1
  ·exact H.1
 ·exact H.1
theorem k30{o:k0J}{K K':k09->k00->Prop}{a:k09}{h:k00}(H:k86 std P el o K a h)(hk:∀a h,K a h->K' a h):k91 P o K' a h:=by
 have viaX:k75 std P o K a h->k91 P o K' a h:=λH=>k4G H hk;unfold k86 at H;split at H
 ·rename_i f xs e
  exact viaX (by unfold k75;rw[e];exact H)
 ·rename_i op ty xs e
  exact viaX (by unfold k75;rw[e];exact H)
 ·rename_i c x y e
  refine viaX ?_;unfold k75;rw[e];simp only[k3S];split at H
  ·rename_i t e2
   rw[e2];exact kU7 H (λh=>h) (λh=>h)
  ·exact H.elim
 ·rename_i z bytes x y e
  unfold q3D at H;split at H
  ·exact viaX (by unfold k75;rw[e];exact q14 H)
  ·unfold k91
   rw[e];exact k4Y (λr hr=>hk _ _ hr) (kYA H)
 ·rename_i h1 hx h2 h3
  unfold k91;split
  ·rename_i f xs e;exact absurd e (h1 f xs)
  ·rename_i op ty xs e;exact absurd e (hx op ty xs)
  ·refine k4Y (λr hr=>hk _ _ hr) (kKV H (λr hr=>hr) λH=>kEJ H (λv hv=>hv) λH=>k41 H λh=>h)
theorem k0Z{K K':k09->k00->Prop}(hk:∀a h,K a h->K' a h):∀ {l:List k0J} {a:k09} {h:k00},k1W std P el K l a h->k4B P K' l a h
 | [],a,h,H=>hk _ _ H
 | o::rest,a,h,H=>by
   simp only[k1W,k4B] at H ⊢;split at H
   ·rename_i e;rw[e];exact k30 H λa h=>k0Z hk
   ·rename_i t want e
    rw[e];simp only;split at H
    ·rename_i b e2
     rw[e2]
     cases want with
     | true =>
       obtain⟨h1,h2⟩:=k7X H;exact⟨λe=>k30 (h1 e) λa h=>k0Z hk,λe=>k0Z hk (h2 e)⟩
     | false =>
       obtain⟨h1,h2⟩:=k7X H;exact⟨λe=>k30 (h2 e) λa h=>k0Z hk,λe=>k0Z hk (h1 e)⟩
    ·rename_i e2
     rw[e2];exact k0Z hk H
    ·exact H.elim
theorem kQ8{el:List Nat}{o:AOp}{ev:k0B->AV}{h:k00}{Kv:AV->Prop}{fb:Prop}(H:rdY el o ev h Kv fb):(o.slots=0/\rdY el o ev h Kv fb)\/fb:=by
 cases o<;>first|exact .inr H|exact .inl ⟨rfl,H⟩
theorem k5I{o:k0J}{h0:k00}{K K':k09->k00->Prop}{a:k09}{news:k00}(H:kAC std P el o h0 K a news)(hk:∀a h,K a h->K' a h):k6D P o h0 K' a news:=by
 have viaX:k6C std P o h0 K a news->k6D P o h0 K' a news:=λH=>k3T H hk;unfold kAC at H;split at H
 ·rename_i f xs e
  exact viaX (by unfold k6C;rw[e];exact H)
 ·rename_i c x y e
  refine viaX ?_;unfold k6C;rw[e];simp only[k3S];split at H
  ·rename_i t e2
   rw[e2];exact kU7 H (λh=>h) (λh=>h)
  ·exact H.elim
 ·rename_i h1 h2
  have alt:k3S std o.op (evA a) h0 (λ_=>k0T o.op (evA a) h0 (kDE K a o.dst (h0.length+news.length) o.op.slots news)) (kDE K a o.dst (h0.length+news.length) o.op.slots news)->k6D P o h0 K' a news:=λH=>by
   unfold k6D;split
   ·rename_i f xs e;exact absurd e (h1 f xs)
   ·exact k4Y (λr hr=>kAU hk (kAV hr)) (k41 H λh=>h)
  rcases kQ8 H with ⟨hs,H⟩|H
  ·unfold k6D
   split
   ·rename_i f xs e;exact absurd e (h1 f xs)
   ·refine k4Y (λr hr=>kAU hk (kAV hr)) (kEJ (K:=kDE K a o.dst (h0.length+news.length) o.op.slots news) H (λv hv=>?_) λH=>k41 H λh=>h)
    rw[hs];exact hv
  ·exact alt H
theorem k1Y{h0:k00}{K K':k09->k00->Prop}(hk:∀a h,K a h->K' a h):∀ {l:List k0J} {a:k09} {news:k00},k5G std P el h0 K l a news->k4H P h0 K' l a news
 | [],a,h,H=>hk _ _ H
 | o::rest,a,h,H=>by
   simp only[k5G,k4H] at H ⊢;split at H
   ·rename_i e;rw[e];exact k5I H λa h=>k1Y hk
   ·rename_i t want e
    rw[e];simp only;split at H
    ·rename_i b e2
     rw[e2]
     cases want with
     | true =>
       obtain⟨h1,h2⟩:=k7X H;exact⟨λe=>k5I (h1 e) λa h=>k1Y hk,λe=>k1Y hk (h2 e)⟩
     | false =>
       obtain⟨h1,h2⟩:=k7X H;exact⟨λe=>k5I (h2 e) λa h=>k1Y hk,λe=>k1Y hk (h1 e)⟩
    ·rename_i e2
     rw[e2];exact k1Y hk H
    ·exact H.elim
theorem k6E{K K':k09->k00->Prop}{al:List k0J}{deps:List (List Nat)}(hk:∀a h,K a h->K' a h):∀ {f:Nat} {done:List Nat} {a:k09} {h:k00},kBV std P el K al deps f done a h->k35 P K' al deps f done a h
 | 0,done,a,h,H=>by
   simp only[kBV,k35] at H ⊢;split at H
   ·rename_i he;rw[if_pos he];exact hk _ _ H
   ·exact H.elim
 | f+1,done,a,h,H=>by
   simp only[kBV,k35] at H ⊢;split at H
   ·rename_i he;rw[if_pos he];exact hk _ _ H
   ·rename_i he
    rw[if_neg he];refine kDT (λi hi=>?_) H;split at hi
    ·rename_i e1
     rw[e1];exact k0Z (λa h hh=>k6E hk hh) hi
    ·exact hi.elim
theorem k0F{n:Nat}:∀ {c:k2Z} {Q Q':k17} {a:k09} {h:k00},(∀e a h,Q e a h->Q' e a h)->k2D std P el n c Q a h->k3N P n c Q' a h
 | .skip,Q,Q',a,h,hq,H=>hq _ _ _ H
 | .ops l,Q,Q',a,h,hq,H=>k0Z (λa h hr=>hq _ _ _ hr) H
 | .any al deps,Q,Q',a,h,hq,H=>k6E (λa h hr=>hq _ _ _ hr) H
 | .bad,Q,Q',a,h,hq,H=>H.elim
 | .draw hd tl,Q,Q',a,h,hq,H=>k1Y (λa news hr=>k0Z (λa h hr=>hq _ _ _ hr) hr) H
 | .seq x y,Q,Q',a,h,hq,H=>k0F (c:=x) (λe a h hr=>by
    cases e with
    | normal=>exact k0F (c:=y) hq hr
    | _=>exact hq _ _ _ hr) H
 | .cond x p q,Q,Q',a,h,hq,H=>by
   simp only[k2D,k3N] at H ⊢;split at H
   ·rename_i t e
    obtain⟨h1,h2⟩:=k7X H;rw[e];exact⟨λe=>k0F (c:=p) hq (h1 e),λe=>k0F (c:=q) hq (h2 e)⟩
   ·exact H.elim
 | .block id c,Q,Q',a,h,hq,H=>k0F (c:=c) (λe a h hr=>by
    cases e with
    | exit i =>
      simp only[k33] at hr ⊢;split at hr
      ·rename_i hi;rw[if_pos hi];exact hq _ _ _ hr
      ·rename_i hi;rw[if_neg hi];exact hq _ _ _ hr
    | _=>exact hq _ _ _ hr) H
 | .loop c,Q,Q',a,h,hq,H=>by
   obtain⟨hl⟩:=H;exact λcode hc hd=>(hl code hc hd).mono hq
 | .exit id,Q,Q',a,h,hq,H=>hq _ _ _ H
 | .ret,Q,Q',a,h,hq,H=>hq _ _ _ H
theorem kE3{F:Option kPC}{args:List AV}{R:AV->Prop}(H:kHJ std F P args R):kJ6 F P args R:=by
 unfold kHJ at H;unfold kJ6;split at H
 ·exact k0F (λe a h hr=>kAL e a h hr) H
 ·exact H.elim
theorem k02.ofY {g : FuncId} {fn : Func} {args : List AV} {R : AV → Prop} (hf : P.funcs[g]? = some fn) (hname : (fn.name == "runtime.NumGoroutine") = false) (hdr : k5B P fn = true) (H : ∀ w, w = std → ∀ R' : AV → Prop, (∀ r, R r → R' r) → kHJ w (k2K P fn) P args R') : k02 P g args R :=
 k02.of hf hname hdr (kE3 (H std rfl R λ_ h=>h))
theorem k1Q.introY{c:k2Z}{Q:k17}{a:k09}{h:k00}(I:k09->k00->Prop)(m:k09->k00->Nat)(a':k09)(h':k00)(hw:Wk 0 a h a' h')(h0:I a' h')
 (round:∀a h,I a h->∀w,w=std->∀Q':k17,(∀a1 h1 a2 h2,Wk 0 a1 h1 a2 h2->I a2 h2->m a2 h2<m a h->Q' .normal a1 h1)->(∀k a1 h1,Q (.exit k) a1 h1->Q' (.exit k) a1 h1)->(∀a1 h1,Q .ret a1 h1->Q' .ret a1 h1)->k2D w P (k5Q [] c) 0 c Q' a h):k1Q P 0 c Q a h:=
 ⟨kHE.intro I m a' h' hw h0 λa h hI=>k0F (λ_ _ _ h=>h) (round a h hI std rfl _ (λa1 h1 a2 h2 w2 i2 m2=>⟨a2,h2,w2,i2,m2⟩) (λk a1 h1 hq=>hq) (λa1 h1 hq=>hq))⟩
end
theorem kDF{p:Nat->Prop}(h:∃n,p n):∃n,p n/\∀k,p k->n<=k:=by
 obtain⟨n,hn⟩:=h
 induction n using Nat.strongRecOn with
 | _ n ih =>
   by_cases h:∃k,k<n/\p k
   ·obtain⟨k,h1,h2⟩:=h;exact ih k h1 h2
   ·exact⟨n,hn,λk hk=>Nat.le_of_not_lt λhl=>h ⟨k,hl,hk⟩⟩
open Classical in
noncomputable def k5Z{S:Type}(st:S->k09)(hp:S->k00)(inv:S->Prop)(m:S->Nat)(a:k09)(h:k00):Nat:=
 if e:∃n s,st s=a/\hp s=h/\inv s/\m s=n then (kDF e).choose else 0
theorem k8K{S:Type}{st:S->k09}{hp:S->k00}{inv:S->Prop}{m:S->Nat}{s:S}(hi:inv s):k5Z st hp inv m (st s) (hp s)<=m s:=by
 have e:∃n s',st s'=st s/\hp s'=hp s/\inv s'/\m s'=n:=⟨m s,s,rfl,rfl,hi,rfl⟩;unfold k5Z;rw[dif_pos e];exact(kDF e).choose_spec.2 _ ⟨s,rfl,rfl,hi,rfl⟩
theorem k6V{S:Type}{st:S->k09}{hp:S->k00}{inv:S->Prop}{m:S->Nat}{a:k09}{h:k00}(e:∃s,st s=a/\hp s=h/\inv s):∃s,st s=a/\hp s=h/\inv s/\m s=k5Z st hp inv m a h:=by
 have e:∃n s,st s=a/\hp s=h/\inv s/\m s=n:=by obtain⟨s,h1,h2,h3⟩:=e;exact⟨m s,s,h1,h2,h3,rfl⟩
 unfold k5Z;rw[dif_pos e];exact(kDF e).choose_spec.1
theorem k1Q.data{P:Program}{w:k01}(hw:w=std){c:k2Z}{Q:k17}{a:k09}{h:k00}{S:Type}(st:S->k09)(hp:S->k00)(inv:S->Prop)(m:S->Nat)(s0:S)(hwk:Wk 0 a h (st s0) (hp s0))(h0:inv s0)
 (round:∀s,inv s->∀Q':k17,(∀s' a1 h1,Wk 0 a1 h1 (st s') (hp s')->inv s'->m s'<m s->Q' .normal a1 h1)->(∀k a1 h1,Q (.exit k) a1 h1->Q' (.exit k) a1 h1)->(∀a1 h1,Q .ret a1 h1->Q' .ret a1 h1)->k2D w P (k5Q [] c) 0 c Q' (st s) (hp s)):k1Q P 0 c Q a h:=
 k1Q.introY (λa h=>∃s,st s=a/\hp s=h/\inv s) (k5Z st hp inv m) (st s0) (hp s0) hwk ⟨s0,rfl,rfl,h0⟩ (by
  intro a h hI w' hw' Q' hN hE hR;obtain rfl:w'=w:=hw'.trans hw.symm;obtain⟨s,rfl,rfl,h1,h2⟩:=k6V (m:=m) hI;refine round s h1 Q' (λs' a1 h1 k1 k2 k3=>hN _ _ _ _ k1 ⟨s',rfl,rfl,k2⟩ ?_) hE hR;rw[<- h2];exact Nat.lt_of_le_of_lt (k8K k2) k3)
inductive Up0(es:List (List AV)):Prop where
 | mk (h:k18 0 es=true)
theorem Up0.get{es:List (List AV)}(h:Up0 es):k18 0 es=true:=by obtain⟨h⟩:=h;exact h
theorem Up0.list{es:List (List AV)}{z:Nat}(h:Up0 es):(AV.list z es).upto 0=true:=h.get
mutual
def eqS(f:Nat->Nat)(m:Nat):AV->AV->Prop
 | .any,y=>(match y with | .any=>True|_=>False)
 | .int k a,y=>(match y with | .int k' b=>(match kC7 k k' with|true=>b=a|false=>False)|_=>False)
 | .bool a,y=>(match y with | .bool b=>b=a|_=>False)
 | .str a,y=>(match y with | .str b=>b=a|_=>False)
 | .nilp,y=>(match y with | .nilp=>True|_=>False)
 | .nils,y=>(match y with | .nils=>True|_=>False)
 | .emp,y=>(match y with | .emp=>True|_=>False)
 | .nilFunc,y=>(match y with | .nilFunc=>True|_=>False)
 | .nilIface,y=>(match y with | .nilIface=>True|_=>False)
 | .agg cs,y=>(match y with | .agg ds=>kP9 f m cs ds|_=>False)
 | .tuple cs,y=>(match y with | .tuple ds=>kP9 f m cs ds|_=>False)
 | .cref cs,y=>(match y with | .cref ds=>kP9 f m cs ds|_=>False)
 | .list z es,y=>(match y with | .list z' fs=>(match Nat.beq z z' with|true=>Up0 es/\fs=es|false=>False)|_=>False)
 | .sl s z i n,y=>(match y with | .sl s' z' i' n'=>(match Nat.beq (f s) s',Nat.blt s m,Nat.beq z z',Nat.beq i i' with|true,true,true,true=>n'=n|_,_,_,_=>False)|_=>False)
 | .ref s z i o,y=>(match y with | .ref s' z' i' o'=>(match Nat.beq (f s) s',Nat.blt s m,Nat.beq z z',Nat.beq i i',Nat.beq o o' with|true,true,true,true,true=>True|_,_,_,_,_=>False)|_=>False)
 | .mapr s,y=>(match y with | .mapr s'=>(match Nat.beq (f s) s',Nat.blt s m with|true,true=>True|_,_=>False)|_=>False)
 | .func g a b,y=>(match y with | .func g' a' b'=>g'=g/\kP9 f m a a'/\kP9 f m b b'|_=>False)
 | .iface t v,y=>(match y with | .iface t' v'=>t'=t/\eqS f m v v'|_=>False)
def kP9(f:Nat->Nat)(m:Nat):List AV->List AV->Prop
 | [],y=>(match y with|[]=>True|_=>False)
 | c::cs,y=>(match y with|d::ds=>eqS f m c d/\kP9 f m cs ds|_=>False)
end
mutual
theorem kNI{f:Nat->Nat}{m:Nat}:∀(x y:AV),eqS f m x y->x.upto m=true/\x.ren f=y
 | .any,y,h=>by unfold eqS at h;split at h;exact⟨rfl,rfl⟩;exact h.elim
 | .int k a,y,h=>by
   unfold eqS at h;split at h
   ·split at h
    ·rename_i hk;rw[k47 hk,h];exact⟨rfl,rfl⟩
    ·exact h.elim
   ·exact h.elim
 | .bool a,y,h=>by unfold eqS at h;split at h;rw[h];exact⟨rfl,rfl⟩;exact h.elim
 | .str a,y,h=>by unfold eqS at h;split at h;rw[h];exact⟨rfl,rfl⟩;exact h.elim
 | .nilp,y,h=>by unfold eqS at h;split at h;exact⟨rfl,rfl⟩;exact h.elim
 | .nils,y,h=>by unfold eqS at h;split at h;exact⟨rfl,rfl⟩;exact h.elim
 | .emp,y,h=>by unfold eqS at h;split at h;exact⟨rfl,rfl⟩;exact h.elim
 | .nilFunc,y,h=>by unfold eqS at h;split at h;exact⟨rfl,rfl⟩;exact h.elim
 | .nilIface,y,h=>by unfold eqS at h;split at h;exact⟨rfl,rfl⟩;exact h.elim
 | .agg cs,y,h=>by
   unfold eqS at h;split at h
   ·obtain⟨h1,h2⟩:=k7R cs _ h
    exact⟨h1,by simp only[AV.ren,h2]⟩
   ·exact h.elim
 | .tuple cs,y,h=>by
   unfold eqS at h;split at h
   ·obtain⟨h1,h2⟩:=k7R cs _ h
    exact⟨h1,by simp only[AV.ren,h2]⟩
   ·exact h.elim
 | .cref cs,y,h=>by
   unfold eqS at h;split at h
   ·obtain⟨h1,h2⟩:=k7R cs _ h
    exact⟨h1,by simp only[AV.ren,h2]⟩
   ·exact h.elim
 | .list z es,y,h=>by
   unfold eqS at h;split at h
   ·split at h
    ·rename_i hz
     have:=Nat.eq_of_beq_eq_true hz;subst this;obtain⟨h1,rfl⟩:=h;exact⟨k76 m _ h1.list,k2J f _ h1.list⟩
    ·exact h.elim
   ·exact h.elim
 | .sl s z i n,y,h=>by
   unfold eqS at h;split at h
   ·split at h
    ·rename_i h1 h2 h3 h4
     have:=Nat.eq_of_beq_eq_true h1;have:=Nat.eq_of_beq_eq_true h3;have:=Nat.eq_of_beq_eq_true h4
     subst_vars
     refine⟨?_,rfl⟩;simpa[AV.upto] using h2
    ·exact h.elim
   ·exact h.elim
 | .ref s z i o,y,h=>by
   unfold eqS at h;split at h
   ·split at h
    ·rename_i h1 h2 h3 h4 h5
     have:=Nat.eq_of_beq_eq_true h1;have:=Nat.eq_of_beq_eq_true h3;have:=Nat.eq_of_beq_eq_true h4;have:=Nat.eq_of_beq_eq_true h5
     subst_vars
     refine⟨?_,rfl⟩;simpa[AV.upto] using h2
    ·exact h.elim
   ·exact h.elim
 | .mapr s,y,h=>by
   unfold eqS at h;split at h
   ·split at h
    ·rename_i h1 h2
     have:=Nat.eq_of_beq_eq_true h1
     subst_vars
     refine⟨?_,rfl⟩;simpa[AV.upto] using h2
    ·exact h.elim
   ·exact h.elim
 | .func g a b,y,h=>by
   unfold eqS at h;split at h
   ·obtain⟨rfl,ha,hb⟩:=h
    obtain⟨h1,h2⟩:=k7R a _ ha;obtain⟨h3,h4⟩:=k7R b _ hb;exact⟨by simp only[AV.upto,h1,h3,Bool.and_self],by simp only[AV.ren,h2,h4]⟩
   ·exact h.elim
 | .iface t v,y,h=>by
   unfold eqS at h;split at h
   ·obtain⟨rfl,h⟩:=h
    obtain⟨h1,h2⟩:=kNI v _ h;exact⟨h1,by simp only[AV.ren,h2]⟩
   ·exact h.elim
theorem k7R{f:Nat->Nat}{m:Nat}:∀(x y:List AV),kP9 f m x y->k0Q m x=true/\k4C f x=y
 | [],y,h=>by unfold kP9 at h;split at h;exact⟨rfl,rfl⟩;exact h.elim
 | c::cs,y,h=>by
   unfold kP9 at h;split at h
   ·obtain⟨h1,h2⟩:=kNI c _ h.1
    obtain⟨h3,h4⟩:=k7R cs _ h.2;exact⟨by simp only[k0Q,h1,h3,Bool.and_self],by simp only[k4C,h2,h4]⟩
   ·exact h.elim
end
def wkX(f:Nat->Nat)(m:Nat):List AV->List AV->Prop
 | [],ys=>(match ys with|[]=>True|_=>False)
 | x::xs,ys=>(match ys with
   | y::ys=>(match x with | .any=>wkX f m xs ys|x=>eqS f m x y/\wkX f m xs ys)
   | []=>False)
theorem kKW{f:Nat->Nat}{m:Nat}:∀(xs ys:List AV),wkX f m xs ys->wkL f m ys xs
 | [],ys,h=>by unfold wkX at h;split at h;exact trivial;exact h.elim
 | x::xs,ys,h=>by
   unfold wkX at h;split at h
   ·split at h
    ·exact⟨.inl rfl,kKW xs _ h⟩
    ·exact⟨.inr (kNI _ _ h.1),kKW xs _ h.2⟩
   ·exact h.elim
inductive kBG(f:Nat->Nat)(m:Nat):List (List AV)->List (List AV)->Prop where
 | one {r s:List AV} (h:kP9 f m r s):kBG f m [r] [s]
 | same {es fs:List (List AV)} (h1:Up0 es) (h2:fs=es):kBG f m es fs
theorem kBG.ok{f:Nat->Nat}{m:Nat}{es fs:List (List AV)}(h:kBG f m es fs):k18 m es=true/\k32 f es=fs:=by
 cases h with
 | one h =>
   obtain⟨h1,h2⟩:=k7R _ _ h;exact⟨by simp only[k18,h1,Bool.and_self],by simp only[k32,h2]⟩
 | same h1 h2 =>
   subst h2;exact⟨k21 m _ h1.get,k3Z f _ h1.get⟩
def hpX(f:Nat->Nat)(m:Nat)(h:k00):Nat->k00->Prop
 | _,[]=>True
 | j,s::r=>(match s with
   | .live z es=>(match h[f j]? with
     | some (.live z' fs)=>(match Nat.beq z z' with|true=>kBG f m es fs/\hpX f m h (j+1) r|false=>False)
     | _=>False)
   | _=>False)
theorem kTK{f:Nat->Nat}{m:Nat}{h:k00}:∀(r:k00) (j:Nat),hpX f m h j r->wkH f h m j r
 | [],j,H=>trivial
 | s::r,j,H=>by
   unfold hpX at H;split at H
   ·split at H
    ·rename_i h1
     split at H
     ·rename_i hz
      have:=Nat.eq_of_beq_eq_true hz;subst this;obtain⟨h2,h3⟩:=H.1.ok;exact⟨⟨by rw[h3];exact h1,h2⟩,kTK r (j+1) H.2⟩
     ·exact H.elim
    ·exact H.elim
   ·exact H.elim
theorem Wk.eqs{a a':k09}{h h':k00}(H:wkX id h'.length a' a/\hpX id h'.length h 0 h'):Wk 0 a h a' h':=
 Wk.ren id (kKW _ _ H.1) (kTK _ _ H.2) (λi j _ _ e=>e)
theorem Up0.one{es:List (List AV)}{l:List AV}{z:Nat}(h:Up0 es)(hl:k0Q 0 l=true):k0Q 0 (.list z es::l)=true:=Bool.and_eq_true_iff.mpr ⟨h.list,hl⟩
end Go.Eng
namespace Go.Proofs.YtlchlddijclhjaaGreat
open Go Go.RowKit Go.Eng
set_option maxRecDepth 100000
theorem kPH{x y:Int}(h0:0<=x*y)(h1:x*y<18446744073709551616):k05 .mul .u64 x y=x*y:=by
 show IntKind.u64.wrap (x*y)=_;rw[IntKind.wrap_u64];omega
theorem kPJ{x y:Int}(h0:0<=x+y)(h1:x+y<18446744073709551616):k05 .add .u64 x y=x+y:=by
 show IntKind.u64.wrap (x+y)=_;rw[IntKind.wrap_u64];omega
theorem q1O{x:Int}:k05 .shr .u64 x 32=x/4294967296:=by
 show x.fdiv (2 ^ (min (32:Int).toNat 64))=_;rw[show (2:Int) ^ (min (32:Int).toNat 64)=4294967296 by decide,Int.fdiv_eq_ediv_of_nonneg _ (by decide)]
theorem q1P{x:Int}:k05 .shl .u64 x 32=x*4294967296%18446744073709551616:=by
 show IntKind.u64.wrap (x*2 ^ (min (32:Int).toNat 64))=_;rw[show (2:Int) ^ (min (32:Int).toNat 64)=4294967296 by decide,IntKind.wrap_u64]
theorem k9V{x:Int}(h0:0<=x)(h1:x<18446744073709551616):(BitVec.ofInt 64 x).toNat=x.toNat:=by
 rw[BitVec.toNat_ofInt];show (x%18446744073709551616).toNat=_;rw[Int.emod_eq_of_lt h0 h1]
theorem kPI{x:Int}(h0:0<=x)(h1:x<18446744073709551616):k05 .and .u64 x 4294967295=x%4294967296:=by
 show IntKind.u64.wrap ((BitVec.ofInt 64 x &&& BitVec.ofInt 64 4294967295).toNat:Int)=_;rw[BitVec.toNat_and,k9V h0 h1,k9V (by decide) (by decide)];have:x.toNat &&& (4294967295:Int).toNat=x.toNat%4294967296:=Nat.and_two_pow_sub_one_eq_mod x.toNat 32;rw[this,IntKind.wrap_u64];omega
theorem q1Q{q i:Nat}{y:Int}(hy0:0<=y)(hy:y<2 ^ i)(hb:(2:Int) ^ i*q+y<18446744073709551616):k05 .or .u64 (2 ^ i*q) y=2 ^ i*q+y:=by
 have hp:(2:Int) ^ i*q=((2 ^ i*q:Nat):Int):=by push_cast;rfl
 have h0:(0:Int)<=2 ^ i*q:=by rw[hp];exact Int.natCast_nonneg _
 obtain⟨n,rfl⟩:=Int.eq_ofNat_of_zero_le hy0
 have hn:n<2 ^ i:=by
  have:(n:Int)<((2 ^ i:Nat):Int):=(by push_cast;exact hy);exact Int.ofNat_lt.1 this
 show IntKind.u64.wrap ((BitVec.ofInt 64 (2 ^ i*q) ||| BitVec.ofInt 64 n).toNat:Int)=_;rw[BitVec.toNat_or,k9V h0 (by omega),k9V hy0 (by omega),hp]
 have:(((2 ^ i*q:Nat):Int)).toNat ||| ((n:Nat):Int).toNat=2 ^ i*q+n:=by
  rw[Int.toNat_natCast,Int.toNat_natCast];exact(Nat.two_pow_add_eq_or_of_lt hn q).symm
 rw[this,IntKind.wrap_u64];have e:((2 ^ i*q+n:Nat):Int)=((2 ^ i*q:Nat):Int)+n:=by push_cast;rfl
 rw[e,<- hp];omega
theorem kMM{a1 a0 b1 b0:Int}:(a1*4294967296+a0)*(b1*4294967296+b0)=a1*b1*18446744073709551616+(a1*b0+a0*b1)*4294967296+a0*b0:=by
 rw[Int.add_mul,Int.mul_add,Int.mul_add,Int.add_mul,show a1*4294967296*(b1*4294967296)=a1*b1*18446744073709551616 by rw[Int.mul_assoc,Int.mul_left_comm 4294967296,<- Int.mul_assoc,<- Int.mul_assoc,Int.mul_assoc];rfl,show a1*4294967296*b0=a1*b0*4294967296 by rw[Int.mul_assoc,Int.mul_comm 4294967296,<- Int.mul_assoc],<- Int.mul_assoc a0];omega
theorem k8A{x y:Int}(h0:0<=x)(h1:x<4294967296)(k0:0<=y)(k1:y<4294967296):0<=x*y/\x*y<=4294967295*4294967295:=
 ⟨Int.mul_nonneg h0 k0,Int.mul_le_mul (by omega) (by omega) k0 (by decide)⟩
theorem kX2{a b h l:Int}(ha0:0<=a)(ha1:a<18446744073709551616)(hb0:0<=b)(hb1:b<18446744073709551616)(hh:a*b/18446744073709551616=h)(hl:a*b%18446744073709551616=l):k02 Tryz.prog 217 [.int .u64 a,.int .u64 b] (· = .agg [.int .u64 h,.int .u64 l]):=by
 (refine k02.ofY Tryz.func217 (by kernel_rfl) (by kernel_rfl) λw hw R hR=>?_);(obtain⟨zA,zG,yT,zD,zF,zW,yR,zN,zQ,zP,yC,zZ,zV,zT,zK,zM,zO,yE,zS,yF⟩:=w);(have zC:zA=k05:=congrArg k01.bin hw);(have zB:zG=k04:=congrArg k01.cmp hw);(have yM:yT=k08:=congrArg k01.un hw);(have zH:zD=λk n=>k.wrap n:=congrArg k01.conv hw);(have zI:zF=λb=> !b:=congrArg k01.not hw);(have yK:zW=λa b=>a == b:=congrArg k01.beq hw);(have yU:yR=k0M:=congrArg k01.mm hw);(have zX:zN=k03:=congrArg k01.scmp hw);(have yB:zQ=λx y=>x++y:=congrArg k01.sadd hw);(have yA:zP=λs=>(s.size:Int):=congrArg k01.slen hw);(have yQ:yC=std.sat:=congrArg k01.sat hw);(have yP:zZ=λa b os=>(k0O a b os).getD false:=congrArg k01.eqs hw);(have zE:zV=λes=>(es.length:Int):=congrArg k01.len hw);(have yO:zT=λes=>es.length:=congrArg k01.nlen hw);(have zR:zK=(λn:Nat=>(n:Int)):=congrArg k01.ofNat hw);(have yD:zM=λes b=>es.take b.toNat:=congrArg k01.take hw);(have yI:zO=λes a=>es.drop a.toNat:=congrArg k01.drop hw);(have yW:yE=λa b=>a++b:=congrArg k01.app hw);(have yN:zS=λn z=>List.replicate n.toNat z:=congrArg k01.zero hw);(have yX:yF=λn=>n.toNat:=congrArg k01.nat hw);(conv=>arg 2;cbv);(generalize hP:Tryz.prog=P);cbv;repeat (refine Nn.mk (by decide) ?_;try cbv)
 refine⟨_,Vw.same rfl,hR _ ?_⟩;obtain⟨a1,ea1⟩:∃x,a/4294967296=x:=⟨_,rfl⟩;obtain⟨a0,ea0⟩:∃x,a%4294967296=x:=⟨_,rfl⟩;obtain⟨b1,eb1⟩:∃x,b/4294967296=x:=⟨_,rfl⟩;obtain⟨b0,eb0⟩:∃x,b%4294967296=x:=⟨_,rfl⟩
 have eab:a*b=a1*b1*18446744073709551616+(a1*b0+a0*b1)*4294967296+a0*b0:=by
  rw[<- kMM];congr 1<;>omega
 obtain⟨p0,p1⟩:=k8A (x:=a0) (y:=b0) (by omega) (by omega) (by omega) (by omega);obtain⟨q0,q1⟩:=k8A (x:=a1) (y:=b0) (by omega) (by omega) (by omega) (by omega);obtain⟨r0,r1⟩:=k8A (x:=a0) (y:=b1) (by omega) (by omega) (by omega) (by omega);obtain⟨s0,s1⟩:=k8A (x:=a1) (y:=b1) (by omega) (by omega) (by omega) (by omega);show AV.agg _=AV.agg _;simp only[zC,q1O,kPI ha0 ha1,kPI hb0 hb1,ea1,ea0,eb1,eb0];rw[kPH p0 (by omega),kPH q0 (by omega),kPH r0 (by omega),kPH s0 (by omega)];generalize a0*b0=p at *;generalize a1*b0=q at *;generalize a0*b1=r at *;generalize a1*b1=s at *;rw[kPJ (x:=q) (y:=p/4294967296) (by omega) (by omega)];rw[kPI (x:=q+p/4294967296) (by omega) (by omega),kPI (x:=p) (by omega) (by omega)];rw[kPJ (x:=r) (y:=(q+p/4294967296)%4294967296) (by omega) (by omega)];rw[q1P];obtain⟨m,em⟩:∃x,q+p/4294967296=x:=⟨_,rfl⟩;rw[em];obtain⟨n,en⟩:∃x,r+m%4294967296=x:=⟨_,rfl⟩;rw[en];rw[kPJ (x:=s) (y:=m/4294967296) (by omega) (by omega)];rw[kPJ (x:=s+m/4294967296) (y:=n/4294967296) (by omega) (by omega)];have e1:n*4294967296%18446744073709551616=2 ^ 32*((n%4294967296).toNat:Int):=by omega
 rw[e1,q1Q (by omega) (by omega) (by omega)];have hA:s+m/4294967296+n/4294967296=h:=by omega
 have hB:2 ^ 32*((n%4294967296).toNat:Int)+p%4294967296=l:=by omega
 rw[hA,hB]
theorem kSH{xh xl yh yl c:Int}(h1:0<=xl)(h2:xl<18446744073709551616)(h3:0<=yl)(h4:yl<18446744073709551616)(hc:(xh*18446744073709551616+xl<yh*18446744073709551616+yl/\c = -1)\/(xh*18446744073709551616+xl=yh*18446744073709551616+yl/\c=0)\/(yh*18446744073709551616+yl<xh*18446744073709551616+xl/\c=1)):k02 Tryz.prog 233 [.agg [.int .u64 xh,.int .u64 xl],.agg [.int .u64 yh,.int .u64 yl]] (· = .int .i64 c):=by
 (refine k02.ofY Tryz.func233 (by kernel_rfl) (by kernel_rfl) λw hw R hR=>?_);(obtain⟨zA,zG,yT,zD,zF,zW,yR,zN,zQ,zP,yC,zZ,zV,zT,zK,zM,zO,yE,zS,yF⟩:=w);(have zC:zA=k05:=congrArg k01.bin hw);(have zB:zG=k04:=congrArg k01.cmp hw);(have yM:yT=k08:=congrArg k01.un hw);(have zH:zD=λk n=>k.wrap n:=congrArg k01.conv hw);(have zI:zF=λb=> !b:=congrArg k01.not hw);(have yK:zW=λa b=>a == b:=congrArg k01.beq hw);(have yU:yR=k0M:=congrArg k01.mm hw);(have zX:zN=k03:=congrArg k01.scmp hw);(have yB:zQ=λx y=>x++y:=congrArg k01.sadd hw);(have yA:zP=λs=>(s.size:Int):=congrArg k01.slen hw);(have yQ:yC=std.sat:=congrArg k01.sat hw);(have yP:zZ=λa b os=>(k0O a b os).getD false:=congrArg k01.eqs hw);(have zE:zV=λes=>(es.length:Int):=congrArg k01.len hw);(have yO:zT=λes=>es.length:=congrArg k01.nlen hw);(have zR:zK=(λn:Nat=>(n:Int)):=congrArg k01.ofNat hw);(have yD:zM=λes b=>es.take b.toNat:=congrArg k01.take hw);(have yI:zO=λes a=>es.drop a.toNat:=congrArg k01.drop hw);(have yW:yE=λa b=>a++b:=congrArg k01.app hw);(have yN:zS=λn z=>List.replicate n.toNat z:=congrArg k01.zero hw);(have yX:yF=λn=>n.toNat:=congrArg k01.nat hw);(conv=>arg 2;cbv);(generalize hP:Tryz.prog=P);cbv;repeat' (split<;>rename_i h<;>(try (simp only[zC,zB,yM,zH,zI,yK,yU,zX,yB,yA,yQ,yP,zR,k05,k04,k08,k03,k0M,Bool.not_eq_true',Bool.not_eq_false',decide_eq_true_eq,decide_eq_false_iff_not,Int.not_lt,Int.not_le,if_true,if_false,Bool.false_eq_true,beq_iff_eq,bne_iff_ne,ne_eq,Bool.not_eq_eq_eq_not,Bool.not_true,Bool.not_false,beq_eq_false_iff_ne,bne_eq_false_iff_eq,Int.ofNat_eq_natCast,Bool.not_not,not_true_eq_false,not_false_eq_true,reduceCtorEq] at h))<;>(try cbv))
 all_goals
  refine⟨_,Vw.same rfl,hR _ (congrArg (AV.int .i64) ?_)⟩;simp[k0O,eqA] at *;omega
theorem kM0{r s X:Int}(hr0:0<=r)(hr:r*r<=X)(hr2:X<(r+1)*(r+1))(hs0:0<=s)(hs:s*s<=X)(hs2:X<(s+1)*(s+1)):s=r:=by
 have a:¬r+1<=s:=λh=>by
  have:(r+1)*(r+1)<=s*s:=Int.mul_le_mul h h (by omega) (by omega);omega
 have b:¬s+1<=r:=λh=>by
  have:(s+1)*(s+1)<=r*r:=Int.mul_le_mul h h (by omega) (by omega);omega
 omega
theorem kQI{k:Nat}(h:k<=63):(2:Int) ^ k<=9223372036854775808:=by
 have:(2:Nat) ^ k<=2 ^ 63:=Nat.pow_le_pow_right (by decide) h;have e:((2 ^ k:Nat):Int)<=((2 ^ 63:Nat):Int):=Int.ofNat_le.2 this;simpa using e
theorem q1R{i:Int}(h0:0<=i)(h1:i<=63):k05 .shl .u64 1 (IntKind.u64.wrap i)=2 ^ i.toNat:=by
 have e:IntKind.u64.wrap i=i:=by rw[IntKind.wrap_u64];omega
 rw[e];show IntKind.u64.wrap (1*2 ^ (min i.toNat 64))=_;rw[show min i.toNat 64=i.toNat by omega,Int.one_mul,IntKind.wrap_u64];have:=kQI (k:=i.toNat) (by omega);have:(0:Int)<2 ^ i.toNat:=Int.pow_pos (by decide);omega
structure Rt where
 i:Int
 r:Int
def kOY(X i r:Int):Prop:= -1<=i/\i<=63/\0<=r/\(∃q:Nat,r=2 ^ (i+1).toNat*q)/\r*r<=X/\X<(r+2 ^ (i+1).toNat)*(r+2 ^ (i+1).toNat)/\r+2 ^ (i+1).toNat<=18446744073709551616
theorem kOY.start{X:Int}(h0:0<=X)(h1:X<340282366920938463463374607431768211456):kOY X 63 0:=by
 refine⟨by decide,by decide,by decide,⟨0,by simp⟩,by simpa using h0,?_,by decide⟩;show X<(0+2 ^ 64)*(0+2 ^ 64);omega
theorem kOY.next{X i r:Int}(h:kOY X i r)(hi:0<=i):∃n,k05 .or .u64 r (k05 .shl .u64 1 (IntKind.u64.wrap i))=n/\0<=n/\n<18446744073709551616/\(n*n<=X->kOY X (i-1) n)/\(X<n*n->kOY X (i-1) r):=by
 obtain⟨h1,h2,h3,⟨q,hq⟩,h4,h5,h6⟩:=h;rw[q1R hi h2];have ek:(i+1).toNat=i.toNat+1:=by omega
 rw[ek] at hq h5 h6;have ew:(2:Int) ^ (i.toNat+1)=2*2 ^ i.toNat:=by rw[Int.pow_succ,Int.mul_comm]
 have hw0:(0:Int)<2 ^ i.toNat:=Int.pow_pos (by decide);refine⟨r+2 ^ i.toNat,?_,by omega,by omega,λh=>⟨by omega,by omega,by omega,?_,h,?_,?_⟩,λh=>⟨by omega,by omega,h3,?_,h4,?_,?_⟩⟩
 ·rw[hq]
  exact q1Q (by omega) (by omega) (by rw[<- hq];omega)
 ·refine⟨2*q+1,?_⟩
  rw[show (i-1+1).toNat=i.toNat by omega,hq,ew]
  push_cast
  rw[Int.mul_add,Int.mul_one,Int.mul_comm 2,Int.mul_assoc]
 ·rw[show (i-1+1).toNat=i.toNat by omega]
  rw[show r+2 ^ i.toNat+2 ^ i.toNat=r+2 ^ (i.toNat+1) by omega];exact h5
 ·rw[show (i-1+1).toNat=i.toNat by omega]
  omega
 ·refine⟨2*q,?_⟩
  rw[show (i-1+1).toNat=i.toNat by omega,hq,ew]
  push_cast
  rw[Int.mul_comm 2,Int.mul_assoc]
 ·rw[show (i-1+1).toNat=i.toNat by omega]
  exact h
 ·rw[show (i-1+1).toNat=i.toNat by omega]
  omega
theorem kOY.fin{X i r:Int}(h:kOY X i r)(hi:i<0):0<=r/\r*r<=X/\X<(r+1)*(r+1):=by
 obtain⟨h1,h2,h3,_,h4,h5,h6⟩:=h;have:(i+1).toNat=0:=by omega
 rw[this] at h5;exact⟨h3,h4,by simpa using h5⟩
theorem q0K(xh xl r:Int)(h1:0<=xl)(h2:xl<18446744073709551616)(h3:0<=xh)(h4:xh<18446744073709551616)(hr0:0<=r)(hr:r*r<=xh*18446744073709551616+xl)(hr2:xh*18446744073709551616+xl<(r+1)*(r+1)):k02 Tryz.prog 218 [.agg [.int .u64 xh,.int .u64 xl]] (· = .int .u64 r):=by
 (refine k02.ofY Tryz.func218 (by kernel_rfl) (by kernel_rfl) λw hw R hR=>?_);(obtain⟨zA,zG,yT,zD,zF,zW,yR,zN,zQ,zP,yC,zZ,zV,zT,zK,zM,zO,yE,zS,yF⟩:=w);(have zC:zA=k05:=congrArg k01.bin hw);(have zB:zG=k04:=congrArg k01.cmp hw);(have yM:yT=k08:=congrArg k01.un hw);(have zH:zD=λk n=>k.wrap n:=congrArg k01.conv hw);(have zI:zF=λb=> !b:=congrArg k01.not hw);(have yK:zW=λa b=>a == b:=congrArg k01.beq hw);(have yU:yR=k0M:=congrArg k01.mm hw);(have zX:zN=k03:=congrArg k01.scmp hw);(have yB:zQ=λx y=>x++y:=congrArg k01.sadd hw);(have yA:zP=λs=>(s.size:Int):=congrArg k01.slen hw);(have yQ:yC=std.sat:=congrArg k01.sat hw);(have yP:zZ=λa b os=>(k0O a b os).getD false:=congrArg k01.eqs hw);(have zE:zV=λes=>(es.length:Int):=congrArg k01.len hw);(have yO:zT=λes=>es.length:=congrArg k01.nlen hw);(have zR:zK=(λn:Nat=>(n:Int)):=congrArg k01.ofNat hw);(have yD:zM=λes b=>es.take b.toNat:=congrArg k01.take hw);(have yI:zO=λes a=>es.drop a.toNat:=congrArg k01.drop hw);(have yW:yE=λa b=>a++b:=congrArg k01.app hw);(have yN:zS=λn z=>List.replicate n.toNat z:=congrArg k01.zero hw);(have yX:yF=λn=>n.toNat:=congrArg k01.nat hw);(conv=>arg 2;cbv);(generalize hP:Tryz.prog=P);cbv;obtain⟨X,eX⟩:∃x,xh*18446744073709551616+xl=x:=⟨_,rfl⟩;rw[eX] at hr hr2
 refine k1Q.data hw (S:=Rt) (λs=>fr 23 [(1,.ref 0 2 0 0),(3,.int .u64 s.r),(4,.int .i64 s.i)]) (λs=>[.live 2 [[.int .u64 xh,.int .u64 xl]]])
  (λs=>kOY X s.i s.r) (λs=>(s.i+1).toNat) ⟨63,0⟩ (by(refine Wk.eqs ?_;cbv;(repeat' (first|exact trivial|rfl|assumption|apply And.intro|(simp only[zC,zB,yM,zH,zI,yK,yU,zX,yB,yA,yQ,yP,zR,k05,k04,k08,k03,k0M,Bool.not_eq_true',Bool.not_eq_false',decide_eq_true_eq,decide_eq_false_iff_not,Int.not_lt,Int.not_le,if_true,if_false,Bool.false_eq_true,beq_iff_eq,bne_iff_ne,ne_eq,Bool.not_eq_eq_eq_not,Bool.not_true,Bool.not_false,beq_eq_false_iff_ne,bne_eq_false_iff_eq,Int.ofNat_eq_natCast,Bool.not_not,not_true_eq_false,not_false_eq_true,reduceCtorEq];first|done|assumption)|exact kBG.same (by assumption) (by first|assumption|rfl)|(refine kBG.one ?_;cbv))))) (kOY.start (by omega) (by omega)) ?_
 rintro⟨i,s⟩ zJ Q' hN hE hR'
 have zJ:kOY X i s:=zJ;cbv;(split<;>rename_i hc<;>(try (simp only[zC,zB,yM,zH,zI,yK,yU,zX,yB,yA,yQ,yP,zR,k05,k04,k08,k03,k0M,Bool.not_eq_true',Bool.not_eq_false',decide_eq_true_eq,decide_eq_false_iff_not,Int.not_lt,Int.not_le,if_true,if_false,Bool.false_eq_true,beq_iff_eq,bne_iff_ne,ne_eq,Bool.not_eq_eq_eq_not,Bool.not_true,Bool.not_false,beq_eq_false_iff_ne,bne_eq_false_iff_eq,Int.ofNat_eq_natCast,Bool.not_not,not_true_eq_false,not_false_eq_true,reduceCtorEq] at hc))<;>(try cbv))
 ·obtain⟨n,en,hn0,hn1,hy,hno⟩:=zJ.next hc
  have yZ:i<=63:=zJ.2.1;obtain⟨i',ei'⟩:∃x,i-1=x:=⟨_,rfl⟩;rw[ei'] at hy hno;have hT:(i'+1).toNat<(i+1).toNat:=(by omega);have ei:zA .sub .i64 i 1=i':=by rw[zC];show IntKind.i64.wrap (i-1)=_;rw[IntKind.wrap_i64];omega
  have enn:zA .or .u64 s (zA .shl .u64 1 (zD .u64 i))=n:=(by rw[zC,zH];exact en);refine Nn.mk (by rw[zH];show 0<=IntKind.u64.wrap i;rw[IntKind.wrap_u64];omega) ?_;simp only[enn];obtain⟨mh,emh⟩:∃x,n*n/18446744073709551616=x:=⟨_,rfl⟩;obtain⟨ml,eml⟩:∃x,n*n%18446744073709551616=x:=⟨_,rfl⟩;refine k1R.stepE (by rw[<- hP];exact kX2 hn0 hn1 hn0 hn1 emh eml) rfl ?_;cbv
  obtain⟨c,ec⟩:∃c:Int,(mh*18446744073709551616+ml<xh*18446744073709551616+xl/\c = -1)\/(mh*18446744073709551616+ml=xh*18446744073709551616+xl/\c=0)\/(xh*18446744073709551616+xl<mh*18446744073709551616+ml/\c=1):=by
   rcases Int.lt_trichotomy (mh*18446744073709551616+ml) (xh*18446744073709551616+xl) with h|h|h
   ·exact⟨_,.inl ⟨h,rfl⟩⟩
   ·exact⟨_,.inr (.inl ⟨h,rfl⟩)⟩
   ·exact⟨_,.inr (.inr ⟨h,rfl⟩)⟩
  have esq:n*n=mh*18446744073709551616+ml:=(by omega);refine k1R.stepE (by rw[<- hP];exact kSH (by omega) (by omega) h1 h2 ec) rfl ?_;cbv;(split<;>rename_i h<;>(try (simp only[zC,zB,yM,zH,zI,yK,yU,zX,yB,yA,yQ,yP,zR,k05,k04,k08,k03,k0M,Bool.not_eq_true',Bool.not_eq_false',decide_eq_true_eq,decide_eq_false_iff_not,Int.not_lt,Int.not_le,if_true,if_false,Bool.false_eq_true,beq_iff_eq,bne_iff_ne,ne_eq,Bool.not_eq_eq_eq_not,Bool.not_true,Bool.not_false,beq_eq_false_iff_ne,bne_eq_false_iff_eq,Int.ofNat_eq_natCast,Bool.not_not,not_true_eq_false,not_false_eq_true,reduceCtorEq] at h))<;>(try cbv))
  ·have hy:=hy (by omega)
   cbv;(refine hN ⟨i',n⟩ _ _ ?hx ?hi ?ht;(case hx=>(refine Wk.eqs ?_;cbv;(repeat' (first|exact trivial|rfl|assumption|apply And.intro|(simp only[zC,zB,yM,zH,zI,yK,yU,zX,yB,yA,yQ,yP,zR,k05,k04,k08,k03,k0M,Bool.not_eq_true',Bool.not_eq_false',decide_eq_true_eq,decide_eq_false_iff_not,Int.not_lt,Int.not_le,if_true,if_false,Bool.false_eq_true,beq_iff_eq,bne_iff_ne,ne_eq,Bool.not_eq_eq_eq_not,Bool.not_true,Bool.not_false,beq_eq_false_iff_ne,bne_eq_false_iff_eq,Int.ofNat_eq_natCast,Bool.not_not,not_true_eq_false,not_false_eq_true,reduceCtorEq];first|done|assumption)|exact kBG.same (by assumption) (by first|assumption|rfl)|(refine kBG.one ?_;cbv)))));(case hi=>exact hy);(case ht=>exact hT))
  ·have hno:=hno (by omega)
   (refine hN ⟨i',s⟩ _ _ ?hx ?hi ?ht;(case hx=>(refine Wk.eqs ?_;cbv;(repeat' (first|exact trivial|rfl|assumption|apply And.intro|(simp only[zC,zB,yM,zH,zI,yK,yU,zX,yB,yA,yQ,yP,zR,k05,k04,k08,k03,k0M,Bool.not_eq_true',Bool.not_eq_false',decide_eq_true_eq,decide_eq_false_iff_not,Int.not_lt,Int.not_le,if_true,if_false,Bool.false_eq_true,beq_iff_eq,bne_iff_ne,ne_eq,Bool.not_eq_eq_eq_not,Bool.not_true,Bool.not_false,beq_eq_false_iff_ne,bne_eq_false_iff_eq,Int.ofNat_eq_natCast,Bool.not_not,not_true_eq_false,not_false_eq_true,reduceCtorEq];first|done|assumption)|exact kBG.same (by assumption) (by first|assumption|rfl)|(refine kBG.one ?_;cbv)))));(case hi=>exact hno);(case ht=>exact hT))
 ·refine hE _ _ _ ?_
  cbv;obtain⟨k1,k2,k3⟩:=zJ.fin hc;refine⟨_,Vw.same rfl,hR _ (congrArg (AV.int .u64) (kM0 hr0 hr hr2 k1 k2 k3))⟩
end Go.Proofs.YtlchlddijclhjaaGreat
namespace Go.Eng
open Go
mutual
def AV.flat:AV->Bool
 | .agg cs=>kF7 cs
 | .tuple cs=>kF7 cs
 | .list _ _=>false
 | .sl _ _ _ _=>false
 | .ref _ _ _ _=>false
 | .mapr _=>false
 | .cref _=>false
 | .func _ f c=>kF7 f && kF7 c
 | .iface _ v=>v.flat
 | _=>true
def kF7:List AV->Bool
 | []=>true
 | c::cs=>c.flat && kF7 cs
end
theorem k6K:∀ {cs:List AV} {i:Nat} {x:AV},kF7 cs=true->cs[i]?=some x->x.flat=true
 | [],i,x,_,h=>by simp at h
 | c::cs,0,x,hb,h=>by
   simp only[List.getElem?_cons_zero,Option.some.injEq] at h;subst h;simp only[kF7,Bool.and_eq_true] at hb;exact hb.1
 | c::cs,i+1,x,hb,h=>by
   simp only[kF7,Bool.and_eq_true] at hb;exact k6K hb.2 (by simpa using h)
theorem VR.reflat{C D:Cfg}{x:AV}{v:Value}(h:VR C x v):x.flat=true->VR D x v:=by
 induction h with
 | any v=>exact λ_=>.any v
 | bool b=>exact λ_=>.bool b
 | int k n=>exact λ_=>.int k n
 | str s=>exact λ_=>.str s
 | nilp=>exact λ_=>.nilp
 | nils=>exact λ_=>.nils
 | emp a=>exact λ_=>.emp a
 | nilFunc=>exact λ_=>.nilFunc
 | nilIface=>exact λ_=>.nilIface
 | agg cs vs hl h ih=>exact λhb=>.agg cs vs hl λi x hi=>ih i x hi (k6K hb hi)
 | tuple cs vs hl h ih=>exact λhb=>.tuple cs vs hl λi x hi=>ih i x hi (k6K hb hi)
 | list z es a m cap f hn hc ha hz hcell hown hv ih=>intro hb;cases hb
 | listNil z a cap=>intro hb;cases hb
 | sl s z i m cap hs hc hsz=>intro hb;cases hb
 | ref s z i o hs=>intro hb;cases hb
 | mapr s hs=>intro hb;cases hb
 | cref cs a f ha hcell hown hv ih=>intro hb;cases hb
 | func fn first caps vf vc hf hc h1 h2 ih1 ih2 =>
   intro hb;simp only[AV.flat,Bool.and_eq_true] at hb;exact .func fn first caps vf vc hf hc (λi x hi=>ih1 i x hi (k6K hb.1 hi)) λi x hi=>ih2 i x hi (k6K hb.2 hi)
 | iface t x v h ih=>exact λhb=>.iface t x v (ih hb)
theorem Rel.bare{C:Cfg}(R:Rel C):Rel { C with h:=[] } :=
 ⟨λs z es h=>by simp at h,λs t ⟨z,es,h⟩=>by simp at h,λb hb=>R.olt b hb,λp hp=>(R.glo p hp).recfg (C:=C) (D:={ C with h:=[] }) rfl (λb hb=>hb.elim .inl λ⟨s,⟨z,es,h⟩,_⟩=>by simp at h) (k49 hp 0),R.gsz⟩
theorem Rel.back0{C D:Cfg}(R:Rel C)(E:Ext 0 { C with h:=[] } D):Rel { C with w:=D.w }/\Ext C.h.length C { C with w:=D.w }:=by
 have hno:∀b,¬Cfg.lown { C with h:=[] } b:=by
  rintro b ⟨s,⟨z,es,hs⟩,_⟩;simp at hs
 have he:∀n,Ext n C { C with w:=D.w }:=λn=>⟨rfl,E.os,E.tape,E.output,E.size,λs _ h=>⟨h,rfl⟩,λb hb hl=>⟨(E.keep b hb (hno b)).1,hl⟩,E.shape⟩;exact⟨R.of_ext (he _) (λs z es hl=>.inl ⟨hl,rfl,(E.keep _ (R.lown_lt ⟨s,⟨z,es,hl⟩,rfl⟩) (hno _)).1⟩) R.inj,he _⟩
theorem VwL.vrs{C:Cfg}{vs rs:List AV}(H:VwL C.h vs rs)(RC:Rel C){us:Array Value}(hv:VRs C vs us):VRs { C with h:=[] } rs us:=by
 obtain⟨h1,h2⟩:=H.get;refine⟨hv.1.trans h1,λi r hr=>?_⟩;obtain⟨v,e,hvw⟩:=h2 i r hr;exact hvw C rfl RC _ (hv.2 i v e)
theorem k06.view{P:Program}{g:FuncId}{args args':List AV}{R:AV->Prop}{h:k00}{K:AV->k00->Prop}(H:k02 P g args' R)(ha:VwL h args args')(hK:∀r,R r->r.flat=true/\K r h):k06 P g args h K:=by
 refine⟨H.1,λC vs hC RC hv=>?_⟩;subst hC;refine(H.2 { C with h:=[] } vs rfl RC.bare (ha.vrs RC hv)).mono λe w' ⟨v,r,D,h1,h2,h3,h4,h5,h6,h7⟩=>?_;obtain⟨R1,E1⟩:=RC.back0 h7;subst h4;obtain⟨hf,hk⟩:=hK r h2;exact⟨v,r,{ C with w:=D.w },h1,hk,rfl,R1,h6.reflat hf,E1,Nat.le_refl _⟩
section
variable {P:Program}
theorem Call.view{g:FuncId}{args args':List AV}{R:AV->Prop}{h:k00}{K:k09->k00->Prop}{a:k09}{dst:Option Nat}(H:k02 P g args' R)(ha:VwL h args args')(hK:∀r,R r->r.flat=true/\K (k1V a dst r) h):Call P g args h (k4T K a dst):=
 ⟨k06.view H ha hK⟩
end
theorem Vw.ref{h:k00}{s z i o:Nat}{es:List (List AV)}{row:List AV}(hs:h[s]?=some (.live z es))(he:es[i]?=some row)(hu:k0Q 0 row=true)(ho:o<=row.length)(hz0:0<z:=by decide):Vw h (.ref s z i o) (.cref (row.drop o)):=by
 intro C hC R u hv;subst hC;obtain⟨hus,rfl⟩:=hv.ref';obtain⟨hz,hO,zU,vs,ty,fz,hh,hfz,hsz,hvr⟩:=R.live s z es hs hz0;have hil:i<es.length:=(List.getElem?_eq_some_iff.1 he).1;have hrl:row.length=z:=zU row (List.mem_of_getElem? he);refine .cref _ _ (λj=>vs.getD (i*z+(o+j)) undef) rfl (λj hj=>?_) (λ_ hown=>?_) λj x hx=>?_
 ·have hj2:o+j<z:=by simp only[List.length_drop] at hj;omega
  have hlt:=k53 (i:=i) (n:=es.length) (z:=z) hil hj2;have:i*z+o+j=i*z+(o+j):=(by omega);show C.w.cell? _=_;unfold World.cell?;simp only[hh,this];have h2:i*z+(o+j)<vs.size:=(by omega);simp[h2,Array.getD_eq_getD_getElem?]
 ·rcases hown with hb|⟨s,⟨z,es,hs⟩,_⟩
  ·exact hO hb
  ·simp at hs
 ·rw[List.getElem?_drop] at hx
  exact Vw.same (h:=C.h) (k0G hu hx) C rfl R _ (hvr i row he (o+j) x hx)
theorem Vw.func{h:k00}{fn:Fn}{a b a' b':List AV}(H:VwL h a a')(K:VwL h b b'):Vw h (.func fn a b) (.func fn a' b'):=by
 intro C hC R u hu;obtain⟨vf,vc,rfl,hF,hK⟩:=hu.func';obtain⟨h1,h2⟩:=H.get;obtain⟨k1,k2⟩:=K.get;refine .func _ _ _ _ _ (by rw[hF.1,h1]) (by rw[hK.1,k1]) (λi x hx=>?_) λi x hx=>?_
 ·obtain⟨v,hv,hw⟩:=h2 i x hx
  exact hw C hC R _ (hF.2 i v hv)
 ·obtain⟨v,hv,hw⟩:=k2 i x hx
  exact hw C hC R _ (hK.2 i v hv)
end Go.Eng
namespace Go.Proofs.YtlchlddijclhjaaGreat
open Go Go.RowKit Go.Eng
theorem q16{a b:Int}(h1: -9223372036854775808<=a+b)(h2:a+b<9223372036854775808):std.1 .add .i64 a b=a+b:=by
 show IntKind.i64.wrap (a+b)=_;rw[IntKind.wrap_i64];omega
theorem k0S{a b:Int}(h1: -9223372036854775808<=a+b)(h2:a+b<9223372036854775808):k05 .add .i64 a b=a+b:=q16 h1 h2
theorem k3I{a b:Int}(h1: -9223372036854775808<=a-b)(h2:a-b<9223372036854775808):k05 .sub .i64 a b=a-b:=by
 show IntKind.i64.wrap (a-b)=_;rw[IntKind.wrap_i64];omega
theorem kN5{a b:Int}(h1: -9223372036854775808<=a*b)(h2:a*b<9223372036854775808):k05 .mul .i64 a b=a*b:=by
 show IntKind.i64.wrap (a*b)=_;rw[IntKind.wrap_i64];omega
theorem kF3{a:Int}(h1: -9223372036854775808<a)(h2:a<9223372036854775808):k08 .neg .i64 a = -a:=by
 show IntKind.i64.wrap (0-a)=_;rw[IntKind.wrap_i64];omega
theorem kK1{a b:Int}(h0:0<=a)(h1:0<b)(h2:a<9223372036854775808):k05 .quo .i64 a b=a/b:=by
 show IntKind.i64.wrap (a.tdiv b)=_;rw[Int.tdiv_eq_ediv_of_nonneg h0];have h3:a/b<=a:=Int.ediv_le_self _ h0;have h4:0<=a/b:=Int.ediv_nonneg h0 (by omega);rw[IntKind.wrap_i64];omega
end Go.Proofs.YtlchlddijclhjaaGreat
namespace Go.Eng
open Go Go.RowKit
inductive FzL(f:Nat->Nat)(h:k00)(m:Nat)(z:Nat)(es:List (List AV))(s z' i n:Nat):Prop where
 | mk (hz:z'=z) (hi:i=0) (hs:h[s]?=some (.live z es)) (hu:Up0 es) (hn:n=es.length) (hf:∀j,j<m->f j≠s)
mutual
def eqZ(f:Nat->Nat)(h:k00)(m:Nat):AV->AV->Prop
 | .any,y=>True
 | .int k a,y=>(match y with | .int k' b=>(match kC7 k k' with|true=>b=a|false=>False)|_=>False)
 | .bool a,y=>(match y with | .bool b=>b=a|_=>False)
 | .str a,y=>(match y with | .str b=>b=a|_=>False)
 | .nilp,y=>(match y with | .nilp=>True|_=>False)
 | .nils,y=>(match y with | .nils=>True|_=>False)
 | .emp,y=>(match y with | .emp=>True|_=>False)
 | .nilFunc,y=>(match y with | .nilFunc=>True|_=>False)
 | .nilIface,y=>(match y with | .nilIface=>True|_=>False)
 | .agg cs,y=>(match y with | .agg ds=>kKN f h m cs ds|_=>False)
 | .tuple cs,y=>(match y with | .tuple ds=>kKN f h m cs ds|_=>False)
 | .cref cs,y=>(match y with | .cref ds=>kKN f h m cs ds|_=>False)
 | .list z es,y=>(match y with
   | .list z' fs=>(match Nat.beq z z' with|true=>Up0 es/\fs=es|false=>False)
   | .sl s z' i n=>FzL f h m z es s z' i n
   | .nils=>es=[]
   | .emp=>es=[]
   | _=>False)
 | .sl s z i n,y=>(match y with | .sl s' z' i' n'=>(match Nat.beq (f s) s',Nat.blt s m,Nat.beq z z',Nat.beq i i' with|true,true,true,true=>n'=n|_,_,_,_=>False)|_=>False)
 | .ref s z i o,y=>(match y with | .ref s' z' i' o'=>(match Nat.beq (f s) s',Nat.blt s m,Nat.beq z z',Nat.beq i i',Nat.beq o o' with|true,true,true,true,true=>True|_,_,_,_,_=>False)|_=>False)
 | .mapr s,y=>(match y with | .mapr s'=>(match Nat.beq (f s) s',Nat.blt s m with|true,true=>True|_,_=>False)|_=>False)
 | .func g a b,y=>(match y with | .func g' a' b'=>g'=g/\kKN f h m a a'/\kKN f h m b b'|_=>False)
 | .iface t v,y=>(match y with | .iface t' v'=>t'=t/\eqZ f h m v v'|_=>False)
def kKN(f:Nat->Nat)(h:k00)(m:Nat):List AV->List AV->Prop
 | [],y=>(match y with|[]=>True|_=>False)
 | c::cs,y=>(match y with|d::ds=>eqZ f h m c d/\kKN f h m cs ds|_=>False)
end
def OkZ(C D:Cfg)(x y:AV):Prop:=∀v,VR C y v->VR D x v
structure Fzg(f:Nat->Nat)(h:k00)(m:Nat)(C D:Cfg):Prop where
 hw:D.w=C.w
 ho:∀b,D.own b->C.own b
 hs:∀s,s<D.h.length->C.used (f s)->D.used s/\D.r s=C.r (f s)
 hD:D.h.length=m
 hC:C.h=h
 R:Rel C
 hfr:∀s z es,h[s]?=some (.live z es)->(∀j,j<m->f j≠s)->¬D.own (C.r s)
section
variable {f:Nat->Nat} {h:k00} {m:Nat} {C D:Cfg}
theorem Fzg.ren(G:Fzg f h m C D){x y:AV}(h1:x.upto m=true)(h2:x.ren f=y):OkZ C D x y:=λv hv=>VR.unren G.hw G.ho G.hs hv x (by rw[G.hD];exact h1) h2
theorem Fzg.same(G:Fzg f h m C D){x:AV}(h1:x.upto 0=true):OkZ C D x x:=G.ren (k76 m x h1) (k2J f x h1)
theorem Fzg.freeze(G:Fzg f h m C D){z:Nat}{es:List (List AV)}{s z' i n:Nat}(H:FzL f h m z es s z' i n):OkZ C D (.list z es) (.sl s z' i n):=by
 obtain⟨rfl,rfl,hs,hu,rfl,hf⟩:=H;intro v hv;obtain⟨cap,rfl,hus,hnc,_,_,hshp,_⟩:=hv.sls;have hs':C.h[s]?=some (.live z' es):=by rw[G.hC];exact hs
 obtain⟨hz,hO,zU,vs,ty,fz,hh,hfz,hsz,hvr⟩:=G.R.live s z' es hs' (G.R.pos hs' hshp);refine .list z' _ _ es.length cap (λq j=>vs.getD (q*z'+j) undef) rfl hnc rfl zU (λq j hq hj=>?_) (λ_ _=>G.hfr s z' es hs hf) λq e he j x hx=>?_
 ·have hlt:=k53 (i:=q) (n:=es.length) (z:=z') hq hj
  have:0*z'+(q*z'+j)=q*z'+j:=(by omega);rw[G.hw];show C.w.cell? _=_;unfold World.cell?;simp only[hh,this];have h2:q*z'+j<vs.size:=(by omega);simp[h2,Array.getD_eq_getD_getElem?]
 ·have hup:=k0G (k1C hu.get he) hx
  exact G.same hup _ (hvr q e he j x hx)
mutual
theorem kNH(G:Fzg f h m C D):∀(x y:AV),eqZ f h m x y->OkZ C D x y
 | .any,y,_=>λv _=>.any v
 | .int k a,y,H=>by
   unfold eqZ at H;split at H
   ·split at H
    ·rename_i hk;rw[k47 hk,H];exact G.same rfl
    ·exact H.elim
   ·exact H.elim
 | .bool a,y,H=>by unfold eqZ at H;split at H;rw[H];exact G.same rfl;exact H.elim
 | .str a,y,H=>by unfold eqZ at H;split at H;rw[H];exact G.same rfl;exact H.elim
 | .nilp,y,H=>by unfold eqZ at H;split at H;exact G.same rfl;exact H.elim
 | .nils,y,H=>by unfold eqZ at H;split at H;exact G.same rfl;exact H.elim
 | .emp,y,H=>by unfold eqZ at H;split at H;exact G.same rfl;exact H.elim
 | .nilFunc,y,H=>by unfold eqZ at H;split at H;exact G.same rfl;exact H.elim
 | .nilIface,y,H=>by unfold eqZ at H;split at H;exact G.same rfl;exact H.elim
 | .agg cs,y,H=>by
   unfold eqZ at H;split at H
   ·rename_i ds
    obtain⟨h1,h2⟩:=k5O G cs ds H;intro v hv
    cases hv with
    | agg _ vs hl hx =>
      refine .agg cs vs (by rw[hl,h1]) λi x hi=>?_;obtain⟨y,hy,hok⟩:=h2 i x hi;exact hok _ (hx i y hy)
   ·exact H.elim
 | .tuple cs,y,H=>by
   unfold eqZ at H;split at H
   ·rename_i ds
    obtain⟨h1,h2⟩:=k5O G cs ds H;intro v hv
    cases hv with
    | tuple _ vs hl hx =>
      refine .tuple cs vs (by rw[hl,h1]) λi x hi=>?_;obtain⟨y,hy,hok⟩:=h2 i x hi;exact hok _ (hx i y hy)
   ·exact H.elim
 | .cref cs,y,H=>by
   unfold eqZ at H;split at H
   ·rename_i ds
    obtain⟨h1,h2⟩:=k5O G cs ds H;intro v hv
    cases hv with
    | cref _ a g ha hcell hown hx =>
      refine .cref cs a g ha (λj hj=>by rw[G.hw];exact hcell j (by omega)) (λhp ho=>hown (by omega) (G.ho _ ho)) λj x hj=>?_;obtain⟨y,hy,hok⟩:=h2 j x hj;exact hok _ (hx j y hy)
   ·exact H.elim
 | .list z es,y,H=>by
   unfold eqZ at H;split at H
   ·split at H
    ·rename_i hz
     have:=Nat.eq_of_beq_eq_true hz;subst this;obtain⟨h1,rfl⟩:=H;exact G.same h1.list
    ·exact H.elim
   ·exact G.freeze H
   ·subst H
    intro v hv;rw[hv.nils'];exact .listNil z _ _
   ·subst H
    intro v hv;cases hv
    exact .listNil z _ _
   ·exact H.elim
 | .sl s z i n,y,H=>by
   unfold eqZ at H;split at H
   ·split at H
    ·rename_i h1 h2 h3 h4
     have:=Nat.eq_of_beq_eq_true h1;have:=Nat.eq_of_beq_eq_true h3;have:=Nat.eq_of_beq_eq_true h4
     subst_vars
     exact G.ren (by simpa[AV.upto] using h2) rfl
    ·exact H.elim
   ·exact H.elim
 | .ref s z i o,y,H=>by
   unfold eqZ at H;split at H
   ·split at H
    ·rename_i h1 h2 h3 h4 h5
     have:=Nat.eq_of_beq_eq_true h1;have:=Nat.eq_of_beq_eq_true h3;have:=Nat.eq_of_beq_eq_true h4;have:=Nat.eq_of_beq_eq_true h5
     subst_vars
     exact G.ren (by simpa[AV.upto] using h2) rfl
    ·exact H.elim
   ·exact H.elim
 | .mapr s,y,H=>by
   unfold eqZ at H;split at H
   ·split at H
    ·rename_i h1 h2
     have:=Nat.eq_of_beq_eq_true h1
     subst_vars
     exact G.ren (by simpa[AV.upto] using h2) rfl
    ·exact H.elim
   ·exact H.elim
 | .func g a b,y,H=>by
   unfold eqZ at H;split at H
   ·rename_i g' a' b'
    obtain⟨rfl,ha,hb⟩:=H;obtain⟨h1,h2⟩:=k5O G a a' ha;obtain⟨h3,h4⟩:=k5O G b b' hb;intro v hv
    cases hv with
    | func _ _ _ vf vc hf hc hx1 hx2 =>
      refine .func _ _ _ vf vc (by rw[hf,h1]) (by rw[hc,h3]) (λi x hi=>?_) λi x hi=>?_
      ·obtain⟨y,hy,hok⟩:=h2 i x hi
       exact hok _ (hx1 i y hy)
      ·obtain⟨y,hy,hok⟩:=h4 i x hi
       exact hok _ (hx2 i y hy)
   ·exact H.elim
 | .iface t v,y,H=>by
   unfold eqZ at H;split at H
   ·rename_i t' v'
    obtain⟨rfl,H⟩:=H;intro u hu
    cases hu with
    | iface _ _ w hx=>exact .iface _ _ _ (kNH G v v' H _ hx)
   ·exact H.elim
theorem k5O(G:Fzg f h m C D):∀(xs ys:List AV),kKN f h m xs ys->xs.length=ys.length/\∀(i:Nat) (x:AV),xs[i]?=some x->∃y,ys[i]?=some y/\OkZ C D x y
 | [],y,H=>by unfold kKN at H;split at H;exact⟨rfl,λi x hx=>by simp at hx⟩;exact H.elim
 | c::cs,y,H=>by
   unfold kKN at H;split at H
   ·rename_i d ds
    obtain⟨h1,h2⟩:=k5O G cs ds H.2;refine⟨by simp[h1],λi x hx=>?_⟩
    cases i with
    | zero =>
      simp only[List.getElem?_cons_zero,Option.some.injEq] at hx;subst hx;exact⟨d,rfl,kNH G c d H.1⟩
    | succ i=>simpa using h2 i x (by simpa using hx)
   ·exact H.elim
end
end
inductive k26(f:Nat->Nat)(h:k00)(m:Nat):List (List AV)->List (List AV)->Prop where
 | one {r s:List AV} (H:kKN f h m r s):k26 f h m [r] [s]
 | same {es fs:List (List AV)} (h1:Up0 es) (h2:fs=es):k26 f h m es fs
 | app {es es0 fs:List (List AV)} {r s:List AV} (h1:Up0 es0) (h2:fs=es0++[s]) (h3:es=es0++[r]) (H:kKN f h m r s):k26 f h m es fs
 | hd {es es0 fs:List (List AV)} {r s:List AV} (h1:Up0 es0) (h2:fs=s::es0) (h3:es=r::es0) (H:kKN f h m r s):k26 f h m es fs
def OkRs(C D:Cfg)(es fs:List (List AV)):Prop:=es.length=fs.length/\∀(i:Nat) (e:List AV),es[i]?=some e->∃g,fs[i]?=some g/\e.length=g.length/\∀(j:Nat) (x:AV),e[j]?=some x->∃y,g[j]?=some y/\OkZ C D x y
theorem k26.ok{f:Nat->Nat}{h:k00}{m:Nat}{C D:Cfg}(G:Fzg f h m C D){es fs:List (List AV)}(H:k26 f h m es fs):OkRs C D es fs:=by
 have keep:∀(es:List (List AV)),Up0 es->∀(i:Nat) (e:List AV),es[i]?=some e->∀(j:Nat) (x:AV),e[j]?=some x->OkZ C D x x:=λes hu i e he j x hx=>G.same (k0G (k1C hu.get he) hx)
 cases H with
 | one H =>
   obtain⟨h1,h2⟩:=k5O G _ _ H;refine⟨rfl,λi e he=>?_⟩
   cases i with
   | zero =>
     simp only[List.getElem?_cons_zero,Option.some.injEq] at he;subst he;exact⟨_,rfl,h1,h2⟩
   | succ i=>simp at he
 | same h1 h2 =>
   subst h2;exact⟨rfl,λi e he=>⟨e,he,rfl,λj x hx=>⟨x,hx,keep _ h1 i e he j x hx⟩⟩⟩
 | hd h1 h2 h3 H =>
   rename_i es0 r s;subst h2 h3;obtain⟨k1,k2⟩:=k5O G _ _ H;refine⟨by simp,λi e he=>?_⟩
   cases i with
   | zero =>
     simp only[List.getElem?_cons_zero,Option.some.injEq] at he;subst he;exact⟨s,rfl,k1,k2⟩
   | succ i =>
     simp only[List.getElem?_cons_succ] at he ⊢;exact⟨e,he,rfl,λj x hx=>⟨x,hx,keep _ h1 i e he j x hx⟩⟩
 | app h1 h2 h3 H =>
   rename_i es0 r s;subst h2 h3;obtain⟨k1,k2⟩:=k5O G _ _ H;refine⟨by simp,λi e he=>?_⟩;by_cases hi:i<es0.length
   ·rw[List.getElem?_append_left hi] at he
    exact⟨e,by rw[List.getElem?_append_left hi];exact he,rfl,λj x hx=>⟨x,hx,keep _ h1 i e he j x hx⟩⟩
   ·rw[List.getElem?_append_right (by omega)] at he
    have h0:i-es0.length=0:=by
     have:=(List.getElem?_eq_some_iff.1 he).1;simp at this;omega
    rw[h0] at he;simp only[List.getElem?_cons_zero,Option.some.injEq] at he;subst he;refine⟨s,by rw[List.getElem?_append_right (by omega),h0];rfl,k1,k2⟩
def hpZ(f:Nat->Nat)(m:Nat)(h:k00):Nat->k00->Prop
 | _,[]=>True
 | j,s::r=>(match s with
   | .live z es=>(match h[f j]? with
     | some (.live z' fs)=>(match Nat.beq z z' with|true=>k26 f h m es fs/\hpZ f m h (j+1) r|false=>False)
     | _=>False)
   | _=>False)
theorem kN6{f:Nat->Nat}{m:Nat}{h:k00}:∀ {r:k00} {j:Nat},hpZ f m h j r->∀(i:Nat) (x:k27),r[i]?=some x->∃z es fs,x = .live z es/\h[f (j+i)]?=some (.live z fs)/\k26 f h m es fs
 | [],j,H,i,x,hx=>by simp at hx
 | s::r,j,H,i,x,hx=>by
   unfold hpZ at H;split at H
   ·split at H
    ·rename_i h1
     split at H
     ·rename_i hz
      have:=Nat.eq_of_beq_eq_true hz;subst this
      cases i with
      | zero =>
        simp only[List.getElem?_cons_zero,Option.some.injEq] at hx;subst hx;exact⟨_,_,_,rfl,h1,H.1⟩
      | succ i =>
        obtain⟨z,es,fs,e1,e2,e3⟩:=kN6 H.2 i x (by simpa using hx);exact⟨z,es,fs,e1,by rw[show j+(i+1)=j+1+i by omega];exact e2,e3⟩
     ·exact H.elim
    ·exact H.elim
   ·exact H.elim
def wkZ(f:Nat->Nat)(h:k00)(m:Nat):List AV->List AV->Prop
 | [],ys=>(match ys with|[]=>True|_=>False)
 | x::xs,ys=>(match ys with
   | y::ys=>(match x with | .any=>wkZ f h m xs ys|x=>eqZ f h m x y/\wkZ f h m xs ys)
   | []=>False)
theorem kG0{f:Nat->Nat}{h:k00}{m:Nat}{C D:Cfg}(G:Fzg f h m C D):∀ {xs ys:List AV},wkZ f h m xs ys->ys.length=xs.length/\∀(i:Nat) (x:AV),xs[i]?=some x->x = .any\/∃y,ys[i]?=some y/\OkZ C D x y
 | [],ys,H=>by unfold wkZ at H;split at H;exact⟨rfl,λi x hx=>by simp at hx⟩;exact H.elim
 | x::xs,ys,H=>by
   unfold wkZ at H;split at H
   ·rename_i y ys
    have rest:wkZ f h m xs ys->(x = .any\/OkZ C D x y)->(y::ys).length=(x::xs).length/\∀(i:Nat) (u:AV),(x::xs)[i]?=some u->u = .any\/∃y',(y::ys)[i]?=some y'/\OkZ C D u y':=by
     intro H hxy;obtain⟨h1,h2⟩:=kG0 G H;refine⟨by simp[h1],λi u hu=>?_⟩
     cases i with
     | zero =>
       simp only[List.getElem?_cons_zero,Option.some.injEq] at hu;subst hu;rcases hxy with e|e
       ·exact .inl e
       ·exact .inr ⟨y,rfl,e⟩
     | succ i=>simpa using h2 i u (by simpa using hu)
    split at H
    ·exact rest H (.inl rfl)
    ·exact rest H.2 (.inr (kNH G _ _ H.1))
   ·exact H.elim
theorem Wk.eqz{a a':k09}{h h':k00}(f:Nat->Nat)(hinj:∀i,i<h'.length->∀j,j<h'.length->f i=f j->i=j)(H:wkZ f h h'.length a' a/\hpZ f h'.length h 0 h'):Wk 0 a h a' h':=by
 intro C act hC S hn;subst hC;obtain⟨ha,hh⟩:=H
 have hlive:∀s,s<h'.length->∃z es fs,h'[s]?=some (.live z es)/\C.h[f s]?=some (.live z fs)/\k26 f C.h h'.length es fs:=by
  intro s hs;obtain⟨z,es,fs,e1,e2,e3⟩:=kN6 hh s h'[s] (by simp[hs]);exact⟨z,es,fs,by rw[<- e1];simp[hs],by simpa using e2,e3⟩
 have hDlive:∀s,Cfg.live { C with h:=h',r:=λs=>C.r (f s) } s->s<h'.length/\C.live (f s):=by
  rintro s ⟨z,es,hx⟩;have hs:=(List.getElem?_eq_some_iff.1 hx).1;obtain⟨z',es',fs,_,e2,_⟩:=hlive s hs;exact⟨hs,z',_,e2⟩
 have hown:∀b,Cfg.own { C with h:=h',r:=λs=>C.r (f s) } b->C.own b:=by
  rintro b (hb|⟨s,hs,hr⟩)
  ·exact .inl hb
  ·exact .inr ⟨f s,(hDlive s hs).2,hr⟩
 have hused:∀s,s<h'.length->Cfg.used { C with h:=h',r:=λs=>C.r (f s) } s:=λs hs=>by
  obtain⟨z,es,fs,e1,_,_⟩:=hlive s hs;exact⟨_,e1,by simp⟩
 have G:Fzg f C.h h'.length C { C with h:=h',r:=λs=>C.r (f s) }:={
  hw:=rfl,ho:=hown,hs:=λs hs _=>⟨hused s hs,rfl⟩,hD:=rfl,hC:=rfl,R:=S.rel,
  hfr:=λs z es hs hf=>by
   rintro(hb|⟨t,ht,hr⟩)
   ·exact(S.rel.livx s z es hs).1 hb
   ·obtain⟨h1,h2⟩:=hDlive t ht
    exact hf t h1 (S.rel.inj _ _ h2 ⟨z,es,hs⟩ hr) }
 obtain⟨h1,h2⟩:=kG0 G ha;refine⟨{ C with h:=h',r:=λs=>C.r (f s) },rfl,rfl,⟨?_,?_,S.nodef⟩,?_,Nat.zero_le _⟩
 ·refine⟨λs z es hl=>?_,λs t hs ht hr=>?_,S.rel.olt,λp hp=>(S.rel.glo p hp).recfg (C:=C) (D:={ C with h:=h',r:=λs=>C.r (f s) }) rfl hown (k49 hp 0),S.rel.gsz⟩
  ·have hs:=(List.getElem?_eq_some_iff.1 hl).1
   obtain⟨z',es',fs,e1,e2,e3⟩:=hlive s hs
   have:k27.live z es=k27.live z' es':=by
    have:some (k27.live z es)=some (k27.live z' es'):=hl.symm.trans e1;simpa using this
   cases this
   obtain⟨k1,k2⟩:=e3.ok G;obtain⟨g2,o,gg,g4,g5,g6⟩:=S.rel.livx (f s) z _ e2;refine⟨g2,o,gg,g4,g5.congr k1 λi e he=>?_,λi e he j x hx=>?_⟩
   ·obtain⟨g,hg,hl,_⟩:=k2 i e he
    exact⟨g,hg,hl⟩
   ·obtain⟨g,hg,hl,hc⟩:=k2 i e he
    obtain⟨y,hy,hok⟩:=hc j x hx;exact hok _ (g6 i g hg j y hy)
  ·obtain⟨k1,k2⟩:=hDlive s hs
   obtain⟨k3,k4⟩:=hDlive t ht;exact hinj s k1 t k3 (S.rel.inj _ _ k2 k4 hr)
 ·refine⟨by rw[S.vrs.1,h1],λi x hx=>?_⟩
  rcases h2 i x hx with rfl|⟨y,h3,h4⟩
  ·exact .any _
  ·exact h4 _ (S.vrs.2 i _ h3)
 ·exact⟨rfl,rfl,rfl,rfl,Nat.le_refl _,λs hs=>absurd hs (Nat.not_lt_zero _),λb hb hno=>⟨rfl,λ⟨s,hs,hr⟩=>hno ⟨f s,(hDlive s hs).2,hr⟩⟩,λb x hx=>hx⟩
end Go.Eng
set_option maxRecDepth 100000
namespace Go.Proofs.YtlchlddijclhjaaGreat
open Go Go.RowKit Go.Eng
def I64(a:Int):Prop:= -9223372036854775808<=a/\a<=9223372036854775807
theorem kYB(x y:Nat):2*(x &&& y)+(x ^^^ y)=x+y:=by
 induction x using Nat.strongRecOn generalizing y with
 | ind x ih =>
   by_cases hx:x=0
   ·subst hx;simp
   ·have h:=ih (x/2) (by omega) (y/2)
    have h1:(x &&& y)/2=x/2 &&& y/2:=Nat.and_div_two;have h2:(x ^^^ y)/2=x/2 ^^^ y/2:=Nat.xor_div_two;have h3:=Nat.and_mod_two_eq_one (a:=x) (b:=y);have h4:=Nat.xor_mod_two_eq_one (a:=x) (b:=y);omega
theorem kKE(x:Nat)(hx:x<18446744073709551616):(x<9223372036854775808/\x/2 ^ 63=0)\/(9223372036854775808<=x/\x/2 ^ 63=1):=by
 have e:(2:Nat) ^ 63=9223372036854775808:=by decide
 rw[e];omega
theorem kYC(x y:Nat)(hx:x<18446744073709551616)(hy:y<18446744073709551616)(hu:x &&& y<18446744073709551616) :
 (9223372036854775808<=x &&& y↔9223372036854775808<=x/\9223372036854775808<=y):=by
 have h:(x &&& y)/2 ^ 63=x/2 ^ 63 &&& y/2 ^ 63:=Nat.and_div_two_pow;rcases kKE x hx with ⟨l1,a1⟩|⟨l1,a1⟩<;>rcases kKE y hy with ⟨l2,a2⟩|⟨l2,a2⟩<;>rcases kKE _ hu with ⟨l3,a3⟩|⟨l3,a3⟩<;>rw[a1,a2,a3] at h<;>first|(exfalso;revert h;decide)|omega
theorem kUC(x y:Nat)(hx:x<18446744073709551616)(hy:y<18446744073709551616)(hu:x ^^^ y<18446744073709551616) :
 (9223372036854775808<=x ^^^ y↔¬(9223372036854775808<=x↔9223372036854775808<=y)):=by
 have h:(x ^^^ y)/2 ^ 63=x/2 ^ 63 ^^^ y/2 ^ 63:=Nat.xor_div_two_pow;rcases kKE x hx with ⟨l1,a1⟩|⟨l1,a1⟩<;>rcases kKE y hy with ⟨l2,a2⟩|⟨l2,a2⟩<;>rcases kKE _ hu with ⟨l3,a3⟩|⟨l3,a3⟩<;>rw[a1,a2,a3] at h<;>first|(exfalso;revert h;decide)|omega
theorem kFS(a b:Int):bits .and .i64 a b=wrap64 (((a%18446744073709551616).toNat &&& (b%18446744073709551616).toNat:Nat):Int):=by
 show IntKind.i64.wrap ((BitVec.ofInt 64 a &&& BitVec.ofInt 64 b).toNat:Int)=_;rw[BitVec.toNat_and,BitVec.toNat_ofInt,BitVec.toNat_ofInt,IntWalk.i64_left];rfl
theorem kFR(a b:Int):bits .xor .i64 a b=wrap64 (((a%18446744073709551616).toNat ^^^ (b%18446744073709551616).toNat:Nat):Int):=by
 show IntKind.i64.wrap ((BitVec.ofInt 64 a ^^^ BitVec.ofInt 64 b).toNat:Int)=_;rw[BitVec.toNat_xor,BitVec.toNat_ofInt,BitVec.toNat_ofInt,IntWalk.i64_left];rfl
theorem kPD(x y:Nat)(hx:x<18446744073709551616)(hy:y<18446744073709551616):x ^^^ y<18446744073709551616:=by
 have e:(2:Nat) ^ 64=18446744073709551616:=by decide
 rw[<- e] at hx hy ⊢;exact Nat.xor_lt_two_pow hx hy
theorem kHG(u:Nat)(h:u<18446744073709551616):wrap64 (u:Int)=if 9223372036854775808<=u then (u:Int)-18446744073709551616 else u:=by
 unfold wrap64;split<;>omega
theorem kQX(a b:Int)(x y u v:Nat)(ha:I64 a)(hb:I64 b)(ex:(x:Int)=a\/(x:Int)=a+18446744073709551616)(ey:(y:Int)=b\/(y:Int)=b+18446744073709551616)
 (hx:x<18446744073709551616) (hy:y<18446744073709551616) (hu:u<18446744073709551616) (hv:v<18446744073709551616) (h1:2*u+v=x+y)
 (h2:9223372036854775808<=u↔9223372036854775808<=x/\9223372036854775808<=y) (h3:9223372036854775808<=v↔¬(9223372036854775808<=x↔9223372036854775808<=y)) :
 wrap64 (wrap64 (u:Int)+wrap64 (v:Int)/2)=(a+b)/2:=by
 unfold I64 at ha hb;rw[kHG u hu,kHG v hv]
 have key:2*(if 9223372036854775808<=u then (u:Int)-18446744073709551616 else u)+(if 9223372036854775808<=v then (v:Int)-18446744073709551616 else v)=a+b:=by
  split<;>split<;>omega
 generalize (if 9223372036854775808<=u then (u:Int)-18446744073709551616 else u)=p at *;generalize (if 9223372036854775808<=v then (v:Int)-18446744073709551616 else v)=q at *;have e:p+q/2=(a+b)/2:=by omega
 rw[e,IntWalk.wrap64_in _ (by omega)]
theorem kZT(a b:Int)(ha:I64 a)(hb:I64 b):wrap64 (bits .and .i64 a b+bits .xor .i64 a b/2)=(a+b)/2:=by
 rw[kFS,kFR];have hx:(a%18446744073709551616).toNat<18446744073709551616:=by omega
 have hy:(b%18446744073709551616).toNat<18446744073709551616:=by omega
 have hu:=Nat.lt_of_le_of_lt (Nat.and_le_left (n:=(a%18446744073709551616).toNat) (m:=(b%18446744073709551616).toNat)) hx;have hv:=kPD _ _ hx hy;exact kQX a b _ _ _ _ ha hb (by unfold I64 at ha;omega) (by unfold I64 at hb;omega) hx hy hu hv (kYB _ _) (kYC _ _ hx hy hu) (kUC _ _ hx hy hv)
theorem kTS(a b:Int)(ha:I64 a)(hb:I64 b):k02 Tryz.prog 124 [.int .i64 a,.int .i64 b] (· = .int .i64 ((a+b)/2)):=by
 (refine k02.ofY Tryz.func124 (by kernel_rfl) (by kernel_rfl) λw hw R hR=>?_);(obtain⟨zA,zG,yT,zD,zF,zW,yR,zN,zQ,zP,yC,zZ,zV,zT,zK,zM,zO,yE,zS,yF⟩:=w);(have zC:zA=k05:=congrArg k01.bin hw);(have zB:zG=k04:=congrArg k01.cmp hw);(have yM:yT=k08:=congrArg k01.un hw);(have zH:zD=λk n=>k.wrap n:=congrArg k01.conv hw);(have zI:zF=λb=> !b:=congrArg k01.not hw);(have yK:zW=λa b=>a == b:=congrArg k01.beq hw);(have yU:yR=k0M:=congrArg k01.mm hw);(have zX:zN=k03:=congrArg k01.scmp hw);(have yB:zQ=λx y=>x++y:=congrArg k01.sadd hw);(have yA:zP=λs=>(s.size:Int):=congrArg k01.slen hw);(have yQ:yC=std.sat:=congrArg k01.sat hw);(have yP:zZ=λa b os=>(k0O a b os).getD false:=congrArg k01.eqs hw);(have zE:zV=λes=>(es.length:Int):=congrArg k01.len hw);(have yO:zT=λes=>es.length:=congrArg k01.nlen hw);(have zR:zK=(λn:Nat=>(n:Int)):=congrArg k01.ofNat hw);(have yD:zM=λes b=>es.take b.toNat:=congrArg k01.take hw);(have yI:zO=λes a=>es.drop a.toNat:=congrArg k01.drop hw);(have yW:yE=λa b=>a++b:=congrArg k01.app hw);(have yN:zS=λn z=>List.replicate n.toNat z:=congrArg k01.zero hw);(have yX:yF=λn=>n.toNat:=congrArg k01.nat hw);(conv=>arg 2;cbv);(generalize hP:Tryz.prog=P);cbv;refine Nn.mk (by decide) ?_;refine⟨_,Vw.same rfl,hR _ (congrArg (AV.int .i64) ?_)⟩;rw[zC]
 have e1:k05 .shr .i64 (k05 .xor .i64 a b) 1=bits .xor .i64 a b/2:=by
  show (bits .xor .i64 a b).fdiv (2 ^ (min (1:Int).toNat 64))=_;rw[show (2:Int) ^ (min (1:Int).toNat 64)=2 by decide,Int.fdiv_eq_ediv_of_nonneg _ (by decide)]
 rw[e1];show IntKind.i64.wrap (bits .and .i64 a b+bits .xor .i64 a b/2)=_;rw[IntWalk.i64_left];exact kZT a b ha hb
end Go.Proofs.YtlchlddijclhjaaGreat
