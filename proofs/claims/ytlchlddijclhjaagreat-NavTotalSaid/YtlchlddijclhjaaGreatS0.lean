/- Parts of the proofs. -/
import Derived.Test.YtlchlddijclhjaaGreatRows
import Derived.WalkKit
import Derived.WalkSpells
import Derived.WalkLawsBesides
import Derived.Handy
import Derived.Deep.QuietTactic
import Derived.BigQuiet
import Derived.Deep.RegionHeld3
import Derived.Laws.Tables
import Derived.Great.BuildSlice
set_option linter.unusedVariables false
set_option linter.unusedSimpArgs false
namespace Go.Proofs.YtlchlddijclhjaaGreat
open Go.RowKit
theorem kEI{P:Program}{c:Code}{Q:Exit->Act->World->Prop}{n:Nat}{a:Act}{w:World}(h:c.wp P (Exit.then (Code.rounds P c Q n) Q) a w):Code.rounds P c Q (n+1) a w:=h
theorem hid{p:Prop}(h:p):Hid p:=h
end Go.Proofs.YtlchlddijclhjaaGreat
namespace Go.Eng
open Go Go.RowKit
inductive AV where
 | any
 | bool (b:Bool)
 | int (k:IntKind) (n:Int)
 | str (s:ByteArray)
 | nilp
 | nils
 | emp
 | nilFunc
 | nilIface
 | agg (cs:List AV)
 | tuple (vs:List AV)
 | list (z:Nat) (es:List (List AV))
 | sl (s z i n:Nat)
 | ref (s z i o:Nat)
 | cref (cs:List AV)
 | mapr (s:Nat)
 | func (fn:Fn) (first caps:List AV)
 | iface (t:TypeId) (v:AV)
instance :Inhabited AV:=⟨.any⟩
abbrev AV.undef:AV:=.tuple []
inductive k27 where
 | free
 | dead
 | live (z:Nat) (es:List (List AV))
abbrev k00:=List k27
def gs:List (Nat×List AV):=[]
structure Cfg where
 O:Nat->Prop
 r:Nat->Nat
 h:k00
 w:World
def Cfg.live(c:Cfg)(s:Nat):Prop:=∃z es,c.h[s]?=some (.live z es)
def Cfg.lown(c:Cfg)(b:Nat):Prop:=∃s,c.live s/\c.r s=b
def Cfg.own(c:Cfg)(b:Nat):Prop:=c.O b\/c.lown b
def Cfg.used(c:Cfg)(s:Nat):Prop:=∃x,c.h[s]?=some x/\x ≠ .free
inductive VR(c:Cfg):AV->Value->Prop where
 | any (v:Value):VR c .any v
 | bool (b:Bool):VR c (.bool b) (.bool b)
 | int (k:IntKind) (n:Int):VR c (.int k n) (.int k n)
 | str (s:ByteArray):VR c (.str s) (.string s)
 | nilp:VR c .nilp (.pointer none)
 | nils:VR c .nils (.slice none 0 0)
 | emp (a:Addr):VR c .emp (.slice (some a) 0 0)
 | nilFunc:VR c .nilFunc .nilFunc
 | nilIface:VR c .nilIface .nilIface
 | agg (cs:List AV) (vs:Array Value) (hl:vs.size=cs.length) (h:∀(i:Nat) (x:AV),cs[i]?=some x->VR c x (vs.getD i undef)):VR c (.agg cs) (.agg vs)
 | tuple (cs:List AV) (vs:Array Value) (hl:vs.size=cs.length) (h:∀(i:Nat) (x:AV),cs[i]?=some x->VR c x (vs.getD i undef)):VR c (.tuple cs) (.tuple vs)
 | list (z:Nat) (es:List (List AV)) (a:Addr) (n cap:Nat) (f:Nat->Nat->Value) (hn:es.length=n) (hc:n<=cap) (ha:a.spot=none) (hz:∀e,e∈es->e.length=z)
    (hcell:∀i j,i<n->j<z->c.w.cell? ⟨a.block,a.off+(i*z+j),none⟩=some (f i j)) (hown:0<n->0<z->¬c.own a.block)
    (hv:∀(i:Nat) (e:List AV),es[i]?=some e->∀(j:Nat) (x:AV),e[j]?=some x->VR c x (f i j)):VR c (.list z es) (.slice (some a) n cap)
 | listNil (z:Nat) (a:Option Addr) (cap:Nat):VR c (.list z []) (.slice a 0 cap)
 | sl (s z i n cap:Nat) (hs:c.used s) (hc:n<=cap) (hsz:∃e m,c.w.shape? (c.r s)=some (e,m)/\(i+cap)*z<=m):VR c (.sl s z i n) (.slice (some ⟨c.r s,i*z,none⟩) n cap)
 | ref (s z i o:Nat) (hs:c.used s):VR c (.ref s z i o) (.pointer (some ⟨c.r s,i*z+o,none⟩))
 | cref (cs:List AV) (a:Addr) (f:Nat->Value) (ha:a.spot=none) (hcell:∀j,j<cs.length->c.w.cell? ⟨a.block,a.off+j,none⟩=some (f j)) (hown:0<cs.length->¬c.own a.block)
    (hv:∀(j:Nat) (x:AV),cs[j]?=some x->VR c x (f j)):VR c (.cref cs) (.pointer (some a))
 | mapr (s:Nat) (hs:c.used s):VR c (.mapr s) (.map (some (c.r s)))
 | func (fn:Fn) (first caps:List AV) (vf vc:Array Value) (hf:vf.size=first.length) (hc:vc.size=caps.length) (h1:∀(i:Nat) (x:AV),first[i]?=some x->VR c x (vf.getD i undef))
    (h2:∀(i:Nat) (x:AV),caps[i]?=some x->VR c x (vc.getD i undef)):VR c (.func fn first caps) (.func fn vf vc)
 | iface (t:TypeId) (x:AV) (v:Value) (h:VR c x v):VR c (.iface t x) (.iface t v)
def VRs(c:Cfg)(l:List AV)(vs:Array Value):Prop:=vs.size=l.length/\∀(i:Nat) (x:AV),l[i]?=some x->VR c x (vs.getD i undef)
def k2X:Obj->Option (List (List Value))
 | .map ents clock=>if clock=ents.size/\∀i:Fin ents.size,(ents[i]).born=i then some (ents.toList.map λe=>[e.key,e.val]) else none
 | .mapIter (some b) since seen last=>some ([.map (some b),.int .i64 since,.int .i64 last]::seen.toList.map λn=>[.int .i64 (n:Nat)])
 | _=>none
def kFW(vs:Array Value)(fz:Nat×Nat):Prop:=fz.1=fz.2\/vs.size<=fz.1
def Holds(z:Nat)(o:Obj)(es:List (List AV))(g:Nat->Nat->Value):Prop:=
 (0<z/\(∀e,e∈es->e.length=z)/\∃vs ty fz,o = .cells vs ty fz/\kFW vs fz/\es.length*z<=vs.size/\g=λi j=>vs.getD (i*z+j) undef) \/
 (z=0/\∃vss,k2X o=some vss/\vss.length=es.length/\(∀(i:Nat) (e:List AV),es[i]?=some e->e.length=(vss.getD i []).length)/\g=λi j=>(vss.getD i []).getD j undef)
theorem Holds.congr{z:Nat}{o:Obj}{es fs:List (List AV)}{g:Nat->Nat->Value}(h:Holds z o fs g)(hl:es.length=fs.length)(hr:∀(i:Nat) (e:List AV),es[i]?=some e->∃f,fs[i]?=some f/\e.length=f.length):Holds z o es g:=by
 rcases h with ⟨h0,h1,h2⟩|⟨h0,vss,h1,h2,h3,h4⟩
 ·refine .inl ⟨h0,λe he=>?_,by rw[hl];exact h2⟩
  obtain⟨i,hi⟩:=List.mem_iff_getElem?.1 he;obtain⟨f,hf,zE⟩:=hr i e hi;rw[zE];exact h1 f (List.mem_of_getElem? hf)
 ·refine .inr ⟨h0,vss,h1,by rw[hl];exact h2,λi e hi=>?_,h4⟩
  obtain⟨f,hf,zE⟩:=hr i e hi;rw[zE];exact h3 i f hf
structure Rel(c:Cfg):Prop where
 livx:∀s z es,c.h[s]?=some (.live z es)->¬c.O (c.r s)/\∃o g,c.w.heap[c.r s]?=some o/\Holds z o es g/\∀(i:Nat) (e:List AV),es[i]?=some e->∀(j:Nat) (x:AV),e[j]?=some x->VR c x (g i j)
 inj:∀s t,c.live s->c.live t->c.r s=c.r t->s=t
 olt:∀b,c.O b->b<c.w.heap.size
 glo:∀p,p∈gs->VR c (.cref p.2) (.pointer (some ⟨p.1,0,none⟩))
 gsz:∀p,p∈gs->∃ty,c.w.shape? p.1=some (ty,p.2.length)
theorem Rel.live{c:Cfg}(R:Rel c)(s z:Nat)(es:List (List AV))(h:c.h[s]?=some (.live z es))(hz:0<z):0<z/\¬c.O (c.r s)/\(∀e,e∈es->e.length=z)/\∃vs ty fz,c.w.heap[c.r s]?=some (.cells vs ty fz)/\kFW vs fz/\es.length*z<=vs.size /\
 ∀(i:Nat) (e:List AV),es[i]?=some e->∀(j:Nat) (x:AV),e[j]?=some x->VR c x (vs.getD (i*z+j) undef):=by
 obtain⟨h1,o,g,h2,h3,h4⟩:=R.livx s z es h;rcases h3 with ⟨_,k1,vs,ty,fz,rfl,kf,k2,rfl⟩|⟨k0,_⟩
 ·exact⟨hz,h1,k1,vs,ty,fz,h2,kf,k2,h4⟩
 ·omega
theorem Rel.pos{c:Cfg}(R:Rel c){s z:Nat}{es:List (List AV)}(h:c.h[s]?=some (.live z es)){x:TypeId×Nat}(hs:c.w.shape? (c.r s)=some x):0<z:=by
 obtain⟨h1,o,g,h2,h3,h4⟩:=R.livx s z es h;rcases h3 with ⟨k0,_⟩|⟨k0,vss,k1,_⟩
 ·exact k0
 ·exfalso
  unfold World.shape? at hs;rw[h2] at hs
  cases o<;>simp at hs<;>simp[k2X] at k1
structure Ext(n:Nat)(c d:Cfg):Prop where
 O:d.O=c.O
 os:d.w.os=c.w.os
 tape:d.w.tape=c.w.tape
 output:d.w.output=c.w.output
 size:c.w.heap.size<=d.w.heap.size
 used:∀s,s<n->c.used s->d.used s/\d.r s=c.r s
 keep:∀b,b<c.w.heap.size->¬c.lown b->d.w.heap[b]?=c.w.heap[b]?/\¬d.lown b
 shape:∀b x,c.w.shape? b=some x->d.w.shape? b=some x
theorem Ext.refl(n:Nat)(c:Cfg):Ext n c c:=⟨rfl,rfl,rfl,rfl,Nat.le_refl _,λs _ h=>⟨h,rfl⟩,λb _ h=>⟨rfl,h⟩,λ_ _ h=>h⟩
theorem Ext.trans{n:Nat}{c d e:Cfg}(h:Ext n c d)(k:Ext n d e):Ext n c e:=by
 refine⟨k.O.trans h.O,k.os.trans h.os,k.tape.trans h.tape,k.output.trans h.output,Nat.le_trans h.size k.size,λs hs hu=>?_,λb hb ho=>?_,λb x hx=>k.shape b x (h.shape b x hx)⟩
 ·obtain⟨h1,h2⟩:=h.used s hs hu
  obtain⟨k1,k2⟩:=k.used s hs h1;exact⟨k1,k2.trans h2⟩
 ·obtain⟨h1,h2⟩:=h.keep b hb ho
  obtain⟨k1,k2⟩:=k.keep b (Nat.lt_of_lt_of_le hb h.size) h2;exact⟨k1.trans h1,k2⟩
theorem Ext.mono{n m:Nat}{c d:Cfg}(h:Ext n c d)(hm:m<=n):Ext m c d:=
 ⟨h.O,h.os,h.tape,h.output,h.size,λs hs=>h.used s (by omega),h.keep,h.shape⟩
theorem Cfg.used_lt{c:Cfg}{s:Nat}(h:c.used s):s<c.h.length:=by
 obtain⟨x,hx,_⟩:=h;exact(List.getElem?_eq_some_iff.1 hx).1
theorem Cfg.used_of_live{c:Cfg}{s:Nat}(h:c.live s):c.used s:=by
 obtain⟨z,es,hx⟩:=h;exact⟨_,hx,by simp⟩
theorem Ext.not_own{n:Nat}{c d:Cfg}(h:Ext n c d){b:Nat}(hb:b<c.w.heap.size)(ho:¬c.own b):¬d.own b:=by
 intro hd;rcases hd with hd|hd
 ·rw[h.O] at hd;exact ho (.inl hd)
 ·exact(h.keep b hb (λhl=>ho (.inr hl))).2 hd
theorem Ext.cell{n:Nat}{c d:Cfg}(h:Ext n c d){a:Addr}{v:Value}(hc:c.w.cell? a=some v)(ho:¬c.own a.block):d.w.cell? a=some v:=by
 have hb:=World.block_lt_of_cell? _ _ hc;have hk:=(h.keep a.block hb (λhl=>ho (.inr hl))).1;rw[<- hc];exact World.cell?_of_block hk
mutual
def AV.upto(n:Nat):AV->Bool
 | .agg cs=>k0Q n cs
 | .tuple cs=>k0Q n cs
 | .list _ es=>k18 n es
 | .sl s _ _ _=>decide (s<n)
 | .ref s _ _ _=>decide (s<n)
 | .cref cs=>k0Q n cs
 | .mapr s=>decide (s<n)
 | .func _ f c=>k0Q n f && k0Q n c
 | .iface _ v=>v.upto n
 | _=>true
def k0Q(n:Nat):List AV->Bool
 | []=>true
 | c::cs=>c.upto n && k0Q n cs
def k18(n:Nat):List (List AV)->Bool
 | []=>true
 | c::cs=>k0Q n c && k18 n cs
end
theorem k0G{n:Nat}:∀ {cs:List AV} {i:Nat} {x:AV},k0Q n cs=true->cs[i]?=some x->x.upto n=true
 | [],i,x,_,h=>by simp at h
 | c::cs,0,x,hb,h=>by
   simp only[List.getElem?_cons_zero,Option.some.injEq] at h;subst h;simp only[k0Q,Bool.and_eq_true] at hb;exact hb.1
 | c::cs,i+1,x,hb,h=>by
   simp only[k0Q,Bool.and_eq_true] at hb;exact k0G hb.2 (by simpa using h)
theorem k5J{n:Nat}:∀ {cs:List AV},(∀x,x∈cs->x.upto n=true)->k0Q n cs=true
 | [],_=>rfl
 | c::cs,h=>by
   simp only[k0Q,Bool.and_eq_true];exact⟨h c (by simp),k5J λx hx=>h x (by simp[hx])⟩
theorem k1C{n:Nat}:∀ {cs:List (List AV)} {i:Nat} {x:List AV},k18 n cs=true->cs[i]?=some x->k0Q n x=true
 | [],i,x,_,h=>by simp at h
 | c::cs,0,x,hb,h=>by
   simp only[List.getElem?_cons_zero,Option.some.injEq] at h;subst h;simp only[k18,Bool.and_eq_true] at hb;exact hb.1
 | c::cs,i+1,x,hb,h=>by
   simp only[k18,Bool.and_eq_true] at hb;exact k1C hb.2 (by simpa using h)
theorem kE7{n:Nat}:∀ {cs:List (List AV)},(∀x,x∈cs->k0Q n x=true)->k18 n cs=true
 | [],_=>rfl
 | c::cs,h=>by
   simp only[k18,Bool.and_eq_true];exact⟨h c (by simp),kE7 λx hx=>h x (by simp[hx])⟩
theorem VR.upto{c:Cfg}{x:AV}{v:Value}(h:VR c x v):x.upto c.h.length=true:=by
 induction h with
 | agg cs vs hl h ih=>exact k5J λx hx=>by obtain⟨i,hi⟩:=List.mem_iff_getElem?.1 hx;exact ih i x hi
 | tuple cs vs hl h ih=>exact k5J λx hx=>by obtain⟨i,hi⟩:=List.mem_iff_getElem?.1 hx;exact ih i x hi
 | list z es a n cap f hn hc ha hz hcell hown hv ih =>
   refine kE7 λe he=>k5J λx hx=>?_;obtain⟨i,hi⟩:=List.mem_iff_getElem?.1 he;obtain⟨j,hj⟩:=List.mem_iff_getElem?.1 hx;exact ih i e hi j x hj
 | sl s z i n cap hs hc hsz=>simpa[AV.upto] using Cfg.used_lt hs
 | ref s z i o hs=>simpa[AV.upto] using Cfg.used_lt hs
 | mapr s hs=>simpa[AV.upto] using Cfg.used_lt hs
 | cref cs a f ha hcell hown hv ih=>exact k5J λx hx=>by obtain⟨i,hi⟩:=List.mem_iff_getElem?.1 hx;exact ih i x hi
 | func fn first caps vf vc hf hc h1 h2 ih1 ih2 =>
   simp only[AV.upto,Bool.and_eq_true];exact⟨k5J λx hx=>by obtain⟨i,hi⟩:=List.mem_iff_getElem?.1 hx;exact ih1 i x hi,k5J λx hx=>by obtain⟨i,hi⟩:=List.mem_iff_getElem?.1 hx;exact ih2 i x hi⟩
 | iface t x v h ih=>exact ih
 | listNil z a cap=>rfl
 | _=>rfl
theorem q2A(n:Nat):gs.all (λp=>k0Q n p.2)=true:=rfl
theorem k49{p:Nat×List AV}(hp:p∈gs)(n:Nat):(AV.cref p.2).upto n=true:=List.all_eq_true.1 (q2A n) p hp
theorem Ext.vr{n:Nat}{c d:Cfg}(h:Ext n c d){x:AV}{v:Value}(hv:VR c x v):x.upto n=true->VR d x v:=by
 induction hv with
 | any v=>exact λ_=>.any v
 | bool b=>exact λ_=>.bool b
 | int k n=>exact λ_=>.int k n
 | str s=>exact λ_=>.str s
 | nilp=>exact λ_=>.nilp
 | nils=>exact λ_=>.nils
 | emp a=>exact λ_=>.emp a
 | nilFunc=>exact λ_=>.nilFunc
 | nilIface=>exact λ_=>.nilIface
 | agg cs vs hl h ih=>exact λhb=>.agg cs vs hl λi x hi=>ih i x hi (k0G hb hi)
 | tuple cs vs hl h ih=>exact λhb=>.tuple cs vs hl λi x hi=>ih i x hi (k0G hb hi)
 | list z es a m cap f hn hc ha hz hcell hown hv ih =>
   intro hb;refine .list z es a m cap f hn hc ha hz (λi j hi hj=>h.cell (hcell i j hi hj) (hown (by omega) (by omega))) (λhm hzp=>?_) λi e he j x hx=>ih i e he j x hx (k0G (k1C hb he) hx);exact h.not_own (World.block_lt_of_cell? _ ⟨a.block,_,none⟩ (hcell 0 0 hm hzp)) (hown hm hzp)
 | listNil z a cap=>exact λ_=>.listNil z a cap
 | sl s z i m cap hs hc hsz =>
   intro hb;simp only[AV.upto,decide_eq_true_eq] at hb;obtain⟨h1,h2⟩:=h.used s hb hs;rw[<- h2];refine .sl s z i m cap h1 hc ?_;obtain⟨e,k,hk,hle⟩:=hsz;exact⟨e,k,by rw[h2];exact h.shape _ _ hk,hle⟩
 | ref s z i o hs =>
   intro hb;simp only[AV.upto,decide_eq_true_eq] at hb;obtain⟨h1,h2⟩:=h.used s hb hs;rw[<- h2];exact .ref s z i o h1
 | mapr s hs =>
   intro hb;simp only[AV.upto,decide_eq_true_eq] at hb;obtain⟨h1,h2⟩:=h.used s hb hs;rw[<- h2];exact .mapr s h1
 | cref cs a f ha hcell hown hv ih =>
   intro hb;refine .cref cs a f ha (λj hj=>h.cell (hcell j hj) (hown (by omega))) (λhm=>?_) λj x hx=>ih j x hx (k0G hb hx);exact h.not_own (World.block_lt_of_cell? _ ⟨a.block,_,none⟩ (hcell 0 hm)) (hown hm)
 | func fn first caps vf vc hf hc h1 h2 ih1 ih2 =>
   intro hb;simp only[AV.upto,Bool.and_eq_true] at hb;exact .func fn first caps vf vc hf hc (λi x hi=>ih1 i x hi (k0G hb.1 hi)) λi x hi=>ih2 i x hi (k0G hb.2 hi)
 | iface t x v h ih=>exact λhb=>.iface t x v (ih hb)
theorem Ext.vr'{c d:Cfg}(h:Ext c.h.length c d){x:AV}{v:Value}(hv:VR c x v):VR d x v:=h.vr hv hv.upto
theorem Ext.vrs{c d:Cfg}(h:Ext c.h.length c d){l:List AV}{vs:Array Value}(hv:VRs c l vs):VRs d l vs:=⟨hv.1,λi x hx=>h.vr' (hv.2 i x hx)⟩
def k27.Ok(c:Cfg)(s z:Nat)(es:List (List AV)):Prop:=¬c.O (c.r s)/\∃o g,c.w.heap[c.r s]?=some o/\Holds z o es g/\∀(i:Nat) (e:List AV),es[i]?=some e->∀(j:Nat) (x:AV),e[j]?=some x->VR c x (g i j)
theorem k27.Ok.cells{c:Cfg}{s z:Nat}{es:List (List AV)}(h0:0<z)(h1:¬c.O (c.r s))(h2:∀e,e∈es->e.length=z) (h:∃vs ty fz,c.w.heap[c.r s]?=some (.cells vs ty fz)/\kFW vs fz/\es.length*z<=vs.size /\
 ∀(i:Nat) (e:List AV),es[i]?=some e->∀(j:Nat) (x:AV),e[j]?=some x->VR c x (vs.getD (i*z+j) undef)):k27.Ok c s z es:=by
 obtain⟨vs,ty,fz,h3,h4,h5,h6⟩:=h;exact⟨h1,_,_,h3,.inl ⟨h0,h2,vs,ty,fz,rfl,h4,h5,rfl⟩,h6⟩
theorem Rel.lown_lt{c:Cfg}(R:Rel c){b:Nat}(h:c.lown b):b<c.w.heap.size:=by
 obtain⟨s,⟨z,es,hs⟩,rfl⟩:=h;obtain⟨_,o,g,hh,_⟩:=R.livx s z es hs;rcases Nat.lt_or_ge (c.r s) c.w.heap.size with h|h
 ·exact h
 ·rw[Array.getElem?_eq_none h] at hh;cases hh
theorem Rel.of_ext{c d:Cfg}(R:Rel c)(h:Ext c.h.length c d)(hs:∀s z es,d.h[s]?=some (.live z es)->(c.h[s]?=some (.live z es)/\d.r s=c.r s/\d.w.heap[c.r s]?=c.w.heap[c.r s]?)\/k27.Ok d s z es)
 (hi:∀s t,d.live s->d.live t->d.r s=d.r t->s=t):Rel d:=by
 refine⟨λs z es hl=>?_,hi,λb hb=>Nat.lt_of_lt_of_le (R.olt b (by rw[<- h.O];exact hb)) h.size,λp hp=>h.vr' (R.glo p hp),λp hp=>(R.gsz p hp).imp λ_ h1=>h.shape _ _ h1⟩;rcases hs s z es hl with ⟨h1,h2,h3⟩|h1
 ·obtain⟨a2,o,g,a4,a5,a6⟩:=R.livx s z es h1
  exact⟨by rw[h2,h.O];exact a2,o,g,by rw[h2,h3];exact a4,a5,λi e he j x hx=>h.vr' (a6 i e he j x hx)⟩
 ·exact h1
theorem Rel.sameHeap{c:Cfg}(R:Rel c){w:World}(hh:w.heap=c.w.heap)(ho:w.os=c.w.os)(ht:w.tape=c.w.tape)(hp:w.output=c.w.output)(n:Nat):Rel { c with w:=w }/\Ext n c { c with w:=w }:=by
 have he:∀n,Ext n c { c with w:=w }:=λn=>⟨rfl,ho,ht,hp,by simp[hh],λs _ h=>⟨h,rfl⟩,λb _ hb=>⟨by simp[hh],hb⟩,λb x hx=>by simpa[World.shape?,hh] using hx⟩;exact⟨R.of_ext (he _) (λs z es hl=>.inl ⟨hl,rfl,by simp[hh]⟩) R.inj,he n⟩
theorem Rel.drew{c:Cfg}(R:Rel c)(k n:Nat):Rel { c with w:={ c.w with drawn:=k } }/\Ext n c { c with w:={ c.w with drawn:=k } }:=R.sameHeap (w:={ c.w with drawn:=k }) rfl rfl rfl rfl n
theorem k7G(w:World)(o:Obj)(b:Nat)(x:TypeId×Nat)(h:w.shape? b=some x):(w.alloc o).shape? b=some x:=by
 unfold World.shape? at h ⊢
 have hb:b<w.heap.size:=by
  rcases Nat.lt_or_ge b w.heap.size with h'|h'
  ·exact h'
  ·rw[Array.getElem?_eq_none h'] at h;cases h
 rw[Below.heap_alloc _ _ _ hb];exact h
theorem Rel.alloc{c:Cfg}(R:Rel c)(o:Obj)(n:Nat):Rel { c with w:=c.w.alloc o }/\Ext n c { c with w:=c.w.alloc o }:=by
 have he:∀n,Ext n c { c with w:=c.w.alloc o }:=λn=>⟨rfl,rfl,rfl,rfl,by simp,λs _ h=>⟨h,rfl⟩,λb hb ho=>⟨Below.heap_alloc _ _ _ hb,ho⟩,λb x hx=>k7G _ _ _ _ hx⟩;refine⟨R.of_ext (he _) (λs z es hl=>.inl ⟨hl,rfl,?_⟩) R.inj,he n⟩;exact Below.heap_alloc _ _ _ (R.lown_lt ⟨s,⟨z,es,hl⟩,rfl⟩)
theorem Rel.fresh{c:Cfg}(R:Rel c)(t:Nat)(h':k00)(z:Nat)(es:List (List AV))(vs:Array Value)(ty:TypeId)(n:Nat)
 (ht:¬c.used t) (h1:h'[t]?=some (.live z es)) (h2:∀s x,s≠t->x ≠ .free->(h'[s]?=some x↔c.h[s]?=some x))
 (hz:0<z) (zU:∀e,e∈es->e.length=z) (hsz:es.length*z<=vs.size) (hv:∀(i:Nat) (e:List AV),es[i]?=some e->∀(j:Nat) (x:AV),e[j]?=some x->VR c x (vs.getD (i*z+j) undef)) :
 Rel { c with r:=λs=>if s=t then c.w.heap.size else c.r s,h:=h',w:=c.w.alloc (.cells vs ty) }/\Ext n c { c with r:=λs=>if s=t then c.w.heap.size else c.r s,h:=h',w:=c.w.alloc (.cells vs ty) }:=by
 have hlive:∀s,s≠t->(Cfg.live { c with r:=λs=>if s=t then c.w.heap.size else c.r s,h:=h',w:=c.w.alloc (.cells vs ty) } s↔c.live s):=by
  intro s hs;constructor
  ·rintro⟨z,es,hx⟩;exact⟨z,es,(h2 s _ hs (by simp)).1 hx⟩
  ·rintro⟨z,es,hx⟩;exact⟨z,es,(h2 s _ hs (by simp)).2 hx⟩
 have he:∀n,Ext n c { c with r:=λs=>if s=t then c.w.heap.size else c.r s,h:=h',w:=c.w.alloc (.cells vs ty) }:=by
  intro n;refine⟨rfl,rfl,rfl,rfl,by simp,λs _ hu=>?_,λb hb ho=>⟨Below.heap_alloc _ _ _ hb,?_⟩,λb x hx=>k7G _ _ _ _ hx⟩
  ·have hst:s≠t:=λe=>ht (e▸hu)
   obtain⟨x,hx,hf⟩:=hu;exact⟨⟨x,(h2 s x hst hf).2 hx,hf⟩,by simp[hst]⟩
  ·rintro⟨s,hs,hb'⟩
   by_cases hst:s=t
   ·subst hst;simp at hb';omega
   ·simp only[hst,if_false] at hb'
    exact ho ⟨s,(hlive s hst).1 hs,hb'⟩
 refine⟨R.of_ext (he _) (λs z' es' hl=>?_) (λs s' hs hs' hr=>?_),he n⟩
 ·by_cases hst:s=t
  ·subst hst
   have:k27.live z es=k27.live z' es':=(by simpa[h1] using hl);cases this
   refine .inr (k27.Ok.cells hz ?_ zU ⟨vs,ty,(0,0),?_,.inl rfl,hsz,λi e he' j x hx=>(he c.h.length).vr' (hv i e he' j x hx)⟩)
   ·intro hO
    have:=R.olt _ hO;simp at this
   ·simpa using heap_alloc_new c.w (.cells vs ty)
  ·have hl':=(h2 s _ hst (by simp)).1 hl
   exact .inl ⟨hl',by simp[hst],Below.heap_alloc _ _ _ (R.lown_lt ⟨s,⟨z',es',hl'⟩,rfl⟩)⟩
 ·by_cases hst:s=t<;>by_cases hst':s'=t
  ·omega
  ·exfalso
   have hl':=R.lown_lt ⟨s',(hlive s' hst').1 hs',rfl⟩;simp[hst,hst'] at hr;omega
  ·exfalso
   have hl':=R.lown_lt ⟨s,(hlive s hst).1 hs,rfl⟩;simp[hst,hst'] at hr;omega
  ·simp[hst,hst'] at hr
   exact R.inj s s' ((hlive s hst).1 hs) ((hlive s' hst').1 hs') hr
theorem Rel.write{c:Cfg}(R:Rel c)(s:Nat)(h':k00)(w:World)(z:Nat)(es es':List (List AV))(vs vs':Array Value)(ty:TypeId)(n:Nat)
 (hz:0<z) (hs:c.h[s]?=some (.live z es)) (h1:h'[s]?=some (.live z es')) (h2:∀k,k≠s->h'[k]?=c.h[k]?) {fz0 fz:Nat×Nat} (hfz:kFW vs fz)
 (hw0:c.w.heap[c.r s]?=some (.cells vs ty fz0)) (hw1:w.heap[c.r s]?=some (.cells vs' ty fz)) (hvs:vs'.size=vs.size) (hw2:∀b,b≠c.r s->w.heap[b]?=c.w.heap[b]?)
 (ho:w.os=c.w.os) (ht:w.tape=c.w.tape) (hp:w.output=c.w.output) (hsz:w.heap.size=c.w.heap.size)
 (zU:∀e,e∈es'->e.length=z) (hle:es'.length*z<=vs'.size) (hv:∀(i:Nat) (e:List AV),es'[i]?=some e->∀(j:Nat) (x:AV),e[j]?=some x->VR c x (vs'.getD (i*z+j) undef)) :
 Rel { c with h:=h',w:=w }/\Ext n c { c with h:=h',w:=w }:=by
 have hlive:∀k,(Cfg.live { c with h:=h',w:=w } k↔c.live k):=by
  intro k;by_cases hk:k=s
  ·subst hk;exact⟨λ_=>⟨z,es,hs⟩,λ_=>⟨z,es',h1⟩⟩
  ·constructor
   ·rintro⟨a,b,hx⟩;exact⟨a,b,(h2 k hk)▸hx⟩
   ·rintro⟨a,b,hx⟩;exact⟨a,b,(h2 k hk).symm▸hx⟩
 have hl:c.live s:=⟨z,es,hs⟩
 have he:∀n,Ext n c { c with h:=h',w:=w }:=by
  intro n;refine⟨rfl,ho,ht,hp,by simp[hsz],λk _ hu=>⟨?_,rfl⟩,λb hb hno=>⟨hw2 b λe=>hno ⟨s,hl,e.symm⟩,λ⟨k,hk,hkb⟩=>hno ⟨k,(hlive k).1 hk,hkb⟩⟩,λb x hx=>?_⟩
  ·by_cases hk:k=s
   ·subst hk;exact⟨_,h1,by simp⟩
   ·obtain⟨x,hx,hf⟩:=hu;exact⟨x,(h2 k hk).symm▸hx,hf⟩
  ·by_cases hb:b=c.r s
   ·subst hb
    unfold World.shape? at hx ⊢;simp only[hw0] at hx;simp only[hw1,hvs];exact hx
   ·unfold World.shape? at hx ⊢
    simp only[hw2 b hb];exact hx
 refine⟨R.of_ext (he _) (λk z' e' hk=>?_) (λa b ha hb hr=>R.inj a b ((hlive a).1 ha) ((hlive b).1 hb) hr),he n⟩;by_cases hks:k=s
 ·subst hks
  have:k27.live z es'=k27.live z' e':=(by simpa[h1] using hk);cases this
  obtain⟨a1,a2,a3,_⟩:=R.live k z es hs hz;exact .inr (k27.Ok.cells a1 a2 zU ⟨vs',ty,fz,hw1,by unfold kFW at hfz ⊢;rw[hvs];exact hfz,hle,λi e he' j x hx=>(he c.h.length).vr' (hv i e he' j x hx)⟩)
 ·have hk':c.h[k]?=some (.live z' e'):=(h2 k hks)▸hk
  refine .inl ⟨hk',rfl,hw2 _ λe=>hks (R.inj k s ⟨_,_,hk'⟩ hl e)⟩
theorem Rel.leave{c:Cfg}(R:Rel c)(h':k00)(n:Nat)(hk:∀(s:Nat) (x:k27),h'[s]?=some x->c.h[s]?=some x\/x = .dead)(hu:∀s,s<n->∀x:k27,c.h[s]?=some x->x ≠ .free->∃y,h'[s]?=some y/\y ≠ .free)
 (hn:n<=c.h.length) (hc:∀(s z:Nat) (es:List (List AV)),h'[s]?=some (k27.live z es)->∀e,e∈es->∀x:AV,x∈e->x.upto n=true):Rel { c with h:=h' }/\Ext n c { c with h:=h' }:=by
 have hlive:∀k,Cfg.live { c with h:=h' } k->c.live k:=by
  rintro k ⟨a,b,hx⟩;rcases hk k _ hx with h|h
  ·exact⟨a,b,h⟩
  ·cases h
 have he:Ext n c { c with h:=h' }:=by
  refine⟨rfl,rfl,rfl,rfl,Nat.le_refl _,λk hkn ⟨x,hx,hf⟩=>⟨?_,rfl⟩,λb hb hno=>⟨rfl,λ⟨k,hk,hkb⟩=>hno ⟨k,hlive k hk,hkb⟩⟩,λb x hx=>hx⟩;obtain⟨y,hy,hy'⟩:=hu k hkn x hx hf;exact⟨y,hy,hy'⟩
 refine⟨⟨λs z es hl=>?_,λa b ha hb hr=>R.inj a b (hlive a ha) (hlive b hb) hr,R.olt,λp hp=>he.vr (R.glo p hp) (k49 hp n),R.gsz⟩,he⟩;rcases hk s _ hl with h|h
 ·obtain⟨a2,o,g,a4,a5,a6⟩:=R.livx s z es h
  refine⟨a2,o,g,a4,a5,λi e hi j x hx=>he.vr (a6 i e hi j x hx) (hc s z es hl e (List.mem_of_getElem? hi) x (List.mem_of_getElem? hx))⟩
 ·cases h
theorem Rel.freshX{c:Cfg}(R:Rel c)(t:Nat)(h':k00)(z:Nat)(es:List (List AV))(o:Obj)(g:Nat->Nat->Value)(n:Nat)
 (ht:¬c.used t) (h1:h'[t]?=some (.live z es)) (h2:∀s x,s≠t->x ≠ .free->(h'[s]?=some x↔c.h[s]?=some x))
 (hh:Holds z o es g) (hv:∀(i:Nat) (e:List AV),es[i]?=some e->∀(j:Nat) (x:AV),e[j]?=some x->VR c x (g i j)) :
 Rel { c with r:=λs=>if s=t then c.w.heap.size else c.r s,h:=h',w:=c.w.alloc o }/\Ext n c { c with r:=λs=>if s=t then c.w.heap.size else c.r s,h:=h',w:=c.w.alloc o }:=by
 have hlive:∀s,s≠t->(Cfg.live { c with r:=λs=>if s=t then c.w.heap.size else c.r s,h:=h',w:=c.w.alloc o } s↔c.live s):=by
  intro s hs;constructor
  ·rintro⟨z,es,hx⟩;exact⟨z,es,(h2 s _ hs (by simp)).1 hx⟩
  ·rintro⟨z,es,hx⟩;exact⟨z,es,(h2 s _ hs (by simp)).2 hx⟩
 have he:∀n,Ext n c { c with r:=λs=>if s=t then c.w.heap.size else c.r s,h:=h',w:=c.w.alloc o }:=by
  intro n;refine⟨rfl,rfl,rfl,rfl,by simp,λs _ hu=>?_,λb hb ho=>⟨Below.heap_alloc _ _ _ hb,?_⟩,λb x hx=>k7G _ _ _ _ hx⟩
  ·have hst:s≠t:=λe=>ht (e▸hu)
   obtain⟨x,hx,hf⟩:=hu;exact⟨⟨x,(h2 s x hst hf).2 hx,hf⟩,by simp[hst]⟩
  ·rintro⟨s,hs,hb'⟩
   by_cases hst:s=t
   ·subst hst;simp at hb';omega
   ·simp only[hst,if_false] at hb'
    exact ho ⟨s,(hlive s hst).1 hs,hb'⟩
 refine⟨R.of_ext (he _) (λs z' es' hl=>?_) (λs s' hs hs' hr=>?_),he n⟩
 ·by_cases hst:s=t
  ·subst hst
   have:k27.live z es=k27.live z' es':=(by simpa[h1] using hl);cases this
   refine .inr ⟨?_,o,g,?_,hh,λi e he' j x hx=>(he c.h.length).vr' (hv i e he' j x hx)⟩
   ·intro hO
    have:=R.olt _ hO;simp at this
   ·simpa using heap_alloc_new c.w o
  ·have hl':=(h2 s _ hst (by simp)).1 hl
   exact .inl ⟨hl',by simp[hst],Below.heap_alloc _ _ _ (R.lown_lt ⟨s,⟨z',es',hl'⟩,rfl⟩)⟩
 ·by_cases hst:s=t<;>by_cases hst':s'=t
  ·omega
  ·exfalso
   have hl':=R.lown_lt ⟨s',(hlive s' hst').1 hs',rfl⟩;simp[hst,hst'] at hr;omega
  ·exfalso
   have hl':=R.lown_lt ⟨s,(hlive s hst).1 hs,rfl⟩;simp[hst,hst'] at hr;omega
  ·simp[hst,hst'] at hr
   exact R.inj s s' ((hlive s hst).1 hs) ((hlive s' hst').1 hs') hr
theorem Rel.writeX{c:Cfg}(R:Rel c)(s:Nat)(h':k00)(w:World)(es es':List (List AV))(o:Obj)(g:Nat->Nat->Value)(n:Nat)
 (hs:c.h[s]?=some (.live 0 es)) (h1:h'[s]?=some (.live 0 es')) (h2:∀k,k≠s->h'[k]?=c.h[k]?)
 (hw1:w.heap[c.r s]?=some o) (hw2:∀b,b≠c.r s->w.heap[b]?=c.w.heap[b]?)
 (ho:w.os=c.w.os) (ht:w.tape=c.w.tape) (hp:w.output=c.w.output) (hsz:w.heap.size=c.w.heap.size)
 (hh:Holds 0 o es' g) (hv:∀(i:Nat) (e:List AV),es'[i]?=some e->∀(j:Nat) (x:AV),e[j]?=some x->VR c x (g i j)) :
 Rel { c with h:=h',w:=w }/\Ext n c { c with h:=h',w:=w }:=by
 have hlive:∀k,(Cfg.live { c with h:=h',w:=w } k↔c.live k):=by
  intro k;by_cases hk:k=s
  ·subst hk;exact⟨λ_=>⟨0,es,hs⟩,λ_=>⟨0,es',h1⟩⟩
  ·constructor
   ·rintro⟨a,b,hx⟩;exact⟨a,b,(h2 k hk)▸hx⟩
   ·rintro⟨a,b,hx⟩;exact⟨a,b,(h2 k hk).symm▸hx⟩
 have hl:c.live s:=⟨0,es,hs⟩;have hsh:∀x,c.w.shape? (c.r s)≠some x:=λx hx=>Nat.lt_irrefl _ (R.pos hs hx)
 have he:∀n,Ext n c { c with h:=h',w:=w }:=by
  intro n;refine⟨rfl,ho,ht,hp,by simp[hsz],λk _ hu=>⟨?_,rfl⟩,λb hb hno=>⟨hw2 b λe=>hno ⟨s,hl,e.symm⟩,λ⟨k,hk,hkb⟩=>hno ⟨k,(hlive k).1 hk,hkb⟩⟩,λb x hx=>?_⟩
  ·by_cases hk:k=s
   ·subst hk;exact⟨_,h1,by simp⟩
   ·obtain⟨x,hx,hf⟩:=hu;exact⟨x,(h2 k hk).symm▸hx,hf⟩
  ·by_cases hb:b=c.r s
   ·subst hb;exact absurd hx (hsh x)
   ·unfold World.shape? at hx ⊢
    simp only[hw2 b hb];exact hx
 refine⟨R.of_ext (he _) (λk z' e' hk=>?_) (λa b ha hb hr=>R.inj a b ((hlive a).1 ha) ((hlive b).1 hb) hr),he n⟩;by_cases hks:k=s
 ·subst hks
  have:k27.live 0 es'=k27.live z' e':=(by simpa[h1] using hk);cases this
  obtain⟨a2,_⟩:=R.livx k 0 es hs;exact .inr ⟨a2,o,g,hw1,hh,λi e he' j x hx=>(he c.h.length).vr' (hv i e he' j x hx)⟩
 ·have hk':c.h[k]?=some (.live z' e'):=(h2 k hks)▸hk
  refine .inl ⟨hk',rfl,hw2 _ λe=>hks (R.inj k s ⟨_,_,hk'⟩ hl e)⟩
inductive k0B where
 | tmp (t:Nat)
 | const (v:AV)
 | func (f:FuncId)
inductive AOp where
 | mv (x:k0B)
 | pick (c a b:k0B)
 | new (z:Nat) (e:List AV)
 | box (z:Nat) (x:k0B)
 | build (zero:List AV) (ps:List (Nat×Nat×k0B))
 | bslice (z n:Nat) (zero:List AV) (ps:List (Nat×Nat×k0B))
 | load (g:Bool) (k:Nat) (a:k0B)
 | store (k:Nat) (a x:k0B)
 | nilc (x:k0B)
 | bin (op:BinOp) (x y:k0B)
 | eqb (neq:Bool) (x y:k0B)
 | mvs (x:k0B)
 | eqs (neq:Bool) (n:Nat) (os:List (Nat×Nat)) (x y:k0B)
 | un (op:UnOp) (x:k0B)
 | conv (k:IntKind) (x:k0B)
 | fadr (off:Nat) (x:k0B)
 | fld (g:Bool) (off k:Nat) (x:k0B)
 | iadA (n z:Nat) (x i:k0B)
 | iadS (z:Nat) (x i:k0B)
 | idx (g:Bool) (n k:Nat) (x i:k0B)
 | idxStr (x i:k0B)
 | lenx (x:k0B)
 | lens (x:k0B)
 | lenc (n:Nat)
 | mm (isMax:Bool) (x:k0B) (xs:List k0B)
 | app (z bytes:Nat) (x y:k0B)
 | slc (z:Nat) (x:k0B) (lo hi:Option k0B)
 | mk (z bytes:Nat) (zero:List AV) (l c:k0B)
 | ext (x:k0B) (i:Nat)
 | mkf (fn:Fn) (first caps:List k0B)
 | call (f:k0B) (xs:List k0B)
 | mkm
 | look (g:Bool) (n:Nat) (os:List (Nat×Nat)) (zero:AV) (ok:Bool) (x k:k0B)
 | mput (g:Bool) (n:Nat) (os:List (Nat×Nat)) (x k v:k0B)
 | slcS (x:k0B) (lo hi:Option k0B)
 | toS (x:k0B)
 | bemp
 | ofS (x:k0B)
 | xop (o:Op) (ty:TypeId) (xs:List k0B)
structure k0J where
 dst:Option Nat
 op:AOp
 guard:Option (Nat×Bool)
inductive Res where
 | val (v:AV)
 | new (sl:Option Nat) (z:Nat) (es:List (List AV))
 | upd (s z:Nat) (es:List (List AV))
 | repl (s z:Nat) (es:List (List AV))
def Res.at(t:Nat):Res->AV
 | .val v=>v
 | .new none z _=>.ref t z 0 0
 | .new (some n) z _=>(match Nat.beq z 0 with|true=>.mapr t|false=>.sl t z 0 n)
 | .upd _ _ _=>.undef
 | .repl _ z es=>.sl t z 0 es.length
def Res.heap(t:Nat)(h h':k00):Res->Prop
 | .val _=>h'=h
 | .new _ z es=>h'[t]?=some (.live z es)/\∀s x,s≠t->x ≠ .free->(h'[s]?=some x↔h[s]?=some x)
 | .upd s z es=>h'=h.set s (.live z es)
 | .repl s z es=>h'[t]?=some (.live z es)/\(s<h.length->h'[s]?=some .dead)/\∀k x,k≠t->k≠s->x ≠ .free->(h'[k]?=some x↔h[k]?=some x)
def Res.push(h:k00):Res->k00
 | .val _=>h
 | .new _ z es=>h++[.live z es]
 | .upd s z es=>h.set s (.live z es)
 | .repl s z es=>h.set s .dead++[.live z es]
def AV.isCell:AV->Bool
 | .any=>false
 | .agg _=>false
 | .tuple _=>false
 | _=>true
def k2P:List AV->Bool
 | []=>true
 | c::cs=>c.isCell && k2P cs
def AV.cellsOf:AV->Option (List AV)
 | .any=>none
 | .agg cs=>some cs
 | v=>some [v]
def k1S(g:Bool)(k:Nat)(cs:List AV)(o:Nat):AV:=if g then .agg ((cs.drop o).take k) else cs.getD o .any
def k51(row:List AV)(o:Nat)(cs:List AV):List AV:=row.take o++cs++row.drop (o+cs.length)
def k6L(ev:k0B->AV):List AV->List (Nat×Nat×k0B)->Option (List AV)
 | cs,[]=>some cs
 | cs,(o,k,x)::ps =>
   match (ev x).cellsOf with
   | some xs=>if xs.length=k/\o+k<=cs.length/\k2P xs=true then k6L ev (k51 cs o xs) ps else none
   | none=>none
def k62(z:Nat):Nat->List AV->List (List AV)
 | 0,_=>[]
 | n+1,l=>l.take z::k62 z n (l.drop z)
def k2M:List (List AV)->Bool
 | []=>true
 | e::es=>k2P e && k2M es
def k0M(isMax:Bool)(x y:Int):Int:=if isMax then (if y>x then y else x) else (if y<x then y else x)
def mmA(isMax:Bool)(ev:k0B->AV):AV->List k0B->Option AV
 | v,[]=>some v
 | .int k x,y::ys =>
   match ev y with
   | .int k' y=>if k=k' then mmA isMax ev (.int k (k0M isMax x y)) ys else none
   | _=>none
 | _,_=>none
def evs(ev:k0B->AV)(xs:List k0B):List AV:=xs.map ev
def kYR(op:BinOp)(k:IntKind)(x y:Int)(K:Res->Prop):Prop:=
 match op with
 | .add=>K (.val (.int k (k.wrap (x+y))))
 | .sub=>K (.val (.int k (k.wrap (x-y))))
 | .mul=>K (.val (.int k (k.wrap (x*y))))
 | .quo=>y≠0/\K (.val (.int k (k.wrap (x.tdiv y))))
 | .rem=>y≠0/\K (.val (.int k (x.tmod y)))
 | .and=>K (.val (.int k (k.wrap (BitVec.ofInt k.bits x &&& BitVec.ofInt k.bits y).toNat)))
 | .or=>K (.val (.int k (k.wrap (BitVec.ofInt k.bits x ||| BitVec.ofInt k.bits y).toNat)))
 | .xor=>K (.val (.int k (k.wrap (BitVec.ofInt k.bits x ^^^ BitVec.ofInt k.bits y).toNat)))
 | .andNot=>K (.val (.int k (k.wrap (BitVec.ofInt k.bits x &&& ~~~ BitVec.ofInt k.bits y).toNat)))
 | .eql=>K (.val (.bool (x == y)))
 | .neq=>K (.val (.bool (x != y)))
 | .lss=>K (.val (.bool (decide (x<y))))
 | .leq=>K (.val (.bool (decide (x<=y))))
 | .gtr=>K (.val (.bool (decide (y<x))))
 | .geq=>K (.val (.bool (decide (y<=x))))
 | _=>False
def kBZ(op:BinOp)(k:IntKind)(x y:Int)(K:Res->Prop):Prop:=
 match op with
 | .shl=>0<=y/\K (.val (.int k (k.wrap (x*2 ^ (min y.toNat k.bits)))))
 | .shr=>0<=y/\K (.val (.int k (x.fdiv (2 ^ (min y.toNat k.bits)))))
 | _=>False
def kYQ(op:BinOp)(x y:ByteArray)(K:Res->Prop):Prop:=
 match op with
 | .add=>((x.size+y.size:Nat):Int)<=9223372036854775807/\K (.val (.str (x++y)))
 | .eql=>K (.val (.bool (x.toList == y.toList)))
 | .neq=>K (.val (.bool (!(x.toList == y.toList))))
 | .lss=>K (.val (.bool (Op.bytesLess x.toList y.toList)))
 | .leq=>K (.val (.bool (Op.bytesLess x.toList y.toList || x.toList == y.toList)))
 | .gtr=>K (.val (.bool (!(Op.bytesLess x.toList y.toList || x.toList == y.toList))))
 | .geq=>K (.val (.bool (!(Op.bytesLess x.toList y.toList))))
 | _=>False
def AOp.isShift:BinOp->Bool
 | .shl=>true
 | .shr=>true
 | _=>false
def eqA:Nat->AV->AV->Option Bool
 | 0,.bool a,.bool b=>some (a == b)
 | 1,.int k a,.int k' b=>if k=k' then some (a == b) else none
 | 2,.str a,.str b=>some (a.toList == b.toList)
 | _,_,_=>none
def k0O(xs ys:List AV):List (Nat×Nat)->Option Bool
 | []=>some true
 | (o,q)::os =>
   match eqA q (xs.getD o .any) (ys.getD o .any),k0O xs ys os with
   | some a,some b=>some (a && b)
   | _,_=>none
def k2S(g:Bool)(n:Nat)(v:AV):Option (List AV):=
 match g with
 | true=>(match v with | .agg cs=>if cs.length=n then some cs else none|_=>none)
 | false=>if n=1/\v.isCell=true then some [v] else none
def k58(g:Bool)(n:Nat)(os:List (Nat×Nat))(a b:AV):Option Bool:=
 match k2S g n a,k2S g n b with
 | some xs,some ys=>k0O xs ys os
 | _,_=>none
def k64(g:Bool)(n:Nat)(os:List (Nat×Nat)):List (List AV)->AV->Option (Option AV)
 | [],_=>some none
 | e::es,k=>(match e with
   | [k',v]=>(match k58 g n os k k' with
     | some true=>some (some v)
     | some false=>k64 g n os es k
     | none=>none)
   | _=>none)
def kM8(g:Bool)(n:Nat)(os:List (Nat×Nat)):List (List AV)->AV->AV->Option (List (List AV))
 | [],k,v=>some [[k,v]]
 | e::es,k,v=>(match e with
   | [k',v']=>(match k58 g n os k k' with
     | some true=>some ([k,v]::es)
     | some false=>(match kM8 g n os es k v with|some r=>some ([k',v']::r)|none=>none)
     | none=>none)
   | _=>none)
def k98(ok:Bool)(zero:AV):Option AV->AV
 | some v=>if ok then .tuple [v,.bool true] else v
 | none=>if ok then .tuple [zero,.bool false] else zero
def k13(s:ByteArray):List (List AV):=s.data.toList.map λb=>[.int .u8 (b.toNat:Int)]
def k0T(o:AOp)(ev:k0B->AV)(h:k00)(K:Res->Prop):Prop:=
 match o with
 | .mv x=>K (.val (ev x))
 | .pick c a b=>(match ev c with | .bool t=>K (.val (if t then ev a else ev b))|_=>False)
 | .new z e=>K (.new none z [e])
 | .box z x=>(match (ev x).cellsOf with|some cs=>(cs.length=z/\k2P cs=true)/\K (.new none z [cs])|none=>False)
 | .build zero ps=>(match k6L ev zero ps with|some cs=>K (.val (.agg cs))|none=>False)
 | .bslice z n zero ps=>(match k6L ev (List.replicate n zero).flatten ps with|some cs=>K (.val (.list z (k62 z n cs)))|none=>False)
 | .load g k a =>
   (match ev a with
   | .ref s z i o=>(match h[s]? with|some (.live z' es)=>(z'=z/\i<es.length/\o+k<=z)/\K (.val (k1S g k (es.getD i []) o))|_=>False)
   | .cref cs=>k<=cs.length/\K (.val (k1S g k cs 0))
   | _=>False)
 | .store k a x =>
   (match ev a with
   | .ref s z i o=>(match h[s]? with
     | some (.live z' es)=>(match (ev x).cellsOf with
       | some cs=>(z'=z/\i<es.length/\cs.length=k/\o+k<=z/\k2P cs=true)/\K (.upd s z (es.set i (k51 (es.getD i []) o cs)))
       | none=>False)
     | _=>False)
   | _=>False)
 | .nilc x =>
   (match ev x with
   | .ref s z i o=>K (.val (.ref s z i o))
   | .cref cs=>K (.val (.cref cs))
   | .func (.func f) a b=>K (.val (.func (.func f) a b))
   | .iface t v=>K (.val (.iface t v))
   | _=>False)
 | .bin op x y =>
   (match ev x,ev y with
   | .int k a,.int k' b=>if AOp.isShift op then kBZ op k a b K else k'=k/\kYR op k a b K
   | .str a,.str b=>kYQ op a b K
   | _,_=>False)
 | .eqb neq x y=>(match ev x,ev y with | .bool a,.bool b=>K (.val (.bool (if neq then !(a == b) else (a == b))))|_,_=>False)
 | .mvs x=>(match ev x with | .str s=>K (.val (.str s))|_=>False)
 | .eqs neq n os x y =>
   (match ev x,ev y with
   | .agg a,.agg b=>(a.length=n/\b.length=n)/\(match k0O a b os with|some t=>K (.val (.bool (if neq then !t else t)))|none=>False)
   | _,_=>False)
 | .un op x =>
   (match op,ev x with
   | .neg,.int k n=>K (.val (.int k (k.wrap (0-n))))
   | .not,.bool b=>K (.val (.bool !b))
   | .xor,.int k n=>K (.val (.int k (k.wrap (BitVec.ofInt k.bits (if k.signed then -1 else k.max) ^^^ BitVec.ofInt k.bits n).toNat)))
   | _,_=>False)
 | .conv k x=>(match ev x with | .int _ n=>K (.val (.int k (k.wrap n)))|_=>False)
 | .fadr off x =>
   (match ev x with
   | .ref s z i o=>K (.val (.ref s z i (o+off)))
   | .cref cs=>K (.val (.cref (cs.drop off)))
   | _=>False)
 | .fld g off k x=>(match ev x with | .agg cs=>off+k<=cs.length/\K (.val (k1S g k cs off))|_=>False)
 | .iadA n z x i =>
   (match ev x,ev i with
   | .ref s z' j o,.int _ q=>(0<=q/\q<n)/\K (.val (.ref s z' j (o+q.toNat*z)))
   | .cref cs,.int _ q=>(0<=q/\q<n)/\K (.val (.cref (cs.drop (q.toNat*z))))
   | _,_=>False)
 | .iadS z x i =>
   (match ev x,ev i with
   | .list z' es,.int _ q=>(z'=z/\0<=q/\q<es.length)/\K (.val (.cref (es.getD q.toNat [])))
   | .sl s z' j n,.int _ q=>(z'=z/\0<=q/\q<n)/\K (.val (.ref s z (j+q.toNat) 0))
   | _,_=>False)
 | .idx g n k x i=>(match ev x,ev i with | .agg cs,.int _ q=>(0<=q/\q<n/\n*k<=cs.length)/\K (.val (k1S g k cs (q.toNat*k)))|_,_=>False)
 | .idxStr x i=>(match ev x,ev i with | .str s,.int _ q=>(0<=q/\q<s.size)/\K (.val (.int .u8 (s.data.toList.getD q.toNat 0).toNat))|_,_=>False)
 | .lenx x =>
   (match ev x with
   | .list _ es=>K (.val (.int .i64 es.length))
   | .sl _ _ _ n=>K (.val (.int .i64 n))
   | .nils=>K (.val (.int .i64 (0:Nat)))
   | .emp=>K (.val (.int .i64 (0:Nat)))
   | _=>False)
 | .lens x=>(match ev x with | .str s=>K (.val (.int .i64 s.size))|_=>False)
 | .lenc n=>K (.val (.int .i64 n))
 | .mm isMax x xs=>(match mmA isMax ev (ev x) xs with|some v=>K (.val v)|none=>False)
 | .app z bytes x y =>
   (match ev y with
   | .nils=>(match ev x with | .nils=>K (.val .nils) | .sl s z' i n=>K (.val (.sl s z' i n))|_=>False)
   | .list z' new =>
     (match ev x with
     | .emp=>(new=[]->K (.val .emp))/\(new≠[]->(z'=z/\new.length<=9223372036854775807/\new.length*bytes<=140737488355328)/\K (.new (some new.length) z new))
     | .nils=>(new=[]->K (.val .nils))/\(new≠[]->(z'=z/\new.length<=9223372036854775807/\new.length*bytes<=140737488355328)/\K (.new (some new.length) z new))
     | .sl s z'' i n=>(match h[s]? with
       | some (.live w es)=>(new=[]->K (.val (.sl s z'' i n))\/((z''=z/\w=z/\i=0/\n=es.length)/\K (.repl s z es))) /\
          (new≠[]->(z'=z/\z''=z/\w=z/\i=0/\n=es.length/\k2M new=true/\es.length+new.length<=9223372036854775807/\(es.length+new.length)*bytes<=140737488355328)/\K (.repl s z (es++new)))
       | _=>False)
     | _=>False)
   | _=>False)
 | .slc z x lo hi =>
   (match ev x with
   | .list z' es =>
     (match lo.map ev,hi.map ev with
     | none,some (.int _ b)=>(z'=z/\0<=b/\b<=es.length)/\K (.val (.list z (es.take b.toNat)))
     | some (.int _ a),none=>(z'=z/\0<=a/\a<=es.length)/\K (.val (.list z (es.drop a.toNat)))
     | some (.int _ a),some (.int _ b)=>(z'=z/\0<=a/\a<=b/\b<=es.length)/\K (.val (.list z ((es.take b.toNat).drop a.toNat)))
     | none,none=>z'=z/\K (.val (.list z es))
     | _,_=>False)
   | _=>False)
 | .mk z bytes zero l c =>
   (match ev l,ev c with
   | .int .i64 l,.int .i64 c=>(0<=l/\l<=c/\c<=9223372036854775807/\c*bytes<=140737488355328)/\K (.new (some l.toNat) z (List.replicate l.toNat zero))
   | _,_=>False)
 | .ext x i=>(match ev x with | .tuple vs=>i<vs.length/\K (.val (vs.getD i .any))|_=>False)
 | .mkf fn first caps=>K (.val (.func fn (evs ev first) (evs ev caps)))
 | .call _ _=>False
 | .mkm=>K (.new (some 0) 0 [])
 | .look g n os zero ok x k =>
   (match ev x with
   | .mapr s=>(match h[s]? with
     | some (.live 0 es)=>(match k2S g n (ev k),k64 g n os es (ev k) with
       | some _,some r=>K (.val (k98 ok zero r))
       | _,_=>False)
     | _=>False)
   | _=>False)
 | .mput g n os x k v =>
   (match ev x with
   | .mapr s=>(match h[s]? with
     | some (.live 0 es)=>(match k2S g n (ev k),kM8 g n os es (ev k) (ev v) with
       | some _,some fs=>K (.upd s 0 fs)
       | _,_=>False)
     | _=>False)
   | _=>False)
 | .slcS x lo hi =>
   (match ev x with
   | .str s =>
     (match lo.map ev,hi.map ev with
     | none,some (.int _ b)=>(0<=b/\b<=s.size)/\K (.val (.str (s.extract 0 b.toNat)))
     | some (.int _ a),none=>(0<=a/\a<=s.size)/\K (.val (.str (s.extract a.toNat s.size)))
     | some (.int _ a),some (.int _ b)=>(0<=a/\a<=b/\b<=s.size)/\K (.val (.str (s.extract a.toNat b.toNat)))
     | none,none=>K (.val (.str (s.extract 0 s.size)))
     | _,_=>False)
   | _=>False)
 | .toS x =>
   (match ev x with
   | .list z es=>∃s,(z=1/\es=k13 s)/\K (.val (.str s))
   | .sl q z i n=>(match h[q]? with|some (.live z' es)=>∃s,(z=1/\z'=1/\i+n<=es.length/\(es.drop i).take n=k13 s)/\K (.val (.str s))|_=>False)
   | .nils=>K (.val (.str .empty))
   | .emp=>K (.val (.str .empty))
   | _=>False)
 | .bemp=>K (.val .emp)
 | .ofS x=>(match ev x with | .str s=>K (.new (some s.size) 1 (k13 s))|_=>False)
 | .xop _ _ _=>False
def AV.ofCell:Value->AV
 | .bool b=>.bool b
 | .int k n=>.int k n
 | .string s=>.str s
 | .pointer none=>.nilp
 | .slice none 0 0=>.nils
 | .nilFunc=>.nilFunc
 | .nilIface=>.nilIface
 | _=>.any
def AV.ofVal:Value->AV
 | .agg cs=>.agg (cs.toList.map AV.ofCell)
 | .tuple cs=>.tuple (cs.toList.map AV.ofCell)
 | v=>AV.ofCell v
def kRB:List (Nat×List AV)->Nat->Option (List AV)
 | [],_=>none
 | (k,cs)::l,g=>(match Nat.beq k g with|true=>some cs|false=>kRB l g)
def k0C:Operand->Option k0B
 | .tmp t=>some (.tmp t)
 | .const v=>some (.const (AV.ofVal v))
 | .func f=>some (.func f)
 | .global g=>(match kRB gs g with|some cs=>some (.const (.cref cs))|none=>none)
def k1X:List Operand->Option (List k0B)
 | []=>some []
 | x::xs =>
   match k0C x,k1X xs with
   | some y,some ys=>some (y::ys)
   | _,_=>none
def kDP:Option Operand->Option (Option k0B)
 | none=>some none
 | some x=>(k0C x).map some
def k7W(sz:Nat->Option (Nat×Nat)):List (Nat×Operand)->Option (List (Nat×Nat×k0B))
 | []=>some []
 | (i,x)::ps =>
   match sz i,k0C x,k7W sz ps with
   | some (o,k),some y,some r=>some ((o,k,y)::r)
   | _,_,_=>none
variable (P:Program)
def k3O(t:TypeId):Option Nat:=(P.info? t).map (·.size)
def k19(t:TypeId):Option Bool:=
 match P.underlying t with
 | some (.struct _)=>some true
 | some (.array _ _)=>some true
 | some _=>some false
 | none=>none
def k4W(t:TypeId):Option (List AV):=
 match P.info? t with
 | some i=>(match i.zero with|some z=>some (z.cells.toList.map AV.ofCell)|none=>none)
 | none=>none
def kH9(t:TypeId)(n k:Nat):Bool:=match k3O P t with|some K=>decide (n*k<=K)|none=>false
def kUS(t:TypeId)(fs:List Field):Bool:=fs.all λf=>match k3O P f.type,k3O P t with|some k,some K=>decide (f.offset+k<=K)|_,_=>false
def kEG(n:Nat)(l:List (Nat×Nat)):List (Nat×Nat):=l.map λp=>(n+p.1,p.2)
def k5N(L:TypeId->Option (List (Nat×Nat))):List Field->Option (List (Nat×Nat))
 | []=>some []
 | f::fs =>
   match L f.type,k5N L fs with
   | some a, some b => if f.name ≠ "_" then some (kEG f.offset a ++ b) else none
   | _,_=>none
def k1J:Nat->TypeId->Option (List (Nat×Nat))
 | 0,_=>none
 | m+1,t =>
   match P.underlying t with
   | some .bool=>some [(0,0)]
   | some (.int _)=>some [(0,1)]
   | some .string=>some [(0,2)]
   | some (.struct fs)=>if P.stoodInHeld t=false/\kUS P t fs.toList=true then k5N (λu=>match k1J m u,k3O P u with|some os,some k=>if os.all (λo=>decide (o.1<k))=true/\(k19 P u=some true\/k=1) then some os else none|_,_=>none) fs.toList else none
   | some (.array n e) =>
     (match k1J m e,k3O P e with
     | some os,some k=>if os.all (λo=>decide (o.1<k))=true/\(k19 P e=some true\/k=1)/\kH9 P t n k=true then some ((List.range n).flatMap λi=>kEG (i*k) os) else none
     | _,_=>none)
   | _=>none
def kD2(fs:Array Field):Option (List (Nat×Nat)):=fs.toList.mapM (λf=>(P.info? f.type).map λi=>(f.offset,i.size))
def k7Q(s:TypeId)(f:Nat):Option (Nat×Nat×Bool):=
 match P.underlying s with
 | some (.struct fs) =>
   match fs[f]? with
   | some f =>
     match k3O P f.type,k19 P f.type with
     | some k,some g=>some (f.offset,k,g)
     | _,_=>none
   | none=>none
 | _=>none
def kTJ(c:Call):Option k0B:=
 match c.callee,c.args.toList,c.argTypes.toList with
 | .builtin .len,[x],[t]=>(match P.underlying t with|some (.map _ _)=>k0C x|_=>none)
 | _,_,_=>none
def kTZ(c:Call):Option (List k0B):=
 match c.callee,c.args.toList with
 | .builtin .copy,[x,y]=>k1X [x,y]
 | _,_=>none
def k3B(c:Call)(type:TypeId):Option AOp:=
 match c.callee with
 | .value f=>(match k0C f,k1X c.args.toList with|some g,some xs=>some (.call g xs)|_,_=>none)
 | .invoke _ _=>none
 | .builtin b =>
   match b,c.args.toList,c.argTypes.toList with
   | .len,[x],[t] =>
     (match P.underlying t with
     | some (.array n _)=>some (.lenc n)
     | some (.slice _)=>(k0C x).map .lenx
     | some .string=>(k0C x).map .lens
     | _=>none)
   | .max,x::xs,_=>(match k0C x,k1X xs with|some y,some ys=>some (.mm true y ys)|_,_=>none)
   | .min,x::xs,_=>(match k0C x,k1X xs with|some y,some ys=>some (.mm false y ys)|_,_=>none)
   | .append,[x,y],[t,u] =>
     (match P.underlying t with
     | some (.slice e)=>if t=u then
        (match P.info? e with
        | some i=>if i.zero.isSome && decide (0<i.size) && decide ((i.zero.map (·.cells.size))=some i.size) then (match k0C x,k0C y with|some a,some b=>some (.app i.size i.bytes a b)|_,_=>none) else none
        | none=>none) else none
     | _=>none)
   | _,_,_=>none
def k3R(t:TypeId):Option (Bool×Nat×List (Nat×Nat)):=
 match k19 P t,k3O P t,k1J P 8 t with
 | some g,some n,some os=>if (g=true\/n=1)/\os.map (·.1)=List.range n then some (g,n,os) else none
 | _,_,_=>none
def kHF(t:TypeId):Option AV:=
 match P.info? t with
 | some i=>(match i.zero with|some z=>some (AV.ofVal z)|none=>none)
 | none=>none
def k1F(o:Op)(type:TypeId):Option AOp:=
 match o with
 | .move x=>(k0C x).map .mv
 | .assign x=>(k0C x).map .mv
 | .pick c a b=>(match k0C c,k0C a,k0C b with|some c,some a,some b=>some (.pick c a b)|_,_,_=>none)
 | .alloc e=>(match k4W P e,k3O P e with|some zs,some k=>if zs.length=k/\0<k/\k2P zs=true then some (.new k zs) else none|_,_=>none)
 | .box e x=>(match k0C x,k3O P e with|some x,some k=>if 0<k then some (.box k x) else none|_,_=>none)
 | .build t parts =>
   (match P.underlying t,k4W P t with
   | some (.struct fs),some zs=>(match kD2 P fs with|some pl=>(k7W (pl.toArray[·]?) parts.toList).map (.build zs)|none=>none)
   | some (.array _ e),some zs=>(match k3O P e with|some k=>(k7W (λi=>some (i*k,k)) parts.toList).map (.build zs)|none=>none)
   | _,_=>none)
 | .buildSlice t n parts =>
   (match P.underlying t with
   | some (.slice e)=>(match k4W P e,k3O P e with
     | some zs,some k=>if n=0/\zs.length=k/\parts.size=0 then some .bemp else if zs.length=k/\0<k/\0<n/\n*k<=16777216 then (k7W (λi=>some (i*k,k)) parts.toList).map (.bslice k n zs) else none
     | _,_=>none)
   | _=>none)
 | .load t a=>(match k19 P t,k3O P t,k0C a with|some g,some k,some a=>if (g=true\/k=1)/\0<k then some (.load g k a) else none|_,_,_=>none)
 | .store t a x=>(match k3O P t,k0C a,k0C x with|some k,some a,some x=>if 0<k then some (.store k a x) else none|_,_,_=>none)
 | .nilCheck x=>(k0C x).map .nilc
 | .binOp op t x y _ =>
   (match k0C x,k0C y with
   | some x,some y =>
     (match P.underlying t with
     | some (.int _)=>some (.bin op x y)
     | some .string=>some (.bin op x y)
     | some .bool=>(match op with | .eql=>some (.eqb false x y) | .neq=>some (.eqb true x y)|_=>none)
     | some (.struct _)=>(match op,k3O P t,k1J P 8 t with | .eql,some n,some os=>some (.eqs false n os x y) | .neq,some n,some os=>some (.eqs true n os x y)|_,_,_=>none)
     | some (.array _ _)=>(match op,k3O P t,k1J P 8 t with | .eql,some n,some os=>some (.eqs false n os x y) | .neq,some n,some os=>some (.eqs true n os x y)|_,_,_=>none)
     | _=>none)
   | _,_=>none)
 | .unOp op _ x=>(k0C x).map (.un op)
 | .convert s d x =>
   (match P.underlying s,P.underlying d with
   | some (.int _),some (.int k)=>(k0C x).map (.conv k)
   | some .string,some .string=>(k0C x).map .mvs
   | some (.slice e),some .string=>(match P.underlying e with|some (.int .u8)=>(k0C x).map .toS|_=>none)
   | some .string,some (.slice e)=>(match P.underlying e with|some (.int .u8)=>(k0C x).map .ofS|_=>none)
   | some (.slice e),some (.slice _)=>(match Nat.beq s d,P.underlying e with|true,some (.int .u8)=>(k0C x).map λy=>.xop (.convert s d x) type [y]|_,_=>none)
   | _,_=>none)
 | .fieldAddr s x f =>
   (match k7Q P s f,k0C x with
   | some (off,k,g),some x=>if 0<k then some (.fadr off x) else none
   | _,_=>none)
 | .field s x f =>
   (match k7Q P s f,k0C x with
   | some (off,k,g),some x=>if g=true\/k=1 then some (.fld g off k x) else none
   | _,_=>none)
 | .indexAddr t x i =>
   (match P.underlying t,k0C x,k0C i with
   | some (.array n e),some x,some i=>(k3O P e).map λk=>.iadA n k x i
   | some (.slice e),some x,some i=>(match k3O P e with|some k=>if 0<k then some (.iadS k x i) else none|none=>none)
   | _,_,_=>none)
 | .index t x i =>
   (match P.underlying t,k0C x,k0C i with
   | some (.array n e),some x,some i=>(match k3O P e,k19 P e with|some k,some g=>if g=true\/k=1 then some (.idx g n k x i) else none|_,_=>none)
   | some .string,some x,some i=>some (.idxStr x i)
   | _,_,_=>none)
 | .slice t x lo hi none =>
   (match P.underlying t with
   | some (.slice e)=>(match k3O P e,k0C x,kDP lo,kDP hi with|some k,some x,some lo,some hi=>some (.slc k x lo hi)|_,_,_,_=>none)
   | some .string=>(match k0C x,kDP lo,kDP hi with|some x,some lo,some hi=>some (.slcS x lo hi)|_,_,_=>none)
   | _=>none)
 | .makeSlice t l c =>
   (match P.underlying t with
   | some (.slice e)=>(match P.info? e,k4W P e,k0C l,k0C c with
     | some i,some zs,some l,some c=>if zs.length=i.size/\0<i.size then some (.mk i.size i.bytes zs l c) else none
     | _,_,_,_=>none)
   | _=>none)
 | .extract x i=>(k0C x).map λy=>.ext y i
 | .makeFunc fn first caps=>(match k1X first.toList,k1X caps.toList with|some a,some b=>some (.mkf fn a b)|_,_=>none)
 | .call c=>(match kTJ P c with|some y=>some (.xop (.call c) type [y])|none=>(match kTZ c with|some ys=>some (.xop (.call c) type ys)|none=>k3B P c type))
 | .makeMap _ none=>some .mkm
 | .lookup t x k ok =>
   (match P.underlying t,k0C x,k0C k with
   | some (.map kt et),some x,some k=>(match k3R P kt,kHF P et with
     | some (g,n,os),some z=>some (.look g n os z ok x k)
     | _,_=>none)
   | _,_,_=>none)
 | .mapUpdate t x k v =>
   (match P.underlying t,k0C x,k0C k,k0C v with
   | some (.map kt _),some x,some k,some v=>(match k3R P kt with
     | some (g,n,os)=>some (.mput g n os x k v)
     | none=>none)
   | _,_,_,_=>none)
 | .range t x=>(k0C x).map λy=>.xop (.range t x) type [y]
 | .next x s=>(k0C x).map λy=>.xop (.next x s) type [y]
 | .entry x=>(k0C x).map λy=>.xop (.entry x) type [y]
 | _=>none
end Go.Eng
namespace Go.Eng
open Go Go.RowKit
def kES:Next->Option Value
 | .value v=>some v
 | .skip=>some undef
 | _=>none
def kSX(h k:k00):Prop:=∀(s z:Nat) (es:List (List AV)),h[s]?=some (.live z es)->k[s]?=some (.live z es)
def kJ2(c:Cfg)(ev:k0B->AV)(e:Operand->Value):Prop:=∀x y,k0C x=some y->VR c (ev y) (e x)
def k0A(P:Program)(o:Oper)(ev:k0B->AV)(h:k00)(r:Res):Prop:=
 ∀(c:Cfg) (e:Operand->Value),Rel c->kSX h c.h->kJ2 c ev e->∀t h',¬c.used t->r.heap t c.h h' ->
  ∃nx cv d,(execOp e o).run P c.w = .ok nx d.w/\kES nx=some cv/\Rel d/\Ext c.h.length c d/\d.h=h'/\VR d (r.at t) cv
theorem k0A.val{P:Program}{o:Oper}{ev:k0B->AV}{h:k00}{v:AV}
 (H:∀(c:Cfg) (e:Operand->Value),Rel c->kSX h c.h->kJ2 c ev e->∃cv,(execOp e o).run P c.w = .ok (.value cv) c.w/\VR c v cv):k0A P o ev h (.val v):=by
 intro c e R hs he t h' ht hh;obtain⟨cv,h1,h2⟩:=H c e R hs he;have hh:h'=c.h:=hh;subst hh;exact⟨.value cv,cv,c,h1,rfl,R,Ext.refl _ _,rfl,h2⟩
theorem k56(c:Cfg)(v:Value):VR c (AV.ofCell v) v:=by
 unfold AV.ofCell;split
 ·exact .bool _
 ·exact .int _ _
 ·exact .str _
 ·exact .nilp
 ·exact .nils
 ·exact .nilFunc
 ·exact .nilIface
 ·exact .any _
theorem kD5(c:Cfg)(v:Value):VR c (AV.ofVal v) v:=by
 unfold AV.ofVal;split
 ·rename_i cs
  refine .agg _ _ (by simp) λi x hx=>?_;rw[List.getElem?_map] at hx
  cases hi:cs[i]? with
  | none=>simp[hi] at hx
  | some u =>
    simp[hi] at hx;subst hx;simpa[Array.getD_eq_getD_getElem?,hi] using k56 c u
 ·rename_i cs
  refine .tuple _ _ (by simp) λi x hx=>?_;rw[List.getElem?_map] at hx
  cases hi:cs[i]? with
  | none=>simp[hi] at hx
  | some u =>
    simp[hi] at hx;subst hx;simpa[Array.getD_eq_getD_getElem?,hi] using k56 c u
 ·exact k56 c _
theorem VR.bool'{c:Cfg}{b:Bool}{v:Value}(h:VR c (.bool b) v):v = .bool b:=by cases h;rfl
theorem VR.int'{c:Cfg}{k:IntKind}{n:Int}{v:Value}(h:VR c (.int k n) v):v = .int k n:=by cases h;rfl
theorem VR.str'{c:Cfg}{s:ByteArray}{v:Value}(h:VR c (.str s) v):v = .string s:=by cases h;rfl
theorem VR.nilp'{c:Cfg}{v:Value}(h:VR c .nilp v):v = .pointer none:=by cases h;rfl
theorem VR.emp'{c:Cfg}{v:Value}(h:VR c .emp v):∃a,v = .slice (some a) 0 0:=by cases h with|emp a=>exact⟨a,rfl⟩
theorem VR.nils'{c:Cfg}{v:Value}(h:VR c .nils v):v = .slice none 0 0:=by cases h;rfl
theorem VR.agg'{c:Cfg}{cs:List AV}{v:Value}(h:VR c (.agg cs) v):∃vs,v = .agg vs/\VRs c cs vs:=by
 cases h with|agg _ vs hl h=>exact⟨vs,rfl,hl,h⟩
theorem VR.tuple'{c:Cfg}{cs:List AV}{v:Value}(h:VR c (.tuple cs) v):∃vs,v = .tuple vs/\VRs c cs vs:=by
 cases h with|tuple _ vs hl h=>exact⟨vs,rfl,hl,h⟩
theorem k5W(b o n:Nat):Addr.add ⟨b,o,none⟩ n=⟨b,o+n,none⟩:=by
 unfold Addr.add;split
 ·subst_vars;rfl
 ·rfl
theorem k8W(a:Addr)(n:Nat)(h:a.spot=none):a.add n=⟨a.block,a.off+n,none⟩:=by
 obtain⟨b,o,s⟩:=a;simp only at h;subst h;exact k5W _ _ _
theorem VR.ref'{c:Cfg}{s z i o:Nat}{v:Value}(h:VR c (.ref s z i o) v):c.used s/\v = .pointer (some ⟨c.r s,i*z+o,none⟩):=by cases h;exact⟨‹_›,rfl⟩
theorem VR.cref'{c:Cfg}{cs:List AV}{v:Value}(h:VR c (.cref cs) v):∃a,v = .pointer (some a)/\∀n,VR c (.cref (cs.drop n)) (.pointer (some (a.add n))):=by
 cases h with
 | cref _ a f ha hcell hown hv =>
   refine⟨a,rfl,λn=>?_⟩;rw[k8W a n ha];refine .cref _ _ (λj=>f (n+j)) rfl (λj hj=>?_) (λhl=>hown (by simp at hl;omega)) λj x hx=>hv (n+j) x (by simpa using hx);have:=hcell (n+j) (by simp at hj;omega);simpa[Nat.add_assoc] using this
theorem VR.crefs{c:Cfg}{cs:List AV}{v:Value}(h:VR c (.cref cs) v):∃(a:Addr) (f:Nat->Value),v = .pointer (some a)/\a.spot=none/\(∀j,j<cs.length->c.w.cell? ⟨a.block,a.off+j,none⟩=some (f j)) /\
 (0<cs.length->¬c.own a.block)/\∀(j:Nat) (x:AV),cs[j]?=some x->VR c x (f j):=by
 cases h with
 | cref _ a f ha hcell hown hv=>exact⟨a,f,rfl,ha,hcell,hown,hv⟩
theorem VR.func'{c:Cfg}{fn:Fn}{a b:List AV}{v:Value}(h:VR c (.func fn a b) v):∃vf vc,v = .func fn vf vc/\VRs c a vf/\VRs c b vc:=by
 cases h with|func _ _ _ vf vc hf hc h1 h2=>exact⟨vf,vc,rfl,⟨hf,h1⟩,⟨hc,h2⟩⟩
theorem VR.iface'{c:Cfg}{t:TypeId}{x:AV}{v:Value}(h:VR c (.iface t x) v):∃u,v = .iface t u/\VR c x u:=by
 cases h with|iface _ _ v h=>exact⟨v,rfl,h⟩
theorem VR.cell{c:Cfg}{x:AV}{v:Value}(h:VR c x v)(hx:x.isCell=true):v.oneCell'=true:=by
 cases h<;>first|rfl|(simp[AV.isCell] at hx)
theorem VR.cells{c:Cfg}{x:AV}{v:Value}{cs:List AV}(h:VR c x v)(hx:x.cellsOf=some cs):VRs c cs v.cells:=by
 cases h<;>simp only[AV.cellsOf,Option.some.injEq,reduceCtorEq] at hx<;>subst hx<;>first
  | (refine⟨rfl,λi y hy=>?_⟩;cases i with
    | zero=>(simp only[List.getElem?_cons_zero,Option.some.injEq] at hy;subst hy;simp only[Value.cells];first|exact .bool _|exact .int _ _|exact .str _|exact .nilp|exact .nils|exact .nilFunc|exact .nilIface|exact .listNil _ _ _|(constructor<;>assumption))
    | succ i=>simp at hy)
  | (rename_i hl h;exact⟨hl,h⟩)
theorem k5T:∀ {cs:List AV} {i:Nat} {x:AV},k2P cs=true->cs[i]?=some x->x.isCell=true
 | [],i,x,_,h=>by simp at h
 | c::cs,0,x,hb,h=>by
   simp only[List.getElem?_cons_zero,Option.some.injEq] at h;subst h;simp only[k2P,Bool.and_eq_true] at hb;exact hb.1
 | c::cs,i+1,x,hb,h=>by
   simp only[k2P,Bool.and_eq_true] at hb;exact k5T hb.2 (by simpa using h)
theorem VRs.oneCell{c:Cfg}{cs:List AV}{vs:Array Value}(h:VRs c cs vs)(hk:k2P cs=true):∀v,v∈vs.toList->v.oneCell'=true:=by
 intro v hv;obtain⟨i,hi⟩:=List.mem_iff_getElem?.1 hv
 have hlt:i<cs.length:=by
  have:=(List.getElem?_eq_some_iff.1 hi).1;rw[<- h.1];simpa using this
 have hx:cs[i]?=some cs[i]:=by simp[hlt]
 have:=h.2 i _ hx
 have hg:vs.getD i undef=v:=by
  rw[Array.getD_eq_getD_getElem?];have:vs[i]?=some v:=(by simpa using hi);simp[this]
 rw[hg] at this;exact this.cell (k5T hk hx)
theorem kJ2.opnds{c:Cfg}{ev:k0B->AV}{e:Operand->Value}(he:kJ2 c ev e):∀ {xs:List Operand} {ys:List k0B},k1X xs=some ys->VRs c (evs ev ys) (xs.map e).toArray
 | [],ys,h=>by simp only[k1X,Option.some.injEq] at h;subst h;exact⟨rfl,λi x hx=>by simp[evs] at hx⟩
 | x::xs,ys,h=>by
   simp only[k1X] at h;split at h
   ·rename_i y ys' hy hys
    simp only[Option.some.injEq] at h;subst h;have ih:=he.opnds hys;refine⟨by simpa[evs] using ih.1,λi v hv=>?_⟩
    cases i with
    | zero=>simp only[evs,List.map_cons,List.getElem?_cons_zero,Option.some.injEq] at hv;subst hv;exact he x y hy
    | succ i =>
      have:=ih.2 i v (by simpa[evs] using hv);simpa[Array.getD_eq_getD_getElem?] using this
   ·cases h
section
variable {P:Program}
theorem k0L{t:TypeId}{d:TypeDesc}(w:World)(h:P.underlying t=some d):(underlying t).run P w = .ok d w:=by simp[underlying,h]
theorem kCV{t:TypeId}{i:TypeInfo}(w:World)(h:P.info? t=some i):(typeInfo t).run P w = .ok i w:=by simp[typeInfo,h]
theorem k3E{t:TypeId}{k:Nat}(w:World)(h:k3O P t=some k):(sizeOf t).run P w = .ok k w:=by
 unfold k3O at h
 cases hi:P.info? t with
 | none=>simp[hi] at h
 | some i=>simp[hi] at h;subst h;simp[sizeOf,typeInfo,hi]
theorem kCW{t:TypeId}{g:Bool}(w:World)(h:k19 P t=some g):(isAgg t).run P w = .ok g w:=by
 unfold k19 at h;split at h
 ·rename_i hu;simp at h;subst h;simp[isAgg,k0L w hu]
 ·rename_i hu;simp at h;subst h;simp[isAgg,k0L w hu]
 ·rename_i d h1 h2 hu
  simp at h;subst h;simp only[isAgg,Sem.run_bind,k0L w hu,Result.andThen_ok];rfl
 ·cases h
theorem kQ9{t:TypeId}{zs:List AV}(w:World)(h:k4W P t=some zs):∃z,(zeroValue t).run P w = .ok z w/\zs=z.cells.toList.map AV.ofCell:=by
 unfold k4W at h;split at h
 ·rename_i i hi
  split at h
  ·rename_i z hz
   simp only[Option.some.injEq] at h;exact⟨z,by simp[zeroValue,typeInfo,hi,hz],h.symm⟩
  ·cases h
 ·cases h
theorem k5F(c:Cfg)(z:Array Value):VRs c (z.toList.map AV.ofCell) z:=by
 refine⟨by simp,λi x hx=>?_⟩;rw[List.getElem?_map] at hx
 cases hi:z[i]? with
 | none=>simp[hi] at hx
 | some u =>
   simp[hi] at hx;subst hx;simpa[Array.getD_eq_getD_getElem?,hi] using k56 c u
theorem k4I{t:TypeId}{g:Bool}{k:Nat}(c:Cfg){cs:List AV}{vs:Array Value}(hg:k19 P t=some g)(hk:k3O P t=some k)(hgk:g=true\/k=1)(h:VRs c cs vs)(o:Nat)(ho:o+k<=cs.length) :
 ∃cv,(part t vs o).run P c.w = .ok cv c.w/\VR c (k1S g k cs o) cv:=by
 cases g with
 | true =>
   refine⟨.agg (vs.extract o (o+k)),by simp[part,kCW c.w hg,k3E c.w hk],?_⟩;refine .agg _ _ ?_ λi x hx=>?_
   ·have:=h.1
    simp;omega
   ·have hik:i<k:=by
     have:=(List.getElem?_eq_some_iff.1 hx).1;simp at this;omega
    have hx':cs[o+i]?=some x:=by
     rw[List.getElem?_take] at hx;simpa[hik] using hx
    have:=h.2 (o+i) x hx';have hoi:o+i<vs.size:=(by rw[h.1];omega);simp only[Array.getD_eq_getD_getElem?] at this ⊢;rw[Array.getElem?_extract];rw[if_pos (by omega)];exact this
 | false =>
   have hk1:k=1:=(by simpa using hgk);subst hk1;have hx:cs[o]?=some cs[o]:=(by simp[show o<cs.length by omega]);have hv:=h.2 o _ hx;have hlt:o<vs.size:=(by rw[h.1];omega);refine⟨vs[o],by simp[part,kCW c.w hg,hlt],?_⟩;simp only[k1S,Bool.false_eq_true,if_false];have e1:cs.getD o .any=cs[o]:=(by simp[List.getD_eq_getElem?_getD,show o<cs.length by omega]);have e2:vs.getD o undef=vs[o]:=(by simp[Array.getD_eq_getD_getElem?,hlt]);rw[e1,<- e2];exact hv
theorem kAJ{t:TypeId}{g:Bool}{k:Nat}(c:Cfg){cs:List AV}{f:Nat->Value}(a:Addr)(ha:a.spot=none)(hg:k19 P t=some g)(hk:k3O P t=some k)(hgk:g=true\/k=1)
 (o:Nat) (ho:o+k<=cs.length) (hcell:∀j,j<k->c.w.cell? ⟨a.block,a.off+j,none⟩=some (f j)) (hv:∀(j:Nat) (x:AV),j<k->cs[o+j]?=some x->VR c x (f j)) :
 ∃cv,(Instr.loadAt t (.pointer (some a))).run P c.w = .ok cv c.w/\VR c (k1S g k cs o) cv:=by
 have hadd:∀j,(a.add j)=⟨a.block,a.off+j,none⟩:=λj=>by
  obtain⟨b,o',s⟩:=a;simp only at ha;subst ha;unfold Addr.add;split<;>simp_all
 cases g with
 | true =>
   have hl:=run_loadCells (P:=P) c.w a k f (λj hj=>by rw[hadd];exact hcell j hj);refine⟨.agg ((List.range k).map f).toArray,by simp[Instr.loadAt,Instr.sureAddr,loadVar,kCW c.w hg,k3E c.w hk,hl],?_⟩;refine .agg _ _ (by simp;omega) λi x hx=>?_
   have hik:i<k:=by
    have:=(List.getElem?_eq_some_iff.1 hx).1;simp at this;omega
   have hx':cs[o+i]?=some x:=by
    rw[List.getElem?_take] at hx;simpa[hik] using hx
   have:=hv i x hik hx';simpa[Array.getD_eq_getD_getElem?,hik] using this
 | false =>
   have hk1:k=1:=(by simpa using hgk);subst hk1;have h0:=hcell 0 (by omega)
   have h0':c.w.cell? a=some (f 0):=by
    have:=hadd 0;simp[Addr.add] at this;rw[this];exact h0
   refine⟨f 0,by simp[Instr.loadAt,Instr.sureAddr,loadVar,kCW c.w hg,h0'],?_⟩;simp only[k1S,Bool.false_eq_true,if_false];have e1:cs.getD o .any=cs[o]:=(by simp[List.getD_eq_getElem?_getD,show o<cs.length by omega]);rw[e1];exact hv 0 _ (by omega) (by simp[show o<cs.length by omega])
end
variable {P:Program} {o:Oper} {ev:k0B->AV} {h:k00}
theorem kT3{x:Operand}{y:k0B}(ho:o.op = .move x\/o.op = .assign x)(hx:k0C x=some y):k0A P o ev h (.val (ev y)):=by
 refine k0A.val λc e R hs he=>⟨e x,?_,he x y hx⟩;rcases ho with ho|ho<;>simp[execOp,ho]
theorem kPV{x a b:Operand}{x' a' b':k0B}{t:Bool}(ho:o.op = .pick x a b)(hx:k0C x=some x')(ha:k0C a=some a')(hb:k0C b=some b')(hv:ev x' = .bool t) :
 k0A P o ev h (.val (if t then ev a' else ev b')):=by
 refine k0A.val λc e R hs he=>⟨if t then e a else e b,?_,?_⟩
 ·have:=(hv▸he x x' hx:VR c (.bool t) (e x)).bool'
  simp[execOp,ho,this,asBool]
 ·cases t
  ·exact he b b' hb
  ·exact he a a' ha
theorem kZC{op:UnOp}{t:TypeId}{x:Operand}{y:k0B}{K:Res->Prop}(ho:o.op = .unOp op t x)(hx:k0C x=some y)(hK:k0T (.un op y) ev h K):∃r,K r/\k0A P o ev h r:=by
 simp only[k0T] at hK;split at hK
 ·rename_i k n hy
  refine⟨_,hK,k0A.val λc e R hs he=>⟨_,?_,.int _ _⟩⟩;have:=(hy▸he x y hx:VR c _ (e x)).int';simp[execOp,ho,this,Op.unary,Op.intArith]
 ·rename_i b hy
  refine⟨_,hK,k0A.val λc e R hs he=>⟨_,?_,.bool _⟩⟩;have:=(hy▸he x y hx:VR c _ (e x)).bool';simp[execOp,ho,this,Op.unary]
 ·rename_i k n hy
  refine⟨_,hK,k0A.val λc e R hs he=>⟨_,?_,.int _ _⟩⟩;have:=(hy▸he x y hx:VR c _ (e x)).int';simp[execOp,ho,this,Op.unary,Op.intBits]
 ·exact hK.elim
theorem kQ6{s d:TypeId}{k0 k:IntKind}{x:Operand}{y:k0B}{K:Res->Prop}(ho:o.op = .convert s d x)(hs:P.underlying s=some (.int k0))(hd:P.underlying d=some (.int k))(hx:k0C x=some y)
 (hK:k0T (.conv k y) ev h K):∃r,K r/\k0A P o ev h r:=by
 simp only[k0T] at hK;split at hK
 ·rename_i k' n hy
  refine⟨_,hK,k0A.val λc e R hsub he=>⟨_,?_,.int _ _⟩⟩;have:=(hy▸he x y hx:VR c _ (e x)).int';simp[execOp,ho,this,convert,k0L c.w hs,k0L c.w hd,Conv.intToInt]
 ·exact hK.elim
theorem kLS{s d:TypeId}{x:Operand}{y:k0B}{K:Res->Prop}(ho:o.op = .convert s d x)(hs:P.underlying s=some .string)(hd:P.underlying d=some .string)(hx:k0C x=some y)
 (hK:k0T (.mvs y) ev h K):∃r,K r/\k0A P o ev h r:=by
 simp only[k0T] at hK;split at hK
 ·rename_i n hy
  refine⟨_,hK,k0A.val λc e R hsub he=>⟨_,?_,.str _⟩⟩;have:=(hy▸he x y hx:VR c _ (e x)).str';simp[execOp,ho,this,convert,k0L c.w hs,k0L c.w hd]
 ·exact hK.elim
theorem kB0(op:BinOp)(t:TypeId)(x y:Operand)(k:IntKind)(a:Int)(v:Value):eqGuard op t x y (.int k a) v=pure ():=by cases op<;>rfl
theorem kAZ(op:BinOp)(t:TypeId)(x y:Operand)(a:ByteArray)(v:Value):eqGuard op t x y (.string a) v=pure ():=by cases op<;>rfl
theorem kFA(op:BinOp)(t:TypeId)(x y:Operand)(a:Bool)(v:Value):eqGuard op t x y (.bool a) v=pure ():=by cases op<;>rfl
theorem kLT{op:BinOp}{t u:TypeId}{x y:Operand}{x' y':k0B}{K:Res->Prop}(ho:o.op = .binOp op t x y u)(hx:k0C x=some x')(hy:k0C y=some y')(hK:k0T (.bin op x' y') ev h K) :
 ∃r,K r/\k0A P o ev h r:=by
 simp only[k0T] at hK;split at hK
 ·rename_i k a k' b hxa hyb
  have finI:∀n,(∀w:World,(binOp op t (.int k a) (.int k' b)).run P w = .ok (.int k n) w)->k0A P o ev h (.val (.int k n)):=by
   intro v hv;refine k0A.val λc e R hs he=>⟨_,?_,.int _ _⟩;have h1:=(hxa▸he x x' hx:VR c _ (e x)).int';have h2:=(hyb▸he y y' hy:VR c _ (e y)).int';simp[execOp,ho,h1,h2,kB0,hv]
  have finB:∀n,(∀w:World,(binOp op t (.int k a) (.int k' b)).run P w = .ok (.bool n) w)->k0A P o ev h (.val (.bool n)):=by
   intro v hv;refine k0A.val λc e R hs he=>⟨_,?_,.bool _⟩;have h1:=(hxa▸he x x' hx:VR c _ (e x)).int';have h2:=(hyb▸he y y' hy:VR c _ (e y)).int';simp[execOp,ho,h1,h2,kB0,hv]
  split at hK
  ·rename_i hsh
   cases op<;>simp only[AOp.isShift,Bool.false_eq_true] at hsh<;>simp only[kBZ] at hK<;>obtain⟨h0,hK⟩:=hK <;>
    exact⟨_,hK,finI _ (λw=>by simp[binOp,Op.shift,Int.not_lt.2 h0])⟩
  ·rename_i hsh
   obtain⟨rfl,hK⟩:=hK
   cases op<;>simp only[AOp.isShift,not_true_eq_false] at hsh<;>simp only[kYR] at hK
   case add=>exact⟨_,hK,finI _ (λw=>by simp[binOp,Op.intArith])⟩
   case sub=>exact⟨_,hK,finI _ (λw=>by simp[binOp,Op.intArith])⟩
   case mul=>exact⟨_,hK,finI _ (λw=>by simp[binOp,Op.intArith])⟩
   case quo=>exact⟨_,hK.2,finI _ (λw=>by simp[binOp,Op.intDiv,hK.1])⟩
   case rem=>exact⟨_,hK.2,finI _ (λw=>by simp[binOp,Op.intDiv,hK.1])⟩
   case and=>exact⟨_,hK,finI _ (λw=>by simp[binOp,Op.intBits])⟩
   case or=>exact⟨_,hK,finI _ (λw=>by simp[binOp,Op.intBits])⟩
   case xor=>exact⟨_,hK,finI _ (λw=>by simp[binOp,Op.intBits])⟩
   case andNot=>exact⟨_,hK,finI _ (λw=>by simp only[binOp,Op.intBits,ne_eq,not_true_eq_false,if_false,Sem.run_pure])⟩
   case eql=>exact⟨_,hK,finB _ (λw=>by simp[binOp,Op.intCmp])⟩
   case neq=>exact⟨_,hK,finB _ (λw=>by simp[binOp,Op.intCmp])⟩
   case lss=>exact⟨_,hK,finB _ (λw=>by simp[binOp,Op.intCmp])⟩
   case leq=>exact⟨_,hK,finB _ (λw=>by simp[binOp,Op.intCmp])⟩
   case gtr=>exact⟨_,hK,finB _ (λw=>by simp[binOp,Op.intCmp])⟩
   case geq=>exact⟨_,hK,finB _ (λw=>by simp[binOp,Op.intCmp])⟩
 ·rename_i a b hxa hyb
  have finB:∀n,(∀w:World,(binOp op t (.string a) (.string b)).run P w = .ok (.bool n) w)->k0A P o ev h (.val (.bool n)):=by
   intro v hv;refine k0A.val λc e R hs he=>⟨_,?_,.bool _⟩;have h1:=(hxa▸he x x' hx:VR c _ (e x)).str';have h2:=(hyb▸he y y' hy:VR c _ (e y)).str';simp[execOp,ho,h1,h2,kAZ,hv]
  have finS:∀n,(∀w:World,(binOp op t (.string a) (.string b)).run P w = .ok (.string n) w)->k0A P o ev h (.val (.str n)):=by
   intro v hv;refine k0A.val λc e R hs he=>⟨_,?_,.str _⟩;have h1:=(hxa▸he x x' hx:VR c _ (e x)).str';have h2:=(hyb▸he y y' hy:VR c _ (e y)).str';simp[execOp,ho,h1,h2,kAZ,hv]
  cases op<;>simp only[kYQ] at hK
  case add =>
   have h1:¬(9223372036854775807<((a.size:Int)+(b.size:Int))):=by have:=hK.1;omega
   exact⟨_,hK.2,finS _ (λw=>by simp[binOp,Op.stringOp,h1])⟩
  case eql=>exact⟨_,hK,finB _ (λw=>by simp only[binOp,Op.stringOp,Sem.run_pure])⟩
  case neq=>exact⟨_,hK,finB _ (λw=>by simp only[binOp,Op.stringOp,Sem.run_pure])⟩
  case lss=>exact⟨_,hK,finB _ (λw=>by simp only[binOp,Op.stringOp,Sem.run_pure])⟩
  case leq=>exact⟨_,hK,finB _ (λw=>by simp only[binOp,Op.stringOp,Sem.run_pure])⟩
  case gtr=>exact⟨_,hK,finB _ (λw=>by simp only[binOp,Op.stringOp,Sem.run_pure])⟩
  case geq=>exact⟨_,hK,finB _ (λw=>by simp only[binOp,Op.stringOp,Sem.run_pure])⟩
  all_goals exact hK.elim
 ·exact hK.elim
theorem kBK{t:TypeId}(ht:P.underlying t=some .bool)(a b:Bool)(w:World)(d:Nat):(Op.equalIn (d+1) t (.bool a) (.bool b)).run P w = .ok (a == b) w:=by
 simp only[Op.equalIn,Sem.run_bind,k0L w ht,Result.andThen_ok,Sem.run_pure]
theorem kLR{op:BinOp}{t u:TypeId}{x y:Operand}{x' y':k0B}{K:Res->Prop}(neq:Bool)(hop:op=if neq then .neq else .eql)(ho:o.op = .binOp op t x y u)(ht:P.underlying t=some .bool)(hx:k0C x=some x')(hy:k0C y=some y')
 (hK:k0T (.eqb neq x' y') ev h K):∃r,K r/\k0A P o ev h r:=by
 simp only[k0T] at hK;split at hK
 ·rename_i a b hxa hyb
  refine⟨_,hK,k0A.val λc e R hs he=>⟨_,?_,.bool _⟩⟩;have h1:=(hxa▸he x x' hx:VR c _ (e x)).bool';have h2:=(hyb▸he y y' hy:VR c _ (e y)).bool'
  have hq:(Op.equal t (.bool a) (.bool b)).run P c.w = .ok (a == b) c.w:=by
   exact kBK ht a b c.w 9999
  cases neq<;>simp only[Bool.false_eq_true,if_false,if_true] at hop<;>subst hop<;>simp[execOp,ho,h1,h2,kFA,binOp,hq]
 ·exact hK.elim
theorem kV6{s:TypeId}{f:Nat}{x:Operand}{y:k0B}{off k:Nat}{g:Bool}{K:Res->Prop}(ho:o.op = .field s x f)(hf:k7Q P s f=some (off,k,g))(hx:k0C x=some y)(hgk:g=true\/k=1)
 (hK:k0T (.fld g off k y) ev h K):∃r,K r/\k0A P o ev h r:=by
 simp only[k0T] at hK;split at hK
 ·rename_i cs hy
  obtain⟨hle,hK⟩:=hK;refine⟨_,hK,k0A.val λc e R hs he=>?_⟩;obtain⟨vs,hvs,hV⟩:=(hy▸he x y hx:VR c _ (e x)).agg';unfold k7Q at hf;split at hf
  ·rename_i fs hu
   split at hf
   ·rename_i fd hfd
    split at hf
    ·rename_i k' g' hk hg
     simp only[Option.some.injEq,Prod.mk.injEq] at hf;obtain⟨rfl,rfl,rfl⟩:=hf;obtain⟨cv,h1,h2⟩:=k4I c hg hk hgk hV fd.offset hle;exact⟨cv,by simp[execOp,ho,hvs,Instr.field,k0L c.w hu,hfd,asAgg,h1],h2⟩
    ·cases hf
   ·cases hf
  ·cases hf
 ·exact hK.elim
theorem kQ5{s:TypeId}{f:Nat}{x:Operand}{y:k0B}{off k:Nat}{g:Bool}{K:Res->Prop}(ho:o.op = .fieldAddr s x f)(hf:k7Q P s f=some (off,k,g))(hx:k0C x=some y)(hk0:0<k)
 (hK:k0T (.fadr off y) ev h K):∃r,K r/\k0A P o ev h r:=by
 unfold k7Q at hf;split at hf
 case h_2=>cases hf
 rename_i fs hu;split at hf
 case h_2=>cases hf
 rename_i fd hfd;split at hf
 case h_2=>cases hf
 rename_i k' g' hk hg;simp only[Option.some.injEq,Prod.mk.injEq] at hf;obtain⟨rfl,rfl,rfl⟩:=hf;have hne:k'≠0:=by omega
 have run:∀(w:World) (a:Addr),(Instr.fieldAt s (.pointer (some a)) f).run P w = .ok (.pointer (some (a.add fd.offset))) w:=by
  intro w a;simp[Instr.fieldAt,k0L w hu,hfd,Instr.sureAddr,fieldPlace,k3E w hk,hne]
 simp only[k0T] at hK;split at hK
 ·rename_i s' z i o' hy
  refine⟨_,hK,k0A.val λc e R hs he=>?_⟩;have hV:=(hy▸he x y hx:VR c _ (e x));obtain⟨h1,h2⟩:=hV.ref';exact⟨.pointer (some ⟨c.r s',i*z+(o'+fd.offset),none⟩),by simp only[execOp,ho,h2,Sem.run_bind,run,Result.andThen_ok,Sem.run_pure,k5W,Nat.add_assoc],.ref _ _ _ _ h1⟩
 ·rename_i cs hy
  refine⟨_,hK,k0A.val λc e R hs he=>?_⟩;have hV:=(hy▸he x y hx:VR c _ (e x));obtain⟨a,h2,hd⟩:=hV.cref';exact⟨.pointer (some (a.add fd.offset)),by simp only[execOp,ho,h2,Sem.run_bind,run,Result.andThen_ok,Sem.run_pure],hd _⟩
 ·exact hK.elim
theorem kPW{x:Operand}{y:k0B}{K:Res->Prop}(ho:o.op = .nilCheck x)(hx:k0C x=some y)(hK:k0T (.nilc y) ev h K):∃r,K r/\k0A P o ev h r:=by
 simp only[k0T] at hK;split at hK
 ·rename_i s' z i o' hy
  refine⟨_,hK,k0A.val λc e R hs he=>?_⟩;have hV:=(hy▸he x y hx:VR c _ (e x));obtain⟨h1,h2⟩:=hV.ref';exact⟨_,by simp[execOp,ho,h2],.ref _ _ _ _ h1⟩
 ·rename_i cs hy
  refine⟨_,hK,k0A.val λc e R hs he=>?_⟩;have hV:=(hy▸he x y hx:VR c _ (e x));obtain⟨a,h2,hd⟩:=hV.cref';exact⟨_,by simp[execOp,ho,h2];rfl,by rw[<- h2];exact hV⟩
 ·rename_i f a b hy
  refine⟨_,hK,k0A.val λc e R hs he=>?_⟩;have hV:=(hy▸he x y hx:VR c _ (e x));obtain⟨vf,vc,h2,_⟩:=hV.func';exact⟨_,by simp[execOp,ho,h2];rfl,by rw[<- h2];exact hV⟩
 ·rename_i t v hy
  refine⟨_,hK,k0A.val λc e R hs he=>?_⟩;have hV:=(hy▸he x y hx:VR c _ (e x));obtain⟨v,h2,_⟩:=hV.iface';exact⟨_,by simp[execOp,ho,h2];rfl,by rw[<- h2];exact hV⟩
 ·exact hK.elim
theorem kV7{x:Operand}{y:k0B}{i:Nat}{K:Res->Prop}(ho:o.op = .extract x i)(hx:k0C x=some y)(hK:k0T (.ext y i) ev h K):∃r,K r/\k0A P o ev h r:=by
 simp only[k0T] at hK;split at hK
 ·rename_i vs hy
  obtain⟨hlt,hK⟩:=hK;refine⟨_,hK,k0A.val λc e R hs he=>?_⟩;obtain⟨ws,h2,hV⟩:=(hy▸he x y hx:VR c _ (e x)).tuple';have hi:i<ws.size:=(by rw[hV.1];exact hlt);have:=hV.2 i vs[i] (by simp[hlt]);refine⟨ws[i],by simp[execOp,ho,h2,Instr.extract,hi],?_⟩;simpa[List.getD_eq_getElem?_getD,hlt,Array.getD_eq_getD_getElem?,hi] using this
 ·exact hK.elim
theorem kV4{fn:Fn}{first caps:Array Operand}{a b:List k0B}(ho:o.op = .makeFunc fn first caps)(ha:k1X first.toList=some a)(hb:k1X caps.toList=some b):k0A P o ev h (.val (.func fn (evs ev a) (evs ev b))):=by
 refine k0A.val λc e R hs he=>⟨.func fn (first.map e) (caps.map e),by simp[execOp,ho,Instr.makeFunc],?_⟩;have h1:=he.opnds ha;have h2:=he.opnds hb;have e1:(first.toList.map e).toArray=first.map e:=by apply Array.ext';simp
 have e2:(caps.toList.map e).toArray=caps.map e:=by apply Array.ext';simp
 rw[e1] at h1;rw[e2] at h2;exact .func _ _ _ _ _ h1.1 h2.1 h1.2 h2.2
end Go.Eng
namespace Go.Eng
open Go Go.RowKit
variable {P:Program} {o:Oper} {ev:k0B->AV} {h:k00}
theorem kEK(off:Nat):∀(l:List Value) (st:Nat) (cs:Array Value),
 ((l.zipIdx st).foldl (λcs (x:Value×Nat)=>cs.setIfInBounds (off+x.2) x.1) cs).size=cs.size /\
 ∀i,((l.zipIdx st).foldl (λcs (x:Value×Nat)=>cs.setIfInBounds (off+x.2) x.1) cs)[i]?=if off+st<=i/\i<off+st+l.length/\i<cs.size then l[i-(off+st)]? else cs[i]?
 | [],st,cs=>by
   refine⟨rfl,λi=>?_⟩;rw[if_neg (by simp;omega)];rfl
 | v::l,st,cs=>by
   have ih:=kEK off l (st+1) (cs.setIfInBounds (off+st) v);simp only[List.zipIdx_cons,List.foldl_cons];refine⟨by rw[ih.1];simp,λi=>?_⟩;rw[ih.2 i];simp only[Array.size_setIfInBounds,List.length_cons];by_cases h1:off+(st+1)<=i/\i<off+(st+1)+l.length/\i<cs.size
   ·rw[if_pos h1,if_pos (by omega)]
    have:i-(off+st)=(i-(off+(st+1)))+1:=(by omega);rw[this,List.getElem?_cons_succ]
   ·rw[if_neg h1]
    by_cases h2:i=off+st
    ·subst h2
     by_cases h3:off+st<cs.size
     ·rw[if_pos (by omega)]
      simp[h3]
     ·rw[if_neg (by omega)]
      simp[h3]
    ·rw[if_neg (by omega)]
     rw[Array.getElem?_setIfInBounds_ne (by omega)]
theorem kBX(row:List AV)(o:Nat)(cs:List AV)(ho:o+cs.length<=row.length)(i:Nat):(k51 row o cs)[i]?=if o<=i/\i<o+cs.length then cs[i-o]? else row[i]?:=by
 unfold k51;have hl:(row.take o).length=o:=by simp;omega
 by_cases h1:i<o
 ·rw[if_neg (by omega),List.append_assoc,List.getElem?_append_left (by omega),List.getElem?_take,if_pos h1]
 ·rw[List.append_assoc,List.getElem?_append_right (by omega),hl]
  by_cases h2:i<o+cs.length
  ·rw[if_pos (by omega),List.getElem?_append_left (by omega)]
  ·rw[if_neg (by omega),List.getElem?_append_right (by omega),List.getElem?_drop]
   congr 1
   omega
theorem k50(row:List AV)(o:Nat)(cs:List AV)(ho:o+cs.length<=row.length):(k51 row o cs).length=row.length:=by
 unfold k51;simp;omega
theorem kJ4{c:Cfg}{cs:List AV}{arr:Array Value}{xs:List AV}{vs:Array Value}(off:Nat)(h:VRs c cs arr)(hx:VRs c xs vs)(ho:off+xs.length<=cs.length)(arr':Array Value)
 (hs:arr'.size=arr.size) (hg:∀i,i<arr.size->arr'[i]?=if off<=i/\i<off+vs.size then vs[i-off]? else arr[i]?):VRs c (k51 cs off xs) arr':=by
 refine⟨by rw[hs,h.1,k50 _ _ _ ho],λi x hi=>?_⟩
 have hlt:i<arr.size:=by
  have:=(List.getElem?_eq_some_iff.1 hi).1;rw[k50 _ _ _ ho] at this;rw[h.1];exact this
 rw[kBX _ _ _ ho] at hi;rw[Array.getD_eq_getD_getElem?,hg i hlt];by_cases yH:off<=i/\i<off+xs.length
 ·rw[if_pos yH] at hi
  rw[if_pos (by rw[hx.1];exact yH)];have:=hx.2 _ _ hi
  rwa [Array.getD_eq_getD_getElem?] at this
 ·rw[if_neg yH] at hi
  rw[if_neg (by rw[hx.1];exact yH)];have:=h.2 _ _ hi
  rwa [Array.getD_eq_getD_getElem?] at this
theorem kAW{c:Cfg}{e:Operand->Value}(he:kJ2 c ev e)(place:Nat->Option (Nat×Nat)):∀ {parts:List (Nat×Operand)} {ps:List (Nat×Nat×k0B)} {cs cs':List AV} {arr:Array Value},
 k7W place parts=some ps->VRs c cs arr->k6L ev cs ps=some cs'->∃arr',Instr.fill place arr (parts.map λ(i,x)=>(i,e x))=some arr'/\VRs c cs' arr'/\cs'.length=cs.length
 | [],ps,cs,cs',arr,hc,hv,hf=>by
   simp only[k7W,Option.some.injEq] at hc;subst hc;simp only[k6L,Option.some.injEq] at hf;subst hf;exact⟨arr,rfl,hv,rfl⟩
 | (i,x)::parts,ps,cs,cs',arr,hc,hv,hf=>by
   simp only[k7W] at hc;split at hc
   ·rename_i off k y r hp hy hr
    simp only[Option.some.injEq] at hc;subst hc;simp only[k6L] at hf;split at hf
    ·rename_i xs hxs
     split at hf
     ·rename_i hcond
      obtain⟨h1,h2,h3⟩:=hcond;have hV:=(he x y hy).cells hxs;have hput:=kEK off (e x).cells.toList 0 arr
      have hvs:=kJ4 off hv hV (by omega) _ hput.1 (λi hi=>by
       rw[hput.2 i];by_cases yH:off<=i/\i<off+(e x).cells.size
       ·rw[if_pos (by simp;omega),if_pos yH];simp
       ·rw[if_neg (by simp;omega),if_neg yH])
      obtain⟨arr',g1,g2,g3⟩:=kAW he place hr hvs hf;refine⟨arr',?_,g2,by rw[g3,k50 _ _ _ (by omega)]⟩;have hsz:(e x).cells.size=k:=(by rw[hV.1];exact h1);have hle:¬(off+(e x).cells.size>arr.size):=(by rw[hsz,hv.1];omega);simp only[List.map_cons,Instr.fill,hp];rw[if_neg (by simp[hsz];rw[hv.1];omega)];rw[<- g1];congr 1
      rw[<- Array.foldl_toList,Array.toList_zipIdx]
     ·cases hf
    ·cases hf
   ·cases hc
theorem kAX:∀ {ps:List (Nat×Nat×k0B)} {cs cs':List AV},k6L ev cs ps=some cs'->cs'.length=cs.length
 | [],cs,cs',hf=>by simp only[k6L,Option.some.injEq] at hf;rw[hf]
 | (off,k,y)::ps,cs,cs',hf=>by
   simp only[k6L] at hf;split at hf
   ·split at hf
    ·rename_i xs hxs hcond
     rw[kAX hf,k50 _ _ _ (by omega)]
    ·cases hf
   ·cases hf
theorem k4Z{t:TypeId}{k:Nat}(h:k3O P t=some k):∃i,P.info? t=some i/\i.size=k:=by
 unfold k3O at h
 cases hi:P.info? t with
 | none=>simp[hi] at h
 | some i=>simp[hi] at h;exact⟨i,rfl,h⟩
theorem k5E{t:TypeId}{zs:List AV}(h:k4W P t=some zs):∃i z,P.info? t=some i/\i.zero=some z/\zs=z.cells.toList.map AV.ofCell:=by
 unfold k4W at h;split at h
 ·rename_i i hi
  split at h
  ·rename_i z hz
   simp only[Option.some.injEq] at h;exact⟨i,z,hi,hz,h.symm⟩
  ·cases h
 ·cases h
theorem kEE{t:TypeId}{parts:Array (Nat×Operand)}{zs:List AV}{ps:List (Nat×Nat×k0B)}{K:Res->Prop}(ho:o.op = .build t parts)(hz:k4W P t=some zs)
 (hp:(∃fs pl,P.underlying t=some (.struct fs)/\kD2 P fs=some pl/\k7W (pl.toArray[·]?) parts.toList=some ps)\/(∃n e k,P.underlying t=some (.array n e)/\k3O P e=some k/\k7W (λi=>some (i*k,k)) parts.toList=some ps))
 (hK:k0T (.build zs ps) ev h K):∃r,K r/\k0A P o ev h r:=by
 simp only[k0T] at hK;split at hK
 ·rename_i cs hcs
  refine⟨_,hK,k0A.val λc e R hs he=>?_⟩;obtain⟨it,z,hi,hzz,rfl⟩:=k5E hz;rcases hp with ⟨fs,pl,hu,hpl,hf⟩|⟨n,el,k,hu,hk,hf⟩
  ·obtain⟨arr,h1,h2,_⟩:=kAW he _ hf (k5F c z.cells) hcs
   have hb:=run_build (P:=P) c.w t (parts.map λ(i,x)=>(i,e x)) arr (by
    unfold Program.built;simp only[hi,hu,hzz];unfold kD2 at hpl;rw[hpl];simpa using h1)
   exact⟨.agg arr,by simp[execOp,ho,hb],.agg _ _ h2.1 h2.2⟩
  ·obtain⟨arr,h1,h2,_⟩:=kAW he _ hf (k5F c z.cells) hcs
   obtain⟨ie,hie,rfl⟩:=k4Z hk
   have hb:=run_build (P:=P) c.w t (parts.map λ(i,x)=>(i,e x)) arr (by
    unfold Program.built;simp only[hi,hu,hzz,hie];simpa using h1)
   exact⟨.agg arr,by simp[execOp,ho,hb],.agg _ _ h2.1 h2.2⟩
 ·exact hK.elim
end Go.Eng
