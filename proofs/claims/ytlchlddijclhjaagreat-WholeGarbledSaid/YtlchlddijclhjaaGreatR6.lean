/- Parts of the proofs. -/
import Derived.KernelRfl
import Derived.Test.YtlchlddijclhjaaGreatR5
set_option linter.unusedVariables false
set_option linter.unusedSimpArgs false
namespace Go.Eng
open Go
def fr(n:Nat)(l:List (Nat×AV)):AA:=l.foldl (λa p=>a.set p.1 p.2) (List.replicate n .any)
mutual
theorem GU(m:Nat):∀(v:AV),v.upto 0=true->v.upto m=true
 | .agg cs,h=>Ii m cs h
 | .tuple cs,h=>Ii m cs h
 | .list _ es,h=>Ed m es h
 | .sl s _ _ _,h=>by simp[AV.upto] at h
 | .ref s _ _ _,h=>by simp[AV.upto] at h
 | .mapr s,h=>by simp[AV.upto] at h
 | .cref cs,h=>Ii m cs h
 | .func _ f c,h=>by
   simp only[AV.upto,Bool.and_eq_true] at h ⊢;exact⟨Ii m f h.1,Ii m c h.2⟩
 | .iface _ v,h=>GU m v h
 | .any,_=>rfl
 | .bool _,_=>rfl
 | .int _ _,_=>rfl
 | .str _,_=>rfl
 | .nilp,_=>rfl
 | .nils,_=>rfl
 | .emp,_=>rfl
 | .nilFunc,_=>rfl
 | .nilIface,_=>rfl
theorem Ii(m:Nat):∀(l:List AV),Af 0 l=true->Af m l=true
 | [],_=>rfl
 | c::cs,h=>by
   simp only[Af,Bool.and_eq_true] at h ⊢;exact⟨GU m c h.1,Ii m cs h.2⟩
theorem Ed(m:Nat):∀(l:List (List AV)),BC 0 l=true->BC m l=true
 | [],_=>rfl
 | c::cs,h=>by
   simp only[BC,Bool.and_eq_true] at h ⊢;exact⟨Ii m c h.1,Ed m cs h.2⟩
end
theorem wkU{f:Nat->Nat}{m:Nat}{x:AV}(h:x.upto 0=true):x = .any\/(x.upto m=true/\x.ren f=x):=.inr ⟨GU m x h,FF f x h⟩
theorem wk0{f:Nat->Nat}{m:Nat}{x:AV}(h:x.upto 0=true)(hm:x.upto m=true):x = .any\/(x.upto m=true/\x.ren f=x):=.inr ⟨hm,FF f x h⟩
theorem Hm{f:Nat->Nat}{m:Nat}{y:AV}:(AV.any = .any\/(AV.any.upto m=true/\AV.any.ren f=y)):=.inl rfl
theorem wkI{f:Nat->Nat}{m:Nat}{k:IntKind}{a b:Int}(h:b=a):(AV.int k a = .any\/((AV.int k a).upto m=true/\(AV.int k a).ren f = .int k b)):=.inr ⟨rfl,by rw[h];rfl⟩
theorem wkE{f:Nat->Nat}{m:Nat}{x y:AV}(he:y=x)(h:x.upto 0=true):x = .any\/(x.upto m=true/\x.ren f=y):=.inr ⟨GU m x h,by rw[he];exact FF f x h⟩
theorem Ho{f:Nat->Nat}{m:Nat}:wkL f m [] []:=trivial
theorem Hq{f:Nat->Nat}{m:Nat}{x y:AV}{xs ys:List AV}(h:x = .any\/(x.upto m=true/\x.ren f=y))(t:wkL f m ys xs):wkL f m (y::ys) (x::xs):=⟨h,t⟩
theorem Hr{f:Nat->Nat}{m s z i o:Nat}(h:(AV.ref s z i o).upto m=true)(h2:f s=s):(AV.ref s z i o = .any\/((AV.ref s z i o).upto m=true/\(AV.ref s z i o).ren f = .ref s z i o)):=.inr ⟨h,by simp only[AV.ren,h2]⟩
theorem Ht{f:Nat->Nat}{h:A7}{m j:Nat}:wkH f h m j []:=trivial
theorem Hu{f:Nat->Nat}{h:A7}{m j z:Nat}{es:List (List AV)}{r:A7}(h1:h[f j]?=some (.live z es))(h2:BC 0 es=true)(h3:BC m es=true)(t:wkH f h m (j+1) r):wkH f h m j (.live z es::r):=
 ⟨⟨by rw[JF f es h2];exact h1,h3⟩,t⟩
section
variable {P:Program}
theorem Ae.introQ{c:BR}{Q:Aq}{a:AA}{h:A7}(I:AA->A7->Prop)(m:AA->A7->Nat)(a':AA)(h':A7)(hw:Wk 0 a h a' h')(h0:I a' h')
 (round:∀a h,I a h->∀w,w=std->∀Q':Aq,(∀a1 h1 a2 h2,Wk 0 a1 h1 a2 h2->I a2 h2->m a2 h2<m a h->Q' .normal a1 h1)->(∀k a1 h1,Q (.exit k) a1 h1->Q' (.exit k) a1 h1)->(∀a1 h1,Q .ret a1 h1->Q' .ret a1 h1)->Fq w P 0 c Q' a h):Ae P 0 c Q a h:=
 Ae.intro I m a' h' hw h0 λa h hI w hw=>round a h hI w hw _ (λa1 h1 a2 h2 w2 i2 m2=>⟨a2,h2,w2,i2,m2⟩) (λk a1 h1 hq=>hq) (λa1 h1 hq=>hq)
end
end Go.Eng
