/- Parts of the proofs. -/
import Derived.KernelRfl
import Derived.Test.YtlchlddijclhjaaGreatS5
set_option linter.unusedVariables false
set_option linter.unusedSimpArgs false
namespace Go.Eng
open Go
def fr(n:Nat)(l:List (Nat×AV)):k09:=l.foldl (λa p=>a.set p.1 p.2) (List.replicate n .any)
mutual
theorem k76(m:Nat):∀(v:AV),v.upto 0=true->v.upto m=true
 | .agg cs,h=>k7E m cs h
 | .tuple cs,h=>k7E m cs h
 | .list _ es,h=>k21 m es h
 | .sl s _ _ _,h=>by simp[AV.upto] at h
 | .ref s _ _ _,h=>by simp[AV.upto] at h
 | .mapr s,h=>by simp[AV.upto] at h
 | .cref cs,h=>k7E m cs h
 | .func _ f c,h=>by
   simp only[AV.upto,Bool.and_eq_true] at h ⊢;exact⟨k7E m f h.1,k7E m c h.2⟩
 | .iface _ v,h=>k76 m v h
 | .any,_=>rfl
 | .bool _,_=>rfl
 | .int _ _,_=>rfl
 | .str _,_=>rfl
 | .nilp,_=>rfl
 | .nils,_=>rfl
 | .emp,_=>rfl
 | .nilFunc,_=>rfl
 | .nilIface,_=>rfl
theorem k7E(m:Nat):∀(l:List AV),k0Q 0 l=true->k0Q m l=true
 | [],_=>rfl
 | c::cs,h=>by
   simp only[k0Q,Bool.and_eq_true] at h ⊢;exact⟨k76 m c h.1,k7E m cs h.2⟩
theorem k21(m:Nat):∀(l:List (List AV)),k18 0 l=true->k18 m l=true
 | [],_=>rfl
 | c::cs,h=>by
   simp only[k18,Bool.and_eq_true] at h ⊢;exact⟨k7E m c h.1,k21 m cs h.2⟩
end
theorem wkU{f:Nat->Nat}{m:Nat}{x:AV}(h:x.upto 0=true):x = .any\/(x.upto m=true/\x.ren f=x):=.inr ⟨k76 m x h,k2J f x h⟩
theorem wk0{f:Nat->Nat}{m:Nat}{x:AV}(h:x.upto 0=true)(hm:x.upto m=true):x = .any\/(x.upto m=true/\x.ren f=x):=.inr ⟨hm,k2J f x h⟩
theorem kE2{f:Nat->Nat}{m:Nat}{y:AV}:(AV.any = .any\/(AV.any.upto m=true/\AV.any.ren f=y)):=.inl rfl
theorem wkI{f:Nat->Nat}{m:Nat}{k:IntKind}{a b:Int}(h:b=a):(AV.int k a = .any\/((AV.int k a).upto m=true/\(AV.int k a).ren f = .int k b)):=.inr ⟨rfl,by rw[h];rfl⟩
theorem wkE{f:Nat->Nat}{m:Nat}{x y:AV}(he:y=x)(h:x.upto 0=true):x = .any\/(x.upto m=true/\x.ren f=y):=.inr ⟨k76 m x h,by rw[he];exact k2J f x h⟩
theorem k67{f:Nat->Nat}{m:Nat}:wkL f m [] []:=trivial
theorem k4E{f:Nat->Nat}{m:Nat}{x y:AV}{xs ys:List AV}(h:x = .any\/(x.upto m=true/\x.ren f=y))(t:wkL f m ys xs):wkL f m (y::ys) (x::xs):=⟨h,t⟩
theorem kE1{f:Nat->Nat}{m s z i o:Nat}(h:(AV.ref s z i o).upto m=true)(h2:f s=s):(AV.ref s z i o = .any\/((AV.ref s z i o).upto m=true/\(AV.ref s z i o).ren f = .ref s z i o)):=.inr ⟨h,by simp only[AV.ren,h2]⟩
theorem k68{f:Nat->Nat}{h:k00}{m j:Nat}:wkH f h m j []:=trivial
theorem k4F{f:Nat->Nat}{h:k00}{m j z:Nat}{es:List (List AV)}{r:k00}(h1:h[f j]?=some (.live z es))(h2:k18 0 es=true)(h3:k18 m es=true)(t:wkH f h m (j+1) r):wkH f h m j (.live z es::r):=
 ⟨⟨by rw[k3Z f es h2];exact h1,h3⟩,t⟩
section
variable {P:Program}
theorem k1Q.introQ{c:k2Z}{Q:k17}{a:k09}{h:k00}(I:k09->k00->Prop)(m:k09->k00->Nat)(a':k09)(h':k00)(hw:Wk 0 a h a' h')(h0:I a' h')
 (round:∀a h,I a h->∀w,w=std->∀Q':k17,(∀a1 h1 a2 h2,Wk 0 a1 h1 a2 h2->I a2 h2->m a2 h2<m a h->Q' .normal a1 h1)->(∀k a1 h1,Q (.exit k) a1 h1->Q' (.exit k) a1 h1)->(∀a1 h1,Q .ret a1 h1->Q' .ret a1 h1)->k4Q w P 0 c Q' a h):k1Q P 0 c Q a h:=
 k1Q.intro I m a' h' hw h0 λa h hI w hw=>round a h hI w hw _ (λa1 h1 a2 h2 w2 i2 m2=>⟨a2,h2,w2,i2,m2⟩) (λk a1 h1 hq=>hq) (λa1 h1 hq=>hq)
end
end Go.Eng
