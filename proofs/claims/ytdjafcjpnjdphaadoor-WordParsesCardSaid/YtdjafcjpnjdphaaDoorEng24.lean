/- Loops: the state at each round's head as few named temporaries, the rest unknown. -/
import Derived.Test.YtdjafcjpnjdphaaDoorEng23
import Derived.KernelRfl
set_option linter.unusedVariables false
namespace Go.Eng
open Go
/-- A state of n temporaries of which some are known. -/
def fr (n : Nat) (l : List (Nat × AV)) : AAct := l.foldl (fun a p => a.set p.1 p.2) (List.replicate n .any)
mutual
theorem upto_m (m : Nat) : ∀ (v : AV), v.upto 0 = true → v.upto m = true
  | .agg cs, h => uptoL_m m cs h
  | .tuple cs, h => uptoL_m m cs h
  | .list _ es, h => uptoLL_m m es h
  | .sl s _ _ _, h => by simp [AV.upto] at h
  | .ref s _ _ _, h => by simp [AV.upto] at h
  | .mapr s, h => by simp [AV.upto] at h
  | .cref cs, h => uptoL_m m cs h
  | .func _ f c, h => by
    simp only [AV.upto, Bool.and_eq_true] at h ⊢
    exact ⟨uptoL_m m f h.1, uptoL_m m c h.2⟩
  | .iface _ v, h => upto_m m v h
  | .any, _ => rfl
  | .bool _, _ => rfl
  | .int _ _, _ => rfl
  | .str _, _ => rfl
  | .nilp, _ => rfl
  | .nils, _ => rfl
  | .emp, _ => rfl
  | .nilFunc, _ => rfl
  | .nilIface, _ => rfl
theorem uptoL_m (m : Nat) : ∀ (l : List AV), uptoL 0 l = true → uptoL m l = true
  | [], _ => rfl
  | c :: cs, h => by
    simp only [uptoL, Bool.and_eq_true] at h ⊢
    exact ⟨upto_m m c h.1, uptoL_m m cs h.2⟩
theorem uptoLL_m (m : Nat) : ∀ (l : List (List AV)), uptoLL 0 l = true → uptoLL m l = true
  | [], _ => rfl
  | c :: cs, h => by
    simp only [uptoLL, Bool.and_eq_true] at h ⊢
    exact ⟨uptoL_m m c h.1, uptoLL_m m cs h.2⟩
end
theorem wkU {f : Nat → Nat} {m : Nat} {x : AV} (h : x.upto 0 = true) : x = .any ∨ (x.upto m = true ∧ x.ren f = x) := .inr ⟨upto_m m x h, ren_upto f x h⟩
theorem wk0 {f : Nat → Nat} {m : Nat} {x : AV} (h : x.upto 0 = true) (hm : x.upto m = true) : x = .any ∨ (x.upto m = true ∧ x.ren f = x) := .inr ⟨hm, ren_upto f x h⟩
theorem wkAny {f : Nat → Nat} {m : Nat} {y : AV} : (AV.any = .any ∨ (AV.any.upto m = true ∧ AV.any.ren f = y)) := .inl rfl
theorem wkI {f : Nat → Nat} {m : Nat} {k : IntKind} {a b : Int} (h : b = a) : (AV.int k a = .any ∨ ((AV.int k a).upto m = true ∧ (AV.int k a).ren f = .int k b)) := .inr ⟨rfl, by rw [h]; rfl⟩
theorem wkE {f : Nat → Nat} {m : Nat} {x y : AV} (he : y = x) (h : x.upto 0 = true) : x = .any ∨ (x.upto m = true ∧ x.ren f = y) := .inr ⟨upto_m m x h, by rw [he]; exact ren_upto f x h⟩
theorem wkL_nil {f : Nat → Nat} {m : Nat} : wkL f m [] [] := trivial
theorem wkL_cons {f : Nat → Nat} {m : Nat} {x y : AV} {xs ys : List AV} (h : x = .any ∨ (x.upto m = true ∧ x.ren f = y)) (t : wkL f m ys xs) : wkL f m (y :: ys) (x :: xs) := ⟨h, t⟩
theorem wkRef {f : Nat → Nat} {m s z i o : Nat} (h : (AV.ref s z i o).upto m = true) (h2 : f s = s) : (AV.ref s z i o = .any ∨ ((AV.ref s z i o).upto m = true ∧ (AV.ref s z i o).ren f = .ref s z i o)) := .inr ⟨h, by simp only [AV.ren, h2]⟩
theorem wkSl {f : Nat → Nat} {m s z i n : Nat} (h : (AV.sl s z i n).upto m = true) (h2 : f s = s) : (AV.sl s z i n = .any ∨ ((AV.sl s z i n).upto m = true ∧ (AV.sl s z i n).ren f = .sl s z i n)) := .inr ⟨h, by simp only [AV.ren, h2]⟩
theorem wkSlR {f : Nat → Nat} {m s s' z i n n' : Nat} (h : (AV.sl s z i n).upto m = true) (h2 : f s = s') (hn : n = n') : (AV.sl s z i n = .any ∨ ((AV.sl s z i n).upto m = true ∧ (AV.sl s z i n).ren f = .sl s' z i n')) := .inr ⟨h, by simp only [AV.ren, h2, hn]⟩
theorem wkH_nil {f : Nat → Nat} {h : AHeap} {m j : Nat} : wkH f h m j [] := trivial
theorem wkH_cons {f : Nat → Nat} {h : AHeap} {m j z : Nat} {es : List (List AV)} {r : AHeap} (h1 : h[f j]? = some (.live z es)) (h2 : uptoLL 0 es = true) (h3 : uptoLL m es = true) (t : wkH f h m (j + 1) r) : wkH f h m j (.live z es :: r) :=
  ⟨⟨by rw [renLL_upto f es h2]; exact h1, h3⟩, t⟩
theorem wkH_up {f : Nat → Nat} {h : AHeap} {m j z : Nat} {es : List (List AV)} {r : AHeap} (h1 : h[f j]? = some (.live z es)) (h2 : uptoLL 0 es = true) (t : wkH f h m (j + 1) r) : wkH f h m j (.live z es :: r) := wkH_cons h1 h2 (uptoLL_m m es h2) t
theorem wkH_ref {f : Nat → Nat} {h : AHeap} {m j z : Nat} {es : List (List AV)} {r : AHeap} (h1 : h[f j]? = some (.live z (renLL f es))) (h3 : uptoLL m es = true) (t : wkH f h m (j + 1) r) : wkH f h m j (.live z es :: r) :=
  ⟨⟨h1, h3⟩, t⟩
/-- A weaker state without own slots. -/
theorem Wk.plain {a a' : AAct} (ha : wkL id 0 a a') (h : AHeap) : Wk 0 a h a' [] := Wk.ren id ha trivial (fun _ _ _ _ e => e)
section
variable {P : Program}
theorem Loop.introQ {c : ACode} {Q : APost} {a : AAct} {h : AHeap} (I : AAct → AHeap → Prop) (m : AAct → AHeap → Nat) (a' : AAct) (h' : AHeap) (hw : Wk 0 a h a' h') (h0 : I a' h')
    (round : ∀ a h, I a h → ∀ w, w = std → ∀ Q' : APost, (∀ a1 h1 a2 h2, Wk 0 a1 h1 a2 h2 → I a2 h2 → m a2 h2 < m a h → Q' .normal a1 h1) → (∀ k a1 h1, Q (.exit k) a1 h1 → Q' (.exit k) a1 h1) → (∀ a1 h1, Q .ret a1 h1 → Q' .ret a1 h1) → vcCodeX w P 0 c Q' a h) : Loop P 0 c Q a h :=
  Loop.intro I m a' h' hw h0 fun a h hI w hw => round a h hI w hw _ (fun a1 h1 a2 h2 w2 i2 m2 => ⟨a2, h2, w2, i2, m2⟩) (fun k a1 h1 hq => hq) (fun a1 h1 hq => hq)
end
end Go.Eng
