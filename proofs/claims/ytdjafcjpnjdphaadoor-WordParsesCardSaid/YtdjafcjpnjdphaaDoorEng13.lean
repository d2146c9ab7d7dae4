/- The engine, part 13: statements whose order is open. -/
import Derived.Test.YtdjafcjpnjdphaaDoorEng12
import Derived.StillTail
set_option linter.unusedVariables false
set_option linter.unusedSimpArgs false
namespace Go.Eng
open Go Go.RowKit

def AOp.opnds : AOp → List AOpnd
  | .mv x => [x]
  | .pick c a b => [c, a, b]
  | .new _ _ => []
  | .box _ x => [x]
  | .build _ ps => ps.map (·.2.2)
  | .bslice _ _ _ ps => ps.map (·.2.2)
  | .load _ _ a => [a]
  | .store _ a x => [a, x]
  | .nilc x => [x]
  | .bin _ x y => [x, y]
  | .eqb _ x y => [x, y]
  | .mvs x => [x]
  | .eqs _ _ _ x y => [x, y]
  | .un _ x => [x]
  | .conv _ x => [x]
  | .fadr _ x => [x]
  | .fld _ _ _ x => [x]
  | .iadA _ _ x i => [x, i]
  | .iadS _ x i => [x, i]
  | .idx _ _ _ x i => [x, i]
  | .idxStr x i => [x, i]
  | .lenx x => [x]
  | .lens x => [x]
  | .lenc _ => []
  | .mm _ x xs => x :: xs
  | .app _ _ x y => [x, y]
  | .slc _ x lo hi => x :: (lo.toList ++ hi.toList)
  | .mk _ _ _ l c => [l, c]
  | .ext x _ => [x]
  | .mkf _ f c => f ++ c
  | .call f xs => f :: xs
  | .mkm => []
  | .look _ _ _ _ _ x k => [x, k]
  | .mput _ _ _ x k v => [x, k, v]
  | .slcS x lo hi => x :: (lo.toList ++ hi.toList)
  | .toS x => [x]
  | .bemp => []
  | .ofS x => [x]
  | .xop _ _ xs => xs

section
variable {ev ev' : AOpnd → AV}
theorem fillA_congr : ∀ {ps : List (Nat × Nat × AOpnd)} {cs : List AV}, (∀ p, p ∈ ps → ev p.2.2 = ev' p.2.2) → fillA ev cs ps = fillA ev' cs ps
  | [], cs, _ => rfl
  | (o, k, x) :: ps, cs, h => by
    have hx := h (o, k, x) (by simp)
    simp only at hx
    have ih := fun cs => fillA_congr (cs := cs) (fun p hp => h p (by simp [hp]) : ∀ p, p ∈ ps → ev p.2.2 = ev' p.2.2)
    simp only [fillA, hx, ih]
theorem mmA_congr {b : Bool} : ∀ {xs : List AOpnd} {v : AV}, (∀ x, x ∈ xs → ev x = ev' x) → mmA b ev v xs = mmA b ev' v xs
  | [], v, _ => by cases v <;> rfl
  | x :: xs, v, h => by
    have hx := h x (by simp)
    have ih := fun v => mmA_congr (b := b) (v := v) (fun p hp => h p (by simp [hp]) : ∀ p, p ∈ xs → ev p = ev' p)
    cases v <;> simp only [mmA, hx, ih]
theorem evs_congr {xs : List AOpnd} (h : ∀ x, x ∈ xs → ev x = ev' x) : evs ev xs = evs ev' xs := List.map_congr_left h
theorem vcOp_congr {o : AOp} {h : AHeap} {K : Res → Prop} (H : ∀ x, x ∈ o.opnds → ev x = ev' x) (hK : vcOp o ev h K) : vcOp o ev' h K := by
  cases o <;> simp only [AOp.opnds, List.mem_cons, List.not_mem_nil, or_false, forall_eq_or_imp, forall_eq, List.mem_append, List.mem_map, Option.mem_toList] at H <;> simp only [vcOp] at hK ⊢
  case build zero ps =>
    rw [← fillA_congr (ev := ev) (fun p hp => H _ ⟨p, hp, rfl⟩)]; exact hK
  case bslice z n zero ps =>
    rw [← fillA_congr (ev := ev) (fun p hp => H _ ⟨p, hp, rfl⟩)]; exact hK
  case mm b x xs =>
    rw [← H.1, ← mmA_congr (ev := ev) H.2]; exact hK
  case mkf fn f c =>
    rw [← evs_congr (ev := ev) (fun x hx => H x (.inl hx)), ← evs_congr (ev := ev) (fun x hx => H x (.inr hx))]; exact hK
  case slc z x lo hi =>
    have e1 : lo.map ev = lo.map ev' := by cases lo with | none => rfl | some l => simp [H.2 l (.inl rfl)]
    have e2 : hi.map ev = hi.map ev' := by cases hi with | none => rfl | some l => simp [H.2 l (.inr rfl)]
    rw [← H.1, ← e1, ← e2]; exact hK
  case mv x => rw [← H]; exact hK
  case pick c a b => rw [← H.1, ← H.2.1, ← H.2.2]; exact hK
  case new z e => exact hK
  case box z x => rw [← H]; exact hK
  case load g k a => rw [← H]; exact hK
  case store k a x => rw [← H.1, ← H.2]; exact hK
  case nilc x => rw [← H]; exact hK
  case bin op x y => rw [← H.1, ← H.2]; exact hK
  case eqb op x y => rw [← H.1, ← H.2]; exact hK
  case mvs x => rw [← H]; exact hK
  case eqs a b c x y => rw [← H.1, ← H.2]; exact hK
  case un op x => rw [← H]; exact hK
  case conv op x => rw [← H]; exact hK
  case fadr op x => rw [← H]; exact hK
  case fld a b c x => rw [← H]; exact hK
  case iadA a b x i => rw [← H.1, ← H.2]; exact hK
  case iadS a x i => rw [← H.1, ← H.2]; exact hK
  case idx a b c x i => rw [← H.1, ← H.2]; exact hK
  case idxStr x i => rw [← H.1, ← H.2]; exact hK
  case lenx x => rw [← H]; exact hK
  case lens x => rw [← H]; exact hK
  case lenc n => exact hK
  case app a b x y => rw [← H.1, ← H.2]; exact hK
  case mk a b c x y => rw [← H.1, ← H.2]; exact hK
  case mkm => exact hK
  case bemp => exact hK
  case look a b c d e x k => rw [← H.1, ← H.2]; exact hK
  case mput a b c x k v => rw [← H.1, ← H.2.1, ← H.2.2]; exact hK
  case ext x i => rw [← H]; exact hK
  case toS x => rw [← H]; exact hK
  case ofS x => rw [← H]; exact hK
  case slcS x lo hi =>
    have e1 : lo.map ev = lo.map ev' := by cases lo with | none => rfl | some l => simp [H.2 l (.inl rfl)]
    have e2 : hi.map ev = hi.map ev' := by cases hi with | none => rfl | some l => simp [H.2 l (.inr rfl)]
    rw [← H.1, ← e1, ← e2]; exact hK
end

/-- The temporaries that an operation reads. -/
def AOper.looks (o : AOper) : List Nat := (o.op.opnds.filterMap fun | .tmp t => some t | _ => none) ++ (match o.guard with | some (t, _) => [t] | none => [])
def maskA (ts : List Nat) (a : AAct) : AAct := a.mapIdx fun i x => if ts.contains i then x else .any
theorem maskA_get (ts : List Nat) (a : AAct) (t : Nat) : (maskA ts a).getD t .any = if t ∈ ts then a.getD t .any else .any := by
  unfold maskA
  rw [List.getD_eq_getElem?_getD, List.getElem?_mapIdx, List.getD_eq_getElem?_getD]
  cases a[t]? with
  | none => simp
  | some x => by_cases h : t ∈ ts <;> simp [h]

/-- How many slots an operation may take. -/
def AOp.slots : AOp → Nat
  | .new _ _ => 1
  | .box _ _ => 1
  | .mk _ _ _ _ _ => 1
  | .mkm => 1
  | .ofS _ => 1
  | _ => 0
/-- A call that reads alone, wherever. -/
def QCall (P : Program) (g : FuncId) (args : List AV) (h0 : AHeap) (r : AV) : Prop :=
  Enters P g ∧ ∀ (C : Cfg) (vs : Array Value), HSub h0 C.h → Rel C → VRs C args vs → Calls P g vs C.w fun e w' => ∃ v D, e = .returned v ∧ D.h = C.h ∧ D.w = w' ∧ Rel D ∧ VR D r v ∧ Ext C.h.length C D
def HCall (P : Program) (g : FuncId) (args : List AV) (h0 : AHeap) (K : AV → Prop) : Prop := ∃ r, QCall P g args h0 r ∧ K r
theorem HCall.of_pure {P : Program} {g : FuncId} {args : List AV} {r : AV} {h0 : AHeap} {K : AV → Prop} (H : PCalls P g args (· = r)) (ha : uptoL 0 args = true) (hK : K r) : HCall P g args h0 K := by
  refine ⟨r, ⟨H.1, fun C vs hs R hv => ?_⟩, hK⟩
  have := (ACall.of_pure (h := C.h) (K := fun x h' => x = r ∧ h' = C.h) H ha fun x hx => ⟨hx, rfl⟩).2 C vs rfl R hv
  exact this.mono fun e w' ⟨v, x, D, h1, ⟨h2, h3⟩, h4, h5, h6, h7, _⟩ => ⟨v, D, h1, h3, h4, h5, h2 ▸ h6, h7⟩

def finH (K : AAct → AHeap → Prop) (a : AAct) (dst : Option Nat) (base k : Nat) (news : AHeap) : Res → Prop
  | .val v => k = 0 ∧ K (putA a dst v) news
  | .new sl z es => k = 1 ∧ K (putA a dst ((Res.new sl z es).at base)) (news ++ [.live z es])
  | _ => False
def callH (K : AAct → AHeap → Prop) (a : AAct) (dst : Option Nat) (news : AHeap) : AV → Prop := fun r => K (putA a dst r) news
def vcHOne (P : Program) (o : AOper) (h0 : AHeap) (K : AAct → AHeap → Prop) (a : AAct) (news : AHeap) : Prop :=
  match o.op with
  | .call f xs => (match evA a f with | .func (.func g) first caps => HCall P g (first ++ evs (evA a) xs ++ caps) h0 (callH K a o.dst news) | _ => False)
  | op => vcOp op (evA a) h0 (finH K a o.dst (h0.length + news.length) op.slots news)
def vcHead (P : Program) (h0 : AHeap) (K : AAct → AHeap → Prop) : List AOper → AAct → AHeap → Prop
  | [], a, news => K a news
  | o :: rest, a, news =>
    match o.guard with
    | none => vcHOne P o h0 (vcHead P h0 K rest) a news
    | some (t, want) =>
      match a.getD t .any with
      | .bool b => (b = want → vcHOne P o h0 (vcHead P h0 K rest) (a.set t (.bool want)) news) ∧ (b = !want → vcHead P h0 K rest (putA (a.set t (.bool (!want))) o.dst .undef) (news ++ List.replicate o.op.slots .free))
      | .tuple [] => vcHead P h0 K rest (putA a o.dst .undef) (news ++ List.replicate o.op.slots .free)
      | _ => False

/-- What one operation of the head does, in whatever state it is met. -/
structure Yield (P : Program) (h0 : AHeap) (l0 : List Oper) (o : Oper) (ts : List Nat) (a : AAct) (t : Nat) (v : AV) (s : List Slot) : Prop where
  run : ∀ (C : Cfg) (act : Act) (Q : Exit → Act → World → Prop) (K' : Act → World → Prop), HSub h0 C.h → Rel C → (∀ u, u ∈ ts → VR C (a.getD u .any) (act.tmps.getD u undef)) → (s ≠ [] → C.h[t]? = some .free) →
    (∀ cv D, D.h = (match s with | [x] => C.h.set t x | _ => C.h) → Rel D → VR D v cv → Ext C.h.length C D → K' (act.put o.dst cv) D.w) →
    if Region.wanted o (yielded l0.toArray act.tmps) then o.wp P act C.w K' Q else K' (act.put o.dst undef) C.w
inductive Chain (P : Program) (h0 : AHeap) (l0 : List Oper) : List Oper → List AOper → AAct → AHeap → List (AV × List Slot) → AAct → AHeap → Prop where
  | nil (a : AAct) (news : AHeap) : Chain P h0 l0 [] [] a news [] a news
  | cons (o : Oper) (ao : AOper) (l : List Oper) (al : List AOper) (a : AAct) (news : AHeap) (v : AV) (s : List Slot) (rs : List (AV × List Slot)) (a' : AAct) (news' : AHeap) (hy : Yield P h0 l0 o ao.looks a (h0.length + news.length) v s) (hd : ao.dst = o.dst)
      (hs : s.length = ao.op.slots) (hs1 : s.length ≤ 1) (ht : Chain P h0 l0 l al (putA a o.dst v) (news ++ s) rs a' news') : Chain P h0 l0 (o :: l) (ao :: al) a news ((v, s) :: rs) a' news'
end Go.Eng
