/- Calls that read what the caller owns: own slices and pointers are shown to the callee as lists and read-only cells; what comes back names none of them. -/
import Derived.Test.YtdjafcjpnjdphaaDoorEng24
import Derived.KernelRfl
set_option linter.unusedVariables false
namespace Go.Eng
open Go
mutual
def AV.flat : AV → Bool
  | .agg cs => flatL cs
  | .tuple cs => flatL cs
  | .list _ _ => false
  | .sl _ _ _ _ => false
  | .ref _ _ _ _ => false
  | .mapr _ => false
  | .cref _ => false
  | .func _ f c => flatL f && flatL c
  | .iface _ v => v.flat
  | _ => true
def flatL : List AV → Bool
  | [] => true
  | c :: cs => c.flat && flatL cs
end
theorem flatL_get : ∀ {cs : List AV} {i : Nat} {x : AV}, flatL cs = true → cs[i]? = some x → x.flat = true
  | [], i, x, _, h => by simp at h
  | c :: cs, 0, x, hb, h => by
    simp only [List.getElem?_cons_zero, Option.some.injEq] at h
    subst h
    simp only [flatL, Bool.and_eq_true] at hb
    exact hb.1
  | c :: cs, i + 1, x, hb, h => by
    simp only [flatL, Bool.and_eq_true] at hb
    exact flatL_get hb.2 (by simpa using h)
theorem VR.reflat {C D : Cfg} {x : AV} {v : Value} (h : VR C x v) : x.flat = true → VR D x v := by
  induction h with
  | any v => exact fun _ => .any v
  | bool b => exact fun _ => .bool b
  | int k n => exact fun _ => .int k n
  | str s => exact fun _ => .str s
  | nilp => exact fun _ => .nilp
  | nils => exact fun _ => .nils
  | emp a => exact fun _ => .emp a
  | nilFunc => exact fun _ => .nilFunc
  | nilIface => exact fun _ => .nilIface
  | agg cs vs hl h ih => exact fun hb => .agg cs vs hl fun i x hi => ih i x hi (flatL_get hb hi)
  | tuple cs vs hl h ih => exact fun hb => .tuple cs vs hl fun i x hi => ih i x hi (flatL_get hb hi)
  | list z es a m cap f hn hc ha hz hcell hown hv ih => intro hb; cases hb
  | listNil z a cap => intro hb; cases hb
  | sl s z i m cap hs hc hsz => intro hb; cases hb
  | ref s z i o hs => intro hb; cases hb
  | mapr s hs => intro hb; cases hb
  | cref cs a f ha hcell hown hv ih => intro hb; cases hb
  | func fn first caps vf vc hf hc h1 h2 ih1 ih2 =>
    intro hb
    simp only [AV.flat, Bool.and_eq_true] at hb
    exact .func fn first caps vf vc hf hc (fun i x hi => ih1 i x hi (flatL_get hb.1 hi)) fun i x hi => ih2 i x hi (flatL_get hb.2 hi)
  | iface t x v h ih => exact fun hb => .iface t x v (ih hb)
theorem Rel.bare {C : Cfg} (R : Rel C) : Rel { C with h := [] } :=
  ⟨fun s z es h => by simp at h, fun s t ⟨z, es, h⟩ => by simp at h, fun b hb => R.olt b hb, fun p hp => (R.glo p hp).recfg (C := C) (D := { C with h := [] }) rfl (fun b hb => hb.elim .inl fun ⟨s, ⟨z, es, h⟩, _⟩ => by simp at h) (gs_upto hp 0), R.gsz⟩
theorem Rel.back0 {C D : Cfg} (R : Rel C) (E : Ext 0 { C with h := [] } D) : Rel { C with w := D.w } ∧ Ext C.h.length C { C with w := D.w } := by
  have hno : ∀ b, ¬ Cfg.lown { C with h := [] } b := by
    rintro b ⟨s, ⟨z, es, hs⟩, _⟩
    simp at hs
  have he : ∀ n, Ext n C { C with w := D.w } := fun n => ⟨rfl, E.os, E.tape, E.output, E.size, fun s _ h => ⟨h, rfl⟩, fun b hb hl => ⟨(E.keep b hb (hno b)).1, hl⟩, E.shape⟩
  exact ⟨R.of_ext (he _) (fun s z es hl => .inl ⟨hl, rfl, (E.keep _ (R.lown_lt ⟨s, ⟨z, es, hl⟩, rfl⟩) (hno _)).1⟩) R.inj, he _⟩
theorem VwL.vrs {C : Cfg} {vs rs : List AV} (H : VwL C.h vs rs) (RC : Rel C) {us : Array Value} (hv : VRs C vs us) : VRs { C with h := [] } rs us := by
  obtain ⟨h1, h2⟩ := H.get
  refine ⟨hv.1.trans h1, fun i r hr => ?_⟩
  obtain ⟨v, e, hvw⟩ := h2 i r hr
  exact hvw C rfl RC _ (hv.2 i v e)
theorem ACall.view {P : Program} {g : FuncId} {args args' : List AV} {R : AV → Prop} {h : AHeap} {K : AV → AHeap → Prop} (H : PCalls P g args' R) (ha : VwL h args args') (hK : ∀ r, R r → r.flat = true ∧ K r h) : ACall P g args h K := by
  refine ⟨H.1, fun C vs hC RC hv => ?_⟩
  subst hC
  refine (H.2 { C with h := [] } vs rfl RC.bare (ha.vrs RC hv)).mono fun e w' ⟨v, r, D, h1, h2, h3, h4, h5, h6, h7⟩ => ?_
  obtain ⟨R1, E1⟩ := RC.back0 h7
  subst h4
  obtain ⟨hf, hk⟩ := hK r h2
  exact ⟨v, r, { C with w := D.w }, h1, hk, rfl, R1, h6.reflat hf, E1, Nat.le_refl _⟩
section
variable {P : Program}
theorem Call.view {g : FuncId} {args args' : List AV} {R : AV → Prop} {h : AHeap} {K : AAct → AHeap → Prop} {a : AAct} {dst : Option Nat} (H : PCalls P g args' R) (ha : VwL h args args') (hK : ∀ r, R r → r.flat = true ∧ K (putA a dst r) h) : Call P g args h (callK K a dst) :=
  ⟨ACall.view H ha hK⟩
end
end Go.Eng
