/- The engine, part 32: a call run in the caller's own heap: the callee may write through pointers to the caller's slots. -/
import Derived.Test.YtdjafcjpnjdphaaDoorEng31
set_option linter.unusedVariables false
set_option linter.unusedSimpArgs false
namespace Go.Eng
open Go Go.RowKit
/-- What becomes of a callee's results in the caller. -/
def retI (rs : List ARet) (K : AV → AHeap → Prop) : APost
  | .normal, a, h => ∃ l, retVs a h rs = some l ∧ K (retOne l) h
  | .ret, a, h => ∃ l, retVs a h rs = some l ∧ K (retOne l) h
  | _, _, _ => False
def retIX (rs : List ARet) (K : AV → AHeap → Prop) : APost
  | .normal, a, h => (match retVs a h rs with | some l => K (retOne l) h | none => False)
  | .ret, a, h => (match retVs a h rs with | some l => K (retOne l) h | none => False)
  | _, _, _ => False
theorem retIX_I {rs : List ARet} {K : AV → AHeap → Prop} (e : Exit) (a : AAct) (h : AHeap) (H : retIX rs K e a h) : retI rs K e a h := by
  cases e <;> simp only [retIX, retI] at H ⊢
  all_goals
    split at H
    · rename_i l hl
      exact ⟨l, hl, H⟩
    · exact H.elim
theorem ACall.inl {P : Program} {g : FuncId} {fn : Func} {F : AFun} {args : List AV} {h : AHeap} {K : AV → AHeap → Prop} (hf : P.funcs[g]? = some fn) (hname : (fn.name == "runtime.NumGoroutine") = false) (hc : compileF P fn = some F) (hdr : drawsF P fn = true)
    (H : vcCode P h.length F.code (retI F.rets K) (initA args F.n) h) : ACall P g args h K := by
  unfold compileF at hc
  split at hc
  · rename_i code hb
    split at hc
    · rename_i c r hcc hr
      simp only [Option.some.injEq] at hc
      subst hc
      refine ⟨⟨fn, hf, by simp [hb], hname⟩, fun C vs hC RC hv => ?_⟩
      refine calls_of_wp hf hb ?_
      refine wp_mono (vc_sound hcc (by unfold drawsF at hdr; rw [hb] at hdr; exact hdr) H C _ hC (init_st RC hv fn.ntmps) (Nat.le_refl _)) fun e act' w' ⟨a', D, h1, h2, h3, h4, h5⟩ => ?_
      have fin : (∃ l, retVs a' D.h r = some l ∧ K (retOne l) D.h) → act'.defers = [] ∧ ∃ v, (results fn act'.tmps).run P w' = .ok v w' ∧
          ∃ v' r D, Ending.returned v = .returned v' ∧ K r D.h ∧ D.w = w' ∧ Rel D ∧ VR D r v' ∧ Ext h.length C D ∧ h.length ≤ D.h.length := by
        rintro ⟨l, hl, hK⟩
        obtain ⟨u, k1, k2⟩ := run_results hr h3 hl
        subst h2
        exact ⟨h3.nodef, u, k1, u, _, D, rfl, hK, rfl, h3.rel, k2, h4, h5⟩
      cases e with
      | normal => exact fin h1
      | ret => exact fin h1
      | exit id => exact h1.elim
      | goto l => exact h1.elim
      | panic c => exact h1.elim
      | outgrown => exact h1.elim
    · cases hc
  · cases hc
def vcInl (w : Prims) (F : Option AFun) (P : Program) (args : List AV) (h : AHeap) (K : AV → AHeap → Prop) : Prop :=
  match F with
  | some F => vcCodeY w P (elems [] F.code) h.length F.code (retIX F.rets K) (initA args F.n) h
  | none => False
/-- A call, run where it stands. -/
theorem Call.inl {P P0 : Program} {w : Prims} (hw : w = std) (hP : P0 = P) {g : FuncId} {fn : Func} {args : List AV} {h : AHeap} {K : AAct → AHeap → Prop} {a : AAct} {dst : Option Nat} (hf : P0.funcs[g]? = some fn) (hname : (fn.name == "runtime.NumGoroutine") = false) (hdr : drawsF P0 fn = true)
    (H : vcInl w (compileF P0 fn) P args h (callK K a dst)) : Call P g args h (callK K a dst) := by
  subst hP hw
  unfold vcInl at H
  split at H
  · rename_i F hF
    exact ⟨ACall.inl hf hname hF hdr (vcCodeY_sound (fun e a h hr => retIX_I e a h hr) H)⟩
  · exact H.elim
end Go.Eng
