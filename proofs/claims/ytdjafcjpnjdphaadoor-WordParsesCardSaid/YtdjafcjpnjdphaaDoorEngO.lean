/- The engine: a contract at a heap of one slot, anywhere. -/
import Derived.Test.YtdjafcjpnjdphaaDoorEngG
import Derived.Test.YtdjafcjpnjdphaaDoorEngF
set_option linter.unusedVariables false
set_option linter.unusedSimpArgs false
namespace Go.Eng
open Go Go.RowKit
theorem ren_up0 {f : Nat → Nat} {es : List (List AV)} (h : Up0 es) : renLL f es = es := renLL_upto f es h.get
theorem ACall.one {P : Program} {g : FuncId} {args0 args : List AV} {z s : Nat} {es0 : List (List AV)} {h : AHeap} {K0 K : AV → AHeap → Prop} (H : ACall P g args0 [.live z es0] K0) (hu : Up0 es0) (hs : h[s]? = some (.live z es0)) (ha : uptoL 1 args0 = true) (hr : renL (fun _ => s) args0 = args)
    (hK : ∀ r hD, K0 r hD → r.upto 0 = true ∧ ∃ es1 j, hD = .live z es1 :: j ∧ Up0 es1 ∧ K r (h.set s (.live z es1))) : ACall P g args h K := by
  refine ACall.frame (fun _ => s) H ?_ ?_ ha hr ?_
  · intro i hi j hj _
    simp only [List.length_cons, List.length_nil] at hi hj
    omega
  · intro i hi
    simp only [List.length_cons, List.length_nil] at hi
    have h0 : i = 0 := by omega
    subst h0
    exact ⟨z, es0, rfl, uptoLL_m 1 _ hu.get, by rw [ren_up0 hu]; exact hs⟩
  · intro r hD hk
    obtain ⟨k1, es1, j, rfl, k2, k3⟩ := hK r hD hk
    refine ⟨upto_m 1 r k1, fun i hi => ?_, ?_⟩
    · simp only [List.length_cons, List.length_nil] at hi
      have h0 : i = 0 := by omega
      subst h0
      exact ⟨z, es1, rfl, uptoLL_m 1 _ k2.get⟩
    · rw [ren_upto _ r k1]
      show K r (h.set s (renS (fun _ => s) (.live z es1)))
      rw [show renS (fun _ => s) (.live z es1) = .live z es1 from congrArg (Slot.live z) (ren_up0 k2)]
      exact k3
end Go.Eng
