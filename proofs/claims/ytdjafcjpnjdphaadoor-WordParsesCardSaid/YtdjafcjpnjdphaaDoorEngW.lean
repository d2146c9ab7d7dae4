/- The engine: a contract whose rows are given up when it ends. -/
import Derived.Test.YtdjafcjpnjdphaaDoorEngO
set_option linter.unusedVariables false
set_option linter.unusedSimpArgs false
namespace Go.Eng
open Go Go.RowKit
/-- A weaker state, met. -/
inductive WkB (n : Nat) (a : AAct) (h : AHeap) (a' : AAct) (h' : AHeap) : Prop where
  | mk (H : Wk n a h a' h')
theorem ACall.give {P : Program} {g : FuncId} {args : List AV} {h h' : AHeap} {r' : AV} (H : ACall P g args h (fun r hD => WkB h.length [r] hD [r'] h')) : ACall P g args h (fun r hD => r = r' ∧ hD = h') := by
  refine ⟨H.1, fun C vs hC RC hv => (H.2 C vs hC RC hv).mono fun e w' ⟨v, r, D, h1, h2, h3, h4, h5, h6, h7⟩ => ?_⟩
  obtain ⟨hw⟩ := h2
  have hst : St D [r] { tmps := #[v], defers := [] } := ⟨h4, ⟨rfl, fun i x hx => by
    match i, hx with
    | 0, hx => simp at hx; subst hx; simpa using h5
    | i + 1, hx => simp at hx⟩, rfl⟩
  obtain ⟨D', k1, k2, k3, k4, k5⟩ := hw D _ rfl hst h7
  have hx : VR D' r' v := by simpa using k3.vrs.2 0 r' rfl
  exact ⟨v, r', D', h1, ⟨rfl, k1⟩, k2.trans h3, k3.rel, hx, h6.trans k4, by rw [k1]; exact k5⟩
end Go.Eng
