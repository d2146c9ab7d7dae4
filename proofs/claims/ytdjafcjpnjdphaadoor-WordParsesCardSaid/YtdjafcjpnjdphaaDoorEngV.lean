/- The engine: a call in a statement of open order that reads an own slice. -/
import Derived.Test.YtdjafcjpnjdphaaDoorEng26
set_option linter.unusedVariables false
set_option linter.unusedSimpArgs false
namespace Go.Eng
open Go Go.RowKit
theorem QCal.view {P : Program} {g : FuncId} {args args' : List AV} {v : AV} {h0 : AHeap} {K : AAct → AHeap → Prop} {a : AAct} {dst : Option Nat} {news : AHeap} (H : PCalls P g args' (· = v)) (ha : ∀ h, HSub h0 h → VwL h args args') (hf : v.flat = true) (hK : K (putA a dst v) news) : QCal P g args h0 (callH K a dst news) := by
  refine ⟨⟨v, ⟨H.1, fun C vs hs R hv => ?_⟩, hK⟩⟩
  have := (ACall.view (h := C.h) (K := fun x h' => x = v ∧ h' = C.h) H (ha C.h hs) fun r hr => ⟨by rw [hr]; exact hf, hr, rfl⟩).2 C vs rfl R hv
  exact this.mono fun e w' ⟨u, x, D, h1, ⟨h2, h3⟩, h4, h5, h6, h7, _⟩ => ⟨u, D, h1, h3, h4, h5, h2 ▸ h6, h7⟩
end Go.Eng
