/- A span that comes in. -/
import Derived.Test.YtkkjdodolnpfmaaOpenSpans
set_option linter.unusedVariables false
set_option linter.unusedSimpArgs false
namespace Go.Proofs.Ytkkjdodolnpfmaa
open Go.RowKit Go.Joins Go.ChangeShapes Go.WideShapes
set_option maxRecDepth 100000 in
theorem open_span {H : Type} {enc : TypeId × Value → H} {w : World} {base b0 : Nat} {spare : Nat → Bool} {held : Bool} {r : Reach} {v : Value} {d : DataW H} {p : List MemPlace}
    (hv : Value.okWide Try.prog w r b0 42 v) (h : DataW.Trod enc Try.prog w base spare held 42 v d p) :
    ∃ l s, v = sp l s ∧ I64 l ∧ I64 s := by
  obtain ⟨c0, c1, y0, y1, m, rfl, rfl, rfl, hy0, hy1⟩ := open_agg2 Try.underlying42 (by kernel_rfl) cells_span hv h
  obtain ⟨l, e0, _, w0⟩ := DataW.trod_int Try.underlying2 hy0
  obtain ⟨s, e1, _, w1⟩ := DataW.trod_int Try.underlying2 hy1
  simp at e0 e1
  subst e0 e1
  exact ⟨l, s, rfl, bd_i64 w0, bd_i64 w1⟩
end Go.Proofs.Ytkkjdodolnpfmaa
