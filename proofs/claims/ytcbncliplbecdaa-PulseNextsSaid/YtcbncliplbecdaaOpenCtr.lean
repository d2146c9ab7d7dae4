/- A counter that comes in: its three fields. -/
import Derived.Test.YtcbncliplbecdaaLawNexts
import Derived.ProofKit
import Derived.Lib.SmallJoins
set_option linter.unusedVariables false
set_option linter.unusedSimpArgs false
namespace Go.Proofs.Ytcbncliplbecdaa
open Go.RowKit Go.Joins Go.ChangeShapes Go.WideShapes
theorem cells_ctr : Try.prog.cellsOf 43 = 3 := by kernel_rfl
theorem open_ctr {H : Type} {enc : TypeId × Value → H} {w : World} {base b0 : Nat} {spare : Nat → Bool} {held : Bool} {r : Reach} {v : Value} {d : DataW H} {p : List MemPlace}
    (hv : Value.okWide Try.prog w r b0 43 v) (h : DataW.Trod enc Try.prog w base spare held 43 v d p) :
    ∃ k l s, v = ctr k l s ∧ (0 ≤ l ∧ l ≤ 65535) ∧ I64 s := by
  obtain ⟨c0, c1, c2, y0, y1, y2, m, rfl, rfl, rfl, hy0, hy1, hy2⟩ := open_agg3 Try.underlying43 (by kernel_rfl) cells_ctr hv h
  obtain ⟨k, e0, rfl⟩ := DataW.trod_bool Try.underlying4 hy0
  obtain ⟨l, e1, _, w1⟩ := DataW.trod_int Try.underlying22 hy1
  obtain ⟨s, e2, _, w2⟩ := DataW.trod_int Try.underlying2 hy2
  simp at e0 e1 e2
  subst e0 e1 e2
  exact ⟨k, l, s, rfl, bd_u16 w1, bd_i64 w2⟩
end Go.Proofs.Ytcbncliplbecdaa
