/- BrakeStops, joined. -/
import Derived.Test.YtbagikhoinggjaaBrake3
import Derived.Test.YtbagikhoinggjaaTyInt
import Derived.KernelRfl
set_option linter.unusedVariables false
set_option maxRecDepth 100000
namespace Go.Proofs.Ytbagikhoinggjaa
open Go Go.RowKit Go.Eng
theorem walk_BrakeStops (x0 x1 x2 : AV) (h0 : TyV Try.prog 8 23 x0) (h1 : TyV Try.prog 8 2 x1) (h2 : TyV Try.prog 8 2 x2) : PCalls Try.prog 4 [x0, x1, x2] (fun r => r = .bool true) := by
  obtain ⟨c0, c1, c2, c3, c4, c5, c6, c7, c8, c9, c10, c11, c12, c13, rfl⟩ := ty_conf x0 h0
  obtain ⟨n1, rfl, k1, l1⟩ := ty_i64 x1 h1
  obtain ⟨n2, rfl, k2, l2⟩ := ty_i64 x2 h2
  exact walk_stops c0 c1 c2 c3 c4 c5 c6 c7 c8 c9 c10 c11 c12 c13 n1 n2 k1 l1
end Go.Proofs.Ytbagikhoinggjaa
