/- FuseInside, joined. -/
import Derived.Test.YtbagikhoinggjaaFuseI
import Derived.Test.YtbagikhoinggjaaTyFuse
import Derived.KernelRfl
set_option linter.unusedVariables false
set_option maxRecDepth 100000
namespace Go.Proofs.Ytbagikhoinggjaa
open Go Go.RowKit Go.Eng
theorem walk_FuseInside (x0 x1 x2 : AV) (h0 : TyV Try.prog 8 46 x0) (h1 : TyV Try.prog 8 49 x1) (h2 : TyV Try.prog 8 48 x2) : PCalls Try.prog 8 [x0, x1, x2] (fun r => r = .bool true) := by
  obtain ⟨p0, p1, rfl, _, _⟩ := ty_span x0 h0
  obtain ⟨f0, f1, f2, a0, b0, a1, b1, a2, b2, rfl, k0, k1, k2, k3, k4, k5⟩ := ty_three x1 h1
  obtain ⟨f3, a3, b3, rfl, k6, k7⟩ := ty_sensor x2 h2
  exact e_inside p0 p1 f0 f1 f2 f3 a0 b0 a1 b1 a2 b2 a3 b3 ⟨k0, k1, k2, k3, k4, k5, k6, k7⟩
end Go.Proofs.Ytbagikhoinggjaa
