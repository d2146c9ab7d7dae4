/- BrakeMore, joined. -/
import Derived.Test.YtbagikhoinggjaaBrake2
import Derived.Test.YtbagikhoinggjaaTyInt
import Derived.KernelRfl
set_option linter.unusedVariables false
set_option maxRecDepth 100000
namespace Go.Proofs.Ytbagikhoinggjaa
open Go Go.RowKit Go.Eng
theorem walk_BrakeMore (x0 x1 x2 x3 : AV) (h0 : TyV Try.prog 8 23 x0) (h1 : TyV Try.prog 8 2 x1) (h2 : TyV Try.prog 8 2 x2) (h3 : TyV Try.prog 8 2 x3) : PCalls Try.prog 5 [x0, x1, x2, x3] (fun r => r = .bool true) := by
  obtain ⟨c0, c1, c2, c3, c4, c5, c6, c7, c8, c9, c10, c11, c12, c13, rfl⟩ := ty_conf x0 h0
  obtain ⟨n1, rfl, k1, l1⟩ := ty_i64 x1 h1
  obtain ⟨n2, rfl, k2, l2⟩ := ty_i64 x2 h2
  obtain ⟨n3, rfl, k3, l3⟩ := ty_i64 x3 h3
  exact walk_more c0 c1 c2 c3 c4 c5 c6 c7 c8 c9 c10 c11 c12 c13 n1 n2 n3 k1 l1 k2 l2
end Go.Proofs.Ytbagikhoinggjaa
