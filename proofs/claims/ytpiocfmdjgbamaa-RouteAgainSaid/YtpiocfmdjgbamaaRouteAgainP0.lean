/- Texts of the proof of RouteAgain, joined by wip/tools/pack.py. -/
import Derived.Test.YtpiocfmdjgbamaaRouteGrowsP3
import Derived.KernelRfl
/- RouteAgain, joined. -/
set_option linter.unusedVariables false
set_option maxRecDepth 100000
namespace Go.Proofs.Ytpiocfmdjgbamaa
open Go Go.RowKit Go.Eng
theorem walk_RouteAgain (x0 x1 x2 x3 x4 : AV) (h0 : TyV Try.prog 8 25 x0) (h1 : TyV Try.prog 8 3 x1) (h2 : TyV Try.prog 8 2 x2) (h3 : TyV Try.prog 8 50 x3) (h4 : TyV Try.prog 8 50 x4) : PCalls Try.prog 4 [x0, x1, x2, x3, x4] (fun r => r = .bool true) := by
  obtain ⟨ss, gs, rfl⟩ := ty_track x0 h0
  obtain ⟨sg, rfl⟩ := ty_intS x1 h1
  obtain ⟨f, rfl, _, _⟩ := ty_i64 x2 h2
  obtain ⟨a, b, rfl⟩ := ty_span x3 h3
  obtain ⟨c, d, rfl⟩ := ty_span x4 h4
  exact e_again ss gs _ _ rfl rfl sg f a b c d
end Go.Proofs.Ytpiocfmdjgbamaa

