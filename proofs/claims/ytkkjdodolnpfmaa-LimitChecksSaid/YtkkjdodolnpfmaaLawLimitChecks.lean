/- LimitChecks, joined. -/
import Derived.Test.YtkkjdodolnpfmaaLim7
import Derived.Test.YtkkjdodolnpfmaaTyTrack
import Derived.Test.YtkkjdodolnpfmaaTyLim
import Derived.KernelRfl
set_option linter.unusedVariables false
set_option maxRecDepth 100000
namespace Go.Proofs.Ytkkjdodolnpfmaa
open Go Go.RowKit Go.Eng
theorem walk_LimitChecks (x0 x1 : AV) (h0 : TyV Try.prog 8 74 x0) (h1 : TyV Try.prog 8 22 x1) : PCalls Try.prog 12 [x0, x1] (fun r => r = .bool true) := by
  obtain ⟨ss, gs, rfl⟩ := ty_track x0 h0
  obtain ⟨ls, rfl⟩ := ty_limits x1 h1
  exact walk_checks ss gs ls _ _ _ rfl rfl rfl
end Go.Proofs.Ytkkjdodolnpfmaa
