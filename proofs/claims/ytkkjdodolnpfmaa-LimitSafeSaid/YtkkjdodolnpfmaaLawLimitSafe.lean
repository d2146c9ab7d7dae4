/- LimitSafe, joined. -/
import Derived.Test.YtkkjdodolnpfmaaLim3
import Derived.Test.YtkkjdodolnpfmaaTyLim
import Derived.KernelRfl
set_option linter.unusedVariables false
set_option maxRecDepth 100000
namespace Go.Proofs.Ytkkjdodolnpfmaa
open Go Go.RowKit Go.Eng
theorem walk_LimitSafe (x0 x1 x2 x3 : AV) (h0 : TyV Try.prog 8 22 x0) (h1 : TyV Try.prog 8 23 x1) (h2 : TyV Try.prog 8 3 x2) (h3 : TyV Try.prog 8 2 x3) : PCalls Try.prog 4 [x0, x1, x2, x3] (fun r => r = .bool true) := by
  obtain ⟨ls, rfl⟩ := ty_limits x0 h0
  obtain ⟨ss, rfl⟩ := ty_spots x1 h1
  obtain ⟨i, rfl⟩ := ty_int x2 h2
  obtain ⟨a, rfl, _⟩ := ty_i64 x3 h3
  exact walk_safe ls _ rfl ss _ rfl i a
end Go.Proofs.Ytkkjdodolnpfmaa
