/- LimitFinds, joined. -/
import Derived.Test.YtkkjdodolnpfmaaLim4
import Derived.Test.YtkkjdodolnpfmaaTyLim
import Derived.KernelRfl
set_option linter.unusedVariables false
set_option maxRecDepth 100000
namespace Go.Proofs.Ytkkjdodolnpfmaa
open Go Go.RowKit Go.Eng
theorem walk_LimitFinds (x0 x1 x2 x3 : AV) (h0 : TyV Try.prog 8 22 x0) (h1 : TyV Try.prog 8 3 x1) (h2 : TyV Try.prog 8 2 x2) (h3 : TyV Try.prog 8 23 x3) : PCalls Try.prog 3 [x0, x1, x2, x3] (fun r => r = .bool true) := by
  obtain ⟨ls, rfl⟩ := ty_limits x0 h0
  obtain ⟨i, rfl⟩ := ty_int x1 h1
  obtain ⟨a, rfl, _⟩ := ty_i64 x2 h2
  obtain ⟨ss, rfl⟩ := ty_spots x3 h3
  exact walk_finds ls _ rfl i a ss _ rfl
end Go.Proofs.Ytkkjdodolnpfmaa
