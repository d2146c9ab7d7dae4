/- RollTrue, joined. -/
import Derived.Test.YtkkjdodolnpfmaaLawPlays
import Derived.Test.YtkkjdodolnpfmaaRoll6
import Derived.KernelRfl
set_option linter.unusedVariables false
set_option maxRecDepth 100000
namespace Go.Proofs.Ytkkjdodolnpfmaa
open Go Go.RowKit Go.Eng
theorem walk_RollTrue (x0 x1 : AV) (h0 : TyV Try.prog 8 48 x0) (h1 : TyV Try.prog 8 49 x1) : PCalls Try.prog 8 [x0, x1] (fun r => r = .bool true) := by
  obtain ⟨c0, c1, c2, c3, c4, c5, c6, c7, c8, c9, c10, c11, c12, c13, rfl⟩ := ty_conf x0 h0
  obtain ⟨cs, rfl⟩ := ty_cycles x1 h1
  exact walk_true c0 c1 c2 c3 c4 c5 c6 c7 c8 c9 c10 c11 c12 c13 cs _ rfl
end Go.Proofs.Ytkkjdodolnpfmaa
