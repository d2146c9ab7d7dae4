/- Span.In where it holds. -/
import Derived.Test.YtkkjdodolnpfmaaSpan
set_option linter.unusedVariables false
set_option linter.unusedSimpArgs false
namespace Go.Proofs.Ytkkjdodolnpfmaa
open Go.RowKit
theorem span_in (a b c d : Int) (w : World) (h0 : a ≤ b) (h1 : c ≤ a) (h2 : b ≤ d) :
    Calls Try.prog 33 #[sp a b, sp c d] w fun e w' => e = .returned (.bool true) ∧ Below w.heap.size w w' := by
  have C1 := hid (fun w => span_right a b w)
  unfold sp at C1 ⊢
  have e0 : decide (a ≤ b) = true := by simpa using h0
  rw [e0] at C1
  have e1 : decide (c ≤ a) = true := by simpa using h1
  have e2 : decide (b ≤ d) = true := by simpa using h2
  go_enter Try.func33, Try.ntmps33
  (have hasc := Nat.add_assoc; have hpos := nat_pos_or; have hlit := nat_lt_lit)
  go_wp2_with (go_at_call 49; ((with_reducible refine (Calls.to_kept [w.heap.size, w.heap.size + 1] (C1.out _) ?lt).mono ?_); (case lt => (first | (exact trivial) | (simp only [AllLt, World.size_alloc, World.size_setCell, World.size_drew, size_drewN', size_grow, and_true, true_and]; omega))); rintro e w' ⟨rfl, g1, rfl, kg1⟩; simp only [AllKept, and_true] at kg1))
  go_returns
  exact ⟨rfl, by (repeat' (first | (with_reducible exact Below.refl _ _) | (with_reducible assumption) | (with_reducible refine below_drewN ?_ _) | (with_reducible refine below_grown ?_ ?_ _) | (with_reducible refine Below.alloc ?_ ?_ _) | (with_reducible refine Below.drew ?_) | (with_reducible refine Below.setCell ?_ ?_ _) | (first | (with_reducible exact Nat.le_refl _) | (with_reducible assumption) | omega | (simp only [World.size_alloc, World.size_setCell, World.size_drew, size_drewN', size_grow]; omega) | (simp; omega) | (simp; done)) | (with_reducible refine Below.trans ?_ (Below.mono (by with_reducible assumption) ?_))))⟩
end Go.Proofs.Ytkkjdodolnpfmaa
