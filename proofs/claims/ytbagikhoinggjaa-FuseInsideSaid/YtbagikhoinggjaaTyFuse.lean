/- What sensors are. -/
import Derived.Test.YtbagikhoinggjaaTyConf
import Derived.Test.YtbagikhoinggjaaFuseX
import Derived.KernelRfl
set_option linter.unusedVariables false
set_option linter.unusedSimpArgs false
namespace Go.Proofs.Ytbagikhoinggjaa
open Go Go.RowKit Go.Eng
set_option maxRecDepth 100000
theorem ty_span (x : AV) (h : TyV Try.prog 8 46 x) : ∃ a b : Int, x = sp2 a b ∧ I64 a ∧ I64 b := by
  obtain ⟨cs, rfl, hx⟩ := h.agg (by kernel_rfl) (show shOf Try.prog 8 46 = some [.int .i64, .int .i64] from by kernel_rfl)
  obtain ⟨a, _, rfl, h1, y1⟩ := ok_int hx
  obtain ⟨b, _, rfl, h2, y2⟩ := ok_int y1
  obtain rfl := ok_nil y2
  exact ⟨a, b, rfl, wf64 h1, wf64 h2⟩
theorem ty_sensor (x : AV) (h : TyV Try.prog 8 48 x) : ∃ (f : Bool) (a b : Int), x = sens f a b ∧ I64 a ∧ I64 b := by
  obtain ⟨cs, rfl, hx⟩ := h.agg (by kernel_rfl) (show shOf Try.prog 8 48 = some [.bool, .int .i64, .int .i64] from by kernel_rfl)
  obtain ⟨f, _, rfl, y3⟩ := ok_bool hx
  obtain ⟨a, _, rfl, h1, y4⟩ := ok_int y3
  obtain ⟨b, _, rfl, h2, y5⟩ := ok_int y4
  obtain rfl := ok_nil y5
  exact ⟨f, a, b, rfl, wf64 h1, wf64 h2⟩
theorem ty_three (x : AV) (h : TyV Try.prog 8 49 x) : ∃ (f0 f1 f2 : Bool) (a0 b0 a1 b1 a2 b2 : Int), x = sens3 f0 f1 f2 a0 b0 a1 b1 a2 b2 ∧ I64 a0 ∧ I64 b0 ∧ I64 a1 ∧ I64 b1 ∧ I64 a2 ∧ I64 b2 := by
  obtain ⟨cs, rfl, hx⟩ := h.agg (by kernel_rfl) (show shOf Try.prog 8 49 = some [.bool, .int .i64, .int .i64, .bool, .int .i64, .int .i64, .bool, .int .i64, .int .i64] from by kernel_rfl)
  obtain ⟨f0, _, rfl, y6⟩ := ok_bool hx
  obtain ⟨a0, _, rfl, h1, y7⟩ := ok_int y6
  obtain ⟨b0, _, rfl, h2, y8⟩ := ok_int y7
  obtain ⟨f1, _, rfl, y9⟩ := ok_bool y8
  obtain ⟨a1, _, rfl, h3, y10⟩ := ok_int y9
  obtain ⟨b1, _, rfl, h4, y11⟩ := ok_int y10
  obtain ⟨f2, _, rfl, y12⟩ := ok_bool y11
  obtain ⟨a2, _, rfl, h5, y13⟩ := ok_int y12
  obtain ⟨b2, _, rfl, h6, y14⟩ := ok_int y13
  obtain rfl := ok_nil y14
  exact ⟨f0, f1, f2, a0, b0, a1, b1, a2, b2, rfl, wf64 h1, wf64 h2, wf64 h3, wf64 h4, wf64 h5, wf64 h6⟩
end Go.Proofs.Ytbagikhoinggjaa
