/- A configuration that may be, by the engine. -/
import Derived.Test.YtfonjmhnokailaaNums
import Derived.KernelRfl
set_option linter.unusedVariables false
set_option linter.unusedSimpArgs false
namespace Go.Proofs.Ytfonjmhnokailaa
open Go Go.RowKit Go.Eng
set_option maxRecDepth 100000
def ConfOk (c0 c1 c2 c3 c4 c5 c6 c7 c8 c9 c10 c11 c12 c13 : Int) : Prop :=
  (1 ≤ c0 ∧ c0 ≤ 1024) ∧ (131072 ≤ c1 ∧ c1 ≤ 8388608 ∧ c1 ≤ c2 ∧ c2 ≤ 8388608) ∧ (c2 - c1) * 16 ≤ c1 ∧ (0 ≤ c3 ∧ c3 ≤ 1048576 ∧ 0 ≤ c4 ∧ c4 ≤ 65536) ∧ (0 ≤ c5 ∧ c5 ≤ 1048576) ∧ (1 ≤ c6 ∧ c6 ≤ 16777216 ∧ 1 ≤ c7 ∧ c7 ≤ 1048576) ∧ c6 * c0 ≤ 32000 * c1 ∧ (0 ≤ c8 ∧ c8 ≤ 1048576) ∧ (1 ≤ c9 ∧ c9 ≤ 1000 ∧ 1 ≤ c12 ∧ c12 ≤ 1000) ∧ ((c2 + c0 - 1) / c0 ≤ c10 ∧ 3 * c3 ≤ c10 ∧ c10 ≤ 16777216) ∧ (0 ≤ c11 ∧ c11 ≤ 1073741824) ∧ (1 ≤ c13 ∧ c13 ≤ 1048576)
/-- The first rule that does not hold. -/
def wrongV (c0 c1 c2 c3 c4 c5 c6 c7 c8 c9 c10 c11 c12 c13 : Int) : Int :=
  if c0 < 1 ∨ 1024 < c0 then 1 else
  if c1 < 131072 ∨ 8388608 < c1 ∨ c2 < c1 ∨ 8388608 < c2 then 2 else
  if c1 < IntKind.i64.wrap (IntKind.i64.wrap (c2 - c1) * 16) then 3 else
  if c3 < 0 ∨ 1048576 < c3 ∨ c4 < 0 ∨ 65536 < c4 then 4 else
  if c5 < 0 ∨ 1048576 < c5 then 5 else
  if c6 < 1 ∨ 16777216 < c6 ∨ c7 < 1 ∨ 1048576 < c7 then 6 else
  if IntKind.i64.wrap (32000 * c1) < IntKind.i64.wrap (c6 * c0) then 7 else
  if c8 < 0 ∨ 1048576 < c8 then 8 else
  if c9 < 1 ∨ 1000 < c9 ∨ c12 < 1 ∨ 1000 < c12 then 9 else
  if c10 < (c2 + c0 - 1) / c0 ∨ c10 < IntKind.i64.wrap (3 * c3) ∨ 16777216 < c10 then 10 else
  if c11 < 0 ∨ 1073741824 < c11 then 11 else
  if c13 < 1 ∨ 1048576 < c13 then 12 else 0
theorem ite_zero {p : Prop} [Decidable p] {a b : Int} (h : (if p then a else b) = 0) (ha : a ≠ 0) : ¬ p ∧ b = 0 := by
  by_cases hp : p
  · rw [if_pos hp] at h; exact absurd h ha
  · rw [if_neg hp] at h; exact ⟨hp, h⟩
theorem wrong_ok {c0 c1 c2 c3 c4 c5 c6 c7 c8 c9 c10 c11 c12 c13 : Int} (h : wrongV c0 c1 c2 c3 c4 c5 c6 c7 c8 c9 c10 c11 c12 c13 = 0) : ConfOk c0 c1 c2 c3 c4 c5 c6 c7 c8 c9 c10 c11 c12 c13 := by
  unfold wrongV at h
  replace h := ite_zero h (by decide); have k1 := h.1; replace h := h.2
  replace h := ite_zero h (by decide); have k2 := h.1; replace h := h.2
  replace h := ite_zero h (by decide); have k3 := h.1; replace h := h.2
  replace h := ite_zero h (by decide); have k4 := h.1; replace h := h.2
  replace h := ite_zero h (by decide); have k5 := h.1; replace h := h.2
  replace h := ite_zero h (by decide); have k6 := h.1; replace h := h.2
  replace h := ite_zero h (by decide); have k7 := h.1; replace h := h.2
  replace h := ite_zero h (by decide); have k8 := h.1; replace h := h.2
  replace h := ite_zero h (by decide); have k9 := h.1; replace h := h.2
  replace h := ite_zero h (by decide); have k10 := h.1; replace h := h.2
  replace h := ite_zero h (by decide); have k11 := h.1; replace h := h.2
  replace h := ite_zero h (by decide); have k12 := h.1; replace h := h.2
  clear h
  have b1 : IntKind.i64.wrap (IntKind.i64.wrap (c2 - c1) * 16) = (c2 - c1) * 16 := by rw [IntKind.wrap_i64, IntKind.wrap_i64]; omega
  have b2 : c6 * c0 ≤ 16777216 * 1024 := Int.mul_le_mul (by omega) (by omega) (by omega) (by omega)
  have b3 : 0 ≤ c6 * c0 := Int.mul_nonneg (by omega) (by omega)
  have b4 : IntKind.i64.wrap (c6 * c0) = c6 * c0 := by rw [IntKind.wrap_i64]; omega
  have b5 : IntKind.i64.wrap (32000 * c1) = 32000 * c1 := by rw [IntKind.wrap_i64]; omega
  have b6 : IntKind.i64.wrap (3 * c3) = 3 * c3 := by rw [IntKind.wrap_i64]; omega
  unfold ConfOk
  rw [b1] at k3
  rw [b4, b5] at k7
  rw [b6] at k10
  clear b1 b2 b3 b4 b5 b6
  and_intros <;> omega
end Go.Proofs.Ytfonjmhnokailaa
