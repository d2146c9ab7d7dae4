/- A configuration that may be, by the engine. -/
import Derived.Test.YtbagikhoinggjaaNums
import Derived.KernelRfl
set_option linter.unusedVariables false
set_option linter.unusedSimpArgs false
namespace Go.Proofs.Ytbagikhoinggjaa
open Go Go.RowKit Go.Eng
set_option maxRecDepth 100000
theorem e_up13 (a b : Int) (h1 : 1 ≤ a) (h2 : a ≤ 8388608) (h3 : 1 ≤ b) (h4 : b ≤ 1024) : PCalls Try.prog 31 [.int .i64 a, .int .i64 b] (· = .int .i64 ((a + b - 1) / b)) := by
  (refine PCalls.ofY Try.func31 (by kernel_rfl) (by kernel_rfl) fun w hw R hR => ?_); (conv => arg 2; cbv); (generalize hP : Try.prog = P); cbv
  subst hw
  have e1 : IntKind.i64.wrap (IntKind.i64.wrap (a + b) - 1) = a + b - 1 := by rw [IntKind.wrap_i64, IntKind.wrap_i64]; omega
  refine Nz.mk (by omega) ?_
  refine ⟨_, Vw.same rfl, hR _ (congrArg (AV.int .i64) ?_)⟩
  show IntKind.i64.wrap ((IntKind.i64.wrap (IntKind.i64.wrap (a + b) - 1)).tdiv b) = _
  rw [e1]
  have h5 : (a + b - 1).tdiv b = (a + b - 1) / b := Int.tdiv_eq_ediv_of_nonneg (by omega)
  have h6 : (a + b - 1) / b ≤ a + b - 1 := Int.ediv_le_self _ (by omega)
  have h7 : 0 ≤ (a + b - 1) / b := Int.ediv_nonneg (by omega) (by omega)
  rw [h5, IntKind.wrap_i64]; omega
def ConfOk (c0 c1 c2 c3 c4 c5 c6 c7 c8 c9 c10 c11 c12 c13 : Int) : Prop :=
  (1 ≤ c0 ∧ c0 ≤ 1024) ∧ (131072 ≤ c1 ∧ c1 ≤ 8388608 ∧ c1 ≤ c2 ∧ c2 ≤ 8388608) ∧ (c2 - c1) * 16 ≤ c1 ∧ (0 ≤ c3 ∧ c3 ≤ 1048576 ∧ 0 ≤ c4 ∧ c4 ≤ 65536) ∧ (0 ≤ c5 ∧ c5 ≤ 1048576) ∧ (1 ≤ c6 ∧ c6 ≤ 16777216 ∧ 1 ≤ c7 ∧ c7 ≤ 1048576) ∧ c6 * c0 ≤ 32000 * c1 ∧ (0 ≤ c8 ∧ c8 ≤ 1048576) ∧ (1 ≤ c9 ∧ c9 ≤ 1000 ∧ 1 ≤ c12 ∧ c12 ≤ 1000) ∧ ((c2 + c0 - 1) / c0 ≤ c10 ∧ 3 * c3 ≤ c10 ∧ c10 ≤ 16777216) ∧ (0 ≤ c11 ∧ c11 ≤ 1073741824) ∧ (1 ≤ c13 ∧ c13 ≤ 1048576)
/-- The first rule that does not hold. -/
def wrongV (c0 c1 c2 c3 c4 c5 c6 c7 c8 c9 c10 c11 c12 c13 : Int) : Int :=
  if c0 < 1 ∨ 1024 < c0 then 1 else
  if c1 < 131072 ∨ 8388608 < c1 ∨ c2 < c1 ∨ 8388608 < c2 then 2 else
  if c1 < IntKind.i64.wrap (IntKind.i64.wrap (c2 - c1) * 16) then 3 else
  if c3 < 0 ∨ 1048576 < c3 ∨ c4 < 0 ∨ 65536 < c4 then 4 else
  if c5 < 0 ∨ 1048576 < c5 then 5 else
  if c6 < 1 ∨ 16777216 < c6 ∨ c7 < 1 ∨ 1048576 < c7 then 6 else
  if IntKind.i64.wrap (32000 * c1) < IntKind.i64.wrap (c6 * c0) then 7 else
  if c8 < 0 ∨ 1048576 < c8 then 8 else
  if c9 < 1 ∨ 1000 < c9 ∨ c12 < 1 ∨ 1000 < c12 then 9 else
  if c10 < (c2 + c0 - 1) / c0 ∨ c10 < IntKind.i64.wrap (3 * c3) ∨ 16777216 < c10 then 10 else
  if c11 < 0 ∨ 1073741824 < c11 then 11 else
  if c13 < 1 ∨ 1048576 < c13 then 12 else 0
theorem ite_zero {p : Prop} [Decidable p] {a b : Int} (h : (if p then a else b) = 0) (ha : a ≠ 0) : ¬ p ∧ b = 0 := by
  by_cases hp : p
  · rw [if_pos hp] at h; exact absurd h ha
  · rw [if_neg hp] at h; exact ⟨hp, h⟩
theorem wrong_ok {c0 c1 c2 c3 c4 c5 c6 c7 c8 c9 c10 c11 c12 c13 : Int} (h : wrongV c0 c1 c2 c3 c4 c5 c6 c7 c8 c9 c10 c11 c12 c13 = 0) : ConfOk c0 c1 c2 c3 c4 c5 c6 c7 c8 c9 c10 c11 c12 c13 := by
  unfold wrongV at h
  replace h := ite_zero h (by decide); have k1 := h.1; replace h := h.2
  replace h := ite_zero h (by decide); have k2 := h.1; replace h := h.2
  replace h := ite_zero h (by decide); have k3 := h.1; replace h := h.2
  replace h := ite_zero h (by decide); have k4 := h.1; replace h := h.2
  replace h := ite_zero h (by decide); have k5 := h.1; replace h := h.2
  replace h := ite_zero h (by decide); have k6 := h.1; replace h := h.2
  replace h := ite_zero h (by decide); have k7 := h.1; replace h := h.2
  replace h := ite_zero h (by decide); have k8 := h.1; replace h := h.2
  replace h := ite_zero h (by decide); have k9 := h.1; replace h := h.2
  replace h := ite_zero h (by decide); have k10 := h.1; replace h := h.2
  replace h := ite_zero h (by decide); have k11 := h.1; replace h := h.2
  replace h := ite_zero h (by decide); have k12 := h.1; replace h := h.2
  clear h
  have b1 : IntKind.i64.wrap (IntKind.i64.wrap (c2 - c1) * 16) = (c2 - c1) * 16 := by rw [IntKind.wrap_i64, IntKind.wrap_i64]; omega
  have b2 : c6 * c0 ≤ 16777216 * 1024 := Int.mul_le_mul (by omega) (by omega) (by omega) (by omega)
  have b3 : 0 ≤ c6 * c0 := Int.mul_nonneg (by omega) (by omega)
  have b4 : IntKind.i64.wrap (c6 * c0) = c6 * c0 := by rw [IntKind.wrap_i64]; omega
  have b5 : IntKind.i64.wrap (32000 * c1) = 32000 * c1 := by rw [IntKind.wrap_i64]; omega
  have b6 : IntKind.i64.wrap (3 * c3) = 3 * c3 := by rw [IntKind.wrap_i64]; omega
  unfold ConfOk
  rw [b1] at k3
  rw [b4, b5] at k7
  rw [b6] at k10
  clear b1 b2 b3 b4 b5 b6
  and_intros <;> omega
set_option maxHeartbeats 4000000 in
theorem e_wrong (c0 c1 c2 c3 c4 c5 c6 c7 c8 c9 c10 c11 c12 c13 : Int) : PCalls Try.prog 14 [.agg [.int .i64 c0, .int .i64 c1, .int .i64 c2, .int .i64 c3, .int .i64 c4, .int .i64 c5, .int .i64 c6, .int .i64 c7, .int .i64 c8, .int .i64 c9, .int .i64 c10, .int .i64 c11, .int .i64 c12, .int .i64 c13]] (· = .int .i64 (wrongV c0 c1 c2 c3 c4 c5 c6 c7 c8 c9 c10 c11 c12 c13)) := by
  (refine PCalls.ofY Try.func14 (by kernel_rfl) (by kernel_rfl) fun w hw R hR => ?_); (conv => arg 2; cbv); (generalize hP : Try.prog = P); cbv
  have hR' : ∀ n, n = wrongV c0 c1 c2 c3 c4 c5 c6 c7 c8 c9 c10 c11 c12 c13 → R (.int .i64 n) := fun n h => hR _ (by rw [h])
  clear hR
  repeat' (first | (refine ⟨_, Vw.same rfl, hR' _ ?_⟩; unfold wrongV; (repeat rw [if_neg (by omega)]); rw [if_pos (by omega)]; done) | (split <;> rename_i hb <;> (try (rw [hw] at hb)) <;> (try (simp only [std, binStd, cmpStd, unStd, scmpStd, maxI, Bool.not_eq_true', Bool.not_eq_false', decide_eq_true_eq, decide_eq_false_iff_not, Int.not_lt, Int.not_le, if_true, if_false, Bool.false_eq_true, beq_iff_eq, bne_iff_ne, ne_eq, Bool.not_eq_eq_eq_not, Bool.not_true, Bool.not_false, beq_eq_false_iff_ne, bne_eq_false_iff_eq, Int.ofNat_eq_natCast] at hb)) <;> (try cbv)))
  refine QCal.stepE (by rw [← hP]; exact e_up13 c2 c0 (by omega) (by omega) (by omega) (by omega)) rfl ?_
  generalize hu : (c2 + c0 - 1) / c0 = u at *
  cbv
  repeat' (first | (refine ⟨_, Vw.same rfl, hR' _ ?_⟩; unfold wrongV; rw [hu]; (repeat rw [if_neg (by omega)]); (first | done | (rw [if_pos (by omega)]; done))) | (split <;> rename_i hb <;> (try (rw [hw] at hb)) <;> (try (simp only [std, binStd, cmpStd, unStd, scmpStd, maxI, Bool.not_eq_true', Bool.not_eq_false', decide_eq_true_eq, decide_eq_false_iff_not, Int.not_lt, Int.not_le, if_true, if_false, Bool.false_eq_true, beq_iff_eq, bne_iff_ne, ne_eq, Bool.not_eq_eq_eq_not, Bool.not_true, Bool.not_false, beq_eq_false_iff_ne, bne_eq_false_iff_eq, Int.ofNat_eq_natCast] at hb)) <;> (try cbv)))
end Go.Proofs.Ytbagikhoinggjaa
