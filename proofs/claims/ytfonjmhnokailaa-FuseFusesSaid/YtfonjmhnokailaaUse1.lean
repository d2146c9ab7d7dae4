/- Spans, by the engine. -/
import Derived.Test.YtfonjmhnokailaaEng22
import Derived.KernelRfl
set_option linter.unusedVariables false
set_option linter.unusedSimpArgs false
namespace Go.Proofs.Ytfonjmhnokailaa
open Go Go.RowKit Go.Eng
set_option maxRecDepth 100000
abbrev sp2 (lo hi : Int) : AV := .agg [.int .i64 lo, .int .i64 hi]
def BothIs (lo : Int) (a : Bool) (hi : Int) (b : Bool) (r : AV) : Prop := ∃ l h o, r = .tuple [sp2 l h, .bool o] ∧ (o = true ↔ a = true ∧ b = true ∧ lo ≤ hi) ∧ (o = true → l = lo ∧ h = hi) ∧ (o = false → l = 0 ∧ h = 0)
theorem e_both (lo hi : Int) (a b : Bool) : PCalls Try.prog 41 [.int .i64 lo, .bool a, .int .i64 hi, .bool b] (BothIs lo a hi b) := by
  (refine PCalls.ofX Try.func41 (by kernel_rfl) (by kernel_rfl) fun w hw R hR => ?_); (conv => arg 2; cbv); (generalize hP : Try.prog = P); cbv
  subst hw
  repeat' (split <;> rename_i h <;> (try (simp only [std, binStd, cmpStd, unStd, scmpStd, maxI, Bool.not_eq_true', Bool.not_eq_false', decide_eq_true_eq, decide_eq_false_iff_not, Int.not_lt, Int.not_le, if_true, if_false, Bool.false_eq_true, beq_iff_eq, bne_iff_ne, ne_eq, Bool.not_eq_eq_eq_not, Bool.not_true, Bool.not_false, beq_eq_false_iff_ne, bne_eq_false_iff_eq, Int.ofNat_eq_natCast] at h)))
  all_goals refine ⟨_, Vw.same rfl, hR _ ⟨_, _, _, rfl, ?_⟩⟩
  all_goals (simp_all; try omega)
theorem e_meet (a b c d : Int) : PCalls Try.prog 34 [sp2 a b, sp2 c d] (BothIs (max a c) true (min b d) true) := by
  (refine PCalls.ofX Try.func34 (by kernel_rfl) (by kernel_rfl) fun w hw R hR => ?_); (conv => arg 2; cbv); (generalize hP : Try.prog = P); cbv
  refine Call.step (by rw [← hP]; exact e_both _ _ _ _) rfl ?_
  rintro r ⟨l, h, o, rfl, h1, h2, h3⟩
  cbv
  subst hw
  refine ⟨_, Vw.same rfl, hR _ ⟨_, _, _, rfl, ?_⟩⟩
  simp only [std, binStd, cmpStd, unStd, scmpStd, maxI, Bool.not_eq_true', Bool.not_eq_false', decide_eq_true_eq, decide_eq_false_iff_not, Int.not_lt, Int.not_le, if_true, if_false, Bool.false_eq_true, beq_iff_eq, bne_iff_ne, ne_eq, Bool.not_eq_eq_eq_not, Bool.not_true, Bool.not_false, beq_eq_false_iff_ne, bne_eq_false_iff_eq, Int.ofNat_eq_natCast] at h1 h2
  have e1 : (if c > a then c else a) = max a c := by omega
  have e2 : (if d < b then d else b) = min b d := by omega
  simp only [e1, e2] at h1 h2
  exact ⟨by simpa using h1, by simpa using h2, by simpa using h3⟩
end Go.Proofs.Ytfonjmhnokailaa
