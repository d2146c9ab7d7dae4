/- Roll, by the engine. -/
import Derived.Test.YtkkjdodolnpfmaaUse1
import Derived.Test.YtkkjdodolnpfmaaUse2
import Derived.Test.YtkkjdodolnpfmaaEng24
import Derived.KernelRfl
set_option linter.unusedVariables false
set_option linter.unusedSimpArgs false
namespace Go.Proofs.Ytkkjdodolnpfmaa
open Go Go.RowKit Go.Eng
set_option maxRecDepth 100000
theorem e_add (a b : Int) : PCalls Try.prog 55 [.int .i64 a, .int .i64 b] (fun r => ∃ s o, r = .tuple [.int .i64 s, .bool o] ∧ ((-9223372036854775808 ≤ a + b ∧ a + b < 9223372036854775808) → o = true ∧ s = a + b)) := by
  (refine PCalls.ofX Try.func55 (by kernel_rfl) (by kernel_rfl) fun w hw R hR => ?_); (conv => arg 2; cbv); (generalize hP : Try.prog = P); cbv
  subst hw
  have hwr : (-9223372036854775808 ≤ a + b ∧ a + b < 9223372036854775808) → std.1 .add .i64 a b = a + b := fun h => add64 h.1 h.2
  repeat' (split <;> rename_i h <;> (try (simp only [std, binStd, cmpStd, unStd, scmpStd, maxI, Bool.not_eq_true', Bool.not_eq_false', decide_eq_true_eq, decide_eq_false_iff_not, Int.not_lt, Int.not_le, if_true, if_false, Bool.false_eq_true, beq_iff_eq, bne_iff_ne, ne_eq, Bool.not_eq_eq_eq_not, Bool.not_true, Bool.not_false, beq_eq_false_iff_ne, bne_eq_false_iff_eq, Int.ofNat_eq_natCast] at h)))
  · refine ⟨_, Vw.same rfl, hR _ ⟨_, _, rfl, fun hr => ?_⟩⟩
    have e : IntKind.i64.wrap (a + b) = a + b := hwr hr
    clear hR
    simp only [e, decide_eq_decide] at *
    omega
  · exact ⟨_, Vw.same rfl, hR _ ⟨_, _, rfl, fun hr => ⟨rfl, hwr hr⟩⟩⟩
  · exact ⟨_, Vw.same rfl, hR _ ⟨_, _, rfl, fun hr => ⟨rfl, hwr hr⟩⟩⟩
theorem e_small (a b : Int) : PCalls Try.prog 25 [sp2 a b] (fun r => ∃ o : Bool, r = .bool o ∧ (o = true ↔ a ≤ b ∧ -1099511627776 ≤ a ∧ b ≤ 1099511627776)) := by
  (refine PCalls.ofX Try.func25 (by kernel_rfl) (by kernel_rfl) fun w hw R hR => ?_); (conv => arg 2; cbv); (generalize hP : Try.prog = P); cbv
  subst hw
  repeat' (split <;> rename_i h <;> (try (simp only [std, binStd, cmpStd, unStd, scmpStd, maxI, Bool.not_eq_true', Bool.not_eq_false', decide_eq_true_eq, decide_eq_false_iff_not, Int.not_lt, Int.not_le, if_true, if_false, Bool.false_eq_true, beq_iff_eq, bne_iff_ne, ne_eq, Bool.not_eq_eq_eq_not, Bool.not_true, Bool.not_false, beq_eq_false_iff_ne, bne_eq_false_iff_eq, Int.ofNat_eq_natCast] at h)))
  all_goals refine ⟨_, Vw.same rfl, hR _ ⟨_, rfl, ?_⟩⟩
  all_goals first | (simp [std, cmpStd]; omega) | (simp; omega)
end Go.Proofs.Ytkkjdodolnpfmaa
