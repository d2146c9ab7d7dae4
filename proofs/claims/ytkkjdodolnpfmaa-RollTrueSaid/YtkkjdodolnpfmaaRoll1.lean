/- Roll, by the engine. -/
import Derived.Test.YtkkjdodolnpfmaaUse1
import Derived.Test.YtkkjdodolnpfmaaUse2
import Derived.Test.YtkkjdodolnpfmaaRoll0
import Derived.Test.YtkkjdodolnpfmaaEng24
import Derived.KernelRfl
set_option linter.unusedVariables false
set_option linter.unusedSimpArgs false
namespace Go.Proofs.Ytkkjdodolnpfmaa
open Go Go.RowKit Go.Eng
set_option maxRecDepth 100000
def InR (x : Int) : Prop := -9223372036854775808 ≤ x ∧ x < 9223372036854775808
theorem e_right2 (a b : Int) : PCalls Try.prog 49 [sp2 a b] (fun r => ∃ o : Bool, r = .bool o ∧ (o = true ↔ a ≤ b)) := by
  (refine PCalls.ofX Try.func49 (by kernel_rfl) (by kernel_rfl) fun w hw R hR => ?_); (conv => arg 2; cbv); (generalize hP : Try.prog = P); cbv
  subst hw
  exact ⟨_, Vw.same rfl, hR _ ⟨_, rfl, by simp [std, cmpStd]⟩⟩
theorem e_sadd (a b c d : Int) : PCalls Try.prog 48 [sp2 a b, sp2 c d] (fun r => ∃ l h o, r = .tuple [sp2 l h, .bool o] ∧ (a ≤ b → c ≤ d → InR (a + c) → InR (b + d) → o = true ∧ l = a + c ∧ h = b + d)) := by
  (refine PCalls.ofX Try.func48 (by kernel_rfl) (by kernel_rfl) fun w hw R hR => ?_); (conv => arg 2; cbv); (generalize hP : Try.prog = P); cbv
  refine Call.step (by rw [← hP]; exact e_right2 _ _) rfl ?_
  rintro r ⟨o, rfl, ho⟩
  cbv
  split <;> rename_i h0 <;> rw [hw] at h0 <;> simp only [std, binStd, cmpStd, unStd, scmpStd, maxI, Bool.not_eq_true', Bool.not_eq_false', decide_eq_true_eq, decide_eq_false_iff_not, Int.not_lt, Int.not_le, if_true, if_false, Bool.false_eq_true, beq_iff_eq, bne_iff_ne, ne_eq, Bool.not_eq_eq_eq_not, Bool.not_true, Bool.not_false, beq_eq_false_iff_ne, bne_eq_false_iff_eq, Int.ofNat_eq_natCast] at h0
  · refine ⟨_, Vw.same rfl, hR _ ⟨_, _, _, rfl, fun h1 => ?_⟩⟩
    rw [h0] at ho; simp at ho; omega
  refine Call.step (by rw [← hP]; exact e_right2 _ _) rfl ?_
  rintro r ⟨o2, rfl, ho2⟩
  cbv
  split <;> rename_i h2 <;> rw [hw] at h2 <;> simp only [std, binStd, cmpStd, unStd, scmpStd, maxI, Bool.not_eq_true', Bool.not_eq_false', decide_eq_true_eq, decide_eq_false_iff_not, Int.not_lt, Int.not_le, if_true, if_false, Bool.false_eq_true, beq_iff_eq, bne_iff_ne, ne_eq, Bool.not_eq_eq_eq_not, Bool.not_true, Bool.not_false, beq_eq_false_iff_ne, bne_eq_false_iff_eq, Int.ofNat_eq_natCast] at h2
  · refine ⟨_, Vw.same rfl, hR _ ⟨_, _, _, rfl, fun h1 h3 => ?_⟩⟩
    rw [h2] at ho2; simp at ho2; omega
  refine Call.step (by rw [← hP]; exact e_add _ _) rfl ?_
  rintro r ⟨x, o3, rfl, h3⟩
  cbv
  refine Call.step (by rw [← hP]; exact e_add _ _) rfl ?_
  rintro r ⟨y, o4, rfl, h4⟩
  cbv
  refine Call.step (by rw [← hP]; exact e_both _ _ _ _) rfl ?_
  rintro r ⟨l, h, o5, rfl, h5, h6, h7⟩
  cbv
  refine ⟨_, Vw.same rfl, hR _ ⟨_, _, _, rfl, fun g1 g2 g3 g4 => ?_⟩⟩
  obtain ⟨k1, k2⟩ := h3 g3
  obtain ⟨k3, k4⟩ := h4 g4
  have k5 : o5 = true := h5.2 ⟨k1, k3, by omega⟩
  obtain ⟨k6, k7⟩ := h6 k5
  exact ⟨k5, by omega, by omega⟩
end Go.Proofs.Ytkkjdodolnpfmaa
