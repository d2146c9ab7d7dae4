/- Votes, by the engine: the anchor. -/
import Derived.Test.YtkkjdodolnpfmaaUse6
import Derived.KernelRfl
set_option linter.unusedVariables false
set_option linter.unusedSimpArgs false
namespace Go.Proofs.Ytkkjdodolnpfmaa
open Go Go.RowKit Go.Eng
set_option maxRecDepth 100000
theorem an_two : TwoIs (aOf [(1, 3), (2, 9), (8, 8)]) (bOf [(1, 3), (2, 9), (8, 8)]) (Pairs 3 3 0) 2 8 true := by
  have h : ∀ i j, Pairs 3 3 0 i j → (i = 0 ∧ j = 1) ∨ (i = 0 ∧ j = 2) ∨ (i = 1 ∧ j = 2) := by intro i j; unfold Pairs; omega
  refine ⟨fun _ => ⟨0, 1, by unfold Pairs; omega, by decide⟩, fun h => (by cases h), fun _ => ⟨⟨0, 1, by unfold Pairs; omega, by decide, by decide⟩, fun i j hp hq => ?_⟩, fun _ => ⟨⟨1, 2, by unfold Pairs; omega, by decide, by decide⟩, fun i j hp hq => ?_⟩⟩
  · rcases h i j hp with ⟨rfl, rfl⟩ | ⟨rfl, rfl⟩ | ⟨rfl, rfl⟩ <;> revert hq <;> decide
  · rcases h i j hp with ⟨rfl, rfl⟩ | ⟨rfl, rfl⟩ | ⟨rfl, rfl⟩ <;> revert hq <;> decide
theorem e_anchor05 : PCalls Try.prog 20 [] (fun r => r = .bool true) := by
  (refine PCalls.ofX Try.func20 (by kernel_rfl) (by kernel_rfl) fun w hw R hR => ?_); (conv => arg 2; cbv); (generalize hP : Try.prog = P); cbv
  refine Call.step (by rw [← hP]; exact e_at _) rfl ?_
  rintro r rfl
  cbv
  refine Call.step (by rw [← hP]; exact e_two [(1, 3), (2, 9), (8, 8)] _ rfl (by decide)) rfl ?_
  rintro r ⟨lo, hi, f, rfl, ht⟩
  obtain ⟨rfl, rfl, rfl⟩ := two_unique ht an_two
  cbv
  subst hw
  refine ⟨_, Vw.same rfl, hR _ ?_⟩
  show AV.bool _ = AV.bool true
  simp [std, eqOffs, eqA]
end Go.Proofs.Ytkkjdodolnpfmaa
