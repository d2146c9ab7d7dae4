/- Roll, by the engine. -/
import Derived.Test.YtkkjdodolnpfmaaUse1
import Derived.Test.YtkkjdodolnpfmaaUse2
import Derived.Test.YtkkjdodolnpfmaaRoll1
import Derived.Test.YtkkjdodolnpfmaaRoll0
import Derived.Test.YtkkjdodolnpfmaaEng27
import Derived.KernelRfl
set_option linter.unusedVariables false
set_option linter.unusedSimpArgs false
namespace Go.Proofs.Ytkkjdodolnpfmaa
open Go Go.RowKit Go.Eng
set_option maxRecDepth 100000
theorem e_next (an on : Bool) (lo hi : Int) (still com : Bool) (a b : Int) (c0 c1 c2 c3 c4 c5 c6 c7 c8 c9 c10 c11 c12 c13 : Int) : PCalls Try.prog 26 [.agg [.bool an, .bool on, .int .i64 lo, .int .i64 hi], .agg [.int .i64 c0, .int .i64 c1, .int .i64 c2, .int .i64 c3, .int .i64 c4, .int .i64 c5, .int .i64 c6, .int .i64 c7, .int .i64 c8, .int .i64 c9, .int .i64 c10, .int .i64 c11, .int .i64 c12, .int .i64 c13], .bool still, .bool com, sp2 a b] (fun r => ∃ an' on' lo' hi', r = .agg [.bool an', .bool on', .int .i64 lo', .int .i64 hi'] ∧ (com = true → an' = false ∧ on' = false ∧ lo' = 0 ∧ hi' = 0) ∧ (com = false → an = false → an' = still ∧ on' = false ∧ lo' = 0 ∧ hi' = 0) ∧
    (com = false → an = true → 0 ≤ c11 → c11 < 2000000000 → lo ≤ hi → a ≤ b → InR (lo + a) → InR (hi + b) → an' = true ∧ lo' = lo + a ∧ hi' = hi + b ∧ (on' = true ↔ on = true ∨ c11 < lo + a ∨ hi + b < -c11))) := by
  (refine PCalls.ofY Try.func26 (by kernel_rfl) (by kernel_rfl) fun w hw R hR => ?_); (conv => arg 2; cbv); (generalize hP : Try.prog = P); cbv
  (split <;> rename_i hb <;> (try (rw [hw] at hb)) <;> (try (simp only [std, binStd, cmpStd, unStd, scmpStd, maxI, Bool.not_eq_true', Bool.not_eq_false', decide_eq_true_eq, decide_eq_false_iff_not, Int.not_lt, Int.not_le, if_true, if_false, Bool.false_eq_true, beq_iff_eq, bne_iff_ne, ne_eq, Bool.not_eq_eq_eq_not, Bool.not_true, Bool.not_false, beq_eq_false_iff_ne, bne_eq_false_iff_eq, Int.ofNat_eq_natCast] at hb)) <;> (try cbv))
  · exact ⟨_, Vw.same rfl, hR _ ⟨_, _, _, _, rfl, (fun _ => ⟨rfl, rfl, rfl, rfl⟩), (fun h => by simp at h), (fun h => by simp at h)⟩⟩
  (split <;> rename_i hb <;> (try (rw [hw] at hb)) <;> (try (simp only [std, binStd, cmpStd, unStd, scmpStd, maxI, Bool.not_eq_true', Bool.not_eq_false', decide_eq_true_eq, decide_eq_false_iff_not, Int.not_lt, Int.not_le, if_true, if_false, Bool.false_eq_true, beq_iff_eq, bne_iff_ne, ne_eq, Bool.not_eq_eq_eq_not, Bool.not_true, Bool.not_false, beq_eq_false_iff_ne, bne_eq_false_iff_eq, Int.ofNat_eq_natCast] at hb)) <;> (try cbv))
  · refine ⟨_, Vw.same rfl, hR _ ⟨_, _, _, _, rfl, (fun h => by simp at h), (fun _ _ => ⟨rfl, rfl, rfl, rfl⟩), fun _ h => ?_⟩⟩
    rw [hb] at h; cases h
  refine Call.step (by rw [← hP]; exact e_sadd _ _ _ _) rfl ?_
  rintro r ⟨l, h, o, rfl, h1⟩
  cbv
  have end2 : ∀ (on' : Bool) (l' h' : Int), o = true ∧ l' = l ∧ h' = h ∨ o = false ∧ l' = lo ∧ h' = hi → (on' = true ↔ on = true ∨ c11 < l' ∨ h' < std.3 .neg .i64 c11) → R (.agg [.bool an, .bool on', .int .i64 l', .int .i64 h']) := by
    intro on' l' h' e1 e2
    refine hR _ ⟨_, _, _, _, rfl, (fun h => by simp at h), (fun _ h => by rw [hb] at h; cases h), fun _ _ g1 g2 g3 g4 g5 g6 => ?_⟩
    obtain ⟨k1, k2, k3⟩ := h1 g3 g4 g5 g6
    have en : std.3 .neg .i64 c11 = - c11 := by
      show IntKind.i64.wrap (0 - c11) = _
      rw [IntKind.wrap_i64]; omega
    rw [en] at e2
    rcases e1 with ⟨_, rfl, rfl⟩ | ⟨h, _⟩
    · refine ⟨hb, k2, k3, e2.trans ?_⟩
      rw [k2, k3]
    · rw [h] at k1; cases k1
  clear hR
  repeat' (split <;> rename_i hb <;> (try (rw [hw] at hb)) <;> (try (simp only [std, binStd, cmpStd, unStd, scmpStd, maxI, Bool.not_eq_true', Bool.not_eq_false', decide_eq_true_eq, decide_eq_false_iff_not, Int.not_lt, Int.not_le, if_true, if_false, Bool.false_eq_true, beq_iff_eq, bne_iff_ne, ne_eq, Bool.not_eq_eq_eq_not, Bool.not_true, Bool.not_false, beq_eq_false_iff_ne, bne_eq_false_iff_eq, Int.ofNat_eq_natCast] at hb)) <;> (try cbv))
  all_goals
    refine ⟨_, Vw.same rfl, end2 _ _ _ (by first | exact .inl ⟨rfl, rfl, rfl⟩ | exact .inr ⟨rfl, rfl, rfl⟩) ?_⟩
    subst hw
    simp [std, cmpStd] at *
    try omega
end Go.Proofs.Ytkkjdodolnpfmaa
