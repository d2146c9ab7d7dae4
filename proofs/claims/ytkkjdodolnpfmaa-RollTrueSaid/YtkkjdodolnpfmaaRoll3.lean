/- Roll, by the engine: what Next comes to, and the anchor. -/
import Derived.Test.YtkkjdodolnpfmaaRoll2
import Derived.Test.YtkkjdodolnpfmaaConf
import Derived.Test.YtkkjdodolnpfmaaEng28
import Derived.KernelRfl
set_option linter.unusedVariables false
set_option linter.unusedSimpArgs false
namespace Go.Proofs.Ytkkjdodolnpfmaa
open Go Go.RowKit Go.Eng
set_option maxRecDepth 100000
/-- What is known of a train: is it anchored, does it roll, how far has it moved. -/
structure Rl where
  an : Bool
  on : Bool
  lo : Int
  hi : Int
def rlV (r : Rl) : AV := .agg [.bool r.an, .bool r.on, .int .i64 r.lo, .int .i64 r.hi]
def rlNext (c11 : Int) (r : Rl) (still com : Bool) (a b : Int) : Rl :=
  if com = true then ⟨false, false, 0, 0⟩ else if r.an = false then ⟨still, false, 0, 0⟩ else ⟨true, r.on || decide (c11 < r.lo + a) || decide (r.hi + b < -c11), r.lo + a, r.hi + b⟩
theorem e_nextV (an on : Bool) (lo hi : Int) (still com : Bool) (a b : Int) (c0 c1 c2 c3 c4 c5 c6 c7 c8 c9 c10 c11 c12 c13 : Int) (g1 : 0 ≤ c11) (g2 : c11 < 2000000000) (g3 : lo ≤ hi) (g4 : a ≤ b) (g5 : InR (lo + a)) (g6 : InR (hi + b)) : PCalls Try.prog 26 [.agg [.bool an, .bool on, .int .i64 lo, .int .i64 hi], .agg [.int .i64 c0, .int .i64 c1, .int .i64 c2, .int .i64 c3, .int .i64 c4, .int .i64 c5, .int .i64 c6, .int .i64 c7, .int .i64 c8, .int .i64 c9, .int .i64 c10, .int .i64 c11, .int .i64 c12, .int .i64 c13], .bool still, .bool com, sp2 a b] (· = rlV (rlNext c11 ⟨an, on, lo, hi⟩ still com a b)) := by
  refine (e_next an on lo hi still com a b c0 c1 c2 c3 c4 c5 c6 c7 c8 c9 c10 c11 c12 c13).mono ?_
  rintro r ⟨an', on', lo', hi', rfl, h1, h2, h3⟩
  unfold rlNext
  cases com
  · cases an
    · obtain ⟨rfl, rfl, rfl, rfl⟩ := h2 rfl rfl
      rfl
    · obtain ⟨rfl, rfl, rfl, h⟩ := h3 rfl rfl g1 g2 g3 g4 g5 g6
      show AV.agg _ = AV.agg _
      have : on' = (on || decide (c11 < lo + a) || decide (hi + b < -c11)) := by
        rw [Bool.eq_iff_iff, h]; simp [or_assoc]
      rw [this]; rfl
  · obtain ⟨rfl, rfl, rfl, rfl⟩ := h1 rfl
    rfl
theorem e_nextA (an on : Bool) (lo hi : Int) (still : Bool) (a b : Int) (c0 c1 c2 c3 c4 c5 c6 c7 c8 c9 c10 c11 c12 c13 : Int) : PCalls Try.prog 26 [.agg [.bool an, .bool on, .int .i64 lo, .int .i64 hi], .agg [.int .i64 c0, .int .i64 c1, .int .i64 c2, .int .i64 c3, .int .i64 c4, .int .i64 c5, .int .i64 c6, .int .i64 c7, .int .i64 c8, .int .i64 c9, .int .i64 c10, .int .i64 c11, .int .i64 c12, .int .i64 c13], .bool still, .bool true, sp2 a b] (· = .agg [.bool false, .bool false, .int .i64 0, .int .i64 0]) := by
  refine (e_next an on lo hi still true a b c0 c1 c2 c3 c4 c5 c6 c7 c8 c9 c10 c11 c12 c13).mono ?_
  rintro r ⟨an', on', lo', hi', rfl, h1, h2, h3⟩
  obtain ⟨rfl, rfl, rfl, rfl⟩ := h1 rfl
  rfl
theorem e_nextB (on : Bool) (lo hi : Int) (still : Bool) (a b : Int) (c0 c1 c2 c3 c4 c5 c6 c7 c8 c9 c10 c11 c12 c13 : Int) : PCalls Try.prog 26 [.agg [.bool false, .bool on, .int .i64 lo, .int .i64 hi], .agg [.int .i64 c0, .int .i64 c1, .int .i64 c2, .int .i64 c3, .int .i64 c4, .int .i64 c5, .int .i64 c6, .int .i64 c7, .int .i64 c8, .int .i64 c9, .int .i64 c10, .int .i64 c11, .int .i64 c12, .int .i64 c13], .bool still, .bool false, sp2 a b] (· = .agg [.bool still, .bool false, .int .i64 0, .int .i64 0]) := by
  refine (e_next false on lo hi still false a b c0 c1 c2 c3 c4 c5 c6 c7 c8 c9 c10 c11 c12 c13).mono ?_
  rintro r ⟨an', on', lo', hi', rfl, h1, h2, h3⟩
  obtain ⟨rfl, rfl, rfl, rfl⟩ := h2 rfl rfl
  rfl
theorem e_nextC (on : Bool) (lo hi : Int) (still : Bool) (a b : Int) (c0 c1 c2 c3 c4 c5 c6 c7 c8 c9 c10 c11 c12 c13 : Int) (on' : Bool) (lo' hi' : Int) (el : lo + a = lo') (eh : hi + b = hi') (eo : on' = true ↔ on = true ∨ c11 < lo' ∨ hi' < -c11) (g1 : 0 ≤ c11) (g2 : c11 < 2000000000) (g3 : lo ≤ hi) (g4 : a ≤ b) (g5 : InR lo') (g6 : InR hi') : PCalls Try.prog 26 [.agg [.bool true, .bool on, .int .i64 lo, .int .i64 hi], .agg [.int .i64 c0, .int .i64 c1, .int .i64 c2, .int .i64 c3, .int .i64 c4, .int .i64 c5, .int .i64 c6, .int .i64 c7, .int .i64 c8, .int .i64 c9, .int .i64 c10, .int .i64 c11, .int .i64 c12, .int .i64 c13], .bool still, .bool false, sp2 a b] (· = .agg [.bool true, .bool on', .int .i64 lo', .int .i64 hi']) := by
  refine (e_next true on lo hi still false a b c0 c1 c2 c3 c4 c5 c6 c7 c8 c9 c10 c11 c12 c13).mono ?_
  rintro r ⟨an2, on2, lo2, hi2, rfl, h1, h2, h3⟩
  subst el eh
  obtain ⟨rfl, rfl, rfl, h⟩ := h3 rfl rfl g1 g2 g3 g4 g5 g6
  have : on2 = on' := by rw [Bool.eq_iff_iff, h, eo]
  rw [this]
theorem e_anchor19 : PCalls Try.prog 23 [] (fun r => r = .bool true) := by
  (refine PCalls.ofY Try.func23 (by kernel_rfl) (by kernel_rfl) fun w hw R hR => ?_); (conv => arg 2; cbv); (generalize hP : Try.prog = P); cbv
  refine QCal.stepE (v := .agg [.bool true, .bool false, .int .i64 0, .int .i64 0]) (by rw [← hP]; exact PCalls.mono (e_nextV _ _ _ _ _ _ _ _ _ _ _ _ _ _ _ _ _ _ _ _ _ _ (by decide) (by decide) (by decide) (by decide) (by unfold InR; decide) (by unfold InR; decide)) fun r h => h.trans (by simp [rlV, rlNext])) rfl ?_
  cbv
  refine QCal.stepE (v := .agg [.bool true, .bool false, .int .i64 4, .int .i64 6]) (by rw [← hP]; exact PCalls.mono (e_nextV _ _ _ _ _ _ _ _ _ _ _ _ _ _ _ _ _ _ _ _ _ _ (by decide) (by decide) (by decide) (by decide) (by unfold InR; decide) (by unfold InR; decide)) fun r h => h.trans (by simp [rlV, rlNext])) rfl ?_
  cbv
  refine QCal.stepE (v := .agg [.bool true, .bool false, .int .i64 8, .int .i64 12]) (by rw [← hP]; exact PCalls.mono (e_nextV _ _ _ _ _ _ _ _ _ _ _ _ _ _ _ _ _ _ _ _ _ _ (by decide) (by decide) (by decide) (by decide) (by unfold InR; decide) (by unfold InR; decide)) fun r h => h.trans (by simp [rlV, rlNext])) rfl ?_
  cbv
  refine Call.stepE (v := .agg [.bool true, .bool true, .int .i64 12, .int .i64 18]) (by rw [← hP]; exact PCalls.mono (e_nextV _ _ _ _ _ _ _ _ _ _ _ _ _ _ _ _ _ _ _ _ _ _ (by decide) (by decide) (by decide) (by decide) (by unfold InR; decide) (by unfold InR; decide)) fun r h => h.trans (by simp [rlV, rlNext])) rfl ?_
  cbv
  repeat' (split <;> rename_i hb <;> (try (rw [hw] at hb)) <;> (try (simp only [std, binStd, cmpStd, unStd, scmpStd, maxI, Bool.not_eq_true', Bool.not_eq_false', decide_eq_true_eq, decide_eq_false_iff_not, Int.not_lt, Int.not_le, if_true, if_false, Bool.false_eq_true, beq_iff_eq, bne_iff_ne, ne_eq, Bool.not_eq_eq_eq_not, Bool.not_true, Bool.not_false, beq_eq_false_iff_ne, bne_eq_false_iff_eq, Int.ofNat_eq_natCast] at hb)) <;> (try cbv))
  all_goals
    refine ⟨_, Vw.same rfl, hR _ ?_⟩
    subst hw
    show AV.bool _ = AV.bool true
    first | rfl | (simp [std, eqOffs, eqA] at *)
end Go.Proofs.Ytkkjdodolnpfmaa
