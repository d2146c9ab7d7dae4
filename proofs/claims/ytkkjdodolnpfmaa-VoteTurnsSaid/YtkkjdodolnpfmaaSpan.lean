/- Layer 4, span: what the program's functions compute. -/
import Derived.Test.YtkkjdodolnpfmaaNum
import Derived.Test.YtkkjdodolnpfmaaGrow
set_option linter.unusedVariables false
set_option linter.unusedSimpArgs false
namespace Go.Proofs.Ytkkjdodolnpfmaa
open Go.RowKit
def sp (lo hi : Int) : Value := .agg #[.int .i64 lo, .int .i64 hi]
/-- A span's end, where the span is right; else 0. -/
def bl (lo hi : Int) : Int := if lo ≤ hi then lo else 0
def bh (lo hi : Int) : Int := if lo ≤ hi then hi else 0
theorem span_both (lo hi : Int) (a b : Bool) (w : World) :
    Calls Try.prog 54 #[.int .i64 lo, .bool a, .int .i64 hi, .bool b] w fun e w' => e = .returned (.tuple #[sp (if a && b then bl lo hi else 0) (if a && b then bh lo hi else 0), .bool (a && b && decide (lo ≤ hi))]) ∧ Below w.heap.size w w' := by
  unfold sp
  by_cases h : lo ≤ hi
  · have e1 : bl lo hi = lo := by unfold bl; rw [if_pos h]
    have e2 : bh lo hi = hi := by unfold bh; rw [if_pos h]
    have e3 : decide (lo ≤ hi) = true := by simpa using h
    rw [e1, e2, e3]
    clear e1 e2 e3
    cases a <;> cases b <;> (go_enter Try.func54, Try.ntmps54; (have hasc := Nat.add_assoc; have hpos := nat_pos_or; have hlit := nat_lt_lit); go_wp2_with (fail); go_returns; exact ⟨rfl, by (repeat' (first | (with_reducible exact Below.refl _ _) | (with_reducible assumption) | (with_reducible refine below_drewN ?_ _) | (with_reducible refine below_grown ?_ ?_ _) | (with_reducible refine Below.alloc ?_ ?_ _) | (with_reducible refine Below.drew ?_) | (with_reducible refine Below.setCell ?_ ?_ _) | (first | (with_reducible exact Nat.le_refl _) | (with_reducible assumption) | omega | (simp only [World.size_alloc, World.size_setCell, World.size_drew, size_drewN', size_grow]; omega) | (simp; omega) | (simp; done)) | (with_reducible refine Below.trans ?_ (Below.mono (by with_reducible assumption) ?_))))⟩)
  · have e1 : bl lo hi = 0 := by unfold bl; rw [if_neg h]
    have e2 : bh lo hi = 0 := by unfold bh; rw [if_neg h]
    have e3 : decide (lo ≤ hi) = false := by simpa using h
    rw [e1, e2, e3]
    have h' : hi < lo := by omega
    clear e1 e2 e3 h
    cases a <;> cases b <;> (go_enter Try.func54, Try.ntmps54; (have hasc := Nat.add_assoc; have hpos := nat_pos_or; have hlit := nat_lt_lit); go_wp2_with (fail); go_returns; exact ⟨rfl, by (repeat' (first | (with_reducible exact Below.refl _ _) | (with_reducible assumption) | (with_reducible refine below_drewN ?_ _) | (with_reducible refine below_grown ?_ ?_ _) | (with_reducible refine Below.alloc ?_ ?_ _) | (with_reducible refine Below.drew ?_) | (with_reducible refine Below.setCell ?_ ?_ _) | (first | (with_reducible exact Nat.le_refl _) | (with_reducible assumption) | omega | (simp only [World.size_alloc, World.size_setCell, World.size_drew, size_drewN', size_grow]; omega) | (simp; omega) | (simp; done)) | (with_reducible refine Below.trans ?_ (Below.mono (by with_reducible assumption) ?_))))⟩)
theorem span_meet (a b c d : Int) (w : World) :
    Calls Try.prog 45 #[sp a b, sp c d] w fun e w' => e = .returned (.tuple #[sp (bl (max a c) (min b d)) (bh (max a c) (min b d)), .bool (decide (max a c ≤ min b d))]) ∧ Below w.heap.size w w' := by
  have C := hid (fun w => span_both (max a c) (min b d) true true w)
  simp only [Bool.and_self, if_true, Bool.true_and] at C
  unfold sp at *
  rcases (show (a < c ∧ max a c = c) ∨ (c ≤ a ∧ max a c = a) by omega) with ⟨h1, e1⟩ | ⟨h1, e1⟩ <;>
  rcases (show (d < b ∧ min b d = d) ∨ (b ≤ d ∧ min b d = b) by omega) with ⟨h2, e2⟩ | ⟨h2, e2⟩ <;>
  (rw [e1, e2] at C ⊢
   clear e1 e2
   go_enter Try.func45, Try.ntmps45
   (have hasc := Nat.add_assoc; have hpos := nat_pos_or; have hlit := nat_lt_lit)
   go_wp2_with (go_at_call 54; ((with_reducible refine (Calls.to_kept [w.heap.size + 2] (C.out _) ?lt).mono ?_); (case lt => (first | (exact trivial) | (simp only [AllLt, World.size_alloc, World.size_setCell, World.size_drew, size_drewN', size_grow, and_true, true_and]; omega))); rintro e w' ⟨rfl, g1, rfl, hk1⟩; simp only [AllKept, and_true] at hk1))
   (refine bodyPost_ret (by simp [results, go_sem, Try.results45, hk1, hasc, hpos, hlit]; try rfl) rfl ?_)
   exact ⟨rfl, by (repeat' (first | (with_reducible exact Below.refl _ _) | (with_reducible assumption) | (with_reducible refine below_drewN ?_ _) | (with_reducible refine below_grown ?_ ?_ _) | (with_reducible refine Below.alloc ?_ ?_ _) | (with_reducible refine Below.drew ?_) | (with_reducible refine Below.setCell ?_ ?_ _) | (first | (with_reducible exact Nat.le_refl _) | (with_reducible assumption) | omega | (simp only [World.size_alloc, World.size_setCell, World.size_drew, size_drewN', size_grow]; omega) | (simp; omega) | (simp; done)) | (with_reducible refine Below.trans ?_ (Below.mono (by with_reducible assumption) ?_))))⟩)
theorem span_right (a b : Int) (w : World) :
    Calls Try.prog 49 #[sp a b] w fun e w' => e = .returned (.bool (decide (a ≤ b))) ∧ Below w.heap.size w w' := by
  unfold sp
  go_enter Try.func49, Try.ntmps49
  go_wp2_with (first | (with_reducible refine rounds_mk ?_) | ((with_reducible refine wp_region_quiet_lit (by kernel_rfl) (by kernel_rfl) ?_); (repeat (go_big_quiet_step (fail))); (refine wpQuiet_nil ?_; intro _ hw'; obtain ⟨nq, hw''⟩ := hw'; subst hw'')))
  go_returns
  exact ⟨rfl, by (repeat' (first | (with_reducible exact Below.refl _ _) | (with_reducible assumption) | (with_reducible refine below_drewN ?_ _) | (with_reducible refine below_grown ?_ ?_ _) | (with_reducible refine Below.alloc ?_ ?_ _) | (with_reducible refine Below.drew ?_) | (with_reducible refine Below.setCell ?_ ?_ _) | (first | (with_reducible exact Nat.le_refl _) | (with_reducible assumption) | omega | (simp only [World.size_alloc, World.size_setCell, World.size_drew, size_drewN', size_grow]; omega) | (simp; omega) | (simp; done)) | (with_reducible refine Below.trans ?_ (Below.mono (by with_reducible assumption) ?_))))⟩
theorem span_at (a : Int) (w : World) :
    Calls Try.prog 44 #[.int .i64 a] w fun e w' => e = .returned (sp a a) ∧ Below w.heap.size w w' := by
  unfold sp
  go_enter Try.func44, Try.ntmps44
  go_wp2_with (first | (with_reducible refine rounds_mk ?_) | ((with_reducible refine wp_region_quiet_lit (by kernel_rfl) (by kernel_rfl) ?_); (repeat (go_big_quiet_step (fail))); (refine wpQuiet_nil ?_; intro _ hw'; obtain ⟨nq, hw''⟩ := hw'; subst hw'')))
  go_returns
  exact ⟨rfl, by (repeat' (first | (with_reducible exact Below.refl _ _) | (with_reducible assumption) | (with_reducible refine below_drewN ?_ _) | (with_reducible refine below_grown ?_ ?_ _) | (with_reducible refine Below.alloc ?_ ?_ _) | (with_reducible refine Below.drew ?_) | (with_reducible refine Below.setCell ?_ ?_ _) | (first | (with_reducible exact Nat.le_refl _) | (with_reducible assumption) | omega | (simp only [World.size_alloc, World.size_setCell, World.size_drew, size_drewN', size_grow]; omega) | (simp; omega) | (simp; done)) | (with_reducible refine Below.trans ?_ (Below.mono (by with_reducible assumption) ?_))))⟩
theorem span_has (a b x : Int) (w : World) :
    Calls Try.prog 21 #[sp a b, .int .i64 x] w fun e w' => e = .returned (.bool (decide (a ≤ x) && decide (x ≤ b))) ∧ Below w.heap.size w w' := by
  unfold sp
  by_cases h : a ≤ x
  · have e : decide (a ≤ x) = true := by simpa using h
    rw [e, Bool.true_and]
    go_enter Try.func21, Try.ntmps21
    go_wp2_with (first | (with_reducible refine rounds_mk ?_) | ((with_reducible refine wp_region_quiet_lit (by kernel_rfl) (by kernel_rfl) ?_); (repeat (go_big_quiet_step (fail))); (refine wpQuiet_nil ?_; intro _ hw'; obtain ⟨nq, hw''⟩ := hw'; subst hw'')))
    go_returns
    exact ⟨rfl, by (repeat' (first | (with_reducible exact Below.refl _ _) | (with_reducible assumption) | (with_reducible refine below_drewN ?_ _) | (with_reducible refine below_grown ?_ ?_ _) | (with_reducible refine Below.alloc ?_ ?_ _) | (with_reducible refine Below.drew ?_) | (with_reducible refine Below.setCell ?_ ?_ _) | (first | (with_reducible exact Nat.le_refl _) | (with_reducible assumption) | omega | (simp only [World.size_alloc, World.size_setCell, World.size_drew, size_drewN', size_grow]; omega) | (simp; omega) | (simp; done)) | (with_reducible refine Below.trans ?_ (Below.mono (by with_reducible assumption) ?_))))⟩
  · have e : decide (a ≤ x) = false := by simpa using h
    rw [e, Bool.false_and]
    go_enter Try.func21, Try.ntmps21
    go_wp2_with (first | (with_reducible refine rounds_mk ?_) | ((with_reducible refine wp_region_quiet_lit (by kernel_rfl) (by kernel_rfl) ?_); (repeat (go_big_quiet_step (fail))); (refine wpQuiet_nil ?_; intro _ hw'; obtain ⟨nq, hw''⟩ := hw'; subst hw'')))
    go_returns
    exact ⟨rfl, by (repeat' (first | (with_reducible exact Below.refl _ _) | (with_reducible assumption) | (with_reducible refine below_drewN ?_ _) | (with_reducible refine below_grown ?_ ?_ _) | (with_reducible refine Below.alloc ?_ ?_ _) | (with_reducible refine Below.drew ?_) | (with_reducible refine Below.setCell ?_ ?_ _) | (first | (with_reducible exact Nat.le_refl _) | (with_reducible assumption) | omega | (simp only [World.size_alloc, World.size_setCell, World.size_drew, size_drewN', size_grow]; omega) | (simp; omega) | (simp; done)) | (with_reducible refine Below.trans ?_ (Below.mono (by with_reducible assumption) ?_))))⟩
/-- The lesser and the greater end of a hull. -/
def hl (a b c d : Int) : Int := if b < a then c else if d < c then a else min a c
def hh (a b c d : Int) : Int := if b < a then d else if d < c then b else max b d
theorem span_hull (a b c d : Int) (w : World) :
    Calls Try.prog 46 #[sp a b, sp c d] w fun e w' => e = .returned (sp (hl a b c d) (hh a b c d)) ∧ Below w.heap.size w w' := by
  have C1 := hid (fun w => span_right a b w)
  have C2 := hid (fun w => span_right c d w)
  unfold hl hh
  unfold sp at *
  by_cases h1 : b < a
  · rw [if_pos h1, if_pos h1]
    have e : decide (a ≤ b) = false := by simpa using h1
    rw [e] at C1
    clear e h1
    go_enter Try.func46, Try.ntmps46
    (have hasc := Nat.add_assoc; have hpos := nat_pos_or; have hlit := nat_lt_lit)
    go_wp2_with (go_at_call 49; ((with_reducible refine (Calls.to_kept [w.heap.size, w.heap.size + 1, w.heap.size + 2] (C1.out _) ?lt).mono ?_); (case lt => (first | (exact trivial) | (simp only [AllLt, World.size_alloc, World.size_setCell, World.size_drew, size_drewN', size_grow, and_true, true_and]; omega))); rintro e w' ⟨rfl, g1, rfl, kg1⟩; simp only [AllKept, and_true] at kg1))
    (refine bodyPost_ret (by simp [results, go_sem, Try.results46, kg1, hasc, hpos, hlit]; try rfl) rfl ?_)
    exact ⟨rfl, by (repeat' (first | (with_reducible exact Below.refl _ _) | (with_reducible assumption) | (with_reducible refine below_drewN ?_ _) | (with_reducible refine below_grown ?_ ?_ _) | (with_reducible refine Below.alloc ?_ ?_ _) | (with_reducible refine Below.drew ?_) | (with_reducible refine Below.setCell ?_ ?_ _) | (first | (with_reducible exact Nat.le_refl _) | (with_reducible assumption) | omega | (simp only [World.size_alloc, World.size_setCell, World.size_drew, size_drewN', size_grow]; omega) | (simp; omega) | (simp; done)) | (with_reducible refine Below.trans ?_ (Below.mono (by with_reducible assumption) ?_))))⟩
  · have e : decide (a ≤ b) = true := by simp; omega
    rw [e] at C1
    rw [if_neg h1, if_neg h1]
    clear e h1
    by_cases h2 : d < c
    · rw [if_pos h2, if_pos h2]
      have e : decide (c ≤ d) = false := by simpa using h2
      rw [e] at C2
      clear e h2
      go_enter Try.func46, Try.ntmps46
      (have hasc := Nat.add_assoc; have hpos := nat_pos_or; have hlit := nat_lt_lit)
      go_wp2_with (fail)
      ((with_reducible refine (Calls.to_kept [w.heap.size, w.heap.size + 1, w.heap.size + 2] (C1.out _) ?lt).mono ?_); (case lt => (first | (exact trivial) | (simp only [AllLt, World.size_alloc, World.size_setCell, World.size_drew, size_drewN', size_grow, and_true, true_and]; omega))); rintro e w' ⟨rfl, g1, rfl, kg1⟩; simp only [AllKept, and_true] at kg1)
      go_wp2_with (fail)
      ((with_reducible refine (Calls.to_kept [w.heap.size, w.heap.size + 1, w.heap.size + 2] (C2.out _) ?lt).mono ?_); (case lt => (first | (exact trivial) | (simp only [AllLt, World.size_alloc, World.size_setCell, World.size_drew, size_drewN', size_grow, and_true, true_and]; omega))); rintro e w' ⟨rfl, g2, rfl, kg2⟩; simp only [AllKept, and_true] at kg2)
      go_wp2_with (fail)
      (refine bodyPost_ret (by simp [results, go_sem, Try.results46, kg1, kg2, hasc, hpos, hlit]; try rfl) rfl ?_)
      exact ⟨rfl, by (repeat' (first | (with_reducible exact Below.refl _ _) | (with_reducible assumption) | (with_reducible refine below_drewN ?_ _) | (with_reducible refine below_grown ?_ ?_ _) | (with_reducible refine Below.alloc ?_ ?_ _) | (with_reducible refine Below.drew ?_) | (with_reducible refine Below.setCell ?_ ?_ _) | (first | (with_reducible exact Nat.le_refl _) | (with_reducible assumption) | omega | (simp only [World.size_alloc, World.size_setCell, World.size_drew, size_drewN', size_grow]; omega) | (simp; omega) | (simp; done)) | (with_reducible refine Below.trans ?_ (Below.mono (by with_reducible assumption) ?_))))⟩
    · rw [if_neg h2, if_neg h2]
      have e : decide (c ≤ d) = true := by simp; omega
      rw [e] at C2
      clear e h2
      rcases (show (c < a ∧ min a c = c) ∨ (a ≤ c ∧ min a c = a) by omega) with ⟨h1, e1⟩ | ⟨h1, e1⟩ <;>
      rcases (show (b < d ∧ max b d = d) ∨ (d ≤ b ∧ max b d = b) by omega) with ⟨h2, e2⟩ | ⟨h2, e2⟩ <;>
      (rw [e1, e2]
       clear e1 e2
       go_enter Try.func46, Try.ntmps46
       (have hasc := Nat.add_assoc; have hpos := nat_pos_or; have hlit := nat_lt_lit)
       go_wp2_with (fail)
       ((with_reducible refine (Calls.to_kept [w.heap.size, w.heap.size + 1, w.heap.size + 2] (C1.out _) ?lt).mono ?_); (case lt => (first | (exact trivial) | (simp only [AllLt, World.size_alloc, World.size_setCell, World.size_drew, size_drewN', size_grow, and_true, true_and]; omega))); rintro e w' ⟨rfl, g1, rfl, kg1⟩; simp only [AllKept, and_true] at kg1)
       go_wp2_with (fail)
       ((with_reducible refine (Calls.to_kept [w.heap.size, w.heap.size + 1, w.heap.size + 2] (C2.out _) ?lt).mono ?_); (case lt => (first | (exact trivial) | (simp only [AllLt, World.size_alloc, World.size_setCell, World.size_drew, size_drewN', size_grow, and_true, true_and]; omega))); rintro e w' ⟨rfl, g2, rfl, kg2⟩; simp only [AllKept, and_true] at kg2)
       go_wp2_with (fail)
       (refine bodyPost_ret (by simp [results, go_sem, Try.results46, kg1, kg2, hasc, hpos, hlit]; try rfl) rfl ?_)
       exact ⟨rfl, by (repeat' (first | (with_reducible exact Below.refl _ _) | (with_reducible assumption) | (with_reducible refine below_drewN ?_ _) | (with_reducible refine below_grown ?_ ?_ _) | (with_reducible refine Below.alloc ?_ ?_ _) | (with_reducible refine Below.drew ?_) | (with_reducible refine Below.setCell ?_ ?_ _) | (first | (with_reducible exact Nat.le_refl _) | (with_reducible assumption) | omega | (simp only [World.size_alloc, World.size_setCell, World.size_drew, size_drewN', size_grow]; omega) | (simp; omega) | (simp; done)) | (with_reducible refine Below.trans ?_ (Below.mono (by with_reducible assumption) ?_))))⟩)
end Go.Proofs.Ytkkjdodolnpfmaa
