/- The statement 'NumSigns': the walk. -/
import Derived.Test.YtcbncliplbecdaaLawNum
set_option linter.unusedVariables false
set_option linter.unusedSimpArgs false
namespace Go.Proofs.Ytcbncliplbecdaa
open Go.RowKit
theorem signs_with (a0 : Int) (sg : Int) (w : World) (h0 : I64 a0) (hs : signv a0 = sg) (hsg : (sg = 1 ∧ 0 < a0) ∨ (sg = 0 ∧ a0 = 0) ∨ (sg = -1 ∧ a0 < 0)) :
    Calls Try.prog 11 #[.int .i64 a0] w fun e w' => e = .returned (.bool true) ∧ Below w.heap.size w w' := by
  have A := hid (fun w => anchor01 w)
  have c1 := fun w => ref01_of a0 w h0
  have c2 := fun w => num_neg a0 w h0
  have c3 := fun w => num_abs a0 w h0
  have c4 := fun w => num_size a0 w h0
  have c5 := fun w => ref01_size a0 w h0
  have c6 := fun w => num_sign a0 w
  change (∀ w, Calls _ _ _ w fun e w' => e = .returned (.tuple #[.int .i64 (orZ (absv a0)), .bool (inB (absv a0))]) ∧ w = w') at c3
  change (∀ w, Calls _ _ _ w fun e w' => e = .returned (.int .u64 (absv a0)) ∧ w = w') at c4
  change (∀ w, Calls _ _ _ w fun e w' => e = .returned (.int .u64 (absv a0)) ∧ w = w') at c5
  rw [hs] at c6
  have p := sgn_pm a0
  have d := absv_d4 a0 h0
  have p' : -sgn a0 = 1 ∨ -sgn a0 = -1 := by omega
  have v : -sgn a0 * absv a0 = -a0 := by rw [Int.neg_mul, sgn_abs]
  have c7 := fun w => ref01_minor (sgn a0) (absv a0) w p
  have c8 := fun w => told01 _ _ _ w p' d v
  have c9 := fun w => told01 1 (absv a0) (absv a0) w (.inl rfl) d (by omega)
  unfold nrep at *
  generalize sgn a0 = s at *
  generalize absv a0 = m at *
  generalize hk1 : orZ (-a0) = k1 at *
  generalize hk2 : inB (-a0) = k2 at *
  have C1 := hid c1
  have C2 := hid c2
  have C3 := hid c3
  have C4 := hid c4
  have C5 := hid c5
  have C6 := hid c6
  have C7 := hid c7
  have C8 := hid c8
  have C9 := hid c9
  clear c1 c2 c3 c4 c5 c6 c7 c8 c9 p d p' v hk1 hk2 h0 hs
  rcases hsg with ⟨rfl, h⟩ | ⟨rfl, rfl⟩ | ⟨rfl, h⟩
  all_goals
    go_enter Try.func11, Try.ntmps11
    (have hasc := Nat.add_assoc; have hpos := nat_pos_or; have hlit := nat_lt_lit)
    go_wp2_with (first | (go_at_call 15; ((with_reducible refine (Calls.to_grow (A.out _)).mono ?_); rintro e w' ⟨rfl, g1, rfl⟩)) | (go_at_call 31; (with_reducible refine (C2.out _).mono ?_); rintro e w' ⟨rfl, rfl⟩) | (go_at_call 32; (with_reducible refine (C3.out _).mono ?_); rintro e w' ⟨rfl, rfl⟩) | (go_at_call 18; ((with_reducible refine (Calls.to_grow (C1.out _)).mono ?_); rintro e w' ⟨rfl, g2, rfl⟩)) | (go_at_call 19; (refine (Calls.to_kept [w.heap.size + (g1.objs.size + g2.objs.size)] (C7.out _) ?lt).mono ?_; (case lt => (first | (exact trivial) | (simp only [AllLt, World.size_alloc, World.size_setCell, World.size_drew, size_drewN', size_grow, and_true, true_and]; omega))); rintro e w' ⟨rfl, x1, rfl, hk1⟩; simp only [AllKept, and_true] at hk1)))
    refine (Calls.to_kept [w.heap.size + (g1.objs.size + g2.objs.size)] (C8.out _) ?lt).mono ?_
    case lt => (first | (exact trivial) | (simp only [AllLt, World.size_alloc, World.size_setCell, World.size_drew, size_drewN', size_grow, and_true, true_and]; omega))
    rintro e w' ⟨rfl, g8, rfl, hk8⟩
    simp only [AllKept, and_true] at hk8
    go_wp2_with (fail)
    ((with_reducible refine (Calls.to_grow (C9.out _)).mono ?_); rintro e w' ⟨rfl, g9, rfl⟩)
    go_wp2_with (first | (go_at_call 33; (with_reducible refine (C4.out _).mono ?_); rintro e w' ⟨rfl, rfl⟩) | (go_at_call 34; (with_reducible refine (C5.out _).mono ?_); rintro e w' ⟨rfl, rfl⟩) | (go_at_call 35; (with_reducible refine (C6.out _).mono ?_); rintro e w' ⟨rfl, rfl⟩))
    go_returns
    exact ⟨rfl, by (repeat' (first | (with_reducible exact Below.refl _ _) | (with_reducible assumption) | (with_reducible refine below_drewN ?_ _) | (with_reducible refine below_grown ?_ ?_ _) | (with_reducible refine Below.alloc ?_ ?_ _) | (with_reducible refine Below.drew ?_) | (with_reducible refine Below.setCell ?_ ?_ _) | (first | (with_reducible exact Nat.le_refl _) | (with_reducible assumption) | omega | (simp only [World.size_alloc, World.size_setCell, World.size_drew, size_drewN', size_grow]; omega) | (simp; omega) | (simp; done)) | (with_reducible refine Below.trans ?_ (Below.mono (by with_reducible assumption) ?_))))⟩
theorem walk_NumSigns (a0 : Int) (w : World) (w0 : (Lit.int .i64 a0).wf = true) :
    Calls Try.prog 11 #[.int .i64 a0] w fun e w' => e = .returned (.bool true) ∧ Below w.heap.size w w' := by
  refine signs_with a0 _ w (bd_i64 w0) rfl ?_
  unfold signv
  rcases (show 0 < a0 ∨ a0 = 0 ∨ a0 < 0 by omega) with h | h | h
  · rw [if_neg (by omega), if_pos h]; exact .inl ⟨rfl, h⟩
  · rw [if_neg (by omega), if_neg (by omega)]; exact .inr (.inl ⟨rfl, h⟩)
  · rw [if_pos h]; exact .inr (.inr ⟨rfl, h⟩)
end Go.Proofs.Ytcbncliplbecdaa
