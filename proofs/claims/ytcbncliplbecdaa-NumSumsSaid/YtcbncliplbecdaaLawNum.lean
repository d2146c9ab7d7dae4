/- The statements of layer 1: the walks. -/
import Derived.Test.YtcbncliplbecdaaTimes01
set_option linter.unusedVariables false
set_option linter.unusedSimpArgs false
namespace Go.Proofs.Ytcbncliplbecdaa
open Go.RowKit
theorem anchor01 (w : World) :
    Calls Try.prog 15 #[] w fun e w' => e = .returned (.bool true) ∧ Below w.heap.size w w' := by
  have c1 := fun w => num_mid (-1) 0 w (by unfold I64; omega) (by unfold I64; omega)
  have c2 := fun w => num_addsat 9223372036854775807 1 w (by unfold I64; omega) (by unfold I64; omega)
  have e1 : ((-1 : Int) + 0) / 2 = -1 := by decide
  have e2 : sat (9223372036854775807 + 1) = 9223372036854775807 := by decide
  rw [e1] at c1
  rw [e2] at c2
  have C1 := hid c1
  have C2 := hid c2
  clear c1 c2 e1 e2
  go_enter Try.func15, Try.ntmps15
  go_wp2_with (first | (go_at_call 16; refine (C1.out _).mono ?_; rintro e w' ⟨rfl, rfl⟩) | (go_at_call 25; refine (C2.out _).mono ?_; rintro e w' ⟨rfl, rfl⟩))
  go_returns
  exact ⟨rfl, Below.refl _ _⟩
theorem told01 (s m v : Int) (w : World) (hs : s = 1 ∨ s = -1) (hm : D4 m) (hv : s * m = v) :
    Calls Try.prog 24 #[.int .i64 (orZ v), .bool (inB v), nrep s m] w fun e w' => e = .returned (.bool true) ∧ Below w.heap.size w w' := by
  have c := fun w => ref01_back s m v w hs hm hv
  unfold nrep at *
  have C := hid c
  clear c
  by_cases h : I64 v
  · have e1 : orZ v = v := orZ_in h
    have e2 : inB v = true := inB_true h
    have e3 : sat v = v := by unfold I64 at h; unfold sat; rw [if_neg (by omega), if_neg (by omega)]
    rw [e1, e2]
    rw [e2, e3] at C
    clear h e1 e2 e3 hv hs hm
    go_enter Try.func24, Try.ntmps24
    go_wp2_with (go_at_call 20; (refine (Calls.to_kept [w.heap.size] (C.out _) ?lt).mono ?_; (case lt => (first | (exact trivial) | (simp only [AllLt, World.size_alloc, World.size_setCell, World.size_drew, size_drewN', size_grow, and_true, true_and]; omega))); rintro e w' ⟨rfl, x1, rfl, hk1⟩; simp only [AllKept, and_true] at hk1))
    go_returns
    exact ⟨rfl, by (repeat' (first | (with_reducible exact Below.refl _ _) | (with_reducible assumption) | (with_reducible refine below_drewN ?_ _) | (with_reducible refine below_grown ?_ ?_ _) | (with_reducible refine Below.alloc ?_ ?_ _) | (with_reducible refine Below.drew ?_) | (with_reducible refine Below.setCell ?_ ?_ _) | (first | (with_reducible exact Nat.le_refl _) | (with_reducible assumption) | omega | (simp only [World.size_alloc, World.size_setCell, World.size_drew, size_drewN', size_grow]; omega) | (simp; omega) | (simp; done)) | (with_reducible refine Below.trans ?_ (Below.mono (by with_reducible assumption) ?_))))⟩
  · have e1 : orZ v = 0 := orZ_out h
    have e2 : inB v = false := inB_false h
    rw [e1, e2]
    rw [e2] at C
    clear h e1 e2 hv hs hm
    go_enter Try.func24, Try.ntmps24
    go_wp2_with (go_at_call 20; (refine (Calls.to_kept [w.heap.size] (C.out _) ?lt).mono ?_; (case lt => (first | (exact trivial) | (simp only [AllLt, World.size_alloc, World.size_setCell, World.size_drew, size_drewN', size_grow, and_true, true_and]; omega))); rintro e w' ⟨rfl, x1, rfl, hk1⟩; simp only [AllKept, and_true] at hk1))
    go_returns
    exact ⟨rfl, by (repeat' (first | (with_reducible exact Below.refl _ _) | (with_reducible assumption) | (with_reducible refine below_drewN ?_ _) | (with_reducible refine below_grown ?_ ?_ _) | (with_reducible refine Below.alloc ?_ ?_ _) | (with_reducible refine Below.drew ?_) | (with_reducible refine Below.setCell ?_ ?_ _) | (first | (with_reducible exact Nat.le_refl _) | (with_reducible assumption) | omega | (simp only [World.size_alloc, World.size_setCell, World.size_drew, size_drewN', size_grow]; omega) | (simp; omega) | (simp; done)) | (with_reducible refine Below.trans ?_ (Below.mono (by with_reducible assumption) ?_))))⟩
theorem walk_NumUndo (a0 : Int) (a1 : Int) (w : World) (w0 : (Lit.int .i64 a0).wf = true) (w1 : (Lit.int .i64 a1).wf = true) :
    Calls Try.prog 6 #[.int .i64 a0, .int .i64 a1] w fun e w' => e = .returned (.bool true) ∧ Below w.heap.size w w' := by
  have h0 : I64 a0 := bd_i64 w0
  have h1 : I64 a1 := bd_i64 w1
  clear w0 w1
  have c1 := fun w => num_add a0 a1 w h0 h1
  have c2 := fun w => num_sub a0 a1 w h0 h1
  have A := hid (fun w => anchor01 w)
  by_cases hs : I64 (a0 + a1)
  · have c3 := fun w => num_sub (a0 + a1) a1 w hs h1
    have e3 : a0 + a1 - a1 = a0 := by omega
    rw [orZ_in hs, inB_true hs] at c1
    rw [e3, orZ_in h0, inB_true h0] at c3
    by_cases hd : I64 (a0 - a1)
    · have c4 := fun w => num_add (a0 - a1) a1 w hd h1
      have e4 : a0 - a1 + a1 = a0 := by omega
      rw [orZ_in hd, inB_true hd] at c2
      rw [e4, orZ_in h0, inB_true h0] at c4
      have C1 := hid c1
      have C2 := hid c2
      have C3 := hid c3
      have C4 := hid c4
      clear c1 c2 c3 c4 h0 h1 hs hd e3 e4
      go_enter Try.func6, Try.ntmps6
      go_wp2_with (first | (go_at_call 15; ((with_reducible refine (Calls.to_grow (A.out _)).mono ?_); rintro e w' ⟨rfl, xg, rfl⟩)) | (go_at_call 22; (with_reducible refine (C1.out _).mono ?_); rintro e w' ⟨rfl, rfl⟩) | (go_at_call 23; (with_reducible refine (C2.out _).mono ?_); rintro e w' ⟨rfl, rfl⟩) | (go_at_call 22; (with_reducible refine (C4.out _).mono ?_); rintro e w' ⟨rfl, rfl⟩) | (go_at_call 23; (with_reducible refine (C3.out _).mono ?_); rintro e w' ⟨rfl, rfl⟩))
      go_returns
      exact ⟨rfl, by (repeat' (first | (with_reducible exact Below.refl _ _) | (with_reducible assumption) | (with_reducible refine below_drewN ?_ _) | (with_reducible refine below_grown ?_ ?_ _) | (with_reducible refine Below.alloc ?_ ?_ _) | (with_reducible refine Below.drew ?_) | (with_reducible refine Below.setCell ?_ ?_ _) | (first | (with_reducible exact Nat.le_refl _) | (with_reducible assumption) | omega | (simp only [World.size_alloc, World.size_setCell, World.size_drew, size_drewN', size_grow]; omega) | (simp; omega) | (simp; done)) | (with_reducible refine Below.trans ?_ (Below.mono (by with_reducible assumption) ?_))))⟩
    · rw [orZ_out hd, inB_false hd] at c2
      have C1 := hid c1
      have C2 := hid c2
      have C3 := hid c3
      clear c1 c2 c3 h0 h1 hs hd e3
      go_enter Try.func6, Try.ntmps6
      go_wp2_with (first | (go_at_call 15; ((with_reducible refine (Calls.to_grow (A.out _)).mono ?_); rintro e w' ⟨rfl, xg, rfl⟩)) | (go_at_call 22; (with_reducible refine (C1.out _).mono ?_); rintro e w' ⟨rfl, rfl⟩) | (go_at_call 23; (with_reducible refine (C2.out _).mono ?_); rintro e w' ⟨rfl, rfl⟩) | (go_at_call 23; (with_reducible refine (C3.out _).mono ?_); rintro e w' ⟨rfl, rfl⟩))
      go_returns
      exact ⟨rfl, by (repeat' (first | (with_reducible exact Below.refl _ _) | (with_reducible assumption) | (with_reducible refine below_drewN ?_ _) | (with_reducible refine below_grown ?_ ?_ _) | (with_reducible refine Below.alloc ?_ ?_ _) | (with_reducible refine Below.drew ?_) | (with_reducible refine Below.setCell ?_ ?_ _) | (first | (with_reducible exact Nat.le_refl _) | (with_reducible assumption) | omega | (simp only [World.size_alloc, World.size_setCell, World.size_drew, size_drewN', size_grow]; omega) | (simp; omega) | (simp; done)) | (with_reducible refine Below.trans ?_ (Below.mono (by with_reducible assumption) ?_))))⟩
  · rw [orZ_out hs, inB_false hs] at c1
    by_cases hd : I64 (a0 - a1)
    · have c4 := fun w => num_add (a0 - a1) a1 w hd h1
      have e4 : a0 - a1 + a1 = a0 := by omega
      rw [orZ_in hd, inB_true hd] at c2
      rw [e4, orZ_in h0, inB_true h0] at c4
      have C1 := hid c1
      have C2 := hid c2
      have C4 := hid c4
      clear c1 c2 c4 h0 h1 hs hd e4
      go_enter Try.func6, Try.ntmps6
      go_wp2_with (first | (go_at_call 15; ((with_reducible refine (Calls.to_grow (A.out _)).mono ?_); rintro e w' ⟨rfl, xg, rfl⟩)) | (go_at_call 22; (with_reducible refine (C1.out _).mono ?_); rintro e w' ⟨rfl, rfl⟩) | (go_at_call 23; (with_reducible refine (C2.out _).mono ?_); rintro e w' ⟨rfl, rfl⟩) | (go_at_call 22; (with_reducible refine (C4.out _).mono ?_); rintro e w' ⟨rfl, rfl⟩))
      go_returns
      exact ⟨rfl, by (repeat' (first | (with_reducible exact Below.refl _ _) | (with_reducible assumption) | (with_reducible refine below_drewN ?_ _) | (with_reducible refine below_grown ?_ ?_ _) | (with_reducible refine Below.alloc ?_ ?_ _) | (with_reducible refine Below.drew ?_) | (with_reducible refine Below.setCell ?_ ?_ _) | (first | (with_reducible exact Nat.le_refl _) | (with_reducible assumption) | omega | (simp only [World.size_alloc, World.size_setCell, World.size_drew, size_drewN', size_grow]; omega) | (simp; omega) | (simp; done)) | (with_reducible refine Below.trans ?_ (Below.mono (by with_reducible assumption) ?_))))⟩
    · rw [orZ_out hd, inB_false hd] at c2
      have C1 := hid c1
      have C2 := hid c2
      clear c1 c2 h0 h1 hs hd
      go_enter Try.func6, Try.ntmps6
      go_wp2_with (first | (go_at_call 15; ((with_reducible refine (Calls.to_grow (A.out _)).mono ?_); rintro e w' ⟨rfl, xg, rfl⟩)) | (go_at_call 22; (with_reducible refine (C1.out _).mono ?_); rintro e w' ⟨rfl, rfl⟩) | (go_at_call 23; (with_reducible refine (C2.out _).mono ?_); rintro e w' ⟨rfl, rfl⟩))
      go_returns
      exact ⟨rfl, by (repeat' (first | (with_reducible exact Below.refl _ _) | (with_reducible assumption) | (with_reducible refine below_drewN ?_ _) | (with_reducible refine below_grown ?_ ?_ _) | (with_reducible refine Below.alloc ?_ ?_ _) | (with_reducible refine Below.drew ?_) | (with_reducible refine Below.setCell ?_ ?_ _) | (first | (with_reducible exact Nat.le_refl _) | (with_reducible assumption) | omega | (simp only [World.size_alloc, World.size_setCell, World.size_drew, size_drewN', size_grow]; omega) | (simp; omega) | (simp; done)) | (with_reducible refine Below.trans ?_ (Below.mono (by with_reducible assumption) ?_))))⟩
theorem walk_NumProducts (a0 : Int) (a1 : Int) (w : World) (w0 : (Lit.int .i64 a0).wf = true) (w1 : (Lit.int .i64 a1).wf = true) :
    Calls Try.prog 10 #[.int .i64 a0, .int .i64 a1] w fun e w' => e = .returned (.bool true) ∧ Below w.heap.size w w' := by
  have h0 : I64 a0 := bd_i64 w0
  have h1 : I64 a1 := bd_i64 w1
  clear w0 w1
  have A := hid (fun w => anchor01 w)
  have ps : sgn a0 * sgn a1 = 1 ∨ sgn a0 * sgn a1 = -1 := by rcases sgn_pm a0 with h | h <;> rcases sgn_pm a1 with h' | h' <;> rw [h, h'] <;> decide
  have pd : D4 (absv a0 * absv a1) := by
    have z0 := absv_bd a0 h0
    have z1 := absv_bd a1 h1
    have h := Int.mul_le_mul z0.2 z1.2 z1.1 (by omega : (0 : Int) ≤ 9223372036854775808)
    have h' := Int.mul_nonneg z0.1 z1.1
    unfold D4
    omega
  have pv : sgn a0 * sgn a1 * (absv a0 * absv a1) = a0 * a1 := by
    have e0 := sgn_abs a0
    have e1 := sgn_abs a1
    calc sgn a0 * sgn a1 * (absv a0 * absv a1) = (sgn a0 * absv a0) * (sgn a1 * absv a1) := by simp only [Int.mul_assoc, Int.mul_left_comm]
      _ = a0 * a1 := by rw [e0, e1]
  have c1 := fun w => num_mul a0 a1 w h0 h1
  have c2 := fun w => ref01_times a0 a1 w h0 h1
  have c3 := fun w => ref01_back _ _ _ w ps pd pv
  have c4 := fun w => told01 _ _ _ w ps pd pv
  have c5 := fun w => num_mulsat a0 a1 w h0 h1
  generalize a0 * a1 = p at *
  generalize sgn a0 * sgn a1 = s at *
  generalize absv a0 * absv a1 = m at *
  unfold nrep at c2 c3 c4
  have C1 := hid c1
  have C2 := hid c2
  have C3 := hid c3
  have C4 := hid c4
  have C5 := hid c5
  clear c1 c2 c3 c4 c5 ps pd pv h0 h1
  go_enter Try.func10, Try.ntmps10
  (have hasc := Nat.add_assoc; have hpos := nat_pos_or; have hlit := nat_lt_lit)
  go_wp2_with (first | (go_at_call 15; ((with_reducible refine (Calls.to_grow (A.out _)).mono ?_); rintro e w' ⟨rfl, xg, rfl⟩)) | (go_at_call 28; (with_reducible refine (C1.out _).mono ?_); rintro e w' ⟨rfl, rfl⟩))
  refine (Calls.to_grow (C2.out _)).mono ?_
  rintro e w' ⟨rfl, g2, rfl⟩
  go_wp2_with (go_at_call 20; (refine (Calls.to_kept [w.heap.size + (xg.objs.size + g2.objs.size)] (C3.out _) ?lt).mono ?_; (case lt => (first | (exact trivial) | (simp only [AllLt, World.size_alloc, World.size_setCell, World.size_drew, size_drewN', size_grow, and_true, true_and]; omega))); rintro e w' ⟨rfl, x1, rfl, hk1⟩; simp only [AllKept, and_true] at hk1))
  refine (Calls.to_grow (C4.out _)).mono ?_
  rintro e w' ⟨rfl, g4, rfl⟩
  go_wp2_with (go_at_call 30; (with_reducible refine (C5.out _).mono ?_); rintro e w' ⟨rfl, rfl⟩)
  go_returns
  exact ⟨rfl, by (repeat' (first | (with_reducible exact Below.refl _ _) | (with_reducible assumption) | (with_reducible refine below_drewN ?_ _) | (with_reducible refine below_grown ?_ ?_ _) | (with_reducible refine Below.alloc ?_ ?_ _) | (with_reducible refine Below.drew ?_) | (with_reducible refine Below.setCell ?_ ?_ _) | (first | (with_reducible exact Nat.le_refl _) | (with_reducible assumption) | omega | (simp only [World.size_alloc, World.size_setCell, World.size_drew, size_drewN', size_grow]; omega) | (simp; omega) | (simp; done)) | (with_reducible refine Below.trans ?_ (Below.mono (by with_reducible assumption) ?_))))⟩
end Go.Proofs.Ytcbncliplbecdaa
