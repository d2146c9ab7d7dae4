/- Layer 1's reference: a number of 64 bits back from its digits. -/
import Derived.Test.YtcbncliplbecdaaRef01
set_option linter.unusedVariables false
set_option linter.unusedSimpArgs false
namespace Go.Proofs.Ytcbncliplbecdaa
open Go.RowKit
theorem ref01_back (s m v : Int) (w : World) (hs : s = 1 ∨ s = -1) (hm : D4 m) (hv : s * m = v) :
    Calls Try.prog 20 #[nrep s m] w fun e w' => e = .returned (.tuple #[.int .i64 (sat v), .bool (inB v)]) ∧ Below w.heap.size w w' := by
  have hk : D4 9223372036854775808 := by unfold D4; omega
  have c1 := fun w => ref01_less 9223372036854775808 m w hk hm
  have c2 := fun w => ref01_less m 9223372036854775808 w hm hk
  unfold digs at c1 c2
  have k0 : d0 9223372036854775808 = 0 := by decide
  have k1 : d1 9223372036854775808 = 2147483648 := by decide
  have k2 : d2 9223372036854775808 = 0 := by decide
  have k3 : d3 9223372036854775808 = 0 := by decide
  rw [k0, k1, k2, k3] at c1 c2
  unfold nrep
  have b0 := d0_bd m
  have b1 := d1_bd m
  have hs0 := dsum m hm
  unfold D4 at hm
  rcases hs with rfl | rfl
  · by_cases h : m < 9223372036854775808
    · have e : decide (m < 9223372036854775808) = true := by simpa using h
      rw [e] at c2
      have C2 := hid c2
      have e1 : sat v = v := by unfold sat; rw [if_neg (by omega), if_neg (by omega)]
      have e2 : inB v = true := inB_true (by unfold I64; omega)
      rw [e1, e2]
      have z2 : d2 m = 0 := by unfold d2; omega
      have z3 : d3 m = 0 := by unfold d3; omega
      have hvm : d1 m * 4294967296 + d0 m = v := by omega
      have HV := hid hvm
      rw [z2, z3] at hs0 ⊢
      rw [z2, z3] at C2
      have hlt : d1 m * 4294967296 + d0 m ≤ 9223372036854775807 := by omega
      clear c1 c2 e e1 e2 k0 k1 k2 k3 hk z2 z3 hs0 hm hvm
      generalize d0 m = x0 at *
      generalize d1 m = x1 at *
      go_enter Try.func20, Try.ntmps20
      go_wp2_with (go_at_call 37; (refine (Calls.to_kept [w.heap.size, w.heap.size + 1] (C2.out _) ?lt).mono ?_; (case lt => (first | (exact trivial) | (simp only [AllLt, World.size_alloc, World.size_setCell, World.size_drew, size_drewN', size_grow, and_true, true_and]; omega))); rintro e w' ⟨rfl, x1, rfl, hk1⟩; simp only [AllKept, and_true] at hk1))
      go_returns
      exact ⟨ret_ib HV.out rfl, by (repeat' (first | (with_reducible exact Below.refl _ _) | (with_reducible assumption) | (with_reducible refine below_drewN ?_ _) | (with_reducible refine below_grown ?_ ?_ _) | (with_reducible refine Below.alloc ?_ ?_ _) | (with_reducible refine Below.drew ?_) | (with_reducible refine Below.setCell ?_ ?_ _) | (first | (with_reducible exact Nat.le_refl _) | (with_reducible assumption) | omega | (simp only [World.size_alloc, World.size_setCell, World.size_drew, size_drewN', size_grow]; omega) | (simp; omega) | (simp; done)) | (with_reducible refine Below.trans ?_ (Below.mono (by with_reducible assumption) ?_))))⟩
    · have e : decide (m < 9223372036854775808) = false := by simpa using h
      rw [e] at c2
      have C2 := hid c2
      have e1 : sat v = 9223372036854775807 := by unfold sat; rw [if_neg (by omega), if_pos (by omega)]
      have e2 : inB v = false := inB_false (by unfold I64; omega)
      rw [e1, e2]
      clear c1 c2 e e1 e2 k0 k1 k2 k3 hk hs0 b0 b1
      go_enter Try.func20, Try.ntmps20
      go_wp2_with (go_at_call 37; (refine (Calls.to_kept [w.heap.size, w.heap.size + 1] (C2.out _) ?lt).mono ?_; (case lt => (first | (exact trivial) | (simp only [AllLt, World.size_alloc, World.size_setCell, World.size_drew, size_drewN', size_grow, and_true, true_and]; omega))); rintro e w' ⟨rfl, x1, rfl, hk1⟩; simp only [AllKept, and_true] at hk1))
      go_returns
      exact ⟨rfl, by (repeat' (first | (with_reducible exact Below.refl _ _) | (with_reducible assumption) | (with_reducible refine below_drewN ?_ _) | (with_reducible refine below_grown ?_ ?_ _) | (with_reducible refine Below.alloc ?_ ?_ _) | (with_reducible refine Below.drew ?_) | (with_reducible refine Below.setCell ?_ ?_ _) | (first | (with_reducible exact Nat.le_refl _) | (with_reducible assumption) | omega | (simp only [World.size_alloc, World.size_setCell, World.size_drew, size_drewN', size_grow]; omega) | (simp; omega) | (simp; done)) | (with_reducible refine Below.trans ?_ (Below.mono (by with_reducible assumption) ?_))))⟩
  · by_cases h : 9223372036854775808 < m
    · have e : decide (9223372036854775808 < m) = true := by simpa using h
      rw [e] at c1
      have C1 := hid c1
      have e1 : sat v = -9223372036854775808 := by unfold sat; rw [if_pos (by omega)]
      have e2 : inB v = false := inB_false (by unfold I64; omega)
      rw [e1, e2]
      clear c1 c2 e e1 e2 k0 k1 k2 k3 hk hs0 b0 b1
      go_enter Try.func20, Try.ntmps20
      go_wp2_with (go_at_call 37; (refine (Calls.to_kept [w.heap.size, w.heap.size + 1] (C1.out _) ?lt).mono ?_; (case lt => (first | (exact trivial) | (simp only [AllLt, World.size_alloc, World.size_setCell, World.size_drew, size_drewN', size_grow, and_true, true_and]; omega))); rintro e w' ⟨rfl, x1, rfl, hk1⟩; simp only [AllKept, and_true] at hk1))
      go_returns
      exact ⟨rfl, by (repeat' (first | (with_reducible exact Below.refl _ _) | (with_reducible assumption) | (with_reducible refine below_drewN ?_ _) | (with_reducible refine below_grown ?_ ?_ _) | (with_reducible refine Below.alloc ?_ ?_ _) | (with_reducible refine Below.drew ?_) | (with_reducible refine Below.setCell ?_ ?_ _) | (first | (with_reducible exact Nat.le_refl _) | (with_reducible assumption) | omega | (simp only [World.size_alloc, World.size_setCell, World.size_drew, size_drewN', size_grow]; omega) | (simp; omega) | (simp; done)) | (with_reducible refine Below.trans ?_ (Below.mono (by with_reducible assumption) ?_))))⟩
    · have e : decide (9223372036854775808 < m) = false := by simpa using h
      rw [e] at c1
      have C1 := hid c1
      have e1 : sat v = v := by unfold sat; rw [if_neg (by omega), if_neg (by omega)]
      have e2 : inB v = true := inB_true (by unfold I64; omega)
      rw [e1, e2]
      have z2 : d2 m = 0 := by unfold d2; omega
      have z3 : d3 m = 0 := by unfold d3; omega
      have hvm : wrap64 (IntKind.u64.wrap (-(d1 m * 4294967296 + d0 m))) = v := by rw [IntKind.wrap_u64]; unfold wrap64; omega
      have HV := hid hvm
      rw [z2, z3] at hs0 ⊢
      rw [z2, z3] at C1
      have hlt : d1 m * 4294967296 + d0 m ≤ 9223372036854775808 := by omega
      clear c1 c2 e e1 e2 k0 k1 k2 k3 hk z2 z3 hs0 hm hvm hv h
      generalize d0 m = x0 at *
      generalize d1 m = x1 at *
      go_enter Try.func20, Try.ntmps20
      go_wp2_with (go_at_call 37; (refine (Calls.to_kept [w.heap.size, w.heap.size + 1] (C1.out _) ?lt).mono ?_; (case lt => (first | (exact trivial) | (simp only [AllLt, World.size_alloc, World.size_setCell, World.size_drew, size_drewN', size_grow, and_true, true_and]; omega))); rintro e w' ⟨rfl, x1, rfl, hk1⟩; simp only [AllKept, and_true] at hk1))
      go_returns
      refine ⟨ret_ib HV.out rfl, by (repeat' (first | (with_reducible exact Below.refl _ _) | (with_reducible assumption) | (with_reducible refine below_drewN ?_ _) | (with_reducible refine below_grown ?_ ?_ _) | (with_reducible refine Below.alloc ?_ ?_ _) | (with_reducible refine Below.drew ?_) | (with_reducible refine Below.setCell ?_ ?_ _) | (first | (with_reducible exact Nat.le_refl _) | (with_reducible assumption) | omega | (simp only [World.size_alloc, World.size_setCell, World.size_drew, size_drewN', size_grow]; omega) | (simp; omega) | (simp; done)) | (with_reducible refine Below.trans ?_ (Below.mono (by with_reducible assumption) ?_))))⟩
end Go.Proofs.Ytcbncliplbecdaa
