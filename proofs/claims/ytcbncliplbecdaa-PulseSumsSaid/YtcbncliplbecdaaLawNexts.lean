/- The statement 'PulseNexts': the walk. -/
import Derived.Test.YtcbncliplbecdaaPulse
import Derived.Test.YtcbncliplbecdaaTimes01
set_option linter.unusedVariables false
set_option linter.unusedSimpArgs false
namespace Go.Proofs.Ytcbncliplbecdaa
open Go.RowKit
theorem i64_and65535 (n : Int) : bits .and .i64 n 65535 = n % 65536 := by
  have h1 : (BitVec.ofInt 64 65535).toNat = 2 ^ 16 - 1 := by decide
  have key : (BitVec.ofInt 64 n &&& BitVec.ofInt 64 65535).toNat = (n % ((2 ^ 64 : Nat) : Int)).toNat % 2 ^ 16 := by
    rw [BitVec.toNat_and, BitVec.toNat_ofInt, h1, Nat.and_two_pow_sub_one_eq_mod]
  show IntKind.i64.wrap ((BitVec.ofInt 64 n &&& BitVec.ofInt 64 65535).toNat : Nat) = n % 65536
  rw [key, IntKind.wrap_i64]
  omega
theorem u16_mod (n : Int) : IntKind.u16.wrap (n % 65536) = n % 65536 := by rw [u16_wrap]; omega
def ctr (k : Bool) (l s : Int) : Value := .agg #[.bool k, .int .u16 l, .int .i64 s]
theorem next_none (k : Bool) (l s c : Int) (w : World) :
    Calls Try.prog 27 #[ctr k l s, .int .i64 c, .bool false] w fun e w' => e = .returned (.tuple #[ctr false l s, .int .i64 0, .bool false]) ∧ Below w.heap.size w w' := by
  unfold ctr
  go_enter Try.func27, Try.ntmps27
  (have hasc := Nat.add_assoc; have hpos := nat_pos_or; have hlit := nat_lt_lit)
  go_wp2_with (fail)
  go_returns
  exact ⟨rfl, by (repeat' (first | (with_reducible exact Below.refl _ _) | (with_reducible assumption) | (with_reducible refine below_drewN ?_ _) | (with_reducible refine below_grown ?_ ?_ _) | (with_reducible refine Below.alloc ?_ ?_ _) | (with_reducible refine Below.drew ?_) | (with_reducible refine Below.setCell ?_ ?_ _) | (first | (with_reducible exact Nat.le_refl _) | (with_reducible assumption) | omega | (simp only [World.size_alloc, World.size_setCell, World.size_drew, size_drewN', size_grow]; omega) | (simp; omega) | (simp; done)) | (with_reducible refine Below.trans ?_ (Below.mono (by with_reducible assumption) ?_))))⟩
theorem next_first (l s c : Int) (w : World) :
    Calls Try.prog 27 #[ctr false l s, .int .i64 c, .bool true] w fun e w' => e = .returned (.tuple #[ctr true (c % 65536) s, .int .i64 0, .bool false]) ∧ Below w.heap.size w w' := by
  unfold ctr
  have hu := u16_wrap c
  go_enter Try.func27, Try.ntmps27
  (have hasc := Nat.add_assoc; have hpos := nat_pos_or; have hlit := nat_lt_lit)
  go_wp2_with (fail)
  go_returns
  exact ⟨rfl, by (repeat' (first | (with_reducible exact Below.refl _ _) | (with_reducible assumption) | (with_reducible refine below_drewN ?_ _) | (with_reducible refine below_grown ?_ ?_ _) | (with_reducible refine Below.alloc ?_ ?_ _) | (with_reducible refine Below.drew ?_) | (with_reducible refine Below.setCell ?_ ?_ _) | (first | (with_reducible exact Nat.le_refl _) | (with_reducible assumption) | omega | (simp only [World.size_alloc, World.size_setCell, World.size_drew, size_drewN', size_grow]; omega) | (simp; omega) | (simp; done)) | (with_reducible refine Below.trans ?_ (Below.mono (by with_reducible assumption) ?_))))⟩
theorem next_known (l s c : Int) (w : World) (hs : I64 s) :
    Calls Try.prog 27 #[ctr true l s, .int .i64 c, .bool true] w fun e w' => e = .returned (.tuple #[ctr true (c % 65536) (sat (s + pd l (c % 65536))), .int .i64 (pd l (c % 65536)), .bool true]) ∧ Below w.heap.size w w' := by
  unfold ctr
  have hu := u16_wrap c
  have hp := pd_bd l (c % 65536)
  have C1 := hid (fun w => pulse_delta l (c % 65536) w)
  have C2 := hid (fun w => num_addsat s (pd l (c % 65536)) w hs (by unfold I64; omega))
  generalize pd l (c % 65536) = d at *
  generalize sat (s + d) = t at *
  clear hp hs
  go_enter Try.func27, Try.ntmps27
  (have hasc := Nat.add_assoc; have hpos := nat_pos_or; have hlit := nat_lt_lit)
  go_wp2_with (first | (go_at_call 13; (with_reducible refine (C1.out _).mono ?_); rintro e w' ⟨rfl, rfl⟩) | (go_at_call 25; (with_reducible refine (C2.out _).mono ?_); rintro e w' ⟨rfl, rfl⟩))
  go_returns
  exact ⟨rfl, by (repeat' (first | (with_reducible exact Below.refl _ _) | (with_reducible assumption) | (with_reducible refine below_drewN ?_ _) | (with_reducible refine below_grown ?_ ?_ _) | (with_reducible refine Below.alloc ?_ ?_ _) | (with_reducible refine Below.drew ?_) | (with_reducible refine Below.setCell ?_ ?_ _) | (first | (with_reducible exact Nat.le_refl _) | (with_reducible assumption) | omega | (simp only [World.size_alloc, World.size_setCell, World.size_drew, size_drewN', size_grow]; omega) | (simp; omega) | (simp; done)) | (with_reducible refine Below.trans ?_ (Below.mono (by with_reducible assumption) ?_))))⟩
theorem walk_PulseNexts (k : Bool) (l s c : Int) (h : Bool) (w : World) (hl : 0 ≤ l ∧ l ≤ 65535) (hs : I64 s) (hc : (Lit.int .i64 c).wf = true) :
    Calls Try.prog 8 #[ctr k l s, .int .i64 c, .bool h] w fun e w' => e = .returned (.bool true) ∧ Below w.heap.size w w' := by
  have A := hid (fun w => anchor09 w)
  cases h with
  | false =>
    have C1 := hid (fun w => next_none k l s c w)
    unfold ctr at *
    clear hs hc
    go_enter Try.func8, Try.ntmps8
    (have hasc := Nat.add_assoc; have hpos := nat_pos_or; have hlit := nat_lt_lit)
    go_wp2_with (first | (go_at_call 12; (with_reducible refine (A.out _).mono ?_); rintro e w' ⟨rfl, rfl⟩) | (go_at_call 27; (refine (Calls.to_kept [w.heap.size] (C1.out _) ?lt).mono ?_; (case lt => (first | (exact trivial) | (simp only [AllLt, World.size_alloc, World.size_setCell, World.size_drew, size_drewN', size_grow, and_true, true_and]; omega))); rintro e w' ⟨rfl, x1, rfl, hk1⟩; simp only [AllKept, and_true] at hk1)))
    go_returns
    exact ⟨rfl, by (repeat' (first | (with_reducible exact Below.refl _ _) | (with_reducible assumption) | (with_reducible refine below_drewN ?_ _) | (with_reducible refine below_grown ?_ ?_ _) | (with_reducible refine Below.alloc ?_ ?_ _) | (with_reducible refine Below.drew ?_) | (with_reducible refine Below.setCell ?_ ?_ _) | (first | (with_reducible exact Nat.le_refl _) | (with_reducible assumption) | omega | (simp only [World.size_alloc, World.size_setCell, World.size_drew, size_drewN', size_grow]; omega) | (simp; omega) | (simp; done)) | (with_reducible refine Below.trans ?_ (Below.mono (by with_reducible assumption) ?_))))⟩
  | true =>
    have hu := u16_mod c
    have hb := i64_and65535 c
    have hc2 : 0 ≤ c % 65536 ∧ c % 65536 ≤ 65535 := by omega
    cases k with
    | false =>
      have C1 := hid (fun w => next_first l s c w)
      unfold ctr at *
      clear hs hc
      generalize c % 65536 = q at *
      go_enter Try.func8, Try.ntmps8
      (have hasc := Nat.add_assoc; have hpos := nat_pos_or; have hlit := nat_lt_lit)
      go_wp2_with (first | (go_at_call 12; (with_reducible refine (A.out _).mono ?_); rintro e w' ⟨rfl, rfl⟩) | (go_at_call 27; (refine (Calls.to_kept [w.heap.size] (C1.out _) ?lt).mono ?_; (case lt => (first | (exact trivial) | (simp only [AllLt, World.size_alloc, World.size_setCell, World.size_drew, size_drewN', size_grow, and_true, true_and]; omega))); rintro e w' ⟨rfl, x1, rfl, hk1⟩; simp only [AllKept, and_true] at hk1)))
      go_returns
      exact ⟨rfl, by (repeat' (first | (with_reducible exact Below.refl _ _) | (with_reducible assumption) | (with_reducible refine below_drewN ?_ _) | (with_reducible refine below_grown ?_ ?_ _) | (with_reducible refine Below.alloc ?_ ?_ _) | (with_reducible refine Below.drew ?_) | (with_reducible refine Below.setCell ?_ ?_ _) | (first | (with_reducible exact Nat.le_refl _) | (with_reducible assumption) | omega | (simp only [World.size_alloc, World.size_setCell, World.size_drew, size_drewN', size_grow]; omega) | (simp; omega) | (simp; done)) | (with_reducible refine Below.trans ?_ (Below.mono (by with_reducible assumption) ?_))))⟩
    | true =>
      have c1 := fun w => next_known l s c w hs
      have hp := pd_bd l (c % 65536)
      have hd : I64 (pd l (c % 65536)) := by unfold I64; omega
      have c2 := fun w => ref09_delta l (c % 65536) w hl hc2
      have c3 := fun w => ref01_of s w hs
      have c4 := fun w => ref01_of (pd l (c % 65536)) w hd
      have b0 := absv_bd s hs
      have b1 := absv_bd (pd l (c % 65536)) hd
      have c5 := fun w => ref01_sum _ _ _ _ w (sgn_pm s) (sgn_pm (pd l (c % 65536))) (absv_d4 _ hs) (absv_d4 _ hd)
      have p1 := sum_pm _ (absv s) _ (absv (pd l (c % 65536))) (sgn_pm s) (sgn_pm (pd l (c % 65536)))
      have v1 : sumS (sgn s) (absv s) (sgn (pd l (c % 65536))) (absv (pd l (c % 65536))) * sumM (sgn s) (absv s) (sgn (pd l (c % 65536))) (absv (pd l (c % 65536))) = s + pd l (c % 65536) := by
        rw [sum_val _ _ _ _ (sgn_pm s) (sgn_pm _), sgn_abs, sgn_abs]
      have y1 : D4 (sumM (sgn s) (absv s) (sgn (pd l (c % 65536))) (absv (pd l (c % 65536)))) := sum_d4 _ _ _ _ (by omega) (by omega)
      have c6 := fun w => ref01_back _ _ _ w p1 y1 v1
      generalize sumM (sgn s) (absv s) (sgn (pd l (c % 65536))) (absv (pd l (c % 65536))) = um at *
      generalize sumS (sgn s) (absv s) (sgn (pd l (c % 65536))) (absv (pd l (c % 65536))) = us at *
      generalize pd l (c % 65536) = d at *
      generalize sat (s + d) = t at *
      unfold ctr at *
      unfold nrep at *
      have C1 := hid c1
      have C2 := hid c2
      have C3 := hid c3
      have C4 := hid c4
      have C5 := hid c5
      have C6 := hid c6
      clear c1 c2 c3 c4 c5 c6 b0 b1 p1 v1 y1 hp hd hs hc
      generalize c % 65536 = q at *
      go_enter Try.func8, Try.ntmps8
      (have hasc := Nat.add_assoc; have hpos := nat_pos_or; have hlit := nat_lt_lit)
      go_wp2_with (first | (go_at_call 12; (with_reducible refine (A.out _).mono ?_); rintro e w' ⟨rfl, rfl⟩) | (go_at_call 27; (refine (Calls.to_kept [w.heap.size] (C1.out _) ?lt).mono ?_; (case lt => (first | (exact trivial) | (simp only [AllLt, World.size_alloc, World.size_setCell, World.size_drew, size_drewN', size_grow, and_true, true_and]; omega))); rintro e w' ⟨rfl, x1, rfl, hk1⟩; simp only [AllKept, and_true] at hk1)) | (go_at_call 14; (with_reducible refine (C2.out _).mono ?_); rintro e w' ⟨rfl, rfl⟩))
      ((with_reducible refine (Calls.to_kept [w.heap.size + (1 + x1.objs.size)] (C3.out _) ?lt).mono ?_); (case lt => (first | (exact trivial) | (simp only [AllLt, World.size_alloc, World.size_setCell, World.size_drew, size_drewN', size_grow, and_true, true_and]; omega))); rintro e w' ⟨rfl, g3, rfl, hk1⟩; simp only [AllKept, and_true] at hk1)
      go_wp2_with (fail)
      ((with_reducible refine (Calls.to_kept [w.heap.size + (1 + x1.objs.size)] (C4.out _) ?lt).mono ?_); (case lt => (first | (exact trivial) | (simp only [AllLt, World.size_alloc, World.size_setCell, World.size_drew, size_drewN', size_grow, and_true, true_and]; omega))); rintro e w' ⟨rfl, g4, rfl, hk1⟩; simp only [AllKept, and_true] at hk1)
      go_wp2_with (first | (go_at_call 17; ((with_reducible refine (Calls.to_kept [w.heap.size + (1 + x1.objs.size)] (C5.out _) ?lt).mono ?_); (case lt => (first | (exact trivial) | (simp only [AllLt, World.size_alloc, World.size_setCell, World.size_drew, size_drewN', size_grow, and_true, true_and]; omega))); rintro e w' ⟨rfl, g5, rfl, hk1⟩; simp only [AllKept, and_true] at hk1)) | (go_at_call 20; ((with_reducible refine (Calls.to_kept [w.heap.size + (1 + x1.objs.size)] (C6.out _) ?lt).mono ?_); (case lt => (first | (exact trivial) | (simp only [AllLt, World.size_alloc, World.size_setCell, World.size_drew, size_drewN', size_grow, and_true, true_and]; omega))); rintro e w' ⟨rfl, g6, rfl, hk1⟩; simp only [AllKept, and_true] at hk1)))
      go_returns
      exact ⟨rfl, by (repeat' (first | (with_reducible exact Below.refl _ _) | (with_reducible assumption) | (with_reducible refine below_drewN ?_ _) | (with_reducible refine below_grown ?_ ?_ _) | (with_reducible refine Below.alloc ?_ ?_ _) | (with_reducible refine Below.drew ?_) | (with_reducible refine Below.setCell ?_ ?_ _) | (first | (with_reducible exact Nat.le_refl _) | (with_reducible assumption) | omega | (simp only [World.size_alloc, World.size_setCell, World.size_drew, size_drewN', size_grow]; omega) | (simp; omega) | (simp; done)) | (with_reducible refine Below.trans ?_ (Below.mono (by with_reducible assumption) ?_))))⟩
end Go.Proofs.Ytcbncliplbecdaa
