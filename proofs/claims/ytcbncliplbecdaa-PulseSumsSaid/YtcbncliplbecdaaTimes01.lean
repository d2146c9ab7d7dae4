/- Layer 1's reference: products, digit by digit. -/
import Derived.Test.YtcbncliplbecdaaBack01
set_option linter.unusedVariables false
set_option linter.unusedSimpArgs false
namespace Go.Proofs.Ytcbncliplbecdaa
open Go.RowKit
set_option maxHeartbeats 4000000 in
theorem times_digs (a b s t x0 x1 y0 y1 p00 p01 p10 p11 : Int) (w : World)
    (ca : ∀ w, Calls Try.prog 18 #[.int .i64 a] w fun e w' => e = .returned (.agg #[.int .i64 s, .int .u64 x0, .int .u64 x1, .int .u64 0, .int .u64 0]) ∧ Below w.heap.size w w')
    (cb : ∀ w, Calls Try.prog 18 #[.int .i64 b] w fun e w' => e = .returned (.agg #[.int .i64 t, .int .u64 y0, .int .u64 y1, .int .u64 0, .int .u64 0]) ∧ Below w.heap.size w w')
    (h00 : x0 * y0 = p00) (h01 : x0 * y1 = p01) (h10 : x1 * y0 = p10) (h11 : x1 * y1 = p11) (hs : -1 ≤ s * t ∧ s * t ≤ 1)
    (b00 : 0 ≤ p00 ∧ p00 ≤ 18446744065119617025) (b01 : 0 ≤ p01 ∧ p01 ≤ 18446744065119617025) (b10 : 0 ≤ p10 ∧ p10 ≤ 18446744065119617025) (b11 : 0 ≤ p11 ∧ p11 ≤ 18446744065119617025) :
    Calls Try.prog 29 #[.int .i64 a, .int .i64 b] w fun e w' => e = .returned (.agg #[.int .i64 (s * t), .int .u64 (p00 % 4294967296), .int .u64 ((p10 + (p01 + p00 / 4294967296)) % 4294967296), .int .u64 ((p11 + (p01 + p00 / 4294967296) / 4294967296 + (p10 + (p01 + p00 / 4294967296) % 4294967296) / 4294967296) % 4294967296), .int .u64 ((p11 + (p01 + p00 / 4294967296) / 4294967296 + (p10 + (p01 + p00 / 4294967296) % 4294967296) / 4294967296) / 4294967296)]) ∧ Below w.heap.size w w' := by
  have CA := hid ca
  have CB := hid cb
  clear ca cb
  go_enter Try.func29, Try.ntmps29
  (have hasc := Nat.add_assoc; have hpos := nat_pos_or; have hlit := nat_lt_lit)
  go_wp2_with (fail)
  refine (Calls.to_kept [w.heap.size] (CA.out _) ?lt).mono ?_
  case lt => (first | (exact trivial) | (simp only [AllLt, World.size_alloc, World.size_setCell, World.size_drew, size_drewN', size_grow, and_true, true_and]; omega))
  rintro e w' ⟨rfl, g1, rfl, hk1⟩
  simp only [AllKept, and_true] at hk1
  go_wp2_with (fail)
  refine (Calls.to_kept [w.heap.size, w.heap.size + (1 + g1.objs.size)] (CB.out _) ?lt).mono ?_
  case lt => (first | (exact trivial) | (simp only [AllLt, World.size_alloc, World.size_setCell, World.size_drew, size_drewN', size_grow, and_true, true_and]; omega))
  rintro e w' ⟨rfl, g2, rfl, hk2⟩
  simp only [AllKept, and_true] at hk2
  go_wp2_with (fail)
  refine wp_loop_rounds 3 ?_
  refine rounds_mk ?_
  go_wp2_with (fail)
  refine wp_loop_rounds 3 ?_
  refine rounds_mk ?_
  go_wp2_with (fail)
  go_quiet (fail)
  go_wp2_with (fail)
  refine rounds_mk ?_
  go_wp2_with (fail)
  go_quiet (fail)
  go_wp2_with (fail)
  refine rounds_mk ?_
  go_wp2_with (fail)
  refine rounds_mk ?_
  go_wp2_with (fail)
  refine wp_loop_rounds 3 ?_
  refine rounds_mk ?_
  go_wp2_with (fail)
  go_quiet (fail)
  go_wp2_with (fail)
  refine rounds_mk ?_
  go_wp2_with (fail)
  go_quiet (fail)
  go_wp2_with (fail)
  refine rounds_mk ?_
  go_wp2_with (fail)
  generalize hW : World.setCell _ _ _ = W
  have hb : Below w.heap.size w W := by rw [← hW]; (repeat' (first | (with_reducible exact Below.refl _ _) | (with_reducible assumption) | (with_reducible refine below_drewN ?_ _) | (with_reducible refine below_grown ?_ ?_ _) | (with_reducible refine Below.alloc ?_ ?_ _) | (with_reducible refine Below.drew ?_) | (with_reducible refine Below.setCell ?_ ?_ _) | (first | (with_reducible exact Nat.le_refl _) | (with_reducible assumption) | omega | (simp only [World.size_alloc, World.size_setCell, World.size_drew, size_drewN', size_grow]; omega) | (simp; omega) | (simp; done)) | (with_reducible refine Below.trans ?_ (Below.mono (by with_reducible assumption) ?_))))
  have r0 : ∃ v, W.cell? ⟨w.heap.size, 0, none⟩ = some v := by rw [← hW]; simp [go_sem, hasc, hpos, hlit, hk1, hk2]
  have q0 : W.frozen? ⟨w.heap.size, 0, none⟩ = false := by rw [← hW]; simp [go_sem, hasc, hpos, hlit, hk1, hk2]
  have f0 : W.cell? ⟨w.heap.size + (1 + (g1.objs.size + (1 + (g2.objs.size + 1)))), 0, none⟩ = some (.int .i64 (s * t)) := by rw [← hW]; simp [go_sem, hasc, hpos, hlit]
  have r1 : ∃ v, W.cell? ⟨w.heap.size, 1, none⟩ = some v := by rw [← hW]; simp [go_sem, hasc, hpos, hlit, hk1, hk2]
  have q1 : W.frozen? ⟨w.heap.size, 1, none⟩ = false := by rw [← hW]; simp [go_sem, hasc, hpos, hlit, hk1, hk2]
  have f1 : W.cell? ⟨w.heap.size + (1 + (g1.objs.size + (1 + (g2.objs.size + 1)))), 1, none⟩ = some (.int .u64 (p00 % 4294967296)) := by rw [← hW]; simp [go_sem, hasc, hpos, hlit]
  have r2 : ∃ v, W.cell? ⟨w.heap.size, 2, none⟩ = some v := by rw [← hW]; simp [go_sem, hasc, hpos, hlit, hk1, hk2]
  have q2 : W.frozen? ⟨w.heap.size, 2, none⟩ = false := by rw [← hW]; simp [go_sem, hasc, hpos, hlit, hk1, hk2]
  have f2 : W.cell? ⟨w.heap.size + (1 + (g1.objs.size + (1 + (g2.objs.size + 1)))), 2, none⟩ = some (.int .u64 ((p10 + (p01 + p00 / 4294967296)) % 4294967296)) := by rw [← hW]; simp [go_sem, hasc, hpos, hlit]
  have r3 : ∃ v, W.cell? ⟨w.heap.size, 3, none⟩ = some v := by rw [← hW]; simp [go_sem, hasc, hpos, hlit, hk1, hk2]
  have q3 : W.frozen? ⟨w.heap.size, 3, none⟩ = false := by rw [← hW]; simp [go_sem, hasc, hpos, hlit, hk1, hk2]
  have f3 : W.cell? ⟨w.heap.size + (1 + (g1.objs.size + (1 + (g2.objs.size + 1)))), 3, none⟩ = some (.int .u64 ((p11 + (p01 + p00 / 4294967296) / 4294967296 + (p10 + (p01 + p00 / 4294967296) % 4294967296) / 4294967296) % 4294967296)) := by rw [← hW]; simp [go_sem, hasc, hpos, hlit]
  have r4 : ∃ v, W.cell? ⟨w.heap.size, 4, none⟩ = some v := by rw [← hW]; simp [go_sem, hasc, hpos, hlit, hk1, hk2]
  have q4 : W.frozen? ⟨w.heap.size, 4, none⟩ = false := by rw [← hW]; simp [go_sem, hasc, hpos, hlit, hk1, hk2]
  have f4 : W.cell? ⟨w.heap.size + (1 + (g1.objs.size + (1 + (g2.objs.size + 1)))), 4, none⟩ = some (.int .u64 ((p11 + (p01 + p00 / 4294967296) / 4294967296 + (p10 + (p01 + p00 / 4294967296) % 4294967296) / 4294967296) / 4294967296)) := by rw [← hW]; simp [go_sem, hasc, hpos, hlit]
  clear hW hk1 hk2
  obtain ⟨_, r0⟩ := r0
  obtain ⟨_, r1⟩ := r1
  obtain ⟨_, r2⟩ := r2
  obtain ⟨_, r3⟩ := r3
  obtain ⟨_, r4⟩ := r4
  refine rounds_mk ?_
  go_wp2_with (fail)
  refine bodyPost_ret (by simp [results, go_sem, Try.results29, r0, r1, r2, r3, r4]; try rfl) rfl ?_
  exact ⟨rfl, by (repeat' (first | (with_reducible exact Below.refl _ _) | (with_reducible assumption) | (with_reducible refine below_drewN ?_ _) | (with_reducible refine below_grown ?_ ?_ _) | (with_reducible refine Below.alloc ?_ ?_ _) | (with_reducible refine Below.drew ?_) | (with_reducible refine Below.setCell ?_ ?_ _) | (first | (with_reducible exact Nat.le_refl _) | (with_reducible assumption) | omega | (simp only [World.size_alloc, World.size_setCell, World.size_drew, size_drewN', size_grow]; omega) | (simp; omega) | (simp; done)) | (with_reducible refine Below.trans ?_ (Below.mono (by with_reducible assumption) ?_))))⟩
theorem absv_bd (a : Int) (h : I64 a) : 0 ≤ absv a ∧ absv a ≤ 9223372036854775808 := by unfold I64 at h; unfold absv; split <;> omega
theorem sgn_pm (a : Int) : sgn a = 1 ∨ sgn a = -1 := by unfold sgn; split <;> simp
theorem sgn_abs (a : Int) : sgn a * absv a = a := by unfold sgn absv; split <;> omega
theorem absv_d4 (a : Int) (h : I64 a) : D4 (absv a) := by have := absv_bd a h; unfold D4; omega
theorem prod_bd {x y : Int} (hx : 0 ≤ x ∧ x ≤ 4294967295) (hy : 0 ≤ y ∧ y ≤ 4294967295) : 0 ≤ x * y ∧ x * y ≤ 18446744065119617025 := by
  constructor
  · exact Int.mul_nonneg hx.1 hy.1
  · have h1 := Int.mul_le_mul hx.2 hy.2 hy.1 (by omega : (0 : Int) ≤ 4294967295)
    omega
theorem mul_expand (B u v x y : Int) : (u + B * v) * (x + B * y) = u * x + B * (u * y) + B * (v * x) + B * B * (v * y) := by
  have h1 : u * (B * y) = B * (u * y) := Int.mul_left_comm u B y
  have h2 : B * v * x = B * (v * x) := Int.mul_assoc B v x
  have h3 : B * v * (B * y) = B * B * (v * y) := by rw [Int.mul_assoc, Int.mul_left_comm v B y, Int.mul_assoc]
  rw [Int.add_mul, Int.mul_add, Int.mul_add, h1, h2, h3]
  omega
theorem times_core (m p00 p01 p10 p11 : Int) (hm : m = p00 + 4294967296 * p01 + 4294967296 * p10 + 18446744073709551616 * p11)
    (b00 : 0 ≤ p00 ∧ p00 ≤ 18446744065119617025) (b01 : 0 ≤ p01 ∧ p01 ≤ 18446744065119617025) (b10 : 0 ≤ p10 ∧ p10 ≤ 18446744065119617025) (b11 : 0 ≤ p11 ∧ p11 ≤ 18446744065119617025) :
    p00 % 4294967296 = d0 m ∧ (p10 + (p01 + p00 / 4294967296)) % 4294967296 = d1 m ∧
    (p11 + (p01 + p00 / 4294967296) / 4294967296 + (p10 + (p01 + p00 / 4294967296) % 4294967296) / 4294967296) % 4294967296 = d2 m ∧
    (p11 + (p01 + p00 / 4294967296) / 4294967296 + (p10 + (p01 + p00 / 4294967296) % 4294967296) / 4294967296) / 4294967296 = d3 m := by
  have e1 : (p10 + (p01 + p00 / 4294967296)) % 4294967296 = (p10 + (p01 + p00 / 4294967296) % 4294967296) % 4294967296 := by omega
  rw [e1]
  generalize hX : p01 + p00 / 4294967296 = X at *
  generalize hY : p10 + X % 4294967296 = Y at *
  generalize hZ : p11 + X / 4294967296 + Y / 4294967296 = Z at *
  have e : m = p00 % 4294967296 + 4294967296 * (Y % 4294967296) + 18446744073709551616 * (Z % 4294967296) + 79228162514264337593543950336 * (Z / 4294967296) := by omega
  have r0 : 0 ≤ p00 % 4294967296 ∧ p00 % 4294967296 ≤ 4294967295 := by omega
  have r1 : 0 ≤ Y % 4294967296 ∧ Y % 4294967296 ≤ 4294967295 := by omega
  have r2 : 0 ≤ Z % 4294967296 ∧ Z % 4294967296 ≤ 4294967295 := by omega
  have r3 : 0 ≤ Z / 4294967296 ∧ Z / 4294967296 ≤ 4294967295 := by omega
  generalize p00 % 4294967296 = q0 at *
  generalize Y % 4294967296 = q1 at *
  generalize Z % 4294967296 = q2 at *
  generalize Z / 4294967296 = q3 at *
  clear hX hY hZ e1 b00 b01 b10 b11 hm
  unfold d0 d1 d2 d3
  refine ⟨?_, ?_, ?_, ?_⟩ <;> omega
theorem ref01_times (a b : Int) (w : World) (ha : I64 a) (hb : I64 b) :
    Calls Try.prog 29 #[.int .i64 a, .int .i64 b] w fun e w' => e = .returned (nrep (sgn a * sgn b) (absv a * absv b)) ∧ Below w.heap.size w w' := by
  have ca := fun w => ref01_of a w ha
  have cb := fun w => ref01_of b w hb
  have za := absv_bd a ha
  have zb := absv_bd b hb
  have a2 : d2 (absv a) = 0 := by unfold d2; omega
  have a3 : d3 (absv a) = 0 := by unfold d3; omega
  have b2 : d2 (absv b) = 0 := by unfold d2; omega
  have b3 : d3 (absv b) = 0 := by unfold d3; omega
  unfold nrep at ca cb
  rw [a2, a3] at ca
  rw [b2, b3] at cb
  have k00 := prod_bd (d0_bd (absv a)) (d0_bd (absv b))
  have k01 := prod_bd (d0_bd (absv a)) (d1_bd (absv b))
  have k10 := prod_bd (d1_bd (absv a)) (d0_bd (absv b))
  have k11 := prod_bd (d1_bd (absv a)) (d1_bd (absv b))
  have hs : -1 ≤ sgn a * sgn b ∧ sgn a * sgn b ≤ 1 := by rcases sgn_pm a with h | h <;> rcases sgn_pm b with h' | h' <;> rw [h, h'] <;> decide
  have ea : absv a = d0 (absv a) + 4294967296 * d1 (absv a) := by unfold d0 d1; omega
  have eb : absv b = d0 (absv b) + 4294967296 * d1 (absv b) := by unfold d0 d1; omega
  have hm : absv a * absv b = d0 (absv a) * d0 (absv b) + 4294967296 * (d0 (absv a) * d1 (absv b)) + 4294967296 * (d1 (absv a) * d0 (absv b)) + 18446744073709551616 * (d1 (absv a) * d1 (absv b)) := by
    generalize d0 (absv a) = u at *
    generalize d1 (absv a) = v at *
    generalize d0 (absv b) = x at *
    generalize d1 (absv b) = y at *
    rw [ea, eb]
    exact mul_expand 4294967296 u v x y
  obtain ⟨h0, h1, h2, h3⟩ := times_core _ _ _ _ _ hm k00 k01 k10 k11
  have H := times_digs a b _ _ _ _ _ _ _ _ _ _ w ca cb rfl rfl rfl rfl hs k00 k01 k10 k11
  rw [h0, h1, h2, h3] at H
  exact H
end Go.Proofs.Ytcbncliplbecdaa
