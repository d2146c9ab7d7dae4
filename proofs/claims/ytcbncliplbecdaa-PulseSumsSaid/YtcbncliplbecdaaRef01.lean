/- Layer 1's reference: numbers as digits of 2^32. -/
import Derived.Test.YtcbncliplbecdaaNum
import Derived.Test.YtcbncliplbecdaaGrow
set_option linter.unusedVariables false
set_option linter.unusedSimpArgs false
namespace Go.Proofs.Ytcbncliplbecdaa
open Go.RowKit
/-- The digits of a number without sign. -/
def d0 (m : Int) : Int := m % 4294967296
def d1 (m : Int) : Int := m / 4294967296 % 4294967296
def d2 (m : Int) : Int := m / 18446744073709551616 % 4294967296
def d3 (m : Int) : Int := m / 79228162514264337593543950336 % 4294967296
def digs (m : Int) : Array Value := #[.int .u64 (d0 m), .int .u64 (d1 m), .int .u64 (d2 m), .int .u64 (d3 m)]
def nrep (s m : Int) : Value := .agg #[.int .i64 s, .int .u64 (d0 m), .int .u64 (d1 m), .int .u64 (d2 m), .int .u64 (d3 m)]
/-- A number of four digits. -/
def D4 (m : Int) : Prop := 0 ≤ m ∧ m < 340282366920938463463374607431768211456
theorem d0_bd (m : Int) : 0 ≤ d0 m ∧ d0 m ≤ 4294967295 := by unfold d0; omega
theorem d1_bd (m : Int) : 0 ≤ d1 m ∧ d1 m ≤ 4294967295 := by unfold d1; omega
theorem d2_bd (m : Int) : 0 ≤ d2 m ∧ d2 m ≤ 4294967295 := by unfold d2; omega
theorem d3_bd (m : Int) : 0 ≤ d3 m ∧ d3 m ≤ 4294967295 := by unfold d3; omega
theorem dsum (m : Int) (h : D4 m) : m = d0 m + 4294967296 * d1 m + 18446744073709551616 * d2 m + 79228162514264337593543950336 * d3 m := by
  unfold D4 at h; unfold d0 d1 d2 d3; omega
theorem ref01_size (a : Int) (w : World) (ha : I64 a) :
    Calls Try.prog 34 #[.int .i64 a] w fun e w' => e = .returned (.int .u64 (if a < 0 then - a else a)) ∧ w = w' := by
  unfold I64 at ha
  by_cases h : a < 0
  · rw [if_pos h]
    go_enter Try.func34, Try.ntmps34
    go_wp2
    go_ret
    exact ⟨ret_int (by omega), rfl⟩
  · rw [if_neg h]
    go_enter Try.func34, Try.ntmps34
    go_wp2
    go_ret
    exact ⟨rfl, rfl⟩
theorem of_eq (s u : Int) (h0 : 0 ≤ u) (h1 : u ≤ 9223372036854775808) : (Value.agg #[.int .i64 s, .int .u64 (u % 4294967296), .int .u64 (u / 4294967296), .int .u64 0, .int .u64 0]) = nrep s u := by
  unfold nrep
  have e1 : d1 u = u / 4294967296 := by unfold d1; omega
  have e2 : d2 u = 0 := by unfold d2; omega
  have e3 : d3 u = 0 := by unfold d3; omega
  rw [e1, e2, e3]; rfl
def absv (a : Int) : Int := if a < 0 then - a else a
def sgn (a : Int) : Int := if a < 0 then -1 else 1
theorem ref01_of (a : Int) (w : World) (ha : I64 a) :
    Calls Try.prog 18 #[.int .i64 a] w fun e w' => e = .returned (nrep (sgn a) (absv a)) ∧ Below w.heap.size w w' := by
  have c := fun w => ref01_size a w ha
  unfold I64 at ha
  have hu0 : 0 ≤ absv a := by unfold absv; split <;> omega
  have hu1 : absv a ≤ 9223372036854775808 := by unfold absv; split <;> omega
  change (∀ w, Calls _ _ _ w fun e w' => e = .returned (.int .u64 (absv a)) ∧ w = w') at c
  generalize absv a = u at *
  have C := hid c
  clear c
  by_cases h : a < 0
  · have e : sgn a = -1 := by unfold sgn; rw [if_pos h]
    rw [e]
    clear e
    go_enter Try.func18, Try.ntmps18
    go_wp2_with (go_at_call 34; refine (C.out _).mono ?_; rintro e w' ⟨rfl, rfl⟩)
    go_returns
    exact ⟨congrArg _ (of_eq (-1) u hu0 hu1), by go_grown⟩
  · have e : sgn a = 1 := by unfold sgn; rw [if_neg h]
    rw [e]
    clear e
    go_enter Try.func18, Try.ntmps18
    go_wp2_with (go_at_call 34; refine (C.out _).mono ?_; rintro e w' ⟨rfl, rfl⟩)
    go_returns
    exact ⟨congrArg _ (of_eq 1 u hu0 hu1), by go_grown⟩
theorem less_core (m n m0 m1 m2 m3 n0 n1 n2 n3 : Int) (sm : m = m0 + 4294967296 * m1 + 18446744073709551616 * m2 + 79228162514264337593543950336 * m3)
    (sn : n = n0 + 4294967296 * n1 + 18446744073709551616 * n2 + 79228162514264337593543950336 * n3)
    (b0 : 0 ≤ m0 ∧ m0 ≤ 4294967295) (b1 : 0 ≤ m1 ∧ m1 ≤ 4294967295) (b2 : 0 ≤ m2 ∧ m2 ≤ 4294967295) (b3 : 0 ≤ m3 ∧ m3 ≤ 4294967295)
    (c0 : 0 ≤ n0 ∧ n0 ≤ 4294967295) (c1 : 0 ≤ n1 ∧ n1 ≤ 4294967295) (c2 : 0 ≤ n2 ∧ n2 ≤ 4294967295) (c3 : 0 ≤ n3 ∧ n3 ≤ 4294967295) :
    decide (m < n) = if m3 ≠ n3 then decide (m3 < n3) else if m2 ≠ n2 then decide (m2 < n2) else if m1 ≠ n1 then decide (m1 < n1) else decide (m0 < n0) := by
  split
  · rw [decide_eq_decide]; omega
  · split
    · rw [decide_eq_decide]; omega
    · split
      · rw [decide_eq_decide]; omega
      · rw [decide_eq_decide]; omega
theorem less_digs (m0 m1 m2 m3 n0 n1 n2 n3 : Int) (r : Bool) (w : World) (hr : r = if m3 ≠ n3 then decide (m3 < n3) else if m2 ≠ n2 then decide (m2 < n2) else if m1 ≠ n1 then decide (m1 < n1) else decide (m0 < n0)) :
    Calls Try.prog 37 #[.agg #[.int .u64 m0, .int .u64 m1, .int .u64 m2, .int .u64 m3], .agg #[.int .u64 n0, .int .u64 n1, .int .u64 n2, .int .u64 n3]] w fun e w' => e = .returned (.bool r) ∧ Below w.heap.size w w' := by
  by_cases h3 : m3 = n3
  · rw [if_neg (by omega)] at hr
    have e3 := bne_no h3
    clear h3
    by_cases h2 : m2 = n2
    · rw [if_neg (by omega)] at hr
      have e2 := bne_no h2
      clear h2
      by_cases h1 : m1 = n1
      · rw [if_neg (by omega)] at hr
        have e1 := bne_no h1
        clear h1
        by_cases h0 : m0 = n0
        · have e0 := bne_no h0
          have hf : r = false := by rw [hr]; simp; omega
          clear hr h0
          subst hf
          go_enter Try.func37, Try.ntmps37
          go_wp2
          refine wp_loop_rounds 5 ?_
          go_wp2_with (first | (with_reducible refine rounds_mk ?_) | ((with_reducible refine wp_region_quiet_lit (by kernel_rfl) (by kernel_rfl) ?_); (repeat (go_big_quiet_step (fail))); (refine wpQuiet_nil ?_; intro _ hw'; obtain ⟨nq, hw''⟩ := hw'; subst hw'')))
          go_returns
          exact ⟨rfl, by (repeat' (first | (with_reducible exact Below.refl _ _) | (with_reducible assumption) | (with_reducible refine below_drewN ?_ _) | (with_reducible refine below_grown ?_ ?_ _) | (with_reducible refine Below.alloc ?_ ?_ _) | (with_reducible refine Below.drew ?_) | (with_reducible refine Below.setCell ?_ ?_ _) | (first | (with_reducible exact Nat.le_refl _) | (with_reducible assumption) | omega | (simp only [World.size_alloc, World.size_setCell, World.size_drew, size_drewN', size_grow]; omega) | (simp; omega) | (simp; done)) | (with_reducible refine Below.trans ?_ (Below.mono (by with_reducible assumption) ?_))))⟩
        · have e0 := bne_yes h0
          subst hr
          clear h0
          go_enter Try.func37, Try.ntmps37
          go_wp2
          refine wp_loop_rounds 5 ?_
          go_wp2_with (first | (with_reducible refine rounds_mk ?_) | ((with_reducible refine wp_region_quiet_lit (by kernel_rfl) (by kernel_rfl) ?_); (repeat (go_big_quiet_step (fail))); (refine wpQuiet_nil ?_; intro _ hw'; obtain ⟨nq, hw''⟩ := hw'; subst hw'')))
          go_returns
          exact ⟨rfl, by (repeat' (first | (with_reducible exact Below.refl _ _) | (with_reducible assumption) | (with_reducible refine below_drewN ?_ _) | (with_reducible refine below_grown ?_ ?_ _) | (with_reducible refine Below.alloc ?_ ?_ _) | (with_reducible refine Below.drew ?_) | (with_reducible refine Below.setCell ?_ ?_ _) | (first | (with_reducible exact Nat.le_refl _) | (with_reducible assumption) | omega | (simp only [World.size_alloc, World.size_setCell, World.size_drew, size_drewN', size_grow]; omega) | (simp; omega) | (simp; done)) | (with_reducible refine Below.trans ?_ (Below.mono (by with_reducible assumption) ?_))))⟩
      · rw [if_pos h1] at hr
        have e1 := bne_yes h1
        subst hr
        clear h1
        go_enter Try.func37, Try.ntmps37
        go_wp2
        refine wp_loop_rounds 5 ?_
        go_wp2_with (first | (with_reducible refine rounds_mk ?_) | ((with_reducible refine wp_region_quiet_lit (by kernel_rfl) (by kernel_rfl) ?_); (repeat (go_big_quiet_step (fail))); (refine wpQuiet_nil ?_; intro _ hw'; obtain ⟨nq, hw''⟩ := hw'; subst hw'')))
        go_returns
        exact ⟨rfl, by (repeat' (first | (with_reducible exact Below.refl _ _) | (with_reducible assumption) | (with_reducible refine below_drewN ?_ _) | (with_reducible refine below_grown ?_ ?_ _) | (with_reducible refine Below.alloc ?_ ?_ _) | (with_reducible refine Below.drew ?_) | (with_reducible refine Below.setCell ?_ ?_ _) | (first | (with_reducible exact Nat.le_refl _) | (with_reducible assumption) | omega | (simp only [World.size_alloc, World.size_setCell, World.size_drew, size_drewN', size_grow]; omega) | (simp; omega) | (simp; done)) | (with_reducible refine Below.trans ?_ (Below.mono (by with_reducible assumption) ?_))))⟩
    · rw [if_pos h2] at hr
      have e2 := bne_yes h2
      subst hr
      clear h2
      go_enter Try.func37, Try.ntmps37
      go_wp2
      refine wp_loop_rounds 5 ?_
      go_wp2_with (first | (with_reducible refine rounds_mk ?_) | ((with_reducible refine wp_region_quiet_lit (by kernel_rfl) (by kernel_rfl) ?_); (repeat (go_big_quiet_step (fail))); (refine wpQuiet_nil ?_; intro _ hw'; obtain ⟨nq, hw''⟩ := hw'; subst hw'')))
      go_returns
      exact ⟨rfl, by (repeat' (first | (with_reducible exact Below.refl _ _) | (with_reducible assumption) | (with_reducible refine below_drewN ?_ _) | (with_reducible refine below_grown ?_ ?_ _) | (with_reducible refine Below.alloc ?_ ?_ _) | (with_reducible refine Below.drew ?_) | (with_reducible refine Below.setCell ?_ ?_ _) | (first | (with_reducible exact Nat.le_refl _) | (with_reducible assumption) | omega | (simp only [World.size_alloc, World.size_setCell, World.size_drew, size_drewN', size_grow]; omega) | (simp; omega) | (simp; done)) | (with_reducible refine Below.trans ?_ (Below.mono (by with_reducible assumption) ?_))))⟩
  · rw [if_pos h3] at hr
    have e3 := bne_yes h3
    subst hr
    clear h3
    go_enter Try.func37, Try.ntmps37
    go_wp2
    refine wp_loop_rounds 5 ?_
    go_wp2_with (first | (with_reducible refine rounds_mk ?_) | ((with_reducible refine wp_region_quiet_lit (by kernel_rfl) (by kernel_rfl) ?_); (repeat (go_big_quiet_step (fail))); (refine wpQuiet_nil ?_; intro _ hw'; obtain ⟨nq, hw''⟩ := hw'; subst hw'')))
    go_returns
    exact ⟨rfl, by (repeat' (first | (with_reducible exact Below.refl _ _) | (with_reducible assumption) | (with_reducible refine below_drewN ?_ _) | (with_reducible refine below_grown ?_ ?_ _) | (with_reducible refine Below.alloc ?_ ?_ _) | (with_reducible refine Below.drew ?_) | (with_reducible refine Below.setCell ?_ ?_ _) | (first | (with_reducible exact Nat.le_refl _) | (with_reducible assumption) | omega | (simp only [World.size_alloc, World.size_setCell, World.size_drew, size_drewN', size_grow]; omega) | (simp; omega) | (simp; done)) | (with_reducible refine Below.trans ?_ (Below.mono (by with_reducible assumption) ?_))))⟩
theorem ref01_less (m n : Int) (w : World) (hm : D4 m) (hn : D4 n) :
    Calls Try.prog 37 #[.agg (digs m), .agg (digs n)] w fun e w' => e = .returned (.bool (decide (m < n))) ∧ Below w.heap.size w w' := 
  less_digs _ _ _ _ _ _ _ _ _ w (less_core m n _ _ _ _ _ _ _ _ (dsum m hm) (dsum n hn) (d0_bd m) (d1_bd m) (d2_bd m) (d3_bd m) (d0_bd n) (d1_bd n) (d2_bd n) (d3_bd n))
def plus0 (m0 n0 : Int) : Int := m0 + n0
theorem digs_eq {a b c d : Int} {m : Int} (h0 : a = d0 m) (h1 : b = d1 m) (h2 : c = d2 m) (h3 : d = d3 m) : Value.agg #[.int .u64 a, .int .u64 b, .int .u64 c, .int .u64 d] = .agg (digs m) := by
  subst h0 h1 h2 h3; rfl
theorem plus_core (m n m0 m1 m2 m3 n0 n1 n2 n3 : Int) (sm : m = m0 + 4294967296 * m1 + 18446744073709551616 * m2 + 79228162514264337593543950336 * m3)
    (sn : n = n0 + 4294967296 * n1 + 18446744073709551616 * n2 + 79228162514264337593543950336 * n3)
    (b0 : 0 ≤ m0 ∧ m0 ≤ 4294967295) (b1 : 0 ≤ m1 ∧ m1 ≤ 4294967295) (b2 : 0 ≤ m2 ∧ m2 ≤ 4294967295) (b3 : 0 ≤ m3 ∧ m3 ≤ 4294967295)
    (c0 : 0 ≤ n0 ∧ n0 ≤ 4294967295) (c1 : 0 ≤ n1 ∧ n1 ≤ 4294967295) (c2 : 0 ≤ n2 ∧ n2 ≤ 4294967295) (c3 : 0 ≤ n3 ∧ n3 ≤ 4294967295) :
    (m0 + n0) % 4294967296 = d0 (m + n) ∧ (m1 + n1 + (m0 + n0) / 4294967296) % 4294967296 = d1 (m + n) ∧ (m2 + n2 + (m1 + n1 + (m0 + n0) / 4294967296) / 4294967296) % 4294967296 = d2 (m + n) ∧
    (m3 + n3 + (m2 + n2 + (m1 + n1 + (m0 + n0) / 4294967296) / 4294967296) / 4294967296) % 4294967296 = d3 (m + n) := by
  unfold d0 d1 d2 d3
  subst sm sn
  refine ⟨?_, ?_, ?_, ?_⟩ <;> omega
theorem plus_digs (s m0 m1 m2 m3 n0 n1 n2 n3 : Int) (w : World)
    (b0 : 0 ≤ m0 ∧ m0 ≤ 4294967295) (b1 : 0 ≤ m1 ∧ m1 ≤ 4294967295) (b2 : 0 ≤ m2 ∧ m2 ≤ 4294967295) (b3 : 0 ≤ m3 ∧ m3 ≤ 4294967295)
    (c0 : 0 ≤ n0 ∧ n0 ≤ 4294967295) (c1 : 0 ≤ n1 ∧ n1 ≤ 4294967295) (c2 : 0 ≤ n2 ∧ n2 ≤ 4294967295) (c3 : 0 ≤ n3 ∧ n3 ≤ 4294967295)
    (h0 : (m0 + n0) % 4294967296 = d0 s) (h1 : (m1 + n1 + (m0 + n0) / 4294967296) % 4294967296 = d1 s) (h2 : (m2 + n2 + (m1 + n1 + (m0 + n0) / 4294967296) / 4294967296) % 4294967296 = d2 s)
    (h3 : (m3 + n3 + (m2 + n2 + (m1 + n1 + (m0 + n0) / 4294967296) / 4294967296) / 4294967296) % 4294967296 = d3 s) :
    Calls Try.prog 36 #[.agg #[.int .u64 m0, .int .u64 m1, .int .u64 m2, .int .u64 m3], .agg #[.int .u64 n0, .int .u64 n1, .int .u64 n2, .int .u64 n3]] w fun e w' => e = .returned (.agg (digs s)) ∧ Below w.heap.size w w' := by
  have H0 := hid h0
  have H1 := hid h1
  have H2 := hid h2
  have H3 := hid h3
  clear h0 h1 h2 h3
  go_enter Try.func36, Try.ntmps36
  go_wp2
  refine wp_loop_rounds 5 ?_
  go_wp2_with (first | (with_reducible refine rounds_mk ?_) | ((with_reducible refine wp_region_quiet_lit (by kernel_rfl) (by kernel_rfl) ?_); (repeat (go_big_quiet_step (fail))); (refine wpQuiet_nil ?_; intro _ hw'; obtain ⟨nq, hw''⟩ := hw'; subst hw'')))
  go_returns
  exact ⟨congrArg _ (digs_eq H0.out H1.out H2.out H3.out), by (repeat' (first | (with_reducible exact Below.refl _ _) | (with_reducible assumption) | (with_reducible refine below_drewN ?_ _) | (with_reducible refine below_grown ?_ ?_ _) | (with_reducible refine Below.alloc ?_ ?_ _) | (with_reducible refine Below.drew ?_) | (with_reducible refine Below.setCell ?_ ?_ _) | (first | (with_reducible exact Nat.le_refl _) | (with_reducible assumption) | omega | (simp only [World.size_alloc, World.size_setCell, World.size_drew, size_drewN', size_grow]; omega) | (simp; omega) | (simp; done)) | (with_reducible refine Below.trans ?_ (Below.mono (by with_reducible assumption) ?_))))⟩
theorem ref01_plus (m n : Int) (w : World) (hm : D4 m) (hn : D4 n) :
    Calls Try.prog 36 #[.agg (digs m), .agg (digs n)] w fun e w' => e = .returned (.agg (digs (m + n))) ∧ Below w.heap.size w w' := by
  obtain ⟨h0, h1, h2, h3⟩ := plus_core m n _ _ _ _ _ _ _ _ (dsum m hm) (dsum n hn) (d0_bd m) (d1_bd m) (d2_bd m) (d3_bd m) (d0_bd n) (d1_bd n) (d2_bd n) (d3_bd n)
  exact plus_digs (m + n) _ _ _ _ _ _ _ _ w (d0_bd m) (d1_bd m) (d2_bd m) (d3_bd m) (d0_bd n) (d1_bd n) (d2_bd n) (d3_bd n) h0 h1 h2 h3
def mt0 (m0 n0 : Int) : Int := m0 + 4294967296 - n0
def mt (p m0 n0 : Int) : Int := m0 + 4294967296 - n0 - (1 - p / 4294967296)
theorem minus_core (m n m0 m1 m2 m3 n0 n1 n2 n3 : Int) (sm : m = m0 + 4294967296 * m1 + 18446744073709551616 * m2 + 79228162514264337593543950336 * m3)
    (sn : n = n0 + 4294967296 * n1 + 18446744073709551616 * n2 + 79228162514264337593543950336 * n3) (hle : n ≤ m)
    (b0 : 0 ≤ m0 ∧ m0 ≤ 4294967295) (b1 : 0 ≤ m1 ∧ m1 ≤ 4294967295) (b2 : 0 ≤ m2 ∧ m2 ≤ 4294967295) (b3 : 0 ≤ m3 ∧ m3 ≤ 4294967295)
    (c0 : 0 ≤ n0 ∧ n0 ≤ 4294967295) (c1 : 0 ≤ n1 ∧ n1 ≤ 4294967295) (c2 : 0 ≤ n2 ∧ n2 ≤ 4294967295) (c3 : 0 ≤ n3 ∧ n3 ≤ 4294967295) :
    mt0 m0 n0 % 4294967296 = d0 (m - n) ∧ mt (mt0 m0 n0) m1 n1 % 4294967296 = d1 (m - n) ∧ mt (mt (mt0 m0 n0) m1 n1) m2 n2 % 4294967296 = d2 (m - n) ∧
    mt (mt (mt (mt0 m0 n0) m1 n1) m2 n2) m3 n3 % 4294967296 = d3 (m - n) := by
  unfold d0 d1 d2 d3
  have t0 : mt0 m0 n0 = m0 + 4294967296 - n0 := rfl
  generalize mt0 m0 n0 = p0 at *
  have t1 : mt p0 m1 n1 = m1 + 4294967296 - n1 - (1 - p0 / 4294967296) := rfl
  generalize mt p0 m1 n1 = p1 at *
  have t2 : mt p1 m2 n2 = m2 + 4294967296 - n2 - (1 - p1 / 4294967296) := rfl
  generalize mt p1 m2 n2 = p2 at *
  have t3 : mt p2 m3 n3 = m3 + 4294967296 - n3 - (1 - p2 / 4294967296) := rfl
  generalize mt p2 m3 n3 = p3 at *
  have e : m - n = p0 % 4294967296 + 4294967296 * (p1 % 4294967296) + 18446744073709551616 * (p2 % 4294967296) + 79228162514264337593543950336 * (p3 % 4294967296) := by omega
  have r0 : 0 ≤ p0 % 4294967296 ∧ p0 % 4294967296 ≤ 4294967295 := by omega
  have r1 : 0 ≤ p1 % 4294967296 ∧ p1 % 4294967296 ≤ 4294967295 := by omega
  have r2 : 0 ≤ p2 % 4294967296 ∧ p2 % 4294967296 ≤ 4294967295 := by omega
  have r3 : 0 ≤ p3 % 4294967296 ∧ p3 % 4294967296 ≤ 4294967295 := by omega
  rw [e]
  generalize p0 % 4294967296 = q0 at *
  generalize p1 % 4294967296 = q1 at *
  generalize p2 % 4294967296 = q2 at *
  generalize p3 % 4294967296 = q3 at *
  clear e t0 t1 t2 t3 sm sn hle b0 b1 b2 b3 c0 c1 c2 c3
  refine ⟨?_, ?_, ?_, ?_⟩ <;> omega
theorem minus_digs (s m0 m1 m2 m3 n0 n1 n2 n3 : Int) (w : World)
    (b0 : 0 ≤ m0 ∧ m0 ≤ 4294967295) (b1 : 0 ≤ m1 ∧ m1 ≤ 4294967295) (b2 : 0 ≤ m2 ∧ m2 ≤ 4294967295) (b3 : 0 ≤ m3 ∧ m3 ≤ 4294967295)
    (c0 : 0 ≤ n0 ∧ n0 ≤ 4294967295) (c1 : 0 ≤ n1 ∧ n1 ≤ 4294967295) (c2 : 0 ≤ n2 ∧ n2 ≤ 4294967295) (c3 : 0 ≤ n3 ∧ n3 ≤ 4294967295)
    (h0 : mt0 m0 n0 % 4294967296 = d0 s) (h1 : mt (mt0 m0 n0) m1 n1 % 4294967296 = d1 s) (h2 : mt (mt (mt0 m0 n0) m1 n1) m2 n2 % 4294967296 = d2 s)
    (h3 : mt (mt (mt (mt0 m0 n0) m1 n1) m2 n2) m3 n3 % 4294967296 = d3 s) :
    Calls Try.prog 38 #[.agg #[.int .u64 m0, .int .u64 m1, .int .u64 m2, .int .u64 m3], .agg #[.int .u64 n0, .int .u64 n1, .int .u64 n2, .int .u64 n3]] w fun e w' => e = .returned (.agg (digs s)) ∧ Below w.heap.size w w' := by
  have H0 := hid h0
  have H1 := hid h1
  have H2 := hid h2
  have H3 := hid h3
  clear h0 h1 h2 h3
  go_enter Try.func38, Try.ntmps38
  go_wp2
  refine wp_loop_rounds 5 ?_
  go_wp2_with (first | (with_reducible refine rounds_mk ?_) | ((with_reducible refine wp_region_quiet_lit (by kernel_rfl) (by kernel_rfl) ?_); (repeat (go_big_quiet_step (fail))); (refine wpQuiet_nil ?_; intro _ hw'; obtain ⟨nq, hw''⟩ := hw'; subst hw'')))
  go_returns
  exact ⟨congrArg _ (digs_eq H0.out H1.out H2.out H3.out), by (repeat' (first | (with_reducible exact Below.refl _ _) | (with_reducible assumption) | (with_reducible refine below_drewN ?_ _) | (with_reducible refine below_grown ?_ ?_ _) | (with_reducible refine Below.alloc ?_ ?_ _) | (with_reducible refine Below.drew ?_) | (with_reducible refine Below.setCell ?_ ?_ _) | (first | (with_reducible exact Nat.le_refl _) | (with_reducible assumption) | omega | (simp only [World.size_alloc, World.size_setCell, World.size_drew, size_drewN', size_grow]; omega) | (simp; omega) | (simp; done)) | (with_reducible refine Below.trans ?_ (Below.mono (by with_reducible assumption) ?_))))⟩
theorem ref01_minus (m n : Int) (w : World) (hm : D4 m) (hn : D4 n) (hle : n ≤ m) :
    Calls Try.prog 38 #[.agg (digs m), .agg (digs n)] w fun e w' => e = .returned (.agg (digs (m - n))) ∧ Below w.heap.size w w' := by
  obtain ⟨h0, h1, h2, h3⟩ := minus_core m n _ _ _ _ _ _ _ _ (dsum m hm) (dsum n hn) hle (d0_bd m) (d1_bd m) (d2_bd m) (d3_bd m) (d0_bd n) (d1_bd n) (d2_bd n) (d3_bd n)
  exact minus_digs (m - n) _ _ _ _ _ _ _ _ w (d0_bd m) (d1_bd m) (d2_bd m) (d3_bd m) (d0_bd n) (d1_bd n) (d2_bd n) (d3_bd n) h0 h1 h2 h3
theorem ref01_minor (s m : Int) (w : World) (hs : s = 1 ∨ s = -1) :
    Calls Try.prog 19 #[nrep s m] w fun e w' => e = .returned (nrep (-s) m) ∧ Below w.heap.size w w' := by
  unfold nrep
  have hs : -1 ≤ s ∧ s ≤ 1 := by omega
  go_enter Try.func19, Try.ntmps19
  go_wp2_with (first | (with_reducible refine rounds_mk ?_) | ((with_reducible refine wp_region_quiet_lit (by kernel_rfl) (by kernel_rfl) ?_); (repeat (go_big_quiet_step (fail))); (refine wpQuiet_nil ?_; intro _ hw'; obtain ⟨nq, hw''⟩ := hw'; subst hw'')))
  go_returns
  exact ⟨rfl, by (repeat' (first | (with_reducible exact Below.refl _ _) | (with_reducible assumption) | (with_reducible refine below_drewN ?_ _) | (with_reducible refine below_grown ?_ ?_ _) | (with_reducible refine Below.alloc ?_ ?_ _) | (with_reducible refine Below.drew ?_) | (with_reducible refine Below.setCell ?_ ?_ _) | (first | (with_reducible exact Nat.le_refl _) | (with_reducible assumption) | omega | (simp only [World.size_alloc, World.size_setCell, World.size_drew, size_drewN', size_grow]; omega) | (simp; omega) | (simp; done)) | (with_reducible refine Below.trans ?_ (Below.mono (by with_reducible assumption) ?_))))⟩
def sumS (s m t n : Int) : Int := if s = t then s else if m < n then t else s
def sumM (s m t n : Int) : Int := if s = t then m + n else if m < n then n - m else m - n
theorem sum_pm (s m t n : Int) (hs : s = 1 ∨ s = -1) (ht : t = 1 ∨ t = -1) : sumS s m t n = 1 ∨ sumS s m t n = -1 := by
  unfold sumS; split <;> (try split) <;> assumption
theorem sum_val (s m t n : Int) (hs : s = 1 ∨ s = -1) (ht : t = 1 ∨ t = -1) : sumS s m t n * sumM s m t n = s * m + t * n := by
  unfold sumS sumM
  rcases hs with rfl | rfl <;> rcases ht with rfl | rfl <;> (repeat' split) <;> omega
theorem sum_d4 (s m t n : Int) (hm : 0 ≤ m ∧ m < 100000000000000000000000000000000000000) (hn : 0 ≤ n ∧ n < 100000000000000000000000000000000000000) : D4 (sumM s m t n) := by
  unfold sumM D4; (repeat' split) <;> omega
theorem ref01_sum (s m t n : Int) (w : World) (hs : s = 1 ∨ s = -1) (ht : t = 1 ∨ t = -1) (hm : D4 m) (hn : D4 n) :
    Calls Try.prog 17 #[nrep s m, nrep t n] w fun e w' => e = .returned (nrep (sumS s m t n) (sumM s m t n)) ∧ Below w.heap.size w w' := by
  have c1 := fun w => ref01_plus m n w hm hn
  have c2 := fun w => ref01_less m n w hm hn
  have c3 := fun (h : m < n) w => ref01_minus n m w hn hm (by omega)
  have c4 := fun (h : ¬ m < n) w => ref01_minus m n w hm hn (by omega)
  unfold digs at c1 c2 c3 c4
  have C1 := hid c1
  have C2 := hid c2
  unfold sumS sumM nrep
  by_cases h : s = t
  · have e := beq_yes h
    rw [if_pos h, if_pos h]
    clear c1 c2 c3 c4 hs ht hm hn
    subst h
    go_enter Try.func17, Try.ntmps17
    go_wp2_with (fail)
    ((with_reducible refine wp_region_grow_tail 8 [w.heap.size, w.heap.size + 1, w.heap.size + 1 + 1] (by kernel_rfl) (by kernel_rfl) ?lt ?_); (case lt => (first | (exact trivial) | (simp only [AllLt, World.size_alloc, World.size_setCell, World.size_drew, size_drewN', size_grow, and_true, true_and]; omega))); intro hkept; simp only [AllKept, and_true] at hkept; (simp only [List.take_succ_cons, List.take_zero, List.drop_succ_cons, List.drop_zero]); (repeat (go_big_quiet_step ((go_at_call 36; exact Calls.grown_below (C1.out _))))); (refine wpQuiet_nil ?_; intro _ hw'; obtain ⟨xg, hw''⟩ := hw'; subst hw''))
    go_wp2_with (fail)
    (refine bodyPost_ret (by simp [results, go_sem, Try.results17, hkept]; try rfl) rfl ?_)
    exact ⟨rfl, by (repeat' (first | (with_reducible exact Below.refl _ _) | (with_reducible assumption) | (with_reducible refine below_drewN ?_ _) | (with_reducible refine below_grown ?_ ?_ _) | (with_reducible refine Below.alloc ?_ ?_ _) | (with_reducible refine Below.drew ?_) | (with_reducible refine Below.setCell ?_ ?_ _) | (first | (with_reducible exact Nat.le_refl _) | (with_reducible assumption) | omega | (simp only [World.size_alloc, World.size_setCell, World.size_drew, size_drewN', size_grow]; omega) | (simp; omega) | (simp; done)) | (with_reducible refine Below.trans ?_ (Below.mono (by with_reducible assumption) ?_))))⟩
  · have e := beq_no h
    rw [if_neg h, if_neg h]
    by_cases h2 : m < n
    · have C3 := hid (c3 h2)
      have e2 : decide (m < n) = true := by simpa using h2
      rw [if_pos h2, if_pos h2]
      rw [e2] at C2
      clear c1 c2 c3 c4 hs ht hm hn h h2 e2
      go_enter Try.func17, Try.ntmps17
      go_wp2_with (go_at_call 37; (refine (Calls.to_kept [w.heap.size, w.heap.size + 1, w.heap.size + 1 + 1] (C2.out _) ?lt).mono ?_; (case lt => (first | (exact trivial) | (simp only [AllLt, World.size_alloc, World.size_setCell, World.size_drew, size_drewN', size_grow, and_true, true_and]; omega))); rintro e w' ⟨rfl, x1, rfl, hk1⟩; simp only [AllKept, and_true] at hk1))
      ((with_reducible refine wp_region_grow_tail 8 [w.heap.size, w.heap.size + 1, w.heap.size + 1 + 1] (by kernel_rfl) (by kernel_rfl) ?lt ?_); (case lt => (first | (exact trivial) | (simp only [AllLt, World.size_alloc, World.size_setCell, World.size_drew, size_drewN', size_grow, and_true, true_and]; omega))); intro hkept; simp only [AllKept, and_true] at hkept; (simp only [List.take_succ_cons, List.take_zero, List.drop_succ_cons, List.drop_zero]); (repeat (go_big_quiet_step ((go_at_call 38; exact Calls.grown_below (C3.out _))))); (refine wpQuiet_nil ?_; intro _ hw'; obtain ⟨xg, hw''⟩ := hw'; subst hw''))
      go_wp2_with (fail)
      (refine bodyPost_ret (by simp [results, go_sem, Try.results17, hkept, hk1]; try rfl) rfl ?_)
      exact ⟨rfl, by (repeat' (first | (with_reducible exact Below.refl _ _) | (with_reducible assumption) | (with_reducible refine below_drewN ?_ _) | (with_reducible refine below_grown ?_ ?_ _) | (with_reducible refine Below.alloc ?_ ?_ _) | (with_reducible refine Below.drew ?_) | (with_reducible refine Below.setCell ?_ ?_ _) | (first | (with_reducible exact Nat.le_refl _) | (with_reducible assumption) | omega | (simp only [World.size_alloc, World.size_setCell, World.size_drew, size_drewN', size_grow]; omega) | (simp; omega) | (simp; done)) | (with_reducible refine Below.trans ?_ (Below.mono (by with_reducible assumption) ?_))))⟩
    · have C4 := hid (c4 h2)
      have e2 : decide (m < n) = false := by simpa using h2
      rw [if_neg h2, if_neg h2]
      rw [e2] at C2
      clear c1 c2 c3 c4 hs ht hm hn h h2 e2
      go_enter Try.func17, Try.ntmps17
      go_wp2_with (go_at_call 37; (refine (Calls.to_kept [w.heap.size, w.heap.size + 1, w.heap.size + 1 + 1] (C2.out _) ?lt).mono ?_; (case lt => (first | (exact trivial) | (simp only [AllLt, World.size_alloc, World.size_setCell, World.size_drew, size_drewN', size_grow, and_true, true_and]; omega))); rintro e w' ⟨rfl, x1, rfl, hk1⟩; simp only [AllKept, and_true] at hk1))
      ((with_reducible refine wp_region_grow_tail 8 [w.heap.size, w.heap.size + 1, w.heap.size + 1 + 1] (by kernel_rfl) (by kernel_rfl) ?lt ?_); (case lt => (first | (exact trivial) | (simp only [AllLt, World.size_alloc, World.size_setCell, World.size_drew, size_drewN', size_grow, and_true, true_and]; omega))); intro hkept; simp only [AllKept, and_true] at hkept; (simp only [List.take_succ_cons, List.take_zero, List.drop_succ_cons, List.drop_zero]); (repeat (go_big_quiet_step ((go_at_call 38; exact Calls.grown_below (C4.out _))))); (refine wpQuiet_nil ?_; intro _ hw'; obtain ⟨xg, hw''⟩ := hw'; subst hw''))
      go_wp2_with (fail)
      (refine bodyPost_ret (by simp [results, go_sem, Try.results17, hkept, hk1]; try rfl) rfl ?_)
      exact ⟨rfl, by (repeat' (first | (with_reducible exact Below.refl _ _) | (with_reducible assumption) | (with_reducible refine below_drewN ?_ _) | (with_reducible refine below_grown ?_ ?_ _) | (with_reducible refine Below.alloc ?_ ?_ _) | (with_reducible refine Below.drew ?_) | (with_reducible refine Below.setCell ?_ ?_ _) | (first | (with_reducible exact Nat.le_refl _) | (with_reducible assumption) | omega | (simp only [World.size_alloc, World.size_setCell, World.size_drew, size_drewN', size_grow]; omega) | (simp; omega) | (simp; done)) | (with_reducible refine Below.trans ?_ (Below.mono (by with_reducible assumption) ?_))))⟩
end Go.Proofs.Ytcbncliplbecdaa
