/- The statement 'NumMids': the walk. -/
import Derived.Test.YtcbncliplbecdaaLawNum
import Derived.Test.YtcbncliplbecdaaWalkr
set_option linter.unusedVariables false
set_option linter.unusedSimpArgs false
namespace Go.Proofs.Ytcbncliplbecdaa
open Go.RowKit
set_option maxHeartbeats 2000000 in
theorem walk_NumMids (a0 : Int) (a1 : Int) (a2 : Int) (w : World) (w0 : (Lit.int .i64 a0).wf = true) (w1 : (Lit.int .i64 a1).wf = true) (w2 : (Lit.int .i64 a2).wf = true) :
    Calls Try.prog 5 #[.int .i64 a0, .int .i64 a1, .int .i64 a2] w fun e w' => e = .returned (.bool true) ∧ Below w.heap.size w w' := by
  have h0 : I64 a0 := bd_i64 w0
  have h1 : I64 a1 := bd_i64 w1
  have h2 : I64 a2 := bd_i64 w2
  clear w0 w1 w2
  have A := hid (fun w => anchor01 w)
  have hm : I64 ((a0 + a1) / 2) := by unfold I64 at *; omega
  have c1 := fun w => num_mid a0 a1 w h0 h1
  have cm := fun w => ref01_of ((a0 + a1) / 2) w hm
  have ca := fun w => ref01_of a0 w h0
  have cb := fun w => ref01_of a1 w h1
  have ctw := fun w => ref01_sum _ _ _ _ w (sgn_pm ((a0 + a1) / 2)) (sgn_pm ((a0 + a1) / 2)) (absv_d4 _ hm) (absv_d4 _ hm)
  have csm := fun w => ref01_sum _ _ _ _ w (sgn_pm a0) (sgn_pm a1) (absv_d4 _ h0) (absv_d4 _ h1)
  have p1 := sum_pm _ (absv ((a0 + a1) / 2)) _ (absv ((a0 + a1) / 2)) (sgn_pm ((a0 + a1) / 2)) (sgn_pm ((a0 + a1) / 2))
  have v1 := sum_val _ (absv ((a0 + a1) / 2)) _ (absv ((a0 + a1) / 2)) (sgn_pm ((a0 + a1) / 2)) (sgn_pm ((a0 + a1) / 2))
  have p2 := sum_pm _ (absv a0) _ (absv a1) (sgn_pm a0) (sgn_pm a1)
  have v2 := sum_val _ (absv a0) _ (absv a1) (sgn_pm a0) (sgn_pm a1)
  have bm := absv_bd _ hm
  have ba := absv_bd _ h0
  have bb := absv_bd _ h1
  rw [sgn_abs] at v1
  rw [sgn_abs, sgn_abs] at v2
  have m1 : 0 ≤ sumM (sgn ((a0 + a1) / 2)) (absv ((a0 + a1) / 2)) (sgn ((a0 + a1) / 2)) (absv ((a0 + a1) / 2)) ∧ sumM (sgn ((a0 + a1) / 2)) (absv ((a0 + a1) / 2)) (sgn ((a0 + a1) / 2)) (absv ((a0 + a1) / 2)) ≤ 18446744073709551616 := by unfold sumM; repeat' split <;> omega
  have m2 : 0 ≤ sumM (sgn a0) (absv a0) (sgn a1) (absv a1) ∧ sumM (sgn a0) (absv a0) (sgn a1) (absv a1) ≤ 18446744073709551616 := by unfold sumM; repeat' split <;> omega
  generalize sumM (sgn ((a0 + a1) / 2)) (absv ((a0 + a1) / 2)) (sgn ((a0 + a1) / 2)) (absv ((a0 + a1) / 2)) = tm at *
  generalize sumS (sgn ((a0 + a1) / 2)) (absv ((a0 + a1) / 2)) (sgn ((a0 + a1) / 2)) (absv ((a0 + a1) / 2)) = ts at *
  generalize sumM (sgn a0) (absv a0) (sgn a1) (absv a1) = um at *
  generalize sumS (sgn a0) (absv a0) (sgn a1) (absv a1) = us at *
  have cmi := fun w => ref01_minor ts tm w p1
  have p1' : -ts = 1 ∨ -ts = -1 := by omega
  have csr := fun w => ref01_sum us um (-ts) tm w p2 p1' (by unfold D4; omega) (by unfold D4; omega)
  have p3 := sum_pm us um (-ts) tm p2 p1'
  have v3 := sum_val us um (-ts) tm p2 p1'
  have d3' : D4 (sumM us um (-ts) tm) := sum_d4 us um (-ts) tm (by omega) (by omega)
  have hv : sumS us um (-ts) tm * sumM us um (-ts) tm = a0 + a1 - ((a0 + a1) / 2 + (a0 + a1) / 2) := by rw [v3, v2, Int.neg_mul, v1]; omega
  have hr : I64 (a0 + a1 - ((a0 + a1) / 2 + (a0 + a1) / 2)) := by unfold I64 at *; omega
  have hr01 : a0 + a1 - ((a0 + a1) / 2 + (a0 + a1) / 2) = 0 ∨ a0 + a1 - ((a0 + a1) / 2 + (a0 + a1) / 2) = 1 := by omega
  have cbk := fun w => ref01_back _ _ _ w p3 d3' hv
  rw [inB_true hr, show sat (a0 + a1 - ((a0 + a1) / 2 + (a0 + a1) / 2)) = a0 + a1 - ((a0 + a1) / 2 + (a0 + a1) / 2) by unfold sat; unfold I64 at hr; rw [if_neg (by omega), if_neg (by omega)]] at cbk
  generalize sumM us um (-ts) tm = rm at *
  generalize sumS us um (-ts) tm = rs at *
  have lo : min a0 a1 ≤ (a0 + a1) / 2 := by omega
  have hi : (a0 + a1) / 2 ≤ max a0 a1 := by omega
  generalize hR : a0 + a1 - ((a0 + a1) / 2 + (a0 + a1) / 2) = R at *
  unfold nrep at *
  have C1 := hid c1
  have CM := hid cm
  have CA := hid ca
  have CB := hid cb
  have CT := hid ctw
  have CS := hid csm
  have CI := hid cmi
  have CR := hid csr
  have CK := hid cbk
  have FH := hid (And.intro h0 (And.intro h1 (And.intro h2 (And.intro lo (And.intro hi hr01)))))
  clear c1 cm ca cb ctw csm cmi csr cbk h0 h1 h2 hm p1 v1 p2 v2 bm ba bb m1 m2 p1' p3 v3 d3' hv hr hr01 lo hi hR
  go_enter Try.func5, Try.ntmps5
  (have hasc := Nat.add_assoc; have hpos := nat_pos_or; have hlit := nat_lt_lit)
  go_wp2_with (first | (go_at_call 15; ((with_reducible refine (Calls.to_grow (A.out _)).mono ?_); rintro e w' ⟨rfl, g1, rfl⟩)) | (go_at_call 16; (with_reducible refine (C1.out _).mono ?_); rintro e w' ⟨rfl, rfl⟩))
  ((with_reducible refine (Calls.to_grow (CM.out _)).mono ?_); rintro e w' ⟨rfl, g2, rfl⟩)
  go_wp2_with (fail)
  ((with_reducible refine (Calls.to_grow (CM.out _)).mono ?_); rintro e w' ⟨rfl, g3, rfl⟩)
  go_wp2_with (go_at_call 17; ((with_reducible refine (Calls.to_grow (CT.out _)).mono ?_); rintro e w' ⟨rfl, g4, rfl⟩))
  ((with_reducible refine' wp_region_walk1 8 #[.int .i64 0, .int .u64 0, .int .u64 0, .int .u64 0, .int .u64 0] 31 [w.heap.size + (g1.objs.size + (g2.objs.size + (g3.objs.size + g4.objs.size)))] 9 _ (by kernel_rfl) (by kernel_rfl) (by kernel_rfl) ?lt rfl ?H ?hal ?hend); (case lt => (first | (exact trivial) | (simp only [AllLt, World.size_alloc, World.size_setCell, World.size_drew, size_drewN', size_grow, and_true, true_and]; omega))); (case H => (intro hkept y hkepty; simp only [AllKept, and_true] at hkept hkepty; (simp only [List.take_succ_cons, List.take_zero]); (repeat (go_big_quiet_step ((first | (go_at_call 18; (with_reducible exact Calls.grown_below (CA.out _))) | (go_at_call 18; (with_reducible exact Calls.grown_below (CB.out _))) | (go_at_call 17; (with_reducible exact Calls.grown_below (CS.out _))) | (go_at_call 17; (with_reducible exact Calls.grown_below (CR.out _))) | (go_at_call 19; (with_reducible exact Calls.grown_below (CI.out _))))))); (refine wpQuiet_nil ?_; exact rfl))); (case hal => (intro o ho a w K hK; simp only [List.getElem?_cons_succ, List.getElem?_cons_zero, Option.some.injEq] at ho; subst ho; go_simp; exact hK)); (intro hkept bn y hbn1 hbn2 hbnc hbnf; simp only [AllKept, and_true] at hkept; simp only [World.size_alloc, World.size_setCell, World.size_drew, size_drewN', size_grow] at hbn1 hbn2; simp only [List.drop_succ_cons, List.drop_zero, Act.put, Array.setIfInBounds, List.setIfInBounds_toArray, List.set_cons_zero, List.set_cons_succ]))
  go_wp2_with (fail)
  ((with_reducible refine (Calls.to_grow (CK.out _)).mono ?_); rintro e w' ⟨rfl, g5, rfl⟩)
  obtain ⟨h0, h1, h2, lo, hi, hr⟩ := FH.out
  unfold I64 at h0 h1 h2
  generalize (a0 + a1) / 2 = M at *
  have hrs : (R == 0) = true ∨ (R == 0) = false ∧ (R == 1) = true := by rcases hr with rfl | rfl <;> decide
  rcases (show a0 < a1 ∨ a1 < a0 ∨ a0 = a1 by omega) with hab | hab | hab
  · have lo' : a0 ≤ M := by omega
    have hi' : M ≤ a1 := by omega
    clear lo hi hr
    have e5 : clampv a2 a1 a0 = a1 := by unfold clampv; omega
    rcases (show a2 < a0 ∨ (a0 ≤ a2 ∧ a2 ≤ a1) ∨ (a0 ≤ a2 ∧ a1 < a2) by omega) with k1 | ⟨k1, k2⟩ | ⟨k1, k2⟩
    · have e4 : clampv a2 a0 a1 = a0 := by unfold clampv; omega
      rcases hrs with hrs | ⟨hrs, hrs'⟩ <;> (go_wp2_with (go_at_call 21; (with_reducible refine (num_clamp _ _ _ _).mono ?_); rintro e w' ⟨rfl, rfl⟩); go_returns; exact ⟨rfl, by (repeat' (first | (with_reducible exact Below.refl _ _) | (with_reducible assumption) | (with_reducible refine below_drewN ?_ _) | (with_reducible refine below_grown ?_ ?_ _) | (with_reducible refine Below.alloc ?_ ?_ _) | (with_reducible refine Below.drew ?_) | (with_reducible refine Below.setCell ?_ ?_ _) | (first | (with_reducible exact Nat.le_refl _) | (with_reducible assumption) | omega | (simp only [World.size_alloc, World.size_setCell, World.size_drew, size_drewN', size_grow]; omega) | (simp; omega) | (simp; done)) | (with_reducible refine Below.trans ?_ (Below.mono (by with_reducible assumption) ?_))))⟩)
    · have e4 : clampv a2 a0 a1 = a2 := by unfold clampv; omega
      rcases hrs with hrs | ⟨hrs, hrs'⟩ <;> (go_wp2_with (go_at_call 21; (with_reducible refine (num_clamp _ _ _ _).mono ?_); rintro e w' ⟨rfl, rfl⟩); go_returns; exact ⟨rfl, by (repeat' (first | (with_reducible exact Below.refl _ _) | (with_reducible assumption) | (with_reducible refine below_drewN ?_ _) | (with_reducible refine below_grown ?_ ?_ _) | (with_reducible refine Below.alloc ?_ ?_ _) | (with_reducible refine Below.drew ?_) | (with_reducible refine Below.setCell ?_ ?_ _) | (first | (with_reducible exact Nat.le_refl _) | (with_reducible assumption) | omega | (simp only [World.size_alloc, World.size_setCell, World.size_drew, size_drewN', size_grow]; omega) | (simp; omega) | (simp; done)) | (with_reducible refine Below.trans ?_ (Below.mono (by with_reducible assumption) ?_))))⟩)
    · have e4 : clampv a2 a0 a1 = a1 := by unfold clampv; omega
      rcases hrs with hrs | ⟨hrs, hrs'⟩ <;> (go_wp2_with (go_at_call 21; (with_reducible refine (num_clamp _ _ _ _).mono ?_); rintro e w' ⟨rfl, rfl⟩); go_returns; exact ⟨rfl, by (repeat' (first | (with_reducible exact Below.refl _ _) | (with_reducible assumption) | (with_reducible refine below_drewN ?_ _) | (with_reducible refine below_grown ?_ ?_ _) | (with_reducible refine Below.alloc ?_ ?_ _) | (with_reducible refine Below.drew ?_) | (with_reducible refine Below.setCell ?_ ?_ _) | (first | (with_reducible exact Nat.le_refl _) | (with_reducible assumption) | omega | (simp only [World.size_alloc, World.size_setCell, World.size_drew, size_drewN', size_grow]; omega) | (simp; omega) | (simp; done)) | (with_reducible refine Below.trans ?_ (Below.mono (by with_reducible assumption) ?_))))⟩)
  · have lo' : a1 ≤ M := by omega
    have hi' : M ≤ a0 := by omega
    clear lo hi hr
    have e5 : clampv a2 a0 a1 = a0 := by unfold clampv; omega
    rcases (show a2 < a1 ∨ (a1 ≤ a2 ∧ a2 ≤ a0) ∨ (a1 ≤ a2 ∧ a0 < a2) by omega) with k1 | ⟨k1, k2⟩ | ⟨k1, k2⟩
    · have e4 : clampv a2 a1 a0 = a1 := by unfold clampv; omega
      rcases hrs with hrs | ⟨hrs, hrs'⟩ <;> (go_wp2_with (go_at_call 21; (with_reducible refine (num_clamp _ _ _ _).mono ?_); rintro e w' ⟨rfl, rfl⟩); go_returns; exact ⟨rfl, by (repeat' (first | (with_reducible exact Below.refl _ _) | (with_reducible assumption) | (with_reducible refine below_drewN ?_ _) | (with_reducible refine below_grown ?_ ?_ _) | (with_reducible refine Below.alloc ?_ ?_ _) | (with_reducible refine Below.drew ?_) | (with_reducible refine Below.setCell ?_ ?_ _) | (first | (with_reducible exact Nat.le_refl _) | (with_reducible assumption) | omega | (simp only [World.size_alloc, World.size_setCell, World.size_drew, size_drewN', size_grow]; omega) | (simp; omega) | (simp; done)) | (with_reducible refine Below.trans ?_ (Below.mono (by with_reducible assumption) ?_))))⟩)
    · have e4 : clampv a2 a1 a0 = a2 := by unfold clampv; omega
      rcases hrs with hrs | ⟨hrs, hrs'⟩ <;> (go_wp2_with (go_at_call 21; (with_reducible refine (num_clamp _ _ _ _).mono ?_); rintro e w' ⟨rfl, rfl⟩); go_returns; exact ⟨rfl, by (repeat' (first | (with_reducible exact Below.refl _ _) | (with_reducible assumption) | (with_reducible refine below_drewN ?_ _) | (with_reducible refine below_grown ?_ ?_ _) | (with_reducible refine Below.alloc ?_ ?_ _) | (with_reducible refine Below.drew ?_) | (with_reducible refine Below.setCell ?_ ?_ _) | (first | (with_reducible exact Nat.le_refl _) | (with_reducible assumption) | omega | (simp only [World.size_alloc, World.size_setCell, World.size_drew, size_drewN', size_grow]; omega) | (simp; omega) | (simp; done)) | (with_reducible refine Below.trans ?_ (Below.mono (by with_reducible assumption) ?_))))⟩)
    · have e4 : clampv a2 a1 a0 = a0 := by unfold clampv; omega
      rcases hrs with hrs | ⟨hrs, hrs'⟩ <;> (go_wp2_with (go_at_call 21; (with_reducible refine (num_clamp _ _ _ _).mono ?_); rintro e w' ⟨rfl, rfl⟩); go_returns; exact ⟨rfl, by (repeat' (first | (with_reducible exact Below.refl _ _) | (with_reducible assumption) | (with_reducible refine below_drewN ?_ _) | (with_reducible refine below_grown ?_ ?_ _) | (with_reducible refine Below.alloc ?_ ?_ _) | (with_reducible refine Below.drew ?_) | (with_reducible refine Below.setCell ?_ ?_ _) | (first | (with_reducible exact Nat.le_refl _) | (with_reducible assumption) | omega | (simp only [World.size_alloc, World.size_setCell, World.size_drew, size_drewN', size_grow]; omega) | (simp; omega) | (simp; done)) | (with_reducible refine Below.trans ?_ (Below.mono (by with_reducible assumption) ?_))))⟩)
  · subst hab
    have lo' : a0 ≤ M := by omega
    have hi' : M ≤ a0 := by omega
    clear lo hi hr
    have e5 : clampv a2 a0 a0 = a0 := by unfold clampv; omega
    rcases (show a2 < a0 ∨ a2 = a0 ∨ a0 < a2 by omega) with k1 | k1 | k1
    · rcases hrs with hrs | ⟨hrs, hrs'⟩ <;> (go_wp2_with (go_at_call 21; (with_reducible refine (num_clamp _ _ _ _).mono ?_); rintro e w' ⟨rfl, rfl⟩); go_returns; exact ⟨rfl, by (repeat' (first | (with_reducible exact Below.refl _ _) | (with_reducible assumption) | (with_reducible refine below_drewN ?_ _) | (with_reducible refine below_grown ?_ ?_ _) | (with_reducible refine Below.alloc ?_ ?_ _) | (with_reducible refine Below.drew ?_) | (with_reducible refine Below.setCell ?_ ?_ _) | (first | (with_reducible exact Nat.le_refl _) | (with_reducible assumption) | omega | (simp only [World.size_alloc, World.size_setCell, World.size_drew, size_drewN', size_grow]; omega) | (simp; omega) | (simp; done)) | (with_reducible refine Below.trans ?_ (Below.mono (by with_reducible assumption) ?_))))⟩)
    · subst k1
      rcases hrs with hrs | ⟨hrs, hrs'⟩ <;> (go_wp2_with (go_at_call 21; (with_reducible refine (num_clamp _ _ _ _).mono ?_); rintro e w' ⟨rfl, rfl⟩); go_returns; exact ⟨rfl, by (repeat' (first | (with_reducible exact Below.refl _ _) | (with_reducible assumption) | (with_reducible refine below_drewN ?_ _) | (with_reducible refine below_grown ?_ ?_ _) | (with_reducible refine Below.alloc ?_ ?_ _) | (with_reducible refine Below.drew ?_) | (with_reducible refine Below.setCell ?_ ?_ _) | (first | (with_reducible exact Nat.le_refl _) | (with_reducible assumption) | omega | (simp only [World.size_alloc, World.size_setCell, World.size_drew, size_drewN', size_grow]; omega) | (simp; omega) | (simp; done)) | (with_reducible refine Below.trans ?_ (Below.mono (by with_reducible assumption) ?_))))⟩)
    · rcases hrs with hrs | ⟨hrs, hrs'⟩ <;> (go_wp2_with (go_at_call 21; (with_reducible refine (num_clamp _ _ _ _).mono ?_); rintro e w' ⟨rfl, rfl⟩); go_returns; exact ⟨rfl, by (repeat' (first | (with_reducible exact Below.refl _ _) | (with_reducible assumption) | (with_reducible refine below_drewN ?_ _) | (with_reducible refine below_grown ?_ ?_ _) | (with_reducible refine Below.alloc ?_ ?_ _) | (with_reducible refine Below.drew ?_) | (with_reducible refine Below.setCell ?_ ?_ _) | (first | (with_reducible exact Nat.le_refl _) | (with_reducible assumption) | omega | (simp only [World.size_alloc, World.size_setCell, World.size_drew, size_drewN', size_grow]; omega) | (simp; omega) | (simp; done)) | (with_reducible refine Below.trans ?_ (Below.mono (by with_reducible assumption) ?_))))⟩)
end Go.Proofs.Ytcbncliplbecdaa
