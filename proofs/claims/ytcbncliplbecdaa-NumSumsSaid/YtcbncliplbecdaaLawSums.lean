/- The statement 'NumSums': the walk. -/
import Derived.Test.YtcbncliplbecdaaLawNum
import Derived.Test.YtcbncliplbecdaaWalkr2
set_option linter.unusedVariables false
set_option linter.unusedSimpArgs false
namespace Go.Proofs.Ytcbncliplbecdaa
open Go.RowKit
set_option maxHeartbeats 1000000 in
theorem walk_NumSums (a0 : Int) (a1 : Int) (w : World) (w0 : (Lit.int .i64 a0).wf = true) (w1 : (Lit.int .i64 a1).wf = true) :
    Calls Try.prog 7 #[.int .i64 a0, .int .i64 a1] w fun e w' => e = .returned (.bool true) ∧ Below w.heap.size w w' := by
  have h0 : I64 a0 := bd_i64 w0
  have h1 : I64 a1 := bd_i64 w1
  clear w0 w1
  have A := hid (fun w => anchor01 w)
  have ca := fun w => ref01_of a0 w h0
  have cb := fun w => ref01_of a1 w h1
  have b0 := absv_bd a0 h0
  have b1 := absv_bd a1 h1
  have q0 := sgn_pm a0
  have q1 := sgn_pm a1
  have e0 := sgn_abs a0
  have e1 := sgn_abs a1
  have z0 := absv_d4 a0 h0
  have z1 := absv_d4 a1 h1
  have c1 := fun w => num_add a0 a1 w h0 h1
  have c2 := fun w => num_sub a0 a1 w h0 h1
  have c3 := fun w => num_addsat a0 a1 w h0 h1
  have c4 := fun w => num_subsat a0 a1 w h0 h1
  generalize sgn a0 = s at *
  generalize absv a0 = m at *
  generalize sgn a1 = t at *
  generalize absv a1 = n at *
  have q1' : -t = 1 ∨ -t = -1 := by omega
  have ci := fun w => ref01_minor t n w q1
  have cs := fun w => ref01_sum s m t n w q0 q1 z0 z1
  have cl := fun w => ref01_sum s m (-t) n w q0 q1' z0 z1
  have p1 := sum_pm s m t n q0 q1
  have v1 : sumS s m t n * sumM s m t n = a0 + a1 := by rw [sum_val s m t n q0 q1, e0, e1]
  have y1 : D4 (sumM s m t n) := sum_d4 s m t n (by omega) (by omega)
  have p2 := sum_pm s m (-t) n q0 q1'
  have v2 : sumS s m (-t) n * sumM s m (-t) n = a0 - a1 := by rw [sum_val s m (-t) n q0 q1', e0, Int.neg_mul, e1]; omega
  have y2 : D4 (sumM s m (-t) n) := sum_d4 s m (-t) n (by omega) (by omega)
  have k1 := fun w => ref01_back _ _ _ w p1 y1 v1
  have k2 := fun w => ref01_back _ _ _ w p2 y2 v2
  have t1 := fun w => told01 _ _ _ w p1 y1 v1
  have t2 := fun w => told01 _ _ _ w p2 y2 v2
  generalize sumS s m t n = us at *
  generalize sumM s m t n = um at *
  generalize sumS s m (-t) n = ls at *
  generalize sumM s m (-t) n = lm at *
  generalize hx1 : a0 + a1 = x1 at *
  generalize hx2 : a0 - a1 = x2 at *
  unfold nrep at *
  have CA := hid ca
  have CB := hid cb
  have C1 := hid c1
  have C2 := hid c2
  have C3 := hid c3
  have C4 := hid c4
  have CI := hid ci
  have CS := hid cs
  have CL := hid cl
  have K1 := hid k1
  have K2 := hid k2
  have T1 := hid t1
  have T2 := hid t2
  clear ca cb c1 c2 c3 c4 ci cs cl k1 k2 t1 t2 b0 b1 q0 q1 e0 e1 z0 z1 q1' p1 v1 y1 p2 v2 y2 h0 h1 hx1 hx2
  go_enter Try.func7, Try.ntmps7
  (have hasc := Nat.add_assoc; have hpos := nat_pos_or; have hlit := nat_lt_lit)
  go_wp2_with (first | (go_at_call 15; ((with_reducible refine (Calls.to_grow (A.out _)).mono ?_); rintro e w' ⟨rfl, g1, rfl⟩)) | (go_at_call 22; (with_reducible refine (C1.out _).mono ?_); rintro e w' ⟨rfl, rfl⟩) | (go_at_call 23; (with_reducible refine (C2.out _).mono ?_); rintro e w' ⟨rfl, rfl⟩) | (go_at_call 18; ((with_reducible refine (Calls.to_grow (CA.out _)).mono ?_); rintro e w' ⟨rfl, g2, rfl⟩)) | (go_at_call 18; ((with_reducible refine (Calls.to_grow (CB.out _)).mono ?_); rintro e w' ⟨rfl, g3, rfl⟩)))
  ((with_reducible refine' wp_region_walk2 7 #[.int .i64 0, .int .u64 0, .int .u64 0, .int .u64 0, .int .u64 0] 31 #[.int .i64 0, .int .u64 0, .int .u64 0, .int .u64 0, .int .u64 0] 31 [w.heap.size + (g1.objs.size + (g2.objs.size + g3.objs.size)), w.heap.size + (g1.objs.size + (g2.objs.size + (g3.objs.size + 1)))] 11 12 _ (by kernel_rfl) (by kernel_rfl) (by kernel_rfl) ?lt rfl rfl ?H ?hal1 ?hal2 ?hend); (case lt => (first | (exact trivial) | (simp only [AllLt, World.size_alloc, World.size_setCell, World.size_drew, size_drewN', size_grow, and_true, true_and]; omega))); (case H => (intro hkept y hkepty; simp only [AllKept, and_true] at hkept hkepty; (simp only [List.take_succ_cons, List.take_zero]); (repeat (go_big_quiet_step ((first | (go_at_call 17; (with_reducible exact Calls.grown_below (CS.out _))) | (go_at_call 17; (with_reducible exact Calls.grown_below (CL.out _))) | (go_at_call 19; (with_reducible exact Calls.grown_below (CI.out _))))))); (refine wpQuiet_nil ?_; exact rfl))); (case hal1 => (intro o ho a w K hK; simp only [List.getElem?_cons_succ, List.getElem?_cons_zero, Option.some.injEq] at ho; subst ho; go_simp; exact hK)); (case hal2 => (intro o ho a w K hK; simp only [List.getElem?_cons_succ, List.getElem?_cons_zero, Option.some.injEq] at ho; subst ho; go_simp; exact hK)); (intro hkept bn cn y hbn1 hbn2 hcn1 hcn2 hbc hcb hbnc hbnf hcnc hcnf; simp only [AllKept, and_true] at hkept; simp only [World.size_alloc, World.size_setCell, World.size_drew, size_drewN', size_grow] at hbn1 hbn2 hcn1 hcn2; simp only [List.drop_succ_cons, List.drop_zero, Act.put, Array.setIfInBounds, List.setIfInBounds_toArray, List.set_cons_zero, List.set_cons_succ]))
  go_wp2_with (fail)
  (refine (Calls.to_kept [bn, cn] (K1.out _) ?lt).mono ?_; (case lt => (first | (exact trivial) | (simp only [AllLt, World.size_alloc, World.size_setCell, World.size_drew, size_drewN', size_grow, and_true, true_and]; omega))); rintro e w' ⟨rfl, x1, rfl, hk1⟩; simp only [AllKept, and_true] at hk1)
  go_wp2_with (fail)
  (refine (Calls.to_kept [bn, cn] (K2.out _) ?lt).mono ?_; (case lt => (first | (exact trivial) | (simp only [AllLt, World.size_alloc, World.size_setCell, World.size_drew, size_drewN', size_grow, and_true, true_and]; omega))); rintro e w' ⟨rfl, x1, rfl, hk1⟩; simp only [AllKept, and_true] at hk1)
  go_wp2_with (fail)
  (refine (Calls.to_kept [bn, cn] (T1.out _) ?lt).mono ?_; (case lt => (first | (exact trivial) | (simp only [AllLt, World.size_alloc, World.size_setCell, World.size_drew, size_drewN', size_grow, and_true, true_and]; omega))); rintro e w' ⟨rfl, x1, rfl, hk1⟩; simp only [AllKept, and_true] at hk1)
  go_wp2_with (fail)
  ((with_reducible refine (Calls.to_grow (T2.out _)).mono ?_); rintro e w' ⟨rfl, g9, rfl⟩)
  go_wp2_with (first | (go_at_call 25; (with_reducible refine (C3.out _).mono ?_); rintro e w' ⟨rfl, rfl⟩) | (go_at_call 26; (with_reducible refine (C4.out _).mono ?_); rintro e w' ⟨rfl, rfl⟩))
  go_returns
  exact ⟨rfl, by (repeat' (first | (with_reducible exact Below.refl _ _) | (with_reducible assumption) | (with_reducible refine below_drewN ?_ _) | (with_reducible refine below_grown ?_ ?_ _) | (with_reducible refine Below.alloc ?_ ?_ _) | (with_reducible refine Below.drew ?_) | (with_reducible refine Below.setCell ?_ ?_ _) | (first | (with_reducible exact Nat.le_refl _) | (with_reducible assumption) | omega | (simp only [World.size_alloc, World.size_setCell, World.size_drew, size_drewN', size_grow]; omega) | (simp; omega) | (simp; done)) | (with_reducible refine Below.trans ?_ (Below.mono (by with_reducible assumption) ?_))))⟩
end Go.Proofs.Ytcbncliplbecdaa
