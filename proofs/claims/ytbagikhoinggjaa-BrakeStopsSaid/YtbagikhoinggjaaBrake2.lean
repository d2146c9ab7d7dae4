/- BrakePermits, BrakeMore: the walks, by the engine. -/
import Derived.Test.YtbagikhoinggjaaBrake1
import Derived.KernelRfl
set_option linter.unusedVariables false
set_option linter.unusedSimpArgs false
namespace Go.Proofs.Ytbagikhoinggjaa
open Go Go.RowKit Go.Eng
set_option maxRecDepth 100000
theorem perm_ex {X m : Int} (hm : 0 ≤ m) (hX : 0 ≤ X) : ∃ v, PermIs X m v := by
  obtain ⟨r, hr⟩ := root_get hX
  exact ⟨_, perm_of_root hm hr⟩
theorem maxZ_nn (f : Int) : 0 ≤ maxZ f := by unfold maxZ; split <;> omega
theorem maxZ_mono {f g : Int} (h : f ≤ g) : maxZ f ≤ maxZ g := by unfold maxZ; split <;> split <;> omega
theorem walk_permits (c0 c1 c2 c3 c4 c5 c6 c7 c8 c9 c10 c11 c12 c13 f : Int) (hf0 : -9223372036854775808 ≤ f) (hf1 : f ≤ 9223372036854775807) : PCalls Try.prog 3 [.agg [.int .i64 c0, .int .i64 c1, .int .i64 c2, .int .i64 c3, .int .i64 c4, .int .i64 c5, .int .i64 c6, .int .i64 c7, .int .i64 c8, .int .i64 c9, .int .i64 c10, .int .i64 c11, .int .i64 c12, .int .i64 c13], .int .i64 f] (fun r => r = .bool true) := by
  (refine PCalls.ofY Try.func3 (by kernel_rfl) (by kernel_rfl) fun w hw R hR => ?_); (obtain ⟨wbin, wcmp, wun, wconv, wnot, wbeq, wmm, wscmp, wsadd, wslen, wsat, weqs, wlen, wnlen, wofNat, wtake, wdrop, wapp, wzero, wnat⟩ := w); (have hbin : wbin = binStd := congrArg Prims.bin hw); (have hcmp : wcmp = cmpStd := congrArg Prims.cmp hw); (have hun : wun = unStd := congrArg Prims.un hw); (have hconv : wconv = fun k n => k.wrap n := congrArg Prims.conv hw); (have hnot : wnot = fun b => !b := congrArg Prims.not hw); (have hbeq : wbeq = fun a b => a == b := congrArg Prims.beq hw); (have hmm : wmm = maxI := congrArg Prims.mm hw); (have hscmp : wscmp = scmpStd := congrArg Prims.scmp hw); (have hsadd : wsadd = fun x y => x ++ y := congrArg Prims.sadd hw); (have hslen : wslen = fun s => (s.size : Int) := congrArg Prims.slen hw); (have hsat : wsat = std.sat := congrArg Prims.sat hw); (have heqs : weqs = fun a b os => (eqOffs a b os).getD false := congrArg Prims.eqs hw); (have hlen : wlen = fun es => (es.length : Int) := congrArg Prims.len hw); (have hnlen : wnlen = fun es => es.length := congrArg Prims.nlen hw); (have hofNat : wofNat = (fun n : Nat => (n : Int)) := congrArg Prims.ofNat hw); (have htake : wtake = fun es b => es.take b.toNat := congrArg Prims.take hw); (have hdrop : wdrop = fun es a => es.drop a.toNat := congrArg Prims.drop hw); (have happ : wapp = fun a b => a ++ b := congrArg Prims.app hw); (have hzero : wzero = fun n z => List.replicate n.toNat z := congrArg Prims.zero hw); (have hnat : wnat = fun n => n.toNat := congrArg Prims.nat hw); (conv => arg 2; cbv); (generalize hP : Try.prog = P); cbv
  refine Call.step (by rw [← hP]; exact e_anchor22) rfl ?_
  rintro r rfl
  cbv
  (split <;> rename_i hb <;> (try (simp only [hbin, hcmp, hun, hconv, hnot, hbeq, hmm, hscmp, hsadd, hslen, hsat, heqs, hofNat, binStd, cmpStd, unStd, scmpStd, maxI, Bool.not_eq_true', Bool.not_eq_false', decide_eq_true_eq, decide_eq_false_iff_not, Int.not_lt, Int.not_le, if_true, if_false, Bool.false_eq_true, beq_iff_eq, bne_iff_ne, ne_eq, Bool.not_eq_eq_eq_not, Bool.not_true, Bool.not_false, beq_eq_false_iff_ne, bne_eq_false_iff_eq, Int.ofNat_eq_natCast, Bool.not_not, not_true_eq_false, not_false_eq_true, reduceCtorEq] at hb)) <;> (try cbv))
  refine Call.stepE (by rw [← hP]; exact e_wrong _ _ _ _ _ _ _ _ _ _ _ _ _ _ ) rfl ?_
  generalize hn : wrongV c0 c1 c2 c3 c4 c5 c6 c7 c8 c9 c10 c11 c12 c13 = n
  cbv
  (split <;> rename_i hb <;> (try (simp only [hbin, hcmp, hun, hconv, hnot, hbeq, hmm, hscmp, hsadd, hslen, hsat, heqs, hofNat, binStd, cmpStd, unStd, scmpStd, maxI, Bool.not_eq_true', Bool.not_eq_false', decide_eq_true_eq, decide_eq_false_iff_not, Int.not_lt, Int.not_le, if_true, if_false, Bool.false_eq_true, beq_iff_eq, bne_iff_ne, ne_eq, Bool.not_eq_eq_eq_not, Bool.not_true, Bool.not_false, beq_eq_false_iff_ne, bne_eq_false_iff_eq, Int.ofNat_eq_natCast, Bool.not_not, not_true_eq_false, not_false_eq_true, reduceCtorEq] at hb)) <;> (try cbv))
  · exact ⟨_, Vw.same rfl, hR _ rfl⟩
  rw [hb] at hn
  have hok := wrong_ok hn
  obtain ⟨m0, m1, b0, b1⟩ : 1 ≤ c6 ∧ c6 ≤ 16777216 ∧ 1 ≤ c13 ∧ c13 ≤ 1048576 := by unfold ConfOk at hok; omega
  obtain ⟨v, hv⟩ := perm_ex (X := 2 * c13 * maxZ f) (m := c6) (by omega) (Int.mul_nonneg (by omega) (maxZ_nn f))
  refine QCal.stepE (by rw [← hP]; exact e_permitted b0 b1 (by omega) hf1 hf0 hv) rfl ?_
  cbv
  refine QCal.stepE (by rw [← hP]; exact e_perm22 b0 b1 (by omega) m1 hf1 hf0 hv) rfl ?_
  cbv
  refine ⟨_, Vw.same rfl, hR _ ?_⟩
  show AV.bool _ = AV.bool true
  rw [hcmp]; simp [cmpStd]
set_option maxHeartbeats 2000000 in
theorem walk_more (c0 c1 c2 c3 c4 c5 c6 c7 c8 c9 c10 c11 c12 c13 f g d : Int) (hf0 : -9223372036854775808 ≤ f) (hf1 : f ≤ 9223372036854775807) (hg0 : -9223372036854775808 ≤ g) (hg1 : g ≤ 9223372036854775807) : PCalls Try.prog 5 [.agg [.int .i64 c0, .int .i64 c1, .int .i64 c2, .int .i64 c3, .int .i64 c4, .int .i64 c5, .int .i64 c6, .int .i64 c7, .int .i64 c8, .int .i64 c9, .int .i64 c10, .int .i64 c11, .int .i64 c12, .int .i64 c13], .int .i64 f, .int .i64 g, .int .i64 d] (fun r => r = .bool true) := by
  (refine PCalls.ofY Try.func5 (by kernel_rfl) (by kernel_rfl) fun w hw R hR => ?_); (obtain ⟨wbin, wcmp, wun, wconv, wnot, wbeq, wmm, wscmp, wsadd, wslen, wsat, weqs, wlen, wnlen, wofNat, wtake, wdrop, wapp, wzero, wnat⟩ := w); (have hbin : wbin = binStd := congrArg Prims.bin hw); (have hcmp : wcmp = cmpStd := congrArg Prims.cmp hw); (have hun : wun = unStd := congrArg Prims.un hw); (have hconv : wconv = fun k n => k.wrap n := congrArg Prims.conv hw); (have hnot : wnot = fun b => !b := congrArg Prims.not hw); (have hbeq : wbeq = fun a b => a == b := congrArg Prims.beq hw); (have hmm : wmm = maxI := congrArg Prims.mm hw); (have hscmp : wscmp = scmpStd := congrArg Prims.scmp hw); (have hsadd : wsadd = fun x y => x ++ y := congrArg Prims.sadd hw); (have hslen : wslen = fun s => (s.size : Int) := congrArg Prims.slen hw); (have hsat : wsat = std.sat := congrArg Prims.sat hw); (have heqs : weqs = fun a b os => (eqOffs a b os).getD false := congrArg Prims.eqs hw); (have hlen : wlen = fun es => (es.length : Int) := congrArg Prims.len hw); (have hnlen : wnlen = fun es => es.length := congrArg Prims.nlen hw); (have hofNat : wofNat = (fun n : Nat => (n : Int)) := congrArg Prims.ofNat hw); (have htake : wtake = fun es b => es.take b.toNat := congrArg Prims.take hw); (have hdrop : wdrop = fun es a => es.drop a.toNat := congrArg Prims.drop hw); (have happ : wapp = fun a b => a ++ b := congrArg Prims.app hw); (have hzero : wzero = fun n z => List.replicate n.toNat z := congrArg Prims.zero hw); (have hnat : wnat = fun n => n.toNat := congrArg Prims.nat hw); (conv => arg 2; cbv); (generalize hP : Try.prog = P); cbv
  refine Call.step (by rw [← hP]; exact e_anchor22) rfl ?_
  rintro r rfl
  cbv
  (split <;> rename_i hb <;> (try (simp only [hbin, hcmp, hun, hconv, hnot, hbeq, hmm, hscmp, hsadd, hslen, hsat, heqs, hofNat, binStd, cmpStd, unStd, scmpStd, maxI, Bool.not_eq_true', Bool.not_eq_false', decide_eq_true_eq, decide_eq_false_iff_not, Int.not_lt, Int.not_le, if_true, if_false, Bool.false_eq_true, beq_iff_eq, bne_iff_ne, ne_eq, Bool.not_eq_eq_eq_not, Bool.not_true, Bool.not_false, beq_eq_false_iff_ne, bne_eq_false_iff_eq, Int.ofNat_eq_natCast, Bool.not_not, not_true_eq_false, not_false_eq_true, reduceCtorEq] at hb)) <;> (try cbv))
  refine Call.stepE (by rw [← hP]; exact e_wrong c0 c1 c2 c3 c4 c5 c6 c7 c8 c9 c10 c11 c12 c13) rfl ?_
  generalize hn : wrongV c0 c1 c2 c3 c4 c5 c6 c7 c8 c9 c10 c11 c12 c13 = n
  cbv
  (split <;> rename_i hb <;> (try (simp only [hbin, hcmp, hun, hconv, hnot, hbeq, hmm, hscmp, hsadd, hslen, hsat, heqs, hofNat, binStd, cmpStd, unStd, scmpStd, maxI, Bool.not_eq_true', Bool.not_eq_false', decide_eq_true_eq, decide_eq_false_iff_not, Int.not_lt, Int.not_le, if_true, if_false, Bool.false_eq_true, beq_iff_eq, bne_iff_ne, ne_eq, Bool.not_eq_eq_eq_not, Bool.not_true, Bool.not_false, beq_eq_false_iff_ne, bne_eq_false_iff_eq, Int.ofNat_eq_natCast, Bool.not_not, not_true_eq_false, not_false_eq_true, reduceCtorEq] at hb)) <;> (try cbv))
  · exact ⟨_, Vw.same rfl, hR _ rfl⟩
  rw [hb] at hn
  have hok := wrong_ok hn
  obtain ⟨m0, m1, b0, b1⟩ : 1 ≤ c6 ∧ c6 ≤ 16777216 ∧ 1 ≤ c13 ∧ c13 ≤ 1048576 := by unfold ConfOk at hok; omega
  refine Call.stepE (by rw [← hP]; exact e_wrong c0 c1 c2 c3 c4 c5 c6 c7 c8 c9 c10 c11 c12 d) rfl ?_
  generalize hk : wrongV c0 c1 c2 c3 c4 c5 c6 c7 c8 c9 c10 c11 c12 d = k
  cbv
  (split <;> rename_i hb2 <;> (try (simp only [hbin, hcmp, hun, hconv, hnot, hbeq, hmm, hscmp, hsadd, hslen, hsat, heqs, hofNat, binStd, cmpStd, unStd, scmpStd, maxI, Bool.not_eq_true', Bool.not_eq_false', decide_eq_true_eq, decide_eq_false_iff_not, Int.not_lt, Int.not_le, if_true, if_false, Bool.false_eq_true, beq_iff_eq, bne_iff_ne, ne_eq, Bool.not_eq_eq_eq_not, Bool.not_true, Bool.not_false, beq_eq_false_iff_ne, bne_eq_false_iff_eq, Int.ofNat_eq_natCast, Bool.not_not, not_true_eq_false, not_false_eq_true, reduceCtorEq] at hb2)) <;> (try cbv))
  · exact ⟨_, Vw.same rfl, hR _ rfl⟩
  rw [hb2] at hk
  have hok2 := wrong_ok hk
  obtain ⟨d0, d1⟩ : 1 ≤ d ∧ d ≤ 1048576 := by unfold ConfOk at hok2; omega
  clear hok hok2 hn hk
  (split <;> rename_i h1 <;> (try (simp only [hbin, hcmp, hun, hconv, hnot, hbeq, hmm, hscmp, hsadd, hslen, hsat, heqs, hofNat, binStd, cmpStd, unStd, scmpStd, maxI, Bool.not_eq_true', Bool.not_eq_false', decide_eq_true_eq, decide_eq_false_iff_not, Int.not_lt, Int.not_le, if_true, if_false, Bool.false_eq_true, beq_iff_eq, bne_iff_ne, ne_eq, Bool.not_eq_eq_eq_not, Bool.not_true, Bool.not_false, beq_eq_false_iff_ne, bne_eq_false_iff_eq, Int.ofNat_eq_natCast, Bool.not_not, not_true_eq_false, not_false_eq_true, reduceCtorEq] at h1)) <;> (try cbv))
  · exact ⟨_, Vw.same rfl, hR _ rfl⟩
  (split <;> rename_i h2 <;> (try (simp only [hbin, hcmp, hun, hconv, hnot, hbeq, hmm, hscmp, hsadd, hslen, hsat, heqs, hofNat, binStd, cmpStd, unStd, scmpStd, maxI, Bool.not_eq_true', Bool.not_eq_false', decide_eq_true_eq, decide_eq_false_iff_not, Int.not_lt, Int.not_le, if_true, if_false, Bool.false_eq_true, beq_iff_eq, bne_iff_ne, ne_eq, Bool.not_eq_eq_eq_not, Bool.not_true, Bool.not_false, beq_eq_false_iff_ne, bne_eq_false_iff_eq, Int.ofNat_eq_natCast, Bool.not_not, not_true_eq_false, not_false_eq_true, reduceCtorEq] at h2)) <;> (try cbv))
  · exact ⟨_, Vw.same rfl, hR _ rfl⟩
  obtain ⟨v, hv⟩ := perm_ex (X := 2 * c13 * maxZ f) (m := c6) (by omega) (Int.mul_nonneg (by omega) (maxZ_nn f))
  obtain ⟨u, hu⟩ := perm_ex (X := 2 * c13 * maxZ g) (m := c6) (by omega) (Int.mul_nonneg (by omega) (maxZ_nn g))
  obtain ⟨x, hx⟩ := perm_ex (X := 2 * d * maxZ f) (m := c6) (by omega) (Int.mul_nonneg (by omega) (maxZ_nn f))
  have l1 := perm_le hv hu (Int.mul_le_mul_of_nonneg_left (maxZ_mono h1) (by omega))
  have l2 := perm_le hv hx (Int.mul_le_mul_of_nonneg_right (by omega) (maxZ_nn f))
  refine Call.stepE (by rw [← hP]; exact e_permitted b0 b1 (by omega) hf1 hf0 hv) rfl ?_
  cbv
  repeat' (first
    | (refine Call.stepE (by rw [← hP]; exact e_permitted b0 b1 (by omega) hg1 hg0 hu) rfl ?_; cbv)
    | (refine Call.stepE (by rw [← hP]; exact e_permitted d0 d1 (by omega) hf1 hf0 hx) rfl ?_; cbv)
    | (refine QCal.stepE (by rw [← hP]; exact e_permitted b0 b1 (by omega) hg1 hg0 hu) rfl ?_; cbv)
    | (refine QCal.stepE (by rw [← hP]; exact e_permitted d0 d1 (by omega) hf1 hf0 hx) rfl ?_; cbv)
    | (split <;> rename_i h <;> (try (simp only [hbin, hcmp, hun, hconv, hnot, hbeq, hmm, hscmp, hsadd, hslen, hsat, heqs, hofNat, binStd, cmpStd, unStd, scmpStd, maxI, Bool.not_eq_true', Bool.not_eq_false', decide_eq_true_eq, decide_eq_false_iff_not, Int.not_lt, Int.not_le, if_true, if_false, Bool.false_eq_true, beq_iff_eq, bne_iff_ne, ne_eq, Bool.not_eq_eq_eq_not, Bool.not_true, Bool.not_false, beq_eq_false_iff_ne, bne_eq_false_iff_eq, Int.ofNat_eq_natCast, Bool.not_not, not_true_eq_false, not_false_eq_true, reduceCtorEq] at h)) <;> (try cbv)))
  all_goals
    first
      | (exfalso; have := hv.1; omega)
      | (refine ⟨_, Vw.same rfl, hR _ ?_⟩
         show AV.bool _ = AV.bool true
         rw [hcmp]; simp [cmpStd]; omega)
end Go.Proofs.Ytbagikhoinggjaa
