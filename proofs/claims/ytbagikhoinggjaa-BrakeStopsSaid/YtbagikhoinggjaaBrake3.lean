/- BrakeStops: the walk, by the engine. -/
import Derived.Test.YtbagikhoinggjaaBrake2
import Derived.KernelRfl
set_option linter.unusedVariables false
set_option linter.unusedSimpArgs false
namespace Go.Proofs.Ytbagikhoinggjaa
open Go Go.RowKit Go.Eng
set_option maxRecDepth 100000
theorem sq_sub {v b : Int} : (v - b) * (v - b) = v * v - 2 * (b * v) + b * b := by
  rw [Int.sub_mul, Int.mul_sub, Int.mul_sub, Int.mul_comm v b]; omega
theorem stop_step {b v x w X : Int} (hb : 1 ≤ b) (hv : 0 < v) (hx : x = maxZ (v - b)) (h : 2 * b * w + v * v ≤ X) : 2 * b * (w + x) + x * x ≤ X ∧ 0 ≤ x ∧ x < v := by
  unfold maxZ at hx
  split at hx
  · subst hx
    have : 0 ≤ v * v := Int.mul_nonneg (by omega) (by omega)
    refine ⟨by simp only [Int.add_zero, Int.mul_zero]; omega, by omega, by omega⟩
  · subst hx
    refine ⟨?_, by omega, by omega⟩
    have e : 2 * b * (w + (v - b)) = 2 * b * w + 2 * (b * v) - 2 * (b * b) := by
      rw [Int.mul_add, Int.mul_sub, Int.mul_assoc 2 b v, Int.mul_assoc 2 b b]; omega
    have k : 0 ≤ b * b := Int.mul_nonneg (by omega) (by omega)
    rw [e, sq_sub]
    omega
theorem stop_le {b w v g : Int} (hb : 1 ≤ b) (h : 2 * b * w + v * v ≤ 2 * b * g) : w ≤ g := by
  have k : 0 ≤ v * v := by
    rcases Int.le_total 0 v with h | h
    · exact Int.mul_nonneg h h
    · have := Int.mul_nonneg (show 0 ≤ -v by omega) (show 0 ≤ -v by omega)
      rwa [Int.neg_mul_neg] at this
  refine Int.not_lt.1 fun hlt => ?_
  have : 2 * b * (g + 1) ≤ 2 * b * w := Int.mul_le_mul_of_nonneg_left hlt (by omega)
  rw [Int.mul_add] at this
  omega
structure Sp where
  v : Int
  w : Int
def SpOk (b g v w : Int) : Prop := 0 ≤ v ∧ v ≤ 16777216 ∧ 0 ≤ w ∧ 2 * b * w + v * v ≤ 2 * b * g
theorem walk_stops (c0 c1 c2 c3 c4 c5 c6 c7 c8 c9 c10 c11 c12 c13 f v : Int) (hf0 : -9223372036854775808 ≤ f) (hf1 : f ≤ 9223372036854775807) : PCalls Try.prog 4 [.agg [.int .i64 c0, .int .i64 c1, .int .i64 c2, .int .i64 c3, .int .i64 c4, .int .i64 c5, .int .i64 c6, .int .i64 c7, .int .i64 c8, .int .i64 c9, .int .i64 c10, .int .i64 c11, .int .i64 c12, .int .i64 c13], .int .i64 f, .int .i64 v] (fun r => r = .bool true) := by
  (refine PCalls.ofY Try.func4 (by kernel_rfl) (by kernel_rfl) fun w hw R hR => ?_); (obtain ⟨wbin, wcmp, wun, wconv, wnot, wbeq, wmm, wscmp, wsadd, wslen, wsat, weqs, wlen, wnlen, wofNat, wtake, wdrop, wapp, wzero, wnat⟩ := w); (have hbin : wbin = binStd := congrArg Prims.bin hw); (have hcmp : wcmp = cmpStd := congrArg Prims.cmp hw); (have hun : wun = unStd := congrArg Prims.un hw); (have hconv : wconv = fun k n => k.wrap n := congrArg Prims.conv hw); (have hnot : wnot = fun b => !b := congrArg Prims.not hw); (have hbeq : wbeq = fun a b => a == b := congrArg Prims.beq hw); (have hmm : wmm = maxI := congrArg Prims.mm hw); (have hscmp : wscmp = scmpStd := congrArg Prims.scmp hw); (have hsadd : wsadd = fun x y => x ++ y := congrArg Prims.sadd hw); (have hslen : wslen = fun s => (s.size : Int) := congrArg Prims.slen hw); (have hsat : wsat = std.sat := congrArg Prims.sat hw); (have heqs : weqs = fun a b os => (eqOffs a b os).getD false := congrArg Prims.eqs hw); (have hlen : wlen = fun es => (es.length : Int) := congrArg Prims.len hw); (have hnlen : wnlen = fun es => es.length := congrArg Prims.nlen hw); (have hofNat : wofNat = (fun n : Nat => (n : Int)) := congrArg Prims.ofNat hw); (have htake : wtake = fun es b => es.take b.toNat := congrArg Prims.take hw); (have hdrop : wdrop = fun es a => es.drop a.toNat := congrArg Prims.drop hw); (have happ : wapp = fun a b => a ++ b := congrArg Prims.app hw); (have hzero : wzero = fun n z => List.replicate n.toNat z := congrArg Prims.zero hw); (have hnat : wnat = fun n => n.toNat := congrArg Prims.nat hw); (conv => arg 2; cbv); (generalize hP : Try.prog = P); cbv
  refine Call.step (by rw [← hP]; exact e_anchor22) rfl ?_
  rintro r rfl
  cbv
  (split <;> rename_i hb <;> (try (simp only [hbin, hcmp, hun, hconv, hnot, hbeq, hmm, hscmp, hsadd, hslen, hsat, heqs, hofNat, binStd, cmpStd, unStd, scmpStd, maxI, Bool.not_eq_true', Bool.not_eq_false', decide_eq_true_eq, decide_eq_false_iff_not, Int.not_lt, Int.not_le, if_true, if_false, Bool.false_eq_true, beq_iff_eq, bne_iff_ne, ne_eq, Bool.not_eq_eq_eq_not, Bool.not_true, Bool.not_false, beq_eq_false_iff_ne, bne_eq_false_iff_eq, Int.ofNat_eq_natCast, Bool.not_not, not_true_eq_false, not_false_eq_true, reduceCtorEq] at hb)) <;> (try cbv))
  refine Call.stepE (by rw [← hP]; exact e_wrong c0 c1 c2 c3 c4 c5 c6 c7 c8 c9 c10 c11 c12 c13) rfl ?_
  generalize hn : wrongV c0 c1 c2 c3 c4 c5 c6 c7 c8 c9 c10 c11 c12 c13 = n
  cbv
  (split <;> rename_i hb <;> (try (simp only [hbin, hcmp, hun, hconv, hnot, hbeq, hmm, hscmp, hsadd, hslen, hsat, heqs, hofNat, binStd, cmpStd, unStd, scmpStd, maxI, Bool.not_eq_true', Bool.not_eq_false', decide_eq_true_eq, decide_eq_false_iff_not, Int.not_lt, Int.not_le, if_true, if_false, Bool.false_eq_true, beq_iff_eq, bne_iff_ne, ne_eq, Bool.not_eq_eq_eq_not, Bool.not_true, Bool.not_false, beq_eq_false_iff_ne, bne_eq_false_iff_eq, Int.ofNat_eq_natCast, Bool.not_not, not_true_eq_false, not_false_eq_true, reduceCtorEq] at hb)) <;> (try cbv))
  · exact ⟨_, Vw.same rfl, hR _ rfl⟩
  rw [hb] at hn
  have hok := wrong_ok hn
  obtain ⟨m0, m1, b0, b1⟩ : 1 ≤ c6 ∧ c6 ≤ 16777216 ∧ 1 ≤ c13 ∧ c13 ≤ 1048576 := by unfold ConfOk at hok; omega
  clear hok hn
  (split <;> rename_i h1 <;> (try (simp only [hbin, hcmp, hun, hconv, hnot, hbeq, hmm, hscmp, hsadd, hslen, hsat, heqs, hofNat, binStd, cmpStd, unStd, scmpStd, maxI, Bool.not_eq_true', Bool.not_eq_false', decide_eq_true_eq, decide_eq_false_iff_not, Int.not_lt, Int.not_le, if_true, if_false, Bool.false_eq_true, beq_iff_eq, bne_iff_ne, ne_eq, Bool.not_eq_eq_eq_not, Bool.not_true, Bool.not_false, beq_eq_false_iff_ne, bne_eq_false_iff_eq, Int.ofNat_eq_natCast, Bool.not_not, not_true_eq_false, not_false_eq_true, reduceCtorEq] at h1)) <;> (try cbv))
  · exact ⟨_, Vw.same rfl, hR _ rfl⟩
  (split <;> rename_i h2 <;> (try (simp only [hbin, hcmp, hun, hconv, hnot, hbeq, hmm, hscmp, hsadd, hslen, hsat, heqs, hofNat, binStd, cmpStd, unStd, scmpStd, maxI, Bool.not_eq_true', Bool.not_eq_false', decide_eq_true_eq, decide_eq_false_iff_not, Int.not_lt, Int.not_le, if_true, if_false, Bool.false_eq_true, beq_iff_eq, bne_iff_ne, ne_eq, Bool.not_eq_eq_eq_not, Bool.not_true, Bool.not_false, beq_eq_false_iff_ne, bne_eq_false_iff_eq, Int.ofNat_eq_natCast, Bool.not_not, not_true_eq_false, not_false_eq_true, reduceCtorEq] at h2)) <;> (try cbv))
  · exact ⟨_, Vw.same rfl, hR _ rfl⟩
  refine Nz.mk (by omega) ?_
  (split <;> rename_i h3 <;> (try (simp only [hbin, hcmp, hun, hconv, hnot, hbeq, hmm, hscmp, hsadd, hslen, hsat, heqs, hofNat, binStd, cmpStd, unStd, scmpStd, maxI, Bool.not_eq_true', Bool.not_eq_false', decide_eq_true_eq, decide_eq_false_iff_not, Int.not_lt, Int.not_le, if_true, if_false, Bool.false_eq_true, beq_iff_eq, bne_iff_ne, ne_eq, Bool.not_eq_eq_eq_not, Bool.not_true, Bool.not_false, beq_eq_false_iff_ne, bne_eq_false_iff_eq, Int.ofNat_eq_natCast, Bool.not_not, not_true_eq_false, not_false_eq_true, reduceCtorEq] at h3)) <;> (try cbv))
  · exact ⟨_, Vw.same rfl, hR _ rfl⟩
  obtain ⟨p, hp⟩ := perm_ex (X := 2 * c13 * maxZ f) (m := c6) (by omega) (Int.mul_nonneg (by omega) (maxZ_nn f))
  refine Call.stepE (by rw [← hP]; exact e_permitted b0 b1 (by omega) hf1 hf0 hp) rfl ?_
  cbv
  (split <;> rename_i h4 <;> (try (simp only [hbin, hcmp, hun, hconv, hnot, hbeq, hmm, hscmp, hsadd, hslen, hsat, heqs, hofNat, binStd, cmpStd, unStd, scmpStd, maxI, Bool.not_eq_true', Bool.not_eq_false', decide_eq_true_eq, decide_eq_false_iff_not, Int.not_lt, Int.not_le, if_true, if_false, Bool.false_eq_true, beq_iff_eq, bne_iff_ne, ne_eq, Bool.not_eq_eq_eq_not, Bool.not_true, Bool.not_false, beq_eq_false_iff_ne, bne_eq_false_iff_eq, Int.ofNat_eq_natCast, Bool.not_not, not_true_eq_false, not_false_eq_true, reduceCtorEq] at h4)) <;> (try cbv))
  · exact ⟨_, Vw.same rfl, hR _ rfl⟩
  obtain ⟨g, eg⟩ : ∃ x, maxZ f = x := ⟨_, rfl⟩
  have hg : 0 ≤ g ∧ g ≤ 9223372036854775807 := by rw [← eg]; unfold maxZ; split <;> omega
  rw [eg] at hp
  have hvv : v * v ≤ 2 * c13 * g := by
    have : v * v ≤ p * p := Int.mul_le_mul h4 h4 (by omega) hp.1
    have := hp.2.2.1
    omega
  refine Loop.data hw (S := Sp) (fun s => fr 49 [(1, .int .i64 f), (2, .int .i64 s.v), (3, .ref 0 14 0 0), (7, .int .i64 s.w)]) (fun s => [.live 14 [[.int .i64 c0, .int .i64 c1, .int .i64 c2, .int .i64 c3, .int .i64 c4, .int .i64 c5, .int .i64 c6, .int .i64 c7, .int .i64 c8, .int .i64 c9, .int .i64 c10, .int .i64 c11, .int .i64 c12, .int .i64 c13]]]) (fun s => SpOk c13 g s.v s.w) (fun s => s.v.toNat) ⟨v, 0⟩ (by (refine Wk.eqs ?_; cbv; (repeat' (first | exact trivial | rfl | assumption | apply And.intro | (simp only [hbin, hcmp, hun, hconv, hnot, hbeq, hmm, hscmp, hsadd, hslen, hsat, heqs, hofNat, binStd, cmpStd, unStd, scmpStd, maxI, Bool.not_eq_true', Bool.not_eq_false', decide_eq_true_eq, decide_eq_false_iff_not, Int.not_lt, Int.not_le, if_true, if_false, Bool.false_eq_true, beq_iff_eq, bne_iff_ne, ne_eq, Bool.not_eq_eq_eq_not, Bool.not_true, Bool.not_false, beq_eq_false_iff_ne, bne_eq_false_iff_eq, Int.ofNat_eq_natCast, Bool.not_not, not_true_eq_false, not_false_eq_true, reduceCtorEq]; first | done | assumption) | exact RowsX.same (by assumption) (by first | assumption | rfl) | (refine RowsX.one ?_; cbv))))) ⟨by simp only; omega, by simp only; omega, Int.le_refl _, by simp only; omega⟩ ?_
  rintro ⟨x, y⟩ hinv Q' hN hE hR'
  have hinv : SpOk c13 g x y := hinv
  cbv
  obtain ⟨k0, k1, k2, k3⟩ := hinv
  (split <;> rename_i hc <;> (try (simp only [hbin, hcmp, hun, hconv, hnot, hbeq, hmm, hscmp, hsadd, hslen, hsat, heqs, hofNat, binStd, cmpStd, unStd, scmpStd, maxI, Bool.not_eq_true', Bool.not_eq_false', decide_eq_true_eq, decide_eq_false_iff_not, Int.not_lt, Int.not_le, if_true, if_false, Bool.false_eq_true, beq_iff_eq, bne_iff_ne, ne_eq, Bool.not_eq_eq_eq_not, Bool.not_true, Bool.not_false, beq_eq_false_iff_ne, bne_eq_false_iff_eq, Int.ofNat_eq_natCast, Bool.not_not, not_true_eq_false, not_false_eq_true, reduceCtorEq] at hc)) <;> (try cbv))
  · obtain ⟨x', ex'⟩ : ∃ z, z = maxZ (x - c13) := ⟨_, rfl⟩
    obtain ⟨s1, s2, s3⟩ := stop_step b0 hc ex' k3
    have hle := stop_le b0 s1
    obtain ⟨y', ey'⟩ : ∃ z, y + x' = z := ⟨_, rfl⟩
    rw [ey'] at s1 hle
    have e1 : wmm true (wbin .sub .i64 x c13) 0 = x' := by
      rw [hbin, i_sub (by omega) (by omega), hmm, ex']; simp only [maxI, maxZ, if_true]
    have e2 : wbin .add .i64 y x' = y' := by rw [hbin, i_add (by omega) (by omega)]; exact ey'
    simp only [e1, e2]
    have hT : x'.toNat < x.toNat := by omega
    (refine hN ⟨x', y'⟩ _ _ ?hx ?hi ?ht; (case hx => (refine Wk.eqs ?_; cbv; (repeat' (first | exact trivial | rfl | assumption | apply And.intro | (simp only [hbin, hcmp, hun, hconv, hnot, hbeq, hmm, hscmp, hsadd, hslen, hsat, heqs, hofNat, binStd, cmpStd, unStd, scmpStd, maxI, Bool.not_eq_true', Bool.not_eq_false', decide_eq_true_eq, decide_eq_false_iff_not, Int.not_lt, Int.not_le, if_true, if_false, Bool.false_eq_true, beq_iff_eq, bne_iff_ne, ne_eq, Bool.not_eq_eq_eq_not, Bool.not_true, Bool.not_false, beq_eq_false_iff_ne, bne_eq_false_iff_eq, Int.ofNat_eq_natCast, Bool.not_not, not_true_eq_false, not_false_eq_true, reduceCtorEq]; first | done | assumption) | exact RowsX.same (by assumption) (by first | assumption | rfl) | (refine RowsX.one ?_; cbv))))); (case hi => (exact ⟨by simp only; omega, by simp only; omega, by simp only; omega, s1⟩)); (case ht => exact hT))
  · refine hE _ _ _ ?_
    cbv
    have hle := stop_le b0 k3
    have e1 : wmm true f 0 = g := by rw [hmm, ← eg]; simp only [maxI, maxZ, if_true]
    refine ⟨_, Vw.same rfl, hR _ ?_⟩
    show AV.bool _ = AV.bool true
    rw [e1, hcmp]; simp [cmpStd]; omega
end Go.Proofs.Ytbagikhoinggjaa
