/- FuseTrue (true), by the engine. Written by wip/tools/genft.py. -/
import Derived.Test.YtfonjmhnokailaaMT0
import Derived.KernelRfl
import Derived.Test.YtfonjmhnokailaaMT1
set_option linter.unusedVariables false
set_option linter.unusedSimpArgs false
namespace Go.Proofs.Ytfonjmhnokailaa
open Go Go.RowKit Go.Eng
set_option maxRecDepth 100000
set_option maxHeartbeats 4000000 in
theorem e_true_tff (p0 p1 : Int) (f0 f1 f2 f3 : Bool) (z0 : f0 = true) (z1 : f1 = false) (z2 : f2 = false) (a0 b0 a1 b1 a2 b2 a3 b3 v : Int) (hI : All64 a0 b0 a1 b1 a2 b2 a3 b3) : PCalls Try.prog 5 [sp2 p0 p1, sens3 f0 f1 f2 a0 b0 a1 b1 a2 b2, sens f3 a3 b3, .int .i64 v] (fun r => r = .bool true) := by
  obtain ⟨tl, th, ok, ag, lo, hi, n, cl, cf, s0, s1, hF⟩ := fuse_ex p0 p1 f0 f1 f2 f3 a0 b0 a1 b1 a2 b2 a3 b3
  have m1 := e_fuseX hF hI
  obtain ⟨u, hu⟩ : ∃ x, mayV p0 p1 = x := ⟨_, rfl⟩
  have m2 := e_may17 p0 p1 u hu
  obtain ⟨w, kw⟩ : ∃ x, decide (p0 ≤ v ∧ v ≤ p1) = x := ⟨_, rfl⟩
  obtain ⟨w0, k0⟩ : ∃ x, decide (a0 ≤ v ∧ v ≤ b0) = x := ⟨_, rfl⟩
  obtain ⟨w1, k1⟩ : ∃ x, decide (a1 ≤ v ∧ v ≤ b1) = x := ⟨_, rfl⟩
  obtain ⟨w2, k2⟩ : ∃ x, decide (a2 ≤ v ∧ v ≤ b2) = x := ⟨_, rfl⟩
  obtain ⟨w3, k3⟩ : ∃ x, decide (a3 ≤ v ∧ v ≤ b3) = x := ⟨_, rfl⟩
  obtain ⟨wf, kf⟩ : ∃ x, decide (lo ≤ v ∧ v ≤ hi) = x := ⟨_, rfl⟩
  obtain ⟨g, kg⟩ : ∃ x, decide (max (max a0 a1) a2 ≤ min (min b0 b1) b2) = x := ⟨_, rfl⟩
  have h0 := e_has17 p0 p1 v w kw
  have h1 := e_has17 a0 b0 v w0 k0
  have h2 := e_has17 a1 b1 v w1 k1
  have h3 := e_has17 a2 b2 v w2 k2
  have h4 := e_has17 a3 b3 v w3 k3
  have h5 := e_has17 lo hi v wf kf
  have h6 := e_agree f0 f1 f2 a0 b0 a1 b1 a2 b2 g kg
  have T1 : w = true → (f3 = true → w3 = true) → (f0 = true → w0 = true) → (f1 = true → w1 = true) → (f2 = true → w2 = true) → wf = true ∧ cf = false := by
    intro q0 q1 q2 q3 q4
    have t := tog_all hF v (fun h => has_of k0 (q2 h)) (fun h => has_of k1 (q3 h)) (fun h => has_of k2 (q4 h))
    obtain ⟨r1, r2, r3⟩ := fuse_true hF v (has_of kw q0) (fun h => has_of k3 (q1 h)) (by rcases t with t | ⟨t1, t2, _⟩; exact .inl t; exact .inr ⟨t1, t2⟩)
    exact ⟨by rw [← kf]; simp [r1, r2], r3⟩
  have T2 : w = true → (f3 = true → w3 = true) → f0 = true → f1 = true → f2 = true → g = false → (w0 = true ∧ w1 = true) ∨ (w0 = true ∧ w2 = true) ∨ (w1 = true ∧ w2 = true) → wf = true ∧ cf = false := by
    intro q0 q1 z0 z1 z2 q2 q3
    subst z0 z1 z2
    have t := tog_but hF v (by rw [q2] at kg; simpa using kg) (by
      rcases q3 with ⟨x, y⟩ | ⟨x, y⟩ | ⟨x, y⟩
      · exact .inl ⟨has_of k0 x, has_of k1 y⟩
      · exact .inr (.inl ⟨has_of k0 x, has_of k2 y⟩)
      · exact .inr (.inr ⟨has_of k1 x, has_of k2 y⟩))
    obtain ⟨r1, r2, r3⟩ := fuse_true hF v (has_of kw q0) (fun h => has_of k3 (q1 h)) (.inr ⟨t.1, t.2.1⟩)
    exact ⟨by rw [← kf]; simp [r1, r2], r3⟩
  have hn : n = bitN f0 + bitN f1 + bitN f2 := by rw [hF.len, fit_n]
  clear hF kw k0 k1 k2 k3 kf kg
  subst z0 z1 z2
  · simp only [bitN, if_true, Bool.false_eq_true, if_false] at hn
    subst hn
    (refine PCalls.ofY Try.func5 (by kernel_rfl) (by kernel_rfl) fun w hw R hR => ?_); (obtain ⟨wbin, wcmp, wun, wconv, wnot, wbeq, wmm, wscmp, wsadd, wslen, wsat, weqs, wlen, wnlen, wofNat, wtake, wdrop, wapp, wzero, wnat⟩ := w); (have hbin : wbin = binStd := congrArg Prims.bin hw); (have hcmp : wcmp = cmpStd := congrArg Prims.cmp hw); (have hun : wun = unStd := congrArg Prims.un hw); (have hconv : wconv = fun k n => k.wrap n := congrArg Prims.conv hw); (have hnot : wnot = fun b => !b := congrArg Prims.not hw); (have hbeq : wbeq = fun a b => a == b := congrArg Prims.beq hw); (have hmm : wmm = maxI := congrArg Prims.mm hw); (have hscmp : wscmp = scmpStd := congrArg Prims.scmp hw); (have hsadd : wsadd = fun x y => x ++ y := congrArg Prims.sadd hw); (have hslen : wslen = fun s => (s.size : Int) := congrArg Prims.slen hw); (have hsat : wsat = std.sat := congrArg Prims.sat hw); (have heqs : weqs = fun a b os => (eqOffs a b os).getD false := congrArg Prims.eqs hw); (have hlen : wlen = fun es => (es.length : Int) := congrArg Prims.len hw); (have hnlen : wnlen = fun es => es.length := congrArg Prims.nlen hw); (have hofNat : wofNat = (fun n : Nat => (n : Int)) := congrArg Prims.ofNat hw); (have htake : wtake = fun es b => es.take b.toNat := congrArg Prims.take hw); (have hdrop : wdrop = fun es a => es.drop a.toNat := congrArg Prims.drop hw); (have happ : wapp = fun a b => a ++ b := congrArg Prims.app hw); (have hzero : wzero = fun n z => List.replicate n.toNat z := congrArg Prims.zero hw); (have hnat : wnat = fun n => n.toNat := congrArg Prims.nat hw); (conv => arg 2; cbv); (generalize hP : Try.prog = P); cbv
    have cgtr01 : wcmp .gtr 0 1 = false := by rw [hcmp]; rfl
    have ceql01 : wcmp .eql 0 1 = false := by rw [hcmp]; rfl
    have clss03 : wcmp .lss 0 3 = true := by rw [hcmp]; rfl
    have ceql00 : wcmp .eql 0 0 = true := by rw [hcmp]; rfl
    have ceql10 : wcmp .eql 1 0 = false := by rw [hcmp]; rfl
    have ceql20 : wcmp .eql 2 0 = false := by rw [hcmp]; rfl
    have ceql30 : wcmp .eql 3 0 = false := by rw [hcmp]; rfl
    have cgtr11 : wcmp .gtr 1 1 = false := by rw [hcmp]; rfl
    have ceql11 : wcmp .eql 1 1 = true := by rw [hcmp]; rfl
    have clss13 : wcmp .lss 1 3 = true := by rw [hcmp]; rfl
    have cgtr21 : wcmp .gtr 2 1 = true := by rw [hcmp]; rfl
    have ceql21 : wcmp .eql 2 1 = false := by rw [hcmp]; rfl
    have clss23 : wcmp .lss 2 3 = true := by rw [hcmp]; rfl
    have ceql02 : wcmp .eql 0 2 = false := by rw [hcmp]; rfl
    have ceql12 : wcmp .eql 1 2 = false := by rw [hcmp]; rfl
    have ceql22 : wcmp .eql 2 2 = true := by rw [hcmp]; rfl
    have ceql32 : wcmp .eql 3 2 = false := by rw [hcmp]; rfl
    have cgtr31 : wcmp .gtr 3 1 = true := by rw [hcmp]; rfl
    have ceql31 : wcmp .eql 3 1 = false := by rw [hcmp]; rfl
    have clss33 : wcmp .lss 3 3 = false := by rw [hcmp]; rfl
    have ceql03 : wcmp .eql 0 3 = false := by rw [hcmp]; rfl
    have ceql13 : wcmp .eql 1 3 = false := by rw [hcmp]; rfl
    have ceql23 : wcmp .eql 2 3 = false := by rw [hcmp]; rfl
    have ceql33 : wcmp .eql 3 3 = true := by rw [hcmp]; rfl
    have e0 : wbin .add .i64 0 1 = 1 := by rw [hbin]; rfl
    have e1 : wbin .add .i64 1 1 = 2 := by rw [hbin]; rfl
    have e2 : wbin .add .i64 2 1 = 3 := by rw [hbin]; rfl
    have n1 : wnot true = false := by rw [hnot]; rfl
    have n2 : wnot false = true := by rw [hnot]; rfl
    refine Call.stepE (by rw [← hP]; exact e_anchor17) rfl ?_
    cbv
    repeat' (first
      | (simp only [cgtr01, ceql01, clss03, ceql00, ceql10, ceql20, ceql30, cgtr11, ceql11, clss13, cgtr21, ceql21, clss23, ceql02, ceql12, ceql22, ceql32, cgtr31, ceql31, clss33, ceql03, ceql13, ceql23, ceql33, e0, e1, e2, n1, n2]; cbv)
      | (simp only [cgtr01, ceql01, clss03, ceql00, ceql10, ceql20, ceql30, cgtr11, ceql11, clss13, cgtr21, ceql21, clss23, ceql02, ceql12, ceql22, ceql32, cgtr31, ceql31, clss33, ceql03, ceql13, ceql23, ceql33, e0, e1, e2, n1, n2])
      | (refine Call.stepE (by rw [← hP]; exact m1) rfl ?_; cbv)
      | (refine Call.stepE (by rw [← hP]; exact m2) rfl ?_; cbv)
      | (refine Call.stepE (by rw [← hP]; exact h0) rfl ?_; cbv)
      | (refine Call.stepE (by rw [← hP]; exact h1) rfl ?_; cbv)
      | (refine Call.stepE (by rw [← hP]; exact h2) rfl ?_; cbv)
      | (refine Call.stepE (by rw [← hP]; exact h3) rfl ?_; cbv)
      | (refine Call.stepE (by rw [← hP]; exact h4) rfl ?_; cbv)
      | (refine Call.stepE (by rw [← hP]; exact h5) rfl ?_; cbv)
      | (refine Call.stepE (by rw [← hP]; exact h6) rfl ?_; cbv)
      | (refine Call.step (by rw [← hP]; exact e_given _ _ _ f3 a0 b0 a1 b1 a2 b2 a3 b3) rfl ?_; rintro r (⟨x0, x1, x2, x3, x4, x5, x6, x7, y0, y1, y2, y3, rfl, ho⟩ | ⟨y0, y1, y2, y3, rfl, hy, ho⟩) <;> cbv)
      | (refine InN.mk (by decide) (by decide) ?_; cbv)
      | ((refine Loop.rounds hw 4 ?_; cbv))
      | (split <;> rename_i h <;> (try (simp only [cgtr01, ceql01, clss03, ceql00, ceql10, ceql20, ceql30, cgtr11, ceql11, clss13, cgtr21, ceql21, clss23, ceql02, ceql12, ceql22, ceql32, cgtr31, ceql31, clss33, ceql03, ceql13, ceql23, ceql33, e0, e1, e2, n1, n2] at h)) <;> (try (simp only [hbin, hcmp, hun, hconv, hnot, hbeq, hmm, hscmp, hsadd, hslen, hsat, heqs, hofNat, binStd, cmpStd, unStd, scmpStd, maxI, Bool.not_eq_true', Bool.not_eq_false', decide_eq_true_eq, decide_eq_false_iff_not, Int.not_lt, Int.not_le, if_true, if_false, Bool.false_eq_true, beq_iff_eq, bne_iff_ne, ne_eq, Bool.not_eq_eq_eq_not, Bool.not_true, Bool.not_false, beq_eq_false_iff_ne, bne_eq_false_iff_eq, Int.ofNat_eq_natCast, Bool.not_not, not_true_eq_false, not_false_eq_true, reduceCtorEq] at h)) <;> (try cbv)))
    all_goals first
      | (refine ⟨_, Vw.same rfl, hR _ rfl⟩)
      | (refine (fun t => ?main) (T1 ?_ ?_ ?_ ?_ ?_)
         case main => (obtain ⟨t1, t2⟩ := t; clear T1 T2 m1 m2 h0 h1 h2 h3 h4 h5 h6 hw; simp_all; done)
         all_goals (clear T1 T2 m1 m2 h0 h1 h2 h3 h4 h5 h6 hw; first | assumption | rfl | (simp [*]; done)))
      | (refine (fun t => ?main) (T2 ?_ ?_ ?_ ?_ ?_ ?_ ?_)
         case main => (obtain ⟨t1, t2⟩ := t; clear T1 T2 m1 m2 h0 h1 h2 h3 h4 h5 h6 hw; simp_all; done)
         all_goals (clear T1 T2 m1 m2 h0 h1 h2 h3 h4 h5 h6 hw; first | assumption | rfl | (simp [*]; done)))
set_option maxHeartbeats 4000000 in
theorem e_true_tft (p0 p1 : Int) (f0 f1 f2 f3 : Bool) (z0 : f0 = true) (z1 : f1 = false) (z2 : f2 = true) (a0 b0 a1 b1 a2 b2 a3 b3 v : Int) (hI : All64 a0 b0 a1 b1 a2 b2 a3 b3) : PCalls Try.prog 5 [sp2 p0 p1, sens3 f0 f1 f2 a0 b0 a1 b1 a2 b2, sens f3 a3 b3, .int .i64 v] (fun r => r = .bool true) := by
  obtain ⟨tl, th, ok, ag, lo, hi, n, cl, cf, s0, s1, hF⟩ := fuse_ex p0 p1 f0 f1 f2 f3 a0 b0 a1 b1 a2 b2 a3 b3
  have m1 := e_fuseX hF hI
  obtain ⟨u, hu⟩ : ∃ x, mayV p0 p1 = x := ⟨_, rfl⟩
  have m2 := e_may17 p0 p1 u hu
  obtain ⟨w, kw⟩ : ∃ x, decide (p0 ≤ v ∧ v ≤ p1) = x := ⟨_, rfl⟩
  obtain ⟨w0, k0⟩ : ∃ x, decide (a0 ≤ v ∧ v ≤ b0) = x := ⟨_, rfl⟩
  obtain ⟨w1, k1⟩ : ∃ x, decide (a1 ≤ v ∧ v ≤ b1) = x := ⟨_, rfl⟩
  obtain ⟨w2, k2⟩ : ∃ x, decide (a2 ≤ v ∧ v ≤ b2) = x := ⟨_, rfl⟩
  obtain ⟨w3, k3⟩ : ∃ x, decide (a3 ≤ v ∧ v ≤ b3) = x := ⟨_, rfl⟩
  obtain ⟨wf, kf⟩ : ∃ x, decide (lo ≤ v ∧ v ≤ hi) = x := ⟨_, rfl⟩
  obtain ⟨g, kg⟩ : ∃ x, decide (max (max a0 a1) a2 ≤ min (min b0 b1) b2) = x := ⟨_, rfl⟩
  have h0 := e_has17 p0 p1 v w kw
  have h1 := e_has17 a0 b0 v w0 k0
  have h2 := e_has17 a1 b1 v w1 k1
  have h3 := e_has17 a2 b2 v w2 k2
  have h4 := e_has17 a3 b3 v w3 k3
  have h5 := e_has17 lo hi v wf kf
  have h6 := e_agree f0 f1 f2 a0 b0 a1 b1 a2 b2 g kg
  have T1 : w = true → (f3 = true → w3 = true) → (f0 = true → w0 = true) → (f1 = true → w1 = true) → (f2 = true → w2 = true) → wf = true ∧ cf = false := by
    intro q0 q1 q2 q3 q4
    have t := tog_all hF v (fun h => has_of k0 (q2 h)) (fun h => has_of k1 (q3 h)) (fun h => has_of k2 (q4 h))
    obtain ⟨r1, r2, r3⟩ := fuse_true hF v (has_of kw q0) (fun h => has_of k3 (q1 h)) (by rcases t with t | ⟨t1, t2, _⟩; exact .inl t; exact .inr ⟨t1, t2⟩)
    exact ⟨by rw [← kf]; simp [r1, r2], r3⟩
  have T2 : w = true → (f3 = true → w3 = true) → f0 = true → f1 = true → f2 = true → g = false → (w0 = true ∧ w1 = true) ∨ (w0 = true ∧ w2 = true) ∨ (w1 = true ∧ w2 = true) → wf = true ∧ cf = false := by
    intro q0 q1 z0 z1 z2 q2 q3
    subst z0 z1 z2
    have t := tog_but hF v (by rw [q2] at kg; simpa using kg) (by
      rcases q3 with ⟨x, y⟩ | ⟨x, y⟩ | ⟨x, y⟩
      · exact .inl ⟨has_of k0 x, has_of k1 y⟩
      · exact .inr (.inl ⟨has_of k0 x, has_of k2 y⟩)
      · exact .inr (.inr ⟨has_of k1 x, has_of k2 y⟩))
    obtain ⟨r1, r2, r3⟩ := fuse_true hF v (has_of kw q0) (fun h => has_of k3 (q1 h)) (.inr ⟨t.1, t.2.1⟩)
    exact ⟨by rw [← kf]; simp [r1, r2], r3⟩
  have hn : n = bitN f0 + bitN f1 + bitN f2 := by rw [hF.len, fit_n]
  clear hF kw k0 k1 k2 k3 kf kg
  subst z0 z1 z2
  · simp only [bitN, if_true, Bool.false_eq_true, if_false] at hn
    subst hn
    (refine PCalls.ofY Try.func5 (by kernel_rfl) (by kernel_rfl) fun w hw R hR => ?_); (obtain ⟨wbin, wcmp, wun, wconv, wnot, wbeq, wmm, wscmp, wsadd, wslen, wsat, weqs, wlen, wnlen, wofNat, wtake, wdrop, wapp, wzero, wnat⟩ := w); (have hbin : wbin = binStd := congrArg Prims.bin hw); (have hcmp : wcmp = cmpStd := congrArg Prims.cmp hw); (have hun : wun = unStd := congrArg Prims.un hw); (have hconv : wconv = fun k n => k.wrap n := congrArg Prims.conv hw); (have hnot : wnot = fun b => !b := congrArg Prims.not hw); (have hbeq : wbeq = fun a b => a == b := congrArg Prims.beq hw); (have hmm : wmm = maxI := congrArg Prims.mm hw); (have hscmp : wscmp = scmpStd := congrArg Prims.scmp hw); (have hsadd : wsadd = fun x y => x ++ y := congrArg Prims.sadd hw); (have hslen : wslen = fun s => (s.size : Int) := congrArg Prims.slen hw); (have hsat : wsat = std.sat := congrArg Prims.sat hw); (have heqs : weqs = fun a b os => (eqOffs a b os).getD false := congrArg Prims.eqs hw); (have hlen : wlen = fun es => (es.length : Int) := congrArg Prims.len hw); (have hnlen : wnlen = fun es => es.length := congrArg Prims.nlen hw); (have hofNat : wofNat = (fun n : Nat => (n : Int)) := congrArg Prims.ofNat hw); (have htake : wtake = fun es b => es.take b.toNat := congrArg Prims.take hw); (have hdrop : wdrop = fun es a => es.drop a.toNat := congrArg Prims.drop hw); (have happ : wapp = fun a b => a ++ b := congrArg Prims.app hw); (have hzero : wzero = fun n z => List.replicate n.toNat z := congrArg Prims.zero hw); (have hnat : wnat = fun n => n.toNat := congrArg Prims.nat hw); (conv => arg 2; cbv); (generalize hP : Try.prog = P); cbv
    have cgtr01 : wcmp .gtr 0 1 = false := by rw [hcmp]; rfl
    have ceql01 : wcmp .eql 0 1 = false := by rw [hcmp]; rfl
    have clss03 : wcmp .lss 0 3 = true := by rw [hcmp]; rfl
    have ceql00 : wcmp .eql 0 0 = true := by rw [hcmp]; rfl
    have ceql10 : wcmp .eql 1 0 = false := by rw [hcmp]; rfl
    have ceql20 : wcmp .eql 2 0 = false := by rw [hcmp]; rfl
    have ceql30 : wcmp .eql 3 0 = false := by rw [hcmp]; rfl
    have cgtr11 : wcmp .gtr 1 1 = false := by rw [hcmp]; rfl
    have ceql11 : wcmp .eql 1 1 = true := by rw [hcmp]; rfl
    have clss13 : wcmp .lss 1 3 = true := by rw [hcmp]; rfl
    have cgtr21 : wcmp .gtr 2 1 = true := by rw [hcmp]; rfl
    have ceql21 : wcmp .eql 2 1 = false := by rw [hcmp]; rfl
    have clss23 : wcmp .lss 2 3 = true := by rw [hcmp]; rfl
    have ceql02 : wcmp .eql 0 2 = false := by rw [hcmp]; rfl
    have ceql12 : wcmp .eql 1 2 = false := by rw [hcmp]; rfl
    have ceql22 : wcmp .eql 2 2 = true := by rw [hcmp]; rfl
    have ceql32 : wcmp .eql 3 2 = false := by rw [hcmp]; rfl
    have cgtr31 : wcmp .gtr 3 1 = true := by rw [hcmp]; rfl
    have ceql31 : wcmp .eql 3 1 = false := by rw [hcmp]; rfl
    have clss33 : wcmp .lss 3 3 = false := by rw [hcmp]; rfl
    have ceql03 : wcmp .eql 0 3 = false := by rw [hcmp]; rfl
    have ceql13 : wcmp .eql 1 3 = false := by rw [hcmp]; rfl
    have ceql23 : wcmp .eql 2 3 = false := by rw [hcmp]; rfl
    have ceql33 : wcmp .eql 3 3 = true := by rw [hcmp]; rfl
    have e0 : wbin .add .i64 0 1 = 1 := by rw [hbin]; rfl
    have e1 : wbin .add .i64 1 1 = 2 := by rw [hbin]; rfl
    have e2 : wbin .add .i64 2 1 = 3 := by rw [hbin]; rfl
    have n1 : wnot true = false := by rw [hnot]; rfl
    have n2 : wnot false = true := by rw [hnot]; rfl
    refine Call.stepE (by rw [← hP]; exact e_anchor17) rfl ?_
    cbv
    repeat' (first
      | (simp only [cgtr01, ceql01, clss03, ceql00, ceql10, ceql20, ceql30, cgtr11, ceql11, clss13, cgtr21, ceql21, clss23, ceql02, ceql12, ceql22, ceql32, cgtr31, ceql31, clss33, ceql03, ceql13, ceql23, ceql33, e0, e1, e2, n1, n2]; cbv)
      | (simp only [cgtr01, ceql01, clss03, ceql00, ceql10, ceql20, ceql30, cgtr11, ceql11, clss13, cgtr21, ceql21, clss23, ceql02, ceql12, ceql22, ceql32, cgtr31, ceql31, clss33, ceql03, ceql13, ceql23, ceql33, e0, e1, e2, n1, n2])
      | (refine Call.stepE (by rw [← hP]; exact m1) rfl ?_; cbv)
      | (refine Call.stepE (by rw [← hP]; exact m2) rfl ?_; cbv)
      | (refine Call.stepE (by rw [← hP]; exact h0) rfl ?_; cbv)
      | (refine Call.stepE (by rw [← hP]; exact h1) rfl ?_; cbv)
      | (refine Call.stepE (by rw [← hP]; exact h2) rfl ?_; cbv)
      | (refine Call.stepE (by rw [← hP]; exact h3) rfl ?_; cbv)
      | (refine Call.stepE (by rw [← hP]; exact h4) rfl ?_; cbv)
      | (refine Call.stepE (by rw [← hP]; exact h5) rfl ?_; cbv)
      | (refine Call.stepE (by rw [← hP]; exact h6) rfl ?_; cbv)
      | (refine Call.step (by rw [← hP]; exact e_given _ _ _ f3 a0 b0 a1 b1 a2 b2 a3 b3) rfl ?_; rintro r (⟨x0, x1, x2, x3, x4, x5, x6, x7, y0, y1, y2, y3, rfl, ho⟩ | ⟨y0, y1, y2, y3, rfl, hy, ho⟩) <;> cbv)
      | (refine InN.mk (by decide) (by decide) ?_; cbv)
      | ((refine Loop.rounds hw 4 ?_; cbv))
      | (split <;> rename_i h <;> (try (simp only [cgtr01, ceql01, clss03, ceql00, ceql10, ceql20, ceql30, cgtr11, ceql11, clss13, cgtr21, ceql21, clss23, ceql02, ceql12, ceql22, ceql32, cgtr31, ceql31, clss33, ceql03, ceql13, ceql23, ceql33, e0, e1, e2, n1, n2] at h)) <;> (try (simp only [hbin, hcmp, hun, hconv, hnot, hbeq, hmm, hscmp, hsadd, hslen, hsat, heqs, hofNat, binStd, cmpStd, unStd, scmpStd, maxI, Bool.not_eq_true', Bool.not_eq_false', decide_eq_true_eq, decide_eq_false_iff_not, Int.not_lt, Int.not_le, if_true, if_false, Bool.false_eq_true, beq_iff_eq, bne_iff_ne, ne_eq, Bool.not_eq_eq_eq_not, Bool.not_true, Bool.not_false, beq_eq_false_iff_ne, bne_eq_false_iff_eq, Int.ofNat_eq_natCast, Bool.not_not, not_true_eq_false, not_false_eq_true, reduceCtorEq] at h)) <;> (try cbv)))
    all_goals first
      | (refine ⟨_, Vw.same rfl, hR _ rfl⟩)
      | (refine (fun t => ?main) (T1 ?_ ?_ ?_ ?_ ?_)
         case main => (obtain ⟨t1, t2⟩ := t; clear T1 T2 m1 m2 h0 h1 h2 h3 h4 h5 h6 hw; simp_all; done)
         all_goals (clear T1 T2 m1 m2 h0 h1 h2 h3 h4 h5 h6 hw; first | assumption | rfl | (simp [*]; done)))
      | (refine (fun t => ?main) (T2 ?_ ?_ ?_ ?_ ?_ ?_ ?_)
         case main => (obtain ⟨t1, t2⟩ := t; clear T1 T2 m1 m2 h0 h1 h2 h3 h4 h5 h6 hw; simp_all; done)
         all_goals (clear T1 T2 m1 m2 h0 h1 h2 h3 h4 h5 h6 hw; first | assumption | rfl | (simp [*]; done)))
set_option maxHeartbeats 4000000 in
theorem e_true_ttf (p0 p1 : Int) (f0 f1 f2 f3 : Bool) (z0 : f0 = true) (z1 : f1 = true) (z2 : f2 = false) (a0 b0 a1 b1 a2 b2 a3 b3 v : Int) (hI : All64 a0 b0 a1 b1 a2 b2 a3 b3) : PCalls Try.prog 5 [sp2 p0 p1, sens3 f0 f1 f2 a0 b0 a1 b1 a2 b2, sens f3 a3 b3, .int .i64 v] (fun r => r = .bool true) := by
  obtain ⟨tl, th, ok, ag, lo, hi, n, cl, cf, s0, s1, hF⟩ := fuse_ex p0 p1 f0 f1 f2 f3 a0 b0 a1 b1 a2 b2 a3 b3
  have m1 := e_fuseX hF hI
  obtain ⟨u, hu⟩ : ∃ x, mayV p0 p1 = x := ⟨_, rfl⟩
  have m2 := e_may17 p0 p1 u hu
  obtain ⟨w, kw⟩ : ∃ x, decide (p0 ≤ v ∧ v ≤ p1) = x := ⟨_, rfl⟩
  obtain ⟨w0, k0⟩ : ∃ x, decide (a0 ≤ v ∧ v ≤ b0) = x := ⟨_, rfl⟩
  obtain ⟨w1, k1⟩ : ∃ x, decide (a1 ≤ v ∧ v ≤ b1) = x := ⟨_, rfl⟩
  obtain ⟨w2, k2⟩ : ∃ x, decide (a2 ≤ v ∧ v ≤ b2) = x := ⟨_, rfl⟩
  obtain ⟨w3, k3⟩ : ∃ x, decide (a3 ≤ v ∧ v ≤ b3) = x := ⟨_, rfl⟩
  obtain ⟨wf, kf⟩ : ∃ x, decide (lo ≤ v ∧ v ≤ hi) = x := ⟨_, rfl⟩
  obtain ⟨g, kg⟩ : ∃ x, decide (max (max a0 a1) a2 ≤ min (min b0 b1) b2) = x := ⟨_, rfl⟩
  have h0 := e_has17 p0 p1 v w kw
  have h1 := e_has17 a0 b0 v w0 k0
  have h2 := e_has17 a1 b1 v w1 k1
  have h3 := e_has17 a2 b2 v w2 k2
  have h4 := e_has17 a3 b3 v w3 k3
  have h5 := e_has17 lo hi v wf kf
  have h6 := e_agree f0 f1 f2 a0 b0 a1 b1 a2 b2 g kg
  have T1 : w = true → (f3 = true → w3 = true) → (f0 = true → w0 = true) → (f1 = true → w1 = true) → (f2 = true → w2 = true) → wf = true ∧ cf = false := by
    intro q0 q1 q2 q3 q4
    have t := tog_all hF v (fun h => has_of k0 (q2 h)) (fun h => has_of k1 (q3 h)) (fun h => has_of k2 (q4 h))
    obtain ⟨r1, r2, r3⟩ := fuse_true hF v (has_of kw q0) (fun h => has_of k3 (q1 h)) (by rcases t with t | ⟨t1, t2, _⟩; exact .inl t; exact .inr ⟨t1, t2⟩)
    exact ⟨by rw [← kf]; simp [r1, r2], r3⟩
  have T2 : w = true → (f3 = true → w3 = true) → f0 = true → f1 = true → f2 = true → g = false → (w0 = true ∧ w1 = true) ∨ (w0 = true ∧ w2 = true) ∨ (w1 = true ∧ w2 = true) → wf = true ∧ cf = false := by
    intro q0 q1 z0 z1 z2 q2 q3
    subst z0 z1 z2
    have t := tog_but hF v (by rw [q2] at kg; simpa using kg) (by
      rcases q3 with ⟨x, y⟩ | ⟨x, y⟩ | ⟨x, y⟩
      · exact .inl ⟨has_of k0 x, has_of k1 y⟩
      · exact .inr (.inl ⟨has_of k0 x, has_of k2 y⟩)
      · exact .inr (.inr ⟨has_of k1 x, has_of k2 y⟩))
    obtain ⟨r1, r2, r3⟩ := fuse_true hF v (has_of kw q0) (fun h => has_of k3 (q1 h)) (.inr ⟨t.1, t.2.1⟩)
    exact ⟨by rw [← kf]; simp [r1, r2], r3⟩
  have hn : n = bitN f0 + bitN f1 + bitN f2 := by rw [hF.len, fit_n]
  clear hF kw k0 k1 k2 k3 kf kg
  subst z0 z1 z2
  · simp only [bitN, if_true, Bool.false_eq_true, if_false] at hn
    subst hn
    (refine PCalls.ofY Try.func5 (by kernel_rfl) (by kernel_rfl) fun w hw R hR => ?_); (obtain ⟨wbin, wcmp, wun, wconv, wnot, wbeq, wmm, wscmp, wsadd, wslen, wsat, weqs, wlen, wnlen, wofNat, wtake, wdrop, wapp, wzero, wnat⟩ := w); (have hbin : wbin = binStd := congrArg Prims.bin hw); (have hcmp : wcmp = cmpStd := congrArg Prims.cmp hw); (have hun : wun = unStd := congrArg Prims.un hw); (have hconv : wconv = fun k n => k.wrap n := congrArg Prims.conv hw); (have hnot : wnot = fun b => !b := congrArg Prims.not hw); (have hbeq : wbeq = fun a b => a == b := congrArg Prims.beq hw); (have hmm : wmm = maxI := congrArg Prims.mm hw); (have hscmp : wscmp = scmpStd := congrArg Prims.scmp hw); (have hsadd : wsadd = fun x y => x ++ y := congrArg Prims.sadd hw); (have hslen : wslen = fun s => (s.size : Int) := congrArg Prims.slen hw); (have hsat : wsat = std.sat := congrArg Prims.sat hw); (have heqs : weqs = fun a b os => (eqOffs a b os).getD false := congrArg Prims.eqs hw); (have hlen : wlen = fun es => (es.length : Int) := congrArg Prims.len hw); (have hnlen : wnlen = fun es => es.length := congrArg Prims.nlen hw); (have hofNat : wofNat = (fun n : Nat => (n : Int)) := congrArg Prims.ofNat hw); (have htake : wtake = fun es b => es.take b.toNat := congrArg Prims.take hw); (have hdrop : wdrop = fun es a => es.drop a.toNat := congrArg Prims.drop hw); (have happ : wapp = fun a b => a ++ b := congrArg Prims.app hw); (have hzero : wzero = fun n z => List.replicate n.toNat z := congrArg Prims.zero hw); (have hnat : wnat = fun n => n.toNat := congrArg Prims.nat hw); (conv => arg 2; cbv); (generalize hP : Try.prog = P); cbv
    have cgtr01 : wcmp .gtr 0 1 = false := by rw [hcmp]; rfl
    have ceql01 : wcmp .eql 0 1 = false := by rw [hcmp]; rfl
    have clss03 : wcmp .lss 0 3 = true := by rw [hcmp]; rfl
    have ceql00 : wcmp .eql 0 0 = true := by rw [hcmp]; rfl
    have ceql10 : wcmp .eql 1 0 = false := by rw [hcmp]; rfl
    have ceql20 : wcmp .eql 2 0 = false := by rw [hcmp]; rfl
    have ceql30 : wcmp .eql 3 0 = false := by rw [hcmp]; rfl
    have cgtr11 : wcmp .gtr 1 1 = false := by rw [hcmp]; rfl
    have ceql11 : wcmp .eql 1 1 = true := by rw [hcmp]; rfl
    have clss13 : wcmp .lss 1 3 = true := by rw [hcmp]; rfl
    have cgtr21 : wcmp .gtr 2 1 = true := by rw [hcmp]; rfl
    have ceql21 : wcmp .eql 2 1 = false := by rw [hcmp]; rfl
    have clss23 : wcmp .lss 2 3 = true := by rw [hcmp]; rfl
    have ceql02 : wcmp .eql 0 2 = false := by rw [hcmp]; rfl
    have ceql12 : wcmp .eql 1 2 = false := by rw [hcmp]; rfl
    have ceql22 : wcmp .eql 2 2 = true := by rw [hcmp]; rfl
    have ceql32 : wcmp .eql 3 2 = false := by rw [hcmp]; rfl
    have cgtr31 : wcmp .gtr 3 1 = true := by rw [hcmp]; rfl
    have ceql31 : wcmp .eql 3 1 = false := by rw [hcmp]; rfl
    have clss33 : wcmp .lss 3 3 = false := by rw [hcmp]; rfl
    have ceql03 : wcmp .eql 0 3 = false := by rw [hcmp]; rfl
    have ceql13 : wcmp .eql 1 3 = false := by rw [hcmp]; rfl
    have ceql23 : wcmp .eql 2 3 = false := by rw [hcmp]; rfl
    have ceql33 : wcmp .eql 3 3 = true := by rw [hcmp]; rfl
    have e0 : wbin .add .i64 0 1 = 1 := by rw [hbin]; rfl
    have e1 : wbin .add .i64 1 1 = 2 := by rw [hbin]; rfl
    have e2 : wbin .add .i64 2 1 = 3 := by rw [hbin]; rfl
    have n1 : wnot true = false := by rw [hnot]; rfl
    have n2 : wnot false = true := by rw [hnot]; rfl
    refine Call.stepE (by rw [← hP]; exact e_anchor17) rfl ?_
    cbv
    repeat' (first
      | (simp only [cgtr01, ceql01, clss03, ceql00, ceql10, ceql20, ceql30, cgtr11, ceql11, clss13, cgtr21, ceql21, clss23, ceql02, ceql12, ceql22, ceql32, cgtr31, ceql31, clss33, ceql03, ceql13, ceql23, ceql33, e0, e1, e2, n1, n2]; cbv)
      | (simp only [cgtr01, ceql01, clss03, ceql00, ceql10, ceql20, ceql30, cgtr11, ceql11, clss13, cgtr21, ceql21, clss23, ceql02, ceql12, ceql22, ceql32, cgtr31, ceql31, clss33, ceql03, ceql13, ceql23, ceql33, e0, e1, e2, n1, n2])
      | (refine Call.stepE (by rw [← hP]; exact m1) rfl ?_; cbv)
      | (refine Call.stepE (by rw [← hP]; exact m2) rfl ?_; cbv)
      | (refine Call.stepE (by rw [← hP]; exact h0) rfl ?_; cbv)
      | (refine Call.stepE (by rw [← hP]; exact h1) rfl ?_; cbv)
      | (refine Call.stepE (by rw [← hP]; exact h2) rfl ?_; cbv)
      | (refine Call.stepE (by rw [← hP]; exact h3) rfl ?_; cbv)
      | (refine Call.stepE (by rw [← hP]; exact h4) rfl ?_; cbv)
      | (refine Call.stepE (by rw [← hP]; exact h5) rfl ?_; cbv)
      | (refine Call.stepE (by rw [← hP]; exact h6) rfl ?_; cbv)
      | (refine Call.step (by rw [← hP]; exact e_given _ _ _ f3 a0 b0 a1 b1 a2 b2 a3 b3) rfl ?_; rintro r (⟨x0, x1, x2, x3, x4, x5, x6, x7, y0, y1, y2, y3, rfl, ho⟩ | ⟨y0, y1, y2, y3, rfl, hy, ho⟩) <;> cbv)
      | (refine InN.mk (by decide) (by decide) ?_; cbv)
      | ((refine Loop.rounds hw 4 ?_; cbv))
      | (split <;> rename_i h <;> (try (simp only [cgtr01, ceql01, clss03, ceql00, ceql10, ceql20, ceql30, cgtr11, ceql11, clss13, cgtr21, ceql21, clss23, ceql02, ceql12, ceql22, ceql32, cgtr31, ceql31, clss33, ceql03, ceql13, ceql23, ceql33, e0, e1, e2, n1, n2] at h)) <;> (try (simp only [hbin, hcmp, hun, hconv, hnot, hbeq, hmm, hscmp, hsadd, hslen, hsat, heqs, hofNat, binStd, cmpStd, unStd, scmpStd, maxI, Bool.not_eq_true', Bool.not_eq_false', decide_eq_true_eq, decide_eq_false_iff_not, Int.not_lt, Int.not_le, if_true, if_false, Bool.false_eq_true, beq_iff_eq, bne_iff_ne, ne_eq, Bool.not_eq_eq_eq_not, Bool.not_true, Bool.not_false, beq_eq_false_iff_ne, bne_eq_false_iff_eq, Int.ofNat_eq_natCast, Bool.not_not, not_true_eq_false, not_false_eq_true, reduceCtorEq] at h)) <;> (try cbv)))
    all_goals first
      | (refine ⟨_, Vw.same rfl, hR _ rfl⟩)
      | (refine (fun t => ?main) (T1 ?_ ?_ ?_ ?_ ?_)
         case main => (obtain ⟨t1, t2⟩ := t; clear T1 T2 m1 m2 h0 h1 h2 h3 h4 h5 h6 hw; simp_all; done)
         all_goals (clear T1 T2 m1 m2 h0 h1 h2 h3 h4 h5 h6 hw; first | assumption | rfl | (simp [*]; done)))
      | (refine (fun t => ?main) (T2 ?_ ?_ ?_ ?_ ?_ ?_ ?_)
         case main => (obtain ⟨t1, t2⟩ := t; clear T1 T2 m1 m2 h0 h1 h2 h3 h4 h5 h6 hw; simp_all; done)
         all_goals (clear T1 T2 m1 m2 h0 h1 h2 h3 h4 h5 h6 hw; first | assumption | rfl | (simp [*]; done)))
set_option maxHeartbeats 4000000 in
theorem e_true_ttt (p0 p1 : Int) (f0 f1 f2 f3 : Bool) (z0 : f0 = true) (z1 : f1 = true) (z2 : f2 = true) (a0 b0 a1 b1 a2 b2 a3 b3 v : Int) (hI : All64 a0 b0 a1 b1 a2 b2 a3 b3) : PCalls Try.prog 5 [sp2 p0 p1, sens3 f0 f1 f2 a0 b0 a1 b1 a2 b2, sens f3 a3 b3, .int .i64 v] (fun r => r = .bool true) := by
  obtain ⟨tl, th, ok, ag, lo, hi, n, cl, cf, s0, s1, hF⟩ := fuse_ex p0 p1 f0 f1 f2 f3 a0 b0 a1 b1 a2 b2 a3 b3
  have m1 := e_fuseX hF hI
  obtain ⟨u, hu⟩ : ∃ x, mayV p0 p1 = x := ⟨_, rfl⟩
  have m2 := e_may17 p0 p1 u hu
  obtain ⟨w, kw⟩ : ∃ x, decide (p0 ≤ v ∧ v ≤ p1) = x := ⟨_, rfl⟩
  obtain ⟨w0, k0⟩ : ∃ x, decide (a0 ≤ v ∧ v ≤ b0) = x := ⟨_, rfl⟩
  obtain ⟨w1, k1⟩ : ∃ x, decide (a1 ≤ v ∧ v ≤ b1) = x := ⟨_, rfl⟩
  obtain ⟨w2, k2⟩ : ∃ x, decide (a2 ≤ v ∧ v ≤ b2) = x := ⟨_, rfl⟩
  obtain ⟨w3, k3⟩ : ∃ x, decide (a3 ≤ v ∧ v ≤ b3) = x := ⟨_, rfl⟩
  obtain ⟨wf, kf⟩ : ∃ x, decide (lo ≤ v ∧ v ≤ hi) = x := ⟨_, rfl⟩
  obtain ⟨g, kg⟩ : ∃ x, decide (max (max a0 a1) a2 ≤ min (min b0 b1) b2) = x := ⟨_, rfl⟩
  have h0 := e_has17 p0 p1 v w kw
  have h1 := e_has17 a0 b0 v w0 k0
  have h2 := e_has17 a1 b1 v w1 k1
  have h3 := e_has17 a2 b2 v w2 k2
  have h4 := e_has17 a3 b3 v w3 k3
  have h5 := e_has17 lo hi v wf kf
  have h6 := e_agree f0 f1 f2 a0 b0 a1 b1 a2 b2 g kg
  have T1 : w = true → (f3 = true → w3 = true) → (f0 = true → w0 = true) → (f1 = true → w1 = true) → (f2 = true → w2 = true) → wf = true ∧ cf = false := by
    intro q0 q1 q2 q3 q4
    have t := tog_all hF v (fun h => has_of k0 (q2 h)) (fun h => has_of k1 (q3 h)) (fun h => has_of k2 (q4 h))
    obtain ⟨r1, r2, r3⟩ := fuse_true hF v (has_of kw q0) (fun h => has_of k3 (q1 h)) (by rcases t with t | ⟨t1, t2, _⟩; exact .inl t; exact .inr ⟨t1, t2⟩)
    exact ⟨by rw [← kf]; simp [r1, r2], r3⟩
  have T2 : w = true → (f3 = true → w3 = true) → f0 = true → f1 = true → f2 = true → g = false → (w0 = true ∧ w1 = true) ∨ (w0 = true ∧ w2 = true) ∨ (w1 = true ∧ w2 = true) → wf = true ∧ cf = false := by
    intro q0 q1 z0 z1 z2 q2 q3
    subst z0 z1 z2
    have t := tog_but hF v (by rw [q2] at kg; simpa using kg) (by
      rcases q3 with ⟨x, y⟩ | ⟨x, y⟩ | ⟨x, y⟩
      · exact .inl ⟨has_of k0 x, has_of k1 y⟩
      · exact .inr (.inl ⟨has_of k0 x, has_of k2 y⟩)
      · exact .inr (.inr ⟨has_of k1 x, has_of k2 y⟩))
    obtain ⟨r1, r2, r3⟩ := fuse_true hF v (has_of kw q0) (fun h => has_of k3 (q1 h)) (.inr ⟨t.1, t.2.1⟩)
    exact ⟨by rw [← kf]; simp [r1, r2], r3⟩
  have hn : n = bitN f0 + bitN f1 + bitN f2 := by rw [hF.len, fit_n]
  clear hF kw k0 k1 k2 k3 kf kg
  subst z0 z1 z2
  · simp only [bitN, if_true, Bool.false_eq_true, if_false] at hn
    subst hn
    (refine PCalls.ofY Try.func5 (by kernel_rfl) (by kernel_rfl) fun w hw R hR => ?_); (obtain ⟨wbin, wcmp, wun, wconv, wnot, wbeq, wmm, wscmp, wsadd, wslen, wsat, weqs, wlen, wnlen, wofNat, wtake, wdrop, wapp, wzero, wnat⟩ := w); (have hbin : wbin = binStd := congrArg Prims.bin hw); (have hcmp : wcmp = cmpStd := congrArg Prims.cmp hw); (have hun : wun = unStd := congrArg Prims.un hw); (have hconv : wconv = fun k n => k.wrap n := congrArg Prims.conv hw); (have hnot : wnot = fun b => !b := congrArg Prims.not hw); (have hbeq : wbeq = fun a b => a == b := congrArg Prims.beq hw); (have hmm : wmm = maxI := congrArg Prims.mm hw); (have hscmp : wscmp = scmpStd := congrArg Prims.scmp hw); (have hsadd : wsadd = fun x y => x ++ y := congrArg Prims.sadd hw); (have hslen : wslen = fun s => (s.size : Int) := congrArg Prims.slen hw); (have hsat : wsat = std.sat := congrArg Prims.sat hw); (have heqs : weqs = fun a b os => (eqOffs a b os).getD false := congrArg Prims.eqs hw); (have hlen : wlen = fun es => (es.length : Int) := congrArg Prims.len hw); (have hnlen : wnlen = fun es => es.length := congrArg Prims.nlen hw); (have hofNat : wofNat = (fun n : Nat => (n : Int)) := congrArg Prims.ofNat hw); (have htake : wtake = fun es b => es.take b.toNat := congrArg Prims.take hw); (have hdrop : wdrop = fun es a => es.drop a.toNat := congrArg Prims.drop hw); (have happ : wapp = fun a b => a ++ b := congrArg Prims.app hw); (have hzero : wzero = fun n z => List.replicate n.toNat z := congrArg Prims.zero hw); (have hnat : wnat = fun n => n.toNat := congrArg Prims.nat hw); (conv => arg 2; cbv); (generalize hP : Try.prog = P); cbv
    have cgtr01 : wcmp .gtr 0 1 = false := by rw [hcmp]; rfl
    have ceql01 : wcmp .eql 0 1 = false := by rw [hcmp]; rfl
    have clss03 : wcmp .lss 0 3 = true := by rw [hcmp]; rfl
    have ceql00 : wcmp .eql 0 0 = true := by rw [hcmp]; rfl
    have ceql10 : wcmp .eql 1 0 = false := by rw [hcmp]; rfl
    have ceql20 : wcmp .eql 2 0 = false := by rw [hcmp]; rfl
    have ceql30 : wcmp .eql 3 0 = false := by rw [hcmp]; rfl
    have cgtr11 : wcmp .gtr 1 1 = false := by rw [hcmp]; rfl
    have ceql11 : wcmp .eql 1 1 = true := by rw [hcmp]; rfl
    have clss13 : wcmp .lss 1 3 = true := by rw [hcmp]; rfl
    have cgtr21 : wcmp .gtr 2 1 = true := by rw [hcmp]; rfl
    have ceql21 : wcmp .eql 2 1 = false := by rw [hcmp]; rfl
    have clss23 : wcmp .lss 2 3 = true := by rw [hcmp]; rfl
    have ceql02 : wcmp .eql 0 2 = false := by rw [hcmp]; rfl
    have ceql12 : wcmp .eql 1 2 = false := by rw [hcmp]; rfl
    have ceql22 : wcmp .eql 2 2 = true := by rw [hcmp]; rfl
    have ceql32 : wcmp .eql 3 2 = false := by rw [hcmp]; rfl
    have cgtr31 : wcmp .gtr 3 1 = true := by rw [hcmp]; rfl
    have ceql31 : wcmp .eql 3 1 = false := by rw [hcmp]; rfl
    have clss33 : wcmp .lss 3 3 = false := by rw [hcmp]; rfl
    have ceql03 : wcmp .eql 0 3 = false := by rw [hcmp]; rfl
    have ceql13 : wcmp .eql 1 3 = false := by rw [hcmp]; rfl
    have ceql23 : wcmp .eql 2 3 = false := by rw [hcmp]; rfl
    have ceql33 : wcmp .eql 3 3 = true := by rw [hcmp]; rfl
    have e0 : wbin .add .i64 0 1 = 1 := by rw [hbin]; rfl
    have e1 : wbin .add .i64 1 1 = 2 := by rw [hbin]; rfl
    have e2 : wbin .add .i64 2 1 = 3 := by rw [hbin]; rfl
    have n1 : wnot true = false := by rw [hnot]; rfl
    have n2 : wnot false = true := by rw [hnot]; rfl
    refine Call.stepE (by rw [← hP]; exact e_anchor17) rfl ?_
    cbv
    repeat' (first
      | (simp only [cgtr01, ceql01, clss03, ceql00, ceql10, ceql20, ceql30, cgtr11, ceql11, clss13, cgtr21, ceql21, clss23, ceql02, ceql12, ceql22, ceql32, cgtr31, ceql31, clss33, ceql03, ceql13, ceql23, ceql33, e0, e1, e2, n1, n2]; cbv)
      | (simp only [cgtr01, ceql01, clss03, ceql00, ceql10, ceql20, ceql30, cgtr11, ceql11, clss13, cgtr21, ceql21, clss23, ceql02, ceql12, ceql22, ceql32, cgtr31, ceql31, clss33, ceql03, ceql13, ceql23, ceql33, e0, e1, e2, n1, n2])
      | (refine Call.stepE (by rw [← hP]; exact m1) rfl ?_; cbv)
      | (refine Call.stepE (by rw [← hP]; exact m2) rfl ?_; cbv)
      | (refine Call.stepE (by rw [← hP]; exact h0) rfl ?_; cbv)
      | (refine Call.stepE (by rw [← hP]; exact h1) rfl ?_; cbv)
      | (refine Call.stepE (by rw [← hP]; exact h2) rfl ?_; cbv)
      | (refine Call.stepE (by rw [← hP]; exact h3) rfl ?_; cbv)
      | (refine Call.stepE (by rw [← hP]; exact h4) rfl ?_; cbv)
      | (refine Call.stepE (by rw [← hP]; exact h5) rfl ?_; cbv)
      | (refine Call.stepE (by rw [← hP]; exact h6) rfl ?_; cbv)
      | (refine Call.step (by rw [← hP]; exact e_given _ _ _ f3 a0 b0 a1 b1 a2 b2 a3 b3) rfl ?_; rintro r (⟨x0, x1, x2, x3, x4, x5, x6, x7, y0, y1, y2, y3, rfl, ho⟩ | ⟨y0, y1, y2, y3, rfl, hy, ho⟩) <;> cbv)
      | (refine InN.mk (by decide) (by decide) ?_; cbv)
      | ((refine Loop.rounds hw 4 ?_; cbv))
      | (split <;> rename_i h <;> (try (simp only [cgtr01, ceql01, clss03, ceql00, ceql10, ceql20, ceql30, cgtr11, ceql11, clss13, cgtr21, ceql21, clss23, ceql02, ceql12, ceql22, ceql32, cgtr31, ceql31, clss33, ceql03, ceql13, ceql23, ceql33, e0, e1, e2, n1, n2] at h)) <;> (try (simp only [hbin, hcmp, hun, hconv, hnot, hbeq, hmm, hscmp, hsadd, hslen, hsat, heqs, hofNat, binStd, cmpStd, unStd, scmpStd, maxI, Bool.not_eq_true', Bool.not_eq_false', decide_eq_true_eq, decide_eq_false_iff_not, Int.not_lt, Int.not_le, if_true, if_false, Bool.false_eq_true, beq_iff_eq, bne_iff_ne, ne_eq, Bool.not_eq_eq_eq_not, Bool.not_true, Bool.not_false, beq_eq_false_iff_ne, bne_eq_false_iff_eq, Int.ofNat_eq_natCast, Bool.not_not, not_true_eq_false, not_false_eq_true, reduceCtorEq] at h)) <;> (try cbv)))
    all_goals first
      | (refine ⟨_, Vw.same rfl, hR _ rfl⟩)
      | (refine (fun t => ?main) (T1 ?_ ?_ ?_ ?_ ?_)
         case main => (obtain ⟨t1, t2⟩ := t; clear T1 T2 m1 m2 h0 h1 h2 h3 h4 h5 h6 hw; simp_all; done)
         all_goals (clear T1 T2 m1 m2 h0 h1 h2 h3 h4 h5 h6 hw; first | assumption | rfl | (simp [*]; done)))
      | (refine (fun t => ?main) (T2 ?_ ?_ ?_ ?_ ?_ ?_ ?_)
         case main => (obtain ⟨t1, t2⟩ := t; clear T1 T2 m1 m2 h0 h1 h2 h3 h4 h5 h6 hw; simp_all; done)
         all_goals (clear T1 T2 m1 m2 h0 h1 h2 h3 h4 h5 h6 hw; first | assumption | rfl | (simp [*]; done)))
end Go.Proofs.Ytfonjmhnokailaa


set_option linter.unusedVariables false
set_option maxRecDepth 100000
namespace Go.Proofs.Ytfonjmhnokailaa
open Go Go.RowKit Go.Eng
theorem walk_FuseTrue (x0 x1 x2 x3 : AV) (h0 : TyV Try.prog 8 37 x0) (h1 : TyV Try.prog 8 40 x1) (h2 : TyV Try.prog 8 39 x2) (h3 : TyV Try.prog 8 2 x3) : PCalls Try.prog 5 [x0, x1, x2, x3] (fun r => r = .bool true) := by
  obtain ⟨p0, p1, rfl, _, _⟩ := ty_span x0 h0
  obtain ⟨f0, f1, f2, a0, b0, a1, b1, a2, b2, rfl, k0, k1, k2, k3, k4, k5⟩ := ty_three x1 h1
  obtain ⟨f3, a3, b3, rfl, k6, k7⟩ := ty_sensor x2 h2
  obtain ⟨v, rfl, _, _⟩ := ty_i64 x3 h3
  have hI : All64 a0 b0 a1 b1 a2 b2 a3 b3 := ⟨k0, k1, k2, k3, k4, k5, k6, k7⟩
  cases f0 <;> cases f1 <;> cases f2
  · exact e_true_fff p0 p1 _ _ _ f3 rfl rfl rfl a0 b0 a1 b1 a2 b2 a3 b3 v hI
  · exact e_true_fft p0 p1 _ _ _ f3 rfl rfl rfl a0 b0 a1 b1 a2 b2 a3 b3 v hI
  · exact e_true_ftf p0 p1 _ _ _ f3 rfl rfl rfl a0 b0 a1 b1 a2 b2 a3 b3 v hI
  · exact e_true_ftt p0 p1 _ _ _ f3 rfl rfl rfl a0 b0 a1 b1 a2 b2 a3 b3 v hI
  · exact e_true_tff p0 p1 _ _ _ f3 rfl rfl rfl a0 b0 a1 b1 a2 b2 a3 b3 v hI
  · exact e_true_tft p0 p1 _ _ _ f3 rfl rfl rfl a0 b0 a1 b1 a2 b2 a3 b3 v hI
  · exact e_true_ttf p0 p1 _ _ _ f3 rfl rfl rfl a0 b0 a1 b1 a2 b2 a3 b3 v hI
  · exact e_true_ttt p0 p1 _ _ _ f3 rfl rfl rfl a0 b0 a1 b1 a2 b2 a3 b3 v hI
end Go.Proofs.Ytfonjmhnokailaa


