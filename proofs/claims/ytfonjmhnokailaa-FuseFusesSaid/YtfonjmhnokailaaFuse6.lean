/- The document's fused speed, by the engine. -/
import Derived.Test.YtfonjmhnokailaaFuse4
import Derived.Test.YtfonjmhnokailaaFuseW
import Derived.KernelRfl
set_option linter.unusedVariables false
set_option linter.unusedSimpArgs false
namespace Go.Proofs.Ytfonjmhnokailaa
open Go Go.RowKit Go.Eng
set_option maxRecDepth 100000

set_option maxHeartbeats 4000000 in
theorem d_fuse_tt_fft (p0 p1 : Int) (f0 f1 f2 f3 : Bool) (a0 b0 a1 b1 a2 b2 a3 b3 : Int) (ps : List (Int × Int)) (hps : ps = fitRow f0 a0 b0 ++ fitRow f1 a1 b1 ++ fitRow f2 a2 b2)
  (tl th : Int) (ok ag : Bool) (za : ag = true) (zo : ok = true) (z0 : f0 = false) (z1 : f1 = false) (z2 : f2 = true) (htog : TogIs ps tl th ok ag) (hI : ok = true → I60 tl ∧ I60 th) :
  PCalls Try.prog 15 [sp2 p0 p1, .agg [.int .i64 a0, .int .i64 b0, .int .i64 a1, .int .i64 b1, .int .i64 a2, .int .i64 b2, .int .i64 a3, .int .i64 b3], .agg [.int .i64 (bit f0), .int .i64 (bit f1), .int .i64 (bit f2), .int .i64 (bit f3)]]
    (fun r => ∃ lo hi n cl cf s0 s1, r = .agg [.int .i64 lo, .int .i64 hi, .int .i64 n, .int .i64 (bit cl), .int .i64 (bit cf), .int .i64 s0, .int .i64 s1] ∧ n = ps.length ∧ cl = (ag && decide (n = 3)) ∧ (lo, hi, cf) = nar2 f3 a3 b3 (nar1 ok tl th n p0 p1) ∧ s0 = slip1 ok ag tl th a0 b0 ∧ s1 = slip1 ok ag tl th a1 b1) := by
  have hl3 : ps.length ≤ 3 := by rw [hps]; cases f0 <;> cases f1 <;> cases f2 <;> simp [fitRow]
  obtain ⟨y3, ey3⟩ : ∃ x, bit f3 = x := ⟨_, rfl⟩
  rw [ey3]
  obtain ⟨mm, emm⟩ : ∃ x, (tl + th) / 2 = x := ⟨_, rfl⟩
  obtain ⟨c1, e1⟩ : ∃ x, max p0 tl = x := ⟨_, rfl⟩
  obtain ⟨c2, e2⟩ : ∃ x, min p1 th = x := ⟨_, rfl⟩
  obtain ⟨c3, e3⟩ : ∃ x, meetB p0 p1 tl th = x := ⟨_, rfl⟩
  obtain ⟨d1, e4⟩ : ∃ x, max p0 a3 = x := ⟨_, rfl⟩
  obtain ⟨d2, e5⟩ : ∃ x, min p1 b3 = x := ⟨_, rfl⟩
  obtain ⟨d3, e6⟩ : ∃ x, meetB p0 p1 a3 b3 = x := ⟨_, rfl⟩
  obtain ⟨g1, e7⟩ : ∃ x, max c1 a3 = x := ⟨_, rfl⟩
  obtain ⟨g2, e8⟩ : ∃ x, min c2 b3 = x := ⟨_, rfl⟩
  obtain ⟨g3, e9⟩ : ∃ x, meetB c1 c2 a3 b3 = x := ⟨_, rfl⟩
  obtain ⟨r1, k1⟩ : ∃ x, max a0 tl = x := ⟨_, rfl⟩
  obtain ⟨r2, k2⟩ : ∃ x, min b0 th = x := ⟨_, rfl⟩
  obtain ⟨r3, k3⟩ : ∃ x, meetB a0 b0 tl th = x := ⟨_, rfl⟩
  obtain ⟨t1, k4⟩ : ∃ x, max a1 tl = x := ⟨_, rfl⟩
  obtain ⟨t2, k5⟩ : ∃ x, min b1 th = x := ⟨_, rfl⟩
  obtain ⟨t3, k6⟩ : ∃ x, meetB a1 b1 tl th = x := ⟨_, rfl⟩
  have nM := fun cf => nar_of_max cf e1 e2 e3
  have nN := fun cf => nar_of_max cf e4 e5 e6
  have nO := fun cf => nar_of_max cf e7 e8 e9
  have m1 := d_common p0 p1 tl th c1 c2 c3 e1 e2 e3
  have m2 := d_common p0 p1 a3 b3 d1 d2 d3 e4 e5 e6
  have m3 := d_common c1 c2 a3 b3 g1 g2 g3 e7 e8 e9
  have m4 := d_common a0 b0 tl th r1 r2 r3 k1 k2 k3
  have m5 := d_common a1 b1 tl th t1 t2 t3 k4 k5 k6
  have k3' : meetB tl th a0 b0 = r3 := by rw [← k3, meetB_comm]
  have k6' : meetB tl th a1 b1 = t3 := by rw [← k6, meetB_comm]
  have m6 : ok = true → PCalls Try.prog 29 [.int .i64 tl, .int .i64 th] (· = .int .i64 mm) := fun h => by rw [← emm]; exact d_mid tl th (hI h).1 (hI h).2
  clear e1 e2 e3 e4 e5 e6 e7 e8 e9 k1 k2 k3 k4 k5 k6
  have hy3 : (y3 = 1 ∧ f3 = true) ∨ (y3 = 0 ∧ f3 = false) := by rw [← ey3]; cases f3 <;> simp [bit]
  have B1T : ag = true → 0 < ps.length → ∀ es, es = spRows ps → ∀ n : Int, n = ps.length → PCalls Try.prog 26 [.list 2 es, .int .i64 n] (· = .tuple [sp2 tl th, .bool true]) := fun ha h0 es hes n hn => (d_byAll htog h0 hl3 es hes n hn).mono (by rintro r ⟨l, h, rfl, e⟩; obtain ⟨rfl, rfl⟩ := e ha; rw [ha])
  have B1F : ag = false → 0 < ps.length → ∀ es, es = spRows ps → ∀ n : Int, n = ps.length → PCalls Try.prog 26 [.list 2 es, .int .i64 n] (fun r => ∃ l h, r = .tuple [sp2 l h, .bool false]) := fun ha h0 es hes n hn => (d_byAll htog h0 hl3 es hes n hn).mono (by rintro r ⟨l, h, rfl, e⟩; exact ⟨l, h, by rw [ha]⟩)
  have B2T : ag = false → ok = true → ps.length = 3 → ∀ es, es = spRows ps → PCalls Try.prog 26 [.list 2 es, .int .i64 2] (· = .tuple [sp2 tl th, .bool true]) := fun ha ho h3 es hes => (d_byTwo htog h3 ha es hes).mono (by rintro r ⟨l, h, rfl, e⟩; obtain ⟨rfl, rfl⟩ := e ho; rw [ho])
  have B2F : ag = false → ok = false → ps.length = 3 → ∀ es, es = spRows ps → PCalls Try.prog 26 [.list 2 es, .int .i64 2] (fun r => ∃ l h, r = .tuple [sp2 l h, .bool false]) := fun ha ho h3 es hes => (d_byTwo htog h3 ha es hes).mono (by rintro r ⟨l, h, rfl, e⟩; exact ⟨l, h, by rw [ho]⟩)
  have hTT : ag = true → ok = true := tog_tt htog
  have hFT : ag = false → ok = true → ps.length = 3 := tog_ft htog hl3
  have h0F : ps.length = 0 → ag = false := tog_0 htog
  subst za zo z0 z1 z2
  have hb1 := B1T rfl (by rw [hps]; simp [fitRow]) [[AV.int .i64 a2, .int .i64 b2]] (by rw [hps]; rfl) 1 (by rw [hps]; rfl)
  have hn : ((ps.length : Nat) : Int) = 1 := by rw [hps]; rfl
  clear B1T B1F B2T B2F hTT hFT h0F htog hI hps
  simp only [bit, if_true, Bool.false_eq_true, if_false]
  (refine PCalls.ofY Try.func15 (by kernel_rfl) (by kernel_rfl) fun w hw R hR => ?_); (obtain ⟨wbin, wcmp, wun, wconv, wnot, wbeq, wmm, wscmp, wsadd, wslen, wsat, weqs, wlen, wnlen, wofNat, wtake, wdrop, wapp, wzero, wnat⟩ := w); (have hbin : wbin = binStd := congrArg Prims.bin hw); (have hcmp : wcmp = cmpStd := congrArg Prims.cmp hw); (have hun : wun = unStd := congrArg Prims.un hw); (have hconv : wconv = fun k n => k.wrap n := congrArg Prims.conv hw); (have hnot : wnot = fun b => !b := congrArg Prims.not hw); (have hbeq : wbeq = fun a b => a == b := congrArg Prims.beq hw); (have hmm : wmm = maxI := congrArg Prims.mm hw); (have hscmp : wscmp = scmpStd := congrArg Prims.scmp hw); (have hsadd : wsadd = fun x y => x ++ y := congrArg Prims.sadd hw); (have hslen : wslen = fun s => (s.size : Int) := congrArg Prims.slen hw); (have hsat : wsat = std.sat := congrArg Prims.sat hw); (have heqs : weqs = fun a b os => (eqOffs a b os).getD false := congrArg Prims.eqs hw); (have hlen : wlen = fun es => (es.length : Int) := congrArg Prims.len hw); (have hnlen : wnlen = fun es => es.length := congrArg Prims.nlen hw); (have hofNat : wofNat = (fun n : Nat => (n : Int)) := congrArg Prims.ofNat hw); (have htake : wtake = fun es b => es.take b.toNat := congrArg Prims.take hw); (have hdrop : wdrop = fun es a => es.drop a.toNat := congrArg Prims.drop hw); (have happ : wapp = fun a b => a ++ b := congrArg Prims.app hw); (have hzero : wzero = fun n z => List.replicate n.toNat z := congrArg Prims.zero hw); (have hnat : wnat = fun n => n.toNat := congrArg Prims.nat hw); (conv => arg 2; cbv); (generalize hP : Try.prog = P); cbv
  have e01 : wbin .add .i64 0 1 = 1 := by rw [hbin]; rfl
  have e12 : wbin .add .i64 1 1 = 2 := by rw [hbin]; rfl
  have e23 : wbin .add .i64 2 1 = 3 := by rw [hbin]; rfl
  (refine Loop.rounds hw 4 ?_; cbv)
  have c03 : wcmp .lss 0 3 = true := by rw [hcmp]; rfl
  have c13 : wcmp .lss 1 3 = true := by rw [hcmp]; rfl
  have c23 : wcmp .lss 2 3 = true := by rw [hcmp]; rfl
  have c33 : wcmp .lss 3 3 = false := by rw [hcmp]; rfl
  have c02 : wcmp .lss 0 2 = true := by rw [hcmp]; rfl
  have c12 : wcmp .lss 1 2 = true := by rw [hcmp]; rfl
  have c22 : wcmp .lss 2 2 = false := by rw [hcmp]; rfl
  have q11 : wcmp .eql 1 1 = true := by rw [hcmp]; rfl
  have q01 : wcmp .eql 0 1 = false := by rw [hcmp]; rfl
  have q13 : wcmp .eql 1 3 = false := by rw [hcmp]; rfl
  have g10 : wcmp .gtr 1 0 = true := by rw [hcmp]; rfl
  have n1 : wnot true = false := by rw [hnot]; rfl
  have n2 : wnot false = true := by rw [hnot]; rfl
  repeat' (first
    | (simp only [e01, e12, e23, c03, c13, c23, c33, c02, c12, c22, q11, q01, q13, g10, n1, n2]; cbv)
    | (simp only [e01, e12, e23, c03, c13, c23, c33, c02, c12, c22, q11, q01, q13, g10, n1, n2])
    | (refine InN.mk (by decide) (by decide) ?_; cbv)
    | (refine Ob.mk (by decide) ?_; cbv)
    | (refine App.mk _ _ rfl rfl rfl (by decide) (by decide) ?_; cbv)
    | ((split <;> rename_i h <;> (try (simp only [e01, e12, e23, c03, c13, c23, c33, c02, c12, c22, q11, q01, q13, g10, n1, n2] at h)) <;> (try (simp only [hbin, hcmp, hun, hconv, hnot, hbeq, hmm, hscmp, hsadd, hslen, hsat, heqs, hofNat, binStd, cmpStd, unStd, scmpStd, maxI, Bool.not_eq_true', Bool.not_eq_false', decide_eq_true_eq, decide_eq_false_iff_not, Int.not_lt, Int.not_le, if_true, if_false, Bool.false_eq_true, beq_iff_eq, bne_iff_ne, ne_eq, Bool.not_eq_eq_eq_not, Bool.not_true, Bool.not_false, beq_eq_false_iff_ne, bne_eq_false_iff_eq, Int.ofNat_eq_natCast, Bool.not_not, not_true_eq_false, not_false_eq_true, reduceCtorEq] at h)) <;> (try cbv)) <;> (try (refine absurd h ?_; decide)))
    | (refine Call.view (args' := [.list 2 [[AV.int .i64 a2, .int .i64 b2]], .int .i64 1]) (by rw [← hP]; exact hb1) ⟨Vw.sl (es := [[AV.int .i64 a2, .int .i64 b2]]) rfl rfl (Nat.le_refl _), Vw.same rfl, trivial⟩ ?_; rintro r rfl; refine ⟨rfl, ?_⟩; cbv)
    | (refine Call.stepE (by rw [← hP]; exact m1) rfl ?_; cbv)
    | (refine Call.stepE (by rw [← hP]; exact m2) rfl ?_; cbv)
    | (refine Call.stepE (by rw [← hP]; exact m3) rfl ?_; cbv)
    | (refine Call.stepE (by rw [← hP]; exact m4) rfl ?_; cbv)
    | (refine Call.stepE (by rw [← hP]; exact m5) rfl ?_; cbv)
    | (refine Call.stepE (by rw [← hP]; exact m6 rfl) rfl ?_; cbv)
    | (refine QCal.stepE (by rw [← hP]; exact m4) rfl ?_; cbv)
    | (refine QCal.stepE (by rw [← hP]; exact m5) rfl ?_; cbv)
    | ((refine Call.inl hw hP Try.func27 (by kernel_rfl) (by kernel_rfl) ?_); (conv => arg 2; cbv); cbv)
    | ((refine Loop.rounds hw 3 ?_; cbv)))
  all_goals
    refine ⟨_, Vw.same rfl, ?_⟩
    clear m1 m2 m3 m4 m5 m6 e01 e12 e23 c03 c13 c23 c33 c02 c12 c22 q11 q01 q13 g10 n1 n2 hw
    first
      | (refine hR _ ⟨_, _, 1, false, false, _, _, rfl, ?_⟩; clear hR)
      | (refine hR _ ⟨_, _, 1, false, true, _, _, rfl, ?_⟩; clear hR)
    refine ⟨hn.symm, by decide, ?_, ?_, ?_⟩
    · rcases hy3 with ⟨hy, rfl⟩ | ⟨hy, rfl⟩ <;> first | (exfalso; omega) | (simp [nar2, nar1, nM, nN, nO, *]; done) | (simp [nar2, nar1, nM, nN, nO, *]; omega)
    · first | (simp [slip1, slipV, *]; done) | (simp [slip1, slipV, *]; omega)
    · first | (simp [slip1, slipV, *]; done) | (simp [slip1, slipV, *]; omega)

set_option maxHeartbeats 4000000 in
theorem d_fuse_tt_ftf (p0 p1 : Int) (f0 f1 f2 f3 : Bool) (a0 b0 a1 b1 a2 b2 a3 b3 : Int) (ps : List (Int × Int)) (hps : ps = fitRow f0 a0 b0 ++ fitRow f1 a1 b1 ++ fitRow f2 a2 b2)
  (tl th : Int) (ok ag : Bool) (za : ag = true) (zo : ok = true) (z0 : f0 = false) (z1 : f1 = true) (z2 : f2 = false) (htog : TogIs ps tl th ok ag) (hI : ok = true → I60 tl ∧ I60 th) :
  PCalls Try.prog 15 [sp2 p0 p1, .agg [.int .i64 a0, .int .i64 b0, .int .i64 a1, .int .i64 b1, .int .i64 a2, .int .i64 b2, .int .i64 a3, .int .i64 b3], .agg [.int .i64 (bit f0), .int .i64 (bit f1), .int .i64 (bit f2), .int .i64 (bit f3)]]
    (fun r => ∃ lo hi n cl cf s0 s1, r = .agg [.int .i64 lo, .int .i64 hi, .int .i64 n, .int .i64 (bit cl), .int .i64 (bit cf), .int .i64 s0, .int .i64 s1] ∧ n = ps.length ∧ cl = (ag && decide (n = 3)) ∧ (lo, hi, cf) = nar2 f3 a3 b3 (nar1 ok tl th n p0 p1) ∧ s0 = slip1 ok ag tl th a0 b0 ∧ s1 = slip1 ok ag tl th a1 b1) := by
  have hl3 : ps.length ≤ 3 := by rw [hps]; cases f0 <;> cases f1 <;> cases f2 <;> simp [fitRow]
  obtain ⟨y3, ey3⟩ : ∃ x, bit f3 = x := ⟨_, rfl⟩
  rw [ey3]
  obtain ⟨mm, emm⟩ : ∃ x, (tl + th) / 2 = x := ⟨_, rfl⟩
  obtain ⟨c1, e1⟩ : ∃ x, max p0 tl = x := ⟨_, rfl⟩
  obtain ⟨c2, e2⟩ : ∃ x, min p1 th = x := ⟨_, rfl⟩
  obtain ⟨c3, e3⟩ : ∃ x, meetB p0 p1 tl th = x := ⟨_, rfl⟩
  obtain ⟨d1, e4⟩ : ∃ x, max p0 a3 = x := ⟨_, rfl⟩
  obtain ⟨d2, e5⟩ : ∃ x, min p1 b3 = x := ⟨_, rfl⟩
  obtain ⟨d3, e6⟩ : ∃ x, meetB p0 p1 a3 b3 = x := ⟨_, rfl⟩
  obtain ⟨g1, e7⟩ : ∃ x, max c1 a3 = x := ⟨_, rfl⟩
  obtain ⟨g2, e8⟩ : ∃ x, min c2 b3 = x := ⟨_, rfl⟩
  obtain ⟨g3, e9⟩ : ∃ x, meetB c1 c2 a3 b3 = x := ⟨_, rfl⟩
  obtain ⟨r1, k1⟩ : ∃ x, max a0 tl = x := ⟨_, rfl⟩
  obtain ⟨r2, k2⟩ : ∃ x, min b0 th = x := ⟨_, rfl⟩
  obtain ⟨r3, k3⟩ : ∃ x, meetB a0 b0 tl th = x := ⟨_, rfl⟩
  obtain ⟨t1, k4⟩ : ∃ x, max a1 tl = x := ⟨_, rfl⟩
  obtain ⟨t2, k5⟩ : ∃ x, min b1 th = x := ⟨_, rfl⟩
  obtain ⟨t3, k6⟩ : ∃ x, meetB a1 b1 tl th = x := ⟨_, rfl⟩
  have nM := fun cf => nar_of_max cf e1 e2 e3
  have nN := fun cf => nar_of_max cf e4 e5 e6
  have nO := fun cf => nar_of_max cf e7 e8 e9
  have m1 := d_common p0 p1 tl th c1 c2 c3 e1 e2 e3
  have m2 := d_common p0 p1 a3 b3 d1 d2 d3 e4 e5 e6
  have m3 := d_common c1 c2 a3 b3 g1 g2 g3 e7 e8 e9
  have m4 := d_common a0 b0 tl th r1 r2 r3 k1 k2 k3
  have m5 := d_common a1 b1 tl th t1 t2 t3 k4 k5 k6
  have k3' : meetB tl th a0 b0 = r3 := by rw [← k3, meetB_comm]
  have k6' : meetB tl th a1 b1 = t3 := by rw [← k6, meetB_comm]
  have m6 : ok = true → PCalls Try.prog 29 [.int .i64 tl, .int .i64 th] (· = .int .i64 mm) := fun h => by rw [← emm]; exact d_mid tl th (hI h).1 (hI h).2
  clear e1 e2 e3 e4 e5 e6 e7 e8 e9 k1 k2 k3 k4 k5 k6
  have hy3 : (y3 = 1 ∧ f3 = true) ∨ (y3 = 0 ∧ f3 = false) := by rw [← ey3]; cases f3 <;> simp [bit]
  have B1T : ag = true → 0 < ps.length → ∀ es, es = spRows ps → ∀ n : Int, n = ps.length → PCalls Try.prog 26 [.list 2 es, .int .i64 n] (· = .tuple [sp2 tl th, .bool true]) := fun ha h0 es hes n hn => (d_byAll htog h0 hl3 es hes n hn).mono (by rintro r ⟨l, h, rfl, e⟩; obtain ⟨rfl, rfl⟩ := e ha; rw [ha])
  have B1F : ag = false → 0 < ps.length → ∀ es, es = spRows ps → ∀ n : Int, n = ps.length → PCalls Try.prog 26 [.list 2 es, .int .i64 n] (fun r => ∃ l h, r = .tuple [sp2 l h, .bool false]) := fun ha h0 es hes n hn => (d_byAll htog h0 hl3 es hes n hn).mono (by rintro r ⟨l, h, rfl, e⟩; exact ⟨l, h, by rw [ha]⟩)
  have B2T : ag = false → ok = true → ps.length = 3 → ∀ es, es = spRows ps → PCalls Try.prog 26 [.list 2 es, .int .i64 2] (· = .tuple [sp2 tl th, .bool true]) := fun ha ho h3 es hes => (d_byTwo htog h3 ha es hes).mono (by rintro r ⟨l, h, rfl, e⟩; obtain ⟨rfl, rfl⟩ := e ho; rw [ho])
  have B2F : ag = false → ok = false → ps.length = 3 → ∀ es, es = spRows ps → PCalls Try.prog 26 [.list 2 es, .int .i64 2] (fun r => ∃ l h, r = .tuple [sp2 l h, .bool false]) := fun ha ho h3 es hes => (d_byTwo htog h3 ha es hes).mono (by rintro r ⟨l, h, rfl, e⟩; exact ⟨l, h, by rw [ho]⟩)
  have hTT : ag = true → ok = true := tog_tt htog
  have hFT : ag = false → ok = true → ps.length = 3 := tog_ft htog hl3
  have h0F : ps.length = 0 → ag = false := tog_0 htog
  subst za zo z0 z1 z2
  have hb1 := B1T rfl (by rw [hps]; simp [fitRow]) [[AV.int .i64 a1, .int .i64 b1]] (by rw [hps]; rfl) 1 (by rw [hps]; rfl)
  have hn : ((ps.length : Nat) : Int) = 1 := by rw [hps]; rfl
  clear B1T B1F B2T B2F hTT hFT h0F htog hI hps
  simp only [bit, if_true, Bool.false_eq_true, if_false]
  (refine PCalls.ofY Try.func15 (by kernel_rfl) (by kernel_rfl) fun w hw R hR => ?_); (obtain ⟨wbin, wcmp, wun, wconv, wnot, wbeq, wmm, wscmp, wsadd, wslen, wsat, weqs, wlen, wnlen, wofNat, wtake, wdrop, wapp, wzero, wnat⟩ := w); (have hbin : wbin = binStd := congrArg Prims.bin hw); (have hcmp : wcmp = cmpStd := congrArg Prims.cmp hw); (have hun : wun = unStd := congrArg Prims.un hw); (have hconv : wconv = fun k n => k.wrap n := congrArg Prims.conv hw); (have hnot : wnot = fun b => !b := congrArg Prims.not hw); (have hbeq : wbeq = fun a b => a == b := congrArg Prims.beq hw); (have hmm : wmm = maxI := congrArg Prims.mm hw); (have hscmp : wscmp = scmpStd := congrArg Prims.scmp hw); (have hsadd : wsadd = fun x y => x ++ y := congrArg Prims.sadd hw); (have hslen : wslen = fun s => (s.size : Int) := congrArg Prims.slen hw); (have hsat : wsat = std.sat := congrArg Prims.sat hw); (have heqs : weqs = fun a b os => (eqOffs a b os).getD false := congrArg Prims.eqs hw); (have hlen : wlen = fun es => (es.length : Int) := congrArg Prims.len hw); (have hnlen : wnlen = fun es => es.length := congrArg Prims.nlen hw); (have hofNat : wofNat = (fun n : Nat => (n : Int)) := congrArg Prims.ofNat hw); (have htake : wtake = fun es b => es.take b.toNat := congrArg Prims.take hw); (have hdrop : wdrop = fun es a => es.drop a.toNat := congrArg Prims.drop hw); (have happ : wapp = fun a b => a ++ b := congrArg Prims.app hw); (have hzero : wzero = fun n z => List.replicate n.toNat z := congrArg Prims.zero hw); (have hnat : wnat = fun n => n.toNat := congrArg Prims.nat hw); (conv => arg 2; cbv); (generalize hP : Try.prog = P); cbv
  have e01 : wbin .add .i64 0 1 = 1 := by rw [hbin]; rfl
  have e12 : wbin .add .i64 1 1 = 2 := by rw [hbin]; rfl
  have e23 : wbin .add .i64 2 1 = 3 := by rw [hbin]; rfl
  (refine Loop.rounds hw 4 ?_; cbv)
  have c03 : wcmp .lss 0 3 = true := by rw [hcmp]; rfl
  have c13 : wcmp .lss 1 3 = true := by rw [hcmp]; rfl
  have c23 : wcmp .lss 2 3 = true := by rw [hcmp]; rfl
  have c33 : wcmp .lss 3 3 = false := by rw [hcmp]; rfl
  have c02 : wcmp .lss 0 2 = true := by rw [hcmp]; rfl
  have c12 : wcmp .lss 1 2 = true := by rw [hcmp]; rfl
  have c22 : wcmp .lss 2 2 = false := by rw [hcmp]; rfl
  have q11 : wcmp .eql 1 1 = true := by rw [hcmp]; rfl
  have q01 : wcmp .eql 0 1 = false := by rw [hcmp]; rfl
  have q13 : wcmp .eql 1 3 = false := by rw [hcmp]; rfl
  have g10 : wcmp .gtr 1 0 = true := by rw [hcmp]; rfl
  have n1 : wnot true = false := by rw [hnot]; rfl
  have n2 : wnot false = true := by rw [hnot]; rfl
  repeat' (first
    | (simp only [e01, e12, e23, c03, c13, c23, c33, c02, c12, c22, q11, q01, q13, g10, n1, n2]; cbv)
    | (simp only [e01, e12, e23, c03, c13, c23, c33, c02, c12, c22, q11, q01, q13, g10, n1, n2])
    | (refine InN.mk (by decide) (by decide) ?_; cbv)
    | (refine Ob.mk (by decide) ?_; cbv)
    | (refine App.mk _ _ rfl rfl rfl (by decide) (by decide) ?_; cbv)
    | ((split <;> rename_i h <;> (try (simp only [e01, e12, e23, c03, c13, c23, c33, c02, c12, c22, q11, q01, q13, g10, n1, n2] at h)) <;> (try (simp only [hbin, hcmp, hun, hconv, hnot, hbeq, hmm, hscmp, hsadd, hslen, hsat, heqs, hofNat, binStd, cmpStd, unStd, scmpStd, maxI, Bool.not_eq_true', Bool.not_eq_false', decide_eq_true_eq, decide_eq_false_iff_not, Int.not_lt, Int.not_le, if_true, if_false, Bool.false_eq_true, beq_iff_eq, bne_iff_ne, ne_eq, Bool.not_eq_eq_eq_not, Bool.not_true, Bool.not_false, beq_eq_false_iff_ne, bne_eq_false_iff_eq, Int.ofNat_eq_natCast, Bool.not_not, not_true_eq_false, not_false_eq_true, reduceCtorEq] at h)) <;> (try cbv)) <;> (try (refine absurd h ?_; decide)))
    | (refine Call.view (args' := [.list 2 [[AV.int .i64 a1, .int .i64 b1]], .int .i64 1]) (by rw [← hP]; exact hb1) ⟨Vw.sl (es := [[AV.int .i64 a1, .int .i64 b1]]) rfl rfl (Nat.le_refl _), Vw.same rfl, trivial⟩ ?_; rintro r rfl; refine ⟨rfl, ?_⟩; cbv)
    | (refine Call.stepE (by rw [← hP]; exact m1) rfl ?_; cbv)
    | (refine Call.stepE (by rw [← hP]; exact m2) rfl ?_; cbv)
    | (refine Call.stepE (by rw [← hP]; exact m3) rfl ?_; cbv)
    | (refine Call.stepE (by rw [← hP]; exact m4) rfl ?_; cbv)
    | (refine Call.stepE (by rw [← hP]; exact m5) rfl ?_; cbv)
    | (refine Call.stepE (by rw [← hP]; exact m6 rfl) rfl ?_; cbv)
    | (refine QCal.stepE (by rw [← hP]; exact m4) rfl ?_; cbv)
    | (refine QCal.stepE (by rw [← hP]; exact m5) rfl ?_; cbv)
    | ((refine Call.inl hw hP Try.func27 (by kernel_rfl) (by kernel_rfl) ?_); (conv => arg 2; cbv); cbv)
    | ((refine Loop.rounds hw 3 ?_; cbv)))
  all_goals
    refine ⟨_, Vw.same rfl, ?_⟩
    clear m1 m2 m3 m4 m5 m6 e01 e12 e23 c03 c13 c23 c33 c02 c12 c22 q11 q01 q13 g10 n1 n2 hw
    first
      | (refine hR _ ⟨_, _, 1, false, false, _, _, rfl, ?_⟩; clear hR)
      | (refine hR _ ⟨_, _, 1, false, true, _, _, rfl, ?_⟩; clear hR)
    refine ⟨hn.symm, by decide, ?_, ?_, ?_⟩
    · rcases hy3 with ⟨hy, rfl⟩ | ⟨hy, rfl⟩ <;> first | (exfalso; omega) | (simp [nar2, nar1, nM, nN, nO, *]; done) | (simp [nar2, nar1, nM, nN, nO, *]; omega)
    · first | (simp [slip1, slipV, *]; done) | (simp [slip1, slipV, *]; omega)
    · first | (simp [slip1, slipV, *]; done) | (simp [slip1, slipV, *]; omega)

set_option maxHeartbeats 4000000 in
theorem d_fuse_tt_ftt (p0 p1 : Int) (f0 f1 f2 f3 : Bool) (a0 b0 a1 b1 a2 b2 a3 b3 : Int) (ps : List (Int × Int)) (hps : ps = fitRow f0 a0 b0 ++ fitRow f1 a1 b1 ++ fitRow f2 a2 b2)
  (tl th : Int) (ok ag : Bool) (za : ag = true) (zo : ok = true) (z0 : f0 = false) (z1 : f1 = true) (z2 : f2 = true) (htog : TogIs ps tl th ok ag) (hI : ok = true → I60 tl ∧ I60 th) :
  PCalls Try.prog 15 [sp2 p0 p1, .agg [.int .i64 a0, .int .i64 b0, .int .i64 a1, .int .i64 b1, .int .i64 a2, .int .i64 b2, .int .i64 a3, .int .i64 b3], .agg [.int .i64 (bit f0), .int .i64 (bit f1), .int .i64 (bit f2), .int .i64 (bit f3)]]
    (fun r => ∃ lo hi n cl cf s0 s1, r = .agg [.int .i64 lo, .int .i64 hi, .int .i64 n, .int .i64 (bit cl), .int .i64 (bit cf), .int .i64 s0, .int .i64 s1] ∧ n = ps.length ∧ cl = (ag && decide (n = 3)) ∧ (lo, hi, cf) = nar2 f3 a3 b3 (nar1 ok tl th n p0 p1) ∧ s0 = slip1 ok ag tl th a0 b0 ∧ s1 = slip1 ok ag tl th a1 b1) := by
  have hl3 : ps.length ≤ 3 := by rw [hps]; cases f0 <;> cases f1 <;> cases f2 <;> simp [fitRow]
  obtain ⟨y3, ey3⟩ : ∃ x, bit f3 = x := ⟨_, rfl⟩
  rw [ey3]
  obtain ⟨mm, emm⟩ : ∃ x, (tl + th) / 2 = x := ⟨_, rfl⟩
  obtain ⟨c1, e1⟩ : ∃ x, max p0 tl = x := ⟨_, rfl⟩
  obtain ⟨c2, e2⟩ : ∃ x, min p1 th = x := ⟨_, rfl⟩
  obtain ⟨c3, e3⟩ : ∃ x, meetB p0 p1 tl th = x := ⟨_, rfl⟩
  obtain ⟨d1, e4⟩ : ∃ x, max p0 a3 = x := ⟨_, rfl⟩
  obtain ⟨d2, e5⟩ : ∃ x, min p1 b3 = x := ⟨_, rfl⟩
  obtain ⟨d3, e6⟩ : ∃ x, meetB p0 p1 a3 b3 = x := ⟨_, rfl⟩
  obtain ⟨g1, e7⟩ : ∃ x, max c1 a3 = x := ⟨_, rfl⟩
  obtain ⟨g2, e8⟩ : ∃ x, min c2 b3 = x := ⟨_, rfl⟩
  obtain ⟨g3, e9⟩ : ∃ x, meetB c1 c2 a3 b3 = x := ⟨_, rfl⟩
  obtain ⟨r1, k1⟩ : ∃ x, max a0 tl = x := ⟨_, rfl⟩
  obtain ⟨r2, k2⟩ : ∃ x, min b0 th = x := ⟨_, rfl⟩
  obtain ⟨r3, k3⟩ : ∃ x, meetB a0 b0 tl th = x := ⟨_, rfl⟩
  obtain ⟨t1, k4⟩ : ∃ x, max a1 tl = x := ⟨_, rfl⟩
  obtain ⟨t2, k5⟩ : ∃ x, min b1 th = x := ⟨_, rfl⟩
  obtain ⟨t3, k6⟩ : ∃ x, meetB a1 b1 tl th = x := ⟨_, rfl⟩
  have nM := fun cf => nar_of_max cf e1 e2 e3
  have nN := fun cf => nar_of_max cf e4 e5 e6
  have nO := fun cf => nar_of_max cf e7 e8 e9
  have m1 := d_common p0 p1 tl th c1 c2 c3 e1 e2 e3
  have m2 := d_common p0 p1 a3 b3 d1 d2 d3 e4 e5 e6
  have m3 := d_common c1 c2 a3 b3 g1 g2 g3 e7 e8 e9
  have m4 := d_common a0 b0 tl th r1 r2 r3 k1 k2 k3
  have m5 := d_common a1 b1 tl th t1 t2 t3 k4 k5 k6
  have k3' : meetB tl th a0 b0 = r3 := by rw [← k3, meetB_comm]
  have k6' : meetB tl th a1 b1 = t3 := by rw [← k6, meetB_comm]
  have m6 : ok = true → PCalls Try.prog 29 [.int .i64 tl, .int .i64 th] (· = .int .i64 mm) := fun h => by rw [← emm]; exact d_mid tl th (hI h).1 (hI h).2
  clear e1 e2 e3 e4 e5 e6 e7 e8 e9 k1 k2 k3 k4 k5 k6
  have hy3 : (y3 = 1 ∧ f3 = true) ∨ (y3 = 0 ∧ f3 = false) := by rw [← ey3]; cases f3 <;> simp [bit]
  have B1T : ag = true → 0 < ps.length → ∀ es, es = spRows ps → ∀ n : Int, n = ps.length → PCalls Try.prog 26 [.list 2 es, .int .i64 n] (· = .tuple [sp2 tl th, .bool true]) := fun ha h0 es hes n hn => (d_byAll htog h0 hl3 es hes n hn).mono (by rintro r ⟨l, h, rfl, e⟩; obtain ⟨rfl, rfl⟩ := e ha; rw [ha])
  have B1F : ag = false → 0 < ps.length → ∀ es, es = spRows ps → ∀ n : Int, n = ps.length → PCalls Try.prog 26 [.list 2 es, .int .i64 n] (fun r => ∃ l h, r = .tuple [sp2 l h, .bool false]) := fun ha h0 es hes n hn => (d_byAll htog h0 hl3 es hes n hn).mono (by rintro r ⟨l, h, rfl, e⟩; exact ⟨l, h, by rw [ha]⟩)
  have B2T : ag = false → ok = true → ps.length = 3 → ∀ es, es = spRows ps → PCalls Try.prog 26 [.list 2 es, .int .i64 2] (· = .tuple [sp2 tl th, .bool true]) := fun ha ho h3 es hes => (d_byTwo htog h3 ha es hes).mono (by rintro r ⟨l, h, rfl, e⟩; obtain ⟨rfl, rfl⟩ := e ho; rw [ho])
  have B2F : ag = false → ok = false → ps.length = 3 → ∀ es, es = spRows ps → PCalls Try.prog 26 [.list 2 es, .int .i64 2] (fun r => ∃ l h, r = .tuple [sp2 l h, .bool false]) := fun ha ho h3 es hes => (d_byTwo htog h3 ha es hes).mono (by rintro r ⟨l, h, rfl, e⟩; exact ⟨l, h, by rw [ho]⟩)
  have hTT : ag = true → ok = true := tog_tt htog
  have hFT : ag = false → ok = true → ps.length = 3 := tog_ft htog hl3
  have h0F : ps.length = 0 → ag = false := tog_0 htog
  subst za zo z0 z1 z2
  have hb1 := B1T rfl (by rw [hps]; simp [fitRow]) [[AV.int .i64 a1, .int .i64 b1], [AV.int .i64 a2, .int .i64 b2]] (by rw [hps]; rfl) 2 (by rw [hps]; rfl)
  have hn : ((ps.length : Nat) : Int) = 2 := by rw [hps]; rfl
  clear B1T B1F B2T B2F hTT hFT h0F htog hI hps
  simp only [bit, if_true, Bool.false_eq_true, if_false]
  (refine PCalls.ofY Try.func15 (by kernel_rfl) (by kernel_rfl) fun w hw R hR => ?_); (obtain ⟨wbin, wcmp, wun, wconv, wnot, wbeq, wmm, wscmp, wsadd, wslen, wsat, weqs, wlen, wnlen, wofNat, wtake, wdrop, wapp, wzero, wnat⟩ := w); (have hbin : wbin = binStd := congrArg Prims.bin hw); (have hcmp : wcmp = cmpStd := congrArg Prims.cmp hw); (have hun : wun = unStd := congrArg Prims.un hw); (have hconv : wconv = fun k n => k.wrap n := congrArg Prims.conv hw); (have hnot : wnot = fun b => !b := congrArg Prims.not hw); (have hbeq : wbeq = fun a b => a == b := congrArg Prims.beq hw); (have hmm : wmm = maxI := congrArg Prims.mm hw); (have hscmp : wscmp = scmpStd := congrArg Prims.scmp hw); (have hsadd : wsadd = fun x y => x ++ y := congrArg Prims.sadd hw); (have hslen : wslen = fun s => (s.size : Int) := congrArg Prims.slen hw); (have hsat : wsat = std.sat := congrArg Prims.sat hw); (have heqs : weqs = fun a b os => (eqOffs a b os).getD false := congrArg Prims.eqs hw); (have hlen : wlen = fun es => (es.length : Int) := congrArg Prims.len hw); (have hnlen : wnlen = fun es => es.length := congrArg Prims.nlen hw); (have hofNat : wofNat = (fun n : Nat => (n : Int)) := congrArg Prims.ofNat hw); (have htake : wtake = fun es b => es.take b.toNat := congrArg Prims.take hw); (have hdrop : wdrop = fun es a => es.drop a.toNat := congrArg Prims.drop hw); (have happ : wapp = fun a b => a ++ b := congrArg Prims.app hw); (have hzero : wzero = fun n z => List.replicate n.toNat z := congrArg Prims.zero hw); (have hnat : wnat = fun n => n.toNat := congrArg Prims.nat hw); (conv => arg 2; cbv); (generalize hP : Try.prog = P); cbv
  have e01 : wbin .add .i64 0 1 = 1 := by rw [hbin]; rfl
  have e12 : wbin .add .i64 1 1 = 2 := by rw [hbin]; rfl
  have e23 : wbin .add .i64 2 1 = 3 := by rw [hbin]; rfl
  (refine Loop.rounds hw 4 ?_; cbv)
  have c03 : wcmp .lss 0 3 = true := by rw [hcmp]; rfl
  have c13 : wcmp .lss 1 3 = true := by rw [hcmp]; rfl
  have c23 : wcmp .lss 2 3 = true := by rw [hcmp]; rfl
  have c33 : wcmp .lss 3 3 = false := by rw [hcmp]; rfl
  have c02 : wcmp .lss 0 2 = true := by rw [hcmp]; rfl
  have c12 : wcmp .lss 1 2 = true := by rw [hcmp]; rfl
  have c22 : wcmp .lss 2 2 = false := by rw [hcmp]; rfl
  have q11 : wcmp .eql 1 1 = true := by rw [hcmp]; rfl
  have q01 : wcmp .eql 0 1 = false := by rw [hcmp]; rfl
  have q23 : wcmp .eql 2 3 = false := by rw [hcmp]; rfl
  have g20 : wcmp .gtr 2 0 = true := by rw [hcmp]; rfl
  have n1 : wnot true = false := by rw [hnot]; rfl
  have n2 : wnot false = true := by rw [hnot]; rfl
  repeat' (first
    | (simp only [e01, e12, e23, c03, c13, c23, c33, c02, c12, c22, q11, q01, q23, g20, n1, n2]; cbv)
    | (simp only [e01, e12, e23, c03, c13, c23, c33, c02, c12, c22, q11, q01, q23, g20, n1, n2])
    | (refine InN.mk (by decide) (by decide) ?_; cbv)
    | (refine Ob.mk (by decide) ?_; cbv)
    | (refine App.mk _ _ rfl rfl rfl (by decide) (by decide) ?_; cbv)
    | ((split <;> rename_i h <;> (try (simp only [e01, e12, e23, c03, c13, c23, c33, c02, c12, c22, q11, q01, q23, g20, n1, n2] at h)) <;> (try (simp only [hbin, hcmp, hun, hconv, hnot, hbeq, hmm, hscmp, hsadd, hslen, hsat, heqs, hofNat, binStd, cmpStd, unStd, scmpStd, maxI, Bool.not_eq_true', Bool.not_eq_false', decide_eq_true_eq, decide_eq_false_iff_not, Int.not_lt, Int.not_le, if_true, if_false, Bool.false_eq_true, beq_iff_eq, bne_iff_ne, ne_eq, Bool.not_eq_eq_eq_not, Bool.not_true, Bool.not_false, beq_eq_false_iff_ne, bne_eq_false_iff_eq, Int.ofNat_eq_natCast, Bool.not_not, not_true_eq_false, not_false_eq_true, reduceCtorEq] at h)) <;> (try cbv)) <;> (try (refine absurd h ?_; decide)))
    | (refine Call.view (args' := [.list 2 [[AV.int .i64 a1, .int .i64 b1], [AV.int .i64 a2, .int .i64 b2]], .int .i64 2]) (by rw [← hP]; exact hb1) ⟨Vw.sl (es := [[AV.int .i64 a1, .int .i64 b1], [AV.int .i64 a2, .int .i64 b2]]) rfl rfl (Nat.le_refl _), Vw.same rfl, trivial⟩ ?_; rintro r rfl; refine ⟨rfl, ?_⟩; cbv)
    | (refine Call.stepE (by rw [← hP]; exact m1) rfl ?_; cbv)
    | (refine Call.stepE (by rw [← hP]; exact m2) rfl ?_; cbv)
    | (refine Call.stepE (by rw [← hP]; exact m3) rfl ?_; cbv)
    | (refine Call.stepE (by rw [← hP]; exact m4) rfl ?_; cbv)
    | (refine Call.stepE (by rw [← hP]; exact m5) rfl ?_; cbv)
    | (refine Call.stepE (by rw [← hP]; exact m6 rfl) rfl ?_; cbv)
    | (refine QCal.stepE (by rw [← hP]; exact m4) rfl ?_; cbv)
    | (refine QCal.stepE (by rw [← hP]; exact m5) rfl ?_; cbv)
    | ((refine Call.inl hw hP Try.func27 (by kernel_rfl) (by kernel_rfl) ?_); (conv => arg 2; cbv); cbv)
    | ((refine Loop.rounds hw 3 ?_; cbv)))
  all_goals
    refine ⟨_, Vw.same rfl, ?_⟩
    clear m1 m2 m3 m4 m5 m6 e01 e12 e23 c03 c13 c23 c33 c02 c12 c22 q11 q01 q23 g20 n1 n2 hw
    first
      | (refine hR _ ⟨_, _, 2, false, false, _, _, rfl, ?_⟩; clear hR)
      | (refine hR _ ⟨_, _, 2, false, true, _, _, rfl, ?_⟩; clear hR)
    refine ⟨hn.symm, by decide, ?_, ?_, ?_⟩
    · rcases hy3 with ⟨hy, rfl⟩ | ⟨hy, rfl⟩ <;> first | (exfalso; omega) | (simp [nar2, nar1, nM, nN, nO, *]; done) | (simp [nar2, nar1, nM, nN, nO, *]; omega)
    · first | (simp [slip1, slipV, *]; done) | (simp [slip1, slipV, *]; omega)
    · first | (simp [slip1, slipV, *]; done) | (simp [slip1, slipV, *]; omega)

set_option maxHeartbeats 4000000 in
theorem d_fuse_tt_tff (p0 p1 : Int) (f0 f1 f2 f3 : Bool) (a0 b0 a1 b1 a2 b2 a3 b3 : Int) (ps : List (Int × Int)) (hps : ps = fitRow f0 a0 b0 ++ fitRow f1 a1 b1 ++ fitRow f2 a2 b2)
  (tl th : Int) (ok ag : Bool) (za : ag = true) (zo : ok = true) (z0 : f0 = true) (z1 : f1 = false) (z2 : f2 = false) (htog : TogIs ps tl th ok ag) (hI : ok = true → I60 tl ∧ I60 th) :
  PCalls Try.prog 15 [sp2 p0 p1, .agg [.int .i64 a0, .int .i64 b0, .int .i64 a1, .int .i64 b1, .int .i64 a2, .int .i64 b2, .int .i64 a3, .int .i64 b3], .agg [.int .i64 (bit f0), .int .i64 (bit f1), .int .i64 (bit f2), .int .i64 (bit f3)]]
    (fun r => ∃ lo hi n cl cf s0 s1, r = .agg [.int .i64 lo, .int .i64 hi, .int .i64 n, .int .i64 (bit cl), .int .i64 (bit cf), .int .i64 s0, .int .i64 s1] ∧ n = ps.length ∧ cl = (ag && decide (n = 3)) ∧ (lo, hi, cf) = nar2 f3 a3 b3 (nar1 ok tl th n p0 p1) ∧ s0 = slip1 ok ag tl th a0 b0 ∧ s1 = slip1 ok ag tl th a1 b1) := by
  have hl3 : ps.length ≤ 3 := by rw [hps]; cases f0 <;> cases f1 <;> cases f2 <;> simp [fitRow]
  obtain ⟨y3, ey3⟩ : ∃ x, bit f3 = x := ⟨_, rfl⟩
  rw [ey3]
  obtain ⟨mm, emm⟩ : ∃ x, (tl + th) / 2 = x := ⟨_, rfl⟩
  obtain ⟨c1, e1⟩ : ∃ x, max p0 tl = x := ⟨_, rfl⟩
  obtain ⟨c2, e2⟩ : ∃ x, min p1 th = x := ⟨_, rfl⟩
  obtain ⟨c3, e3⟩ : ∃ x, meetB p0 p1 tl th = x := ⟨_, rfl⟩
  obtain ⟨d1, e4⟩ : ∃ x, max p0 a3 = x := ⟨_, rfl⟩
  obtain ⟨d2, e5⟩ : ∃ x, min p1 b3 = x := ⟨_, rfl⟩
  obtain ⟨d3, e6⟩ : ∃ x, meetB p0 p1 a3 b3 = x := ⟨_, rfl⟩
  obtain ⟨g1, e7⟩ : ∃ x, max c1 a3 = x := ⟨_, rfl⟩
  obtain ⟨g2, e8⟩ : ∃ x, min c2 b3 = x := ⟨_, rfl⟩
  obtain ⟨g3, e9⟩ : ∃ x, meetB c1 c2 a3 b3 = x := ⟨_, rfl⟩
  obtain ⟨r1, k1⟩ : ∃ x, max a0 tl = x := ⟨_, rfl⟩
  obtain ⟨r2, k2⟩ : ∃ x, min b0 th = x := ⟨_, rfl⟩
  obtain ⟨r3, k3⟩ : ∃ x, meetB a0 b0 tl th = x := ⟨_, rfl⟩
  obtain ⟨t1, k4⟩ : ∃ x, max a1 tl = x := ⟨_, rfl⟩
  obtain ⟨t2, k5⟩ : ∃ x, min b1 th = x := ⟨_, rfl⟩
  obtain ⟨t3, k6⟩ : ∃ x, meetB a1 b1 tl th = x := ⟨_, rfl⟩
  have nM := fun cf => nar_of_max cf e1 e2 e3
  have nN := fun cf => nar_of_max cf e4 e5 e6
  have nO := fun cf => nar_of_max cf e7 e8 e9
  have m1 := d_common p0 p1 tl th c1 c2 c3 e1 e2 e3
  have m2 := d_common p0 p1 a3 b3 d1 d2 d3 e4 e5 e6
  have m3 := d_common c1 c2 a3 b3 g1 g2 g3 e7 e8 e9
  have m4 := d_common a0 b0 tl th r1 r2 r3 k1 k2 k3
  have m5 := d_common a1 b1 tl th t1 t2 t3 k4 k5 k6
  have k3' : meetB tl th a0 b0 = r3 := by rw [← k3, meetB_comm]
  have k6' : meetB tl th a1 b1 = t3 := by rw [← k6, meetB_comm]
  have m6 : ok = true → PCalls Try.prog 29 [.int .i64 tl, .int .i64 th] (· = .int .i64 mm) := fun h => by rw [← emm]; exact d_mid tl th (hI h).1 (hI h).2
  clear e1 e2 e3 e4 e5 e6 e7 e8 e9 k1 k2 k3 k4 k5 k6
  have hy3 : (y3 = 1 ∧ f3 = true) ∨ (y3 = 0 ∧ f3 = false) := by rw [← ey3]; cases f3 <;> simp [bit]
  have B1T : ag = true → 0 < ps.length → ∀ es, es = spRows ps → ∀ n : Int, n = ps.length → PCalls Try.prog 26 [.list 2 es, .int .i64 n] (· = .tuple [sp2 tl th, .bool true]) := fun ha h0 es hes n hn => (d_byAll htog h0 hl3 es hes n hn).mono (by rintro r ⟨l, h, rfl, e⟩; obtain ⟨rfl, rfl⟩ := e ha; rw [ha])
  have B1F : ag = false → 0 < ps.length → ∀ es, es = spRows ps → ∀ n : Int, n = ps.length → PCalls Try.prog 26 [.list 2 es, .int .i64 n] (fun r => ∃ l h, r = .tuple [sp2 l h, .bool false]) := fun ha h0 es hes n hn => (d_byAll htog h0 hl3 es hes n hn).mono (by rintro r ⟨l, h, rfl, e⟩; exact ⟨l, h, by rw [ha]⟩)
  have B2T : ag = false → ok = true → ps.length = 3 → ∀ es, es = spRows ps → PCalls Try.prog 26 [.list 2 es, .int .i64 2] (· = .tuple [sp2 tl th, .bool true]) := fun ha ho h3 es hes => (d_byTwo htog h3 ha es hes).mono (by rintro r ⟨l, h, rfl, e⟩; obtain ⟨rfl, rfl⟩ := e ho; rw [ho])
  have B2F : ag = false → ok = false → ps.length = 3 → ∀ es, es = spRows ps → PCalls Try.prog 26 [.list 2 es, .int .i64 2] (fun r => ∃ l h, r = .tuple [sp2 l h, .bool false]) := fun ha ho h3 es hes => (d_byTwo htog h3 ha es hes).mono (by rintro r ⟨l, h, rfl, e⟩; exact ⟨l, h, by rw [ho]⟩)
  have hTT : ag = true → ok = true := tog_tt htog
  have hFT : ag = false → ok = true → ps.length = 3 := tog_ft htog hl3
  have h0F : ps.length = 0 → ag = false := tog_0 htog
  subst za zo z0 z1 z2
  have hb1 := B1T rfl (by rw [hps]; simp [fitRow]) [[AV.int .i64 a0, .int .i64 b0]] (by rw [hps]; rfl) 1 (by rw [hps]; rfl)
  have hn : ((ps.length : Nat) : Int) = 1 := by rw [hps]; rfl
  clear B1T B1F B2T B2F hTT hFT h0F htog hI hps
  simp only [bit, if_true, Bool.false_eq_true, if_false]
  (refine PCalls.ofY Try.func15 (by kernel_rfl) (by kernel_rfl) fun w hw R hR => ?_); (obtain ⟨wbin, wcmp, wun, wconv, wnot, wbeq, wmm, wscmp, wsadd, wslen, wsat, weqs, wlen, wnlen, wofNat, wtake, wdrop, wapp, wzero, wnat⟩ := w); (have hbin : wbin = binStd := congrArg Prims.bin hw); (have hcmp : wcmp = cmpStd := congrArg Prims.cmp hw); (have hun : wun = unStd := congrArg Prims.un hw); (have hconv : wconv = fun k n => k.wrap n := congrArg Prims.conv hw); (have hnot : wnot = fun b => !b := congrArg Prims.not hw); (have hbeq : wbeq = fun a b => a == b := congrArg Prims.beq hw); (have hmm : wmm = maxI := congrArg Prims.mm hw); (have hscmp : wscmp = scmpStd := congrArg Prims.scmp hw); (have hsadd : wsadd = fun x y => x ++ y := congrArg Prims.sadd hw); (have hslen : wslen = fun s => (s.size : Int) := congrArg Prims.slen hw); (have hsat : wsat = std.sat := congrArg Prims.sat hw); (have heqs : weqs = fun a b os => (eqOffs a b os).getD false := congrArg Prims.eqs hw); (have hlen : wlen = fun es => (es.length : Int) := congrArg Prims.len hw); (have hnlen : wnlen = fun es => es.length := congrArg Prims.nlen hw); (have hofNat : wofNat = (fun n : Nat => (n : Int)) := congrArg Prims.ofNat hw); (have htake : wtake = fun es b => es.take b.toNat := congrArg Prims.take hw); (have hdrop : wdrop = fun es a => es.drop a.toNat := congrArg Prims.drop hw); (have happ : wapp = fun a b => a ++ b := congrArg Prims.app hw); (have hzero : wzero = fun n z => List.replicate n.toNat z := congrArg Prims.zero hw); (have hnat : wnat = fun n => n.toNat := congrArg Prims.nat hw); (conv => arg 2; cbv); (generalize hP : Try.prog = P); cbv
  have e01 : wbin .add .i64 0 1 = 1 := by rw [hbin]; rfl
  have e12 : wbin .add .i64 1 1 = 2 := by rw [hbin]; rfl
  have e23 : wbin .add .i64 2 1 = 3 := by rw [hbin]; rfl
  (refine Loop.rounds hw 4 ?_; cbv)
  have c03 : wcmp .lss 0 3 = true := by rw [hcmp]; rfl
  have c13 : wcmp .lss 1 3 = true := by rw [hcmp]; rfl
  have c23 : wcmp .lss 2 3 = true := by rw [hcmp]; rfl
  have c33 : wcmp .lss 3 3 = false := by rw [hcmp]; rfl
  have c02 : wcmp .lss 0 2 = true := by rw [hcmp]; rfl
  have c12 : wcmp .lss 1 2 = true := by rw [hcmp]; rfl
  have c22 : wcmp .lss 2 2 = false := by rw [hcmp]; rfl
  have q11 : wcmp .eql 1 1 = true := by rw [hcmp]; rfl
  have q01 : wcmp .eql 0 1 = false := by rw [hcmp]; rfl
  have q13 : wcmp .eql 1 3 = false := by rw [hcmp]; rfl
  have g10 : wcmp .gtr 1 0 = true := by rw [hcmp]; rfl
  have n1 : wnot true = false := by rw [hnot]; rfl
  have n2 : wnot false = true := by rw [hnot]; rfl
  repeat' (first
    | (simp only [e01, e12, e23, c03, c13, c23, c33, c02, c12, c22, q11, q01, q13, g10, n1, n2]; cbv)
    | (simp only [e01, e12, e23, c03, c13, c23, c33, c02, c12, c22, q11, q01, q13, g10, n1, n2])
    | (refine InN.mk (by decide) (by decide) ?_; cbv)
    | (refine Ob.mk (by decide) ?_; cbv)
    | (refine App.mk _ _ rfl rfl rfl (by decide) (by decide) ?_; cbv)
    | ((split <;> rename_i h <;> (try (simp only [e01, e12, e23, c03, c13, c23, c33, c02, c12, c22, q11, q01, q13, g10, n1, n2] at h)) <;> (try (simp only [hbin, hcmp, hun, hconv, hnot, hbeq, hmm, hscmp, hsadd, hslen, hsat, heqs, hofNat, binStd, cmpStd, unStd, scmpStd, maxI, Bool.not_eq_true', Bool.not_eq_false', decide_eq_true_eq, decide_eq_false_iff_not, Int.not_lt, Int.not_le, if_true, if_false, Bool.false_eq_true, beq_iff_eq, bne_iff_ne, ne_eq, Bool.not_eq_eq_eq_not, Bool.not_true, Bool.not_false, beq_eq_false_iff_ne, bne_eq_false_iff_eq, Int.ofNat_eq_natCast, Bool.not_not, not_true_eq_false, not_false_eq_true, reduceCtorEq] at h)) <;> (try cbv)) <;> (try (refine absurd h ?_; decide)))
    | (refine Call.view (args' := [.list 2 [[AV.int .i64 a0, .int .i64 b0]], .int .i64 1]) (by rw [← hP]; exact hb1) ⟨Vw.sl (es := [[AV.int .i64 a0, .int .i64 b0]]) rfl rfl (Nat.le_refl _), Vw.same rfl, trivial⟩ ?_; rintro r rfl; refine ⟨rfl, ?_⟩; cbv)
    | (refine Call.stepE (by rw [← hP]; exact m1) rfl ?_; cbv)
    | (refine Call.stepE (by rw [← hP]; exact m2) rfl ?_; cbv)
    | (refine Call.stepE (by rw [← hP]; exact m3) rfl ?_; cbv)
    | (refine Call.stepE (by rw [← hP]; exact m4) rfl ?_; cbv)
    | (refine Call.stepE (by rw [← hP]; exact m5) rfl ?_; cbv)
    | (refine Call.stepE (by rw [← hP]; exact m6 rfl) rfl ?_; cbv)
    | (refine QCal.stepE (by rw [← hP]; exact m4) rfl ?_; cbv)
    | (refine QCal.stepE (by rw [← hP]; exact m5) rfl ?_; cbv)
    | ((refine Call.inl hw hP Try.func27 (by kernel_rfl) (by kernel_rfl) ?_); (conv => arg 2; cbv); cbv)
    | ((refine Loop.rounds hw 3 ?_; cbv)))
  all_goals
    refine ⟨_, Vw.same rfl, ?_⟩
    clear m1 m2 m3 m4 m5 m6 e01 e12 e23 c03 c13 c23 c33 c02 c12 c22 q11 q01 q13 g10 n1 n2 hw
    first
      | (refine hR _ ⟨_, _, 1, false, false, _, _, rfl, ?_⟩; clear hR)
      | (refine hR _ ⟨_, _, 1, false, true, _, _, rfl, ?_⟩; clear hR)
    refine ⟨hn.symm, by decide, ?_, ?_, ?_⟩
    · rcases hy3 with ⟨hy, rfl⟩ | ⟨hy, rfl⟩ <;> first | (exfalso; omega) | (simp [nar2, nar1, nM, nN, nO, *]; done) | (simp [nar2, nar1, nM, nN, nO, *]; omega)
    · first | (simp [slip1, slipV, *]; done) | (simp [slip1, slipV, *]; omega)
    · first | (simp [slip1, slipV, *]; done) | (simp [slip1, slipV, *]; omega)

set_option maxHeartbeats 4000000 in
theorem d_fuse_tt_tft (p0 p1 : Int) (f0 f1 f2 f3 : Bool) (a0 b0 a1 b1 a2 b2 a3 b3 : Int) (ps : List (Int × Int)) (hps : ps = fitRow f0 a0 b0 ++ fitRow f1 a1 b1 ++ fitRow f2 a2 b2)
  (tl th : Int) (ok ag : Bool) (za : ag = true) (zo : ok = true) (z0 : f0 = true) (z1 : f1 = false) (z2 : f2 = true) (htog : TogIs ps tl th ok ag) (hI : ok = true → I60 tl ∧ I60 th) :
  PCalls Try.prog 15 [sp2 p0 p1, .agg [.int .i64 a0, .int .i64 b0, .int .i64 a1, .int .i64 b1, .int .i64 a2, .int .i64 b2, .int .i64 a3, .int .i64 b3], .agg [.int .i64 (bit f0), .int .i64 (bit f1), .int .i64 (bit f2), .int .i64 (bit f3)]]
    (fun r => ∃ lo hi n cl cf s0 s1, r = .agg [.int .i64 lo, .int .i64 hi, .int .i64 n, .int .i64 (bit cl), .int .i64 (bit cf), .int .i64 s0, .int .i64 s1] ∧ n = ps.length ∧ cl = (ag && decide (n = 3)) ∧ (lo, hi, cf) = nar2 f3 a3 b3 (nar1 ok tl th n p0 p1) ∧ s0 = slip1 ok ag tl th a0 b0 ∧ s1 = slip1 ok ag tl th a1 b1) := by
  have hl3 : ps.length ≤ 3 := by rw [hps]; cases f0 <;> cases f1 <;> cases f2 <;> simp [fitRow]
  obtain ⟨y3, ey3⟩ : ∃ x, bit f3 = x := ⟨_, rfl⟩
  rw [ey3]
  obtain ⟨mm, emm⟩ : ∃ x, (tl + th) / 2 = x := ⟨_, rfl⟩
  obtain ⟨c1, e1⟩ : ∃ x, max p0 tl = x := ⟨_, rfl⟩
  obtain ⟨c2, e2⟩ : ∃ x, min p1 th = x := ⟨_, rfl⟩
  obtain ⟨c3, e3⟩ : ∃ x, meetB p0 p1 tl th = x := ⟨_, rfl⟩
  obtain ⟨d1, e4⟩ : ∃ x, max p0 a3 = x := ⟨_, rfl⟩
  obtain ⟨d2, e5⟩ : ∃ x, min p1 b3 = x := ⟨_, rfl⟩
  obtain ⟨d3, e6⟩ : ∃ x, meetB p0 p1 a3 b3 = x := ⟨_, rfl⟩
  obtain ⟨g1, e7⟩ : ∃ x, max c1 a3 = x := ⟨_, rfl⟩
  obtain ⟨g2, e8⟩ : ∃ x, min c2 b3 = x := ⟨_, rfl⟩
  obtain ⟨g3, e9⟩ : ∃ x, meetB c1 c2 a3 b3 = x := ⟨_, rfl⟩
  obtain ⟨r1, k1⟩ : ∃ x, max a0 tl = x := ⟨_, rfl⟩
  obtain ⟨r2, k2⟩ : ∃ x, min b0 th = x := ⟨_, rfl⟩
  obtain ⟨r3, k3⟩ : ∃ x, meetB a0 b0 tl th = x := ⟨_, rfl⟩
  obtain ⟨t1, k4⟩ : ∃ x, max a1 tl = x := ⟨_, rfl⟩
  obtain ⟨t2, k5⟩ : ∃ x, min b1 th = x := ⟨_, rfl⟩
  obtain ⟨t3, k6⟩ : ∃ x, meetB a1 b1 tl th = x := ⟨_, rfl⟩
  have nM := fun cf => nar_of_max cf e1 e2 e3
  have nN := fun cf => nar_of_max cf e4 e5 e6
  have nO := fun cf => nar_of_max cf e7 e8 e9
  have m1 := d_common p0 p1 tl th c1 c2 c3 e1 e2 e3
  have m2 := d_common p0 p1 a3 b3 d1 d2 d3 e4 e5 e6
  have m3 := d_common c1 c2 a3 b3 g1 g2 g3 e7 e8 e9
  have m4 := d_common a0 b0 tl th r1 r2 r3 k1 k2 k3
  have m5 := d_common a1 b1 tl th t1 t2 t3 k4 k5 k6
  have k3' : meetB tl th a0 b0 = r3 := by rw [← k3, meetB_comm]
  have k6' : meetB tl th a1 b1 = t3 := by rw [← k6, meetB_comm]
  have m6 : ok = true → PCalls Try.prog 29 [.int .i64 tl, .int .i64 th] (· = .int .i64 mm) := fun h => by rw [← emm]; exact d_mid tl th (hI h).1 (hI h).2
  clear e1 e2 e3 e4 e5 e6 e7 e8 e9 k1 k2 k3 k4 k5 k6
  have hy3 : (y3 = 1 ∧ f3 = true) ∨ (y3 = 0 ∧ f3 = false) := by rw [← ey3]; cases f3 <;> simp [bit]
  have B1T : ag = true → 0 < ps.length → ∀ es, es = spRows ps → ∀ n : Int, n = ps.length → PCalls Try.prog 26 [.list 2 es, .int .i64 n] (· = .tuple [sp2 tl th, .bool true]) := fun ha h0 es hes n hn => (d_byAll htog h0 hl3 es hes n hn).mono (by rintro r ⟨l, h, rfl, e⟩; obtain ⟨rfl, rfl⟩ := e ha; rw [ha])
  have B1F : ag = false → 0 < ps.length → ∀ es, es = spRows ps → ∀ n : Int, n = ps.length → PCalls Try.prog 26 [.list 2 es, .int .i64 n] (fun r => ∃ l h, r = .tuple [sp2 l h, .bool false]) := fun ha h0 es hes n hn => (d_byAll htog h0 hl3 es hes n hn).mono (by rintro r ⟨l, h, rfl, e⟩; exact ⟨l, h, by rw [ha]⟩)
  have B2T : ag = false → ok = true → ps.length = 3 → ∀ es, es = spRows ps → PCalls Try.prog 26 [.list 2 es, .int .i64 2] (· = .tuple [sp2 tl th, .bool true]) := fun ha ho h3 es hes => (d_byTwo htog h3 ha es hes).mono (by rintro r ⟨l, h, rfl, e⟩; obtain ⟨rfl, rfl⟩ := e ho; rw [ho])
  have B2F : ag = false → ok = false → ps.length = 3 → ∀ es, es = spRows ps → PCalls Try.prog 26 [.list 2 es, .int .i64 2] (fun r => ∃ l h, r = .tuple [sp2 l h, .bool false]) := fun ha ho h3 es hes => (d_byTwo htog h3 ha es hes).mono (by rintro r ⟨l, h, rfl, e⟩; exact ⟨l, h, by rw [ho]⟩)
  have hTT : ag = true → ok = true := tog_tt htog
  have hFT : ag = false → ok = true → ps.length = 3 := tog_ft htog hl3
  have h0F : ps.length = 0 → ag = false := tog_0 htog
  subst za zo z0 z1 z2
  have hb1 := B1T rfl (by rw [hps]; simp [fitRow]) [[AV.int .i64 a0, .int .i64 b0], [AV.int .i64 a2, .int .i64 b2]] (by rw [hps]; rfl) 2 (by rw [hps]; rfl)
  have hn : ((ps.length : Nat) : Int) = 2 := by rw [hps]; rfl
  clear B1T B1F B2T B2F hTT hFT h0F htog hI hps
  simp only [bit, if_true, Bool.false_eq_true, if_false]
  (refine PCalls.ofY Try.func15 (by kernel_rfl) (by kernel_rfl) fun w hw R hR => ?_); (obtain ⟨wbin, wcmp, wun, wconv, wnot, wbeq, wmm, wscmp, wsadd, wslen, wsat, weqs, wlen, wnlen, wofNat, wtake, wdrop, wapp, wzero, wnat⟩ := w); (have hbin : wbin = binStd := congrArg Prims.bin hw); (have hcmp : wcmp = cmpStd := congrArg Prims.cmp hw); (have hun : wun = unStd := congrArg Prims.un hw); (have hconv : wconv = fun k n => k.wrap n := congrArg Prims.conv hw); (have hnot : wnot = fun b => !b := congrArg Prims.not hw); (have hbeq : wbeq = fun a b => a == b := congrArg Prims.beq hw); (have hmm : wmm = maxI := congrArg Prims.mm hw); (have hscmp : wscmp = scmpStd := congrArg Prims.scmp hw); (have hsadd : wsadd = fun x y => x ++ y := congrArg Prims.sadd hw); (have hslen : wslen = fun s => (s.size : Int) := congrArg Prims.slen hw); (have hsat : wsat = std.sat := congrArg Prims.sat hw); (have heqs : weqs = fun a b os => (eqOffs a b os).getD false := congrArg Prims.eqs hw); (have hlen : wlen = fun es => (es.length : Int) := congrArg Prims.len hw); (have hnlen : wnlen = fun es => es.length := congrArg Prims.nlen hw); (have hofNat : wofNat = (fun n : Nat => (n : Int)) := congrArg Prims.ofNat hw); (have htake : wtake = fun es b => es.take b.toNat := congrArg Prims.take hw); (have hdrop : wdrop = fun es a => es.drop a.toNat := congrArg Prims.drop hw); (have happ : wapp = fun a b => a ++ b := congrArg Prims.app hw); (have hzero : wzero = fun n z => List.replicate n.toNat z := congrArg Prims.zero hw); (have hnat : wnat = fun n => n.toNat := congrArg Prims.nat hw); (conv => arg 2; cbv); (generalize hP : Try.prog = P); cbv
  have e01 : wbin .add .i64 0 1 = 1 := by rw [hbin]; rfl
  have e12 : wbin .add .i64 1 1 = 2 := by rw [hbin]; rfl
  have e23 : wbin .add .i64 2 1 = 3 := by rw [hbin]; rfl
  (refine Loop.rounds hw 4 ?_; cbv)
  have c03 : wcmp .lss 0 3 = true := by rw [hcmp]; rfl
  have c13 : wcmp .lss 1 3 = true := by rw [hcmp]; rfl
  have c23 : wcmp .lss 2 3 = true := by rw [hcmp]; rfl
  have c33 : wcmp .lss 3 3 = false := by rw [hcmp]; rfl
  have c02 : wcmp .lss 0 2 = true := by rw [hcmp]; rfl
  have c12 : wcmp .lss 1 2 = true := by rw [hcmp]; rfl
  have c22 : wcmp .lss 2 2 = false := by rw [hcmp]; rfl
  have q11 : wcmp .eql 1 1 = true := by rw [hcmp]; rfl
  have q01 : wcmp .eql 0 1 = false := by rw [hcmp]; rfl
  have q23 : wcmp .eql 2 3 = false := by rw [hcmp]; rfl
  have g20 : wcmp .gtr 2 0 = true := by rw [hcmp]; rfl
  have n1 : wnot true = false := by rw [hnot]; rfl
  have n2 : wnot false = true := by rw [hnot]; rfl
  repeat' (first
    | (simp only [e01, e12, e23, c03, c13, c23, c33, c02, c12, c22, q11, q01, q23, g20, n1, n2]; cbv)
    | (simp only [e01, e12, e23, c03, c13, c23, c33, c02, c12, c22, q11, q01, q23, g20, n1, n2])
    | (refine InN.mk (by decide) (by decide) ?_; cbv)
    | (refine Ob.mk (by decide) ?_; cbv)
    | (refine App.mk _ _ rfl rfl rfl (by decide) (by decide) ?_; cbv)
    | ((split <;> rename_i h <;> (try (simp only [e01, e12, e23, c03, c13, c23, c33, c02, c12, c22, q11, q01, q23, g20, n1, n2] at h)) <;> (try (simp only [hbin, hcmp, hun, hconv, hnot, hbeq, hmm, hscmp, hsadd, hslen, hsat, heqs, hofNat, binStd, cmpStd, unStd, scmpStd, maxI, Bool.not_eq_true', Bool.not_eq_false', decide_eq_true_eq, decide_eq_false_iff_not, Int.not_lt, Int.not_le, if_true, if_false, Bool.false_eq_true, beq_iff_eq, bne_iff_ne, ne_eq, Bool.not_eq_eq_eq_not, Bool.not_true, Bool.not_false, beq_eq_false_iff_ne, bne_eq_false_iff_eq, Int.ofNat_eq_natCast, Bool.not_not, not_true_eq_false, not_false_eq_true, reduceCtorEq] at h)) <;> (try cbv)) <;> (try (refine absurd h ?_; decide)))
    | (refine Call.view (args' := [.list 2 [[AV.int .i64 a0, .int .i64 b0], [AV.int .i64 a2, .int .i64 b2]], .int .i64 2]) (by rw [← hP]; exact hb1) ⟨Vw.sl (es := [[AV.int .i64 a0, .int .i64 b0], [AV.int .i64 a2, .int .i64 b2]]) rfl rfl (Nat.le_refl _), Vw.same rfl, trivial⟩ ?_; rintro r rfl; refine ⟨rfl, ?_⟩; cbv)
    | (refine Call.stepE (by rw [← hP]; exact m1) rfl ?_; cbv)
    | (refine Call.stepE (by rw [← hP]; exact m2) rfl ?_; cbv)
    | (refine Call.stepE (by rw [← hP]; exact m3) rfl ?_; cbv)
    | (refine Call.stepE (by rw [← hP]; exact m4) rfl ?_; cbv)
    | (refine Call.stepE (by rw [← hP]; exact m5) rfl ?_; cbv)
    | (refine Call.stepE (by rw [← hP]; exact m6 rfl) rfl ?_; cbv)
    | (refine QCal.stepE (by rw [← hP]; exact m4) rfl ?_; cbv)
    | (refine QCal.stepE (by rw [← hP]; exact m5) rfl ?_; cbv)
    | ((refine Call.inl hw hP Try.func27 (by kernel_rfl) (by kernel_rfl) ?_); (conv => arg 2; cbv); cbv)
    | ((refine Loop.rounds hw 3 ?_; cbv)))
  all_goals
    refine ⟨_, Vw.same rfl, ?_⟩
    clear m1 m2 m3 m4 m5 m6 e01 e12 e23 c03 c13 c23 c33 c02 c12 c22 q11 q01 q23 g20 n1 n2 hw
    first
      | (refine hR _ ⟨_, _, 2, false, false, _, _, rfl, ?_⟩; clear hR)
      | (refine hR _ ⟨_, _, 2, false, true, _, _, rfl, ?_⟩; clear hR)
    refine ⟨hn.symm, by decide, ?_, ?_, ?_⟩
    · rcases hy3 with ⟨hy, rfl⟩ | ⟨hy, rfl⟩ <;> first | (exfalso; omega) | (simp [nar2, nar1, nM, nN, nO, *]; done) | (simp [nar2, nar1, nM, nN, nO, *]; omega)
    · first | (simp [slip1, slipV, *]; done) | (simp [slip1, slipV, *]; omega)
    · first | (simp [slip1, slipV, *]; done) | (simp [slip1, slipV, *]; omega)

set_option maxHeartbeats 4000000 in
theorem d_fuse_tt_ttf (p0 p1 : Int) (f0 f1 f2 f3 : Bool) (a0 b0 a1 b1 a2 b2 a3 b3 : Int) (ps : List (Int × Int)) (hps : ps = fitRow f0 a0 b0 ++ fitRow f1 a1 b1 ++ fitRow f2 a2 b2)
  (tl th : Int) (ok ag : Bool) (za : ag = true) (zo : ok = true) (z0 : f0 = true) (z1 : f1 = true) (z2 : f2 = false) (htog : TogIs ps tl th ok ag) (hI : ok = true → I60 tl ∧ I60 th) :
  PCalls Try.prog 15 [sp2 p0 p1, .agg [.int .i64 a0, .int .i64 b0, .int .i64 a1, .int .i64 b1, .int .i64 a2, .int .i64 b2, .int .i64 a3, .int .i64 b3], .agg [.int .i64 (bit f0), .int .i64 (bit f1), .int .i64 (bit f2), .int .i64 (bit f3)]]
    (fun r => ∃ lo hi n cl cf s0 s1, r = .agg [.int .i64 lo, .int .i64 hi, .int .i64 n, .int .i64 (bit cl), .int .i64 (bit cf), .int .i64 s0, .int .i64 s1] ∧ n = ps.length ∧ cl = (ag && decide (n = 3)) ∧ (lo, hi, cf) = nar2 f3 a3 b3 (nar1 ok tl th n p0 p1) ∧ s0 = slip1 ok ag tl th a0 b0 ∧ s1 = slip1 ok ag tl th a1 b1) := by
  have hl3 : ps.length ≤ 3 := by rw [hps]; cases f0 <;> cases f1 <;> cases f2 <;> simp [fitRow]
  obtain ⟨y3, ey3⟩ : ∃ x, bit f3 = x := ⟨_, rfl⟩
  rw [ey3]
  obtain ⟨mm, emm⟩ : ∃ x, (tl + th) / 2 = x := ⟨_, rfl⟩
  obtain ⟨c1, e1⟩ : ∃ x, max p0 tl = x := ⟨_, rfl⟩
  obtain ⟨c2, e2⟩ : ∃ x, min p1 th = x := ⟨_, rfl⟩
  obtain ⟨c3, e3⟩ : ∃ x, meetB p0 p1 tl th = x := ⟨_, rfl⟩
  obtain ⟨d1, e4⟩ : ∃ x, max p0 a3 = x := ⟨_, rfl⟩
  obtain ⟨d2, e5⟩ : ∃ x, min p1 b3 = x := ⟨_, rfl⟩
  obtain ⟨d3, e6⟩ : ∃ x, meetB p0 p1 a3 b3 = x := ⟨_, rfl⟩
  obtain ⟨g1, e7⟩ : ∃ x, max c1 a3 = x := ⟨_, rfl⟩
  obtain ⟨g2, e8⟩ : ∃ x, min c2 b3 = x := ⟨_, rfl⟩
  obtain ⟨g3, e9⟩ : ∃ x, meetB c1 c2 a3 b3 = x := ⟨_, rfl⟩
  obtain ⟨r1, k1⟩ : ∃ x, max a0 tl = x := ⟨_, rfl⟩
  obtain ⟨r2, k2⟩ : ∃ x, min b0 th = x := ⟨_, rfl⟩
  obtain ⟨r3, k3⟩ : ∃ x, meetB a0 b0 tl th = x := ⟨_, rfl⟩
  obtain ⟨t1, k4⟩ : ∃ x, max a1 tl = x := ⟨_, rfl⟩
  obtain ⟨t2, k5⟩ : ∃ x, min b1 th = x := ⟨_, rfl⟩
  obtain ⟨t3, k6⟩ : ∃ x, meetB a1 b1 tl th = x := ⟨_, rfl⟩
  have nM := fun cf => nar_of_max cf e1 e2 e3
  have nN := fun cf => nar_of_max cf e4 e5 e6
  have nO := fun cf => nar_of_max cf e7 e8 e9
  have m1 := d_common p0 p1 tl th c1 c2 c3 e1 e2 e3
  have m2 := d_common p0 p1 a3 b3 d1 d2 d3 e4 e5 e6
  have m3 := d_common c1 c2 a3 b3 g1 g2 g3 e7 e8 e9
  have m4 := d_common a0 b0 tl th r1 r2 r3 k1 k2 k3
  have m5 := d_common a1 b1 tl th t1 t2 t3 k4 k5 k6
  have k3' : meetB tl th a0 b0 = r3 := by rw [← k3, meetB_comm]
  have k6' : meetB tl th a1 b1 = t3 := by rw [← k6, meetB_comm]
  have m6 : ok = true → PCalls Try.prog 29 [.int .i64 tl, .int .i64 th] (· = .int .i64 mm) := fun h => by rw [← emm]; exact d_mid tl th (hI h).1 (hI h).2
  clear e1 e2 e3 e4 e5 e6 e7 e8 e9 k1 k2 k3 k4 k5 k6
  have hy3 : (y3 = 1 ∧ f3 = true) ∨ (y3 = 0 ∧ f3 = false) := by rw [← ey3]; cases f3 <;> simp [bit]
  have B1T : ag = true → 0 < ps.length → ∀ es, es = spRows ps → ∀ n : Int, n = ps.length → PCalls Try.prog 26 [.list 2 es, .int .i64 n] (· = .tuple [sp2 tl th, .bool true]) := fun ha h0 es hes n hn => (d_byAll htog h0 hl3 es hes n hn).mono (by rintro r ⟨l, h, rfl, e⟩; obtain ⟨rfl, rfl⟩ := e ha; rw [ha])
  have B1F : ag = false → 0 < ps.length → ∀ es, es = spRows ps → ∀ n : Int, n = ps.length → PCalls Try.prog 26 [.list 2 es, .int .i64 n] (fun r => ∃ l h, r = .tuple [sp2 l h, .bool false]) := fun ha h0 es hes n hn => (d_byAll htog h0 hl3 es hes n hn).mono (by rintro r ⟨l, h, rfl, e⟩; exact ⟨l, h, by rw [ha]⟩)
  have B2T : ag = false → ok = true → ps.length = 3 → ∀ es, es = spRows ps → PCalls Try.prog 26 [.list 2 es, .int .i64 2] (· = .tuple [sp2 tl th, .bool true]) := fun ha ho h3 es hes => (d_byTwo htog h3 ha es hes).mono (by rintro r ⟨l, h, rfl, e⟩; obtain ⟨rfl, rfl⟩ := e ho; rw [ho])
  have B2F : ag = false → ok = false → ps.length = 3 → ∀ es, es = spRows ps → PCalls Try.prog 26 [.list 2 es, .int .i64 2] (fun r => ∃ l h, r = .tuple [sp2 l h, .bool false]) := fun ha ho h3 es hes => (d_byTwo htog h3 ha es hes).mono (by rintro r ⟨l, h, rfl, e⟩; exact ⟨l, h, by rw [ho]⟩)
  have hTT : ag = true → ok = true := tog_tt htog
  have hFT : ag = false → ok = true → ps.length = 3 := tog_ft htog hl3
  have h0F : ps.length = 0 → ag = false := tog_0 htog
  subst za zo z0 z1 z2
  have hb1 := B1T rfl (by rw [hps]; simp [fitRow]) [[AV.int .i64 a0, .int .i64 b0], [AV.int .i64 a1, .int .i64 b1]] (by rw [hps]; rfl) 2 (by rw [hps]; rfl)
  have hn : ((ps.length : Nat) : Int) = 2 := by rw [hps]; rfl
  clear B1T B1F B2T B2F hTT hFT h0F htog hI hps
  simp only [bit, if_true, Bool.false_eq_true, if_false]
  (refine PCalls.ofY Try.func15 (by kernel_rfl) (by kernel_rfl) fun w hw R hR => ?_); (obtain ⟨wbin, wcmp, wun, wconv, wnot, wbeq, wmm, wscmp, wsadd, wslen, wsat, weqs, wlen, wnlen, wofNat, wtake, wdrop, wapp, wzero, wnat⟩ := w); (have hbin : wbin = binStd := congrArg Prims.bin hw); (have hcmp : wcmp = cmpStd := congrArg Prims.cmp hw); (have hun : wun = unStd := congrArg Prims.un hw); (have hconv : wconv = fun k n => k.wrap n := congrArg Prims.conv hw); (have hnot : wnot = fun b => !b := congrArg Prims.not hw); (have hbeq : wbeq = fun a b => a == b := congrArg Prims.beq hw); (have hmm : wmm = maxI := congrArg Prims.mm hw); (have hscmp : wscmp = scmpStd := congrArg Prims.scmp hw); (have hsadd : wsadd = fun x y => x ++ y := congrArg Prims.sadd hw); (have hslen : wslen = fun s => (s.size : Int) := congrArg Prims.slen hw); (have hsat : wsat = std.sat := congrArg Prims.sat hw); (have heqs : weqs = fun a b os => (eqOffs a b os).getD false := congrArg Prims.eqs hw); (have hlen : wlen = fun es => (es.length : Int) := congrArg Prims.len hw); (have hnlen : wnlen = fun es => es.length := congrArg Prims.nlen hw); (have hofNat : wofNat = (fun n : Nat => (n : Int)) := congrArg Prims.ofNat hw); (have htake : wtake = fun es b => es.take b.toNat := congrArg Prims.take hw); (have hdrop : wdrop = fun es a => es.drop a.toNat := congrArg Prims.drop hw); (have happ : wapp = fun a b => a ++ b := congrArg Prims.app hw); (have hzero : wzero = fun n z => List.replicate n.toNat z := congrArg Prims.zero hw); (have hnat : wnat = fun n => n.toNat := congrArg Prims.nat hw); (conv => arg 2; cbv); (generalize hP : Try.prog = P); cbv
  have e01 : wbin .add .i64 0 1 = 1 := by rw [hbin]; rfl
  have e12 : wbin .add .i64 1 1 = 2 := by rw [hbin]; rfl
  have e23 : wbin .add .i64 2 1 = 3 := by rw [hbin]; rfl
  (refine Loop.rounds hw 4 ?_; cbv)
  have c03 : wcmp .lss 0 3 = true := by rw [hcmp]; rfl
  have c13 : wcmp .lss 1 3 = true := by rw [hcmp]; rfl
  have c23 : wcmp .lss 2 3 = true := by rw [hcmp]; rfl
  have c33 : wcmp .lss 3 3 = false := by rw [hcmp]; rfl
  have c02 : wcmp .lss 0 2 = true := by rw [hcmp]; rfl
  have c12 : wcmp .lss 1 2 = true := by rw [hcmp]; rfl
  have c22 : wcmp .lss 2 2 = false := by rw [hcmp]; rfl
  have q11 : wcmp .eql 1 1 = true := by rw [hcmp]; rfl
  have q01 : wcmp .eql 0 1 = false := by rw [hcmp]; rfl
  have q23 : wcmp .eql 2 3 = false := by rw [hcmp]; rfl
  have g20 : wcmp .gtr 2 0 = true := by rw [hcmp]; rfl
  have n1 : wnot true = false := by rw [hnot]; rfl
  have n2 : wnot false = true := by rw [hnot]; rfl
  repeat' (first
    | (simp only [e01, e12, e23, c03, c13, c23, c33, c02, c12, c22, q11, q01, q23, g20, n1, n2]; cbv)
    | (simp only [e01, e12, e23, c03, c13, c23, c33, c02, c12, c22, q11, q01, q23, g20, n1, n2])
    | (refine InN.mk (by decide) (by decide) ?_; cbv)
    | (refine Ob.mk (by decide) ?_; cbv)
    | (refine App.mk _ _ rfl rfl rfl (by decide) (by decide) ?_; cbv)
    | ((split <;> rename_i h <;> (try (simp only [e01, e12, e23, c03, c13, c23, c33, c02, c12, c22, q11, q01, q23, g20, n1, n2] at h)) <;> (try (simp only [hbin, hcmp, hun, hconv, hnot, hbeq, hmm, hscmp, hsadd, hslen, hsat, heqs, hofNat, binStd, cmpStd, unStd, scmpStd, maxI, Bool.not_eq_true', Bool.not_eq_false', decide_eq_true_eq, decide_eq_false_iff_not, Int.not_lt, Int.not_le, if_true, if_false, Bool.false_eq_true, beq_iff_eq, bne_iff_ne, ne_eq, Bool.not_eq_eq_eq_not, Bool.not_true, Bool.not_false, beq_eq_false_iff_ne, bne_eq_false_iff_eq, Int.ofNat_eq_natCast, Bool.not_not, not_true_eq_false, not_false_eq_true, reduceCtorEq] at h)) <;> (try cbv)) <;> (try (refine absurd h ?_; decide)))
    | (refine Call.view (args' := [.list 2 [[AV.int .i64 a0, .int .i64 b0], [AV.int .i64 a1, .int .i64 b1]], .int .i64 2]) (by rw [← hP]; exact hb1) ⟨Vw.sl (es := [[AV.int .i64 a0, .int .i64 b0], [AV.int .i64 a1, .int .i64 b1]]) rfl rfl (Nat.le_refl _), Vw.same rfl, trivial⟩ ?_; rintro r rfl; refine ⟨rfl, ?_⟩; cbv)
    | (refine Call.stepE (by rw [← hP]; exact m1) rfl ?_; cbv)
    | (refine Call.stepE (by rw [← hP]; exact m2) rfl ?_; cbv)
    | (refine Call.stepE (by rw [← hP]; exact m3) rfl ?_; cbv)
    | (refine Call.stepE (by rw [← hP]; exact m4) rfl ?_; cbv)
    | (refine Call.stepE (by rw [← hP]; exact m5) rfl ?_; cbv)
    | (refine Call.stepE (by rw [← hP]; exact m6 rfl) rfl ?_; cbv)
    | (refine QCal.stepE (by rw [← hP]; exact m4) rfl ?_; cbv)
    | (refine QCal.stepE (by rw [← hP]; exact m5) rfl ?_; cbv)
    | ((refine Call.inl hw hP Try.func27 (by kernel_rfl) (by kernel_rfl) ?_); (conv => arg 2; cbv); cbv)
    | ((refine Loop.rounds hw 3 ?_; cbv)))
  all_goals
    refine ⟨_, Vw.same rfl, ?_⟩
    clear m1 m2 m3 m4 m5 m6 e01 e12 e23 c03 c13 c23 c33 c02 c12 c22 q11 q01 q23 g20 n1 n2 hw
    first
      | (refine hR _ ⟨_, _, 2, false, false, _, _, rfl, ?_⟩; clear hR)
      | (refine hR _ ⟨_, _, 2, false, true, _, _, rfl, ?_⟩; clear hR)
    refine ⟨hn.symm, by decide, ?_, ?_, ?_⟩
    · rcases hy3 with ⟨hy, rfl⟩ | ⟨hy, rfl⟩ <;> first | (exfalso; omega) | (simp [nar2, nar1, nM, nN, nO, *]; done) | (simp [nar2, nar1, nM, nN, nO, *]; omega)
    · first | (simp [slip1, slipV, *]; done) | (simp [slip1, slipV, *]; omega)
    · first | (simp [slip1, slipV, *]; done) | (simp [slip1, slipV, *]; omega)

set_option maxHeartbeats 4000000 in
theorem d_fuse_tt_ttt (p0 p1 : Int) (f0 f1 f2 f3 : Bool) (a0 b0 a1 b1 a2 b2 a3 b3 : Int) (ps : List (Int × Int)) (hps : ps = fitRow f0 a0 b0 ++ fitRow f1 a1 b1 ++ fitRow f2 a2 b2)
  (tl th : Int) (ok ag : Bool) (za : ag = true) (zo : ok = true) (z0 : f0 = true) (z1 : f1 = true) (z2 : f2 = true) (htog : TogIs ps tl th ok ag) (hI : ok = true → I60 tl ∧ I60 th) :
  PCalls Try.prog 15 [sp2 p0 p1, .agg [.int .i64 a0, .int .i64 b0, .int .i64 a1, .int .i64 b1, .int .i64 a2, .int .i64 b2, .int .i64 a3, .int .i64 b3], .agg [.int .i64 (bit f0), .int .i64 (bit f1), .int .i64 (bit f2), .int .i64 (bit f3)]]
    (fun r => ∃ lo hi n cl cf s0 s1, r = .agg [.int .i64 lo, .int .i64 hi, .int .i64 n, .int .i64 (bit cl), .int .i64 (bit cf), .int .i64 s0, .int .i64 s1] ∧ n = ps.length ∧ cl = (ag && decide (n = 3)) ∧ (lo, hi, cf) = nar2 f3 a3 b3 (nar1 ok tl th n p0 p1) ∧ s0 = slip1 ok ag tl th a0 b0 ∧ s1 = slip1 ok ag tl th a1 b1) := by
  have hl3 : ps.length ≤ 3 := by rw [hps]; cases f0 <;> cases f1 <;> cases f2 <;> simp [fitRow]
  obtain ⟨y3, ey3⟩ : ∃ x, bit f3 = x := ⟨_, rfl⟩
  rw [ey3]
  obtain ⟨mm, emm⟩ : ∃ x, (tl + th) / 2 = x := ⟨_, rfl⟩
  obtain ⟨c1, e1⟩ : ∃ x, max p0 tl = x := ⟨_, rfl⟩
  obtain ⟨c2, e2⟩ : ∃ x, min p1 th = x := ⟨_, rfl⟩
  obtain ⟨c3, e3⟩ : ∃ x, meetB p0 p1 tl th = x := ⟨_, rfl⟩
  obtain ⟨d1, e4⟩ : ∃ x, max p0 a3 = x := ⟨_, rfl⟩
  obtain ⟨d2, e5⟩ : ∃ x, min p1 b3 = x := ⟨_, rfl⟩
  obtain ⟨d3, e6⟩ : ∃ x, meetB p0 p1 a3 b3 = x := ⟨_, rfl⟩
  obtain ⟨g1, e7⟩ : ∃ x, max c1 a3 = x := ⟨_, rfl⟩
  obtain ⟨g2, e8⟩ : ∃ x, min c2 b3 = x := ⟨_, rfl⟩
  obtain ⟨g3, e9⟩ : ∃ x, meetB c1 c2 a3 b3 = x := ⟨_, rfl⟩
  obtain ⟨r1, k1⟩ : ∃ x, max a0 tl = x := ⟨_, rfl⟩
  obtain ⟨r2, k2⟩ : ∃ x, min b0 th = x := ⟨_, rfl⟩
  obtain ⟨r3, k3⟩ : ∃ x, meetB a0 b0 tl th = x := ⟨_, rfl⟩
  obtain ⟨t1, k4⟩ : ∃ x, max a1 tl = x := ⟨_, rfl⟩
  obtain ⟨t2, k5⟩ : ∃ x, min b1 th = x := ⟨_, rfl⟩
  obtain ⟨t3, k6⟩ : ∃ x, meetB a1 b1 tl th = x := ⟨_, rfl⟩
  have nM := fun cf => nar_of_max cf e1 e2 e3
  have nN := fun cf => nar_of_max cf e4 e5 e6
  have nO := fun cf => nar_of_max cf e7 e8 e9
  have m1 := d_common p0 p1 tl th c1 c2 c3 e1 e2 e3
  have m2 := d_common p0 p1 a3 b3 d1 d2 d3 e4 e5 e6
  have m3 := d_common c1 c2 a3 b3 g1 g2 g3 e7 e8 e9
  have m4 := d_common a0 b0 tl th r1 r2 r3 k1 k2 k3
  have m5 := d_common a1 b1 tl th t1 t2 t3 k4 k5 k6
  have k3' : meetB tl th a0 b0 = r3 := by rw [← k3, meetB_comm]
  have k6' : meetB tl th a1 b1 = t3 := by rw [← k6, meetB_comm]
  have m6 : ok = true → PCalls Try.prog 29 [.int .i64 tl, .int .i64 th] (· = .int .i64 mm) := fun h => by rw [← emm]; exact d_mid tl th (hI h).1 (hI h).2
  clear e1 e2 e3 e4 e5 e6 e7 e8 e9 k1 k2 k3 k4 k5 k6
  have hy3 : (y3 = 1 ∧ f3 = true) ∨ (y3 = 0 ∧ f3 = false) := by rw [← ey3]; cases f3 <;> simp [bit]
  have B1T : ag = true → 0 < ps.length → ∀ es, es = spRows ps → ∀ n : Int, n = ps.length → PCalls Try.prog 26 [.list 2 es, .int .i64 n] (· = .tuple [sp2 tl th, .bool true]) := fun ha h0 es hes n hn => (d_byAll htog h0 hl3 es hes n hn).mono (by rintro r ⟨l, h, rfl, e⟩; obtain ⟨rfl, rfl⟩ := e ha; rw [ha])
  have B1F : ag = false → 0 < ps.length → ∀ es, es = spRows ps → ∀ n : Int, n = ps.length → PCalls Try.prog 26 [.list 2 es, .int .i64 n] (fun r => ∃ l h, r = .tuple [sp2 l h, .bool false]) := fun ha h0 es hes n hn => (d_byAll htog h0 hl3 es hes n hn).mono (by rintro r ⟨l, h, rfl, e⟩; exact ⟨l, h, by rw [ha]⟩)
  have B2T : ag = false → ok = true → ps.length = 3 → ∀ es, es = spRows ps → PCalls Try.prog 26 [.list 2 es, .int .i64 2] (· = .tuple [sp2 tl th, .bool true]) := fun ha ho h3 es hes => (d_byTwo htog h3 ha es hes).mono (by rintro r ⟨l, h, rfl, e⟩; obtain ⟨rfl, rfl⟩ := e ho; rw [ho])
  have B2F : ag = false → ok = false → ps.length = 3 → ∀ es, es = spRows ps → PCalls Try.prog 26 [.list 2 es, .int .i64 2] (fun r => ∃ l h, r = .tuple [sp2 l h, .bool false]) := fun ha ho h3 es hes => (d_byTwo htog h3 ha es hes).mono (by rintro r ⟨l, h, rfl, e⟩; exact ⟨l, h, by rw [ho]⟩)
  have hTT : ag = true → ok = true := tog_tt htog
  have hFT : ag = false → ok = true → ps.length = 3 := tog_ft htog hl3
  have h0F : ps.length = 0 → ag = false := tog_0 htog
  subst za zo z0 z1 z2
  have hb1 := B1T rfl (by rw [hps]; simp [fitRow]) [[AV.int .i64 a0, .int .i64 b0], [AV.int .i64 a1, .int .i64 b1], [AV.int .i64 a2, .int .i64 b2]] (by rw [hps]; rfl) 3 (by rw [hps]; rfl)
  have hn : ((ps.length : Nat) : Int) = 3 := by rw [hps]; rfl
  clear B1T B1F B2T B2F hTT hFT h0F htog hI hps
  simp only [bit, if_true, Bool.false_eq_true, if_false]
  (refine PCalls.ofY Try.func15 (by kernel_rfl) (by kernel_rfl) fun w hw R hR => ?_); (obtain ⟨wbin, wcmp, wun, wconv, wnot, wbeq, wmm, wscmp, wsadd, wslen, wsat, weqs, wlen, wnlen, wofNat, wtake, wdrop, wapp, wzero, wnat⟩ := w); (have hbin : wbin = binStd := congrArg Prims.bin hw); (have hcmp : wcmp = cmpStd := congrArg Prims.cmp hw); (have hun : wun = unStd := congrArg Prims.un hw); (have hconv : wconv = fun k n => k.wrap n := congrArg Prims.conv hw); (have hnot : wnot = fun b => !b := congrArg Prims.not hw); (have hbeq : wbeq = fun a b => a == b := congrArg Prims.beq hw); (have hmm : wmm = maxI := congrArg Prims.mm hw); (have hscmp : wscmp = scmpStd := congrArg Prims.scmp hw); (have hsadd : wsadd = fun x y => x ++ y := congrArg Prims.sadd hw); (have hslen : wslen = fun s => (s.size : Int) := congrArg Prims.slen hw); (have hsat : wsat = std.sat := congrArg Prims.sat hw); (have heqs : weqs = fun a b os => (eqOffs a b os).getD false := congrArg Prims.eqs hw); (have hlen : wlen = fun es => (es.length : Int) := congrArg Prims.len hw); (have hnlen : wnlen = fun es => es.length := congrArg Prims.nlen hw); (have hofNat : wofNat = (fun n : Nat => (n : Int)) := congrArg Prims.ofNat hw); (have htake : wtake = fun es b => es.take b.toNat := congrArg Prims.take hw); (have hdrop : wdrop = fun es a => es.drop a.toNat := congrArg Prims.drop hw); (have happ : wapp = fun a b => a ++ b := congrArg Prims.app hw); (have hzero : wzero = fun n z => List.replicate n.toNat z := congrArg Prims.zero hw); (have hnat : wnat = fun n => n.toNat := congrArg Prims.nat hw); (conv => arg 2; cbv); (generalize hP : Try.prog = P); cbv
  have e01 : wbin .add .i64 0 1 = 1 := by rw [hbin]; rfl
  have e12 : wbin .add .i64 1 1 = 2 := by rw [hbin]; rfl
  have e23 : wbin .add .i64 2 1 = 3 := by rw [hbin]; rfl
  (refine Loop.rounds hw 4 ?_; cbv)
  have c03 : wcmp .lss 0 3 = true := by rw [hcmp]; rfl
  have c13 : wcmp .lss 1 3 = true := by rw [hcmp]; rfl
  have c23 : wcmp .lss 2 3 = true := by rw [hcmp]; rfl
  have c33 : wcmp .lss 3 3 = false := by rw [hcmp]; rfl
  have c02 : wcmp .lss 0 2 = true := by rw [hcmp]; rfl
  have c12 : wcmp .lss 1 2 = true := by rw [hcmp]; rfl
  have c22 : wcmp .lss 2 2 = false := by rw [hcmp]; rfl
  have q11 : wcmp .eql 1 1 = true := by rw [hcmp]; rfl
  have q01 : wcmp .eql 0 1 = false := by rw [hcmp]; rfl
  have q33 : wcmp .eql 3 3 = true := by rw [hcmp]; rfl
  have g30 : wcmp .gtr 3 0 = true := by rw [hcmp]; rfl
  have n1 : wnot true = false := by rw [hnot]; rfl
  have n2 : wnot false = true := by rw [hnot]; rfl
  repeat' (first
    | (simp only [e01, e12, e23, c03, c13, c23, c33, c02, c12, c22, q11, q01, q33, g30, n1, n2]; cbv)
    | (simp only [e01, e12, e23, c03, c13, c23, c33, c02, c12, c22, q11, q01, q33, g30, n1, n2])
    | (refine InN.mk (by decide) (by decide) ?_; cbv)
    | (refine Ob.mk (by decide) ?_; cbv)
    | (refine App.mk _ _ rfl rfl rfl (by decide) (by decide) ?_; cbv)
    | ((split <;> rename_i h <;> (try (simp only [e01, e12, e23, c03, c13, c23, c33, c02, c12, c22, q11, q01, q33, g30, n1, n2] at h)) <;> (try (simp only [hbin, hcmp, hun, hconv, hnot, hbeq, hmm, hscmp, hsadd, hslen, hsat, heqs, hofNat, binStd, cmpStd, unStd, scmpStd, maxI, Bool.not_eq_true', Bool.not_eq_false', decide_eq_true_eq, decide_eq_false_iff_not, Int.not_lt, Int.not_le, if_true, if_false, Bool.false_eq_true, beq_iff_eq, bne_iff_ne, ne_eq, Bool.not_eq_eq_eq_not, Bool.not_true, Bool.not_false, beq_eq_false_iff_ne, bne_eq_false_iff_eq, Int.ofNat_eq_natCast, Bool.not_not, not_true_eq_false, not_false_eq_true, reduceCtorEq] at h)) <;> (try cbv)) <;> (try (refine absurd h ?_; decide)))
    | (refine Call.view (args' := [.list 2 [[AV.int .i64 a0, .int .i64 b0], [AV.int .i64 a1, .int .i64 b1], [AV.int .i64 a2, .int .i64 b2]], .int .i64 3]) (by rw [← hP]; exact hb1) ⟨Vw.sl (es := [[AV.int .i64 a0, .int .i64 b0], [AV.int .i64 a1, .int .i64 b1], [AV.int .i64 a2, .int .i64 b2]]) rfl rfl (Nat.le_refl _), Vw.same rfl, trivial⟩ ?_; rintro r rfl; refine ⟨rfl, ?_⟩; cbv)
    | (refine Call.stepE (by rw [← hP]; exact m1) rfl ?_; cbv)
    | (refine Call.stepE (by rw [← hP]; exact m2) rfl ?_; cbv)
    | (refine Call.stepE (by rw [← hP]; exact m3) rfl ?_; cbv)
    | (refine Call.stepE (by rw [← hP]; exact m4) rfl ?_; cbv)
    | (refine Call.stepE (by rw [← hP]; exact m5) rfl ?_; cbv)
    | (refine Call.stepE (by rw [← hP]; exact m6 rfl) rfl ?_; cbv)
    | (refine QCal.stepE (by rw [← hP]; exact m4) rfl ?_; cbv)
    | (refine QCal.stepE (by rw [← hP]; exact m5) rfl ?_; cbv)
    | ((refine Call.inl hw hP Try.func27 (by kernel_rfl) (by kernel_rfl) ?_); (conv => arg 2; cbv); cbv)
    | ((refine Loop.rounds hw 3 ?_; cbv)))
  all_goals
    refine ⟨_, Vw.same rfl, ?_⟩
    clear m1 m2 m3 m4 m5 m6 e01 e12 e23 c03 c13 c23 c33 c02 c12 c22 q11 q01 q33 g30 n1 n2 hw
    first
      | (refine hR _ ⟨_, _, 3, true, false, _, _, rfl, ?_⟩; clear hR)
      | (refine hR _ ⟨_, _, 3, true, true, _, _, rfl, ?_⟩; clear hR)
    refine ⟨hn.symm, by decide, ?_, ?_, ?_⟩
    · rcases hy3 with ⟨hy, rfl⟩ | ⟨hy, rfl⟩ <;> first | (exfalso; omega) | (simp [nar2, nar1, nM, nN, nO, *]; done) | (simp [nar2, nar1, nM, nN, nO, *]; omega)
    · first | (simp [slip1, slipV, *]; done) | (simp [slip1, slipV, *]; omega)
    · first | (simp [slip1, slipV, *]; done) | (simp [slip1, slipV, *]; omega)
end Go.Proofs.Ytfonjmhnokailaa
