/- fuse.Fuse, by the engine (under way). -/
import Derived.Test.YtbagikhoinggjaaFuseV
import Derived.KernelRfl
set_option linter.unusedVariables false
set_option linter.unusedSimpArgs false
namespace Go.Proofs.Ytbagikhoinggjaa
open Go Go.RowKit Go.Eng
set_option maxRecDepth 100000
set_option maxHeartbeats 4000000 in
theorem e_fuse (p0 p1 : Int) (f0 f1 f2 f3 : Bool) (a0 b0 a1 b1 a2 b2 a3 b3 : Int) (ps : List (Int × Int)) (hps : ps = fitRow f0 a0 b0 ++ fitRow f1 a1 b1 ++ fitRow f2 a2 b2) (hI : ∀ i, i < ps.length → I64 (aOf ps i) ∧ I64 (bOf ps i)) :
    PCalls Try.prog 24 [sp2 p0 p1, .agg [.bool f0, .int .i64 a0, .int .i64 b0, .bool f1, .int .i64 a1, .int .i64 b1, .bool f2, .int .i64 a2, .int .i64 b2], .agg [.bool f3, .int .i64 a3, .int .i64 b3]]
      (fun r => ∃ tl th ok ag lo hi n cl cf s0 s1, r = .agg [.int .i64 lo, .int .i64 hi, .int .i64 n, .bool cl, .bool cf, .int .i64 s0, .int .i64 s1] ∧ TogIs ps tl th ok ag ∧ n = ps.length ∧ cl = (ag && decide (n = 3)) ∧ (lo, hi, cf) = nar2 f3 a3 b3 (nar1 ok tl th n p0 p1) ∧ s0 = slip1 ok ag tl th a0 b0 ∧ s1 = slip1 ok ag tl th a1 b1) := by
  have hlp : ps.length ≤ 3 := by rw [hps]; cases f0 <;> cases f1 <;> cases f2 <;> simp [fitRow]
  (refine PCalls.ofY Try.func24 (by kernel_rfl) (by kernel_rfl) fun w hw R hR => ?_); (obtain ⟨wbin, wcmp, wun, wconv, wnot, wbeq, wmm, wscmp, wsadd, wslen, wsat, weqs, wlen, wnlen, wofNat, wtake, wdrop, wapp, wzero, wnat⟩ := w); (have hbin : wbin = binStd := congrArg Prims.bin hw); (have hcmp : wcmp = cmpStd := congrArg Prims.cmp hw); (have hun : wun = unStd := congrArg Prims.un hw); (have hconv : wconv = fun k n => k.wrap n := congrArg Prims.conv hw); (have hnot : wnot = fun b => !b := congrArg Prims.not hw); (have hbeq : wbeq = fun a b => a == b := congrArg Prims.beq hw); (have hmm : wmm = maxI := congrArg Prims.mm hw); (have hscmp : wscmp = scmpStd := congrArg Prims.scmp hw); (have hsadd : wsadd = fun x y => x ++ y := congrArg Prims.sadd hw); (have hslen : wslen = fun s => (s.size : Int) := congrArg Prims.slen hw); (have hsat : wsat = std.sat := congrArg Prims.sat hw); (have heqs : weqs = fun a b os => (eqOffs a b os).getD false := congrArg Prims.eqs hw); (have hlen : wlen = fun es => (es.length : Int) := congrArg Prims.len hw); (have hnlen : wnlen = fun es => es.length := congrArg Prims.nlen hw); (have hofNat : wofNat = (fun n : Nat => (n : Int)) := congrArg Prims.ofNat hw); (have htake : wtake = fun es b => es.take b.toNat := congrArg Prims.take hw); (have hdrop : wdrop = fun es a => es.drop a.toNat := congrArg Prims.drop hw); (have happ : wapp = fun a b => a ++ b := congrArg Prims.app hw); (have hzero : wzero = fun n z => List.replicate n.toNat z := congrArg Prims.zero hw); (have hnat : wnat = fun n => n.toNat := congrArg Prims.nat hw); (conv => arg 2; cbv); (generalize hP : Try.prog = P); cbv
  refine Call.step (by rw [← hP]; exact e_fit f0 f1 f2 a0 b0 a1 b1 a2 b2) rfl ?_
  rintro r ⟨es, rfl, hes⟩
  have hes : es = spRows ps := by rw [hes, hps]; rfl
  have hu : Up0 es := ⟨by rw [hes]; exact up_spRows ps⟩
  cbv
  (obtain ⟨L, eL, L0, Ln⟩ : ∃ L : Int, wlen es = L ∧ 0 ≤ L ∧ L.toNat = es.length := ⟨(es.length : Int), by rw [hlen], Int.natCast_nonneg _, Int.toNat_natCast _⟩)
  refine Call.step (by rw [← hP]; exact e_together ps es hes hlp) (by exact Up0.one hu rfl) ?_
  rintro r ⟨tl, th, ok, ag, rfl, htog⟩
  cbv
  obtain ⟨ml, mh, mo, em⟩ : ∃ l h o, meetV p0 p1 tl th = (l, h, o) := ⟨_, _, _, rfl⟩
  have m1 : PCalls P 50 [sp2 p0 p1, sp2 tl th] (· = .tuple [sp2 ml mh, .bool mo]) := by rw [← hP]; exact e_meetX p0 p1 tl th ml mh mo em
  have hL : L = (ps.length : Int) := by have := len_spRows ps; rw [← hes] at this; omega
  have key : ∀ lo hi cf s0 s1, (lo, hi, cf) = nar2 f3 a3 b3 (nar1 ok tl th L p0 p1) → s0 = slip1 ok ag tl th a0 b0 → s1 = slip1 ok ag tl th a1 b1 → ∀ cl, cl = (ag && decide (L = 3)) → R (.agg [.int .i64 lo, .int .i64 hi, .int .i64 L, .bool cl, .bool cf, .int .i64 s0, .int .i64 s1]) := fun lo hi cf s0 s1 h1 h2 h3 cl h4 => hR _ ⟨tl, th, ok, ag, lo, hi, L, cl, cf, s0, s1, rfl, ⟨htog⟩, hL, h4, h1, h2, h3⟩
  clear hR
  have hI2 := tog_i64 ⟨htog⟩ hI
  obtain ⟨nl, nh, no, en⟩ : ∃ l h o, meetV p0 p1 a3 b3 = (l, h, o) := ⟨_, _, _, rfl⟩
  have m2 : PCalls P 50 [sp2 p0 p1, sp2 a3 b3] (· = .tuple [sp2 nl nh, .bool no]) := by rw [← hP]; exact e_meetX p0 p1 a3 b3 nl nh no en
  obtain ⟨ol, oh, oo, eo⟩ : ∃ l h o, meetV ml mh a3 b3 = (l, h, o) := ⟨_, _, _, rfl⟩
  have m3 : PCalls P 50 [sp2 ml mh, sp2 a3 b3] (· = .tuple [sp2 ol oh, .bool oo]) := by rw [← hP]; exact e_meetX ml mh a3 b3 ol oh oo eo
  have nM := nar_of_meet em
  have nN := nar_of_meet en
  have nO := nar_of_meet eo
  clear em en eo
  have m4 := e_strays3 tl th a0 b0 a1 b1
  rw [hP] at m4
  obtain ⟨z0, ez0⟩ : ∃ x, slipV a0 b0 tl th = x := ⟨_, rfl⟩
  obtain ⟨z1, ez1⟩ : ∃ x, slipV a1 b1 tl th = x := ⟨_, rfl⟩
  have m5 : ok = true → PCalls P 39 [sp2 a0 b0, sp2 tl th] (· = .int .i64 z0) := fun h => by rw [← hP, ← ez0]; exact e_slip a0 b0 tl th (hI2 h).1 (hI2 h).2
  have m6 : ok = true → PCalls P 39 [sp2 a1 b1, sp2 tl th] (· = .int .i64 z1) := fun h => by rw [← hP, ← ez1]; exact e_slip a1 b1 tl th (hI2 h).1 (hI2 h).2
  have e01 : wbin .add .i64 0 1 = 1 := by rw [hbin]; rfl
  have e12 : wbin .add .i64 1 1 = 2 := by rw [hbin]; rfl
  have l0 : wlen [] = 0 := by rw [hlen]; rfl
  have l1 : ∀ a, wlen [a] = 1 := fun a => by rw [hlen]; rfl
  have l2 : ∀ a b, wlen [a, b] = 2 := fun a b => by rw [hlen]; rfl
  repeat' (first
    | (split <;> rename_i h <;> (try (simp only [eL] at h)) <;> (try (simp only [hbin, hcmp, hun, hconv, hnot, hbeq, hmm, hscmp, hsadd, hslen, hsat, heqs, hofNat, binStd, cmpStd, unStd, scmpStd, maxI, Bool.not_eq_true', Bool.not_eq_false', decide_eq_true_eq, decide_eq_false_iff_not, Int.not_lt, Int.not_le, if_true, if_false, Bool.false_eq_true, beq_iff_eq, bne_iff_ne, ne_eq, Bool.not_eq_eq_eq_not, Bool.not_true, Bool.not_false, beq_eq_false_iff_ne, bne_eq_false_iff_eq, Int.ofNat_eq_natCast, Bool.not_not, not_true_eq_false, not_false_eq_true, reduceCtorEq] at h)) <;> (try cbv))
    | ((refine Call.inl hw hP Try.func37 (by kernel_rfl) (by kernel_rfl) ?_); (conv => arg 2; cbv); cbv)
    | (refine QCal.stepE m1 rfl ?_; cbv)
    | (refine QCal.stepE m2 rfl ?_; cbv)
    | (refine QCal.stepE m3 rfl ?_; cbv))
  all_goals try (refine InN.mk (by decide) (by decide) ?_; refine InN.mk (by decide) (by decide) ?_; refine Call.step m4 rfl ?_; rintro r (⟨rfl, q0, q1⟩ | ⟨rfl, q0, q1⟩ | ⟨rfl, q0, q1⟩ | ⟨rfl, q0, q1⟩) <;> cbv)
  all_goals try simp only [l0, l1, l2]
  all_goals try (refine Loop.rounds hw 3 ?_; cbv)
  all_goals
    repeat' (first
      | (exfalso; omega)
      | (simp only [e01, e12]; cbv)
      | (simp only [e01, e12])
      | (refine InN.mk (by decide) (by decide) ?_; cbv)
      | (refine Idx.mk [.int .i64 0] (by decide) rfl ?_; cbv)
      | (refine Idx.mk [.int .i64 1] (by decide) rfl ?_; cbv)
      | (refine QCal.stepE (m5 rfl) rfl ?_; cbv)
      | (refine QCal.stepE (m6 rfl) rfl ?_; cbv)
      | (split <;> rename_i h <;> (try (simp only [e01, e12] at h)) <;> (try (simp only [hbin, hcmp, hun, hconv, hnot, hbeq, hmm, hscmp, hsadd, hslen, hsat, heqs, hofNat, binStd, cmpStd, unStd, scmpStd, maxI, Bool.not_eq_true', Bool.not_eq_false', decide_eq_true_eq, decide_eq_false_iff_not, Int.not_lt, Int.not_le, if_true, if_false, Bool.false_eq_true, beq_iff_eq, bne_iff_ne, ne_eq, Bool.not_eq_eq_eq_not, Bool.not_true, Bool.not_false, beq_eq_false_iff_ne, bne_eq_false_iff_eq, Int.ofNat_eq_natCast, Bool.not_not, not_true_eq_false, not_false_eq_true, reduceCtorEq] at h)) <;> (try cbv)))
  all_goals
    clear hL m1 m2 m3 m4 m5 m6 hI2 htog hI hu hes e01 e12 l0 l1 l2 hw hps hlp
    refine ⟨_, Vw.same rfl, ?_⟩
    rw [eL]
    refine key _ _ _ _ _ ?_ ?_ ?_ _ ?_
    · first | (simp [nar2, nar1, nM, nN, nO, *]; done) | (simp [nar2, nar1, nM, nN, nO, *]; omega)
    · simp [slip1, *]
    · simp [slip1, *]
    · rw [Bool.eq_iff_iff]; simp [hcmp, cmpStd]
end Go.Proofs.Ytbagikhoinggjaa
