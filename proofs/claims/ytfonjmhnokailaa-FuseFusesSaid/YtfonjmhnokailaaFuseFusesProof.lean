/- fuse.Fuse, by the engine (under way). -/
import Derived.Test.YtfonjmhnokailaaFuseV
import Derived.KernelRfl
import Derived.Test.YtfonjmhnokailaaFuseW
import Derived.Test.YtfonjmhnokailaaFuse5
import Derived.Test.YtfonjmhnokailaaFuse6
import Derived.Test.YtfonjmhnokailaaFuse7
import Derived.Test.YtfonjmhnokailaaFuse8
import Derived.Test.YtfonjmhnokailaaEng23
import Derived.Test.YtfonjmhnokailaaRows
import Derived.WalkKit
import Derived.ProofKit
import Derived.OpenShut
import Derived.ShutString
import Derived.ChangeOld
import Derived.Below
set_option linter.unusedVariables false
set_option linter.unusedSimpArgs false
namespace Go.Proofs.Ytfonjmhnokailaa
open Go Go.RowKit Go.Eng
set_option maxRecDepth 100000
set_option maxHeartbeats 4000000 in
theorem e_fuse (p0 p1 : Int) (f0 f1 f2 f3 : Bool) (a0 b0 a1 b1 a2 b2 a3 b3 : Int) (ps : List (Int × Int)) (hps : ps = fitRow f0 a0 b0 ++ fitRow f1 a1 b1 ++ fitRow f2 a2 b2) (hI : ∀ i, i < ps.length → I64 (aOf ps i) ∧ I64 (bOf ps i)) :
    PCalls Try.prog 14 [sp2 p0 p1, .agg [.bool f0, .int .i64 a0, .int .i64 b0, .bool f1, .int .i64 a1, .int .i64 b1, .bool f2, .int .i64 a2, .int .i64 b2], .agg [.bool f3, .int .i64 a3, .int .i64 b3]]
      (fun r => ∃ tl th ok ag lo hi n cl cf s0 s1, r = .agg [.int .i64 lo, .int .i64 hi, .int .i64 n, .bool cl, .bool cf, .int .i64 s0, .int .i64 s1] ∧ TogIs ps tl th ok ag ∧ n = ps.length ∧ cl = (ag && decide (n = 3)) ∧ (lo, hi, cf) = nar2 f3 a3 b3 (nar1 ok tl th n p0 p1) ∧ s0 = slip1 ok ag tl th a0 b0 ∧ s1 = slip1 ok ag tl th a1 b1) := by
  have hlp : ps.length ≤ 3 := by rw [hps]; cases f0 <;> cases f1 <;> cases f2 <;> simp [fitRow]
  (refine PCalls.ofY Try.func14 (by kernel_rfl) (by kernel_rfl) fun w hw R hR => ?_); (obtain ⟨wbin, wcmp, wun, wconv, wnot, wbeq, wmm, wscmp, wsadd, wslen, wsat, weqs, wlen, wnlen, wofNat, wtake, wdrop, wapp, wzero, wnat⟩ := w); (have hbin : wbin = binStd := congrArg Prims.bin hw); (have hcmp : wcmp = cmpStd := congrArg Prims.cmp hw); (have hun : wun = unStd := congrArg Prims.un hw); (have hconv : wconv = fun k n => k.wrap n := congrArg Prims.conv hw); (have hnot : wnot = fun b => !b := congrArg Prims.not hw); (have hbeq : wbeq = fun a b => a == b := congrArg Prims.beq hw); (have hmm : wmm = maxI := congrArg Prims.mm hw); (have hscmp : wscmp = scmpStd := congrArg Prims.scmp hw); (have hsadd : wsadd = fun x y => x ++ y := congrArg Prims.sadd hw); (have hslen : wslen = fun s => (s.size : Int) := congrArg Prims.slen hw); (have hsat : wsat = std.sat := congrArg Prims.sat hw); (have heqs : weqs = fun a b os => (eqOffs a b os).getD false := congrArg Prims.eqs hw); (have hlen : wlen = fun es => (es.length : Int) := congrArg Prims.len hw); (have hnlen : wnlen = fun es => es.length := congrArg Prims.nlen hw); (have hofNat : wofNat = (fun n : Nat => (n : Int)) := congrArg Prims.ofNat hw); (have htake : wtake = fun es b => es.take b.toNat := congrArg Prims.take hw); (have hdrop : wdrop = fun es a => es.drop a.toNat := congrArg Prims.drop hw); (have happ : wapp = fun a b => a ++ b := congrArg Prims.app hw); (have hzero : wzero = fun n z => List.replicate n.toNat z := congrArg Prims.zero hw); (have hnat : wnat = fun n => n.toNat := congrArg Prims.nat hw); (conv => arg 2; cbv); (generalize hP : Try.prog = P); cbv
  refine Call.step (by rw [← hP]; exact e_fit f0 f1 f2 a0 b0 a1 b1 a2 b2) rfl ?_
  rintro r ⟨es, rfl, hes⟩
  have hes : es = spRows ps := by rw [hes, hps]; rfl
  have hu : Up0 es := ⟨by rw [hes]; exact up_spRows ps⟩
  cbv
  (obtain ⟨L, eL, L0, Ln⟩ : ∃ L : Int, wlen es = L ∧ 0 ≤ L ∧ L.toNat = es.length := ⟨(es.length : Int), by rw [hlen], Int.natCast_nonneg _, Int.toNat_natCast _⟩)
  refine Call.step (by rw [← hP]; exact e_together ps es hes hlp) (by exact Up0.one hu rfl) ?_
  rintro r ⟨tl, th, ok, ag, rfl, htog⟩
  cbv
  obtain ⟨ml, mh, mo, em⟩ : ∃ l h o, meetV p0 p1 tl th = (l, h, o) := ⟨_, _, _, rfl⟩
  have m1 : PCalls P 34 [sp2 p0 p1, sp2 tl th] (· = .tuple [sp2 ml mh, .bool mo]) := by rw [← hP]; exact e_meetX p0 p1 tl th ml mh mo em
  have hL : L = (ps.length : Int) := by have := len_spRows ps; rw [← hes] at this; omega
  have key : ∀ lo hi cf s0 s1, (lo, hi, cf) = nar2 f3 a3 b3 (nar1 ok tl th L p0 p1) → s0 = slip1 ok ag tl th a0 b0 → s1 = slip1 ok ag tl th a1 b1 → ∀ cl, cl = (ag && decide (L = 3)) → R (.agg [.int .i64 lo, .int .i64 hi, .int .i64 L, .bool cl, .bool cf, .int .i64 s0, .int .i64 s1]) := fun lo hi cf s0 s1 h1 h2 h3 cl h4 => hR _ ⟨tl, th, ok, ag, lo, hi, L, cl, cf, s0, s1, rfl, ⟨htog⟩, hL, h4, h1, h2, h3⟩
  clear hR
  have hI2 := tog_i64 ⟨htog⟩ hI
  obtain ⟨nl, nh, no, en⟩ : ∃ l h o, meetV p0 p1 a3 b3 = (l, h, o) := ⟨_, _, _, rfl⟩
  have m2 : PCalls P 34 [sp2 p0 p1, sp2 a3 b3] (· = .tuple [sp2 nl nh, .bool no]) := by rw [← hP]; exact e_meetX p0 p1 a3 b3 nl nh no en
  obtain ⟨ol, oh, oo, eo⟩ : ∃ l h o, meetV ml mh a3 b3 = (l, h, o) := ⟨_, _, _, rfl⟩
  have m3 : PCalls P 34 [sp2 ml mh, sp2 a3 b3] (· = .tuple [sp2 ol oh, .bool oo]) := by rw [← hP]; exact e_meetX ml mh a3 b3 ol oh oo eo
  have nM := nar_of_meet em
  have nN := nar_of_meet en
  have nO := nar_of_meet eo
  clear em en eo
  have m4 := e_strays3 tl th a0 b0 a1 b1
  rw [hP] at m4
  obtain ⟨z0, ez0⟩ : ∃ x, slipV a0 b0 tl th = x := ⟨_, rfl⟩
  obtain ⟨z1, ez1⟩ : ∃ x, slipV a1 b1 tl th = x := ⟨_, rfl⟩
  have m5 : ok = true → PCalls P 25 [sp2 a0 b0, sp2 tl th] (· = .int .i64 z0) := fun h => by rw [← hP, ← ez0]; exact e_slip a0 b0 tl th (hI2 h).1 (hI2 h).2
  have m6 : ok = true → PCalls P 25 [sp2 a1 b1, sp2 tl th] (· = .int .i64 z1) := fun h => by rw [← hP, ← ez1]; exact e_slip a1 b1 tl th (hI2 h).1 (hI2 h).2
  have e01 : wbin .add .i64 0 1 = 1 := by rw [hbin]; rfl
  have e12 : wbin .add .i64 1 1 = 2 := by rw [hbin]; rfl
  have l0 : wlen [] = 0 := by rw [hlen]; rfl
  have l1 : ∀ a, wlen [a] = 1 := fun a => by rw [hlen]; rfl
  have l2 : ∀ a b, wlen [a, b] = 2 := fun a b => by rw [hlen]; rfl
  repeat' (first
    | (split <;> rename_i h <;> (try (simp only [eL] at h)) <;> (try (simp only [hbin, hcmp, hun, hconv, hnot, hbeq, hmm, hscmp, hsadd, hslen, hsat, heqs, hofNat, binStd, cmpStd, unStd, scmpStd, maxI, Bool.not_eq_true', Bool.not_eq_false', decide_eq_true_eq, decide_eq_false_iff_not, Int.not_lt, Int.not_le, if_true, if_false, Bool.false_eq_true, beq_iff_eq, bne_iff_ne, ne_eq, Bool.not_eq_eq_eq_not, Bool.not_true, Bool.not_false, beq_eq_false_iff_ne, bne_eq_false_iff_eq, Int.ofNat_eq_natCast, Bool.not_not, not_true_eq_false, not_false_eq_true, reduceCtorEq] at h)) <;> (try cbv))
    | ((refine Call.inl hw hP Try.func23 (by kernel_rfl) (by kernel_rfl) ?_); (conv => arg 2; cbv); cbv)
    | (refine QCal.stepE m1 rfl ?_; cbv)
    | (refine QCal.stepE m2 rfl ?_; cbv)
    | (refine QCal.stepE m3 rfl ?_; cbv))
  all_goals try (refine InN.mk (by decide) (by decide) ?_; refine InN.mk (by decide) (by decide) ?_; refine Call.step m4 rfl ?_; rintro r (⟨rfl, q0, q1⟩ | ⟨rfl, q0, q1⟩ | ⟨rfl, q0, q1⟩ | ⟨rfl, q0, q1⟩) <;> cbv)
  all_goals try simp only [l0, l1, l2]
  all_goals try (refine Loop.rounds hw 3 ?_; cbv)
  all_goals
    repeat' (first
      | (exfalso; omega)
      | (simp only [e01, e12]; cbv)
      | (simp only [e01, e12])
      | (refine InN.mk (by decide) (by decide) ?_; cbv)
      | (refine Idx.mk [.int .i64 0] (by decide) rfl ?_; cbv)
      | (refine Idx.mk [.int .i64 1] (by decide) rfl ?_; cbv)
      | (refine QCal.stepE (m5 rfl) rfl ?_; cbv)
      | (refine QCal.stepE (m6 rfl) rfl ?_; cbv)
      | (split <;> rename_i h <;> (try (simp only [e01, e12] at h)) <;> (try (simp only [hbin, hcmp, hun, hconv, hnot, hbeq, hmm, hscmp, hsadd, hslen, hsat, heqs, hofNat, binStd, cmpStd, unStd, scmpStd, maxI, Bool.not_eq_true', Bool.not_eq_false', decide_eq_true_eq, decide_eq_false_iff_not, Int.not_lt, Int.not_le, if_true, if_false, Bool.false_eq_true, beq_iff_eq, bne_iff_ne, ne_eq, Bool.not_eq_eq_eq_not, Bool.not_true, Bool.not_false, beq_eq_false_iff_ne, bne_eq_false_iff_eq, Int.ofNat_eq_natCast, Bool.not_not, not_true_eq_false, not_false_eq_true, reduceCtorEq] at h)) <;> (try cbv)))
  all_goals
    clear hL m1 m2 m3 m4 m5 m6 hI2 htog hI hu hes e01 e12 l0 l1 l2 hw hps hlp
    refine ⟨_, Vw.same rfl, ?_⟩
    rw [eL]
    refine key _ _ _ _ _ ?_ ?_ ?_ _ ?_
    · first | (simp [nar2, nar1, nM, nN, nO, *]; done) | (simp [nar2, nar1, nM, nN, nO, *]; omega)
    · simp [slip1, *]
    · simp [slip1, *]
    · rw [Bool.eq_iff_iff]; simp [hcmp, cmpStd]
end Go.Proofs.Ytfonjmhnokailaa


set_option linter.unusedVariables false
set_option linter.unusedSimpArgs false
namespace Go.Proofs.Ytfonjmhnokailaa
open Go Go.RowKit Go.Eng
set_option maxRecDepth 100000
theorem fit_all {Q : Int → Prop} (f0 f1 f2 : Bool) {a0 b0 a1 b1 a2 b2 : Int} (h0 : Q a0) (h1 : Q b0) (h2 : Q a1) (h3 : Q b1) (h4 : Q a2) (h5 : Q b2) : ∀ i, i < (fitV f0 f1 f2 a0 b0 a1 b1 a2 b2).length → Q (aOf (fitV f0 f1 f2 a0 b0 a1 b1 a2 b2) i) ∧ Q (bOf (fitV f0 f1 f2 a0 b0 a1 b1 a2 b2) i) := by
  intro i hi
  cases f0 <;> cases f1 <;> cases f2 <;> simp only [fitV, fitRow, List.append_nil, List.nil_append, List.cons_append, List.length_cons, List.length_nil] at hi ⊢ <;>
    (rcases i with _ | _ | _ | i <;> first | (exfalso; omega) | exact ⟨by assumption, by assumption⟩)
structure All64 (a0 b0 a1 b1 a2 b2 a3 b3 : Int) : Prop where
  a0 : I64 a0
  b0 : I64 b0
  a1 : I64 a1
  b1 : I64 b1
  a2 : I64 a2
  b2 : I64 b2
  a3 : I64 a3
  b3 : I64 b3
section
variable {p0 p1 : Int} {f0 f1 f2 f3 : Bool} {a0 b0 a1 b1 a2 b2 a3 b3 tl th lo hi n : Int} {ok ag cl cf : Bool} {s0 s1 : Int}
theorem fuse_tog (h : FuseIs p0 p1 f0 f1 f2 f3 a0 b0 a1 b1 a2 b2 a3 b3 tl th ok ag lo hi n cl cf s0 s1) : TogIs (fitV f0 f1 f2 a0 b0 a1 b1 a2 b2) tl th ok ag := by
  have := tog_togV _ (fit_len f0 f1 f2 a0 b0 a1 b1 a2 b2)
  rw [h.tog] at this
  exact this
theorem e_fuseX (h : FuseIs p0 p1 f0 f1 f2 f3 a0 b0 a1 b1 a2 b2 a3 b3 tl th ok ag lo hi n cl cf s0 s1) (hI : All64 a0 b0 a1 b1 a2 b2 a3 b3) :
    PCalls Try.prog 14 [sp2 p0 p1, sens3 f0 f1 f2 a0 b0 a1 b1 a2 b2, sens f3 a3 b3] (· = .agg [.int .i64 lo, .int .i64 hi, .int .i64 n, .bool cl, .bool cf, .int .i64 s0, .int .i64 s1]) := by
  refine (e_fuse p0 p1 f0 f1 f2 f3 a0 b0 a1 b1 a2 b2 a3 b3 _ rfl (fit_all f0 f1 f2 hI.a0 hI.b0 hI.a1 hI.b1 hI.a2 hI.b2)).mono ?_
  rintro r ⟨tl', th', ok', ag', lo', hi', n', cl', cf', s0', s1', rfl, k1, k2, k3, k4, k5, k6⟩
  obtain ⟨rfl, rfl, rfl, rfl⟩ := tog_unique k1 (fuse_tog h)
  have e1 : n = n' := by rw [h.len, k2]; rfl
  subst e1
  have e2 := k4.trans h.nar.symm
  simp only [Prod.mk.injEq] at e2
  obtain ⟨rfl, rfl, rfl⟩ := e2
  rw [k3, k5, k6, h.cl, h.sl0, h.sl1]
end
theorem fuse_ex (p0 p1 : Int) (f0 f1 f2 f3 : Bool) (a0 b0 a1 b1 a2 b2 a3 b3 : Int) : ∃ tl th ok ag lo hi n cl cf s0 s1, FuseIs p0 p1 f0 f1 f2 f3 a0 b0 a1 b1 a2 b2 a3 b3 tl th ok ag lo hi n cl cf s0 s1 :=
  ⟨_, _, _, _, _, _, _, _, _, _, _, ⟨rfl, rfl, rfl, rfl, rfl, rfl⟩⟩
theorem e_anchor17 : PCalls Try.prog 11 [] (· = .bool true) := by
  have hI : ∀ x y z t : Int, I64 x → I64 y → I64 z → I64 t → All64 10 20 12 30 x y z t := fun x y z t h1 h2 h3 h4 => ⟨by unfold I64; omega, by unfold I64; omega, by unfold I64; omega, by unfold I64; omega, h1, h2, h3, h4⟩
  have m1 := e_fuseX (p0 := 0) (p1 := 100) (f0 := true) (f1 := true) (f2 := true) (f3 := false) (tl := 12) (th := 20) (ok := true) (ag := false) (lo := 12) (hi := 20) (n := 3) (cl := false) (cf := false) (s0 := 0) (s1 := 0) ⟨by decide, by decide, by decide, by decide, by decide, by decide⟩ (hI 40 50 0 0 (by unfold I64; omega) (by unfold I64; omega) (by unfold I64; omega) (by unfold I64; omega))
  have m2 := e_fuseX (p0 := 0) (p1 := 100) (f0 := true) (f1 := true) (f2 := true) (f3 := false) (tl := 15) (th := 18) (ok := true) (ag := true) (lo := 15) (hi := 18) (n := 3) (cl := true) (cf := false) (s0 := 0) (s1 := 0) ⟨by decide, by decide, by decide, by decide, by decide, by decide⟩ (hI 15 18 0 0 (by unfold I64; omega) (by unfold I64; omega) (by unfold I64; omega) (by unfold I64; omega))
  (refine PCalls.ofY Try.func11 (by kernel_rfl) (by kernel_rfl) fun w hw R hR => ?_); (obtain ⟨wbin, wcmp, wun, wconv, wnot, wbeq, wmm, wscmp, wsadd, wslen, wsat, weqs, wlen, wnlen, wofNat, wtake, wdrop, wapp, wzero, wnat⟩ := w); (have hbin : wbin = binStd := congrArg Prims.bin hw); (have hcmp : wcmp = cmpStd := congrArg Prims.cmp hw); (have hun : wun = unStd := congrArg Prims.un hw); (have hconv : wconv = fun k n => k.wrap n := congrArg Prims.conv hw); (have hnot : wnot = fun b => !b := congrArg Prims.not hw); (have hbeq : wbeq = fun a b => a == b := congrArg Prims.beq hw); (have hmm : wmm = maxI := congrArg Prims.mm hw); (have hscmp : wscmp = scmpStd := congrArg Prims.scmp hw); (have hsadd : wsadd = fun x y => x ++ y := congrArg Prims.sadd hw); (have hslen : wslen = fun s => (s.size : Int) := congrArg Prims.slen hw); (have hsat : wsat = std.sat := congrArg Prims.sat hw); (have heqs : weqs = fun a b os => (eqOffs a b os).getD false := congrArg Prims.eqs hw); (have hlen : wlen = fun es => (es.length : Int) := congrArg Prims.len hw); (have hnlen : wnlen = fun es => es.length := congrArg Prims.nlen hw); (have hofNat : wofNat = (fun n : Nat => (n : Int)) := congrArg Prims.ofNat hw); (have htake : wtake = fun es b => es.take b.toNat := congrArg Prims.take hw); (have hdrop : wdrop = fun es a => es.drop a.toNat := congrArg Prims.drop hw); (have happ : wapp = fun a b => a ++ b := congrArg Prims.app hw); (have hzero : wzero = fun n z => List.replicate n.toNat z := congrArg Prims.zero hw); (have hnat : wnat = fun n => n.toNat := congrArg Prims.nat hw); (conv => arg 2; cbv); (generalize hP : Try.prog = P); cbv
  repeat' (first
    | (refine InN.mk (by decide) (by decide) ?_; cbv)
    | (split <;> rename_i h <;> (try (simp only [hmm] at h)) <;> (try (simp only [hbin, hcmp, hun, hconv, hnot, hbeq, hmm, hscmp, hsadd, hslen, hsat, heqs, hofNat, binStd, cmpStd, unStd, scmpStd, maxI, Bool.not_eq_true', Bool.not_eq_false', decide_eq_true_eq, decide_eq_false_iff_not, Int.not_lt, Int.not_le, if_true, if_false, Bool.false_eq_true, beq_iff_eq, bne_iff_ne, ne_eq, Bool.not_eq_eq_eq_not, Bool.not_true, Bool.not_false, beq_eq_false_iff_ne, bne_eq_false_iff_eq, Int.ofNat_eq_natCast, Bool.not_not, not_true_eq_false, not_false_eq_true, reduceCtorEq] at h)) <;> (try cbv))
    | (refine Call.stepE (by rw [← hP]; exact m1) rfl ?_; cbv)
    | (refine Call.stepE (by rw [← hP]; exact m2) rfl ?_; cbv))
  all_goals first
    | (refine ⟨_, Vw.same rfl, hR _ rfl⟩)
    | (refine absurd h ?_; decide)
end Go.Proofs.Ytfonjmhnokailaa


set_option linter.unusedVariables false
set_option linter.unusedSimpArgs false
namespace Go.Proofs.Ytfonjmhnokailaa
open Go Go.RowKit Go.Eng
set_option maxRecDepth 100000
section
variable {p0 p1 : Int} {f0 f1 f2 f3 : Bool} {a0 b0 a1 b1 a2 b2 a3 b3 tl th lo hi n : Int} {ok ag cl cf : Bool} {s0 s1 : Int}
theorem fuse_inside (h : FuseIs p0 p1 f0 f1 f2 f3 a0 b0 a1 b1 a2 b2 a3 b3 tl th ok ag lo hi n cl cf s0 s1) (hp : p0 ≤ p1) : lo ≤ hi ∧ p0 ≤ lo ∧ hi ≤ p1 ∧ ((s0 = 0 ∧ s1 = 0) ∨ (n = 3 ∧ cl = false)) := by
  have ht := fuse_tog h
  have hl := fit_len f0 f1 f2 a0 b0 a1 b1 a2 b2
  have hN := h.nar
  have key : ∀ s : Int × Int × Bool, s.1 ≤ s.2.1 → p0 ≤ s.1 → s.2.1 ≤ p1 → ∀ a b, (narV s a b).1 ≤ (narV s a b).2.1 ∧ p0 ≤ (narV s a b).1 ∧ (narV s a b).2.1 ≤ p1 := by
    intro s h1 h2 h3 a b
    unfold narV
    split <;> simp only <;> omega
  have k1 : ∀ s, s = nar1 ok tl th n p0 p1 → s.1 ≤ s.2.1 ∧ p0 ≤ s.1 ∧ s.2.1 ≤ p1 := by
    rintro s rfl
    unfold nar1
    split
    · exact key (p0, p1, false) hp (Int.le_refl _) (Int.le_refl _) _ _
    · exact ⟨hp, Int.le_refl _, Int.le_refl _⟩
  obtain ⟨k1, k2, k3⟩ := k1 _ rfl
  have k4 : lo ≤ hi ∧ p0 ≤ lo ∧ hi ≤ p1 := by
    unfold nar2 at hN
    split at hN
    · have := key _ k1 k2 k3 a3 b3
      rw [← hN] at this
      exact this
    · rw [← hN] at k1 k2 k3
      exact ⟨k1, k2, k3⟩
  refine ⟨k4.1, k4.2.1, k4.2.2, ?_⟩
  by_cases hs : ok = true ∧ ag = false
  · refine .inr ⟨?_, by rw [h.cl, hs.2]; rfl⟩
    rw [h.len, tog_ft ht hl hs.2 hs.1]; rfl
  · refine .inl ⟨?_, ?_⟩
    · rw [h.sl0]; unfold slip1; rw [if_neg (fun hh => hs ⟨hh.1, hh.2.1⟩)]
    · rw [h.sl1]; unfold slip1; rw [if_neg (fun hh => hs ⟨hh.1, hh.2.1⟩)]
end
theorem may_spec {a b : Int} (h : mayV a b = true) : a ≤ b ∧ -1152921504606846976 ≤ a ∧ b ≤ 1152921504606846976 := by
  simpa [mayV] using h
theorem eq_pair (a b c d : Int) (u : Bool) (h : (eqOffs [.int .i64 a, .int .i64 b] [.int .i64 c, .int .i64 d] [(0, 1), (1, 1)]).getD false = u) : u = (decide (a = c) && decide (b = d)) := by
  rw [← h]
  simp only [eqOffs, eqA, List.getD_eq_getElem?_getD, List.getElem?_cons_zero, List.getElem?_cons_succ, Option.getD_some, Bool.and_true, Bool.beq_eq_decide_eq]
  rw [Bool.eq_iff_iff]
  simp
end Go.Proofs.Ytfonjmhnokailaa


set_option linter.unusedVariables false
set_option linter.unusedSimpArgs false
namespace Go.Proofs.Ytfonjmhnokailaa
open Go Go.RowKit Go.Eng
def hasV (a b v : Int) : Prop := a ≤ v ∧ v ≤ b
theorem fit_cases (f0 f1 f2 : Bool) (a0 b0 a1 b1 a2 b2 : Int) :
    (f0 = false ∧ f1 = false ∧ f2 = false ∧ fitV f0 f1 f2 a0 b0 a1 b1 a2 b2 = []) ∨ (f0 = true ∧ f1 = false ∧ f2 = false ∧ fitV f0 f1 f2 a0 b0 a1 b1 a2 b2 = [(a0, b0)]) ∨
    (f0 = false ∧ f1 = true ∧ f2 = false ∧ fitV f0 f1 f2 a0 b0 a1 b1 a2 b2 = [(a1, b1)]) ∨ (f0 = false ∧ f1 = false ∧ f2 = true ∧ fitV f0 f1 f2 a0 b0 a1 b1 a2 b2 = [(a2, b2)]) ∨
    (f0 = true ∧ f1 = true ∧ f2 = false ∧ fitV f0 f1 f2 a0 b0 a1 b1 a2 b2 = [(a0, b0), (a1, b1)]) ∨ (f0 = true ∧ f1 = false ∧ f2 = true ∧ fitV f0 f1 f2 a0 b0 a1 b1 a2 b2 = [(a0, b0), (a2, b2)]) ∨
    (f0 = false ∧ f1 = true ∧ f2 = true ∧ fitV f0 f1 f2 a0 b0 a1 b1 a2 b2 = [(a1, b1), (a2, b2)]) ∨ (f0 = true ∧ f1 = true ∧ f2 = true ∧ fitV f0 f1 f2 a0 b0 a1 b1 a2 b2 = [(a0, b0), (a1, b1), (a2, b2)]) := by
  cases f0 <;> cases f1 <;> cases f2 <;> simp [fitV, fitRow]
def bitN (f : Bool) : Int := if f = true then 1 else 0
theorem fit_n (f0 f1 f2 : Bool) (a0 b0 a1 b1 a2 b2 : Int) : ((fitV f0 f1 f2 a0 b0 a1 b1 a2 b2).length : Int) = bitN f0 + bitN f1 + bitN f2 := by
  cases f0 <;> cases f1 <;> cases f2 <;> rfl
/-- A value that two of three have is in what two of three have. -/
theorem two_has {p q r : Int × Int} {v : Int} (h : (hasV p.1 p.2 v ∧ hasV q.1 q.2 v) ∨ (hasV p.1 p.2 v ∧ hasV r.1 r.2 v) ∨ (hasV q.1 q.2 v ∧ hasV r.1 r.2 v)) : (twoV p q r).2.2 = true ∧ (twoV p q r).1 ≤ v ∧ v ≤ (twoV p q r).2.1 := by
  have t := two3 p q r
  have pr : ∀ i j, i < j → j < 3 → Pairs 3 3 0 i j := by intro i j; unfold Pairs; omega
  have key : ∀ i j, i < j → j < 3 → max (aOf [p, q, r] i) (aOf [p, q, r] j) ≤ v → v ≤ min (bOf [p, q, r] i) (bOf [p, q, r] j) → (twoV p q r).2.2 = true ∧ (twoV p q r).1 ≤ v ∧ v ≤ (twoV p q r).2.1 := by
    intro i j h1 h2 h3 h4
    have hf : (twoV p q r).2.2 = true := by
      cases hf : (twoV p q r).2.2 with
      | true => rfl
      | false => exact absurd (by omega) ((t.none_ hf).2.2 i j (pr i j h1 h2))
    have e1 := (t.lo_ hf).2 i j (pr i j h1 h2) (by omega)
    have e2 := (t.hi_ hf).2 i j (pr i j h1 h2) (by omega)
    exact ⟨hf, by omega, by omega⟩
  rcases h with ⟨⟨x1, x2⟩, ⟨y1, y2⟩⟩ | ⟨⟨x1, x2⟩, ⟨y1, y2⟩⟩ | ⟨⟨x1, x2⟩, ⟨y1, y2⟩⟩
  · exact key 0 1 (by omega) (by omega) (by simp [aOf]; omega) (by simp [bOf]; omega)
  · exact key 0 2 (by omega) (by omega) (by simp [aOf]; omega) (by simp [bOf]; omega)
  · exact key 1 2 (by omega) (by omega) (by simp [aOf]; omega) (by simp [bOf]; omega)
/-- What two of three have lies in the hull of any two of them. -/
theorem two_in {p q r : Int × Int} (h : (twoV p q r).2.2 = true) : (min p.1 q.1 ≤ (twoV p q r).1 ∧ (twoV p q r).2.1 ≤ max p.2 q.2) ∧ (min p.1 r.1 ≤ (twoV p q r).1 ∧ (twoV p q r).2.1 ≤ max p.2 r.2) ∧ (min q.1 r.1 ≤ (twoV p q r).1 ∧ (twoV p q r).2.1 ≤ max q.2 r.2) := by
  have t := two3 p q r
  obtain ⟨⟨i, j, h1, h2, h3⟩, _⟩ := t.lo_ h
  obtain ⟨⟨i', j', h1', h2', h3'⟩, _⟩ := t.hi_ h
  have pr : ∀ i j, Pairs 3 3 0 i j → (i = 0 ∧ j = 1) ∨ (i = 0 ∧ j = 2) ∨ (i = 1 ∧ j = 2) := by intro i j; unfold Pairs; omega
  have e0 : aOf [p, q, r] 0 = p.1 := rfl
  have e1 : aOf [p, q, r] 1 = q.1 := rfl
  have e2 : aOf [p, q, r] 2 = r.1 := rfl
  have f0 : bOf [p, q, r] 0 = p.2 := rfl
  have f1 : bOf [p, q, r] 1 = q.2 := rfl
  have f2 : bOf [p, q, r] 2 = r.2 := rfl
  generalize twoV p q r = T at *
  rcases pr _ _ h1 with ⟨rfl, rfl⟩ | ⟨rfl, rfl⟩ | ⟨rfl, rfl⟩ <;> rcases pr _ _ h1' with ⟨rfl, rfl⟩ | ⟨rfl, rfl⟩ | ⟨rfl, rfl⟩ <;> simp only [e0, e1, e2, f0, f1, f2] at h2 h3 h2' h3' <;> omega
theorem tog_perm (f0 f1 f2 : Bool) (a0 b0 a1 b1 a2 b2 : Int) : togV (fitV f1 f0 f2 a1 b1 a0 b0 a2 b2) = togV (fitV f0 f1 f2 a0 b0 a1 b1 a2 b2) := by
  cases f0 <;> cases f1 <;> cases f2 <;> simp only [fitV, fitRow, List.append_nil, List.nil_append, List.cons_append]
  · rw [togV2, togV2]; simp only; rw [Int.max_comm a1 a0, Int.min_comm b1 b0]
  · rw [togV3, togV3]
    simp only
    rw [Int.max_comm a1 a0, Int.min_comm b1 b0]
    have e : twoV (a1, b1) (a0, b0) (a2, b2) = twoV (a0, b0) (a1, b1) (a2, b2) := by
      have t := two3 (a1, b1) (a0, b0) (a2, b2)
      have t' := two3 (a0, b0) (a1, b1) (a2, b2)
      unfold twoV stepV
      simp only
      rw [Int.max_comm a1 a0, Int.min_comm b1 b0]
      by_cases c1 : max a0 a1 ≤ min b0 b1 <;> by_cases c2 : max a0 a2 ≤ min b0 b2 <;> by_cases c3 : max a1 a2 ≤ min b1 b2 <;> simp [c1, c2, c3] <;> omega
    rw [e]
section
variable {p0 p1 : Int} {f0 f1 f2 f3 : Bool} {a0 b0 a1 b1 a2 b2 a3 b3 tl th lo hi n : Int} {ok ag cl cf : Bool} {s0 s1 : Int}
theorem nar_has {p0 p1 a b v : Int} {cf : Bool} (h : hasV p0 p1 v) (h' : hasV a b v) : narV (p0, p1, cf) a b = (max p0 a, min p1 b, cf) := by
  unfold hasV at h h'
  unfold narV
  rw [if_pos (by simp only; omega)]
/-- Whoever has v: it is in what all say. -/
theorem fuse_true (h : FuseIs p0 p1 f0 f1 f2 f3 a0 b0 a1 b1 a2 b2 a3 b3 tl th ok ag lo hi n cl cf s0 s1) (v : Int) (hp : hasV p0 p1 v) (ha : f3 = true → hasV a3 b3 v)
    (hw : (n = 0 ∧ ok = false) ∨ (ok = true ∧ hasV tl th v)) : lo ≤ v ∧ v ≤ hi ∧ cf = false := by
  have hN := h.nar
  have hp' := hp
  unfold hasV at hp
  have k : ∃ x y, nar1 ok tl th n p0 p1 = (x, y, false) ∧ hasV x y v := by
    unfold nar1
    rcases hw with ⟨h1, h2⟩ | ⟨h1, h2⟩
    · subst h1 h2
      exact ⟨p0, p1, rfl, hp'⟩
    · subst h1
      refine ⟨_, _, nar_has hp' h2, ?_⟩
      unfold hasV at h2 ⊢; omega
  obtain ⟨x, y, e, hv⟩ := k
  rw [e] at hN
  unfold nar2 at hN
  split at hN
  · rename_i hf
    have h3 := ha hf
    rw [nar_has hv h3] at hN
    simp only [Prod.mk.injEq] at hN
    obtain ⟨rfl, rfl, rfl⟩ := hN
    unfold hasV at hv h3
    exact ⟨by omega, by omega, rfl⟩
  · simp only [Prod.mk.injEq] at hN
    obtain ⟨rfl, rfl, rfl⟩ := hN
    unfold hasV at hv
    exact ⟨hv.1, hv.2, rfl⟩
/-- All that are fit have it. -/
theorem tog_all (h : FuseIs p0 p1 f0 f1 f2 f3 a0 b0 a1 b1 a2 b2 a3 b3 tl th ok ag lo hi n cl cf s0 s1) (v : Int) (h0 : f0 = true → hasV a0 b0 v) (h1 : f1 = true → hasV a1 b1 v) (h2 : f2 = true → hasV a2 b2 v) :
    (n = 0 ∧ ok = false) ∨ (ok = true ∧ hasV tl th v ∧ ag = true) := by
  have ht := h.tog
  have hl := h.len
  unfold hasV at *
  rcases fit_cases f0 f1 f2 a0 b0 a1 b1 a2 b2 with ⟨rfl, rfl, rfl, e⟩ | ⟨rfl, rfl, rfl, e⟩ | ⟨rfl, rfl, rfl, e⟩ | ⟨rfl, rfl, rfl, e⟩ | ⟨rfl, rfl, rfl, e⟩ | ⟨rfl, rfl, rfl, e⟩ | ⟨rfl, rfl, rfl, e⟩ | ⟨rfl, rfl, rfl, e⟩ <;>
    (rw [e] at ht hl)
  · refine .inl ⟨hl, ?_⟩
    have : togV [] = (0, 0, false, false) := rfl
    rw [this] at ht
    simp only [Prod.mk.injEq] at ht
    exact ht.2.2.1.symm
  all_goals
    first | rw [togV1] at ht | rw [togV2] at ht | rw [togV3] at ht
    simp only [true_implies, false_implies, Bool.false_eq_true] at h0 h1 h2
    rw [if_pos (by simp only; omega)] at ht
    simp only [Prod.mk.injEq] at ht
    obtain ⟨rfl, rfl, rfl, rfl⟩ := ht
    exact .inr ⟨rfl, by omega, rfl⟩
/-- All three are fit; two of them have it; they have nothing in common. -/
theorem tog_but (h : FuseIs p0 p1 true true true f3 a0 b0 a1 b1 a2 b2 a3 b3 tl th ok ag lo hi n cl cf s0 s1) (v : Int) (hn : ¬ max (max a0 a1) a2 ≤ min (min b0 b1) b2)
    (hw : (hasV a0 b0 v ∧ hasV a1 b1 v) ∨ (hasV a0 b0 v ∧ hasV a2 b2 v) ∨ (hasV a1 b1 v ∧ hasV a2 b2 v)) : ok = true ∧ hasV tl th v ∧
      (min a0 a1 ≤ tl ∧ th ≤ max b0 b1) ∧ (min a0 a2 ≤ tl ∧ th ≤ max b0 b2) ∧ (min a1 a2 ≤ tl ∧ th ≤ max b1 b2) := by
  have ht := h.tog
  have e : fitV true true true a0 b0 a1 b1 a2 b2 = [(a0, b0), (a1, b1), (a2, b2)] := rfl
  rw [e, togV3, if_neg hn] at ht
  simp only [Prod.mk.injEq] at ht
  obtain ⟨rfl, rfl, rfl, rfl⟩ := ht
  obtain ⟨k1, k2, k3⟩ := two_has (p := (a0, b0)) (q := (a1, b1)) (r := (a2, b2)) hw
  exact ⟨k1, ⟨k2, k3⟩, two_in k1⟩
end
end Go.Proofs.Ytfonjmhnokailaa


set_option linter.unusedVariables false
set_option linter.unusedSimpArgs false
namespace Go.Proofs.Ytfonjmhnokailaa
open Go Go.RowKit Go.Eng
set_option maxRecDepth 100000
theorem d_fuse (p0 p1 : Int) (f0 f1 f2 f3 : Bool) (a0 b0 a1 b1 a2 b2 a3 b3 : Int) (ps : List (Int × Int)) (hps : ps = fitRow f0 a0 b0 ++ fitRow f1 a1 b1 ++ fitRow f2 a2 b2)
    (tl th : Int) (ok ag : Bool) (htog : TogIs ps tl th ok ag) (hI : ok = true → I60 tl ∧ I60 th) :
    PCalls Try.prog 15 [sp2 p0 p1, .agg [.int .i64 a0, .int .i64 b0, .int .i64 a1, .int .i64 b1, .int .i64 a2, .int .i64 b2, .int .i64 a3, .int .i64 b3], .agg [.int .i64 (bit f0), .int .i64 (bit f1), .int .i64 (bit f2), .int .i64 (bit f3)]]
      (fun r => ∃ lo hi n cl cf s0 s1, r = .agg [.int .i64 lo, .int .i64 hi, .int .i64 n, .int .i64 (bit cl), .int .i64 (bit cf), .int .i64 s0, .int .i64 s1] ∧ n = ps.length ∧ cl = (ag && decide (n = 3)) ∧ (lo, hi, cf) = nar2 f3 a3 b3 (nar1 ok tl th n p0 p1) ∧ s0 = slip1 ok ag tl th a0 b0 ∧ s1 = slip1 ok ag tl th a1 b1) := by
  have hl3 : ps.length ≤ 3 := by rw [hps]; cases f0 <;> cases f1 <;> cases f2 <;> simp [fitRow]
  have hTT : ag = true → ok = true := tog_tt htog
  have hFT : ag = false → ok = true → ps.length = 3 := tog_ft htog hl3
  have h0F : ps.length = 0 → ag = false := tog_0 htog
  cases ag <;> cases ok <;> cases f0 <;> cases f1 <;> cases f2
  all_goals first
    | (refine absurd (hTT rfl) ?_; decide)
    | (refine absurd (hFT rfl rfl) ?_; rw [hps]; simp [fitRow]; done)
    | (have hq := h0F; rw [hps] at hq; refine absurd (hq rfl) ?_; decide)
    | exact d_fuse_ff_fff p0 p1 _ _ _ f3 a0 b0 a1 b1 a2 b2 a3 b3 ps hps tl th _ _ rfl rfl rfl rfl rfl htog hI
    | exact d_fuse_ff_fft p0 p1 _ _ _ f3 a0 b0 a1 b1 a2 b2 a3 b3 ps hps tl th _ _ rfl rfl rfl rfl rfl htog hI
    | exact d_fuse_ff_ftf p0 p1 _ _ _ f3 a0 b0 a1 b1 a2 b2 a3 b3 ps hps tl th _ _ rfl rfl rfl rfl rfl htog hI
    | exact d_fuse_ff_ftt p0 p1 _ _ _ f3 a0 b0 a1 b1 a2 b2 a3 b3 ps hps tl th _ _ rfl rfl rfl rfl rfl htog hI
    | exact d_fuse_ff_tff p0 p1 _ _ _ f3 a0 b0 a1 b1 a2 b2 a3 b3 ps hps tl th _ _ rfl rfl rfl rfl rfl htog hI
    | exact d_fuse_ff_tft p0 p1 _ _ _ f3 a0 b0 a1 b1 a2 b2 a3 b3 ps hps tl th _ _ rfl rfl rfl rfl rfl htog hI
    | exact d_fuse_ff_ttf p0 p1 _ _ _ f3 a0 b0 a1 b1 a2 b2 a3 b3 ps hps tl th _ _ rfl rfl rfl rfl rfl htog hI
    | exact d_fuse_ff_ttt p0 p1 _ _ _ f3 a0 b0 a1 b1 a2 b2 a3 b3 ps hps tl th _ _ rfl rfl rfl rfl rfl htog hI
    | exact d_fuse_tt_fft p0 p1 _ _ _ f3 a0 b0 a1 b1 a2 b2 a3 b3 ps hps tl th _ _ rfl rfl rfl rfl rfl htog hI
    | exact d_fuse_tt_ftf p0 p1 _ _ _ f3 a0 b0 a1 b1 a2 b2 a3 b3 ps hps tl th _ _ rfl rfl rfl rfl rfl htog hI
    | exact d_fuse_tt_ftt p0 p1 _ _ _ f3 a0 b0 a1 b1 a2 b2 a3 b3 ps hps tl th _ _ rfl rfl rfl rfl rfl htog hI
    | exact d_fuse_tt_tff p0 p1 _ _ _ f3 a0 b0 a1 b1 a2 b2 a3 b3 ps hps tl th _ _ rfl rfl rfl rfl rfl htog hI
    | exact d_fuse_tt_tft p0 p1 _ _ _ f3 a0 b0 a1 b1 a2 b2 a3 b3 ps hps tl th _ _ rfl rfl rfl rfl rfl htog hI
    | exact d_fuse_tt_ttf p0 p1 _ _ _ f3 a0 b0 a1 b1 a2 b2 a3 b3 ps hps tl th _ _ rfl rfl rfl rfl rfl htog hI
    | exact d_fuse_tt_ttt p0 p1 _ _ _ f3 a0 b0 a1 b1 a2 b2 a3 b3 ps hps tl th _ _ rfl rfl rfl rfl rfl htog hI
    | (cases zf : f3 <;> cases zc : meetB p0 p1 tl th <;> cases zr : meetB a0 b0 tl th <;> cases zm : decide ((tl + th) / 2 < 0)
       · exact d_fuse_ft_ttt_ffff p0 p1 _ _ _ _ a0 b0 a1 b1 a2 b2 a3 b3 ps hps tl th _ _ rfl rfl rfl rfl rfl rfl zc zr zm htog hI
       · exact d_fuse_ft_ttt_ffft p0 p1 _ _ _ _ a0 b0 a1 b1 a2 b2 a3 b3 ps hps tl th _ _ rfl rfl rfl rfl rfl rfl zc zr zm htog hI
       · exact d_fuse_ft_ttt_fftf p0 p1 _ _ _ _ a0 b0 a1 b1 a2 b2 a3 b3 ps hps tl th _ _ rfl rfl rfl rfl rfl rfl zc zr zm htog hI
       · exact d_fuse_ft_ttt_fftt p0 p1 _ _ _ _ a0 b0 a1 b1 a2 b2 a3 b3 ps hps tl th _ _ rfl rfl rfl rfl rfl rfl zc zr zm htog hI
       · exact d_fuse_ft_ttt_ftff p0 p1 _ _ _ _ a0 b0 a1 b1 a2 b2 a3 b3 ps hps tl th _ _ rfl rfl rfl rfl rfl rfl zc zr zm htog hI
       · exact d_fuse_ft_ttt_ftft p0 p1 _ _ _ _ a0 b0 a1 b1 a2 b2 a3 b3 ps hps tl th _ _ rfl rfl rfl rfl rfl rfl zc zr zm htog hI
       · exact d_fuse_ft_ttt_fttf p0 p1 _ _ _ _ a0 b0 a1 b1 a2 b2 a3 b3 ps hps tl th _ _ rfl rfl rfl rfl rfl rfl zc zr zm htog hI
       · exact d_fuse_ft_ttt_fttt p0 p1 _ _ _ _ a0 b0 a1 b1 a2 b2 a3 b3 ps hps tl th _ _ rfl rfl rfl rfl rfl rfl zc zr zm htog hI
       · exact d_fuse_ft_ttt_tfff p0 p1 _ _ _ _ a0 b0 a1 b1 a2 b2 a3 b3 ps hps tl th _ _ rfl rfl rfl rfl rfl rfl zc zr zm htog hI
       · exact d_fuse_ft_ttt_tfft p0 p1 _ _ _ _ a0 b0 a1 b1 a2 b2 a3 b3 ps hps tl th _ _ rfl rfl rfl rfl rfl rfl zc zr zm htog hI
       · exact d_fuse_ft_ttt_tftf p0 p1 _ _ _ _ a0 b0 a1 b1 a2 b2 a3 b3 ps hps tl th _ _ rfl rfl rfl rfl rfl rfl zc zr zm htog hI
       · exact d_fuse_ft_ttt_tftt p0 p1 _ _ _ _ a0 b0 a1 b1 a2 b2 a3 b3 ps hps tl th _ _ rfl rfl rfl rfl rfl rfl zc zr zm htog hI
       · exact d_fuse_ft_ttt_ttff p0 p1 _ _ _ _ a0 b0 a1 b1 a2 b2 a3 b3 ps hps tl th _ _ rfl rfl rfl rfl rfl rfl zc zr zm htog hI
       · exact d_fuse_ft_ttt_ttft p0 p1 _ _ _ _ a0 b0 a1 b1 a2 b2 a3 b3 ps hps tl th _ _ rfl rfl rfl rfl rfl rfl zc zr zm htog hI
       · exact d_fuse_ft_ttt_tttf p0 p1 _ _ _ _ a0 b0 a1 b1 a2 b2 a3 b3 ps hps tl th _ _ rfl rfl rfl rfl rfl rfl zc zr zm htog hI
       · exact d_fuse_ft_ttt_tttt p0 p1 _ _ _ _ a0 b0 a1 b1 a2 b2 a3 b3 ps hps tl th _ _ rfl rfl rfl rfl rfl rfl zc zr zm htog hI)
theorem tog_i60 {ps : List (Int × Int)} {tl th : Int} {ok ag : Bool} (h : TogIs ps tl th ok ag) (hI : ∀ i, i < ps.length → I60 (aOf ps i) ∧ I60 (bOf ps i)) (ho : ok = true) : I60 tl ∧ I60 th := by
  rcases h.it with ⟨h1, _, _⟩ | ⟨l, h', _, _, ⟨_, _, _, h4⟩ | ⟨h3, h4⟩⟩
  · obtain ⟨_, ⟨i, hi, e⟩, _, ⟨j, hj, f⟩, _⟩ := h1.yes rfl
    exact ⟨e ▸ (hI i hi).1, f ▸ (hI j hj).2⟩
  · rw [h4] at ho; cases ho
  · obtain ⟨⟨i, j, hp, _, e⟩, _⟩ := h4.lo_ ho
    obtain ⟨⟨i', j', hp', _, e'⟩, _⟩ := h4.hi_ ho
    have q : ∀ i j, Pairs ps.length ps.length 0 i j → i < ps.length ∧ j < ps.length := by intro i j; unfold Pairs; omega
    have a1 := (hI i (q _ _ hp).1).1
    have a2 := (hI j (q _ _ hp).2).1
    have a3 := (hI i' (q _ _ hp').1).2
    have a4 := (hI j' (q _ _ hp').2).2
    unfold I60 at *
    omega
/-- Those that are fit are within 2^60. -/
theorem fit_i60 {f0 f1 f2 : Bool} {a0 b0 a1 b1 a2 b2 : Int} (h0 : fitOk f0 a0 b0 = true) (h1 : fitOk f1 a1 b1 = true) (h2 : fitOk f2 a2 b2 = true) : ∀ i, i < (fitV f0 f1 f2 a0 b0 a1 b1 a2 b2).length → I60 (aOf (fitV f0 f1 f2 a0 b0 a1 b1 a2 b2) i) ∧ I60 (bOf (fitV f0 f1 f2 a0 b0 a1 b1 a2 b2) i) := by
  intro i hi
  have k : ∀ {a b : Int}, fitOk true a b = true → I60 a ∧ I60 b := fun {a b} h => by
    have := may_spec (show mayV a b = true from h)
    unfold I60; omega
  cases f0 <;> cases f1 <;> cases f2 <;> simp only [fitV, fitRow, List.append_nil, List.nil_append, List.cons_append, List.length_cons, List.length_nil] at hi ⊢ <;>
    (rcases i with _ | _ | _ | i <;> first | (exfalso; omega) | exact k h0 | exact k h1 | exact k h2)
set_option maxHeartbeats 2000000 in
theorem e_fuses (p0 p1 : Int) (f0 f1 f2 f3 : Bool) (a0 b0 a1 b1 a2 b2 a3 b3 : Int) (hI : All64 a0 b0 a1 b1 a2 b2 a3 b3) : PCalls Try.prog 4 [sp2 p0 p1, sens3 f0 f1 f2 a0 b0 a1 b1 a2 b2, sens f3 a3 b3] (fun r => r = .bool true) := by
  obtain ⟨tl, th, ok, ag, lo, hi, n, cl, cf, s0, s1, hF⟩ := fuse_ex p0 p1 f0 f1 f2 f3 a0 b0 a1 b1 a2 b2 a3 b3
  have m1 := e_fuseX hF hI
  obtain ⟨u, hu⟩ : ∃ x, mayV p0 p1 = x := ⟨_, rfl⟩
  have m2 := e_may17 p0 p1 u hu
  have ht := fuse_tog hF
  obtain ⟨bc, hbc⟩ : ∃ x, bit cl = x := ⟨_, rfl⟩
  obtain ⟨bf, hbf⟩ : ∃ x, bit cf = x := ⟨_, rfl⟩
  have m3 : fitOk f0 a0 b0 = true → fitOk f1 a1 b1 = true → fitOk f2 a2 b2 = true → ∀ y0 y1 y2 y3, (y0 = bit f0 ∧ y1 = bit f1 ∧ y2 = bit f2 ∧ y3 = bit f3) → PCalls Try.prog 15 [sp2 p0 p1, .agg [.int .i64 a0, .int .i64 b0, .int .i64 a1, .int .i64 b1, .int .i64 a2, .int .i64 b2, .int .i64 a3, .int .i64 b3], .agg [.int .i64 y0, .int .i64 y1, .int .i64 y2, .int .i64 y3]]
      (· = .agg [.int .i64 lo, .int .i64 hi, .int .i64 n, .int .i64 bc, .int .i64 bf, .int .i64 s0, .int .i64 s1]) := by
    rintro g0 g1 g2 y0 y1 y2 y3 ⟨rfl, rfl, rfl, rfl⟩
    refine (d_fuse p0 p1 f0 f1 f2 f3 a0 b0 a1 b1 a2 b2 a3 b3 _ rfl tl th ok ag ht (tog_i60 ht (fit_i60 g0 g1 g2))).mono ?_
    rintro r ⟨lo', hi', n', cl', cf', s0', s1', rfl, k2, k3, k4, k5, k6⟩
    have e1 : n = n' := by rw [hF.len, k2]; rfl
    subst e1
    have e2 := k4.trans hF.nar.symm
    simp only [Prod.mk.injEq] at e2
    obtain ⟨rfl, rfl, rfl⟩ := e2
    rw [k3, k5, k6, ← hbc, ← hbf, hF.cl, hF.sl0, hF.sl1]
  have ebc : bc = if cl = true then 1 else 0 := hbc.symm
  have ebf : bf = if cf = true then 1 else 0 := hbf.symm
  clear hF ht hbc hbf
  (refine PCalls.ofY Try.func4 (by kernel_rfl) (by kernel_rfl) fun w hw R hR => ?_); (obtain ⟨wbin, wcmp, wun, wconv, wnot, wbeq, wmm, wscmp, wsadd, wslen, wsat, weqs, wlen, wnlen, wofNat, wtake, wdrop, wapp, wzero, wnat⟩ := w); (have hbin : wbin = binStd := congrArg Prims.bin hw); (have hcmp : wcmp = cmpStd := congrArg Prims.cmp hw); (have hun : wun = unStd := congrArg Prims.un hw); (have hconv : wconv = fun k n => k.wrap n := congrArg Prims.conv hw); (have hnot : wnot = fun b => !b := congrArg Prims.not hw); (have hbeq : wbeq = fun a b => a == b := congrArg Prims.beq hw); (have hmm : wmm = maxI := congrArg Prims.mm hw); (have hscmp : wscmp = scmpStd := congrArg Prims.scmp hw); (have hsadd : wsadd = fun x y => x ++ y := congrArg Prims.sadd hw); (have hslen : wslen = fun s => (s.size : Int) := congrArg Prims.slen hw); (have hsat : wsat = std.sat := congrArg Prims.sat hw); (have heqs : weqs = fun a b os => (eqOffs a b os).getD false := congrArg Prims.eqs hw); (have hlen : wlen = fun es => (es.length : Int) := congrArg Prims.len hw); (have hnlen : wnlen = fun es => es.length := congrArg Prims.nlen hw); (have hofNat : wofNat = (fun n : Nat => (n : Int)) := congrArg Prims.ofNat hw); (have htake : wtake = fun es b => es.take b.toNat := congrArg Prims.take hw); (have hdrop : wdrop = fun es a => es.drop a.toNat := congrArg Prims.drop hw); (have happ : wapp = fun a b => a ++ b := congrArg Prims.app hw); (have hzero : wzero = fun n z => List.replicate n.toNat z := congrArg Prims.zero hw); (have hnat : wnat = fun n => n.toNat := congrArg Prims.nat hw); (conv => arg 2; cbv); (generalize hP : Try.prog = P); cbv
  refine Call.stepE (by rw [← hP]; exact e_anchor17) rfl ?_
  cbv
  repeat' (first
    | (refine Call.stepE (by rw [← hP]; exact m1) rfl ?_; cbv)
    | (refine Call.stepE (by rw [← hP]; exact m2) rfl ?_; cbv)
    | (refine Call.stepE (by rw [← hP]; exact m3 ho.1 ho.2.1 ho.2.2.1 _ _ _ _ hy) rfl ?_; cbv)
    | (refine QCal.stepE (by rw [← hP]; exact m3 ho.1 ho.2.1 ho.2.2.1 _ _ _ _ hy) rfl ?_; cbv)
    | (refine Call.step (by rw [← hP]; exact e_given f0 f1 f2 f3 a0 b0 a1 b1 a2 b2 a3 b3) rfl ?_; rintro r (⟨x0, x1, x2, x3, x4, x5, x6, x7, y0, y1, y2, y3, rfl, ho⟩ | ⟨y0, y1, y2, y3, rfl, hy, ho⟩) <;> cbv)
    | (split <;> rename_i h <;> (try (simp only [hbin, hcmp, hun, hconv, hnot, hbeq, hmm, hscmp, hsadd, hslen, hsat, heqs, hofNat, binStd, cmpStd, unStd, scmpStd, maxI, Bool.not_eq_true', Bool.not_eq_false', decide_eq_true_eq, decide_eq_false_iff_not, Int.not_lt, Int.not_le, if_true, if_false, Bool.false_eq_true, beq_iff_eq, bne_iff_ne, ne_eq, Bool.not_eq_eq_eq_not, Bool.not_true, Bool.not_false, beq_eq_false_iff_ne, bne_eq_false_iff_eq, Int.ofNat_eq_natCast, Bool.not_not, not_true_eq_false, not_false_eq_true, reduceCtorEq] at h)) <;> (try cbv)))
  all_goals refine ⟨_, Vw.same rfl, hR _ ?_⟩
  all_goals first
    | (show AV.bool _ = AV.bool true; rfl)
    | (show AV.bool _ = AV.bool true; rw [heqs]; simp [eqOffs, eqA]; done)
    | (subst ebc ebf; cases cl <;> cases cf <;> (refine absurd ?_ h; decide))
end Go.Proofs.Ytfonjmhnokailaa


set_option linter.unusedVariables false
set_option linter.unusedSimpArgs false
namespace Go.Eng
open Go Go.RowKit Go.WideShapes
/-- What a cell holds. -/
inductive Sh where
  | bool
  | int (k : IntKind)
  | str
  | list (z : Nat) (row : List Sh)
mutual
def Sh.Ok : Sh → AV → Prop
  | .bool, x => ∃ b, x = .bool b
  | .int k, x => ∃ n, x = .int k n ∧ (Lit.int k n).wf = true
  | .str, x => ∃ s : ByteArray, x = .str s ∧ s.size ≤ maxLen
  | .list z row, x => ∃ es, x = .list z es ∧ es.length ≤ maxLen ∧ ∀ r, r ∈ es → OkL row r
def OkL : List Sh → List AV → Prop
  | [], xs => xs = []
  | s :: l, xs => ∃ x y, xs = x :: y ∧ s.Ok x ∧ OkL l y
end
def shFs (P : Program) (g : TypeId → Option (List Sh)) : List Field → Option (List Sh)
  | [] => some []
  | f :: fs => match g f.type, shFs P g fs with
    | some a, some b => if a.length = P.cellsOf f.type then some (a ++ b) else none
    | _, _ => none
def shN (a : List Sh) : Nat → List Sh
  | 0 => []
  | n + 1 => a ++ shN a n
def shOf (P : Program) : Nat → TypeId → Option (List Sh)
  | 0, _ => none
  | m + 1, t =>
    match P.underlying t with
    | some .bool => some [.bool]
    | some (.int k) => some [.int k]
    | some .string => some [.str]
    | some (.struct fs) => if tiles P 0 fs.toList = some (P.cellsOf t) then shFs P (shOf P m) fs.toList else none
    | some (.array n e) => (match shOf P m e with | some a => if a.length = P.cellsOf e ∧ P.cellsOf t = n * P.cellsOf e then some (shN a n) else none | none => none)
    | some (.slice e) => (match shOf P m e with | some a => some [.list (P.cellsOf e) a] | none => none)
    | _ => none
theorem OkL.app {a b : List Sh} : ∀ {x y : List AV}, OkL a x → OkL b y → OkL (a ++ b) (x ++ y) := by
  induction a with
  | nil => intro x y h1 h2; unfold OkL at h1; subst h1; exact h2
  | cons s l ih =>
    intro x y h1 h2
    unfold OkL at h1
    obtain ⟨x0, y0, rfl, h3, h4⟩ := h1
    rw [List.cons_append, List.cons_append]
    unfold OkL
    exact ⟨x0, y0 ++ y, rfl, h3, ih h4 h2⟩
theorem OkL.one {s : Sh} {x : AV} (h : s.Ok x) : OkL [s] [x] := by
  unfold OkL; exact ⟨x, [], rfl, h, by unfold OkL; rfl⟩
theorem OkL.of_one {s : Sh} {x : AV} (h : OkL [s] [x]) : s.Ok x := by
  unfold OkL at h
  obtain ⟨y, z, e, h1, h2⟩ := h
  simp at e
  rw [e.1]; exact h1
theorem shFs_ok {P : Program} {m : Nat} (ih : ∀ t l xs, shOf P m t = some l → TyL P m t xs → OkL l xs) {xs : List AV} : ∀ (fs : List Field) (o k : Nat) (l : List Sh), tiles P o fs = some k → k = xs.length → shFs P (shOf P m) fs = some l → (∀ f, f ∈ fs → TyL P m f.type ((xs.drop f.offset).take (P.cellsOf f.type))) → OkL l (xs.drop o)
  | [], o, k, l, ht, hk, hs, hall => by
    simp only [tiles, Option.some.injEq] at ht
    simp only [shFs, Option.some.injEq] at hs
    subst hs
    rw [List.drop_eq_nil_of_le (by omega)]
    unfold OkL; rfl
  | f :: fs, o, k, l, ht, hk, hs, hall => by
    simp only [tiles] at ht
    split at ht
    · rename_i hfo
      simp only [shFs] at hs
      split at hs
      · rename_i a b ha hb
        split at hs
        · rename_i hl
          simp only [Option.some.injEq] at hs
          subst hs
          have h1 := ih _ _ _ ha (hall f (List.mem_cons_self ..))
          have h2 := shFs_ok ih fs _ k b ht hk hb (fun g hg => hall g (List.mem_cons_of_mem _ hg))
          have hcut : xs.drop o = (xs.drop o).take (P.cellsOf f.type) ++ xs.drop (o + P.cellsOf f.type) := by
            rw [← List.drop_drop, List.take_append_drop]
          rw [hcut]
          rw [hfo] at h1
          exact h1.app h2
        · cases hs
      · cases hs
    · cases ht
theorem shN_ok {a : List Sh} {z : Nat} {xs : List AV} : ∀ (n o : Nat), xs.length = (o + n) * z → (∀ i, i < n → OkL a ((xs.drop ((o + i) * z)).take z)) → OkL (shN a n) (xs.drop (o * z))
  | 0, o, hl, h => by
    rw [List.drop_eq_nil_of_le (by simp at hl; omega)]
    unfold shN OkL; rfl
  | n + 1, o, hl, h => by
    have h1 := h 0 (by omega)
    rw [Nat.add_zero] at h1
    have h2 := shN_ok (a := a) (z := z) (xs := xs) n (o + 1) (by rw [hl]; congr 1; omega) (fun i hi => by have := h (i + 1) (by omega); rwa [show o + (i + 1) = o + 1 + i by omega] at this)
    have hcut : xs.drop (o * z) = (xs.drop (o * z)).take z ++ xs.drop ((o + 1) * z) := by
      rw [Nat.succ_mul, ← List.drop_drop, List.take_append_drop]
    rw [hcut]
    exact h1.app h2
theorem shOf_ok {P : Program} : ∀ (m : Nat) (t : TypeId) (l : List Sh) (xs : List AV), shOf P m t = some l → TyL P m t xs → OkL l xs
  | 0, t, l, xs, hs, h => by simp [shOf] at hs
  | m + 1, t, l, xs, hs, h => by
    unfold TyL at h
    unfold shOf at hs
    split at hs
    · rename_i hu
      rw [hu] at h
      obtain ⟨b, rfl⟩ := h
      simp only [Option.some.injEq] at hs
      subst hs
      exact .one (by unfold Sh.Ok; exact ⟨b, rfl⟩)
    · rename_i k hu
      rw [hu] at h
      obtain ⟨b, rfl, hb⟩ := h
      simp only [Option.some.injEq] at hs
      subst hs
      exact .one (by unfold Sh.Ok; exact ⟨b, rfl, hb⟩)
    · rename_i hu
      rw [hu] at h
      obtain ⟨b, rfl, hb⟩ := h
      simp only [Option.some.injEq] at hs
      subst hs
      exact .one (by unfold Sh.Ok; exact ⟨b, rfl, hb⟩)
    · rename_i fs hu
      rw [hu] at h
      obtain ⟨hl, hf⟩ := h
      split at hs
      · rename_i ht
        have := shFs_ok (shOf_ok m) (xs := xs) fs.toList 0 _ l ht hl.symm hs hf
        rwa [List.drop_zero] at this
      · cases hs
    · rename_i n e hu
      rw [hu] at h
      obtain ⟨hl, hf⟩ := h
      split at hs
      · rename_i a ha
        split at hs
        · rename_i hc
          simp only [Option.some.injEq] at hs
          subst hs
          have := shN_ok (a := a) (z := P.cellsOf e) (xs := xs) n 0 (by rw [Nat.zero_add, hl, hc.2]) (fun i hi => by rw [Nat.zero_add]; exact shOf_ok m e a _ ha (hf i hi))
          rwa [Nat.zero_mul, List.drop_zero] at this
        · cases hs
      · cases hs
    · rename_i e hu
      rw [hu] at h
      obtain ⟨es, rfl, hl, hr⟩ := h
      split at hs
      · rename_i a ha
        simp only [Option.some.injEq] at hs
        subst hs
        exact .one (by unfold Sh.Ok; exact ⟨es, rfl, hl, fun r hrr => shOf_ok m e a _ ha (hr r hrr)⟩)
      · cases hs
    · cases hs
theorem TyV.agg {P : Program} {m : Nat} {t : TypeId} {x : AV} {l : List Sh} (h : TyV P m t x) (ha : aggOf P t = some true) (hs : shOf P m t = some l) : ∃ cs, x = .agg cs ∧ OkL l cs := by
  unfold TyV at h
  rw [ha] at h
  obtain ⟨cs, rfl, h⟩ := h
  exact ⟨cs, rfl, shOf_ok m t l cs hs h⟩
theorem TyV.one {P : Program} {m : Nat} {t : TypeId} {x : AV} {s : Sh} (h : TyV P m t x) (ha : aggOf P t = some false) (hs : shOf P m t = some [s]) : s.Ok x := by
  unfold TyV at h
  rw [ha] at h
  exact (shOf_ok m t [s] [x] hs h).of_one
theorem rows_of {D : Type} {f : D → List AV} {es : List (List AV)} (h : ∀ r, r ∈ es → ∃ d, r = f d) : ∃ ds : List D, es = ds.map f := by
  induction es with
  | nil => exact ⟨[], rfl⟩
  | cons r t ih =>
    obtain ⟨ps, rfl⟩ := ih fun r hr => h r (List.mem_cons_of_mem _ hr)
    obtain ⟨d, rfl⟩ := h r (List.mem_cons_self ..)
    exact ⟨d :: ps, rfl⟩
theorem rows_with {D : Type} {f : D → List AV} {p : D → Prop} {es : List (List AV)} (h : ∀ r, r ∈ es → ∃ d, r = f d ∧ p d) : ∃ ds : List D, es = ds.map f ∧ ∀ d, d ∈ ds → p d := by
  induction es with
  | nil => exact ⟨[], rfl, fun d hd => by cases hd⟩
  | cons r t ih =>
    obtain ⟨ps, rfl, hp⟩ := ih fun r hr => h r (List.mem_cons_of_mem _ hr)
    obtain ⟨d, rfl, hd⟩ := h r (List.mem_cons_self ..)
    exact ⟨d :: ps, rfl, fun e he => by rcases List.mem_cons.1 he with rfl | he; exact hd; exact hp e he⟩
end Go.Eng


set_option linter.unusedVariables false
set_option linter.unusedSimpArgs false
namespace Go.Proofs.Ytfonjmhnokailaa
open Go Go.RowKit Go.Eng
set_option maxRecDepth 100000
theorem ok_int {k : IntKind} {l : List Sh} {xs : List AV} (h : OkL (.int k :: l) xs) : ∃ n y, xs = .int k n :: y ∧ (Lit.int k n).wf = true ∧ OkL l y := by
  unfold OkL at h
  obtain ⟨x, y, rfl, h1, h2⟩ := h
  unfold Sh.Ok at h1
  obtain ⟨n, rfl, hn⟩ := h1
  exact ⟨n, y, rfl, hn, h2⟩
theorem ok_bool {l : List Sh} {xs : List AV} (h : OkL (.bool :: l) xs) : ∃ b y, xs = .bool b :: y ∧ OkL l y := by
  unfold OkL at h
  obtain ⟨x, y, rfl, h1, h2⟩ := h
  unfold Sh.Ok at h1
  obtain ⟨n, rfl⟩ := h1
  exact ⟨n, y, rfl, h2⟩
theorem ok_list {z : Nat} {row l : List Sh} {xs : List AV} (h : OkL (.list z row :: l) xs) : ∃ es y, xs = .list z es :: y ∧ es.length ≤ maxLen ∧ (∀ r, r ∈ es → OkL row r) ∧ OkL l y := by
  unfold OkL at h
  obtain ⟨x, y, rfl, h1, h2⟩ := h
  unfold Sh.Ok at h1
  obtain ⟨n, rfl, h3, h4⟩ := h1
  exact ⟨n, y, rfl, h3, h4, h2⟩
theorem ok_nil {xs : List AV} (h : OkL [] xs) : xs = [] := by unfold OkL at h; exact h
theorem wf64 {n : Int} (h : (Lit.int .i64 n).wf = true) : -9223372036854775808 ≤ n ∧ n ≤ 9223372036854775807 := by
  simp [Lit.wf, IntKind.min, IntKind.max, IntKind.signed, IntKind.bits] at h
  omega
theorem ty_conf (x : AV) (h : TyV Try.prog 8 60 x) : ∃ c0 c1 c2 c3 c4 c5 c6 c7 c8 c9 c10 c11 c12 c13 : Int, x = .agg [.int .i64 c0, .int .i64 c1, .int .i64 c2, .int .i64 c3, .int .i64 c4, .int .i64 c5, .int .i64 c6, .int .i64 c7, .int .i64 c8, .int .i64 c9, .int .i64 c10, .int .i64 c11, .int .i64 c12, .int .i64 c13] := by
  obtain ⟨cs, rfl, hx⟩ := h.agg (by kernel_rfl) (show shOf Try.prog 8 60 = some [.int .i64, .int .i64, .int .i64, .int .i64, .int .i64, .int .i64, .int .i64, .int .i64, .int .i64, .int .i64, .int .i64, .int .i64, .int .i64, .int .i64] from by kernel_rfl)
  obtain ⟨c0, _, rfl, _, hx⟩ := ok_int hx
  obtain ⟨c1, _, rfl, _, hx⟩ := ok_int hx
  obtain ⟨c2, _, rfl, _, hx⟩ := ok_int hx
  obtain ⟨c3, _, rfl, _, hx⟩ := ok_int hx
  obtain ⟨c4, _, rfl, _, hx⟩ := ok_int hx
  obtain ⟨c5, _, rfl, _, hx⟩ := ok_int hx
  obtain ⟨c6, _, rfl, _, hx⟩ := ok_int hx
  obtain ⟨c7, _, rfl, _, hx⟩ := ok_int hx
  obtain ⟨c8, _, rfl, _, hx⟩ := ok_int hx
  obtain ⟨c9, _, rfl, _, hx⟩ := ok_int hx
  obtain ⟨c10, _, rfl, _, hx⟩ := ok_int hx
  obtain ⟨c11, _, rfl, _, hx⟩ := ok_int hx
  obtain ⟨c12, _, rfl, _, hx⟩ := ok_int hx
  obtain ⟨c13, _, rfl, _, hx⟩ := ok_int hx
  obtain rfl := ok_nil hx
  exact ⟨c0, c1, c2, c3, c4, c5, c6, c7, c8, c9, c10, c11, c12, c13, rfl⟩
end Go.Proofs.Ytfonjmhnokailaa


set_option linter.unusedVariables false
set_option linter.unusedSimpArgs false
namespace Go.Proofs.Ytfonjmhnokailaa
open Go Go.RowKit Go.Eng
set_option maxRecDepth 100000
theorem ty_span (x : AV) (h : TyV Try.prog 8 37 x) : ∃ a b : Int, x = sp2 a b ∧ I64 a ∧ I64 b := by
  obtain ⟨cs, rfl, hx⟩ := h.agg (by kernel_rfl) (show shOf Try.prog 8 37 = some [.int .i64, .int .i64] from by kernel_rfl)
  obtain ⟨a, _, rfl, h1, y1⟩ := ok_int hx
  obtain ⟨b, _, rfl, h2, y2⟩ := ok_int y1
  obtain rfl := ok_nil y2
  exact ⟨a, b, rfl, wf64 h1, wf64 h2⟩
theorem ty_sensor (x : AV) (h : TyV Try.prog 8 39 x) : ∃ (f : Bool) (a b : Int), x = sens f a b ∧ I64 a ∧ I64 b := by
  obtain ⟨cs, rfl, hx⟩ := h.agg (by kernel_rfl) (show shOf Try.prog 8 39 = some [.bool, .int .i64, .int .i64] from by kernel_rfl)
  obtain ⟨f, _, rfl, y3⟩ := ok_bool hx
  obtain ⟨a, _, rfl, h1, y4⟩ := ok_int y3
  obtain ⟨b, _, rfl, h2, y5⟩ := ok_int y4
  obtain rfl := ok_nil y5
  exact ⟨f, a, b, rfl, wf64 h1, wf64 h2⟩
theorem ty_three (x : AV) (h : TyV Try.prog 8 40 x) : ∃ (f0 f1 f2 : Bool) (a0 b0 a1 b1 a2 b2 : Int), x = sens3 f0 f1 f2 a0 b0 a1 b1 a2 b2 ∧ I64 a0 ∧ I64 b0 ∧ I64 a1 ∧ I64 b1 ∧ I64 a2 ∧ I64 b2 := by
  obtain ⟨cs, rfl, hx⟩ := h.agg (by kernel_rfl) (show shOf Try.prog 8 40 = some [.bool, .int .i64, .int .i64, .bool, .int .i64, .int .i64, .bool, .int .i64, .int .i64] from by kernel_rfl)
  obtain ⟨f0, _, rfl, y6⟩ := ok_bool hx
  obtain ⟨a0, _, rfl, h1, y7⟩ := ok_int y6
  obtain ⟨b0, _, rfl, h2, y8⟩ := ok_int y7
  obtain ⟨f1, _, rfl, y9⟩ := ok_bool y8
  obtain ⟨a1, _, rfl, h3, y10⟩ := ok_int y9
  obtain ⟨b1, _, rfl, h4, y11⟩ := ok_int y10
  obtain ⟨f2, _, rfl, y12⟩ := ok_bool y11
  obtain ⟨a2, _, rfl, h5, y13⟩ := ok_int y12
  obtain ⟨b2, _, rfl, h6, y14⟩ := ok_int y13
  obtain rfl := ok_nil y14
  exact ⟨f0, f1, f2, a0, b0, a1, b1, a2, b2, rfl, wf64 h1, wf64 h2, wf64 h3, wf64 h4, wf64 h5, wf64 h6⟩
end Go.Proofs.Ytfonjmhnokailaa


set_option linter.unusedVariables false
set_option maxRecDepth 100000
namespace Go.Proofs.Ytfonjmhnokailaa
open Go Go.RowKit Go.Eng
theorem walk_FuseFuses (x0 x1 x2 : AV) (h0 : TyV Try.prog 8 37 x0) (h1 : TyV Try.prog 8 40 x1) (h2 : TyV Try.prog 8 39 x2) : PCalls Try.prog 4 [x0, x1, x2] (fun r => r = .bool true) := by
  obtain ⟨p0, p1, rfl, _, _⟩ := ty_span x0 h0
  obtain ⟨f0, f1, f2, a0, b0, a1, b1, a2, b2, rfl, k0, k1, k2, k3, k4, k5⟩ := ty_three x1 h1
  obtain ⟨f3, a3, b3, rfl, k6, k7⟩ := ty_sensor x2 h2
  exact e_fuses p0 p1 f0 f1 f2 f3 a0 b0 a1 b1 a2 b2 a3 b3 ⟨k0, k1, k2, k3, k4, k5, k6, k7⟩
end Go.Proofs.Ytfonjmhnokailaa


namespace Go.Proofs.Ytfonjmhnokailaa.fuseFusesFrame
open Go.ChangeShapes Go.WideShapes Go.ChangeAt Go.RowKit Go.Eng
open Go.ChangeMaps (open_string shut_string)
set_option linter.unusedVariables false

theorem own : ownKnob Try.prog.godebug = none := by kernel_rfl
theorem laidOut : laidOutB Try.prog = true := by kernel_rfl

set_option maxRecDepth 100000 in
theorem lifted (os : Os) (started : os.Started) (H : Type) (enc : TypeId × Value → H) :
    ReturnsInHanded {} Try.checked os 4 .any (Rows.fuseFusesSpec.pre6 enc Try.prog Try.f4 Rows.fuseFusesRow.domain false) (Rows.fuseFusesSpec.post enc Try.prog Try.f4 false true false false) := by
  refine returnsInHanded_of_change (C := Try.checked) own started (by kernel_rfl) Try.func4
    (ChangeSpec.witness6 (enc := enc) (C := Try.checked) false ⟨#[], #[.agg #[.int .i64 0, .int .i64 0], .agg #[.bool false, .int .i64 0, .int .i64 0, .bool false, .int .i64 0, .int .i64 0, .bool false, .int .i64 0, .int .i64 0], .agg #[.bool false, .int .i64 0, .int .i64 0]], []⟩ 8 (by kernel_rfl) (by kernel_rfl) (by kernel_rfl) (by kernel_rfl)) ?_
  intro W base args ds gs before hval0 hW hcnd _
  have hval : ∀ (j : Nat) t v, Try.f4.params[j]? = some t → args[j]? = some v → Value.okWide Try.prog W .any base t v := hval0
  have hW' := hW
  obtain ⟨p, q, hA0, hV, rfl, hfz, hnd⟩ := hW
  have hA : DataW.TrodAll enc Try.prog W 0 (fun _ => true) true Try.f4.params.toList args.toList ds p := hA0
  rw [Try.params4] at hA hval
  obtain ⟨v0, vs0, d0, ds0, p0, q0, hargs, rfl, rfl, h0, r0⟩ := trodAll_cons hA
  obtain ⟨v1, vs1, d1, ds1, p1, q1, rfl, rfl, rfl, h1, r1⟩ := trodAll_cons r0
  obtain ⟨v2, vs2, d2, ds2, p2, q2, rfl, rfl, rfl, h2, r2⟩ := trodAll_cons r1
  obtain ⟨rfl, rfl, rfl⟩ := trodAll_nil r2
  obtain rfl : args = #[v0, v1, v2] := by cases args; simp_all
  obtain ⟨rfl, rfl⟩ := trodVars_none hV
  have k0 := h0
  have lt0 : ∀ x ∈ p0, x.block < W.heap.size := by obtain ⟨m, hm⟩ := k0; exact DataW.trod_lt m _ _ _ hm
  obtain ⟨x0, y0, z0⟩ := open_av 8 (by kernel_rfl) (hval 0 37 v0 rfl rfl) h0
  have k1 := h1
  have lt1 : ∀ x ∈ p1, x.block < W.heap.size := by obtain ⟨m, hm⟩ := k1; exact DataW.trod_lt m _ _ _ hm
  obtain ⟨x1, y1, z1⟩ := open_av 8 (by kernel_rfl) (hval 1 40 v1 rfl rfl) h1
  have k2 := h2
  have lt2 : ∀ x ∈ p2, x.block < W.heap.size := by obtain ⟨m, hm⟩ := k2; exact DataW.trod_lt m _ _ _ hm
  obtain ⟨x2, y2, z2⟩ := open_av 8 (by kernel_rfl) (hval 2 39 v2 rfl rfl) h2
  clear hA0 hval0
  refine ((walk_FuseFuses x0 x1 x2 z0 z1 z2).law (w := W) (vrs_cons y0 (vrs_cons y1 (vrs_cons y2 (vrs_nil _))))).mono fun e W' ⟨he, bel⟩ => ?_
  subst he
  exact ⟨_, rfl, _, _, _, [], _, [], hW', trodAll_mk1 (shut_bool Try.underlying4 _), (trodAll_cons_mk (Below.trod laidOut (by kernel_rfl) (of_decide_eq_true (by kernel_rfl)) k0 bel lt0) (trodAll_cons_mk (Below.trod laidOut (by kernel_rfl) (of_decide_eq_true (by kernel_rfl)) k1 bel lt1) (trodAll_cons_mk (Below.trod laidOut (by kernel_rfl) (of_decide_eq_true (by kernel_rfl)) k2 bel lt2) trodAll_mk0))), rfl, bel.frame _, fun h => by cases h⟩

theorem over : Rows.fuseFusesRow.holds Try.pinned (OpenSpec.ofChange Rows.fuseFusesSpec) :=
  OpenClaim.holds_of_wide 4 Try.f4 rfl rfl rfl rfl rfl rfl rfl ⟨rfl, rfl, rfl, rfl, rfl⟩ rfl rfl rfl rfl rfl (by kernel_rfl) Try.func4 (by kernel_rfl)
    (of_decide_eq_true (by kernel_rfl)) (by unfold Func.isWrapper; first | (rw [if_pos (by decide +kernel)]; kernel_rfl) | (rw [if_neg (by decide +kernel)]; exact ⟨rfl, rfl⟩))
    (fun os started H enc _ => lifted os started H enc)

/-- The statement. -/
theorem proved : Rows.FuseFusesSaid := over
#print axioms proved
end Go.Proofs.Ytfonjmhnokailaa.fuseFusesFrame


