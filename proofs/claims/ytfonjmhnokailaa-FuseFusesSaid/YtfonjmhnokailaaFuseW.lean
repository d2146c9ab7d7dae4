/- The statements' own helpers for fused speeds, by the engine. -/
import Derived.Test.YtfonjmhnokailaaFuseL
import Derived.KernelRfl
set_option linter.unusedVariables false
set_option linter.unusedSimpArgs false
namespace Go.Proofs.Ytfonjmhnokailaa
open Go Go.RowKit Go.Eng
set_option maxRecDepth 100000
/-- A span that is right, and within 2^60. -/
def mayV (a b : Int) : Bool := decide (a ≤ b) && (decide (-1152921504606846976 ≤ a) && decide (b ≤ 1152921504606846976))
theorem e_may17 (a b : Int) (u : Bool) (hu : mayV a b = u) : PCalls Try.prog 13 [sp2 a b] (· = .bool u) := by
  (refine PCalls.ofY Try.func13 (by kernel_rfl) (by kernel_rfl) fun w hw R hR => ?_); (obtain ⟨wbin, wcmp, wun, wconv, wnot, wbeq, wmm, wscmp, wsadd, wslen, wsat, weqs, wlen, wnlen, wofNat, wtake, wdrop, wapp, wzero, wnat⟩ := w); (have hbin : wbin = binStd := congrArg Prims.bin hw); (have hcmp : wcmp = cmpStd := congrArg Prims.cmp hw); (have hun : wun = unStd := congrArg Prims.un hw); (have hconv : wconv = fun k n => k.wrap n := congrArg Prims.conv hw); (have hnot : wnot = fun b => !b := congrArg Prims.not hw); (have hbeq : wbeq = fun a b => a == b := congrArg Prims.beq hw); (have hmm : wmm = maxI := congrArg Prims.mm hw); (have hscmp : wscmp = scmpStd := congrArg Prims.scmp hw); (have hsadd : wsadd = fun x y => x ++ y := congrArg Prims.sadd hw); (have hslen : wslen = fun s => (s.size : Int) := congrArg Prims.slen hw); (have hsat : wsat = std.sat := congrArg Prims.sat hw); (have heqs : weqs = fun a b os => (eqOffs a b os).getD false := congrArg Prims.eqs hw); (have hlen : wlen = fun es => (es.length : Int) := congrArg Prims.len hw); (have hnlen : wnlen = fun es => es.length := congrArg Prims.nlen hw); (have hofNat : wofNat = (fun n : Nat => (n : Int)) := congrArg Prims.ofNat hw); (have htake : wtake = fun es b => es.take b.toNat := congrArg Prims.take hw); (have hdrop : wdrop = fun es a => es.drop a.toNat := congrArg Prims.drop hw); (have happ : wapp = fun a b => a ++ b := congrArg Prims.app hw); (have hzero : wzero = fun n z => List.replicate n.toNat z := congrArg Prims.zero hw); (have hnat : wnat = fun n => n.toNat := congrArg Prims.nat hw); (conv => arg 2; cbv); (generalize hP : Try.prog = P); cbv
  repeat' (split <;> rename_i h <;> (try (simp only [hbin, hcmp, hun, hconv, hnot, hbeq, hmm, hscmp, hsadd, hslen, hsat, heqs, hofNat, binStd, cmpStd, unStd, scmpStd, maxI, Bool.not_eq_true', Bool.not_eq_false', decide_eq_true_eq, decide_eq_false_iff_not, Int.not_lt, Int.not_le, if_true, if_false, Bool.false_eq_true, beq_iff_eq, bne_iff_ne, ne_eq, Bool.not_eq_eq_eq_not, Bool.not_true, Bool.not_false, beq_eq_false_iff_ne, bne_eq_false_iff_eq, Int.ofNat_eq_natCast, Bool.not_not, not_true_eq_false, not_false_eq_true, reduceCtorEq] at h)) <;> (try cbv))
  all_goals
    refine ⟨_, Vw.same rfl, hR _ (congrArg AV.bool ?_)⟩
    rw [← hu, Bool.eq_iff_iff]
    simp only [mayV, hcmp, cmpStd, Bool.and_eq_true, decide_eq_true_eq]
    first | (constructor <;> intro hh <;> omega) | (simp; omega) | (simp_all; done)
theorem e_has17 (a b v : Int) (u : Bool) (hu : decide (a ≤ v ∧ v ≤ b) = u) : PCalls Try.prog 16 [sp2 a b, .int .i64 v] (· = .bool u) := by
  (refine PCalls.ofY Try.func16 (by kernel_rfl) (by kernel_rfl) fun w hw R hR => ?_); (obtain ⟨wbin, wcmp, wun, wconv, wnot, wbeq, wmm, wscmp, wsadd, wslen, wsat, weqs, wlen, wnlen, wofNat, wtake, wdrop, wapp, wzero, wnat⟩ := w); (have hbin : wbin = binStd := congrArg Prims.bin hw); (have hcmp : wcmp = cmpStd := congrArg Prims.cmp hw); (have hun : wun = unStd := congrArg Prims.un hw); (have hconv : wconv = fun k n => k.wrap n := congrArg Prims.conv hw); (have hnot : wnot = fun b => !b := congrArg Prims.not hw); (have hbeq : wbeq = fun a b => a == b := congrArg Prims.beq hw); (have hmm : wmm = maxI := congrArg Prims.mm hw); (have hscmp : wscmp = scmpStd := congrArg Prims.scmp hw); (have hsadd : wsadd = fun x y => x ++ y := congrArg Prims.sadd hw); (have hslen : wslen = fun s => (s.size : Int) := congrArg Prims.slen hw); (have hsat : wsat = std.sat := congrArg Prims.sat hw); (have heqs : weqs = fun a b os => (eqOffs a b os).getD false := congrArg Prims.eqs hw); (have hlen : wlen = fun es => (es.length : Int) := congrArg Prims.len hw); (have hnlen : wnlen = fun es => es.length := congrArg Prims.nlen hw); (have hofNat : wofNat = (fun n : Nat => (n : Int)) := congrArg Prims.ofNat hw); (have htake : wtake = fun es b => es.take b.toNat := congrArg Prims.take hw); (have hdrop : wdrop = fun es a => es.drop a.toNat := congrArg Prims.drop hw); (have happ : wapp = fun a b => a ++ b := congrArg Prims.app hw); (have hzero : wzero = fun n z => List.replicate n.toNat z := congrArg Prims.zero hw); (have hnat : wnat = fun n => n.toNat := congrArg Prims.nat hw); (conv => arg 2; cbv); (generalize hP : Try.prog = P); cbv
  repeat' (split <;> rename_i h <;> (try (simp only [hbin, hcmp, hun, hconv, hnot, hbeq, hmm, hscmp, hsadd, hslen, hsat, heqs, hofNat, binStd, cmpStd, unStd, scmpStd, maxI, Bool.not_eq_true', Bool.not_eq_false', decide_eq_true_eq, decide_eq_false_iff_not, Int.not_lt, Int.not_le, if_true, if_false, Bool.false_eq_true, beq_iff_eq, bne_iff_ne, ne_eq, Bool.not_eq_eq_eq_not, Bool.not_true, Bool.not_false, beq_eq_false_iff_ne, bne_eq_false_iff_eq, Int.ofNat_eq_natCast, Bool.not_not, not_true_eq_false, not_false_eq_true, reduceCtorEq] at h)) <;> (try cbv))
  all_goals
    refine ⟨_, Vw.same rfl, hR _ (congrArg AV.bool ?_)⟩
    rw [← hu, Bool.eq_iff_iff]
    simp only [hcmp, cmpStd, Bool.and_eq_true, decide_eq_true_eq]
    first | (constructor <;> intro hh <;> omega) | (simp; omega) | (simp_all; done)
abbrev sens (f : Bool) (a b : Int) : AV := .agg [.bool f, .int .i64 a, .int .i64 b]
abbrev sens3 (f0 f1 f2 : Bool) (a0 b0 a1 b1 a2 b2 : Int) : AV := .agg [.bool f0, .int .i64 a0, .int .i64 b0, .bool f1, .int .i64 a1, .int .i64 b1, .bool f2, .int .i64 a2, .int .i64 b2]
def fitOk (f : Bool) (a b : Int) : Bool := !f || mayV a b
def bit (f : Bool) : Int := if f = true then 1 else 0
set_option maxHeartbeats 2000000 in
theorem e_given (f0 f1 f2 f3 : Bool) (a0 b0 a1 b1 a2 b2 a3 b3 : Int) : PCalls Try.prog 12 [sens3 f0 f1 f2 a0 b0 a1 b1 a2 b2, sens f3 a3 b3] (fun r =>
    (∃ x0 x1 x2 x3 x4 x5 x6 x7 y0 y1 y2 y3, r = .tuple [.agg [.int .i64 x0, .int .i64 x1, .int .i64 x2, .int .i64 x3, .int .i64 x4, .int .i64 x5, .int .i64 x6, .int .i64 x7], .agg [.int .i64 y0, .int .i64 y1, .int .i64 y2, .int .i64 y3], .bool false] ∧ (fitOk f0 a0 b0 && (fitOk f1 a1 b1 && (fitOk f2 a2 b2 && fitOk f3 a3 b3))) = false) ∨
    (∃ y0 y1 y2 y3, r = .tuple [.agg [.int .i64 a0, .int .i64 b0, .int .i64 a1, .int .i64 b1, .int .i64 a2, .int .i64 b2, .int .i64 a3, .int .i64 b3], .agg [.int .i64 y0, .int .i64 y1, .int .i64 y2, .int .i64 y3], .bool true] ∧ (y0 = bit f0 ∧ y1 = bit f1 ∧ y2 = bit f2 ∧ y3 = bit f3) ∧ fitOk f0 a0 b0 = true ∧ fitOk f1 a1 b1 = true ∧ fitOk f2 a2 b2 = true ∧ fitOk f3 a3 b3 = true)) := by
  unfold fitOk
  obtain ⟨u0, k0⟩ : ∃ x, mayV a0 b0 = x := ⟨_, rfl⟩
  obtain ⟨u1, k1⟩ : ∃ x, mayV a1 b1 = x := ⟨_, rfl⟩
  obtain ⟨u2, k2⟩ : ∃ x, mayV a2 b2 = x := ⟨_, rfl⟩
  obtain ⟨u3, k3⟩ : ∃ x, mayV a3 b3 = x := ⟨_, rfl⟩
  have m0 := e_may17 a0 b0 u0 k0
  have m1 := e_may17 a1 b1 u1 k1
  have m2 := e_may17 a2 b2 u2 k2
  have m3 := e_may17 a3 b3 u3 k3
  rw [k0, k1, k2, k3]
  clear k0 k1 k2 k3
  (refine PCalls.ofY Try.func12 (by kernel_rfl) (by kernel_rfl) fun w hw R hR => ?_); (obtain ⟨wbin, wcmp, wun, wconv, wnot, wbeq, wmm, wscmp, wsadd, wslen, wsat, weqs, wlen, wnlen, wofNat, wtake, wdrop, wapp, wzero, wnat⟩ := w); (have hbin : wbin = binStd := congrArg Prims.bin hw); (have hcmp : wcmp = cmpStd := congrArg Prims.cmp hw); (have hun : wun = unStd := congrArg Prims.un hw); (have hconv : wconv = fun k n => k.wrap n := congrArg Prims.conv hw); (have hnot : wnot = fun b => !b := congrArg Prims.not hw); (have hbeq : wbeq = fun a b => a == b := congrArg Prims.beq hw); (have hmm : wmm = maxI := congrArg Prims.mm hw); (have hscmp : wscmp = scmpStd := congrArg Prims.scmp hw); (have hsadd : wsadd = fun x y => x ++ y := congrArg Prims.sadd hw); (have hslen : wslen = fun s => (s.size : Int) := congrArg Prims.slen hw); (have hsat : wsat = std.sat := congrArg Prims.sat hw); (have heqs : weqs = fun a b os => (eqOffs a b os).getD false := congrArg Prims.eqs hw); (have hlen : wlen = fun es => (es.length : Int) := congrArg Prims.len hw); (have hnlen : wnlen = fun es => es.length := congrArg Prims.nlen hw); (have hofNat : wofNat = (fun n : Nat => (n : Int)) := congrArg Prims.ofNat hw); (have htake : wtake = fun es b => es.take b.toNat := congrArg Prims.take hw); (have hdrop : wdrop = fun es a => es.drop a.toNat := congrArg Prims.drop hw); (have happ : wapp = fun a b => a ++ b := congrArg Prims.app hw); (have hzero : wzero = fun n z => List.replicate n.toNat z := congrArg Prims.zero hw); (have hnat : wnat = fun n => n.toNat := congrArg Prims.nat hw); (conv => arg 2; cbv); (generalize hP : Try.prog = P); cbv
  have e01 : wbin .add .i64 0 1 = 1 := by rw [hbin]; rfl
  have e12 : wbin .add .i64 1 1 = 2 := by rw [hbin]; rfl
  have e23 : wbin .add .i64 2 1 = 3 := by rw [hbin]; rfl
  have e34 : wbin .add .i64 3 1 = 4 := by rw [hbin]; rfl
  have c04 : wcmp .lss 0 4 = true := by rw [hcmp]; rfl
  have c14 : wcmp .lss 1 4 = true := by rw [hcmp]; rfl
  have c24 : wcmp .lss 2 4 = true := by rw [hcmp]; rfl
  have c34 : wcmp .lss 3 4 = true := by rw [hcmp]; rfl
  have c44 : wcmp .lss 4 4 = false := by rw [hcmp]; rfl
  iterate 3 (refine InN.mk (by decide) (by decide) ?_)
  (refine Loop.rounds hw 5 ?_; cbv)
  repeat' (first
    | (simp only [e01, e12, e23, e34, c04, c14, c24, c34, c44]; cbv)
    | (simp only [e01, e12, e23, e34, c04, c14, c24, c34, c44])
    | (refine And.intro ?_ ?_)
    | (refine InN.mk (by decide) (by decide) ?_; cbv)
    | (split <;> rename_i h <;> (try (simp only [e01, e12, e23, e34, c04, c14, c24, c34, c44] at h)) <;> (try (simp only [hbin, hcmp, hun, hconv, hnot, hbeq, hmm, hscmp, hsadd, hslen, hsat, heqs, hofNat, binStd, cmpStd, unStd, scmpStd, maxI, Bool.not_eq_true', Bool.not_eq_false', decide_eq_true_eq, decide_eq_false_iff_not, Int.not_lt, Int.not_le, if_true, if_false, Bool.false_eq_true, beq_iff_eq, bne_iff_ne, ne_eq, Bool.not_eq_eq_eq_not, Bool.not_true, Bool.not_false, beq_eq_false_iff_ne, bne_eq_false_iff_eq, Int.ofNat_eq_natCast, Bool.not_not, not_true_eq_false, not_false_eq_true, reduceCtorEq] at h)) <;> (try cbv))
    | (refine Call.stepE (by rw [← hP]; exact m0) rfl ?_; cbv)
    | (refine Call.stepE (by rw [← hP]; exact m1) rfl ?_; cbv)
    | (refine Call.stepE (by rw [← hP]; exact m2) rfl ?_; cbv)
    | (refine Call.stepE (by rw [← hP]; exact m3) rfl ?_; cbv))
  all_goals
    refine ⟨_, Vw.same rfl, ?_⟩
    first
      | (refine hR _ (.inr ⟨_, _, _, _, rfl, ⟨rfl, rfl, rfl, rfl⟩, ?_⟩); clear hR; simp_all; done)
      | (refine hR _ (.inl ⟨_, _, _, _, _, _, _, _, _, _, _, _, rfl, ?_⟩); clear hR; simp_all; done)
end Go.Proofs.Ytfonjmhnokailaa
