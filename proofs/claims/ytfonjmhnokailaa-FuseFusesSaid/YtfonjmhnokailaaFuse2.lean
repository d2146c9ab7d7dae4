/- Slipping and straying, by the engine. -/
import Derived.Test.YtfonjmhnokailaaFuse1
import Derived.Test.YtfonjmhnokailaaMid0
import Derived.KernelRfl
set_option linter.unusedVariables false
set_option linter.unusedSimpArgs false
namespace Go.Proofs.Ytfonjmhnokailaa
open Go Go.RowKit Go.Eng
set_option maxRecDepth 100000
theorem e_smid (a b : Int) (ha : I64 a) (hb : I64 b) : PCalls Try.prog 35 [sp2 a b] (· = .int .i64 ((a + b) / 2)) := by
  (refine PCalls.ofY Try.func35 (by kernel_rfl) (by kernel_rfl) fun w hw R hR => ?_); (obtain ⟨wbin, wcmp, wun, wconv, wnot, wbeq, wmm, wscmp, wsadd, wslen, wsat, weqs, wlen, wnlen, wofNat, wtake, wdrop, wapp, wzero, wnat⟩ := w); (have hbin : wbin = binStd := congrArg Prims.bin hw); (have hcmp : wcmp = cmpStd := congrArg Prims.cmp hw); (have hun : wun = unStd := congrArg Prims.un hw); (have hconv : wconv = fun k n => k.wrap n := congrArg Prims.conv hw); (have hnot : wnot = fun b => !b := congrArg Prims.not hw); (have hbeq : wbeq = fun a b => a == b := congrArg Prims.beq hw); (have hmm : wmm = maxI := congrArg Prims.mm hw); (have hscmp : wscmp = scmpStd := congrArg Prims.scmp hw); (have hsadd : wsadd = fun x y => x ++ y := congrArg Prims.sadd hw); (have hslen : wslen = fun s => (s.size : Int) := congrArg Prims.slen hw); (have hsat : wsat = std.sat := congrArg Prims.sat hw); (have heqs : weqs = fun a b os => (eqOffs a b os).getD false := congrArg Prims.eqs hw); (have hlen : wlen = fun es => (es.length : Int) := congrArg Prims.len hw); (have hnlen : wnlen = fun es => es.length := congrArg Prims.nlen hw); (have hofNat : wofNat = (fun n : Nat => (n : Int)) := congrArg Prims.ofNat hw); (have htake : wtake = fun es b => es.take b.toNat := congrArg Prims.take hw); (have hdrop : wdrop = fun es a => es.drop a.toNat := congrArg Prims.drop hw); (have happ : wapp = fun a b => a ++ b := congrArg Prims.app hw); (have hzero : wzero = fun n z => List.replicate n.toNat z := congrArg Prims.zero hw); (have hnat : wnat = fun n => n.toNat := congrArg Prims.nat hw); (conv => arg 2; cbv); (generalize hP : Try.prog = P); cbv
  refine Call.step (by rw [← hP]; exact e_nmid a b ha hb) rfl ?_
  rintro r rfl
  obtain ⟨m, em⟩ : ∃ x, (a + b) / 2 = x := ⟨_, rfl⟩
  rw [em] at hR ⊢
  cbv
  exact ⟨_, Vw.same rfl, hR _ rfl⟩
/-- Does a wheel turn faster than the train goes (1), or slower (-1). -/
def slipV (a b c d : Int) : Int := if (c + d) / 2 < 0 then (if b < c then 1 else -1) else (if d < a then 1 else -1)
theorem e_slip (a b c d : Int) (hc : I64 c) (hd : I64 d) : PCalls Try.prog 25 [sp2 a b, sp2 c d] (· = .int .i64 (slipV a b c d)) := by
  (refine PCalls.ofY Try.func25 (by kernel_rfl) (by kernel_rfl) fun w hw R hR => ?_); (obtain ⟨wbin, wcmp, wun, wconv, wnot, wbeq, wmm, wscmp, wsadd, wslen, wsat, weqs, wlen, wnlen, wofNat, wtake, wdrop, wapp, wzero, wnat⟩ := w); (have hbin : wbin = binStd := congrArg Prims.bin hw); (have hcmp : wcmp = cmpStd := congrArg Prims.cmp hw); (have hun : wun = unStd := congrArg Prims.un hw); (have hconv : wconv = fun k n => k.wrap n := congrArg Prims.conv hw); (have hnot : wnot = fun b => !b := congrArg Prims.not hw); (have hbeq : wbeq = fun a b => a == b := congrArg Prims.beq hw); (have hmm : wmm = maxI := congrArg Prims.mm hw); (have hscmp : wscmp = scmpStd := congrArg Prims.scmp hw); (have hsadd : wsadd = fun x y => x ++ y := congrArg Prims.sadd hw); (have hslen : wslen = fun s => (s.size : Int) := congrArg Prims.slen hw); (have hsat : wsat = std.sat := congrArg Prims.sat hw); (have heqs : weqs = fun a b os => (eqOffs a b os).getD false := congrArg Prims.eqs hw); (have hlen : wlen = fun es => (es.length : Int) := congrArg Prims.len hw); (have hnlen : wnlen = fun es => es.length := congrArg Prims.nlen hw); (have hofNat : wofNat = (fun n : Nat => (n : Int)) := congrArg Prims.ofNat hw); (have htake : wtake = fun es b => es.take b.toNat := congrArg Prims.take hw); (have hdrop : wdrop = fun es a => es.drop a.toNat := congrArg Prims.drop hw); (have happ : wapp = fun a b => a ++ b := congrArg Prims.app hw); (have hzero : wzero = fun n z => List.replicate n.toNat z := congrArg Prims.zero hw); (have hnat : wnat = fun n => n.toNat := congrArg Prims.nat hw); (conv => arg 2; cbv); (generalize hP : Try.prog = P); cbv
  obtain ⟨m, em⟩ : ∃ x, (c + d) / 2 = x := ⟨_, rfl⟩
  have hm := e_smid c d hc hd
  rw [em] at hm
  refine Call.stepE (by rw [← hP]; exact hm) rfl ?_
  cbv
  repeat' (split <;> rename_i h <;> (try (simp only [hbin, hcmp, hun, hconv, hnot, hbeq, hmm, hscmp, hsadd, hslen, hsat, heqs, hofNat, binStd, cmpStd, unStd, scmpStd, maxI, Bool.not_eq_true', Bool.not_eq_false', decide_eq_true_eq, decide_eq_false_iff_not, Int.not_lt, Int.not_le, if_true, if_false, Bool.false_eq_true, beq_iff_eq, bne_iff_ne, ne_eq, Bool.not_eq_eq_eq_not, Bool.not_true, Bool.not_false, beq_eq_false_iff_ne, bne_eq_false_iff_eq, Int.ofNat_eq_natCast, Bool.not_not, not_true_eq_false, not_false_eq_true, reduceCtorEq] at h)) <;> (try cbv))
  all_goals
    refine ⟨_, Vw.same rfl, hR _ (congrArg (AV.int .i64) ?_)⟩
    unfold slipV
    rw [em]
    repeat' split
    all_goals omega
/-- Has a span something in common with another one? -/
def meetB (t0 t1 a b : Int) : Bool := decide (max t0 a ≤ min t1 b)
theorem e_meetB (t0 t1 a b : Int) : PCalls Try.prog 34 [sp2 t0 t1, sp2 a b] (fun r => ∃ l h, r = .tuple [sp2 l h, .bool (meetB t0 t1 a b)]) := by
  refine (e_meet t0 t1 a b).mono ?_
  rintro r ⟨l, h, o, rfl, h5, _⟩
  refine ⟨l, h, ?_⟩
  have : o = meetB t0 t1 a b := by
    rw [Bool.eq_iff_iff, h5]; simp [meetB]
  rw [this]
theorem e_strays2 (t0 t1 a0 b0 a1 b1 : Int) : PCalls Try.prog 24 [sp2 t0 t1, .list 2 [[.int .i64 a0, .int .i64 b0], [.int .i64 a1, .int .i64 b1]]] (· = .list 1 ((if meetB t0 t1 a0 b0 then [] else [[.int .i64 0]]) ++ (if meetB t0 t1 a1 b1 then [] else [[.int .i64 1]]))) := by
  (refine PCalls.ofY Try.func24 (by kernel_rfl) (by kernel_rfl) fun w hw R hR => ?_); (obtain ⟨wbin, wcmp, wun, wconv, wnot, wbeq, wmm, wscmp, wsadd, wslen, wsat, weqs, wlen, wnlen, wofNat, wtake, wdrop, wapp, wzero, wnat⟩ := w); (have hbin : wbin = binStd := congrArg Prims.bin hw); (have hcmp : wcmp = cmpStd := congrArg Prims.cmp hw); (have hun : wun = unStd := congrArg Prims.un hw); (have hconv : wconv = fun k n => k.wrap n := congrArg Prims.conv hw); (have hnot : wnot = fun b => !b := congrArg Prims.not hw); (have hbeq : wbeq = fun a b => a == b := congrArg Prims.beq hw); (have hmm : wmm = maxI := congrArg Prims.mm hw); (have hscmp : wscmp = scmpStd := congrArg Prims.scmp hw); (have hsadd : wsadd = fun x y => x ++ y := congrArg Prims.sadd hw); (have hslen : wslen = fun s => (s.size : Int) := congrArg Prims.slen hw); (have hsat : wsat = std.sat := congrArg Prims.sat hw); (have heqs : weqs = fun a b os => (eqOffs a b os).getD false := congrArg Prims.eqs hw); (have hlen : wlen = fun es => (es.length : Int) := congrArg Prims.len hw); (have hnlen : wnlen = fun es => es.length := congrArg Prims.nlen hw); (have hofNat : wofNat = (fun n : Nat => (n : Int)) := congrArg Prims.ofNat hw); (have htake : wtake = fun es b => es.take b.toNat := congrArg Prims.take hw); (have hdrop : wdrop = fun es a => es.drop a.toNat := congrArg Prims.drop hw); (have happ : wapp = fun a b => a ++ b := congrArg Prims.app hw); (have hzero : wzero = fun n z => List.replicate n.toNat z := congrArg Prims.zero hw); (have hnat : wnat = fun n => n.toNat := congrArg Prims.nat hw); (conv => arg 2; cbv); (generalize hP : Try.prog = P); cbv
  have eL : wlen [[AV.int .i64 a0, .int .i64 b0], [.int .i64 a1, .int .i64 b1]] = 2 := by rw [hlen]; rfl
  have e01 : wbin .add .i64 0 1 = 1 := by rw [hbin]; rfl
  have e12 : wbin .add .i64 1 1 = 2 := by rw [hbin]; rfl
  simp only [eL]
  (refine Loop.rounds hw 3 ?_; cbv)
  have m0 : PCalls P 34 [sp2 t0 t1, sp2 a0 b0] (fun r => ∃ l h, r = .tuple [sp2 l h, .bool (meetB t0 t1 a0 b0)]) := by rw [← hP]; exact e_meetB t0 t1 a0 b0
  have m1 : PCalls P 34 [sp2 t0 t1, sp2 a1 b1] (fun r => ∃ l h, r = .tuple [sp2 l h, .bool (meetB t0 t1 a1 b1)]) := by rw [← hP]; exact e_meetB t0 t1 a1 b1
  generalize meetB t0 t1 a0 b0 = o0 at *
  generalize meetB t0 t1 a1 b1 = o1 at *
  repeat' (first
    | (exfalso; omega)
    | (simp only [e01, e12]; cbv)
    | (simp only [e01, e12])
    | (refine Idx.mk [.int .i64 a0, .int .i64 b0] (by decide) rfl ?_; cbv)
    | (refine Idx.mk [.int .i64 a1, .int .i64 b1] (by decide) rfl ?_; cbv)
    | (refine Call.step m0 rfl ?_; rintro r ⟨l0, h0, rfl⟩; cbv)
    | (refine Call.step m1 rfl ?_; rintro r ⟨l1, h1, rfl⟩; cbv)
    | (refine Ob.mk (by decide) ?_; cbv)
    | (refine App.mk _ _ rfl rfl rfl (by decide) (by decide) ?_; cbv)
    | (split <;> rename_i h <;> (try (simp only [e01, e12] at h)) <;> (try (simp only [hbin, hcmp, hun, hconv, hnot, hbeq, hmm, hscmp, hsadd, hslen, hsat, heqs, hofNat, binStd, cmpStd, unStd, scmpStd, maxI, Bool.not_eq_true', Bool.not_eq_false', decide_eq_true_eq, decide_eq_false_iff_not, Int.not_lt, Int.not_le, if_true, if_false, Bool.false_eq_true, beq_iff_eq, bne_iff_ne, ne_eq, Bool.not_eq_eq_eq_not, Bool.not_true, Bool.not_false, beq_eq_false_iff_ne, bne_eq_false_iff_eq, Int.ofNat_eq_natCast, Bool.not_not, not_true_eq_false, not_false_eq_true, reduceCtorEq] at h)) <;> (try cbv)))
  all_goals first
    | (refine ⟨_, Vw.sl rfl rfl (Nat.le_refl _), ?_⟩; apply hR; simp_all)
    | (refine ⟨_, Vw.nil 1, ?_⟩; apply hR; simp_all)
end Go.Proofs.Ytfonjmhnokailaa
