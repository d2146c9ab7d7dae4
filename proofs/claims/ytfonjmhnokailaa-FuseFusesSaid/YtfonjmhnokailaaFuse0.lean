/- What sensors say, by the engine: the plain parts. -/
import Derived.Test.YtfonjmhnokailaaEng33
import Derived.Test.YtfonjmhnokailaaNums
import Derived.KernelRfl
set_option linter.unusedVariables false
set_option linter.unusedSimpArgs false
namespace Go.Proofs.Ytfonjmhnokailaa
open Go Go.RowKit Go.Eng
set_option maxRecDepth 100000
/-- The spans of those that are fit. -/
def fitRow (f : Bool) (a b : Int) : List (Int × Int) := match f with | true => [(a, b)] | false => []
set_option maxHeartbeats 2000000 in
theorem e_fit (f0 f1 f2 : Bool) (a0 b0 a1 b1 a2 b2 : Int) : PCalls Try.prog 21 [.agg [.bool f0, .int .i64 a0, .int .i64 b0, .bool f1, .int .i64 a1, .int .i64 b1, .bool f2, .int .i64 a2, .int .i64 b2]] (fun r => ∃ es, r = .list 2 es ∧ es = (fitRow f0 a0 b0 ++ fitRow f1 a1 b1 ++ fitRow f2 a2 b2).map (fun p => [.int .i64 p.1, .int .i64 p.2])) := by
  cases f0 <;> cases f1 <;> cases f2
  all_goals
    (refine PCalls.ofY Try.func21 (by kernel_rfl) (by kernel_rfl) fun w hw R hR => ?_); (obtain ⟨wbin, wcmp, wun, wconv, wnot, wbeq, wmm, wscmp, wsadd, wslen, wsat, weqs, wlen, wnlen, wofNat, wtake, wdrop, wapp, wzero, wnat⟩ := w); (have hbin : wbin = binStd := congrArg Prims.bin hw); (have hcmp : wcmp = cmpStd := congrArg Prims.cmp hw); (have hun : wun = unStd := congrArg Prims.un hw); (have hconv : wconv = fun k n => k.wrap n := congrArg Prims.conv hw); (have hnot : wnot = fun b => !b := congrArg Prims.not hw); (have hbeq : wbeq = fun a b => a == b := congrArg Prims.beq hw); (have hmm : wmm = maxI := congrArg Prims.mm hw); (have hscmp : wscmp = scmpStd := congrArg Prims.scmp hw); (have hsadd : wsadd = fun x y => x ++ y := congrArg Prims.sadd hw); (have hslen : wslen = fun s => (s.size : Int) := congrArg Prims.slen hw); (have hsat : wsat = std.sat := congrArg Prims.sat hw); (have heqs : weqs = fun a b os => (eqOffs a b os).getD false := congrArg Prims.eqs hw); (have hlen : wlen = fun es => (es.length : Int) := congrArg Prims.len hw); (have hnlen : wnlen = fun es => es.length := congrArg Prims.nlen hw); (have hofNat : wofNat = (fun n : Nat => (n : Int)) := congrArg Prims.ofNat hw); (have htake : wtake = fun es b => es.take b.toNat := congrArg Prims.take hw); (have hdrop : wdrop = fun es a => es.drop a.toNat := congrArg Prims.drop hw); (have happ : wapp = fun a b => a ++ b := congrArg Prims.app hw); (have hzero : wzero = fun n z => List.replicate n.toNat z := congrArg Prims.zero hw); (have hnat : wnat = fun n => n.toNat := congrArg Prims.nat hw); (conv => arg 2; cbv); (generalize hP : Try.prog = P); cbv
    have e01 : wbin .add .i64 0 1 = 1 := by rw [hbin]; rfl
    have e12 : wbin .add .i64 1 1 = 2 := by rw [hbin]; rfl
    have e23 : wbin .add .i64 2 1 = 3 := by rw [hbin]; rfl
    (refine Loop.rounds hw 4 ?_; cbv)
    repeat' (first
      | (simp only [e01, e12, e23]; cbv)
      | (simp only [e01, e12, e23])
      | (refine InN.mk (by decide) (by decide) ?_; cbv)
      | (refine Ob.mk (by decide) ?_; cbv)
      | (refine App.mk _ _ rfl rfl rfl (by decide) (by decide) ?_; cbv)
      | (split <;> rename_i h <;> (try (simp only [e01, e12, e23] at h)) <;> (try (simp only [hbin, hcmp, hun, hconv, hnot, hbeq, hmm, hscmp, hsadd, hslen, hsat, heqs, hofNat, binStd, cmpStd, unStd, scmpStd, maxI, Bool.not_eq_true', Bool.not_eq_false', decide_eq_true_eq, decide_eq_false_iff_not, Int.not_lt, Int.not_le, if_true, if_false, Bool.false_eq_true, beq_iff_eq, bne_iff_ne, ne_eq, Bool.not_eq_eq_eq_not, Bool.not_true, Bool.not_false, beq_eq_false_iff_ne, bne_eq_false_iff_eq, Int.ofNat_eq_natCast, Bool.not_not, not_true_eq_false, not_false_eq_true, reduceCtorEq] at h)) <;> (try cbv)))
    all_goals first
      | (exfalso; omega)
      | (refine ⟨_, Vw.sl rfl rfl (Nat.le_refl _), ?_⟩; exact hR _ ⟨_, rfl, rfl⟩)
      | (refine ⟨_, Vw.nil 2, ?_⟩; exact hR _ ⟨_, rfl, rfl⟩)
end Go.Proofs.Ytfonjmhnokailaa
