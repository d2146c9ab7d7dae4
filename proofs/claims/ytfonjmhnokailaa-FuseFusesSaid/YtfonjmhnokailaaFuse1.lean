/- What those that are fit say together, by the engine. -/
import Derived.Test.YtfonjmhnokailaaFuse0
import Derived.Test.YtfonjmhnokailaaUse6
import Derived.KernelRfl
set_option linter.unusedVariables false
set_option linter.unusedSimpArgs false
namespace Go.Proofs.Ytfonjmhnokailaa
open Go Go.RowKit Go.Eng
set_option maxRecDepth 100000
theorem e_together (ps : List (Int × Int)) (es : List (List AV)) (hes : es = spRows ps) (hlen' : ps.length ≤ 3) : PCalls Try.prog 22 [.list 2 es] (fun r => ∃ lo hi ok ag, r = .tuple [sp2 lo hi, .bool ok, .bool ag] ∧ ((CommonIs (aOf ps) (bOf ps) ps.length lo hi true ∧ ok = true ∧ ag = true) ∨ (∃ l h, CommonIs (aOf ps) (bOf ps) ps.length l h false ∧ ag = false ∧ (ps.length < 3 ∧ lo = 0 ∧ hi = 0 ∧ ok = false ∨ 3 ≤ ps.length ∧ TwoIs (aOf ps) (bOf ps) (Pairs ps.length ps.length 0) lo hi ok)))) := by
  have hu : Up0 es := ⟨by rw [hes]; have := up_spRows ps; simpa [AV.upto] using this⟩
  have hel : es.length = ps.length := by rw [hes]; exact len_spRows ps
  (refine PCalls.ofY Try.func22 (by kernel_rfl) (by kernel_rfl) fun w hw R hR => ?_); (obtain ⟨wbin, wcmp, wun, wconv, wnot, wbeq, wmm, wscmp, wsadd, wslen, wsat, weqs, wlen, wnlen, wofNat, wtake, wdrop, wapp, wzero, wnat⟩ := w); (have hbin : wbin = binStd := congrArg Prims.bin hw); (have hcmp : wcmp = cmpStd := congrArg Prims.cmp hw); (have hun : wun = unStd := congrArg Prims.un hw); (have hconv : wconv = fun k n => k.wrap n := congrArg Prims.conv hw); (have hnot : wnot = fun b => !b := congrArg Prims.not hw); (have hbeq : wbeq = fun a b => a == b := congrArg Prims.beq hw); (have hmm : wmm = maxI := congrArg Prims.mm hw); (have hscmp : wscmp = scmpStd := congrArg Prims.scmp hw); (have hsadd : wsadd = fun x y => x ++ y := congrArg Prims.sadd hw); (have hslen : wslen = fun s => (s.size : Int) := congrArg Prims.slen hw); (have hsat : wsat = std.sat := congrArg Prims.sat hw); (have heqs : weqs = fun a b os => (eqOffs a b os).getD false := congrArg Prims.eqs hw); (have hlen : wlen = fun es => (es.length : Int) := congrArg Prims.len hw); (have hnlen : wnlen = fun es => es.length := congrArg Prims.nlen hw); (have hofNat : wofNat = (fun n : Nat => (n : Int)) := congrArg Prims.ofNat hw); (have htake : wtake = fun es b => es.take b.toNat := congrArg Prims.take hw); (have hdrop : wdrop = fun es a => es.drop a.toNat := congrArg Prims.drop hw); (have happ : wapp = fun a b => a ++ b := congrArg Prims.app hw); (have hzero : wzero = fun n z => List.replicate n.toNat z := congrArg Prims.zero hw); (have hnat : wnat = fun n => n.toNat := congrArg Prims.nat hw); (conv => arg 2; cbv); (generalize hP : Try.prog = P); cbv
  (obtain ⟨L, eL, L0, Ln⟩ : ∃ L : Int, wlen es = L ∧ 0 ≤ L ∧ L.toNat = es.length := ⟨(es.length : Int), by rw [hlen], Int.natCast_nonneg _, Int.toNat_natCast _⟩)
  refine Call.step (by rw [← hP]; exact e_common ps es hes (by omega)) (by exact Up0.one hu rfl) ?_
  rintro r ⟨lo, hi, f, rfl, hcom⟩
  cbv
  (split <;> rename_i h1 <;> (try (simp only [hbin, hcmp, hun, hconv, hnot, hbeq, hmm, hscmp, hsadd, hslen, hsat, heqs, hofNat, binStd, cmpStd, unStd, scmpStd, maxI, Bool.not_eq_true', Bool.not_eq_false', decide_eq_true_eq, decide_eq_false_iff_not, Int.not_lt, Int.not_le, if_true, if_false, Bool.false_eq_true, beq_iff_eq, bne_iff_ne, ne_eq, Bool.not_eq_eq_eq_not, Bool.not_true, Bool.not_false, beq_eq_false_iff_ne, bne_eq_false_iff_eq, Int.ofNat_eq_natCast, Bool.not_not, not_true_eq_false, not_false_eq_true, reduceCtorEq] at h1)) <;> (try cbv))
  · exact ⟨_, Vw.same rfl, hR _ ⟨_, _, _, _, rfl, .inl ⟨hcom, rfl, rfl⟩⟩⟩
  (split <;> rename_i h2 <;> (try (simp only [eL] at h2)) <;> (try (simp only [hbin, hcmp, hun, hconv, hnot, hbeq, hmm, hscmp, hsadd, hslen, hsat, heqs, hofNat, binStd, cmpStd, unStd, scmpStd, maxI, Bool.not_eq_true', Bool.not_eq_false', decide_eq_true_eq, decide_eq_false_iff_not, Int.not_lt, Int.not_le, if_true, if_false, Bool.false_eq_true, beq_iff_eq, bne_iff_ne, ne_eq, Bool.not_eq_eq_eq_not, Bool.not_true, Bool.not_false, beq_eq_false_iff_ne, bne_eq_false_iff_eq, Int.ofNat_eq_natCast, Bool.not_not, not_true_eq_false, not_false_eq_true, reduceCtorEq] at h2)) <;> (try cbv))
  · exact ⟨_, Vw.same rfl, hR _ ⟨_, _, _, _, rfl, .inr ⟨_, _, hcom, rfl, .inl ⟨by omega, rfl, rfl, rfl⟩⟩⟩⟩
  refine Call.step (by rw [← hP]; exact e_two ps es hes (by omega)) (by exact Up0.one hu rfl) ?_
  rintro r ⟨l, h, g, rfl, htwo⟩
  cbv
  exact ⟨_, Vw.same rfl, hR _ ⟨_, _, _, _, rfl, .inr ⟨_, _, hcom, rfl, .inr ⟨by omega, htwo⟩⟩⟩⟩
end Go.Proofs.Ytfonjmhnokailaa
