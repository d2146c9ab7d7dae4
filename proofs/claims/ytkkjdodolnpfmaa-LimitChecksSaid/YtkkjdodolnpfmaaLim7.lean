/- LimitChecks: the walk, by the engine. -/
import Derived.Test.YtkkjdodolnpfmaaLim6
import Derived.KernelRfl
set_option linter.unusedVariables false
set_option linter.unusedSimpArgs false
namespace Go.Proofs.Ytkkjdodolnpfmaa
open Go Go.RowKit Go.Eng
set_option maxRecDepth 100000
theorem chk_small {ss : List Sg} {ls : List Li} {e i : Int} (h : ChkIs ss ls e i) : 0 ≤ e ∧ e ≤ 13 := by
  rcases h with ⟨_, h, _⟩ | ⟨_, ⟨_, h, _⟩ | ⟨_, _, _, _, ⟨_, h⟩ | ⟨_, _, h⟩⟩⟩ <;> omega
theorem walk_checks (ss : List Sg) (gs : List Gr) (ls : List Li) (es ds ls' : List (List AV)) (hes : es = ss.map sgRow) (hds : ds = gs.map grRow) (hls : ls' = ls.map liRow) : PCalls Try.prog 12 [.agg [.list 3 es, .list 5 ds], .list 4 ls'] (fun r => r = .bool true) := by
  have hu : Up0 es := by rw [hes]; exact up_sg ss
  have hud : Up0 ds := by rw [hds]; exact up_gr gs
  have hul : Up0 ls' := by rw [hls]; exact up_map (f := liRow) (fun d => rfl) ls
  have hll : ls'.length = ls.length := by rw [hls]; simp
  have hut : uptoL 0 [.agg [.list 3 es, .list 5 ds], .list 4 ls'] = true := Bool.and_eq_true_iff.mpr ⟨Up0.one hu (Up0.one hud rfl), Up0.one hul rfl⟩
  (refine PCalls.ofY Try.func12 (by kernel_rfl) (by kernel_rfl) fun w hw R hR => ?_); (obtain ⟨wbin, wcmp, wun, wconv, wnot, wbeq, wmm, wscmp, wsadd, wslen, wsat, weqs, wlen, wnlen, wofNat, wtake, wdrop, wapp, wzero, wnat⟩ := w); (have hbin : wbin = binStd := congrArg Prims.bin hw); (have hcmp : wcmp = cmpStd := congrArg Prims.cmp hw); (have hun : wun = unStd := congrArg Prims.un hw); (have hconv : wconv = fun k n => k.wrap n := congrArg Prims.conv hw); (have hnot : wnot = fun b => !b := congrArg Prims.not hw); (have hbeq : wbeq = fun a b => a == b := congrArg Prims.beq hw); (have hmm : wmm = maxI := congrArg Prims.mm hw); (have hscmp : wscmp = scmpStd := congrArg Prims.scmp hw); (have hsadd : wsadd = fun x y => x ++ y := congrArg Prims.sadd hw); (have hslen : wslen = fun s => (s.size : Int) := congrArg Prims.slen hw); (have hsat : wsat = std.sat := congrArg Prims.sat hw); (have heqs : weqs = fun a b os => (eqOffs a b os).getD false := congrArg Prims.eqs hw); (have hlen : wlen = fun es => (es.length : Int) := congrArg Prims.len hw); (have hnlen : wnlen = fun es => es.length := congrArg Prims.nlen hw); (have hofNat : wofNat = (fun n : Nat => (n : Int)) := congrArg Prims.ofNat hw); (have htake : wtake = fun es b => es.take b.toNat := congrArg Prims.take hw); (have hdrop : wdrop = fun es a => es.drop a.toNat := congrArg Prims.drop hw); (have happ : wapp = fun a b => a ++ b := congrArg Prims.app hw); (have hzero : wzero = fun n z => List.replicate n.toNat z := congrArg Prims.zero hw); (have hnat : wnat = fun n => n.toNat := congrArg Prims.nat hw); (conv => arg 2; cbv); (generalize hP : Try.prog = P); cbv
  (obtain ⟨L, eL, L0, Ln⟩ : ∃ L : Int, wlen ls' = L ∧ 0 ≤ L ∧ L.toNat = ls'.length := ⟨(ls'.length : Int), by rw [hlen], Int.natCast_nonneg _, Int.toNat_natCast _⟩)
  refine Call.step (by rw [← hP]; exact e_anchor33) rfl ?_
  rintro r rfl
  cbv
  (split <;> rename_i hb <;> (try (simp only [hbin, hcmp, hun, hconv, hnot, hbeq, hmm, hscmp, hsadd, hslen, hsat, heqs, hofNat, binStd, cmpStd, unStd, scmpStd, maxI, Bool.not_eq_true', Bool.not_eq_false', decide_eq_true_eq, decide_eq_false_iff_not, Int.not_lt, Int.not_le, if_true, if_false, Bool.false_eq_true, beq_iff_eq, bne_iff_ne, ne_eq, Bool.not_eq_eq_eq_not, Bool.not_true, Bool.not_false, beq_eq_false_iff_ne, bne_eq_false_iff_eq, Int.ofNat_eq_natCast, Bool.not_not, not_true_eq_false, not_false_eq_true, reduceCtorEq] at hb)) <;> (try cbv))
  refine Call.step (by rw [← hP]; exact e_small_small ss gs es ds hes hds) (by exact up_track hu hud) ?_
  rintro r ⟨o, rfl, hok⟩
  cbv
  (split <;> rename_i h1 <;> (try (simp only [hbin, hcmp, hun, hconv, hnot, hbeq, hmm, hscmp, hsadd, hslen, hsat, heqs, hofNat, binStd, cmpStd, unStd, scmpStd, maxI, Bool.not_eq_true', Bool.not_eq_false', decide_eq_true_eq, decide_eq_false_iff_not, Int.not_lt, Int.not_le, if_true, if_false, Bool.false_eq_true, beq_iff_eq, bne_iff_ne, ne_eq, Bool.not_eq_eq_eq_not, Bool.not_true, Bool.not_false, beq_eq_false_iff_ne, bne_eq_false_iff_eq, Int.ofNat_eq_natCast, Bool.not_not, not_true_eq_false, not_false_eq_true, reduceCtorEq] at h1)) <;> (try cbv))
  · exact ⟨_, Vw.same rfl, hR _ rfl⟩
  obtain ⟨htr, hps⟩ := hok (by assumption)
  have hn1 := htr.le
  have hn2 := htr.gle
  (split <;> rename_i h2 <;> (try (simp only [eL] at h2)) <;> (try (simp only [hbin, hcmp, hun, hconv, hnot, hbeq, hmm, hscmp, hsadd, hslen, hsat, heqs, hofNat, binStd, cmpStd, unStd, scmpStd, maxI, Bool.not_eq_true', Bool.not_eq_false', decide_eq_true_eq, decide_eq_false_iff_not, Int.not_lt, Int.not_le, if_true, if_false, Bool.false_eq_true, beq_iff_eq, bne_iff_ne, ne_eq, Bool.not_eq_eq_eq_not, Bool.not_true, Bool.not_false, beq_eq_false_iff_ne, bne_eq_false_iff_eq, Int.ofNat_eq_natCast, Bool.not_not, not_true_eq_false, not_false_eq_true, reduceCtorEq] at h2)) <;> (try cbv))
  · exact ⟨_, Vw.same rfl, hR _ rfl⟩
  refine Call.step (by rw [← hP]; exact e_lcheck ls ss gs ls' es ds hls hes hds) (by exact hut) ?_
  rintro r ⟨e, i, rfl, hc1⟩
  cbv
  refine Call.stepE (by rw [← hP]; exact e_refsT ss gs es ds hes hds (by omega) (by omega) hps) (by exact up_track hu hud) ?_
  cbv
  refine Call.stepE (by rw [← hP]; exact e_limits ls ls' hls (by omega)) (by exact Up0.one hul rfl) ?_
  cbv
  refine Call.step (by rw [← hP]; exact e_rcheck ls ss gs ls' es ds hls hes hds) (by exact hut) ?_
  rintro r ⟨e2, i2, rfl, hc2⟩
  cbv
  obtain ⟨rfl, rfl⟩ := chk_uniq hc1 hc2
  have he : wconv .i64 e = e := by
    rw [hconv]
    show IntKind.i64.wrap e = e
    have : 0 ≤ e ∧ e ≤ 13 := chk_small hc1
    rw [IntKind.wrap_i64]; omega
  simp only [he]
  repeat' (split <;> rename_i h <;> (try (simp only [hbin, hcmp, hun, hconv, hnot, hbeq, hmm, hscmp, hsadd, hslen, hsat, heqs, hofNat, binStd, cmpStd, unStd, scmpStd, maxI, Bool.not_eq_true', Bool.not_eq_false', decide_eq_true_eq, decide_eq_false_iff_not, Int.not_lt, Int.not_le, if_true, if_false, Bool.false_eq_true, beq_iff_eq, bne_iff_ne, ne_eq, Bool.not_eq_eq_eq_not, Bool.not_true, Bool.not_false, beq_eq_false_iff_ne, bne_eq_false_iff_eq, Int.ofNat_eq_natCast, Bool.not_not, not_true_eq_false, not_false_eq_true, reduceCtorEq] at h)) <;> (try cbv))
  all_goals
    refine ⟨_, Vw.same rfl, hR _ ?_⟩
    show AV.bool _ = AV.bool true
    first
      | rfl
      | (rw [hcmp]; simp [cmpStd])
end Go.Proofs.Ytkkjdodolnpfmaa
