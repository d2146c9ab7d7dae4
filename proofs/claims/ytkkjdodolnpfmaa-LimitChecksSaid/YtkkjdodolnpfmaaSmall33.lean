/- odographlaw33.small, by the engine. Printed by wip/tools/gensmall.py. -/
import Derived.Test.YtkkjdodolnpfmaaRefs33
import Derived.Test.YtkkjdodolnpfmaaCheck11
import Derived.KernelRfl
set_option linter.unusedVariables false
set_option linter.unusedSimpArgs false
namespace Go.Proofs.Ytkkjdodolnpfmaa
open Go Go.RowKit Go.Eng
set_option maxRecDepth 100000


theorem up_track {es ds : List (List AV)} (hu : Up0 es) (hud : Up0 ds) : uptoL 0 [.agg [.list 3 es, .list 5 ds]] = true :=
  Bool.and_eq_true_iff.mpr ⟨Up0.one hu (Up0.one hud rfl), rfl⟩
theorem e_small_small (ss : List Sg) (gs : List Gr) (es ds : List (List AV)) (hes : es = ss.map sgRow) (hds : ds = gs.map grRow) : PCalls Try.prog 34 [.agg [.list 3 es, .list 5 ds]] (fun r => ∃ o : Bool, r = .bool o ∧ (o = true → TrackOk ss gs ∧ ∀ s, s ∈ ss → s.ps.length ≤ 1000)) := by
  have hu : Up0 es := by rw [hes]; exact up_sg ss
  have hud : Up0 ds := by rw [hds]; exact up_gr gs
  have hel : es.length = ss.length := by rw [hes]; simp
  have hdl : ds.length = gs.length := by rw [hds]; simp
  (refine PCalls.ofY Try.func34 (by kernel_rfl) (by kernel_rfl) fun w hw R hR => ?_); (obtain ⟨wbin, wcmp, wun, wconv, wnot, wbeq, wmm, wscmp, wsadd, wslen, wsat, weqs, wlen, wnlen, wofNat, wtake, wdrop, wapp, wzero, wnat⟩ := w); (have hbin : wbin = binStd := congrArg Prims.bin hw); (have hcmp : wcmp = cmpStd := congrArg Prims.cmp hw); (have hun : wun = unStd := congrArg Prims.un hw); (have hconv : wconv = fun k n => k.wrap n := congrArg Prims.conv hw); (have hnot : wnot = fun b => !b := congrArg Prims.not hw); (have hbeq : wbeq = fun a b => a == b := congrArg Prims.beq hw); (have hmm : wmm = maxI := congrArg Prims.mm hw); (have hscmp : wscmp = scmpStd := congrArg Prims.scmp hw); (have hsadd : wsadd = fun x y => x ++ y := congrArg Prims.sadd hw); (have hslen : wslen = fun s => (s.size : Int) := congrArg Prims.slen hw); (have hsat : wsat = std.sat := congrArg Prims.sat hw); (have heqs : weqs = fun a b os => (eqOffs a b os).getD false := congrArg Prims.eqs hw); (have hlen : wlen = fun es => (es.length : Int) := congrArg Prims.len hw); (have hnlen : wnlen = fun es => es.length := congrArg Prims.nlen hw); (have hofNat : wofNat = (fun n : Nat => (n : Int)) := congrArg Prims.ofNat hw); (have htake : wtake = fun es b => es.take b.toNat := congrArg Prims.take hw); (have hdrop : wdrop = fun es a => es.drop a.toNat := congrArg Prims.drop hw); (have happ : wapp = fun a b => a ++ b := congrArg Prims.app hw); (have hzero : wzero = fun n z => List.replicate n.toNat z := congrArg Prims.zero hw); (have hnat : wnat = fun n => n.toNat := congrArg Prims.nat hw); (conv => arg 2; cbv); (generalize hP : Try.prog = P); cbv
  (obtain ⟨L, eL, L0, Ln⟩ : ∃ L : Int, wlen es = L ∧ 0 ≤ L ∧ L.toNat = es.length := ⟨(es.length : Int), by rw [hlen], Int.natCast_nonneg _, Int.toNat_natCast _⟩)
  (obtain ⟨J, eJ, J0, Jn⟩ : ∃ L : Int, wlen ds = L ∧ 0 ≤ L ∧ L.toNat = ds.length := ⟨(ds.length : Int), by rw [hlen], Int.natCast_nonneg _, Int.toNat_natCast _⟩)
  have hF : R (.bool false) := hR _ ⟨_, rfl, fun h => (by cases h)⟩
  (split <;> rename_i h1 <;> (try (simp only [eL] at h1)) <;> (try (simp only [hbin, hcmp, hun, hconv, hnot, hbeq, hmm, hscmp, hsadd, hslen, hsat, heqs, hofNat, binStd, cmpStd, unStd, scmpStd, maxI, Bool.not_eq_true', Bool.not_eq_false', decide_eq_true_eq, decide_eq_false_iff_not, Int.not_lt, Int.not_le, if_true, if_false, Bool.false_eq_true, beq_iff_eq, bne_iff_ne, ne_eq, Bool.not_eq_eq_eq_not, Bool.not_true, Bool.not_false, beq_eq_false_iff_ne, bne_eq_false_iff_eq, Int.ofNat_eq_natCast, Bool.not_not, not_true_eq_false, not_false_eq_true, reduceCtorEq] at h1)) <;> (try cbv))
  · exact ⟨_, Vw.same rfl, hF⟩
  (split <;> rename_i h2 <;> (try (simp only [eJ] at h2)) <;> (try (simp only [hbin, hcmp, hun, hconv, hnot, hbeq, hmm, hscmp, hsadd, hslen, hsat, heqs, hofNat, binStd, cmpStd, unStd, scmpStd, maxI, Bool.not_eq_true', Bool.not_eq_false', decide_eq_true_eq, decide_eq_false_iff_not, Int.not_lt, Int.not_le, if_true, if_false, Bool.false_eq_true, beq_iff_eq, bne_iff_ne, ne_eq, Bool.not_eq_eq_eq_not, Bool.not_true, Bool.not_false, beq_eq_false_iff_ne, bne_eq_false_iff_eq, Int.ofNat_eq_natCast, Bool.not_not, not_true_eq_false, not_false_eq_true, reduceCtorEq] at h2)) <;> (try cbv))
  · exact ⟨_, Vw.same rfl, hF⟩
  refine Loop.data hw (S := Int) (fun i => fr 43 [(1, .ref 0 2 0 0), (18, .list 3 es), (19, .int .i64 L), (20, .int .i64 i)]) (fun i => [.live 2 [[.list 3 es, .list 5 ds]]]) (fun i => 0 ≤ i ∧ i ≤ L ∧ ∀ j, j < i.toNat → ∀ s, ss[j]? = some s → s.ps.length ≤ 100) (fun i => (L - i).toNat) 0 (by (refine Wk.eqz (id) (by first | exact fun i _ j _ e => e | (simp only [List.length_cons, List.length_nil]; decide)) ?_; cbv; (repeat' (first | exact trivial | rfl | assumption | apply And.intro | (simp only [hbin, hcmp, hun, hconv, hnot, hbeq, hmm, hscmp, hsadd, hslen, hsat, heqs, hofNat, binStd, cmpStd, unStd, scmpStd, maxI, Bool.not_eq_true', Bool.not_eq_false', decide_eq_true_eq, decide_eq_false_iff_not, Int.not_lt, Int.not_le, if_true, if_false, Bool.false_eq_true, beq_iff_eq, bne_iff_ne, ne_eq, Bool.not_eq_eq_eq_not, Bool.not_true, Bool.not_false, beq_eq_false_iff_ne, bne_eq_false_iff_eq, Int.ofNat_eq_natCast, Bool.not_not, not_true_eq_false, not_false_eq_true, reduceCtorEq]; first | done | assumption) | exact RowsZ.same (by assumption) (by first | assumption | rfl) | exact FzL.mk rfl rfl rfl (by assumption) (by first | assumption | rfl) (by decide) | (refine RowsZ.one ?_; cbv))))) ⟨Int.le_refl _, L0, fun j hj => (by simp at hj)⟩ ?_
  rintro i hinv Q' hN hE hR'
  have hinv : 0 ≤ i ∧ i ≤ L ∧ ∀ j, j < i.toNat → ∀ s, ss[j]? = some s → s.ps.length ≤ 100 := hinv
  cbv
  obtain ⟨hi0, hi1, hl⟩ := hinv
  (split <;> rename_i hc <;> (try (simp only [hbin, hcmp, hun, hconv, hnot, hbeq, hmm, hscmp, hsadd, hslen, hsat, heqs, hofNat, binStd, cmpStd, unStd, scmpStd, maxI, Bool.not_eq_true', Bool.not_eq_false', decide_eq_true_eq, decide_eq_false_iff_not, Int.not_lt, Int.not_le, if_true, if_false, Bool.false_eq_true, beq_iff_eq, bne_iff_ne, ne_eq, Bool.not_eq_eq_eq_not, Bool.not_true, Bool.not_false, beq_eq_false_iff_ne, bne_eq_false_iff_eq, Int.ofNat_eq_natCast, Bool.not_not, not_true_eq_false, not_false_eq_true, reduceCtorEq] at hc)) <;> (try cbv))
  · obtain ⟨⟨len, ps, nx⟩, hd, hrow⟩ := get_map (f := sgRow) (ds := ss) (i := i) hi0 (by omega)
    obtain ⟨q1, eq1⟩ : ∃ x, ps.map pcRow = x := ⟨_, rfl⟩
    obtain ⟨n1, en1⟩ : ∃ x, nx.map nxRow = x := ⟨_, rfl⟩
    have hrow : es[i.toNat]? = some [.int .i64 len, .list 2 q1, .list 1 n1] := by rw [hes, ← eq1, ← en1]; exact hrow
    have hql : q1.length = ps.length := by rw [← eq1]; simp
    (obtain ⟨K, eK, K0, Kn⟩ : ∃ L : Int, wlen q1 = L ∧ 0 ≤ L ∧ L.toNat = q1.length := ⟨(q1.length : Int), by rw [hlen], Int.natCast_nonneg _, Int.toNat_natCast _⟩)
    obtain ⟨i', ei'⟩ : ∃ x, i + 1 = x := ⟨_, rfl⟩
    have ei : wbin .add .i64 i 1 = i' := by rw [hbin, i_add (by omega) (by omega)]; exact ei'
    have hT : (L - i').toNat < (L - i).toNat := by omega
    refine Idx.mk [.int .i64 len, .list 2 q1, .list 1 n1] hi0 hrow ?_
    cbv
    repeat' (first | exact hR' _ _ ⟨_, Vw.same rfl, hF⟩ | (split <;> rename_i h <;> (try (simp only [eK] at h)) <;> (try (simp only [hbin, hcmp, hun, hconv, hnot, hbeq, hmm, hscmp, hsadd, hslen, hsat, heqs, hofNat, binStd, cmpStd, unStd, scmpStd, maxI, Bool.not_eq_true', Bool.not_eq_false', decide_eq_true_eq, decide_eq_false_iff_not, Int.not_lt, Int.not_le, if_true, if_false, Bool.false_eq_true, beq_iff_eq, bne_iff_ne, ne_eq, Bool.not_eq_eq_eq_not, Bool.not_true, Bool.not_false, beq_eq_false_iff_ne, bne_eq_false_iff_eq, Int.ofNat_eq_natCast, Bool.not_not, not_true_eq_false, not_false_eq_true, reduceCtorEq] at h)) <;> (try cbv)))
    refine hN i' _ _ ?hx ?hi hT
    case hx => (refine Wk.eqz (id) (by first | exact fun i _ j _ e => e | (simp only [List.length_cons, List.length_nil]; decide)) ?_; cbv; (repeat' (first | exact trivial | rfl | assumption | apply And.intro | (simp only [hbin, hcmp, hun, hconv, hnot, hbeq, hmm, hscmp, hsadd, hslen, hsat, heqs, hofNat, binStd, cmpStd, unStd, scmpStd, maxI, Bool.not_eq_true', Bool.not_eq_false', decide_eq_true_eq, decide_eq_false_iff_not, Int.not_lt, Int.not_le, if_true, if_false, Bool.false_eq_true, beq_iff_eq, bne_iff_ne, ne_eq, Bool.not_eq_eq_eq_not, Bool.not_true, Bool.not_false, beq_eq_false_iff_ne, bne_eq_false_iff_eq, Int.ofNat_eq_natCast, Bool.not_not, not_true_eq_false, not_false_eq_true, reduceCtorEq]; first | done | assumption) | exact RowsZ.same (by assumption) (by first | assumption | rfl) | exact FzL.mk rfl rfl rfl (by assumption) (by first | assumption | rfl) (by decide) | (refine RowsZ.one ?_; cbv))))
    case hi =>
      refine ⟨by omega, by omega, ?_⟩
      rw [← ei']
      refine all_step hi0 hl fun m hm => ?_
      rw [hd] at hm
      obtain rfl : (⟨len, ps, nx⟩ : Sg) = m := by simpa using hm
      simp only; omega
  refine hE _ _ _ ?_
  cbv
  have hps : ∀ s, s ∈ ss → s.ps.length ≤ 1000 := fun s hs => by
    obtain ⟨j, hj⟩ := List.mem_iff_getElem?.1 hs
    have := hl j (by have := (List.getElem?_eq_some_iff.1 hj).1; omega) s hj
    omega
  refine Call.stepE (by rw [← hP]; exact e_refsT ss gs es ds hes hds (by omega) (by omega) hps) (by exact up_track hu hud) ?_
  cbv
  refine Call.step (by rw [← hP]; exact e_check11 ss gs es ds hes hds) (by exact up_track hu hud) ?_
  rintro r ⟨e, i, rfl, hok⟩
  cbv
  refine ⟨_, Vw.same rfl, hR _ ⟨_, rfl, fun ho => ⟨hok ?_, hps⟩⟩⟩
  rw [hcmp] at ho
  simpa [cmpStd] using ho
end Go.Proofs.Ytkkjdodolnpfmaa
