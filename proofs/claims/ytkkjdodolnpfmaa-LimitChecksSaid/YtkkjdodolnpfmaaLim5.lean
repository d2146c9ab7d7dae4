/- limit.Check, and the document's, by the engine. -/
import Derived.Test.YtkkjdodolnpfmaaSmall33
import Derived.Test.YtkkjdodolnpfmaaLim2
import Derived.KernelRfl
set_option linter.unusedVariables false
set_option linter.unusedSimpArgs false
namespace Go.Proofs.Ytkkjdodolnpfmaa
open Go Go.RowKit Go.Eng
set_option maxRecDepth 100000
def cmpZ (a b : Int) : Int := if a < b then -1 else if b < a then 1 else 0
theorem e_nan1 (a : Int) : PCalls Try.prog 61 [.int .i64 a] (· = .bool false) := by
  (refine PCalls.ofY Try.func61 (by kernel_rfl) (by kernel_rfl) fun w hw R hR => ?_); (obtain ⟨wbin, wcmp, wun, wconv, wnot, wbeq, wmm, wscmp, wsadd, wslen, wsat, weqs, wlen, wnlen, wofNat, wtake, wdrop, wapp, wzero, wnat⟩ := w); (have hbin : wbin = binStd := congrArg Prims.bin hw); (have hcmp : wcmp = cmpStd := congrArg Prims.cmp hw); (have hun : wun = unStd := congrArg Prims.un hw); (have hconv : wconv = fun k n => k.wrap n := congrArg Prims.conv hw); (have hnot : wnot = fun b => !b := congrArg Prims.not hw); (have hbeq : wbeq = fun a b => a == b := congrArg Prims.beq hw); (have hmm : wmm = maxI := congrArg Prims.mm hw); (have hscmp : wscmp = scmpStd := congrArg Prims.scmp hw); (have hsadd : wsadd = fun x y => x ++ y := congrArg Prims.sadd hw); (have hslen : wslen = fun s => (s.size : Int) := congrArg Prims.slen hw); (have hsat : wsat = std.sat := congrArg Prims.sat hw); (have heqs : weqs = fun a b os => (eqOffs a b os).getD false := congrArg Prims.eqs hw); (have hlen : wlen = fun es => (es.length : Int) := congrArg Prims.len hw); (have hnlen : wnlen = fun es => es.length := congrArg Prims.nlen hw); (have hofNat : wofNat = (fun n : Nat => (n : Int)) := congrArg Prims.ofNat hw); (have htake : wtake = fun es b => es.take b.toNat := congrArg Prims.take hw); (have hdrop : wdrop = fun es a => es.drop a.toNat := congrArg Prims.drop hw); (have happ : wapp = fun a b => a ++ b := congrArg Prims.app hw); (have hzero : wzero = fun n z => List.replicate n.toNat z := congrArg Prims.zero hw); (have hnat : wnat = fun n => n.toNat := congrArg Prims.nat hw); (conv => arg 2; cbv); (generalize hP : Try.prog = P); cbv
  refine ⟨_, Vw.same rfl, hR _ ?_⟩
  show AV.bool _ = AV.bool false
  rw [hcmp]; simp [cmpStd]
theorem e_nan2 (a : Int) : PCalls Try.prog 62 [.int .i64 a] (· = .bool false) := by
  (refine PCalls.ofY Try.func62 (by kernel_rfl) (by kernel_rfl) fun w hw R hR => ?_); (obtain ⟨wbin, wcmp, wun, wconv, wnot, wbeq, wmm, wscmp, wsadd, wslen, wsat, weqs, wlen, wnlen, wofNat, wtake, wdrop, wapp, wzero, wnat⟩ := w); (have hbin : wbin = binStd := congrArg Prims.bin hw); (have hcmp : wcmp = cmpStd := congrArg Prims.cmp hw); (have hun : wun = unStd := congrArg Prims.un hw); (have hconv : wconv = fun k n => k.wrap n := congrArg Prims.conv hw); (have hnot : wnot = fun b => !b := congrArg Prims.not hw); (have hbeq : wbeq = fun a b => a == b := congrArg Prims.beq hw); (have hmm : wmm = maxI := congrArg Prims.mm hw); (have hscmp : wscmp = scmpStd := congrArg Prims.scmp hw); (have hsadd : wsadd = fun x y => x ++ y := congrArg Prims.sadd hw); (have hslen : wslen = fun s => (s.size : Int) := congrArg Prims.slen hw); (have hsat : wsat = std.sat := congrArg Prims.sat hw); (have heqs : weqs = fun a b os => (eqOffs a b os).getD false := congrArg Prims.eqs hw); (have hlen : wlen = fun es => (es.length : Int) := congrArg Prims.len hw); (have hnlen : wnlen = fun es => es.length := congrArg Prims.nlen hw); (have hofNat : wofNat = (fun n : Nat => (n : Int)) := congrArg Prims.ofNat hw); (have htake : wtake = fun es b => es.take b.toNat := congrArg Prims.take hw); (have hdrop : wdrop = fun es a => es.drop a.toNat := congrArg Prims.drop hw); (have happ : wapp = fun a b => a ++ b := congrArg Prims.app hw); (have hzero : wzero = fun n z => List.replicate n.toNat z := congrArg Prims.zero hw); (have hnat : wnat = fun n => n.toNat := congrArg Prims.nat hw); (conv => arg 2; cbv); (generalize hP : Try.prog = P); cbv
  refine ⟨_, Vw.same rfl, hR _ ?_⟩
  show AV.bool _ = AV.bool false
  rw [hcmp]; simp [cmpStd]
theorem e_cmp1 (a b : Int) : PCalls Try.prog 58 [.int .i64 a, .int .i64 b] (· = .int .i64 (cmpZ a b)) := by
  (refine PCalls.ofY Try.func58 (by kernel_rfl) (by kernel_rfl) fun w hw R hR => ?_); (obtain ⟨wbin, wcmp, wun, wconv, wnot, wbeq, wmm, wscmp, wsadd, wslen, wsat, weqs, wlen, wnlen, wofNat, wtake, wdrop, wapp, wzero, wnat⟩ := w); (have hbin : wbin = binStd := congrArg Prims.bin hw); (have hcmp : wcmp = cmpStd := congrArg Prims.cmp hw); (have hun : wun = unStd := congrArg Prims.un hw); (have hconv : wconv = fun k n => k.wrap n := congrArg Prims.conv hw); (have hnot : wnot = fun b => !b := congrArg Prims.not hw); (have hbeq : wbeq = fun a b => a == b := congrArg Prims.beq hw); (have hmm : wmm = maxI := congrArg Prims.mm hw); (have hscmp : wscmp = scmpStd := congrArg Prims.scmp hw); (have hsadd : wsadd = fun x y => x ++ y := congrArg Prims.sadd hw); (have hslen : wslen = fun s => (s.size : Int) := congrArg Prims.slen hw); (have hsat : wsat = std.sat := congrArg Prims.sat hw); (have heqs : weqs = fun a b os => (eqOffs a b os).getD false := congrArg Prims.eqs hw); (have hlen : wlen = fun es => (es.length : Int) := congrArg Prims.len hw); (have hnlen : wnlen = fun es => es.length := congrArg Prims.nlen hw); (have hofNat : wofNat = (fun n : Nat => (n : Int)) := congrArg Prims.ofNat hw); (have htake : wtake = fun es b => es.take b.toNat := congrArg Prims.take hw); (have hdrop : wdrop = fun es a => es.drop a.toNat := congrArg Prims.drop hw); (have happ : wapp = fun a b => a ++ b := congrArg Prims.app hw); (have hzero : wzero = fun n z => List.replicate n.toNat z := congrArg Prims.zero hw); (have hnat : wnat = fun n => n.toNat := congrArg Prims.nat hw); (conv => arg 2; cbv); (generalize hP : Try.prog = P); cbv
  refine Call.stepE (by rw [← hP]; exact e_nan1 a) rfl ?_
  cbv
  refine Call.stepE (by rw [← hP]; exact e_nan1 b) rfl ?_
  cbv
  repeat' (split <;> rename_i h <;> (try (simp only [hbin, hcmp, hun, hconv, hnot, hbeq, hmm, hscmp, hsadd, hslen, hsat, heqs, hofNat, binStd, cmpStd, unStd, scmpStd, maxI, Bool.not_eq_true', Bool.not_eq_false', decide_eq_true_eq, decide_eq_false_iff_not, Int.not_lt, Int.not_le, if_true, if_false, Bool.false_eq_true, beq_iff_eq, bne_iff_ne, ne_eq, Bool.not_eq_eq_eq_not, Bool.not_true, Bool.not_false, beq_eq_false_iff_ne, bne_eq_false_iff_eq, Int.ofNat_eq_natCast, Bool.not_not, not_true_eq_false, not_false_eq_true, reduceCtorEq] at h)) <;> (try cbv))
  all_goals
    refine ⟨_, Vw.same rfl, hR _ (congrArg (AV.int .i64) ?_)⟩
    unfold cmpZ
    repeat' split
    all_goals omega
theorem e_cmp2 (a b : Int) : PCalls Try.prog 59 [.int .i64 a, .int .i64 b] (· = .int .i64 (cmpZ a b)) := by
  (refine PCalls.ofY Try.func59 (by kernel_rfl) (by kernel_rfl) fun w hw R hR => ?_); (obtain ⟨wbin, wcmp, wun, wconv, wnot, wbeq, wmm, wscmp, wsadd, wslen, wsat, weqs, wlen, wnlen, wofNat, wtake, wdrop, wapp, wzero, wnat⟩ := w); (have hbin : wbin = binStd := congrArg Prims.bin hw); (have hcmp : wcmp = cmpStd := congrArg Prims.cmp hw); (have hun : wun = unStd := congrArg Prims.un hw); (have hconv : wconv = fun k n => k.wrap n := congrArg Prims.conv hw); (have hnot : wnot = fun b => !b := congrArg Prims.not hw); (have hbeq : wbeq = fun a b => a == b := congrArg Prims.beq hw); (have hmm : wmm = maxI := congrArg Prims.mm hw); (have hscmp : wscmp = scmpStd := congrArg Prims.scmp hw); (have hsadd : wsadd = fun x y => x ++ y := congrArg Prims.sadd hw); (have hslen : wslen = fun s => (s.size : Int) := congrArg Prims.slen hw); (have hsat : wsat = std.sat := congrArg Prims.sat hw); (have heqs : weqs = fun a b os => (eqOffs a b os).getD false := congrArg Prims.eqs hw); (have hlen : wlen = fun es => (es.length : Int) := congrArg Prims.len hw); (have hnlen : wnlen = fun es => es.length := congrArg Prims.nlen hw); (have hofNat : wofNat = (fun n : Nat => (n : Int)) := congrArg Prims.ofNat hw); (have htake : wtake = fun es b => es.take b.toNat := congrArg Prims.take hw); (have hdrop : wdrop = fun es a => es.drop a.toNat := congrArg Prims.drop hw); (have happ : wapp = fun a b => a ++ b := congrArg Prims.app hw); (have hzero : wzero = fun n z => List.replicate n.toNat z := congrArg Prims.zero hw); (have hnat : wnat = fun n => n.toNat := congrArg Prims.nat hw); (conv => arg 2; cbv); (generalize hP : Try.prog = P); cbv
  refine Call.stepE (by rw [← hP]; exact e_nan2 a) rfl ?_
  cbv
  refine Call.stepE (by rw [← hP]; exact e_nan2 b) rfl ?_
  cbv
  repeat' (split <;> rename_i h <;> (try (simp only [hbin, hcmp, hun, hconv, hnot, hbeq, hmm, hscmp, hsadd, hslen, hsat, heqs, hofNat, binStd, cmpStd, unStd, scmpStd, maxI, Bool.not_eq_true', Bool.not_eq_false', decide_eq_true_eq, decide_eq_false_iff_not, Int.not_lt, Int.not_le, if_true, if_false, Bool.false_eq_true, beq_iff_eq, bne_iff_ne, ne_eq, Bool.not_eq_eq_eq_not, Bool.not_true, Bool.not_false, beq_eq_false_iff_ne, bne_eq_false_iff_eq, Int.ofNat_eq_natCast, Bool.not_not, not_true_eq_false, not_false_eq_true, reduceCtorEq] at h)) <;> (try cbv))
  all_goals
    refine ⟨_, Vw.same rfl, hR _ (congrArg (AV.int .i64) ?_)⟩
    unfold cmpZ
    repeat' split
    all_goals omega
theorem e_or (a b : Int) : PCalls Try.prog 57 [.list 1 [[.int .i64 a], [.int .i64 b]]] (· = .int .i64 (if a = 0 then b else a)) := by
  have hU : Up0 [[AV.int .i64 a], [AV.int .i64 b]] := ⟨rfl⟩
  (refine PCalls.ofY Try.func57 (by kernel_rfl) (by kernel_rfl) fun w hw R hR => ?_); (obtain ⟨wbin, wcmp, wun, wconv, wnot, wbeq, wmm, wscmp, wsadd, wslen, wsat, weqs, wlen, wnlen, wofNat, wtake, wdrop, wapp, wzero, wnat⟩ := w); (have hbin : wbin = binStd := congrArg Prims.bin hw); (have hcmp : wcmp = cmpStd := congrArg Prims.cmp hw); (have hun : wun = unStd := congrArg Prims.un hw); (have hconv : wconv = fun k n => k.wrap n := congrArg Prims.conv hw); (have hnot : wnot = fun b => !b := congrArg Prims.not hw); (have hbeq : wbeq = fun a b => a == b := congrArg Prims.beq hw); (have hmm : wmm = maxI := congrArg Prims.mm hw); (have hscmp : wscmp = scmpStd := congrArg Prims.scmp hw); (have hsadd : wsadd = fun x y => x ++ y := congrArg Prims.sadd hw); (have hslen : wslen = fun s => (s.size : Int) := congrArg Prims.slen hw); (have hsat : wsat = std.sat := congrArg Prims.sat hw); (have heqs : weqs = fun a b os => (eqOffs a b os).getD false := congrArg Prims.eqs hw); (have hlen : wlen = fun es => (es.length : Int) := congrArg Prims.len hw); (have hnlen : wnlen = fun es => es.length := congrArg Prims.nlen hw); (have hofNat : wofNat = (fun n : Nat => (n : Int)) := congrArg Prims.ofNat hw); (have htake : wtake = fun es b => es.take b.toNat := congrArg Prims.take hw); (have hdrop : wdrop = fun es a => es.drop a.toNat := congrArg Prims.drop hw); (have happ : wapp = fun a b => a ++ b := congrArg Prims.app hw); (have hzero : wzero = fun n z => List.replicate n.toNat z := congrArg Prims.zero hw); (have hnat : wnat = fun n => n.toNat := congrArg Prims.nat hw); (conv => arg 2; cbv); (generalize hP : Try.prog = P); cbv
  (obtain ⟨L, eL, L0, Ln⟩ : ∃ L : Int, wlen [[AV.int .i64 a], [AV.int .i64 b]] = L ∧ 0 ≤ L ∧ L.toNat = [[AV.int .i64 a], [AV.int .i64 b]].length := ⟨([[AV.int .i64 a], [AV.int .i64 b]].length : Int), by rw [hlen], Int.natCast_nonneg _, Int.toNat_natCast _⟩)
  have Ln : L.toNat = 2 := Ln
  have fin : ∀ v, v = (if a = 0 then b else a) → R (.int .i64 v) := fun v hv => hR _ (by rw [hv])
  refine Loop.data hw (S := Int) (fun i => fr 18 [(3, .int .i64 0), (6, .list 1 [[.int .i64 a], [.int .i64 b]]), (7, .int .i64 L), (8, .int .i64 i)]) (fun i => []) (fun i => 0 ≤ i ∧ i ≤ 2 ∧ (1 ≤ i → a = 0) ∧ (2 ≤ i → b = 0)) (fun i => (2 - i).toNat) 0 (by (refine Wk.eqz (id) (by first | exact fun i _ j _ e => e | (simp only [List.length_cons, List.length_nil]; decide)) ?_; cbv; (repeat' (first | exact trivial | rfl | assumption | apply And.intro | (simp only [hbin, hcmp, hun, hconv, hnot, hbeq, hmm, hscmp, hsadd, hslen, hsat, heqs, hofNat, binStd, cmpStd, unStd, scmpStd, maxI, Bool.not_eq_true', Bool.not_eq_false', decide_eq_true_eq, decide_eq_false_iff_not, Int.not_lt, Int.not_le, if_true, if_false, Bool.false_eq_true, beq_iff_eq, bne_iff_ne, ne_eq, Bool.not_eq_eq_eq_not, Bool.not_true, Bool.not_false, beq_eq_false_iff_ne, bne_eq_false_iff_eq, Int.ofNat_eq_natCast, Bool.not_not, not_true_eq_false, not_false_eq_true, reduceCtorEq]; first | done | assumption) | exact RowsZ.same (by assumption) (by first | assumption | rfl) | exact FzL.mk rfl rfl rfl (by assumption) (by first | assumption | rfl) (by decide) | (refine RowsZ.one ?_; cbv))))) ⟨by decide, by decide, fun h => absurd h (by decide), fun h => absurd h (by decide)⟩ ?_
  rintro i hinv Q' hN hE hR'
  have hinv : 0 ≤ i ∧ i ≤ 2 ∧ (1 ≤ i → a = 0) ∧ (2 ≤ i → b = 0) := hinv
  cbv
  obtain ⟨hi0, hi1, ha, hb⟩ := hinv
  (split <;> rename_i hc <;> (try (simp only [hbin, hcmp, hun, hconv, hnot, hbeq, hmm, hscmp, hsadd, hslen, hsat, heqs, hofNat, binStd, cmpStd, unStd, scmpStd, maxI, Bool.not_eq_true', Bool.not_eq_false', decide_eq_true_eq, decide_eq_false_iff_not, Int.not_lt, Int.not_le, if_true, if_false, Bool.false_eq_true, beq_iff_eq, bne_iff_ne, ne_eq, Bool.not_eq_eq_eq_not, Bool.not_true, Bool.not_false, beq_eq_false_iff_ne, bne_eq_false_iff_eq, Int.ofNat_eq_natCast, Bool.not_not, not_true_eq_false, not_false_eq_true, reduceCtorEq] at hc)) <;> (try cbv))
  · obtain ⟨v, hrow, hv⟩ : ∃ v, ([[AV.int .i64 a], [AV.int .i64 b]])[i.toNat]? = some [.int .i64 v] ∧ (i = 0 ∧ v = a ∨ i = 1 ∧ v = b) := by
      rcases (show i = 0 ∨ i = 1 by omega) with rfl | rfl
      · exact ⟨a, rfl, .inl ⟨rfl, rfl⟩⟩
      · exact ⟨b, rfl, .inr ⟨rfl, rfl⟩⟩
    refine Idx.mk [.int .i64 v] hi0 hrow ?_
    cbv
    obtain ⟨i', ei'⟩ : ∃ x, i + 1 = x := ⟨_, rfl⟩
    have ei : wbin .add .i64 i 1 = i' := by rw [hbin, i_add (by omega) (by omega)]; exact ei'
    have hT : (2 - i').toNat < (2 - i).toNat := by omega
    (split <;> rename_i h <;> (try (simp only [hbin, hcmp, hun, hconv, hnot, hbeq, hmm, hscmp, hsadd, hslen, hsat, heqs, hofNat, binStd, cmpStd, unStd, scmpStd, maxI, Bool.not_eq_true', Bool.not_eq_false', decide_eq_true_eq, decide_eq_false_iff_not, Int.not_lt, Int.not_le, if_true, if_false, Bool.false_eq_true, beq_iff_eq, bne_iff_ne, ne_eq, Bool.not_eq_eq_eq_not, Bool.not_true, Bool.not_false, beq_eq_false_iff_ne, bne_eq_false_iff_eq, Int.ofNat_eq_natCast, Bool.not_not, not_true_eq_false, not_false_eq_true, reduceCtorEq] at h)) <;> (try cbv))
    · exact hR' _ _ ⟨_, Vw.same rfl, fin v (by split <;> omega)⟩
    refine hN i' _ _ ?hx ?hi hT
    case hx => (refine Wk.eqz (id) (by first | exact fun i _ j _ e => e | (simp only [List.length_cons, List.length_nil]; decide)) ?_; cbv; (repeat' (first | exact trivial | rfl | assumption | apply And.intro | (simp only [hbin, hcmp, hun, hconv, hnot, hbeq, hmm, hscmp, hsadd, hslen, hsat, heqs, hofNat, binStd, cmpStd, unStd, scmpStd, maxI, Bool.not_eq_true', Bool.not_eq_false', decide_eq_true_eq, decide_eq_false_iff_not, Int.not_lt, Int.not_le, if_true, if_false, Bool.false_eq_true, beq_iff_eq, bne_iff_ne, ne_eq, Bool.not_eq_eq_eq_not, Bool.not_true, Bool.not_false, beq_eq_false_iff_ne, bne_eq_false_iff_eq, Int.ofNat_eq_natCast, Bool.not_not, not_true_eq_false, not_false_eq_true, reduceCtorEq]; first | done | assumption) | exact RowsZ.same (by assumption) (by first | assumption | rfl) | exact FzL.mk rfl rfl rfl (by assumption) (by first | assumption | rfl) (by decide) | (refine RowsZ.one ?_; cbv))))
    case hi => exact ⟨by omega, by omega, fun h => by omega, fun h => by omega⟩
  · refine hE _ _ _ ?_
    cbv
    exact ⟨_, Vw.same rfl, fin 0 (by rw [if_pos (ha (by omega))]; exact (hb (by omega)).symm)⟩
theorem e_order (a1 a2 a3 a4 b1 b2 b3 b4 : Int) : PCalls Try.prog 52 [.agg [.int .i64 a1, .int .i64 a2, .int .i64 a3, .int .i64 a4], .agg [.int .i64 b1, .int .i64 b2, .int .i64 b3, .int .i64 b4]] (· = .int .i64 (if cmpZ a1 b1 = 0 then cmpZ a2 b2 else cmpZ a1 b1)) := by
  (refine PCalls.ofY Try.func52 (by kernel_rfl) (by kernel_rfl) fun w hw R hR => ?_); (obtain ⟨wbin, wcmp, wun, wconv, wnot, wbeq, wmm, wscmp, wsadd, wslen, wsat, weqs, wlen, wnlen, wofNat, wtake, wdrop, wapp, wzero, wnat⟩ := w); (have hbin : wbin = binStd := congrArg Prims.bin hw); (have hcmp : wcmp = cmpStd := congrArg Prims.cmp hw); (have hun : wun = unStd := congrArg Prims.un hw); (have hconv : wconv = fun k n => k.wrap n := congrArg Prims.conv hw); (have hnot : wnot = fun b => !b := congrArg Prims.not hw); (have hbeq : wbeq = fun a b => a == b := congrArg Prims.beq hw); (have hmm : wmm = maxI := congrArg Prims.mm hw); (have hscmp : wscmp = scmpStd := congrArg Prims.scmp hw); (have hsadd : wsadd = fun x y => x ++ y := congrArg Prims.sadd hw); (have hslen : wslen = fun s => (s.size : Int) := congrArg Prims.slen hw); (have hsat : wsat = std.sat := congrArg Prims.sat hw); (have heqs : weqs = fun a b os => (eqOffs a b os).getD false := congrArg Prims.eqs hw); (have hlen : wlen = fun es => (es.length : Int) := congrArg Prims.len hw); (have hnlen : wnlen = fun es => es.length := congrArg Prims.nlen hw); (have hofNat : wofNat = (fun n : Nat => (n : Int)) := congrArg Prims.ofNat hw); (have htake : wtake = fun es b => es.take b.toNat := congrArg Prims.take hw); (have hdrop : wdrop = fun es a => es.drop a.toNat := congrArg Prims.drop hw); (have happ : wapp = fun a b => a ++ b := congrArg Prims.app hw); (have hzero : wzero = fun n z => List.replicate n.toNat z := congrArg Prims.zero hw); (have hnat : wnat = fun n => n.toNat := congrArg Prims.nat hw); (conv => arg 2; cbv); (generalize hP : Try.prog = P); cbv
  obtain ⟨x, ex⟩ : ∃ x, cmpZ a1 b1 = x := ⟨_, rfl⟩
  obtain ⟨y, ey⟩ : ∃ y, cmpZ a2 b2 = y := ⟨_, rfl⟩
  rw [ex, ey] at hR
  refine QCal.stepE (v := .int .i64 x) (by rw [← hP, ← ex]; exact e_cmp1 _ _) rfl ?_
  cbv
  refine QCal.stepE (v := .int .i64 y) (by rw [← hP, ← ey]; exact e_cmp2 _ _) rfl ?_
  cbv
  obtain ⟨z, ez⟩ : ∃ z, (if x = 0 then y else x) = z := ⟨_, rfl⟩
  rw [ez] at hR
  refine QCal.stepE (v := .int .i64 z) (by rw [← hP, ← ez]; exact e_or x y) rfl ?_
  cbv
  exact ⟨_, Vw.same rfl, hR _ rfl⟩
/-- A limit out of range; one that is out of order. -/
def RB (ss : List Sg) (ls : List Li) (j : Nat) : Prop := ∃ x, ls[j]? = some x ∧ ¬ (0 ≤ x.s ∧ x.s.toNat < ss.length ∧ 0 ≤ x.a ∧ x.a ≤ x.b ∧ (∀ s, ss[x.s.toNat]? = some s → x.b ≤ s.len) ∧ 0 ≤ x.v ∧ x.v ≤ 16777216)
def OB (ls : List Li) (j : Nat) : Prop := ∃ x y, 0 < j ∧ ls[j]? = some x ∧ ls[j - 1]? = some y ∧ (x.s < y.s ∨ x.s = y.s ∧ x.a < y.a)
def ChkIs (ss : List Sg) (ls : List Li) (e i : Int) : Prop :=
  (400 < ls.length ∧ e = 13 ∧ i = 0) ∨ (ls.length ≤ 400 ∧ (((∀ j, j < ls.length → ¬ RB ss ls j ∧ ¬ OB ls j) ∧ e = 0 ∧ i = 0) ∨ ∃ k : Nat, k = i.toNat ∧ 0 ≤ i ∧ (∀ j, j < k → ¬ RB ss ls j ∧ ¬ OB ls j) ∧ ((RB ss ls k ∧ e = 10) ∨ (¬ RB ss ls k ∧ OB ls k ∧ e = 11))))
/-- A fact that is kept out of reckonings. -/
structure Fct (p : Prop) : Prop where
  h : p
theorem rb_lt {ss : List Sg} {ls : List Li} {k : Nat} (h : RB ss ls k ∨ OB ls k) : k < ls.length := by
  rcases h with ⟨x, hx, _⟩ | ⟨x, y, _, hx, _⟩
  · exact (List.getElem?_eq_some_iff.1 hx).1
  · exact (List.getElem?_eq_some_iff.1 hx).1
theorem chk_uniq {ss : List Sg} {ls : List Li} {e i e2 i2 : Int} (h : ChkIs ss ls e i) (k : ChkIs ss ls e2 i2) : e = e2 ∧ i = i2 := by
  have one : ∀ {e i : Int} {n : Nat}, (RB ss ls n ∧ e = 10) ∨ (¬ RB ss ls n ∧ OB ls n ∧ e = 11) → RB ss ls n ∨ OB ls n := fun h => h.elim (fun h => .inl h.1) (fun h => .inr h.2.1)
  rcases h with ⟨h0, h1, h2⟩ | ⟨h0, ⟨h1, h2, h3⟩ | ⟨n, hn, hi, h1, h2⟩⟩ <;> rcases k with ⟨k0, k1, k2⟩ | ⟨k0, ⟨k1, k2, k3⟩ | ⟨m, hm, hj, k1, k2⟩⟩
  · exact ⟨by omega, by omega⟩
  · omega
  · omega
  · omega
  · exact ⟨by omega, by omega⟩
  · exfalso
    have b := one (e := e2) (i := i2) k2
    have := h1 m (rb_lt b)
    exact b.elim this.1 this.2
  · omega
  · exfalso
    have b := one (e := e) (i := i) h2
    have := k1 n (rb_lt b)
    exact b.elim this.1 this.2
  · have enm : n = m := by
      rcases Nat.lt_trichotomy n m with hlt | heq | hlt
      · have b := one (e := e) (i := i) h2
        have := k1 n hlt
        exact absurd b (fun b => b.elim this.1 this.2)
      · exact heq
      · have b := one (e := e2) (i := i2) k2
        have := h1 m hlt
        exact absurd b (fun b => b.elim this.1 this.2)
    subst enm
    refine ⟨?_, by omega⟩
    rcases h2 with ⟨a1, a2⟩ | ⟨a1, a2, a3⟩ <;> rcases k2 with ⟨b1, b2⟩ | ⟨b1, b2, b3⟩
    · omega
    · exact absurd a1 b1
    · exact absurd b1 a1
    · omega
theorem pos_of {i : Int} (h0 : 0 ≤ i) (h : 0 < i.toNat) : 0 < i := by omega
theorem pos_nat {i : Int} (h : 0 < i) : 0 < i.toNat := by omega
theorem rb_of {ss : List Sg} {ls : List Li} {j : Nat} {s a b v len J : Int} {sg : Sg} {P : Prop} (hd : ls[j]? = some ⟨s, a, b, v⟩) (hrs : 0 ≤ s ∧ s < J → P ∧ ss[s.toNat]? = some sg ∧ sg.len = len) (hJ : J.toNat = ss.length ∧ 0 ≤ J) (hn : ¬ (0 ≤ s ∧ s < J ∧ 0 ≤ a ∧ a ≤ b ∧ b ≤ len ∧ 0 ≤ v ∧ v ≤ 16777216)) : RB ss ls j := by
  refine ⟨_, hd, fun ⟨g1, g2, g3, g4, g5, g6, g7⟩ => hn ?_⟩
  simp only at g1 g2 g3 g4 g5 g6 g7
  have hs : 0 ≤ s ∧ s < J := ⟨g1, by omega⟩
  obtain ⟨k1, k2⟩ := (hrs hs).2
  have := g5 sg k1
  exact ⟨g1, by omega, g3, g4, by omega, g6, g7⟩
theorem not_rb {ss : List Sg} {ls : List Li} {j : Nat} {s a b v len J : Int} {sg : Sg} {P : Prop} (hd : ls[j]? = some ⟨s, a, b, v⟩) (hrs : 0 ≤ s ∧ s < J → P ∧ ss[s.toNat]? = some sg ∧ sg.len = len) (hJ : J.toNat = ss.length ∧ 0 ≤ J) (hn : 0 ≤ s ∧ s < J ∧ 0 ≤ a ∧ a ≤ b ∧ b ≤ len ∧ 0 ≤ v ∧ v ≤ 16777216) : ¬ RB ss ls j := by
  rintro ⟨x, hx, hb⟩
  rw [hd] at hx
  obtain rfl : (⟨s, a, b, v⟩ : Li) = x := by simpa using hx
  obtain ⟨k1, k2⟩ := (hrs ⟨hn.1, hn.2.1⟩).2
  refine hb ⟨hn.1, by simp only; omega, hn.2.2.1, hn.2.2.2.1, fun t ht => ?_, hn.2.2.2.2.2.1, hn.2.2.2.2.2.2⟩
  simp only at ht ⊢
  rw [k1] at ht
  obtain rfl : sg = t := by simpa using ht
  omega
theorem not_ob {ls : List Li} {j : Nat} {s a b v s' a' b' v' : Int} (hd : ls[j]? = some ⟨s, a, b, v⟩) (hp : 0 < j → ls[j - 1]? = some ⟨s', a', b', v'⟩) (h : 0 < j → ¬ (s < s' ∨ s = s' ∧ a < a')) : ¬ OB ls j := by
  rintro ⟨x, y, h0, hx, hy, ho⟩
  rw [hd] at hx
  rw [hp h0] at hy
  obtain rfl : (⟨s, a, b, v⟩ : Li) = x := by simpa using hx
  obtain rfl : (⟨s', a', b', v'⟩ : Li) = y := by simpa using hy
  exact h h0 ho
theorem cmp_pos {s a s' a' : Int} : 0 < (if cmpZ s' s = 0 then cmpZ a' a else cmpZ s' s) ↔ (s < s' ∨ s = s' ∧ a < a') := by
  unfold cmpZ
  repeat' split
  all_goals omega
set_option maxHeartbeats 2000000 in
theorem e_lcheck (ls : List Li) (ss : List Sg) (gs : List Gr) (ls' es ds : List (List AV)) (hls : ls' = ls.map liRow) (hes : es = ss.map sgRow) (hds : ds = gs.map grRow) : PCalls Try.prog 35 [.agg [.list 3 es, .list 5 ds], .list 4 ls'] (fun r => ∃ e i, r = .tuple [.int .i64 e, .int .i64 i] ∧ ChkIs ss ls e i) := by
  have hu : Up0 es := by rw [hes]; exact up_sg ss
  have hud : Up0 ds := by rw [hds]; exact up_gr gs
  have hul : Up0 ls' := by rw [hls]; exact up_map (f := liRow) (fun d => rfl) ls
  have hel : es.length = ss.length := by rw [hes]; simp
  have hll : ls'.length = ls.length := by rw [hls]; simp
  (refine PCalls.ofY Try.func35 (by kernel_rfl) (by kernel_rfl) fun w hw R hR => ?_); (obtain ⟨wbin, wcmp, wun, wconv, wnot, wbeq, wmm, wscmp, wsadd, wslen, wsat, weqs, wlen, wnlen, wofNat, wtake, wdrop, wapp, wzero, wnat⟩ := w); (have hbin : wbin = binStd := congrArg Prims.bin hw); (have hcmp : wcmp = cmpStd := congrArg Prims.cmp hw); (have hun : wun = unStd := congrArg Prims.un hw); (have hconv : wconv = fun k n => k.wrap n := congrArg Prims.conv hw); (have hnot : wnot = fun b => !b := congrArg Prims.not hw); (have hbeq : wbeq = fun a b => a == b := congrArg Prims.beq hw); (have hmm : wmm = maxI := congrArg Prims.mm hw); (have hscmp : wscmp = scmpStd := congrArg Prims.scmp hw); (have hsadd : wsadd = fun x y => x ++ y := congrArg Prims.sadd hw); (have hslen : wslen = fun s => (s.size : Int) := congrArg Prims.slen hw); (have hsat : wsat = std.sat := congrArg Prims.sat hw); (have heqs : weqs = fun a b os => (eqOffs a b os).getD false := congrArg Prims.eqs hw); (have hlen : wlen = fun es => (es.length : Int) := congrArg Prims.len hw); (have hnlen : wnlen = fun es => es.length := congrArg Prims.nlen hw); (have hofNat : wofNat = (fun n : Nat => (n : Int)) := congrArg Prims.ofNat hw); (have htake : wtake = fun es b => es.take b.toNat := congrArg Prims.take hw); (have hdrop : wdrop = fun es a => es.drop a.toNat := congrArg Prims.drop hw); (have happ : wapp = fun a b => a ++ b := congrArg Prims.app hw); (have hzero : wzero = fun n z => List.replicate n.toNat z := congrArg Prims.zero hw); (have hnat : wnat = fun n => n.toNat := congrArg Prims.nat hw); (conv => arg 2; cbv); (generalize hP : Try.prog = P); cbv
  (obtain ⟨L, eL, L0, Ln⟩ : ∃ L : Int, wlen ls' = L ∧ 0 ≤ L ∧ L.toNat = ls'.length := ⟨(ls'.length : Int), by rw [hlen], Int.natCast_nonneg _, Int.toNat_natCast _⟩)
  (obtain ⟨J, eJ, J0, Jn⟩ : ∃ L : Int, wlen es = L ∧ 0 ≤ L ∧ L.toNat = es.length := ⟨(es.length : Int), by rw [hlen], Int.natCast_nonneg _, Int.toNat_natCast _⟩)
  have fin : ∀ e i : Int, ChkIs ss ls e i → R (.tuple [.int .i64 e, .int .i64 i]) := fun e i h => hR _ ⟨_, _, rfl, h⟩
  (split <;> rename_i h1 <;> (try (simp only [eL] at h1)) <;> (try (simp only [hbin, hcmp, hun, hconv, hnot, hbeq, hmm, hscmp, hsadd, hslen, hsat, heqs, hofNat, binStd, cmpStd, unStd, scmpStd, maxI, Bool.not_eq_true', Bool.not_eq_false', decide_eq_true_eq, decide_eq_false_iff_not, Int.not_lt, Int.not_le, if_true, if_false, Bool.false_eq_true, beq_iff_eq, bne_iff_ne, ne_eq, Bool.not_eq_eq_eq_not, Bool.not_true, Bool.not_false, beq_eq_false_iff_ne, bne_eq_false_iff_eq, Int.ofNat_eq_natCast, Bool.not_not, not_true_eq_false, not_false_eq_true, reduceCtorEq] at h1)) <;> (try cbv))
  · exact ⟨_, Vw.same rfl, fin _ _ (.inl ⟨by omega, rfl, rfl⟩)⟩
  have h400 : ls.length ≤ 400 := by omega
  refine Loop.data hw (S := Int) (fun i => fr 78 [(1, .list 4 ls'), (2, .ref 0 2 0 0), (11, .list 4 ls'), (12, .int .i64 L), (13, .int .i64 i)]) (fun i => [.live 2 [[.list 3 es, .list 5 ds]]]) (fun i => 0 ≤ i ∧ i ≤ L ∧ ∀ j, j < i.toNat → ¬ RB ss ls j ∧ ¬ OB ls j) (fun i => (L - i).toNat) 0 (by (refine Wk.eqz (id) (by first | exact fun i _ j _ e => e | (simp only [List.length_cons, List.length_nil]; decide)) ?_; cbv; (repeat' (first | exact trivial | rfl | assumption | apply And.intro | (simp only [hbin, hcmp, hun, hconv, hnot, hbeq, hmm, hscmp, hsadd, hslen, hsat, heqs, hofNat, binStd, cmpStd, unStd, scmpStd, maxI, Bool.not_eq_true', Bool.not_eq_false', decide_eq_true_eq, decide_eq_false_iff_not, Int.not_lt, Int.not_le, if_true, if_false, Bool.false_eq_true, beq_iff_eq, bne_iff_ne, ne_eq, Bool.not_eq_eq_eq_not, Bool.not_true, Bool.not_false, beq_eq_false_iff_ne, bne_eq_false_iff_eq, Int.ofNat_eq_natCast, Bool.not_not, not_true_eq_false, not_false_eq_true, reduceCtorEq]; first | done | assumption) | exact RowsZ.same (by assumption) (by first | assumption | rfl) | exact FzL.mk rfl rfl rfl (by assumption) (by first | assumption | rfl) (by decide) | (refine RowsZ.one ?_; cbv))))) ⟨Int.le_refl _, L0, fun j hj => (by simp at hj)⟩ ?_
  rintro i hinv Q' hN hE hR'
  have hinv : 0 ≤ i ∧ i ≤ L ∧ ∀ j, j < i.toNat → ¬ RB ss ls j ∧ ¬ OB ls j := hinv
  cbv
  obtain ⟨hi0, hi1, hl⟩ := hinv
  (split <;> rename_i hc <;> (try (simp only [eL] at hc)) <;> (try (simp only [hbin, hcmp, hun, hconv, hnot, hbeq, hmm, hscmp, hsadd, hslen, hsat, heqs, hofNat, binStd, cmpStd, unStd, scmpStd, maxI, Bool.not_eq_true', Bool.not_eq_false', decide_eq_true_eq, decide_eq_false_iff_not, Int.not_lt, Int.not_le, if_true, if_false, Bool.false_eq_true, beq_iff_eq, bne_iff_ne, ne_eq, Bool.not_eq_eq_eq_not, Bool.not_true, Bool.not_false, beq_eq_false_iff_ne, bne_eq_false_iff_eq, Int.ofNat_eq_natCast, Bool.not_not, not_true_eq_false, not_false_eq_true, reduceCtorEq] at hc)) <;> (try cbv))
  · obtain ⟨⟨s, a, b, v⟩, hd, hrow⟩ := get_map (f := liRow) (ds := ls) (i := i) hi0 (by omega)
    have hrow : ls'[i.toNat]? = some [.int .i64 s, .int .i64 a, .int .i64 b, .int .i64 v] := by rw [hls]; exact hrow
    obtain ⟨i', ei'⟩ : ∃ x, i + 1 = x := ⟨_, rfl⟩
    obtain ⟨im, eim⟩ : ∃ x, i - 1 = x := ⟨_, rfl⟩
    have ei : wbin .add .i64 i 1 = i' := by rw [hbin, i_add (by omega) (by omega)]; exact ei'
    have em : wbin .sub .i64 i 1 = im := by rw [hbin, i_sub (by omega) (by omega)]; exact eim
    have hT : (L - i').toNat < (L - i).toNat := by omega
    obtain ⟨s', a', b', v', hp'⟩ : ∃ s' a' b' v', Fct (0 < i → 0 ≤ im ∧ ls[i.toNat - 1]? = some ⟨s', a', b', v'⟩ ∧ ls'[im.toNat]? = some [.int .i64 s', .int .i64 a', .int .i64 b', .int .i64 v']) := by
      by_cases h : 0 < i
      · obtain ⟨⟨s', a', b', v'⟩, k1, k2⟩ := get_map (f := liRow) (ds := ls) (i := im) (by omega) (by omega)
        exact ⟨s', a', b', v', ⟨fun _ => ⟨by omega, by rw [← k1]; congr 1; omega, by rw [hls]; exact k2⟩⟩⟩
      · exact ⟨0, 0, 0, 0, ⟨fun h' => absurd h' h⟩⟩
    have hJ : J.toNat = ss.length ∧ 0 ≤ J := ⟨by omega, J0⟩
    obtain ⟨len, q1, n1, sg, hrs⟩ : ∃ (len : Int) (q1 n1 : List (List AV)) (sg : Sg), Fct (0 ≤ s ∧ s < J → es[s.toNat]? = some [.int .i64 len, .list 2 q1, .list 1 n1] ∧ ss[s.toNat]? = some sg ∧ sg.len = len) := by
      by_cases h : 0 ≤ s ∧ s < J
      · obtain ⟨⟨len, ps, nx⟩, k1, k2⟩ := get_map (f := sgRow) (ds := ss) (i := s) h.1 (by omega)
        exact ⟨len, _, _, _, ⟨fun _ => ⟨by rw [hes]; exact k2, k1, rfl⟩⟩⟩
      · exact ⟨0, [], [], ⟨0, [], []⟩, ⟨fun h' => absurd h' h⟩⟩
    have bad : ¬ (0 ≤ s ∧ s < J ∧ 0 ≤ a ∧ a ≤ b ∧ b ≤ len ∧ 0 ≤ v ∧ v ≤ 16777216) → RB ss ls i.toNat := fun hn => rb_of hd hrs.h hJ hn
    have good : (0 ≤ s ∧ s < J ∧ 0 ≤ a ∧ a ≤ b ∧ b ≤ len ∧ 0 ≤ v ∧ v ≤ 16777216) → ¬ RB ss ls i.toNat := fun hn => not_rb hd hrs.h hJ hn
    have obad : 0 < i → (s < s' ∨ s = s' ∧ a < a') → OB ls i.toNat := fun hp h => ⟨_, _, pos_nat hp, hd, (hp'.h hp).2.1, h⟩
    have ogood : (0 < i → ¬ (s < s' ∨ s = s' ∧ a < a')) → ¬ OB ls i.toNat := fun h => not_ob hd (fun hp => (hp'.h (pos_of hi0 hp)).2.1) (fun hp => h (pos_of hi0 hp))
    have f10 : ¬ (0 ≤ s ∧ s < J ∧ 0 ≤ a ∧ a ≤ b ∧ b ≤ len ∧ 0 ≤ v ∧ v ≤ 16777216) → R (.tuple [.int .i64 10, .int .i64 i]) := fun h => fin _ _ (.inr ⟨h400, .inr ⟨i.toNat, rfl, hi0, hl, .inl ⟨bad h, rfl⟩⟩⟩)
    have f11 : (0 ≤ s ∧ s < J ∧ 0 ≤ a ∧ a ≤ b ∧ b ≤ len ∧ 0 ≤ v ∧ v ≤ 16777216) → 0 < i → (s < s' ∨ s = s' ∧ a < a') → R (.tuple [.int .i64 11, .int .i64 i]) := fun h hp ho => fin _ _ (.inr ⟨h400, .inr ⟨i.toNat, rfl, hi0, hl, .inr ⟨good h, obad hp ho, rfl⟩⟩⟩)
    have next : (0 ≤ s ∧ s < J ∧ 0 ≤ a ∧ a ≤ b ∧ b ≤ len ∧ 0 ≤ v ∧ v ≤ 16777216) → (0 < i → ¬ (s < s' ∨ s = s' ∧ a < a')) → ∀ j, j < i'.toNat → ¬ RB ss ls j ∧ ¬ OB ls j := by
      intro h ho
      rw [← ei']
      exact all_step hi0 hl ⟨good h, ogood ho⟩
    obtain ⟨z, ez⟩ : ∃ z, (if cmpZ s' s = 0 then cmpZ a' a else cmpZ s' s) = z := ⟨_, rfl⟩
    have hz : 0 < z ↔ (s < s' ∨ s = s' ∧ a < a') := by rw [← ez]; exact cmp_pos
    have eo : PCalls Try.prog 52 [.agg [.int .i64 s', .int .i64 a', .int .i64 b', .int .i64 v'], .agg [.int .i64 s, .int .i64 a, .int .i64 b, .int .i64 v]] (· = .int .i64 z) := by rw [← ez]; exact e_order s' a' b' v' s a b v
    repeat' (first
      | (refine hR' _ _ ⟨_, Vw.same rfl, f10 ?_⟩; clear hN hE hR' hR; omega)
      | (refine hR' _ _ ⟨_, Vw.same rfl, f11 ?_ ?_ ?_⟩ <;> (clear hN hE hR' hR; omega))
      | (refine Idx.mk [.int .i64 s, .int .i64 a, .int .i64 b, .int .i64 v] hi0 hrow ?_; cbv)
      | (refine Idx.mk [.int .i64 len, .list 2 q1, .list 1 n1] (by assumption) (hrs.h ⟨by assumption, by assumption⟩).1 ?_; cbv)
      | (simp only [em]; refine Idx.mk [.int .i64 s', .int .i64 a', .int .i64 b', .int .i64 v'] (hp'.h (by assumption)).1 (hp'.h (by assumption)).2.2 ?_; cbv)
      | (refine QCal.stepE (by rw [← hP]; exact eo) rfl ?_; cbv)
      | (split <;> rename_i h <;> (try (simp only [eJ] at h)) <;> (try (simp only [hbin, hcmp, hun, hconv, hnot, hbeq, hmm, hscmp, hsadd, hslen, hsat, heqs, hofNat, binStd, cmpStd, unStd, scmpStd, maxI, Bool.not_eq_true', Bool.not_eq_false', decide_eq_true_eq, decide_eq_false_iff_not, Int.not_lt, Int.not_le, if_true, if_false, Bool.false_eq_true, beq_iff_eq, bne_iff_ne, ne_eq, Bool.not_eq_eq_eq_not, Bool.not_true, Bool.not_false, beq_eq_false_iff_ne, bne_eq_false_iff_eq, Int.ofNat_eq_natCast, Bool.not_not, not_true_eq_false, not_false_eq_true, reduceCtorEq] at h)) <;> (try cbv)))
    all_goals
      refine hN i' _ _ ?hx ?hi hT
      case hx => (refine Wk.eqz (id) (by first | exact fun i _ j _ e => e | (simp only [List.length_cons, List.length_nil]; decide)) ?_; cbv; (repeat' (first | exact trivial | rfl | assumption | apply And.intro | (simp only [hbin, hcmp, hun, hconv, hnot, hbeq, hmm, hscmp, hsadd, hslen, hsat, heqs, hofNat, binStd, cmpStd, unStd, scmpStd, maxI, Bool.not_eq_true', Bool.not_eq_false', decide_eq_true_eq, decide_eq_false_iff_not, Int.not_lt, Int.not_le, if_true, if_false, Bool.false_eq_true, beq_iff_eq, bne_iff_ne, ne_eq, Bool.not_eq_eq_eq_not, Bool.not_true, Bool.not_false, beq_eq_false_iff_ne, bne_eq_false_iff_eq, Int.ofNat_eq_natCast, Bool.not_not, not_true_eq_false, not_false_eq_true, reduceCtorEq]; first | done | assumption) | exact RowsZ.same (by assumption) (by first | assumption | rfl) | exact FzL.mk rfl rfl rfl (by assumption) (by first | assumption | rfl) (by decide) | (refine RowsZ.one ?_; cbv))))
      case hi => exact ⟨by omega, by omega, next ⟨by omega, by omega, by omega, by omega, by omega, by omega, by omega⟩ (by omega)⟩
  · refine hE _ _ _ ?_
    cbv
    exact ⟨_, Vw.same rfl, fin _ _ (.inr ⟨h400, .inl ⟨fun j hj => hl j (by omega), rfl, rfl⟩⟩)⟩
end Go.Proofs.Ytkkjdodolnpfmaa
