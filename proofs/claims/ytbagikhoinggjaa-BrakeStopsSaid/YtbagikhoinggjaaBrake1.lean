/- The document's root and permitted speed, by the engine. -/
import Derived.Test.YtbagikhoinggjaaBrake0
import Derived.Test.YtbagikhoinggjaaConf1
import Derived.KernelRfl
set_option linter.unusedVariables false
set_option linter.unusedSimpArgs false
namespace Go.Proofs.Ytbagikhoinggjaa
open Go Go.RowKit Go.Eng
set_option maxRecDepth 100000
structure Bs where
  lo : Int
  hi : Int
def BsOk (x m lo hi : Int) : Prop := 0 ≤ lo ∧ lo ≤ hi ∧ hi ≤ m ∧ lo * lo ≤ x ∧ (hi = m ∨ x < (hi + 1) * (hi + 1))
theorem e_root22 {x m v : Int} (hx : 0 ≤ x) (hm0 : 0 ≤ m) (hm1 : m ≤ 16777216) (hv : PermIs x m v) : PCalls Try.prog 33 [.int .i64 x, .int .i64 m] (· = .int .i64 v) := by
  (refine PCalls.ofY Try.func33 (by kernel_rfl) (by kernel_rfl) fun w hw R hR => ?_); (obtain ⟨wbin, wcmp, wun, wconv, wnot, wbeq, wmm, wscmp, wsadd, wslen, wsat, weqs, wlen, wnlen, wofNat, wtake, wdrop, wapp, wzero, wnat⟩ := w); (have hbin : wbin = binStd := congrArg Prims.bin hw); (have hcmp : wcmp = cmpStd := congrArg Prims.cmp hw); (have hun : wun = unStd := congrArg Prims.un hw); (have hconv : wconv = fun k n => k.wrap n := congrArg Prims.conv hw); (have hnot : wnot = fun b => !b := congrArg Prims.not hw); (have hbeq : wbeq = fun a b => a == b := congrArg Prims.beq hw); (have hmm : wmm = maxI := congrArg Prims.mm hw); (have hscmp : wscmp = scmpStd := congrArg Prims.scmp hw); (have hsadd : wsadd = fun x y => x ++ y := congrArg Prims.sadd hw); (have hslen : wslen = fun s => (s.size : Int) := congrArg Prims.slen hw); (have hsat : wsat = std.sat := congrArg Prims.sat hw); (have heqs : weqs = fun a b os => (eqOffs a b os).getD false := congrArg Prims.eqs hw); (have hlen : wlen = fun es => (es.length : Int) := congrArg Prims.len hw); (have hnlen : wnlen = fun es => es.length := congrArg Prims.nlen hw); (have hofNat : wofNat = (fun n : Nat => (n : Int)) := congrArg Prims.ofNat hw); (have htake : wtake = fun es b => es.take b.toNat := congrArg Prims.take hw); (have hdrop : wdrop = fun es a => es.drop a.toNat := congrArg Prims.drop hw); (have happ : wapp = fun a b => a ++ b := congrArg Prims.app hw); (have hzero : wzero = fun n z => List.replicate n.toNat z := congrArg Prims.zero hw); (have hnat : wnat = fun n => n.toNat := congrArg Prims.nat hw); (conv => arg 2; cbv); (generalize hP : Try.prog = P); cbv
  refine Loop.data hw (S := Bs) (fun s => fr 26 [(0, .int .i64 x), (5, .int .i64 s.lo), (6, .int .i64 s.hi)]) (fun s => []) (fun s => BsOk x m s.lo s.hi) (fun s => (s.hi - s.lo).toNat) ⟨0, m⟩ (by (refine Wk.eqs ?_; cbv; (repeat' (first | exact trivial | rfl | assumption | apply And.intro | (simp only [hbin, hcmp, hun, hconv, hnot, hbeq, hmm, hscmp, hsadd, hslen, hsat, heqs, hofNat, binStd, cmpStd, unStd, scmpStd, maxI, Bool.not_eq_true', Bool.not_eq_false', decide_eq_true_eq, decide_eq_false_iff_not, Int.not_lt, Int.not_le, if_true, if_false, Bool.false_eq_true, beq_iff_eq, bne_iff_ne, ne_eq, Bool.not_eq_eq_eq_not, Bool.not_true, Bool.not_false, beq_eq_false_iff_ne, bne_eq_false_iff_eq, Int.ofNat_eq_natCast, Bool.not_not, not_true_eq_false, not_false_eq_true, reduceCtorEq]; first | done | assumption) | exact RowsX.same (by assumption) (by first | assumption | rfl) | (refine RowsX.one ?_; cbv))))) ⟨Int.le_refl _, hm0, Int.le_refl _, by simpa using hx, .inl rfl⟩ ?_
  rintro ⟨lo, hi⟩ hinv Q' hN hE hR'
  have hinv : BsOk x m lo hi := hinv
  cbv
  obtain ⟨h0, h1, h2, h3, h4⟩ := hinv
  (split <;> rename_i hc <;> (try (simp only [hbin, hcmp, hun, hconv, hnot, hbeq, hmm, hscmp, hsadd, hslen, hsat, heqs, hofNat, binStd, cmpStd, unStd, scmpStd, maxI, Bool.not_eq_true', Bool.not_eq_false', decide_eq_true_eq, decide_eq_false_iff_not, Int.not_lt, Int.not_le, if_true, if_false, Bool.false_eq_true, beq_iff_eq, bne_iff_ne, ne_eq, Bool.not_eq_eq_eq_not, Bool.not_true, Bool.not_false, beq_eq_false_iff_ne, bne_eq_false_iff_eq, Int.ofNat_eq_natCast, Bool.not_not, not_true_eq_false, not_false_eq_true, reduceCtorEq] at hc)) <;> (try cbv))
  · obtain ⟨mid, emid⟩ : ∃ y, (lo + hi + 1) / 2 = y := ⟨_, rfl⟩
    have e3 : wbin .quo .i64 (wbin .add .i64 (wbin .add .i64 lo hi) 1) 2 = mid := by
      rw [hbin, i_add (a := lo) (by omega) (by omega), i_add (by omega) (by omega), i_quo (by omega) (by decide) (by omega)]; exact emid
    have hq0 : 0 ≤ mid * mid := Int.mul_nonneg (by omega) (by omega)
    have hq1 : mid * mid ≤ 16777216 * 16777216 := Int.mul_le_mul (by omega) (by omega) (by omega) (by decide)
    obtain ⟨q, eq⟩ : ∃ y, mid * mid = y := ⟨_, rfl⟩
    have e4 : wbin .mul .i64 mid mid = q := by rw [hbin, i_mul (by omega) (by omega)]; exact eq
    obtain ⟨md, emd⟩ : ∃ y, mid - 1 = y := ⟨_, rfl⟩
    have e5 : wbin .sub .i64 mid 1 = md := by rw [hbin, i_sub (by omega) (by omega)]; exact emd
    refine Nz.mk (by decide) ?_
    simp only [e3, e4]
    (split <;> rename_i h <;> (try (simp only [e3, e4] at h)) <;> (try (simp only [hbin, hcmp, hun, hconv, hnot, hbeq, hmm, hscmp, hsadd, hslen, hsat, heqs, hofNat, binStd, cmpStd, unStd, scmpStd, maxI, Bool.not_eq_true', Bool.not_eq_false', decide_eq_true_eq, decide_eq_false_iff_not, Int.not_lt, Int.not_le, if_true, if_false, Bool.false_eq_true, beq_iff_eq, bne_iff_ne, ne_eq, Bool.not_eq_eq_eq_not, Bool.not_true, Bool.not_false, beq_eq_false_iff_ne, bne_eq_false_iff_eq, Int.ofNat_eq_natCast, Bool.not_not, not_true_eq_false, not_false_eq_true, reduceCtorEq] at h)) <;> (try cbv))
    · have hT : (md - lo).toNat < (hi - lo).toNat := by omega
      simp only [e3, e5]
      (refine hN ⟨lo, md⟩ _ _ ?hx ?hi ?ht; (case hx => (refine Wk.eqs ?_; cbv; (repeat' (first | exact trivial | rfl | assumption | apply And.intro | (simp only [hbin, hcmp, hun, hconv, hnot, hbeq, hmm, hscmp, hsadd, hslen, hsat, heqs, hofNat, binStd, cmpStd, unStd, scmpStd, maxI, Bool.not_eq_true', Bool.not_eq_false', decide_eq_true_eq, decide_eq_false_iff_not, Int.not_lt, Int.not_le, if_true, if_false, Bool.false_eq_true, beq_iff_eq, bne_iff_ne, ne_eq, Bool.not_eq_eq_eq_not, Bool.not_true, Bool.not_false, beq_eq_false_iff_ne, bne_eq_false_iff_eq, Int.ofNat_eq_natCast, Bool.not_not, not_true_eq_false, not_false_eq_true, reduceCtorEq]; first | done | assumption) | exact RowsX.same (by assumption) (by first | assumption | rfl) | (refine RowsX.one ?_; cbv))))); (case hi => (exact ⟨h0, by simp only; omega, by simp only; omega, h3, .inr (by simp only; rw [← emd, show mid - 1 + 1 = mid by omega, eq]; exact h)⟩)); (case ht => exact hT))
    · have hT : (hi - mid).toNat < (hi - lo).toNat := by omega
      (refine hN ⟨mid, hi⟩ _ _ ?hx ?hi ?ht; (case hx => (refine Wk.eqs ?_; cbv; (repeat' (first | exact trivial | rfl | assumption | apply And.intro | (simp only [hbin, hcmp, hun, hconv, hnot, hbeq, hmm, hscmp, hsadd, hslen, hsat, heqs, hofNat, binStd, cmpStd, unStd, scmpStd, maxI, Bool.not_eq_true', Bool.not_eq_false', decide_eq_true_eq, decide_eq_false_iff_not, Int.not_lt, Int.not_le, if_true, if_false, Bool.false_eq_true, beq_iff_eq, bne_iff_ne, ne_eq, Bool.not_eq_eq_eq_not, Bool.not_true, Bool.not_false, beq_eq_false_iff_ne, bne_eq_false_iff_eq, Int.ofNat_eq_natCast, Bool.not_not, not_true_eq_false, not_false_eq_true, reduceCtorEq]; first | done | assumption) | exact RowsX.same (by assumption) (by first | assumption | rfl) | (refine RowsX.one ?_; cbv))))); (case hi => (exact ⟨by simp only; omega, by simp only; omega, h2, by simp only; omega, h4⟩)); (case ht => exact hT))
  · refine hE _ _ _ ?_
    cbv
    refine ⟨_, Vw.same rfl, hR _ (congrArg (AV.int .i64) ?_)⟩
    have : lo = hi := by omega
    subst this
    exact (perm_eq hv ⟨h0, h2, h3, h4⟩).symm
theorem e_perm22 {b f m v : Int} (hb0 : 1 ≤ b) (hb1 : b ≤ 1048576) (hm0 : 0 ≤ m) (hm1 : m ≤ 16777216) (hf1 : f ≤ 9223372036854775807) (hf0 : -9223372036854775808 ≤ f) (hv : PermIs (2 * b * maxZ f) m v) : PCalls Try.prog 16 [.int .i64 b, .int .i64 f, .int .i64 m] (· = .int .i64 v) := by
  (refine PCalls.ofY Try.func16 (by kernel_rfl) (by kernel_rfl) fun w hw R hR => ?_); (obtain ⟨wbin, wcmp, wun, wconv, wnot, wbeq, wmm, wscmp, wsadd, wslen, wsat, weqs, wlen, wnlen, wofNat, wtake, wdrop, wapp, wzero, wnat⟩ := w); (have hbin : wbin = binStd := congrArg Prims.bin hw); (have hcmp : wcmp = cmpStd := congrArg Prims.cmp hw); (have hun : wun = unStd := congrArg Prims.un hw); (have hconv : wconv = fun k n => k.wrap n := congrArg Prims.conv hw); (have hnot : wnot = fun b => !b := congrArg Prims.not hw); (have hbeq : wbeq = fun a b => a == b := congrArg Prims.beq hw); (have hmm : wmm = maxI := congrArg Prims.mm hw); (have hscmp : wscmp = scmpStd := congrArg Prims.scmp hw); (have hsadd : wsadd = fun x y => x ++ y := congrArg Prims.sadd hw); (have hslen : wslen = fun s => (s.size : Int) := congrArg Prims.slen hw); (have hsat : wsat = std.sat := congrArg Prims.sat hw); (have heqs : weqs = fun a b os => (eqOffs a b os).getD false := congrArg Prims.eqs hw); (have hlen : wlen = fun es => (es.length : Int) := congrArg Prims.len hw); (have hnlen : wnlen = fun es => es.length := congrArg Prims.nlen hw); (have hofNat : wofNat = (fun n : Nat => (n : Int)) := congrArg Prims.ofNat hw); (have htake : wtake = fun es b => es.take b.toNat := congrArg Prims.take hw); (have hdrop : wdrop = fun es a => es.drop a.toNat := congrArg Prims.drop hw); (have happ : wapp = fun a b => a ++ b := congrArg Prims.app hw); (have hzero : wzero = fun n z => List.replicate n.toNat z := congrArg Prims.zero hw); (have hnat : wnat = fun n => n.toNat := congrArg Prims.nat hw); (conv => arg 2; cbv); (generalize hP : Try.prog = P); cbv
  obtain ⟨b2, eb2⟩ : ∃ x, 2 * b = x := ⟨_, rfl⟩
  obtain ⟨q, eq⟩ : ∃ x, 281474976710656 / b2 = x := ⟨_, rfl⟩
  obtain ⟨g, eg⟩ : ∃ x, maxZ f = x := ⟨_, rfl⟩
  have hg : 0 ≤ g ∧ g ≤ 9223372036854775807 ∧ (0 ≤ f → g = f) ∧ (f < 0 → g = 0) := by rw [← eg]; unfold maxZ; split <;> omega
  have e1 : wbin .mul .i64 2 b = b2 := by rw [hbin, i_mul (by omega) (by omega)]; exact eb2
  have e2 : wbin .quo .i64 281474976710656 b2 = q := by rw [hbin, i_quo (by decide) (by omega) (by decide)]; exact eq
  have e3 : wmm true f 0 = g := by rw [hmm, ← eg]; simp only [maxI, maxZ, if_true]
  have q1 : q * b2 ≤ 281474976710656 := by rw [← eq]; exact Int.ediv_mul_le _ (by omega)
  have q2 : 281474976710656 < (q + 1) * b2 := by rw [← eq]; exact Int.lt_ediv_add_one_mul_self _ (by omega)
  have q3 : 0 ≤ q := by rw [← eq]; exact Int.ediv_nonneg (by decide) (by omega)
  rw [eb2, eg] at hv
  simp only [e1]
  refine Nz.mk (by omega) ?_
  simp only [e2]
  (split <;> rename_i h <;> (try (simp only [e1, e2] at h)) <;> (try (simp only [hbin, hcmp, hun, hconv, hnot, hbeq, hmm, hscmp, hsadd, hslen, hsat, heqs, hofNat, binStd, cmpStd, unStd, scmpStd, maxI, Bool.not_eq_true', Bool.not_eq_false', decide_eq_true_eq, decide_eq_false_iff_not, Int.not_lt, Int.not_le, if_true, if_false, Bool.false_eq_true, beq_iff_eq, bne_iff_ne, ne_eq, Bool.not_eq_eq_eq_not, Bool.not_true, Bool.not_false, beq_eq_false_iff_ne, bne_eq_false_iff_eq, Int.ofNat_eq_natCast, Bool.not_not, not_true_eq_false, not_false_eq_true, reduceCtorEq] at h)) <;> (try cbv))
  · have hgq : g ≤ q := by omega
    have hX0 : 0 ≤ b2 * g := Int.mul_nonneg (by omega) hg.1
    have hX : b2 * g ≤ 281474976710656 := by
      have : b2 * g ≤ b2 * q := Int.mul_le_mul_of_nonneg_left hgq (by omega)
      rw [Int.mul_comm b2 q] at this
      omega
    obtain ⟨X, eX⟩ : ∃ x, b2 * g = x := ⟨_, rfl⟩
    have e4 : wbin .mul .i64 b2 g = X := by rw [hbin, i_mul (by omega) (by omega)]; exact eX
    rw [eX] at hv
    simp only [e1, e3, e4]
    refine Call.stepE (by rw [← hP]; exact e_root22 (by omega) hm0 hm1 hv) rfl ?_
    cbv
    exact ⟨_, Vw.same rfl, hR _ rfl⟩
  · have hgq : q + 1 ≤ g := by omega
    have hX : 281474976710656 < b2 * g := by
      have : b2 * (q + 1) ≤ b2 * g := Int.mul_le_mul_of_nonneg_left hgq (by omega)
      rw [Int.mul_comm b2 (q + 1)] at this
      omega
    obtain ⟨k0, k1, k2, k3⟩ := hv
    have hmm2 : v * v ≤ 16777216 * 16777216 := Int.mul_le_mul (by omega) (by omega) k0 (by decide)
    refine Call.stepE (by rw [← hP]; exact e_root22 (by decide) hm0 hm1 (v := v) ⟨k0, k1, by omega, by omega⟩) rfl ?_
    cbv
    exact ⟨_, Vw.same rfl, hR _ rfl⟩
theorem e_usual : PCalls Try.prog 30 [] (· = .agg [.int .i64 1024, .int .i64 131072, .int .i64 131072, .int .i64 0, .int .i64 0, .int .i64 0, .int .i64 1000, .int .i64 100, .int .i64 0, .int .i64 1, .int .i64 128, .int .i64 0, .int .i64 5, .int .i64 2]) := by
  (refine PCalls.ofY Try.func30 (by kernel_rfl) (by kernel_rfl) fun w hw R hR => ?_); (obtain ⟨wbin, wcmp, wun, wconv, wnot, wbeq, wmm, wscmp, wsadd, wslen, wsat, weqs, wlen, wnlen, wofNat, wtake, wdrop, wapp, wzero, wnat⟩ := w); (have hbin : wbin = binStd := congrArg Prims.bin hw); (have hcmp : wcmp = cmpStd := congrArg Prims.cmp hw); (have hun : wun = unStd := congrArg Prims.un hw); (have hconv : wconv = fun k n => k.wrap n := congrArg Prims.conv hw); (have hnot : wnot = fun b => !b := congrArg Prims.not hw); (have hbeq : wbeq = fun a b => a == b := congrArg Prims.beq hw); (have hmm : wmm = maxI := congrArg Prims.mm hw); (have hscmp : wscmp = scmpStd := congrArg Prims.scmp hw); (have hsadd : wsadd = fun x y => x ++ y := congrArg Prims.sadd hw); (have hslen : wslen = fun s => (s.size : Int) := congrArg Prims.slen hw); (have hsat : wsat = std.sat := congrArg Prims.sat hw); (have heqs : weqs = fun a b os => (eqOffs a b os).getD false := congrArg Prims.eqs hw); (have hlen : wlen = fun es => (es.length : Int) := congrArg Prims.len hw); (have hnlen : wnlen = fun es => es.length := congrArg Prims.nlen hw); (have hofNat : wofNat = (fun n : Nat => (n : Int)) := congrArg Prims.ofNat hw); (have htake : wtake = fun es b => es.take b.toNat := congrArg Prims.take hw); (have hdrop : wdrop = fun es a => es.drop a.toNat := congrArg Prims.drop hw); (have happ : wapp = fun a b => a ++ b := congrArg Prims.app hw); (have hzero : wzero = fun n z => List.replicate n.toNat z := congrArg Prims.zero hw); (have hnat : wnat = fun n => n.toNat := congrArg Prims.nat hw); (conv => arg 2; cbv); (generalize hP : Try.prog = P); cbv
  exact ⟨_, Vw.same rfl, hR _ rfl⟩
theorem e_anchor22 : PCalls Try.prog 13 [] (fun r => r = .bool true) := by
  (refine PCalls.ofY Try.func13 (by kernel_rfl) (by kernel_rfl) fun w hw R hR => ?_); (obtain ⟨wbin, wcmp, wun, wconv, wnot, wbeq, wmm, wscmp, wsadd, wslen, wsat, weqs, wlen, wnlen, wofNat, wtake, wdrop, wapp, wzero, wnat⟩ := w); (have hbin : wbin = binStd := congrArg Prims.bin hw); (have hcmp : wcmp = cmpStd := congrArg Prims.cmp hw); (have hun : wun = unStd := congrArg Prims.un hw); (have hconv : wconv = fun k n => k.wrap n := congrArg Prims.conv hw); (have hnot : wnot = fun b => !b := congrArg Prims.not hw); (have hbeq : wbeq = fun a b => a == b := congrArg Prims.beq hw); (have hmm : wmm = maxI := congrArg Prims.mm hw); (have hscmp : wscmp = scmpStd := congrArg Prims.scmp hw); (have hsadd : wsadd = fun x y => x ++ y := congrArg Prims.sadd hw); (have hslen : wslen = fun s => (s.size : Int) := congrArg Prims.slen hw); (have hsat : wsat = std.sat := congrArg Prims.sat hw); (have heqs : weqs = fun a b os => (eqOffs a b os).getD false := congrArg Prims.eqs hw); (have hlen : wlen = fun es => (es.length : Int) := congrArg Prims.len hw); (have hnlen : wnlen = fun es => es.length := congrArg Prims.nlen hw); (have hofNat : wofNat = (fun n : Nat => (n : Int)) := congrArg Prims.ofNat hw); (have htake : wtake = fun es b => es.take b.toNat := congrArg Prims.take hw); (have hdrop : wdrop = fun es a => es.drop a.toNat := congrArg Prims.drop hw); (have happ : wapp = fun a b => a ++ b := congrArg Prims.app hw); (have hzero : wzero = fun n z => List.replicate n.toNat z := congrArg Prims.zero hw); (have hnat : wnat = fun n => n.toNat := congrArg Prims.nat hw); (conv => arg 2; cbv); (generalize hP : Try.prog = P); cbv
  refine Call.stepE (by rw [← hP]; exact e_usual) rfl ?_
  cbv
  refine Call.stepE (by rw [← hP]; exact e_permitted (v := 10) (by decide) (by decide) (by decide) (by decide) (by decide) (by unfold PermIs maxZ; decide)) rfl ?_
  cbv
  refine ⟨_, Vw.same rfl, hR _ ?_⟩
  rw [hcmp]; rfl
end Go.Proofs.Ytbagikhoinggjaa
