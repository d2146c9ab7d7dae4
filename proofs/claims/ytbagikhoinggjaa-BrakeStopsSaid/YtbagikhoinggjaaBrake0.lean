/- Roots, and how fast a train may go, by the engine. -/
import Derived.Test.YtbagikhoinggjaaWide1
import Derived.Test.YtbagikhoinggjaaNums
import Derived.KernelRfl
set_option linter.unusedVariables false
set_option linter.unusedSimpArgs false
namespace Go.Proofs.Ytbagikhoinggjaa
open Go Go.RowKit Go.Eng
set_option maxRecDepth 100000
/-- The root of X. -/
def RootIs (X r : Int) : Prop := 0 ≤ r ∧ r * r ≤ X ∧ X < (r + 1) * (r + 1)
theorem root_ex (n : Nat) : ∃ r, RootIs n r := by
  induction n with
  | zero => exact ⟨0, by decide, by decide, by decide⟩
  | succ n ih =>
    obtain ⟨r, h0, h1, h2⟩ := ih
    by_cases h : (r + 1) * (r + 1) ≤ ((n + 1 : Nat) : Int)
    · refine ⟨r + 1, by omega, h, ?_⟩
      have : (r + 1 + 1) * (r + 1 + 1) = (r + 1) * (r + 1) + 2 * (r + 1) + 1 := by rw [Int.mul_add, Int.add_mul]; omega
      omega
    · exact ⟨r, h0, by omega, by omega⟩
theorem root_get {X : Int} (h : 0 ≤ X) : ∃ r, RootIs X r := by
  obtain ⟨n, rfl⟩ := Int.eq_ofNat_of_zero_le h
  exact root_ex n
theorem root_lt {X r b : Int} (h : RootIs X r) (hb : 0 ≤ b) (hX : X < b * b) : r < b := by
  obtain ⟨h0, h1, h2⟩ := h
  apply Int.lt_of_not_ge
  intro hge
  have : b * b ≤ r * r := Int.mul_le_mul hge hge hb (by omega)
  omega
theorem e_rroot {a b r : Int} (ha0 : 0 ≤ a) (ha1 : a < 9223372036854775808) (hb0 : 0 ≤ b) (hb1 : b < 9223372036854775808) (hr : RootIs (a * b) r) : PCalls Try.prog 32 [.int .i64 a, .int .i64 b] (· = .tuple [.int .i64 r, .int .i64 0]) := by
  (refine PCalls.ofY Try.func32 (by kernel_rfl) (by kernel_rfl) fun w hw R hR => ?_); (obtain ⟨wbin, wcmp, wun, wconv, wnot, wbeq, wmm, wscmp, wsadd, wslen, wsat, weqs, wlen, wnlen, wofNat, wtake, wdrop, wapp, wzero, wnat⟩ := w); (have hbin : wbin = binStd := congrArg Prims.bin hw); (have hcmp : wcmp = cmpStd := congrArg Prims.cmp hw); (have hun : wun = unStd := congrArg Prims.un hw); (have hconv : wconv = fun k n => k.wrap n := congrArg Prims.conv hw); (have hnot : wnot = fun b => !b := congrArg Prims.not hw); (have hbeq : wbeq = fun a b => a == b := congrArg Prims.beq hw); (have hmm : wmm = maxI := congrArg Prims.mm hw); (have hscmp : wscmp = scmpStd := congrArg Prims.scmp hw); (have hsadd : wsadd = fun x y => x ++ y := congrArg Prims.sadd hw); (have hslen : wslen = fun s => (s.size : Int) := congrArg Prims.slen hw); (have hsat : wsat = std.sat := congrArg Prims.sat hw); (have heqs : weqs = fun a b os => (eqOffs a b os).getD false := congrArg Prims.eqs hw); (have hlen : wlen = fun es => (es.length : Int) := congrArg Prims.len hw); (have hnlen : wnlen = fun es => es.length := congrArg Prims.nlen hw); (have hofNat : wofNat = (fun n : Nat => (n : Int)) := congrArg Prims.ofNat hw); (have htake : wtake = fun es b => es.take b.toNat := congrArg Prims.take hw); (have hdrop : wdrop = fun es a => es.drop a.toNat := congrArg Prims.drop hw); (have happ : wapp = fun a b => a ++ b := congrArg Prims.app hw); (have hzero : wzero = fun n z => List.replicate n.toNat z := congrArg Prims.zero hw); (have hnat : wnat = fun n => n.toNat := congrArg Prims.nat hw); (conv => arg 2; cbv); (generalize hP : Try.prog = P); cbv
  have hab0 : 0 ≤ a * b := Int.mul_nonneg ha0 hb0
  have hab1 : a * b ≤ 9223372036854775807 * 9223372036854775807 := Int.mul_le_mul (by omega) (by omega) hb0 (by decide)
  have hr1 : r < 9223372036854775808 := root_lt hr (by decide) (by omega)
  obtain ⟨h0, h1, h2⟩ := hr
  (split <;> rename_i h <;> (try (simp only [hbin, hcmp, hun, hconv, hnot, hbeq, hmm, hscmp, hsadd, hslen, hsat, heqs, hofNat, binStd, cmpStd, unStd, scmpStd, maxI, Bool.not_eq_true', Bool.not_eq_false', decide_eq_true_eq, decide_eq_false_iff_not, Int.not_lt, Int.not_le, if_true, if_false, Bool.false_eq_true, beq_iff_eq, bne_iff_ne, ne_eq, Bool.not_eq_eq_eq_not, Bool.not_true, Bool.not_false, beq_eq_false_iff_ne, bne_eq_false_iff_eq, Int.ofNat_eq_natCast, Bool.not_not, not_true_eq_false, not_false_eq_true, reduceCtorEq] at h)) <;> (try cbv))
  · exfalso; omega
  (split <;> rename_i h <;> (try (simp only [hbin, hcmp, hun, hconv, hnot, hbeq, hmm, hscmp, hsadd, hslen, hsat, heqs, hofNat, binStd, cmpStd, unStd, scmpStd, maxI, Bool.not_eq_true', Bool.not_eq_false', decide_eq_true_eq, decide_eq_false_iff_not, Int.not_lt, Int.not_le, if_true, if_false, Bool.false_eq_true, beq_iff_eq, bne_iff_ne, ne_eq, Bool.not_eq_eq_eq_not, Bool.not_true, Bool.not_false, beq_eq_false_iff_ne, bne_eq_false_iff_eq, Int.ofNat_eq_natCast, Bool.not_not, not_true_eq_false, not_false_eq_true, reduceCtorEq] at h)) <;> (try cbv))
  · exfalso; omega
  have ca : wconv .u64 a = a := by rw [hconv]; show IntKind.u64.wrap a = a; rw [IntKind.wrap_u64]; omega
  have cb : wconv .u64 b = b := by rw [hconv]; show IntKind.u64.wrap b = b; rw [IntKind.wrap_u64]; omega
  have cr : wconv .i64 r = r := by rw [hconv]; show IntKind.i64.wrap r = r; rw [IntKind.wrap_i64]; omega
  simp only [ca, cb]
  obtain ⟨mh, emh⟩ : ∃ x, a * b / 18446744073709551616 = x := ⟨_, rfl⟩
  obtain ⟨ml, eml⟩ : ∃ x, a * b % 18446744073709551616 = x := ⟨_, rfl⟩
  refine Call.stepE (by rw [← hP]; exact e_mul ha0 (by omega) hb0 (by omega) emh eml) rfl ?_
  cbv
  have em : mh * 18446744073709551616 + ml = a * b := by omega
  refine Call.stepE (by rw [← hP]; exact e_root _ _ r (by omega) (by omega) (by omega) (by omega) h0 (by omega) (by omega)) rfl ?_
  cbv
  refine ⟨_, Vw.same rfl, hR _ ?_⟩
  show AV.tuple _ = AV.tuple _
  rw [cr]
/-- The greatest speed up to m whose square isn't above X. -/
def PermIs (X m v : Int) : Prop := 0 ≤ v ∧ v ≤ m ∧ v * v ≤ X ∧ (v = m ∨ X < (v + 1) * (v + 1))
theorem perm_le {X Y m v u : Int} (h : PermIs X m v) (k : PermIs Y m u) (hXY : X ≤ Y) : v ≤ u := by
  obtain ⟨h0, h1, h2, h3⟩ := h
  obtain ⟨k0, k1, k2, k3⟩ := k
  refine Int.not_lt.1 fun hlt => ?_
  rcases k3 with k3 | k3
  · omega
  · have : (u + 1) * (u + 1) ≤ v * v := Int.mul_le_mul hlt hlt (by omega) (by omega)
    omega
theorem perm_eq {X m v u : Int} (h : PermIs X m v) (k : PermIs X m u) : v = u := by
  have := perm_le h k (Int.le_refl _)
  have := perm_le k h (Int.le_refl _)
  omega
theorem perm_of_root {X m r : Int} (hm : 0 ≤ m) (h : RootIs X r) : PermIs X m (if m < r then m else r) := by
  obtain ⟨h0, h1, h2⟩ := h
  split
  · rename_i hlt
    refine ⟨hm, by omega, ?_, .inl rfl⟩
    have : m * m ≤ r * r := Int.mul_le_mul (by omega) (by omega) hm h0
    omega
  · exact ⟨h0, by omega, h1, .inr h2⟩
def maxZ (f : Int) : Int := if f < 0 then 0 else f
theorem e_permitted {c0 c1 c2 c3 c4 c5 c6 c7 c8 c9 c10 c11 c12 c13 f v : Int} (hb0 : 1 ≤ c13) (hb1 : c13 ≤ 1048576) (hm : 0 ≤ c6) (hf1 : f ≤ 9223372036854775807) (hf0 : -9223372036854775808 ≤ f) (hv : PermIs (2 * c13 * maxZ f) c6 v) : PCalls Try.prog 15 [.agg [.int .i64 c0, .int .i64 c1, .int .i64 c2, .int .i64 c3, .int .i64 c4, .int .i64 c5, .int .i64 c6, .int .i64 c7, .int .i64 c8, .int .i64 c9, .int .i64 c10, .int .i64 c11, .int .i64 c12, .int .i64 c13], .int .i64 f] (· = .int .i64 v) := by
  (refine PCalls.ofY Try.func15 (by kernel_rfl) (by kernel_rfl) fun w hw R hR => ?_); (obtain ⟨wbin, wcmp, wun, wconv, wnot, wbeq, wmm, wscmp, wsadd, wslen, wsat, weqs, wlen, wnlen, wofNat, wtake, wdrop, wapp, wzero, wnat⟩ := w); (have hbin : wbin = binStd := congrArg Prims.bin hw); (have hcmp : wcmp = cmpStd := congrArg Prims.cmp hw); (have hun : wun = unStd := congrArg Prims.un hw); (have hconv : wconv = fun k n => k.wrap n := congrArg Prims.conv hw); (have hnot : wnot = fun b => !b := congrArg Prims.not hw); (have hbeq : wbeq = fun a b => a == b := congrArg Prims.beq hw); (have hmm : wmm = maxI := congrArg Prims.mm hw); (have hscmp : wscmp = scmpStd := congrArg Prims.scmp hw); (have hsadd : wsadd = fun x y => x ++ y := congrArg Prims.sadd hw); (have hslen : wslen = fun s => (s.size : Int) := congrArg Prims.slen hw); (have hsat : wsat = std.sat := congrArg Prims.sat hw); (have heqs : weqs = fun a b os => (eqOffs a b os).getD false := congrArg Prims.eqs hw); (have hlen : wlen = fun es => (es.length : Int) := congrArg Prims.len hw); (have hnlen : wnlen = fun es => es.length := congrArg Prims.nlen hw); (have hofNat : wofNat = (fun n : Nat => (n : Int)) := congrArg Prims.ofNat hw); (have htake : wtake = fun es b => es.take b.toNat := congrArg Prims.take hw); (have hdrop : wdrop = fun es a => es.drop a.toNat := congrArg Prims.drop hw); (have happ : wapp = fun a b => a ++ b := congrArg Prims.app hw); (have hzero : wzero = fun n z => List.replicate n.toNat z := congrArg Prims.zero hw); (have hnat : wnat = fun n => n.toNat := congrArg Prims.nat hw); (conv => arg 2; cbv); (generalize hP : Try.prog = P); cbv
  obtain ⟨b2, eb2⟩ : ∃ x, 2 * c13 = x := ⟨_, rfl⟩
  obtain ⟨g, eg⟩ : ∃ x, maxZ f = x := ⟨_, rfl⟩
  have hg : 0 ≤ g ∧ g ≤ 9223372036854775807 := by rw [← eg]; unfold maxZ; split <;> omega
  have e1 : wbin .mul .i64 2 c13 = b2 := by rw [hbin]; exact (i_mul (by omega) (by omega)).trans eb2
  have e2 : wmm true f 0 = g := by rw [hmm, ← eg]; simp only [maxI, maxZ, if_true]
  rw [eb2, eg] at hv
  obtain ⟨r, hr⟩ := root_get (X := b2 * g) (Int.mul_nonneg (by omega) hg.1)
  have hvr := perm_eq hv (perm_of_root hm hr)
  simp only [e1, e2]
  refine Call.stepE (by rw [← hP]; exact e_rroot (by omega) (by omega) hg.1 (by omega) hr) rfl ?_
  cbv
  repeat' (split <;> rename_i h <;> (try (simp only [hbin, hcmp, hun, hconv, hnot, hbeq, hmm, hscmp, hsadd, hslen, hsat, heqs, hofNat, binStd, cmpStd, unStd, scmpStd, maxI, Bool.not_eq_true', Bool.not_eq_false', decide_eq_true_eq, decide_eq_false_iff_not, Int.not_lt, Int.not_le, if_true, if_false, Bool.false_eq_true, beq_iff_eq, bne_iff_ne, ne_eq, Bool.not_eq_eq_eq_not, Bool.not_true, Bool.not_false, beq_eq_false_iff_ne, bne_eq_false_iff_eq, Int.ofNat_eq_natCast, Bool.not_not, not_true_eq_false, not_false_eq_true, reduceCtorEq] at h)) <;> (try cbv))
  · refine ⟨_, Vw.same rfl, hR _ (congrArg (AV.int .i64) ?_)⟩
    rw [hvr, if_pos (by omega)]
  · refine ⟨_, Vw.same rfl, hR _ (congrArg (AV.int .i64) ?_)⟩
    rw [hvr, if_neg (by omega)]
end Go.Proofs.Ytbagikhoinggjaa
