/- Texts of the proof of WordParses, joined by wip/tools/pack.py. -/
import Derived.Test.YtdjafcjpnjdphaaDoorWordParsesP0
import Derived.KernelRfl
import Derived.Test.YtdjafcjpnjdphaaDoorEngD
import Derived.Test.YtdjafcjpnjdphaaDoorEng28
/- A configuration that may be, by the engine. -/
set_option linter.unusedVariables false
set_option linter.unusedSimpArgs false
namespace Go.Proofs.YtdjafcjpnjdphaaDoor
open Go Go.RowKit Go.Eng
set_option maxRecDepth 100000
theorem e_up13 (a b : Int) (h1 : 1 ≤ a) (h2 : a ≤ 8388608) (h3 : 1 ≤ b) (h4 : b ≤ 1024) : PCalls Tryd.prog 25 [.int .i64 a, .int .i64 b] (· = .int .i64 ((a + b - 1) / b)) := by
  (refine PCalls.ofY Tryd.func25 (by kernel_rfl) (by kernel_rfl) fun w hw R hR => ?_); (conv => arg 2; cbv); (generalize hP : Tryd.prog = P); cbv
  subst hw
  have e1 : IntKind.i64.wrap (IntKind.i64.wrap (a + b) - 1) = a + b - 1 := by rw [IntKind.wrap_i64, IntKind.wrap_i64]; omega
  refine Nz.mk (by omega) ?_
  refine ⟨_, Vw.same rfl, hR _ (congrArg (AV.int .i64) ?_)⟩
  show IntKind.i64.wrap ((IntKind.i64.wrap (IntKind.i64.wrap (a + b) - 1)).tdiv b) = _
  rw [e1]
  have h5 : (a + b - 1).tdiv b = (a + b - 1) / b := Int.tdiv_eq_ediv_of_nonneg (by omega)
  have h6 : (a + b - 1) / b ≤ a + b - 1 := Int.ediv_le_self _ (by omega)
  have h7 : 0 ≤ (a + b - 1) / b := Int.ediv_nonneg (by omega) (by omega)
  rw [h5, IntKind.wrap_i64]; omega
def ConfOk (c0 c1 c2 c3 c4 c5 c6 c7 c8 c9 c10 c11 c12 c13 : Int) : Prop :=
  (1 ≤ c0 ∧ c0 ≤ 1024) ∧ (131072 ≤ c1 ∧ c1 ≤ 8388608 ∧ c1 ≤ c2 ∧ c2 ≤ 8388608) ∧ (c2 - c1) * 16 ≤ c1 ∧ (0 ≤ c3 ∧ c3 ≤ 1048576 ∧ 0 ≤ c4 ∧ c4 ≤ 65536) ∧ (0 ≤ c5 ∧ c5 ≤ 1048576) ∧ (1 ≤ c6 ∧ c6 ≤ 16777216 ∧ 1 ≤ c7 ∧ c7 ≤ 1048576) ∧ c6 * c0 ≤ 32000 * c1 ∧ (0 ≤ c8 ∧ c8 ≤ 1048576) ∧ (1 ≤ c9 ∧ c9 ≤ 1000 ∧ 1 ≤ c12 ∧ c12 ≤ 1000) ∧ ((c2 + c0 - 1) / c0 ≤ c10 ∧ 3 * c3 ≤ c10 ∧ c10 ≤ 16777216) ∧ (0 ≤ c11 ∧ c11 ≤ 1073741824) ∧ (1 ≤ c13 ∧ c13 ≤ 1048576)
/-- The first rule that does not hold. -/
def wrongV (c0 c1 c2 c3 c4 c5 c6 c7 c8 c9 c10 c11 c12 c13 : Int) : Int :=
  if c0 < 1 ∨ 1024 < c0 then 1 else
  if c1 < 131072 ∨ 8388608 < c1 ∨ c2 < c1 ∨ 8388608 < c2 then 2 else
  if c1 < IntKind.i64.wrap (IntKind.i64.wrap (c2 - c1) * 16) then 3 else
  if c3 < 0 ∨ 1048576 < c3 ∨ c4 < 0 ∨ 65536 < c4 then 4 else
  if c5 < 0 ∨ 1048576 < c5 then 5 else
  if c6 < 1 ∨ 16777216 < c6 ∨ c7 < 1 ∨ 1048576 < c7 then 6 else
  if IntKind.i64.wrap (32000 * c1) < IntKind.i64.wrap (c6 * c0) then 7 else
  if c8 < 0 ∨ 1048576 < c8 then 8 else
  if c9 < 1 ∨ 1000 < c9 ∨ c12 < 1 ∨ 1000 < c12 then 9 else
  if c10 < (c2 + c0 - 1) / c0 ∨ c10 < IntKind.i64.wrap (3 * c3) ∨ 16777216 < c10 then 10 else
  if c11 < 0 ∨ 1073741824 < c11 then 11 else
  if c13 < 1 ∨ 1048576 < c13 then 12 else 0
theorem ite_zero {p : Prop} [Decidable p] {a b : Int} (h : (if p then a else b) = 0) (ha : a ≠ 0) : ¬ p ∧ b = 0 := by
  by_cases hp : p
  · rw [if_pos hp] at h; exact absurd h ha
  · rw [if_neg hp] at h; exact ⟨hp, h⟩
theorem wrong_ok {c0 c1 c2 c3 c4 c5 c6 c7 c8 c9 c10 c11 c12 c13 : Int} (h : wrongV c0 c1 c2 c3 c4 c5 c6 c7 c8 c9 c10 c11 c12 c13 = 0) : ConfOk c0 c1 c2 c3 c4 c5 c6 c7 c8 c9 c10 c11 c12 c13 := by
  unfold wrongV at h
  replace h := ite_zero h (by decide); have k1 := h.1; replace h := h.2
  replace h := ite_zero h (by decide); have k2 := h.1; replace h := h.2
  replace h := ite_zero h (by decide); have k3 := h.1; replace h := h.2
  replace h := ite_zero h (by decide); have k4 := h.1; replace h := h.2
  replace h := ite_zero h (by decide); have k5 := h.1; replace h := h.2
  replace h := ite_zero h (by decide); have k6 := h.1; replace h := h.2
  replace h := ite_zero h (by decide); have k7 := h.1; replace h := h.2
  replace h := ite_zero h (by decide); have k8 := h.1; replace h := h.2
  replace h := ite_zero h (by decide); have k9 := h.1; replace h := h.2
  replace h := ite_zero h (by decide); have k10 := h.1; replace h := h.2
  replace h := ite_zero h (by decide); have k11 := h.1; replace h := h.2
  replace h := ite_zero h (by decide); have k12 := h.1; replace h := h.2
  clear h
  have b1 : IntKind.i64.wrap (IntKind.i64.wrap (c2 - c1) * 16) = (c2 - c1) * 16 := by rw [IntKind.wrap_i64, IntKind.wrap_i64]; omega
  have b2 : c6 * c0 ≤ 16777216 * 1024 := Int.mul_le_mul (by omega) (by omega) (by omega) (by omega)
  have b3 : 0 ≤ c6 * c0 := Int.mul_nonneg (by omega) (by omega)
  have b4 : IntKind.i64.wrap (c6 * c0) = c6 * c0 := by rw [IntKind.wrap_i64]; omega
  have b5 : IntKind.i64.wrap (32000 * c1) = 32000 * c1 := by rw [IntKind.wrap_i64]; omega
  have b6 : IntKind.i64.wrap (3 * c3) = 3 * c3 := by rw [IntKind.wrap_i64]; omega
  unfold ConfOk
  rw [b1] at k3
  rw [b4, b5] at k7
  rw [b6] at k10
  clear b1 b2 b3 b4 b5 b6
  and_intros <;> omega
set_option maxHeartbeats 4000000 in
theorem e_wrong (c0 c1 c2 c3 c4 c5 c6 c7 c8 c9 c10 c11 c12 c13 : Int) : PCalls Tryd.prog 11 [.agg [.int .i64 c0, .int .i64 c1, .int .i64 c2, .int .i64 c3, .int .i64 c4, .int .i64 c5, .int .i64 c6, .int .i64 c7, .int .i64 c8, .int .i64 c9, .int .i64 c10, .int .i64 c11, .int .i64 c12, .int .i64 c13]] (· = .int .i64 (wrongV c0 c1 c2 c3 c4 c5 c6 c7 c8 c9 c10 c11 c12 c13)) := by
  (refine PCalls.ofY Tryd.func11 (by kernel_rfl) (by kernel_rfl) fun w hw R hR => ?_); (conv => arg 2; cbv); (generalize hP : Tryd.prog = P); cbv
  have hR' : ∀ n, n = wrongV c0 c1 c2 c3 c4 c5 c6 c7 c8 c9 c10 c11 c12 c13 → R (.int .i64 n) := fun n h => hR _ (by rw [h])
  clear hR
  repeat' (first | (refine ⟨_, Vw.same rfl, hR' _ ?_⟩; unfold wrongV; (repeat rw [if_neg (by omega)]); rw [if_pos (by omega)]; done) | (split <;> rename_i hb <;> (try (rw [hw] at hb)) <;> (try (simp only [std, binStd, cmpStd, unStd, scmpStd, maxI, Bool.not_eq_true', Bool.not_eq_false', decide_eq_true_eq, decide_eq_false_iff_not, Int.not_lt, Int.not_le, if_true, if_false, Bool.false_eq_true, beq_iff_eq, bne_iff_ne, ne_eq, Bool.not_eq_eq_eq_not, Bool.not_true, Bool.not_false, beq_eq_false_iff_ne, bne_eq_false_iff_eq, Int.ofNat_eq_natCast] at hb)) <;> (try cbv)))
  refine QCal.stepE (by rw [← hP]; exact e_up13 c2 c0 (by omega) (by omega) (by omega) (by omega)) rfl ?_
  generalize hu : (c2 + c0 - 1) / c0 = u at *
  cbv
  repeat' (first | (refine ⟨_, Vw.same rfl, hR' _ ?_⟩; unfold wrongV; rw [hu]; (repeat rw [if_neg (by omega)]); (first | done | (rw [if_pos (by omega)]; done))) | (split <;> rename_i hb <;> (try (rw [hw] at hb)) <;> (try (simp only [std, binStd, cmpStd, unStd, scmpStd, maxI, Bool.not_eq_true', Bool.not_eq_false', decide_eq_true_eq, decide_eq_false_iff_not, Int.not_lt, Int.not_le, if_true, if_false, Bool.false_eq_true, beq_iff_eq, bne_iff_ne, ne_eq, Bool.not_eq_eq_eq_not, Bool.not_true, Bool.not_false, beq_eq_false_iff_ne, bne_eq_false_iff_eq, Int.ofNat_eq_natCast] at hb)) <;> (try cbv)))
end Go.Proofs.YtdjafcjpnjdphaaDoor

/- A configuration that may be: the program's rules, by the engine. Printed by genck.py. -/
set_option linter.unusedVariables false
set_option linter.unusedSimpArgs false
namespace Go.Proofs.YtdjafcjpnjdphaaDoor
open Go Go.RowKit Go.Eng
set_option maxRecDepth 100000
/-- Rows, each of which is seen as another one. -/
theorem Vw.rows {h : AHeap} {z : Nat} {es rs : List (List AV)} (hl : es.length = rs.length) (hz : ∀ r, r ∈ rs → r.length = z) (H : ∀ (i : Nat) (r : List AV), rs[i]? = some r → ∃ e, es[i]? = some e ∧ VwL h e r) : Vw h (.list z es) (.list z rs) := by
  intro C hC RC u hu
  rcases hu.lists with ⟨⟨a, cap, rfl⟩, he⟩ | ⟨a, cap, f, rfl, hcap, hsp, hz', hcell, hown, hvv⟩
  · have : rs = [] := by rw [he] at hl; exact List.length_eq_zero_iff.1 hl.symm
    subst this
    exact .listNil z a cap
  · refine .list z rs a es.length cap f hl.symm hcap hsp hz (fun i j hi hj => hcell i j hi hj) (fun h1 h2 ho => ?_) fun i r hr j x hx => ?_
    · rcases ho with ho | ⟨s, ⟨z', es', hs⟩, _⟩
      · exact hown h1 h2 (.inl ho)
      · simp at hs
    · obtain ⟨e, he, hv⟩ := H i r hr
      obtain ⟨k1, k2⟩ := hv.get
      obtain ⟨v, hv1, hv2⟩ := k2 j x hx
      exact hv2 C hC RC _ (hvv i e he j v hv1)
theorem e_within (x a b : Int) (o : Bool) (ho : o = decide (a ≤ x ∧ x ≤ b)) : PCalls Tryd.prog 42 [.int .i64 x, .int .i64 a, .int .i64 b] (· = .bool o) := by
  (refine PCalls.ofY Tryd.func42 (by kernel_rfl) (by kernel_rfl) fun w hw R hR => ?_); (obtain ⟨wbin, wcmp, wun, wconv, wnot, wbeq, wmm, wscmp, wsadd, wslen, wsat, weqs, wlen, wnlen, wofNat, wtake, wdrop, wapp, wzero, wnat⟩ := w); (have hbin : wbin = binStd := congrArg Prims.bin hw); (have hcmp : wcmp = cmpStd := congrArg Prims.cmp hw); (have hun : wun = unStd := congrArg Prims.un hw); (have hconv : wconv = fun k n => k.wrap n := congrArg Prims.conv hw); (have hnot : wnot = fun b => !b := congrArg Prims.not hw); (have hbeq : wbeq = fun a b => a == b := congrArg Prims.beq hw); (have hmm : wmm = maxI := congrArg Prims.mm hw); (have hscmp : wscmp = scmpStd := congrArg Prims.scmp hw); (have hsadd : wsadd = fun x y => x ++ y := congrArg Prims.sadd hw); (have hslen : wslen = fun s => (s.size : Int) := congrArg Prims.slen hw); (have hsat : wsat = std.sat := congrArg Prims.sat hw); (have heqs : weqs = fun a b os => (eqOffs a b os).getD false := congrArg Prims.eqs hw); (have hlen : wlen = fun es => (es.length : Int) := congrArg Prims.len hw); (have hnlen : wnlen = fun es => es.length := congrArg Prims.nlen hw); (have hofNat : wofNat = (fun n : Nat => (n : Int)) := congrArg Prims.ofNat hw); (have htake : wtake = fun es b => es.take b.toNat := congrArg Prims.take hw); (have hdrop : wdrop = fun es a => es.drop a.toNat := congrArg Prims.drop hw); (have happ : wapp = fun a b => a ++ b := congrArg Prims.app hw); (have hzero : wzero = fun n z => List.replicate n.toNat z := congrArg Prims.zero hw); (have hnat : wnat = fun n => n.toNat := congrArg Prims.nat hw); (conv => arg 2; cbv); (generalize hP : Tryd.prog = P); cbv
  (split <;> rename_i h <;> (try (simp only [hbin, hcmp, hun, hconv, hnot, hbeq, hmm, hscmp, hsadd, hslen, hsat, heqs, hofNat, binStd, cmpStd, unStd, scmpStd, maxI, Bool.not_eq_true', Bool.not_eq_false', decide_eq_true_eq, decide_eq_false_iff_not, Int.not_lt, Int.not_le, if_true, if_false, Bool.false_eq_true, beq_iff_eq, bne_iff_ne, ne_eq, Bool.not_eq_eq_eq_not, Bool.not_true, Bool.not_false, beq_eq_false_iff_ne, bne_eq_false_iff_eq, Int.ofNat_eq_natCast, Bool.not_not, not_true_eq_false, not_false_eq_true, reduceCtorEq] at h)) <;> (try cbv))
  · have v : wcmp .leq x b = o := by rw [hcmp, ho]; simp [cmpStd]; omega
    simp only [v]
    exact ⟨_, Vw.same rfl, hR _ rfl⟩
  · have v : o = false := by rw [ho]; simp; omega
    subst v
    exact ⟨_, Vw.same rfl, hR _ rfl⟩
theorem e_pulse (c0 c1 c2 c3 c4 c5 c6 c7 c8 c9 c10 c11 c12 c13 p : Int) (h0 : 1 ≤ c0) (h1 : c0 ≤ 1024) (h2 : 0 ≤ c2) (h3 : c2 ≤ 8388608) (hp : p = (c2 + c0 - 1) / c0) : PCalls Tryd.prog 52 [.agg [.int .i64 c0, .int .i64 c1, .int .i64 c2, .int .i64 c3, .int .i64 c4, .int .i64 c5, .int .i64 c6, .int .i64 c7, .int .i64 c8, .int .i64 c9, .int .i64 c10, .int .i64 c11, .int .i64 c12, .int .i64 c13]] (· = .int .i64 p) := by
  have hq : ratV true c2 1 c0 = (p, 0) := by
    rw [ratV_pos h2 (by decide) (by omega), Int.mul_one]
    have hd := Int.mul_ediv_add_emod c2 c0
    have hm0 := Int.emod_nonneg c2 (show c0 ≠ 0 by omega)
    have hm1 := Int.emod_lt_of_pos c2 (show 0 < c0 by omega)
    have hle : c2 / c0 ≤ c2 := Int.ediv_le_self _ h2
    have hge : 0 ≤ c2 / c0 := Int.ediv_nonneg h2 (by omega)
    obtain ⟨q, eq⟩ : ∃ q, q = c2 / c0 := ⟨_, rfl⟩
    rw [← eq] at hd hle hge ⊢
    by_cases hz : 0 < c2 % c0
    · have e1 : p = q + 1 := by
        rw [hp, show c2 + c0 - 1 = (c2 % c0 - 1) + (q + 1) * c0 by rw [Int.add_mul, Int.one_mul, Int.mul_comm q c0]; omega, Int.add_mul_ediv_right _ _ (by omega), Int.ediv_eq_zero_of_lt (by omega) (by omega)]
        omega
      rw [if_pos ⟨hz, rfl⟩, e1]
      unfold sgnV
      simp only [Bool.false_eq_true, if_false]
      rw [if_pos (by omega)]
    · have e1 : p = q := by
        rw [hp, show c2 + c0 - 1 = (c0 - 1) + q * c0 by rw [Int.mul_comm q c0]; omega, Int.add_mul_ediv_right _ _ (by omega), Int.ediv_eq_zero_of_lt (by omega) (by omega)]
        omega
      rw [if_neg (fun h => hz h.1), e1]
      unfold sgnV
      simp only [Bool.false_eq_true, if_false]
      rw [if_pos (by omega)]
  have hc := e_ceil c2 1 c0 p 0 (by omega) (by omega) (by decide) (by decide) (by omega) (by omega) (by omega) hq
  (refine PCalls.ofY Tryd.func52 (by kernel_rfl) (by kernel_rfl) fun w hw R hR => ?_); (obtain ⟨wbin, wcmp, wun, wconv, wnot, wbeq, wmm, wscmp, wsadd, wslen, wsat, weqs, wlen, wnlen, wofNat, wtake, wdrop, wapp, wzero, wnat⟩ := w); (have hbin : wbin = binStd := congrArg Prims.bin hw); (have hcmp : wcmp = cmpStd := congrArg Prims.cmp hw); (have hun : wun = unStd := congrArg Prims.un hw); (have hconv : wconv = fun k n => k.wrap n := congrArg Prims.conv hw); (have hnot : wnot = fun b => !b := congrArg Prims.not hw); (have hbeq : wbeq = fun a b => a == b := congrArg Prims.beq hw); (have hmm : wmm = maxI := congrArg Prims.mm hw); (have hscmp : wscmp = scmpStd := congrArg Prims.scmp hw); (have hsadd : wsadd = fun x y => x ++ y := congrArg Prims.sadd hw); (have hslen : wslen = fun s => (s.size : Int) := congrArg Prims.slen hw); (have hsat : wsat = std.sat := congrArg Prims.sat hw); (have heqs : weqs = fun a b os => (eqOffs a b os).getD false := congrArg Prims.eqs hw); (have hlen : wlen = fun es => (es.length : Int) := congrArg Prims.len hw); (have hnlen : wnlen = fun es => es.length := congrArg Prims.nlen hw); (have hofNat : wofNat = (fun n : Nat => (n : Int)) := congrArg Prims.ofNat hw); (have htake : wtake = fun es b => es.take b.toNat := congrArg Prims.take hw); (have hdrop : wdrop = fun es a => es.drop a.toNat := congrArg Prims.drop hw); (have happ : wapp = fun a b => a ++ b := congrArg Prims.app hw); (have hzero : wzero = fun n z => List.replicate n.toNat z := congrArg Prims.zero hw); (have hnat : wnat = fun n => n.toNat := congrArg Prims.nat hw); (conv => arg 2; cbv); (generalize hP : Tryd.prog = P); cbv
  refine Call.stepE (by rw [← hP]; exact hc) rfl ?_
  cbv
  exact ⟨_, Vw.same rfl, hR _ rfl⟩
theorem e_rule1 (c0 c1 c2 c3 c4 c5 c6 c7 c8 c9 c10 c11 c12 c13 : Int) (o : Bool) (ho : o = decide (¬ (c0 < 1 ∨ 1024 < c0))) : PCalls Tryd.prog 41 [.cref [.int .i64 c0, .int .i64 c1, .int .i64 c2, .int .i64 c3, .int .i64 c4, .int .i64 c5, .int .i64 c6, .int .i64 c7, .int .i64 c8, .int .i64 c9, .int .i64 c10, .int .i64 c11, .int .i64 c12, .int .i64 c13]] (· = .bool o) := by
  have w0 := e_within c0 1 1024 _ rfl
  obtain ⟨b0, eb0⟩ : ∃ z, z = decide (1 ≤ c0 ∧ c0 ≤ 1024) := ⟨_, rfl⟩
  rw [← eb0] at w0
  have hob : o = b0 := by rw [ho, eb0]; apply decide_eq_decide.2; omega
  subst hob
  clear ho eb0
  (refine PCalls.ofY Tryd.func41 (by kernel_rfl) (by kernel_rfl) fun w hw R hR => ?_); (obtain ⟨wbin, wcmp, wun, wconv, wnot, wbeq, wmm, wscmp, wsadd, wslen, wsat, weqs, wlen, wnlen, wofNat, wtake, wdrop, wapp, wzero, wnat⟩ := w); (have hbin : wbin = binStd := congrArg Prims.bin hw); (have hcmp : wcmp = cmpStd := congrArg Prims.cmp hw); (have hun : wun = unStd := congrArg Prims.un hw); (have hconv : wconv = fun k n => k.wrap n := congrArg Prims.conv hw); (have hnot : wnot = fun b => !b := congrArg Prims.not hw); (have hbeq : wbeq = fun a b => a == b := congrArg Prims.beq hw); (have hmm : wmm = maxI := congrArg Prims.mm hw); (have hscmp : wscmp = scmpStd := congrArg Prims.scmp hw); (have hsadd : wsadd = fun x y => x ++ y := congrArg Prims.sadd hw); (have hslen : wslen = fun s => (s.size : Int) := congrArg Prims.slen hw); (have hsat : wsat = std.sat := congrArg Prims.sat hw); (have heqs : weqs = fun a b os => (eqOffs a b os).getD false := congrArg Prims.eqs hw); (have hlen : wlen = fun es => (es.length : Int) := congrArg Prims.len hw); (have hnlen : wnlen = fun es => es.length := congrArg Prims.nlen hw); (have hofNat : wofNat = (fun n : Nat => (n : Int)) := congrArg Prims.ofNat hw); (have htake : wtake = fun es b => es.take b.toNat := congrArg Prims.take hw); (have hdrop : wdrop = fun es a => es.drop a.toNat := congrArg Prims.drop hw); (have happ : wapp = fun a b => a ++ b := congrArg Prims.app hw); (have hzero : wzero = fun n z => List.replicate n.toNat z := congrArg Prims.zero hw); (have hnat : wnat = fun n => n.toNat := congrArg Prims.nat hw); (conv => arg 2; cbv); (generalize hP : Tryd.prog = P); cbv
  repeat' (first
    | (refine Call.stepE (by rw [← hP]; exact w0) rfl ?_; cbv)
    | (refine QCal.stepE (by rw [← hP]; exact w0) rfl ?_; cbv)
    | fail)
  exact ⟨_, Vw.same rfl, hR _ rfl⟩
theorem e_rule2 (c0 c1 c2 c3 c4 c5 c6 c7 c8 c9 c10 c11 c12 c13 : Int) (o : Bool) (ho : o = decide (¬ (c1 < 131072 ∨ 8388608 < c1 ∨ c2 < c1 ∨ 8388608 < c2))) : PCalls Tryd.prog 43 [.cref [.int .i64 c0, .int .i64 c1, .int .i64 c2, .int .i64 c3, .int .i64 c4, .int .i64 c5, .int .i64 c6, .int .i64 c7, .int .i64 c8, .int .i64 c9, .int .i64 c10, .int .i64 c11, .int .i64 c12, .int .i64 c13]] (· = .bool o) := by
  have w0 := e_within c1 131072 8388608 _ rfl
  have w1 := e_within c2 c1 8388608 _ rfl
  obtain ⟨b0, eb0⟩ : ∃ z, z = decide (131072 ≤ c1 ∧ c1 ≤ 8388608) := ⟨_, rfl⟩
  obtain ⟨b1, eb1⟩ : ∃ z, z = decide (c1 ≤ c2 ∧ c2 ≤ 8388608) := ⟨_, rfl⟩
  rw [← eb0] at w0
  rw [← eb1] at w1
  have hob : o = (b0 && b1) := by rw [ho, eb0, eb1, ← Bool.decide_and]; apply decide_eq_decide.2; omega
  clear ho eb0 eb1
  cases b0
  · have hob : o = false := by rw [hob]; rfl
    subst hob
    (refine PCalls.ofY Tryd.func43 (by kernel_rfl) (by kernel_rfl) fun w hw R hR => ?_); (obtain ⟨wbin, wcmp, wun, wconv, wnot, wbeq, wmm, wscmp, wsadd, wslen, wsat, weqs, wlen, wnlen, wofNat, wtake, wdrop, wapp, wzero, wnat⟩ := w); (have hbin : wbin = binStd := congrArg Prims.bin hw); (have hcmp : wcmp = cmpStd := congrArg Prims.cmp hw); (have hun : wun = unStd := congrArg Prims.un hw); (have hconv : wconv = fun k n => k.wrap n := congrArg Prims.conv hw); (have hnot : wnot = fun b => !b := congrArg Prims.not hw); (have hbeq : wbeq = fun a b => a == b := congrArg Prims.beq hw); (have hmm : wmm = maxI := congrArg Prims.mm hw); (have hscmp : wscmp = scmpStd := congrArg Prims.scmp hw); (have hsadd : wsadd = fun x y => x ++ y := congrArg Prims.sadd hw); (have hslen : wslen = fun s => (s.size : Int) := congrArg Prims.slen hw); (have hsat : wsat = std.sat := congrArg Prims.sat hw); (have heqs : weqs = fun a b os => (eqOffs a b os).getD false := congrArg Prims.eqs hw); (have hlen : wlen = fun es => (es.length : Int) := congrArg Prims.len hw); (have hnlen : wnlen = fun es => es.length := congrArg Prims.nlen hw); (have hofNat : wofNat = (fun n : Nat => (n : Int)) := congrArg Prims.ofNat hw); (have htake : wtake = fun es b => es.take b.toNat := congrArg Prims.take hw); (have hdrop : wdrop = fun es a => es.drop a.toNat := congrArg Prims.drop hw); (have happ : wapp = fun a b => a ++ b := congrArg Prims.app hw); (have hzero : wzero = fun n z => List.replicate n.toNat z := congrArg Prims.zero hw); (have hnat : wnat = fun n => n.toNat := congrArg Prims.nat hw); (conv => arg 2; cbv); (generalize hP : Tryd.prog = P); cbv
    repeat' (first
      | (refine Call.stepE (by rw [← hP]; exact w0) rfl ?_; cbv)
      | (refine QCal.stepE (by rw [← hP]; exact w0) rfl ?_; cbv)
      | (refine Call.stepE (by rw [← hP]; exact w1) rfl ?_; cbv)
      | (refine QCal.stepE (by rw [← hP]; exact w1) rfl ?_; cbv)
      | fail)
    exact ⟨_, Vw.same rfl, hR _ rfl⟩
  · have hob : o = b1 := by rw [hob]; rfl
    subst hob
    (refine PCalls.ofY Tryd.func43 (by kernel_rfl) (by kernel_rfl) fun w hw R hR => ?_); (obtain ⟨wbin, wcmp, wun, wconv, wnot, wbeq, wmm, wscmp, wsadd, wslen, wsat, weqs, wlen, wnlen, wofNat, wtake, wdrop, wapp, wzero, wnat⟩ := w); (have hbin : wbin = binStd := congrArg Prims.bin hw); (have hcmp : wcmp = cmpStd := congrArg Prims.cmp hw); (have hun : wun = unStd := congrArg Prims.un hw); (have hconv : wconv = fun k n => k.wrap n := congrArg Prims.conv hw); (have hnot : wnot = fun b => !b := congrArg Prims.not hw); (have hbeq : wbeq = fun a b => a == b := congrArg Prims.beq hw); (have hmm : wmm = maxI := congrArg Prims.mm hw); (have hscmp : wscmp = scmpStd := congrArg Prims.scmp hw); (have hsadd : wsadd = fun x y => x ++ y := congrArg Prims.sadd hw); (have hslen : wslen = fun s => (s.size : Int) := congrArg Prims.slen hw); (have hsat : wsat = std.sat := congrArg Prims.sat hw); (have heqs : weqs = fun a b os => (eqOffs a b os).getD false := congrArg Prims.eqs hw); (have hlen : wlen = fun es => (es.length : Int) := congrArg Prims.len hw); (have hnlen : wnlen = fun es => es.length := congrArg Prims.nlen hw); (have hofNat : wofNat = (fun n : Nat => (n : Int)) := congrArg Prims.ofNat hw); (have htake : wtake = fun es b => es.take b.toNat := congrArg Prims.take hw); (have hdrop : wdrop = fun es a => es.drop a.toNat := congrArg Prims.drop hw); (have happ : wapp = fun a b => a ++ b := congrArg Prims.app hw); (have hzero : wzero = fun n z => List.replicate n.toNat z := congrArg Prims.zero hw); (have hnat : wnat = fun n => n.toNat := congrArg Prims.nat hw); (conv => arg 2; cbv); (generalize hP : Tryd.prog = P); cbv
    repeat' (first
      | (refine Call.stepE (by rw [← hP]; exact w0) rfl ?_; cbv)
      | (refine QCal.stepE (by rw [← hP]; exact w0) rfl ?_; cbv)
      | (refine Call.stepE (by rw [← hP]; exact w1) rfl ?_; cbv)
      | (refine QCal.stepE (by rw [← hP]; exact w1) rfl ?_; cbv)
      | fail)
    exact ⟨_, Vw.same rfl, hR _ rfl⟩
theorem e_rule3 (c0 c1 c2 c3 c4 c5 c6 c7 c8 c9 c10 c11 c12 c13 : Int) (o : Bool) (ho : o = decide (¬ (c1 < IntKind.i64.wrap (IntKind.i64.wrap (c2 - c1) * 16)))) : PCalls Tryd.prog 44 [.cref [.int .i64 c0, .int .i64 c1, .int .i64 c2, .int .i64 c3, .int .i64 c4, .int .i64 c5, .int .i64 c6, .int .i64 c7, .int .i64 c8, .int .i64 c9, .int .i64 c10, .int .i64 c11, .int .i64 c12, .int .i64 c13]] (· = .bool o) := by
  have f : decide (IntKind.i64.wrap (16 * IntKind.i64.wrap (c2 - c1)) ≤ c1) = o := by rw [ho, Int.mul_comm]; apply decide_eq_decide.2; omega
  clear ho
  (refine PCalls.ofY Tryd.func44 (by kernel_rfl) (by kernel_rfl) fun w hw R hR => ?_); (obtain ⟨wbin, wcmp, wun, wconv, wnot, wbeq, wmm, wscmp, wsadd, wslen, wsat, weqs, wlen, wnlen, wofNat, wtake, wdrop, wapp, wzero, wnat⟩ := w); (have hbin : wbin = binStd := congrArg Prims.bin hw); (have hcmp : wcmp = cmpStd := congrArg Prims.cmp hw); (have hun : wun = unStd := congrArg Prims.un hw); (have hconv : wconv = fun k n => k.wrap n := congrArg Prims.conv hw); (have hnot : wnot = fun b => !b := congrArg Prims.not hw); (have hbeq : wbeq = fun a b => a == b := congrArg Prims.beq hw); (have hmm : wmm = maxI := congrArg Prims.mm hw); (have hscmp : wscmp = scmpStd := congrArg Prims.scmp hw); (have hsadd : wsadd = fun x y => x ++ y := congrArg Prims.sadd hw); (have hslen : wslen = fun s => (s.size : Int) := congrArg Prims.slen hw); (have hsat : wsat = std.sat := congrArg Prims.sat hw); (have heqs : weqs = fun a b os => (eqOffs a b os).getD false := congrArg Prims.eqs hw); (have hlen : wlen = fun es => (es.length : Int) := congrArg Prims.len hw); (have hnlen : wnlen = fun es => es.length := congrArg Prims.nlen hw); (have hofNat : wofNat = (fun n : Nat => (n : Int)) := congrArg Prims.ofNat hw); (have htake : wtake = fun es b => es.take b.toNat := congrArg Prims.take hw); (have hdrop : wdrop = fun es a => es.drop a.toNat := congrArg Prims.drop hw); (have happ : wapp = fun a b => a ++ b := congrArg Prims.app hw); (have hzero : wzero = fun n z => List.replicate n.toNat z := congrArg Prims.zero hw); (have hnat : wnat = fun n => n.toNat := congrArg Prims.nat hw); (conv => arg 2; cbv); (generalize hP : Tryd.prog = P); cbv
  have v : wcmp .leq (wbin .mul .i64 16 (wbin .sub .i64 c2 c1)) c1 = o := by rw [hcmp, hbin]; exact f
  simp only [v]
  exact ⟨_, Vw.same rfl, hR _ rfl⟩
theorem e_rule4 (c0 c1 c2 c3 c4 c5 c6 c7 c8 c9 c10 c11 c12 c13 : Int) (o : Bool) (ho : o = decide (¬ (c3 < 0 ∨ 1048576 < c3 ∨ c4 < 0 ∨ 65536 < c4))) : PCalls Tryd.prog 45 [.cref [.int .i64 c0, .int .i64 c1, .int .i64 c2, .int .i64 c3, .int .i64 c4, .int .i64 c5, .int .i64 c6, .int .i64 c7, .int .i64 c8, .int .i64 c9, .int .i64 c10, .int .i64 c11, .int .i64 c12, .int .i64 c13]] (· = .bool o) := by
  have w0 := e_within c3 0 1048576 _ rfl
  have w1 := e_within c4 0 65536 _ rfl
  obtain ⟨b0, eb0⟩ : ∃ z, z = decide (0 ≤ c3 ∧ c3 ≤ 1048576) := ⟨_, rfl⟩
  obtain ⟨b1, eb1⟩ : ∃ z, z = decide (0 ≤ c4 ∧ c4 ≤ 65536) := ⟨_, rfl⟩
  rw [← eb0] at w0
  rw [← eb1] at w1
  have hob : o = (b0 && b1) := by rw [ho, eb0, eb1, ← Bool.decide_and]; apply decide_eq_decide.2; omega
  clear ho eb0 eb1
  cases b0
  · have hob : o = false := by rw [hob]; rfl
    subst hob
    (refine PCalls.ofY Tryd.func45 (by kernel_rfl) (by kernel_rfl) fun w hw R hR => ?_); (obtain ⟨wbin, wcmp, wun, wconv, wnot, wbeq, wmm, wscmp, wsadd, wslen, wsat, weqs, wlen, wnlen, wofNat, wtake, wdrop, wapp, wzero, wnat⟩ := w); (have hbin : wbin = binStd := congrArg Prims.bin hw); (have hcmp : wcmp = cmpStd := congrArg Prims.cmp hw); (have hun : wun = unStd := congrArg Prims.un hw); (have hconv : wconv = fun k n => k.wrap n := congrArg Prims.conv hw); (have hnot : wnot = fun b => !b := congrArg Prims.not hw); (have hbeq : wbeq = fun a b => a == b := congrArg Prims.beq hw); (have hmm : wmm = maxI := congrArg Prims.mm hw); (have hscmp : wscmp = scmpStd := congrArg Prims.scmp hw); (have hsadd : wsadd = fun x y => x ++ y := congrArg Prims.sadd hw); (have hslen : wslen = fun s => (s.size : Int) := congrArg Prims.slen hw); (have hsat : wsat = std.sat := congrArg Prims.sat hw); (have heqs : weqs = fun a b os => (eqOffs a b os).getD false := congrArg Prims.eqs hw); (have hlen : wlen = fun es => (es.length : Int) := congrArg Prims.len hw); (have hnlen : wnlen = fun es => es.length := congrArg Prims.nlen hw); (have hofNat : wofNat = (fun n : Nat => (n : Int)) := congrArg Prims.ofNat hw); (have htake : wtake = fun es b => es.take b.toNat := congrArg Prims.take hw); (have hdrop : wdrop = fun es a => es.drop a.toNat := congrArg Prims.drop hw); (have happ : wapp = fun a b => a ++ b := congrArg Prims.app hw); (have hzero : wzero = fun n z => List.replicate n.toNat z := congrArg Prims.zero hw); (have hnat : wnat = fun n => n.toNat := congrArg Prims.nat hw); (conv => arg 2; cbv); (generalize hP : Tryd.prog = P); cbv
    repeat' (first
      | (refine Call.stepE (by rw [← hP]; exact w0) rfl ?_; cbv)
      | (refine QCal.stepE (by rw [← hP]; exact w0) rfl ?_; cbv)
      | (refine Call.stepE (by rw [← hP]; exact w1) rfl ?_; cbv)
      | (refine QCal.stepE (by rw [← hP]; exact w1) rfl ?_; cbv)
      | fail)
    exact ⟨_, Vw.same rfl, hR _ rfl⟩
  · have hob : o = b1 := by rw [hob]; rfl
    subst hob
    (refine PCalls.ofY Tryd.func45 (by kernel_rfl) (by kernel_rfl) fun w hw R hR => ?_); (obtain ⟨wbin, wcmp, wun, wconv, wnot, wbeq, wmm, wscmp, wsadd, wslen, wsat, weqs, wlen, wnlen, wofNat, wtake, wdrop, wapp, wzero, wnat⟩ := w); (have hbin : wbin = binStd := congrArg Prims.bin hw); (have hcmp : wcmp = cmpStd := congrArg Prims.cmp hw); (have hun : wun = unStd := congrArg Prims.un hw); (have hconv : wconv = fun k n => k.wrap n := congrArg Prims.conv hw); (have hnot : wnot = fun b => !b := congrArg Prims.not hw); (have hbeq : wbeq = fun a b => a == b := congrArg Prims.beq hw); (have hmm : wmm = maxI := congrArg Prims.mm hw); (have hscmp : wscmp = scmpStd := congrArg Prims.scmp hw); (have hsadd : wsadd = fun x y => x ++ y := congrArg Prims.sadd hw); (have hslen : wslen = fun s => (s.size : Int) := congrArg Prims.slen hw); (have hsat : wsat = std.sat := congrArg Prims.sat hw); (have heqs : weqs = fun a b os => (eqOffs a b os).getD false := congrArg Prims.eqs hw); (have hlen : wlen = fun es => (es.length : Int) := congrArg Prims.len hw); (have hnlen : wnlen = fun es => es.length := congrArg Prims.nlen hw); (have hofNat : wofNat = (fun n : Nat => (n : Int)) := congrArg Prims.ofNat hw); (have htake : wtake = fun es b => es.take b.toNat := congrArg Prims.take hw); (have hdrop : wdrop = fun es a => es.drop a.toNat := congrArg Prims.drop hw); (have happ : wapp = fun a b => a ++ b := congrArg Prims.app hw); (have hzero : wzero = fun n z => List.replicate n.toNat z := congrArg Prims.zero hw); (have hnat : wnat = fun n => n.toNat := congrArg Prims.nat hw); (conv => arg 2; cbv); (generalize hP : Tryd.prog = P); cbv
    repeat' (first
      | (refine Call.stepE (by rw [← hP]; exact w0) rfl ?_; cbv)
      | (refine QCal.stepE (by rw [← hP]; exact w0) rfl ?_; cbv)
      | (refine Call.stepE (by rw [← hP]; exact w1) rfl ?_; cbv)
      | (refine QCal.stepE (by rw [← hP]; exact w1) rfl ?_; cbv)
      | fail)
    exact ⟨_, Vw.same rfl, hR _ rfl⟩
theorem e_rule5 (c0 c1 c2 c3 c4 c5 c6 c7 c8 c9 c10 c11 c12 c13 : Int) (o : Bool) (ho : o = decide (¬ (c5 < 0 ∨ 1048576 < c5))) : PCalls Tryd.prog 46 [.cref [.int .i64 c0, .int .i64 c1, .int .i64 c2, .int .i64 c3, .int .i64 c4, .int .i64 c5, .int .i64 c6, .int .i64 c7, .int .i64 c8, .int .i64 c9, .int .i64 c10, .int .i64 c11, .int .i64 c12, .int .i64 c13]] (· = .bool o) := by
  have w0 := e_within c5 0 1048576 _ rfl
  obtain ⟨b0, eb0⟩ : ∃ z, z = decide (0 ≤ c5 ∧ c5 ≤ 1048576) := ⟨_, rfl⟩
  rw [← eb0] at w0
  have hob : o = b0 := by rw [ho, eb0]; apply decide_eq_decide.2; omega
  subst hob
  clear ho eb0
  (refine PCalls.ofY Tryd.func46 (by kernel_rfl) (by kernel_rfl) fun w hw R hR => ?_); (obtain ⟨wbin, wcmp, wun, wconv, wnot, wbeq, wmm, wscmp, wsadd, wslen, wsat, weqs, wlen, wnlen, wofNat, wtake, wdrop, wapp, wzero, wnat⟩ := w); (have hbin : wbin = binStd := congrArg Prims.bin hw); (have hcmp : wcmp = cmpStd := congrArg Prims.cmp hw); (have hun : wun = unStd := congrArg Prims.un hw); (have hconv : wconv = fun k n => k.wrap n := congrArg Prims.conv hw); (have hnot : wnot = fun b => !b := congrArg Prims.not hw); (have hbeq : wbeq = fun a b => a == b := congrArg Prims.beq hw); (have hmm : wmm = maxI := congrArg Prims.mm hw); (have hscmp : wscmp = scmpStd := congrArg Prims.scmp hw); (have hsadd : wsadd = fun x y => x ++ y := congrArg Prims.sadd hw); (have hslen : wslen = fun s => (s.size : Int) := congrArg Prims.slen hw); (have hsat : wsat = std.sat := congrArg Prims.sat hw); (have heqs : weqs = fun a b os => (eqOffs a b os).getD false := congrArg Prims.eqs hw); (have hlen : wlen = fun es => (es.length : Int) := congrArg Prims.len hw); (have hnlen : wnlen = fun es => es.length := congrArg Prims.nlen hw); (have hofNat : wofNat = (fun n : Nat => (n : Int)) := congrArg Prims.ofNat hw); (have htake : wtake = fun es b => es.take b.toNat := congrArg Prims.take hw); (have hdrop : wdrop = fun es a => es.drop a.toNat := congrArg Prims.drop hw); (have happ : wapp = fun a b => a ++ b := congrArg Prims.app hw); (have hzero : wzero = fun n z => List.replicate n.toNat z := congrArg Prims.zero hw); (have hnat : wnat = fun n => n.toNat := congrArg Prims.nat hw); (conv => arg 2; cbv); (generalize hP : Tryd.prog = P); cbv
  repeat' (first
    | (refine Call.stepE (by rw [← hP]; exact w0) rfl ?_; cbv)
    | (refine QCal.stepE (by rw [← hP]; exact w0) rfl ?_; cbv)
    | fail)
  exact ⟨_, Vw.same rfl, hR _ rfl⟩
theorem e_rule6 (c0 c1 c2 c3 c4 c5 c6 c7 c8 c9 c10 c11 c12 c13 : Int) (o : Bool) (ho : o = decide (¬ (c6 < 1 ∨ 16777216 < c6 ∨ c7 < 1 ∨ 1048576 < c7))) : PCalls Tryd.prog 47 [.cref [.int .i64 c0, .int .i64 c1, .int .i64 c2, .int .i64 c3, .int .i64 c4, .int .i64 c5, .int .i64 c6, .int .i64 c7, .int .i64 c8, .int .i64 c9, .int .i64 c10, .int .i64 c11, .int .i64 c12, .int .i64 c13]] (· = .bool o) := by
  have w0 := e_within c6 1 16777216 _ rfl
  have w1 := e_within c7 1 1048576 _ rfl
  obtain ⟨b0, eb0⟩ : ∃ z, z = decide (1 ≤ c6 ∧ c6 ≤ 16777216) := ⟨_, rfl⟩
  obtain ⟨b1, eb1⟩ : ∃ z, z = decide (1 ≤ c7 ∧ c7 ≤ 1048576) := ⟨_, rfl⟩
  rw [← eb0] at w0
  rw [← eb1] at w1
  have hob : o = (b0 && b1) := by rw [ho, eb0, eb1, ← Bool.decide_and]; apply decide_eq_decide.2; omega
  clear ho eb0 eb1
  cases b0
  · have hob : o = false := by rw [hob]; rfl
    subst hob
    (refine PCalls.ofY Tryd.func47 (by kernel_rfl) (by kernel_rfl) fun w hw R hR => ?_); (obtain ⟨wbin, wcmp, wun, wconv, wnot, wbeq, wmm, wscmp, wsadd, wslen, wsat, weqs, wlen, wnlen, wofNat, wtake, wdrop, wapp, wzero, wnat⟩ := w); (have hbin : wbin = binStd := congrArg Prims.bin hw); (have hcmp : wcmp = cmpStd := congrArg Prims.cmp hw); (have hun : wun = unStd := congrArg Prims.un hw); (have hconv : wconv = fun k n => k.wrap n := congrArg Prims.conv hw); (have hnot : wnot = fun b => !b := congrArg Prims.not hw); (have hbeq : wbeq = fun a b => a == b := congrArg Prims.beq hw); (have hmm : wmm = maxI := congrArg Prims.mm hw); (have hscmp : wscmp = scmpStd := congrArg Prims.scmp hw); (have hsadd : wsadd = fun x y => x ++ y := congrArg Prims.sadd hw); (have hslen : wslen = fun s => (s.size : Int) := congrArg Prims.slen hw); (have hsat : wsat = std.sat := congrArg Prims.sat hw); (have heqs : weqs = fun a b os => (eqOffs a b os).getD false := congrArg Prims.eqs hw); (have hlen : wlen = fun es => (es.length : Int) := congrArg Prims.len hw); (have hnlen : wnlen = fun es => es.length := congrArg Prims.nlen hw); (have hofNat : wofNat = (fun n : Nat => (n : Int)) := congrArg Prims.ofNat hw); (have htake : wtake = fun es b => es.take b.toNat := congrArg Prims.take hw); (have hdrop : wdrop = fun es a => es.drop a.toNat := congrArg Prims.drop hw); (have happ : wapp = fun a b => a ++ b := congrArg Prims.app hw); (have hzero : wzero = fun n z => List.replicate n.toNat z := congrArg Prims.zero hw); (have hnat : wnat = fun n => n.toNat := congrArg Prims.nat hw); (conv => arg 2; cbv); (generalize hP : Tryd.prog = P); cbv
    repeat' (first
      | (refine Call.stepE (by rw [← hP]; exact w0) rfl ?_; cbv)
      | (refine QCal.stepE (by rw [← hP]; exact w0) rfl ?_; cbv)
      | (refine Call.stepE (by rw [← hP]; exact w1) rfl ?_; cbv)
      | (refine QCal.stepE (by rw [← hP]; exact w1) rfl ?_; cbv)
      | fail)
    exact ⟨_, Vw.same rfl, hR _ rfl⟩
  · have hob : o = b1 := by rw [hob]; rfl
    subst hob
    (refine PCalls.ofY Tryd.func47 (by kernel_rfl) (by kernel_rfl) fun w hw R hR => ?_); (obtain ⟨wbin, wcmp, wun, wconv, wnot, wbeq, wmm, wscmp, wsadd, wslen, wsat, weqs, wlen, wnlen, wofNat, wtake, wdrop, wapp, wzero, wnat⟩ := w); (have hbin : wbin = binStd := congrArg Prims.bin hw); (have hcmp : wcmp = cmpStd := congrArg Prims.cmp hw); (have hun : wun = unStd := congrArg Prims.un hw); (have hconv : wconv = fun k n => k.wrap n := congrArg Prims.conv hw); (have hnot : wnot = fun b => !b := congrArg Prims.not hw); (have hbeq : wbeq = fun a b => a == b := congrArg Prims.beq hw); (have hmm : wmm = maxI := congrArg Prims.mm hw); (have hscmp : wscmp = scmpStd := congrArg Prims.scmp hw); (have hsadd : wsadd = fun x y => x ++ y := congrArg Prims.sadd hw); (have hslen : wslen = fun s => (s.size : Int) := congrArg Prims.slen hw); (have hsat : wsat = std.sat := congrArg Prims.sat hw); (have heqs : weqs = fun a b os => (eqOffs a b os).getD false := congrArg Prims.eqs hw); (have hlen : wlen = fun es => (es.length : Int) := congrArg Prims.len hw); (have hnlen : wnlen = fun es => es.length := congrArg Prims.nlen hw); (have hofNat : wofNat = (fun n : Nat => (n : Int)) := congrArg Prims.ofNat hw); (have htake : wtake = fun es b => es.take b.toNat := congrArg Prims.take hw); (have hdrop : wdrop = fun es a => es.drop a.toNat := congrArg Prims.drop hw); (have happ : wapp = fun a b => a ++ b := congrArg Prims.app hw); (have hzero : wzero = fun n z => List.replicate n.toNat z := congrArg Prims.zero hw); (have hnat : wnat = fun n => n.toNat := congrArg Prims.nat hw); (conv => arg 2; cbv); (generalize hP : Tryd.prog = P); cbv
    repeat' (first
      | (refine Call.stepE (by rw [← hP]; exact w0) rfl ?_; cbv)
      | (refine QCal.stepE (by rw [← hP]; exact w0) rfl ?_; cbv)
      | (refine Call.stepE (by rw [← hP]; exact w1) rfl ?_; cbv)
      | (refine QCal.stepE (by rw [← hP]; exact w1) rfl ?_; cbv)
      | fail)
    exact ⟨_, Vw.same rfl, hR _ rfl⟩
theorem e_rule7 (c0 c1 c2 c3 c4 c5 c6 c7 c8 c9 c10 c11 c12 c13 : Int) (o : Bool) (ho : o = decide (¬ (IntKind.i64.wrap (32000 * c1) < IntKind.i64.wrap (c6 * c0)))) : PCalls Tryd.prog 48 [.cref [.int .i64 c0, .int .i64 c1, .int .i64 c2, .int .i64 c3, .int .i64 c4, .int .i64 c5, .int .i64 c6, .int .i64 c7, .int .i64 c8, .int .i64 c9, .int .i64 c10, .int .i64 c11, .int .i64 c12, .int .i64 c13]] (· = .bool o) := by
  have f : decide (IntKind.i64.wrap (c6 * c0) ≤ IntKind.i64.wrap (32000 * c1)) = o := by rw [ho]; apply decide_eq_decide.2; omega
  clear ho
  (refine PCalls.ofY Tryd.func48 (by kernel_rfl) (by kernel_rfl) fun w hw R hR => ?_); (obtain ⟨wbin, wcmp, wun, wconv, wnot, wbeq, wmm, wscmp, wsadd, wslen, wsat, weqs, wlen, wnlen, wofNat, wtake, wdrop, wapp, wzero, wnat⟩ := w); (have hbin : wbin = binStd := congrArg Prims.bin hw); (have hcmp : wcmp = cmpStd := congrArg Prims.cmp hw); (have hun : wun = unStd := congrArg Prims.un hw); (have hconv : wconv = fun k n => k.wrap n := congrArg Prims.conv hw); (have hnot : wnot = fun b => !b := congrArg Prims.not hw); (have hbeq : wbeq = fun a b => a == b := congrArg Prims.beq hw); (have hmm : wmm = maxI := congrArg Prims.mm hw); (have hscmp : wscmp = scmpStd := congrArg Prims.scmp hw); (have hsadd : wsadd = fun x y => x ++ y := congrArg Prims.sadd hw); (have hslen : wslen = fun s => (s.size : Int) := congrArg Prims.slen hw); (have hsat : wsat = std.sat := congrArg Prims.sat hw); (have heqs : weqs = fun a b os => (eqOffs a b os).getD false := congrArg Prims.eqs hw); (have hlen : wlen = fun es => (es.length : Int) := congrArg Prims.len hw); (have hnlen : wnlen = fun es => es.length := congrArg Prims.nlen hw); (have hofNat : wofNat = (fun n : Nat => (n : Int)) := congrArg Prims.ofNat hw); (have htake : wtake = fun es b => es.take b.toNat := congrArg Prims.take hw); (have hdrop : wdrop = fun es a => es.drop a.toNat := congrArg Prims.drop hw); (have happ : wapp = fun a b => a ++ b := congrArg Prims.app hw); (have hzero : wzero = fun n z => List.replicate n.toNat z := congrArg Prims.zero hw); (have hnat : wnat = fun n => n.toNat := congrArg Prims.nat hw); (conv => arg 2; cbv); (generalize hP : Tryd.prog = P); cbv
  have v : wcmp .leq (wbin .mul .i64 c6 c0) (wbin .mul .i64 32000 c1) = o := by rw [hcmp, hbin]; exact f
  simp only [v]
  exact ⟨_, Vw.same rfl, hR _ rfl⟩
theorem e_rule8 (c0 c1 c2 c3 c4 c5 c6 c7 c8 c9 c10 c11 c12 c13 : Int) (o : Bool) (ho : o = decide (¬ (c8 < 0 ∨ 1048576 < c8))) : PCalls Tryd.prog 49 [.cref [.int .i64 c0, .int .i64 c1, .int .i64 c2, .int .i64 c3, .int .i64 c4, .int .i64 c5, .int .i64 c6, .int .i64 c7, .int .i64 c8, .int .i64 c9, .int .i64 c10, .int .i64 c11, .int .i64 c12, .int .i64 c13]] (· = .bool o) := by
  have w0 := e_within c8 0 1048576 _ rfl
  obtain ⟨b0, eb0⟩ : ∃ z, z = decide (0 ≤ c8 ∧ c8 ≤ 1048576) := ⟨_, rfl⟩
  rw [← eb0] at w0
  have hob : o = b0 := by rw [ho, eb0]; apply decide_eq_decide.2; omega
  subst hob
  clear ho eb0
  (refine PCalls.ofY Tryd.func49 (by kernel_rfl) (by kernel_rfl) fun w hw R hR => ?_); (obtain ⟨wbin, wcmp, wun, wconv, wnot, wbeq, wmm, wscmp, wsadd, wslen, wsat, weqs, wlen, wnlen, wofNat, wtake, wdrop, wapp, wzero, wnat⟩ := w); (have hbin : wbin = binStd := congrArg Prims.bin hw); (have hcmp : wcmp = cmpStd := congrArg Prims.cmp hw); (have hun : wun = unStd := congrArg Prims.un hw); (have hconv : wconv = fun k n => k.wrap n := congrArg Prims.conv hw); (have hnot : wnot = fun b => !b := congrArg Prims.not hw); (have hbeq : wbeq = fun a b => a == b := congrArg Prims.beq hw); (have hmm : wmm = maxI := congrArg Prims.mm hw); (have hscmp : wscmp = scmpStd := congrArg Prims.scmp hw); (have hsadd : wsadd = fun x y => x ++ y := congrArg Prims.sadd hw); (have hslen : wslen = fun s => (s.size : Int) := congrArg Prims.slen hw); (have hsat : wsat = std.sat := congrArg Prims.sat hw); (have heqs : weqs = fun a b os => (eqOffs a b os).getD false := congrArg Prims.eqs hw); (have hlen : wlen = fun es => (es.length : Int) := congrArg Prims.len hw); (have hnlen : wnlen = fun es => es.length := congrArg Prims.nlen hw); (have hofNat : wofNat = (fun n : Nat => (n : Int)) := congrArg Prims.ofNat hw); (have htake : wtake = fun es b => es.take b.toNat := congrArg Prims.take hw); (have hdrop : wdrop = fun es a => es.drop a.toNat := congrArg Prims.drop hw); (have happ : wapp = fun a b => a ++ b := congrArg Prims.app hw); (have hzero : wzero = fun n z => List.replicate n.toNat z := congrArg Prims.zero hw); (have hnat : wnat = fun n => n.toNat := congrArg Prims.nat hw); (conv => arg 2; cbv); (generalize hP : Tryd.prog = P); cbv
  repeat' (first
    | (refine Call.stepE (by rw [← hP]; exact w0) rfl ?_; cbv)
    | (refine QCal.stepE (by rw [← hP]; exact w0) rfl ?_; cbv)
    | fail)
  exact ⟨_, Vw.same rfl, hR _ rfl⟩
theorem e_rule9 (c0 c1 c2 c3 c4 c5 c6 c7 c8 c9 c10 c11 c12 c13 : Int) (o : Bool) (ho : o = decide (¬ (c9 < 1 ∨ 1000 < c9 ∨ c12 < 1 ∨ 1000 < c12))) : PCalls Tryd.prog 50 [.cref [.int .i64 c0, .int .i64 c1, .int .i64 c2, .int .i64 c3, .int .i64 c4, .int .i64 c5, .int .i64 c6, .int .i64 c7, .int .i64 c8, .int .i64 c9, .int .i64 c10, .int .i64 c11, .int .i64 c12, .int .i64 c13]] (· = .bool o) := by
  have w0 := e_within c9 1 1000 _ rfl
  have w1 := e_within c12 1 1000 _ rfl
  obtain ⟨b0, eb0⟩ : ∃ z, z = decide (1 ≤ c9 ∧ c9 ≤ 1000) := ⟨_, rfl⟩
  obtain ⟨b1, eb1⟩ : ∃ z, z = decide (1 ≤ c12 ∧ c12 ≤ 1000) := ⟨_, rfl⟩
  rw [← eb0] at w0
  rw [← eb1] at w1
  have hob : o = (b0 && b1) := by rw [ho, eb0, eb1, ← Bool.decide_and]; apply decide_eq_decide.2; omega
  clear ho eb0 eb1
  cases b0
  · have hob : o = false := by rw [hob]; rfl
    subst hob
    (refine PCalls.ofY Tryd.func50 (by kernel_rfl) (by kernel_rfl) fun w hw R hR => ?_); (obtain ⟨wbin, wcmp, wun, wconv, wnot, wbeq, wmm, wscmp, wsadd, wslen, wsat, weqs, wlen, wnlen, wofNat, wtake, wdrop, wapp, wzero, wnat⟩ := w); (have hbin : wbin = binStd := congrArg Prims.bin hw); (have hcmp : wcmp = cmpStd := congrArg Prims.cmp hw); (have hun : wun = unStd := congrArg Prims.un hw); (have hconv : wconv = fun k n => k.wrap n := congrArg Prims.conv hw); (have hnot : wnot = fun b => !b := congrArg Prims.not hw); (have hbeq : wbeq = fun a b => a == b := congrArg Prims.beq hw); (have hmm : wmm = maxI := congrArg Prims.mm hw); (have hscmp : wscmp = scmpStd := congrArg Prims.scmp hw); (have hsadd : wsadd = fun x y => x ++ y := congrArg Prims.sadd hw); (have hslen : wslen = fun s => (s.size : Int) := congrArg Prims.slen hw); (have hsat : wsat = std.sat := congrArg Prims.sat hw); (have heqs : weqs = fun a b os => (eqOffs a b os).getD false := congrArg Prims.eqs hw); (have hlen : wlen = fun es => (es.length : Int) := congrArg Prims.len hw); (have hnlen : wnlen = fun es => es.length := congrArg Prims.nlen hw); (have hofNat : wofNat = (fun n : Nat => (n : Int)) := congrArg Prims.ofNat hw); (have htake : wtake = fun es b => es.take b.toNat := congrArg Prims.take hw); (have hdrop : wdrop = fun es a => es.drop a.toNat := congrArg Prims.drop hw); (have happ : wapp = fun a b => a ++ b := congrArg Prims.app hw); (have hzero : wzero = fun n z => List.replicate n.toNat z := congrArg Prims.zero hw); (have hnat : wnat = fun n => n.toNat := congrArg Prims.nat hw); (conv => arg 2; cbv); (generalize hP : Tryd.prog = P); cbv
    repeat' (first
      | (refine Call.stepE (by rw [← hP]; exact w0) rfl ?_; cbv)
      | (refine QCal.stepE (by rw [← hP]; exact w0) rfl ?_; cbv)
      | (refine Call.stepE (by rw [← hP]; exact w1) rfl ?_; cbv)
      | (refine QCal.stepE (by rw [← hP]; exact w1) rfl ?_; cbv)
      | fail)
    exact ⟨_, Vw.same rfl, hR _ rfl⟩
  · have hob : o = b1 := by rw [hob]; rfl
    subst hob
    (refine PCalls.ofY Tryd.func50 (by kernel_rfl) (by kernel_rfl) fun w hw R hR => ?_); (obtain ⟨wbin, wcmp, wun, wconv, wnot, wbeq, wmm, wscmp, wsadd, wslen, wsat, weqs, wlen, wnlen, wofNat, wtake, wdrop, wapp, wzero, wnat⟩ := w); (have hbin : wbin = binStd := congrArg Prims.bin hw); (have hcmp : wcmp = cmpStd := congrArg Prims.cmp hw); (have hun : wun = unStd := congrArg Prims.un hw); (have hconv : wconv = fun k n => k.wrap n := congrArg Prims.conv hw); (have hnot : wnot = fun b => !b := congrArg Prims.not hw); (have hbeq : wbeq = fun a b => a == b := congrArg Prims.beq hw); (have hmm : wmm = maxI := congrArg Prims.mm hw); (have hscmp : wscmp = scmpStd := congrArg Prims.scmp hw); (have hsadd : wsadd = fun x y => x ++ y := congrArg Prims.sadd hw); (have hslen : wslen = fun s => (s.size : Int) := congrArg Prims.slen hw); (have hsat : wsat = std.sat := congrArg Prims.sat hw); (have heqs : weqs = fun a b os => (eqOffs a b os).getD false := congrArg Prims.eqs hw); (have hlen : wlen = fun es => (es.length : Int) := congrArg Prims.len hw); (have hnlen : wnlen = fun es => es.length := congrArg Prims.nlen hw); (have hofNat : wofNat = (fun n : Nat => (n : Int)) := congrArg Prims.ofNat hw); (have htake : wtake = fun es b => es.take b.toNat := congrArg Prims.take hw); (have hdrop : wdrop = fun es a => es.drop a.toNat := congrArg Prims.drop hw); (have happ : wapp = fun a b => a ++ b := congrArg Prims.app hw); (have hzero : wzero = fun n z => List.replicate n.toNat z := congrArg Prims.zero hw); (have hnat : wnat = fun n => n.toNat := congrArg Prims.nat hw); (conv => arg 2; cbv); (generalize hP : Tryd.prog = P); cbv
    repeat' (first
      | (refine Call.stepE (by rw [← hP]; exact w0) rfl ?_; cbv)
      | (refine QCal.stepE (by rw [← hP]; exact w0) rfl ?_; cbv)
      | (refine Call.stepE (by rw [← hP]; exact w1) rfl ?_; cbv)
      | (refine QCal.stepE (by rw [← hP]; exact w1) rfl ?_; cbv)
      | fail)
    exact ⟨_, Vw.same rfl, hR _ rfl⟩
theorem e_rule10 (c0 c1 c2 c3 c4 c5 c6 c7 c8 c9 c10 c11 c12 c13 : Int) (o : Bool) (h0 : 1 ≤ c0) (h1 : c0 ≤ 1024) (h2 : 0 ≤ c2) (h3 : c2 ≤ 8388608) (ho : o = decide (¬ (c10 < (c2 + c0 - 1) / c0 ∨ c10 < IntKind.i64.wrap (3 * c3) ∨ 16777216 < c10))) : PCalls Tryd.prog 51 [.cref [.int .i64 c0, .int .i64 c1, .int .i64 c2, .int .i64 c3, .int .i64 c4, .int .i64 c5, .int .i64 c6, .int .i64 c7, .int .i64 c8, .int .i64 c9, .int .i64 c10, .int .i64 c11, .int .i64 c12, .int .i64 c13]] (· = .bool o) := by
  obtain ⟨p, ep⟩ : ∃ p, p = (c2 + c0 - 1) / c0 := ⟨_, rfl⟩
  obtain ⟨t, et⟩ : ∃ t, t = IntKind.i64.wrap (3 * c3) := ⟨_, rfl⟩
  obtain ⟨m, em⟩ : ∃ m, m = maxI true p t := ⟨_, rfl⟩
  have q1 := e_pulse c0 c1 c2 c3 c4 c5 c6 c7 c8 c9 c10 c11 c12 c13 p h0 h1 h2 h3 ep
  rw [← ep, ← et] at ho
  have hm : m = max p t := by rw [em]; unfold maxI; simp; omega
  have q2 := e_within c10 m 16777216 o (by rw [ho]; apply decide_eq_decide.2; omega)
  clear ho ep hm
  (refine PCalls.ofY Tryd.func51 (by kernel_rfl) (by kernel_rfl) fun w hw R hR => ?_); (obtain ⟨wbin, wcmp, wun, wconv, wnot, wbeq, wmm, wscmp, wsadd, wslen, wsat, weqs, wlen, wnlen, wofNat, wtake, wdrop, wapp, wzero, wnat⟩ := w); (have hbin : wbin = binStd := congrArg Prims.bin hw); (have hcmp : wcmp = cmpStd := congrArg Prims.cmp hw); (have hun : wun = unStd := congrArg Prims.un hw); (have hconv : wconv = fun k n => k.wrap n := congrArg Prims.conv hw); (have hnot : wnot = fun b => !b := congrArg Prims.not hw); (have hbeq : wbeq = fun a b => a == b := congrArg Prims.beq hw); (have hmm : wmm = maxI := congrArg Prims.mm hw); (have hscmp : wscmp = scmpStd := congrArg Prims.scmp hw); (have hsadd : wsadd = fun x y => x ++ y := congrArg Prims.sadd hw); (have hslen : wslen = fun s => (s.size : Int) := congrArg Prims.slen hw); (have hsat : wsat = std.sat := congrArg Prims.sat hw); (have heqs : weqs = fun a b os => (eqOffs a b os).getD false := congrArg Prims.eqs hw); (have hlen : wlen = fun es => (es.length : Int) := congrArg Prims.len hw); (have hnlen : wnlen = fun es => es.length := congrArg Prims.nlen hw); (have hofNat : wofNat = (fun n : Nat => (n : Int)) := congrArg Prims.ofNat hw); (have htake : wtake = fun es b => es.take b.toNat := congrArg Prims.take hw); (have hdrop : wdrop = fun es a => es.drop a.toNat := congrArg Prims.drop hw); (have happ : wapp = fun a b => a ++ b := congrArg Prims.app hw); (have hzero : wzero = fun n z => List.replicate n.toNat z := congrArg Prims.zero hw); (have hnat : wnat = fun n => n.toNat := congrArg Prims.nat hw); (conv => arg 2; cbv); (generalize hP : Tryd.prog = P); cbv
  have v1 : wbin .mul .i64 3 c3 = t := by rw [hbin]; exact et.symm
  have v2 : wmm true p t = m := by rw [hmm]; exact em.symm
  repeat' (first
    | (refine QCal.stepE (by rw [← hP]; exact q1) rfl ?_; cbv)
    | (simp only [v1]; cbv)
    | (simp only [v1])
    | (simp only [v2])
    | (refine Call.stepE (by rw [← hP]; exact q2) rfl ?_; cbv)
    | (refine QCal.stepE (by rw [← hP]; exact q2) rfl ?_; cbv)
    | fail)
  exact ⟨_, Vw.same rfl, hR _ rfl⟩
theorem e_rule11 (c0 c1 c2 c3 c4 c5 c6 c7 c8 c9 c10 c11 c12 c13 : Int) (o : Bool) (ho : o = decide (¬ (c11 < 0 ∨ 1073741824 < c11))) : PCalls Tryd.prog 53 [.cref [.int .i64 c0, .int .i64 c1, .int .i64 c2, .int .i64 c3, .int .i64 c4, .int .i64 c5, .int .i64 c6, .int .i64 c7, .int .i64 c8, .int .i64 c9, .int .i64 c10, .int .i64 c11, .int .i64 c12, .int .i64 c13]] (· = .bool o) := by
  have w0 := e_within c11 0 1073741824 _ rfl
  obtain ⟨b0, eb0⟩ : ∃ z, z = decide (0 ≤ c11 ∧ c11 ≤ 1073741824) := ⟨_, rfl⟩
  rw [← eb0] at w0
  have hob : o = b0 := by rw [ho, eb0]; apply decide_eq_decide.2; omega
  subst hob
  clear ho eb0
  (refine PCalls.ofY Tryd.func53 (by kernel_rfl) (by kernel_rfl) fun w hw R hR => ?_); (obtain ⟨wbin, wcmp, wun, wconv, wnot, wbeq, wmm, wscmp, wsadd, wslen, wsat, weqs, wlen, wnlen, wofNat, wtake, wdrop, wapp, wzero, wnat⟩ := w); (have hbin : wbin = binStd := congrArg Prims.bin hw); (have hcmp : wcmp = cmpStd := congrArg Prims.cmp hw); (have hun : wun = unStd := congrArg Prims.un hw); (have hconv : wconv = fun k n => k.wrap n := congrArg Prims.conv hw); (have hnot : wnot = fun b => !b := congrArg Prims.not hw); (have hbeq : wbeq = fun a b => a == b := congrArg Prims.beq hw); (have hmm : wmm = maxI := congrArg Prims.mm hw); (have hscmp : wscmp = scmpStd := congrArg Prims.scmp hw); (have hsadd : wsadd = fun x y => x ++ y := congrArg Prims.sadd hw); (have hslen : wslen = fun s => (s.size : Int) := congrArg Prims.slen hw); (have hsat : wsat = std.sat := congrArg Prims.sat hw); (have heqs : weqs = fun a b os => (eqOffs a b os).getD false := congrArg Prims.eqs hw); (have hlen : wlen = fun es => (es.length : Int) := congrArg Prims.len hw); (have hnlen : wnlen = fun es => es.length := congrArg Prims.nlen hw); (have hofNat : wofNat = (fun n : Nat => (n : Int)) := congrArg Prims.ofNat hw); (have htake : wtake = fun es b => es.take b.toNat := congrArg Prims.take hw); (have hdrop : wdrop = fun es a => es.drop a.toNat := congrArg Prims.drop hw); (have happ : wapp = fun a b => a ++ b := congrArg Prims.app hw); (have hzero : wzero = fun n z => List.replicate n.toNat z := congrArg Prims.zero hw); (have hnat : wnat = fun n => n.toNat := congrArg Prims.nat hw); (conv => arg 2; cbv); (generalize hP : Tryd.prog = P); cbv
  repeat' (first
    | (refine Call.stepE (by rw [← hP]; exact w0) rfl ?_; cbv)
    | (refine QCal.stepE (by rw [← hP]; exact w0) rfl ?_; cbv)
    | fail)
  exact ⟨_, Vw.same rfl, hR _ rfl⟩
theorem e_rule12 (c0 c1 c2 c3 c4 c5 c6 c7 c8 c9 c10 c11 c12 c13 : Int) (o : Bool) (ho : o = decide (¬ (c13 < 1 ∨ 1048576 < c13))) : PCalls Tryd.prog 54 [.cref [.int .i64 c0, .int .i64 c1, .int .i64 c2, .int .i64 c3, .int .i64 c4, .int .i64 c5, .int .i64 c6, .int .i64 c7, .int .i64 c8, .int .i64 c9, .int .i64 c10, .int .i64 c11, .int .i64 c12, .int .i64 c13]] (· = .bool o) := by
  have w0 := e_within c13 1 1048576 _ rfl
  obtain ⟨b0, eb0⟩ : ∃ z, z = decide (1 ≤ c13 ∧ c13 ≤ 1048576) := ⟨_, rfl⟩
  rw [← eb0] at w0
  have hob : o = b0 := by rw [ho, eb0]; apply decide_eq_decide.2; omega
  subst hob
  clear ho eb0
  (refine PCalls.ofY Tryd.func54 (by kernel_rfl) (by kernel_rfl) fun w hw R hR => ?_); (obtain ⟨wbin, wcmp, wun, wconv, wnot, wbeq, wmm, wscmp, wsadd, wslen, wsat, weqs, wlen, wnlen, wofNat, wtake, wdrop, wapp, wzero, wnat⟩ := w); (have hbin : wbin = binStd := congrArg Prims.bin hw); (have hcmp : wcmp = cmpStd := congrArg Prims.cmp hw); (have hun : wun = unStd := congrArg Prims.un hw); (have hconv : wconv = fun k n => k.wrap n := congrArg Prims.conv hw); (have hnot : wnot = fun b => !b := congrArg Prims.not hw); (have hbeq : wbeq = fun a b => a == b := congrArg Prims.beq hw); (have hmm : wmm = maxI := congrArg Prims.mm hw); (have hscmp : wscmp = scmpStd := congrArg Prims.scmp hw); (have hsadd : wsadd = fun x y => x ++ y := congrArg Prims.sadd hw); (have hslen : wslen = fun s => (s.size : Int) := congrArg Prims.slen hw); (have hsat : wsat = std.sat := congrArg Prims.sat hw); (have heqs : weqs = fun a b os => (eqOffs a b os).getD false := congrArg Prims.eqs hw); (have hlen : wlen = fun es => (es.length : Int) := congrArg Prims.len hw); (have hnlen : wnlen = fun es => es.length := congrArg Prims.nlen hw); (have hofNat : wofNat = (fun n : Nat => (n : Int)) := congrArg Prims.ofNat hw); (have htake : wtake = fun es b => es.take b.toNat := congrArg Prims.take hw); (have hdrop : wdrop = fun es a => es.drop a.toNat := congrArg Prims.drop hw); (have happ : wapp = fun a b => a ++ b := congrArg Prims.app hw); (have hzero : wzero = fun n z => List.replicate n.toNat z := congrArg Prims.zero hw); (have hnat : wnat = fun n => n.toNat := congrArg Prims.nat hw); (conv => arg 2; cbv); (generalize hP : Tryd.prog = P); cbv
  repeat' (first
    | (refine Call.stepE (by rw [← hP]; exact w0) rfl ?_; cbv)
    | (refine QCal.stepE (by rw [← hP]; exact w0) rfl ?_; cbv)
    | fail)
  exact ⟨_, Vw.same rfl, hR _ rfl⟩
theorem e_rules (c0 c1 c2 c3 c4 c5 c6 c7 c8 c9 c10 c11 c12 c13 : Int) : PCalls Tryd.prog 32 [.agg [.int .i64 c0, .int .i64 c1, .int .i64 c2, .int .i64 c3, .int .i64 c4, .int .i64 c5, .int .i64 c6, .int .i64 c7, .int .i64 c8, .int .i64 c9, .int .i64 c10, .int .i64 c11, .int .i64 c12, .int .i64 c13]] (· = .list 1 [[.func (.func 41) [] [.cref [.int .i64 c0, .int .i64 c1, .int .i64 c2, .int .i64 c3, .int .i64 c4, .int .i64 c5, .int .i64 c6, .int .i64 c7, .int .i64 c8, .int .i64 c9, .int .i64 c10, .int .i64 c11, .int .i64 c12, .int .i64 c13]]], [.func (.func 43) [] [.cref [.int .i64 c0, .int .i64 c1, .int .i64 c2, .int .i64 c3, .int .i64 c4, .int .i64 c5, .int .i64 c6, .int .i64 c7, .int .i64 c8, .int .i64 c9, .int .i64 c10, .int .i64 c11, .int .i64 c12, .int .i64 c13]]], [.func (.func 44) [] [.cref [.int .i64 c0, .int .i64 c1, .int .i64 c2, .int .i64 c3, .int .i64 c4, .int .i64 c5, .int .i64 c6, .int .i64 c7, .int .i64 c8, .int .i64 c9, .int .i64 c10, .int .i64 c11, .int .i64 c12, .int .i64 c13]]], [.func (.func 45) [] [.cref [.int .i64 c0, .int .i64 c1, .int .i64 c2, .int .i64 c3, .int .i64 c4, .int .i64 c5, .int .i64 c6, .int .i64 c7, .int .i64 c8, .int .i64 c9, .int .i64 c10, .int .i64 c11, .int .i64 c12, .int .i64 c13]]], [.func (.func 46) [] [.cref [.int .i64 c0, .int .i64 c1, .int .i64 c2, .int .i64 c3, .int .i64 c4, .int .i64 c5, .int .i64 c6, .int .i64 c7, .int .i64 c8, .int .i64 c9, .int .i64 c10, .int .i64 c11, .int .i64 c12, .int .i64 c13]]], [.func (.func 47) [] [.cref [.int .i64 c0, .int .i64 c1, .int .i64 c2, .int .i64 c3, .int .i64 c4, .int .i64 c5, .int .i64 c6, .int .i64 c7, .int .i64 c8, .int .i64 c9, .int .i64 c10, .int .i64 c11, .int .i64 c12, .int .i64 c13]]], [.func (.func 48) [] [.cref [.int .i64 c0, .int .i64 c1, .int .i64 c2, .int .i64 c3, .int .i64 c4, .int .i64 c5, .int .i64 c6, .int .i64 c7, .int .i64 c8, .int .i64 c9, .int .i64 c10, .int .i64 c11, .int .i64 c12, .int .i64 c13]]], [.func (.func 49) [] [.cref [.int .i64 c0, .int .i64 c1, .int .i64 c2, .int .i64 c3, .int .i64 c4, .int .i64 c5, .int .i64 c6, .int .i64 c7, .int .i64 c8, .int .i64 c9, .int .i64 c10, .int .i64 c11, .int .i64 c12, .int .i64 c13]]], [.func (.func 50) [] [.cref [.int .i64 c0, .int .i64 c1, .int .i64 c2, .int .i64 c3, .int .i64 c4, .int .i64 c5, .int .i64 c6, .int .i64 c7, .int .i64 c8, .int .i64 c9, .int .i64 c10, .int .i64 c11, .int .i64 c12, .int .i64 c13]]], [.func (.func 51) [] [.cref [.int .i64 c0, .int .i64 c1, .int .i64 c2, .int .i64 c3, .int .i64 c4, .int .i64 c5, .int .i64 c6, .int .i64 c7, .int .i64 c8, .int .i64 c9, .int .i64 c10, .int .i64 c11, .int .i64 c12, .int .i64 c13]]], [.func (.func 53) [] [.cref [.int .i64 c0, .int .i64 c1, .int .i64 c2, .int .i64 c3, .int .i64 c4, .int .i64 c5, .int .i64 c6, .int .i64 c7, .int .i64 c8, .int .i64 c9, .int .i64 c10, .int .i64 c11, .int .i64 c12, .int .i64 c13]]], [.func (.func 54) [] [.cref [.int .i64 c0, .int .i64 c1, .int .i64 c2, .int .i64 c3, .int .i64 c4, .int .i64 c5, .int .i64 c6, .int .i64 c7, .int .i64 c8, .int .i64 c9, .int .i64 c10, .int .i64 c11, .int .i64 c12, .int .i64 c13]]]]) := by
  (refine PCalls.ofY Tryd.func32 (by kernel_rfl) (by kernel_rfl) fun w hw R hR => ?_); (obtain ⟨wbin, wcmp, wun, wconv, wnot, wbeq, wmm, wscmp, wsadd, wslen, wsat, weqs, wlen, wnlen, wofNat, wtake, wdrop, wapp, wzero, wnat⟩ := w); (have hbin : wbin = binStd := congrArg Prims.bin hw); (have hcmp : wcmp = cmpStd := congrArg Prims.cmp hw); (have hun : wun = unStd := congrArg Prims.un hw); (have hconv : wconv = fun k n => k.wrap n := congrArg Prims.conv hw); (have hnot : wnot = fun b => !b := congrArg Prims.not hw); (have hbeq : wbeq = fun a b => a == b := congrArg Prims.beq hw); (have hmm : wmm = maxI := congrArg Prims.mm hw); (have hscmp : wscmp = scmpStd := congrArg Prims.scmp hw); (have hsadd : wsadd = fun x y => x ++ y := congrArg Prims.sadd hw); (have hslen : wslen = fun s => (s.size : Int) := congrArg Prims.slen hw); (have hsat : wsat = std.sat := congrArg Prims.sat hw); (have heqs : weqs = fun a b os => (eqOffs a b os).getD false := congrArg Prims.eqs hw); (have hlen : wlen = fun es => (es.length : Int) := congrArg Prims.len hw); (have hnlen : wnlen = fun es => es.length := congrArg Prims.nlen hw); (have hofNat : wofNat = (fun n : Nat => (n : Int)) := congrArg Prims.ofNat hw); (have htake : wtake = fun es b => es.take b.toNat := congrArg Prims.take hw); (have hdrop : wdrop = fun es a => es.drop a.toNat := congrArg Prims.drop hw); (have happ : wapp = fun a b => a ++ b := congrArg Prims.app hw); (have hzero : wzero = fun n z => List.replicate n.toNat z := congrArg Prims.zero hw); (have hnat : wnat = fun n => n.toNat := congrArg Prims.nat hw); (conv => arg 2; cbv); (generalize hP : Tryd.prog = P); cbv
  refine ⟨_, Vw.rows (rs := [[.func (.func 41) [] [.cref [.int .i64 c0, .int .i64 c1, .int .i64 c2, .int .i64 c3, .int .i64 c4, .int .i64 c5, .int .i64 c6, .int .i64 c7, .int .i64 c8, .int .i64 c9, .int .i64 c10, .int .i64 c11, .int .i64 c12, .int .i64 c13]]], [.func (.func 43) [] [.cref [.int .i64 c0, .int .i64 c1, .int .i64 c2, .int .i64 c3, .int .i64 c4, .int .i64 c5, .int .i64 c6, .int .i64 c7, .int .i64 c8, .int .i64 c9, .int .i64 c10, .int .i64 c11, .int .i64 c12, .int .i64 c13]]], [.func (.func 44) [] [.cref [.int .i64 c0, .int .i64 c1, .int .i64 c2, .int .i64 c3, .int .i64 c4, .int .i64 c5, .int .i64 c6, .int .i64 c7, .int .i64 c8, .int .i64 c9, .int .i64 c10, .int .i64 c11, .int .i64 c12, .int .i64 c13]]], [.func (.func 45) [] [.cref [.int .i64 c0, .int .i64 c1, .int .i64 c2, .int .i64 c3, .int .i64 c4, .int .i64 c5, .int .i64 c6, .int .i64 c7, .int .i64 c8, .int .i64 c9, .int .i64 c10, .int .i64 c11, .int .i64 c12, .int .i64 c13]]], [.func (.func 46) [] [.cref [.int .i64 c0, .int .i64 c1, .int .i64 c2, .int .i64 c3, .int .i64 c4, .int .i64 c5, .int .i64 c6, .int .i64 c7, .int .i64 c8, .int .i64 c9, .int .i64 c10, .int .i64 c11, .int .i64 c12, .int .i64 c13]]], [.func (.func 47) [] [.cref [.int .i64 c0, .int .i64 c1, .int .i64 c2, .int .i64 c3, .int .i64 c4, .int .i64 c5, .int .i64 c6, .int .i64 c7, .int .i64 c8, .int .i64 c9, .int .i64 c10, .int .i64 c11, .int .i64 c12, .int .i64 c13]]], [.func (.func 48) [] [.cref [.int .i64 c0, .int .i64 c1, .int .i64 c2, .int .i64 c3, .int .i64 c4, .int .i64 c5, .int .i64 c6, .int .i64 c7, .int .i64 c8, .int .i64 c9, .int .i64 c10, .int .i64 c11, .int .i64 c12, .int .i64 c13]]], [.func (.func 49) [] [.cref [.int .i64 c0, .int .i64 c1, .int .i64 c2, .int .i64 c3, .int .i64 c4, .int .i64 c5, .int .i64 c6, .int .i64 c7, .int .i64 c8, .int .i64 c9, .int .i64 c10, .int .i64 c11, .int .i64 c12, .int .i64 c13]]], [.func (.func 50) [] [.cref [.int .i64 c0, .int .i64 c1, .int .i64 c2, .int .i64 c3, .int .i64 c4, .int .i64 c5, .int .i64 c6, .int .i64 c7, .int .i64 c8, .int .i64 c9, .int .i64 c10, .int .i64 c11, .int .i64 c12, .int .i64 c13]]], [.func (.func 51) [] [.cref [.int .i64 c0, .int .i64 c1, .int .i64 c2, .int .i64 c3, .int .i64 c4, .int .i64 c5, .int .i64 c6, .int .i64 c7, .int .i64 c8, .int .i64 c9, .int .i64 c10, .int .i64 c11, .int .i64 c12, .int .i64 c13]]], [.func (.func 53) [] [.cref [.int .i64 c0, .int .i64 c1, .int .i64 c2, .int .i64 c3, .int .i64 c4, .int .i64 c5, .int .i64 c6, .int .i64 c7, .int .i64 c8, .int .i64 c9, .int .i64 c10, .int .i64 c11, .int .i64 c12, .int .i64 c13]]], [.func (.func 54) [] [.cref [.int .i64 c0, .int .i64 c1, .int .i64 c2, .int .i64 c3, .int .i64 c4, .int .i64 c5, .int .i64 c6, .int .i64 c7, .int .i64 c8, .int .i64 c9, .int .i64 c10, .int .i64 c11, .int .i64 c12, .int .i64 c13]]]]) rfl (fun r hr => ?_) (fun i r hi => ?_), hR _ rfl⟩
  · simp only [List.mem_cons, List.not_mem_nil, or_false] at hr
    rcases hr with rfl | rfl | rfl | rfl | rfl | rfl | rfl | rfl | rfl | rfl | rfl | rfl <;> rfl
  · have hir := (List.getElem?_eq_some_iff.1 hi).1
    simp only [List.length_cons, List.length_nil] at hir
    have hi' : i = 0 ∨ i = 1 ∨ i = 2 ∨ i = 3 ∨ i = 4 ∨ i = 5 ∨ i = 6 ∨ i = 7 ∨ i = 8 ∨ i = 9 ∨ i = 10 ∨ i = 11 := by omega
    rcases hi' with rfl | rfl | rfl | rfl | rfl | rfl | rfl | rfl | rfl | rfl | rfl | rfl
    all_goals
      simp only [List.getElem?_cons_zero, List.getElem?_cons_succ, Option.some.injEq] at hi
      subst hi
      exact ⟨_, rfl, ⟨Vw.func trivial ⟨Vw.ref (es := [[.int .i64 c0, .int .i64 c1, .int .i64 c2, .int .i64 c3, .int .i64 c4, .int .i64 c5, .int .i64 c6, .int .i64 c7, .int .i64 c8, .int .i64 c9, .int .i64 c10, .int .i64 c11, .int .i64 c12, .int .i64 c13]]) (row := [.int .i64 c0, .int .i64 c1, .int .i64 c2, .int .i64 c3, .int .i64 c4, .int .i64 c5, .int .i64 c6, .int .i64 c7, .int .i64 c8, .int .i64 c9, .int .i64 c10, .int .i64 c11, .int .i64 c12, .int .i64 c13]) rfl rfl rfl (Nat.zero_le _) (by decide), trivial⟩, trivial⟩⟩
set_option maxHeartbeats 4000000 in
theorem e_check (c0 c1 c2 c3 c4 c5 c6 c7 c8 c9 c10 c11 c12 c13 w : Int) (hw0 : w = wrongV c0 c1 c2 c3 c4 c5 c6 c7 c8 c9 c10 c11 c12 c13) (e : Int) (he : e = if w = 0 then 0 else 50) : PCalls Tryd.prog 21 [.agg [.int .i64 c0, .int .i64 c1, .int .i64 c2, .int .i64 c3, .int .i64 c4, .int .i64 c5, .int .i64 c6, .int .i64 c7, .int .i64 c8, .int .i64 c9, .int .i64 c10, .int .i64 c11, .int .i64 c12, .int .i64 c13]] (· = .tuple [.int .i64 e, .int .i64 w]) := by
  have q0 := e_rules c0 c1 c2 c3 c4 c5 c6 c7 c8 c9 c10 c11 c12 c13
  (refine PCalls.ofY Tryd.func21 (by kernel_rfl) (by kernel_rfl) fun w hw R hR => ?_); (obtain ⟨wbin, wcmp, wun, wconv, wnot, wbeq, wmm, wscmp, wsadd, wslen, wsat, weqs, wlen, wnlen, wofNat, wtake, wdrop, wapp, wzero, wnat⟩ := w); (have hbin : wbin = binStd := congrArg Prims.bin hw); (have hcmp : wcmp = cmpStd := congrArg Prims.cmp hw); (have hun : wun = unStd := congrArg Prims.un hw); (have hconv : wconv = fun k n => k.wrap n := congrArg Prims.conv hw); (have hnot : wnot = fun b => !b := congrArg Prims.not hw); (have hbeq : wbeq = fun a b => a == b := congrArg Prims.beq hw); (have hmm : wmm = maxI := congrArg Prims.mm hw); (have hscmp : wscmp = scmpStd := congrArg Prims.scmp hw); (have hsadd : wsadd = fun x y => x ++ y := congrArg Prims.sadd hw); (have hslen : wslen = fun s => (s.size : Int) := congrArg Prims.slen hw); (have hsat : wsat = std.sat := congrArg Prims.sat hw); (have heqs : weqs = fun a b os => (eqOffs a b os).getD false := congrArg Prims.eqs hw); (have hlen : wlen = fun es => (es.length : Int) := congrArg Prims.len hw); (have hnlen : wnlen = fun es => es.length := congrArg Prims.nlen hw); (have hofNat : wofNat = (fun n : Nat => (n : Int)) := congrArg Prims.ofNat hw); (have htake : wtake = fun es b => es.take b.toNat := congrArg Prims.take hw); (have hdrop : wdrop = fun es a => es.drop a.toNat := congrArg Prims.drop hw); (have happ : wapp = fun a b => a ++ b := congrArg Prims.app hw); (have hzero : wzero = fun n z => List.replicate n.toNat z := congrArg Prims.zero hw); (have hnat : wnat = fun n => n.toNat := congrArg Prims.nat hw); (conv => arg 2; cbv); (generalize hP : Tryd.prog = P); cbv
  have fin : ∀ k : Int, k ≠ 0 → k = wrongV c0 c1 c2 c3 c4 c5 c6 c7 c8 c9 c10 c11 c12 c13 → R (.tuple [.int .i64 50, .int .i64 k]) := fun k hk h => hR _ (by rw [he, hw0, ← h, if_neg hk])
  refine Call.stepE (by rw [← hP]; exact q0) rfl ?_
  cbv
  have l12 : wlen [[.func (.func 41) [] [.cref [.int .i64 c0, .int .i64 c1, .int .i64 c2, .int .i64 c3, .int .i64 c4, .int .i64 c5, .int .i64 c6, .int .i64 c7, .int .i64 c8, .int .i64 c9, .int .i64 c10, .int .i64 c11, .int .i64 c12, .int .i64 c13]]], [.func (.func 43) [] [.cref [.int .i64 c0, .int .i64 c1, .int .i64 c2, .int .i64 c3, .int .i64 c4, .int .i64 c5, .int .i64 c6, .int .i64 c7, .int .i64 c8, .int .i64 c9, .int .i64 c10, .int .i64 c11, .int .i64 c12, .int .i64 c13]]], [.func (.func 44) [] [.cref [.int .i64 c0, .int .i64 c1, .int .i64 c2, .int .i64 c3, .int .i64 c4, .int .i64 c5, .int .i64 c6, .int .i64 c7, .int .i64 c8, .int .i64 c9, .int .i64 c10, .int .i64 c11, .int .i64 c12, .int .i64 c13]]], [.func (.func 45) [] [.cref [.int .i64 c0, .int .i64 c1, .int .i64 c2, .int .i64 c3, .int .i64 c4, .int .i64 c5, .int .i64 c6, .int .i64 c7, .int .i64 c8, .int .i64 c9, .int .i64 c10, .int .i64 c11, .int .i64 c12, .int .i64 c13]]], [.func (.func 46) [] [.cref [.int .i64 c0, .int .i64 c1, .int .i64 c2, .int .i64 c3, .int .i64 c4, .int .i64 c5, .int .i64 c6, .int .i64 c7, .int .i64 c8, .int .i64 c9, .int .i64 c10, .int .i64 c11, .int .i64 c12, .int .i64 c13]]], [.func (.func 47) [] [.cref [.int .i64 c0, .int .i64 c1, .int .i64 c2, .int .i64 c3, .int .i64 c4, .int .i64 c5, .int .i64 c6, .int .i64 c7, .int .i64 c8, .int .i64 c9, .int .i64 c10, .int .i64 c11, .int .i64 c12, .int .i64 c13]]], [.func (.func 48) [] [.cref [.int .i64 c0, .int .i64 c1, .int .i64 c2, .int .i64 c3, .int .i64 c4, .int .i64 c5, .int .i64 c6, .int .i64 c7, .int .i64 c8, .int .i64 c9, .int .i64 c10, .int .i64 c11, .int .i64 c12, .int .i64 c13]]], [.func (.func 49) [] [.cref [.int .i64 c0, .int .i64 c1, .int .i64 c2, .int .i64 c3, .int .i64 c4, .int .i64 c5, .int .i64 c6, .int .i64 c7, .int .i64 c8, .int .i64 c9, .int .i64 c10, .int .i64 c11, .int .i64 c12, .int .i64 c13]]], [.func (.func 50) [] [.cref [.int .i64 c0, .int .i64 c1, .int .i64 c2, .int .i64 c3, .int .i64 c4, .int .i64 c5, .int .i64 c6, .int .i64 c7, .int .i64 c8, .int .i64 c9, .int .i64 c10, .int .i64 c11, .int .i64 c12, .int .i64 c13]]], [.func (.func 51) [] [.cref [.int .i64 c0, .int .i64 c1, .int .i64 c2, .int .i64 c3, .int .i64 c4, .int .i64 c5, .int .i64 c6, .int .i64 c7, .int .i64 c8, .int .i64 c9, .int .i64 c10, .int .i64 c11, .int .i64 c12, .int .i64 c13]]], [.func (.func 53) [] [.cref [.int .i64 c0, .int .i64 c1, .int .i64 c2, .int .i64 c3, .int .i64 c4, .int .i64 c5, .int .i64 c6, .int .i64 c7, .int .i64 c8, .int .i64 c9, .int .i64 c10, .int .i64 c11, .int .i64 c12, .int .i64 c13]]], [.func (.func 54) [] [.cref [.int .i64 c0, .int .i64 c1, .int .i64 c2, .int .i64 c3, .int .i64 c4, .int .i64 c5, .int .i64 c6, .int .i64 c7, .int .i64 c8, .int .i64 c9, .int .i64 c10, .int .i64 c11, .int .i64 c12, .int .i64 c13]]]] = 12 := by rw [hlen]; rfl
  have z0 : wcmp .lss 0 12 = true := by rw [hcmp]; rfl
  have z1 : wcmp .lss 1 12 = true := by rw [hcmp]; rfl
  have z2 : wcmp .lss 2 12 = true := by rw [hcmp]; rfl
  have z3 : wcmp .lss 3 12 = true := by rw [hcmp]; rfl
  have z4 : wcmp .lss 4 12 = true := by rw [hcmp]; rfl
  have z5 : wcmp .lss 5 12 = true := by rw [hcmp]; rfl
  have z6 : wcmp .lss 6 12 = true := by rw [hcmp]; rfl
  have z7 : wcmp .lss 7 12 = true := by rw [hcmp]; rfl
  have z8 : wcmp .lss 8 12 = true := by rw [hcmp]; rfl
  have z9 : wcmp .lss 9 12 = true := by rw [hcmp]; rfl
  have z10 : wcmp .lss 10 12 = true := by rw [hcmp]; rfl
  have z11 : wcmp .lss 11 12 = true := by rw [hcmp]; rfl
  have z12 : wcmp .lss 12 12 = false := by rw [hcmp]; rfl
  have y0 : wbin .add .i64 0 1 = 1 := by rw [hbin]; rfl
  have y1 : wbin .add .i64 1 1 = 2 := by rw [hbin]; rfl
  have y2 : wbin .add .i64 2 1 = 3 := by rw [hbin]; rfl
  have y3 : wbin .add .i64 3 1 = 4 := by rw [hbin]; rfl
  have y4 : wbin .add .i64 4 1 = 5 := by rw [hbin]; rfl
  have y5 : wbin .add .i64 5 1 = 6 := by rw [hbin]; rfl
  have y6 : wbin .add .i64 6 1 = 7 := by rw [hbin]; rfl
  have y7 : wbin .add .i64 7 1 = 8 := by rw [hbin]; rfl
  have y8 : wbin .add .i64 8 1 = 9 := by rw [hbin]; rfl
  have y9 : wbin .add .i64 9 1 = 10 := by rw [hbin]; rfl
  have y10 : wbin .add .i64 10 1 = 11 := by rw [hbin]; rfl
  have y11 : wbin .add .i64 11 1 = 12 := by rw [hbin]; rfl
  have nt : wnot true = false := by rw [hnot]; rfl
  have nf : wnot false = true := by rw [hnot]; rfl
  simp only [l12]
  (refine Loop.rounds hw 13 ?_; cbv)
  simp only [z0]
  cbv
  refine Idx.mk [.func (.func 41) [] [.cref [.int .i64 c0, .int .i64 c1, .int .i64 c2, .int .i64 c3, .int .i64 c4, .int .i64 c5, .int .i64 c6, .int .i64 c7, .int .i64 c8, .int .i64 c9, .int .i64 c10, .int .i64 c11, .int .i64 c12, .int .i64 c13]]] (by decide) rfl ?_
  cbv
  obtain ⟨o1, eo1⟩ : ∃ o, o = decide (¬ (c0 < 1 ∨ 1024 < c0)) := ⟨_, rfl⟩
  refine Call.stepE (by rw [← hP]; exact e_rule1 c0 c1 c2 c3 c4 c5 c6 c7 c8 c9 c10 c11 c12 c13 o1 eo1) rfl ?_
  cbv
  by_cases hk1 : c0 < 1 ∨ 1024 < c0
  · obtain rfl : o1 = false := by rw [eo1]; simp only [decide_eq_false_iff_not, Classical.not_not]; exact hk1
    simp only [nf]
    cbv
    simp only [y0]
    exact ⟨_, Vw.same rfl, fin 1 (by decide) (by unfold wrongV; rw [if_pos hk1])⟩
  obtain rfl : o1 = true := by rw [eo1]; simp only [decide_eq_true_eq]; exact hk1
  clear eo1
  simp only [nt]
  cbv
  simp only [y0]
  cbv
  simp only [z1]
  cbv
  refine Idx.mk [.func (.func 43) [] [.cref [.int .i64 c0, .int .i64 c1, .int .i64 c2, .int .i64 c3, .int .i64 c4, .int .i64 c5, .int .i64 c6, .int .i64 c7, .int .i64 c8, .int .i64 c9, .int .i64 c10, .int .i64 c11, .int .i64 c12, .int .i64 c13]]] (by decide) rfl ?_
  cbv
  obtain ⟨o2, eo2⟩ : ∃ o, o = decide (¬ (c1 < 131072 ∨ 8388608 < c1 ∨ c2 < c1 ∨ 8388608 < c2)) := ⟨_, rfl⟩
  refine Call.stepE (by rw [← hP]; exact e_rule2 c0 c1 c2 c3 c4 c5 c6 c7 c8 c9 c10 c11 c12 c13 o2 eo2) rfl ?_
  cbv
  by_cases hk2 : c1 < 131072 ∨ 8388608 < c1 ∨ c2 < c1 ∨ 8388608 < c2
  · obtain rfl : o2 = false := by rw [eo2]; simp only [decide_eq_false_iff_not, Classical.not_not]; exact hk2
    simp only [nf]
    cbv
    simp only [y1]
    exact ⟨_, Vw.same rfl, fin 2 (by decide) (by unfold wrongV; rw [if_neg hk1]; rw [if_pos hk2])⟩
  obtain rfl : o2 = true := by rw [eo2]; simp only [decide_eq_true_eq]; exact hk2
  clear eo2
  simp only [nt]
  cbv
  simp only [y1]
  cbv
  simp only [z2]
  cbv
  refine Idx.mk [.func (.func 44) [] [.cref [.int .i64 c0, .int .i64 c1, .int .i64 c2, .int .i64 c3, .int .i64 c4, .int .i64 c5, .int .i64 c6, .int .i64 c7, .int .i64 c8, .int .i64 c9, .int .i64 c10, .int .i64 c11, .int .i64 c12, .int .i64 c13]]] (by decide) rfl ?_
  cbv
  obtain ⟨o3, eo3⟩ : ∃ o, o = decide (¬ (c1 < IntKind.i64.wrap (IntKind.i64.wrap (c2 - c1) * 16))) := ⟨_, rfl⟩
  refine Call.stepE (by rw [← hP]; exact e_rule3 c0 c1 c2 c3 c4 c5 c6 c7 c8 c9 c10 c11 c12 c13 o3 eo3) rfl ?_
  cbv
  by_cases hk3 : c1 < IntKind.i64.wrap (IntKind.i64.wrap (c2 - c1) * 16)
  · obtain rfl : o3 = false := by rw [eo3]; simp only [decide_eq_false_iff_not, Classical.not_not]; exact hk3
    simp only [nf]
    cbv
    simp only [y2]
    exact ⟨_, Vw.same rfl, fin 3 (by decide) (by unfold wrongV; rw [if_neg hk1]; rw [if_neg hk2]; rw [if_pos hk3])⟩
  obtain rfl : o3 = true := by rw [eo3]; simp only [decide_eq_true_eq]; exact hk3
  clear eo3
  simp only [nt]
  cbv
  simp only [y2]
  cbv
  simp only [z3]
  cbv
  refine Idx.mk [.func (.func 45) [] [.cref [.int .i64 c0, .int .i64 c1, .int .i64 c2, .int .i64 c3, .int .i64 c4, .int .i64 c5, .int .i64 c6, .int .i64 c7, .int .i64 c8, .int .i64 c9, .int .i64 c10, .int .i64 c11, .int .i64 c12, .int .i64 c13]]] (by decide) rfl ?_
  cbv
  obtain ⟨o4, eo4⟩ : ∃ o, o = decide (¬ (c3 < 0 ∨ 1048576 < c3 ∨ c4 < 0 ∨ 65536 < c4)) := ⟨_, rfl⟩
  refine Call.stepE (by rw [← hP]; exact e_rule4 c0 c1 c2 c3 c4 c5 c6 c7 c8 c9 c10 c11 c12 c13 o4 eo4) rfl ?_
  cbv
  by_cases hk4 : c3 < 0 ∨ 1048576 < c3 ∨ c4 < 0 ∨ 65536 < c4
  · obtain rfl : o4 = false := by rw [eo4]; simp only [decide_eq_false_iff_not, Classical.not_not]; exact hk4
    simp only [nf]
    cbv
    simp only [y3]
    exact ⟨_, Vw.same rfl, fin 4 (by decide) (by unfold wrongV; rw [if_neg hk1]; rw [if_neg hk2]; rw [if_neg hk3]; rw [if_pos hk4])⟩
  obtain rfl : o4 = true := by rw [eo4]; simp only [decide_eq_true_eq]; exact hk4
  clear eo4
  simp only [nt]
  cbv
  simp only [y3]
  cbv
  simp only [z4]
  cbv
  refine Idx.mk [.func (.func 46) [] [.cref [.int .i64 c0, .int .i64 c1, .int .i64 c2, .int .i64 c3, .int .i64 c4, .int .i64 c5, .int .i64 c6, .int .i64 c7, .int .i64 c8, .int .i64 c9, .int .i64 c10, .int .i64 c11, .int .i64 c12, .int .i64 c13]]] (by decide) rfl ?_
  cbv
  obtain ⟨o5, eo5⟩ : ∃ o, o = decide (¬ (c5 < 0 ∨ 1048576 < c5)) := ⟨_, rfl⟩
  refine Call.stepE (by rw [← hP]; exact e_rule5 c0 c1 c2 c3 c4 c5 c6 c7 c8 c9 c10 c11 c12 c13 o5 eo5) rfl ?_
  cbv
  by_cases hk5 : c5 < 0 ∨ 1048576 < c5
  · obtain rfl : o5 = false := by rw [eo5]; simp only [decide_eq_false_iff_not, Classical.not_not]; exact hk5
    simp only [nf]
    cbv
    simp only [y4]
    exact ⟨_, Vw.same rfl, fin 5 (by decide) (by unfold wrongV; rw [if_neg hk1]; rw [if_neg hk2]; rw [if_neg hk3]; rw [if_neg hk4]; rw [if_pos hk5])⟩
  obtain rfl : o5 = true := by rw [eo5]; simp only [decide_eq_true_eq]; exact hk5
  clear eo5
  simp only [nt]
  cbv
  simp only [y4]
  cbv
  simp only [z5]
  cbv
  refine Idx.mk [.func (.func 47) [] [.cref [.int .i64 c0, .int .i64 c1, .int .i64 c2, .int .i64 c3, .int .i64 c4, .int .i64 c5, .int .i64 c6, .int .i64 c7, .int .i64 c8, .int .i64 c9, .int .i64 c10, .int .i64 c11, .int .i64 c12, .int .i64 c13]]] (by decide) rfl ?_
  cbv
  obtain ⟨o6, eo6⟩ : ∃ o, o = decide (¬ (c6 < 1 ∨ 16777216 < c6 ∨ c7 < 1 ∨ 1048576 < c7)) := ⟨_, rfl⟩
  refine Call.stepE (by rw [← hP]; exact e_rule6 c0 c1 c2 c3 c4 c5 c6 c7 c8 c9 c10 c11 c12 c13 o6 eo6) rfl ?_
  cbv
  by_cases hk6 : c6 < 1 ∨ 16777216 < c6 ∨ c7 < 1 ∨ 1048576 < c7
  · obtain rfl : o6 = false := by rw [eo6]; simp only [decide_eq_false_iff_not, Classical.not_not]; exact hk6
    simp only [nf]
    cbv
    simp only [y5]
    exact ⟨_, Vw.same rfl, fin 6 (by decide) (by unfold wrongV; rw [if_neg hk1]; rw [if_neg hk2]; rw [if_neg hk3]; rw [if_neg hk4]; rw [if_neg hk5]; rw [if_pos hk6])⟩
  obtain rfl : o6 = true := by rw [eo6]; simp only [decide_eq_true_eq]; exact hk6
  clear eo6
  simp only [nt]
  cbv
  simp only [y5]
  cbv
  simp only [z6]
  cbv
  refine Idx.mk [.func (.func 48) [] [.cref [.int .i64 c0, .int .i64 c1, .int .i64 c2, .int .i64 c3, .int .i64 c4, .int .i64 c5, .int .i64 c6, .int .i64 c7, .int .i64 c8, .int .i64 c9, .int .i64 c10, .int .i64 c11, .int .i64 c12, .int .i64 c13]]] (by decide) rfl ?_
  cbv
  obtain ⟨o7, eo7⟩ : ∃ o, o = decide (¬ (IntKind.i64.wrap (32000 * c1) < IntKind.i64.wrap (c6 * c0))) := ⟨_, rfl⟩
  refine Call.stepE (by rw [← hP]; exact e_rule7 c0 c1 c2 c3 c4 c5 c6 c7 c8 c9 c10 c11 c12 c13 o7 eo7) rfl ?_
  cbv
  by_cases hk7 : IntKind.i64.wrap (32000 * c1) < IntKind.i64.wrap (c6 * c0)
  · obtain rfl : o7 = false := by rw [eo7]; simp only [decide_eq_false_iff_not, Classical.not_not]; exact hk7
    simp only [nf]
    cbv
    simp only [y6]
    exact ⟨_, Vw.same rfl, fin 7 (by decide) (by unfold wrongV; rw [if_neg hk1]; rw [if_neg hk2]; rw [if_neg hk3]; rw [if_neg hk4]; rw [if_neg hk5]; rw [if_neg hk6]; rw [if_pos hk7])⟩
  obtain rfl : o7 = true := by rw [eo7]; simp only [decide_eq_true_eq]; exact hk7
  clear eo7
  simp only [nt]
  cbv
  simp only [y6]
  cbv
  simp only [z7]
  cbv
  refine Idx.mk [.func (.func 49) [] [.cref [.int .i64 c0, .int .i64 c1, .int .i64 c2, .int .i64 c3, .int .i64 c4, .int .i64 c5, .int .i64 c6, .int .i64 c7, .int .i64 c8, .int .i64 c9, .int .i64 c10, .int .i64 c11, .int .i64 c12, .int .i64 c13]]] (by decide) rfl ?_
  cbv
  obtain ⟨o8, eo8⟩ : ∃ o, o = decide (¬ (c8 < 0 ∨ 1048576 < c8)) := ⟨_, rfl⟩
  refine Call.stepE (by rw [← hP]; exact e_rule8 c0 c1 c2 c3 c4 c5 c6 c7 c8 c9 c10 c11 c12 c13 o8 eo8) rfl ?_
  cbv
  by_cases hk8 : c8 < 0 ∨ 1048576 < c8
  · obtain rfl : o8 = false := by rw [eo8]; simp only [decide_eq_false_iff_not, Classical.not_not]; exact hk8
    simp only [nf]
    cbv
    simp only [y7]
    exact ⟨_, Vw.same rfl, fin 8 (by decide) (by unfold wrongV; rw [if_neg hk1]; rw [if_neg hk2]; rw [if_neg hk3]; rw [if_neg hk4]; rw [if_neg hk5]; rw [if_neg hk6]; rw [if_neg hk7]; rw [if_pos hk8])⟩
  obtain rfl : o8 = true := by rw [eo8]; simp only [decide_eq_true_eq]; exact hk8
  clear eo8
  simp only [nt]
  cbv
  simp only [y7]
  cbv
  simp only [z8]
  cbv
  refine Idx.mk [.func (.func 50) [] [.cref [.int .i64 c0, .int .i64 c1, .int .i64 c2, .int .i64 c3, .int .i64 c4, .int .i64 c5, .int .i64 c6, .int .i64 c7, .int .i64 c8, .int .i64 c9, .int .i64 c10, .int .i64 c11, .int .i64 c12, .int .i64 c13]]] (by decide) rfl ?_
  cbv
  obtain ⟨o9, eo9⟩ : ∃ o, o = decide (¬ (c9 < 1 ∨ 1000 < c9 ∨ c12 < 1 ∨ 1000 < c12)) := ⟨_, rfl⟩
  refine Call.stepE (by rw [← hP]; exact e_rule9 c0 c1 c2 c3 c4 c5 c6 c7 c8 c9 c10 c11 c12 c13 o9 eo9) rfl ?_
  cbv
  by_cases hk9 : c9 < 1 ∨ 1000 < c9 ∨ c12 < 1 ∨ 1000 < c12
  · obtain rfl : o9 = false := by rw [eo9]; simp only [decide_eq_false_iff_not, Classical.not_not]; exact hk9
    simp only [nf]
    cbv
    simp only [y8]
    exact ⟨_, Vw.same rfl, fin 9 (by decide) (by unfold wrongV; rw [if_neg hk1]; rw [if_neg hk2]; rw [if_neg hk3]; rw [if_neg hk4]; rw [if_neg hk5]; rw [if_neg hk6]; rw [if_neg hk7]; rw [if_neg hk8]; rw [if_pos hk9])⟩
  obtain rfl : o9 = true := by rw [eo9]; simp only [decide_eq_true_eq]; exact hk9
  clear eo9
  simp only [nt]
  cbv
  simp only [y8]
  cbv
  simp only [z9]
  cbv
  refine Idx.mk [.func (.func 51) [] [.cref [.int .i64 c0, .int .i64 c1, .int .i64 c2, .int .i64 c3, .int .i64 c4, .int .i64 c5, .int .i64 c6, .int .i64 c7, .int .i64 c8, .int .i64 c9, .int .i64 c10, .int .i64 c11, .int .i64 c12, .int .i64 c13]]] (by decide) rfl ?_
  cbv
  obtain ⟨o10, eo10⟩ : ∃ o, o = decide (¬ (c10 < (c2 + c0 - 1) / c0 ∨ c10 < IntKind.i64.wrap (3 * c3) ∨ 16777216 < c10)) := ⟨_, rfl⟩
  refine Call.stepE (by rw [← hP]; exact e_rule10 c0 c1 c2 c3 c4 c5 c6 c7 c8 c9 c10 c11 c12 c13 o10 (by omega) (by omega) (by omega) (by omega) eo10) rfl ?_
  cbv
  by_cases hk10 : c10 < (c2 + c0 - 1) / c0 ∨ c10 < IntKind.i64.wrap (3 * c3) ∨ 16777216 < c10
  · obtain rfl : o10 = false := by rw [eo10]; simp only [decide_eq_false_iff_not, Classical.not_not]; exact hk10
    simp only [nf]
    cbv
    simp only [y9]
    exact ⟨_, Vw.same rfl, fin 10 (by decide) (by unfold wrongV; rw [if_neg hk1]; rw [if_neg hk2]; rw [if_neg hk3]; rw [if_neg hk4]; rw [if_neg hk5]; rw [if_neg hk6]; rw [if_neg hk7]; rw [if_neg hk8]; rw [if_neg hk9]; rw [if_pos hk10])⟩
  obtain rfl : o10 = true := by rw [eo10]; simp only [decide_eq_true_eq]; exact hk10
  clear eo10
  simp only [nt]
  cbv
  simp only [y9]
  cbv
  simp only [z10]
  cbv
  refine Idx.mk [.func (.func 53) [] [.cref [.int .i64 c0, .int .i64 c1, .int .i64 c2, .int .i64 c3, .int .i64 c4, .int .i64 c5, .int .i64 c6, .int .i64 c7, .int .i64 c8, .int .i64 c9, .int .i64 c10, .int .i64 c11, .int .i64 c12, .int .i64 c13]]] (by decide) rfl ?_
  cbv
  obtain ⟨o11, eo11⟩ : ∃ o, o = decide (¬ (c11 < 0 ∨ 1073741824 < c11)) := ⟨_, rfl⟩
  refine Call.stepE (by rw [← hP]; exact e_rule11 c0 c1 c2 c3 c4 c5 c6 c7 c8 c9 c10 c11 c12 c13 o11 eo11) rfl ?_
  cbv
  by_cases hk11 : c11 < 0 ∨ 1073741824 < c11
  · obtain rfl : o11 = false := by rw [eo11]; simp only [decide_eq_false_iff_not, Classical.not_not]; exact hk11
    simp only [nf]
    cbv
    simp only [y10]
    exact ⟨_, Vw.same rfl, fin 11 (by decide) (by unfold wrongV; rw [if_neg hk1]; rw [if_neg hk2]; rw [if_neg hk3]; rw [if_neg hk4]; rw [if_neg hk5]; rw [if_neg hk6]; rw [if_neg hk7]; rw [if_neg hk8]; rw [if_neg hk9]; rw [if_neg hk10]; rw [if_pos hk11])⟩
  obtain rfl : o11 = true := by rw [eo11]; simp only [decide_eq_true_eq]; exact hk11
  clear eo11
  simp only [nt]
  cbv
  simp only [y10]
  cbv
  simp only [z11]
  cbv
  refine Idx.mk [.func (.func 54) [] [.cref [.int .i64 c0, .int .i64 c1, .int .i64 c2, .int .i64 c3, .int .i64 c4, .int .i64 c5, .int .i64 c6, .int .i64 c7, .int .i64 c8, .int .i64 c9, .int .i64 c10, .int .i64 c11, .int .i64 c12, .int .i64 c13]]] (by decide) rfl ?_
  cbv
  obtain ⟨o12, eo12⟩ : ∃ o, o = decide (¬ (c13 < 1 ∨ 1048576 < c13)) := ⟨_, rfl⟩
  refine Call.stepE (by rw [← hP]; exact e_rule12 c0 c1 c2 c3 c4 c5 c6 c7 c8 c9 c10 c11 c12 c13 o12 eo12) rfl ?_
  cbv
  by_cases hk12 : c13 < 1 ∨ 1048576 < c13
  · obtain rfl : o12 = false := by rw [eo12]; simp only [decide_eq_false_iff_not, Classical.not_not]; exact hk12
    simp only [nf]
    cbv
    simp only [y11]
    exact ⟨_, Vw.same rfl, fin 12 (by decide) (by unfold wrongV; rw [if_neg hk1]; rw [if_neg hk2]; rw [if_neg hk3]; rw [if_neg hk4]; rw [if_neg hk5]; rw [if_neg hk6]; rw [if_neg hk7]; rw [if_neg hk8]; rw [if_neg hk9]; rw [if_neg hk10]; rw [if_neg hk11]; rw [if_pos hk12])⟩
  obtain rfl : o12 = true := by rw [eo12]; simp only [decide_eq_true_eq]; exact hk12
  clear eo12
  simp only [nt]
  cbv
  simp only [y11]
  cbv
  simp only [z12]
  cbv
  exact ⟨_, Vw.same rfl, hR _ (by rw [he, hw0, show wrongV c0 c1 c2 c3 c4 c5 c6 c7 c8 c9 c10 c11 c12 c13 = 0 by unfold wrongV; rw [if_neg hk1]; rw [if_neg hk2]; rw [if_neg hk3]; rw [if_neg hk4]; rw [if_neg hk5]; rw [if_neg hk6]; rw [if_neg hk7]; rw [if_neg hk8]; rw [if_neg hk9]; rw [if_neg hk10]; rw [if_neg hk11]; rw [if_neg hk12]]; rfl)⟩
end Go.Proofs.YtdjafcjpnjdphaaDoor

/- Texts that are parsed: what both parsers do, and the program's by the engine. -/
set_option linter.unusedVariables false
set_option linter.unusedSimpArgs false
namespace Go.Proofs.YtdjafcjpnjdphaaDoor
open Go Go.RowKit Go.Eng Go.Shelf
set_option maxRecDepth 100000
theorem e_cfOf (c0 c1 c2 c3 c4 c5 c6 c7 c8 c9 c10 c11 c12 c13 : Int) (h9 : In64 c9) (h12 : In64 c12) : PCalls Tryd.prog 20 [.agg [.int .i64 c0, .int .i64 c1, .int .i64 c2, .int .i64 c3, .int .i64 c4, .int .i64 c5, .int .i64 c6, .int .i64 c7, .int .i64 c8, .int .i64 c9, .int .i64 c10, .int .i64 c11, .int .i64 c12, .int .i64 c13]] (· = cfA c0 c1 c2 c3 c4 c5 c6 c7 c8 c9 c10 c11 c12 c13) := by
  (refine PCalls.ofY Tryd.func20 (by kernel_rfl) (by kernel_rfl) fun w hw R hR => ?_); (obtain ⟨wbin, wcmp, wun, wconv, wnot, wbeq, wmm, wscmp, wsadd, wslen, wsat, weqs, wlen, wnlen, wofNat, wtake, wdrop, wapp, wzero, wnat⟩ := w); (have hbin : wbin = binStd := congrArg Prims.bin hw); (have hcmp : wcmp = cmpStd := congrArg Prims.cmp hw); (have hun : wun = unStd := congrArg Prims.un hw); (have hconv : wconv = fun k n => k.wrap n := congrArg Prims.conv hw); (have hnot : wnot = fun b => !b := congrArg Prims.not hw); (have hbeq : wbeq = fun a b => a == b := congrArg Prims.beq hw); (have hmm : wmm = maxI := congrArg Prims.mm hw); (have hscmp : wscmp = scmpStd := congrArg Prims.scmp hw); (have hsadd : wsadd = fun x y => x ++ y := congrArg Prims.sadd hw); (have hslen : wslen = fun s => (s.size : Int) := congrArg Prims.slen hw); (have hsat : wsat = std.sat := congrArg Prims.sat hw); (have heqs : weqs = fun a b os => (eqOffs a b os).getD false := congrArg Prims.eqs hw); (have hlen : wlen = fun es => (es.length : Int) := congrArg Prims.len hw); (have hnlen : wnlen = fun es => es.length := congrArg Prims.nlen hw); (have hofNat : wofNat = (fun n : Nat => (n : Int)) := congrArg Prims.ofNat hw); (have htake : wtake = fun es b => es.take b.toNat := congrArg Prims.take hw); (have hdrop : wdrop = fun es a => es.drop a.toNat := congrArg Prims.drop hw); (have happ : wapp = fun a b => a ++ b := congrArg Prims.app hw); (have hzero : wzero = fun n z => List.replicate n.toNat z := congrArg Prims.zero hw); (have hnat : wnat = fun n => n.toNat := congrArg Prims.nat hw); (conv => arg 2; cbv); (generalize hP : Tryd.prog = P); cbv
  repeat' (first
    | (refine InN.mk (by decide) (by decide) ?_; cbv)
    | fail)
  exact ⟨_, Vw.same rfl, hR _ rfl⟩
theorem e_rnames : PCalls Tryd.prog 23 [] (· = .agg (nmsB.map AV.str)) := by
  (refine PCalls.ofY Tryd.func23 (by kernel_rfl) (by kernel_rfl) fun w hw R hR => ?_); (obtain ⟨wbin, wcmp, wun, wconv, wnot, wbeq, wmm, wscmp, wsadd, wslen, wsat, weqs, wlen, wnlen, wofNat, wtake, wdrop, wapp, wzero, wnat⟩ := w); (have hbin : wbin = binStd := congrArg Prims.bin hw); (have hcmp : wcmp = cmpStd := congrArg Prims.cmp hw); (have hun : wun = unStd := congrArg Prims.un hw); (have hconv : wconv = fun k n => k.wrap n := congrArg Prims.conv hw); (have hnot : wnot = fun b => !b := congrArg Prims.not hw); (have hbeq : wbeq = fun a b => a == b := congrArg Prims.beq hw); (have hmm : wmm = maxI := congrArg Prims.mm hw); (have hscmp : wscmp = scmpStd := congrArg Prims.scmp hw); (have hsadd : wsadd = fun x y => x ++ y := congrArg Prims.sadd hw); (have hslen : wslen = fun s => (s.size : Int) := congrArg Prims.slen hw); (have hsat : wsat = std.sat := congrArg Prims.sat hw); (have heqs : weqs = fun a b os => (eqOffs a b os).getD false := congrArg Prims.eqs hw); (have hlen : wlen = fun es => (es.length : Int) := congrArg Prims.len hw); (have hnlen : wnlen = fun es => es.length := congrArg Prims.nlen hw); (have hofNat : wofNat = (fun n : Nat => (n : Int)) := congrArg Prims.ofNat hw); (have htake : wtake = fun es b => es.take b.toNat := congrArg Prims.take hw); (have hdrop : wdrop = fun es a => es.drop a.toNat := congrArg Prims.drop hw); (have happ : wapp = fun a b => a ++ b := congrArg Prims.app hw); (have hzero : wzero = fun n z => List.replicate n.toNat z := congrArg Prims.zero hw); (have hnat : wnat = fun n => n.toNat := congrArg Prims.nat hw); (conv => arg 2; cbv); (generalize hP : Tryd.prog = P); cbv
  exact ⟨_, Vw.same rfl, hR _ rfl⟩
theorem e_rof (c0 c1 c2 c3 c4 c5 c6 c7 c8 c9 c10 c11 c12 c13 : Int) : PCalls Tryd.prog 13 [.agg [.int .i64 c0, .int .i64 c1, .int .i64 c2, .int .i64 c3, .int .i64 c4, .int .i64 c5, .int .i64 c6, .int .i64 c7, .int .i64 c8, .int .i64 c9, .int .i64 c10, .int .i64 c11, .int .i64 c12, .int .i64 c13]] (· = cfA c0 c1 c2 c3 c4 c5 c6 c7 c8 c9 c10 c11 c12 c13) := by
  (refine PCalls.ofY Tryd.func13 (by kernel_rfl) (by kernel_rfl) fun w hw R hR => ?_); (obtain ⟨wbin, wcmp, wun, wconv, wnot, wbeq, wmm, wscmp, wsadd, wslen, wsat, weqs, wlen, wnlen, wofNat, wtake, wdrop, wapp, wzero, wnat⟩ := w); (have hbin : wbin = binStd := congrArg Prims.bin hw); (have hcmp : wcmp = cmpStd := congrArg Prims.cmp hw); (have hun : wun = unStd := congrArg Prims.un hw); (have hconv : wconv = fun k n => k.wrap n := congrArg Prims.conv hw); (have hnot : wnot = fun b => !b := congrArg Prims.not hw); (have hbeq : wbeq = fun a b => a == b := congrArg Prims.beq hw); (have hmm : wmm = maxI := congrArg Prims.mm hw); (have hscmp : wscmp = scmpStd := congrArg Prims.scmp hw); (have hsadd : wsadd = fun x y => x ++ y := congrArg Prims.sadd hw); (have hslen : wslen = fun s => (s.size : Int) := congrArg Prims.slen hw); (have hsat : wsat = std.sat := congrArg Prims.sat hw); (have heqs : weqs = fun a b os => (eqOffs a b os).getD false := congrArg Prims.eqs hw); (have hlen : wlen = fun es => (es.length : Int) := congrArg Prims.len hw); (have hnlen : wnlen = fun es => es.length := congrArg Prims.nlen hw); (have hofNat : wofNat = (fun n : Nat => (n : Int)) := congrArg Prims.ofNat hw); (have htake : wtake = fun es b => es.take b.toNat := congrArg Prims.take hw); (have hdrop : wdrop = fun es a => es.drop a.toNat := congrArg Prims.drop hw); (have happ : wapp = fun a b => a ++ b := congrArg Prims.app hw); (have hzero : wzero = fun n z => List.replicate n.toNat z := congrArg Prims.zero hw); (have hnat : wnat = fun n => n.toNat := congrArg Prims.nat hw); (conv => arg 2; cbv); (generalize hP : Tryd.prog = P); cbv
  repeat' (first
    | (refine InN.mk (by decide) (by decide) ?_; cbv)
    | fail)
  exact ⟨_, Vw.same rfl, hR _ rfl⟩
inductive Par where
  | bad (e l : Int)
  | good (ns : List Int)
/-- What a text says, line by line. -/
inductive Says : List ByteArray → Int → ByteArray → List Int → Par → Prop
  | long {i s acc} (h : s ≠ ⟨#[]⟩) : Says [] i s acc (.bad 15 16)
  | done {i s acc} (h : s = ⟨#[]⟩) : Says [] i s acc (.good acc)
  | short {nm nms i s acc l r} (h : CutOf 10 s l r false) : Says (nm :: nms) i s acc (.bad 14 i)
  | kind {nm nms i s acc l r w v two} (h : CutOf 10 s l r true) (h2 : CutOf 32 l w v two) (h3 : w ≠ nm ∨ two ≠ !nms.isEmpty) : Says (nm :: nms) i s acc (.bad 30 i)
  | form {nm nm2 nms i s acc l r v n} (h : CutOf 10 s l r true) (h2 : CutOf 32 l nm v true) (h3 : NumSays v n false) : Says (nm :: nm2 :: nms) i s acc (.bad 11 i)
  | num {nm nm2 nms i s acc l r v n X} (h : CutOf 10 s l r true) (h2 : CutOf 32 l nm v true) (h3 : NumSays v n true) (h4 : Says (nm2 :: nms) (i + 1) r (acc ++ [n]) X) : Says (nm :: nm2 :: nms) i s acc X
  | last {nm i s acc l r v X} (h : CutOf 10 s l r true) (h2 : CutOf 32 l nm v false) (h4 : Says [] (i + 1) r acc X) : Says [nm] i s acc X
theorem cut_size {c : UInt8} {s a b : ByteArray} {ok : Bool} (h : CutOf c s a b ok) : a.size ≤ s.size ∧ b.size ≤ s.size := by
  rcases h with ⟨_, _, h3, h4⟩ | ⟨_, _, h3, h4⟩
  · rw [h3, h4]; exact ⟨Nat.le_refl _, Nat.zero_le _⟩
  · rw [← h3, ← h4, ByteArray.size_extract, ByteArray.size_extract]
    constructor <;> omega
structure Sz5 (s : ByteArray) : Prop where
  h : s.size ≤ 100000
theorem sz5 {c : UInt8} {s a b : ByteArray} {ok : Bool} (h : CutOf c s a b ok) (hs : Sz5 s) : Sz5 a ∧ Sz5 b := by
  obtain ⟨h1, h2⟩ := cut_size h
  have := hs.h
  exact ⟨⟨by omega⟩, ⟨by omega⟩⟩
theorem sne_t {a b : ByteArray} (h : scmpStd .neq a b = true) : a ≠ b := fun e => by
  subst e
  have : scmpStd .neq a a = !(a.toList == a.toList) := rfl
  rw [this] at h; simp at h
theorem sne_f {a b : ByteArray} (h : scmpStd .neq a b = false) : a = b := by
  have : scmpStd .neq a b = !(a.toList == b.toList) := rfl
  rw [this] at h
  simp at h
  exact Go.Eng.toList_inj h
structure Goes (nms : List ByteArray) (i : Int) (s : ByteArray) (acc : List Int) (s0 : ByteArray) : Prop where
  h : ∀ X, Says nms i s acc X → Says nmsB 1 s0 [] X
def ParPost (s : ByteArray) (r : AV) : Prop := (∃ e l, Says nmsB 1 s [] (.bad e l) ∧ e ≠ 0 ∧ r = .tuple [cfA 0 0 0 0 0 0 0 0 0 0 0 0 0 0, .int .i64 e, .int .i64 l]) ∨ (∃ c0 c1 c2 c3 c4 c5 c6 c7 c8 c9 c10 c11 c12 c13, Says nmsB 1 s [] (.good [c0, c1, c2, c3, c4, c5, c6, c7, c8, c9, c10, c11, c12, c13]) ∧ ((wrongV c0 c1 c2 c3 c4 c5 c6 c7 c8 c9 c10 c11 c12 c13 = 0 ∧ r = .tuple [cfA c0 c1 c2 c3 c4 c5 c6 c7 c8 c9 c10 c11 c12 c13, .int .i64 0, .int .i64 0]) ∨ (wrongV c0 c1 c2 c3 c4 c5 c6 c7 c8 c9 c10 c11 c12 c13 ≠ 0 ∧ r = .tuple [cfA 0 0 0 0 0 0 0 0 0 0 0 0 0 0, .int .i64 50, .int .i64 (wrongV c0 c1 c2 c3 c4 c5 c6 c7 c8 c9 c10 c11 c12 c13)])))
set_option maxHeartbeats 4000000 in
theorem e_parse (s0 : ByteArray) (hs : Sz5 s0) : PCalls Tryd.prog 9 [.str s0] (ParPost s0) := by
  have hk0 : Goes nmsB 1 s0 [] s0 := ⟨fun X h => h⟩
  have HS0 := Lib.hid hs
  have HK0 := Lib.hid hk0
  clear hs hk0
  (refine PCalls.ofY Tryd.func9 (by kernel_rfl) (by kernel_rfl) fun w hw R hR => ?_); (obtain ⟨wbin, wcmp, wun, wconv, wnot, wbeq, wmm, wscmp, wsadd, wslen, wsat, weqs, wlen, wnlen, wofNat, wtake, wdrop, wapp, wzero, wnat⟩ := w); (have hbin : wbin = binStd := congrArg Prims.bin hw); (have hcmp : wcmp = cmpStd := congrArg Prims.cmp hw); (have hun : wun = unStd := congrArg Prims.un hw); (have hconv : wconv = fun k n => k.wrap n := congrArg Prims.conv hw); (have hnot : wnot = fun b => !b := congrArg Prims.not hw); (have hbeq : wbeq = fun a b => a == b := congrArg Prims.beq hw); (have hmm : wmm = maxI := congrArg Prims.mm hw); (have hscmp : wscmp = scmpStd := congrArg Prims.scmp hw); (have hsadd : wsadd = fun x y => x ++ y := congrArg Prims.sadd hw); (have hslen : wslen = fun s => (s.size : Int) := congrArg Prims.slen hw); (have hsat : wsat = std.sat := congrArg Prims.sat hw); (have heqs : weqs = fun a b os => (eqOffs a b os).getD false := congrArg Prims.eqs hw); (have hlen : wlen = fun es => (es.length : Int) := congrArg Prims.len hw); (have hnlen : wnlen = fun es => es.length := congrArg Prims.nlen hw); (have hofNat : wofNat = (fun n : Nat => (n : Int)) := congrArg Prims.ofNat hw); (have htake : wtake = fun es b => es.take b.toNat := congrArg Prims.take hw); (have hdrop : wdrop = fun es a => es.drop a.toNat := congrArg Prims.drop hw); (have happ : wapp = fun a b => a ++ b := congrArg Prims.app hw); (have hzero : wzero = fun n z => List.replicate n.toNat z := congrArg Prims.zero hw); (have hnat : wnat = fun n => n.toNat := congrArg Prims.nat hw); (conv => arg 2; cbv); (generalize hP : Tryd.prog = P); cbv
  have n0 : wnot false = true := by rw [hnot]; rfl
  have n1 : wnot true = false := by rw [hnot]; rfl
  have b00 : wbeq false false = true := by rw [hbeq]; rfl
  have b01 : wbeq false true = false := by rw [hbeq]; rfl
  have b10 : wbeq true false = false := by rw [hbeq]; rfl
  have b11 : wbeq true true = true := by rw [hbeq]; rfl
  (refine Loop.rounds hw 17 ?_; cbv)
  have l0 : wcmp .lss 0 15 = true := by rw [hcmp]; rfl
  have m0 : wcmp .lss 0 14 = true := by rw [hcmp]; rfl
  have a0 : wbin .add .i64 0 1 = 1 := by rw [hbin]; rfl
  simp only [l0]; cbv
  try (refine InN.mk (by decide) (by decide) ?_; cbv)
  obtain ⟨ln0, s1, ok0, cu0⟩ := cutOf 10 s0
  have q0 := e_cut s0 10 ln0 s1 ok0 cu0 HS0.out.h
  have HC0 := Lib.hid cu0
  have HL0 := Lib.hid (sz5 cu0 HS0.out).1
  have HS1 := Lib.hid (sz5 cu0 HS0.out).2
  clear cu0
  refine Call.stepE (by rw [← hP]; exact q0) rfl ?_
  clear q0
  cbv
  cases ok0
  · simp only [n0]; cbv
    simp only [a0]
    try (refine hR' _ _ ?_; cbv)
    exact ⟨_, Vw.same rfl, hR _ (.inl ⟨14, 1, HK0.out.h _ (.short HC0.out), by decide, rfl⟩)⟩
  simp only [n1]; cbv
  obtain ⟨w0, x0, tw0, cv0⟩ := cutOf 32 ln0
  have q0 := e_cut ln0 32 w0 x0 tw0 cv0 HL0.out.h
  have HD0 := Lib.hid cv0
  have HX0 := Lib.hid (sz5 cv0 HL0.out).2
  clear cv0
  refine Call.stepE (by rw [← hP]; exact q0) rfl ?_
  clear q0
  cbv
  split
  · rename_i b he
    rw [hscmp] at he
    have HN := Lib.hid (sne_t he)
    clear he
    cbv
    simp only [a0]
    exact ⟨_, Vw.same rfl, hR _ (.inl ⟨30, 1, HK0.out.h _ (.kind HC0.out HD0.out (.inl HN.out)), by decide, rfl⟩)⟩
  rename_i b he
  rw [hscmp] at he
  obtain rfl := sne_f he
  clear he
  cbv
  simp only [m0]
  cases tw0
  · simp only [b01, n0]; cbv
    simp only [a0]
    exact ⟨_, Vw.same rfl, hR _ (.inl ⟨30, 1, HK0.out.h _ (.kind HC0.out HD0.out (.inr (by decide))), by decide, rfl⟩)⟩
  simp only [b11, n1]; cbv
  simp only [m0]; cbv
  refine Call.step (by rw [← hP]; exact e_number x0 HX0.out.h) rfl ?_
  rintro r ⟨v0, ok0, rfl, hn0⟩
  have HV0 := Lib.hid hn0
  clear hn0
  cbv
  cases ok0
  · simp only [n0]; cbv
    simp only [a0]
    exact ⟨_, Vw.same rfl, hR _ (.inl ⟨11, 1, HK0.out.h _ (.form HC0.out HD0.out HV0.out), by decide, rfl⟩)⟩
  simp only [n1]; cbv
  repeat' (first
    | (simp only [m0]; cbv)
    | (refine InN.mk (by decide) (by decide) ?_; cbv)
    | (simp only [a0]; cbv)
    | fail)
  have hk1 : Goes (nmsB.drop 1) 2 s1 [v0] s0 := ⟨fun X h => HK0.out.h X (.num HC0.out HD0.out HV0.out h)⟩
  have HK1 := Lib.hid hk1
  clear hk1 HK0 HC0 HD0 HX0 HL0 HS0
  have l1 : wcmp .lss 1 15 = true := by rw [hcmp]; rfl
  have m1 : wcmp .lss 1 14 = true := by rw [hcmp]; rfl
  have a1 : wbin .add .i64 1 1 = 2 := by rw [hbin]; rfl
  simp only [l1]; cbv
  try (refine InN.mk (by decide) (by decide) ?_; cbv)
  obtain ⟨ln1, s2, ok1, cu1⟩ := cutOf 10 s1
  have q1 := e_cut s1 10 ln1 s2 ok1 cu1 HS1.out.h
  have HC1 := Lib.hid cu1
  have HL1 := Lib.hid (sz5 cu1 HS1.out).1
  have HS2 := Lib.hid (sz5 cu1 HS1.out).2
  clear cu1
  refine Call.stepE (by rw [← hP]; exact q1) rfl ?_
  clear q1
  cbv
  cases ok1
  · simp only [n0]; cbv
    simp only [a1]
    try (refine hR' _ _ ?_; cbv)
    exact ⟨_, Vw.same rfl, hR _ (.inl ⟨14, 2, HK1.out.h _ (.short HC1.out), by decide, rfl⟩)⟩
  simp only [n1]; cbv
  obtain ⟨w1, x1, tw1, cv1⟩ := cutOf 32 ln1
  have q1 := e_cut ln1 32 w1 x1 tw1 cv1 HL1.out.h
  have HD1 := Lib.hid cv1
  have HX1 := Lib.hid (sz5 cv1 HL1.out).2
  clear cv1
  refine Call.stepE (by rw [← hP]; exact q1) rfl ?_
  clear q1
  cbv
  split
  · rename_i b he
    rw [hscmp] at he
    have HN := Lib.hid (sne_t he)
    clear he
    cbv
    simp only [a1]
    exact ⟨_, Vw.same rfl, hR _ (.inl ⟨30, 2, HK1.out.h _ (.kind HC1.out HD1.out (.inl HN.out)), by decide, rfl⟩)⟩
  rename_i b he
  rw [hscmp] at he
  obtain rfl := sne_f he
  clear he
  cbv
  simp only [m1]
  cases tw1
  · simp only [b01, n0]; cbv
    simp only [a1]
    exact ⟨_, Vw.same rfl, hR _ (.inl ⟨30, 2, HK1.out.h _ (.kind HC1.out HD1.out (.inr (by decide))), by decide, rfl⟩)⟩
  simp only [b11, n1]; cbv
  simp only [m1]; cbv
  refine Call.step (by rw [← hP]; exact e_number x1 HX1.out.h) rfl ?_
  rintro r ⟨v1, ok1, rfl, hn1⟩
  have HV1 := Lib.hid hn1
  clear hn1
  cbv
  cases ok1
  · simp only [n0]; cbv
    simp only [a1]
    exact ⟨_, Vw.same rfl, hR _ (.inl ⟨11, 2, HK1.out.h _ (.form HC1.out HD1.out HV1.out), by decide, rfl⟩)⟩
  simp only [n1]; cbv
  repeat' (first
    | (simp only [m1]; cbv)
    | (refine InN.mk (by decide) (by decide) ?_; cbv)
    | (simp only [a1]; cbv)
    | fail)
  have hk2 : Goes (nmsB.drop 2) 3 s2 [v0, v1] s0 := ⟨fun X h => HK1.out.h X (.num HC1.out HD1.out HV1.out h)⟩
  have HK2 := Lib.hid hk2
  clear hk2 HK1 HC1 HD1 HX1 HL1 HS1
  have l2 : wcmp .lss 2 15 = true := by rw [hcmp]; rfl
  have m2 : wcmp .lss 2 14 = true := by rw [hcmp]; rfl
  have a2 : wbin .add .i64 2 1 = 3 := by rw [hbin]; rfl
  simp only [l2]; cbv
  try (refine InN.mk (by decide) (by decide) ?_; cbv)
  obtain ⟨ln2, s3, ok2, cu2⟩ := cutOf 10 s2
  have q2 := e_cut s2 10 ln2 s3 ok2 cu2 HS2.out.h
  have HC2 := Lib.hid cu2
  have HL2 := Lib.hid (sz5 cu2 HS2.out).1
  have HS3 := Lib.hid (sz5 cu2 HS2.out).2
  clear cu2
  refine Call.stepE (by rw [← hP]; exact q2) rfl ?_
  clear q2
  cbv
  cases ok2
  · simp only [n0]; cbv
    simp only [a2]
    try (refine hR' _ _ ?_; cbv)
    exact ⟨_, Vw.same rfl, hR _ (.inl ⟨14, 3, HK2.out.h _ (.short HC2.out), by decide, rfl⟩)⟩
  simp only [n1]; cbv
  obtain ⟨w2, x2, tw2, cv2⟩ := cutOf 32 ln2
  have q2 := e_cut ln2 32 w2 x2 tw2 cv2 HL2.out.h
  have HD2 := Lib.hid cv2
  have HX2 := Lib.hid (sz5 cv2 HL2.out).2
  clear cv2
  refine Call.stepE (by rw [← hP]; exact q2) rfl ?_
  clear q2
  cbv
  split
  · rename_i b he
    rw [hscmp] at he
    have HN := Lib.hid (sne_t he)
    clear he
    cbv
    simp only [a2]
    exact ⟨_, Vw.same rfl, hR _ (.inl ⟨30, 3, HK2.out.h _ (.kind HC2.out HD2.out (.inl HN.out)), by decide, rfl⟩)⟩
  rename_i b he
  rw [hscmp] at he
  obtain rfl := sne_f he
  clear he
  cbv
  simp only [m2]
  cases tw2
  · simp only [b01, n0]; cbv
    simp only [a2]
    exact ⟨_, Vw.same rfl, hR _ (.inl ⟨30, 3, HK2.out.h _ (.kind HC2.out HD2.out (.inr (by decide))), by decide, rfl⟩)⟩
  simp only [b11, n1]; cbv
  simp only [m2]; cbv
  refine Call.step (by rw [← hP]; exact e_number x2 HX2.out.h) rfl ?_
  rintro r ⟨v2, ok2, rfl, hn2⟩
  have HV2 := Lib.hid hn2
  clear hn2
  cbv
  cases ok2
  · simp only [n0]; cbv
    simp only [a2]
    exact ⟨_, Vw.same rfl, hR _ (.inl ⟨11, 3, HK2.out.h _ (.form HC2.out HD2.out HV2.out), by decide, rfl⟩)⟩
  simp only [n1]; cbv
  repeat' (first
    | (simp only [m2]; cbv)
    | (refine InN.mk (by decide) (by decide) ?_; cbv)
    | (simp only [a2]; cbv)
    | fail)
  have hk3 : Goes (nmsB.drop 3) 4 s3 [v0, v1, v2] s0 := ⟨fun X h => HK2.out.h X (.num HC2.out HD2.out HV2.out h)⟩
  have HK3 := Lib.hid hk3
  clear hk3 HK2 HC2 HD2 HX2 HL2 HS2
  have l3 : wcmp .lss 3 15 = true := by rw [hcmp]; rfl
  have m3 : wcmp .lss 3 14 = true := by rw [hcmp]; rfl
  have a3 : wbin .add .i64 3 1 = 4 := by rw [hbin]; rfl
  simp only [l3]; cbv
  try (refine InN.mk (by decide) (by decide) ?_; cbv)
  obtain ⟨ln3, s4, ok3, cu3⟩ := cutOf 10 s3
  have q3 := e_cut s3 10 ln3 s4 ok3 cu3 HS3.out.h
  have HC3 := Lib.hid cu3
  have HL3 := Lib.hid (sz5 cu3 HS3.out).1
  have HS4 := Lib.hid (sz5 cu3 HS3.out).2
  clear cu3
  refine Call.stepE (by rw [← hP]; exact q3) rfl ?_
  clear q3
  cbv
  cases ok3
  · simp only [n0]; cbv
    simp only [a3]
    try (refine hR' _ _ ?_; cbv)
    exact ⟨_, Vw.same rfl, hR _ (.inl ⟨14, 4, HK3.out.h _ (.short HC3.out), by decide, rfl⟩)⟩
  simp only [n1]; cbv
  obtain ⟨w3, x3, tw3, cv3⟩ := cutOf 32 ln3
  have q3 := e_cut ln3 32 w3 x3 tw3 cv3 HL3.out.h
  have HD3 := Lib.hid cv3
  have HX3 := Lib.hid (sz5 cv3 HL3.out).2
  clear cv3
  refine Call.stepE (by rw [← hP]; exact q3) rfl ?_
  clear q3
  cbv
  split
  · rename_i b he
    rw [hscmp] at he
    have HN := Lib.hid (sne_t he)
    clear he
    cbv
    simp only [a3]
    exact ⟨_, Vw.same rfl, hR _ (.inl ⟨30, 4, HK3.out.h _ (.kind HC3.out HD3.out (.inl HN.out)), by decide, rfl⟩)⟩
  rename_i b he
  rw [hscmp] at he
  obtain rfl := sne_f he
  clear he
  cbv
  simp only [m3]
  cases tw3
  · simp only [b01, n0]; cbv
    simp only [a3]
    exact ⟨_, Vw.same rfl, hR _ (.inl ⟨30, 4, HK3.out.h _ (.kind HC3.out HD3.out (.inr (by decide))), by decide, rfl⟩)⟩
  simp only [b11, n1]; cbv
  simp only [m3]; cbv
  refine Call.step (by rw [← hP]; exact e_number x3 HX3.out.h) rfl ?_
  rintro r ⟨v3, ok3, rfl, hn3⟩
  have HV3 := Lib.hid hn3
  clear hn3
  cbv
  cases ok3
  · simp only [n0]; cbv
    simp only [a3]
    exact ⟨_, Vw.same rfl, hR _ (.inl ⟨11, 4, HK3.out.h _ (.form HC3.out HD3.out HV3.out), by decide, rfl⟩)⟩
  simp only [n1]; cbv
  repeat' (first
    | (simp only [m3]; cbv)
    | (refine InN.mk (by decide) (by decide) ?_; cbv)
    | (simp only [a3]; cbv)
    | fail)
  have hk4 : Goes (nmsB.drop 4) 5 s4 [v0, v1, v2, v3] s0 := ⟨fun X h => HK3.out.h X (.num HC3.out HD3.out HV3.out h)⟩
  have HK4 := Lib.hid hk4
  clear hk4 HK3 HC3 HD3 HX3 HL3 HS3
  have l4 : wcmp .lss 4 15 = true := by rw [hcmp]; rfl
  have m4 : wcmp .lss 4 14 = true := by rw [hcmp]; rfl
  have a4 : wbin .add .i64 4 1 = 5 := by rw [hbin]; rfl
  simp only [l4]; cbv
  try (refine InN.mk (by decide) (by decide) ?_; cbv)
  obtain ⟨ln4, s5, ok4, cu4⟩ := cutOf 10 s4
  have q4 := e_cut s4 10 ln4 s5 ok4 cu4 HS4.out.h
  have HC4 := Lib.hid cu4
  have HL4 := Lib.hid (sz5 cu4 HS4.out).1
  have HS5 := Lib.hid (sz5 cu4 HS4.out).2
  clear cu4
  refine Call.stepE (by rw [← hP]; exact q4) rfl ?_
  clear q4
  cbv
  cases ok4
  · simp only [n0]; cbv
    simp only [a4]
    try (refine hR' _ _ ?_; cbv)
    exact ⟨_, Vw.same rfl, hR _ (.inl ⟨14, 5, HK4.out.h _ (.short HC4.out), by decide, rfl⟩)⟩
  simp only [n1]; cbv
  obtain ⟨w4, x4, tw4, cv4⟩ := cutOf 32 ln4
  have q4 := e_cut ln4 32 w4 x4 tw4 cv4 HL4.out.h
  have HD4 := Lib.hid cv4
  have HX4 := Lib.hid (sz5 cv4 HL4.out).2
  clear cv4
  refine Call.stepE (by rw [← hP]; exact q4) rfl ?_
  clear q4
  cbv
  split
  · rename_i b he
    rw [hscmp] at he
    have HN := Lib.hid (sne_t he)
    clear he
    cbv
    simp only [a4]
    exact ⟨_, Vw.same rfl, hR _ (.inl ⟨30, 5, HK4.out.h _ (.kind HC4.out HD4.out (.inl HN.out)), by decide, rfl⟩)⟩
  rename_i b he
  rw [hscmp] at he
  obtain rfl := sne_f he
  clear he
  cbv
  simp only [m4]
  cases tw4
  · simp only [b01, n0]; cbv
    simp only [a4]
    exact ⟨_, Vw.same rfl, hR _ (.inl ⟨30, 5, HK4.out.h _ (.kind HC4.out HD4.out (.inr (by decide))), by decide, rfl⟩)⟩
  simp only [b11, n1]; cbv
  simp only [m4]; cbv
  refine Call.step (by rw [← hP]; exact e_number x4 HX4.out.h) rfl ?_
  rintro r ⟨v4, ok4, rfl, hn4⟩
  have HV4 := Lib.hid hn4
  clear hn4
  cbv
  cases ok4
  · simp only [n0]; cbv
    simp only [a4]
    exact ⟨_, Vw.same rfl, hR _ (.inl ⟨11, 5, HK4.out.h _ (.form HC4.out HD4.out HV4.out), by decide, rfl⟩)⟩
  simp only [n1]; cbv
  repeat' (first
    | (simp only [m4]; cbv)
    | (refine InN.mk (by decide) (by decide) ?_; cbv)
    | (simp only [a4]; cbv)
    | fail)
  have hk5 : Goes (nmsB.drop 5) 6 s5 [v0, v1, v2, v3, v4] s0 := ⟨fun X h => HK4.out.h X (.num HC4.out HD4.out HV4.out h)⟩
  have HK5 := Lib.hid hk5
  clear hk5 HK4 HC4 HD4 HX4 HL4 HS4
  have l5 : wcmp .lss 5 15 = true := by rw [hcmp]; rfl
  have m5 : wcmp .lss 5 14 = true := by rw [hcmp]; rfl
  have a5 : wbin .add .i64 5 1 = 6 := by rw [hbin]; rfl
  simp only [l5]; cbv
  try (refine InN.mk (by decide) (by decide) ?_; cbv)
  obtain ⟨ln5, s6, ok5, cu5⟩ := cutOf 10 s5
  have q5 := e_cut s5 10 ln5 s6 ok5 cu5 HS5.out.h
  have HC5 := Lib.hid cu5
  have HL5 := Lib.hid (sz5 cu5 HS5.out).1
  have HS6 := Lib.hid (sz5 cu5 HS5.out).2
  clear cu5
  refine Call.stepE (by rw [← hP]; exact q5) rfl ?_
  clear q5
  cbv
  cases ok5
  · simp only [n0]; cbv
    simp only [a5]
    try (refine hR' _ _ ?_; cbv)
    exact ⟨_, Vw.same rfl, hR _ (.inl ⟨14, 6, HK5.out.h _ (.short HC5.out), by decide, rfl⟩)⟩
  simp only [n1]; cbv
  obtain ⟨w5, x5, tw5, cv5⟩ := cutOf 32 ln5
  have q5 := e_cut ln5 32 w5 x5 tw5 cv5 HL5.out.h
  have HD5 := Lib.hid cv5
  have HX5 := Lib.hid (sz5 cv5 HL5.out).2
  clear cv5
  refine Call.stepE (by rw [← hP]; exact q5) rfl ?_
  clear q5
  cbv
  split
  · rename_i b he
    rw [hscmp] at he
    have HN := Lib.hid (sne_t he)
    clear he
    cbv
    simp only [a5]
    exact ⟨_, Vw.same rfl, hR _ (.inl ⟨30, 6, HK5.out.h _ (.kind HC5.out HD5.out (.inl HN.out)), by decide, rfl⟩)⟩
  rename_i b he
  rw [hscmp] at he
  obtain rfl := sne_f he
  clear he
  cbv
  simp only [m5]
  cases tw5
  · simp only [b01, n0]; cbv
    simp only [a5]
    exact ⟨_, Vw.same rfl, hR _ (.inl ⟨30, 6, HK5.out.h _ (.kind HC5.out HD5.out (.inr (by decide))), by decide, rfl⟩)⟩
  simp only [b11, n1]; cbv
  simp only [m5]; cbv
  refine Call.step (by rw [← hP]; exact e_number x5 HX5.out.h) rfl ?_
  rintro r ⟨v5, ok5, rfl, hn5⟩
  have HV5 := Lib.hid hn5
  clear hn5
  cbv
  cases ok5
  · simp only [n0]; cbv
    simp only [a5]
    exact ⟨_, Vw.same rfl, hR _ (.inl ⟨11, 6, HK5.out.h _ (.form HC5.out HD5.out HV5.out), by decide, rfl⟩)⟩
  simp only [n1]; cbv
  repeat' (first
    | (simp only [m5]; cbv)
    | (refine InN.mk (by decide) (by decide) ?_; cbv)
    | (simp only [a5]; cbv)
    | fail)
  have hk6 : Goes (nmsB.drop 6) 7 s6 [v0, v1, v2, v3, v4, v5] s0 := ⟨fun X h => HK5.out.h X (.num HC5.out HD5.out HV5.out h)⟩
  have HK6 := Lib.hid hk6
  clear hk6 HK5 HC5 HD5 HX5 HL5 HS5
  have l6 : wcmp .lss 6 15 = true := by rw [hcmp]; rfl
  have m6 : wcmp .lss 6 14 = true := by rw [hcmp]; rfl
  have a6 : wbin .add .i64 6 1 = 7 := by rw [hbin]; rfl
  simp only [l6]; cbv
  try (refine InN.mk (by decide) (by decide) ?_; cbv)
  obtain ⟨ln6, s7, ok6, cu6⟩ := cutOf 10 s6
  have q6 := e_cut s6 10 ln6 s7 ok6 cu6 HS6.out.h
  have HC6 := Lib.hid cu6
  have HL6 := Lib.hid (sz5 cu6 HS6.out).1
  have HS7 := Lib.hid (sz5 cu6 HS6.out).2
  clear cu6
  refine Call.stepE (by rw [← hP]; exact q6) rfl ?_
  clear q6
  cbv
  cases ok6
  · simp only [n0]; cbv
    simp only [a6]
    try (refine hR' _ _ ?_; cbv)
    exact ⟨_, Vw.same rfl, hR _ (.inl ⟨14, 7, HK6.out.h _ (.short HC6.out), by decide, rfl⟩)⟩
  simp only [n1]; cbv
  obtain ⟨w6, x6, tw6, cv6⟩ := cutOf 32 ln6
  have q6 := e_cut ln6 32 w6 x6 tw6 cv6 HL6.out.h
  have HD6 := Lib.hid cv6
  have HX6 := Lib.hid (sz5 cv6 HL6.out).2
  clear cv6
  refine Call.stepE (by rw [← hP]; exact q6) rfl ?_
  clear q6
  cbv
  split
  · rename_i b he
    rw [hscmp] at he
    have HN := Lib.hid (sne_t he)
    clear he
    cbv
    simp only [a6]
    exact ⟨_, Vw.same rfl, hR _ (.inl ⟨30, 7, HK6.out.h _ (.kind HC6.out HD6.out (.inl HN.out)), by decide, rfl⟩)⟩
  rename_i b he
  rw [hscmp] at he
  obtain rfl := sne_f he
  clear he
  cbv
  simp only [m6]
  cases tw6
  · simp only [b01, n0]; cbv
    simp only [a6]
    exact ⟨_, Vw.same rfl, hR _ (.inl ⟨30, 7, HK6.out.h _ (.kind HC6.out HD6.out (.inr (by decide))), by decide, rfl⟩)⟩
  simp only [b11, n1]; cbv
  simp only [m6]; cbv
  refine Call.step (by rw [← hP]; exact e_number x6 HX6.out.h) rfl ?_
  rintro r ⟨v6, ok6, rfl, hn6⟩
  have HV6 := Lib.hid hn6
  clear hn6
  cbv
  cases ok6
  · simp only [n0]; cbv
    simp only [a6]
    exact ⟨_, Vw.same rfl, hR _ (.inl ⟨11, 7, HK6.out.h _ (.form HC6.out HD6.out HV6.out), by decide, rfl⟩)⟩
  simp only [n1]; cbv
  repeat' (first
    | (simp only [m6]; cbv)
    | (refine InN.mk (by decide) (by decide) ?_; cbv)
    | (simp only [a6]; cbv)
    | fail)
  have hk7 : Goes (nmsB.drop 7) 8 s7 [v0, v1, v2, v3, v4, v5, v6] s0 := ⟨fun X h => HK6.out.h X (.num HC6.out HD6.out HV6.out h)⟩
  have HK7 := Lib.hid hk7
  clear hk7 HK6 HC6 HD6 HX6 HL6 HS6
  have l7 : wcmp .lss 7 15 = true := by rw [hcmp]; rfl
  have m7 : wcmp .lss 7 14 = true := by rw [hcmp]; rfl
  have a7 : wbin .add .i64 7 1 = 8 := by rw [hbin]; rfl
  simp only [l7]; cbv
  try (refine InN.mk (by decide) (by decide) ?_; cbv)
  obtain ⟨ln7, s8, ok7, cu7⟩ := cutOf 10 s7
  have q7 := e_cut s7 10 ln7 s8 ok7 cu7 HS7.out.h
  have HC7 := Lib.hid cu7
  have HL7 := Lib.hid (sz5 cu7 HS7.out).1
  have HS8 := Lib.hid (sz5 cu7 HS7.out).2
  clear cu7
  refine Call.stepE (by rw [← hP]; exact q7) rfl ?_
  clear q7
  cbv
  cases ok7
  · simp only [n0]; cbv
    simp only [a7]
    try (refine hR' _ _ ?_; cbv)
    exact ⟨_, Vw.same rfl, hR _ (.inl ⟨14, 8, HK7.out.h _ (.short HC7.out), by decide, rfl⟩)⟩
  simp only [n1]; cbv
  obtain ⟨w7, x7, tw7, cv7⟩ := cutOf 32 ln7
  have q7 := e_cut ln7 32 w7 x7 tw7 cv7 HL7.out.h
  have HD7 := Lib.hid cv7
  have HX7 := Lib.hid (sz5 cv7 HL7.out).2
  clear cv7
  refine Call.stepE (by rw [← hP]; exact q7) rfl ?_
  clear q7
  cbv
  split
  · rename_i b he
    rw [hscmp] at he
    have HN := Lib.hid (sne_t he)
    clear he
    cbv
    simp only [a7]
    exact ⟨_, Vw.same rfl, hR _ (.inl ⟨30, 8, HK7.out.h _ (.kind HC7.out HD7.out (.inl HN.out)), by decide, rfl⟩)⟩
  rename_i b he
  rw [hscmp] at he
  obtain rfl := sne_f he
  clear he
  cbv
  simp only [m7]
  cases tw7
  · simp only [b01, n0]; cbv
    simp only [a7]
    exact ⟨_, Vw.same rfl, hR _ (.inl ⟨30, 8, HK7.out.h _ (.kind HC7.out HD7.out (.inr (by decide))), by decide, rfl⟩)⟩
  simp only [b11, n1]; cbv
  simp only [m7]; cbv
  refine Call.step (by rw [← hP]; exact e_number x7 HX7.out.h) rfl ?_
  rintro r ⟨v7, ok7, rfl, hn7⟩
  have HV7 := Lib.hid hn7
  clear hn7
  cbv
  cases ok7
  · simp only [n0]; cbv
    simp only [a7]
    exact ⟨_, Vw.same rfl, hR _ (.inl ⟨11, 8, HK7.out.h _ (.form HC7.out HD7.out HV7.out), by decide, rfl⟩)⟩
  simp only [n1]; cbv
  repeat' (first
    | (simp only [m7]; cbv)
    | (refine InN.mk (by decide) (by decide) ?_; cbv)
    | (simp only [a7]; cbv)
    | fail)
  have hk8 : Goes (nmsB.drop 8) 9 s8 [v0, v1, v2, v3, v4, v5, v6, v7] s0 := ⟨fun X h => HK7.out.h X (.num HC7.out HD7.out HV7.out h)⟩
  have HK8 := Lib.hid hk8
  clear hk8 HK7 HC7 HD7 HX7 HL7 HS7
  have l8 : wcmp .lss 8 15 = true := by rw [hcmp]; rfl
  have m8 : wcmp .lss 8 14 = true := by rw [hcmp]; rfl
  have a8 : wbin .add .i64 8 1 = 9 := by rw [hbin]; rfl
  simp only [l8]; cbv
  try (refine InN.mk (by decide) (by decide) ?_; cbv)
  obtain ⟨ln8, s9, ok8, cu8⟩ := cutOf 10 s8
  have q8 := e_cut s8 10 ln8 s9 ok8 cu8 HS8.out.h
  have HC8 := Lib.hid cu8
  have HL8 := Lib.hid (sz5 cu8 HS8.out).1
  have HS9 := Lib.hid (sz5 cu8 HS8.out).2
  clear cu8
  refine Call.stepE (by rw [← hP]; exact q8) rfl ?_
  clear q8
  cbv
  cases ok8
  · simp only [n0]; cbv
    simp only [a8]
    try (refine hR' _ _ ?_; cbv)
    exact ⟨_, Vw.same rfl, hR _ (.inl ⟨14, 9, HK8.out.h _ (.short HC8.out), by decide, rfl⟩)⟩
  simp only [n1]; cbv
  obtain ⟨w8, x8, tw8, cv8⟩ := cutOf 32 ln8
  have q8 := e_cut ln8 32 w8 x8 tw8 cv8 HL8.out.h
  have HD8 := Lib.hid cv8
  have HX8 := Lib.hid (sz5 cv8 HL8.out).2
  clear cv8
  refine Call.stepE (by rw [← hP]; exact q8) rfl ?_
  clear q8
  cbv
  split
  · rename_i b he
    rw [hscmp] at he
    have HN := Lib.hid (sne_t he)
    clear he
    cbv
    simp only [a8]
    exact ⟨_, Vw.same rfl, hR _ (.inl ⟨30, 9, HK8.out.h _ (.kind HC8.out HD8.out (.inl HN.out)), by decide, rfl⟩)⟩
  rename_i b he
  rw [hscmp] at he
  obtain rfl := sne_f he
  clear he
  cbv
  simp only [m8]
  cases tw8
  · simp only [b01, n0]; cbv
    simp only [a8]
    exact ⟨_, Vw.same rfl, hR _ (.inl ⟨30, 9, HK8.out.h _ (.kind HC8.out HD8.out (.inr (by decide))), by decide, rfl⟩)⟩
  simp only [b11, n1]; cbv
  simp only [m8]; cbv
  refine Call.step (by rw [← hP]; exact e_number x8 HX8.out.h) rfl ?_
  rintro r ⟨v8, ok8, rfl, hn8⟩
  have HV8 := Lib.hid hn8
  clear hn8
  cbv
  cases ok8
  · simp only [n0]; cbv
    simp only [a8]
    exact ⟨_, Vw.same rfl, hR _ (.inl ⟨11, 9, HK8.out.h _ (.form HC8.out HD8.out HV8.out), by decide, rfl⟩)⟩
  simp only [n1]; cbv
  repeat' (first
    | (simp only [m8]; cbv)
    | (refine InN.mk (by decide) (by decide) ?_; cbv)
    | (simp only [a8]; cbv)
    | fail)
  have hk9 : Goes (nmsB.drop 9) 10 s9 [v0, v1, v2, v3, v4, v5, v6, v7, v8] s0 := ⟨fun X h => HK8.out.h X (.num HC8.out HD8.out HV8.out h)⟩
  have HK9 := Lib.hid hk9
  clear hk9 HK8 HC8 HD8 HX8 HL8 HS8
  have l9 : wcmp .lss 9 15 = true := by rw [hcmp]; rfl
  have m9 : wcmp .lss 9 14 = true := by rw [hcmp]; rfl
  have a9 : wbin .add .i64 9 1 = 10 := by rw [hbin]; rfl
  simp only [l9]; cbv
  try (refine InN.mk (by decide) (by decide) ?_; cbv)
  obtain ⟨ln9, s10, ok9, cu9⟩ := cutOf 10 s9
  have q9 := e_cut s9 10 ln9 s10 ok9 cu9 HS9.out.h
  have HC9 := Lib.hid cu9
  have HL9 := Lib.hid (sz5 cu9 HS9.out).1
  have HS10 := Lib.hid (sz5 cu9 HS9.out).2
  clear cu9
  refine Call.stepE (by rw [← hP]; exact q9) rfl ?_
  clear q9
  cbv
  cases ok9
  · simp only [n0]; cbv
    simp only [a9]
    try (refine hR' _ _ ?_; cbv)
    exact ⟨_, Vw.same rfl, hR _ (.inl ⟨14, 10, HK9.out.h _ (.short HC9.out), by decide, rfl⟩)⟩
  simp only [n1]; cbv
  obtain ⟨w9, x9, tw9, cv9⟩ := cutOf 32 ln9
  have q9 := e_cut ln9 32 w9 x9 tw9 cv9 HL9.out.h
  have HD9 := Lib.hid cv9
  have HX9 := Lib.hid (sz5 cv9 HL9.out).2
  clear cv9
  refine Call.stepE (by rw [← hP]; exact q9) rfl ?_
  clear q9
  cbv
  split
  · rename_i b he
    rw [hscmp] at he
    have HN := Lib.hid (sne_t he)
    clear he
    cbv
    simp only [a9]
    exact ⟨_, Vw.same rfl, hR _ (.inl ⟨30, 10, HK9.out.h _ (.kind HC9.out HD9.out (.inl HN.out)), by decide, rfl⟩)⟩
  rename_i b he
  rw [hscmp] at he
  obtain rfl := sne_f he
  clear he
  cbv
  simp only [m9]
  cases tw9
  · simp only [b01, n0]; cbv
    simp only [a9]
    exact ⟨_, Vw.same rfl, hR _ (.inl ⟨30, 10, HK9.out.h _ (.kind HC9.out HD9.out (.inr (by decide))), by decide, rfl⟩)⟩
  simp only [b11, n1]; cbv
  simp only [m9]; cbv
  refine Call.step (by rw [← hP]; exact e_number x9 HX9.out.h) rfl ?_
  rintro r ⟨v9, ok9, rfl, hn9⟩
  have HV9 := Lib.hid hn9
  clear hn9
  cbv
  cases ok9
  · simp only [n0]; cbv
    simp only [a9]
    exact ⟨_, Vw.same rfl, hR _ (.inl ⟨11, 10, HK9.out.h _ (.form HC9.out HD9.out HV9.out), by decide, rfl⟩)⟩
  simp only [n1]; cbv
  repeat' (first
    | (simp only [m9]; cbv)
    | (refine InN.mk (by decide) (by decide) ?_; cbv)
    | (simp only [a9]; cbv)
    | fail)
  have hk10 : Goes (nmsB.drop 10) 11 s10 [v0, v1, v2, v3, v4, v5, v6, v7, v8, v9] s0 := ⟨fun X h => HK9.out.h X (.num HC9.out HD9.out HV9.out h)⟩
  have HK10 := Lib.hid hk10
  clear hk10 HK9 HC9 HD9 HX9 HL9 HS9
  have l10 : wcmp .lss 10 15 = true := by rw [hcmp]; rfl
  have m10 : wcmp .lss 10 14 = true := by rw [hcmp]; rfl
  have a10 : wbin .add .i64 10 1 = 11 := by rw [hbin]; rfl
  simp only [l10]; cbv
  try (refine InN.mk (by decide) (by decide) ?_; cbv)
  obtain ⟨ln10, s11, ok10, cu10⟩ := cutOf 10 s10
  have q10 := e_cut s10 10 ln10 s11 ok10 cu10 HS10.out.h
  have HC10 := Lib.hid cu10
  have HL10 := Lib.hid (sz5 cu10 HS10.out).1
  have HS11 := Lib.hid (sz5 cu10 HS10.out).2
  clear cu10
  refine Call.stepE (by rw [← hP]; exact q10) rfl ?_
  clear q10
  cbv
  cases ok10
  · simp only [n0]; cbv
    simp only [a10]
    try (refine hR' _ _ ?_; cbv)
    exact ⟨_, Vw.same rfl, hR _ (.inl ⟨14, 11, HK10.out.h _ (.short HC10.out), by decide, rfl⟩)⟩
  simp only [n1]; cbv
  obtain ⟨w10, x10, tw10, cv10⟩ := cutOf 32 ln10
  have q10 := e_cut ln10 32 w10 x10 tw10 cv10 HL10.out.h
  have HD10 := Lib.hid cv10
  have HX10 := Lib.hid (sz5 cv10 HL10.out).2
  clear cv10
  refine Call.stepE (by rw [← hP]; exact q10) rfl ?_
  clear q10
  cbv
  split
  · rename_i b he
    rw [hscmp] at he
    have HN := Lib.hid (sne_t he)
    clear he
    cbv
    simp only [a10]
    exact ⟨_, Vw.same rfl, hR _ (.inl ⟨30, 11, HK10.out.h _ (.kind HC10.out HD10.out (.inl HN.out)), by decide, rfl⟩)⟩
  rename_i b he
  rw [hscmp] at he
  obtain rfl := sne_f he
  clear he
  cbv
  simp only [m10]
  cases tw10
  · simp only [b01, n0]; cbv
    simp only [a10]
    exact ⟨_, Vw.same rfl, hR _ (.inl ⟨30, 11, HK10.out.h _ (.kind HC10.out HD10.out (.inr (by decide))), by decide, rfl⟩)⟩
  simp only [b11, n1]; cbv
  simp only [m10]; cbv
  refine Call.step (by rw [← hP]; exact e_number x10 HX10.out.h) rfl ?_
  rintro r ⟨v10, ok10, rfl, hn10⟩
  have HV10 := Lib.hid hn10
  clear hn10
  cbv
  cases ok10
  · simp only [n0]; cbv
    simp only [a10]
    exact ⟨_, Vw.same rfl, hR _ (.inl ⟨11, 11, HK10.out.h _ (.form HC10.out HD10.out HV10.out), by decide, rfl⟩)⟩
  simp only [n1]; cbv
  repeat' (first
    | (simp only [m10]; cbv)
    | (refine InN.mk (by decide) (by decide) ?_; cbv)
    | (simp only [a10]; cbv)
    | fail)
  have hk11 : Goes (nmsB.drop 11) 12 s11 [v0, v1, v2, v3, v4, v5, v6, v7, v8, v9, v10] s0 := ⟨fun X h => HK10.out.h X (.num HC10.out HD10.out HV10.out h)⟩
  have HK11 := Lib.hid hk11
  clear hk11 HK10 HC10 HD10 HX10 HL10 HS10
  have l11 : wcmp .lss 11 15 = true := by rw [hcmp]; rfl
  have m11 : wcmp .lss 11 14 = true := by rw [hcmp]; rfl
  have a11 : wbin .add .i64 11 1 = 12 := by rw [hbin]; rfl
  simp only [l11]; cbv
  try (refine InN.mk (by decide) (by decide) ?_; cbv)
  obtain ⟨ln11, s12, ok11, cu11⟩ := cutOf 10 s11
  have q11 := e_cut s11 10 ln11 s12 ok11 cu11 HS11.out.h
  have HC11 := Lib.hid cu11
  have HL11 := Lib.hid (sz5 cu11 HS11.out).1
  have HS12 := Lib.hid (sz5 cu11 HS11.out).2
  clear cu11
  refine Call.stepE (by rw [← hP]; exact q11) rfl ?_
  clear q11
  cbv
  cases ok11
  · simp only [n0]; cbv
    simp only [a11]
    try (refine hR' _ _ ?_; cbv)
    exact ⟨_, Vw.same rfl, hR _ (.inl ⟨14, 12, HK11.out.h _ (.short HC11.out), by decide, rfl⟩)⟩
  simp only [n1]; cbv
  obtain ⟨w11, x11, tw11, cv11⟩ := cutOf 32 ln11
  have q11 := e_cut ln11 32 w11 x11 tw11 cv11 HL11.out.h
  have HD11 := Lib.hid cv11
  have HX11 := Lib.hid (sz5 cv11 HL11.out).2
  clear cv11
  refine Call.stepE (by rw [← hP]; exact q11) rfl ?_
  clear q11
  cbv
  split
  · rename_i b he
    rw [hscmp] at he
    have HN := Lib.hid (sne_t he)
    clear he
    cbv
    simp only [a11]
    exact ⟨_, Vw.same rfl, hR _ (.inl ⟨30, 12, HK11.out.h _ (.kind HC11.out HD11.out (.inl HN.out)), by decide, rfl⟩)⟩
  rename_i b he
  rw [hscmp] at he
  obtain rfl := sne_f he
  clear he
  cbv
  simp only [m11]
  cases tw11
  · simp only [b01, n0]; cbv
    simp only [a11]
    exact ⟨_, Vw.same rfl, hR _ (.inl ⟨30, 12, HK11.out.h _ (.kind HC11.out HD11.out (.inr (by decide))), by decide, rfl⟩)⟩
  simp only [b11, n1]; cbv
  simp only [m11]; cbv
  refine Call.step (by rw [← hP]; exact e_number x11 HX11.out.h) rfl ?_
  rintro r ⟨v11, ok11, rfl, hn11⟩
  have HV11 := Lib.hid hn11
  clear hn11
  cbv
  cases ok11
  · simp only [n0]; cbv
    simp only [a11]
    exact ⟨_, Vw.same rfl, hR _ (.inl ⟨11, 12, HK11.out.h _ (.form HC11.out HD11.out HV11.out), by decide, rfl⟩)⟩
  simp only [n1]; cbv
  repeat' (first
    | (simp only [m11]; cbv)
    | (refine InN.mk (by decide) (by decide) ?_; cbv)
    | (simp only [a11]; cbv)
    | fail)
  have hk12 : Goes (nmsB.drop 12) 13 s12 [v0, v1, v2, v3, v4, v5, v6, v7, v8, v9, v10, v11] s0 := ⟨fun X h => HK11.out.h X (.num HC11.out HD11.out HV11.out h)⟩
  have HK12 := Lib.hid hk12
  clear hk12 HK11 HC11 HD11 HX11 HL11 HS11
  have l12 : wcmp .lss 12 15 = true := by rw [hcmp]; rfl
  have m12 : wcmp .lss 12 14 = true := by rw [hcmp]; rfl
  have a12 : wbin .add .i64 12 1 = 13 := by rw [hbin]; rfl
  simp only [l12]; cbv
  try (refine InN.mk (by decide) (by decide) ?_; cbv)
  obtain ⟨ln12, s13, ok12, cu12⟩ := cutOf 10 s12
  have q12 := e_cut s12 10 ln12 s13 ok12 cu12 HS12.out.h
  have HC12 := Lib.hid cu12
  have HL12 := Lib.hid (sz5 cu12 HS12.out).1
  have HS13 := Lib.hid (sz5 cu12 HS12.out).2
  clear cu12
  refine Call.stepE (by rw [← hP]; exact q12) rfl ?_
  clear q12
  cbv
  cases ok12
  · simp only [n0]; cbv
    simp only [a12]
    try (refine hR' _ _ ?_; cbv)
    exact ⟨_, Vw.same rfl, hR _ (.inl ⟨14, 13, HK12.out.h _ (.short HC12.out), by decide, rfl⟩)⟩
  simp only [n1]; cbv
  obtain ⟨w12, x12, tw12, cv12⟩ := cutOf 32 ln12
  have q12 := e_cut ln12 32 w12 x12 tw12 cv12 HL12.out.h
  have HD12 := Lib.hid cv12
  have HX12 := Lib.hid (sz5 cv12 HL12.out).2
  clear cv12
  refine Call.stepE (by rw [← hP]; exact q12) rfl ?_
  clear q12
  cbv
  split
  · rename_i b he
    rw [hscmp] at he
    have HN := Lib.hid (sne_t he)
    clear he
    cbv
    simp only [a12]
    exact ⟨_, Vw.same rfl, hR _ (.inl ⟨30, 13, HK12.out.h _ (.kind HC12.out HD12.out (.inl HN.out)), by decide, rfl⟩)⟩
  rename_i b he
  rw [hscmp] at he
  obtain rfl := sne_f he
  clear he
  cbv
  simp only [m12]
  cases tw12
  · simp only [b01, n0]; cbv
    simp only [a12]
    exact ⟨_, Vw.same rfl, hR _ (.inl ⟨30, 13, HK12.out.h _ (.kind HC12.out HD12.out (.inr (by decide))), by decide, rfl⟩)⟩
  simp only [b11, n1]; cbv
  simp only [m12]; cbv
  refine Call.step (by rw [← hP]; exact e_number x12 HX12.out.h) rfl ?_
  rintro r ⟨v12, ok12, rfl, hn12⟩
  have HV12 := Lib.hid hn12
  clear hn12
  cbv
  cases ok12
  · simp only [n0]; cbv
    simp only [a12]
    exact ⟨_, Vw.same rfl, hR _ (.inl ⟨11, 13, HK12.out.h _ (.form HC12.out HD12.out HV12.out), by decide, rfl⟩)⟩
  simp only [n1]; cbv
  repeat' (first
    | (simp only [m12]; cbv)
    | (refine InN.mk (by decide) (by decide) ?_; cbv)
    | (simp only [a12]; cbv)
    | fail)
  have hk13 : Goes (nmsB.drop 13) 14 s13 [v0, v1, v2, v3, v4, v5, v6, v7, v8, v9, v10, v11, v12] s0 := ⟨fun X h => HK12.out.h X (.num HC12.out HD12.out HV12.out h)⟩
  have HK13 := Lib.hid hk13
  clear hk13 HK12 HC12 HD12 HX12 HL12 HS12
  have l13 : wcmp .lss 13 15 = true := by rw [hcmp]; rfl
  have m13 : wcmp .lss 13 14 = true := by rw [hcmp]; rfl
  have a13 : wbin .add .i64 13 1 = 14 := by rw [hbin]; rfl
  simp only [l13]; cbv
  try (refine InN.mk (by decide) (by decide) ?_; cbv)
  obtain ⟨ln13, s14, ok13, cu13⟩ := cutOf 10 s13
  have q13 := e_cut s13 10 ln13 s14 ok13 cu13 HS13.out.h
  have HC13 := Lib.hid cu13
  have HL13 := Lib.hid (sz5 cu13 HS13.out).1
  have HS14 := Lib.hid (sz5 cu13 HS13.out).2
  clear cu13
  refine Call.stepE (by rw [← hP]; exact q13) rfl ?_
  clear q13
  cbv
  cases ok13
  · simp only [n0]; cbv
    simp only [a13]
    try (refine hR' _ _ ?_; cbv)
    exact ⟨_, Vw.same rfl, hR _ (.inl ⟨14, 14, HK13.out.h _ (.short HC13.out), by decide, rfl⟩)⟩
  simp only [n1]; cbv
  obtain ⟨w13, x13, tw13, cv13⟩ := cutOf 32 ln13
  have q13 := e_cut ln13 32 w13 x13 tw13 cv13 HL13.out.h
  have HD13 := Lib.hid cv13
  have HX13 := Lib.hid (sz5 cv13 HL13.out).2
  clear cv13
  refine Call.stepE (by rw [← hP]; exact q13) rfl ?_
  clear q13
  cbv
  split
  · rename_i b he
    rw [hscmp] at he
    have HN := Lib.hid (sne_t he)
    clear he
    cbv
    simp only [a13]
    exact ⟨_, Vw.same rfl, hR _ (.inl ⟨30, 14, HK13.out.h _ (.kind HC13.out HD13.out (.inl HN.out)), by decide, rfl⟩)⟩
  rename_i b he
  rw [hscmp] at he
  obtain rfl := sne_f he
  clear he
  cbv
  simp only [m13]
  cases tw13
  · simp only [b01, n0]; cbv
    simp only [a13]
    exact ⟨_, Vw.same rfl, hR _ (.inl ⟨30, 14, HK13.out.h _ (.kind HC13.out HD13.out (.inr (by decide))), by decide, rfl⟩)⟩
  simp only [b11, n1]; cbv
  simp only [m13]; cbv
  refine Call.step (by rw [← hP]; exact e_number x13 HX13.out.h) rfl ?_
  rintro r ⟨v13, ok13, rfl, hn13⟩
  have HV13 := Lib.hid hn13
  clear hn13
  cbv
  cases ok13
  · simp only [n0]; cbv
    simp only [a13]
    exact ⟨_, Vw.same rfl, hR _ (.inl ⟨11, 14, HK13.out.h _ (.form HC13.out HD13.out HV13.out), by decide, rfl⟩)⟩
  simp only [n1]; cbv
  repeat' (first
    | (simp only [m13]; cbv)
    | (refine InN.mk (by decide) (by decide) ?_; cbv)
    | (simp only [a13]; cbv)
    | fail)
  have hk14 : Goes (nmsB.drop 14) 15 s14 [v0, v1, v2, v3, v4, v5, v6, v7, v8, v9, v10, v11, v12, v13] s0 := ⟨fun X h => HK13.out.h X (.num HC13.out HD13.out HV13.out h)⟩
  have HK14 := Lib.hid hk14
  clear hk14 HK13 HC13 HD13 HX13 HL13 HS13
  have l14 : wcmp .lss 14 15 = true := by rw [hcmp]; rfl
  have m14 : wcmp .lss 14 14 = false := by rw [hcmp]; rfl
  have a14 : wbin .add .i64 14 1 = 15 := by rw [hbin]; rfl
  simp only [l14]; cbv
  try (refine InN.mk (by decide) (by decide) ?_; cbv)
  obtain ⟨ln14, s15, ok14, cu14⟩ := cutOf 10 s14
  have q14 := e_cut s14 10 ln14 s15 ok14 cu14 HS14.out.h
  have HC14 := Lib.hid cu14
  have HL14 := Lib.hid (sz5 cu14 HS14.out).1
  have HS15 := Lib.hid (sz5 cu14 HS14.out).2
  clear cu14
  refine Call.stepE (by rw [← hP]; exact q14) rfl ?_
  clear q14
  cbv
  cases ok14
  · simp only [n0]; cbv
    simp only [a14]
    try (refine hR' _ _ ?_; cbv)
    exact ⟨_, Vw.same rfl, hR _ (.inl ⟨14, 15, HK14.out.h _ (.short HC14.out), by decide, rfl⟩)⟩
  simp only [n1]; cbv
  obtain ⟨w14, x14, tw14, cv14⟩ := cutOf 32 ln14
  have q14 := e_cut ln14 32 w14 x14 tw14 cv14 HL14.out.h
  have HD14 := Lib.hid cv14
  have HX14 := Lib.hid (sz5 cv14 HL14.out).2
  clear cv14
  refine Call.stepE (by rw [← hP]; exact q14) rfl ?_
  clear q14
  cbv
  split
  · rename_i b he
    rw [hscmp] at he
    have HN := Lib.hid (sne_t he)
    clear he
    cbv
    simp only [a14]
    exact ⟨_, Vw.same rfl, hR _ (.inl ⟨30, 15, HK14.out.h _ (.kind HC14.out HD14.out (.inl HN.out)), by decide, rfl⟩)⟩
  rename_i b he
  rw [hscmp] at he
  obtain rfl := sne_f he
  clear he
  cbv
  simp only [m14]
  cases tw14
  rotate_left
  · simp only [b10, n0]; cbv
    simp only [a14]
    exact ⟨_, Vw.same rfl, hR _ (.inl ⟨30, 15, HK14.out.h _ (.kind HC14.out HD14.out (.inr (by decide))), by decide, rfl⟩)⟩
  simp only [b00, n1]; cbv
  simp only [m14]; cbv
  simp only [a14]; cbv
  have l15 : wcmp .lss 15 15 = false := by rw [hcmp]; rfl
  simp only [l15]; cbv
  split
  · rename_i b he
    rw [hscmp] at he
    have HN := Lib.hid (sne_t he)
    clear he
    cbv
    exact ⟨_, Vw.same rfl, hR _ (.inl ⟨15, 16, HK14.out.h _ (.last HC14.out HD14.out (.long HN.out)), by decide, rfl⟩)⟩
  rename_i b he
  rw [hscmp] at he
  have HN := Lib.hid (sne_f he)
  clear he
  cbv
  obtain ⟨wr, ewr⟩ : ∃ z, z = wrongV v0 v1 v2 v3 v4 v5 v6 v7 v8 v9 v10 v11 v12 v13 := ⟨_, rfl⟩
  obtain ⟨er, eer⟩ : ∃ z, z = if wr = 0 then (0 : Int) else 50 := ⟨_, rfl⟩
  have qc := e_cfOf v0 v1 v2 v3 v4 v5 v6 v7 v8 v9 v10 v11 v12 v13 (HV9.out.1 rfl).1 (HV12.out.1 rfl).1
  have qk := e_check v0 v1 v2 v3 v4 v5 v6 v7 v8 v9 v10 v11 v12 v13 wr ewr er eer
  have HW := Lib.hid ewr
  have her : (wr = 0 ∧ er = 0) ∨ (wr ≠ 0 ∧ er = 50) := by
    rw [eer]
    by_cases hz : wr = 0
    · exact .inl ⟨hz, if_pos hz⟩
    · exact .inr ⟨hz, if_neg hz⟩
  clear ewr eer
  refine Call.stepE (by rw [← hP]; exact qc) rfl ?_
  cbv
  refine Call.stepE (by rw [← hP]; exact qk) rfl ?_
  clear qc qk
  cbv
  obtain ⟨hz, he⟩ | ⟨hz, he⟩ := her
  · have t : wcmp .neq er 0 = false := by rw [hcmp]; simp [cmpStd, he]
    simp only [t]; cbv
    exact ⟨_, Vw.same rfl, hR _ (.inr ⟨v0, v1, v2, v3, v4, v5, v6, v7, v8, v9, v10, v11, v12, v13, HK14.out.h _ (.last HC14.out HD14.out (.done HN.out)), .inl ⟨by rw [← HW.out]; exact hz, rfl⟩⟩)⟩
  · have t : wcmp .neq er 0 = true := by rw [hcmp]; simp [cmpStd, he]
    simp only [t]; cbv
    exact ⟨_, Vw.same rfl, hR _ (.inr ⟨v0, v1, v2, v3, v4, v5, v6, v7, v8, v9, v10, v11, v12, v13, HK14.out.h _ (.last HC14.out HD14.out (.done HN.out)), .inr ⟨by rw [← HW.out]; exact hz, by rw [← HW.out, ← he]; rfl⟩⟩)⟩
end Go.Proofs.YtdjafcjpnjdphaaDoor

/- What a text says, and the text of any numbers: the plain law. -/
set_option linter.unusedVariables false
set_option linter.unusedSimpArgs false
namespace Go.Proofs.YtdjafcjpnjdphaaDoor
open Go Go.RowKit Go.Eng Go.Shelf
set_option maxRecDepth 100000
theorem numSays_un {s : ByteArray} {n m : Int} {b c : Bool} (h : NumSays s n b) (h' : NumSays s m c) : b = c ∧ (b = true → n = m) := by
  cases b <;> cases c
  · exact ⟨rfl, fun e => by cases e⟩
  · exact absurd (h'.1 rfl).2 (h.2 rfl m (h'.1 rfl).1)
  · exact absurd (h.1 rfl).2 (h'.2 rfl n (h.1 rfl).1)
  · refine ⟨rfl, fun _ => ?_⟩
    have e1 := (h.1 rfl).2
    have e2 := (h'.1 rfl).2
    have e3 : Lib.itoa n = Lib.itoa m := by
      have : tx (itb n) = tx (itb m) := by rw [← e1, ← e2]
      exact this
    have p1 := parse_itoa (h.1 rfl).1
    have p2 := parse_itoa (h'.1 rfl).1
    rw [e3, p2] at p1
    cases p1; rfl
theorem says_un {nms : List ByteArray} {i : Int} {s : ByteArray} {acc : List Int} {X Y : Par} (h : Says nms i s acc X) (h' : Says nms i s acc Y) : X = Y := by
  induction h with
  | long h => cases h' with
    | long h2 => rfl
    | done h2 => exact absurd h2 h
  | done h => cases h' with
    | long h2 => exact absurd h h2
    | done h2 => rfl
  | short h => cases h' with
    | short k => rfl
    | kind k => exact absurd (cutOf_un h k).2.2 (by decide)
    | form k => exact absurd (cutOf_un h k).2.2 (by decide)
    | num k => exact absurd (cutOf_un h k).2.2 (by decide)
    | last k => exact absurd (cutOf_un h k).2.2 (by decide)
  | kind h h2 h3 => cases h' with
    | short k => exact absurd (cutOf_un h k).2.2 (by decide)
    | kind k => rfl
    | form k k2 k3 =>
      obtain ⟨rfl, rfl, _⟩ := cutOf_un h k
      obtain ⟨rfl, rfl, rfl⟩ := cutOf_un h2 k2
      rcases h3 with h3 | h3
      · exact absurd rfl h3
      · exact absurd rfl h3
    | num k k2 k3 k4 =>
      obtain ⟨rfl, rfl, _⟩ := cutOf_un h k
      obtain ⟨rfl, rfl, rfl⟩ := cutOf_un h2 k2
      rcases h3 with h3 | h3
      · exact absurd rfl h3
      · exact absurd rfl h3
    | last k k2 k4 =>
      obtain ⟨rfl, rfl, _⟩ := cutOf_un h k
      obtain ⟨rfl, rfl, rfl⟩ := cutOf_un h2 k2
      rcases h3 with h3 | h3
      · exact absurd rfl h3
      · exact absurd rfl h3
  | form h h2 h3 => cases h' with
    | short k => exact absurd (cutOf_un h k).2.2 (by decide)
    | kind k k2 k3 =>
      obtain ⟨rfl, rfl, _⟩ := cutOf_un h k
      obtain ⟨rfl, rfl, rfl⟩ := cutOf_un h2 k2
      rcases k3 with k3 | k3
      · exact absurd rfl k3
      · exact absurd rfl k3
    | form k => rfl
    | num k k2 k3 k4 =>
      obtain ⟨rfl, rfl, _⟩ := cutOf_un h k
      obtain ⟨_, rfl, _⟩ := cutOf_un h2 k2
      exact absurd (numSays_un h3 k3).1 (by decide)
  | num h h2 h3 h4 ih => cases h' with
    | short k => exact absurd (cutOf_un h k).2.2 (by decide)
    | kind k k2 k3 =>
      obtain ⟨rfl, rfl, _⟩ := cutOf_un h k
      obtain ⟨rfl, rfl, rfl⟩ := cutOf_un h2 k2
      rcases k3 with k3 | k3
      · exact absurd rfl k3
      · exact absurd rfl k3
    | form k k2 k3 =>
      obtain ⟨rfl, rfl, _⟩ := cutOf_un h k
      obtain ⟨_, rfl, _⟩ := cutOf_un h2 k2
      exact absurd (numSays_un h3 k3).1 (by decide)
    | num k k2 k3 k4 =>
      obtain ⟨rfl, rfl, _⟩ := cutOf_un h k
      obtain ⟨_, rfl, _⟩ := cutOf_un h2 k2
      obtain rfl := (numSays_un h3 k3).2 rfl
      exact ih k4
  | last h h2 h4 ih => cases h' with
    | short k => exact absurd (cutOf_un h k).2.2 (by decide)
    | kind k k2 k3 =>
      obtain ⟨rfl, rfl, _⟩ := cutOf_un h k
      obtain ⟨rfl, rfl, rfl⟩ := cutOf_un h2 k2
      rcases k3 with k3 | k3
      · exact absurd rfl k3
      · exact absurd rfl k3
    | last k k2 k4 =>
      obtain ⟨rfl, rfl, _⟩ := cutOf_un h k
      exact ih k4
/-- The text of any lines. -/
def textOf : List ByteArray → List Int → List UInt8
  | [], _ => []
  | [nm], _ => tx nm ++ [10]
  | nm :: nm2 :: nms, n :: ns => lineL (tx nm) n ++ textOf (nm2 :: nms) ns
  | _ :: _ :: _, [] => []
theorem tx_bk' (l : List UInt8) : tx (bk l) = l := rfl
theorem itoa_no {n : Int} {c : UInt8} (hc : ¬ (48 ≤ c.toNat ∧ c.toNat ≤ 57) ∧ c.toNat ≠ 45) : c ∉ Lib.itoa n := fun h => by
  obtain ⟨j, hj⟩ := List.getElem?_of_mem h
  have := itoa_at hj
  omega
theorem says_text : ∀ (nms : List ByteArray) (ns : List Int) (i : Int) (acc : List Int), nms.length = ns.length + 1 → (∀ nm, nm ∈ nms → (10 : UInt8) ∉ tx nm ∧ (32 : UInt8) ∉ tx nm) → (∀ n, n ∈ ns → In64 n) → Says nms i (bk (textOf nms ns)) acc (.good (acc ++ ns))
  | [], _, _, _, h, _, _ => by simp at h
  | [nm], [], i, acc, _, hn, _ => by
    obtain ⟨h1, h2⟩ := hn nm (by simp)
    obtain ⟨a, b, ok, hc⟩ := cutOf 10 (bk (textOf [nm] []))
    obtain ⟨e1, e2, e3⟩ := cutOf_of (a := nm) (b := ⟨#[]⟩) hc (by rw [tx_bk']; rfl) h1
    rw [e1, e2, e3] at hc
    clear e1 e2 e3 a b ok
    obtain ⟨a2, b2, ok2, hc2⟩ := cutOf 32 nm
    have hx : ok2 = false ∧ a2 = nm := by
      rcases hc2 with ⟨_, k2, k3, _⟩ | ⟨k1, k2, k3, k4⟩
      · exact ⟨k2, k3⟩
      · exfalso
        subst k2
        obtain ⟨k5, _⟩ := cutOf_tx (c := 32) (s := nm) (a := a2) (b := b2) (.inr ⟨k1, rfl, k3, k4⟩)
        exact h2 (by rw [k5]; simp)
    rw [hx.1, hx.2] at hc2
    rw [List.append_nil]
    exact .last hc hc2 (.done rfl)
  | [nm], _ :: _, _, _, h, _, _ => by simp at h
  | nm :: nm2 :: nms, [], _, _, h, _, _ => by simp at h
  | nm :: nm2 :: nms, n :: ns, i, acc, hl, hn, hi => by
    obtain ⟨h1, h2⟩ := hn nm (by simp)
    have hin := hi n (by simp)
    have e : textOf (nm :: nm2 :: nms) (n :: ns) = (tx nm ++ 32 :: Lib.itoa n) ++ 10 :: textOf (nm2 :: nms) ns := by
      show lineL (tx nm) n ++ _ = _
      unfold lineL; simp
    obtain ⟨a, b, ok, hc⟩ := cutOf 10 (bk (textOf (nm :: nm2 :: nms) (n :: ns)))
    obtain ⟨e1, e2, e3⟩ := cutOf_of (a := bk (tx nm ++ 32 :: Lib.itoa n)) (b := bk (textOf (nm2 :: nms) ns)) hc (by rw [tx_bk', tx_bk', tx_bk', e]) (by
      rw [tx_bk']
      intro hm
      rcases List.mem_append.1 hm with hm | hm
      · exact h1 hm
      · rcases List.mem_cons.1 hm with hm | hm
        · cases hm
        · exact itoa_no (by decide) hm)
    rw [e1, e2, e3] at hc
    clear e1 e2 e3 a b ok
    obtain ⟨a2, b2, ok2, hc2⟩ := cutOf 32 (bk (tx nm ++ 32 :: Lib.itoa n))
    obtain ⟨e1, e2, e3⟩ := cutOf_of (a := nm) (b := itb n) hc2 (by rw [tx_bk']; rfl) h2
    rw [e1, e2, e3] at hc2
    clear e1 e2 e3 a2 b2 ok2
    have ih := says_text (nm2 :: nms) ns (i + 1) (acc ++ [n]) (by simp at hl ⊢; omega) (fun x hx => hn x (by simp at hx ⊢; exact .inr hx)) (fun x hx => hi x (by simp [hx]))
    rw [List.append_assoc] at ih
    exact .num hc hc2 ⟨fun _ => ⟨hin, rfl⟩, fun h => by cases h⟩ ih
theorem says_good {nms : List ByteArray} {i : Int} {s : ByteArray} {acc : List Int} {X : Par} (h : Says nms i s acc X) : ∀ ns', X = .good ns' → (nms = [] ∧ s = ⟨#[]⟩ ∧ ns' = acc) ∨ ∃ ns, ns' = acc ++ ns ∧ nms.length = ns.length + 1 ∧ (∀ n, n ∈ ns → In64 n) ∧ tx s = textOf nms ns := by
  induction h with
  | long h => intro ns' e; cases e
  | done h => intro ns' e; cases e; exact .inl ⟨rfl, h, rfl⟩
  | short h => intro ns' e; cases e
  | kind h => intro ns' e; cases e
  | form h => intro ns' e; cases e
  | @num nm nm2 nms i s acc l r v n X h h2 h3 h4 ih =>
    intro ns' e
    rcases ih ns' e with ⟨h5, _⟩ | ⟨ns, h5, h6, h7, h8⟩
    · cases h5
    · refine .inr ⟨n :: ns, by rw [h5]; simp, by simp at h6 ⊢; omega, fun x hx => ?_, ?_⟩
      · rcases List.mem_cons.1 hx with rfl | hx
        · exact (h3.1 rfl).1
        · exact h7 x hx
      · rw [(cutOf_tx h).1, (cutOf_tx h2).1, h8, (h3.1 rfl).2]
        show _ = lineL (tx nm) n ++ _
        unfold lineL
        simp [tx_itb]
  | @last nm i s acc l r v X h h2 h4 ih =>
    intro ns' e
    rcases ih ns' e with ⟨_, h5, h6⟩ | ⟨ns, h5, h6, h7, h8⟩
    · refine .inr ⟨[], by rw [h6]; simp, rfl, fun x hx => absurd hx (List.not_mem_nil), ?_⟩
      have hl : l = nm := by
        rcases h2 with ⟨_, _, k3, _⟩ | ⟨_, k2, _⟩
        · exact k3.symm
        · cases k2
      rw [(cutOf_tx h).1, h5, hl]; rfl
    · simp at h6
end Go.Proofs.YtdjafcjpnjdphaaDoor

/- The document's example of a text, and that texts are long enough, by the engine. -/
set_option linter.unusedVariables false
set_option linter.unusedSimpArgs false
namespace Go.Proofs.YtdjafcjpnjdphaaDoor
open Go Go.RowKit Go.Eng Go.Shelf
set_option maxRecDepth 100000
def s07 : ByteArray := ⟨#[112, 117, 108, 115, 101, 115, 32, 48, 55, 10]⟩
theorem no_07 : NumSays ⟨#[48, 55]⟩ 0 false := by
  refine no_num (fun m hm e => ?_) 0
  have ht : Lib.itoa m = [48, 55] := by
    have : tx (⟨#[48, 55]⟩ : ByteArray) = tx (itb m) := by rw [e]
    exact this.symm
  unfold Lib.itoa at ht
  split at ht
  · cases ht
  · have h1 := valD_dec m.toNat m.toNat (Nat.le_refl _)
    rw [ht] at h1
    have h2 : m.toNat = 7 := h1.symm
    rw [h2, Lib.decDigits_one (by decide)] at ht
    cases ht
theorem says_07 : Says nmsB 1 s07 [] (.bad 11 1) := by
  obtain ⟨a, b, ok, hc⟩ := cutOf 10 s07
  obtain ⟨e1, e2, e3⟩ := cutOf_of (a := ⟨#[112, 117, 108, 115, 101, 115, 32, 48, 55]⟩) (b := ⟨#[]⟩) hc rfl (by decide)
  rw [e1, e2, e3] at hc
  obtain ⟨a2, b2, ok2, hc2⟩ := cutOf 32 (⟨#[112, 117, 108, 115, 101, 115, 32, 48, 55]⟩ : ByteArray)
  obtain ⟨e4, e5, e6⟩ := cutOf_of (a := ⟨#[112, 117, 108, 115, 101, 115]⟩) (b := ⟨#[48, 55]⟩) hc2 rfl (by decide)
  rw [e4, e5, e6] at hc2
  exact .form hc hc2 no_07
def cf0 : AV := cfA 0 0 0 0 0 0 0 0 0 0 0 0 0 0
theorem e_parse07 : PCalls Tryd.prog 9 [.str s07] (· = .tuple [cf0, .int .i64 11, .int .i64 1]) := by
  refine (e_parse s07 ⟨by decide⟩).mono fun r hr => ?_
  rcases hr with ⟨e, l, h1, h2, rfl⟩ | ⟨c0, c1, c2, c3, c4, c5, c6, c7, c8, c9, c10, c11, c12, c13, h1, _⟩
  · have := says_un h1 says_07
    cases this
    rfl
  · have := says_un h1 says_07
    cases this
def t0 : ByteArray := bk (textL [0, 0, 0, 0, 0, 0, 0, 0, 0, 0, 0, 0, 0, 0])
theorem e_text0 (b : ByteArray) (eb : b = t0) : PCalls Tryd.prog 8 [cf0] (· = .str b) :=
  e_wtext [0, 0, 0, 0, 0, 0, 0, 0, 0, 0, 0, 0, 0, 0] 0 0 0 0 0 0 0 0 0 0 0 0 0 0 rfl (fun n hn => by
    have : n = 0 := by simpa using hn
    subst this
    unfold In64; decide) b eb
theorem t0_eq : textL [0, 0, 0, 0, 0, 0, 0, 0, 0, 0, 0, 0, 0, 0] = [112, 117, 108, 115, 101, 115, 32, 48, 10] ++ (linesL ((nmsB.map tx).drop 1) [0, 0, 0, 0, 0, 0, 0, 0, 0, 0, 0, 0, 0] ++ [101, 110, 100, 10]) := by
  have i0 : Lib.itoa 0 = [48] := by unfold Lib.itoa; rw [if_neg (by decide)]; exact Lib.decDigits_one (by decide)
  have e : lineL (tx ⟨#[112, 117, 108, 115, 101, 115]⟩) 0 = [112, 117, 108, 115, 101, 115, 32, 48, 10] := by unfold lineL; rw [i0]; rfl
  unfold textL nmsB
  simp only [List.map_cons, List.map_nil, List.take_succ_cons, List.take_zero, linesL, List.append_assoc, List.append_nil, List.drop_succ_cons, List.drop_zero]
  rw [e]
theorem t0_pre : t0.extract 0 9 = ⟨#[112, 117, 108, 115, 101, 115, 32, 48, 10]⟩ := by
  apply tx_ext
  unfold t0
  rw [t0_eq]
  simp only [tx, bk, ByteArray.data_extract, Array.toList_extract, List.extract_eq_drop_take']
  rfl
theorem t0_size : 20 < t0.size ∧ t0.size ≤ 100000 := by
  have h : ∀ (nms : List (List UInt8)) (ns : List Int), (∀ n, n ∈ ns → n = 0) → (∀ nm, nm ∈ nms → nm.length ≤ 20) → nms.length = ns.length → ns.length ≤ (linesL nms ns).length ∧ (linesL nms ns).length ≤ 100 * ns.length := fun nms => by
    induction nms with
    | nil => intro ns h0 h1 h2; simp at h2; have : ns = [] := List.length_eq_zero_iff.1 h2.symm; subst this; simp [linesL]
    | cons nm nms ih =>
      intro ns h0 h1 h2
      cases ns with
      | nil => simp at h2
      | cons n ns =>
        obtain ⟨k1, k2⟩ := ih ns (fun x hx => h0 x (by simp [hx])) (fun x hx => h1 x (by simp [hx])) (by simpa using h2)
        have hn := h1 nm (by simp)
        have hz := h0 n (by simp)
        have h3 : (Lib.itoa n).length ≤ 20 := itoa_20 (by rw [hz]; unfold In64; decide)
        simp only [linesL, lineL, List.length_append, List.length_cons, List.length_nil]
        omega
  have e : t0.size = (textL [0, 0, 0, 0, 0, 0, 0, 0, 0, 0, 0, 0, 0, 0]).length := rfl
  rw [e, t0_eq]
  obtain ⟨k1, k2⟩ := h ((nmsB.map tx).drop 1 |>.take 13) [0, 0, 0, 0, 0, 0, 0, 0, 0, 0, 0, 0, 0] (fun n hn => by simpa using hn) (by decide) (by decide)
  have e2 : linesL ((nmsB.map tx).drop 1) [0, 0, 0, 0, 0, 0, 0, 0, 0, 0, 0, 0, 0] = linesL ((nmsB.map tx).drop 1 |>.take 13) [0, 0, 0, 0, 0, 0, 0, 0, 0, 0, 0, 0, 0] := by
    unfold nmsB; rfl
  rw [e2]
  simp only [List.length_append, List.length_cons, List.length_nil] at k1 k2 ⊢
  omega
theorem e_safe37 : PCalls Tryd.prog 6 [] (· = .bool true) := by
  obtain ⟨b, eb⟩ : ∃ b, b = t0 := ⟨_, rfl⟩
  have ht := e_text0 b eb
  obtain ⟨n, en⟩ : ∃ n : Int, n = b.size := ⟨_, rfl⟩
  have hn : 20 < n := by have := t0_size; rw [← eb] at this; omega
  have HN := Lib.hid en
  clear eb en
  (refine PCalls.ofY Tryd.func6 (by kernel_rfl) (by kernel_rfl) fun w hw R hR => ?_); (obtain ⟨wbin, wcmp, wun, wconv, wnot, wbeq, wmm, wscmp, wsadd, wslen, wsat, weqs, wlen, wnlen, wofNat, wtake, wdrop, wapp, wzero, wnat⟩ := w); (have hbin : wbin = binStd := congrArg Prims.bin hw); (have hcmp : wcmp = cmpStd := congrArg Prims.cmp hw); (have hun : wun = unStd := congrArg Prims.un hw); (have hconv : wconv = fun k n => k.wrap n := congrArg Prims.conv hw); (have hnot : wnot = fun b => !b := congrArg Prims.not hw); (have hbeq : wbeq = fun a b => a == b := congrArg Prims.beq hw); (have hmm : wmm = maxI := congrArg Prims.mm hw); (have hscmp : wscmp = scmpStd := congrArg Prims.scmp hw); (have hsadd : wsadd = fun x y => x ++ y := congrArg Prims.sadd hw); (have hslen : wslen = fun s => (s.size : Int) := congrArg Prims.slen hw); (have hsat : wsat = std.sat := congrArg Prims.sat hw); (have heqs : weqs = fun a b os => (eqOffs a b os).getD false := congrArg Prims.eqs hw); (have hlen : wlen = fun es => (es.length : Int) := congrArg Prims.len hw); (have hnlen : wnlen = fun es => es.length := congrArg Prims.nlen hw); (have hofNat : wofNat = (fun n : Nat => (n : Int)) := congrArg Prims.ofNat hw); (have htake : wtake = fun es b => es.take b.toNat := congrArg Prims.take hw); (have hdrop : wdrop = fun es a => es.drop a.toNat := congrArg Prims.drop hw); (have happ : wapp = fun a b => a ++ b := congrArg Prims.app hw); (have hzero : wzero = fun n z => List.replicate n.toNat z := congrArg Prims.zero hw); (have hnat : wnat = fun n => n.toNat := congrArg Prims.nat hw); (conv => arg 2; cbv); (generalize hP : Tryd.prog = P); cbv
  refine Call.stepE (by rw [← hP]; exact ht) rfl ?_
  cbv
  have sl : wslen b = n := by rw [hslen]; exact HN.out.symm
  have c : wcmp .gtr n 20 = true := by rw [hcmp]; simp [cmpStd]; omega
  simp only [sl, c]
  exact ⟨_, Vw.same rfl, hR _ rfl⟩
theorem e_anchor37 : PCalls Tryd.prog 7 [] (· = .bool true) := by
  obtain ⟨b, eb⟩ : ∃ b, b = t0 := ⟨_, rfl⟩
  have ht := e_text0 b eb
  have hx : b.extract 0 9 = ⟨#[112, 117, 108, 115, 101, 115, 32, 48, 10]⟩ := by rw [eb]; exact t0_pre
  have hz : (9 : Int) ≤ (b.size : Int) := by have := t0_size; rw [← eb] at this; omega
  have hp := e_parse07
  have HX := Lib.hid hx
  have HZ := Lib.hid hz
  clear eb hx hz
  (refine PCalls.ofY Tryd.func7 (by kernel_rfl) (by kernel_rfl) fun w hw R hR => ?_); (subst hw); (conv => arg 2; cbv); (generalize hP : Tryd.prog = P); cbv
  refine Call.stepE (by rw [← hP]; exact hp) rfl ?_
  cbv
  refine Call.stepE (by rw [← hP]; exact ht) rfl ?_
  cbv
  refine SlcS.to_ _ rfl rfl (by decide) HZ.out HX.out ?_
  cbv
  exact ⟨_, Vw.same rfl, hR _ rfl⟩
end Go.Proofs.YtdjafcjpnjdphaaDoor

/- What a configuration is. -/
set_option linter.unusedVariables false
set_option linter.unusedSimpArgs false
namespace Go.Proofs.YtdjafcjpnjdphaaDoor
open Go Go.RowKit Go.Eng
set_option maxRecDepth 100000
theorem ok_int {k : IntKind} {l : List Sh} {xs : List AV} (h : OkL (.int k :: l) xs) : ∃ n y, xs = .int k n :: y ∧ (Lit.int k n).wf = true ∧ OkL l y := by
  unfold OkL at h
  obtain ⟨x, y, rfl, h1, h2⟩ := h
  unfold Sh.Ok at h1
  obtain ⟨n, rfl, hn⟩ := h1
  exact ⟨n, y, rfl, hn, h2⟩
theorem ok_bool {l : List Sh} {xs : List AV} (h : OkL (.bool :: l) xs) : ∃ b y, xs = .bool b :: y ∧ OkL l y := by
  unfold OkL at h
  obtain ⟨x, y, rfl, h1, h2⟩ := h
  unfold Sh.Ok at h1
  obtain ⟨n, rfl⟩ := h1
  exact ⟨n, y, rfl, h2⟩
theorem ok_list {z : Nat} {row l : List Sh} {xs : List AV} (h : OkL (.list z row :: l) xs) : ∃ es y, xs = .list z es :: y ∧ es.length ≤ maxS ∧ (∀ r, r ∈ es → OkL row r) ∧ OkL l y := by
  unfold OkL at h
  obtain ⟨x, y, rfl, h1, h2⟩ := h
  unfold Sh.Ok at h1
  obtain ⟨n, rfl, h3, h4⟩ := h1
  exact ⟨n, y, rfl, h3, h4, h2⟩
theorem ok_nil {xs : List AV} (h : OkL [] xs) : xs = [] := by unfold OkL at h; exact h
theorem wf64 {n : Int} (h : (Lit.int .i64 n).wf = true) : -9223372036854775808 ≤ n ∧ n ≤ 9223372036854775807 := by
  simp [Lit.wf, IntKind.min, IntKind.max, IntKind.signed, IntKind.bits] at h
  omega
theorem ty_conf (x : AV) (h : TyV Tryd.prog 8 23 x) : ∃ c0 c1 c2 c3 c4 c5 c6 c7 c8 c9 c10 c11 c12 c13 : Int, x = .agg [.int .i64 c0, .int .i64 c1, .int .i64 c2, .int .i64 c3, .int .i64 c4, .int .i64 c5, .int .i64 c6, .int .i64 c7, .int .i64 c8, .int .i64 c9, .int .i64 c10, .int .i64 c11, .int .i64 c12, .int .i64 c13] := by
  obtain ⟨cs, rfl, hx⟩ := h.agg (by kernel_rfl) (show shOf Tryd.prog 8 23 = some [.int .i64, .int .i64, .int .i64, .int .i64, .int .i64, .int .i64, .int .i64, .int .i64, .int .i64, .int .i64, .int .i64, .int .i64, .int .i64, .int .i64] from by kernel_rfl)
  obtain ⟨c0, _, rfl, _, hx⟩ := ok_int hx
  obtain ⟨c1, _, rfl, _, hx⟩ := ok_int hx
  obtain ⟨c2, _, rfl, _, hx⟩ := ok_int hx
  obtain ⟨c3, _, rfl, _, hx⟩ := ok_int hx
  obtain ⟨c4, _, rfl, _, hx⟩ := ok_int hx
  obtain ⟨c5, _, rfl, _, hx⟩ := ok_int hx
  obtain ⟨c6, _, rfl, _, hx⟩ := ok_int hx
  obtain ⟨c7, _, rfl, _, hx⟩ := ok_int hx
  obtain ⟨c8, _, rfl, _, hx⟩ := ok_int hx
  obtain ⟨c9, _, rfl, _, hx⟩ := ok_int hx
  obtain ⟨c10, _, rfl, _, hx⟩ := ok_int hx
  obtain ⟨c11, _, rfl, _, hx⟩ := ok_int hx
  obtain ⟨c12, _, rfl, _, hx⟩ := ok_int hx
  obtain ⟨c13, _, rfl, _, hx⟩ := ok_int hx
  obtain rfl := ok_nil hx
  exact ⟨c0, c1, c2, c3, c4, c5, c6, c7, c8, c9, c10, c11, c12, c13, rfl⟩
end Go.Proofs.YtdjafcjpnjdphaaDoor

/- The statements about words, by the engine. -/
set_option linter.unusedVariables false
set_option linter.unusedSimpArgs false
namespace Go.Proofs.YtdjafcjpnjdphaaDoor
open Go Go.RowKit Go.Eng Go.Shelf
set_option maxRecDepth 100000
theorem ty_confw (x : AV) (h : TyV Tryd.prog 8 23 x) : ∃ c0 c1 c2 c3 c4 c5 c6 c7 c8 c9 c10 c11 c12 c13 : Int, (In64 c0 ∧ In64 c1 ∧ In64 c2 ∧ In64 c3 ∧ In64 c4 ∧ In64 c5 ∧ In64 c6 ∧ In64 c7 ∧ In64 c8 ∧ In64 c9 ∧ In64 c10 ∧ In64 c11 ∧ In64 c12 ∧ In64 c13) ∧ x = .agg [.int .i64 c0, .int .i64 c1, .int .i64 c2, .int .i64 c3, .int .i64 c4, .int .i64 c5, .int .i64 c6, .int .i64 c7, .int .i64 c8, .int .i64 c9, .int .i64 c10, .int .i64 c11, .int .i64 c12, .int .i64 c13] := by
  obtain ⟨cs, rfl, hx⟩ := h.agg (by kernel_rfl) (show shOf Tryd.prog 8 23 = some [.int .i64, .int .i64, .int .i64, .int .i64, .int .i64, .int .i64, .int .i64, .int .i64, .int .i64, .int .i64, .int .i64, .int .i64, .int .i64, .int .i64] from by kernel_rfl)
  obtain ⟨c0, _, rfl, w0, hx⟩ := ok_int hx
  obtain ⟨c1, _, rfl, w1, hx⟩ := ok_int hx
  obtain ⟨c2, _, rfl, w2, hx⟩ := ok_int hx
  obtain ⟨c3, _, rfl, w3, hx⟩ := ok_int hx
  obtain ⟨c4, _, rfl, w4, hx⟩ := ok_int hx
  obtain ⟨c5, _, rfl, w5, hx⟩ := ok_int hx
  obtain ⟨c6, _, rfl, w6, hx⟩ := ok_int hx
  obtain ⟨c7, _, rfl, w7, hx⟩ := ok_int hx
  obtain ⟨c8, _, rfl, w8, hx⟩ := ok_int hx
  obtain ⟨c9, _, rfl, w9, hx⟩ := ok_int hx
  obtain ⟨c10, _, rfl, w10, hx⟩ := ok_int hx
  obtain ⟨c11, _, rfl, w11, hx⟩ := ok_int hx
  obtain ⟨c12, _, rfl, w12, hx⟩ := ok_int hx
  obtain ⟨c13, _, rfl, w13, hx⟩ := ok_int hx
  obtain rfl := ok_nil hx
  exact ⟨c0, c1, c2, c3, c4, c5, c6, c7, c8, c9, c10, c11, c12, c13, ⟨wf64 w0, wf64 w1, wf64 w2, wf64 w3, wf64 w4, wf64 w5, wf64 w6, wf64 w7, wf64 w8, wf64 w9, wf64 w10, wf64 w11, wf64 w12, wf64 w13⟩, rfl⟩
theorem lines_size (nms : List (List UInt8)) : ∀ (ns : List Int), (∀ n, n ∈ ns → In64 n) → (∀ nm, nm ∈ nms → nm.length ≤ 20) → (linesL nms ns).length ≤ 100 * ns.length := by
  induction nms with
  | nil => intro ns h0 h1; simp [linesL]
  | cons nm nms ih =>
    intro ns h0 h1
    cases ns with
    | nil => simp [linesL]
    | cons n ns =>
      have k2 := ih ns (fun x hx => h0 x (by simp [hx])) (fun x hx => h1 x (by simp [hx]))
      have hn := h1 nm (by simp)
      have h3 : (Lib.itoa n).length ≤ 20 := itoa_20 (h0 n (by simp))
      simp only [linesL, lineL, List.length_append, List.length_cons, List.length_nil]
      omega
theorem text_size {ns : List Int} (h : ∀ n, n ∈ ns → In64 n) : (bk (textL ns)).size ≤ 100000 := by
  have e : (bk (textL ns)).size = (textL ns).length := rfl
  rw [e]
  have := lines_size ((nmsB.map tx).take 14) (ns.take 14) (fun n hn => h n (List.mem_of_mem_take hn)) (by decide)
  unfold textL
  have h2 : (ns.take 14).length ≤ 14 := by rw [List.length_take]; omega
  simp only [List.length_append, List.length_cons, List.length_nil]
  omega
theorem textL_of (c0 c1 c2 c3 c4 c5 c6 c7 c8 c9 c10 c11 c12 c13 : Int) : textL [c0, c1, c2, c3, c4, c5, c6, c7, c8, c9, c10, c11, c12, c13] = textOf nmsB [c0, c1, c2, c3, c4, c5, c6, c7, c8, c9, c10, c11, c12, c13] := by
  unfold textL nmsB
  simp only [List.map_cons, List.map_nil, List.take_succ_cons, List.take_zero, linesL, textOf, List.append_assoc, List.append_nil]
  rfl
theorem says_txt (c0 c1 c2 c3 c4 c5 c6 c7 c8 c9 c10 c11 c12 c13 : Int) (hin : ∀ n, n ∈ [c0, c1, c2, c3, c4, c5, c6, c7, c8, c9, c10, c11, c12, c13] → In64 n) : Says nmsB 1 (bk (textL [c0, c1, c2, c3, c4, c5, c6, c7, c8, c9, c10, c11, c12, c13])) [] (.good [c0, c1, c2, c3, c4, c5, c6, c7, c8, c9, c10, c11, c12, c13]) := by
  have := says_text nmsB [c0, c1, c2, c3, c4, c5, c6, c7, c8, c9, c10, c11, c12, c13] 1 [] rfl (by decide) hin
  rw [← textL_of] at this
  exact this
theorem in14 {c0 c1 c2 c3 c4 c5 c6 c7 c8 c9 c10 c11 c12 c13 : Int} (hi0 : In64 c0) (hi1 : In64 c1) (hi2 : In64 c2) (hi3 : In64 c3) (hi4 : In64 c4) (hi5 : In64 c5) (hi6 : In64 c6) (hi7 : In64 c7) (hi8 : In64 c8) (hi9 : In64 c9) (hi10 : In64 c10) (hi11 : In64 c11) (hi12 : In64 c12) (hi13 : In64 c13) : ∀ n, n ∈ [c0, c1, c2, c3, c4, c5, c6, c7, c8, c9, c10, c11, c12, c13] → In64 n := fun n hn => by
  simp only [List.mem_cons, List.not_mem_nil, or_false] at hn
  rcases hn with rfl | rfl | rfl | rfl | rfl | rfl | rfl | rfl | rfl | rfl | rfl | rfl | rfl | rfl <;> assumption
theorem e_text14 (c0 c1 c2 c3 c4 c5 c6 c7 c8 c9 c10 c11 c12 c13 : Int) (hi0 : In64 c0) (hi1 : In64 c1) (hi2 : In64 c2) (hi3 : In64 c3) (hi4 : In64 c4) (hi5 : In64 c5) (hi6 : In64 c6) (hi7 : In64 c7) (hi8 : In64 c8) (hi9 : In64 c9) (hi10 : In64 c10) (hi11 : In64 c11) (hi12 : In64 c12) (hi13 : In64 c13) (b : ByteArray) (eb : b = bk (textL [c0, c1, c2, c3, c4, c5, c6, c7, c8, c9, c10, c11, c12, c13])) : PCalls Tryd.prog 8 [.agg [.int .i64 c0, .int .i64 c1, .int .i64 c2, .int .i64 c3, .int .i64 c4, .int .i64 c5, .int .i64 c6, .int .i64 c7, .int .i64 c8, .int .i64 c9, .int .i64 c10, .int .i64 c11, .int .i64 c12, .int .i64 c13]] (· = .str b) :=
  e_wtext [c0, c1, c2, c3, c4, c5, c6, c7, c8, c9, c10, c11, c12, c13] c0 c1 c2 c3 c4 c5 c6 c7 c8 c9 c10 c11 c12 c13 rfl (in14 hi0 hi1 hi2 hi3 hi4 hi5 hi6 hi7 hi8 hi9 hi10 hi11 hi12 hi13) b eb
/-- A config as a row of numbers. -/
def cfL (c0 c1 c2 c3 c4 c5 c6 c7 c8 c9 c10 c11 c12 c13 : Int) : List AV := [.int .i64 c0, .int .i64 c1, .int .i64 c2, .int .i64 c3, .int .i64 c4, .int .i64 c5, .int .i64 c6, .int .i64 c7, .int .i64 c8, .int .i64 c9, .int .i64 c10, .int .i64 c11, .int .i64 c12, .int .i64 c13]
theorem e_parse_text (c0 c1 c2 c3 c4 c5 c6 c7 c8 c9 c10 c11 c12 c13 w e : Int) (hi0 : In64 c0) (hi1 : In64 c1) (hi2 : In64 c2) (hi3 : In64 c3) (hi4 : In64 c4) (hi5 : In64 c5) (hi6 : In64 c6) (hi7 : In64 c7) (hi8 : In64 c8) (hi9 : In64 c9) (hi10 : In64 c10) (hi11 : In64 c11) (hi12 : In64 c12) (hi13 : In64 c13) (hw : w = wrongV c0 c1 c2 c3 c4 c5 c6 c7 c8 c9 c10 c11 c12 c13) (he : e = if w = 0 then 0 else 50) (b : ByteArray) (eb : b = bk (textL [c0, c1, c2, c3, c4, c5, c6, c7, c8, c9, c10, c11, c12, c13])) (d0 d1 d2 d3 d4 d5 d6 d7 d8 d9 d10 d11 d12 d13 : Int) (hd : (w = 0 ∧ d0 = c0 ∧ d1 = c1 ∧ d2 = c2 ∧ d3 = c3 ∧ d4 = c4 ∧ d5 = c5 ∧ d6 = c6 ∧ d7 = c7 ∧ d8 = c8 ∧ d9 = c9 ∧ d10 = c10 ∧ d11 = c11 ∧ d12 = c12 ∧ d13 = c13) ∨ (w ≠ 0 ∧ d0 = 0 ∧ d1 = 0 ∧ d2 = 0 ∧ d3 = 0 ∧ d4 = 0 ∧ d5 = 0 ∧ d6 = 0 ∧ d7 = 0 ∧ d8 = 0 ∧ d9 = 0 ∧ d10 = 0 ∧ d11 = 0 ∧ d12 = 0 ∧ d13 = 0)) : PCalls Tryd.prog 9 [.str b] (· = .tuple [.agg [.int .i64 d0, .int .i64 d1, .int .i64 d2, .int .i64 d3, .int .i64 d4, .int .i64 d5, .int .i64 d6, .int .i64 d7, .int .i64 d8, .int .i64 d9, .int .i64 d10, .int .i64 d11, .int .i64 d12, .int .i64 d13], .int .i64 e, .int .i64 w]) := by
  refine (e_parse b ⟨by rw [eb]; exact text_size (in14 hi0 hi1 hi2 hi3 hi4 hi5 hi6 hi7 hi8 hi9 hi10 hi11 hi12 hi13)⟩).mono fun r hr => ?_
  have hs := says_txt c0 c1 c2 c3 c4 c5 c6 c7 c8 c9 c10 c11 c12 c13 (in14 hi0 hi1 hi2 hi3 hi4 hi5 hi6 hi7 hi8 hi9 hi10 hi11 hi12 hi13)
  rw [← eb] at hs
  rcases hr with ⟨e, l, h1, h2, rfl⟩ | ⟨x0, x1, x2, x3, x4, x5, x6, x7, x8, x9, x10, x11, x12, x13, h1, h2⟩
  · cases says_un h1 hs
  · have e1 := says_un h1 hs
    simp only [Par.good.injEq, List.cons.injEq, and_true] at e1
    obtain ⟨rfl, rfl, rfl, rfl, rfl, rfl, rfl, rfl, rfl, rfl, rfl, rfl, rfl, rfl⟩ := e1
    rw [← hw] at h2
    rcases h2 with ⟨h3, rfl⟩ | ⟨h3, rfl⟩
    · rcases hd with ⟨_, hd⟩ | ⟨hd, _⟩
      · obtain ⟨rfl, rfl, rfl, rfl, rfl, rfl, rfl, rfl, rfl, rfl, rfl, rfl, rfl, rfl⟩ := hd
        rw [he, h3]; rfl
      · exact absurd h3 hd
    · rcases hd with ⟨hd, _⟩ | ⟨_, hd⟩
      · exact absurd hd h3
      · obtain ⟨rfl, rfl, rfl, rfl, rfl, rfl, rfl, rfl, rfl, rfl, rfl, rfl, rfl, rfl⟩ := hd
        rw [he, if_neg h3]; rfl
theorem text_inj {c0 c1 c2 c3 c4 c5 c6 c7 c8 c9 c10 c11 c12 c13 d0 d1 d2 d3 d4 d5 d6 d7 d8 d9 d10 d11 d12 d13 : Int} (hi0 : In64 c0) (hi1 : In64 c1) (hi2 : In64 c2) (hi3 : In64 c3) (hi4 : In64 c4) (hi5 : In64 c5) (hi6 : In64 c6) (hi7 : In64 c7) (hi8 : In64 c8) (hi9 : In64 c9) (hi10 : In64 c10) (hi11 : In64 c11) (hi12 : In64 c12) (hi13 : In64 c13) (hj0 : In64 d0) (hj1 : In64 d1) (hj2 : In64 d2) (hj3 : In64 d3) (hj4 : In64 d4) (hj5 : In64 d5) (hj6 : In64 d6) (hj7 : In64 d7) (hj8 : In64 d8) (hj9 : In64 d9) (hj10 : In64 d10) (hj11 : In64 d11) (hj12 : In64 d12) (hj13 : In64 d13) : textL [c0, c1, c2, c3, c4, c5, c6, c7, c8, c9, c10, c11, c12, c13] = textL [d0, d1, d2, d3, d4, d5, d6, d7, d8, d9, d10, d11, d12, d13] ↔ ([c0, c1, c2, c3, c4, c5, c6, c7, c8, c9, c10, c11, c12, c13] : List Int) = [d0, d1, d2, d3, d4, d5, d6, d7, d8, d9, d10, d11, d12, d13] := by
  refine ⟨fun h => ?_, fun h => by rw [h]⟩
  have h1 := says_txt c0 c1 c2 c3 c4 c5 c6 c7 c8 c9 c10 c11 c12 c13 (in14 hi0 hi1 hi2 hi3 hi4 hi5 hi6 hi7 hi8 hi9 hi10 hi11 hi12 hi13)
  have h2 := says_txt d0 d1 d2 d3 d4 d5 d6 d7 d8 d9 d10 d11 d12 d13 (in14 hj0 hj1 hj2 hj3 hj4 hj5 hj6 hj7 hj8 hj9 hj10 hj11 hj12 hj13)
  rw [h] at h1
  have := says_un h1 h2
  cases this; rfl
theorem bk_inj {a b : List UInt8} (h : bk a = bk b) : a = b := by
  have : tx (bk a) = tx (bk b) := by rw [h]
  exact this
set_option maxHeartbeats 1000000 in
theorem e_wapart (c0 c1 c2 c3 c4 c5 c6 c7 c8 c9 c10 c11 c12 c13 d0 d1 d2 d3 d4 d5 d6 d7 d8 d9 d10 d11 d12 d13 : Int) (hi0 : In64 c0) (hi1 : In64 c1) (hi2 : In64 c2) (hi3 : In64 c3) (hi4 : In64 c4) (hi5 : In64 c5) (hi6 : In64 c6) (hi7 : In64 c7) (hi8 : In64 c8) (hi9 : In64 c9) (hi10 : In64 c10) (hi11 : In64 c11) (hi12 : In64 c12) (hi13 : In64 c13) (hj0 : In64 d0) (hj1 : In64 d1) (hj2 : In64 d2) (hj3 : In64 d3) (hj4 : In64 d4) (hj5 : In64 d5) (hj6 : In64 d6) (hj7 : In64 d7) (hj8 : In64 d8) (hj9 : In64 d9) (hj10 : In64 d10) (hj11 : In64 d11) (hj12 : In64 d12) (hj13 : In64 d13) : PCalls Tryd.prog 5 [.agg [.int .i64 c0, .int .i64 c1, .int .i64 c2, .int .i64 c3, .int .i64 c4, .int .i64 c5, .int .i64 c6, .int .i64 c7, .int .i64 c8, .int .i64 c9, .int .i64 c10, .int .i64 c11, .int .i64 c12, .int .i64 c13], .agg [.int .i64 d0, .int .i64 d1, .int .i64 d2, .int .i64 d3, .int .i64 d4, .int .i64 d5, .int .i64 d6, .int .i64 d7, .int .i64 d8, .int .i64 d9, .int .i64 d10, .int .i64 d11, .int .i64 d12, .int .i64 d13]] (· = .bool true) := by
  obtain ⟨ta, eta⟩ : ∃ t, t = bk (textL [c0, c1, c2, c3, c4, c5, c6, c7, c8, c9, c10, c11, c12, c13]) := ⟨_, rfl⟩
  obtain ⟨tb, etb⟩ : ∃ t, t = bk (textL [d0, d1, d2, d3, d4, d5, d6, d7, d8, d9, d10, d11, d12, d13]) := ⟨_, rfl⟩
  have qa := e_text14 c0 c1 c2 c3 c4 c5 c6 c7 c8 c9 c10 c11 c12 c13 hi0 hi1 hi2 hi3 hi4 hi5 hi6 hi7 hi8 hi9 hi10 hi11 hi12 hi13 ta eta
  have qb := e_text14 d0 d1 d2 d3 d4 d5 d6 d7 d8 d9 d10 d11 d12 d13 hj0 hj1 hj2 hj3 hj4 hj5 hj6 hj7 hj8 hj9 hj10 hj11 hj12 hj13 tb etb
  have hs : ta = tb ↔ ([c0, c1, c2, c3, c4, c5, c6, c7, c8, c9, c10, c11, c12, c13] : List Int) = [d0, d1, d2, d3, d4, d5, d6, d7, d8, d9, d10, d11, d12, d13] := by
    rw [eta, etb, ← text_inj hi0 hi1 hi2 hi3 hi4 hi5 hi6 hi7 hi8 hi9 hi10 hi11 hi12 hi13 hj0 hj1 hj2 hj3 hj4 hj5 hj6 hj7 hj8 hj9 hj10 hj11 hj12 hj13]
    exact ⟨bk_inj, fun h => by rw [h]⟩
  clear eta etb
  have HS := Lib.hid hs
  clear hs hi0 hi1 hi2 hi3 hi4 hi5 hi6 hi7 hi8 hi9 hi10 hi11 hi12 hi13 hj0 hj1 hj2 hj3 hj4 hj5 hj6 hj7 hj8 hj9 hj10 hj11 hj12 hj13
  (refine PCalls.ofY Tryd.func5 (by kernel_rfl) (by kernel_rfl) fun w hw R hR => ?_); (obtain ⟨wbin, wcmp, wun, wconv, wnot, wbeq, wmm, wscmp, wsadd, wslen, wsat, weqs, wlen, wnlen, wofNat, wtake, wdrop, wapp, wzero, wnat⟩ := w); (have hbin : wbin = binStd := congrArg Prims.bin hw); (have hcmp : wcmp = cmpStd := congrArg Prims.cmp hw); (have hun : wun = unStd := congrArg Prims.un hw); (have hconv : wconv = fun k n => k.wrap n := congrArg Prims.conv hw); (have hnot : wnot = fun b => !b := congrArg Prims.not hw); (have hbeq : wbeq = fun a b => a == b := congrArg Prims.beq hw); (have hmm : wmm = maxI := congrArg Prims.mm hw); (have hscmp : wscmp = scmpStd := congrArg Prims.scmp hw); (have hsadd : wsadd = fun x y => x ++ y := congrArg Prims.sadd hw); (have hslen : wslen = fun s => (s.size : Int) := congrArg Prims.slen hw); (have hsat : wsat = std.sat := congrArg Prims.sat hw); (have heqs : weqs = fun a b os => (eqOffs a b os).getD false := congrArg Prims.eqs hw); (have hlen : wlen = fun es => (es.length : Int) := congrArg Prims.len hw); (have hnlen : wnlen = fun es => es.length := congrArg Prims.nlen hw); (have hofNat : wofNat = (fun n : Nat => (n : Int)) := congrArg Prims.ofNat hw); (have htake : wtake = fun es b => es.take b.toNat := congrArg Prims.take hw); (have hdrop : wdrop = fun es a => es.drop a.toNat := congrArg Prims.drop hw); (have happ : wapp = fun a b => a ++ b := congrArg Prims.app hw); (have hzero : wzero = fun n z => List.replicate n.toNat z := congrArg Prims.zero hw); (have hnat : wnat = fun n => n.toNat := congrArg Prims.nat hw); (conv => arg 2; cbv); (generalize hP : Tryd.prog = P); cbv
  refine Call.stepE (by rw [← hP]; exact e_safe37) rfl ?_
  cbv
  have n1 : wnot true = false := by rw [hnot]; rfl
  simp only [n1]; cbv
  refine Call.stepE (by rw [← hP]; exact e_anchor37) rfl ?_
  cbv
  simp only [n1]; cbv
  repeat' (first
    | (refine Call.stepE (by rw [← hP]; exact qa) rfl ?_; cbv)
    | (refine Call.stepE (by rw [← hP]; exact qb) rfl ?_; cbv)
    | (refine QCal.stepE (by rw [← hP]; exact qa) rfl ?_; cbv)
    | (refine QCal.stepE (by rw [← hP]; exact qb) rfl ?_; cbv)
    | fail)
  refine ⟨_, Vw.same rfl, hR _ ?_⟩
  simp only [retOne]
  congr 1
  rw [hbeq, hscmp, heqs, scmp_eql2]
  have hb : (eqOffs [.int .i64 c0, .int .i64 c1, .int .i64 c2, .int .i64 c3, .int .i64 c4, .int .i64 c5, .int .i64 c6, .int .i64 c7, .int .i64 c8, .int .i64 c9, .int .i64 c10, .int .i64 c11, .int .i64 c12, .int .i64 c13] [.int .i64 d0, .int .i64 d1, .int .i64 d2, .int .i64 d3, .int .i64 d4, .int .i64 d5, .int .i64 d6, .int .i64 d7, .int .i64 d8, .int .i64 d9, .int .i64 d10, .int .i64 d11, .int .i64 d12, .int .i64 d13] [(0, 1), (1, 1), (2, 1), (3, 1), (4, 1), (5, 1), (6, 1), (7, 1), (8, 1), (9, 1), (10, 1), (11, 1), (12, 1), (13, 1)]).getD false = decide (([c0, c1, c2, c3, c4, c5, c6, c7, c8, c9, c10, c11, c12, c13] : List Int) = [d0, d1, d2, d3, d4, d5, d6, d7, d8, d9, d10, d11, d12, d13]) := by
    rw [Bool.eq_iff_iff]
    simp [eqOffs, eqA]
  by_cases he : ([c0, c1, c2, c3, c4, c5, c6, c7, c8, c9, c10, c11, c12, c13] : List Int) = [d0, d1, d2, d3, d4, d5, d6, d7, d8, d9, d10, d11, d12, d13]
  · have h1 := HS.out.2 he
    simp only [hb, h1, he, decide_true]; rfl
  · have h1 : ¬ ta = tb := fun h => he (HS.out.1 h)
    simp only [hb, h1, he, decide_false]; rfl
end Go.Proofs.YtdjafcjpnjdphaaDoor

/- A configuration's text, as the document has it, by the engine. -/
set_option linter.unusedVariables false
set_option linter.unusedSimpArgs false
namespace Go.Proofs.YtdjafcjpnjdphaaDoor
open Go Go.RowKit Go.Eng Go.Shelf
set_option maxRecDepth 100000
theorem e_rnumbers (c0 c1 c2 c3 c4 c5 c6 c7 c8 c9 c10 c11 c12 c13 : Int) (h9 : In64 c9) (h12 : In64 c12) : PCalls Tryd.prog 22 [.agg [.int .i64 c0, .int .i64 c1, .int .i64 c2, .int .i64 c3, .int .i64 c4, .int .i64 c5, .int .i64 c6, .int .i64 c7, .int .i64 c8, .int .i64 c9, .int .i64 c10, .int .i64 c11, .int .i64 c12, .int .i64 c13]] (· = .agg [.int .i64 c0, .int .i64 c1, .int .i64 c2, .int .i64 c3, .int .i64 c4, .int .i64 c5, .int .i64 c6, .int .i64 c7, .int .i64 c8, .int .i64 c9, .int .i64 c10, .int .i64 c11, .int .i64 c12, .int .i64 c13]) := by
  (refine PCalls.ofY Tryd.func22 (by kernel_rfl) (by kernel_rfl) fun w hw R hR => ?_); (obtain ⟨wbin, wcmp, wun, wconv, wnot, wbeq, wmm, wscmp, wsadd, wslen, wsat, weqs, wlen, wnlen, wofNat, wtake, wdrop, wapp, wzero, wnat⟩ := w); (have hbin : wbin = binStd := congrArg Prims.bin hw); (have hcmp : wcmp = cmpStd := congrArg Prims.cmp hw); (have hun : wun = unStd := congrArg Prims.un hw); (have hconv : wconv = fun k n => k.wrap n := congrArg Prims.conv hw); (have hnot : wnot = fun b => !b := congrArg Prims.not hw); (have hbeq : wbeq = fun a b => a == b := congrArg Prims.beq hw); (have hmm : wmm = maxI := congrArg Prims.mm hw); (have hscmp : wscmp = scmpStd := congrArg Prims.scmp hw); (have hsadd : wsadd = fun x y => x ++ y := congrArg Prims.sadd hw); (have hslen : wslen = fun s => (s.size : Int) := congrArg Prims.slen hw); (have hsat : wsat = std.sat := congrArg Prims.sat hw); (have heqs : weqs = fun a b os => (eqOffs a b os).getD false := congrArg Prims.eqs hw); (have hlen : wlen = fun es => (es.length : Int) := congrArg Prims.len hw); (have hnlen : wnlen = fun es => es.length := congrArg Prims.nlen hw); (have hofNat : wofNat = (fun n : Nat => (n : Int)) := congrArg Prims.ofNat hw); (have htake : wtake = fun es b => es.take b.toNat := congrArg Prims.take hw); (have hdrop : wdrop = fun es a => es.drop a.toNat := congrArg Prims.drop hw); (have happ : wapp = fun a b => a ++ b := congrArg Prims.app hw); (have hzero : wzero = fun n z => List.replicate n.toNat z := congrArg Prims.zero hw); (have hnat : wnat = fun n => n.toNat := congrArg Prims.nat hw); (conv => arg 2; cbv); (generalize hP : Tryd.prog = P); cbv
  exact ⟨_, Vw.same rfl, hR _ rfl⟩
theorem step_sz {k k2 : Nat} {o p q r o2 nm d : ByteArray} (ho : o.size ≤ k) (hn : nm.size ≤ 20) (hd : (d.size : Int) ≤ 21) (ep : p = o ++ nm) (eq : q = p ++ (⟨#[32]⟩ : ByteArray)) (er : r = q ++ d) (eo : o2 = r ++ (⟨#[10]⟩ : ByteArray)) (hk : k + 60 ≤ k2) (hk2 : k2 ≤ 1000000) : Sz p ∧ Sz q ∧ Sz r ∧ Sz o2 ∧ o2.size ≤ k2 := by
  have z1 : p.size = o.size + nm.size := by rw [ep, ByteArray.size_append]
  have z2 : q.size = p.size + 1 := by rw [eq, ByteArray.size_append]; rfl
  have z3 : r.size = q.size + d.size := by rw [er, ByteArray.size_append]
  have z4 : o2.size = r.size + 1 := by rw [eo, ByteArray.size_append]; rfl
  unfold Sz
  omega
theorem step_tx {o p q r o2 nm d : ByteArray} {n : Int} (ep : p = o ++ nm) (eq : q = p ++ (⟨#[32]⟩ : ByteArray)) (ed : d = itb n) (er : r = q ++ d) (eo : o2 = r ++ (⟨#[10]⟩ : ByteArray)) : tx o2 = tx o ++ lineL (tx nm) n := by
  rw [eo, er, eq, ep, ed]
  simp only [tx_app]
  show tx o ++ tx nm ++ [32] ++ tx (itb n) ++ [10] = _
  unfold lineL
  simp [tx_itb]
set_option maxHeartbeats 4000000 in
theorem e_rtext37 (c0 c1 c2 c3 c4 c5 c6 c7 c8 c9 c10 c11 c12 c13 : Int) (hi0 : In64 c0) (hi1 : In64 c1) (hi2 : In64 c2) (hi3 : In64 c3) (hi4 : In64 c4) (hi5 : In64 c5) (hi6 : In64 c6) (hi7 : In64 c7) (hi8 : In64 c8) (hi9 : In64 c9) (hi10 : In64 c10) (hi11 : In64 c11) (hi12 : In64 c12) (hi13 : In64 c13) (o15 : ByteArray) (eo15 : o15 = bk (textL [c0, c1, c2, c3, c4, c5, c6, c7, c8, c9, c10, c11, c12, c13])) : PCalls Tryd.prog 10 [.agg [.int .i64 c0, .int .i64 c1, .int .i64 c2, .int .i64 c3, .int .i64 c4, .int .i64 c5, .int .i64 c6, .int .i64 c7, .int .i64 c8, .int .i64 c9, .int .i64 c10, .int .i64 c11, .int .i64 c12, .int .i64 c13]] (· = .str o15) := by
  have qn := e_rnumbers c0 c1 c2 c3 c4 c5 c6 c7 c8 c9 c10 c11 c12 c13 hi9 hi12
  obtain ⟨o0, eo0⟩ : ∃ p : ByteArray, p = ⟨#[]⟩ := ⟨_, rfl⟩
  have so0 : o0.size ≤ 0 := by rw [eo0]; exact Nat.le_refl _
  obtain ⟨d0, ed0⟩ : ∃ t, t = itb c0 := ⟨_, rfl⟩
  have qd0 := e_dig c0 hi0.1 hi0.2 d0 ed0
  obtain ⟨p0, ep0⟩ : ∃ p : ByteArray, p = o0 ++ (⟨#[112, 117, 108, 115, 101, 115]⟩ : ByteArray) := ⟨_, rfl⟩
  obtain ⟨q0, eq0⟩ : ∃ p : ByteArray, p = p0 ++ (⟨#[32]⟩ : ByteArray) := ⟨_, rfl⟩
  obtain ⟨r0, er0⟩ : ∃ p : ByteArray, p = q0 ++ d0 := ⟨_, rfl⟩
  obtain ⟨o1, eo1⟩ : ∃ p : ByteArray, p = r0 ++ (⟨#[10]⟩ : ByteArray) := ⟨_, rfl⟩
  have sd0 : (d0.size : Int) ≤ 21 := by rw [ed0]; exact sz_itb hi0.1 hi0.2
  have ss0 := step_sz (k := 0) (k2 := 60) so0 (show (⟨#[112, 117, 108, 115, 101, 115]⟩ : ByteArray).size ≤ 20 by decide) sd0 ep0 eq0 er0 eo1 (by decide) (by decide)
  have st0 := step_tx ep0 eq0 ed0 er0 eo1
  have so1 := ss0.2.2.2.2
  have HP0 := Lib.hid ep0
  have HQ0 := Lib.hid eq0
  have HR0 := Lib.hid er0
  have HO1 := Lib.hid eo1
  have HS0 := Lib.hid ss0
  obtain ⟨d1, ed1⟩ : ∃ t, t = itb c1 := ⟨_, rfl⟩
  have qd1 := e_dig c1 hi1.1 hi1.2 d1 ed1
  obtain ⟨p1, ep1⟩ : ∃ p : ByteArray, p = o1 ++ (⟨#[99, 105, 114, 99, 45, 108, 111]⟩ : ByteArray) := ⟨_, rfl⟩
  obtain ⟨q1, eq1⟩ : ∃ p : ByteArray, p = p1 ++ (⟨#[32]⟩ : ByteArray) := ⟨_, rfl⟩
  obtain ⟨r1, er1⟩ : ∃ p : ByteArray, p = q1 ++ d1 := ⟨_, rfl⟩
  obtain ⟨o2, eo2⟩ : ∃ p : ByteArray, p = r1 ++ (⟨#[10]⟩ : ByteArray) := ⟨_, rfl⟩
  have sd1 : (d1.size : Int) ≤ 21 := by rw [ed1]; exact sz_itb hi1.1 hi1.2
  have ss1 := step_sz (k := 60) (k2 := 120) so1 (show (⟨#[99, 105, 114, 99, 45, 108, 111]⟩ : ByteArray).size ≤ 20 by decide) sd1 ep1 eq1 er1 eo2 (by decide) (by decide)
  have st1 := step_tx ep1 eq1 ed1 er1 eo2
  have so2 := ss1.2.2.2.2
  have HP1 := Lib.hid ep1
  have HQ1 := Lib.hid eq1
  have HR1 := Lib.hid er1
  have HO2 := Lib.hid eo2
  have HS1 := Lib.hid ss1
  obtain ⟨d2, ed2⟩ : ∃ t, t = itb c2 := ⟨_, rfl⟩
  have qd2 := e_dig c2 hi2.1 hi2.2 d2 ed2
  obtain ⟨p2, ep2⟩ : ∃ p : ByteArray, p = o2 ++ (⟨#[99, 105, 114, 99, 45, 104, 105]⟩ : ByteArray) := ⟨_, rfl⟩
  obtain ⟨q2, eq2⟩ : ∃ p : ByteArray, p = p2 ++ (⟨#[32]⟩ : ByteArray) := ⟨_, rfl⟩
  obtain ⟨r2, er2⟩ : ∃ p : ByteArray, p = q2 ++ d2 := ⟨_, rfl⟩
  obtain ⟨o3, eo3⟩ : ∃ p : ByteArray, p = r2 ++ (⟨#[10]⟩ : ByteArray) := ⟨_, rfl⟩
  have sd2 : (d2.size : Int) ≤ 21 := by rw [ed2]; exact sz_itb hi2.1 hi2.2
  have ss2 := step_sz (k := 120) (k2 := 180) so2 (show (⟨#[99, 105, 114, 99, 45, 104, 105]⟩ : ByteArray).size ≤ 20 by decide) sd2 ep2 eq2 er2 eo3 (by decide) (by decide)
  have st2 := step_tx ep2 eq2 ed2 er2 eo3
  have so3 := ss2.2.2.2.2
  have HP2 := Lib.hid ep2
  have HQ2 := Lib.hid eq2
  have HR2 := Lib.hid er2
  have HO3 := Lib.hid eo3
  have HS2 := Lib.hid ss2
  obtain ⟨d3, ed3⟩ : ∃ t, t = itb c3 := ⟨_, rfl⟩
  have qd3 := e_dig c3 hi3.1 hi3.2 d3 ed3
  obtain ⟨p3, ep3⟩ : ∃ p : ByteArray, p = o3 ++ (⟨#[114, 97, 100, 45, 98, 97, 115, 101]⟩ : ByteArray) := ⟨_, rfl⟩
  obtain ⟨q3, eq3⟩ : ∃ p : ByteArray, p = p3 ++ (⟨#[32]⟩ : ByteArray) := ⟨_, rfl⟩
  obtain ⟨r3, er3⟩ : ∃ p : ByteArray, p = q3 ++ d3 := ⟨_, rfl⟩
  obtain ⟨o4, eo4⟩ : ∃ p : ByteArray, p = r3 ++ (⟨#[10]⟩ : ByteArray) := ⟨_, rfl⟩
  have sd3 : (d3.size : Int) ≤ 21 := by rw [ed3]; exact sz_itb hi3.1 hi3.2
  have ss3 := step_sz (k := 180) (k2 := 240) so3 (show (⟨#[114, 97, 100, 45, 98, 97, 115, 101]⟩ : ByteArray).size ≤ 20 by decide) sd3 ep3 eq3 er3 eo4 (by decide) (by decide)
  have st3 := step_tx ep3 eq3 ed3 er3 eo4
  have so4 := ss3.2.2.2.2
  have HP3 := Lib.hid ep3
  have HQ3 := Lib.hid eq3
  have HR3 := Lib.hid er3
  have HO4 := Lib.hid eo4
  have HS3 := Lib.hid ss3
  obtain ⟨d4, ed4⟩ : ∃ t, t = itb c4 := ⟨_, rfl⟩
  have qd4 := e_dig c4 hi4.1 hi4.2 d4 ed4
  obtain ⟨p4, ep4⟩ : ∃ p : ByteArray, p = o4 ++ (⟨#[114, 97, 100, 45, 112, 97, 114, 116]⟩ : ByteArray) := ⟨_, rfl⟩
  obtain ⟨q4, eq4⟩ : ∃ p : ByteArray, p = p4 ++ (⟨#[32]⟩ : ByteArray) := ⟨_, rfl⟩
  obtain ⟨r4, er4⟩ : ∃ p : ByteArray, p = q4 ++ d4 := ⟨_, rfl⟩
  obtain ⟨o5, eo5⟩ : ∃ p : ByteArray, p = r4 ++ (⟨#[10]⟩ : ByteArray) := ⟨_, rfl⟩
  have sd4 : (d4.size : Int) ≤ 21 := by rw [ed4]; exact sz_itb hi4.1 hi4.2
  have ss4 := step_sz (k := 240) (k2 := 300) so4 (show (⟨#[114, 97, 100, 45, 112, 97, 114, 116]⟩ : ByteArray).size ≤ 20 by decide) sd4 ep4 eq4 er4 eo5 (by decide) (by decide)
  have st4 := step_tx ep4 eq4 ed4 er4 eo5
  have so5 := ss4.2.2.2.2
  have HP4 := Lib.hid ep4
  have HQ4 := Lib.hid eq4
  have HR4 := Lib.hid er4
  have HO5 := Lib.hid eo5
  have HS4 := Lib.hid ss4
  obtain ⟨d5, ed5⟩ : ∃ t, t = itb c5 := ⟨_, rfl⟩
  have qd5 := e_dig c5 hi5.1 hi5.2 d5 ed5
  obtain ⟨p5, ep5⟩ : ∃ p : ByteArray, p = o5 ++ (⟨#[97, 99, 99, 45, 101, 114, 114]⟩ : ByteArray) := ⟨_, rfl⟩
  obtain ⟨q5, eq5⟩ : ∃ p : ByteArray, p = p5 ++ (⟨#[32]⟩ : ByteArray) := ⟨_, rfl⟩
  obtain ⟨r5, er5⟩ : ∃ p : ByteArray, p = q5 ++ d5 := ⟨_, rfl⟩
  obtain ⟨o6, eo6⟩ : ∃ p : ByteArray, p = r5 ++ (⟨#[10]⟩ : ByteArray) := ⟨_, rfl⟩
  have sd5 : (d5.size : Int) ≤ 21 := by rw [ed5]; exact sz_itb hi5.1 hi5.2
  have ss5 := step_sz (k := 300) (k2 := 360) so5 (show (⟨#[97, 99, 99, 45, 101, 114, 114]⟩ : ByteArray).size ≤ 20 by decide) sd5 ep5 eq5 er5 eo6 (by decide) (by decide)
  have st5 := step_tx ep5 eq5 ed5 er5 eo6
  have so6 := ss5.2.2.2.2
  have HP5 := Lib.hid ep5
  have HQ5 := Lib.hid eq5
  have HR5 := Lib.hid er5
  have HO6 := Lib.hid eo6
  have HS5 := Lib.hid ss5
  obtain ⟨d6, ed6⟩ : ∃ t, t = itb c6 := ⟨_, rfl⟩
  have qd6 := e_dig c6 hi6.1 hi6.2 d6 ed6
  obtain ⟨p6, ep6⟩ : ∃ p : ByteArray, p = o6 ++ (⟨#[109, 97, 120, 45, 115, 112, 101, 101, 100]⟩ : ByteArray) := ⟨_, rfl⟩
  obtain ⟨q6, eq6⟩ : ∃ p : ByteArray, p = p6 ++ (⟨#[32]⟩ : ByteArray) := ⟨_, rfl⟩
  obtain ⟨r6, er6⟩ : ∃ p : ByteArray, p = q6 ++ d6 := ⟨_, rfl⟩
  obtain ⟨o7, eo7⟩ : ∃ p : ByteArray, p = r6 ++ (⟨#[10]⟩ : ByteArray) := ⟨_, rfl⟩
  have sd6 : (d6.size : Int) ≤ 21 := by rw [ed6]; exact sz_itb hi6.1 hi6.2
  have ss6 := step_sz (k := 360) (k2 := 420) so6 (show (⟨#[109, 97, 120, 45, 115, 112, 101, 101, 100]⟩ : ByteArray).size ≤ 20 by decide) sd6 ep6 eq6 er6 eo7 (by decide) (by decide)
  have st6 := step_tx ep6 eq6 ed6 er6 eo7
  have so7 := ss6.2.2.2.2
  have HP6 := Lib.hid ep6
  have HQ6 := Lib.hid eq6
  have HR6 := Lib.hid er6
  have HO7 := Lib.hid eo7
  have HS6 := Lib.hid ss6
  obtain ⟨d7, ed7⟩ : ∃ t, t = itb c7 := ⟨_, rfl⟩
  have qd7 := e_dig c7 hi7.1 hi7.2 d7 ed7
  obtain ⟨p7, ep7⟩ : ∃ p : ByteArray, p = o7 ++ (⟨#[109, 97, 120, 45, 97, 99, 99, 101, 108]⟩ : ByteArray) := ⟨_, rfl⟩
  obtain ⟨q7, eq7⟩ : ∃ p : ByteArray, p = p7 ++ (⟨#[32]⟩ : ByteArray) := ⟨_, rfl⟩
  obtain ⟨r7, er7⟩ : ∃ p : ByteArray, p = q7 ++ d7 := ⟨_, rfl⟩
  obtain ⟨o8, eo8⟩ : ∃ p : ByteArray, p = r7 ++ (⟨#[10]⟩ : ByteArray) := ⟨_, rfl⟩
  have sd7 : (d7.size : Int) ≤ 21 := by rw [ed7]; exact sz_itb hi7.1 hi7.2
  have ss7 := step_sz (k := 420) (k2 := 480) so7 (show (⟨#[109, 97, 120, 45, 97, 99, 99, 101, 108]⟩ : ByteArray).size ≤ 20 by decide) sd7 ep7 eq7 er7 eo8 (by decide) (by decide)
  have st7 := step_tx ep7 eq7 ed7 er7 eo8
  have so8 := ss7.2.2.2.2
  have HP7 := Lib.hid ep7
  have HQ7 := Lib.hid eq7
  have HR7 := Lib.hid er7
  have HO8 := Lib.hid eo8
  have HS7 := Lib.hid ss7
  obtain ⟨d8, ed8⟩ : ∃ t, t = itb c8 := ⟨_, rfl⟩
  have qd8 := e_dig c8 hi8.1 hi8.2 d8 ed8
  obtain ⟨p8, ep8⟩ : ∃ p : ByteArray, p = o8 ++ (⟨#[97, 110, 116, 101, 110, 110, 97]⟩ : ByteArray) := ⟨_, rfl⟩
  obtain ⟨q8, eq8⟩ : ∃ p : ByteArray, p = p8 ++ (⟨#[32]⟩ : ByteArray) := ⟨_, rfl⟩
  obtain ⟨r8, er8⟩ : ∃ p : ByteArray, p = q8 ++ d8 := ⟨_, rfl⟩
  obtain ⟨o9, eo9⟩ : ∃ p : ByteArray, p = r8 ++ (⟨#[10]⟩ : ByteArray) := ⟨_, rfl⟩
  have sd8 : (d8.size : Int) ≤ 21 := by rw [ed8]; exact sz_itb hi8.1 hi8.2
  have ss8 := step_sz (k := 480) (k2 := 540) so8 (show (⟨#[97, 110, 116, 101, 110, 110, 97]⟩ : ByteArray).size ≤ 20 by decide) sd8 ep8 eq8 er8 eo9 (by decide) (by decide)
  have st8 := step_tx ep8 eq8 ed8 er8 eo9
  have so9 := ss8.2.2.2.2
  have HP8 := Lib.hid ep8
  have HQ8 := Lib.hid eq8
  have HR8 := Lib.hid er8
  have HO9 := Lib.hid eo9
  have HS8 := Lib.hid ss8
  obtain ⟨d9, ed9⟩ : ∃ t, t = itb c9 := ⟨_, rfl⟩
  have qd9 := e_dig c9 hi9.1 hi9.2 d9 ed9
  obtain ⟨p9, ep9⟩ : ∃ p : ByteArray, p = o9 ++ (⟨#[115, 116, 105, 108, 108]⟩ : ByteArray) := ⟨_, rfl⟩
  obtain ⟨q9, eq9⟩ : ∃ p : ByteArray, p = p9 ++ (⟨#[32]⟩ : ByteArray) := ⟨_, rfl⟩
  obtain ⟨r9, er9⟩ : ∃ p : ByteArray, p = q9 ++ d9 := ⟨_, rfl⟩
  obtain ⟨o10, eo10⟩ : ∃ p : ByteArray, p = r9 ++ (⟨#[10]⟩ : ByteArray) := ⟨_, rfl⟩
  have sd9 : (d9.size : Int) ≤ 21 := by rw [ed9]; exact sz_itb hi9.1 hi9.2
  have ss9 := step_sz (k := 540) (k2 := 600) so9 (show (⟨#[115, 116, 105, 108, 108]⟩ : ByteArray).size ≤ 20 by decide) sd9 ep9 eq9 er9 eo10 (by decide) (by decide)
  have st9 := step_tx ep9 eq9 ed9 er9 eo10
  have so10 := ss9.2.2.2.2
  have HP9 := Lib.hid ep9
  have HQ9 := Lib.hid eq9
  have HR9 := Lib.hid er9
  have HO10 := Lib.hid eo10
  have HS9 := Lib.hid ss9
  obtain ⟨d10, ed10⟩ : ∃ t, t = itb c10 := ⟨_, rfl⟩
  have qd10 := e_dig c10 hi10.1 hi10.2 d10 ed10
  obtain ⟨p10, ep10⟩ : ∃ p : ByteArray, p = o10 ++ (⟨#[115, 116, 105, 108, 108, 45, 115, 112, 101, 101, 100]⟩ : ByteArray) := ⟨_, rfl⟩
  obtain ⟨q10, eq10⟩ : ∃ p : ByteArray, p = p10 ++ (⟨#[32]⟩ : ByteArray) := ⟨_, rfl⟩
  obtain ⟨r10, er10⟩ : ∃ p : ByteArray, p = q10 ++ d10 := ⟨_, rfl⟩
  obtain ⟨o11, eo11⟩ : ∃ p : ByteArray, p = r10 ++ (⟨#[10]⟩ : ByteArray) := ⟨_, rfl⟩
  have sd10 : (d10.size : Int) ≤ 21 := by rw [ed10]; exact sz_itb hi10.1 hi10.2
  have ss10 := step_sz (k := 600) (k2 := 660) so10 (show (⟨#[115, 116, 105, 108, 108, 45, 115, 112, 101, 101, 100]⟩ : ByteArray).size ≤ 20 by decide) sd10 ep10 eq10 er10 eo11 (by decide) (by decide)
  have st10 := step_tx ep10 eq10 ed10 er10 eo11
  have so11 := ss10.2.2.2.2
  have HP10 := Lib.hid ep10
  have HQ10 := Lib.hid eq10
  have HR10 := Lib.hid er10
  have HO11 := Lib.hid eo11
  have HS10 := Lib.hid ss10
  obtain ⟨d11, ed11⟩ : ∃ t, t = itb c11 := ⟨_, rfl⟩
  have qd11 := e_dig c11 hi11.1 hi11.2 d11 ed11
  obtain ⟨p11, ep11⟩ : ∃ p : ByteArray, p = o11 ++ (⟨#[114, 111, 108, 108]⟩ : ByteArray) := ⟨_, rfl⟩
  obtain ⟨q11, eq11⟩ : ∃ p : ByteArray, p = p11 ++ (⟨#[32]⟩ : ByteArray) := ⟨_, rfl⟩
  obtain ⟨r11, er11⟩ : ∃ p : ByteArray, p = q11 ++ d11 := ⟨_, rfl⟩
  obtain ⟨o12, eo12⟩ : ∃ p : ByteArray, p = r11 ++ (⟨#[10]⟩ : ByteArray) := ⟨_, rfl⟩
  have sd11 : (d11.size : Int) ≤ 21 := by rw [ed11]; exact sz_itb hi11.1 hi11.2
  have ss11 := step_sz (k := 660) (k2 := 720) so11 (show (⟨#[114, 111, 108, 108]⟩ : ByteArray).size ≤ 20 by decide) sd11 ep11 eq11 er11 eo12 (by decide) (by decide)
  have st11 := step_tx ep11 eq11 ed11 er11 eo12
  have so12 := ss11.2.2.2.2
  have HP11 := Lib.hid ep11
  have HQ11 := Lib.hid eq11
  have HR11 := Lib.hid er11
  have HO12 := Lib.hid eo12
  have HS11 := Lib.hid ss11
  obtain ⟨d12, ed12⟩ : ∃ t, t = itb c12 := ⟨_, rfl⟩
  have qd12 := e_dig c12 hi12.1 hi12.2 d12 ed12
  obtain ⟨p12, ep12⟩ : ∃ p : ByteArray, p = o12 ++ (⟨#[116, 105, 109, 101, 111, 117, 116]⟩ : ByteArray) := ⟨_, rfl⟩
  obtain ⟨q12, eq12⟩ : ∃ p : ByteArray, p = p12 ++ (⟨#[32]⟩ : ByteArray) := ⟨_, rfl⟩
  obtain ⟨r12, er12⟩ : ∃ p : ByteArray, p = q12 ++ d12 := ⟨_, rfl⟩
  obtain ⟨o13, eo13⟩ : ∃ p : ByteArray, p = r12 ++ (⟨#[10]⟩ : ByteArray) := ⟨_, rfl⟩
  have sd12 : (d12.size : Int) ≤ 21 := by rw [ed12]; exact sz_itb hi12.1 hi12.2
  have ss12 := step_sz (k := 720) (k2 := 780) so12 (show (⟨#[116, 105, 109, 101, 111, 117, 116]⟩ : ByteArray).size ≤ 20 by decide) sd12 ep12 eq12 er12 eo13 (by decide) (by decide)
  have st12 := step_tx ep12 eq12 ed12 er12 eo13
  have so13 := ss12.2.2.2.2
  have HP12 := Lib.hid ep12
  have HQ12 := Lib.hid eq12
  have HR12 := Lib.hid er12
  have HO13 := Lib.hid eo13
  have HS12 := Lib.hid ss12
  obtain ⟨d13, ed13⟩ : ∃ t, t = itb c13 := ⟨_, rfl⟩
  have qd13 := e_dig c13 hi13.1 hi13.2 d13 ed13
  obtain ⟨p13, ep13⟩ : ∃ p : ByteArray, p = o13 ++ (⟨#[98, 114, 97, 107, 101]⟩ : ByteArray) := ⟨_, rfl⟩
  obtain ⟨q13, eq13⟩ : ∃ p : ByteArray, p = p13 ++ (⟨#[32]⟩ : ByteArray) := ⟨_, rfl⟩
  obtain ⟨r13, er13⟩ : ∃ p : ByteArray, p = q13 ++ d13 := ⟨_, rfl⟩
  obtain ⟨o14, eo14⟩ : ∃ p : ByteArray, p = r13 ++ (⟨#[10]⟩ : ByteArray) := ⟨_, rfl⟩
  have sd13 : (d13.size : Int) ≤ 21 := by rw [ed13]; exact sz_itb hi13.1 hi13.2
  have ss13 := step_sz (k := 780) (k2 := 840) so13 (show (⟨#[98, 114, 97, 107, 101]⟩ : ByteArray).size ≤ 20 by decide) sd13 ep13 eq13 er13 eo14 (by decide) (by decide)
  have st13 := step_tx ep13 eq13 ed13 er13 eo14
  have so14 := ss13.2.2.2.2
  have HP13 := Lib.hid ep13
  have HQ13 := Lib.hid eq13
  have HR13 := Lib.hid er13
  have HO14 := Lib.hid eo14
  have HS13 := Lib.hid ss13
  have hfin : o14 ++ (⟨#[101, 110, 100, 10]⟩ : ByteArray) = o15 := by
    apply tx_ext
    rw [eo15, tx_app, st13, st12, st11, st10, st9, st8, st7, st6, st5, st4, st3, st2, st1, st0, eo0]
    rw [show tx (⟨#[]⟩ : ByteArray) = [] from rfl]
    rw [tx_bk']
    simp only [textL, nmsB, List.map_cons, List.map_nil, List.take_succ_cons, List.take_zero, linesL, List.append_assoc, List.append_nil, List.nil_append]
    rfl
  have HF := Lib.hid hfin
  have hz15 : Sz o15 := by
    unfold Sz
    rw [← hfin, ByteArray.size_append]
    have : (⟨#[101, 110, 100, 10]⟩ : ByteArray).size = 4 := rfl
    omega
  have HZ := Lib.hid hz15
  rw [eo0] at HP0
  have HE := Lib.hid eo0
  clear hfin hz15 eo15 eo0 so0 ed0 ep0 eq0 er0 eo1 sd0 ss0 st0 so1 ed1 ep1 eq1 er1 eo2 sd1 ss1 st1 so2 ed2 ep2 eq2 er2 eo3 sd2 ss2 st2 so3 ed3 ep3 eq3 er3 eo4 sd3 ss3 st3 so4 ed4 ep4 eq4 er4 eo5 sd4 ss4 st4 so5 ed5 ep5 eq5 er5 eo6 sd5 ss5 st5 so6 ed6 ep6 eq6 er6 eo7 sd6 ss6 st6 so7 ed7 ep7 eq7 er7 eo8 sd7 ss7 st7 so8 ed8 ep8 eq8 er8 eo9 sd8 ss8 st8 so9 ed9 ep9 eq9 er9 eo10 sd9 ss9 st9 so10 ed10 ep10 eq10 er10 eo11 sd10 ss10 st10 so11 ed11 ep11 eq11 er11 eo12 sd11 ss11 st11 so12 ed12 ep12 eq12 er12 eo13 sd12 ss12 st12 so13 ed13 ep13 eq13 er13 eo14 sd13 ss13 st13 so14
  (refine PCalls.ofY Tryd.func10 (by kernel_rfl) (by kernel_rfl) fun w hw R hR => ?_); (obtain ⟨wbin, wcmp, wun, wconv, wnot, wbeq, wmm, wscmp, wsadd, wslen, wsat, weqs, wlen, wnlen, wofNat, wtake, wdrop, wapp, wzero, wnat⟩ := w); (have hbin : wbin = binStd := congrArg Prims.bin hw); (have hcmp : wcmp = cmpStd := congrArg Prims.cmp hw); (have hun : wun = unStd := congrArg Prims.un hw); (have hconv : wconv = fun k n => k.wrap n := congrArg Prims.conv hw); (have hnot : wnot = fun b => !b := congrArg Prims.not hw); (have hbeq : wbeq = fun a b => a == b := congrArg Prims.beq hw); (have hmm : wmm = maxI := congrArg Prims.mm hw); (have hscmp : wscmp = scmpStd := congrArg Prims.scmp hw); (have hsadd : wsadd = fun x y => x ++ y := congrArg Prims.sadd hw); (have hslen : wslen = fun s => (s.size : Int) := congrArg Prims.slen hw); (have hsat : wsat = std.sat := congrArg Prims.sat hw); (have heqs : weqs = fun a b os => (eqOffs a b os).getD false := congrArg Prims.eqs hw); (have hlen : wlen = fun es => (es.length : Int) := congrArg Prims.len hw); (have hnlen : wnlen = fun es => es.length := congrArg Prims.nlen hw); (have hofNat : wofNat = (fun n : Nat => (n : Int)) := congrArg Prims.ofNat hw); (have htake : wtake = fun es b => es.take b.toNat := congrArg Prims.take hw); (have hdrop : wdrop = fun es a => es.drop a.toNat := congrArg Prims.drop hw); (have happ : wapp = fun a b => a ++ b := congrArg Prims.app hw); (have hzero : wzero = fun n z => List.replicate n.toNat z := congrArg Prims.zero hw); (have hnat : wnat = fun n => n.toNat := congrArg Prims.nat hw); (conv => arg 2; cbv); (generalize hP : Tryd.prog = P); cbv
  refine Call.stepE (by rw [← hP]; exact qn) rfl ?_
  cbv
  refine Call.stepE (by rw [← hP]; exact e_rnames) rfl ?_
  cbv
  (refine Loop.rounds hw 15 ?_; cbv)
  have l0 : wcmp .lss 0 14 = true := by rw [hcmp]; rfl
  have a0 : wbin .add .i64 0 1 = 1 := by rw [hbin]; rfl
  have f0 : wsadd ⟨#[]⟩ ⟨#[112, 117, 108, 115, 101, 115]⟩ = p0 := by rw [hsadd]; exact HP0.out.symm
  have g0 : wsadd p0 ⟨#[32]⟩ = q0 := by rw [hsadd]; exact HQ0.out.symm
  have h0 : wsadd q0 d0 = r0 := by rw [hsadd]; exact HR0.out.symm
  have k0 : wsadd r0 ⟨#[10]⟩ = o1 := by rw [hsadd]; exact HO1.out.symm
  simp only [l0]; cbv
  repeat' (first
    | (refine InN.mk (by decide) (by decide) ?_; cbv)
    | (refine Call.stepE (by rw [← hP]; exact qd0) rfl ?_; cbv)
    | (refine QCal.stepE (by rw [← hP]; exact qd0) rfl ?_; cbv)
    | (simp only [f0, g0, h0, k0])
    | (refine Le.mk (by rw [hslen]; first | exact HS0.out.1.le | exact HS0.out.2.1.le | exact HS0.out.2.2.1.le | exact HS0.out.2.2.2.1.le) ?_)
    | fail)
  simp only [a0]; cbv
  clear f0 g0 h0 k0 HP0 HQ0 HR0 HS0 qd0
  have l1 : wcmp .lss 1 14 = true := by rw [hcmp]; rfl
  have a1 : wbin .add .i64 1 1 = 2 := by rw [hbin]; rfl
  have f1 : wsadd o1 ⟨#[99, 105, 114, 99, 45, 108, 111]⟩ = p1 := by rw [hsadd]; exact HP1.out.symm
  have g1 : wsadd p1 ⟨#[32]⟩ = q1 := by rw [hsadd]; exact HQ1.out.symm
  have h1 : wsadd q1 d1 = r1 := by rw [hsadd]; exact HR1.out.symm
  have k1 : wsadd r1 ⟨#[10]⟩ = o2 := by rw [hsadd]; exact HO2.out.symm
  simp only [l1]; cbv
  repeat' (first
    | (refine InN.mk (by decide) (by decide) ?_; cbv)
    | (refine Call.stepE (by rw [← hP]; exact qd1) rfl ?_; cbv)
    | (refine QCal.stepE (by rw [← hP]; exact qd1) rfl ?_; cbv)
    | (simp only [f1, g1, h1, k1])
    | (refine Le.mk (by rw [hslen]; first | exact HS1.out.1.le | exact HS1.out.2.1.le | exact HS1.out.2.2.1.le | exact HS1.out.2.2.2.1.le) ?_)
    | fail)
  simp only [a1]; cbv
  clear f1 g1 h1 k1 HP1 HQ1 HR1 HS1 qd1
  have l2 : wcmp .lss 2 14 = true := by rw [hcmp]; rfl
  have a2 : wbin .add .i64 2 1 = 3 := by rw [hbin]; rfl
  have f2 : wsadd o2 ⟨#[99, 105, 114, 99, 45, 104, 105]⟩ = p2 := by rw [hsadd]; exact HP2.out.symm
  have g2 : wsadd p2 ⟨#[32]⟩ = q2 := by rw [hsadd]; exact HQ2.out.symm
  have h2 : wsadd q2 d2 = r2 := by rw [hsadd]; exact HR2.out.symm
  have k2 : wsadd r2 ⟨#[10]⟩ = o3 := by rw [hsadd]; exact HO3.out.symm
  simp only [l2]; cbv
  repeat' (first
    | (refine InN.mk (by decide) (by decide) ?_; cbv)
    | (refine Call.stepE (by rw [← hP]; exact qd2) rfl ?_; cbv)
    | (refine QCal.stepE (by rw [← hP]; exact qd2) rfl ?_; cbv)
    | (simp only [f2, g2, h2, k2])
    | (refine Le.mk (by rw [hslen]; first | exact HS2.out.1.le | exact HS2.out.2.1.le | exact HS2.out.2.2.1.le | exact HS2.out.2.2.2.1.le) ?_)
    | fail)
  simp only [a2]; cbv
  clear f2 g2 h2 k2 HP2 HQ2 HR2 HS2 qd2
  have l3 : wcmp .lss 3 14 = true := by rw [hcmp]; rfl
  have a3 : wbin .add .i64 3 1 = 4 := by rw [hbin]; rfl
  have f3 : wsadd o3 ⟨#[114, 97, 100, 45, 98, 97, 115, 101]⟩ = p3 := by rw [hsadd]; exact HP3.out.symm
  have g3 : wsadd p3 ⟨#[32]⟩ = q3 := by rw [hsadd]; exact HQ3.out.symm
  have h3 : wsadd q3 d3 = r3 := by rw [hsadd]; exact HR3.out.symm
  have k3 : wsadd r3 ⟨#[10]⟩ = o4 := by rw [hsadd]; exact HO4.out.symm
  simp only [l3]; cbv
  repeat' (first
    | (refine InN.mk (by decide) (by decide) ?_; cbv)
    | (refine Call.stepE (by rw [← hP]; exact qd3) rfl ?_; cbv)
    | (refine QCal.stepE (by rw [← hP]; exact qd3) rfl ?_; cbv)
    | (simp only [f3, g3, h3, k3])
    | (refine Le.mk (by rw [hslen]; first | exact HS3.out.1.le | exact HS3.out.2.1.le | exact HS3.out.2.2.1.le | exact HS3.out.2.2.2.1.le) ?_)
    | fail)
  simp only [a3]; cbv
  clear f3 g3 h3 k3 HP3 HQ3 HR3 HS3 qd3
  have l4 : wcmp .lss 4 14 = true := by rw [hcmp]; rfl
  have a4 : wbin .add .i64 4 1 = 5 := by rw [hbin]; rfl
  have f4 : wsadd o4 ⟨#[114, 97, 100, 45, 112, 97, 114, 116]⟩ = p4 := by rw [hsadd]; exact HP4.out.symm
  have g4 : wsadd p4 ⟨#[32]⟩ = q4 := by rw [hsadd]; exact HQ4.out.symm
  have h4 : wsadd q4 d4 = r4 := by rw [hsadd]; exact HR4.out.symm
  have k4 : wsadd r4 ⟨#[10]⟩ = o5 := by rw [hsadd]; exact HO5.out.symm
  simp only [l4]; cbv
  repeat' (first
    | (refine InN.mk (by decide) (by decide) ?_; cbv)
    | (refine Call.stepE (by rw [← hP]; exact qd4) rfl ?_; cbv)
    | (refine QCal.stepE (by rw [← hP]; exact qd4) rfl ?_; cbv)
    | (simp only [f4, g4, h4, k4])
    | (refine Le.mk (by rw [hslen]; first | exact HS4.out.1.le | exact HS4.out.2.1.le | exact HS4.out.2.2.1.le | exact HS4.out.2.2.2.1.le) ?_)
    | fail)
  simp only [a4]; cbv
  clear f4 g4 h4 k4 HP4 HQ4 HR4 HS4 qd4
  have l5 : wcmp .lss 5 14 = true := by rw [hcmp]; rfl
  have a5 : wbin .add .i64 5 1 = 6 := by rw [hbin]; rfl
  have f5 : wsadd o5 ⟨#[97, 99, 99, 45, 101, 114, 114]⟩ = p5 := by rw [hsadd]; exact HP5.out.symm
  have g5 : wsadd p5 ⟨#[32]⟩ = q5 := by rw [hsadd]; exact HQ5.out.symm
  have h5 : wsadd q5 d5 = r5 := by rw [hsadd]; exact HR5.out.symm
  have k5 : wsadd r5 ⟨#[10]⟩ = o6 := by rw [hsadd]; exact HO6.out.symm
  simp only [l5]; cbv
  repeat' (first
    | (refine InN.mk (by decide) (by decide) ?_; cbv)
    | (refine Call.stepE (by rw [← hP]; exact qd5) rfl ?_; cbv)
    | (refine QCal.stepE (by rw [← hP]; exact qd5) rfl ?_; cbv)
    | (simp only [f5, g5, h5, k5])
    | (refine Le.mk (by rw [hslen]; first | exact HS5.out.1.le | exact HS5.out.2.1.le | exact HS5.out.2.2.1.le | exact HS5.out.2.2.2.1.le) ?_)
    | fail)
  simp only [a5]; cbv
  clear f5 g5 h5 k5 HP5 HQ5 HR5 HS5 qd5
  have l6 : wcmp .lss 6 14 = true := by rw [hcmp]; rfl
  have a6 : wbin .add .i64 6 1 = 7 := by rw [hbin]; rfl
  have f6 : wsadd o6 ⟨#[109, 97, 120, 45, 115, 112, 101, 101, 100]⟩ = p6 := by rw [hsadd]; exact HP6.out.symm
  have g6 : wsadd p6 ⟨#[32]⟩ = q6 := by rw [hsadd]; exact HQ6.out.symm
  have h6 : wsadd q6 d6 = r6 := by rw [hsadd]; exact HR6.out.symm
  have k6 : wsadd r6 ⟨#[10]⟩ = o7 := by rw [hsadd]; exact HO7.out.symm
  simp only [l6]; cbv
  repeat' (first
    | (refine InN.mk (by decide) (by decide) ?_; cbv)
    | (refine Call.stepE (by rw [← hP]; exact qd6) rfl ?_; cbv)
    | (refine QCal.stepE (by rw [← hP]; exact qd6) rfl ?_; cbv)
    | (simp only [f6, g6, h6, k6])
    | (refine Le.mk (by rw [hslen]; first | exact HS6.out.1.le | exact HS6.out.2.1.le | exact HS6.out.2.2.1.le | exact HS6.out.2.2.2.1.le) ?_)
    | fail)
  simp only [a6]; cbv
  clear f6 g6 h6 k6 HP6 HQ6 HR6 HS6 qd6
  have l7 : wcmp .lss 7 14 = true := by rw [hcmp]; rfl
  have a7 : wbin .add .i64 7 1 = 8 := by rw [hbin]; rfl
  have f7 : wsadd o7 ⟨#[109, 97, 120, 45, 97, 99, 99, 101, 108]⟩ = p7 := by rw [hsadd]; exact HP7.out.symm
  have g7 : wsadd p7 ⟨#[32]⟩ = q7 := by rw [hsadd]; exact HQ7.out.symm
  have h7 : wsadd q7 d7 = r7 := by rw [hsadd]; exact HR7.out.symm
  have k7 : wsadd r7 ⟨#[10]⟩ = o8 := by rw [hsadd]; exact HO8.out.symm
  simp only [l7]; cbv
  repeat' (first
    | (refine InN.mk (by decide) (by decide) ?_; cbv)
    | (refine Call.stepE (by rw [← hP]; exact qd7) rfl ?_; cbv)
    | (refine QCal.stepE (by rw [← hP]; exact qd7) rfl ?_; cbv)
    | (simp only [f7, g7, h7, k7])
    | (refine Le.mk (by rw [hslen]; first | exact HS7.out.1.le | exact HS7.out.2.1.le | exact HS7.out.2.2.1.le | exact HS7.out.2.2.2.1.le) ?_)
    | fail)
  simp only [a7]; cbv
  clear f7 g7 h7 k7 HP7 HQ7 HR7 HS7 qd7
  have l8 : wcmp .lss 8 14 = true := by rw [hcmp]; rfl
  have a8 : wbin .add .i64 8 1 = 9 := by rw [hbin]; rfl
  have f8 : wsadd o8 ⟨#[97, 110, 116, 101, 110, 110, 97]⟩ = p8 := by rw [hsadd]; exact HP8.out.symm
  have g8 : wsadd p8 ⟨#[32]⟩ = q8 := by rw [hsadd]; exact HQ8.out.symm
  have h8 : wsadd q8 d8 = r8 := by rw [hsadd]; exact HR8.out.symm
  have k8 : wsadd r8 ⟨#[10]⟩ = o9 := by rw [hsadd]; exact HO9.out.symm
  simp only [l8]; cbv
  repeat' (first
    | (refine InN.mk (by decide) (by decide) ?_; cbv)
    | (refine Call.stepE (by rw [← hP]; exact qd8) rfl ?_; cbv)
    | (refine QCal.stepE (by rw [← hP]; exact qd8) rfl ?_; cbv)
    | (simp only [f8, g8, h8, k8])
    | (refine Le.mk (by rw [hslen]; first | exact HS8.out.1.le | exact HS8.out.2.1.le | exact HS8.out.2.2.1.le | exact HS8.out.2.2.2.1.le) ?_)
    | fail)
  simp only [a8]; cbv
  clear f8 g8 h8 k8 HP8 HQ8 HR8 HS8 qd8
  have l9 : wcmp .lss 9 14 = true := by rw [hcmp]; rfl
  have a9 : wbin .add .i64 9 1 = 10 := by rw [hbin]; rfl
  have f9 : wsadd o9 ⟨#[115, 116, 105, 108, 108]⟩ = p9 := by rw [hsadd]; exact HP9.out.symm
  have g9 : wsadd p9 ⟨#[32]⟩ = q9 := by rw [hsadd]; exact HQ9.out.symm
  have h9 : wsadd q9 d9 = r9 := by rw [hsadd]; exact HR9.out.symm
  have k9 : wsadd r9 ⟨#[10]⟩ = o10 := by rw [hsadd]; exact HO10.out.symm
  simp only [l9]; cbv
  repeat' (first
    | (refine InN.mk (by decide) (by decide) ?_; cbv)
    | (refine Call.stepE (by rw [← hP]; exact qd9) rfl ?_; cbv)
    | (refine QCal.stepE (by rw [← hP]; exact qd9) rfl ?_; cbv)
    | (simp only [f9, g9, h9, k9])
    | (refine Le.mk (by rw [hslen]; first | exact HS9.out.1.le | exact HS9.out.2.1.le | exact HS9.out.2.2.1.le | exact HS9.out.2.2.2.1.le) ?_)
    | fail)
  simp only [a9]; cbv
  clear f9 g9 h9 k9 HP9 HQ9 HR9 HS9 qd9
  have l10 : wcmp .lss 10 14 = true := by rw [hcmp]; rfl
  have a10 : wbin .add .i64 10 1 = 11 := by rw [hbin]; rfl
  have f10 : wsadd o10 ⟨#[115, 116, 105, 108, 108, 45, 115, 112, 101, 101, 100]⟩ = p10 := by rw [hsadd]; exact HP10.out.symm
  have g10 : wsadd p10 ⟨#[32]⟩ = q10 := by rw [hsadd]; exact HQ10.out.symm
  have h10 : wsadd q10 d10 = r10 := by rw [hsadd]; exact HR10.out.symm
  have k10 : wsadd r10 ⟨#[10]⟩ = o11 := by rw [hsadd]; exact HO11.out.symm
  simp only [l10]; cbv
  repeat' (first
    | (refine InN.mk (by decide) (by decide) ?_; cbv)
    | (refine Call.stepE (by rw [← hP]; exact qd10) rfl ?_; cbv)
    | (refine QCal.stepE (by rw [← hP]; exact qd10) rfl ?_; cbv)
    | (simp only [f10, g10, h10, k10])
    | (refine Le.mk (by rw [hslen]; first | exact HS10.out.1.le | exact HS10.out.2.1.le | exact HS10.out.2.2.1.le | exact HS10.out.2.2.2.1.le) ?_)
    | fail)
  simp only [a10]; cbv
  clear f10 g10 h10 k10 HP10 HQ10 HR10 HS10 qd10
  have l11 : wcmp .lss 11 14 = true := by rw [hcmp]; rfl
  have a11 : wbin .add .i64 11 1 = 12 := by rw [hbin]; rfl
  have f11 : wsadd o11 ⟨#[114, 111, 108, 108]⟩ = p11 := by rw [hsadd]; exact HP11.out.symm
  have g11 : wsadd p11 ⟨#[32]⟩ = q11 := by rw [hsadd]; exact HQ11.out.symm
  have h11 : wsadd q11 d11 = r11 := by rw [hsadd]; exact HR11.out.symm
  have k11 : wsadd r11 ⟨#[10]⟩ = o12 := by rw [hsadd]; exact HO12.out.symm
  simp only [l11]; cbv
  repeat' (first
    | (refine InN.mk (by decide) (by decide) ?_; cbv)
    | (refine Call.stepE (by rw [← hP]; exact qd11) rfl ?_; cbv)
    | (refine QCal.stepE (by rw [← hP]; exact qd11) rfl ?_; cbv)
    | (simp only [f11, g11, h11, k11])
    | (refine Le.mk (by rw [hslen]; first | exact HS11.out.1.le | exact HS11.out.2.1.le | exact HS11.out.2.2.1.le | exact HS11.out.2.2.2.1.le) ?_)
    | fail)
  simp only [a11]; cbv
  clear f11 g11 h11 k11 HP11 HQ11 HR11 HS11 qd11
  have l12 : wcmp .lss 12 14 = true := by rw [hcmp]; rfl
  have a12 : wbin .add .i64 12 1 = 13 := by rw [hbin]; rfl
  have f12 : wsadd o12 ⟨#[116, 105, 109, 101, 111, 117, 116]⟩ = p12 := by rw [hsadd]; exact HP12.out.symm
  have g12 : wsadd p12 ⟨#[32]⟩ = q12 := by rw [hsadd]; exact HQ12.out.symm
  have h12 : wsadd q12 d12 = r12 := by rw [hsadd]; exact HR12.out.symm
  have k12 : wsadd r12 ⟨#[10]⟩ = o13 := by rw [hsadd]; exact HO13.out.symm
  simp only [l12]; cbv
  repeat' (first
    | (refine InN.mk (by decide) (by decide) ?_; cbv)
    | (refine Call.stepE (by rw [← hP]; exact qd12) rfl ?_; cbv)
    | (refine QCal.stepE (by rw [← hP]; exact qd12) rfl ?_; cbv)
    | (simp only [f12, g12, h12, k12])
    | (refine Le.mk (by rw [hslen]; first | exact HS12.out.1.le | exact HS12.out.2.1.le | exact HS12.out.2.2.1.le | exact HS12.out.2.2.2.1.le) ?_)
    | fail)
  simp only [a12]; cbv
  clear f12 g12 h12 k12 HP12 HQ12 HR12 HS12 qd12
  have l13 : wcmp .lss 13 14 = true := by rw [hcmp]; rfl
  have a13 : wbin .add .i64 13 1 = 14 := by rw [hbin]; rfl
  have f13 : wsadd o13 ⟨#[98, 114, 97, 107, 101]⟩ = p13 := by rw [hsadd]; exact HP13.out.symm
  have g13 : wsadd p13 ⟨#[32]⟩ = q13 := by rw [hsadd]; exact HQ13.out.symm
  have h13 : wsadd q13 d13 = r13 := by rw [hsadd]; exact HR13.out.symm
  have k13 : wsadd r13 ⟨#[10]⟩ = o14 := by rw [hsadd]; exact HO14.out.symm
  simp only [l13]; cbv
  repeat' (first
    | (refine InN.mk (by decide) (by decide) ?_; cbv)
    | (refine Call.stepE (by rw [← hP]; exact qd13) rfl ?_; cbv)
    | (refine QCal.stepE (by rw [← hP]; exact qd13) rfl ?_; cbv)
    | (simp only [f13, g13, h13, k13])
    | (refine Le.mk (by rw [hslen]; first | exact HS13.out.1.le | exact HS13.out.2.1.le | exact HS13.out.2.2.1.le | exact HS13.out.2.2.2.1.le) ?_)
    | fail)
  simp only [a13]; cbv
  clear f13 g13 h13 k13 HP13 HQ13 HR13 HS13 qd13
  have l14 : wcmp .lss 14 14 = false := by rw [hcmp]; rfl
  have f14 : wsadd o14 ⟨#[101, 110, 100, 10]⟩ = o15 := by rw [hsadd]; exact HF.out
  simp only [l14]; cbv
  repeat' (first
    | (simp only [f14])
    | (refine Le.mk (by rw [hslen]; exact HZ.out.le) ?_)
    | fail)
  exact ⟨_, Vw.same rfl, hR _ rfl⟩
end Go.Proofs.YtdjafcjpnjdphaaDoor

/- WordTexts, by the engine. -/
set_option linter.unusedVariables false
set_option linter.unusedSimpArgs false
namespace Go.Proofs.YtdjafcjpnjdphaaDoor
open Go Go.RowKit Go.Eng Go.Shelf
set_option maxRecDepth 100000
theorem sc_same (b : ByteArray) : scmpStd .neq b b = false ∧ scmpStd .eql b b = true := by
  have h1 : scmpStd .neq b b = !(b.toList == b.toList) := rfl
  have h2 : scmpStd .eql b b = (b.toList == b.toList) := rfl
  rw [h1, h2]; simp
theorem eq_same (c0 c1 c2 c3 c4 c5 c6 c7 c8 c9 c10 c11 c12 c13 : Int) : (eqOffs [.int .i64 c0, .int .i64 c1, .int .i64 c2, .int .i64 c3, .int .i64 c4, .int .i64 c5, .int .i64 c6, .int .i64 c7, .int .i64 c8, .int .i64 c9, .int .i64 c10, .int .i64 c11, .int .i64 c12, .int .i64 c13] [.int .i64 c0, .int .i64 c1, .int .i64 c2, .int .i64 c3, .int .i64 c4, .int .i64 c5, .int .i64 c6, .int .i64 c7, .int .i64 c8, .int .i64 c9, .int .i64 c10, .int .i64 c11, .int .i64 c12, .int .i64 c13] [(0, 1), (1, 1), (2, 1), (3, 1), (4, 1), (5, 1), (6, 1), (7, 1), (8, 1), (9, 1), (10, 1), (11, 1), (12, 1), (13, 1)]).getD false = true := by
  simp [eqOffs, eqA]
set_option maxHeartbeats 1000000 in
theorem e_wtextsA (c0 c1 c2 c3 c4 c5 c6 c7 c8 c9 c10 c11 c12 c13 : Int) (hi0 : In64 c0) (hi1 : In64 c1) (hi2 : In64 c2) (hi3 : In64 c3) (hi4 : In64 c4) (hi5 : In64 c5) (hi6 : In64 c6) (hi7 : In64 c7) (hi8 : In64 c8) (hi9 : In64 c9) (hi10 : In64 c10) (hi11 : In64 c11) (hi12 : In64 c12) (hi13 : In64 c13) (hw : wrongV c0 c1 c2 c3 c4 c5 c6 c7 c8 c9 c10 c11 c12 c13 = 0) : PCalls Tryd.prog 3 [.agg [.int .i64 c0, .int .i64 c1, .int .i64 c2, .int .i64 c3, .int .i64 c4, .int .i64 c5, .int .i64 c6, .int .i64 c7, .int .i64 c8, .int .i64 c9, .int .i64 c10, .int .i64 c11, .int .i64 c12, .int .i64 c13]] (· = .bool true) := by
  obtain ⟨b, eb⟩ : ∃ t, t = bk (textL [c0, c1, c2, c3, c4, c5, c6, c7, c8, c9, c10, c11, c12, c13]) := ⟨_, rfl⟩
  have qa := e_text14 c0 c1 c2 c3 c4 c5 c6 c7 c8 c9 c10 c11 c12 c13 hi0 hi1 hi2 hi3 hi4 hi5 hi6 hi7 hi8 hi9 hi10 hi11 hi12 hi13 b eb
  have qb := e_rtext37 c0 c1 c2 c3 c4 c5 c6 c7 c8 c9 c10 c11 c12 c13 hi0 hi1 hi2 hi3 hi4 hi5 hi6 hi7 hi8 hi9 hi10 hi11 hi12 hi13 b eb
  have qp := e_parse_text c0 c1 c2 c3 c4 c5 c6 c7 c8 c9 c10 c11 c12 c13 0 0 hi0 hi1 hi2 hi3 hi4 hi5 hi6 hi7 hi8 hi9 hi10 hi11 hi12 hi13 hw.symm rfl b eb c0 c1 c2 c3 c4 c5 c6 c7 c8 c9 c10 c11 c12 c13 (.inl ⟨rfl, rfl, rfl, rfl, rfl, rfl, rfl, rfl, rfl, rfl, rfl, rfl, rfl, rfl, rfl⟩)
  have qw := e_wrong c0 c1 c2 c3 c4 c5 c6 c7 c8 c9 c10 c11 c12 c13
  rw [hw] at qw
  clear eb hw hi0 hi1 hi2 hi3 hi4 hi5 hi6 hi7 hi8 hi9 hi10 hi11 hi12 hi13
  (refine PCalls.ofY Tryd.func3 (by kernel_rfl) (by kernel_rfl) fun w hw R hR => ?_); (obtain ⟨wbin, wcmp, wun, wconv, wnot, wbeq, wmm, wscmp, wsadd, wslen, wsat, weqs, wlen, wnlen, wofNat, wtake, wdrop, wapp, wzero, wnat⟩ := w); (have hbin : wbin = binStd := congrArg Prims.bin hw); (have hcmp : wcmp = cmpStd := congrArg Prims.cmp hw); (have hun : wun = unStd := congrArg Prims.un hw); (have hconv : wconv = fun k n => k.wrap n := congrArg Prims.conv hw); (have hnot : wnot = fun b => !b := congrArg Prims.not hw); (have hbeq : wbeq = fun a b => a == b := congrArg Prims.beq hw); (have hmm : wmm = maxI := congrArg Prims.mm hw); (have hscmp : wscmp = scmpStd := congrArg Prims.scmp hw); (have hsadd : wsadd = fun x y => x ++ y := congrArg Prims.sadd hw); (have hslen : wslen = fun s => (s.size : Int) := congrArg Prims.slen hw); (have hsat : wsat = std.sat := congrArg Prims.sat hw); (have heqs : weqs = fun a b os => (eqOffs a b os).getD false := congrArg Prims.eqs hw); (have hlen : wlen = fun es => (es.length : Int) := congrArg Prims.len hw); (have hnlen : wnlen = fun es => es.length := congrArg Prims.nlen hw); (have hofNat : wofNat = (fun n : Nat => (n : Int)) := congrArg Prims.ofNat hw); (have htake : wtake = fun es b => es.take b.toNat := congrArg Prims.take hw); (have hdrop : wdrop = fun es a => es.drop a.toNat := congrArg Prims.drop hw); (have happ : wapp = fun a b => a ++ b := congrArg Prims.app hw); (have hzero : wzero = fun n z => List.replicate n.toNat z := congrArg Prims.zero hw); (have hnat : wnat = fun n => n.toNat := congrArg Prims.nat hw); (conv => arg 2; cbv); (generalize hP : Tryd.prog = P); cbv
  refine Call.stepE (by rw [← hP]; exact e_safe37) rfl ?_
  cbv
  have n1 : wnot true = false := by rw [hnot]; rfl
  simp only [n1]; cbv
  refine Call.stepE (by rw [← hP]; exact e_anchor37) rfl ?_
  cbv
  simp only [n1]; cbv
  have cn : wcmp .neq 0 0 = false := by rw [hcmp]; rfl
  have ce : wcmp .eql 0 0 = true := by rw [hcmp]; rfl
  have cq : weqs [.int .i64 c0, .int .i64 c1, .int .i64 c2, .int .i64 c3, .int .i64 c4, .int .i64 c5, .int .i64 c6, .int .i64 c7, .int .i64 c8, .int .i64 c9, .int .i64 c10, .int .i64 c11, .int .i64 c12, .int .i64 c13] [.int .i64 c0, .int .i64 c1, .int .i64 c2, .int .i64 c3, .int .i64 c4, .int .i64 c5, .int .i64 c6, .int .i64 c7, .int .i64 c8, .int .i64 c9, .int .i64 c10, .int .i64 c11, .int .i64 c12, .int .i64 c13] [(0, 1), (1, 1), (2, 1), (3, 1), (4, 1), (5, 1), (6, 1), (7, 1), (8, 1), (9, 1), (10, 1), (11, 1), (12, 1), (13, 1)] = true := by rw [heqs]; exact eq_same c0 c1 c2 c3 c4 c5 c6 c7 c8 c9 c10 c11 c12 c13
  have ss : wscmp .neq b b = false := by rw [hscmp]; exact (sc_same b).1
  repeat' (first
    | (refine Call.stepE (by rw [← hP]; exact qa) rfl ?_; cbv)
    | (refine Call.stepE (by rw [← hP]; exact qp) rfl ?_; cbv)
    | (refine Call.stepE (by rw [← hP]; exact qb) rfl ?_; cbv)
    | (refine Call.stepE (by rw [← hP]; exact qw) rfl ?_; cbv)
    | (simp only [ss]; cbv)
    | (simp only [cn]; cbv)
    | (simp only [ce]; cbv)
    | (simp only [cq])
    | fail)
  exact ⟨_, Vw.same rfl, hR _ rfl⟩
set_option maxHeartbeats 1000000 in
theorem e_wtextsB (c0 c1 c2 c3 c4 c5 c6 c7 c8 c9 c10 c11 c12 c13 w : Int) (hi0 : In64 c0) (hi1 : In64 c1) (hi2 : In64 c2) (hi3 : In64 c3) (hi4 : In64 c4) (hi5 : In64 c5) (hi6 : In64 c6) (hi7 : In64 c7) (hi8 : In64 c8) (hi9 : In64 c9) (hi10 : In64 c10) (hi11 : In64 c11) (hi12 : In64 c12) (hi13 : In64 c13) (hw : w = wrongV c0 c1 c2 c3 c4 c5 c6 c7 c8 c9 c10 c11 c12 c13) (hw0 : w ≠ 0) : PCalls Tryd.prog 3 [.agg [.int .i64 c0, .int .i64 c1, .int .i64 c2, .int .i64 c3, .int .i64 c4, .int .i64 c5, .int .i64 c6, .int .i64 c7, .int .i64 c8, .int .i64 c9, .int .i64 c10, .int .i64 c11, .int .i64 c12, .int .i64 c13]] (· = .bool true) := by
  obtain ⟨b, eb⟩ : ∃ t, t = bk (textL [c0, c1, c2, c3, c4, c5, c6, c7, c8, c9, c10, c11, c12, c13]) := ⟨_, rfl⟩
  have qa := e_text14 c0 c1 c2 c3 c4 c5 c6 c7 c8 c9 c10 c11 c12 c13 hi0 hi1 hi2 hi3 hi4 hi5 hi6 hi7 hi8 hi9 hi10 hi11 hi12 hi13 b eb
  have qb := e_rtext37 c0 c1 c2 c3 c4 c5 c6 c7 c8 c9 c10 c11 c12 c13 hi0 hi1 hi2 hi3 hi4 hi5 hi6 hi7 hi8 hi9 hi10 hi11 hi12 hi13 b eb
  have qp := e_parse_text c0 c1 c2 c3 c4 c5 c6 c7 c8 c9 c10 c11 c12 c13 w 50 hi0 hi1 hi2 hi3 hi4 hi5 hi6 hi7 hi8 hi9 hi10 hi11 hi12 hi13 hw (by rw [if_neg hw0]) b eb 0 0 0 0 0 0 0 0 0 0 0 0 0 0 (.inr ⟨hw0, rfl, rfl, rfl, rfl, rfl, rfl, rfl, rfl, rfl, rfl, rfl, rfl, rfl, rfl⟩)
  have qw := e_wrong c0 c1 c2 c3 c4 c5 c6 c7 c8 c9 c10 c11 c12 c13
  rw [← hw] at qw
  clear eb hw hi0 hi1 hi2 hi3 hi4 hi5 hi6 hi7 hi8 hi9 hi10 hi11 hi12 hi13
  (refine PCalls.ofY Tryd.func3 (by kernel_rfl) (by kernel_rfl) fun w hw R hR => ?_); (obtain ⟨wbin, wcmp, wun, wconv, wnot, wbeq, wmm, wscmp, wsadd, wslen, wsat, weqs, wlen, wnlen, wofNat, wtake, wdrop, wapp, wzero, wnat⟩ := w); (have hbin : wbin = binStd := congrArg Prims.bin hw); (have hcmp : wcmp = cmpStd := congrArg Prims.cmp hw); (have hun : wun = unStd := congrArg Prims.un hw); (have hconv : wconv = fun k n => k.wrap n := congrArg Prims.conv hw); (have hnot : wnot = fun b => !b := congrArg Prims.not hw); (have hbeq : wbeq = fun a b => a == b := congrArg Prims.beq hw); (have hmm : wmm = maxI := congrArg Prims.mm hw); (have hscmp : wscmp = scmpStd := congrArg Prims.scmp hw); (have hsadd : wsadd = fun x y => x ++ y := congrArg Prims.sadd hw); (have hslen : wslen = fun s => (s.size : Int) := congrArg Prims.slen hw); (have hsat : wsat = std.sat := congrArg Prims.sat hw); (have heqs : weqs = fun a b os => (eqOffs a b os).getD false := congrArg Prims.eqs hw); (have hlen : wlen = fun es => (es.length : Int) := congrArg Prims.len hw); (have hnlen : wnlen = fun es => es.length := congrArg Prims.nlen hw); (have hofNat : wofNat = (fun n : Nat => (n : Int)) := congrArg Prims.ofNat hw); (have htake : wtake = fun es b => es.take b.toNat := congrArg Prims.take hw); (have hdrop : wdrop = fun es a => es.drop a.toNat := congrArg Prims.drop hw); (have happ : wapp = fun a b => a ++ b := congrArg Prims.app hw); (have hzero : wzero = fun n z => List.replicate n.toNat z := congrArg Prims.zero hw); (have hnat : wnat = fun n => n.toNat := congrArg Prims.nat hw); (conv => arg 2; cbv); (generalize hP : Tryd.prog = P); cbv
  refine Call.stepE (by rw [← hP]; exact e_safe37) rfl ?_
  cbv
  have n1 : wnot true = false := by rw [hnot]; rfl
  simp only [n1]; cbv
  refine Call.stepE (by rw [← hP]; exact e_anchor37) rfl ?_
  cbv
  simp only [n1]; cbv
  have cn : wcmp .neq w 0 = true := by rw [hcmp]; simp [cmpStd, hw0]
  have ce : wcmp .eql 50 50 = true := by rw [hcmp]; rfl
  have ce2 : wcmp .eql w w = true := by rw [hcmp]; simp [cmpStd]
  have cq : weqs [.int .i64 0, .int .i64 0, .int .i64 0, .int .i64 0, .int .i64 0, .int .i64 0, .int .i64 0, .int .i64 0, .int .i64 0, .int .i64 0, .int .i64 0, .int .i64 0, .int .i64 0, .int .i64 0] [.int .i64 0, .int .i64 0, .int .i64 0, .int .i64 0, .int .i64 0, .int .i64 0, .int .i64 0, .int .i64 0, .int .i64 0, .int .i64 0, .int .i64 0, .int .i64 0, .int .i64 0, .int .i64 0] [(0, 1), (1, 1), (2, 1), (3, 1), (4, 1), (5, 1), (6, 1), (7, 1), (8, 1), (9, 1), (10, 1), (11, 1), (12, 1), (13, 1)] = true := by rw [heqs]; exact eq_same 0 0 0 0 0 0 0 0 0 0 0 0 0 0
  have ss : wscmp .neq b b = false := by rw [hscmp]; exact (sc_same b).1
  repeat' (first
    | (refine Call.stepE (by rw [← hP]; exact qa) rfl ?_; cbv)
    | (refine Call.stepE (by rw [← hP]; exact qp) rfl ?_; cbv)
    | (refine Call.stepE (by rw [← hP]; exact qb) rfl ?_; cbv)
    | (refine Call.stepE (by rw [← hP]; exact qw) rfl ?_; cbv)
    | (simp only [ss]; cbv)
    | (simp only [cn]; cbv)
    | (simp only [ce]; cbv)
    | (simp only [ce2]; cbv)
    | (simp only [cq])
    | fail)
  exact ⟨_, Vw.same rfl, hR _ rfl⟩
theorem e_wtexts (c0 c1 c2 c3 c4 c5 c6 c7 c8 c9 c10 c11 c12 c13 : Int) (hi0 : In64 c0) (hi1 : In64 c1) (hi2 : In64 c2) (hi3 : In64 c3) (hi4 : In64 c4) (hi5 : In64 c5) (hi6 : In64 c6) (hi7 : In64 c7) (hi8 : In64 c8) (hi9 : In64 c9) (hi10 : In64 c10) (hi11 : In64 c11) (hi12 : In64 c12) (hi13 : In64 c13) : PCalls Tryd.prog 3 [.agg [.int .i64 c0, .int .i64 c1, .int .i64 c2, .int .i64 c3, .int .i64 c4, .int .i64 c5, .int .i64 c6, .int .i64 c7, .int .i64 c8, .int .i64 c9, .int .i64 c10, .int .i64 c11, .int .i64 c12, .int .i64 c13]] (· = .bool true) := by
  by_cases h : wrongV c0 c1 c2 c3 c4 c5 c6 c7 c8 c9 c10 c11 c12 c13 = 0
  · exact e_wtextsA c0 c1 c2 c3 c4 c5 c6 c7 c8 c9 c10 c11 c12 c13 hi0 hi1 hi2 hi3 hi4 hi5 hi6 hi7 hi8 hi9 hi10 hi11 hi12 hi13 h
  · exact e_wtextsB c0 c1 c2 c3 c4 c5 c6 c7 c8 c9 c10 c11 c12 c13 _ hi0 hi1 hi2 hi3 hi4 hi5 hi6 hi7 hi8 hi9 hi10 hi11 hi12 hi13 rfl h
end Go.Proofs.YtdjafcjpnjdphaaDoor

