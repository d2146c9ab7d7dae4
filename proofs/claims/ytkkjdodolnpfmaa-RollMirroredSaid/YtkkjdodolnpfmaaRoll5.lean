/- RollMirrored: the walk, by the engine. -/
import Derived.Test.YtkkjdodolnpfmaaRoll4
import Derived.KernelRfl
set_option linter.unusedVariables false
set_option linter.unusedSimpArgs false
namespace Go.Proofs.Ytkkjdodolnpfmaa
open Go Go.RowKit Go.Eng
set_option maxRecDepth 100000
/-- Where the walk is: the train, and the one that goes the other way. -/
structure Mi where
  i : Int
  an : Bool
  on : Bool
  lo : Int
  hi : Int
  lo2 : Int
  hi2 : Int
def Mi.Ok (n : Int) (s : Mi) : Prop := 0 ≤ s.i ∧ s.i ≤ n ∧ s.lo ≤ s.hi ∧ -(s.i * 1099511627776) ≤ s.lo ∧ s.hi ≤ s.i * 1099511627776 ∧ s.lo2 = -s.hi ∧ s.hi2 = -s.lo
theorem neg64 {a : Int} (h1 : -9223372036854775808 < a) (h2 : a < 9223372036854775808) : unStd .neg .i64 a = -a := by
  show IntKind.i64.wrap (0 - a) = _
  rw [IntKind.wrap_i64]; omega
set_option maxHeartbeats 2000000 in
theorem walk_mir (c0 c1 c2 c3 c4 c5 c6 c7 c8 c9 c10 c11 c12 c13 : Int) (cs : List Cy) (es : List (List AV)) (hes : es = cyRows cs) : PCalls Try.prog 7 [.agg [.int .i64 c0, .int .i64 c1, .int .i64 c2, .int .i64 c3, .int .i64 c4, .int .i64 c5, .int .i64 c6, .int .i64 c7, .int .i64 c8, .int .i64 c9, .int .i64 c10, .int .i64 c11, .int .i64 c12, .int .i64 c13], .list 5 es] (fun r => r = .bool true) := by
  have hu : Up0 es := ⟨by subst hes; exact up_cy cs⟩
  (refine PCalls.ofY Try.func7 (by kernel_rfl) (by kernel_rfl) fun w hw R hR => ?_); (obtain ⟨wbin, wcmp, wun, wconv, wnot, wbeq, wmm, wscmp, wsadd, wslen, wsat, weqs, wlen, wnlen, wofNat, wtake, wdrop, wapp, wzero, wnat⟩ := w); (have hbin : wbin = binStd := congrArg Prims.bin hw); (have hcmp : wcmp = cmpStd := congrArg Prims.cmp hw); (have hun : wun = unStd := congrArg Prims.un hw); (have hconv : wconv = fun k n => k.wrap n := congrArg Prims.conv hw); (have hnot : wnot = fun b => !b := congrArg Prims.not hw); (have hbeq : wbeq = fun a b => a == b := congrArg Prims.beq hw); (have hmm : wmm = maxI := congrArg Prims.mm hw); (have hscmp : wscmp = scmpStd := congrArg Prims.scmp hw); (have hsadd : wsadd = fun x y => x ++ y := congrArg Prims.sadd hw); (have hslen : wslen = fun s => (s.size : Int) := congrArg Prims.slen hw); (have hsat : wsat = std.sat := congrArg Prims.sat hw); (have heqs : weqs = fun a b os => (eqOffs a b os).getD false := congrArg Prims.eqs hw); (have hlen : wlen = fun es => (es.length : Int) := congrArg Prims.len hw); (have hnlen : wnlen = fun es => es.length := congrArg Prims.nlen hw); (have hofNat : wofNat = (fun n : Nat => (n : Int)) := congrArg Prims.ofNat hw); (have htake : wtake = fun es b => es.take b.toNat := congrArg Prims.take hw); (have hdrop : wdrop = fun es a => es.drop a.toNat := congrArg Prims.drop hw); (have happ : wapp = fun a b => a ++ b := congrArg Prims.app hw); (have hzero : wzero = fun n z => List.replicate n.toNat z := congrArg Prims.zero hw); (have hnat : wnat = fun n => n.toNat := congrArg Prims.nat hw); (conv => arg 2; cbv); (generalize hP : Try.prog = P); cbv
  obtain ⟨L, eL, hL⟩ : ∃ L : Int, wlen es = L ∧ L = (cs.length : Int) := ⟨_, by rw [hlen, hes]; show ((cyRows cs).length : Int) = _; rw [len_cy], rfl⟩
  refine Call.step (by rw [← hP]; exact e_anchor19) rfl ?_
  rintro r rfl
  cbv
  (split <;> rename_i hb <;> (try (simp only [hbin, hcmp, hun, hconv, hnot, hbeq, hmm, hscmp, hsadd, hslen, hsat, heqs, hofNat, binStd, cmpStd, unStd, scmpStd, maxI, Bool.not_eq_true', Bool.not_eq_false', decide_eq_true_eq, decide_eq_false_iff_not, Int.not_lt, Int.not_le, if_true, if_false, Bool.false_eq_true, beq_iff_eq, bne_iff_ne, ne_eq, Bool.not_eq_eq_eq_not, Bool.not_true, Bool.not_false, beq_eq_false_iff_ne, bne_eq_false_iff_eq, Int.ofNat_eq_natCast, Bool.not_not, not_true_eq_false, not_false_eq_true, reduceCtorEq] at hb)) <;> (try cbv))
  refine Call.stepE (by rw [← hP]; exact e_wrong _ _ _ _ _ _ _ _ _ _ _ _ _ _) rfl ?_
  generalize hn : wrongV c0 c1 c2 c3 c4 c5 c6 c7 c8 c9 c10 c11 c12 c13 = n
  cbv
  (split <;> rename_i hb <;> (try (simp only [hbin, hcmp, hun, hconv, hnot, hbeq, hmm, hscmp, hsadd, hslen, hsat, heqs, hofNat, binStd, cmpStd, unStd, scmpStd, maxI, Bool.not_eq_true', Bool.not_eq_false', decide_eq_true_eq, decide_eq_false_iff_not, Int.not_lt, Int.not_le, if_true, if_false, Bool.false_eq_true, beq_iff_eq, bne_iff_ne, ne_eq, Bool.not_eq_eq_eq_not, Bool.not_true, Bool.not_false, beq_eq_false_iff_ne, bne_eq_false_iff_eq, Int.ofNat_eq_natCast, Bool.not_not, not_true_eq_false, not_false_eq_true, reduceCtorEq] at hb)) <;> (try cbv))
  · exact ⟨_, Vw.same rfl, hR _ rfl⟩
  rw [hb] at hn
  have hok := wrong_ok hn
  obtain ⟨r0, r1⟩ : 0 ≤ c11 ∧ c11 < 2000000000 := by unfold ConfOk at hok; omega
  clear hok hn
  (split <;> rename_i hb <;> (try (simp only [hbin, hcmp, hun, hconv, hnot, hbeq, hmm, hscmp, hsadd, hslen, hsat, heqs, hofNat, binStd, cmpStd, unStd, scmpStd, maxI, Bool.not_eq_true', Bool.not_eq_false', decide_eq_true_eq, decide_eq_false_iff_not, Int.not_lt, Int.not_le, if_true, if_false, Bool.false_eq_true, beq_iff_eq, bne_iff_ne, ne_eq, Bool.not_eq_eq_eq_not, Bool.not_true, Bool.not_false, beq_eq_false_iff_ne, bne_eq_false_iff_eq, Int.ofNat_eq_natCast, Bool.not_not, not_true_eq_false, not_false_eq_true, reduceCtorEq] at hb)) <;> (try cbv))
  · exact ⟨_, Vw.same rfl, hR _ rfl⟩
  rw [eL] at hb
  refine Loop.data hw (S := Mi) (fun s => fr 87 [(0, .agg [.int .i64 c0, .int .i64 c1, .int .i64 c2, .int .i64 c3, .int .i64 c4, .int .i64 c5, .int .i64 c6, .int .i64 c7, .int .i64 c8, .int .i64 c9, .int .i64 c10, .int .i64 c11, .int .i64 c12, .int .i64 c13]), (1, .list 5 es), (2, .ref 0 14 0 0), (5, .ref 1 4 0 0), (6, .ref 2 4 0 0), (19, .list 5 es), (20, .int .i64 L), (21, .int .i64 s.i)])
    (fun s => [.live 14 [[.int .i64 c0, .int .i64 c1, .int .i64 c2, .int .i64 c3, .int .i64 c4, .int .i64 c5, .int .i64 c6, .int .i64 c7, .int .i64 c8, .int .i64 c9, .int .i64 c10, .int .i64 c11, .int .i64 c12, .int .i64 c13]], .live 4 [[.bool s.an, .bool s.on, .int .i64 s.lo, .int .i64 s.hi]], .live 4 [[.bool s.an, .bool s.on, .int .i64 s.lo2, .int .i64 s.hi2]]])
    (Mi.Ok L) (fun s => L.toNat - s.i.toNat) ⟨0, false, false, 0, 0, 0, 0⟩ (by (refine Wk.eqs ?_; cbv; (repeat' (first | exact trivial | rfl | assumption | apply And.intro | (simp only [hbin, hcmp, hun, hconv, hnot, hbeq, hmm, hscmp, hsadd, hslen, hsat, heqs, hofNat, binStd, cmpStd, unStd, scmpStd, maxI, Bool.not_eq_true', Bool.not_eq_false', decide_eq_true_eq, decide_eq_false_iff_not, Int.not_lt, Int.not_le, if_true, if_false, Bool.false_eq_true, beq_iff_eq, bne_iff_ne, ne_eq, Bool.not_eq_eq_eq_not, Bool.not_true, Bool.not_false, beq_eq_false_iff_ne, bne_eq_false_iff_eq, Int.ofNat_eq_natCast, Bool.not_not, not_true_eq_false, not_false_eq_true, reduceCtorEq]; first | done | assumption) | exact RowsX.same (by assumption) (by first | assumption | rfl) | (refine RowsX.one ?_; cbv))))) (by unfold Mi.Ok; simp; rw [hL]; exact Int.natCast_nonneg _) ?_
  rintro ⟨i, an, on, lo, hi, lo2, hi2⟩ hinv Q' hN hE hR'
  cbv
  obtain ⟨hi0, hi1, hlh, hlo, hhi, hlo2, hhi2⟩ : 0 ≤ i ∧ i ≤ L ∧ lo ≤ hi ∧ -(i * 1099511627776) ≤ lo ∧ hi ≤ i * 1099511627776 ∧ lo2 = -hi ∧ hi2 = -lo := hinv
  (split <;> rename_i hc <;> (try (simp only [hbin, hcmp, hun, hconv, hnot, hbeq, hmm, hscmp, hsadd, hslen, hsat, heqs, hofNat, binStd, cmpStd, unStd, scmpStd, maxI, Bool.not_eq_true', Bool.not_eq_false', decide_eq_true_eq, decide_eq_false_iff_not, Int.not_lt, Int.not_le, if_true, if_false, Bool.false_eq_true, beq_iff_eq, bne_iff_ne, ne_eq, Bool.not_eq_eq_eq_not, Bool.not_true, Bool.not_false, beq_eq_false_iff_ne, bne_eq_false_iff_eq, Int.ofNat_eq_natCast, Bool.not_not, not_true_eq_false, not_false_eq_true, reduceCtorEq] at hc)) <;> (try cbv))
  · obtain ⟨a, b, v, st, com, hcy, hrow⟩ := get_cy cs i L hL hi0 hc
    refine Idx.mk [.int .i64 a, .int .i64 b, .int .i64 v, .bool st, .bool com] hi0 (by rw [hes]; exact hrow) ?_
    cbv
    refine Call.step (by rw [← hP]; exact e_small _ _) rfl ?_
    rintro r ⟨o, rfl, ho⟩
    cbv
    (split <;> rename_i hsm <;> (try (simp only [hbin, hcmp, hun, hconv, hnot, hbeq, hmm, hscmp, hsadd, hslen, hsat, heqs, hofNat, binStd, cmpStd, unStd, scmpStd, maxI, Bool.not_eq_true', Bool.not_eq_false', decide_eq_true_eq, decide_eq_false_iff_not, Int.not_lt, Int.not_le, if_true, if_false, Bool.false_eq_true, beq_iff_eq, bne_iff_ne, ne_eq, Bool.not_eq_eq_eq_not, Bool.not_true, Bool.not_false, beq_eq_false_iff_ne, bne_eq_false_iff_eq, Int.ofNat_eq_natCast, Bool.not_not, not_true_eq_false, not_false_eq_true, reduceCtorEq] at hsm)) <;> (try cbv))
    · exact hR' _ _ ⟨_, Vw.same rfl, hR _ rfl⟩
    obtain ⟨hab, ha, hb2⟩ := ho.1 hsm
    obtain ⟨i', ei'⟩ : ∃ x, i + 1 = x := ⟨_, rfl⟩
    have hT : L.toNat - i'.toNat < L.toNat - i.toNat := by omega
    have hS : i * 1099511627776 ≤ 1000 * 1099511627776 := by omega
    have ei : wbin .add .i64 i 1 = i' := by rw [hbin]; exact (add64 (by omega) (by omega)).trans ei'
    obtain ⟨a2, ea2⟩ : ∃ x, -b = x := ⟨_, rfl⟩
    obtain ⟨b2, eb2⟩ : ∃ x, -a = x := ⟨_, rfl⟩
    have eb : wun .neg .i64 b = a2 := by rw [hun]; exact (neg64 (by omega) (by omega)).trans ea2
    have ea : wun .neg .i64 a = b2 := by rw [hun]; exact (neg64 (by omega) (by omega)).trans eb2
    have ez : wun .neg .i64 0 = 0 := by rw [hun]; exact neg64 (by omega) (by omega)
    cases com
    · cases an
      · refine Call.stepE (by rw [← hP]; exact e_nextB _ _ _ _ _ _ _ _ _ _ _ _ _ _ _ _ _ _ _ _) rfl ?_
        cbv
        simp only [ea, eb]
        refine Call.stepE (by rw [← hP]; exact e_nextB _ _ _ _ _ _ _ _ _ _ _ _ _ _ _ _ _ _ _ _) rfl ?_
        cbv
        repeat' (split <;> rename_i h <;> (try (simp only [ez] at h)) <;> (try (simp only [hbin, hcmp, hun, hconv, hnot, hbeq, hmm, hscmp, hsadd, hslen, hsat, heqs, hofNat, binStd, cmpStd, unStd, scmpStd, maxI, Bool.not_eq_true', Bool.not_eq_false', decide_eq_true_eq, decide_eq_false_iff_not, Int.not_lt, Int.not_le, if_true, if_false, Bool.false_eq_true, beq_iff_eq, bne_iff_ne, ne_eq, Bool.not_eq_eq_eq_not, Bool.not_true, Bool.not_false, beq_eq_false_iff_ne, bne_eq_false_iff_eq, Int.ofNat_eq_natCast, Bool.not_not, not_true_eq_false, not_false_eq_true, reduceCtorEq] at h)) <;> (try cbv))
        exact hN ⟨i', st, false, 0, 0, 0, 0⟩ _ _ (by (refine Wk.eqs ?_; cbv; (repeat' (first | exact trivial | rfl | assumption | apply And.intro | (simp only [hbin, hcmp, hun, hconv, hnot, hbeq, hmm, hscmp, hsadd, hslen, hsat, heqs, hofNat, binStd, cmpStd, unStd, scmpStd, maxI, Bool.not_eq_true', Bool.not_eq_false', decide_eq_true_eq, decide_eq_false_iff_not, Int.not_lt, Int.not_le, if_true, if_false, Bool.false_eq_true, beq_iff_eq, bne_iff_ne, ne_eq, Bool.not_eq_eq_eq_not, Bool.not_true, Bool.not_false, beq_eq_false_iff_ne, bne_eq_false_iff_eq, Int.ofNat_eq_natCast, Bool.not_not, not_true_eq_false, not_false_eq_true, reduceCtorEq]; first | done | assumption) | exact RowsX.same (by assumption) (by first | assumption | rfl) | (refine RowsX.one ?_; cbv))))) (by simp only [Mi.Ok]; omega) hT
      · obtain ⟨lo', el⟩ : ∃ x, lo + a = x := ⟨_, rfl⟩
        obtain ⟨hi', eh⟩ : ∃ x, hi + b = x := ⟨_, rfl⟩
        obtain ⟨lo2', el2⟩ : ∃ x, lo2 + a2 = x := ⟨_, rfl⟩
        obtain ⟨hi2', eh2⟩ : ∃ x, hi2 + b2 = x := ⟨_, rfl⟩
        obtain ⟨on', eo⟩ : ∃ x : Bool, x = true ↔ on = true ∨ c11 < lo' ∨ hi' < -c11 := ⟨on || decide (c11 < lo') || decide (hi' < -c11), by simp [or_assoc]⟩
        have eo2 : on' = true ↔ on = true ∨ c11 < lo2' ∨ hi2' < -c11 := by
          rw [eo]
          have : (c11 < lo' ∨ hi' < -c11) ↔ (c11 < lo2' ∨ hi2' < -c11) := by omega
          rw [this]
        have e1 : wun .neg .i64 hi2' = lo' := by rw [hun]; exact (neg64 (by omega) (by omega)).trans (by omega)
        have e2 : wun .neg .i64 lo2' = hi' := by rw [hun]; exact (neg64 (by omega) (by omega)).trans (by omega)
        refine Call.stepE (by rw [← hP]; exact e_nextC _ _ _ _ _ _ _ _ _ _ _ _ _ _ _ _ _ _ _ _ on' lo' hi' el eh eo r0 r1 hlh hab (by unfold InR; omega) (by unfold InR; omega)) rfl ?_
        cbv
        simp only [ea, eb]
        refine Call.stepE (by rw [← hP]; exact e_nextC _ _ _ _ _ _ _ _ _ _ _ _ _ _ _ _ _ _ _ _ on' lo2' hi2' el2 eh2 eo2 r0 r1 (by omega) (by omega) (by unfold InR; omega) (by unfold InR; omega)) rfl ?_
        cbv
        repeat' (split <;> rename_i h <;> (try (simp only [e1, e2] at h)) <;> (try (simp only [hbin, hcmp, hun, hconv, hnot, hbeq, hmm, hscmp, hsadd, hslen, hsat, heqs, hofNat, binStd, cmpStd, unStd, scmpStd, maxI, Bool.not_eq_true', Bool.not_eq_false', decide_eq_true_eq, decide_eq_false_iff_not, Int.not_lt, Int.not_le, if_true, if_false, Bool.false_eq_true, beq_iff_eq, bne_iff_ne, ne_eq, Bool.not_eq_eq_eq_not, Bool.not_true, Bool.not_false, beq_eq_false_iff_ne, bne_eq_false_iff_eq, Int.ofNat_eq_natCast, Bool.not_not, not_true_eq_false, not_false_eq_true, reduceCtorEq] at h)) <;> (try cbv))
        exact hN ⟨i', true, on', lo', hi', lo2', hi2'⟩ _ _ (by (refine Wk.eqs ?_; cbv; (repeat' (first | exact trivial | rfl | assumption | apply And.intro | (simp only [hbin, hcmp, hun, hconv, hnot, hbeq, hmm, hscmp, hsadd, hslen, hsat, heqs, hofNat, binStd, cmpStd, unStd, scmpStd, maxI, Bool.not_eq_true', Bool.not_eq_false', decide_eq_true_eq, decide_eq_false_iff_not, Int.not_lt, Int.not_le, if_true, if_false, Bool.false_eq_true, beq_iff_eq, bne_iff_ne, ne_eq, Bool.not_eq_eq_eq_not, Bool.not_true, Bool.not_false, beq_eq_false_iff_ne, bne_eq_false_iff_eq, Int.ofNat_eq_natCast, Bool.not_not, not_true_eq_false, not_false_eq_true, reduceCtorEq]; first | done | assumption) | exact RowsX.same (by assumption) (by first | assumption | rfl) | (refine RowsX.one ?_; cbv))))) (by simp only [Mi.Ok]; omega) hT
    · refine Call.stepE (by rw [← hP]; exact e_nextA _ _ _ _ _ _ _ _ _ _ _ _ _ _ _ _ _ _ _ _ _) rfl ?_
      cbv
      simp only [ea, eb]
      refine Call.stepE (by rw [← hP]; exact e_nextA _ _ _ _ _ _ _ _ _ _ _ _ _ _ _ _ _ _ _ _ _) rfl ?_
      cbv
      repeat' (split <;> rename_i h <;> (try (simp only [ez] at h)) <;> (try (simp only [hbin, hcmp, hun, hconv, hnot, hbeq, hmm, hscmp, hsadd, hslen, hsat, heqs, hofNat, binStd, cmpStd, unStd, scmpStd, maxI, Bool.not_eq_true', Bool.not_eq_false', decide_eq_true_eq, decide_eq_false_iff_not, Int.not_lt, Int.not_le, if_true, if_false, Bool.false_eq_true, beq_iff_eq, bne_iff_ne, ne_eq, Bool.not_eq_eq_eq_not, Bool.not_true, Bool.not_false, beq_eq_false_iff_ne, bne_eq_false_iff_eq, Int.ofNat_eq_natCast, Bool.not_not, not_true_eq_false, not_false_eq_true, reduceCtorEq] at h)) <;> (try cbv))
      exact hN ⟨i', false, false, 0, 0, 0, 0⟩ _ _ (by (refine Wk.eqs ?_; cbv; (repeat' (first | exact trivial | rfl | assumption | apply And.intro | (simp only [hbin, hcmp, hun, hconv, hnot, hbeq, hmm, hscmp, hsadd, hslen, hsat, heqs, hofNat, binStd, cmpStd, unStd, scmpStd, maxI, Bool.not_eq_true', Bool.not_eq_false', decide_eq_true_eq, decide_eq_false_iff_not, Int.not_lt, Int.not_le, if_true, if_false, Bool.false_eq_true, beq_iff_eq, bne_iff_ne, ne_eq, Bool.not_eq_eq_eq_not, Bool.not_true, Bool.not_false, beq_eq_false_iff_ne, bne_eq_false_iff_eq, Int.ofNat_eq_natCast, Bool.not_not, not_true_eq_false, not_false_eq_true, reduceCtorEq]; first | done | assumption) | exact RowsX.same (by assumption) (by first | assumption | rfl) | (refine RowsX.one ?_; cbv))))) (by simp only [Mi.Ok]; omega) hT
  · refine hE _ _ _ ?_
    cbv
    exact ⟨_, Vw.same rfl, hR _ rfl⟩
end Go.Proofs.Ytkkjdodolnpfmaa
