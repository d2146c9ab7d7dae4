/- RollTrue: the walk, by the engine. -/
import Derived.Test.YtkkjdodolnpfmaaRoll4
import Derived.KernelRfl
set_option linter.unusedVariables false
set_option linter.unusedSimpArgs false
namespace Go.Proofs.Ytkkjdodolnpfmaa
open Go Go.RowKit Go.Eng
set_option maxRecDepth 100000
/-- Where the walk is: the train, how far it truly moved, and whether that was too far. -/
structure Tu where
  i : Int
  an : Bool
  on : Bool
  lo : Int
  hi : Int
  mv : Int
  far : Bool
def Tu.Ok (n : Int) (s : Tu) : Prop := 0 ≤ s.i ∧ s.i ≤ n ∧ s.lo ≤ s.hi ∧ -(s.i * 1099511627776) ≤ s.lo ∧ s.hi ≤ s.i * 1099511627776 ∧ s.lo ≤ s.mv ∧ s.mv ≤ s.hi ∧ (s.on = true → s.far = true)
theorem e_has (a b x : Int) : PCalls Try.prog 21 [sp2 a b, .int .i64 x] (fun r => ∃ o : Bool, r = .bool o ∧ (o = true ↔ a ≤ x ∧ x ≤ b)) := by
  (refine PCalls.ofY Try.func21 (by kernel_rfl) (by kernel_rfl) fun w hw R hR => ?_); (obtain ⟨wbin, wcmp, wun, wconv, wnot, wbeq, wmm, wscmp, wsadd, wslen, wsat, weqs, wlen, wnlen, wofNat, wtake, wdrop, wapp, wzero, wnat⟩ := w); (have hbin : wbin = binStd := congrArg Prims.bin hw); (have hcmp : wcmp = cmpStd := congrArg Prims.cmp hw); (have hun : wun = unStd := congrArg Prims.un hw); (have hconv : wconv = fun k n => k.wrap n := congrArg Prims.conv hw); (have hnot : wnot = fun b => !b := congrArg Prims.not hw); (have hbeq : wbeq = fun a b => a == b := congrArg Prims.beq hw); (have hmm : wmm = maxI := congrArg Prims.mm hw); (have hscmp : wscmp = scmpStd := congrArg Prims.scmp hw); (have hsadd : wsadd = fun x y => x ++ y := congrArg Prims.sadd hw); (have hslen : wslen = fun s => (s.size : Int) := congrArg Prims.slen hw); (have hsat : wsat = std.sat := congrArg Prims.sat hw); (have heqs : weqs = fun a b os => (eqOffs a b os).getD false := congrArg Prims.eqs hw); (have hlen : wlen = fun es => (es.length : Int) := congrArg Prims.len hw); (have hnlen : wnlen = fun es => es.length := congrArg Prims.nlen hw); (have hofNat : wofNat = (fun n : Nat => (n : Int)) := congrArg Prims.ofNat hw); (have htake : wtake = fun es b => es.take b.toNat := congrArg Prims.take hw); (have hdrop : wdrop = fun es a => es.drop a.toNat := congrArg Prims.drop hw); (have happ : wapp = fun a b => a ++ b := congrArg Prims.app hw); (have hzero : wzero = fun n z => List.replicate n.toNat z := congrArg Prims.zero hw); (have hnat : wnat = fun n => n.toNat := congrArg Prims.nat hw); (conv => arg 2; cbv); (generalize hP : Try.prog = P); cbv
  repeat' (split <;> rename_i h <;> (try (simp only [hbin, hcmp, hun, hconv, hnot, hbeq, hmm, hscmp, hsadd, hslen, hsat, heqs, hofNat, binStd, cmpStd, unStd, scmpStd, maxI, Bool.not_eq_true', Bool.not_eq_false', decide_eq_true_eq, decide_eq_false_iff_not, Int.not_lt, Int.not_le, if_true, if_false, Bool.false_eq_true, beq_iff_eq, bne_iff_ne, ne_eq, Bool.not_eq_eq_eq_not, Bool.not_true, Bool.not_false, beq_eq_false_iff_ne, bne_eq_false_iff_eq, Int.ofNat_eq_natCast, Bool.not_not, not_true_eq_false, not_false_eq_true, reduceCtorEq] at h)) <;> (try cbv))
  all_goals
    refine ⟨_, Vw.same rfl, hR _ ⟨_, rfl, ?_⟩⟩
    first | (simp only [hbin, hcmp, hun, hconv, hnot, hbeq, hmm, hscmp, hsadd, hslen, hsat, heqs, hofNat, binStd, cmpStd, unStd, scmpStd, maxI, Bool.not_eq_true', Bool.not_eq_false', decide_eq_true_eq, decide_eq_false_iff_not, Int.not_lt, Int.not_le, if_true, if_false, Bool.false_eq_true, beq_iff_eq, bne_iff_ne, ne_eq, Bool.not_eq_eq_eq_not, Bool.not_true, Bool.not_false, beq_eq_false_iff_ne, bne_eq_false_iff_eq, Int.ofNat_eq_natCast, Bool.not_not, not_true_eq_false, not_false_eq_true, reduceCtorEq]; omega) | (simp; omega)
theorem e_hasT (a b x : Int) (h1 : a ≤ x) (h2 : x ≤ b) : PCalls Try.prog 21 [sp2 a b, .int .i64 x] (· = .bool true) := by
  refine (e_has a b x).mono ?_
  rintro r ⟨o, rfl, ho⟩
  rw [ho.2 ⟨h1, h2⟩]
theorem e_width (a b d : Int) (hd : b - a = d) (h : a ≤ b) (h1 : -4611686018427387904 ≤ a) (h2 : b ≤ 4611686018427387903) : PCalls Try.prog 27 [sp2 a b] (· = .int .u64 d) := by
  (refine PCalls.ofY Try.func27 (by kernel_rfl) (by kernel_rfl) fun w hw R hR => ?_); (obtain ⟨wbin, wcmp, wun, wconv, wnot, wbeq, wmm, wscmp, wsadd, wslen, wsat, weqs, wlen, wnlen, wofNat, wtake, wdrop, wapp, wzero, wnat⟩ := w); (have hbin : wbin = binStd := congrArg Prims.bin hw); (have hcmp : wcmp = cmpStd := congrArg Prims.cmp hw); (have hun : wun = unStd := congrArg Prims.un hw); (have hconv : wconv = fun k n => k.wrap n := congrArg Prims.conv hw); (have hnot : wnot = fun b => !b := congrArg Prims.not hw); (have hbeq : wbeq = fun a b => a == b := congrArg Prims.beq hw); (have hmm : wmm = maxI := congrArg Prims.mm hw); (have hscmp : wscmp = scmpStd := congrArg Prims.scmp hw); (have hsadd : wsadd = fun x y => x ++ y := congrArg Prims.sadd hw); (have hslen : wslen = fun s => (s.size : Int) := congrArg Prims.slen hw); (have hsat : wsat = std.sat := congrArg Prims.sat hw); (have heqs : weqs = fun a b os => (eqOffs a b os).getD false := congrArg Prims.eqs hw); (have hlen : wlen = fun es => (es.length : Int) := congrArg Prims.len hw); (have hnlen : wnlen = fun es => es.length := congrArg Prims.nlen hw); (have hofNat : wofNat = (fun n : Nat => (n : Int)) := congrArg Prims.ofNat hw); (have htake : wtake = fun es b => es.take b.toNat := congrArg Prims.take hw); (have hdrop : wdrop = fun es a => es.drop a.toNat := congrArg Prims.drop hw); (have happ : wapp = fun a b => a ++ b := congrArg Prims.app hw); (have hzero : wzero = fun n z => List.replicate n.toNat z := congrArg Prims.zero hw); (have hnat : wnat = fun n => n.toNat := congrArg Prims.nat hw); (conv => arg 2; cbv); (generalize hP : Try.prog = P); cbv
  refine Call.step (by rw [← hP]; exact e_right2 _ _) rfl ?_
  rintro r ⟨o, rfl, ho⟩
  cbv
  (split <;> rename_i hb <;> (try (simp only [hbin, hcmp, hun, hconv, hnot, hbeq, hmm, hscmp, hsadd, hslen, hsat, heqs, hofNat, binStd, cmpStd, unStd, scmpStd, maxI, Bool.not_eq_true', Bool.not_eq_false', decide_eq_true_eq, decide_eq_false_iff_not, Int.not_lt, Int.not_le, if_true, if_false, Bool.false_eq_true, beq_iff_eq, bne_iff_ne, ne_eq, Bool.not_eq_eq_eq_not, Bool.not_true, Bool.not_false, beq_eq_false_iff_ne, bne_eq_false_iff_eq, Int.ofNat_eq_natCast, Bool.not_not, not_true_eq_false, not_false_eq_true, reduceCtorEq] at hb)) <;> (try cbv))
  · exfalso; rw [hb] at ho; simp at ho; omega
  refine ⟨_, Vw.same rfl, hR _ (congrArg (AV.int .u64) ?_)⟩
  rw [hbin, hconv]
  show IntKind.u64.wrap (IntKind.u64.wrap b - IntKind.u64.wrap a) = _
  rw [IntKind.wrap_u64, IntKind.wrap_u64, IntKind.wrap_u64]; omega
set_option maxHeartbeats 2000000 in
theorem walk_true (c0 c1 c2 c3 c4 c5 c6 c7 c8 c9 c10 c11 c12 c13 : Int) (cs : List Cy) (es : List (List AV)) (hes : es = cyRows cs) : PCalls Try.prog 8 [.agg [.int .i64 c0, .int .i64 c1, .int .i64 c2, .int .i64 c3, .int .i64 c4, .int .i64 c5, .int .i64 c6, .int .i64 c7, .int .i64 c8, .int .i64 c9, .int .i64 c10, .int .i64 c11, .int .i64 c12, .int .i64 c13], .list 5 es] (fun r => r = .bool true) := by
  have hu : Up0 es := ⟨by subst hes; exact up_cy cs⟩
  (refine PCalls.ofY Try.func8 (by kernel_rfl) (by kernel_rfl) fun w hw R hR => ?_); (obtain ⟨wbin, wcmp, wun, wconv, wnot, wbeq, wmm, wscmp, wsadd, wslen, wsat, weqs, wlen, wnlen, wofNat, wtake, wdrop, wapp, wzero, wnat⟩ := w); (have hbin : wbin = binStd := congrArg Prims.bin hw); (have hcmp : wcmp = cmpStd := congrArg Prims.cmp hw); (have hun : wun = unStd := congrArg Prims.un hw); (have hconv : wconv = fun k n => k.wrap n := congrArg Prims.conv hw); (have hnot : wnot = fun b => !b := congrArg Prims.not hw); (have hbeq : wbeq = fun a b => a == b := congrArg Prims.beq hw); (have hmm : wmm = maxI := congrArg Prims.mm hw); (have hscmp : wscmp = scmpStd := congrArg Prims.scmp hw); (have hsadd : wsadd = fun x y => x ++ y := congrArg Prims.sadd hw); (have hslen : wslen = fun s => (s.size : Int) := congrArg Prims.slen hw); (have hsat : wsat = std.sat := congrArg Prims.sat hw); (have heqs : weqs = fun a b os => (eqOffs a b os).getD false := congrArg Prims.eqs hw); (have hlen : wlen = fun es => (es.length : Int) := congrArg Prims.len hw); (have hnlen : wnlen = fun es => es.length := congrArg Prims.nlen hw); (have hofNat : wofNat = (fun n : Nat => (n : Int)) := congrArg Prims.ofNat hw); (have htake : wtake = fun es b => es.take b.toNat := congrArg Prims.take hw); (have hdrop : wdrop = fun es a => es.drop a.toNat := congrArg Prims.drop hw); (have happ : wapp = fun a b => a ++ b := congrArg Prims.app hw); (have hzero : wzero = fun n z => List.replicate n.toNat z := congrArg Prims.zero hw); (have hnat : wnat = fun n => n.toNat := congrArg Prims.nat hw); (conv => arg 2; cbv); (generalize hP : Try.prog = P); cbv
  obtain ⟨L, eL, hL⟩ : ∃ L : Int, wlen es = L ∧ L = (cs.length : Int) := ⟨_, by rw [hlen, hes]; show ((cyRows cs).length : Int) = _; rw [len_cy], rfl⟩
  refine Call.step (by rw [← hP]; exact e_anchor19) rfl ?_
  rintro r rfl
  cbv
  (split <;> rename_i hb <;> (try (simp only [hbin, hcmp, hun, hconv, hnot, hbeq, hmm, hscmp, hsadd, hslen, hsat, heqs, hofNat, binStd, cmpStd, unStd, scmpStd, maxI, Bool.not_eq_true', Bool.not_eq_false', decide_eq_true_eq, decide_eq_false_iff_not, Int.not_lt, Int.not_le, if_true, if_false, Bool.false_eq_true, beq_iff_eq, bne_iff_ne, ne_eq, Bool.not_eq_eq_eq_not, Bool.not_true, Bool.not_false, beq_eq_false_iff_ne, bne_eq_false_iff_eq, Int.ofNat_eq_natCast, Bool.not_not, not_true_eq_false, not_false_eq_true, reduceCtorEq] at hb)) <;> (try cbv))
  refine Call.stepE (by rw [← hP]; exact e_wrong _ _ _ _ _ _ _ _ _ _ _ _ _ _) rfl ?_
  generalize hn : wrongV c0 c1 c2 c3 c4 c5 c6 c7 c8 c9 c10 c11 c12 c13 = n
  cbv
  (split <;> rename_i hb <;> (try (simp only [hbin, hcmp, hun, hconv, hnot, hbeq, hmm, hscmp, hsadd, hslen, hsat, heqs, hofNat, binStd, cmpStd, unStd, scmpStd, maxI, Bool.not_eq_true', Bool.not_eq_false', decide_eq_true_eq, decide_eq_false_iff_not, Int.not_lt, Int.not_le, if_true, if_false, Bool.false_eq_true, beq_iff_eq, bne_iff_ne, ne_eq, Bool.not_eq_eq_eq_not, Bool.not_true, Bool.not_false, beq_eq_false_iff_ne, bne_eq_false_iff_eq, Int.ofNat_eq_natCast, Bool.not_not, not_true_eq_false, not_false_eq_true, reduceCtorEq] at hb)) <;> (try cbv))
  · exact ⟨_, Vw.same rfl, hR _ rfl⟩
  rw [hb] at hn
  have hok := wrong_ok hn
  obtain ⟨r0, r1⟩ : 0 ≤ c11 ∧ c11 < 2000000000 := by unfold ConfOk at hok; omega
  clear hok hn
  (split <;> rename_i hb <;> (try (simp only [hbin, hcmp, hun, hconv, hnot, hbeq, hmm, hscmp, hsadd, hslen, hsat, heqs, hofNat, binStd, cmpStd, unStd, scmpStd, maxI, Bool.not_eq_true', Bool.not_eq_false', decide_eq_true_eq, decide_eq_false_iff_not, Int.not_lt, Int.not_le, if_true, if_false, Bool.false_eq_true, beq_iff_eq, bne_iff_ne, ne_eq, Bool.not_eq_eq_eq_not, Bool.not_true, Bool.not_false, beq_eq_false_iff_ne, bne_eq_false_iff_eq, Int.ofNat_eq_natCast, Bool.not_not, not_true_eq_false, not_false_eq_true, reduceCtorEq] at hb)) <;> (try cbv))
  · exact ⟨_, Vw.same rfl, hR _ rfl⟩
  rw [eL] at hb
  refine Loop.data hw (S := Tu) (fun s => fr 118 [(0, .agg [.int .i64 c0, .int .i64 c1, .int .i64 c2, .int .i64 c3, .int .i64 c4, .int .i64 c5, .int .i64 c6, .int .i64 c7, .int .i64 c8, .int .i64 c9, .int .i64 c10, .int .i64 c11, .int .i64 c12, .int .i64 c13]), (1, .list 5 es), (2, .ref 0 14 0 0), (5, .ref 1 4 0 0), (6, .int .i64 s.mv), (7, .bool s.far), (22, .list 5 es), (23, .int .i64 L), (24, .int .i64 s.i)])
    (fun s => [.live 14 [[.int .i64 c0, .int .i64 c1, .int .i64 c2, .int .i64 c3, .int .i64 c4, .int .i64 c5, .int .i64 c6, .int .i64 c7, .int .i64 c8, .int .i64 c9, .int .i64 c10, .int .i64 c11, .int .i64 c12, .int .i64 c13]], .live 4 [[.bool s.an, .bool s.on, .int .i64 s.lo, .int .i64 s.hi]]])
    (Tu.Ok L) (fun s => L.toNat - s.i.toNat) ⟨0, false, false, 0, 0, 0, false⟩ (by (refine Wk.eqs ?_; cbv; (repeat' (first | exact trivial | rfl | assumption | apply And.intro | (simp only [hbin, hcmp, hun, hconv, hnot, hbeq, hmm, hscmp, hsadd, hslen, hsat, heqs, hofNat, binStd, cmpStd, unStd, scmpStd, maxI, Bool.not_eq_true', Bool.not_eq_false', decide_eq_true_eq, decide_eq_false_iff_not, Int.not_lt, Int.not_le, if_true, if_false, Bool.false_eq_true, beq_iff_eq, bne_iff_ne, ne_eq, Bool.not_eq_eq_eq_not, Bool.not_true, Bool.not_false, beq_eq_false_iff_ne, bne_eq_false_iff_eq, Int.ofNat_eq_natCast, Bool.not_not, not_true_eq_false, not_false_eq_true, reduceCtorEq]; first | done | assumption) | exact RowsX.same (by assumption) (by first | assumption | rfl) | (refine RowsX.one ?_; cbv))))) (by unfold Tu.Ok; simp; rw [hL]; exact Int.natCast_nonneg _) ?_
  rintro ⟨i, an, on, lo, hi, mv, far⟩ hinv Q' hN hE hR'
  cbv
  obtain ⟨hi0, hi1, hlh, hlo, hhi, hm1, hm2, hof⟩ : 0 ≤ i ∧ i ≤ L ∧ lo ≤ hi ∧ -(i * 1099511627776) ≤ lo ∧ hi ≤ i * 1099511627776 ∧ lo ≤ mv ∧ mv ≤ hi ∧ (on = true → far = true) := hinv
  (split <;> rename_i hc <;> (try (simp only [hbin, hcmp, hun, hconv, hnot, hbeq, hmm, hscmp, hsadd, hslen, hsat, heqs, hofNat, binStd, cmpStd, unStd, scmpStd, maxI, Bool.not_eq_true', Bool.not_eq_false', decide_eq_true_eq, decide_eq_false_iff_not, Int.not_lt, Int.not_le, if_true, if_false, Bool.false_eq_true, beq_iff_eq, bne_iff_ne, ne_eq, Bool.not_eq_eq_eq_not, Bool.not_true, Bool.not_false, beq_eq_false_iff_ne, bne_eq_false_iff_eq, Int.ofNat_eq_natCast, Bool.not_not, not_true_eq_false, not_false_eq_true, reduceCtorEq] at hc)) <;> (try cbv))
  · obtain ⟨a, b, v, st, com, hcy, hrow⟩ := get_cy cs i L hL hi0 hc
    refine Idx.mk [.int .i64 a, .int .i64 b, .int .i64 v, .bool st, .bool com] hi0 (by rw [hes]; exact hrow) ?_
    cbv
    refine Call.step (by rw [← hP]; exact e_small _ _) rfl ?_
    rintro r ⟨o, rfl, ho⟩
    cbv
    repeat' (first | exact hR' _ _ ⟨_, Vw.same rfl, hR _ rfl⟩ | (split <;> rename_i h <;> (try (simp only [hbin, hcmp, hun, hconv, hnot, hbeq, hmm, hscmp, hsadd, hslen, hsat, heqs, hofNat, binStd, cmpStd, unStd, scmpStd, maxI, Bool.not_eq_true', Bool.not_eq_false', decide_eq_true_eq, decide_eq_false_iff_not, Int.not_lt, Int.not_le, if_true, if_false, Bool.false_eq_true, beq_iff_eq, bne_iff_ne, ne_eq, Bool.not_eq_eq_eq_not, Bool.not_true, Bool.not_false, beq_eq_false_iff_ne, bne_eq_false_iff_eq, Int.ofNat_eq_natCast, Bool.not_not, not_true_eq_false, not_false_eq_true, reduceCtorEq] at h)) <;> (try cbv)))
    obtain ⟨hab, ha, hb2⟩ := ho.1 (by assumption)
    have hv1 : a ≤ v := by assumption
    have hv2 : v ≤ b := by assumption
    obtain ⟨i', ei'⟩ : ∃ x, i + 1 = x := ⟨_, rfl⟩
    have hT : L.toNat - i'.toNat < L.toNat - i.toNat := by omega
    have hS : i * 1099511627776 ≤ 1000 * 1099511627776 := by omega
    have ei : wbin .add .i64 i 1 = i' := by rw [hbin]; exact (add64 (by omega) (by omega)).trans ei'
    cases com
    · cases an
      · refine Call.stepE (by rw [← hP]; exact e_nextB _ _ _ _ _ _ _ _ _ _ _ _ _ _ _ _ _ _ _ _) rfl ?_
        cbv
        repeat' (split <;> rename_i h <;> (try (simp only [hbin, hcmp, hun, hconv, hnot, hbeq, hmm, hscmp, hsadd, hslen, hsat, heqs, hofNat, binStd, cmpStd, unStd, scmpStd, maxI, Bool.not_eq_true', Bool.not_eq_false', decide_eq_true_eq, decide_eq_false_iff_not, Int.not_lt, Int.not_le, if_true, if_false, Bool.false_eq_true, beq_iff_eq, bne_iff_ne, ne_eq, Bool.not_eq_eq_eq_not, Bool.not_true, Bool.not_false, beq_eq_false_iff_ne, bne_eq_false_iff_eq, Int.ofNat_eq_natCast, Bool.not_not, not_true_eq_false, not_false_eq_true, reduceCtorEq] at h)) <;> (try cbv))
        all_goals exact hN ⟨i', st, false, 0, 0, 0, false⟩ _ _ (by (refine Wk.eqs ?_; cbv; (repeat' (first | exact trivial | rfl | assumption | apply And.intro | (simp only [hbin, hcmp, hun, hconv, hnot, hbeq, hmm, hscmp, hsadd, hslen, hsat, heqs, hofNat, binStd, cmpStd, unStd, scmpStd, maxI, Bool.not_eq_true', Bool.not_eq_false', decide_eq_true_eq, decide_eq_false_iff_not, Int.not_lt, Int.not_le, if_true, if_false, Bool.false_eq_true, beq_iff_eq, bne_iff_ne, ne_eq, Bool.not_eq_eq_eq_not, Bool.not_true, Bool.not_false, beq_eq_false_iff_ne, bne_eq_false_iff_eq, Int.ofNat_eq_natCast, Bool.not_not, not_true_eq_false, not_false_eq_true, reduceCtorEq]; first | done | assumption) | exact RowsX.same (by assumption) (by first | assumption | rfl) | (refine RowsX.one ?_; cbv))))) (by simp [Tu.Ok]; omega) hT
      · obtain ⟨lo', el⟩ : ∃ x, lo + a = x := ⟨_, rfl⟩
        obtain ⟨hi', eh⟩ : ∃ x, hi + b = x := ⟨_, rfl⟩
        obtain ⟨mv', em'⟩ : ∃ x, mv + v = x := ⟨_, rfl⟩
        obtain ⟨on', eo⟩ : ∃ x : Bool, x = true ↔ on = true ∨ c11 < lo' ∨ hi' < -c11 := ⟨on || decide (c11 < lo') || decide (hi' < -c11), by simp [or_assoc]⟩
        have em : wbin .add .i64 mv v = mv' := by rw [hbin]; exact (add64 (by omega) (by omega)).trans em'
        obtain ⟨nv, env⟩ : ∃ x, -mv' = x := ⟨_, rfl⟩
        have en : wun .neg .i64 mv' = nv := by rw [hun]; show IntKind.i64.wrap (0 - mv') = _; rw [IntKind.wrap_i64]; omega
        obtain ⟨wd, ewd⟩ : ∃ x, hi' - lo' = x := ⟨_, rfl⟩
        obtain ⟨sz, esz, hsz⟩ : ∃ x, wmm true mv' nv = x ∧ (x = mv' ∧ nv ≤ mv' ∨ x = nv ∧ mv' ≤ nv) := ⟨_, rfl, by rw [hmm]; unfold maxI; simp only [if_true]; split <;> omega⟩
        refine Call.stepE (by rw [← hP]; exact e_nextC _ _ _ _ _ _ _ _ _ _ _ _ _ _ _ _ _ _ _ _ on' lo' hi' el eh eo r0 r1 hlh hab (by unfold InR; omega) (by unfold InR; omega)) rfl ?_
        cbv
        repeat' (split <;> rename_i h <;> (try (simp only [em, en, esz] at h)) <;> (try (simp only [hbin, hcmp, hun, hconv, hnot, hbeq, hmm, hscmp, hsadd, hslen, hsat, heqs, hofNat, binStd, cmpStd, unStd, scmpStd, maxI, Bool.not_eq_true', Bool.not_eq_false', decide_eq_true_eq, decide_eq_false_iff_not, Int.not_lt, Int.not_le, if_true, if_false, Bool.false_eq_true, beq_iff_eq, bne_iff_ne, ne_eq, Bool.not_eq_eq_eq_not, Bool.not_true, Bool.not_false, beq_eq_false_iff_ne, bne_eq_false_iff_eq, Int.ofNat_eq_natCast, Bool.not_not, not_true_eq_false, not_false_eq_true, reduceCtorEq] at h)) <;> (try cbv))
        all_goals simp only [em, en, esz]
        all_goals (refine QCal.stepE (by rw [← hP]; exact e_hasT _ _ _ (by omega) (by omega)) rfl ?_; cbv)
        all_goals repeat' (first | (refine QCal.stepE (by rw [← hP]; exact e_width _ _ wd ewd (by omega) (by omega) (by omega)) rfl ?_; cbv) | (split <;> rename_i h <;> (try (simp only [em, en, esz] at h)) <;> (try (simp only [hbin, hcmp, hun, hconv, hnot, hbeq, hmm, hscmp, hsadd, hslen, hsat, heqs, hofNat, binStd, cmpStd, unStd, scmpStd, maxI, Bool.not_eq_true', Bool.not_eq_false', decide_eq_true_eq, decide_eq_false_iff_not, Int.not_lt, Int.not_le, if_true, if_false, Bool.false_eq_true, beq_iff_eq, bne_iff_ne, ne_eq, Bool.not_eq_eq_eq_not, Bool.not_true, Bool.not_false, beq_eq_false_iff_ne, bne_eq_false_iff_eq, Int.ofNat_eq_natCast, Bool.not_not, not_true_eq_false, not_false_eq_true, reduceCtorEq] at h)) <;> (try cbv)))
        all_goals first
          | (refine hN ⟨i', true, true, lo', hi', mv', true⟩ _ _ ?hx ?hi ?ht; (case hx => (refine Wk.eqs ?_; cbv; (repeat' (first | exact trivial | rfl | assumption | apply And.intro | (simp only [hbin, hcmp, hun, hconv, hnot, hbeq, hmm, hscmp, hsadd, hslen, hsat, heqs, hofNat, binStd, cmpStd, unStd, scmpStd, maxI, Bool.not_eq_true', Bool.not_eq_false', decide_eq_true_eq, decide_eq_false_iff_not, Int.not_lt, Int.not_le, if_true, if_false, Bool.false_eq_true, beq_iff_eq, bne_iff_ne, ne_eq, Bool.not_eq_eq_eq_not, Bool.not_true, Bool.not_false, beq_eq_false_iff_ne, bne_eq_false_iff_eq, Int.ofNat_eq_natCast, Bool.not_not, not_true_eq_false, not_false_eq_true, reduceCtorEq]; first | done | assumption) | exact RowsX.same (by assumption) (by first | assumption | rfl) | (refine RowsX.one ?_; cbv))))); (case hi => (simp [Tu.Ok]; omega)); (case ht => exact hT))
          | (refine hN ⟨i', true, false, lo', hi', mv', true⟩ _ _ ?hx ?hi ?ht; (case hx => (refine Wk.eqs ?_; cbv; (repeat' (first | exact trivial | rfl | assumption | apply And.intro | (simp only [hbin, hcmp, hun, hconv, hnot, hbeq, hmm, hscmp, hsadd, hslen, hsat, heqs, hofNat, binStd, cmpStd, unStd, scmpStd, maxI, Bool.not_eq_true', Bool.not_eq_false', decide_eq_true_eq, decide_eq_false_iff_not, Int.not_lt, Int.not_le, if_true, if_false, Bool.false_eq_true, beq_iff_eq, bne_iff_ne, ne_eq, Bool.not_eq_eq_eq_not, Bool.not_true, Bool.not_false, beq_eq_false_iff_ne, bne_eq_false_iff_eq, Int.ofNat_eq_natCast, Bool.not_not, not_true_eq_false, not_false_eq_true, reduceCtorEq]; first | done | assumption) | exact RowsX.same (by assumption) (by first | assumption | rfl) | (refine RowsX.one ?_; cbv))))); (case hi => (simp [Tu.Ok]; omega)); (case ht => exact hT))
          | (refine hN ⟨i', true, false, lo', hi', mv', false⟩ _ _ ?hx ?hi ?ht; (case hx => (refine Wk.eqs ?_; cbv; (repeat' (first | exact trivial | rfl | assumption | apply And.intro | (simp only [hbin, hcmp, hun, hconv, hnot, hbeq, hmm, hscmp, hsadd, hslen, hsat, heqs, hofNat, binStd, cmpStd, unStd, scmpStd, maxI, Bool.not_eq_true', Bool.not_eq_false', decide_eq_true_eq, decide_eq_false_iff_not, Int.not_lt, Int.not_le, if_true, if_false, Bool.false_eq_true, beq_iff_eq, bne_iff_ne, ne_eq, Bool.not_eq_eq_eq_not, Bool.not_true, Bool.not_false, beq_eq_false_iff_ne, bne_eq_false_iff_eq, Int.ofNat_eq_natCast, Bool.not_not, not_true_eq_false, not_false_eq_true, reduceCtorEq]; first | done | assumption) | exact RowsX.same (by assumption) (by first | assumption | rfl) | (refine RowsX.one ?_; cbv))))); (case hi => (simp [Tu.Ok]; omega)); (case ht => exact hT))
          | (exfalso
             have hz : IntKind.u64.wrap (IntKind.u64.wrap sz - IntKind.u64.wrap c11) = sz - c11 := by rw [IntKind.wrap_u64, IntKind.wrap_u64, IntKind.wrap_u64]; omega
             rw [hz] at h
             have k1 : ¬ c11 < lo' := fun k => absurd (eo.2 (.inr (.inl k))) (by decide)
             have k2 : ¬ hi' < -c11 := fun k => absurd (eo.2 (.inr (.inr k))) (by decide)
             omega)
          | (exfalso
             rcases eo.1 rfl with k | k | k
             · exact absurd (hof k) (by decide)
             · omega
             · omega)
    · refine Call.stepE (by rw [← hP]; exact e_nextA _ _ _ _ _ _ _ _ _ _ _ _ _ _ _ _ _ _ _ _ _) rfl ?_
      cbv
      repeat' (split <;> rename_i h <;> (try (simp only [hbin, hcmp, hun, hconv, hnot, hbeq, hmm, hscmp, hsadd, hslen, hsat, heqs, hofNat, binStd, cmpStd, unStd, scmpStd, maxI, Bool.not_eq_true', Bool.not_eq_false', decide_eq_true_eq, decide_eq_false_iff_not, Int.not_lt, Int.not_le, if_true, if_false, Bool.false_eq_true, beq_iff_eq, bne_iff_ne, ne_eq, Bool.not_eq_eq_eq_not, Bool.not_true, Bool.not_false, beq_eq_false_iff_ne, bne_eq_false_iff_eq, Int.ofNat_eq_natCast, Bool.not_not, not_true_eq_false, not_false_eq_true, reduceCtorEq] at h)) <;> (try cbv))
      exact hN ⟨i', false, false, 0, 0, 0, false⟩ _ _ (by (refine Wk.eqs ?_; cbv; (repeat' (first | exact trivial | rfl | assumption | apply And.intro | (simp only [hbin, hcmp, hun, hconv, hnot, hbeq, hmm, hscmp, hsadd, hslen, hsat, heqs, hofNat, binStd, cmpStd, unStd, scmpStd, maxI, Bool.not_eq_true', Bool.not_eq_false', decide_eq_true_eq, decide_eq_false_iff_not, Int.not_lt, Int.not_le, if_true, if_false, Bool.false_eq_true, beq_iff_eq, bne_iff_ne, ne_eq, Bool.not_eq_eq_eq_not, Bool.not_true, Bool.not_false, beq_eq_false_iff_ne, bne_eq_false_iff_eq, Int.ofNat_eq_natCast, Bool.not_not, not_true_eq_false, not_false_eq_true, reduceCtorEq]; first | done | assumption) | exact RowsX.same (by assumption) (by first | assumption | rfl) | (refine RowsX.one ?_; cbv))))) (by simp [Tu.Ok]; omega) hT
  · refine hE _ _ _ ?_
    cbv
    exact ⟨_, Vw.same rfl, hR _ rfl⟩
end Go.Proofs.Ytkkjdodolnpfmaa
