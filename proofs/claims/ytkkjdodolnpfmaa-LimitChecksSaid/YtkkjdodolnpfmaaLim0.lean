/- Limits and spots as the document has them, by the engine. -/
import Derived.Test.YtkkjdodolnpfmaaNums
import Derived.Test.YtkkjdodolnpfmaaEng31
import Derived.Test.YtkkjdodolnpfmaaEng28
import Derived.Test.YtkkjdodolnpfmaaBuild0
import Derived.KernelRfl
set_option linter.unusedVariables false
set_option linter.unusedSimpArgs false
namespace Go.Proofs.Ytkkjdodolnpfmaa
open Go Go.RowKit Go.Eng
set_option maxRecDepth 100000
/-- A limit. -/
structure Li where
  s : Int
  a : Int
  b : Int
  v : Int
def liRow (l : Li) : List AV := [.int .i64 l.s, .int .i64 l.a, .int .i64 l.b, .int .i64 l.v]
theorem e_limits (ls : List Li) (es : List (List AV)) (hes : es = ls.map liRow) (hmax : ls.length ≤ 1000) : PCalls Try.prog 16 [.list 4 es] (· = .list 4 es) := by
  have hu : Up0 es := by rw [hes]; exact up_map (fun d => rfl) ls
  have hel : es.length = ls.length := by rw [hes]; simp
  (refine PCalls.ofY Try.func16 (by kernel_rfl) (by kernel_rfl) fun w hw R hR => ?_); (obtain ⟨wbin, wcmp, wun, wconv, wnot, wbeq, wmm, wscmp, wsadd, wslen, wsat, weqs, wlen, wnlen, wofNat, wtake, wdrop, wapp, wzero, wnat⟩ := w); (have hbin : wbin = binStd := congrArg Prims.bin hw); (have hcmp : wcmp = cmpStd := congrArg Prims.cmp hw); (have hun : wun = unStd := congrArg Prims.un hw); (have hconv : wconv = fun k n => k.wrap n := congrArg Prims.conv hw); (have hnot : wnot = fun b => !b := congrArg Prims.not hw); (have hbeq : wbeq = fun a b => a == b := congrArg Prims.beq hw); (have hmm : wmm = maxI := congrArg Prims.mm hw); (have hscmp : wscmp = scmpStd := congrArg Prims.scmp hw); (have hsadd : wsadd = fun x y => x ++ y := congrArg Prims.sadd hw); (have hslen : wslen = fun s => (s.size : Int) := congrArg Prims.slen hw); (have hsat : wsat = std.sat := congrArg Prims.sat hw); (have heqs : weqs = fun a b os => (eqOffs a b os).getD false := congrArg Prims.eqs hw); (have hlen : wlen = fun es => (es.length : Int) := congrArg Prims.len hw); (have hnlen : wnlen = fun es => es.length := congrArg Prims.nlen hw); (have hofNat : wofNat = (fun n : Nat => (n : Int)) := congrArg Prims.ofNat hw); (have htake : wtake = fun es b => es.take b.toNat := congrArg Prims.take hw); (have hdrop : wdrop = fun es a => es.drop a.toNat := congrArg Prims.drop hw); (have happ : wapp = fun a b => a ++ b := congrArg Prims.app hw); (have hzero : wzero = fun n z => List.replicate n.toNat z := congrArg Prims.zero hw); (have hnat : wnat = fun n => n.toNat := congrArg Prims.nat hw); (conv => arg 2; cbv); (generalize hP : Try.prog = P); cbv
  (obtain ⟨L, eL, L0, Ln⟩ : ∃ L : Int, wlen es = L ∧ 0 ≤ L ∧ L.toNat = es.length := ⟨(es.length : Int), by rw [hlen], Int.natCast_nonneg _, Int.toNat_natCast _⟩)
  refine Loop.data hw (S := Bd) (fun s => match s with | .start => fr 18 [(3, .nils), (6, .list 4 es), (7, .int .i64 L), (8, .int .i64 0)] | .more i n fs => fr 18 [(3, .sl 0 4 0 n), (6, .list 4 es), (7, .int .i64 L), (8, .int .i64 i)])
    (fun s => match s with | .start => [] | .more i n fs => [.live 4 fs]) (Bd.Ok es) (Bd.left es) .start (by (refine Wk.eqz (id) (by first | exact fun i _ j _ e => e | (simp only [List.length_cons, List.length_nil]; decide)) ?_; cbv; (repeat' (first | exact trivial | rfl | assumption | apply And.intro | (simp only [hbin, hcmp, hun, hconv, hnot, hbeq, hmm, hscmp, hsadd, hslen, hsat, heqs, hofNat, binStd, cmpStd, unStd, scmpStd, maxI, Bool.not_eq_true', Bool.not_eq_false', decide_eq_true_eq, decide_eq_false_iff_not, Int.not_lt, Int.not_le, if_true, if_false, Bool.false_eq_true, beq_iff_eq, bne_iff_ne, ne_eq, Bool.not_eq_eq_eq_not, Bool.not_true, Bool.not_false, beq_eq_false_iff_ne, bne_eq_false_iff_eq, Int.ofNat_eq_natCast, Bool.not_not, not_true_eq_false, not_false_eq_true, reduceCtorEq]; first | done | assumption) | exact RowsZ.same (by assumption) (by first | assumption | rfl) | exact FzL.mk rfl rfl rfl (by assumption) (by first | assumption | rfl) (by decide) | (refine RowsZ.one ?_; cbv))))) trivial ?_
  rintro (_ | ⟨i, n, fs⟩) hinv Q' hN hE hR'
  · cbv
    (split <;> rename_i hc <;> (try (simp only [hbin, hcmp, hun, hconv, hnot, hbeq, hmm, hscmp, hsadd, hslen, hsat, heqs, hofNat, binStd, cmpStd, unStd, scmpStd, maxI, Bool.not_eq_true', Bool.not_eq_false', decide_eq_true_eq, decide_eq_false_iff_not, Int.not_lt, Int.not_le, if_true, if_false, Bool.false_eq_true, beq_iff_eq, bne_iff_ne, ne_eq, Bool.not_eq_eq_eq_not, Bool.not_true, Bool.not_false, beq_eq_false_iff_ne, bne_eq_false_iff_eq, Int.ofNat_eq_natCast, Bool.not_not, not_true_eq_false, not_false_eq_true, reduceCtorEq] at hc)) <;> (try cbv))
    · obtain ⟨⟨s, a, b, v⟩, hd, hrow⟩ := get_map (f := liRow) (ds := ls) (i := 0) (Int.le_refl 0) (by omega)
      refine Idx.mk [.int .i64 s, .int .i64 a, .int .i64 b, .int .i64 v] (by decide) (by rw [hes]; exact hrow) ?_
      cbv
      refine Ob.mk (by decide) ?_
      have ei : wbin .add .i64 0 1 = 1 := by rw [hbin]; rfl
      have hT : Bd.left es (.more 1 1 [[.int .i64 s, .int .i64 a, .int .i64 b, .int .i64 v]]) < Bd.left es .start := by simp only [Bd.left]; omega
      have hI : Bd.Ok es (.more 1 1 [[.int .i64 s, .int .i64 a, .int .i64 b, .int .i64 v]]) := by
        have h1 : es[(0 : Int).toNat]? = some [.int .i64 s, .int .i64 a, .int .i64 b, .int .i64 v] := by rw [hes]; exact hrow
        exact ⟨by decide, by omega, (take_row (Int.le_refl 0) h1).symm, rfl, ⟨rfl⟩⟩
      have hU : Up0 [[AV.int .i64 s, .int .i64 a, .int .i64 b, .int .i64 v]] := ⟨rfl⟩
      (refine hN (Bd.more 1 1 [[.int .i64 s, .int .i64 a, .int .i64 b, .int .i64 v]]) _ _ ?hx ?hi ?ht; (case hx => (refine Wk.eqz (fun _ => 1) (by first | exact fun i _ j _ e => e | (simp only [List.length_cons, List.length_nil]; decide)) ?_; cbv; (repeat' (first | exact trivial | rfl | assumption | apply And.intro | (simp only [hbin, hcmp, hun, hconv, hnot, hbeq, hmm, hscmp, hsadd, hslen, hsat, heqs, hofNat, binStd, cmpStd, unStd, scmpStd, maxI, Bool.not_eq_true', Bool.not_eq_false', decide_eq_true_eq, decide_eq_false_iff_not, Int.not_lt, Int.not_le, if_true, if_false, Bool.false_eq_true, beq_iff_eq, bne_iff_ne, ne_eq, Bool.not_eq_eq_eq_not, Bool.not_true, Bool.not_false, beq_eq_false_iff_ne, bne_eq_false_iff_eq, Int.ofNat_eq_natCast, Bool.not_not, not_true_eq_false, not_false_eq_true, reduceCtorEq]; first | done | assumption) | exact RowsZ.same (by assumption) (by first | assumption | rfl) | exact FzL.mk rfl rfl rfl (by assumption) (by first | assumption | rfl) (by decide) | (refine RowsZ.one ?_; cbv))))); (case hi => exact hI); (case ht => exact hT))
    · refine hE _ _ _ ?_
      cbv
      have : es = [] := List.length_eq_zero_iff.1 (by omega)
      exact ⟨_, Vw.nil 4, hR _ (by rw [this])⟩
  · cbv
    obtain ⟨hi0, hi1, hfs, hnf, huf⟩ : 0 < i ∧ i.toNat ≤ es.length ∧ fs = es.take i.toNat ∧ n = fs.length ∧ Up0 fs := hinv
    (split <;> rename_i hc <;> (try (simp only [hbin, hcmp, hun, hconv, hnot, hbeq, hmm, hscmp, hsadd, hslen, hsat, heqs, hofNat, binStd, cmpStd, unStd, scmpStd, maxI, Bool.not_eq_true', Bool.not_eq_false', decide_eq_true_eq, decide_eq_false_iff_not, Int.not_lt, Int.not_le, if_true, if_false, Bool.false_eq_true, beq_iff_eq, bne_iff_ne, ne_eq, Bool.not_eq_eq_eq_not, Bool.not_true, Bool.not_false, beq_eq_false_iff_ne, bne_eq_false_iff_eq, Int.ofNat_eq_natCast, Bool.not_not, not_true_eq_false, not_false_eq_true, reduceCtorEq] at hc)) <;> (try cbv))
    · obtain ⟨⟨s, a, b, v⟩, hd, hrow⟩ := get_map (f := liRow) (ds := ls) (i := i) (by omega) (by omega)
      have hrow : es[i.toNat]? = some [.int .i64 s, .int .i64 a, .int .i64 b, .int .i64 v] := by rw [hes]; exact hrow
      refine Idx.mk [.int .i64 s, .int .i64 a, .int .i64 b, .int .i64 v] (by omega) hrow ?_
      cbv
      obtain ⟨i', ei'⟩ : ∃ x, i + 1 = x := ⟨_, rfl⟩
      have ei : wbin .add .i64 i 1 = i' := by rw [hbin, i_add (by omega) (by omega)]; exact ei'
      obtain ⟨fs', efs⟩ : ∃ x, fs ++ [[AV.int .i64 s, .int .i64 a, .int .i64 b, .int .i64 v]] = x := ⟨_, rfl⟩
      have hfl : fs'.length = n + 1 := by rw [← efs, hnf]; simp
      have hft : fs' = es.take i'.toNat := by rw [← efs, ← ei', take_row (by omega) hrow, hfs]
      have huf' : Up0 fs' := by rw [hft]; exact up_take hu _
      obtain ⟨n', en'⟩ : ∃ x, n + 1 = x := ⟨_, rfl⟩
      have hnl : n = i.toNat := by rw [hnf, hfs, List.length_take]; omega
      refine App.mk fs' n' efs.symm hnf en'.symm (by omega) (by omega) ?_
      have hT : Bd.left es (.more i' n' fs') < Bd.left es (.more i n fs) := by simp only [Bd.left]; omega
      have hI : Bd.Ok es (.more i' n' fs') := ⟨by omega, by omega, hft, by omega, huf'⟩
      cbv
      (refine hN (Bd.more i' n' fs') _ _ ?hx ?hi ?ht; (case hx => (refine Wk.eqz (fun _ => 2) (by first | exact fun i _ j _ e => e | (simp only [List.length_cons, List.length_nil]; decide)) ?_; cbv; (repeat' (first | exact trivial | rfl | assumption | apply And.intro | (simp only [hbin, hcmp, hun, hconv, hnot, hbeq, hmm, hscmp, hsadd, hslen, hsat, heqs, hofNat, binStd, cmpStd, unStd, scmpStd, maxI, Bool.not_eq_true', Bool.not_eq_false', decide_eq_true_eq, decide_eq_false_iff_not, Int.not_lt, Int.not_le, if_true, if_false, Bool.false_eq_true, beq_iff_eq, bne_iff_ne, ne_eq, Bool.not_eq_eq_eq_not, Bool.not_true, Bool.not_false, beq_eq_false_iff_ne, bne_eq_false_iff_eq, Int.ofNat_eq_natCast, Bool.not_not, not_true_eq_false, not_false_eq_true, reduceCtorEq]; first | done | assumption) | exact RowsZ.same (by assumption) (by first | assumption | rfl) | exact FzL.mk rfl rfl rfl (by assumption) (by first | assumption | rfl) (by decide) | (refine RowsZ.one ?_; cbv))))); (case hi => exact hI); (case ht => exact hT))
    · refine hE _ _ _ ?_
      cbv
      refine ⟨_, Vw.sl rfl huf.get (by omega), hR _ ?_⟩
      rw [List.drop_zero, List.take_of_length_le (by omega), hfs, List.take_of_length_le (by omega)]
end Go.Proofs.Ytkkjdodolnpfmaa
