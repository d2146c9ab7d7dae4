/- Texts of the proof of LinkPassages, joined by wip/tools/pack.py. -/
import Derived.Test.YtpiocfmdjgbamaaRouteGrowsP1
import Derived.KernelRfl
import Derived.Handy
import Derived.IntWalk
import Derived.Test.YtpiocfmdjgbamaaEng33
import Derived.Test.YtpiocfmdjgbamaaEng28
/- A track as the document has it, by the engine. Printed by wip/tools/genrefs.py. -/
set_option linter.unusedVariables false
set_option linter.unusedSimpArgs false
namespace Go.Proofs.Ytpiocfmdjgbamaa
open Go Go.RowKit Go.Eng
set_option maxRecDepth 100000
set_option maxHeartbeats 4000000 in
theorem e_refsT20 (ss : List Sg) (gs : List Gr) (es ds : List (List AV)) (hes : es = ss.map sgRow) (hds : ds = gs.map grRow) (hm1 : ss.length ≤ 1000) (hm2 : gs.length ≤ 1000) (hm3 : ∀ s, s ∈ ss → s.ps.length ≤ 1000) : PCalls Try.prog 46 [.agg [.list 3 es, .list 5 ds]] (· = .agg [.list 3 es, .list 5 ds]) := by
  have hu : Up0 es := by rw [hes]; exact up_sg ss
  have hud : Up0 ds := by rw [hds]; exact up_gr gs
  have hel : es.length = ss.length := by rw [hes]; simp
  have hdl : ds.length = gs.length := by rw [hds]; simp
  (refine PCalls.ofY Try.func46 (by kernel_rfl) (by kernel_rfl) fun w hw R hR => ?_); (obtain ⟨wbin, wcmp, wun, wconv, wnot, wbeq, wmm, wscmp, wsadd, wslen, wsat, weqs, wlen, wnlen, wofNat, wtake, wdrop, wapp, wzero, wnat⟩ := w); (have hbin : wbin = binStd := congrArg Prims.bin hw); (have hcmp : wcmp = cmpStd := congrArg Prims.cmp hw); (have hun : wun = unStd := congrArg Prims.un hw); (have hconv : wconv = fun k n => k.wrap n := congrArg Prims.conv hw); (have hnot : wnot = fun b => !b := congrArg Prims.not hw); (have hbeq : wbeq = fun a b => a == b := congrArg Prims.beq hw); (have hmm : wmm = maxI := congrArg Prims.mm hw); (have hscmp : wscmp = scmpStd := congrArg Prims.scmp hw); (have hsadd : wsadd = fun x y => x ++ y := congrArg Prims.sadd hw); (have hslen : wslen = fun s => (s.size : Int) := congrArg Prims.slen hw); (have hsat : wsat = std.sat := congrArg Prims.sat hw); (have heqs : weqs = fun a b os => (eqOffs a b os).getD false := congrArg Prims.eqs hw); (have hlen : wlen = fun es => (es.length : Int) := congrArg Prims.len hw); (have hnlen : wnlen = fun es => es.length := congrArg Prims.nlen hw); (have hofNat : wofNat = (fun n : Nat => (n : Int)) := congrArg Prims.ofNat hw); (have htake : wtake = fun es b => es.take b.toNat := congrArg Prims.take hw); (have hdrop : wdrop = fun es a => es.drop a.toNat := congrArg Prims.drop hw); (have happ : wapp = fun a b => a ++ b := congrArg Prims.app hw); (have hzero : wzero = fun n z => List.replicate n.toNat z := congrArg Prims.zero hw); (have hnat : wnat = fun n => n.toNat := congrArg Prims.nat hw); (conv => arg 2; cbv); (generalize hP : Try.prog = P); cbv
  (obtain ⟨L, eL, L0, Ln⟩ : ∃ L : Int, wlen es = L ∧ 0 ≤ L ∧ L.toNat = es.length := ⟨(es.length : Int), by rw [hlen], Int.natCast_nonneg _, Int.toNat_natCast _⟩)
  refine Loop.data hw (S := Bd) (fun s => match s with | .start => fr 63 [(1, .ref 0 2 0 0), (2, .ref 1 2 0 0), (3, .ref 2 2 0 0), (12, .list 3 es), (13, .int .i64 L), (14, .int .i64 0)] | .more i n fs => fr 63 [(1, .ref 0 2 0 0), (2, .ref 1 2 0 0), (3, .ref 2 2 0 0), (12, .list 3 es), (13, .int .i64 L), (14, .int .i64 i)])
    (fun s => match s with | .start => [.live 2 [[.list 3 es, .list 5 ds]], .live 2 [[.nils, .nils]], .live 2 [[.nils, .nils]]] | .more i n fs => [.live 2 [[.list 3 es, .list 5 ds]], .live 2 [[.nils, .nils]], .live 2 [[.sl 3 3 0 n, .nils]], .live 3 fs]) (Bd.Ok es) (Bd.left es) .start (by (refine Wk.eqz (id) (by first | exact fun i _ j _ e => e | (simp only [List.length_cons, List.length_nil]; decide)) ?_; cbv; (repeat' (first | exact trivial | rfl | assumption | apply And.intro | (simp only [hbin, hcmp, hun, hconv, hnot, hbeq, hmm, hscmp, hsadd, hslen, hsat, heqs, hofNat, binStd, cmpStd, unStd, scmpStd, maxI, Bool.not_eq_true', Bool.not_eq_false', decide_eq_true_eq, decide_eq_false_iff_not, Int.not_lt, Int.not_le, if_true, if_false, Bool.false_eq_true, beq_iff_eq, bne_iff_ne, ne_eq, Bool.not_eq_eq_eq_not, Bool.not_true, Bool.not_false, beq_eq_false_iff_ne, bne_eq_false_iff_eq, Int.ofNat_eq_natCast, Bool.not_not, not_true_eq_false, not_false_eq_true, reduceCtorEq]; first | done | assumption) | exact RowsZ.same (by assumption) (by first | assumption | rfl) | exact FzL.mk rfl rfl rfl (by assumption) (by first | assumption | rfl) (by decide) | (refine RowsZ.one ?_; cbv))))) trivial ?_
  rintro (_ | ⟨i, n, fs⟩) hinv Q' hN hE hR'
  · cbv
    (split <;> rename_i hc <;> (try (simp only [hbin, hcmp, hun, hconv, hnot, hbeq, hmm, hscmp, hsadd, hslen, hsat, heqs, hofNat, binStd, cmpStd, unStd, scmpStd, maxI, Bool.not_eq_true', Bool.not_eq_false', decide_eq_true_eq, decide_eq_false_iff_not, Int.not_lt, Int.not_le, if_true, if_false, Bool.false_eq_true, beq_iff_eq, bne_iff_ne, ne_eq, Bool.not_eq_eq_eq_not, Bool.not_true, Bool.not_false, beq_eq_false_iff_ne, bne_eq_false_iff_eq, Int.ofNat_eq_natCast, Bool.not_not, not_true_eq_false, not_false_eq_true, reduceCtorEq] at hc)) <;> (try cbv))
    · obtain ⟨⟨len, ps, nx⟩, hd, hrow⟩ := get_map (f := sgRow) (ds := ss) (i := 0) (Int.le_refl 0) (by omega)
      obtain ⟨q1, eq1⟩ : ∃ x, ps.map pcRow = x := ⟨_, rfl⟩
      obtain ⟨n1, en1⟩ : ∃ x, nx.map nxRow = x := ⟨_, rfl⟩
      have hrow : es[(0 : Int).toNat]? = some [.int .i64 len, .list 2 q1, .list 1 n1] := by rw [hes, ← eq1, ← en1]; exact hrow
      have hql : q1.length = ps.length := by rw [← eq1]; simp
      have hpl : ps.length ≤ 1000 := hm3 ⟨len, ps, nx⟩ (List.mem_of_getElem? hd)
      have huq : Up0 q1 := by rw [← eq1]; exact up_pc ps
      have hun : Up0 n1 := by rw [← en1]; exact up_nx nx
      refine Idx.mk [.int .i64 len, .list 2 q1, .list 1 n1] (by decide) hrow ?_
      cbv
      have ei : wbin .add .i64 0 1 = 1 := by rw [hbin]; rfl
      have hT1 : Bd.left es (.more 1 1 [[.int .i64 len, .list 2 q1, .list 1 n1]]) < Bd.left es .start := by simp only [Bd.left]; omega
      have hI1 : Bd.Ok es (.more 1 1 [[.int .i64 len, .list 2 q1, .list 1 n1]]) := ⟨by decide, by omega, (take_row (Int.le_refl 0) hrow).symm, rfl, up_seg huq hun⟩
      (obtain ⟨K, eK, K0, Kn⟩ : ∃ L : Int, wlen q1 = L ∧ 0 ≤ L ∧ L.toNat = q1.length := ⟨(q1.length : Int), by rw [hlen], Int.natCast_nonneg _, Int.toNat_natCast _⟩)
      refine Loop.data hw (S := Bd) (fun s => match s with | .start => fr 63 [(1, .ref 0 2 0 0), (2, .ref 1 2 0 0), (3, .ref 2 2 0 0), (12, .list 3 es), (13, .int .i64 L), (14, .int .i64 0), (5, .ref 3 3 0 0), (6, .ref 4 3 0 0), (24, .list 2 q1), (25, .int .i64 K), (26, .int .i64 0)] | .more k m fp => fr 63 [(1, .ref 0 2 0 0), (2, .ref 1 2 0 0), (3, .ref 2 2 0 0), (12, .list 3 es), (13, .int .i64 L), (14, .int .i64 0), (5, .ref 3 3 0 0), (6, .ref 4 3 0 0), (24, .list 2 q1), (25, .int .i64 K), (26, .int .i64 k)])
        (fun s => match s with | .start => [.live 2 [[.list 3 es, .list 5 ds]], .live 2 [[.nils, .nils]], .live 2 [[.nils, .nils]], .live 3 [[.int .i64 len, .list 2 q1, .list 1 n1]], .live 3 [[.int .i64 len, .nils, .list 1 n1]]] | .more k m fp => [.live 2 [[.list 3 es, .list 5 ds]], .live 2 [[.nils, .nils]], .live 2 [[.nils, .nils]], .live 3 [[.int .i64 len, .list 2 q1, .list 1 n1]], .live 3 [[.int .i64 len, .sl 5 2 0 m, .list 1 n1]], .live 2 fp]) (Bd.Ok q1) (Bd.left q1) .start (by (refine Wk.eqz (id) (by first | exact fun i _ j _ e => e | (simp only [List.length_cons, List.length_nil]; decide)) ?_; cbv; (repeat' (first | exact trivial | rfl | assumption | apply And.intro | (simp only [hbin, hcmp, hun, hconv, hnot, hbeq, hmm, hscmp, hsadd, hslen, hsat, heqs, hofNat, binStd, cmpStd, unStd, scmpStd, maxI, Bool.not_eq_true', Bool.not_eq_false', decide_eq_true_eq, decide_eq_false_iff_not, Int.not_lt, Int.not_le, if_true, if_false, Bool.false_eq_true, beq_iff_eq, bne_iff_ne, ne_eq, Bool.not_eq_eq_eq_not, Bool.not_true, Bool.not_false, beq_eq_false_iff_ne, bne_eq_false_iff_eq, Int.ofNat_eq_natCast, Bool.not_not, not_true_eq_false, not_false_eq_true, reduceCtorEq]; first | done | assumption) | exact RowsZ.same (by assumption) (by first | assumption | rfl) | exact FzL.mk rfl rfl rfl (by assumption) (by first | assumption | rfl) (by decide) | (refine RowsZ.one ?_; cbv))))) trivial ?_
      rintro (_ | ⟨k, m, fp⟩) hinv2 Q2 hN2 hE2 hR2
      · cbv
        (split <;> rename_i hc2 <;> (try (simp only [hbin, hcmp, hun, hconv, hnot, hbeq, hmm, hscmp, hsadd, hslen, hsat, heqs, hofNat, binStd, cmpStd, unStd, scmpStd, maxI, Bool.not_eq_true', Bool.not_eq_false', decide_eq_true_eq, decide_eq_false_iff_not, Int.not_lt, Int.not_le, if_true, if_false, Bool.false_eq_true, beq_iff_eq, bne_iff_ne, ne_eq, Bool.not_eq_eq_eq_not, Bool.not_true, Bool.not_false, beq_eq_false_iff_ne, bne_eq_false_iff_eq, Int.ofNat_eq_natCast, Bool.not_not, not_true_eq_false, not_false_eq_true, reduceCtorEq] at hc2)) <;> (try cbv))
        · obtain ⟨⟨a, b⟩, hd2, hrow2⟩ := get_map (f := pcRow) (ds := ps) (i := 0) (Int.le_refl 0) (by omega)
          have hrow2 : q1[(0 : Int).toNat]? = some [.int .i64 a, .int .i64 b] := by rw [← eq1]; exact hrow2
          refine Idx.mk [.int .i64 a, .int .i64 b] (by decide) hrow2 ?_
          cbv
          refine Ob.mk (by decide) ?_
          cbv
          have hU2 : Up0 [[AV.int .i64 a, .int .i64 b]] := ⟨rfl⟩
          have ei2 : wbin .add .i64 0 1 = 1 := by rw [hbin]; rfl
          refine hN2 (Bd.more 1 1 [[.int .i64 a, .int .i64 b]]) _ _ ?hx ?hi ?ht
          case hx => (refine Wk.eqz (fun j => [0, 1, 2, 3, 4, 6].getD j 0) (by first | exact fun i _ j _ e => e | (simp only [List.length_cons, List.length_nil]; decide)) ?_; cbv; (repeat' (first | exact trivial | rfl | assumption | apply And.intro | (simp only [hbin, hcmp, hun, hconv, hnot, hbeq, hmm, hscmp, hsadd, hslen, hsat, heqs, hofNat, binStd, cmpStd, unStd, scmpStd, maxI, Bool.not_eq_true', Bool.not_eq_false', decide_eq_true_eq, decide_eq_false_iff_not, Int.not_lt, Int.not_le, if_true, if_false, Bool.false_eq_true, beq_iff_eq, bne_iff_ne, ne_eq, Bool.not_eq_eq_eq_not, Bool.not_true, Bool.not_false, beq_eq_false_iff_ne, bne_eq_false_iff_eq, Int.ofNat_eq_natCast, Bool.not_not, not_true_eq_false, not_false_eq_true, reduceCtorEq]; first | done | assumption) | exact RowsZ.same (by assumption) (by first | assumption | rfl) | exact FzL.mk rfl rfl rfl (by assumption) (by first | assumption | rfl) (by decide) | (refine RowsZ.one ?_; cbv))))
          case hi => exact ⟨by decide, by omega, (take_row (Int.le_refl 0) hrow2).symm, rfl, hU2⟩
          case ht => simp only [Bd.left]; omega
        · refine hE2 _ _ _ ?_
          cbv
          have hq0 : q1 = [] := List.length_eq_zero_iff.1 (by omega)
          refine Ob.mk (by decide) ?_
          cbv
          refine hN (Bd.more 1 1 [[.int .i64 len, .list 2 q1, .list 1 n1]]) _ _ ?hx ?hi ?ht
          case hx => (refine Wk.eqz (fun j => [0, 1, 2, 5].getD j 0) (by first | exact fun i _ j _ e => e | (simp only [List.length_cons, List.length_nil]; decide)) ?_; cbv; (repeat' (first | exact trivial | rfl | assumption | exact Eq.symm (by assumption) | apply And.intro | (simp only [hbin, hcmp, hun, hconv, hnot, hbeq, hmm, hscmp, hsadd, hslen, hsat, heqs, hofNat, binStd, cmpStd, unStd, scmpStd, maxI, Bool.not_eq_true', Bool.not_eq_false', decide_eq_true_eq, decide_eq_false_iff_not, Int.not_lt, Int.not_le, if_true, if_false, Bool.false_eq_true, beq_iff_eq, bne_iff_ne, ne_eq, Bool.not_eq_eq_eq_not, Bool.not_true, Bool.not_false, beq_eq_false_iff_ne, bne_eq_false_iff_eq, Int.ofNat_eq_natCast, Bool.not_not, not_true_eq_false, not_false_eq_true, reduceCtorEq]; first | done | assumption) | exact RowsZ.same (by assumption) (by first | assumption | rfl) | exact FzL.mk rfl rfl rfl (by assumption) (by first | assumption | rfl) (by decide) | (refine RowsZ.one ?_; cbv))))
          case hi => exact hI1
          case ht => exact hT1
      · cbv
        obtain ⟨hk0, hk1, hfp, hmf, hup⟩ : 0 < k ∧ k.toNat ≤ q1.length ∧ fp = q1.take k.toNat ∧ m = fp.length ∧ Up0 fp := hinv2
        (split <;> rename_i hc2 <;> (try (simp only [hbin, hcmp, hun, hconv, hnot, hbeq, hmm, hscmp, hsadd, hslen, hsat, heqs, hofNat, binStd, cmpStd, unStd, scmpStd, maxI, Bool.not_eq_true', Bool.not_eq_false', decide_eq_true_eq, decide_eq_false_iff_not, Int.not_lt, Int.not_le, if_true, if_false, Bool.false_eq_true, beq_iff_eq, bne_iff_ne, ne_eq, Bool.not_eq_eq_eq_not, Bool.not_true, Bool.not_false, beq_eq_false_iff_ne, bne_eq_false_iff_eq, Int.ofNat_eq_natCast, Bool.not_not, not_true_eq_false, not_false_eq_true, reduceCtorEq] at hc2)) <;> (try cbv))
        · obtain ⟨⟨a, b⟩, hd2, hrow2⟩ := get_map (f := pcRow) (ds := ps) (i := k) (by omega) (by omega)
          have hrow2 : q1[k.toNat]? = some [.int .i64 a, .int .i64 b] := by rw [← eq1]; exact hrow2
          refine Idx.mk [.int .i64 a, .int .i64 b] (by omega) hrow2 ?_
          cbv
          obtain ⟨k', ek'⟩ : ∃ x, k + 1 = x := ⟨_, rfl⟩
          have ek : wbin .add .i64 k 1 = k' := by rw [hbin, i_add (by omega) (by omega)]; exact ek'
          obtain ⟨fp', efp⟩ : ∃ x, fp ++ [[AV.int .i64 a, .int .i64 b]] = x := ⟨_, rfl⟩
          have hfl2 : fp'.length = m + 1 := by rw [← efp, hmf]; simp
          have hft2 : fp' = q1.take k'.toNat := by rw [← efp, ← ek', take_row (by omega) hrow2, hfp]
          have hup' : Up0 fp' := by rw [hft2]; exact up_take huq _
          obtain ⟨m', em'⟩ : ∃ x, m + 1 = x := ⟨_, rfl⟩
          have hml : m = k.toNat := by rw [hmf, hfp, List.length_take]; omega
          refine App.mk fp' m' efp.symm hmf em'.symm (by omega) (by omega) ?_
          cbv
          refine hN2 (Bd.more k' m' fp') _ _ ?hx ?hi ?ht
          case hx => (refine Wk.eqz (fun j => [0, 1, 2, 3, 4, 7].getD j 0) (by first | exact fun i _ j _ e => e | (simp only [List.length_cons, List.length_nil]; decide)) ?_; cbv; (repeat' (first | exact trivial | rfl | assumption | apply And.intro | (simp only [hbin, hcmp, hun, hconv, hnot, hbeq, hmm, hscmp, hsadd, hslen, hsat, heqs, hofNat, binStd, cmpStd, unStd, scmpStd, maxI, Bool.not_eq_true', Bool.not_eq_false', decide_eq_true_eq, decide_eq_false_iff_not, Int.not_lt, Int.not_le, if_true, if_false, Bool.false_eq_true, beq_iff_eq, bne_iff_ne, ne_eq, Bool.not_eq_eq_eq_not, Bool.not_true, Bool.not_false, beq_eq_false_iff_ne, bne_eq_false_iff_eq, Int.ofNat_eq_natCast, Bool.not_not, not_true_eq_false, not_false_eq_true, reduceCtorEq]; first | done | assumption) | exact RowsZ.same (by assumption) (by first | assumption | rfl) | exact FzL.mk rfl rfl rfl (by assumption) (by first | assumption | rfl) (by decide) | (refine RowsZ.one ?_; cbv))))
          case hi => exact ⟨by omega, by omega, hft2, by omega, hup'⟩
          case ht => simp only [Bd.left]; omega
        · refine hE2 _ _ _ ?_
          cbv
          have hq : fp = q1 := by rw [hfp, List.take_of_length_le (by omega)]
          have hmq : m = q1.length := by rw [hmf, hq]
          clear hfp
          subst fp
          refine Ob.mk (by decide) ?_
          cbv
          refine hN (Bd.more 1 1 [[.int .i64 len, .list 2 q1, .list 1 n1]]) _ _ ?hx ?hi ?ht
          case hx => (refine Wk.eqz (fun j => [0, 1, 2, 6].getD j 0) (by first | exact fun i _ j _ e => e | (simp only [List.length_cons, List.length_nil]; decide)) ?_; cbv; (repeat' (first | exact trivial | rfl | assumption | exact Eq.symm (by assumption) | apply And.intro | (simp only [hbin, hcmp, hun, hconv, hnot, hbeq, hmm, hscmp, hsadd, hslen, hsat, heqs, hofNat, binStd, cmpStd, unStd, scmpStd, maxI, Bool.not_eq_true', Bool.not_eq_false', decide_eq_true_eq, decide_eq_false_iff_not, Int.not_lt, Int.not_le, if_true, if_false, Bool.false_eq_true, beq_iff_eq, bne_iff_ne, ne_eq, Bool.not_eq_eq_eq_not, Bool.not_true, Bool.not_false, beq_eq_false_iff_ne, bne_eq_false_iff_eq, Int.ofNat_eq_natCast, Bool.not_not, not_true_eq_false, not_false_eq_true, reduceCtorEq]; first | done | assumption) | exact RowsZ.same (by assumption) (by first | assumption | rfl) | exact FzL.mk rfl rfl rfl (by assumption) (by first | assumption | rfl) (by decide) | (refine RowsZ.one ?_; cbv))))
          case hi => exact hI1
          case ht => exact hT1
    · refine hE _ _ _ ?_
      cbv
      have he0 : es = [] := List.length_eq_zero_iff.1 (by omega)
      (obtain ⟨J, eJ, J0, Jn⟩ : ∃ L : Int, wlen ds = L ∧ 0 ≤ L ∧ L.toNat = ds.length := ⟨(ds.length : Int), by rw [hlen], Int.natCast_nonneg _, Int.toNat_natCast _⟩)
      refine Loop.data hw (S := Bd) (fun s => match s with | .start => fr 63 [(2, .ref 1 2 0 0), (3, .ref 2 2 0 0), (49, .list 5 ds), (50, .int .i64 J), (51, .int .i64 0)] | .more k m fp => fr 63 [(2, .ref 1 2 0 0), (3, .ref 2 2 0 0), (49, .list 5 ds), (50, .int .i64 J), (51, .int .i64 k)])
        (fun s => match s with | .start => [.live 2 [[.list 3 es, .list 5 ds]], .live 2 [[.nils, .nils]], .live 2 [[.list 3 es, .nils]]] | .more k m fp => [.live 2 [[.list 3 es, .list 5 ds]], .live 2 [[.nils, .nils]], .live 2 [[.list 3 es, .sl 3 5 0 m]], .live 5 fp]) (Bd.Ok ds) (Bd.left ds) .start (by (refine Wk.eqz (id) (by first | exact fun i _ j _ e => e | (simp only [List.length_cons, List.length_nil]; decide)) ?_; cbv; (repeat' (first | exact trivial | rfl | assumption | apply And.intro | (simp only [hbin, hcmp, hun, hconv, hnot, hbeq, hmm, hscmp, hsadd, hslen, hsat, heqs, hofNat, binStd, cmpStd, unStd, scmpStd, maxI, Bool.not_eq_true', Bool.not_eq_false', decide_eq_true_eq, decide_eq_false_iff_not, Int.not_lt, Int.not_le, if_true, if_false, Bool.false_eq_true, beq_iff_eq, bne_iff_ne, ne_eq, Bool.not_eq_eq_eq_not, Bool.not_true, Bool.not_false, beq_eq_false_iff_ne, bne_eq_false_iff_eq, Int.ofNat_eq_natCast, Bool.not_not, not_true_eq_false, not_false_eq_true, reduceCtorEq]; first | done | assumption) | exact RowsZ.same (by assumption) (by first | assumption | rfl) | exact FzL.mk rfl rfl rfl (by assumption) (by first | assumption | rfl) (by decide) | (refine RowsZ.one ?_; cbv))))) trivial ?_
      rintro (_ | ⟨k, m, fp⟩) hinv2 Q2 hN2 hE2 hR2
      · cbv
        (split <;> rename_i hc2 <;> (try (simp only [hbin, hcmp, hun, hconv, hnot, hbeq, hmm, hscmp, hsadd, hslen, hsat, heqs, hofNat, binStd, cmpStd, unStd, scmpStd, maxI, Bool.not_eq_true', Bool.not_eq_false', decide_eq_true_eq, decide_eq_false_iff_not, Int.not_lt, Int.not_le, if_true, if_false, Bool.false_eq_true, beq_iff_eq, bne_iff_ne, ne_eq, Bool.not_eq_eq_eq_not, Bool.not_true, Bool.not_false, beq_eq_false_iff_ne, bne_eq_false_iff_eq, Int.ofNat_eq_natCast, Bool.not_not, not_true_eq_false, not_false_eq_true, reduceCtorEq] at hc2)) <;> (try cbv))
        · obtain ⟨⟨a1, a2, a3, a4, a5⟩, hd2, hrow2⟩ := get_map (f := grRow) (ds := gs) (i := 0) (Int.le_refl 0) (by omega)
          have hrow2 : ds[(0 : Int).toNat]? = some [.int .i64 a1, .int .i64 a2, .int .i64 a3, .int .i64 a4, .int .i64 a5] := by rw [hds]; exact hrow2
          refine Idx.mk [.int .i64 a1, .int .i64 a2, .int .i64 a3, .int .i64 a4, .int .i64 a5] (by decide) hrow2 ?_
          cbv
          refine Ob.mk (by decide) ?_
          cbv
          have hU2 : Up0 [[AV.int .i64 a1, .int .i64 a2, .int .i64 a3, .int .i64 a4, .int .i64 a5]] := ⟨rfl⟩
          have ei2 : wbin .add .i64 0 1 = 1 := by rw [hbin]; rfl
          refine hN2 (Bd.more 1 1 [[.int .i64 a1, .int .i64 a2, .int .i64 a3, .int .i64 a4, .int .i64 a5]]) _ _ ?hx ?hi ?ht
          case hx => (refine Wk.eqz (fun j => [0, 1, 2, 4].getD j 0) (by first | exact fun i _ j _ e => e | (simp only [List.length_cons, List.length_nil]; decide)) ?_; cbv; (repeat' (first | exact trivial | rfl | assumption | apply And.intro | (simp only [hbin, hcmp, hun, hconv, hnot, hbeq, hmm, hscmp, hsadd, hslen, hsat, heqs, hofNat, binStd, cmpStd, unStd, scmpStd, maxI, Bool.not_eq_true', Bool.not_eq_false', decide_eq_true_eq, decide_eq_false_iff_not, Int.not_lt, Int.not_le, if_true, if_false, Bool.false_eq_true, beq_iff_eq, bne_iff_ne, ne_eq, Bool.not_eq_eq_eq_not, Bool.not_true, Bool.not_false, beq_eq_false_iff_ne, bne_eq_false_iff_eq, Int.ofNat_eq_natCast, Bool.not_not, not_true_eq_false, not_false_eq_true, reduceCtorEq]; first | done | assumption) | exact RowsZ.same (by assumption) (by first | assumption | rfl) | exact FzL.mk rfl rfl rfl (by assumption) (by first | assumption | rfl) (by decide) | (refine RowsZ.one ?_; cbv))))
          case hi => exact ⟨by decide, by omega, (take_row (Int.le_refl 0) hrow2).symm, rfl, hU2⟩
          case ht => simp only [Bd.left]; omega
        · refine hE2 _ _ _ ?_
          cbv
          have hd0 : ds = [] := List.length_eq_zero_iff.1 (by omega)
          exact ⟨_, Vw.agg (rs := [.list 3 es, .list 5 []]) ⟨Vw.same hu.list, Vw.nil 5, trivial⟩, hR _ (by rw [hd0])⟩
      · cbv
        obtain ⟨hk0, hk1, hfp, hmf, hup⟩ : 0 < k ∧ k.toNat ≤ ds.length ∧ fp = ds.take k.toNat ∧ m = fp.length ∧ Up0 fp := hinv2
        (split <;> rename_i hc2 <;> (try (simp only [hbin, hcmp, hun, hconv, hnot, hbeq, hmm, hscmp, hsadd, hslen, hsat, heqs, hofNat, binStd, cmpStd, unStd, scmpStd, maxI, Bool.not_eq_true', Bool.not_eq_false', decide_eq_true_eq, decide_eq_false_iff_not, Int.not_lt, Int.not_le, if_true, if_false, Bool.false_eq_true, beq_iff_eq, bne_iff_ne, ne_eq, Bool.not_eq_eq_eq_not, Bool.not_true, Bool.not_false, beq_eq_false_iff_ne, bne_eq_false_iff_eq, Int.ofNat_eq_natCast, Bool.not_not, not_true_eq_false, not_false_eq_true, reduceCtorEq] at hc2)) <;> (try cbv))
        · obtain ⟨⟨a1, a2, a3, a4, a5⟩, hd2, hrow2⟩ := get_map (f := grRow) (ds := gs) (i := k) (by omega) (by omega)
          have hrow2 : ds[k.toNat]? = some [.int .i64 a1, .int .i64 a2, .int .i64 a3, .int .i64 a4, .int .i64 a5] := by rw [hds]; exact hrow2
          refine Idx.mk [.int .i64 a1, .int .i64 a2, .int .i64 a3, .int .i64 a4, .int .i64 a5] (by omega) hrow2 ?_
          cbv
          obtain ⟨k', ek'⟩ : ∃ x, k + 1 = x := ⟨_, rfl⟩
          have ek : wbin .add .i64 k 1 = k' := by rw [hbin, i_add (by omega) (by omega)]; exact ek'
          obtain ⟨fp', efp⟩ : ∃ x, fp ++ [[AV.int .i64 a1, .int .i64 a2, .int .i64 a3, .int .i64 a4, .int .i64 a5]] = x := ⟨_, rfl⟩
          have hfl2 : fp'.length = m + 1 := by rw [← efp, hmf]; simp
          have hft2 : fp' = ds.take k'.toNat := by rw [← efp, ← ek', take_row (by omega) hrow2, hfp]
          have hup' : Up0 fp' := by rw [hft2]; exact up_take hud _
          obtain ⟨m', em'⟩ : ∃ x, m + 1 = x := ⟨_, rfl⟩
          have hml : m = k.toNat := by rw [hmf, hfp, List.length_take]; omega
          refine App.mk fp' m' efp.symm hmf em'.symm (by omega) (by omega) ?_
          cbv
          refine hN2 (Bd.more k' m' fp') _ _ ?hx ?hi ?ht
          case hx => (refine Wk.eqz (fun j => [0, 1, 2, 5].getD j 0) (by first | exact fun i _ j _ e => e | (simp only [List.length_cons, List.length_nil]; decide)) ?_; cbv; (repeat' (first | exact trivial | rfl | assumption | apply And.intro | (simp only [hbin, hcmp, hun, hconv, hnot, hbeq, hmm, hscmp, hsadd, hslen, hsat, heqs, hofNat, binStd, cmpStd, unStd, scmpStd, maxI, Bool.not_eq_true', Bool.not_eq_false', decide_eq_true_eq, decide_eq_false_iff_not, Int.not_lt, Int.not_le, if_true, if_false, Bool.false_eq_true, beq_iff_eq, bne_iff_ne, ne_eq, Bool.not_eq_eq_eq_not, Bool.not_true, Bool.not_false, beq_eq_false_iff_ne, bne_eq_false_iff_eq, Int.ofNat_eq_natCast, Bool.not_not, not_true_eq_false, not_false_eq_true, reduceCtorEq]; first | done | assumption) | exact RowsZ.same (by assumption) (by first | assumption | rfl) | exact FzL.mk rfl rfl rfl (by assumption) (by first | assumption | rfl) (by decide) | (refine RowsZ.one ?_; cbv))))
          case hi => exact ⟨by omega, by omega, hft2, by omega, hup'⟩
          case ht => simp only [Bd.left]; omega
        · refine hE2 _ _ _ ?_
          cbv
          have hq : fp = ds := by rw [hfp, List.take_of_length_le (by omega)]
          refine ⟨_, Vw.agg (rs := [.list 3 es, .list 5 _]) ⟨Vw.same hu.list, Vw.sl rfl hup.get (by omega), trivial⟩, hR _ ?_⟩
          rw [List.drop_zero, List.take_of_length_le (by omega), hq]
  · cbv
    obtain ⟨hi0, hi1, hfs, hnf, huf⟩ : 0 < i ∧ i.toNat ≤ es.length ∧ fs = es.take i.toNat ∧ n = fs.length ∧ Up0 fs := hinv
    (split <;> rename_i hc <;> (try (simp only [hbin, hcmp, hun, hconv, hnot, hbeq, hmm, hscmp, hsadd, hslen, hsat, heqs, hofNat, binStd, cmpStd, unStd, scmpStd, maxI, Bool.not_eq_true', Bool.not_eq_false', decide_eq_true_eq, decide_eq_false_iff_not, Int.not_lt, Int.not_le, if_true, if_false, Bool.false_eq_true, beq_iff_eq, bne_iff_ne, ne_eq, Bool.not_eq_eq_eq_not, Bool.not_true, Bool.not_false, beq_eq_false_iff_ne, bne_eq_false_iff_eq, Int.ofNat_eq_natCast, Bool.not_not, not_true_eq_false, not_false_eq_true, reduceCtorEq] at hc)) <;> (try cbv))
    · obtain ⟨⟨len, ps, nx⟩, hd, hrow⟩ := get_map (f := sgRow) (ds := ss) (i := i) (by omega) (by omega)
      obtain ⟨q1, eq1⟩ : ∃ x, ps.map pcRow = x := ⟨_, rfl⟩
      obtain ⟨n1, en1⟩ : ∃ x, nx.map nxRow = x := ⟨_, rfl⟩
      have hrow : es[i.toNat]? = some [.int .i64 len, .list 2 q1, .list 1 n1] := by rw [hes, ← eq1, ← en1]; exact hrow
      have hql : q1.length = ps.length := by rw [← eq1]; simp
      have hpl : ps.length ≤ 1000 := hm3 ⟨len, ps, nx⟩ (List.mem_of_getElem? hd)
      have huq : Up0 q1 := by rw [← eq1]; exact up_pc ps
      have hun : Up0 n1 := by rw [← en1]; exact up_nx nx
      refine Idx.mk [.int .i64 len, .list 2 q1, .list 1 n1] (by omega) hrow ?_
      cbv
      obtain ⟨i', ei'⟩ : ∃ x, i + 1 = x := ⟨_, rfl⟩
      have ei : wbin .add .i64 i 1 = i' := by rw [hbin, i_add (by omega) (by omega)]; exact ei'
      obtain ⟨fw, efw⟩ : ∃ x, fs ++ [[AV.int .i64 len, .list 2 q1, .list 1 n1]] = x := ⟨_, rfl⟩
      have hfl : fw.length = n + 1 := by rw [← efw, hnf]; simp
      have hft : fw = es.take i'.toNat := by rw [← efw, ← ei', take_row (by omega) hrow, hfs]
      have hufw : Up0 fw := by rw [hft]; exact up_take hu _
      obtain ⟨n', en'⟩ : ∃ x, n + 1 = x := ⟨_, rfl⟩
      have hnl : n = i.toNat := by rw [hnf, hfs, List.length_take]; omega
      have hT1 : Bd.left es (.more i' n' fw) < Bd.left es (.more i n fs) := by simp only [Bd.left]; omega
      have hI1 : Bd.Ok es (.more i' n' fw) := ⟨by omega, by omega, hft, by omega, hufw⟩
      (obtain ⟨K, eK, K0, Kn⟩ : ∃ L : Int, wlen q1 = L ∧ 0 ≤ L ∧ L.toNat = q1.length := ⟨(q1.length : Int), by rw [hlen], Int.natCast_nonneg _, Int.toNat_natCast _⟩)
      refine Loop.data hw (S := Bd) (fun s => match s with | .start => fr 63 [(1, .ref 0 2 0 0), (2, .ref 1 2 0 0), (3, .ref 2 2 0 0), (12, .list 3 es), (13, .int .i64 L), (14, .int .i64 i), (5, .ref 4 3 0 0), (6, .ref 5 3 0 0), (24, .list 2 q1), (25, .int .i64 K), (26, .int .i64 0)] | .more k m fp => fr 63 [(1, .ref 0 2 0 0), (2, .ref 1 2 0 0), (3, .ref 2 2 0 0), (12, .list 3 es), (13, .int .i64 L), (14, .int .i64 i), (5, .ref 4 3 0 0), (6, .ref 5 3 0 0), (24, .list 2 q1), (25, .int .i64 K), (26, .int .i64 k)])
        (fun s => match s with | .start => [.live 2 [[.list 3 es, .list 5 ds]], .live 2 [[.nils, .nils]], .live 2 [[.sl 3 3 0 n, .nils]], .live 3 fs, .live 3 [[.int .i64 len, .list 2 q1, .list 1 n1]], .live 3 [[.int .i64 len, .nils, .list 1 n1]]] | .more k m fp => [.live 2 [[.list 3 es, .list 5 ds]], .live 2 [[.nils, .nils]], .live 2 [[.sl 3 3 0 n, .nils]], .live 3 fs, .live 3 [[.int .i64 len, .list 2 q1, .list 1 n1]], .live 3 [[.int .i64 len, .sl 6 2 0 m, .list 1 n1]], .live 2 fp]) (Bd.Ok q1) (Bd.left q1) .start (by (refine Wk.eqz (id) (by first | exact fun i _ j _ e => e | (simp only [List.length_cons, List.length_nil]; decide)) ?_; cbv; (repeat' (first | exact trivial | rfl | assumption | apply And.intro | (simp only [hbin, hcmp, hun, hconv, hnot, hbeq, hmm, hscmp, hsadd, hslen, hsat, heqs, hofNat, binStd, cmpStd, unStd, scmpStd, maxI, Bool.not_eq_true', Bool.not_eq_false', decide_eq_true_eq, decide_eq_false_iff_not, Int.not_lt, Int.not_le, if_true, if_false, Bool.false_eq_true, beq_iff_eq, bne_iff_ne, ne_eq, Bool.not_eq_eq_eq_not, Bool.not_true, Bool.not_false, beq_eq_false_iff_ne, bne_eq_false_iff_eq, Int.ofNat_eq_natCast, Bool.not_not, not_true_eq_false, not_false_eq_true, reduceCtorEq]; first | done | assumption) | exact RowsZ.same (by assumption) (by first | assumption | rfl) | exact FzL.mk rfl rfl rfl (by assumption) (by first | assumption | rfl) (by decide) | (refine RowsZ.one ?_; cbv))))) trivial ?_
      rintro (_ | ⟨k, m, fp⟩) hinv2 Q2 hN2 hE2 hR2
      · cbv
        (split <;> rename_i hc2 <;> (try (simp only [hbin, hcmp, hun, hconv, hnot, hbeq, hmm, hscmp, hsadd, hslen, hsat, heqs, hofNat, binStd, cmpStd, unStd, scmpStd, maxI, Bool.not_eq_true', Bool.not_eq_false', decide_eq_true_eq, decide_eq_false_iff_not, Int.not_lt, Int.not_le, if_true, if_false, Bool.false_eq_true, beq_iff_eq, bne_iff_ne, ne_eq, Bool.not_eq_eq_eq_not, Bool.not_true, Bool.not_false, beq_eq_false_iff_ne, bne_eq_false_iff_eq, Int.ofNat_eq_natCast, Bool.not_not, not_true_eq_false, not_false_eq_true, reduceCtorEq] at hc2)) <;> (try cbv))
        · obtain ⟨⟨a, b⟩, hd2, hrow2⟩ := get_map (f := pcRow) (ds := ps) (i := 0) (Int.le_refl 0) (by omega)
          have hrow2 : q1[(0 : Int).toNat]? = some [.int .i64 a, .int .i64 b] := by rw [← eq1]; exact hrow2
          refine Idx.mk [.int .i64 a, .int .i64 b] (by decide) hrow2 ?_
          cbv
          refine Ob.mk (by decide) ?_
          cbv
          have hU2 : Up0 [[AV.int .i64 a, .int .i64 b]] := ⟨rfl⟩
          have ei2 : wbin .add .i64 0 1 = 1 := by rw [hbin]; rfl
          refine hN2 (Bd.more 1 1 [[.int .i64 a, .int .i64 b]]) _ _ ?hx ?hi ?ht
          case hx => (refine Wk.eqz (fun j => [0, 1, 2, 3, 4, 5, 7].getD j 0) (by first | exact fun i _ j _ e => e | (simp only [List.length_cons, List.length_nil]; decide)) ?_; cbv; (repeat' (first | exact trivial | rfl | assumption | apply And.intro | (simp only [hbin, hcmp, hun, hconv, hnot, hbeq, hmm, hscmp, hsadd, hslen, hsat, heqs, hofNat, binStd, cmpStd, unStd, scmpStd, maxI, Bool.not_eq_true', Bool.not_eq_false', decide_eq_true_eq, decide_eq_false_iff_not, Int.not_lt, Int.not_le, if_true, if_false, Bool.false_eq_true, beq_iff_eq, bne_iff_ne, ne_eq, Bool.not_eq_eq_eq_not, Bool.not_true, Bool.not_false, beq_eq_false_iff_ne, bne_eq_false_iff_eq, Int.ofNat_eq_natCast, Bool.not_not, not_true_eq_false, not_false_eq_true, reduceCtorEq]; first | done | assumption) | exact RowsZ.same (by assumption) (by first | assumption | rfl) | exact FzL.mk rfl rfl rfl (by assumption) (by first | assumption | rfl) (by decide) | (refine RowsZ.one ?_; cbv))))
          case hi => exact ⟨by decide, by omega, (take_row (Int.le_refl 0) hrow2).symm, rfl, hU2⟩
          case ht => simp only [Bd.left]; omega
        · refine hE2 _ _ _ ?_
          cbv
          have hq0 : q1 = [] := List.length_eq_zero_iff.1 (by omega)
          obtain ⟨fx, efx⟩ : ∃ x, fs ++ [[AV.int .i64 len, .nils, .list 1 n1]] = x := ⟨_, rfl⟩
          refine App.mk fx n' efx.symm hnf en'.symm (by omega) (by omega) ?_
          cbv
          refine hN (Bd.more i' n' fw) _ _ ?hx ?hi ?ht
          case hx => (refine Wk.eqz (fun j => [0, 1, 2, 6].getD j 0) (by first | exact fun i _ j _ e => e | (simp only [List.length_cons, List.length_nil]; decide)) ?_; cbv; (repeat' (first | exact trivial | rfl | assumption | (refine RowsZ.app huf efx.symm efw.symm ?_; cbv) | apply And.intro | (simp only [hbin, hcmp, hun, hconv, hnot, hbeq, hmm, hscmp, hsadd, hslen, hsat, heqs, hofNat, binStd, cmpStd, unStd, scmpStd, maxI, Bool.not_eq_true', Bool.not_eq_false', decide_eq_true_eq, decide_eq_false_iff_not, Int.not_lt, Int.not_le, if_true, if_false, Bool.false_eq_true, beq_iff_eq, bne_iff_ne, ne_eq, Bool.not_eq_eq_eq_not, Bool.not_true, Bool.not_false, beq_eq_false_iff_ne, bne_eq_false_iff_eq, Int.ofNat_eq_natCast, Bool.not_not, not_true_eq_false, not_false_eq_true, reduceCtorEq]; first | done | assumption) | exact RowsZ.same (by assumption) (by first | assumption | rfl) | exact FzL.mk rfl rfl rfl (by assumption) (by first | assumption | rfl) (by decide) | (refine RowsZ.one ?_; cbv))))
          case hi => exact hI1
          case ht => exact hT1
      · cbv
        obtain ⟨hk0, hk1, hfp, hmf, hup⟩ : 0 < k ∧ k.toNat ≤ q1.length ∧ fp = q1.take k.toNat ∧ m = fp.length ∧ Up0 fp := hinv2
        (split <;> rename_i hc2 <;> (try (simp only [hbin, hcmp, hun, hconv, hnot, hbeq, hmm, hscmp, hsadd, hslen, hsat, heqs, hofNat, binStd, cmpStd, unStd, scmpStd, maxI, Bool.not_eq_true', Bool.not_eq_false', decide_eq_true_eq, decide_eq_false_iff_not, Int.not_lt, Int.not_le, if_true, if_false, Bool.false_eq_true, beq_iff_eq, bne_iff_ne, ne_eq, Bool.not_eq_eq_eq_not, Bool.not_true, Bool.not_false, beq_eq_false_iff_ne, bne_eq_false_iff_eq, Int.ofNat_eq_natCast, Bool.not_not, not_true_eq_false, not_false_eq_true, reduceCtorEq] at hc2)) <;> (try cbv))
        · obtain ⟨⟨a, b⟩, hd2, hrow2⟩ := get_map (f := pcRow) (ds := ps) (i := k) (by omega) (by omega)
          have hrow2 : q1[k.toNat]? = some [.int .i64 a, .int .i64 b] := by rw [← eq1]; exact hrow2
          refine Idx.mk [.int .i64 a, .int .i64 b] (by omega) hrow2 ?_
          cbv
          obtain ⟨k', ek'⟩ : ∃ x, k + 1 = x := ⟨_, rfl⟩
          have ek : wbin .add .i64 k 1 = k' := by rw [hbin, i_add (by omega) (by omega)]; exact ek'
          obtain ⟨fp', efp⟩ : ∃ x, fp ++ [[AV.int .i64 a, .int .i64 b]] = x := ⟨_, rfl⟩
          have hfl2 : fp'.length = m + 1 := by rw [← efp, hmf]; simp
          have hft2 : fp' = q1.take k'.toNat := by rw [← efp, ← ek', take_row (by omega) hrow2, hfp]
          have hup' : Up0 fp' := by rw [hft2]; exact up_take huq _
          obtain ⟨m', em'⟩ : ∃ x, m + 1 = x := ⟨_, rfl⟩
          have hml : m = k.toNat := by rw [hmf, hfp, List.length_take]; omega
          refine App.mk fp' m' efp.symm hmf em'.symm (by omega) (by omega) ?_
          cbv
          refine hN2 (Bd.more k' m' fp') _ _ ?hx ?hi ?ht
          case hx => (refine Wk.eqz (fun j => [0, 1, 2, 3, 4, 5, 8].getD j 0) (by first | exact fun i _ j _ e => e | (simp only [List.length_cons, List.length_nil]; decide)) ?_; cbv; (repeat' (first | exact trivial | rfl | assumption | apply And.intro | (simp only [hbin, hcmp, hun, hconv, hnot, hbeq, hmm, hscmp, hsadd, hslen, hsat, heqs, hofNat, binStd, cmpStd, unStd, scmpStd, maxI, Bool.not_eq_true', Bool.not_eq_false', decide_eq_true_eq, decide_eq_false_iff_not, Int.not_lt, Int.not_le, if_true, if_false, Bool.false_eq_true, beq_iff_eq, bne_iff_ne, ne_eq, Bool.not_eq_eq_eq_not, Bool.not_true, Bool.not_false, beq_eq_false_iff_ne, bne_eq_false_iff_eq, Int.ofNat_eq_natCast, Bool.not_not, not_true_eq_false, not_false_eq_true, reduceCtorEq]; first | done | assumption) | exact RowsZ.same (by assumption) (by first | assumption | rfl) | exact FzL.mk rfl rfl rfl (by assumption) (by first | assumption | rfl) (by decide) | (refine RowsZ.one ?_; cbv))))
          case hi => exact ⟨by omega, by omega, hft2, by omega, hup'⟩
          case ht => simp only [Bd.left]; omega
        · refine hE2 _ _ _ ?_
          cbv
          have hq : fp = q1 := by rw [hfp, List.take_of_length_le (by omega)]
          have hmq : m = q1.length := by rw [hmf, hq]
          clear hfp
          subst fp
          obtain ⟨fx, efx⟩ : ∃ x, fs ++ [[AV.int .i64 len, .sl 6 2 0 m, .list 1 n1]] = x := ⟨_, rfl⟩
          refine App.mk fx n' efx.symm hnf en'.symm (by omega) (by omega) ?_
          cbv
          refine hN (Bd.more i' n' fw) _ _ ?hx ?hi ?ht
          case hx => (refine Wk.eqz (fun j => [0, 1, 2, 7].getD j 0) (by first | exact fun i _ j _ e => e | (simp only [List.length_cons, List.length_nil]; decide)) ?_; cbv; (repeat' (first | exact trivial | rfl | assumption | (refine RowsZ.app huf efx.symm efw.symm ?_; cbv) | apply And.intro | (simp only [hbin, hcmp, hun, hconv, hnot, hbeq, hmm, hscmp, hsadd, hslen, hsat, heqs, hofNat, binStd, cmpStd, unStd, scmpStd, maxI, Bool.not_eq_true', Bool.not_eq_false', decide_eq_true_eq, decide_eq_false_iff_not, Int.not_lt, Int.not_le, if_true, if_false, Bool.false_eq_true, beq_iff_eq, bne_iff_ne, ne_eq, Bool.not_eq_eq_eq_not, Bool.not_true, Bool.not_false, beq_eq_false_iff_ne, bne_eq_false_iff_eq, Int.ofNat_eq_natCast, Bool.not_not, not_true_eq_false, not_false_eq_true, reduceCtorEq]; first | done | assumption) | exact RowsZ.same (by assumption) (by first | assumption | rfl) | exact FzL.mk rfl rfl rfl (by assumption) (by first | assumption | rfl) (by decide) | (refine RowsZ.one ?_; cbv))))
          case hi => exact hI1
          case ht => exact hT1
    · refine hE _ _ _ ?_
      cbv
      have hfe : fs = es := by rw [hfs, List.take_of_length_le (by omega)]
      have hne : n = es.length := by rw [hnf, hfe]
      subst hfe
      (obtain ⟨J, eJ, J0, Jn⟩ : ∃ L : Int, wlen ds = L ∧ 0 ≤ L ∧ L.toNat = ds.length := ⟨(ds.length : Int), by rw [hlen], Int.natCast_nonneg _, Int.toNat_natCast _⟩)
      refine Loop.data hw (S := Bd) (fun s => match s with | .start => fr 63 [(2, .ref 1 2 0 0), (3, .ref 2 2 0 0), (49, .list 5 ds), (50, .int .i64 J), (51, .int .i64 0)] | .more k m fp => fr 63 [(2, .ref 1 2 0 0), (3, .ref 2 2 0 0), (49, .list 5 ds), (50, .int .i64 J), (51, .int .i64 k)])
        (fun s => match s with | .start => [.live 2 [[.list 3 fs, .list 5 ds]], .live 2 [[.nils, .nils]], .live 2 [[.list 3 fs, .nils]]] | .more k m fp => [.live 2 [[.list 3 fs, .list 5 ds]], .live 2 [[.nils, .nils]], .live 2 [[.list 3 fs, .sl 3 5 0 m]], .live 5 fp]) (Bd.Ok ds) (Bd.left ds) .start (by (refine Wk.eqz (id) (by first | exact fun i _ j _ e => e | (simp only [List.length_cons, List.length_nil]; decide)) ?_; cbv; (repeat' (first | exact trivial | rfl | assumption | apply And.intro | (simp only [hbin, hcmp, hun, hconv, hnot, hbeq, hmm, hscmp, hsadd, hslen, hsat, heqs, hofNat, binStd, cmpStd, unStd, scmpStd, maxI, Bool.not_eq_true', Bool.not_eq_false', decide_eq_true_eq, decide_eq_false_iff_not, Int.not_lt, Int.not_le, if_true, if_false, Bool.false_eq_true, beq_iff_eq, bne_iff_ne, ne_eq, Bool.not_eq_eq_eq_not, Bool.not_true, Bool.not_false, beq_eq_false_iff_ne, bne_eq_false_iff_eq, Int.ofNat_eq_natCast, Bool.not_not, not_true_eq_false, not_false_eq_true, reduceCtorEq]; first | done | assumption) | exact RowsZ.same (by assumption) (by first | assumption | rfl) | exact FzL.mk rfl rfl rfl (by assumption) (by first | assumption | rfl) (by decide) | (refine RowsZ.one ?_; cbv))))) trivial ?_
      rintro (_ | ⟨k, m, fp⟩) hinv2 Q2 hN2 hE2 hR2
      · cbv
        (split <;> rename_i hc2 <;> (try (simp only [hbin, hcmp, hun, hconv, hnot, hbeq, hmm, hscmp, hsadd, hslen, hsat, heqs, hofNat, binStd, cmpStd, unStd, scmpStd, maxI, Bool.not_eq_true', Bool.not_eq_false', decide_eq_true_eq, decide_eq_false_iff_not, Int.not_lt, Int.not_le, if_true, if_false, Bool.false_eq_true, beq_iff_eq, bne_iff_ne, ne_eq, Bool.not_eq_eq_eq_not, Bool.not_true, Bool.not_false, beq_eq_false_iff_ne, bne_eq_false_iff_eq, Int.ofNat_eq_natCast, Bool.not_not, not_true_eq_false, not_false_eq_true, reduceCtorEq] at hc2)) <;> (try cbv))
        · obtain ⟨⟨a1, a2, a3, a4, a5⟩, hd2, hrow2⟩ := get_map (f := grRow) (ds := gs) (i := 0) (Int.le_refl 0) (by omega)
          have hrow2 : ds[(0 : Int).toNat]? = some [.int .i64 a1, .int .i64 a2, .int .i64 a3, .int .i64 a4, .int .i64 a5] := by rw [hds]; exact hrow2
          refine Idx.mk [.int .i64 a1, .int .i64 a2, .int .i64 a3, .int .i64 a4, .int .i64 a5] (by decide) hrow2 ?_
          cbv
          refine Ob.mk (by decide) ?_
          cbv
          have hU2 : Up0 [[AV.int .i64 a1, .int .i64 a2, .int .i64 a3, .int .i64 a4, .int .i64 a5]] := ⟨rfl⟩
          have ei2 : wbin .add .i64 0 1 = 1 := by rw [hbin]; rfl
          refine hN2 (Bd.more 1 1 [[.int .i64 a1, .int .i64 a2, .int .i64 a3, .int .i64 a4, .int .i64 a5]]) _ _ ?hx ?hi ?ht
          case hx => (refine Wk.eqz (fun j => [0, 1, 2, 4].getD j 0) (by first | exact fun i _ j _ e => e | (simp only [List.length_cons, List.length_nil]; decide)) ?_; cbv; (repeat' (first | exact trivial | rfl | assumption | apply And.intro | (simp only [hbin, hcmp, hun, hconv, hnot, hbeq, hmm, hscmp, hsadd, hslen, hsat, heqs, hofNat, binStd, cmpStd, unStd, scmpStd, maxI, Bool.not_eq_true', Bool.not_eq_false', decide_eq_true_eq, decide_eq_false_iff_not, Int.not_lt, Int.not_le, if_true, if_false, Bool.false_eq_true, beq_iff_eq, bne_iff_ne, ne_eq, Bool.not_eq_eq_eq_not, Bool.not_true, Bool.not_false, beq_eq_false_iff_ne, bne_eq_false_iff_eq, Int.ofNat_eq_natCast, Bool.not_not, not_true_eq_false, not_false_eq_true, reduceCtorEq]; first | done | assumption) | exact RowsZ.same (by assumption) (by first | assumption | rfl) | exact FzL.mk rfl rfl rfl (by assumption) (by first | assumption | rfl) (by decide) | (refine RowsZ.one ?_; cbv))))
          case hi => exact ⟨by decide, by omega, (take_row (Int.le_refl 0) hrow2).symm, rfl, hU2⟩
          case ht => simp only [Bd.left]; omega
        · refine hE2 _ _ _ ?_
          cbv
          have hd0 : ds = [] := List.length_eq_zero_iff.1 (by omega)
          exact ⟨_, Vw.agg (rs := [.list 3 fs, .list 5 []]) ⟨Vw.same hu.list, Vw.nil 5, trivial⟩, hR _ (by rw [hd0])⟩
      · cbv
        obtain ⟨hk0, hk1, hfp, hmf, hup⟩ : 0 < k ∧ k.toNat ≤ ds.length ∧ fp = ds.take k.toNat ∧ m = fp.length ∧ Up0 fp := hinv2
        (split <;> rename_i hc2 <;> (try (simp only [hbin, hcmp, hun, hconv, hnot, hbeq, hmm, hscmp, hsadd, hslen, hsat, heqs, hofNat, binStd, cmpStd, unStd, scmpStd, maxI, Bool.not_eq_true', Bool.not_eq_false', decide_eq_true_eq, decide_eq_false_iff_not, Int.not_lt, Int.not_le, if_true, if_false, Bool.false_eq_true, beq_iff_eq, bne_iff_ne, ne_eq, Bool.not_eq_eq_eq_not, Bool.not_true, Bool.not_false, beq_eq_false_iff_ne, bne_eq_false_iff_eq, Int.ofNat_eq_natCast, Bool.not_not, not_true_eq_false, not_false_eq_true, reduceCtorEq] at hc2)) <;> (try cbv))
        · obtain ⟨⟨a1, a2, a3, a4, a5⟩, hd2, hrow2⟩ := get_map (f := grRow) (ds := gs) (i := k) (by omega) (by omega)
          have hrow2 : ds[k.toNat]? = some [.int .i64 a1, .int .i64 a2, .int .i64 a3, .int .i64 a4, .int .i64 a5] := by rw [hds]; exact hrow2
          refine Idx.mk [.int .i64 a1, .int .i64 a2, .int .i64 a3, .int .i64 a4, .int .i64 a5] (by omega) hrow2 ?_
          cbv
          obtain ⟨k', ek'⟩ : ∃ x, k + 1 = x := ⟨_, rfl⟩
          have ek : wbin .add .i64 k 1 = k' := by rw [hbin, i_add (by omega) (by omega)]; exact ek'
          obtain ⟨fp', efp⟩ : ∃ x, fp ++ [[AV.int .i64 a1, .int .i64 a2, .int .i64 a3, .int .i64 a4, .int .i64 a5]] = x := ⟨_, rfl⟩
          have hfl2 : fp'.length = m + 1 := by rw [← efp, hmf]; simp
          have hft2 : fp' = ds.take k'.toNat := by rw [← efp, ← ek', take_row (by omega) hrow2, hfp]
          have hup' : Up0 fp' := by rw [hft2]; exact up_take hud _
          obtain ⟨m', em'⟩ : ∃ x, m + 1 = x := ⟨_, rfl⟩
          have hml : m = k.toNat := by rw [hmf, hfp, List.length_take]; omega
          refine App.mk fp' m' efp.symm hmf em'.symm (by omega) (by omega) ?_
          cbv
          refine hN2 (Bd.more k' m' fp') _ _ ?hx ?hi ?ht
          case hx => (refine Wk.eqz (fun j => [0, 1, 2, 5].getD j 0) (by first | exact fun i _ j _ e => e | (simp only [List.length_cons, List.length_nil]; decide)) ?_; cbv; (repeat' (first | exact trivial | rfl | assumption | apply And.intro | (simp only [hbin, hcmp, hun, hconv, hnot, hbeq, hmm, hscmp, hsadd, hslen, hsat, heqs, hofNat, binStd, cmpStd, unStd, scmpStd, maxI, Bool.not_eq_true', Bool.not_eq_false', decide_eq_true_eq, decide_eq_false_iff_not, Int.not_lt, Int.not_le, if_true, if_false, Bool.false_eq_true, beq_iff_eq, bne_iff_ne, ne_eq, Bool.not_eq_eq_eq_not, Bool.not_true, Bool.not_false, beq_eq_false_iff_ne, bne_eq_false_iff_eq, Int.ofNat_eq_natCast, Bool.not_not, not_true_eq_false, not_false_eq_true, reduceCtorEq]; first | done | assumption) | exact RowsZ.same (by assumption) (by first | assumption | rfl) | exact FzL.mk rfl rfl rfl (by assumption) (by first | assumption | rfl) (by decide) | (refine RowsZ.one ?_; cbv))))
          case hi => exact ⟨by omega, by omega, hft2, by omega, hup'⟩
          case ht => simp only [Bd.left]; omega
        · refine hE2 _ _ _ ?_
          cbv
          have hq : fp = ds := by rw [hfp, List.take_of_length_le (by omega)]
          refine ⟨_, Vw.agg (rs := [.list 3 fs, .list 5 _]) ⟨Vw.same hu.list, Vw.sl rfl hup.get (by omega), trivial⟩, hR _ ?_⟩
          rw [List.drop_zero, List.take_of_length_le (by omega), hq]
end Go.Proofs.Ytpiocfmdjgbamaa

/- What the statements of layer 20 ask first, by the engine. -/
set_option linter.unusedVariables false
set_option linter.unusedSimpArgs false
namespace Go.Proofs.Ytpiocfmdjgbamaa
open Go Go.RowKit Go.Eng
set_option maxRecDepth 100000
structure May14 (ss : List Sg) (gs : List Gr) (segment from_ : Int) : Prop where
  tr : TrackOk ss gs
  ps : ∀ s, s ∈ ss → s.ps.length ≤ 1000
  n300 : ss.length ≤ 300
  g500 : gs.length ≤ 500
  seg : 0 ≤ segment ∧ segment.toNat < ss.length
  fr : 0 ≤ from_ ∧ from_ ≤ 1099511627776
set_option maxHeartbeats 2000000 in
theorem e_may20 (ss : List Sg) (gs : List Gr) (es ds : List (List AV)) (hes : es = ss.map sgRow) (hds : ds = gs.map grRow) (segment from_ : Int) :
    PCalls Try.prog 44 [.agg [.list 3 es, .list 5 ds], .int .i64 segment, .int .i64 from_] (fun r => ∃ o : Bool, r = .bool o ∧ (o = true → May14 ss gs segment from_)) := by
  have hu : Up0 es := by rw [hes]; exact up_sg ss
  have hud : Up0 ds := by rw [hds]; exact up_gr gs
  have hel : es.length = ss.length := by rw [hes]; simp
  have hdl : ds.length = gs.length := by rw [hds]; simp
  have hut : uptoL 0 [.agg [.list 3 es, .list 5 ds]] = true := Bool.and_eq_true_iff.mpr ⟨Up0.one hu (Up0.one hud rfl), rfl⟩
  (refine PCalls.ofY Try.func44 (by kernel_rfl) (by kernel_rfl) fun w hw R hR => ?_); (obtain ⟨wbin, wcmp, wun, wconv, wnot, wbeq, wmm, wscmp, wsadd, wslen, wsat, weqs, wlen, wnlen, wofNat, wtake, wdrop, wapp, wzero, wnat⟩ := w); (have hbin : wbin = binStd := congrArg Prims.bin hw); (have hcmp : wcmp = cmpStd := congrArg Prims.cmp hw); (have hun : wun = unStd := congrArg Prims.un hw); (have hconv : wconv = fun k n => k.wrap n := congrArg Prims.conv hw); (have hnot : wnot = fun b => !b := congrArg Prims.not hw); (have hbeq : wbeq = fun a b => a == b := congrArg Prims.beq hw); (have hmm : wmm = maxI := congrArg Prims.mm hw); (have hscmp : wscmp = scmpStd := congrArg Prims.scmp hw); (have hsadd : wsadd = fun x y => x ++ y := congrArg Prims.sadd hw); (have hslen : wslen = fun s => (s.size : Int) := congrArg Prims.slen hw); (have hsat : wsat = std.sat := congrArg Prims.sat hw); (have heqs : weqs = fun a b os => (eqOffs a b os).getD false := congrArg Prims.eqs hw); (have hlen : wlen = fun es => (es.length : Int) := congrArg Prims.len hw); (have hnlen : wnlen = fun es => es.length := congrArg Prims.nlen hw); (have hofNat : wofNat = (fun n : Nat => (n : Int)) := congrArg Prims.ofNat hw); (have htake : wtake = fun es b => es.take b.toNat := congrArg Prims.take hw); (have hdrop : wdrop = fun es a => es.drop a.toNat := congrArg Prims.drop hw); (have happ : wapp = fun a b => a ++ b := congrArg Prims.app hw); (have hzero : wzero = fun n z => List.replicate n.toNat z := congrArg Prims.zero hw); (have hnat : wnat = fun n => n.toNat := congrArg Prims.nat hw); (conv => arg 2; cbv); (generalize hP : Try.prog = P); cbv
  (obtain ⟨L, eL, L0, Ln⟩ : ∃ L : Int, wlen es = L ∧ 0 ≤ L ∧ L.toNat = es.length := ⟨(es.length : Int), by rw [hlen], Int.natCast_nonneg _, Int.toNat_natCast _⟩)
  (obtain ⟨J, eJ, J0, Jn⟩ : ∃ L : Int, wlen ds = L ∧ 0 ≤ L ∧ L.toNat = ds.length := ⟨(ds.length : Int), by rw [hlen], Int.natCast_nonneg _, Int.toNat_natCast _⟩)
  have hF : R (.bool false) := hR _ ⟨_, rfl, fun h => (by cases h)⟩
  repeat' (first | exact ⟨_, Vw.same rfl, hF⟩ | (split <;> rename_i h <;> (try (simp only [eL, eJ] at h)) <;> (try (simp only [hbin, hcmp, hun, hconv, hnot, hbeq, hmm, hscmp, hsadd, hslen, hsat, heqs, hofNat, binStd, cmpStd, unStd, scmpStd, maxI, Bool.not_eq_true', Bool.not_eq_false', decide_eq_true_eq, decide_eq_false_iff_not, Int.not_lt, Int.not_le, if_true, if_false, Bool.false_eq_true, beq_iff_eq, bne_iff_ne, ne_eq, Bool.not_eq_eq_eq_not, Bool.not_true, Bool.not_false, beq_eq_false_iff_ne, bne_eq_false_iff_eq, Int.ofNat_eq_natCast, Bool.not_not, not_true_eq_false, not_false_eq_true, reduceCtorEq] at h)) <;> (try cbv)))
  have hb : ss.length ≤ 300 ∧ gs.length ≤ 500 := by omega
  obtain ⟨b1, b2⟩ := hb
  simp only [eL]
  refine Loop.data hw (S := Int) (fun i => fr 72 [(1, .int .i64 segment), (2, .int .i64 from_), (3, .ref 0 2 0 0), (22, .list 3 es), (23, .int .i64 L), (24, .int .i64 i)]) (fun i => [.live 2 [[.list 3 es, .list 5 ds]]]) (fun i => 0 ≤ i ∧ i ≤ L ∧ ∀ j, j < i.toNat → ∀ s, ss[j]? = some s → s.ps.length ≤ 100) (fun i => (L - i).toNat) 0 (by (refine Wk.eqz (id) (by first | exact fun i _ j _ e => e | (simp only [List.length_cons, List.length_nil]; decide)) ?_; cbv; (repeat' (first | exact trivial | rfl | assumption | apply And.intro | (simp only [hbin, hcmp, hun, hconv, hnot, hbeq, hmm, hscmp, hsadd, hslen, hsat, heqs, hofNat, binStd, cmpStd, unStd, scmpStd, maxI, Bool.not_eq_true', Bool.not_eq_false', decide_eq_true_eq, decide_eq_false_iff_not, Int.not_lt, Int.not_le, if_true, if_false, Bool.false_eq_true, beq_iff_eq, bne_iff_ne, ne_eq, Bool.not_eq_eq_eq_not, Bool.not_true, Bool.not_false, beq_eq_false_iff_ne, bne_eq_false_iff_eq, Int.ofNat_eq_natCast, Bool.not_not, not_true_eq_false, not_false_eq_true, reduceCtorEq]; first | done | assumption) | exact RowsZ.same (by assumption) (by first | assumption | rfl) | exact FzL.mk rfl rfl rfl (by assumption) (by first | assumption | rfl) (by decide) | (refine RowsZ.one ?_; cbv))))) ⟨Int.le_refl _, L0, fun j hj => (by simp at hj)⟩ ?_
  rintro i hinv Q' hN hE hR'
  have hinv : 0 ≤ i ∧ i ≤ L ∧ ∀ j, j < i.toNat → ∀ s, ss[j]? = some s → s.ps.length ≤ 100 := hinv
  cbv
  obtain ⟨hi0, hi1, hl⟩ := hinv
  (split <;> rename_i hc <;> (try (simp only [hbin, hcmp, hun, hconv, hnot, hbeq, hmm, hscmp, hsadd, hslen, hsat, heqs, hofNat, binStd, cmpStd, unStd, scmpStd, maxI, Bool.not_eq_true', Bool.not_eq_false', decide_eq_true_eq, decide_eq_false_iff_not, Int.not_lt, Int.not_le, if_true, if_false, Bool.false_eq_true, beq_iff_eq, bne_iff_ne, ne_eq, Bool.not_eq_eq_eq_not, Bool.not_true, Bool.not_false, beq_eq_false_iff_ne, bne_eq_false_iff_eq, Int.ofNat_eq_natCast, Bool.not_not, not_true_eq_false, not_false_eq_true, reduceCtorEq] at hc)) <;> (try cbv))
  · obtain ⟨⟨len, ps, nx⟩, hd, hrow⟩ := get_map (f := sgRow) (ds := ss) (i := i) hi0 (by omega)
    obtain ⟨q1, eq1⟩ : ∃ x, ps.map pcRow = x := ⟨_, rfl⟩
    obtain ⟨n1, en1⟩ : ∃ x, nx.map nxRow = x := ⟨_, rfl⟩
    have hrow : es[i.toNat]? = some [.int .i64 len, .list 2 q1, .list 1 n1] := by rw [hes, ← eq1, ← en1]; exact hrow
    have hql : q1.length = ps.length := by rw [← eq1]; simp
    (obtain ⟨K, eK, K0, Kn⟩ : ∃ L : Int, wlen q1 = L ∧ 0 ≤ L ∧ L.toNat = q1.length := ⟨(q1.length : Int), by rw [hlen], Int.natCast_nonneg _, Int.toNat_natCast _⟩)
    obtain ⟨i', ei'⟩ : ∃ x, i + 1 = x := ⟨_, rfl⟩
    have ei : wbin .add .i64 i 1 = i' := by rw [hbin, i_add (by omega) (by omega)]; exact ei'
    have hT : (L - i').toNat < (L - i).toNat := by omega
    refine Idx.mk [.int .i64 len, .list 2 q1, .list 1 n1] hi0 hrow ?_
    cbv
    repeat' (first | exact hR' _ _ ⟨_, Vw.same rfl, hF⟩ | (split <;> rename_i h <;> (try (simp only [eK] at h)) <;> (try (simp only [hbin, hcmp, hun, hconv, hnot, hbeq, hmm, hscmp, hsadd, hslen, hsat, heqs, hofNat, binStd, cmpStd, unStd, scmpStd, maxI, Bool.not_eq_true', Bool.not_eq_false', decide_eq_true_eq, decide_eq_false_iff_not, Int.not_lt, Int.not_le, if_true, if_false, Bool.false_eq_true, beq_iff_eq, bne_iff_ne, ne_eq, Bool.not_eq_eq_eq_not, Bool.not_true, Bool.not_false, beq_eq_false_iff_ne, bne_eq_false_iff_eq, Int.ofNat_eq_natCast, Bool.not_not, not_true_eq_false, not_false_eq_true, reduceCtorEq] at h)) <;> (try cbv)))
    refine hN i' _ _ ?hx ?hI hT
    case hx => (refine Wk.eqz (id) (by first | exact fun i _ j _ e => e | (simp only [List.length_cons, List.length_nil]; decide)) ?_; cbv; (repeat' (first | exact trivial | rfl | assumption | apply And.intro | (simp only [hbin, hcmp, hun, hconv, hnot, hbeq, hmm, hscmp, hsadd, hslen, hsat, heqs, hofNat, binStd, cmpStd, unStd, scmpStd, maxI, Bool.not_eq_true', Bool.not_eq_false', decide_eq_true_eq, decide_eq_false_iff_not, Int.not_lt, Int.not_le, if_true, if_false, Bool.false_eq_true, beq_iff_eq, bne_iff_ne, ne_eq, Bool.not_eq_eq_eq_not, Bool.not_true, Bool.not_false, beq_eq_false_iff_ne, bne_eq_false_iff_eq, Int.ofNat_eq_natCast, Bool.not_not, not_true_eq_false, not_false_eq_true, reduceCtorEq]; first | done | assumption) | exact RowsZ.same (by assumption) (by first | assumption | rfl) | exact FzL.mk rfl rfl rfl (by assumption) (by first | assumption | rfl) (by decide) | (refine RowsZ.one ?_; cbv))))
    case hI =>
      refine ⟨by omega, by omega, ?_⟩
      rw [← ei']
      refine all_step hi0 hl fun m hm => ?_
      rw [hd] at hm
      obtain rfl : (⟨len, ps, nx⟩ : Sg) = m := by simpa using hm
      simp only; omega
  refine hE _ _ _ ?_
  cbv
  have hps : ∀ s, s ∈ ss → s.ps.length ≤ 1000 := fun s hs => by
    obtain ⟨j, hj⟩ := List.mem_iff_getElem?.1 hs
    have := hl j (by have := (List.getElem?_eq_some_iff.1 hj).1; omega) s hj
    omega
  refine Call.stepE (by rw [← hP]; exact e_refsT20 ss gs es ds hes hds (by omega) (by omega) hps) (by exact hut) ?_
  cbv
  refine Call.step (by rw [← hP]; exact e_check11 ss gs es ds hes hds) (by exact hut) ?_
  rintro r ⟨e, i, rfl, hok⟩
  cbv
  (split <;> rename_i h1 <;> (try (simp only [hbin, hcmp, hun, hconv, hnot, hbeq, hmm, hscmp, hsadd, hslen, hsat, heqs, hofNat, binStd, cmpStd, unStd, scmpStd, maxI, Bool.not_eq_true', Bool.not_eq_false', decide_eq_true_eq, decide_eq_false_iff_not, Int.not_lt, Int.not_le, if_true, if_false, Bool.false_eq_true, beq_iff_eq, bne_iff_ne, ne_eq, Bool.not_eq_eq_eq_not, Bool.not_true, Bool.not_false, beq_eq_false_iff_ne, bne_eq_false_iff_eq, Int.ofNat_eq_natCast, Bool.not_not, not_true_eq_false, not_false_eq_true, reduceCtorEq] at h1)) <;> (try cbv))
  rotate_left 1
  · exact ⟨_, Vw.same rfl, hF⟩
  have hT := hok h1
  (split <;> rename_i h2 <;> (try (simp only [eL] at h2)) <;> (try (simp only [hbin, hcmp, hun, hconv, hnot, hbeq, hmm, hscmp, hsadd, hslen, hsat, heqs, hofNat, binStd, cmpStd, unStd, scmpStd, maxI, Bool.not_eq_true', Bool.not_eq_false', decide_eq_true_eq, decide_eq_false_iff_not, Int.not_lt, Int.not_le, if_true, if_false, Bool.false_eq_true, beq_iff_eq, bne_iff_ne, ne_eq, Bool.not_eq_eq_eq_not, Bool.not_true, Bool.not_false, beq_eq_false_iff_ne, bne_eq_false_iff_eq, Int.ofNat_eq_natCast, Bool.not_not, not_true_eq_false, not_false_eq_true, reduceCtorEq] at h2)) <;> (try cbv))
  rotate_left 1
  · exact ⟨_, Vw.same rfl, hF⟩
  (split <;> rename_i h3 <;> (try (simp only [eL] at h3)) <;> (try (simp only [hbin, hcmp, hun, hconv, hnot, hbeq, hmm, hscmp, hsadd, hslen, hsat, heqs, hofNat, binStd, cmpStd, unStd, scmpStd, maxI, Bool.not_eq_true', Bool.not_eq_false', decide_eq_true_eq, decide_eq_false_iff_not, Int.not_lt, Int.not_le, if_true, if_false, Bool.false_eq_true, beq_iff_eq, bne_iff_ne, ne_eq, Bool.not_eq_eq_eq_not, Bool.not_true, Bool.not_false, beq_eq_false_iff_ne, bne_eq_false_iff_eq, Int.ofNat_eq_natCast, Bool.not_not, not_true_eq_false, not_false_eq_true, reduceCtorEq] at h3)) <;> (try cbv))
  rotate_left 1
  · exact ⟨_, Vw.same rfl, hF⟩
  (split <;> rename_i h4 <;> (try (simp only [eL] at h4)) <;> (try (simp only [hbin, hcmp, hun, hconv, hnot, hbeq, hmm, hscmp, hsadd, hslen, hsat, heqs, hofNat, binStd, cmpStd, unStd, scmpStd, maxI, Bool.not_eq_true', Bool.not_eq_false', decide_eq_true_eq, decide_eq_false_iff_not, Int.not_lt, Int.not_le, if_true, if_false, Bool.false_eq_true, beq_iff_eq, bne_iff_ne, ne_eq, Bool.not_eq_eq_eq_not, Bool.not_true, Bool.not_false, beq_eq_false_iff_ne, bne_eq_false_iff_eq, Int.ofNat_eq_natCast, Bool.not_not, not_true_eq_false, not_false_eq_true, reduceCtorEq] at h4)) <;> (try cbv))
  rotate_left 1
  · exact ⟨_, Vw.same rfl, hF⟩
  obtain ⟨sg, hd, hrow⟩ := get_map (f := sgRow) (ds := ss) (i := segment) h2 (by omega)
  have hsg := hT.seg segment.toNat (by omega) sg hd
  obtain ⟨len, ps, nx⟩ := sg
  have hle : len ≤ 1099511627776 := hsg.le
  obtain ⟨q1, eq1⟩ : ∃ x, ps.map pcRow = x := ⟨_, rfl⟩
  obtain ⟨n1, en1⟩ : ∃ x, nx.map nxRow = x := ⟨_, rfl⟩
  have hrow : es[segment.toNat]? = some [.int .i64 len, .list 2 q1, .list 1 n1] := by rw [hes, ← eq1, ← en1]; exact hrow
  refine Idx.mk [.int .i64 len, .list 2 q1, .list 1 n1] h2 hrow ?_
  cbv
  refine ⟨_, Vw.same rfl, hR _ ⟨_, rfl, fun ho => ⟨hT, hps, b1, b2, ⟨h2, by omega⟩, ?_⟩⟩⟩
  rw [hcmp] at ho
  have : from_ ≤ len := by simpa [cmpStd] using ho
  omega
theorem e_small20 (a b : Int) (o : Bool) (ho : decide (a ≤ b ∧ -35184372088832 ≤ a ∧ b ≤ 35184372088832) = o) : PCalls Try.prog 21 [.agg [.int .i64 a, .int .i64 b]] (· = .bool o) := by
  (refine PCalls.ofY Try.func21 (by kernel_rfl) (by kernel_rfl) fun w hw R hR => ?_); (obtain ⟨wbin, wcmp, wun, wconv, wnot, wbeq, wmm, wscmp, wsadd, wslen, wsat, weqs, wlen, wnlen, wofNat, wtake, wdrop, wapp, wzero, wnat⟩ := w); (have hbin : wbin = binStd := congrArg Prims.bin hw); (have hcmp : wcmp = cmpStd := congrArg Prims.cmp hw); (have hun : wun = unStd := congrArg Prims.un hw); (have hconv : wconv = fun k n => k.wrap n := congrArg Prims.conv hw); (have hnot : wnot = fun b => !b := congrArg Prims.not hw); (have hbeq : wbeq = fun a b => a == b := congrArg Prims.beq hw); (have hmm : wmm = maxI := congrArg Prims.mm hw); (have hscmp : wscmp = scmpStd := congrArg Prims.scmp hw); (have hsadd : wsadd = fun x y => x ++ y := congrArg Prims.sadd hw); (have hslen : wslen = fun s => (s.size : Int) := congrArg Prims.slen hw); (have hsat : wsat = std.sat := congrArg Prims.sat hw); (have heqs : weqs = fun a b os => (eqOffs a b os).getD false := congrArg Prims.eqs hw); (have hlen : wlen = fun es => (es.length : Int) := congrArg Prims.len hw); (have hnlen : wnlen = fun es => es.length := congrArg Prims.nlen hw); (have hofNat : wofNat = (fun n : Nat => (n : Int)) := congrArg Prims.ofNat hw); (have htake : wtake = fun es b => es.take b.toNat := congrArg Prims.take hw); (have hdrop : wdrop = fun es a => es.drop a.toNat := congrArg Prims.drop hw); (have happ : wapp = fun a b => a ++ b := congrArg Prims.app hw); (have hzero : wzero = fun n z => List.replicate n.toNat z := congrArg Prims.zero hw); (have hnat : wnat = fun n => n.toNat := congrArg Prims.nat hw); (conv => arg 2; cbv); (generalize hP : Try.prog = P); cbv
  have hF : ∀ (o' : Bool) (h : AHeap), (o' = true ↔ (a ≤ b ∧ -35184372088832 ≤ a ∧ b ≤ 35184372088832)) → Ret [.bool o'] h R := fun o' h k => ⟨_, Vw.same rfl, hR _ (congrArg AV.bool (by rw [← ho, Bool.eq_iff_iff, k, decide_eq_true_iff]))⟩
  repeat' (split <;> rename_i h1 <;> (try (simp only [hbin, hcmp, hun, hconv, hnot, hbeq, hmm, hscmp, hsadd, hslen, hsat, heqs, hofNat, binStd, cmpStd, unStd, scmpStd, maxI, Bool.not_eq_true', Bool.not_eq_false', decide_eq_true_eq, decide_eq_false_iff_not, Int.not_lt, Int.not_le, if_true, if_false, Bool.false_eq_true, beq_iff_eq, bne_iff_ne, ne_eq, Bool.not_eq_eq_eq_not, Bool.not_true, Bool.not_false, beq_eq_false_iff_ne, bne_eq_false_iff_eq, Int.ofNat_eq_natCast, Bool.not_not, not_true_eq_false, not_false_eq_true, reduceCtorEq] at h1)) <;> (try cbv))
  all_goals first
    | (refine hF false _ ?_; simp; omega)
    | (refine hF _ _ ?_; rw [hcmp]; simp only [cmpStd, decide_eq_true_iff]; omega)
end Go.Proofs.Ytpiocfmdjgbamaa

/- Half of a sum of numbers of 64 bits. -/
set_option linter.unusedVariables false
set_option linter.unusedSimpArgs false
set_option maxRecDepth 100000
namespace Go.Proofs.Ytpiocfmdjgbamaa
open Go Go.RowKit Go.Eng
/-- A number of 64 bits. -/
def I64 (a : Int) : Prop := -9223372036854775808 ≤ a ∧ a ≤ 9223372036854775807
theorem and_xor (x y : Nat) : 2 * (x &&& y) + (x ^^^ y) = x + y := by
  induction x using Nat.strongRecOn generalizing y with
  | ind x ih =>
    by_cases hx : x = 0
    · subst hx; simp
    · have h := ih (x / 2) (by omega) (y / 2)
      have h1 : (x &&& y) / 2 = x / 2 &&& y / 2 := Nat.and_div_two
      have h2 : (x ^^^ y) / 2 = x / 2 ^^^ y / 2 := Nat.xor_div_two
      have h3 := Nat.and_mod_two_eq_one (a := x) (b := y)
      have h4 := Nat.xor_mod_two_eq_one (a := x) (b := y)
      omega
theorem div63 (x : Nat) (hx : x < 18446744073709551616) : (x < 9223372036854775808 ∧ x / 2 ^ 63 = 0) ∨ (9223372036854775808 ≤ x ∧ x / 2 ^ 63 = 1) := by
  have e : (2 : Nat) ^ 63 = 9223372036854775808 := by decide
  rw [e]; omega
theorem and_top (x y : Nat) (hx : x < 18446744073709551616) (hy : y < 18446744073709551616) (hu : x &&& y < 18446744073709551616) :
    (9223372036854775808 ≤ x &&& y ↔ 9223372036854775808 ≤ x ∧ 9223372036854775808 ≤ y) := by
  have h : (x &&& y) / 2 ^ 63 = x / 2 ^ 63 &&& y / 2 ^ 63 := Nat.and_div_two_pow
  rcases div63 x hx with ⟨l1, a1⟩ | ⟨l1, a1⟩ <;> rcases div63 y hy with ⟨l2, a2⟩ | ⟨l2, a2⟩ <;> rcases div63 _ hu with ⟨l3, a3⟩ | ⟨l3, a3⟩ <;> rw [a1, a2, a3] at h <;> first | (exfalso; revert h; decide) | omega
theorem xor_top (x y : Nat) (hx : x < 18446744073709551616) (hy : y < 18446744073709551616) (hu : x ^^^ y < 18446744073709551616) :
    (9223372036854775808 ≤ x ^^^ y ↔ ¬ (9223372036854775808 ≤ x ↔ 9223372036854775808 ≤ y)) := by
  have h : (x ^^^ y) / 2 ^ 63 = x / 2 ^ 63 ^^^ y / 2 ^ 63 := Nat.xor_div_two_pow
  rcases div63 x hx with ⟨l1, a1⟩ | ⟨l1, a1⟩ <;> rcases div63 y hy with ⟨l2, a2⟩ | ⟨l2, a2⟩ <;> rcases div63 _ hu with ⟨l3, a3⟩ | ⟨l3, a3⟩ <;> rw [a1, a2, a3] at h <;> first | (exfalso; revert h; decide) | omega
theorem bits_and_i64 (a b : Int) : bits .and .i64 a b = wrap64 (((a % 18446744073709551616).toNat &&& (b % 18446744073709551616).toNat : Nat) : Int) := by
  show IntKind.i64.wrap ((BitVec.ofInt 64 a &&& BitVec.ofInt 64 b).toNat : Int) = _
  rw [BitVec.toNat_and, BitVec.toNat_ofInt, BitVec.toNat_ofInt, IntWalk.i64_left]
  rfl
theorem bits_xor_i64 (a b : Int) : bits .xor .i64 a b = wrap64 (((a % 18446744073709551616).toNat ^^^ (b % 18446744073709551616).toNat : Nat) : Int) := by
  show IntKind.i64.wrap ((BitVec.ofInt 64 a ^^^ BitVec.ofInt 64 b).toNat : Int) = _
  rw [BitVec.toNat_xor, BitVec.toNat_ofInt, BitVec.toNat_ofInt, IntWalk.i64_left]
  rfl
theorem xor_lt64 (x y : Nat) (hx : x < 18446744073709551616) (hy : y < 18446744073709551616) : x ^^^ y < 18446744073709551616 := by
  have e : (2 : Nat) ^ 64 = 18446744073709551616 := by decide
  rw [← e] at hx hy ⊢
  exact Nat.xor_lt_two_pow hx hy
theorem wrap_nat (u : Nat) (h : u < 18446744073709551616) : wrap64 (u : Int) = if 9223372036854775808 ≤ u then (u : Int) - 18446744073709551616 else u := by
  unfold wrap64; split <;> omega
theorem mid_core (a b : Int) (x y u v : Nat) (ha : I64 a) (hb : I64 b) (ex : (x : Int) = a ∨ (x : Int) = a + 18446744073709551616) (ey : (y : Int) = b ∨ (y : Int) = b + 18446744073709551616)
    (hx : x < 18446744073709551616) (hy : y < 18446744073709551616) (hu : u < 18446744073709551616) (hv : v < 18446744073709551616) (h1 : 2 * u + v = x + y)
    (h2 : 9223372036854775808 ≤ u ↔ 9223372036854775808 ≤ x ∧ 9223372036854775808 ≤ y) (h3 : 9223372036854775808 ≤ v ↔ ¬ (9223372036854775808 ≤ x ↔ 9223372036854775808 ≤ y)) :
    wrap64 (wrap64 (u : Int) + wrap64 (v : Int) / 2) = (a + b) / 2 := by
  unfold I64 at ha hb
  rw [wrap_nat u hu, wrap_nat v hv]
  have key : 2 * (if 9223372036854775808 ≤ u then (u : Int) - 18446744073709551616 else u) + (if 9223372036854775808 ≤ v then (v : Int) - 18446744073709551616 else v) = a + b := by
    split <;> split <;> omega
  generalize (if 9223372036854775808 ≤ u then (u : Int) - 18446744073709551616 else u) = p at *
  generalize (if 9223372036854775808 ≤ v then (v : Int) - 18446744073709551616 else v) = q at *
  have e : p + q / 2 = (a + b) / 2 := by omega
  rw [e, IntWalk.wrap64_in _ (by omega)]
theorem mid_eq (a b : Int) (ha : I64 a) (hb : I64 b) : wrap64 (bits .and .i64 a b + bits .xor .i64 a b / 2) = (a + b) / 2 := by
  rw [bits_and_i64, bits_xor_i64]
  have hx : (a % 18446744073709551616).toNat < 18446744073709551616 := by omega
  have hy : (b % 18446744073709551616).toNat < 18446744073709551616 := by omega
  have hu := Nat.lt_of_le_of_lt (Nat.and_le_left (n := (a % 18446744073709551616).toNat) (m := (b % 18446744073709551616).toNat)) hx
  have hv := xor_lt64 _ _ hx hy
  exact mid_core a b _ _ _ _ ha hb (by unfold I64 at ha; omega) (by unfold I64 at hb; omega) hx hy hu hv (and_xor _ _) (and_top _ _ hx hy hu) (xor_top _ _ hx hy hv)
theorem e_nmid (a b : Int) (ha : I64 a) (hb : I64 b) : PCalls Try.prog 93 [.int .i64 a, .int .i64 b] (· = .int .i64 ((a + b) / 2)) := by
  (refine PCalls.ofY Try.func93 (by kernel_rfl) (by kernel_rfl) fun w hw R hR => ?_); (obtain ⟨wbin, wcmp, wun, wconv, wnot, wbeq, wmm, wscmp, wsadd, wslen, wsat, weqs, wlen, wnlen, wofNat, wtake, wdrop, wapp, wzero, wnat⟩ := w); (have hbin : wbin = binStd := congrArg Prims.bin hw); (have hcmp : wcmp = cmpStd := congrArg Prims.cmp hw); (have hun : wun = unStd := congrArg Prims.un hw); (have hconv : wconv = fun k n => k.wrap n := congrArg Prims.conv hw); (have hnot : wnot = fun b => !b := congrArg Prims.not hw); (have hbeq : wbeq = fun a b => a == b := congrArg Prims.beq hw); (have hmm : wmm = maxI := congrArg Prims.mm hw); (have hscmp : wscmp = scmpStd := congrArg Prims.scmp hw); (have hsadd : wsadd = fun x y => x ++ y := congrArg Prims.sadd hw); (have hslen : wslen = fun s => (s.size : Int) := congrArg Prims.slen hw); (have hsat : wsat = std.sat := congrArg Prims.sat hw); (have heqs : weqs = fun a b os => (eqOffs a b os).getD false := congrArg Prims.eqs hw); (have hlen : wlen = fun es => (es.length : Int) := congrArg Prims.len hw); (have hnlen : wnlen = fun es => es.length := congrArg Prims.nlen hw); (have hofNat : wofNat = (fun n : Nat => (n : Int)) := congrArg Prims.ofNat hw); (have htake : wtake = fun es b => es.take b.toNat := congrArg Prims.take hw); (have hdrop : wdrop = fun es a => es.drop a.toNat := congrArg Prims.drop hw); (have happ : wapp = fun a b => a ++ b := congrArg Prims.app hw); (have hzero : wzero = fun n z => List.replicate n.toNat z := congrArg Prims.zero hw); (have hnat : wnat = fun n => n.toNat := congrArg Prims.nat hw); (conv => arg 2; cbv); (generalize hP : Try.prog = P); cbv
  refine Nn.mk (by decide) ?_
  refine ⟨_, Vw.same rfl, hR _ (congrArg (AV.int .i64) ?_)⟩
  rw [hbin]
  have e1 : binStd .shr .i64 (binStd .xor .i64 a b) 1 = bits .xor .i64 a b / 2 := by
    show (bits .xor .i64 a b).fdiv (2 ^ (min (1 : Int).toNat 64)) = _
    rw [show (2 : Int) ^ (min (1 : Int).toNat 64) = 2 by decide, Int.fdiv_eq_ediv_of_nonneg _ (by decide)]
  rw [e1]
  show IntKind.i64.wrap (bits .and .i64 a b + bits .xor .i64 a b / 2) = _
  rw [IntWalk.i64_left]
  exact mid_eq a b ha hb
end Go.Proofs.Ytpiocfmdjgbamaa

/- Sums, and spans, of numbers that are not too great, by the engine. -/
set_option linter.unusedVariables false
set_option linter.unusedSimpArgs false
namespace Go.Proofs.Ytpiocfmdjgbamaa
open Go Go.RowKit Go.Eng
set_option maxRecDepth 100000
/-- A number of at most 2^62. -/
def I62 (a : Int) : Prop := -4611686018427387904 ≤ a ∧ a ≤ 4611686018427387903
theorem e_xadd {a b d : Int} (h : a + b = d) (ha : I62 a) (hb : I62 b) : PCalls Try.prog 90 [.int .i64 a, .int .i64 b] (· = .tuple [.int .i64 d, .bool true]) := by
  unfold I62 at ha hb
  (refine PCalls.ofY Try.func90 (by kernel_rfl) (by kernel_rfl) fun w hw R hR => ?_); (obtain ⟨wbin, wcmp, wun, wconv, wnot, wbeq, wmm, wscmp, wsadd, wslen, wsat, weqs, wlen, wnlen, wofNat, wtake, wdrop, wapp, wzero, wnat⟩ := w); (have hbin : wbin = binStd := congrArg Prims.bin hw); (have hcmp : wcmp = cmpStd := congrArg Prims.cmp hw); (have hun : wun = unStd := congrArg Prims.un hw); (have hconv : wconv = fun k n => k.wrap n := congrArg Prims.conv hw); (have hnot : wnot = fun b => !b := congrArg Prims.not hw); (have hbeq : wbeq = fun a b => a == b := congrArg Prims.beq hw); (have hmm : wmm = maxI := congrArg Prims.mm hw); (have hscmp : wscmp = scmpStd := congrArg Prims.scmp hw); (have hsadd : wsadd = fun x y => x ++ y := congrArg Prims.sadd hw); (have hslen : wslen = fun s => (s.size : Int) := congrArg Prims.slen hw); (have hsat : wsat = std.sat := congrArg Prims.sat hw); (have heqs : weqs = fun a b os => (eqOffs a b os).getD false := congrArg Prims.eqs hw); (have hlen : wlen = fun es => (es.length : Int) := congrArg Prims.len hw); (have hnlen : wnlen = fun es => es.length := congrArg Prims.nlen hw); (have hofNat : wofNat = (fun n : Nat => (n : Int)) := congrArg Prims.ofNat hw); (have htake : wtake = fun es b => es.take b.toNat := congrArg Prims.take hw); (have hdrop : wdrop = fun es a => es.drop a.toNat := congrArg Prims.drop hw); (have happ : wapp = fun a b => a ++ b := congrArg Prims.app hw); (have hzero : wzero = fun n z => List.replicate n.toNat z := congrArg Prims.zero hw); (have hnat : wnat = fun n => n.toNat := congrArg Prims.nat hw); (conv => arg 2; cbv); (generalize hP : Try.prog = P); cbv
  have ed : wbin .add .i64 a b = d := by rw [hbin, i_add (by omega) (by omega)]; exact h
  simp only [ed]
  have hb1 : wbeq (wcmp .geq a 0) (wcmp .geq b 0) = false ∨ wbeq (wcmp .geq d 0) (wcmp .geq a 0) = true := by
    rw [hbeq, hcmp]
    simp only [cmpStd, beq_iff_eq, beq_eq_false_iff_ne, ne_eq, decide_eq_decide]
    omega
  repeat' (split <;> rename_i h1 <;> (try (simp only [hbin, hcmp, hun, hconv, hnot, hbeq, hmm, hscmp, hsadd, hslen, hsat, heqs, hofNat, binStd, cmpStd, unStd, scmpStd, maxI, Bool.not_eq_true', Bool.not_eq_false', decide_eq_true_eq, decide_eq_false_iff_not, Int.not_lt, Int.not_le, if_true, if_false, Bool.false_eq_true, beq_iff_eq, bne_iff_ne, ne_eq, Bool.not_eq_eq_eq_not, Bool.not_true, Bool.not_false, beq_eq_false_iff_ne, bne_eq_false_iff_eq, Int.ofNat_eq_natCast, Bool.not_not, not_true_eq_false, not_false_eq_true, reduceCtorEq] at h1)) <;> (try cbv))
  all_goals first
    | exact ⟨_, Vw.same rfl, hR _ rfl⟩
    | (exfalso; simp only [hbeq, hcmp, cmpStd, beq_iff_eq, beq_eq_false_iff_ne, ne_eq, decide_eq_decide] at *; omega)
theorem e_xsub {a b d : Int} (h : a - b = d) (ha : I62 a) (hb : I62 b) : PCalls Try.prog 97 [.int .i64 a, .int .i64 b] (· = .tuple [.int .i64 d, .bool true]) := by
  unfold I62 at ha hb
  (refine PCalls.ofY Try.func97 (by kernel_rfl) (by kernel_rfl) fun w hw R hR => ?_); (obtain ⟨wbin, wcmp, wun, wconv, wnot, wbeq, wmm, wscmp, wsadd, wslen, wsat, weqs, wlen, wnlen, wofNat, wtake, wdrop, wapp, wzero, wnat⟩ := w); (have hbin : wbin = binStd := congrArg Prims.bin hw); (have hcmp : wcmp = cmpStd := congrArg Prims.cmp hw); (have hun : wun = unStd := congrArg Prims.un hw); (have hconv : wconv = fun k n => k.wrap n := congrArg Prims.conv hw); (have hnot : wnot = fun b => !b := congrArg Prims.not hw); (have hbeq : wbeq = fun a b => a == b := congrArg Prims.beq hw); (have hmm : wmm = maxI := congrArg Prims.mm hw); (have hscmp : wscmp = scmpStd := congrArg Prims.scmp hw); (have hsadd : wsadd = fun x y => x ++ y := congrArg Prims.sadd hw); (have hslen : wslen = fun s => (s.size : Int) := congrArg Prims.slen hw); (have hsat : wsat = std.sat := congrArg Prims.sat hw); (have heqs : weqs = fun a b os => (eqOffs a b os).getD false := congrArg Prims.eqs hw); (have hlen : wlen = fun es => (es.length : Int) := congrArg Prims.len hw); (have hnlen : wnlen = fun es => es.length := congrArg Prims.nlen hw); (have hofNat : wofNat = (fun n : Nat => (n : Int)) := congrArg Prims.ofNat hw); (have htake : wtake = fun es b => es.take b.toNat := congrArg Prims.take hw); (have hdrop : wdrop = fun es a => es.drop a.toNat := congrArg Prims.drop hw); (have happ : wapp = fun a b => a ++ b := congrArg Prims.app hw); (have hzero : wzero = fun n z => List.replicate n.toNat z := congrArg Prims.zero hw); (have hnat : wnat = fun n => n.toNat := congrArg Prims.nat hw); (conv => arg 2; cbv); (generalize hP : Try.prog = P); cbv
  have ed : wbin .sub .i64 a b = d := by rw [hbin, i_sub (by omega) (by omega)]; exact h
  simp only [ed]
  have hb1 : wbeq (wcmp .geq a 0) (wcmp .geq b 0) = true ∨ wbeq (wcmp .geq d 0) (wcmp .geq a 0) = true := by
    rw [hbeq, hcmp]
    simp only [cmpStd, beq_iff_eq, decide_eq_decide]
    omega
  repeat' (split <;> rename_i h1 <;> (try (simp only [hbin, hcmp, hun, hconv, hnot, hbeq, hmm, hscmp, hsadd, hslen, hsat, heqs, hofNat, binStd, cmpStd, unStd, scmpStd, maxI, Bool.not_eq_true', Bool.not_eq_false', decide_eq_true_eq, decide_eq_false_iff_not, Int.not_lt, Int.not_le, if_true, if_false, Bool.false_eq_true, beq_iff_eq, bne_iff_ne, ne_eq, Bool.not_eq_eq_eq_not, Bool.not_true, Bool.not_false, beq_eq_false_iff_ne, bne_eq_false_iff_eq, Int.ofNat_eq_natCast, Bool.not_not, not_true_eq_false, not_false_eq_true, reduceCtorEq] at h1)) <;> (try cbv))
  all_goals first
    | exact ⟨_, Vw.same rfl, hR _ rfl⟩
    | (exfalso; simp only [hbeq, hcmp, cmpStd, beq_iff_eq, decide_eq_decide] at *; omega)
theorem e_xnear (d : Int) (b : Bool) : PCalls Try.prog 94 [.int .i64 d, .bool true, .bool b] (· = .int .i64 d) := by
  (refine PCalls.ofY Try.func94 (by kernel_rfl) (by kernel_rfl) fun w hw R hR => ?_); (obtain ⟨wbin, wcmp, wun, wconv, wnot, wbeq, wmm, wscmp, wsadd, wslen, wsat, weqs, wlen, wnlen, wofNat, wtake, wdrop, wapp, wzero, wnat⟩ := w); (have hbin : wbin = binStd := congrArg Prims.bin hw); (have hcmp : wcmp = cmpStd := congrArg Prims.cmp hw); (have hun : wun = unStd := congrArg Prims.un hw); (have hconv : wconv = fun k n => k.wrap n := congrArg Prims.conv hw); (have hnot : wnot = fun b => !b := congrArg Prims.not hw); (have hbeq : wbeq = fun a b => a == b := congrArg Prims.beq hw); (have hmm : wmm = maxI := congrArg Prims.mm hw); (have hscmp : wscmp = scmpStd := congrArg Prims.scmp hw); (have hsadd : wsadd = fun x y => x ++ y := congrArg Prims.sadd hw); (have hslen : wslen = fun s => (s.size : Int) := congrArg Prims.slen hw); (have hsat : wsat = std.sat := congrArg Prims.sat hw); (have heqs : weqs = fun a b os => (eqOffs a b os).getD false := congrArg Prims.eqs hw); (have hlen : wlen = fun es => (es.length : Int) := congrArg Prims.len hw); (have hnlen : wnlen = fun es => es.length := congrArg Prims.nlen hw); (have hofNat : wofNat = (fun n : Nat => (n : Int)) := congrArg Prims.ofNat hw); (have htake : wtake = fun es b => es.take b.toNat := congrArg Prims.take hw); (have hdrop : wdrop = fun es a => es.drop a.toNat := congrArg Prims.drop hw); (have happ : wapp = fun a b => a ++ b := congrArg Prims.app hw); (have hzero : wzero = fun n z => List.replicate n.toNat z := congrArg Prims.zero hw); (have hnat : wnat = fun n => n.toNat := congrArg Prims.nat hw); (conv => arg 2; cbv); (generalize hP : Try.prog = P); cbv
  exact ⟨_, Vw.same rfl, hR _ rfl⟩
theorem e_xaddSat {a b d : Int} (h : a + b = d) (ha : I62 a) (hb : I62 b) : PCalls Try.prog 66 [.int .i64 a, .int .i64 b] (· = .int .i64 d) := by
  (refine PCalls.ofY Try.func66 (by kernel_rfl) (by kernel_rfl) fun w hw R hR => ?_); (obtain ⟨wbin, wcmp, wun, wconv, wnot, wbeq, wmm, wscmp, wsadd, wslen, wsat, weqs, wlen, wnlen, wofNat, wtake, wdrop, wapp, wzero, wnat⟩ := w); (have hbin : wbin = binStd := congrArg Prims.bin hw); (have hcmp : wcmp = cmpStd := congrArg Prims.cmp hw); (have hun : wun = unStd := congrArg Prims.un hw); (have hconv : wconv = fun k n => k.wrap n := congrArg Prims.conv hw); (have hnot : wnot = fun b => !b := congrArg Prims.not hw); (have hbeq : wbeq = fun a b => a == b := congrArg Prims.beq hw); (have hmm : wmm = maxI := congrArg Prims.mm hw); (have hscmp : wscmp = scmpStd := congrArg Prims.scmp hw); (have hsadd : wsadd = fun x y => x ++ y := congrArg Prims.sadd hw); (have hslen : wslen = fun s => (s.size : Int) := congrArg Prims.slen hw); (have hsat : wsat = std.sat := congrArg Prims.sat hw); (have heqs : weqs = fun a b os => (eqOffs a b os).getD false := congrArg Prims.eqs hw); (have hlen : wlen = fun es => (es.length : Int) := congrArg Prims.len hw); (have hnlen : wnlen = fun es => es.length := congrArg Prims.nlen hw); (have hofNat : wofNat = (fun n : Nat => (n : Int)) := congrArg Prims.ofNat hw); (have htake : wtake = fun es b => es.take b.toNat := congrArg Prims.take hw); (have hdrop : wdrop = fun es a => es.drop a.toNat := congrArg Prims.drop hw); (have happ : wapp = fun a b => a ++ b := congrArg Prims.app hw); (have hzero : wzero = fun n z => List.replicate n.toNat z := congrArg Prims.zero hw); (have hnat : wnat = fun n => n.toNat := congrArg Prims.nat hw); (conv => arg 2; cbv); (generalize hP : Try.prog = P); cbv
  refine Call.stepE (by rw [← hP]; exact e_xadd h ha hb) rfl ?_
  cbv
  obtain ⟨o, eo⟩ : ∃ o, wcmp .lss a 0 = o := ⟨_, rfl⟩
  simp only [eo]
  refine Call.stepE (by rw [← hP]; exact e_xnear d o) rfl ?_
  cbv
  exact ⟨_, Vw.same rfl, hR _ rfl⟩
theorem mmT' (a b : Int) : maxI true a b = max a b := by simp only [maxI, if_true]; split <;> omega
theorem mmF' (a b : Int) : maxI false a b = min a b := by simp only [maxI, Bool.false_eq_true, if_false]; split <;> omega
theorem e_xclamp {x lo hi v : Int} (h : max lo (min x hi) = v) : PCalls Try.prog 65 [.int .i64 x, .int .i64 lo, .int .i64 hi] (· = .int .i64 v) := by
  (refine PCalls.ofY Try.func65 (by kernel_rfl) (by kernel_rfl) fun w hw R hR => ?_); (obtain ⟨wbin, wcmp, wun, wconv, wnot, wbeq, wmm, wscmp, wsadd, wslen, wsat, weqs, wlen, wnlen, wofNat, wtake, wdrop, wapp, wzero, wnat⟩ := w); (have hbin : wbin = binStd := congrArg Prims.bin hw); (have hcmp : wcmp = cmpStd := congrArg Prims.cmp hw); (have hun : wun = unStd := congrArg Prims.un hw); (have hconv : wconv = fun k n => k.wrap n := congrArg Prims.conv hw); (have hnot : wnot = fun b => !b := congrArg Prims.not hw); (have hbeq : wbeq = fun a b => a == b := congrArg Prims.beq hw); (have hmm : wmm = maxI := congrArg Prims.mm hw); (have hscmp : wscmp = scmpStd := congrArg Prims.scmp hw); (have hsadd : wsadd = fun x y => x ++ y := congrArg Prims.sadd hw); (have hslen : wslen = fun s => (s.size : Int) := congrArg Prims.slen hw); (have hsat : wsat = std.sat := congrArg Prims.sat hw); (have heqs : weqs = fun a b os => (eqOffs a b os).getD false := congrArg Prims.eqs hw); (have hlen : wlen = fun es => (es.length : Int) := congrArg Prims.len hw); (have hnlen : wnlen = fun es => es.length := congrArg Prims.nlen hw); (have hofNat : wofNat = (fun n : Nat => (n : Int)) := congrArg Prims.ofNat hw); (have htake : wtake = fun es b => es.take b.toNat := congrArg Prims.take hw); (have hdrop : wdrop = fun es a => es.drop a.toNat := congrArg Prims.drop hw); (have happ : wapp = fun a b => a ++ b := congrArg Prims.app hw); (have hzero : wzero = fun n z => List.replicate n.toNat z := congrArg Prims.zero hw); (have hnat : wnat = fun n => n.toNat := congrArg Prims.nat hw); (conv => arg 2; cbv); (generalize hP : Try.prog = P); cbv
  obtain ⟨m, em⟩ : ∃ m, min x hi = m := ⟨_, rfl⟩
  have e1 : wmm false x hi = m := by rw [hmm, mmF', em]
  have e2 : wmm true lo m = v := by rw [hmm, mmT', ← h, em]
  simp only [e1, e2]
  exact ⟨_, Vw.same rfl, hR _ rfl⟩
theorem e_xboth {lo hi : Int} (h : lo ≤ hi) : PCalls Try.prog 91 [.int .i64 lo, .bool true, .int .i64 hi, .bool true] (· = .tuple [.agg [.int .i64 lo, .int .i64 hi], .bool true]) := by
  (refine PCalls.ofY Try.func91 (by kernel_rfl) (by kernel_rfl) fun w hw R hR => ?_); (obtain ⟨wbin, wcmp, wun, wconv, wnot, wbeq, wmm, wscmp, wsadd, wslen, wsat, weqs, wlen, wnlen, wofNat, wtake, wdrop, wapp, wzero, wnat⟩ := w); (have hbin : wbin = binStd := congrArg Prims.bin hw); (have hcmp : wcmp = cmpStd := congrArg Prims.cmp hw); (have hun : wun = unStd := congrArg Prims.un hw); (have hconv : wconv = fun k n => k.wrap n := congrArg Prims.conv hw); (have hnot : wnot = fun b => !b := congrArg Prims.not hw); (have hbeq : wbeq = fun a b => a == b := congrArg Prims.beq hw); (have hmm : wmm = maxI := congrArg Prims.mm hw); (have hscmp : wscmp = scmpStd := congrArg Prims.scmp hw); (have hsadd : wsadd = fun x y => x ++ y := congrArg Prims.sadd hw); (have hslen : wslen = fun s => (s.size : Int) := congrArg Prims.slen hw); (have hsat : wsat = std.sat := congrArg Prims.sat hw); (have heqs : weqs = fun a b os => (eqOffs a b os).getD false := congrArg Prims.eqs hw); (have hlen : wlen = fun es => (es.length : Int) := congrArg Prims.len hw); (have hnlen : wnlen = fun es => es.length := congrArg Prims.nlen hw); (have hofNat : wofNat = (fun n : Nat => (n : Int)) := congrArg Prims.ofNat hw); (have htake : wtake = fun es b => es.take b.toNat := congrArg Prims.take hw); (have hdrop : wdrop = fun es a => es.drop a.toNat := congrArg Prims.drop hw); (have happ : wapp = fun a b => a ++ b := congrArg Prims.app hw); (have hzero : wzero = fun n z => List.replicate n.toNat z := congrArg Prims.zero hw); (have hnat : wnat = fun n => n.toNat := congrArg Prims.nat hw); (conv => arg 2; cbv); (generalize hP : Try.prog = P); cbv
  repeat' (split <;> rename_i h1 <;> (try (simp only [hbin, hcmp, hun, hconv, hnot, hbeq, hmm, hscmp, hsadd, hslen, hsat, heqs, hofNat, binStd, cmpStd, unStd, scmpStd, maxI, Bool.not_eq_true', Bool.not_eq_false', decide_eq_true_eq, decide_eq_false_iff_not, Int.not_lt, Int.not_le, if_true, if_false, Bool.false_eq_true, beq_iff_eq, bne_iff_ne, ne_eq, Bool.not_eq_eq_eq_not, Bool.not_true, Bool.not_false, beq_eq_false_iff_ne, bne_eq_false_iff_eq, Int.ofNat_eq_natCast, Bool.not_not, not_true_eq_false, not_false_eq_true, reduceCtorEq] at h1)) <;> (try cbv))
  all_goals first
    | (exfalso; omega)
    | exact ⟨_, Vw.same rfl, hR _ rfl⟩
theorem e_xbothNo {lo hi : Int} (h : hi < lo) : PCalls Try.prog 91 [.int .i64 lo, .bool true, .int .i64 hi, .bool true] (· = .tuple [.agg [.int .i64 0, .int .i64 0], .bool false]) := by
  (refine PCalls.ofY Try.func91 (by kernel_rfl) (by kernel_rfl) fun w hw R hR => ?_); (obtain ⟨wbin, wcmp, wun, wconv, wnot, wbeq, wmm, wscmp, wsadd, wslen, wsat, weqs, wlen, wnlen, wofNat, wtake, wdrop, wapp, wzero, wnat⟩ := w); (have hbin : wbin = binStd := congrArg Prims.bin hw); (have hcmp : wcmp = cmpStd := congrArg Prims.cmp hw); (have hun : wun = unStd := congrArg Prims.un hw); (have hconv : wconv = fun k n => k.wrap n := congrArg Prims.conv hw); (have hnot : wnot = fun b => !b := congrArg Prims.not hw); (have hbeq : wbeq = fun a b => a == b := congrArg Prims.beq hw); (have hmm : wmm = maxI := congrArg Prims.mm hw); (have hscmp : wscmp = scmpStd := congrArg Prims.scmp hw); (have hsadd : wsadd = fun x y => x ++ y := congrArg Prims.sadd hw); (have hslen : wslen = fun s => (s.size : Int) := congrArg Prims.slen hw); (have hsat : wsat = std.sat := congrArg Prims.sat hw); (have heqs : weqs = fun a b os => (eqOffs a b os).getD false := congrArg Prims.eqs hw); (have hlen : wlen = fun es => (es.length : Int) := congrArg Prims.len hw); (have hnlen : wnlen = fun es => es.length := congrArg Prims.nlen hw); (have hofNat : wofNat = (fun n : Nat => (n : Int)) := congrArg Prims.ofNat hw); (have htake : wtake = fun es b => es.take b.toNat := congrArg Prims.take hw); (have hdrop : wdrop = fun es a => es.drop a.toNat := congrArg Prims.drop hw); (have happ : wapp = fun a b => a ++ b := congrArg Prims.app hw); (have hzero : wzero = fun n z => List.replicate n.toNat z := congrArg Prims.zero hw); (have hnat : wnat = fun n => n.toNat := congrArg Prims.nat hw); (conv => arg 2; cbv); (generalize hP : Try.prog = P); cbv
  repeat' (split <;> rename_i h1 <;> (try (simp only [hbin, hcmp, hun, hconv, hnot, hbeq, hmm, hscmp, hsadd, hslen, hsat, heqs, hofNat, binStd, cmpStd, unStd, scmpStd, maxI, Bool.not_eq_true', Bool.not_eq_false', decide_eq_true_eq, decide_eq_false_iff_not, Int.not_lt, Int.not_le, if_true, if_false, Bool.false_eq_true, beq_iff_eq, bne_iff_ne, ne_eq, Bool.not_eq_eq_eq_not, Bool.not_true, Bool.not_false, beq_eq_false_iff_ne, bne_eq_false_iff_eq, Int.ofNat_eq_natCast, Bool.not_not, not_true_eq_false, not_false_eq_true, reduceCtorEq] at h1)) <;> (try cbv))
  all_goals first
    | (exfalso; omega)
    | exact ⟨_, Vw.same rfl, hR _ rfl⟩
theorem e_xright {a b : Int} (o : Bool) (ho : decide (a ≤ b) = o) : PCalls Try.prog 27 [.agg [.int .i64 a, .int .i64 b]] (· = .bool o) := by
  (refine PCalls.ofY Try.func27 (by kernel_rfl) (by kernel_rfl) fun w hw R hR => ?_); (obtain ⟨wbin, wcmp, wun, wconv, wnot, wbeq, wmm, wscmp, wsadd, wslen, wsat, weqs, wlen, wnlen, wofNat, wtake, wdrop, wapp, wzero, wnat⟩ := w); (have hbin : wbin = binStd := congrArg Prims.bin hw); (have hcmp : wcmp = cmpStd := congrArg Prims.cmp hw); (have hun : wun = unStd := congrArg Prims.un hw); (have hconv : wconv = fun k n => k.wrap n := congrArg Prims.conv hw); (have hnot : wnot = fun b => !b := congrArg Prims.not hw); (have hbeq : wbeq = fun a b => a == b := congrArg Prims.beq hw); (have hmm : wmm = maxI := congrArg Prims.mm hw); (have hscmp : wscmp = scmpStd := congrArg Prims.scmp hw); (have hsadd : wsadd = fun x y => x ++ y := congrArg Prims.sadd hw); (have hslen : wslen = fun s => (s.size : Int) := congrArg Prims.slen hw); (have hsat : wsat = std.sat := congrArg Prims.sat hw); (have heqs : weqs = fun a b os => (eqOffs a b os).getD false := congrArg Prims.eqs hw); (have hlen : wlen = fun es => (es.length : Int) := congrArg Prims.len hw); (have hnlen : wnlen = fun es => es.length := congrArg Prims.nlen hw); (have hofNat : wofNat = (fun n : Nat => (n : Int)) := congrArg Prims.ofNat hw); (have htake : wtake = fun es b => es.take b.toNat := congrArg Prims.take hw); (have hdrop : wdrop = fun es a => es.drop a.toNat := congrArg Prims.drop hw); (have happ : wapp = fun a b => a ++ b := congrArg Prims.app hw); (have hzero : wzero = fun n z => List.replicate n.toNat z := congrArg Prims.zero hw); (have hnat : wnat = fun n => n.toNat := congrArg Prims.nat hw); (conv => arg 2; cbv); (generalize hP : Try.prog = P); cbv
  refine ⟨_, Vw.same rfl, hR _ ?_⟩
  rw [hcmp, ← ho]; rfl
theorem e_xin {a b c d : Int} (o : Bool) (ho : decide (a ≤ b → c ≤ a ∧ b ≤ d) = o) : PCalls Try.prog 28 [.agg [.int .i64 a, .int .i64 b], .agg [.int .i64 c, .int .i64 d]] (· = .bool o) := by
  obtain ⟨u, eu⟩ : ∃ u, decide (a ≤ b) = u := ⟨_, rfl⟩
  have hr := e_xright (a := a) (b := b) u eu
  (refine PCalls.ofY Try.func28 (by kernel_rfl) (by kernel_rfl) fun w hw R hR => ?_); (obtain ⟨wbin, wcmp, wun, wconv, wnot, wbeq, wmm, wscmp, wsadd, wslen, wsat, weqs, wlen, wnlen, wofNat, wtake, wdrop, wapp, wzero, wnat⟩ := w); (have hbin : wbin = binStd := congrArg Prims.bin hw); (have hcmp : wcmp = cmpStd := congrArg Prims.cmp hw); (have hun : wun = unStd := congrArg Prims.un hw); (have hconv : wconv = fun k n => k.wrap n := congrArg Prims.conv hw); (have hnot : wnot = fun b => !b := congrArg Prims.not hw); (have hbeq : wbeq = fun a b => a == b := congrArg Prims.beq hw); (have hmm : wmm = maxI := congrArg Prims.mm hw); (have hscmp : wscmp = scmpStd := congrArg Prims.scmp hw); (have hsadd : wsadd = fun x y => x ++ y := congrArg Prims.sadd hw); (have hslen : wslen = fun s => (s.size : Int) := congrArg Prims.slen hw); (have hsat : wsat = std.sat := congrArg Prims.sat hw); (have heqs : weqs = fun a b os => (eqOffs a b os).getD false := congrArg Prims.eqs hw); (have hlen : wlen = fun es => (es.length : Int) := congrArg Prims.len hw); (have hnlen : wnlen = fun es => es.length := congrArg Prims.nlen hw); (have hofNat : wofNat = (fun n : Nat => (n : Int)) := congrArg Prims.ofNat hw); (have htake : wtake = fun es b => es.take b.toNat := congrArg Prims.take hw); (have hdrop : wdrop = fun es a => es.drop a.toNat := congrArg Prims.drop hw); (have happ : wapp = fun a b => a ++ b := congrArg Prims.app hw); (have hzero : wzero = fun n z => List.replicate n.toNat z := congrArg Prims.zero hw); (have hnat : wnat = fun n => n.toNat := congrArg Prims.nat hw); (conv => arg 2; cbv); (generalize hP : Try.prog = P); cbv
  refine Call.stepE (by rw [← hP]; exact hr) rfl ?_
  cbv
  have hn : wnot u = !u := by rw [hnot]
  have hF : ∀ (o' : Bool) (h : AHeap), (o' = true ↔ (a ≤ b → c ≤ a ∧ b ≤ d)) → Ret [.bool o'] h R := fun o' h k => ⟨_, Vw.same rfl, hR _ (congrArg AV.bool (by rw [← ho, Bool.eq_iff_iff, k, decide_eq_true_iff]))⟩
  cases u with
  | false =>
    have n1 : wnot false = true := by rw [hnot]; rfl
    simp only [n1]
    cbv
    exact hF true _ (by simp at eu ⊢; omega)
  | true =>
    have n1 : wnot true = false := by rw [hnot]; rfl
    simp only [n1]
    cbv
    have eu' : a ≤ b := by simpa using eu
    (split <;> rename_i h1 <;> (try (simp only [hbin, hcmp, hun, hconv, hnot, hbeq, hmm, hscmp, hsadd, hslen, hsat, heqs, hofNat, binStd, cmpStd, unStd, scmpStd, maxI, Bool.not_eq_true', Bool.not_eq_false', decide_eq_true_eq, decide_eq_false_iff_not, Int.not_lt, Int.not_le, if_true, if_false, Bool.false_eq_true, beq_iff_eq, bne_iff_ne, ne_eq, Bool.not_eq_eq_eq_not, Bool.not_true, Bool.not_false, beq_eq_false_iff_ne, bne_eq_false_iff_eq, Int.ofNat_eq_natCast, Bool.not_not, not_true_eq_false, not_false_eq_true, reduceCtorEq] at h1)) <;> (try cbv))
    · refine hF _ _ ?_
      rw [hcmp]
      simp only [cmpStd, decide_eq_true_iff]
      omega
    · exact hF false _ (by simp; omega)
theorem e_xhas {a b x : Int} (o : Bool) (ho : decide (a ≤ x ∧ x ≤ b) = o) : PCalls Try.prog 23 [.agg [.int .i64 a, .int .i64 b], .int .i64 x] (· = .bool o) := by
  (refine PCalls.ofY Try.func23 (by kernel_rfl) (by kernel_rfl) fun w hw R hR => ?_); (obtain ⟨wbin, wcmp, wun, wconv, wnot, wbeq, wmm, wscmp, wsadd, wslen, wsat, weqs, wlen, wnlen, wofNat, wtake, wdrop, wapp, wzero, wnat⟩ := w); (have hbin : wbin = binStd := congrArg Prims.bin hw); (have hcmp : wcmp = cmpStd := congrArg Prims.cmp hw); (have hun : wun = unStd := congrArg Prims.un hw); (have hconv : wconv = fun k n => k.wrap n := congrArg Prims.conv hw); (have hnot : wnot = fun b => !b := congrArg Prims.not hw); (have hbeq : wbeq = fun a b => a == b := congrArg Prims.beq hw); (have hmm : wmm = maxI := congrArg Prims.mm hw); (have hscmp : wscmp = scmpStd := congrArg Prims.scmp hw); (have hsadd : wsadd = fun x y => x ++ y := congrArg Prims.sadd hw); (have hslen : wslen = fun s => (s.size : Int) := congrArg Prims.slen hw); (have hsat : wsat = std.sat := congrArg Prims.sat hw); (have heqs : weqs = fun a b os => (eqOffs a b os).getD false := congrArg Prims.eqs hw); (have hlen : wlen = fun es => (es.length : Int) := congrArg Prims.len hw); (have hnlen : wnlen = fun es => es.length := congrArg Prims.nlen hw); (have hofNat : wofNat = (fun n : Nat => (n : Int)) := congrArg Prims.ofNat hw); (have htake : wtake = fun es b => es.take b.toNat := congrArg Prims.take hw); (have hdrop : wdrop = fun es a => es.drop a.toNat := congrArg Prims.drop hw); (have happ : wapp = fun a b => a ++ b := congrArg Prims.app hw); (have hzero : wzero = fun n z => List.replicate n.toNat z := congrArg Prims.zero hw); (have hnat : wnat = fun n => n.toNat := congrArg Prims.nat hw); (conv => arg 2; cbv); (generalize hP : Try.prog = P); cbv
  have hF : ∀ (o' : Bool) (h : AHeap), (o' = true ↔ (a ≤ x ∧ x ≤ b)) → Ret [.bool o'] h R := fun o' h k => ⟨_, Vw.same rfl, hR _ (congrArg AV.bool (by rw [← ho, Bool.eq_iff_iff, k, decide_eq_true_iff]))⟩
  (split <;> rename_i h1 <;> (try (simp only [hbin, hcmp, hun, hconv, hnot, hbeq, hmm, hscmp, hsadd, hslen, hsat, heqs, hofNat, binStd, cmpStd, unStd, scmpStd, maxI, Bool.not_eq_true', Bool.not_eq_false', decide_eq_true_eq, decide_eq_false_iff_not, Int.not_lt, Int.not_le, if_true, if_false, Bool.false_eq_true, beq_iff_eq, bne_iff_ne, ne_eq, Bool.not_eq_eq_eq_not, Bool.not_true, Bool.not_false, beq_eq_false_iff_ne, bne_eq_false_iff_eq, Int.ofNat_eq_natCast, Bool.not_not, not_true_eq_false, not_false_eq_true, reduceCtorEq] at h1)) <;> (try cbv))
  · refine hF _ _ ?_
    rw [hcmp]
    simp only [cmpStd, decide_eq_true_iff]
    omega
  · exact hF false _ (by simp; omega)
theorem e_xsadd {a b c d l h : Int} (h1 : a ≤ b) (h2 : c ≤ d) (hl : a + c = l) (hh : b + d = h) (ha : I62 a) (hb : I62 b) (hc : I62 c) (hd : I62 d) : PCalls Try.prog 59 [.agg [.int .i64 a, .int .i64 b], .agg [.int .i64 c, .int .i64 d]] (· = .tuple [.agg [.int .i64 l, .int .i64 h], .bool true]) := by
  have r1 := e_xright (a := a) (b := b) true (by simp [h1])
  have r2 := e_xright (a := c) (b := d) true (by simp [h2])
  have a1 := e_xadd hl ha hc
  have a2 := e_xadd hh hb hd
  have b1 := e_xboth (lo := l) (hi := h) (by omega)
  (refine PCalls.ofY Try.func59 (by kernel_rfl) (by kernel_rfl) fun w hw R hR => ?_); (obtain ⟨wbin, wcmp, wun, wconv, wnot, wbeq, wmm, wscmp, wsadd, wslen, wsat, weqs, wlen, wnlen, wofNat, wtake, wdrop, wapp, wzero, wnat⟩ := w); (have hbin : wbin = binStd := congrArg Prims.bin hw); (have hcmp : wcmp = cmpStd := congrArg Prims.cmp hw); (have hun : wun = unStd := congrArg Prims.un hw); (have hconv : wconv = fun k n => k.wrap n := congrArg Prims.conv hw); (have hnot : wnot = fun b => !b := congrArg Prims.not hw); (have hbeq : wbeq = fun a b => a == b := congrArg Prims.beq hw); (have hmm : wmm = maxI := congrArg Prims.mm hw); (have hscmp : wscmp = scmpStd := congrArg Prims.scmp hw); (have hsadd : wsadd = fun x y => x ++ y := congrArg Prims.sadd hw); (have hslen : wslen = fun s => (s.size : Int) := congrArg Prims.slen hw); (have hsat : wsat = std.sat := congrArg Prims.sat hw); (have heqs : weqs = fun a b os => (eqOffs a b os).getD false := congrArg Prims.eqs hw); (have hlen : wlen = fun es => (es.length : Int) := congrArg Prims.len hw); (have hnlen : wnlen = fun es => es.length := congrArg Prims.nlen hw); (have hofNat : wofNat = (fun n : Nat => (n : Int)) := congrArg Prims.ofNat hw); (have htake : wtake = fun es b => es.take b.toNat := congrArg Prims.take hw); (have hdrop : wdrop = fun es a => es.drop a.toNat := congrArg Prims.drop hw); (have happ : wapp = fun a b => a ++ b := congrArg Prims.app hw); (have hzero : wzero = fun n z => List.replicate n.toNat z := congrArg Prims.zero hw); (have hnat : wnat = fun n => n.toNat := congrArg Prims.nat hw); (conv => arg 2; cbv); (generalize hP : Try.prog = P); cbv
  have n1 : wnot true = false := by rw [hnot]; rfl
  repeat' (first
    | (refine Call.stepE (by rw [← hP]; exact r1) rfl ?_; cbv; simp only [n1]; cbv)
    | (refine Call.stepE (by rw [← hP]; exact r2) rfl ?_; cbv; simp only [n1]; cbv)
    | (refine Call.stepE (by rw [← hP]; exact a1) rfl ?_; cbv)
    | (refine Call.stepE (by rw [← hP]; exact a2) rfl ?_; cbv)
    | (refine Call.stepE (by rw [← hP]; exact b1) rfl ?_; cbv))
  exact ⟨_, Vw.same rfl, hR _ rfl⟩
theorem e_xmid {a b m : Int} (h : (a + b) / 2 = m) (ha : I64 a) (hb : I64 b) : PCalls Try.prog 63 [.agg [.int .i64 a, .int .i64 b]] (· = .int .i64 m) := by
  (refine PCalls.ofY Try.func63 (by kernel_rfl) (by kernel_rfl) fun w hw R hR => ?_); (obtain ⟨wbin, wcmp, wun, wconv, wnot, wbeq, wmm, wscmp, wsadd, wslen, wsat, weqs, wlen, wnlen, wofNat, wtake, wdrop, wapp, wzero, wnat⟩ := w); (have hbin : wbin = binStd := congrArg Prims.bin hw); (have hcmp : wcmp = cmpStd := congrArg Prims.cmp hw); (have hun : wun = unStd := congrArg Prims.un hw); (have hconv : wconv = fun k n => k.wrap n := congrArg Prims.conv hw); (have hnot : wnot = fun b => !b := congrArg Prims.not hw); (have hbeq : wbeq = fun a b => a == b := congrArg Prims.beq hw); (have hmm : wmm = maxI := congrArg Prims.mm hw); (have hscmp : wscmp = scmpStd := congrArg Prims.scmp hw); (have hsadd : wsadd = fun x y => x ++ y := congrArg Prims.sadd hw); (have hslen : wslen = fun s => (s.size : Int) := congrArg Prims.slen hw); (have hsat : wsat = std.sat := congrArg Prims.sat hw); (have heqs : weqs = fun a b os => (eqOffs a b os).getD false := congrArg Prims.eqs hw); (have hlen : wlen = fun es => (es.length : Int) := congrArg Prims.len hw); (have hnlen : wnlen = fun es => es.length := congrArg Prims.nlen hw); (have hofNat : wofNat = (fun n : Nat => (n : Int)) := congrArg Prims.ofNat hw); (have htake : wtake = fun es b => es.take b.toNat := congrArg Prims.take hw); (have hdrop : wdrop = fun es a => es.drop a.toNat := congrArg Prims.drop hw); (have happ : wapp = fun a b => a ++ b := congrArg Prims.app hw); (have hzero : wzero = fun n z => List.replicate n.toNat z := congrArg Prims.zero hw); (have hnat : wnat = fun n => n.toNat := congrArg Prims.nat hw); (conv => arg 2; cbv); (generalize hP : Try.prog = P); cbv
  refine Call.stepE (by rw [← hP]; exact (e_nmid a b ha hb).mono fun r hr => by rw [hr, h]) rfl ?_
  cbv
  exact ⟨_, Vw.same rfl, hR _ rfl⟩
theorem e_xmeet {a b c d x y : Int} (hx : max a c = x) (hy : min b d = y) (h : x ≤ y) : PCalls Try.prog 73 [.agg [.int .i64 a, .int .i64 b], .agg [.int .i64 c, .int .i64 d]] (· = .tuple [.agg [.int .i64 x, .int .i64 y], .bool true]) := by
  have b1 := e_xboth h
  (refine PCalls.ofY Try.func73 (by kernel_rfl) (by kernel_rfl) fun w hw R hR => ?_); (obtain ⟨wbin, wcmp, wun, wconv, wnot, wbeq, wmm, wscmp, wsadd, wslen, wsat, weqs, wlen, wnlen, wofNat, wtake, wdrop, wapp, wzero, wnat⟩ := w); (have hbin : wbin = binStd := congrArg Prims.bin hw); (have hcmp : wcmp = cmpStd := congrArg Prims.cmp hw); (have hun : wun = unStd := congrArg Prims.un hw); (have hconv : wconv = fun k n => k.wrap n := congrArg Prims.conv hw); (have hnot : wnot = fun b => !b := congrArg Prims.not hw); (have hbeq : wbeq = fun a b => a == b := congrArg Prims.beq hw); (have hmm : wmm = maxI := congrArg Prims.mm hw); (have hscmp : wscmp = scmpStd := congrArg Prims.scmp hw); (have hsadd : wsadd = fun x y => x ++ y := congrArg Prims.sadd hw); (have hslen : wslen = fun s => (s.size : Int) := congrArg Prims.slen hw); (have hsat : wsat = std.sat := congrArg Prims.sat hw); (have heqs : weqs = fun a b os => (eqOffs a b os).getD false := congrArg Prims.eqs hw); (have hlen : wlen = fun es => (es.length : Int) := congrArg Prims.len hw); (have hnlen : wnlen = fun es => es.length := congrArg Prims.nlen hw); (have hofNat : wofNat = (fun n : Nat => (n : Int)) := congrArg Prims.ofNat hw); (have htake : wtake = fun es b => es.take b.toNat := congrArg Prims.take hw); (have hdrop : wdrop = fun es a => es.drop a.toNat := congrArg Prims.drop hw); (have happ : wapp = fun a b => a ++ b := congrArg Prims.app hw); (have hzero : wzero = fun n z => List.replicate n.toNat z := congrArg Prims.zero hw); (have hnat : wnat = fun n => n.toNat := congrArg Prims.nat hw); (conv => arg 2; cbv); (generalize hP : Try.prog = P); cbv
  have e1 : wmm true a c = x := by rw [hmm, mmT', hx]
  have e2 : wmm false b d = y := by rw [hmm, mmF', hy]
  simp only [e1, e2]
  refine Call.stepE (by rw [← hP]; exact b1) rfl ?_
  cbv
  exact ⟨_, Vw.same rfl, hR _ rfl⟩
theorem e_xmeetNo {a b c d x y : Int} (hx : max a c = x) (hy : min b d = y) (h : y < x) : PCalls Try.prog 73 [.agg [.int .i64 a, .int .i64 b], .agg [.int .i64 c, .int .i64 d]] (· = .tuple [.agg [.int .i64 0, .int .i64 0], .bool false]) := by
  have b1 := e_xbothNo h
  (refine PCalls.ofY Try.func73 (by kernel_rfl) (by kernel_rfl) fun w hw R hR => ?_); (obtain ⟨wbin, wcmp, wun, wconv, wnot, wbeq, wmm, wscmp, wsadd, wslen, wsat, weqs, wlen, wnlen, wofNat, wtake, wdrop, wapp, wzero, wnat⟩ := w); (have hbin : wbin = binStd := congrArg Prims.bin hw); (have hcmp : wcmp = cmpStd := congrArg Prims.cmp hw); (have hun : wun = unStd := congrArg Prims.un hw); (have hconv : wconv = fun k n => k.wrap n := congrArg Prims.conv hw); (have hnot : wnot = fun b => !b := congrArg Prims.not hw); (have hbeq : wbeq = fun a b => a == b := congrArg Prims.beq hw); (have hmm : wmm = maxI := congrArg Prims.mm hw); (have hscmp : wscmp = scmpStd := congrArg Prims.scmp hw); (have hsadd : wsadd = fun x y => x ++ y := congrArg Prims.sadd hw); (have hslen : wslen = fun s => (s.size : Int) := congrArg Prims.slen hw); (have hsat : wsat = std.sat := congrArg Prims.sat hw); (have heqs : weqs = fun a b os => (eqOffs a b os).getD false := congrArg Prims.eqs hw); (have hlen : wlen = fun es => (es.length : Int) := congrArg Prims.len hw); (have hnlen : wnlen = fun es => es.length := congrArg Prims.nlen hw); (have hofNat : wofNat = (fun n : Nat => (n : Int)) := congrArg Prims.ofNat hw); (have htake : wtake = fun es b => es.take b.toNat := congrArg Prims.take hw); (have hdrop : wdrop = fun es a => es.drop a.toNat := congrArg Prims.drop hw); (have happ : wapp = fun a b => a ++ b := congrArg Prims.app hw); (have hzero : wzero = fun n z => List.replicate n.toNat z := congrArg Prims.zero hw); (have hnat : wnat = fun n => n.toNat := congrArg Prims.nat hw); (conv => arg 2; cbv); (generalize hP : Try.prog = P); cbv
  have e1 : wmm true a c = x := by rw [hmm, mmT', hx]
  have e2 : wmm false b d = y := by rw [hmm, mmF', hy]
  simp only [e1, e2]
  refine Call.stepE (by rw [← hP]; exact b1) rfl ?_
  cbv
  exact ⟨_, Vw.same rfl, hR _ rfl⟩
end Go.Proofs.Ytpiocfmdjgbamaa

/- LinkPassages, by the engine. -/
set_option linter.unusedVariables false
set_option linter.unusedSimpArgs false
namespace Go.Proofs.Ytpiocfmdjgbamaa
open Go Go.RowKit Go.Eng
set_option maxRecDepth 100000
theorem e_passage {a b c d l h : Int} (h1 : a ≤ b) (hl : a + min 0 c = l) (hh : b + max 0 d = h) (ha : -1125899906842624 ≤ a ∧ a ≤ 1125899906842624) (hb : -1125899906842624 ≤ b ∧ b ≤ 1125899906842624) (hc : -1125899906842624 ≤ c ∧ c ≤ 1125899906842624) (hd : -1125899906842624 ≤ d ∧ d ≤ 1125899906842624) (hcd : c ≤ d) :
    PCalls Try.prog 22 [.agg [.int .i64 a, .int .i64 b], .agg [.int .i64 c, .int .i64 d]] (· = .tuple [.agg [.int .i64 l, .int .i64 h], .bool true]) := by
  obtain ⟨x, ex⟩ : ∃ x, min 0 c = x := ⟨_, rfl⟩
  obtain ⟨y, ey⟩ : ∃ x, max 0 d = x := ⟨_, rfl⟩
  have s1 := e_xsadd (l := l) (h := h) h1 (show x ≤ y by omega) (by omega) (by omega) ⟨by omega, by omega⟩ ⟨by omega, by omega⟩ ⟨by omega, by omega⟩ ⟨by omega, by omega⟩
  (refine PCalls.ofY Try.func22 (by kernel_rfl) (by kernel_rfl) fun w hw R hR => ?_); (obtain ⟨wbin, wcmp, wun, wconv, wnot, wbeq, wmm, wscmp, wsadd, wslen, wsat, weqs, wlen, wnlen, wofNat, wtake, wdrop, wapp, wzero, wnat⟩ := w); (have hbin : wbin = binStd := congrArg Prims.bin hw); (have hcmp : wcmp = cmpStd := congrArg Prims.cmp hw); (have hun : wun = unStd := congrArg Prims.un hw); (have hconv : wconv = fun k n => k.wrap n := congrArg Prims.conv hw); (have hnot : wnot = fun b => !b := congrArg Prims.not hw); (have hbeq : wbeq = fun a b => a == b := congrArg Prims.beq hw); (have hmm : wmm = maxI := congrArg Prims.mm hw); (have hscmp : wscmp = scmpStd := congrArg Prims.scmp hw); (have hsadd : wsadd = fun x y => x ++ y := congrArg Prims.sadd hw); (have hslen : wslen = fun s => (s.size : Int) := congrArg Prims.slen hw); (have hsat : wsat = std.sat := congrArg Prims.sat hw); (have heqs : weqs = fun a b os => (eqOffs a b os).getD false := congrArg Prims.eqs hw); (have hlen : wlen = fun es => (es.length : Int) := congrArg Prims.len hw); (have hnlen : wnlen = fun es => es.length := congrArg Prims.nlen hw); (have hofNat : wofNat = (fun n : Nat => (n : Int)) := congrArg Prims.ofNat hw); (have htake : wtake = fun es b => es.take b.toNat := congrArg Prims.take hw); (have hdrop : wdrop = fun es a => es.drop a.toNat := congrArg Prims.drop hw); (have happ : wapp = fun a b => a ++ b := congrArg Prims.app hw); (have hzero : wzero = fun n z => List.replicate n.toNat z := congrArg Prims.zero hw); (have hnat : wnat = fun n => n.toNat := congrArg Prims.nat hw); (conv => arg 2; cbv); (generalize hP : Try.prog = P); cbv
  have e1 : wmm false 0 c = x := by rw [hmm, mmF', ex]
  have e2 : wmm true 0 d = y := by rw [hmm, mmT', ey]
  simp only [e1, e2]
  refine Call.stepE (by rw [← hP]; exact s1) rfl ?_
  cbv
  exact ⟨_, Vw.same rfl, hR _ rfl⟩
set_option maxHeartbeats 2000000 in
theorem e_lpass (hA : PCalls Try.prog 20 [] (· = .bool true)) (a b c d at_ v pt : Int) (h5 : -9223372036854775808 ≤ pt ∧ pt ≤ 9223372036854775807) :
    PCalls Try.prog 5 [.agg [.int .i64 a, .int .i64 b], .agg [.int .i64 c, .int .i64 d], .int .i64 at_, .int .i64 v, .int .i64 pt] (· = .bool true) := by
  obtain ⟨o1, eo1⟩ : ∃ o, decide (a ≤ b ∧ -35184372088832 ≤ a ∧ b ≤ 35184372088832) = o := ⟨_, rfl⟩
  obtain ⟨o2, eo2⟩ : ∃ o, decide (c ≤ d ∧ -35184372088832 ≤ c ∧ d ≤ 35184372088832) = o := ⟨_, rfl⟩
  have s1 := e_small20 a b o1 eo1
  have s2 := e_small20 c d o2 eo2
  obtain ⟨u1, eu1⟩ : ∃ o, decide (a ≤ at_ ∧ at_ ≤ b) = o := ⟨_, rfl⟩
  obtain ⟨u2, eu2⟩ : ∃ o, decide (c ≤ v ∧ v ≤ d) = o := ⟨_, rfl⟩
  have t1 := e_xhas u1 eu1
  have t2 := e_xhas u2 eu2
  obtain ⟨x, ex⟩ : ∃ x, min 0 c = x := ⟨_, rfl⟩
  obtain ⟨y, ey⟩ : ∃ x, max 0 d = x := ⟨_, rfl⟩
  obtain ⟨l, el⟩ : ∃ l, a + min 0 c = l := ⟨_, rfl⟩
  obtain ⟨h, eh⟩ : ∃ l, b + max 0 d = l := ⟨_, rfl⟩
  obtain ⟨p, ep⟩ : ∃ p, at_ + pt = p := ⟨_, rfl⟩
  obtain ⟨v1, ev1⟩ : ∃ p, min 0 v = p := ⟨_, rfl⟩
  obtain ⟨v2, ev2⟩ : ∃ p, max 0 v = p := ⟨_, rfl⟩
  obtain ⟨w1, ew1⟩ : ∃ o, decide (l ≤ p ∧ p ≤ h) = o := ⟨_, rfl⟩
  have t3 := e_xhas w1 ew1
  (refine PCalls.ofY Try.func5 (by kernel_rfl) (by kernel_rfl) fun w hw R hR => ?_); (obtain ⟨wbin, wcmp, wun, wconv, wnot, wbeq, wmm, wscmp, wsadd, wslen, wsat, weqs, wlen, wnlen, wofNat, wtake, wdrop, wapp, wzero, wnat⟩ := w); (have hbin : wbin = binStd := congrArg Prims.bin hw); (have hcmp : wcmp = cmpStd := congrArg Prims.cmp hw); (have hun : wun = unStd := congrArg Prims.un hw); (have hconv : wconv = fun k n => k.wrap n := congrArg Prims.conv hw); (have hnot : wnot = fun b => !b := congrArg Prims.not hw); (have hbeq : wbeq = fun a b => a == b := congrArg Prims.beq hw); (have hmm : wmm = maxI := congrArg Prims.mm hw); (have hscmp : wscmp = scmpStd := congrArg Prims.scmp hw); (have hsadd : wsadd = fun x y => x ++ y := congrArg Prims.sadd hw); (have hslen : wslen = fun s => (s.size : Int) := congrArg Prims.slen hw); (have hsat : wsat = std.sat := congrArg Prims.sat hw); (have heqs : weqs = fun a b os => (eqOffs a b os).getD false := congrArg Prims.eqs hw); (have hlen : wlen = fun es => (es.length : Int) := congrArg Prims.len hw); (have hnlen : wnlen = fun es => es.length := congrArg Prims.nlen hw); (have hofNat : wofNat = (fun n : Nat => (n : Int)) := congrArg Prims.ofNat hw); (have htake : wtake = fun es b => es.take b.toNat := congrArg Prims.take hw); (have hdrop : wdrop = fun es a => es.drop a.toNat := congrArg Prims.drop hw); (have happ : wapp = fun a b => a ++ b := congrArg Prims.app hw); (have hzero : wzero = fun n z => List.replicate n.toNat z := congrArg Prims.zero hw); (have hnat : wnat = fun n => n.toNat := congrArg Prims.nat hw); (conv => arg 2; cbv); (generalize hP : Try.prog = P); cbv
  have hW : ∀ h : AHeap, Ret [.bool true] h R := fun h => ⟨_, Vw.same rfl, hR _ rfl⟩
  have e1 : wmm false 0 c = x := by rw [hmm, mmF', ex]
  have e2 : wmm true 0 d = y := by rw [hmm, mmT', ey]
  have e3 : wmm false 0 v = v1 := by rw [hmm, mmF', ev1]
  have e4 : wmm true 0 v = v2 := by rw [hmm, mmT', ev2]
  have n1 : wnot true = false := by rw [hnot]; rfl
  have n2 : wnot false = true := by rw [hnot]; rfl
  have c1 : ∀ x, wcmp .neq x x = false := fun x => by rw [hcmp]; simp [cmpStd]
  refine Call.stepE (by rw [← hP]; exact hA) rfl ?_
  cbv
  simp only [n1]
  cbv
  refine Call.stepE (by rw [← hP]; exact s1) rfl ?_
  cbv
  cases o1
  · cbv
    simp only [n2]
    cbv
    exact hW _
  cbv
  simp only [n1]
  cbv
  refine Call.stepE (by rw [← hP]; exact s2) rfl ?_
  cbv
  cases o2
  · cbv
    simp only [n2]
    cbv
    exact hW _
  cbv
  simp only [n1]
  cbv
  have k1 : a ≤ b ∧ -35184372088832 ≤ a ∧ b ≤ 35184372088832 := by simpa using eo1
  have k2 : c ≤ d ∧ -35184372088832 ≤ c ∧ d ≤ 35184372088832 := by simpa using eo2
  refine Call.stepE (by rw [← hP]; exact e_passage k1.1 el eh ⟨by omega, by omega⟩ ⟨by omega, by omega⟩ ⟨by omega, by omega⟩ ⟨by omega, by omega⟩ k2.1) rfl ?_
  cbv
  simp only [n1]
  cbv
  simp only [e1, e2]
  have a1 : wbin .add .i64 a x = l := by rw [hbin, i_add (by omega) (by omega)]; omega
  have a2 : wbin .add .i64 b y = h := by rw [hbin, i_add (by omega) (by omega)]; omega
  simp only [a1, a2, c1]
  cbv
  (try simp only [e1, e2, a1, a2, c1])
  (try cbv)
  refine Call.stepE (by rw [← hP]; exact t1) rfl ?_
  cbv
  cases u1
  · cbv
    simp only [n2]
    cbv
    exact hW _
  cbv
  simp only [n1]
  cbv
  refine Call.stepE (by rw [← hP]; exact t2) rfl ?_
  cbv
  cases u2
  · cbv
    simp only [n2]
    cbv
    exact hW _
  cbv
  simp only [n1]
  cbv
  simp only [e3, e4]
  have k3 : a ≤ at_ ∧ at_ ≤ b := by simpa using eu1
  have k4 : c ≤ v ∧ v ≤ d := by simpa using eu2
  repeat' (first | exact hW _ | (split <;> rename_i h6 <;> (try (simp only [hbin, hcmp, hun, hconv, hnot, hbeq, hmm, hscmp, hsadd, hslen, hsat, heqs, hofNat, binStd, cmpStd, unStd, scmpStd, maxI, Bool.not_eq_true', Bool.not_eq_false', decide_eq_true_eq, decide_eq_false_iff_not, Int.not_lt, Int.not_le, if_true, if_false, Bool.false_eq_true, beq_iff_eq, bne_iff_ne, ne_eq, Bool.not_eq_eq_eq_not, Bool.not_true, Bool.not_false, beq_eq_false_iff_ne, bne_eq_false_iff_eq, Int.ofNat_eq_natCast, Bool.not_not, not_true_eq_false, not_false_eq_true, reduceCtorEq] at h6)) <;> (try cbv)))
  have a3 : wbin .add .i64 at_ pt = p := by rw [hbin, i_add (by omega) (by omega)]; exact ep
  simp only [a3]
  refine Call.stepE (by rw [← hP]; exact t3) rfl ?_
  cbv
  have hw1 : w1 = true := by rw [← ew1]; simp; omega
  rw [hw1]
  exact hW _
end Go.Proofs.Ytpiocfmdjgbamaa

/- Where a group lies on some ways, plainly. -/
set_option linter.unusedVariables false
set_option linter.unusedSimpArgs false
namespace Go.Proofs.Ytpiocfmdjgbamaa
open Go Go.RowKit Go.Eng
/-- Where a group lies on what is left of a way. -/
def plc (ss : List Sg) (sg off : Int) : Int → List Int → List Int
  | _, [] => []
  | a, n :: l => (if n = sg then [a + off] else []) ++ plc ss sg off (a + lenAt ss n) l
def plcs (ss : List Sg) (sg off from_ : Int) (m : List (List Int)) : List Int := m.flatMap (plc ss sg off (-from_))
/-- A number in its place, if it isn't there. -/
def addQ : List Int → Int → List Int
  | [], x => [x]
  | k :: l, x => if k < x then k :: addQ l x else if x < k then x :: k :: l else k :: l
theorem addQ_lt {k x : Int} {l : List Int} (h : k < x) : addQ (k :: l) x = k :: addQ l x := by simp only [addQ]; rw [if_pos h]
theorem addQ_gt {k x : Int} {l : List Int} (h : x < k) : addQ (k :: l) x = x :: k :: l := by simp only [addQ]; rw [if_neg (by omega), if_pos h]
theorem addQ_eq {k x : Int} {l : List Int} (h : x ≤ k) (h2 : k ≤ x) : addQ (k :: l) x = k :: l := by simp only [addQ]; rw [if_neg (by omega), if_neg (by omega)]
theorem addQ_mem : ∀ (l : List Int) (x y : Int), y ∈ addQ l x ↔ y ∈ l ∨ y = x
  | [], x, y => by simp [addQ]
  | k :: l, x, y => by
    simp only [addQ]
    split
    · rw [List.mem_cons, addQ_mem l x y, List.mem_cons, or_assoc]
    · split
      · simp only [List.mem_cons]
        constructor
        · rintro (h | h | h)
          · exact .inr h
          · exact .inl (.inl h)
          · exact .inl (.inr h)
        · rintro ((h | h) | h)
          · exact .inr (.inl h)
          · exact .inr (.inr h)
          · exact .inl h
      · have : k = x := by omega
        rw [List.mem_cons, this]
        constructor
        · exact .inl
        · rintro (h | h)
          · exact h
          · exact .inl h
theorem addQ_sorted : ∀ (l : List Int) (x : Int), l.Pairwise (· < ·) → (addQ l x).Pairwise (· < ·)
  | [], x, _ => List.pairwise_singleton _ _
  | k :: l, x, h => by
    obtain ⟨h1, h2⟩ := List.pairwise_cons.1 h
    simp only [addQ]
    split
    · rename_i hk
      refine List.pairwise_cons.2 ⟨fun y hy => ?_, addQ_sorted l x h2⟩
      rcases (addQ_mem l x y).1 hy with hy | hy
      · exact h1 y hy
      · omega
    · split
      · rename_i hk
        refine List.pairwise_cons.2 ⟨fun y hy => ?_, h⟩
        rcases List.mem_cons.1 hy with rfl | hy
        · exact hk
        · have := h1 y hy; omega
      · exact h
theorem addQ_len : ∀ (l : List Int) (x : Int), (addQ l x).length ≤ l.length + 1
  | [], x => by simp [addQ]
  | k :: l, x => by
    have := addQ_len l x
    simp only [addQ]
    split
    · simp only [List.length_cons]; omega
    · split <;> simp
theorem adds_sorted : ∀ (l q : List Int), q.Pairwise (· < ·) → (l.foldl addQ q).Pairwise (· < ·) ∧ (∀ y, y ∈ l.foldl addQ q ↔ y ∈ q ∨ y ∈ l) ∧ (l.foldl addQ q).length ≤ q.length + l.length
  | [], q, h => ⟨h, fun y => by simp, by simp⟩
  | x :: l, q, h => by
    obtain ⟨h1, h2, h3⟩ := adds_sorted l (addQ q x) (addQ_sorted q x h)
    have := addQ_len q x
    refine ⟨h1, fun y => ?_, by simp only [List.foldl_cons, List.length_cons]; omega⟩
    rw [List.foldl_cons, h2, addQ_mem, List.mem_cons, or_assoc]
theorem sorted_ext : ∀ (l m : List Int), l.Pairwise (· < ·) → m.Pairwise (· < ·) → (∀ x, x ∈ l ↔ x ∈ m) → l = m
  | [], [], _, _, _ => rfl
  | [], b :: m, _, _, h => by have := (h b).2 List.mem_cons_self; simp at this
  | a :: l, [], _, _, h => by have := (h a).1 List.mem_cons_self; simp at this
  | a :: l, b :: m, h1, h2, h => by
    obtain ⟨a1, a2⟩ := List.pairwise_cons.1 h1
    obtain ⟨b1, b2⟩ := List.pairwise_cons.1 h2
    have e : a = b := by
      have k1 := (h a).1 List.mem_cons_self
      have k2 := (h b).2 List.mem_cons_self
      rcases List.mem_cons.1 k1 with k1 | k1
      · exact k1
      · rcases List.mem_cons.1 k2 with k2 | k2
        · exact k2.symm
        · have := b1 a k1; have := a1 b k2; omega
    subst e
    congr 1
    refine sorted_ext l m a2 b2 fun x => ⟨fun hx => ?_, fun hx => ?_⟩
    · rcases List.mem_cons.1 ((h x).1 (List.mem_cons_of_mem _ hx)) with k | k
      · have := a1 x hx; omega
      · exact k
    · rcases List.mem_cons.1 ((h x).2 (List.mem_cons_of_mem _ hx)) with k | k
      · have := b1 x hx; omega
      · exact k
/-- The places, rising, each once. -/
def plcR (ss : List Sg) (sg off from_ : Int) (m : List (List Int)) : List Int := (plcs ss sg off from_ m).foldl addQ []
theorem plcR_unique {ss : List Sg} {sg off from_ : Int} {m : List (List Int)} {os : List Int} (h1 : os.Pairwise (· < ·)) (h2 : ∀ x, x ∈ os ↔ x ∈ plcs ss sg off from_ m) : os = plcR ss sg off from_ m := by
  obtain ⟨k1, k2, _⟩ := adds_sorted (plcs ss sg off from_ m) [] List.Pairwise.nil
  exact sorted_ext _ _ h1 k1 fun x => by rw [h2]; unfold plcR at *; rw [k2]; simp
theorem plc_len (ss : List Sg) (sg off : Int) : ∀ (l : List Int) (a : Int), (plc ss sg off a l).length ≤ l.length
  | [], a => by simp [plc]
  | n :: l, a => by
    have := plc_len ss sg off l (a + lenAt ss n)
    simp only [plc, List.length_append, List.length_cons]
    split <;> simp <;> omega
theorem plcs_len (ss : List Sg) (sg off from_ : Int) : ∀ (m : List (List Int)), (∀ l, l ∈ m → l.length ≤ 12) → (plcs ss sg off from_ m).length ≤ 12 * m.length
  | [], _ => by simp [plcs]
  | l :: m, h => by
    have h1 := plcs_len ss sg off from_ m fun x hx => h x (List.mem_cons_of_mem _ hx)
    have h2 := plc_len ss sg off l (-from_)
    have h3 := h l List.mem_cons_self
    unfold plcs at h1 ⊢
    rw [List.flatMap_cons, List.length_append, List.length_cons]
    omega
theorem plcs_snoc (ss : List Sg) (sg off from_ : Int) (m : List (List Int)) (l : List Int) : plcs ss sg off from_ (m ++ [l]) = plcs ss sg off from_ m ++ plc ss sg off (-from_) l := by
  unfold plcs; rw [List.flatMap_append]; simp
end Go.Proofs.Ytpiocfmdjgbamaa

/- slices.Sort and slices.Compact at an own slot of numbers of 64 bits. -/
set_option linter.unusedVariables false
set_option linter.unusedSimpArgs false
namespace Go.Proofs.Ytpiocfmdjgbamaa
open Go Go.RowKit Go.Eng Go.Shelf Go.Sort Go.Lib
set_option maxRecDepth 100000
theorem frozen_blk' {w : World} {b : Nat} {cs : Array Value} {t : TypeId} (h : w.heap[b]? = some (.cells cs t (0, 0))) (i : Nat) : w.frozen? ⟨b, i, none⟩ = false := by
  unfold World.frozen?
  simp [h]
theorem nx_get {ns : List Int} {i : Nat} {r : List AV} (h : (ns.map nxRow)[i]? = some r) : i < ns.length ∧ r = [.int .i64 ns[i]!] := by
  rw [List.getElem?_map] at h
  cases hi : ns[i]? with
  | none => rw [hi] at h; cases h
  | some y =>
    rw [hi] at h
    simp only [Option.map_some, Option.some.injEq] at h
    obtain ⟨h1, h2⟩ := List.getElem?_eq_some_iff.1 hi
    exact ⟨h1, by rw [← h, getElem!_pos ns i h1, h2]; rfl⟩
/-- An own slot's numbers, in memory. -/
theorem holds_nx {C : Cfg} (RC : Rel C) {s : Nat} {ns : List Int} (hs : C.h[s]? = some (.live 1 (ns.map nxRow))) : C.r s < C.w.heap.size ∧ Go.Sort.Holds (Value.int .i64) C.w (C.r s) 0 ns.toArray := by
  obtain ⟨_, hO, hrl, us, ty, hcell, hul, hur⟩ := RC.live s 1 _ hs (by decide)
  refine ⟨(Array.getElem?_eq_some_iff.1 hcell).1, fun j hj => ⟨?_, frozen_blk' hcell _⟩⟩
  have hj' : j < ns.length := by simpa using hj
  have hv := (hur j [.int .i64 ns[j]!] (by rw [List.getElem?_map, List.getElem?_eq_getElem hj', getElem!_pos ns j hj']; rfl) 0 _ rfl).int'
  have hju : j < us.size := by simp at hul; omega
  unfold World.cell?
  simp only [hcell, Option.isSome_none, Bool.false_eq_true, if_false, Nat.zero_add]
  rw [Nat.mul_one, Nat.add_zero, Array.getD_eq_getD_getElem?, Array.getElem?_eq_getElem hju] at hv
  rw [Array.getElem?_eq_getElem hju]
  simp only [Option.getD_some] at hv
  rw [hv]
  simp [hj']
/-- New numbers in it. -/
theorem put_nx {C : Cfg} (RC : Rel C) {s : Nat} {ns ns' : List Int} (hs : C.h[s]? = some (.live 1 (ns.map nxRow))) (hl : ns'.length = ns.length) (m : Nat) :
    Rel { C with h := C.h.set s (.live 1 (ns'.map nxRow)), w := putRow (Value.int .i64) (Sort.ahead C.w m) (C.r s) 0 ns'.toArray } ∧ Ext C.h.length C { C with h := C.h.set s (.live 1 (ns'.map nxRow)), w := putRow (Value.int .i64) (Sort.ahead C.w m) (C.r s) 0 ns'.toArray } := by
  obtain ⟨_, hO, hrl, us, ty, hcell, hul, hur⟩ := RC.live s 1 _ hs (by decide)
  have hslt : s < C.h.length := (List.getElem?_eq_some_iff.1 hs).1
  have hw1 : (putRow (Value.int .i64) (Sort.ahead C.w m) (C.r s) 0 ns'.toArray).heap[C.r s]? = some (.cells (putCells (Value.int .i64) 0 ns'.toArray us) ty (0, 0)) := by
    simp only [putRow, mapBlock, Sort.ahead, Array.getElem?_modify, if_true, hcell, Option.map_some, onCells]
  have hw2 : ∀ b, b ≠ C.r s → (putRow (Value.int .i64) (Sort.ahead C.w m) (C.r s) 0 ns'.toArray).heap[b]? = C.w.heap[b]? := fun b hb => by
    simp only [putRow, mapBlock, Sort.ahead, Array.getElem?_modify, if_neg (Ne.symm hb)]
  refine Rel.write RC s (C.h.set s (.live 1 (ns'.map nxRow))) (putRow (Value.int .i64) (Sort.ahead C.w m) (C.r s) 0 ns'.toArray) 1 (ns.map nxRow) (ns'.map nxRow) us (putCells (Value.int .i64) 0 ns'.toArray us) ty C.h.length (by decide) hs
    (List.getElem?_set_self hslt) (fun k hk => List.getElem?_set_ne (Ne.symm hk)) hcell hw1 (by simp [putCells]) hw2 rfl rfl rfl (by simp [putRow, mapBlock, Sort.ahead])
    (fun e he => by obtain ⟨x, _, rfl⟩ := List.mem_map.1 he; rfl) (by simp [putCells] at hul ⊢; omega) (fun i e he j x hx => ?_)
  obtain ⟨hi, rfl⟩ := nx_get he
  cases j with
  | succ j => simp at hx
  | zero =>
    simp only [List.getElem?_cons_zero, Option.some.injEq] at hx
    subst hx
    have hiu : i < us.size := by simp at hul; omega
    have : (putCells (Value.int .i64) 0 ns'.toArray us).getD (i * 1 + 0) undef = .int .i64 ns'[i]! := by
      rw [Nat.mul_one, Nat.add_zero, Array.getD_eq_getD_getElem?]
      unfold putCells
      rw [Array.getElem?_mapIdx, Array.getElem?_eq_getElem hiu]
      simp only [Option.map_some, Option.getD_some, Nat.zero_le, true_and, Nat.zero_add, Nat.sub_zero]
      rw [if_pos (by simpa using hi)]
      simp [hi]
    rw [this]
    exact .int _ _
theorem call_sort64 {P : Program} (hP : Try.prog = P) {h : AHeap} {K : AV → AHeap → Prop} {s n : Nat} {es : List (List AV)} {ns : List Int} (hs : h[s]? = some (.live 1 es)) (hes : es = ns.map nxRow) (hn : n = ns.length) (hsz : ns.length ≤ 1000000)
    (hK : ∀ ns' : List Int, ns'.Perm ns → ns'.Pairwise (· ≤ ·) → K (.tuple []) (h.set s (.live 1 (ns'.map nxRow)))) :
    ACall P 77 [.sl s 1 0 n] h K := by
  subst hP hes
  refine ⟨⟨_, Try.func77, by kernel_rfl, by kernel_rfl⟩, fun C vs hC RC hv => ?_⟩
  subst hC
  obtain ⟨hvl, hv0⟩ := hv
  have hvs : vs = #[vs.getD 0 undef] := by
    have hn : vs.size = 1 := by simpa using hvl
    obtain ⟨l⟩ := vs
    match l, hn with
    | [x], _ => rfl
  obtain ⟨cap, e0, hus, hnc, _⟩ := (hv0 0 _ rfl).sls
  rw [hvs, e0]
  obtain ⟨hBm, hH⟩ := holds_nx RC hs
  have hcall := AnyM.slices_Sort_int Try.sortL64 (C.r s) 0 cap ns C.w hH hBm (by omega)
  rw [← hn] at hcall
  refine hcall.mono ?_
  rintro e w' ⟨rfl, m, os, rfl⟩
  have hperm : (ns.mergeSort fun x y => decide (x ≤ y)).Perm ns := List.mergeSort_perm _ _
  have hsort : (ns.mergeSort fun x y => decide (x ≤ y)).Pairwise (· ≤ ·) := by
    have := List.pairwise_mergeSort (le := fun x y : Int => decide (x ≤ y)) (fun a b c h1 h2 => by simp at h1 h2 ⊢; omega) (fun a b => by simp; omega) ns
    exact this.imp fun h => by simpa using h
  generalize ns.mergeSort (fun x y => decide (x ≤ y)) = ns' at hperm hsort
  obtain ⟨R1, E1⟩ := put_nx RC hs hperm.length_eq m
  have hbel : Below (putRow (Value.int .i64) (Sort.ahead C.w m) (C.r s) 0 ns'.toArray).heap.size (putRow (Value.int .i64) (Sort.ahead C.w m) (C.r s) 0 ns'.toArray) (Go.Sort.grow (putRow (Value.int .i64) (Sort.ahead C.w m) (C.r s) 0 ns'.toArray) os) :=
    ⟨rfl, rfl, rfl, by simp [Go.Sort.grow], fun b hb => by simp only [Go.Sort.grow]; rw [Array.getElem?_append_left hb]⟩
  obtain ⟨R2, E2⟩ := Rel.below R1 hbel
  exact ⟨_, _, _, rfl, hK ns' hperm hsort, rfl, R2, .tuple [] #[] rfl (fun i x hx => by simp at hx), E1.trans (E2 _), by simp⟩
/-- slices.Sort of none. -/
theorem call_sort64_nil {P : Program} (hP : Try.prog = P) : PCalls P 77 [.nils] (· = .tuple []) := by
  subst hP
  refine ⟨⟨_, Try.func77, by kernel_rfl, by kernel_rfl⟩, fun C vs hC RC hv => ?_⟩
  obtain ⟨hvl, hv0⟩ := hv
  have hvs : vs = #[vs.getD 0 undef] := by
    have hn : vs.size = 1 := by simpa using hvl
    obtain ⟨l⟩ := vs
    match l, hn with
    | [x], _ => rfl
  have e0 := (hv0 0 _ rfl).nils'
  rw [hvs, e0]
  refine (AnyM.slices_Sort_int_none Try.sortL64 none 0 C.w).mono ?_
  rintro e w' ⟨rfl, rfl⟩
  exact ⟨_, _, C, rfl, rfl, hC, rfl, RC, .tuple [] #[] rfl (fun i x hx => by simp at hx), .refl _ _⟩
/-- What is left, if each number that is the one ahead of it again is taken away. -/
theorem compact_sorted {ns : List Int} (h : ns.Pairwise (· ≤ ·)) : (compactUpTo ns.toArray ns.length).Pairwise (· < ·) ∧ ∀ x, x ∈ compactUpTo ns.toArray ns.length ↔ x ∈ ns := by
  have key : ∀ m, m ≤ ns.length → (compactUpTo ns.toArray m).Pairwise (· < ·) ∧ (∀ x, x ∈ compactUpTo ns.toArray m ↔ x ∈ ns.take m) := by
    intro m
    induction m with
    | zero => intro _; simp [compactUpTo]
    | succ m ih =>
      intro hm
      obtain ⟨h1, h2⟩ := ih (by omega)
      have hmm : ns.toArray[m]! = ns[m] := by rw [getElem!_pos _ _ (by simp; omega)]; simp
      have ht : ns.take (m + 1) = ns.take m ++ [ns[m]] := by rw [List.take_add_one, List.getElem?_eq_getElem (by omega)]; rfl
      rw [compactUpTo_succ, ht]
      by_cases hk : keeps ns.toArray m = true
      · rw [if_pos hk, hmm]
        refine ⟨List.pairwise_append.2 ⟨h1, List.pairwise_singleton _ _, fun x hx y hy => ?_⟩, fun x => by rw [List.mem_append, List.mem_append, h2]⟩
        simp at hy
        subst hy
        have hx' := (h2 x).1 hx
        obtain ⟨i, hi, rfl⟩ := List.getElem_of_mem hx'
        rw [List.length_take] at hi
        rw [List.getElem_take]
        have hk' : m = 0 ∨ ns[m]! ≠ ns[m - 1]! := by
          unfold keeps at hk
          simpa using hk
        have hm0 : m ≠ 0 := by omega
        rcases hk' with hk' | hk'
        · exact absurd hk' hm0
        · rw [getElem!_pos ns m (by omega), getElem!_pos ns (m - 1) (by omega)] at hk'
          rw [List.pairwise_iff_getElem] at h
          have a1 := h (m - 1) m (by omega) (by omega) (by omega)
          have a2 : ns[i] ≤ ns[m - 1] := by
            by_cases e : i = m - 1
            · subst e; exact Int.le_refl _
            · exact h i (m - 1) (by omega) (by omega) (by omega)
          omega
      · rw [if_neg hk, List.append_nil]
        refine ⟨h1, fun x => ?_⟩
        rw [h2, List.mem_append, List.mem_singleton]
        have hk' : ¬ (m = 0 ∨ ns[m]! ≠ ns[m - 1]!) := by
          unfold keeps at hk
          simpa using hk
        have e : ns[m] = ns[m - 1] := by
          have h3 : ns[m]! = ns[m - 1]! := by
            apply Classical.byContradiction; intro h3; exact hk' (.inr h3)
          rwa [getElem!_pos ns m (by omega), getElem!_pos ns (m - 1) (by omega)] at h3
        constructor
        · exact .inl
        · rintro (h4 | h4)
          · exact h4
          · rw [h4, e]
            have hm0 : m ≠ 0 := fun h5 => hk' (.inl h5)
            exact List.mem_take_iff_getElem.2 ⟨m - 1, by omega, rfl⟩
  have := key ns.length (Nat.le_refl _)
  rwa [List.take_length] at this
theorem compact_len (d : Array Int) (m : Nat) : (compactUpTo d m).length ≤ m := by
  unfold compactUpTo
  rw [List.length_map]
  exact Nat.le_trans (List.length_filter_le _ _) (by simp)
theorem call_compact64 {P : Program} (hP : Try.prog = P) {h : AHeap} {K : AV → AHeap → Prop} {s n : Nat} {es : List (List AV)} {ns : List Int} (hs : h[s]? = some (.live 1 es)) (hes : es = ns.map nxRow) (hn : n = ns.length) (hsz : ns.length ≤ 1000000) (hsort : ns.Pairwise (· ≤ ·))
    (hK : ∀ (os zs : List Int), os.Pairwise (· < ·) → (∀ x, x ∈ os ↔ x ∈ ns) → os.length ≤ ns.length → K (.sl s 1 0 os.length) (h.set s (.live 1 ((os ++ zs).map nxRow)))) :
    ACall P 78 [.sl s 1 0 n] h K := by
  subst hP hes
  refine ⟨⟨_, Try.func78, by kernel_rfl, by kernel_rfl⟩, fun C vs hC RC hv => ?_⟩
  subst hC
  obtain ⟨hvl, hv0⟩ := hv
  have hvs : vs = #[vs.getD 0 undef] := by
    have hn : vs.size = 1 := by simpa using hvl
    obtain ⟨l⟩ := vs
    match l, hn with
    | [x], _ => rfl
  obtain ⟨cap, e0, hus, hnc, hshape⟩ := (hv0 0 _ rfl).sls
  rw [hvs, e0]
  obtain ⟨hBm, hH⟩ := holds_nx RC hs
  have hcall := AnyE.slices_Compact Try.compactL (Value.int .i64) (fun _ => rfl) (EqlAt.intD _ _ .i64) (NeqAt.intD _ _ .i64) 0 Try.zeroValue2 (C.r s) 0 cap ns.toArray C.w hH (by simp; omega) (by simp; omega)
  have hsz' : ns.toArray.size = n := by simp [hn]
  rw [hsz'] at hcall
  refine hcall.mono ?_
  rintro e w' ⟨rfl, m, rfl⟩
  have hcl := compact_len ns.toArray n
  obtain ⟨c1, c2⟩ := compact_sorted hsort
  rw [← hn] at c1 c2
  generalize compactUpTo ns.toArray n = os at hcl c1 c2
  have hlen : (os ++ List.replicate (n - os.length) 0).length = ns.length := by simp; omega
  obtain ⟨R1, E1⟩ := put_nx RC hs hlen m
  exact ⟨_, _, _, rfl, hK os _ c1 c2 (by omega), rfl, R1, E1.vr' (VR.sl s 1 0 os.length cap hus (by omega) hshape), E1, by simp⟩
end Go.Proofs.Ytpiocfmdjgbamaa

/- route.Set.Places, by the engine. Printed by wip/tools/genplaces.py. -/
set_option linter.unusedVariables false
set_option linter.unusedSimpArgs false
namespace Go.Proofs.Ytpiocfmdjgbamaa
open Go Go.RowKit Go.Eng
set_option maxRecDepth 100000
/-- A list that is built, or none yet. -/
def RepL (o : Option (Nat × List (List AV))) (acc : List Int) : Prop := match o with | none => acc = [] | some (k, w) => w = acc.map nxRow ∧ k = w.length ∧ Up0 w
theorem drop_getP {α : Type} {l : List α} {i : Nat} {a : α} (h : l[i]? = some a) : l.drop i = a :: l.drop (i + 1) := by
  obtain ⟨h1, h2⟩ := List.getElem?_eq_some_iff.1 h
  rw [List.drop_eq_getElem_cons h1, h2]
theorem e_compactNil : PCalls Try.prog 78 [.nils] (· = .nils) := by
  (refine PCalls.ofY Try.func78 (by kernel_rfl) (by kernel_rfl) fun w hw R hR => ?_); (subst hw); (conv => arg 2; cbv); (generalize hP : Try.prog = P); cbv
  exact ⟨_, Vw.same rfl, hR _ rfl⟩
set_option maxHeartbeats 8000000 in
theorem e_places (ss : List Sg) (gs : List Gr) (es ds : List (List AV)) (hes : es = ss.map sgRow) (hds : ds = gs.map grRow) (hln : LensOk ss) (from_ : Int) (hf : 0 ≤ from_ ∧ from_ ≤ 1099511627776) (m : List (List Int)) (hw1 : ∀ l, l ∈ m → l.length ≤ 12 ∧ ∀ n, n ∈ l → 0 ≤ n ∧ n.toNat < ss.length) (hm : m.length ≤ 1000) (rs : List (List AV)) (hrs : rs = m.map rtC)
    (g : Int) (hg : 0 ≤ g) (G : Gr) (hG : gs[g.toNat]? = some G) (hoff : 0 ≤ G.off ∧ G.off ≤ 1099511627776) :
    PCalls Try.prog 49 [.agg [.int .i64 from_, .list 13 rs], .agg [.list 3 es, .list 5 ds], .int .i64 g] (· = .list 1 ((plcR ss G.seg G.off from_ m).map nxRow)) := by
  have hu : Up0 es := by rw [hes]; exact up_sg ss
  have hud : Up0 ds := by rw [hds]; exact up_gr gs
  have hur : Up0 rs := by rw [hrs]; exact up_map (f := rtC) (fun d => rfl) m
  have hrl : rs.length = m.length := by rw [hrs]; simp
  have hdl : ds.length = gs.length := by rw [hds]; simp
  have hgl := (List.getElem?_eq_some_iff.1 hG).1
  obtain ⟨gid, gseg, goff, gacc, gsl⟩ := G
  have hG : ds[g.toNat]? = some [.int .i64 gid, .int .i64 gseg, .int .i64 goff, .int .i64 gacc, .int .i64 gsl] := by rw [hds, List.getElem?_map, hG]; rfl
  simp only at hoff
  obtain ⟨v, ev⟩ : ∃ v, v = plcR ss gseg goff from_ m := ⟨_, rfl⟩
  show PCalls Try.prog 49 [.agg [.int .i64 from_, .list 13 rs], .agg [.list 3 es, .list 5 ds], .int .i64 g] (· = .list 1 ((plcR ss gseg goff from_ m).map nxRow))
  rw [← ev]
  have hpl := plcs_len ss gseg goff from_ m fun l hl => (hw1 l hl).1
  (refine PCalls.ofY Try.func49 (by kernel_rfl) (by kernel_rfl) fun w hw R hR => ?_); (obtain ⟨wbin, wcmp, wun, wconv, wnot, wbeq, wmm, wscmp, wsadd, wslen, wsat, weqs, wlen, wnlen, wofNat, wtake, wdrop, wapp, wzero, wnat⟩ := w); (have hbin : wbin = binStd := congrArg Prims.bin hw); (have hcmp : wcmp = cmpStd := congrArg Prims.cmp hw); (have hun : wun = unStd := congrArg Prims.un hw); (have hconv : wconv = fun k n => k.wrap n := congrArg Prims.conv hw); (have hnot : wnot = fun b => !b := congrArg Prims.not hw); (have hbeq : wbeq = fun a b => a == b := congrArg Prims.beq hw); (have hmm : wmm = maxI := congrArg Prims.mm hw); (have hscmp : wscmp = scmpStd := congrArg Prims.scmp hw); (have hsadd : wsadd = fun x y => x ++ y := congrArg Prims.sadd hw); (have hslen : wslen = fun s => (s.size : Int) := congrArg Prims.slen hw); (have hsat : wsat = std.sat := congrArg Prims.sat hw); (have heqs : weqs = fun a b os => (eqOffs a b os).getD false := congrArg Prims.eqs hw); (have hlen : wlen = fun es => (es.length : Int) := congrArg Prims.len hw); (have hnlen : wnlen = fun es => es.length := congrArg Prims.nlen hw); (have hofNat : wofNat = (fun n : Nat => (n : Int)) := congrArg Prims.ofNat hw); (have htake : wtake = fun es b => es.take b.toNat := congrArg Prims.take hw); (have hdrop : wdrop = fun es a => es.drop a.toNat := congrArg Prims.drop hw); (have happ : wapp = fun a b => a ++ b := congrArg Prims.app hw); (have hzero : wzero = fun n z => List.replicate n.toNat z := congrArg Prims.zero hw); (have hnat : wnat = fun n => n.toNat := congrArg Prims.nat hw); (conv => arg 2; cbv); (generalize hP : Try.prog = P); cbv
  (obtain ⟨J, eJ, J0, Jn⟩ : ∃ L : Int, wlen ds = L ∧ 0 ≤ L ∧ L.toNat = ds.length := ⟨(ds.length : Int), by rw [hlen], Int.natCast_nonneg _, Int.toNat_natCast _⟩)
  (obtain ⟨L, eL, L0, Ln⟩ : ∃ L : Int, wlen rs = L ∧ 0 ≤ L ∧ L.toNat = rs.length := ⟨(rs.length : Int), by rw [hlen], Int.natCast_nonneg _, Int.toNat_natCast _⟩)
  repeat' (first | (exfalso; omega) | (split <;> rename_i h <;> (try (simp only [eJ] at h)) <;> (try (simp only [hbin, hcmp, hun, hconv, hnot, hbeq, hmm, hscmp, hsadd, hslen, hsat, heqs, hofNat, binStd, cmpStd, unStd, scmpStd, maxI, Bool.not_eq_true', Bool.not_eq_false', decide_eq_true_eq, decide_eq_false_iff_not, Int.not_lt, Int.not_le, if_true, if_false, Bool.false_eq_true, beq_iff_eq, bne_iff_ne, ne_eq, Bool.not_eq_eq_eq_not, Bool.not_true, Bool.not_false, beq_eq_false_iff_ne, bne_eq_false_iff_eq, Int.ofNat_eq_natCast, Bool.not_not, not_true_eq_false, not_false_eq_true, reduceCtorEq] at h)) <;> (try cbv)))
  all_goals first | (exfalso; omega) | skip
  refine Idx.mk _ hg hG ?_
  cbv
  (refine Call.inl hw hP Try.func75 (by kernel_rfl) (by kernel_rfl) ?_); (conv => arg 2; cbv); cbv
  simp only [eL]
  obtain ⟨a0, ea0⟩ : ∃ a0, a0 = -from_ := ⟨_, rfl⟩
  have c0 : wun .neg .i64 from_ = a0 := by rw [hun, ea0]; simp only [unStd]; rw [IntKind.wrap_i64]; omega
  refine Loop.dataN hw (S := Int × Option (Nat × List (List AV))) (fun s => fr 42 [(2, .func (.func 76) [] [.ref 3 5 0 0, .ref 2 1 0 0]), (3, .ref 4 2 0 0), (4, .ref 5 2 0 0), (12, .list 13 rs), (13, .int .i64 L), (14, .int .i64 s.1)])
    (fun s => match s.2 with | none => [.live 2 [[.int .i64 from_, .list 13 rs]], .live 2 [[.list 3 es, .list 5 ds]], .live 1 [[.nils]], .live 5 [[.int .i64 gid, .int .i64 gseg, .int .i64 goff, .int .i64 gacc, .int .i64 gsl]], .live 2 [[.int .i64 from_, .list 13 rs]], .live 2 [[.list 3 es, .list 5 ds]]] | some (k, w) => [.live 2 [[.int .i64 from_, .list 13 rs]], .live 2 [[.list 3 es, .list 5 ds]], .live 1 [[.sl 6 1 0 k]], .live 5 [[.int .i64 gid, .int .i64 gseg, .int .i64 goff, .int .i64 gacc, .int .i64 gsl]], .live 2 [[.int .i64 from_, .list 13 rs]], .live 2 [[.list 3 es, .list 5 ds]], .live 1 w])
    (fun s => 0 ≤ s.1 ∧ s.1 ≤ L ∧ RepL s.2 (plcs ss gseg goff from_ (m.take s.1.toNat))) (fun s => (L - s.1).toNat) (0, none) (by (refine Wk.eqzN (id) (by intro i hi; first | rfl | (have hh : i = 0 ∨ i = 1 ∨ i = 2 ∨ i = 3 := (by omega); rcases hh with hh | hh | hh | hh <;> subst hh <;> rfl)) (Nat.le_of_ble_eq_true rfl) (by first | exact fun i _ j _ e => e | (simp only [List.length_cons, List.length_nil]; decide)) ?_; cbv; (repeat' (first | exact trivial | rfl | assumption | apply And.intro | (simp only [hbin, hcmp, hun, hconv, hnot, hbeq, hmm, hscmp, hsadd, hslen, hsat, heqs, hofNat, binStd, cmpStd, unStd, scmpStd, maxI, Bool.not_eq_true', Bool.not_eq_false', decide_eq_true_eq, decide_eq_false_iff_not, Int.not_lt, Int.not_le, if_true, if_false, Bool.false_eq_true, beq_iff_eq, bne_iff_ne, ne_eq, Bool.not_eq_eq_eq_not, Bool.not_true, Bool.not_false, beq_eq_false_iff_ne, bne_eq_false_iff_eq, Int.ofNat_eq_natCast, Bool.not_not, not_true_eq_false, not_false_eq_true, reduceCtorEq]; first | done | assumption) | exact RowsZ.same (by assumption) (by first | assumption | rfl) | exact FzL.mk rfl rfl rfl (by assumption) (by first | assumption | rfl) (by decide) | (refine RowsZ.one ?_; cbv))))) ⟨Int.le_refl _, L0, rfl⟩ ?_
  rintro ⟨i, (_ | ⟨k0, w0⟩)⟩ hinv Q' hN hE hR'
  · have hinv : 0 ≤ i ∧ i ≤ L ∧ RepL none (plcs ss gseg goff from_ (m.take i.toNat)) := hinv
    cbv
    obtain ⟨hi0, hi1, hrep⟩ := hinv
    have hlen0 := plcs_len ss gseg goff from_ (m.take i.toNat) fun x hx => (hw1 x (List.mem_of_mem_take hx)).1
    rw [List.length_take, Nat.min_eq_left (by omega)] at hlen0
    (split <;> rename_i hc <;> (try (simp only [hbin, hcmp, hun, hconv, hnot, hbeq, hmm, hscmp, hsadd, hslen, hsat, heqs, hofNat, binStd, cmpStd, unStd, scmpStd, maxI, Bool.not_eq_true', Bool.not_eq_false', decide_eq_true_eq, decide_eq_false_iff_not, Int.not_lt, Int.not_le, if_true, if_false, Bool.false_eq_true, beq_iff_eq, bne_iff_ne, ne_eq, Bool.not_eq_eq_eq_not, Bool.not_true, Bool.not_false, beq_eq_false_iff_ne, bne_eq_false_iff_eq, Int.ofNat_eq_natCast, Bool.not_not, not_true_eq_false, not_false_eq_true, reduceCtorEq] at hc)) <;> (try cbv))
    rotate_left 1
    · rw [List.take_of_length_le (by omega)] at hrep
      refine hE _ _ _ ?_
      cbv
      have hv0 : v = [] := by rw [ev]; unfold plcR; rw [show plcs ss gseg goff from_ m = [] from hrep]; rfl
      refine Call.stepE (call_sort64_nil hP) rfl ?_
      cbv
      refine Call.stepE (by rw [← hP]; exact e_compactNil) rfl ?_
      cbv
      exact ⟨_, Vw.nil 1, hR _ (by rw [hv0]; rfl)⟩
    obtain ⟨l, hl⟩ : ∃ l, m[i.toNat]? = some l := ⟨_, List.getElem?_eq_getElem (show i.toNat < m.length by omega)⟩
    obtain ⟨hl12, hlseg⟩ := hw1 l (List.mem_of_getElem? hl)
    have hri : rs[i.toNat]? = some (toR l).row := by rw [hrs, List.getElem?_map, hl]; rfl
    obtain ⟨xs, exs⟩ : ∃ x, x = l.map nxRow := ⟨_, rfl⟩
    have huxs : Up0 xs := by rw [exs]; exact up_nx l
    have hxl : xs.length = l.length := by rw [exs]; simp
    have hpa := e_pathL l hl12
    have hpa : PCalls Try.prog 54 [.agg (toR l).row] (· = .list 1 xs) := by rw [exs]; exact hpa
    obtain ⟨i2, ei2⟩ : ∃ z, z = i + 1 := ⟨_, rfl⟩
    have a4 : wbin .add .i64 i 1 = i2 := by rw [hbin, ei2]; show IntKind.i64.wrap (i + 1) = i + 1; rw [IntKind.wrap_i64]; omega
    have hT2 : (L - i2).toNat < (L - i).toNat := by omega
    have htk : m.take i2.toNat = m.take i.toNat ++ [l] := by rw [ei2]; exact take_next hi0 hl
    have hacc2 : plcs ss gseg goff from_ (m.take i2.toNat) = plcs ss gseg goff from_ (m.take i.toNat) ++ plc ss gseg goff (-from_) l := by rw [htk, plcs_snoc]
    obtain ⟨row, erow⟩ : ∃ row, row = toR l := ⟨_, rfl⟩
    rw [← erow] at hri hpa
    obtain ⟨n, s0, s1, s2, s3, s4, s5, s6, s7, s8, s9, s10, s11⟩ := row
    (obtain ⟨K, eK, K0, Kn⟩ : ∃ L : Int, wlen xs = L ∧ 0 ≤ L ∧ L.toNat = xs.length := ⟨(xs.length : Int), by rw [hlen], Int.natCast_nonneg _, Int.toNat_natCast _⟩)
    refine Idx.mk _ hi0 hri ?_
    cbv
    simp only [c0]
    refine Call.stepE (by rw [← hP]; exact hpa) rfl ?_
    cbv
    simp only [eK]
    refine Loop.dataN hw (S := Int × Int × Option (Nat × List (List AV))) (fun s => fr 42 [(2, .func (.func 76) [] [.ref 3 5 0 0, .ref 2 1 0 0]), (3, .ref 4 2 0 0), (4, .ref 5 2 0 0), (8, .int .i64 s.2.1), (12, .list 13 rs), (13, .int .i64 L), (14, .int .i64 i), (22, .list 1 xs), (23, .int .i64 K), (24, .int .i64 s.1)])
      (fun s => match s.2.2 with | none => [.live 2 [[.int .i64 from_, .list 13 rs]], .live 2 [[.list 3 es, .list 5 ds]], .live 1 [[.nils]], .live 5 [[.int .i64 gid, .int .i64 gseg, .int .i64 goff, .int .i64 gacc, .int .i64 gsl]], .live 2 [[.int .i64 from_, .list 13 rs]], .live 2 [[.list 3 es, .list 5 ds]]] | some (k, w) => [.live 2 [[.int .i64 from_, .list 13 rs]], .live 2 [[.list 3 es, .list 5 ds]], .live 1 [[.sl 6 1 0 k]], .live 5 [[.int .i64 gid, .int .i64 gseg, .int .i64 goff, .int .i64 gacc, .int .i64 gsl]], .live 2 [[.int .i64 from_, .list 13 rs]], .live 2 [[.list 3 es, .list 5 ds]], .live 1 w])
      (fun s => 0 ≤ s.1 ∧ s.1 ≤ K ∧ -1099511627776 ≤ s.2.1 ∧ s.2.1 ≤ s.1 * 1099511627776 ∧ ∃ acc, RepL s.2.2 acc ∧ acc.length ≤ 12 * i.toNat + s.1.toNat ∧ acc ++ plc ss gseg goff s.2.1 (l.drop s.1.toNat) = plcs ss gseg goff from_ (m.take i2.toNat)) (fun s => (K - s.1).toNat) (0, a0, none) (by (refine Wk.eqzN (id) (by intro i hi; first | rfl | (have hh : i = 0 ∨ i = 1 ∨ i = 2 ∨ i = 3 := (by omega); rcases hh with hh | hh | hh | hh <;> subst hh <;> rfl)) (Nat.le_of_ble_eq_true rfl) (by first | exact fun i _ j _ e => e | (simp only [List.length_cons, List.length_nil]; decide)) ?_; cbv; (repeat' (first | exact trivial | rfl | assumption | apply And.intro | (simp only [hbin, hcmp, hun, hconv, hnot, hbeq, hmm, hscmp, hsadd, hslen, hsat, heqs, hofNat, binStd, cmpStd, unStd, scmpStd, maxI, Bool.not_eq_true', Bool.not_eq_false', decide_eq_true_eq, decide_eq_false_iff_not, Int.not_lt, Int.not_le, if_true, if_false, Bool.false_eq_true, beq_iff_eq, bne_iff_ne, ne_eq, Bool.not_eq_eq_eq_not, Bool.not_true, Bool.not_false, beq_eq_false_iff_ne, bne_eq_false_iff_eq, Int.ofNat_eq_natCast, Bool.not_not, not_true_eq_false, not_false_eq_true, reduceCtorEq]; first | done | assumption) | exact RowsZ.same (by assumption) (by first | assumption | rfl) | exact FzL.mk rfl rfl rfl (by assumption) (by first | assumption | rfl) (by decide) | (refine RowsZ.one ?_; cbv))))) ⟨Int.le_refl _, K0, by simp only; omega, by simp only; omega, _, hrep, by simp only; omega, by simp only; rw [hacc2, ea0]; rfl⟩ ?_
    rintro ⟨j, a, (_ | ⟨k1, w1⟩)⟩ hinv2 Q2 hN2 hE2 hR2
    · have hinv2 : 0 ≤ j ∧ j ≤ K ∧ -1099511627776 ≤ a ∧ a ≤ j * 1099511627776 ∧ ∃ acc, RepL (none) acc ∧ acc.length ≤ 12 * i.toNat + j.toNat ∧ acc ++ plc ss gseg goff a (l.drop j.toNat) = plcs ss gseg goff from_ (m.take i2.toNat) := hinv2
      cbv
      obtain ⟨hj0, hj1, hq0, hq1, acc, hrp, hal, hacc⟩ := hinv2
      (split <;> rename_i hd <;> (try (simp only [hbin, hcmp, hun, hconv, hnot, hbeq, hmm, hscmp, hsadd, hslen, hsat, heqs, hofNat, binStd, cmpStd, unStd, scmpStd, maxI, Bool.not_eq_true', Bool.not_eq_false', decide_eq_true_eq, decide_eq_false_iff_not, Int.not_lt, Int.not_le, if_true, if_false, Bool.false_eq_true, beq_iff_eq, bne_iff_ne, ne_eq, Bool.not_eq_eq_eq_not, Bool.not_true, Bool.not_false, beq_eq_false_iff_ne, bne_eq_false_iff_eq, Int.ofNat_eq_natCast, Bool.not_not, not_true_eq_false, not_false_eq_true, reduceCtorEq] at hd)) <;> (try cbv))
      rotate_left 1
      · refine hE2 _ _ _ ?_
        cbv
        simp only [a4]
        have e : plcs ss gseg goff from_ (m.take i2.toNat) = acc := by rw [← hacc, List.drop_of_length_le (by omega)]; simp [plc]
        refine hN (i2, none) _ _ ?hx ?hI hT2
        case hx => (refine Wk.eqzN (id) (by intro i hi; first | rfl | (have hh : i = 0 ∨ i = 1 ∨ i = 2 ∨ i = 3 := (by omega); rcases hh with hh | hh | hh | hh <;> subst hh <;> rfl)) (Nat.le_of_ble_eq_true rfl) (by first | exact fun i _ j _ e => e | (simp only [List.length_cons, List.length_nil]; decide)) ?_; cbv; (repeat' (first | exact trivial | rfl | assumption | apply And.intro | (simp only [hbin, hcmp, hun, hconv, hnot, hbeq, hmm, hscmp, hsadd, hslen, hsat, heqs, hofNat, binStd, cmpStd, unStd, scmpStd, maxI, Bool.not_eq_true', Bool.not_eq_false', decide_eq_true_eq, decide_eq_false_iff_not, Int.not_lt, Int.not_le, if_true, if_false, Bool.false_eq_true, beq_iff_eq, bne_iff_ne, ne_eq, Bool.not_eq_eq_eq_not, Bool.not_true, Bool.not_false, beq_eq_false_iff_ne, bne_eq_false_iff_eq, Int.ofNat_eq_natCast, Bool.not_not, not_true_eq_false, not_false_eq_true, reduceCtorEq]; first | done | assumption) | exact RowsZ.same (by assumption) (by first | assumption | rfl) | exact FzL.mk rfl rfl rfl (by assumption) (by first | assumption | rfl) (by decide) | (refine RowsZ.one ?_; cbv))))
        case hI => exact ⟨by simp only; omega, by simp only; omega, by rw [e]; exact hrp⟩
      obtain ⟨c, hcj⟩ : ∃ c, l[j.toNat]? = some c := ⟨_, List.getElem?_eq_getElem (show j.toNat < l.length by omega)⟩
      have hxj : xs[j.toNat]? = some [.int .i64 c] := by rw [exs, List.getElem?_map, hcj]; rfl
      obtain ⟨hcs0, hcs1⟩ := hlseg c (List.mem_of_getElem? hcj)
      obtain ⟨⟨len, pps, nx⟩, hdc, hrow⟩ := get_map (f := sgRow) (ds := ss) (i := c) hcs0 hcs1
      obtain ⟨pq, epq⟩ : ∃ x, pps.map pcRow = x := ⟨_, rfl⟩
      obtain ⟨n1, en1⟩ : ∃ x, nx.map nxRow = x := ⟨_, rfl⟩
      have hrow : es[c.toNat]? = some [.int .i64 len, .list 2 pq, .list 1 n1] := by rw [hes, ← epq, ← en1]; exact hrow
      have hlen : lenAt ss c = len := by unfold lenAt; rw [hdc]
      have hlb := lenAt_le hln c
      rw [hlen] at hlb
      obtain ⟨j2, ej2⟩ : ∃ z, z = j + 1 := ⟨_, rfl⟩
      have a5 : wbin .add .i64 j 1 = j2 := by rw [hbin, ej2]; show IntKind.i64.wrap (j + 1) = j + 1; rw [IntKind.wrap_i64]; omega
      obtain ⟨a2, ea2⟩ : ∃ z, z = a + len := ⟨_, rfl⟩
      have a6 : wbin .add .i64 a len = a2 := by rw [hbin, ea2]; show IntKind.i64.wrap (a + len) = a + len; rw [IntKind.wrap_i64]; omega
      obtain ⟨p2, ep2⟩ : ∃ z, z = a + goff := ⟨_, rfl⟩
      have a7 : wbin .add .i64 a goff = p2 := by rw [hbin, ep2]; show IntKind.i64.wrap (a + goff) = a + goff; rw [IntKind.wrap_i64]; omega
      have hT3 : (K - j2).toNat < (K - j).toNat := by omega
      have hdr : plc ss gseg goff a (l.drop j.toNat) = (if c = gseg then [p2] else []) ++ plc ss gseg goff a2 (l.drop j2.toNat) := by
        rw [drop_getP hcj, show j2.toNat = j.toNat + 1 by omega, ep2, ea2, ← hlen]; rfl
      rw [hdr] at hacc
      clear hdr
      refine Idx.mk _ hj0 hxj ?_
      cbv
      (refine Call.inl hw hP Try.func76 (by kernel_rfl) (by kernel_rfl) ?_); (conv => arg 2; cbv); cbv
      (split <;> rename_i he <;> (try (simp only [hbin, hcmp, hun, hconv, hnot, hbeq, hmm, hscmp, hsadd, hslen, hsat, heqs, hofNat, binStd, cmpStd, unStd, scmpStd, maxI, Bool.not_eq_true', Bool.not_eq_false', decide_eq_true_eq, decide_eq_false_iff_not, Int.not_lt, Int.not_le, if_true, if_false, Bool.false_eq_true, beq_iff_eq, bne_iff_ne, ne_eq, Bool.not_eq_eq_eq_not, Bool.not_true, Bool.not_false, beq_eq_false_iff_ne, bne_eq_false_iff_eq, Int.ofNat_eq_natCast, Bool.not_not, not_true_eq_false, not_false_eq_true, reduceCtorEq] at he)) <;> (try cbv))
      · simp only [a7]
        have hacc0 : acc = [] := hrp
        refine Ob.mk (by decide) ?_
        cbv
        refine Idx.mk _ hcs0 hrow ?_
        cbv
        simp only [a5, a6]
        refine hN2 (j2, a2, some (1, [[.int .i64 p2]])) _ _ ?hx ?hI hT3
        case hx => (refine Wk.eqzN (fun j => [0, 1, 2, 3, 4, 5, 6].getD j 0) (by intro i hi; first | rfl | (have hh : i = 0 ∨ i = 1 ∨ i = 2 ∨ i = 3 := (by omega); rcases hh with hh | hh | hh | hh <;> subst hh <;> rfl)) (Nat.le_of_ble_eq_true rfl) (by first | exact fun i _ j _ e => e | (simp only [List.length_cons, List.length_nil]; decide)) ?_; cbv; (repeat' (first | exact trivial | rfl | assumption | apply And.intro | (simp only [hbin, hcmp, hun, hconv, hnot, hbeq, hmm, hscmp, hsadd, hslen, hsat, heqs, hofNat, binStd, cmpStd, unStd, scmpStd, maxI, Bool.not_eq_true', Bool.not_eq_false', decide_eq_true_eq, decide_eq_false_iff_not, Int.not_lt, Int.not_le, if_true, if_false, Bool.false_eq_true, beq_iff_eq, bne_iff_ne, ne_eq, Bool.not_eq_eq_eq_not, Bool.not_true, Bool.not_false, beq_eq_false_iff_ne, bne_eq_false_iff_eq, Int.ofNat_eq_natCast, Bool.not_not, not_true_eq_false, not_false_eq_true, reduceCtorEq]; first | done | assumption) | exact RowsZ.same (by assumption) (by first | assumption | rfl) | exact FzL.mk rfl rfl rfl (by assumption) (by first | assumption | rfl) (by decide) | (refine RowsZ.one ?_; cbv))))
        case hI => exact ⟨by simp only; omega, by simp only; omega, by simp only; omega, by simp only; omega, [p2], ⟨rfl, rfl, ⟨rfl⟩⟩, by simp only [List.length_cons, List.length_nil]; omega, by rw [← hacc, hacc0, if_pos he]; simp⟩
      · refine Idx.mk _ hcs0 hrow ?_
        cbv
        simp only [a5, a6]
        refine hN2 (j2, a2, none) _ _ ?hx ?hI hT3
        case hx => (refine Wk.eqzN (id) (by intro i hi; first | rfl | (have hh : i = 0 ∨ i = 1 ∨ i = 2 ∨ i = 3 := (by omega); rcases hh with hh | hh | hh | hh <;> subst hh <;> rfl)) (Nat.le_of_ble_eq_true rfl) (by first | exact fun i _ j _ e => e | (simp only [List.length_cons, List.length_nil]; decide)) ?_; cbv; (repeat' (first | exact trivial | rfl | assumption | apply And.intro | (simp only [hbin, hcmp, hun, hconv, hnot, hbeq, hmm, hscmp, hsadd, hslen, hsat, heqs, hofNat, binStd, cmpStd, unStd, scmpStd, maxI, Bool.not_eq_true', Bool.not_eq_false', decide_eq_true_eq, decide_eq_false_iff_not, Int.not_lt, Int.not_le, if_true, if_false, Bool.false_eq_true, beq_iff_eq, bne_iff_ne, ne_eq, Bool.not_eq_eq_eq_not, Bool.not_true, Bool.not_false, beq_eq_false_iff_ne, bne_eq_false_iff_eq, Int.ofNat_eq_natCast, Bool.not_not, not_true_eq_false, not_false_eq_true, reduceCtorEq]; first | done | assumption) | exact RowsZ.same (by assumption) (by first | assumption | rfl) | exact FzL.mk rfl rfl rfl (by assumption) (by first | assumption | rfl) (by decide) | (refine RowsZ.one ?_; cbv))))
        case hI => exact ⟨by simp only; omega, by simp only; omega, by simp only; omega, by simp only; omega, acc, hrp, by simp only; omega, by rw [← hacc, if_neg he]; simp⟩
    · have hinv2 : 0 ≤ j ∧ j ≤ K ∧ -1099511627776 ≤ a ∧ a ≤ j * 1099511627776 ∧ ∃ acc, RepL (some (k1, w1)) acc ∧ acc.length ≤ 12 * i.toNat + j.toNat ∧ acc ++ plc ss gseg goff a (l.drop j.toNat) = plcs ss gseg goff from_ (m.take i2.toNat) := hinv2
      cbv
      obtain ⟨hj0, hj1, hq0, hq1, acc, hrp, hal, hacc⟩ := hinv2
      have huw1 : Up0 w1 := hrp.2.2
      have hk1 : k1 = w1.length := hrp.2.1
      have hwl1 : w1.length = acc.length := by rw [hrp.1]; simp
      (split <;> rename_i hd <;> (try (simp only [hbin, hcmp, hun, hconv, hnot, hbeq, hmm, hscmp, hsadd, hslen, hsat, heqs, hofNat, binStd, cmpStd, unStd, scmpStd, maxI, Bool.not_eq_true', Bool.not_eq_false', decide_eq_true_eq, decide_eq_false_iff_not, Int.not_lt, Int.not_le, if_true, if_false, Bool.false_eq_true, beq_iff_eq, bne_iff_ne, ne_eq, Bool.not_eq_eq_eq_not, Bool.not_true, Bool.not_false, beq_eq_false_iff_ne, bne_eq_false_iff_eq, Int.ofNat_eq_natCast, Bool.not_not, not_true_eq_false, not_false_eq_true, reduceCtorEq] at hd)) <;> (try cbv))
      rotate_left 1
      · refine hE2 _ _ _ ?_
        cbv
        simp only [a4]
        have e : plcs ss gseg goff from_ (m.take i2.toNat) = acc := by rw [← hacc, List.drop_of_length_le (by omega)]; simp [plc]
        refine hN (i2, some (k1, w1)) _ _ ?hx ?hI hT2
        case hx => (refine Wk.eqzN (id) (by intro i hi; first | rfl | (have hh : i = 0 ∨ i = 1 ∨ i = 2 ∨ i = 3 := (by omega); rcases hh with hh | hh | hh | hh <;> subst hh <;> rfl)) (Nat.le_of_ble_eq_true rfl) (by first | exact fun i _ j _ e => e | (simp only [List.length_cons, List.length_nil]; decide)) ?_; cbv; (repeat' (first | exact trivial | rfl | assumption | apply And.intro | (simp only [hbin, hcmp, hun, hconv, hnot, hbeq, hmm, hscmp, hsadd, hslen, hsat, heqs, hofNat, binStd, cmpStd, unStd, scmpStd, maxI, Bool.not_eq_true', Bool.not_eq_false', decide_eq_true_eq, decide_eq_false_iff_not, Int.not_lt, Int.not_le, if_true, if_false, Bool.false_eq_true, beq_iff_eq, bne_iff_ne, ne_eq, Bool.not_eq_eq_eq_not, Bool.not_true, Bool.not_false, beq_eq_false_iff_ne, bne_eq_false_iff_eq, Int.ofNat_eq_natCast, Bool.not_not, not_true_eq_false, not_false_eq_true, reduceCtorEq]; first | done | assumption) | exact RowsZ.same (by assumption) (by first | assumption | rfl) | exact FzL.mk rfl rfl rfl (by assumption) (by first | assumption | rfl) (by decide) | (refine RowsZ.one ?_; cbv))))
        case hI => exact ⟨by simp only; omega, by simp only; omega, by rw [e]; exact hrp⟩
      obtain ⟨c, hcj⟩ : ∃ c, l[j.toNat]? = some c := ⟨_, List.getElem?_eq_getElem (show j.toNat < l.length by omega)⟩
      have hxj : xs[j.toNat]? = some [.int .i64 c] := by rw [exs, List.getElem?_map, hcj]; rfl
      obtain ⟨hcs0, hcs1⟩ := hlseg c (List.mem_of_getElem? hcj)
      obtain ⟨⟨len, pps, nx⟩, hdc, hrow⟩ := get_map (f := sgRow) (ds := ss) (i := c) hcs0 hcs1
      obtain ⟨pq, epq⟩ : ∃ x, pps.map pcRow = x := ⟨_, rfl⟩
      obtain ⟨n1, en1⟩ : ∃ x, nx.map nxRow = x := ⟨_, rfl⟩
      have hrow : es[c.toNat]? = some [.int .i64 len, .list 2 pq, .list 1 n1] := by rw [hes, ← epq, ← en1]; exact hrow
      have hlen : lenAt ss c = len := by unfold lenAt; rw [hdc]
      have hlb := lenAt_le hln c
      rw [hlen] at hlb
      obtain ⟨j2, ej2⟩ : ∃ z, z = j + 1 := ⟨_, rfl⟩
      have a5 : wbin .add .i64 j 1 = j2 := by rw [hbin, ej2]; show IntKind.i64.wrap (j + 1) = j + 1; rw [IntKind.wrap_i64]; omega
      obtain ⟨a2, ea2⟩ : ∃ z, z = a + len := ⟨_, rfl⟩
      have a6 : wbin .add .i64 a len = a2 := by rw [hbin, ea2]; show IntKind.i64.wrap (a + len) = a + len; rw [IntKind.wrap_i64]; omega
      obtain ⟨p2, ep2⟩ : ∃ z, z = a + goff := ⟨_, rfl⟩
      have a7 : wbin .add .i64 a goff = p2 := by rw [hbin, ep2]; show IntKind.i64.wrap (a + goff) = a + goff; rw [IntKind.wrap_i64]; omega
      have hT3 : (K - j2).toNat < (K - j).toNat := by omega
      have hdr : plc ss gseg goff a (l.drop j.toNat) = (if c = gseg then [p2] else []) ++ plc ss gseg goff a2 (l.drop j2.toNat) := by
        rw [drop_getP hcj, show j2.toNat = j.toNat + 1 by omega, ep2, ea2, ← hlen]; rfl
      rw [hdr] at hacc
      clear hdr
      refine Idx.mk _ hj0 hxj ?_
      cbv
      (refine Call.inl hw hP Try.func76 (by kernel_rfl) (by kernel_rfl) ?_); (conv => arg 2; cbv); cbv
      (split <;> rename_i he <;> (try (simp only [hbin, hcmp, hun, hconv, hnot, hbeq, hmm, hscmp, hsadd, hslen, hsat, heqs, hofNat, binStd, cmpStd, unStd, scmpStd, maxI, Bool.not_eq_true', Bool.not_eq_false', decide_eq_true_eq, decide_eq_false_iff_not, Int.not_lt, Int.not_le, if_true, if_false, Bool.false_eq_true, beq_iff_eq, bne_iff_ne, ne_eq, Bool.not_eq_eq_eq_not, Bool.not_true, Bool.not_false, beq_eq_false_iff_ne, bne_eq_false_iff_eq, Int.ofNat_eq_natCast, Bool.not_not, not_true_eq_false, not_false_eq_true, reduceCtorEq] at he)) <;> (try cbv))
      · simp only [a7]
        obtain ⟨w2, ew2⟩ : ∃ x : List (List AV), x = w1 ++ [[.int .i64 p2]] := ⟨_, rfl⟩
        obtain ⟨k2, ek2⟩ : ∃ x, x = k1 + 1 := ⟨_, rfl⟩
        have hwl2 : w2.length = w1.length + 1 := by rw [ew2]; simp
        have hw2 : w2 = (acc ++ [p2]).map nxRow := by rw [ew2, hrp.1]; simp [nxRow]
        have huw2 : Up0 w2 := by rw [hw2]; exact up_nx _
        refine App.mk w2 k2 ew2 hk1 ek2 (by omega) (by omega) ?_
        cbv
        refine Idx.mk _ hcs0 hrow ?_
        cbv
        simp only [a5, a6]
        refine hN2 (j2, a2, some (k2, w2)) _ _ ?hx ?hI hT3
        case hx => (refine Wk.eqzN (fun j => [0, 1, 2, 3, 4, 5, 7].getD j 0) (by intro i hi; first | rfl | (have hh : i = 0 ∨ i = 1 ∨ i = 2 ∨ i = 3 := (by omega); rcases hh with hh | hh | hh | hh <;> subst hh <;> rfl)) (Nat.le_of_ble_eq_true rfl) (by first | exact fun i _ j _ e => e | (simp only [List.length_cons, List.length_nil]; decide)) ?_; cbv; (repeat' (first | exact trivial | rfl | assumption | apply And.intro | (simp only [hbin, hcmp, hun, hconv, hnot, hbeq, hmm, hscmp, hsadd, hslen, hsat, heqs, hofNat, binStd, cmpStd, unStd, scmpStd, maxI, Bool.not_eq_true', Bool.not_eq_false', decide_eq_true_eq, decide_eq_false_iff_not, Int.not_lt, Int.not_le, if_true, if_false, Bool.false_eq_true, beq_iff_eq, bne_iff_ne, ne_eq, Bool.not_eq_eq_eq_not, Bool.not_true, Bool.not_false, beq_eq_false_iff_ne, bne_eq_false_iff_eq, Int.ofNat_eq_natCast, Bool.not_not, not_true_eq_false, not_false_eq_true, reduceCtorEq]; first | done | assumption) | exact RowsZ.same (by assumption) (by first | assumption | rfl) | exact FzL.mk rfl rfl rfl (by assumption) (by first | assumption | rfl) (by decide) | (refine RowsZ.one ?_; cbv))))
        case hI => exact ⟨by simp only; omega, by simp only; omega, by simp only; omega, by simp only; omega, acc ++ [p2], ⟨hw2, by omega, huw2⟩, by simp only [List.length_append, List.length_cons, List.length_nil]; omega, by rw [← hacc, if_pos he]; simp⟩
      · refine Idx.mk _ hcs0 hrow ?_
        cbv
        simp only [a5, a6]
        refine hN2 (j2, a2, some (k1, w1)) _ _ ?hx ?hI hT3
        case hx => (refine Wk.eqzN (id) (by intro i hi; first | rfl | (have hh : i = 0 ∨ i = 1 ∨ i = 2 ∨ i = 3 := (by omega); rcases hh with hh | hh | hh | hh <;> subst hh <;> rfl)) (Nat.le_of_ble_eq_true rfl) (by first | exact fun i _ j _ e => e | (simp only [List.length_cons, List.length_nil]; decide)) ?_; cbv; (repeat' (first | exact trivial | rfl | assumption | apply And.intro | (simp only [hbin, hcmp, hun, hconv, hnot, hbeq, hmm, hscmp, hsadd, hslen, hsat, heqs, hofNat, binStd, cmpStd, unStd, scmpStd, maxI, Bool.not_eq_true', Bool.not_eq_false', decide_eq_true_eq, decide_eq_false_iff_not, Int.not_lt, Int.not_le, if_true, if_false, Bool.false_eq_true, beq_iff_eq, bne_iff_ne, ne_eq, Bool.not_eq_eq_eq_not, Bool.not_true, Bool.not_false, beq_eq_false_iff_ne, bne_eq_false_iff_eq, Int.ofNat_eq_natCast, Bool.not_not, not_true_eq_false, not_false_eq_true, reduceCtorEq]; first | done | assumption) | exact RowsZ.same (by assumption) (by first | assumption | rfl) | exact FzL.mk rfl rfl rfl (by assumption) (by first | assumption | rfl) (by decide) | (refine RowsZ.one ?_; cbv))))
        case hI => exact ⟨by simp only; omega, by simp only; omega, by simp only; omega, by simp only; omega, acc, hrp, by simp only; omega, by rw [← hacc, if_neg he]; simp⟩
  · have hinv : 0 ≤ i ∧ i ≤ L ∧ RepL (some (k0, w0)) (plcs ss gseg goff from_ (m.take i.toNat)) := hinv
    cbv
    obtain ⟨hi0, hi1, hrep⟩ := hinv
    have huw : Up0 w0 := hrep.2.2
    have hlen0 := plcs_len ss gseg goff from_ (m.take i.toNat) fun x hx => (hw1 x (List.mem_of_mem_take hx)).1
    rw [List.length_take, Nat.min_eq_left (by omega)] at hlen0
    (split <;> rename_i hc <;> (try (simp only [hbin, hcmp, hun, hconv, hnot, hbeq, hmm, hscmp, hsadd, hslen, hsat, heqs, hofNat, binStd, cmpStd, unStd, scmpStd, maxI, Bool.not_eq_true', Bool.not_eq_false', decide_eq_true_eq, decide_eq_false_iff_not, Int.not_lt, Int.not_le, if_true, if_false, Bool.false_eq_true, beq_iff_eq, bne_iff_ne, ne_eq, Bool.not_eq_eq_eq_not, Bool.not_true, Bool.not_false, beq_eq_false_iff_ne, bne_eq_false_iff_eq, Int.ofNat_eq_natCast, Bool.not_not, not_true_eq_false, not_false_eq_true, reduceCtorEq] at hc)) <;> (try cbv))
    rotate_left 1
    · rw [List.take_of_length_le (by omega)] at hrep
      refine hE _ _ _ ?_
      cbv
      have hwl : w0.length = (plcs ss gseg goff from_ m).length := by rw [hrep.1]; simp
      refine Call.of (call_sort64 hP (s := 6) (n := k0) (ns := plcs ss gseg goff from_ m) rfl hrep.1 (by rw [hrep.2.1, hwl]) (by omega) ?_)
      rintro ns' hp1 hp2
      obtain ⟨w2, ew2⟩ : ∃ x, x = ns'.map nxRow := ⟨_, rfl⟩
      rw [← ew2]
      cbv
      have hpl2 := hp1.length_eq
      refine Call.of (call_compact64 hP (s := 6) (n := k0) (ns := ns') rfl ew2 (by rw [hrep.2.1, hwl, hpl2]) (by omega) hp2 ?_)
      rintro os zs h1 h2 h3
      obtain ⟨w3, ew3⟩ : ∃ x, x = (os ++ zs).map nxRow := ⟨_, rfl⟩
      obtain ⟨k3, ek3⟩ : ∃ x, x = os.length := ⟨_, rfl⟩
      rw [← ew3, ← ek3]
      cbv
      have huw3 : Up0 w3 := by rw [ew3]; exact up_nx _
      have hos : os = v := by rw [ev]; exact plcR_unique h1 fun x => by rw [h2, hp1.mem_iff]
      have e1 : (w3.drop 0).take k3 = v.map nxRow := by rw [ew3, ek3, List.drop_zero, ← List.map_take, List.take_left, hos]
      have hw3l : k3 ≤ w3.length := by rw [ew3, ek3]; simp
      refine ⟨_, Vw.sl (s := 6) (z := 1) (n := k3) (i := 0) rfl huw3.get (by omega), hR _ ?_⟩
      rw [e1]
    obtain ⟨l, hl⟩ : ∃ l, m[i.toNat]? = some l := ⟨_, List.getElem?_eq_getElem (show i.toNat < m.length by omega)⟩
    obtain ⟨hl12, hlseg⟩ := hw1 l (List.mem_of_getElem? hl)
    have hri : rs[i.toNat]? = some (toR l).row := by rw [hrs, List.getElem?_map, hl]; rfl
    obtain ⟨xs, exs⟩ : ∃ x, x = l.map nxRow := ⟨_, rfl⟩
    have huxs : Up0 xs := by rw [exs]; exact up_nx l
    have hxl : xs.length = l.length := by rw [exs]; simp
    have hpa := e_pathL l hl12
    have hpa : PCalls Try.prog 54 [.agg (toR l).row] (· = .list 1 xs) := by rw [exs]; exact hpa
    obtain ⟨i2, ei2⟩ : ∃ z, z = i + 1 := ⟨_, rfl⟩
    have a4 : wbin .add .i64 i 1 = i2 := by rw [hbin, ei2]; show IntKind.i64.wrap (i + 1) = i + 1; rw [IntKind.wrap_i64]; omega
    have hT2 : (L - i2).toNat < (L - i).toNat := by omega
    have htk : m.take i2.toNat = m.take i.toNat ++ [l] := by rw [ei2]; exact take_next hi0 hl
    have hacc2 : plcs ss gseg goff from_ (m.take i2.toNat) = plcs ss gseg goff from_ (m.take i.toNat) ++ plc ss gseg goff (-from_) l := by rw [htk, plcs_snoc]
    obtain ⟨row, erow⟩ : ∃ row, row = toR l := ⟨_, rfl⟩
    rw [← erow] at hri hpa
    obtain ⟨n, s0, s1, s2, s3, s4, s5, s6, s7, s8, s9, s10, s11⟩ := row
    (obtain ⟨K, eK, K0, Kn⟩ : ∃ L : Int, wlen xs = L ∧ 0 ≤ L ∧ L.toNat = xs.length := ⟨(xs.length : Int), by rw [hlen], Int.natCast_nonneg _, Int.toNat_natCast _⟩)
    refine Idx.mk _ hi0 hri ?_
    cbv
    simp only [c0]
    refine Call.stepE (by rw [← hP]; exact hpa) rfl ?_
    cbv
    simp only [eK]
    refine Loop.dataN hw (S := Int × Int × Option (Nat × List (List AV))) (fun s => fr 42 [(2, .func (.func 76) [] [.ref 3 5 0 0, .ref 2 1 0 0]), (3, .ref 4 2 0 0), (4, .ref 5 2 0 0), (8, .int .i64 s.2.1), (12, .list 13 rs), (13, .int .i64 L), (14, .int .i64 i), (22, .list 1 xs), (23, .int .i64 K), (24, .int .i64 s.1)])
      (fun s => match s.2.2 with | none => [.live 2 [[.int .i64 from_, .list 13 rs]], .live 2 [[.list 3 es, .list 5 ds]], .live 1 [[.nils]], .live 5 [[.int .i64 gid, .int .i64 gseg, .int .i64 goff, .int .i64 gacc, .int .i64 gsl]], .live 2 [[.int .i64 from_, .list 13 rs]], .live 2 [[.list 3 es, .list 5 ds]]] | some (k, w) => [.live 2 [[.int .i64 from_, .list 13 rs]], .live 2 [[.list 3 es, .list 5 ds]], .live 1 [[.sl 6 1 0 k]], .live 5 [[.int .i64 gid, .int .i64 gseg, .int .i64 goff, .int .i64 gacc, .int .i64 gsl]], .live 2 [[.int .i64 from_, .list 13 rs]], .live 2 [[.list 3 es, .list 5 ds]], .live 1 w])
      (fun s => 0 ≤ s.1 ∧ s.1 ≤ K ∧ -1099511627776 ≤ s.2.1 ∧ s.2.1 ≤ s.1 * 1099511627776 ∧ ∃ acc, RepL s.2.2 acc ∧ acc.length ≤ 12 * i.toNat + s.1.toNat ∧ acc ++ plc ss gseg goff s.2.1 (l.drop s.1.toNat) = plcs ss gseg goff from_ (m.take i2.toNat)) (fun s => (K - s.1).toNat) (0, a0, some (k0, w0)) (by (refine Wk.eqzN (id) (by intro i hi; first | rfl | (have hh : i = 0 ∨ i = 1 ∨ i = 2 ∨ i = 3 := (by omega); rcases hh with hh | hh | hh | hh <;> subst hh <;> rfl)) (Nat.le_of_ble_eq_true rfl) (by first | exact fun i _ j _ e => e | (simp only [List.length_cons, List.length_nil]; decide)) ?_; cbv; (repeat' (first | exact trivial | rfl | assumption | apply And.intro | (simp only [hbin, hcmp, hun, hconv, hnot, hbeq, hmm, hscmp, hsadd, hslen, hsat, heqs, hofNat, binStd, cmpStd, unStd, scmpStd, maxI, Bool.not_eq_true', Bool.not_eq_false', decide_eq_true_eq, decide_eq_false_iff_not, Int.not_lt, Int.not_le, if_true, if_false, Bool.false_eq_true, beq_iff_eq, bne_iff_ne, ne_eq, Bool.not_eq_eq_eq_not, Bool.not_true, Bool.not_false, beq_eq_false_iff_ne, bne_eq_false_iff_eq, Int.ofNat_eq_natCast, Bool.not_not, not_true_eq_false, not_false_eq_true, reduceCtorEq]; first | done | assumption) | exact RowsZ.same (by assumption) (by first | assumption | rfl) | exact FzL.mk rfl rfl rfl (by assumption) (by first | assumption | rfl) (by decide) | (refine RowsZ.one ?_; cbv))))) ⟨Int.le_refl _, K0, by simp only; omega, by simp only; omega, _, hrep, by simp only; omega, by simp only; rw [hacc2, ea0]; rfl⟩ ?_
    rintro ⟨j, a, (_ | ⟨k1, w1⟩)⟩ hinv2 Q2 hN2 hE2 hR2
    · have hinv2 : 0 ≤ j ∧ j ≤ K ∧ -1099511627776 ≤ a ∧ a ≤ j * 1099511627776 ∧ ∃ acc, RepL (none) acc ∧ acc.length ≤ 12 * i.toNat + j.toNat ∧ acc ++ plc ss gseg goff a (l.drop j.toNat) = plcs ss gseg goff from_ (m.take i2.toNat) := hinv2
      cbv
      obtain ⟨hj0, hj1, hq0, hq1, acc, hrp, hal, hacc⟩ := hinv2
      (split <;> rename_i hd <;> (try (simp only [hbin, hcmp, hun, hconv, hnot, hbeq, hmm, hscmp, hsadd, hslen, hsat, heqs, hofNat, binStd, cmpStd, unStd, scmpStd, maxI, Bool.not_eq_true', Bool.not_eq_false', decide_eq_true_eq, decide_eq_false_iff_not, Int.not_lt, Int.not_le, if_true, if_false, Bool.false_eq_true, beq_iff_eq, bne_iff_ne, ne_eq, Bool.not_eq_eq_eq_not, Bool.not_true, Bool.not_false, beq_eq_false_iff_ne, bne_eq_false_iff_eq, Int.ofNat_eq_natCast, Bool.not_not, not_true_eq_false, not_false_eq_true, reduceCtorEq] at hd)) <;> (try cbv))
      rotate_left 1
      · refine hE2 _ _ _ ?_
        cbv
        simp only [a4]
        have e : plcs ss gseg goff from_ (m.take i2.toNat) = acc := by rw [← hacc, List.drop_of_length_le (by omega)]; simp [plc]
        refine hN (i2, none) _ _ ?hx ?hI hT2
        case hx => (refine Wk.eqzN (id) (by intro i hi; first | rfl | (have hh : i = 0 ∨ i = 1 ∨ i = 2 ∨ i = 3 := (by omega); rcases hh with hh | hh | hh | hh <;> subst hh <;> rfl)) (Nat.le_of_ble_eq_true rfl) (by first | exact fun i _ j _ e => e | (simp only [List.length_cons, List.length_nil]; decide)) ?_; cbv; (repeat' (first | exact trivial | rfl | assumption | apply And.intro | (simp only [hbin, hcmp, hun, hconv, hnot, hbeq, hmm, hscmp, hsadd, hslen, hsat, heqs, hofNat, binStd, cmpStd, unStd, scmpStd, maxI, Bool.not_eq_true', Bool.not_eq_false', decide_eq_true_eq, decide_eq_false_iff_not, Int.not_lt, Int.not_le, if_true, if_false, Bool.false_eq_true, beq_iff_eq, bne_iff_ne, ne_eq, Bool.not_eq_eq_eq_not, Bool.not_true, Bool.not_false, beq_eq_false_iff_ne, bne_eq_false_iff_eq, Int.ofNat_eq_natCast, Bool.not_not, not_true_eq_false, not_false_eq_true, reduceCtorEq]; first | done | assumption) | exact RowsZ.same (by assumption) (by first | assumption | rfl) | exact FzL.mk rfl rfl rfl (by assumption) (by first | assumption | rfl) (by decide) | (refine RowsZ.one ?_; cbv))))
        case hI => exact ⟨by simp only; omega, by simp only; omega, by rw [e]; exact hrp⟩
      obtain ⟨c, hcj⟩ : ∃ c, l[j.toNat]? = some c := ⟨_, List.getElem?_eq_getElem (show j.toNat < l.length by omega)⟩
      have hxj : xs[j.toNat]? = some [.int .i64 c] := by rw [exs, List.getElem?_map, hcj]; rfl
      obtain ⟨hcs0, hcs1⟩ := hlseg c (List.mem_of_getElem? hcj)
      obtain ⟨⟨len, pps, nx⟩, hdc, hrow⟩ := get_map (f := sgRow) (ds := ss) (i := c) hcs0 hcs1
      obtain ⟨pq, epq⟩ : ∃ x, pps.map pcRow = x := ⟨_, rfl⟩
      obtain ⟨n1, en1⟩ : ∃ x, nx.map nxRow = x := ⟨_, rfl⟩
      have hrow : es[c.toNat]? = some [.int .i64 len, .list 2 pq, .list 1 n1] := by rw [hes, ← epq, ← en1]; exact hrow
      have hlen : lenAt ss c = len := by unfold lenAt; rw [hdc]
      have hlb := lenAt_le hln c
      rw [hlen] at hlb
      obtain ⟨j2, ej2⟩ : ∃ z, z = j + 1 := ⟨_, rfl⟩
      have a5 : wbin .add .i64 j 1 = j2 := by rw [hbin, ej2]; show IntKind.i64.wrap (j + 1) = j + 1; rw [IntKind.wrap_i64]; omega
      obtain ⟨a2, ea2⟩ : ∃ z, z = a + len := ⟨_, rfl⟩
      have a6 : wbin .add .i64 a len = a2 := by rw [hbin, ea2]; show IntKind.i64.wrap (a + len) = a + len; rw [IntKind.wrap_i64]; omega
      obtain ⟨p2, ep2⟩ : ∃ z, z = a + goff := ⟨_, rfl⟩
      have a7 : wbin .add .i64 a goff = p2 := by rw [hbin, ep2]; show IntKind.i64.wrap (a + goff) = a + goff; rw [IntKind.wrap_i64]; omega
      have hT3 : (K - j2).toNat < (K - j).toNat := by omega
      have hdr : plc ss gseg goff a (l.drop j.toNat) = (if c = gseg then [p2] else []) ++ plc ss gseg goff a2 (l.drop j2.toNat) := by
        rw [drop_getP hcj, show j2.toNat = j.toNat + 1 by omega, ep2, ea2, ← hlen]; rfl
      rw [hdr] at hacc
      clear hdr
      refine Idx.mk _ hj0 hxj ?_
      cbv
      (refine Call.inl hw hP Try.func76 (by kernel_rfl) (by kernel_rfl) ?_); (conv => arg 2; cbv); cbv
      (split <;> rename_i he <;> (try (simp only [hbin, hcmp, hun, hconv, hnot, hbeq, hmm, hscmp, hsadd, hslen, hsat, heqs, hofNat, binStd, cmpStd, unStd, scmpStd, maxI, Bool.not_eq_true', Bool.not_eq_false', decide_eq_true_eq, decide_eq_false_iff_not, Int.not_lt, Int.not_le, if_true, if_false, Bool.false_eq_true, beq_iff_eq, bne_iff_ne, ne_eq, Bool.not_eq_eq_eq_not, Bool.not_true, Bool.not_false, beq_eq_false_iff_ne, bne_eq_false_iff_eq, Int.ofNat_eq_natCast, Bool.not_not, not_true_eq_false, not_false_eq_true, reduceCtorEq] at he)) <;> (try cbv))
      · simp only [a7]
        have hacc0 : acc = [] := hrp
        refine Ob.mk (by decide) ?_
        cbv
        refine Idx.mk _ hcs0 hrow ?_
        cbv
        simp only [a5, a6]
        refine hN2 (j2, a2, some (1, [[.int .i64 p2]])) _ _ ?hx ?hI hT3
        case hx => (refine Wk.eqzN (fun j => [0, 1, 2, 3, 4, 5, 6].getD j 0) (by intro i hi; first | rfl | (have hh : i = 0 ∨ i = 1 ∨ i = 2 ∨ i = 3 := (by omega); rcases hh with hh | hh | hh | hh <;> subst hh <;> rfl)) (Nat.le_of_ble_eq_true rfl) (by first | exact fun i _ j _ e => e | (simp only [List.length_cons, List.length_nil]; decide)) ?_; cbv; (repeat' (first | exact trivial | rfl | assumption | apply And.intro | (simp only [hbin, hcmp, hun, hconv, hnot, hbeq, hmm, hscmp, hsadd, hslen, hsat, heqs, hofNat, binStd, cmpStd, unStd, scmpStd, maxI, Bool.not_eq_true', Bool.not_eq_false', decide_eq_true_eq, decide_eq_false_iff_not, Int.not_lt, Int.not_le, if_true, if_false, Bool.false_eq_true, beq_iff_eq, bne_iff_ne, ne_eq, Bool.not_eq_eq_eq_not, Bool.not_true, Bool.not_false, beq_eq_false_iff_ne, bne_eq_false_iff_eq, Int.ofNat_eq_natCast, Bool.not_not, not_true_eq_false, not_false_eq_true, reduceCtorEq]; first | done | assumption) | exact RowsZ.same (by assumption) (by first | assumption | rfl) | exact FzL.mk rfl rfl rfl (by assumption) (by first | assumption | rfl) (by decide) | (refine RowsZ.one ?_; cbv))))
        case hI => exact ⟨by simp only; omega, by simp only; omega, by simp only; omega, by simp only; omega, [p2], ⟨rfl, rfl, ⟨rfl⟩⟩, by simp only [List.length_cons, List.length_nil]; omega, by rw [← hacc, hacc0, if_pos he]; simp⟩
      · refine Idx.mk _ hcs0 hrow ?_
        cbv
        simp only [a5, a6]
        refine hN2 (j2, a2, none) _ _ ?hx ?hI hT3
        case hx => (refine Wk.eqzN (id) (by intro i hi; first | rfl | (have hh : i = 0 ∨ i = 1 ∨ i = 2 ∨ i = 3 := (by omega); rcases hh with hh | hh | hh | hh <;> subst hh <;> rfl)) (Nat.le_of_ble_eq_true rfl) (by first | exact fun i _ j _ e => e | (simp only [List.length_cons, List.length_nil]; decide)) ?_; cbv; (repeat' (first | exact trivial | rfl | assumption | apply And.intro | (simp only [hbin, hcmp, hun, hconv, hnot, hbeq, hmm, hscmp, hsadd, hslen, hsat, heqs, hofNat, binStd, cmpStd, unStd, scmpStd, maxI, Bool.not_eq_true', Bool.not_eq_false', decide_eq_true_eq, decide_eq_false_iff_not, Int.not_lt, Int.not_le, if_true, if_false, Bool.false_eq_true, beq_iff_eq, bne_iff_ne, ne_eq, Bool.not_eq_eq_eq_not, Bool.not_true, Bool.not_false, beq_eq_false_iff_ne, bne_eq_false_iff_eq, Int.ofNat_eq_natCast, Bool.not_not, not_true_eq_false, not_false_eq_true, reduceCtorEq]; first | done | assumption) | exact RowsZ.same (by assumption) (by first | assumption | rfl) | exact FzL.mk rfl rfl rfl (by assumption) (by first | assumption | rfl) (by decide) | (refine RowsZ.one ?_; cbv))))
        case hI => exact ⟨by simp only; omega, by simp only; omega, by simp only; omega, by simp only; omega, acc, hrp, by simp only; omega, by rw [← hacc, if_neg he]; simp⟩
    · have hinv2 : 0 ≤ j ∧ j ≤ K ∧ -1099511627776 ≤ a ∧ a ≤ j * 1099511627776 ∧ ∃ acc, RepL (some (k1, w1)) acc ∧ acc.length ≤ 12 * i.toNat + j.toNat ∧ acc ++ plc ss gseg goff a (l.drop j.toNat) = plcs ss gseg goff from_ (m.take i2.toNat) := hinv2
      cbv
      obtain ⟨hj0, hj1, hq0, hq1, acc, hrp, hal, hacc⟩ := hinv2
      have huw1 : Up0 w1 := hrp.2.2
      have hk1 : k1 = w1.length := hrp.2.1
      have hwl1 : w1.length = acc.length := by rw [hrp.1]; simp
      (split <;> rename_i hd <;> (try (simp only [hbin, hcmp, hun, hconv, hnot, hbeq, hmm, hscmp, hsadd, hslen, hsat, heqs, hofNat, binStd, cmpStd, unStd, scmpStd, maxI, Bool.not_eq_true', Bool.not_eq_false', decide_eq_true_eq, decide_eq_false_iff_not, Int.not_lt, Int.not_le, if_true, if_false, Bool.false_eq_true, beq_iff_eq, bne_iff_ne, ne_eq, Bool.not_eq_eq_eq_not, Bool.not_true, Bool.not_false, beq_eq_false_iff_ne, bne_eq_false_iff_eq, Int.ofNat_eq_natCast, Bool.not_not, not_true_eq_false, not_false_eq_true, reduceCtorEq] at hd)) <;> (try cbv))
      rotate_left 1
      · refine hE2 _ _ _ ?_
        cbv
        simp only [a4]
        have e : plcs ss gseg goff from_ (m.take i2.toNat) = acc := by rw [← hacc, List.drop_of_length_le (by omega)]; simp [plc]
        refine hN (i2, some (k1, w1)) _ _ ?hx ?hI hT2
        case hx => (refine Wk.eqzN (id) (by intro i hi; first | rfl | (have hh : i = 0 ∨ i = 1 ∨ i = 2 ∨ i = 3 := (by omega); rcases hh with hh | hh | hh | hh <;> subst hh <;> rfl)) (Nat.le_of_ble_eq_true rfl) (by first | exact fun i _ j _ e => e | (simp only [List.length_cons, List.length_nil]; decide)) ?_; cbv; (repeat' (first | exact trivial | rfl | assumption | apply And.intro | (simp only [hbin, hcmp, hun, hconv, hnot, hbeq, hmm, hscmp, hsadd, hslen, hsat, heqs, hofNat, binStd, cmpStd, unStd, scmpStd, maxI, Bool.not_eq_true', Bool.not_eq_false', decide_eq_true_eq, decide_eq_false_iff_not, Int.not_lt, Int.not_le, if_true, if_false, Bool.false_eq_true, beq_iff_eq, bne_iff_ne, ne_eq, Bool.not_eq_eq_eq_not, Bool.not_true, Bool.not_false, beq_eq_false_iff_ne, bne_eq_false_iff_eq, Int.ofNat_eq_natCast, Bool.not_not, not_true_eq_false, not_false_eq_true, reduceCtorEq]; first | done | assumption) | exact RowsZ.same (by assumption) (by first | assumption | rfl) | exact FzL.mk rfl rfl rfl (by assumption) (by first | assumption | rfl) (by decide) | (refine RowsZ.one ?_; cbv))))
        case hI => exact ⟨by simp only; omega, by simp only; omega, by rw [e]; exact hrp⟩
      obtain ⟨c, hcj⟩ : ∃ c, l[j.toNat]? = some c := ⟨_, List.getElem?_eq_getElem (show j.toNat < l.length by omega)⟩
      have hxj : xs[j.toNat]? = some [.int .i64 c] := by rw [exs, List.getElem?_map, hcj]; rfl
      obtain ⟨hcs0, hcs1⟩ := hlseg c (List.mem_of_getElem? hcj)
      obtain ⟨⟨len, pps, nx⟩, hdc, hrow⟩ := get_map (f := sgRow) (ds := ss) (i := c) hcs0 hcs1
      obtain ⟨pq, epq⟩ : ∃ x, pps.map pcRow = x := ⟨_, rfl⟩
      obtain ⟨n1, en1⟩ : ∃ x, nx.map nxRow = x := ⟨_, rfl⟩
      have hrow : es[c.toNat]? = some [.int .i64 len, .list 2 pq, .list 1 n1] := by rw [hes, ← epq, ← en1]; exact hrow
      have hlen : lenAt ss c = len := by unfold lenAt; rw [hdc]
      have hlb := lenAt_le hln c
      rw [hlen] at hlb
      obtain ⟨j2, ej2⟩ : ∃ z, z = j + 1 := ⟨_, rfl⟩
      have a5 : wbin .add .i64 j 1 = j2 := by rw [hbin, ej2]; show IntKind.i64.wrap (j + 1) = j + 1; rw [IntKind.wrap_i64]; omega
      obtain ⟨a2, ea2⟩ : ∃ z, z = a + len := ⟨_, rfl⟩
      have a6 : wbin .add .i64 a len = a2 := by rw [hbin, ea2]; show IntKind.i64.wrap (a + len) = a + len; rw [IntKind.wrap_i64]; omega
      obtain ⟨p2, ep2⟩ : ∃ z, z = a + goff := ⟨_, rfl⟩
      have a7 : wbin .add .i64 a goff = p2 := by rw [hbin, ep2]; show IntKind.i64.wrap (a + goff) = a + goff; rw [IntKind.wrap_i64]; omega
      have hT3 : (K - j2).toNat < (K - j).toNat := by omega
      have hdr : plc ss gseg goff a (l.drop j.toNat) = (if c = gseg then [p2] else []) ++ plc ss gseg goff a2 (l.drop j2.toNat) := by
        rw [drop_getP hcj, show j2.toNat = j.toNat + 1 by omega, ep2, ea2, ← hlen]; rfl
      rw [hdr] at hacc
      clear hdr
      refine Idx.mk _ hj0 hxj ?_
      cbv
      (refine Call.inl hw hP Try.func76 (by kernel_rfl) (by kernel_rfl) ?_); (conv => arg 2; cbv); cbv
      (split <;> rename_i he <;> (try (simp only [hbin, hcmp, hun, hconv, hnot, hbeq, hmm, hscmp, hsadd, hslen, hsat, heqs, hofNat, binStd, cmpStd, unStd, scmpStd, maxI, Bool.not_eq_true', Bool.not_eq_false', decide_eq_true_eq, decide_eq_false_iff_not, Int.not_lt, Int.not_le, if_true, if_false, Bool.false_eq_true, beq_iff_eq, bne_iff_ne, ne_eq, Bool.not_eq_eq_eq_not, Bool.not_true, Bool.not_false, beq_eq_false_iff_ne, bne_eq_false_iff_eq, Int.ofNat_eq_natCast, Bool.not_not, not_true_eq_false, not_false_eq_true, reduceCtorEq] at he)) <;> (try cbv))
      · simp only [a7]
        obtain ⟨w2, ew2⟩ : ∃ x : List (List AV), x = w1 ++ [[.int .i64 p2]] := ⟨_, rfl⟩
        obtain ⟨k2, ek2⟩ : ∃ x, x = k1 + 1 := ⟨_, rfl⟩
        have hwl2 : w2.length = w1.length + 1 := by rw [ew2]; simp
        have hw2 : w2 = (acc ++ [p2]).map nxRow := by rw [ew2, hrp.1]; simp [nxRow]
        have huw2 : Up0 w2 := by rw [hw2]; exact up_nx _
        refine App.mk w2 k2 ew2 hk1 ek2 (by omega) (by omega) ?_
        cbv
        refine Idx.mk _ hcs0 hrow ?_
        cbv
        simp only [a5, a6]
        refine hN2 (j2, a2, some (k2, w2)) _ _ ?hx ?hI hT3
        case hx => (refine Wk.eqzN (fun j => [0, 1, 2, 3, 4, 5, 7].getD j 0) (by intro i hi; first | rfl | (have hh : i = 0 ∨ i = 1 ∨ i = 2 ∨ i = 3 := (by omega); rcases hh with hh | hh | hh | hh <;> subst hh <;> rfl)) (Nat.le_of_ble_eq_true rfl) (by first | exact fun i _ j _ e => e | (simp only [List.length_cons, List.length_nil]; decide)) ?_; cbv; (repeat' (first | exact trivial | rfl | assumption | apply And.intro | (simp only [hbin, hcmp, hun, hconv, hnot, hbeq, hmm, hscmp, hsadd, hslen, hsat, heqs, hofNat, binStd, cmpStd, unStd, scmpStd, maxI, Bool.not_eq_true', Bool.not_eq_false', decide_eq_true_eq, decide_eq_false_iff_not, Int.not_lt, Int.not_le, if_true, if_false, Bool.false_eq_true, beq_iff_eq, bne_iff_ne, ne_eq, Bool.not_eq_eq_eq_not, Bool.not_true, Bool.not_false, beq_eq_false_iff_ne, bne_eq_false_iff_eq, Int.ofNat_eq_natCast, Bool.not_not, not_true_eq_false, not_false_eq_true, reduceCtorEq]; first | done | assumption) | exact RowsZ.same (by assumption) (by first | assumption | rfl) | exact FzL.mk rfl rfl rfl (by assumption) (by first | assumption | rfl) (by decide) | (refine RowsZ.one ?_; cbv))))
        case hI => exact ⟨by simp only; omega, by simp only; omega, by simp only; omega, by simp only; omega, acc ++ [p2], ⟨hw2, by omega, huw2⟩, by simp only [List.length_append, List.length_cons, List.length_nil]; omega, by rw [← hacc, if_pos he]; simp⟩
      · refine Idx.mk _ hcs0 hrow ?_
        cbv
        simp only [a5, a6]
        refine hN2 (j2, a2, some (k1, w1)) _ _ ?hx ?hI hT3
        case hx => (refine Wk.eqzN (id) (by intro i hi; first | rfl | (have hh : i = 0 ∨ i = 1 ∨ i = 2 ∨ i = 3 := (by omega); rcases hh with hh | hh | hh | hh <;> subst hh <;> rfl)) (Nat.le_of_ble_eq_true rfl) (by first | exact fun i _ j _ e => e | (simp only [List.length_cons, List.length_nil]; decide)) ?_; cbv; (repeat' (first | exact trivial | rfl | assumption | apply And.intro | (simp only [hbin, hcmp, hun, hconv, hnot, hbeq, hmm, hscmp, hsadd, hslen, hsat, heqs, hofNat, binStd, cmpStd, unStd, scmpStd, maxI, Bool.not_eq_true', Bool.not_eq_false', decide_eq_true_eq, decide_eq_false_iff_not, Int.not_lt, Int.not_le, if_true, if_false, Bool.false_eq_true, beq_iff_eq, bne_iff_ne, ne_eq, Bool.not_eq_eq_eq_not, Bool.not_true, Bool.not_false, beq_eq_false_iff_ne, bne_eq_false_iff_eq, Int.ofNat_eq_natCast, Bool.not_not, not_true_eq_false, not_false_eq_true, reduceCtorEq]; first | done | assumption) | exact RowsZ.same (by assumption) (by first | assumption | rfl) | exact FzL.mk rfl rfl rfl (by assumption) (by first | assumption | rfl) (by decide) | (refine RowsZ.one ?_; cbv))))
        case hI => exact ⟨by simp only; omega, by simp only; omega, by simp only; omega, by simp only; omega, acc, hrp, by simp only; omega, by rw [← hacc, if_neg he]; simp⟩
end Go.Proofs.Ytpiocfmdjgbamaa

/- link.Fitting, by the engine. -/
set_option linter.unusedVariables false
set_option linter.unusedSimpArgs false
namespace Go.Proofs.Ytpiocfmdjgbamaa
open Go Go.RowKit Go.Eng
set_option maxRecDepth 100000
def fitF (w lo hi : Int) (ps : List Int) : List Int := ps.filter fun a => decide (a - w ≤ hi ∧ lo ≤ a + w)
theorem e_window (c0 c1 c2 c3 c4 c5 c6 c7 c8 c9 c10 c11 c12 c13 g1 g2 g3 g4 g5 w : Int) (h : g4 + c8 + g5 = w) (h1 : 0 ≤ c8 ∧ c8 ≤ 1048576) (h2 : 0 ≤ g4 ∧ g4 ≤ 1048576) (h3 : 0 ≤ g5 ∧ g5 ≤ 16777216) :
    PCalls Try.prog 47 [.agg [.int .i64 c0, .int .i64 c1, .int .i64 c2, .int .i64 c3, .int .i64 c4, .int .i64 c5, .int .i64 c6, .int .i64 c7, .int .i64 c8, .int .i64 c9, .int .i64 c10, .int .i64 c11, .int .i64 c12, .int .i64 c13], .agg [.int .i64 g1, .int .i64 g2, .int .i64 g3, .int .i64 g4, .int .i64 g5]] (· = .int .i64 w) := by
  (refine PCalls.ofY Try.func47 (by kernel_rfl) (by kernel_rfl) fun w hw R hR => ?_); (obtain ⟨wbin, wcmp, wun, wconv, wnot, wbeq, wmm, wscmp, wsadd, wslen, wsat, weqs, wlen, wnlen, wofNat, wtake, wdrop, wapp, wzero, wnat⟩ := w); (have hbin : wbin = binStd := congrArg Prims.bin hw); (have hcmp : wcmp = cmpStd := congrArg Prims.cmp hw); (have hun : wun = unStd := congrArg Prims.un hw); (have hconv : wconv = fun k n => k.wrap n := congrArg Prims.conv hw); (have hnot : wnot = fun b => !b := congrArg Prims.not hw); (have hbeq : wbeq = fun a b => a == b := congrArg Prims.beq hw); (have hmm : wmm = maxI := congrArg Prims.mm hw); (have hscmp : wscmp = scmpStd := congrArg Prims.scmp hw); (have hsadd : wsadd = fun x y => x ++ y := congrArg Prims.sadd hw); (have hslen : wslen = fun s => (s.size : Int) := congrArg Prims.slen hw); (have hsat : wsat = std.sat := congrArg Prims.sat hw); (have heqs : weqs = fun a b os => (eqOffs a b os).getD false := congrArg Prims.eqs hw); (have hlen : wlen = fun es => (es.length : Int) := congrArg Prims.len hw); (have hnlen : wnlen = fun es => es.length := congrArg Prims.nlen hw); (have hofNat : wofNat = (fun n : Nat => (n : Int)) := congrArg Prims.ofNat hw); (have htake : wtake = fun es b => es.take b.toNat := congrArg Prims.take hw); (have hdrop : wdrop = fun es a => es.drop a.toNat := congrArg Prims.drop hw); (have happ : wapp = fun a b => a ++ b := congrArg Prims.app hw); (have hzero : wzero = fun n z => List.replicate n.toNat z := congrArg Prims.zero hw); (have hnat : wnat = fun n => n.toNat := congrArg Prims.nat hw); (conv => arg 2; cbv); (generalize hP : Try.prog = P); cbv
  obtain ⟨x, ex⟩ : ∃ x, g4 + c8 = x := ⟨_, rfl⟩
  have e1 : wbin .add .i64 g4 c8 = x := by rw [hbin, i_add (by omega) (by omega)]; exact ex
  have e2 : wbin .add .i64 x g5 = w := by rw [hbin, i_add (by omega) (by omega)]; omega
  simp only [e1, e2]
  exact ⟨_, Vw.same rfl, hR _ rfl⟩
theorem e_xaround {a w l h : Int} (h0 : 0 ≤ w) (hl : a - w = l) (hh : a + w = h) (ha : I62 a) (hw : I62 w) : PCalls Try.prog 72 [.int .i64 a, .int .i64 w] (· = .tuple [.agg [.int .i64 l, .int .i64 h], .bool true]) := by
  have hg : PCalls Try.prog 99 [.agg [.int .i64 a, .int .i64 a], .int .i64 w] (· = .tuple [.agg [.int .i64 l, .int .i64 h], .bool true]) := by
    have r1 := e_xright (a := a) (b := a) true (by simp)
    have s1 := e_xsub hl ha hw
    have s2 := e_xadd hh ha hw
    have b1 := e_xboth (lo := l) (hi := h) (by omega)
    (refine PCalls.ofY Try.func99 (by kernel_rfl) (by kernel_rfl) fun w hw R hR => ?_); (obtain ⟨wbin, wcmp, wun, wconv, wnot, wbeq, wmm, wscmp, wsadd, wslen, wsat, weqs, wlen, wnlen, wofNat, wtake, wdrop, wapp, wzero, wnat⟩ := w); (have hbin : wbin = binStd := congrArg Prims.bin hw); (have hcmp : wcmp = cmpStd := congrArg Prims.cmp hw); (have hun : wun = unStd := congrArg Prims.un hw); (have hconv : wconv = fun k n => k.wrap n := congrArg Prims.conv hw); (have hnot : wnot = fun b => !b := congrArg Prims.not hw); (have hbeq : wbeq = fun a b => a == b := congrArg Prims.beq hw); (have hmm : wmm = maxI := congrArg Prims.mm hw); (have hscmp : wscmp = scmpStd := congrArg Prims.scmp hw); (have hsadd : wsadd = fun x y => x ++ y := congrArg Prims.sadd hw); (have hslen : wslen = fun s => (s.size : Int) := congrArg Prims.slen hw); (have hsat : wsat = std.sat := congrArg Prims.sat hw); (have heqs : weqs = fun a b os => (eqOffs a b os).getD false := congrArg Prims.eqs hw); (have hlen : wlen = fun es => (es.length : Int) := congrArg Prims.len hw); (have hnlen : wnlen = fun es => es.length := congrArg Prims.nlen hw); (have hofNat : wofNat = (fun n : Nat => (n : Int)) := congrArg Prims.ofNat hw); (have htake : wtake = fun es b => es.take b.toNat := congrArg Prims.take hw); (have hdrop : wdrop = fun es a => es.drop a.toNat := congrArg Prims.drop hw); (have happ : wapp = fun a b => a ++ b := congrArg Prims.app hw); (have hzero : wzero = fun n z => List.replicate n.toNat z := congrArg Prims.zero hw); (have hnat : wnat = fun n => n.toNat := congrArg Prims.nat hw); (conv => arg 2; cbv); (generalize hP : Try.prog = P); cbv
    have n1 : wnot true = false := by rw [hnot]; rfl
    repeat' (first
      | (refine Call.stepE (by rw [← hP]; exact r1) rfl ?_; cbv; simp only [n1]; cbv)
      | (refine Call.stepE (by rw [← hP]; exact s1) rfl ?_; cbv)
      | (refine Call.stepE (by rw [← hP]; exact s2) rfl ?_; cbv)
      | (refine Call.stepE (by rw [← hP]; exact b1) rfl ?_; cbv))
    exact ⟨_, Vw.same rfl, hR _ rfl⟩
  have h2 : PCalls Try.prog 98 [.int .i64 a] (· = .agg [.int .i64 a, .int .i64 a]) := by
    (refine PCalls.ofY Try.func98 (by kernel_rfl) (by kernel_rfl) fun w hw R hR => ?_); (obtain ⟨wbin, wcmp, wun, wconv, wnot, wbeq, wmm, wscmp, wsadd, wslen, wsat, weqs, wlen, wnlen, wofNat, wtake, wdrop, wapp, wzero, wnat⟩ := w); (have hbin : wbin = binStd := congrArg Prims.bin hw); (have hcmp : wcmp = cmpStd := congrArg Prims.cmp hw); (have hun : wun = unStd := congrArg Prims.un hw); (have hconv : wconv = fun k n => k.wrap n := congrArg Prims.conv hw); (have hnot : wnot = fun b => !b := congrArg Prims.not hw); (have hbeq : wbeq = fun a b => a == b := congrArg Prims.beq hw); (have hmm : wmm = maxI := congrArg Prims.mm hw); (have hscmp : wscmp = scmpStd := congrArg Prims.scmp hw); (have hsadd : wsadd = fun x y => x ++ y := congrArg Prims.sadd hw); (have hslen : wslen = fun s => (s.size : Int) := congrArg Prims.slen hw); (have hsat : wsat = std.sat := congrArg Prims.sat hw); (have heqs : weqs = fun a b os => (eqOffs a b os).getD false := congrArg Prims.eqs hw); (have hlen : wlen = fun es => (es.length : Int) := congrArg Prims.len hw); (have hnlen : wnlen = fun es => es.length := congrArg Prims.nlen hw); (have hofNat : wofNat = (fun n : Nat => (n : Int)) := congrArg Prims.ofNat hw); (have htake : wtake = fun es b => es.take b.toNat := congrArg Prims.take hw); (have hdrop : wdrop = fun es a => es.drop a.toNat := congrArg Prims.drop hw); (have happ : wapp = fun a b => a ++ b := congrArg Prims.app hw); (have hzero : wzero = fun n z => List.replicate n.toNat z := congrArg Prims.zero hw); (have hnat : wnat = fun n => n.toNat := congrArg Prims.nat hw); (conv => arg 2; cbv); (generalize hP : Try.prog = P); cbv
    exact ⟨_, Vw.same rfl, hR _ rfl⟩
  (refine PCalls.ofY Try.func72 (by kernel_rfl) (by kernel_rfl) fun w hw R hR => ?_); (obtain ⟨wbin, wcmp, wun, wconv, wnot, wbeq, wmm, wscmp, wsadd, wslen, wsat, weqs, wlen, wnlen, wofNat, wtake, wdrop, wapp, wzero, wnat⟩ := w); (have hbin : wbin = binStd := congrArg Prims.bin hw); (have hcmp : wcmp = cmpStd := congrArg Prims.cmp hw); (have hun : wun = unStd := congrArg Prims.un hw); (have hconv : wconv = fun k n => k.wrap n := congrArg Prims.conv hw); (have hnot : wnot = fun b => !b := congrArg Prims.not hw); (have hbeq : wbeq = fun a b => a == b := congrArg Prims.beq hw); (have hmm : wmm = maxI := congrArg Prims.mm hw); (have hscmp : wscmp = scmpStd := congrArg Prims.scmp hw); (have hsadd : wsadd = fun x y => x ++ y := congrArg Prims.sadd hw); (have hslen : wslen = fun s => (s.size : Int) := congrArg Prims.slen hw); (have hsat : wsat = std.sat := congrArg Prims.sat hw); (have heqs : weqs = fun a b os => (eqOffs a b os).getD false := congrArg Prims.eqs hw); (have hlen : wlen = fun es => (es.length : Int) := congrArg Prims.len hw); (have hnlen : wnlen = fun es => es.length := congrArg Prims.nlen hw); (have hofNat : wofNat = (fun n : Nat => (n : Int)) := congrArg Prims.ofNat hw); (have htake : wtake = fun es b => es.take b.toNat := congrArg Prims.take hw); (have hdrop : wdrop = fun es a => es.drop a.toNat := congrArg Prims.drop hw); (have happ : wapp = fun a b => a ++ b := congrArg Prims.app hw); (have hzero : wzero = fun n z => List.replicate n.toNat z := congrArg Prims.zero hw); (have hnat : wnat = fun n => n.toNat := congrArg Prims.nat hw); (conv => arg 2; cbv); (generalize hP : Try.prog = P); cbv
  repeat' (first
    | (refine Call.stepE (by rw [← hP]; exact h2) rfl ?_; cbv)
    | (refine Call.stepE (by rw [← hP]; exact hg) rfl ?_; cbv))
  exact ⟨_, Vw.same rfl, hR _ rfl⟩
set_option maxHeartbeats 4000000 in
theorem e_fitting (c0 c1 c2 c3 c4 c5 c6 c7 c8 c9 c10 c11 c12 c13 : Int) (hc : 0 ≤ c8 ∧ c8 ≤ 1048576) (es ds rs : List (List AV)) (hu : Up0 es) (hud : Up0 ds) (hur : Up0 rs) (from_ lo hi g : Int) (hg : 0 ≤ g) (g1 g2 g3 g4 g5 : Int) (hG : ds[g.toNat]? = some [.int .i64 g1, .int .i64 g2, .int .i64 g3, .int .i64 g4, .int .i64 g5]) (h4 : 0 ≤ g4 ∧ g4 ≤ 1048576) (h5 : 0 ≤ g5 ∧ g5 ≤ 16777216) (hlh : lo ≤ hi)
    (w : Int) (hw0 : g4 + c8 + g5 = w) (ps : List Int) (hps : ps.length ≤ 1000) (hpb : ∀ a, a ∈ ps → -1125899906842624 ≤ a ∧ a ≤ 1125899906842624) (hpl : PCalls Try.prog 49 [.agg [.int .i64 from_, .list 13 rs], .agg [.list 3 es, .list 5 ds], .int .i64 g] (· = .list 1 (ps.map nxRow))) :
    PCalls Try.prog 45 [.agg [.int .i64 c0, .int .i64 c1, .int .i64 c2, .int .i64 c3, .int .i64 c4, .int .i64 c5, .int .i64 c6, .int .i64 c7, .int .i64 c8, .int .i64 c9, .int .i64 c10, .int .i64 c11, .int .i64 c12, .int .i64 c13], .agg [.list 3 es, .list 5 ds], .agg [.int .i64 from_, .list 13 rs], .agg [.int .i64 lo, .int .i64 hi], .int .i64 g] (· = .list 1 ((fitF w lo hi ps).map nxRow)) := by
  have hdl : g.toNat < ds.length := (List.getElem?_eq_some_iff.1 hG).1
  obtain ⟨v, ev⟩ : ∃ v, v = fitF w lo hi ps := ⟨_, rfl⟩
  obtain ⟨q, eq⟩ : ∃ q, q = ps.map nxRow := ⟨_, rfl⟩
  have huq : Up0 q := by rw [eq]; exact up_nx ps
  have hql : q.length = ps.length := by rw [eq]; simp
  rw [← eq] at hpl
  rw [← ev]
  have hup : uptoL 0 [AV.agg [.int .i64 from_, .list 13 rs], .agg [.list 3 es, .list 5 ds], .int .i64 g] = true := by simp only [uptoL, AV.upto, hu.get, hud.get, hur.get]; rfl
  (refine PCalls.ofY Try.func45 (by kernel_rfl) (by kernel_rfl) fun w hw R hR => ?_); (obtain ⟨wbin, wcmp, wun, wconv, wnot, wbeq, wmm, wscmp, wsadd, wslen, wsat, weqs, wlen, wnlen, wofNat, wtake, wdrop, wapp, wzero, wnat⟩ := w); (have hbin : wbin = binStd := congrArg Prims.bin hw); (have hcmp : wcmp = cmpStd := congrArg Prims.cmp hw); (have hun : wun = unStd := congrArg Prims.un hw); (have hconv : wconv = fun k n => k.wrap n := congrArg Prims.conv hw); (have hnot : wnot = fun b => !b := congrArg Prims.not hw); (have hbeq : wbeq = fun a b => a == b := congrArg Prims.beq hw); (have hmm : wmm = maxI := congrArg Prims.mm hw); (have hscmp : wscmp = scmpStd := congrArg Prims.scmp hw); (have hsadd : wsadd = fun x y => x ++ y := congrArg Prims.sadd hw); (have hslen : wslen = fun s => (s.size : Int) := congrArg Prims.slen hw); (have hsat : wsat = std.sat := congrArg Prims.sat hw); (have heqs : weqs = fun a b os => (eqOffs a b os).getD false := congrArg Prims.eqs hw); (have hlen : wlen = fun es => (es.length : Int) := congrArg Prims.len hw); (have hnlen : wnlen = fun es => es.length := congrArg Prims.nlen hw); (have hofNat : wofNat = (fun n : Nat => (n : Int)) := congrArg Prims.ofNat hw); (have htake : wtake = fun es b => es.take b.toNat := congrArg Prims.take hw); (have hdrop : wdrop = fun es a => es.drop a.toNat := congrArg Prims.drop hw); (have happ : wapp = fun a b => a ++ b := congrArg Prims.app hw); (have hzero : wzero = fun n z => List.replicate n.toNat z := congrArg Prims.zero hw); (have hnat : wnat = fun n => n.toNat := congrArg Prims.nat hw); (conv => arg 2; cbv); (generalize hP : Try.prog = P); cbv
  refine Call.stepE (by rw [← hP]; exact hpl) (by exact hup) ?_
  cbv
  (obtain ⟨L, eL, L0, Ln⟩ : ∃ L : Int, wlen q = L ∧ 0 ≤ L ∧ L.toNat = q.length := ⟨(q.length : Int), by rw [hlen], Int.natCast_nonneg _, Int.toNat_natCast _⟩)
  simp only [eL]
  have hwin := e_window c0 c1 c2 c3 c4 c5 c6 c7 c8 c9 c10 c11 c12 c13 g1 g2 g3 g4 g5 w hw0 hc h4 h5
  refine Loop.data hw (S := Int × Option (Nat × List (List AV))) (fun s => match s.2 with
      | none => fr 55 [(4, .int .i64 g), (5, .ref 0 14 0 0), (6, .ref 1 2 0 0), (8, .ref 3 2 0 0), (11, .nils), (21, .list 1 q), (22, .int .i64 L), (23, .int .i64 s.1)]
      | some (k, w) => fr 55 [(4, .int .i64 g), (5, .ref 0 14 0 0), (6, .ref 1 2 0 0), (8, .ref 3 2 0 0), (11, .sl 4 1 0 k), (21, .list 1 q), (22, .int .i64 L), (23, .int .i64 s.1)])
    (fun s => match s.2 with
      | none => [.live 14 [[.int .i64 c0, .int .i64 c1, .int .i64 c2, .int .i64 c3, .int .i64 c4, .int .i64 c5, .int .i64 c6, .int .i64 c7, .int .i64 c8, .int .i64 c9, .int .i64 c10, .int .i64 c11, .int .i64 c12, .int .i64 c13]], .live 2 [[.list 3 es, .list 5 ds]], .live 2 [[.int .i64 from_, .list 13 rs]], .live 2 [[.int .i64 lo, .int .i64 hi]]]
      | some (k, w) => [.live 14 [[.int .i64 c0, .int .i64 c1, .int .i64 c2, .int .i64 c3, .int .i64 c4, .int .i64 c5, .int .i64 c6, .int .i64 c7, .int .i64 c8, .int .i64 c9, .int .i64 c10, .int .i64 c11, .int .i64 c12, .int .i64 c13]], .live 2 [[.list 3 es, .list 5 ds]], .live 2 [[.int .i64 from_, .list 13 rs]], .live 2 [[.int .i64 lo, .int .i64 hi]], .live 1 w])
    (fun s => 0 ≤ s.1 ∧ s.1 ≤ L ∧ RepL s.2 (fitF w lo hi (ps.take s.1.toNat))) (fun s => (L - s.1).toNat) (0, none) (by (refine Wk.eqz (id) (by first | exact fun i _ j _ e => e | (simp only [List.length_cons, List.length_nil]; decide)) ?_; cbv; (repeat' (first | exact trivial | rfl | assumption | apply And.intro | (simp only [hbin, hcmp, hun, hconv, hnot, hbeq, hmm, hscmp, hsadd, hslen, hsat, heqs, hofNat, binStd, cmpStd, unStd, scmpStd, maxI, Bool.not_eq_true', Bool.not_eq_false', decide_eq_true_eq, decide_eq_false_iff_not, Int.not_lt, Int.not_le, if_true, if_false, Bool.false_eq_true, beq_iff_eq, bne_iff_ne, ne_eq, Bool.not_eq_eq_eq_not, Bool.not_true, Bool.not_false, beq_eq_false_iff_ne, bne_eq_false_iff_eq, Int.ofNat_eq_natCast, Bool.not_not, not_true_eq_false, not_false_eq_true, reduceCtorEq]; first | done | assumption) | exact RowsZ.same (by assumption) (by first | assumption | rfl) | exact FzL.mk rfl rfl rfl (by assumption) (by first | assumption | rfl) (by decide) | (refine RowsZ.one ?_; cbv))))) ⟨Int.le_refl _, L0, rfl⟩ ?_
  rintro ⟨i, (_ | ⟨k1, w1⟩)⟩ hinv Q' hN hE hR'
  · have hinv : 0 ≤ i ∧ i ≤ L ∧ RepL none (fitF w lo hi (ps.take i.toNat)) := hinv
    cbv
    obtain ⟨hi0, hi1, hrep⟩ := hinv
    have hfl : (fitF w lo hi (ps.take i.toNat)).length ≤ ps.length := Nat.le_trans (List.length_filter_le _ _) (by simp; omega)
    (split <;> rename_i hd <;> (try (simp only [hbin, hcmp, hun, hconv, hnot, hbeq, hmm, hscmp, hsadd, hslen, hsat, heqs, hofNat, binStd, cmpStd, unStd, scmpStd, maxI, Bool.not_eq_true', Bool.not_eq_false', decide_eq_true_eq, decide_eq_false_iff_not, Int.not_lt, Int.not_le, if_true, if_false, Bool.false_eq_true, beq_iff_eq, bne_iff_ne, ne_eq, Bool.not_eq_eq_eq_not, Bool.not_true, Bool.not_false, beq_eq_false_iff_ne, bne_eq_false_iff_eq, Int.ofNat_eq_natCast, Bool.not_not, not_true_eq_false, not_false_eq_true, reduceCtorEq] at hd)) <;> (try cbv))
    rotate_left 1
    · rw [List.take_of_length_le (by omega), ← ev] at hrep
      refine hE _ _ _ ?_
      cbv
      exact ⟨_, Vw.nil 1, hR _ (by rw [show v = [] from hrep]; rfl)⟩
    obtain ⟨a, ha⟩ : ∃ a, ps[i.toNat]? = some a := ⟨_, List.getElem?_eq_getElem (show i.toNat < ps.length by omega)⟩
    have hqa : q[i.toNat]? = some [.int .i64 a] := by rw [eq, List.getElem?_map, ha]; rfl
    have hab := hpb a (List.mem_of_getElem? ha)
    obtain ⟨i2, ei2⟩ : ∃ z, z = i + 1 := ⟨_, rfl⟩
    have a4 : wbin .add .i64 i 1 = i2 := by rw [hbin, ei2]; show IntKind.i64.wrap (i + 1) = i + 1; rw [IntKind.wrap_i64]; omega
    have hT2 : (L - i2).toNat < (L - i).toNat := by omega
    have htk : ps.take i2.toNat = ps.take i.toNat ++ [a] := by rw [ei2]; exact take_next hi0 ha
    have hst : fitF w lo hi (ps.take i2.toNat) = fitF w lo hi (ps.take i.toNat) ++ (if a - w ≤ hi ∧ lo ≤ a + w then [a] else []) := by
      rw [htk]; unfold fitF; rw [List.filter_append]
      congr 1
      by_cases h : a - w ≤ hi ∧ lo ≤ a + w
      · rw [if_pos h]; simp [h.1, h.2]
      · rw [if_neg h]
        simp only [List.filter_cons, List.filter_nil]
        rw [if_neg (by simpa using h)]
    obtain ⟨l1, el1⟩ : ∃ z, a - w = z := ⟨_, rfl⟩
    obtain ⟨h1, eh1⟩ : ∃ z, a + w = z := ⟨_, rfl⟩
    obtain ⟨x1, ex1⟩ : ∃ z, max l1 lo = z := ⟨_, rfl⟩
    obtain ⟨y1, ey1⟩ : ∃ z, min h1 hi = z := ⟨_, rfl⟩
    have s1 := e_xaround (by omega) el1 eh1 ⟨by omega, by omega⟩ ⟨by omega, by omega⟩
    refine Idx.mk _ hi0 hqa ?_
    cbv
    refine Idx.mk _ hg hG ?_
    cbv
    refine QCal.stepE (by rw [← hP]; exact hwin) rfl ?_
    cbv
    refine QCal.stepE (by rw [← hP]; exact s1) rfl ?_
    cbv
    by_cases hm : x1 ≤ y1
    · have s2 := e_xmeet ex1 ey1 hm
      refine Call.stepE (by rw [← hP]; exact s2) rfl ?_
      cbv
      rw [if_pos (by omega)] at hst
      refine Ob.mk (by decide) ?_
      cbv
      simp only [a4]
      refine hN (i2, some (1, [[.int .i64 a]])) _ _ ?hx ?hI hT2
      case hx => (refine Wk.eqz (fun j => [0, 1, 2, 3, 6].getD j 0) (by first | exact fun i _ j _ e => e | (simp only [List.length_cons, List.length_nil]; decide)) ?_; cbv; (repeat' (first | exact trivial | rfl | assumption | apply And.intro | (simp only [hbin, hcmp, hun, hconv, hnot, hbeq, hmm, hscmp, hsadd, hslen, hsat, heqs, hofNat, binStd, cmpStd, unStd, scmpStd, maxI, Bool.not_eq_true', Bool.not_eq_false', decide_eq_true_eq, decide_eq_false_iff_not, Int.not_lt, Int.not_le, if_true, if_false, Bool.false_eq_true, beq_iff_eq, bne_iff_ne, ne_eq, Bool.not_eq_eq_eq_not, Bool.not_true, Bool.not_false, beq_eq_false_iff_ne, bne_eq_false_iff_eq, Int.ofNat_eq_natCast, Bool.not_not, not_true_eq_false, not_false_eq_true, reduceCtorEq]; first | done | assumption) | exact RowsZ.same (by assumption) (by first | assumption | rfl) | exact FzL.mk rfl rfl rfl (by assumption) (by first | assumption | rfl) (by decide) | (refine RowsZ.one ?_; cbv))))
      case hI => exact ⟨by simp only; omega, by simp only; omega, by simp only; rw [hst, show fitF w lo hi (ps.take i.toNat) = [] from hrep]; exact ⟨rfl, rfl, ⟨rfl⟩⟩⟩
    · have s2 := e_xmeetNo ex1 ey1 (show y1 < x1 by omega)
      refine Call.stepE (by rw [← hP]; exact s2) rfl ?_
      cbv
      rw [if_neg (by omega), List.append_nil] at hst
      simp only [a4]
      refine hN (i2, none) _ _ ?hx ?hI hT2
      case hx => (refine Wk.eqz (id) (by first | exact fun i _ j _ e => e | (simp only [List.length_cons, List.length_nil]; decide)) ?_; cbv; (repeat' (first | exact trivial | rfl | assumption | apply And.intro | (simp only [hbin, hcmp, hun, hconv, hnot, hbeq, hmm, hscmp, hsadd, hslen, hsat, heqs, hofNat, binStd, cmpStd, unStd, scmpStd, maxI, Bool.not_eq_true', Bool.not_eq_false', decide_eq_true_eq, decide_eq_false_iff_not, Int.not_lt, Int.not_le, if_true, if_false, Bool.false_eq_true, beq_iff_eq, bne_iff_ne, ne_eq, Bool.not_eq_eq_eq_not, Bool.not_true, Bool.not_false, beq_eq_false_iff_ne, bne_eq_false_iff_eq, Int.ofNat_eq_natCast, Bool.not_not, not_true_eq_false, not_false_eq_true, reduceCtorEq]; first | done | assumption) | exact RowsZ.same (by assumption) (by first | assumption | rfl) | exact FzL.mk rfl rfl rfl (by assumption) (by first | assumption | rfl) (by decide) | (refine RowsZ.one ?_; cbv))))
      case hI => exact ⟨by simp only; omega, by simp only; omega, by simp only; rw [hst]; exact hrep⟩
  · have hinv : 0 ≤ i ∧ i ≤ L ∧ RepL (some (k1, w1)) (fitF w lo hi (ps.take i.toNat)) := hinv
    cbv
    obtain ⟨hi0, hi1, hrep⟩ := hinv
    have hfl : (fitF w lo hi (ps.take i.toNat)).length ≤ ps.length := Nat.le_trans (List.length_filter_le _ _) (by simp; omega)
    have huw : Up0 w1 := hrep.2.2
    have hk1 : k1 = w1.length := hrep.2.1
    have hwl1 : w1.length = (fitF w lo hi (ps.take i.toNat)).length := by rw [hrep.1]; simp
    (split <;> rename_i hd <;> (try (simp only [hbin, hcmp, hun, hconv, hnot, hbeq, hmm, hscmp, hsadd, hslen, hsat, heqs, hofNat, binStd, cmpStd, unStd, scmpStd, maxI, Bool.not_eq_true', Bool.not_eq_false', decide_eq_true_eq, decide_eq_false_iff_not, Int.not_lt, Int.not_le, if_true, if_false, Bool.false_eq_true, beq_iff_eq, bne_iff_ne, ne_eq, Bool.not_eq_eq_eq_not, Bool.not_true, Bool.not_false, beq_eq_false_iff_ne, bne_eq_false_iff_eq, Int.ofNat_eq_natCast, Bool.not_not, not_true_eq_false, not_false_eq_true, reduceCtorEq] at hd)) <;> (try cbv))
    rotate_left 1
    · rw [List.take_of_length_le (by omega), ← ev] at hrep
      refine hE _ _ _ ?_
      cbv
      have e1 : (w1.drop 0).take k1 = v.map nxRow := by rw [List.drop_zero, List.take_of_length_le (by omega)]; exact hrep.1
      refine ⟨_, Vw.sl (s := 4) (z := 1) (n := k1) (i := 0) rfl huw.get (by omega), hR _ ?_⟩
      rw [e1]
    obtain ⟨a, ha⟩ : ∃ a, ps[i.toNat]? = some a := ⟨_, List.getElem?_eq_getElem (show i.toNat < ps.length by omega)⟩
    have hqa : q[i.toNat]? = some [.int .i64 a] := by rw [eq, List.getElem?_map, ha]; rfl
    have hab := hpb a (List.mem_of_getElem? ha)
    obtain ⟨i2, ei2⟩ : ∃ z, z = i + 1 := ⟨_, rfl⟩
    have a4 : wbin .add .i64 i 1 = i2 := by rw [hbin, ei2]; show IntKind.i64.wrap (i + 1) = i + 1; rw [IntKind.wrap_i64]; omega
    have hT2 : (L - i2).toNat < (L - i).toNat := by omega
    have htk : ps.take i2.toNat = ps.take i.toNat ++ [a] := by rw [ei2]; exact take_next hi0 ha
    have hst : fitF w lo hi (ps.take i2.toNat) = fitF w lo hi (ps.take i.toNat) ++ (if a - w ≤ hi ∧ lo ≤ a + w then [a] else []) := by
      rw [htk]; unfold fitF; rw [List.filter_append]
      congr 1
      by_cases h : a - w ≤ hi ∧ lo ≤ a + w
      · rw [if_pos h]; simp [h.1, h.2]
      · rw [if_neg h]
        simp only [List.filter_cons, List.filter_nil]
        rw [if_neg (by simpa using h)]
    obtain ⟨l1, el1⟩ : ∃ z, a - w = z := ⟨_, rfl⟩
    obtain ⟨h1, eh1⟩ : ∃ z, a + w = z := ⟨_, rfl⟩
    obtain ⟨x1, ex1⟩ : ∃ z, max l1 lo = z := ⟨_, rfl⟩
    obtain ⟨y1, ey1⟩ : ∃ z, min h1 hi = z := ⟨_, rfl⟩
    have s1 := e_xaround (by omega) el1 eh1 ⟨by omega, by omega⟩ ⟨by omega, by omega⟩
    refine Idx.mk _ hi0 hqa ?_
    cbv
    refine Idx.mk _ hg hG ?_
    cbv
    refine QCal.stepE (by rw [← hP]; exact hwin) rfl ?_
    cbv
    refine QCal.stepE (by rw [← hP]; exact s1) rfl ?_
    cbv
    by_cases hm : x1 ≤ y1
    · have s2 := e_xmeet ex1 ey1 hm
      refine Call.stepE (by rw [← hP]; exact s2) rfl ?_
      cbv
      rw [if_pos (by omega)] at hst
      obtain ⟨w2, ew2⟩ : ∃ x : List (List AV), x = w1 ++ [[.int .i64 a]] := ⟨_, rfl⟩
      obtain ⟨k2, ek2⟩ : ∃ x, x = k1 + 1 := ⟨_, rfl⟩
      have hwl2 : w2.length = w1.length + 1 := by rw [ew2]; simp
      have hw2 : w2 = (fitF w lo hi (ps.take i.toNat) ++ [a]).map nxRow := by rw [ew2, hrep.1]; simp [nxRow]
      have huw2 : Up0 w2 := by rw [hw2]; exact up_nx _
      refine App.mk w2 k2 ew2 hk1 ek2 (by omega) (by omega) ?_
      cbv
      simp only [a4]
      refine hN (i2, some (k2, w2)) _ _ ?hx ?hI hT2
      case hx => (refine Wk.eqz (fun j => [0, 1, 2, 3, 7].getD j 0) (by first | exact fun i _ j _ e => e | (simp only [List.length_cons, List.length_nil]; decide)) ?_; cbv; (repeat' (first | exact trivial | rfl | assumption | apply And.intro | (simp only [hbin, hcmp, hun, hconv, hnot, hbeq, hmm, hscmp, hsadd, hslen, hsat, heqs, hofNat, binStd, cmpStd, unStd, scmpStd, maxI, Bool.not_eq_true', Bool.not_eq_false', decide_eq_true_eq, decide_eq_false_iff_not, Int.not_lt, Int.not_le, if_true, if_false, Bool.false_eq_true, beq_iff_eq, bne_iff_ne, ne_eq, Bool.not_eq_eq_eq_not, Bool.not_true, Bool.not_false, beq_eq_false_iff_ne, bne_eq_false_iff_eq, Int.ofNat_eq_natCast, Bool.not_not, not_true_eq_false, not_false_eq_true, reduceCtorEq]; first | done | assumption) | exact RowsZ.same (by assumption) (by first | assumption | rfl) | exact FzL.mk rfl rfl rfl (by assumption) (by first | assumption | rfl) (by decide) | (refine RowsZ.one ?_; cbv))))
      case hI => exact ⟨by simp only; omega, by simp only; omega, by simp only; rw [hst]; exact ⟨hw2, by omega, huw2⟩⟩
    · have s2 := e_xmeetNo ex1 ey1 (show y1 < x1 by omega)
      refine Call.stepE (by rw [← hP]; exact s2) rfl ?_
      cbv
      rw [if_neg (by omega), List.append_nil] at hst
      simp only [a4]
      refine hN (i2, (some (k1, w1))) _ _ ?hx ?hI hT2
      case hx => (refine Wk.eqz (id) (by first | exact fun i _ j _ e => e | (simp only [List.length_cons, List.length_nil]; decide)) ?_; cbv; (repeat' (first | exact trivial | rfl | assumption | apply And.intro | (simp only [hbin, hcmp, hun, hconv, hnot, hbeq, hmm, hscmp, hsadd, hslen, hsat, heqs, hofNat, binStd, cmpStd, unStd, scmpStd, maxI, Bool.not_eq_true', Bool.not_eq_false', decide_eq_true_eq, decide_eq_false_iff_not, Int.not_lt, Int.not_le, if_true, if_false, Bool.false_eq_true, beq_iff_eq, bne_iff_ne, ne_eq, Bool.not_eq_eq_eq_not, Bool.not_true, Bool.not_false, beq_eq_false_iff_ne, bne_eq_false_iff_eq, Int.ofNat_eq_natCast, Bool.not_not, not_true_eq_false, not_false_eq_true, reduceCtorEq]; first | done | assumption) | exact RowsZ.same (by assumption) (by first | assumption | rfl) | exact FzL.mk rfl rfl rfl (by assumption) (by first | assumption | rfl) (by decide) | (refine RowsZ.one ?_; cbv))))
      case hI => exact ⟨by simp only; omega, by simp only; omega, by simp only; rw [hst]; exact hrep⟩
end Go.Proofs.Ytpiocfmdjgbamaa

/- route.Begin. -/
set_option linter.unusedVariables false
set_option linter.unusedSimpArgs false
namespace Go.Proofs.Ytpiocfmdjgbamaa
open Go Go.RowKit Go.Eng
set_option maxRecDepth 100000
theorem e_begin (a b v : Int) (hv : v = a) : PCalls Try.prog 18 [.int .i64 a, .int .i64 b] (· = .agg [.int .i64 b, .list 13 [[.int .i64 1, .int .i64 v, .int .i64 0, .int .i64 0, .int .i64 0, .int .i64 0, .int .i64 0, .int .i64 0, .int .i64 0, .int .i64 0, .int .i64 0, .int .i64 0, .int .i64 0]]]) := by
  subst hv
  (refine PCalls.ofY Try.func18 (by kernel_rfl) (by kernel_rfl) fun w hw R hR => ?_); (obtain ⟨wbin, wcmp, wun, wconv, wnot, wbeq, wmm, wscmp, wsadd, wslen, wsat, weqs, wlen, wnlen, wofNat, wtake, wdrop, wapp, wzero, wnat⟩ := w); (have hbin : wbin = binStd := congrArg Prims.bin hw); (have hcmp : wcmp = cmpStd := congrArg Prims.cmp hw); (have hun : wun = unStd := congrArg Prims.un hw); (have hconv : wconv = fun k n => k.wrap n := congrArg Prims.conv hw); (have hnot : wnot = fun b => !b := congrArg Prims.not hw); (have hbeq : wbeq = fun a b => a == b := congrArg Prims.beq hw); (have hmm : wmm = maxI := congrArg Prims.mm hw); (have hscmp : wscmp = scmpStd := congrArg Prims.scmp hw); (have hsadd : wsadd = fun x y => x ++ y := congrArg Prims.sadd hw); (have hslen : wslen = fun s => (s.size : Int) := congrArg Prims.slen hw); (have hsat : wsat = std.sat := congrArg Prims.sat hw); (have heqs : weqs = fun a b os => (eqOffs a b os).getD false := congrArg Prims.eqs hw); (have hlen : wlen = fun es => (es.length : Int) := congrArg Prims.len hw); (have hnlen : wnlen = fun es => es.length := congrArg Prims.nlen hw); (have hofNat : wofNat = (fun n : Nat => (n : Int)) := congrArg Prims.ofNat hw); (have htake : wtake = fun es b => es.take b.toNat := congrArg Prims.take hw); (have hdrop : wdrop = fun es a => es.drop a.toNat := congrArg Prims.drop hw); (have happ : wapp = fun a b => a ++ b := congrArg Prims.app hw); (have hzero : wzero = fun n z => List.replicate n.toNat z := congrArg Prims.zero hw); (have hnat : wnat = fun n => n.toNat := congrArg Prims.nat hw); (conv => arg 2; cbv); (generalize hP : Try.prog = P); cbv
  refine InN.mk (by decide) (by decide) ?_
  exact ⟨_, Vw.same rfl, hR _ rfl⟩
end Go.Proofs.Ytpiocfmdjgbamaa

/- Arguments that say less: a nil slice is a list of none. -/
set_option linter.unusedVariables false
namespace Go.Eng
open Go Go.RowKit
mutual
def leB : AV → AV → Bool
  | .int k a, y => (match y with | .int k' b => decide (k = k') && decide (a = b) | _ => false)
  | .bool a, y => (match y with | .bool b => a == b | _ => false)
  | .nils, y => (match y with | .nils => true | .list _ es => es.isEmpty | _ => false)
  | .nilp, y => (match y with | .nilp => true | _ => false)
  | .agg cs, y => (match y with | .agg ds => leL cs ds | _ => false)
  | .list z es, y => (match y with | .list z' fs => Nat.beq z z' && leLL es fs | _ => false)
  | _, _ => false
def leL : List AV → List AV → Bool
  | [], y => (match y with | [] => true | _ => false)
  | c :: cs, y => (match y with | d :: ds => leB c d && leL cs ds | _ => false)
def leLL : List (List AV) → List (List AV) → Bool
  | [], y => (match y with | [] => true | _ => false)
  | c :: cs, y => (match y with | d :: ds => leL c d && leLL cs ds | _ => false)
end
def VLe (x y : AV) : Prop := ∀ C v, VR C x v → VR C y v
mutual
theorem leB_ok : ∀ (x y : AV), leB x y = true → VLe x y
  | .int k a, y, h => by
    unfold leB at h
    split at h
    · simp only [Bool.and_eq_true, decide_eq_true_eq] at h
      obtain ⟨rfl, rfl⟩ := h
      exact fun C v h => h
    · cases h
  | .bool a, y, h => by
    unfold leB at h
    split at h
    · simp only [beq_iff_eq] at h
      subst h
      exact fun C v h => h
    · cases h
  | .nils, y, h => by
    unfold leB at h
    split at h
    · exact fun C v h => h
    · rename_i z es
      have : es = [] := List.isEmpty_iff.1 h
      subst this
      intro C v hv
      rw [hv.nils']
      exact .listNil _ _ _
    · cases h
  | .nilp, y, h => by
    unfold leB at h
    split at h
    · exact fun C v h => h
    · cases h
  | .agg cs, y, h => by
    unfold leB at h
    split at h
    · rename_i ds
      intro C v hv
      obtain ⟨vs, rfl, hl, hx⟩ := hv.agg'
      obtain ⟨h1, h2⟩ := leL_ok cs ds h
      refine .agg _ _ (by rw [hl, h1]) fun i y hy => ?_
      obtain ⟨x, hx', hle⟩ := h2 i y hy
      exact hle C _ (hx i x hx')
    · cases h
  | .list z es, y, h => by
    unfold leB at h
    split at h
    · rename_i z' fs
      simp only [Bool.and_eq_true] at h
      have := Nat.eq_of_beq_eq_true h.1
      subst this
      obtain ⟨h1, h2⟩ := leLL_ok es fs h.2
      intro C v hv
      rcases hv.lists with ⟨⟨a, cap, rfl⟩, rfl⟩ | ⟨a, cap, f, rfl, hcap, hsp, hz, hcell, hown, hv⟩
      · have : fs = [] := List.length_eq_zero_iff.1 h1.symm
        subst this
        exact .listNil _ _ _
      · refine .list z fs a es.length cap f h1.symm hcap hsp (fun e he => ?_) hcell hown fun i e he j x hx => ?_
        · obtain ⟨i, hi⟩ := List.mem_iff_getElem?.1 he
          obtain ⟨r, hr, hl, _⟩ := h2 i e hi
          rw [← hl]; exact hz r (List.mem_of_getElem? hr)
        · obtain ⟨r, hr, hl, hle⟩ := h2 i e he
          obtain ⟨x', hx', hle'⟩ := hle j x hx
          exact hle' C _ (hv i r hr j x' hx')
    · cases h
  | .any, y, h => by unfold leB at h; cases h
  | .str _, y, h => by unfold leB at h; cases h
  | .nilFunc, y, h => by unfold leB at h; cases h
  | .nilIface, y, h => by unfold leB at h; cases h
  | .tuple _, y, h => by unfold leB at h; cases h
  | .sl _ _ _ _, y, h => by unfold leB at h; cases h
  | .ref _ _ _ _, y, h => by unfold leB at h; cases h
  | .cref _, y, h => by unfold leB at h; cases h
  | .mapr _, y, h => by unfold leB at h; cases h
  | .func _ _ _, y, h => by unfold leB at h; cases h
  | .iface _ _, y, h => by unfold leB at h; cases h
theorem leL_ok : ∀ (xs ys : List AV), leL xs ys = true → xs.length = ys.length ∧ ∀ (i : Nat) (y : AV), ys[i]? = some y → ∃ x, xs[i]? = some x ∧ VLe x y
  | [], y, h => by
    unfold leL at h
    split at h
    · exact ⟨rfl, fun i y hy => by simp at hy⟩
    · cases h
  | c :: cs, y, h => by
    unfold leL at h
    split at h
    · rename_i d ds
      simp only [Bool.and_eq_true] at h
      obtain ⟨h1, h2⟩ := leL_ok cs ds h.2
      refine ⟨by simp [h1], fun i y hy => ?_⟩
      cases i with
      | zero => simp at hy; subst hy; exact ⟨c, rfl, leB_ok c d h.1⟩
      | succ i => simpa using h2 i y (by simpa using hy)
    · cases h
theorem leLL_ok : ∀ (xs ys : List (List AV)), leLL xs ys = true → xs.length = ys.length ∧ ∀ (i : Nat) (y : List AV), ys[i]? = some y → ∃ x, xs[i]? = some x ∧ x.length = y.length ∧ ∀ (j : Nat) (b : AV), y[j]? = some b → ∃ a, x[j]? = some a ∧ VLe a b
  | [], y, h => by
    unfold leLL at h
    split at h
    · exact ⟨rfl, fun i y hy => by simp at hy⟩
    · cases h
  | c :: cs, y, h => by
    unfold leLL at h
    split at h
    · rename_i d ds
      simp only [Bool.and_eq_true] at h
      obtain ⟨h1, h2⟩ := leLL_ok cs ds h.2
      obtain ⟨k1, k2⟩ := leL_ok c d h.1
      refine ⟨by simp [h1], fun i y hy => ?_⟩
      cases i with
      | zero => simp at hy; subst hy; exact ⟨c, rfl, k1, k2⟩
      | succ i => simpa using h2 i y (by simpa using hy)
    · cases h
end
theorem PCalls.le {P : Program} {g : FuncId} {args args' : List AV} {R : AV → Prop} (H : PCalls P g args' R) (hl : leL args args' = true) : PCalls P g args R := by
  obtain ⟨h1, h2⟩ := leL_ok args args' hl
  refine ⟨H.1, fun C vs hC RC hv => H.2 C vs hC RC ⟨by rw [hv.1, h1], fun i y hy => ?_⟩⟩
  obtain ⟨x, hx, hle⟩ := h2 i y hy
  exact hle C _ (hv.2 i x hx)
end Go.Eng

/- The example of layer 20, by the engine. -/
set_option linter.unusedVariables false
set_option linter.unusedSimpArgs false
namespace Go.Proofs.Ytpiocfmdjgbamaa
open Go Go.RowKit Go.Eng
set_option maxRecDepth 100000
theorem e_usual20 : PCalls Try.prog 58 [] (· = .agg [.int .i64 1024, .int .i64 131072, .int .i64 131072, .int .i64 0, .int .i64 0, .int .i64 0, .int .i64 1000, .int .i64 100, .int .i64 5, .int .i64 1, .int .i64 128, .int .i64 10, .int .i64 5, .int .i64 1]) := by
  (refine PCalls.ofY Try.func58 (by kernel_rfl) (by kernel_rfl) fun w hw R hR => ?_); (subst hw); (conv => arg 2; cbv); (generalize hP : Try.prog = P); cbv
  exact ⟨_, Vw.same rfl, hR _ rfl⟩
theorem e_fit20 (g v : Int) (r : List Int) (hg : 0 ≤ g) (hG : ([[.int .i64 1, .int .i64 0, .int .i64 125, .int .i64 0, .int .i64 0], [.int .i64 2, .int .i64 0, .int .i64 126, .int .i64 0, .int .i64 0]] : List (List AV))[g.toNat]? = some [.int .i64 v, .int .i64 0, .int .i64 (124 + v), .int .i64 0, .int .i64 0]) (hG2 : ([⟨1, 0, 125, 0, 0⟩, ⟨2, 0, 126, 0, 0⟩] : List Gr)[g.toNat]? = some ⟨v, 0, 124 + v, 0, 0⟩) (hv : 0 ≤ v ∧ v ≤ 100) (hr : fitF 5 100 120 [124 + v] = r) :
    PCalls Try.prog 45 [.agg [.int .i64 1024, .int .i64 131072, .int .i64 131072, .int .i64 0, .int .i64 0, .int .i64 0, .int .i64 1000, .int .i64 100, .int .i64 5, .int .i64 1, .int .i64 128, .int .i64 10, .int .i64 5, .int .i64 1], .agg [.list 3 ([⟨900, [(0, 0)], []⟩].map sgRow), .list 5 ([⟨1, 0, 125, 0, 0⟩, ⟨2, 0, 126, 0, 0⟩].map grRow)], .agg [.int .i64 0, .list 13 ([[0]].map rtC)], .agg [.int .i64 100, .int .i64 120], .int .i64 g] (· = .list 1 (r.map nxRow)) := by
  have hp := e_places [⟨900, [(0, 0)], []⟩] [⟨1, 0, 125, 0, 0⟩, ⟨2, 0, 126, 0, 0⟩] _ _ rfl rfl ⟨by decide⟩ 0 (by decide) [[0]] (fun l hl => by simp at hl; subst hl; exact ⟨by decide, by decide⟩) (by decide) _ rfl g hg ⟨v, 0, 124 + v, 0, 0⟩ hG2 ⟨by simp only; omega, by simp only; omega⟩
  have hpv : plcR [⟨900, [(0, 0)], []⟩] 0 (124 + v) 0 [[0]] = [124 + v] := by
    unfold plcR plcs
    simp [plc, addQ]
  simp only [hpv] at hp
  have hf := e_fitting 1024 131072 131072 0 0 0 1000 100 5 1 128 10 5 1 (by decide) ([⟨900, [(0, 0)], []⟩].map sgRow) ([⟨1, 0, 125, 0, 0⟩, ⟨2, 0, 126, 0, 0⟩].map grRow) ([[0]].map rtC) (up_sg _) (up_gr _) (up_map (f := rtC) (fun d => rfl) _) 0 100 120 g hg v 0 (124 + v) 0 0 hG (by decide) (by decide) (by decide) 5 (by decide) [124 + v] (by simp) (fun a ha => by simp at ha; omega) hp
  rw [hr] at hf
  exact hf
set_option maxHeartbeats 2000000 in
theorem e_anchor20 : PCalls Try.prog 20 [] (· = .bool true) := by
  have h1 := e_fit20 0 1 [125] (by decide) rfl rfl (by decide) (by decide)
  have h2 := e_fit20 1 2 [] (by decide) rfl rfl (by decide) (by decide)
  have h1 : PCalls Try.prog 45 [.agg [.int .i64 1024, .int .i64 131072, .int .i64 131072, .int .i64 0, .int .i64 0, .int .i64 0, .int .i64 1000, .int .i64 100, .int .i64 5, .int .i64 1, .int .i64 128, .int .i64 10, .int .i64 5, .int .i64 1], .agg [.list 3 [[.int .i64 900, .list 2 [[.int .i64 0, .int .i64 0]], .nils]], .list 5 [[.int .i64 1, .int .i64 0, .int .i64 125, .int .i64 0, .int .i64 0], [.int .i64 2, .int .i64 0, .int .i64 126, .int .i64 0, .int .i64 0]]], .agg [.int .i64 0, .list 13 [[.int .i64 1, .int .i64 0, .int .i64 0, .int .i64 0, .int .i64 0, .int .i64 0, .int .i64 0, .int .i64 0, .int .i64 0, .int .i64 0, .int .i64 0, .int .i64 0, .int .i64 0]]], .agg [.int .i64 100, .int .i64 120], .int .i64 0] (· = .list 1 [[.int .i64 125]]) := PCalls.le h1 rfl
  have h2 : PCalls Try.prog 45 [.agg [.int .i64 1024, .int .i64 131072, .int .i64 131072, .int .i64 0, .int .i64 0, .int .i64 0, .int .i64 1000, .int .i64 100, .int .i64 5, .int .i64 1, .int .i64 128, .int .i64 10, .int .i64 5, .int .i64 1], .agg [.list 3 [[.int .i64 900, .list 2 [[.int .i64 0, .int .i64 0]], .nils]], .list 5 [[.int .i64 1, .int .i64 0, .int .i64 125, .int .i64 0, .int .i64 0], [.int .i64 2, .int .i64 0, .int .i64 126, .int .i64 0, .int .i64 0]]], .agg [.int .i64 0, .list 13 [[.int .i64 1, .int .i64 0, .int .i64 0, .int .i64 0, .int .i64 0, .int .i64 0, .int .i64 0, .int .i64 0, .int .i64 0, .int .i64 0, .int .i64 0, .int .i64 0, .int .i64 0]]], .agg [.int .i64 100, .int .i64 120], .int .i64 1] (· = .list 1 []) := PCalls.le h2 rfl
  (refine PCalls.ofY Try.func20 (by kernel_rfl) (by kernel_rfl) fun w hw R hR => ?_); (subst hw); (conv => arg 2; cbv); (generalize hP : Try.prog = P); cbv
  repeat' (first
    | (refine QCal.stepE (by rw [← hP]; exact e_begin 0 0 0 rfl) rfl ?_; cbv)
    | (refine Call.stepE (by rw [← hP]; exact e_begin 0 0 0 rfl) rfl ?_; cbv)
    | (refine QCal.stepE (by rw [← hP]; exact e_usual20) rfl ?_; cbv)
    | (refine Call.stepE (by rw [← hP]; exact e_usual20) rfl ?_; cbv)
    | (refine QCal.stepE (by rw [← hP]; exact h1) rfl ?_; cbv)
    | (refine Call.stepE (by rw [← hP]; exact h1) rfl ?_; cbv)
    | (refine QCal.stepE (by rw [← hP]; exact h2) rfl ?_; cbv)
    | (refine Call.stepE (by rw [← hP]; exact h2) rfl ?_; cbv)
    | (refine Idx.mk _ (by decide) rfl ?_; cbv)
    | (exact ⟨_, Vw.same rfl, hR _ rfl⟩))
end Go.Proofs.Ytpiocfmdjgbamaa

/- What a configuration is. -/
set_option linter.unusedVariables false
set_option linter.unusedSimpArgs false
namespace Go.Proofs.Ytpiocfmdjgbamaa
open Go Go.RowKit Go.Eng
set_option maxRecDepth 100000
theorem ok_int {k : IntKind} {l : List Sh} {xs : List AV} (h : OkL (.int k :: l) xs) : ∃ n y, xs = .int k n :: y ∧ (Lit.int k n).wf = true ∧ OkL l y := by
  unfold OkL at h
  obtain ⟨x, y, rfl, h1, h2⟩ := h
  unfold Sh.Ok at h1
  obtain ⟨n, rfl, hn⟩ := h1
  exact ⟨n, y, rfl, hn, h2⟩
theorem ok_bool {l : List Sh} {xs : List AV} (h : OkL (.bool :: l) xs) : ∃ b y, xs = .bool b :: y ∧ OkL l y := by
  unfold OkL at h
  obtain ⟨x, y, rfl, h1, h2⟩ := h
  unfold Sh.Ok at h1
  obtain ⟨n, rfl⟩ := h1
  exact ⟨n, y, rfl, h2⟩
theorem ok_list {z : Nat} {row l : List Sh} {xs : List AV} (h : OkL (.list z row :: l) xs) : ∃ es y, xs = .list z es :: y ∧ es.length ≤ maxLen ∧ (∀ r, r ∈ es → OkL row r) ∧ OkL l y := by
  unfold OkL at h
  obtain ⟨x, y, rfl, h1, h2⟩ := h
  unfold Sh.Ok at h1
  obtain ⟨n, rfl, h3, h4⟩ := h1
  exact ⟨n, y, rfl, h3, h4, h2⟩
theorem ok_nil {xs : List AV} (h : OkL [] xs) : xs = [] := by unfold OkL at h; exact h
theorem wf64 {n : Int} (h : (Lit.int .i64 n).wf = true) : -9223372036854775808 ≤ n ∧ n ≤ 9223372036854775807 := by
  simp [Lit.wf, IntKind.min, IntKind.max, IntKind.signed, IntKind.bits] at h
  omega
theorem ty_conf (x : AV) (h : TyV Try.prog 8 68 x) : ∃ c0 c1 c2 c3 c4 c5 c6 c7 c8 c9 c10 c11 c12 c13 : Int, x = .agg [.int .i64 c0, .int .i64 c1, .int .i64 c2, .int .i64 c3, .int .i64 c4, .int .i64 c5, .int .i64 c6, .int .i64 c7, .int .i64 c8, .int .i64 c9, .int .i64 c10, .int .i64 c11, .int .i64 c12, .int .i64 c13] := by
  obtain ⟨cs, rfl, hx⟩ := h.agg (by kernel_rfl) (show shOf Try.prog 8 68 = some [.int .i64, .int .i64, .int .i64, .int .i64, .int .i64, .int .i64, .int .i64, .int .i64, .int .i64, .int .i64, .int .i64, .int .i64, .int .i64, .int .i64] from by kernel_rfl)
  obtain ⟨c0, _, rfl, _, hx⟩ := ok_int hx
  obtain ⟨c1, _, rfl, _, hx⟩ := ok_int hx
  obtain ⟨c2, _, rfl, _, hx⟩ := ok_int hx
  obtain ⟨c3, _, rfl, _, hx⟩ := ok_int hx
  obtain ⟨c4, _, rfl, _, hx⟩ := ok_int hx
  obtain ⟨c5, _, rfl, _, hx⟩ := ok_int hx
  obtain ⟨c6, _, rfl, _, hx⟩ := ok_int hx
  obtain ⟨c7, _, rfl, _, hx⟩ := ok_int hx
  obtain ⟨c8, _, rfl, _, hx⟩ := ok_int hx
  obtain ⟨c9, _, rfl, _, hx⟩ := ok_int hx
  obtain ⟨c10, _, rfl, _, hx⟩ := ok_int hx
  obtain ⟨c11, _, rfl, _, hx⟩ := ok_int hx
  obtain ⟨c12, _, rfl, _, hx⟩ := ok_int hx
  obtain ⟨c13, _, rfl, _, hx⟩ := ok_int hx
  obtain rfl := ok_nil hx
  exact ⟨c0, c1, c2, c3, c4, c5, c6, c7, c8, c9, c10, c11, c12, c13, rfl⟩
end Go.Proofs.Ytpiocfmdjgbamaa

/- What an int64 is. -/
set_option linter.unusedVariables false
set_option maxRecDepth 100000
namespace Go.Proofs.Ytpiocfmdjgbamaa
open Go Go.RowKit Go.Eng
theorem ty_i64 (x : AV) (h : TyV Try.prog 8 2 x) : ∃ n, x = .int .i64 n ∧ -9223372036854775808 ≤ n ∧ n ≤ 9223372036854775807 := by
  have h := h.one (by kernel_rfl) (show shOf Try.prog 8 2 = some [.int .i64] from by kernel_rfl)
  unfold Sh.Ok at h
  obtain ⟨n, rfl, hn⟩ := h
  exact ⟨n, rfl, wf64 hn⟩
end Go.Proofs.Ytpiocfmdjgbamaa

/- What a track is. -/
set_option linter.unusedVariables false
set_option maxRecDepth 100000
namespace Go.Proofs.Ytpiocfmdjgbamaa
open Go Go.RowKit Go.Eng
theorem ty_track (x : AV) (h : TyV Try.prog 8 25 x) : ∃ (ss : List Sg) (gs : List Gr), x = .agg [.list 3 (ss.map sgRow), .list 5 (gs.map grRow)] := by
  obtain ⟨cs, rfl, k0⟩ := h.agg (by kernel_rfl) (show shOf Try.prog 8 25 = some [.list 3 [.int .i64, .list 2 [.int .i64, .int .i64], .list 1 [.int .i64]], .list 5 [.int .i64, .int .i64, .int .i64, .int .i64, .int .i64]] from by kernel_rfl)
  clear h
  obtain ⟨es, _, rfl, _, hr, k1⟩ := ok_list k0
  obtain ⟨ds, _, rfl, _, hs, k2⟩ := ok_list k1
  obtain rfl := ok_nil k2
  clear k0 k1 k2
  obtain ⟨ss, rfl⟩ := rows_of (f := sgRow) (es := es) fun r hrr => by
    have k0 := hr r hrr
    clear hr hrr
    obtain ⟨len, _, rfl, _, k1⟩ := ok_int k0
    obtain ⟨ps, _, rfl, _, hp, k2⟩ := ok_list k1
    obtain ⟨ns, _, rfl, _, hn, k3⟩ := ok_list k2
    obtain rfl := ok_nil k3
    clear k0 k1 k2 k3
    obtain ⟨qs, rfl⟩ := rows_of (f := pcRow) (es := ps) fun r hrr => by
      have k0 := hp r hrr
      clear hp hrr
      obtain ⟨a, _, rfl, _, k1⟩ := ok_int k0
      obtain ⟨b, _, rfl, _, k2⟩ := ok_int k1
      obtain rfl := ok_nil k2
      exact ⟨(a, b), rfl⟩
    obtain ⟨ms, rfl⟩ := rows_of (f := nxRow) (es := ns) fun r hrr => by
      have k0 := hn r hrr
      clear hn hrr
      obtain ⟨a, _, rfl, _, k1⟩ := ok_int k0
      obtain rfl := ok_nil k1
      exact ⟨a, rfl⟩
    exact ⟨⟨len, qs, ms⟩, rfl⟩
  obtain ⟨gs, rfl⟩ := rows_of (f := grRow) (es := ds) fun r hrr => by
    have k0 := hs r hrr
    clear hr hs hrr
    obtain ⟨a, _, rfl, _, k1⟩ := ok_int k0
    obtain ⟨b, _, rfl, _, k2⟩ := ok_int k1
    obtain ⟨c, _, rfl, _, k3⟩ := ok_int k2
    obtain ⟨d, _, rfl, _, k4⟩ := ok_int k3
    obtain ⟨e, _, rfl, _, k5⟩ := ok_int k4
    obtain rfl := ok_nil k5
    exact ⟨⟨a, b, c, d, e⟩, rfl⟩
  exact ⟨ss, gs, rfl⟩
end Go.Proofs.Ytpiocfmdjgbamaa

/- What the arguments' types tell: numbers, spans, ways. -/
set_option linter.unusedVariables false
set_option linter.unusedSimpArgs false
namespace Go.Proofs.Ytpiocfmdjgbamaa
open Go Go.RowKit Go.Eng
set_option maxRecDepth 100000
theorem ty_intS (x : AV) (h : TyV Try.prog 8 3 x) : ∃ n, x = .int .i64 n := by
  have h := h.one (by kernel_rfl) (show shOf Try.prog 8 3 = some [.int .i64] from by kernel_rfl)
  unfold Sh.Ok at h
  obtain ⟨n, rfl, hn⟩ := h
  exact ⟨n, rfl⟩
theorem ty_span (x : AV) (h : TyV Try.prog 8 50 x) : ∃ a b, x = .agg [.int .i64 a, .int .i64 b] := by
  obtain ⟨cs, rfl, k0⟩ := h.agg (by kernel_rfl) (show shOf Try.prog 8 50 = some [.int .i64, .int .i64] from by kernel_rfl)
  obtain ⟨a, _, rfl, _, k1⟩ := ok_int k0
  obtain ⟨b, _, rfl, _, k2⟩ := ok_int k1
  obtain rfl := ok_nil k2
  exact ⟨a, b, rfl⟩
end Go.Proofs.Ytpiocfmdjgbamaa

/- LinkPassages, joined. -/
set_option linter.unusedVariables false
set_option maxRecDepth 100000
namespace Go.Proofs.Ytpiocfmdjgbamaa
open Go Go.RowKit Go.Eng
theorem walk_LinkPassages (x0 x1 x2 x3 x4 : AV) (h0 : TyV Try.prog 8 50 x0) (h1 : TyV Try.prog 8 50 x1) (h2 : TyV Try.prog 8 2 x2) (h3 : TyV Try.prog 8 2 x3) (h4 : TyV Try.prog 8 2 x4) : PCalls Try.prog 5 [x0, x1, x2, x3, x4] (fun r => r = .bool true) := by
  obtain ⟨a, b, rfl⟩ := ty_span x0 h0
  obtain ⟨c, d, rfl⟩ := ty_span x1 h1
  obtain ⟨e, rfl, _, _⟩ := ty_i64 x2 h2
  obtain ⟨f, rfl, _, _⟩ := ty_i64 x3 h3
  obtain ⟨g, rfl, g1, g2⟩ := ty_i64 x4 h4
  exact e_lpass e_anchor20 a b c d e f g ⟨g1, g2⟩
end Go.Proofs.Ytpiocfmdjgbamaa

