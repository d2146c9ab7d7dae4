/- Texts of the proof, joined by wip/tools/pack3.py. -/
import Derived.Test.YtpiocfmdjgbamaaCoreP2
import Derived.KernelRfl
/- A track as the document has it, by the engine. Printed by wip/tools/genrefs.py. -/
set_option linter.unusedVariables false
set_option linter.unusedSimpArgs false
namespace Go.Proofs.Ytpiocfmdjgbamaa
open Go Go.RowKit Go.Eng
set_option maxRecDepth 100000
set_option maxHeartbeats 4000000 in
theorem e_refsT20 (ss : List Sg) (gs : List Gr) (es ds : List (List AV)) (hes : es = ss.map sgRow) (hds : ds = gs.map grRow) (hm1 : ss.length ≤ 1000) (hm2 : gs.length ≤ 1000) (hm3 : ∀ s, s ∈ ss → s.ps.length ≤ 1000) : PCalls Try.prog 46 [.agg [.list 3 es, .list 5 ds]] (· = .agg [.list 3 es, .list 5 ds]) := by
  have hu : Up0 es := by rw [hes]; exact up_sg ss
  have hud : Up0 ds := by rw [hds]; exact up_gr gs
  have hel : es.length = ss.length := by rw [hes]; simp
  have hdl : ds.length = gs.length := by rw [hds]; simp
  (refine PCalls.ofY Try.func46 (by kernel_rfl) (by kernel_rfl) fun w hw R hR => ?_); (obtain ⟨wbin, wcmp, wun, wconv, wnot, wbeq, wmm, wscmp, wsadd, wslen, wsat, weqs, wlen, wnlen, wofNat, wtake, wdrop, wapp, wzero, wnat⟩ := w); (have hbin := Z.w1 hw); (have hcmp := Z.w2 hw); (have hun := Z.w3 hw); (have hconv := Z.w4 hw); (have hnot := Z.w5 hw); (have hbeq := Z.w6 hw); (have hmm := Z.w7 hw); (have hscmp := Z.w8 hw); (have hsadd := Z.w9 hw); (have hslen := Z.w10 hw); (have hsat := Z.w11 hw); (have heqs := Z.w12 hw); (have hlen := Z.w13 hw); (have hnlen := Z.w14 hw); (have hofNat := Z.w15 hw); (have htake := Z.w16 hw); (have hdrop := Z.w17 hw); (have happ := Z.w18 hw); (have hzero := Z.w19 hw); (have hnat := Z.w20 hw); (conv => arg 2; cbv); (generalize hP : Try.prog = P); cbv
  (obtain ⟨L, eL, L0, Ln⟩ : ∃ L : Int, wlen es = L ∧ 0 ≤ L ∧ L.toNat = es.length := ⟨(es.length : Int), by rw [hlen], Int.natCast_nonneg _, Int.toNat_natCast _⟩)
  refine Loop.data hw (S := Bd) (fun s => match s with | .start => fr 63 [(1, .ref 0 2 0 0), (2, .ref 1 2 0 0), (3, .ref 2 2 0 0), (12, .list 3 es), (13, .int .i64 L), (14, .int .i64 0)] | .more i n fs => fr 63 [(1, .ref 0 2 0 0), (2, .ref 1 2 0 0), (3, .ref 2 2 0 0), (12, .list 3 es), (13, .int .i64 L), (14, .int .i64 i)])
    (fun s => match s with | .start => [.live 2 [[.list 3 es, .list 5 ds]], .live 2 [[.nils, .nils]], .live 2 [[.nils, .nils]]] | .more i n fs => [.live 2 [[.list 3 es, .list 5 ds]], .live 2 [[.nils, .nils]], .live 2 [[.sl 3 3 0 n, .nils]], .live 3 fs]) (Bd.Ok es) (Bd.left es) .start (by (refine Wk.eqz (id) (by first | exact fun i _ j _ e => e | (simp only [List.length_cons, List.length_nil]; decide)) ?_; cbv; (repeat' (first | exact trivial | rfl | assumption | apply And.intro | (simp only [hbin, hcmp, hun, hconv, hnot, hbeq, hmm, hscmp, hsadd, hslen, hsat, heqs, hofNat, binStd, cmpStd, unStd, scmpStd, maxI, Z.z1, Z.z2, Z.z3, Z.z4, Z.z5, Z.z6, if_true, if_false, Z.z7, beq_iff_eq, bne_iff_ne, ne_eq, Z.z8, Z.z9, Z.y1, beq_eq_false_iff_ne, bne_eq_false_iff_eq, Z.y2, Z.y3, Z.y4, Z.y5, reduceCtorEq]; first | done | assumption) | exact RowsZ.same (by assumption) (by first | assumption | rfl) | exact FzL.mk rfl rfl rfl (by assumption) (by first | assumption | rfl) (by decide) | (refine RowsZ.one ?_; cbv))))) trivial ?_
  rintro (_ | ⟨i, n, fs⟩) hinv Q' hN hE hR'
  · cbv
    (split <;> rename_i hc <;> (try (simp only [hbin, hcmp, hun, hconv, hnot, hbeq, hmm, hscmp, hsadd, hslen, hsat, heqs, hofNat, binStd, cmpStd, unStd, scmpStd, maxI, Z.z1, Z.z2, Z.z3, Z.z4, Z.z5, Z.z6, if_true, if_false, Z.z7, beq_iff_eq, bne_iff_ne, ne_eq, Z.z8, Z.z9, Z.y1, beq_eq_false_iff_ne, bne_eq_false_iff_eq, Z.y2, Z.y3, Z.y4, Z.y5, reduceCtorEq] at hc)) <;> (try cbv))
    · obtain ⟨⟨len, ps, nx⟩, hd, hrow⟩ := get_map (f := sgRow) (ds := ss) (i := 0) (Int.le_refl 0) (by omega)
      obtain ⟨q1, eq1⟩ : ∃ x, ps.map pcRow = x := ⟨_, rfl⟩
      obtain ⟨n1, en1⟩ : ∃ x, nx.map nxRow = x := ⟨_, rfl⟩
      have hrow : es[(0 : Int).toNat]? = some [.int .i64 len, .list 2 q1, .list 1 n1] := by rw [hes, ← eq1, ← en1]; exact hrow
      have hql : q1.length = ps.length := by rw [← eq1]; simp
      have hpl : ps.length ≤ 1000 := hm3 ⟨len, ps, nx⟩ (List.mem_of_getElem? hd)
      have huq : Up0 q1 := by rw [← eq1]; exact up_pc ps
      have hun : Up0 n1 := by rw [← en1]; exact up_nx nx
      refine Idx.mk [.int .i64 len, .list 2 q1, .list 1 n1] (by decide) hrow ?_
      cbv
      have ei : wbin .add .i64 0 1 = 1 := by rw [hbin]; rfl
      have hT1 : Bd.left es (.more 1 1 [[.int .i64 len, .list 2 q1, .list 1 n1]]) < Bd.left es .start := by simp only [Bd.left]; omega
      have hI1 : Bd.Ok es (.more 1 1 [[.int .i64 len, .list 2 q1, .list 1 n1]]) := ⟨by decide, by omega, (take_row (Int.le_refl 0) hrow).symm, rfl, up_seg huq hun⟩
      (obtain ⟨K, eK, K0, Kn⟩ : ∃ L : Int, wlen q1 = L ∧ 0 ≤ L ∧ L.toNat = q1.length := ⟨(q1.length : Int), by rw [hlen], Int.natCast_nonneg _, Int.toNat_natCast _⟩)
      refine Loop.data hw (S := Bd) (fun s => match s with | .start => fr 63 [(1, .ref 0 2 0 0), (2, .ref 1 2 0 0), (3, .ref 2 2 0 0), (12, .list 3 es), (13, .int .i64 L), (14, .int .i64 0), (5, .ref 3 3 0 0), (6, .ref 4 3 0 0), (24, .list 2 q1), (25, .int .i64 K), (26, .int .i64 0)] | .more k m fp => fr 63 [(1, .ref 0 2 0 0), (2, .ref 1 2 0 0), (3, .ref 2 2 0 0), (12, .list 3 es), (13, .int .i64 L), (14, .int .i64 0), (5, .ref 3 3 0 0), (6, .ref 4 3 0 0), (24, .list 2 q1), (25, .int .i64 K), (26, .int .i64 k)])
        (fun s => match s with | .start => [.live 2 [[.list 3 es, .list 5 ds]], .live 2 [[.nils, .nils]], .live 2 [[.nils, .nils]], .live 3 [[.int .i64 len, .list 2 q1, .list 1 n1]], .live 3 [[.int .i64 len, .nils, .list 1 n1]]] | .more k m fp => [.live 2 [[.list 3 es, .list 5 ds]], .live 2 [[.nils, .nils]], .live 2 [[.nils, .nils]], .live 3 [[.int .i64 len, .list 2 q1, .list 1 n1]], .live 3 [[.int .i64 len, .sl 5 2 0 m, .list 1 n1]], .live 2 fp]) (Bd.Ok q1) (Bd.left q1) .start (by (refine Wk.eqz (id) (by first | exact fun i _ j _ e => e | (simp only [List.length_cons, List.length_nil]; decide)) ?_; cbv; (repeat' (first | exact trivial | rfl | assumption | apply And.intro | (simp only [hbin, hcmp, hun, hconv, hnot, hbeq, hmm, hscmp, hsadd, hslen, hsat, heqs, hofNat, binStd, cmpStd, unStd, scmpStd, maxI, Z.z1, Z.z2, Z.z3, Z.z4, Z.z5, Z.z6, if_true, if_false, Z.z7, beq_iff_eq, bne_iff_ne, ne_eq, Z.z8, Z.z9, Z.y1, beq_eq_false_iff_ne, bne_eq_false_iff_eq, Z.y2, Z.y3, Z.y4, Z.y5, reduceCtorEq]; first | done | assumption) | exact RowsZ.same (by assumption) (by first | assumption | rfl) | exact FzL.mk rfl rfl rfl (by assumption) (by first | assumption | rfl) (by decide) | (refine RowsZ.one ?_; cbv))))) trivial ?_
      rintro (_ | ⟨k, m, fp⟩) hinv2 Q2 hN2 hE2 hR2
      · cbv
        (split <;> rename_i hc2 <;> (try (simp only [hbin, hcmp, hun, hconv, hnot, hbeq, hmm, hscmp, hsadd, hslen, hsat, heqs, hofNat, binStd, cmpStd, unStd, scmpStd, maxI, Z.z1, Z.z2, Z.z3, Z.z4, Z.z5, Z.z6, if_true, if_false, Z.z7, beq_iff_eq, bne_iff_ne, ne_eq, Z.z8, Z.z9, Z.y1, beq_eq_false_iff_ne, bne_eq_false_iff_eq, Z.y2, Z.y3, Z.y4, Z.y5, reduceCtorEq] at hc2)) <;> (try cbv))
        · obtain ⟨⟨a, b⟩, hd2, hrow2⟩ := get_map (f := pcRow) (ds := ps) (i := 0) (Int.le_refl 0) (by omega)
          have hrow2 : q1[(0 : Int).toNat]? = some [.int .i64 a, .int .i64 b] := by rw [← eq1]; exact hrow2
          refine Idx.mk [.int .i64 a, .int .i64 b] (by decide) hrow2 ?_
          cbv
          refine Ob.mk (by decide) ?_
          cbv
          have hU2 : Up0 [[AV.int .i64 a, .int .i64 b]] := ⟨rfl⟩
          have ei2 : wbin .add .i64 0 1 = 1 := by rw [hbin]; rfl
          refine hN2 (Bd.more 1 1 [[.int .i64 a, .int .i64 b]]) _ _ ?hx ?hi ?ht
          case hx => (refine Wk.eqz (fun j => [0, 1, 2, 3, 4, 6].getD j 0) (by first | exact fun i _ j _ e => e | (simp only [List.length_cons, List.length_nil]; decide)) ?_; cbv; (repeat' (first | exact trivial | rfl | assumption | apply And.intro | (simp only [hbin, hcmp, hun, hconv, hnot, hbeq, hmm, hscmp, hsadd, hslen, hsat, heqs, hofNat, binStd, cmpStd, unStd, scmpStd, maxI, Z.z1, Z.z2, Z.z3, Z.z4, Z.z5, Z.z6, if_true, if_false, Z.z7, beq_iff_eq, bne_iff_ne, ne_eq, Z.z8, Z.z9, Z.y1, beq_eq_false_iff_ne, bne_eq_false_iff_eq, Z.y2, Z.y3, Z.y4, Z.y5, reduceCtorEq]; first | done | assumption) | exact RowsZ.same (by assumption) (by first | assumption | rfl) | exact FzL.mk rfl rfl rfl (by assumption) (by first | assumption | rfl) (by decide) | (refine RowsZ.one ?_; cbv))))
          case hi => exact ⟨by decide, by omega, (take_row (Int.le_refl 0) hrow2).symm, rfl, hU2⟩
          case ht => simp only [Bd.left]; omega
        · refine hE2 _ _ _ ?_
          cbv
          have hq0 : q1 = [] := List.length_eq_zero_iff.1 (by omega)
          refine Ob.mk (by decide) ?_
          cbv
          refine hN (Bd.more 1 1 [[.int .i64 len, .list 2 q1, .list 1 n1]]) _ _ ?hx ?hi ?ht
          case hx => (refine Wk.eqz (fun j => [0, 1, 2, 5].getD j 0) (by first | exact fun i _ j _ e => e | (simp only [List.length_cons, List.length_nil]; decide)) ?_; cbv; (repeat' (first | exact trivial | rfl | assumption | exact Eq.symm (by assumption) | apply And.intro | (simp only [hbin, hcmp, hun, hconv, hnot, hbeq, hmm, hscmp, hsadd, hslen, hsat, heqs, hofNat, binStd, cmpStd, unStd, scmpStd, maxI, Z.z1, Z.z2, Z.z3, Z.z4, Z.z5, Z.z6, if_true, if_false, Z.z7, beq_iff_eq, bne_iff_ne, ne_eq, Z.z8, Z.z9, Z.y1, beq_eq_false_iff_ne, bne_eq_false_iff_eq, Z.y2, Z.y3, Z.y4, Z.y5, reduceCtorEq]; first | done | assumption) | exact RowsZ.same (by assumption) (by first | assumption | rfl) | exact FzL.mk rfl rfl rfl (by assumption) (by first | assumption | rfl) (by decide) | (refine RowsZ.one ?_; cbv))))
          case hi => exact hI1
          case ht => exact hT1
      · cbv
        obtain ⟨hk0, hk1, hfp, hmf, hup⟩ : 0 < k ∧ k.toNat ≤ q1.length ∧ fp = q1.take k.toNat ∧ m = fp.length ∧ Up0 fp := hinv2
        (split <;> rename_i hc2 <;> (try (simp only [hbin, hcmp, hun, hconv, hnot, hbeq, hmm, hscmp, hsadd, hslen, hsat, heqs, hofNat, binStd, cmpStd, unStd, scmpStd, maxI, Z.z1, Z.z2, Z.z3, Z.z4, Z.z5, Z.z6, if_true, if_false, Z.z7, beq_iff_eq, bne_iff_ne, ne_eq, Z.z8, Z.z9, Z.y1, beq_eq_false_iff_ne, bne_eq_false_iff_eq, Z.y2, Z.y3, Z.y4, Z.y5, reduceCtorEq] at hc2)) <;> (try cbv))
        · obtain ⟨⟨a, b⟩, hd2, hrow2⟩ := get_map (f := pcRow) (ds := ps) (i := k) (by omega) (by omega)
          have hrow2 : q1[k.toNat]? = some [.int .i64 a, .int .i64 b] := by rw [← eq1]; exact hrow2
          refine Idx.mk [.int .i64 a, .int .i64 b] (by omega) hrow2 ?_
          cbv
          obtain ⟨k', ek'⟩ : ∃ x, k + 1 = x := ⟨_, rfl⟩
          have ek : wbin .add .i64 k 1 = k' := by rw [hbin, i_add (by omega) (by omega)]; exact ek'
          obtain ⟨fp', efp⟩ : ∃ x, fp ++ [[AV.int .i64 a, .int .i64 b]] = x := ⟨_, rfl⟩
          have hfl2 : fp'.length = m + 1 := by rw [← efp, hmf]; simp
          have hft2 : fp' = q1.take k'.toNat := by rw [← efp, ← ek', take_row (by omega) hrow2, hfp]
          have hup' : Up0 fp' := by rw [hft2]; exact up_take huq _
          obtain ⟨m', em'⟩ : ∃ x, m + 1 = x := ⟨_, rfl⟩
          have hml : m = k.toNat := by rw [hmf, hfp, List.length_take]; omega
          refine App.mk fp' m' efp.symm hmf em'.symm (by omega) (by omega) ?_
          cbv
          refine hN2 (Bd.more k' m' fp') _ _ ?hx ?hi ?ht
          case hx => (refine Wk.eqz (fun j => [0, 1, 2, 3, 4, 7].getD j 0) (by first | exact fun i _ j _ e => e | (simp only [List.length_cons, List.length_nil]; decide)) ?_; cbv; (repeat' (first | exact trivial | rfl | assumption | apply And.intro | (simp only [hbin, hcmp, hun, hconv, hnot, hbeq, hmm, hscmp, hsadd, hslen, hsat, heqs, hofNat, binStd, cmpStd, unStd, scmpStd, maxI, Z.z1, Z.z2, Z.z3, Z.z4, Z.z5, Z.z6, if_true, if_false, Z.z7, beq_iff_eq, bne_iff_ne, ne_eq, Z.z8, Z.z9, Z.y1, beq_eq_false_iff_ne, bne_eq_false_iff_eq, Z.y2, Z.y3, Z.y4, Z.y5, reduceCtorEq]; first | done | assumption) | exact RowsZ.same (by assumption) (by first | assumption | rfl) | exact FzL.mk rfl rfl rfl (by assumption) (by first | assumption | rfl) (by decide) | (refine RowsZ.one ?_; cbv))))
          case hi => exact ⟨by omega, by omega, hft2, by omega, hup'⟩
          case ht => simp only [Bd.left]; omega
        · refine hE2 _ _ _ ?_
          cbv
          have hq : fp = q1 := by rw [hfp, List.take_of_length_le (by omega)]
          have hmq : m = q1.length := by rw [hmf, hq]
          clear hfp
          subst fp
          refine Ob.mk (by decide) ?_
          cbv
          refine hN (Bd.more 1 1 [[.int .i64 len, .list 2 q1, .list 1 n1]]) _ _ ?hx ?hi ?ht
          case hx => (refine Wk.eqz (fun j => [0, 1, 2, 6].getD j 0) (by first | exact fun i _ j _ e => e | (simp only [List.length_cons, List.length_nil]; decide)) ?_; cbv; (repeat' (first | exact trivial | rfl | assumption | exact Eq.symm (by assumption) | apply And.intro | (simp only [hbin, hcmp, hun, hconv, hnot, hbeq, hmm, hscmp, hsadd, hslen, hsat, heqs, hofNat, binStd, cmpStd, unStd, scmpStd, maxI, Z.z1, Z.z2, Z.z3, Z.z4, Z.z5, Z.z6, if_true, if_false, Z.z7, beq_iff_eq, bne_iff_ne, ne_eq, Z.z8, Z.z9, Z.y1, beq_eq_false_iff_ne, bne_eq_false_iff_eq, Z.y2, Z.y3, Z.y4, Z.y5, reduceCtorEq]; first | done | assumption) | exact RowsZ.same (by assumption) (by first | assumption | rfl) | exact FzL.mk rfl rfl rfl (by assumption) (by first | assumption | rfl) (by decide) | (refine RowsZ.one ?_; cbv))))
          case hi => exact hI1
          case ht => exact hT1
    · refine hE _ _ _ ?_
      cbv
      have he0 : es = [] := List.length_eq_zero_iff.1 (by omega)
      (obtain ⟨J, eJ, J0, Jn⟩ : ∃ L : Int, wlen ds = L ∧ 0 ≤ L ∧ L.toNat = ds.length := ⟨(ds.length : Int), by rw [hlen], Int.natCast_nonneg _, Int.toNat_natCast _⟩)
      refine Loop.data hw (S := Bd) (fun s => match s with | .start => fr 63 [(2, .ref 1 2 0 0), (3, .ref 2 2 0 0), (49, .list 5 ds), (50, .int .i64 J), (51, .int .i64 0)] | .more k m fp => fr 63 [(2, .ref 1 2 0 0), (3, .ref 2 2 0 0), (49, .list 5 ds), (50, .int .i64 J), (51, .int .i64 k)])
        (fun s => match s with | .start => [.live 2 [[.list 3 es, .list 5 ds]], .live 2 [[.nils, .nils]], .live 2 [[.list 3 es, .nils]]] | .more k m fp => [.live 2 [[.list 3 es, .list 5 ds]], .live 2 [[.nils, .nils]], .live 2 [[.list 3 es, .sl 3 5 0 m]], .live 5 fp]) (Bd.Ok ds) (Bd.left ds) .start (by (refine Wk.eqz (id) (by first | exact fun i _ j _ e => e | (simp only [List.length_cons, List.length_nil]; decide)) ?_; cbv; (repeat' (first | exact trivial | rfl | assumption | apply And.intro | (simp only [hbin, hcmp, hun, hconv, hnot, hbeq, hmm, hscmp, hsadd, hslen, hsat, heqs, hofNat, binStd, cmpStd, unStd, scmpStd, maxI, Z.z1, Z.z2, Z.z3, Z.z4, Z.z5, Z.z6, if_true, if_false, Z.z7, beq_iff_eq, bne_iff_ne, ne_eq, Z.z8, Z.z9, Z.y1, beq_eq_false_iff_ne, bne_eq_false_iff_eq, Z.y2, Z.y3, Z.y4, Z.y5, reduceCtorEq]; first | done | assumption) | exact RowsZ.same (by assumption) (by first | assumption | rfl) | exact FzL.mk rfl rfl rfl (by assumption) (by first | assumption | rfl) (by decide) | (refine RowsZ.one ?_; cbv))))) trivial ?_
      rintro (_ | ⟨k, m, fp⟩) hinv2 Q2 hN2 hE2 hR2
      · cbv
        (split <;> rename_i hc2 <;> (try (simp only [hbin, hcmp, hun, hconv, hnot, hbeq, hmm, hscmp, hsadd, hslen, hsat, heqs, hofNat, binStd, cmpStd, unStd, scmpStd, maxI, Z.z1, Z.z2, Z.z3, Z.z4, Z.z5, Z.z6, if_true, if_false, Z.z7, beq_iff_eq, bne_iff_ne, ne_eq, Z.z8, Z.z9, Z.y1, beq_eq_false_iff_ne, bne_eq_false_iff_eq, Z.y2, Z.y3, Z.y4, Z.y5, reduceCtorEq] at hc2)) <;> (try cbv))
        · obtain ⟨⟨a1, a2, a3, a4, a5⟩, hd2, hrow2⟩ := get_map (f := grRow) (ds := gs) (i := 0) (Int.le_refl 0) (by omega)
          have hrow2 : ds[(0 : Int).toNat]? = some [.int .i64 a1, .int .i64 a2, .int .i64 a3, .int .i64 a4, .int .i64 a5] := by rw [hds]; exact hrow2
          refine Idx.mk [.int .i64 a1, .int .i64 a2, .int .i64 a3, .int .i64 a4, .int .i64 a5] (by decide) hrow2 ?_
          cbv
          refine Ob.mk (by decide) ?_
          cbv
          have hU2 : Up0 [[AV.int .i64 a1, .int .i64 a2, .int .i64 a3, .int .i64 a4, .int .i64 a5]] := ⟨rfl⟩
          have ei2 : wbin .add .i64 0 1 = 1 := by rw [hbin]; rfl
          refine hN2 (Bd.more 1 1 [[.int .i64 a1, .int .i64 a2, .int .i64 a3, .int .i64 a4, .int .i64 a5]]) _ _ ?hx ?hi ?ht
          case hx => (refine Wk.eqz (fun j => [0, 1, 2, 4].getD j 0) (by first | exact fun i _ j _ e => e | (simp only [List.length_cons, List.length_nil]; decide)) ?_; cbv; (repeat' (first | exact trivial | rfl | assumption | apply And.intro | (simp only [hbin, hcmp, hun, hconv, hnot, hbeq, hmm, hscmp, hsadd, hslen, hsat, heqs, hofNat, binStd, cmpStd, unStd, scmpStd, maxI, Z.z1, Z.z2, Z.z3, Z.z4, Z.z5, Z.z6, if_true, if_false, Z.z7, beq_iff_eq, bne_iff_ne, ne_eq, Z.z8, Z.z9, Z.y1, beq_eq_false_iff_ne, bne_eq_false_iff_eq, Z.y2, Z.y3, Z.y4, Z.y5, reduceCtorEq]; first | done | assumption) | exact RowsZ.same (by assumption) (by first | assumption | rfl) | exact FzL.mk rfl rfl rfl (by assumption) (by first | assumption | rfl) (by decide) | (refine RowsZ.one ?_; cbv))))
          case hi => exact ⟨by decide, by omega, (take_row (Int.le_refl 0) hrow2).symm, rfl, hU2⟩
          case ht => simp only [Bd.left]; omega
        · refine hE2 _ _ _ ?_
          cbv
          have hd0 : ds = [] := List.length_eq_zero_iff.1 (by omega)
          exact ⟨_, Vw.agg (rs := [.list 3 es, .list 5 []]) ⟨Vw.same hu.list, Vw.nil 5, trivial⟩, hR _ (by rw [hd0])⟩
      · cbv
        obtain ⟨hk0, hk1, hfp, hmf, hup⟩ : 0 < k ∧ k.toNat ≤ ds.length ∧ fp = ds.take k.toNat ∧ m = fp.length ∧ Up0 fp := hinv2
        (split <;> rename_i hc2 <;> (try (simp only [hbin, hcmp, hun, hconv, hnot, hbeq, hmm, hscmp, hsadd, hslen, hsat, heqs, hofNat, binStd, cmpStd, unStd, scmpStd, maxI, Z.z1, Z.z2, Z.z3, Z.z4, Z.z5, Z.z6, if_true, if_false, Z.z7, beq_iff_eq, bne_iff_ne, ne_eq, Z.z8, Z.z9, Z.y1, beq_eq_false_iff_ne, bne_eq_false_iff_eq, Z.y2, Z.y3, Z.y4, Z.y5, reduceCtorEq] at hc2)) <;> (try cbv))
        · obtain ⟨⟨a1, a2, a3, a4, a5⟩, hd2, hrow2⟩ := get_map (f := grRow) (ds := gs) (i := k) (by omega) (by omega)
          have hrow2 : ds[k.toNat]? = some [.int .i64 a1, .int .i64 a2, .int .i64 a3, .int .i64 a4, .int .i64 a5] := by rw [hds]; exact hrow2
          refine Idx.mk [.int .i64 a1, .int .i64 a2, .int .i64 a3, .int .i64 a4, .int .i64 a5] (by omega) hrow2 ?_
          cbv
          obtain ⟨k', ek'⟩ : ∃ x, k + 1 = x := ⟨_, rfl⟩
          have ek : wbin .add .i64 k 1 = k' := by rw [hbin, i_add (by omega) (by omega)]; exact ek'
          obtain ⟨fp', efp⟩ : ∃ x, fp ++ [[AV.int .i64 a1, .int .i64 a2, .int .i64 a3, .int .i64 a4, .int .i64 a5]] = x := ⟨_, rfl⟩
          have hfl2 : fp'.length = m + 1 := by rw [← efp, hmf]; simp
          have hft2 : fp' = ds.take k'.toNat := by rw [← efp, ← ek', take_row (by omega) hrow2, hfp]
          have hup' : Up0 fp' := by rw [hft2]; exact up_take hud _
          obtain ⟨m', em'⟩ : ∃ x, m + 1 = x := ⟨_, rfl⟩
          have hml : m = k.toNat := by rw [hmf, hfp, List.length_take]; omega
          refine App.mk fp' m' efp.symm hmf em'.symm (by omega) (by omega) ?_
          cbv
          refine hN2 (Bd.more k' m' fp') _ _ ?hx ?hi ?ht
          case hx => (refine Wk.eqz (fun j => [0, 1, 2, 5].getD j 0) (by first | exact fun i _ j _ e => e | (simp only [List.length_cons, List.length_nil]; decide)) ?_; cbv; (repeat' (first | exact trivial | rfl | assumption | apply And.intro | (simp only [hbin, hcmp, hun, hconv, hnot, hbeq, hmm, hscmp, hsadd, hslen, hsat, heqs, hofNat, binStd, cmpStd, unStd, scmpStd, maxI, Z.z1, Z.z2, Z.z3, Z.z4, Z.z5, Z.z6, if_true, if_false, Z.z7, beq_iff_eq, bne_iff_ne, ne_eq, Z.z8, Z.z9, Z.y1, beq_eq_false_iff_ne, bne_eq_false_iff_eq, Z.y2, Z.y3, Z.y4, Z.y5, reduceCtorEq]; first | done | assumption) | exact RowsZ.same (by assumption) (by first | assumption | rfl) | exact FzL.mk rfl rfl rfl (by assumption) (by first | assumption | rfl) (by decide) | (refine RowsZ.one ?_; cbv))))
          case hi => exact ⟨by omega, by omega, hft2, by omega, hup'⟩
          case ht => simp only [Bd.left]; omega
        · refine hE2 _ _ _ ?_
          cbv
          have hq : fp = ds := by rw [hfp, List.take_of_length_le (by omega)]
          refine ⟨_, Vw.agg (rs := [.list 3 es, .list 5 _]) ⟨Vw.same hu.list, Vw.sl rfl hup.get (by omega), trivial⟩, hR _ ?_⟩
          rw [List.drop_zero, List.take_of_length_le (by omega), hq]
  · cbv
    obtain ⟨hi0, hi1, hfs, hnf, huf⟩ : 0 < i ∧ i.toNat ≤ es.length ∧ fs = es.take i.toNat ∧ n = fs.length ∧ Up0 fs := hinv
    (split <;> rename_i hc <;> (try (simp only [hbin, hcmp, hun, hconv, hnot, hbeq, hmm, hscmp, hsadd, hslen, hsat, heqs, hofNat, binStd, cmpStd, unStd, scmpStd, maxI, Z.z1, Z.z2, Z.z3, Z.z4, Z.z5, Z.z6, if_true, if_false, Z.z7, beq_iff_eq, bne_iff_ne, ne_eq, Z.z8, Z.z9, Z.y1, beq_eq_false_iff_ne, bne_eq_false_iff_eq, Z.y2, Z.y3, Z.y4, Z.y5, reduceCtorEq] at hc)) <;> (try cbv))
    · obtain ⟨⟨len, ps, nx⟩, hd, hrow⟩ := get_map (f := sgRow) (ds := ss) (i := i) (by omega) (by omega)
      obtain ⟨q1, eq1⟩ : ∃ x, ps.map pcRow = x := ⟨_, rfl⟩
      obtain ⟨n1, en1⟩ : ∃ x, nx.map nxRow = x := ⟨_, rfl⟩
      have hrow : es[i.toNat]? = some [.int .i64 len, .list 2 q1, .list 1 n1] := by rw [hes, ← eq1, ← en1]; exact hrow
      have hql : q1.length = ps.length := by rw [← eq1]; simp
      have hpl : ps.length ≤ 1000 := hm3 ⟨len, ps, nx⟩ (List.mem_of_getElem? hd)
      have huq : Up0 q1 := by rw [← eq1]; exact up_pc ps
      have hun : Up0 n1 := by rw [← en1]; exact up_nx nx
      refine Idx.mk [.int .i64 len, .list 2 q1, .list 1 n1] (by omega) hrow ?_
      cbv
      obtain ⟨i', ei'⟩ : ∃ x, i + 1 = x := ⟨_, rfl⟩
      have ei : wbin .add .i64 i 1 = i' := by rw [hbin, i_add (by omega) (by omega)]; exact ei'
      obtain ⟨fw, efw⟩ : ∃ x, fs ++ [[AV.int .i64 len, .list 2 q1, .list 1 n1]] = x := ⟨_, rfl⟩
      have hfl : fw.length = n + 1 := by rw [← efw, hnf]; simp
      have hft : fw = es.take i'.toNat := by rw [← efw, ← ei', take_row (by omega) hrow, hfs]
      have hufw : Up0 fw := by rw [hft]; exact up_take hu _
      obtain ⟨n', en'⟩ : ∃ x, n + 1 = x := ⟨_, rfl⟩
      have hnl : n = i.toNat := by rw [hnf, hfs, List.length_take]; omega
      have hT1 : Bd.left es (.more i' n' fw) < Bd.left es (.more i n fs) := by simp only [Bd.left]; omega
      have hI1 : Bd.Ok es (.more i' n' fw) := ⟨by omega, by omega, hft, by omega, hufw⟩
      (obtain ⟨K, eK, K0, Kn⟩ : ∃ L : Int, wlen q1 = L ∧ 0 ≤ L ∧ L.toNat = q1.length := ⟨(q1.length : Int), by rw [hlen], Int.natCast_nonneg _, Int.toNat_natCast _⟩)
      refine Loop.data hw (S := Bd) (fun s => match s with | .start => fr 63 [(1, .ref 0 2 0 0), (2, .ref 1 2 0 0), (3, .ref 2 2 0 0), (12, .list 3 es), (13, .int .i64 L), (14, .int .i64 i), (5, .ref 4 3 0 0), (6, .ref 5 3 0 0), (24, .list 2 q1), (25, .int .i64 K), (26, .int .i64 0)] | .more k m fp => fr 63 [(1, .ref 0 2 0 0), (2, .ref 1 2 0 0), (3, .ref 2 2 0 0), (12, .list 3 es), (13, .int .i64 L), (14, .int .i64 i), (5, .ref 4 3 0 0), (6, .ref 5 3 0 0), (24, .list 2 q1), (25, .int .i64 K), (26, .int .i64 k)])
        (fun s => match s with | .start => [.live 2 [[.list 3 es, .list 5 ds]], .live 2 [[.nils, .nils]], .live 2 [[.sl 3 3 0 n, .nils]], .live 3 fs, .live 3 [[.int .i64 len, .list 2 q1, .list 1 n1]], .live 3 [[.int .i64 len, .nils, .list 1 n1]]] | .more k m fp => [.live 2 [[.list 3 es, .list 5 ds]], .live 2 [[.nils, .nils]], .live 2 [[.sl 3 3 0 n, .nils]], .live 3 fs, .live 3 [[.int .i64 len, .list 2 q1, .list 1 n1]], .live 3 [[.int .i64 len, .sl 6 2 0 m, .list 1 n1]], .live 2 fp]) (Bd.Ok q1) (Bd.left q1) .start (by (refine Wk.eqz (id) (by first | exact fun i _ j _ e => e | (simp only [List.length_cons, List.length_nil]; decide)) ?_; cbv; (repeat' (first | exact trivial | rfl | assumption | apply And.intro | (simp only [hbin, hcmp, hun, hconv, hnot, hbeq, hmm, hscmp, hsadd, hslen, hsat, heqs, hofNat, binStd, cmpStd, unStd, scmpStd, maxI, Z.z1, Z.z2, Z.z3, Z.z4, Z.z5, Z.z6, if_true, if_false, Z.z7, beq_iff_eq, bne_iff_ne, ne_eq, Z.z8, Z.z9, Z.y1, beq_eq_false_iff_ne, bne_eq_false_iff_eq, Z.y2, Z.y3, Z.y4, Z.y5, reduceCtorEq]; first | done | assumption) | exact RowsZ.same (by assumption) (by first | assumption | rfl) | exact FzL.mk rfl rfl rfl (by assumption) (by first | assumption | rfl) (by decide) | (refine RowsZ.one ?_; cbv))))) trivial ?_
      rintro (_ | ⟨k, m, fp⟩) hinv2 Q2 hN2 hE2 hR2
      · cbv
        (split <;> rename_i hc2 <;> (try (simp only [hbin, hcmp, hun, hconv, hnot, hbeq, hmm, hscmp, hsadd, hslen, hsat, heqs, hofNat, binStd, cmpStd, unStd, scmpStd, maxI, Z.z1, Z.z2, Z.z3, Z.z4, Z.z5, Z.z6, if_true, if_false, Z.z7, beq_iff_eq, bne_iff_ne, ne_eq, Z.z8, Z.z9, Z.y1, beq_eq_false_iff_ne, bne_eq_false_iff_eq, Z.y2, Z.y3, Z.y4, Z.y5, reduceCtorEq] at hc2)) <;> (try cbv))
        · obtain ⟨⟨a, b⟩, hd2, hrow2⟩ := get_map (f := pcRow) (ds := ps) (i := 0) (Int.le_refl 0) (by omega)
          have hrow2 : q1[(0 : Int).toNat]? = some [.int .i64 a, .int .i64 b] := by rw [← eq1]; exact hrow2
          refine Idx.mk [.int .i64 a, .int .i64 b] (by decide) hrow2 ?_
          cbv
          refine Ob.mk (by decide) ?_
          cbv
          have hU2 : Up0 [[AV.int .i64 a, .int .i64 b]] := ⟨rfl⟩
          have ei2 : wbin .add .i64 0 1 = 1 := by rw [hbin]; rfl
          refine hN2 (Bd.more 1 1 [[.int .i64 a, .int .i64 b]]) _ _ ?hx ?hi ?ht
          case hx => (refine Wk.eqz (fun j => [0, 1, 2, 3, 4, 5, 7].getD j 0) (by first | exact fun i _ j _ e => e | (simp only [List.length_cons, List.length_nil]; decide)) ?_; cbv; (repeat' (first | exact trivial | rfl | assumption | apply And.intro | (simp only [hbin, hcmp, hun, hconv, hnot, hbeq, hmm, hscmp, hsadd, hslen, hsat, heqs, hofNat, binStd, cmpStd, unStd, scmpStd, maxI, Z.z1, Z.z2, Z.z3, Z.z4, Z.z5, Z.z6, if_true, if_false, Z.z7, beq_iff_eq, bne_iff_ne, ne_eq, Z.z8, Z.z9, Z.y1, beq_eq_false_iff_ne, bne_eq_false_iff_eq, Z.y2, Z.y3, Z.y4, Z.y5, reduceCtorEq]; first | done | assumption) | exact RowsZ.same (by assumption) (by first | assumption | rfl) | exact FzL.mk rfl rfl rfl (by assumption) (by first | assumption | rfl) (by decide) | (refine RowsZ.one ?_; cbv))))
          case hi => exact ⟨by decide, by omega, (take_row (Int.le_refl 0) hrow2).symm, rfl, hU2⟩
          case ht => simp only [Bd.left]; omega
        · refine hE2 _ _ _ ?_
          cbv
          have hq0 : q1 = [] := List.length_eq_zero_iff.1 (by omega)
          obtain ⟨fx, efx⟩ : ∃ x, fs ++ [[AV.int .i64 len, .nils, .list 1 n1]] = x := ⟨_, rfl⟩
          refine App.mk fx n' efx.symm hnf en'.symm (by omega) (by omega) ?_
          cbv
          refine hN (Bd.more i' n' fw) _ _ ?hx ?hi ?ht
          case hx => (refine Wk.eqz (fun j => [0, 1, 2, 6].getD j 0) (by first | exact fun i _ j _ e => e | (simp only [List.length_cons, List.length_nil]; decide)) ?_; cbv; (repeat' (first | exact trivial | rfl | assumption | (refine RowsZ.app huf efx.symm efw.symm ?_; cbv) | apply And.intro | (simp only [hbin, hcmp, hun, hconv, hnot, hbeq, hmm, hscmp, hsadd, hslen, hsat, heqs, hofNat, binStd, cmpStd, unStd, scmpStd, maxI, Z.z1, Z.z2, Z.z3, Z.z4, Z.z5, Z.z6, if_true, if_false, Z.z7, beq_iff_eq, bne_iff_ne, ne_eq, Z.z8, Z.z9, Z.y1, beq_eq_false_iff_ne, bne_eq_false_iff_eq, Z.y2, Z.y3, Z.y4, Z.y5, reduceCtorEq]; first | done | assumption) | exact RowsZ.same (by assumption) (by first | assumption | rfl) | exact FzL.mk rfl rfl rfl (by assumption) (by first | assumption | rfl) (by decide) | (refine RowsZ.one ?_; cbv))))
          case hi => exact hI1
          case ht => exact hT1
      · cbv
        obtain ⟨hk0, hk1, hfp, hmf, hup⟩ : 0 < k ∧ k.toNat ≤ q1.length ∧ fp = q1.take k.toNat ∧ m = fp.length ∧ Up0 fp := hinv2
        (split <;> rename_i hc2 <;> (try (simp only [hbin, hcmp, hun, hconv, hnot, hbeq, hmm, hscmp, hsadd, hslen, hsat, heqs, hofNat, binStd, cmpStd, unStd, scmpStd, maxI, Z.z1, Z.z2, Z.z3, Z.z4, Z.z5, Z.z6, if_true, if_false, Z.z7, beq_iff_eq, bne_iff_ne, ne_eq, Z.z8, Z.z9, Z.y1, beq_eq_false_iff_ne, bne_eq_false_iff_eq, Z.y2, Z.y3, Z.y4, Z.y5, reduceCtorEq] at hc2)) <;> (try cbv))
        · obtain ⟨⟨a, b⟩, hd2, hrow2⟩ := get_map (f := pcRow) (ds := ps) (i := k) (by omega) (by omega)
          have hrow2 : q1[k.toNat]? = some [.int .i64 a, .int .i64 b] := by rw [← eq1]; exact hrow2
          refine Idx.mk [.int .i64 a, .int .i64 b] (by omega) hrow2 ?_
          cbv
          obtain ⟨k', ek'⟩ : ∃ x, k + 1 = x := ⟨_, rfl⟩
          have ek : wbin .add .i64 k 1 = k' := by rw [hbin, i_add (by omega) (by omega)]; exact ek'
          obtain ⟨fp', efp⟩ : ∃ x, fp ++ [[AV.int .i64 a, .int .i64 b]] = x := ⟨_, rfl⟩
          have hfl2 : fp'.length = m + 1 := by rw [← efp, hmf]; simp
          have hft2 : fp' = q1.take k'.toNat := by rw [← efp, ← ek', take_row (by omega) hrow2, hfp]
          have hup' : Up0 fp' := by rw [hft2]; exact up_take huq _
          obtain ⟨m', em'⟩ : ∃ x, m + 1 = x := ⟨_, rfl⟩
          have hml : m = k.toNat := by rw [hmf, hfp, List.length_take]; omega
          refine App.mk fp' m' efp.symm hmf em'.symm (by omega) (by omega) ?_
          cbv
          refine hN2 (Bd.more k' m' fp') _ _ ?hx ?hi ?ht
          case hx => (refine Wk.eqz (fun j => [0, 1, 2, 3, 4, 5, 8].getD j 0) (by first | exact fun i _ j _ e => e | (simp only [List.length_cons, List.length_nil]; decide)) ?_; cbv; (repeat' (first | exact trivial | rfl | assumption | apply And.intro | (simp only [hbin, hcmp, hun, hconv, hnot, hbeq, hmm, hscmp, hsadd, hslen, hsat, heqs, hofNat, binStd, cmpStd, unStd, scmpStd, maxI, Z.z1, Z.z2, Z.z3, Z.z4, Z.z5, Z.z6, if_true, if_false, Z.z7, beq_iff_eq, bne_iff_ne, ne_eq, Z.z8, Z.z9, Z.y1, beq_eq_false_iff_ne, bne_eq_false_iff_eq, Z.y2, Z.y3, Z.y4, Z.y5, reduceCtorEq]; first | done | assumption) | exact RowsZ.same (by assumption) (by first | assumption | rfl) | exact FzL.mk rfl rfl rfl (by assumption) (by first | assumption | rfl) (by decide) | (refine RowsZ.one ?_; cbv))))
          case hi => exact ⟨by omega, by omega, hft2, by omega, hup'⟩
          case ht => simp only [Bd.left]; omega
        · refine hE2 _ _ _ ?_
          cbv
          have hq : fp = q1 := by rw [hfp, List.take_of_length_le (by omega)]
          have hmq : m = q1.length := by rw [hmf, hq]
          clear hfp
          subst fp
          obtain ⟨fx, efx⟩ : ∃ x, fs ++ [[AV.int .i64 len, .sl 6 2 0 m, .list 1 n1]] = x := ⟨_, rfl⟩
          refine App.mk fx n' efx.symm hnf en'.symm (by omega) (by omega) ?_
          cbv
          refine hN (Bd.more i' n' fw) _ _ ?hx ?hi ?ht
          case hx => (refine Wk.eqz (fun j => [0, 1, 2, 7].getD j 0) (by first | exact fun i _ j _ e => e | (simp only [List.length_cons, List.length_nil]; decide)) ?_; cbv; (repeat' (first | exact trivial | rfl | assumption | (refine RowsZ.app huf efx.symm efw.symm ?_; cbv) | apply And.intro | (simp only [hbin, hcmp, hun, hconv, hnot, hbeq, hmm, hscmp, hsadd, hslen, hsat, heqs, hofNat, binStd, cmpStd, unStd, scmpStd, maxI, Z.z1, Z.z2, Z.z3, Z.z4, Z.z5, Z.z6, if_true, if_false, Z.z7, beq_iff_eq, bne_iff_ne, ne_eq, Z.z8, Z.z9, Z.y1, beq_eq_false_iff_ne, bne_eq_false_iff_eq, Z.y2, Z.y3, Z.y4, Z.y5, reduceCtorEq]; first | done | assumption) | exact RowsZ.same (by assumption) (by first | assumption | rfl) | exact FzL.mk rfl rfl rfl (by assumption) (by first | assumption | rfl) (by decide) | (refine RowsZ.one ?_; cbv))))
          case hi => exact hI1
          case ht => exact hT1
    · refine hE _ _ _ ?_
      cbv
      have hfe : fs = es := by rw [hfs, List.take_of_length_le (by omega)]
      have hne : n = es.length := by rw [hnf, hfe]
      subst hfe
      (obtain ⟨J, eJ, J0, Jn⟩ : ∃ L : Int, wlen ds = L ∧ 0 ≤ L ∧ L.toNat = ds.length := ⟨(ds.length : Int), by rw [hlen], Int.natCast_nonneg _, Int.toNat_natCast _⟩)
      refine Loop.data hw (S := Bd) (fun s => match s with | .start => fr 63 [(2, .ref 1 2 0 0), (3, .ref 2 2 0 0), (49, .list 5 ds), (50, .int .i64 J), (51, .int .i64 0)] | .more k m fp => fr 63 [(2, .ref 1 2 0 0), (3, .ref 2 2 0 0), (49, .list 5 ds), (50, .int .i64 J), (51, .int .i64 k)])
        (fun s => match s with | .start => [.live 2 [[.list 3 fs, .list 5 ds]], .live 2 [[.nils, .nils]], .live 2 [[.list 3 fs, .nils]]] | .more k m fp => [.live 2 [[.list 3 fs, .list 5 ds]], .live 2 [[.nils, .nils]], .live 2 [[.list 3 fs, .sl 3 5 0 m]], .live 5 fp]) (Bd.Ok ds) (Bd.left ds) .start (by (refine Wk.eqz (id) (by first | exact fun i _ j _ e => e | (simp only [List.length_cons, List.length_nil]; decide)) ?_; cbv; (repeat' (first | exact trivial | rfl | assumption | apply And.intro | (simp only [hbin, hcmp, hun, hconv, hnot, hbeq, hmm, hscmp, hsadd, hslen, hsat, heqs, hofNat, binStd, cmpStd, unStd, scmpStd, maxI, Z.z1, Z.z2, Z.z3, Z.z4, Z.z5, Z.z6, if_true, if_false, Z.z7, beq_iff_eq, bne_iff_ne, ne_eq, Z.z8, Z.z9, Z.y1, beq_eq_false_iff_ne, bne_eq_false_iff_eq, Z.y2, Z.y3, Z.y4, Z.y5, reduceCtorEq]; first | done | assumption) | exact RowsZ.same (by assumption) (by first | assumption | rfl) | exact FzL.mk rfl rfl rfl (by assumption) (by first | assumption | rfl) (by decide) | (refine RowsZ.one ?_; cbv))))) trivial ?_
      rintro (_ | ⟨k, m, fp⟩) hinv2 Q2 hN2 hE2 hR2
      · cbv
        (split <;> rename_i hc2 <;> (try (simp only [hbin, hcmp, hun, hconv, hnot, hbeq, hmm, hscmp, hsadd, hslen, hsat, heqs, hofNat, binStd, cmpStd, unStd, scmpStd, maxI, Z.z1, Z.z2, Z.z3, Z.z4, Z.z5, Z.z6, if_true, if_false, Z.z7, beq_iff_eq, bne_iff_ne, ne_eq, Z.z8, Z.z9, Z.y1, beq_eq_false_iff_ne, bne_eq_false_iff_eq, Z.y2, Z.y3, Z.y4, Z.y5, reduceCtorEq] at hc2)) <;> (try cbv))
        · obtain ⟨⟨a1, a2, a3, a4, a5⟩, hd2, hrow2⟩ := get_map (f := grRow) (ds := gs) (i := 0) (Int.le_refl 0) (by omega)
          have hrow2 : ds[(0 : Int).toNat]? = some [.int .i64 a1, .int .i64 a2, .int .i64 a3, .int .i64 a4, .int .i64 a5] := by rw [hds]; exact hrow2
          refine Idx.mk [.int .i64 a1, .int .i64 a2, .int .i64 a3, .int .i64 a4, .int .i64 a5] (by decide) hrow2 ?_
          cbv
          refine Ob.mk (by decide) ?_
          cbv
          have hU2 : Up0 [[AV.int .i64 a1, .int .i64 a2, .int .i64 a3, .int .i64 a4, .int .i64 a5]] := ⟨rfl⟩
          have ei2 : wbin .add .i64 0 1 = 1 := by rw [hbin]; rfl
          refine hN2 (Bd.more 1 1 [[.int .i64 a1, .int .i64 a2, .int .i64 a3, .int .i64 a4, .int .i64 a5]]) _ _ ?hx ?hi ?ht
          case hx => (refine Wk.eqz (fun j => [0, 1, 2, 4].getD j 0) (by first | exact fun i _ j _ e => e | (simp only [List.length_cons, List.length_nil]; decide)) ?_; cbv; (repeat' (first | exact trivial | rfl | assumption | apply And.intro | (simp only [hbin, hcmp, hun, hconv, hnot, hbeq, hmm, hscmp, hsadd, hslen, hsat, heqs, hofNat, binStd, cmpStd, unStd, scmpStd, maxI, Z.z1, Z.z2, Z.z3, Z.z4, Z.z5, Z.z6, if_true, if_false, Z.z7, beq_iff_eq, bne_iff_ne, ne_eq, Z.z8, Z.z9, Z.y1, beq_eq_false_iff_ne, bne_eq_false_iff_eq, Z.y2, Z.y3, Z.y4, Z.y5, reduceCtorEq]; first | done | assumption) | exact RowsZ.same (by assumption) (by first | assumption | rfl) | exact FzL.mk rfl rfl rfl (by assumption) (by first | assumption | rfl) (by decide) | (refine RowsZ.one ?_; cbv))))
          case hi => exact ⟨by decide, by omega, (take_row (Int.le_refl 0) hrow2).symm, rfl, hU2⟩
          case ht => simp only [Bd.left]; omega
        · refine hE2 _ _ _ ?_
          cbv
          have hd0 : ds = [] := List.length_eq_zero_iff.1 (by omega)
          exact ⟨_, Vw.agg (rs := [.list 3 fs, .list 5 []]) ⟨Vw.same hu.list, Vw.nil 5, trivial⟩, hR _ (by rw [hd0])⟩
      · cbv
        obtain ⟨hk0, hk1, hfp, hmf, hup⟩ : 0 < k ∧ k.toNat ≤ ds.length ∧ fp = ds.take k.toNat ∧ m = fp.length ∧ Up0 fp := hinv2
        (split <;> rename_i hc2 <;> (try (simp only [hbin, hcmp, hun, hconv, hnot, hbeq, hmm, hscmp, hsadd, hslen, hsat, heqs, hofNat, binStd, cmpStd, unStd, scmpStd, maxI, Z.z1, Z.z2, Z.z3, Z.z4, Z.z5, Z.z6, if_true, if_false, Z.z7, beq_iff_eq, bne_iff_ne, ne_eq, Z.z8, Z.z9, Z.y1, beq_eq_false_iff_ne, bne_eq_false_iff_eq, Z.y2, Z.y3, Z.y4, Z.y5, reduceCtorEq] at hc2)) <;> (try cbv))
        · obtain ⟨⟨a1, a2, a3, a4, a5⟩, hd2, hrow2⟩ := get_map (f := grRow) (ds := gs) (i := k) (by omega) (by omega)
          have hrow2 : ds[k.toNat]? = some [.int .i64 a1, .int .i64 a2, .int .i64 a3, .int .i64 a4, .int .i64 a5] := by rw [hds]; exact hrow2
          refine Idx.mk [.int .i64 a1, .int .i64 a2, .int .i64 a3, .int .i64 a4, .int .i64 a5] (by omega) hrow2 ?_
          cbv
          obtain ⟨k', ek'⟩ : ∃ x, k + 1 = x := ⟨_, rfl⟩
          have ek : wbin .add .i64 k 1 = k' := by rw [hbin, i_add (by omega) (by omega)]; exact ek'
          obtain ⟨fp', efp⟩ : ∃ x, fp ++ [[AV.int .i64 a1, .int .i64 a2, .int .i64 a3, .int .i64 a4, .int .i64 a5]] = x := ⟨_, rfl⟩
          have hfl2 : fp'.length = m + 1 := by rw [← efp, hmf]; simp
          have hft2 : fp' = ds.take k'.toNat := by rw [← efp, ← ek', take_row (by omega) hrow2, hfp]
          have hup' : Up0 fp' := by rw [hft2]; exact up_take hud _
          obtain ⟨m', em'⟩ : ∃ x, m + 1 = x := ⟨_, rfl⟩
          have hml : m = k.toNat := by rw [hmf, hfp, List.length_take]; omega
          refine App.mk fp' m' efp.symm hmf em'.symm (by omega) (by omega) ?_
          cbv
          refine hN2 (Bd.more k' m' fp') _ _ ?hx ?hi ?ht
          case hx => (refine Wk.eqz (fun j => [0, 1, 2, 5].getD j 0) (by first | exact fun i _ j _ e => e | (simp only [List.length_cons, List.length_nil]; decide)) ?_; cbv; (repeat' (first | exact trivial | rfl | assumption | apply And.intro | (simp only [hbin, hcmp, hun, hconv, hnot, hbeq, hmm, hscmp, hsadd, hslen, hsat, heqs, hofNat, binStd, cmpStd, unStd, scmpStd, maxI, Z.z1, Z.z2, Z.z3, Z.z4, Z.z5, Z.z6, if_true, if_false, Z.z7, beq_iff_eq, bne_iff_ne, ne_eq, Z.z8, Z.z9, Z.y1, beq_eq_false_iff_ne, bne_eq_false_iff_eq, Z.y2, Z.y3, Z.y4, Z.y5, reduceCtorEq]; first | done | assumption) | exact RowsZ.same (by assumption) (by first | assumption | rfl) | exact FzL.mk rfl rfl rfl (by assumption) (by first | assumption | rfl) (by decide) | (refine RowsZ.one ?_; cbv))))
          case hi => exact ⟨by omega, by omega, hft2, by omega, hup'⟩
          case ht => simp only [Bd.left]; omega
        · refine hE2 _ _ _ ?_
          cbv
          have hq : fp = ds := by rw [hfp, List.take_of_length_le (by omega)]
          refine ⟨_, Vw.agg (rs := [.list 3 fs, .list 5 _]) ⟨Vw.same hu.list, Vw.sl rfl hup.get (by omega), trivial⟩, hR _ ?_⟩
          rw [List.drop_zero, List.take_of_length_le (by omega), hq]
end Go.Proofs.Ytpiocfmdjgbamaa

/- What the statements of layer 20 ask first, by the engine. -/
set_option linter.unusedVariables false
set_option linter.unusedSimpArgs false
namespace Go.Proofs.Ytpiocfmdjgbamaa
open Go Go.RowKit Go.Eng
set_option maxRecDepth 100000
structure May14 (ss : List Sg) (gs : List Gr) (segment from_ : Int) : Prop where
  tr : TrackOk ss gs
  ps : ∀ s, s ∈ ss → s.ps.length ≤ 1000
  n300 : ss.length ≤ 300
  g500 : gs.length ≤ 500
  seg : 0 ≤ segment ∧ segment.toNat < ss.length
  fr : 0 ≤ from_ ∧ from_ ≤ 1099511627776
set_option maxHeartbeats 2000000 in
theorem e_may20 (ss : List Sg) (gs : List Gr) (es ds : List (List AV)) (hes : es = ss.map sgRow) (hds : ds = gs.map grRow) (segment from_ : Int) :
    PCalls Try.prog 44 [.agg [.list 3 es, .list 5 ds], .int .i64 segment, .int .i64 from_] (fun r => ∃ o : Bool, r = .bool o ∧ (o = true → May14 ss gs segment from_)) := by
  have hu : Up0 es := by rw [hes]; exact up_sg ss
  have hud : Up0 ds := by rw [hds]; exact up_gr gs
  have hel : es.length = ss.length := by rw [hes]; simp
  have hdl : ds.length = gs.length := by rw [hds]; simp
  have hut : uptoL 0 [.agg [.list 3 es, .list 5 ds]] = true := Bool.and_eq_true_iff.mpr ⟨Up0.one hu (Up0.one hud rfl), rfl⟩
  (refine PCalls.ofY Try.func44 (by kernel_rfl) (by kernel_rfl) fun w hw R hR => ?_); (obtain ⟨wbin, wcmp, wun, wconv, wnot, wbeq, wmm, wscmp, wsadd, wslen, wsat, weqs, wlen, wnlen, wofNat, wtake, wdrop, wapp, wzero, wnat⟩ := w); (have hbin := Z.w1 hw); (have hcmp := Z.w2 hw); (have hun := Z.w3 hw); (have hconv := Z.w4 hw); (have hnot := Z.w5 hw); (have hbeq := Z.w6 hw); (have hmm := Z.w7 hw); (have hscmp := Z.w8 hw); (have hsadd := Z.w9 hw); (have hslen := Z.w10 hw); (have hsat := Z.w11 hw); (have heqs := Z.w12 hw); (have hlen := Z.w13 hw); (have hnlen := Z.w14 hw); (have hofNat := Z.w15 hw); (have htake := Z.w16 hw); (have hdrop := Z.w17 hw); (have happ := Z.w18 hw); (have hzero := Z.w19 hw); (have hnat := Z.w20 hw); (conv => arg 2; cbv); (generalize hP : Try.prog = P); cbv
  (obtain ⟨L, eL, L0, Ln⟩ : ∃ L : Int, wlen es = L ∧ 0 ≤ L ∧ L.toNat = es.length := ⟨(es.length : Int), by rw [hlen], Int.natCast_nonneg _, Int.toNat_natCast _⟩)
  (obtain ⟨J, eJ, J0, Jn⟩ : ∃ L : Int, wlen ds = L ∧ 0 ≤ L ∧ L.toNat = ds.length := ⟨(ds.length : Int), by rw [hlen], Int.natCast_nonneg _, Int.toNat_natCast _⟩)
  have hF : R (.bool false) := hR _ ⟨_, rfl, fun h => (by cases h)⟩
  repeat' (first | exact ⟨_, Vw.same rfl, hF⟩ | (split <;> rename_i h <;> (try (simp only [eL, eJ] at h)) <;> (try (simp only [hbin, hcmp, hun, hconv, hnot, hbeq, hmm, hscmp, hsadd, hslen, hsat, heqs, hofNat, binStd, cmpStd, unStd, scmpStd, maxI, Z.z1, Z.z2, Z.z3, Z.z4, Z.z5, Z.z6, if_true, if_false, Z.z7, beq_iff_eq, bne_iff_ne, ne_eq, Z.z8, Z.z9, Z.y1, beq_eq_false_iff_ne, bne_eq_false_iff_eq, Z.y2, Z.y3, Z.y4, Z.y5, reduceCtorEq] at h)) <;> (try cbv)))
  have hb : ss.length ≤ 300 ∧ gs.length ≤ 500 := by omega
  obtain ⟨b1, b2⟩ := hb
  simp only [eL]
  refine Loop.data hw (S := Int) (fun i => fr 72 [(1, .int .i64 segment), (2, .int .i64 from_), (3, .ref 0 2 0 0), (22, .list 3 es), (23, .int .i64 L), (24, .int .i64 i)]) (fun i => [.live 2 [[.list 3 es, .list 5 ds]]]) (fun i => 0 ≤ i ∧ i ≤ L ∧ ∀ j, j < i.toNat → ∀ s, ss[j]? = some s → s.ps.length ≤ 100) (fun i => (L - i).toNat) 0 (by (refine Wk.eqz (id) (by first | exact fun i _ j _ e => e | (simp only [List.length_cons, List.length_nil]; decide)) ?_; cbv; (repeat' (first | exact trivial | rfl | assumption | apply And.intro | (simp only [hbin, hcmp, hun, hconv, hnot, hbeq, hmm, hscmp, hsadd, hslen, hsat, heqs, hofNat, binStd, cmpStd, unStd, scmpStd, maxI, Z.z1, Z.z2, Z.z3, Z.z4, Z.z5, Z.z6, if_true, if_false, Z.z7, beq_iff_eq, bne_iff_ne, ne_eq, Z.z8, Z.z9, Z.y1, beq_eq_false_iff_ne, bne_eq_false_iff_eq, Z.y2, Z.y3, Z.y4, Z.y5, reduceCtorEq]; first | done | assumption) | exact RowsZ.same (by assumption) (by first | assumption | rfl) | exact FzL.mk rfl rfl rfl (by assumption) (by first | assumption | rfl) (by decide) | (refine RowsZ.one ?_; cbv))))) ⟨Int.le_refl _, L0, fun j hj => (by simp at hj)⟩ ?_
  rintro i hinv Q' hN hE hR'
  have hinv : 0 ≤ i ∧ i ≤ L ∧ ∀ j, j < i.toNat → ∀ s, ss[j]? = some s → s.ps.length ≤ 100 := hinv
  cbv
  obtain ⟨hi0, hi1, hl⟩ := hinv
  (split <;> rename_i hc <;> (try (simp only [hbin, hcmp, hun, hconv, hnot, hbeq, hmm, hscmp, hsadd, hslen, hsat, heqs, hofNat, binStd, cmpStd, unStd, scmpStd, maxI, Z.z1, Z.z2, Z.z3, Z.z4, Z.z5, Z.z6, if_true, if_false, Z.z7, beq_iff_eq, bne_iff_ne, ne_eq, Z.z8, Z.z9, Z.y1, beq_eq_false_iff_ne, bne_eq_false_iff_eq, Z.y2, Z.y3, Z.y4, Z.y5, reduceCtorEq] at hc)) <;> (try cbv))
  · obtain ⟨⟨len, ps, nx⟩, hd, hrow⟩ := get_map (f := sgRow) (ds := ss) (i := i) hi0 (by omega)
    obtain ⟨q1, eq1⟩ : ∃ x, ps.map pcRow = x := ⟨_, rfl⟩
    obtain ⟨n1, en1⟩ : ∃ x, nx.map nxRow = x := ⟨_, rfl⟩
    have hrow : es[i.toNat]? = some [.int .i64 len, .list 2 q1, .list 1 n1] := by rw [hes, ← eq1, ← en1]; exact hrow
    have hql : q1.length = ps.length := by rw [← eq1]; simp
    (obtain ⟨K, eK, K0, Kn⟩ : ∃ L : Int, wlen q1 = L ∧ 0 ≤ L ∧ L.toNat = q1.length := ⟨(q1.length : Int), by rw [hlen], Int.natCast_nonneg _, Int.toNat_natCast _⟩)
    obtain ⟨i', ei'⟩ : ∃ x, i + 1 = x := ⟨_, rfl⟩
    have ei : wbin .add .i64 i 1 = i' := by rw [hbin, i_add (by omega) (by omega)]; exact ei'
    have hT : (L - i').toNat < (L - i).toNat := by omega
    refine Idx.mk [.int .i64 len, .list 2 q1, .list 1 n1] hi0 hrow ?_
    cbv
    repeat' (first | exact hR' _ _ ⟨_, Vw.same rfl, hF⟩ | (split <;> rename_i h <;> (try (simp only [eK] at h)) <;> (try (simp only [hbin, hcmp, hun, hconv, hnot, hbeq, hmm, hscmp, hsadd, hslen, hsat, heqs, hofNat, binStd, cmpStd, unStd, scmpStd, maxI, Z.z1, Z.z2, Z.z3, Z.z4, Z.z5, Z.z6, if_true, if_false, Z.z7, beq_iff_eq, bne_iff_ne, ne_eq, Z.z8, Z.z9, Z.y1, beq_eq_false_iff_ne, bne_eq_false_iff_eq, Z.y2, Z.y3, Z.y4, Z.y5, reduceCtorEq] at h)) <;> (try cbv)))
    refine hN i' _ _ ?hx ?hI hT
    case hx => (refine Wk.eqz (id) (by first | exact fun i _ j _ e => e | (simp only [List.length_cons, List.length_nil]; decide)) ?_; cbv; (repeat' (first | exact trivial | rfl | assumption | apply And.intro | (simp only [hbin, hcmp, hun, hconv, hnot, hbeq, hmm, hscmp, hsadd, hslen, hsat, heqs, hofNat, binStd, cmpStd, unStd, scmpStd, maxI, Z.z1, Z.z2, Z.z3, Z.z4, Z.z5, Z.z6, if_true, if_false, Z.z7, beq_iff_eq, bne_iff_ne, ne_eq, Z.z8, Z.z9, Z.y1, beq_eq_false_iff_ne, bne_eq_false_iff_eq, Z.y2, Z.y3, Z.y4, Z.y5, reduceCtorEq]; first | done | assumption) | exact RowsZ.same (by assumption) (by first | assumption | rfl) | exact FzL.mk rfl rfl rfl (by assumption) (by first | assumption | rfl) (by decide) | (refine RowsZ.one ?_; cbv))))
    case hI =>
      refine ⟨by omega, by omega, ?_⟩
      rw [← ei']
      refine all_step hi0 hl fun m hm => ?_
      rw [hd] at hm
      obtain rfl : (⟨len, ps, nx⟩ : Sg) = m := by simpa using hm
      simp only; omega
  refine hE _ _ _ ?_
  cbv
  have hps : ∀ s, s ∈ ss → s.ps.length ≤ 1000 := fun s hs => by
    obtain ⟨j, hj⟩ := List.mem_iff_getElem?.1 hs
    have := hl j (by have := (List.getElem?_eq_some_iff.1 hj).1; omega) s hj
    omega
  refine Call.stepE (by rw [← hP]; exact e_refsT20 ss gs es ds hes hds (by omega) (by omega) hps) (by exact hut) ?_
  cbv
  refine Call.step (by rw [← hP]; exact e_check11 ss gs es ds hes hds) (by exact hut) ?_
  rintro r ⟨e, i, rfl, hok⟩
  cbv
  (split <;> rename_i h1 <;> (try (simp only [hbin, hcmp, hun, hconv, hnot, hbeq, hmm, hscmp, hsadd, hslen, hsat, heqs, hofNat, binStd, cmpStd, unStd, scmpStd, maxI, Z.z1, Z.z2, Z.z3, Z.z4, Z.z5, Z.z6, if_true, if_false, Z.z7, beq_iff_eq, bne_iff_ne, ne_eq, Z.z8, Z.z9, Z.y1, beq_eq_false_iff_ne, bne_eq_false_iff_eq, Z.y2, Z.y3, Z.y4, Z.y5, reduceCtorEq] at h1)) <;> (try cbv))
  rotate_left 1
  · exact ⟨_, Vw.same rfl, hF⟩
  have hT := hok h1
  (split <;> rename_i h2 <;> (try (simp only [eL] at h2)) <;> (try (simp only [hbin, hcmp, hun, hconv, hnot, hbeq, hmm, hscmp, hsadd, hslen, hsat, heqs, hofNat, binStd, cmpStd, unStd, scmpStd, maxI, Z.z1, Z.z2, Z.z3, Z.z4, Z.z5, Z.z6, if_true, if_false, Z.z7, beq_iff_eq, bne_iff_ne, ne_eq, Z.z8, Z.z9, Z.y1, beq_eq_false_iff_ne, bne_eq_false_iff_eq, Z.y2, Z.y3, Z.y4, Z.y5, reduceCtorEq] at h2)) <;> (try cbv))
  rotate_left 1
  · exact ⟨_, Vw.same rfl, hF⟩
  (split <;> rename_i h3 <;> (try (simp only [eL] at h3)) <;> (try (simp only [hbin, hcmp, hun, hconv, hnot, hbeq, hmm, hscmp, hsadd, hslen, hsat, heqs, hofNat, binStd, cmpStd, unStd, scmpStd, maxI, Z.z1, Z.z2, Z.z3, Z.z4, Z.z5, Z.z6, if_true, if_false, Z.z7, beq_iff_eq, bne_iff_ne, ne_eq, Z.z8, Z.z9, Z.y1, beq_eq_false_iff_ne, bne_eq_false_iff_eq, Z.y2, Z.y3, Z.y4, Z.y5, reduceCtorEq] at h3)) <;> (try cbv))
  rotate_left 1
  · exact ⟨_, Vw.same rfl, hF⟩
  (split <;> rename_i h4 <;> (try (simp only [eL] at h4)) <;> (try (simp only [hbin, hcmp, hun, hconv, hnot, hbeq, hmm, hscmp, hsadd, hslen, hsat, heqs, hofNat, binStd, cmpStd, unStd, scmpStd, maxI, Z.z1, Z.z2, Z.z3, Z.z4, Z.z5, Z.z6, if_true, if_false, Z.z7, beq_iff_eq, bne_iff_ne, ne_eq, Z.z8, Z.z9, Z.y1, beq_eq_false_iff_ne, bne_eq_false_iff_eq, Z.y2, Z.y3, Z.y4, Z.y5, reduceCtorEq] at h4)) <;> (try cbv))
  rotate_left 1
  · exact ⟨_, Vw.same rfl, hF⟩
  obtain ⟨sg, hd, hrow⟩ := get_map (f := sgRow) (ds := ss) (i := segment) h2 (by omega)
  have hsg := hT.seg segment.toNat (by omega) sg hd
  obtain ⟨len, ps, nx⟩ := sg
  have hle : len ≤ 1099511627776 := hsg.le
  obtain ⟨q1, eq1⟩ : ∃ x, ps.map pcRow = x := ⟨_, rfl⟩
  obtain ⟨n1, en1⟩ : ∃ x, nx.map nxRow = x := ⟨_, rfl⟩
  have hrow : es[segment.toNat]? = some [.int .i64 len, .list 2 q1, .list 1 n1] := by rw [hes, ← eq1, ← en1]; exact hrow
  refine Idx.mk [.int .i64 len, .list 2 q1, .list 1 n1] h2 hrow ?_
  cbv
  refine ⟨_, Vw.same rfl, hR _ ⟨_, rfl, fun ho => ⟨hT, hps, b1, b2, ⟨h2, by omega⟩, ?_⟩⟩⟩
  rw [hcmp] at ho
  have : from_ ≤ len := by simpa [cmpStd] using ho
  omega
theorem e_small20 (a b : Int) (o : Bool) (ho : decide (a ≤ b ∧ -35184372088832 ≤ a ∧ b ≤ 35184372088832) = o) : PCalls Try.prog 21 [.agg [.int .i64 a, .int .i64 b]] (· = .bool o) := by
  (refine PCalls.ofY Try.func21 (by kernel_rfl) (by kernel_rfl) fun w hw R hR => ?_); (obtain ⟨wbin, wcmp, wun, wconv, wnot, wbeq, wmm, wscmp, wsadd, wslen, wsat, weqs, wlen, wnlen, wofNat, wtake, wdrop, wapp, wzero, wnat⟩ := w); (have hbin := Z.w1 hw); (have hcmp := Z.w2 hw); (have hun := Z.w3 hw); (have hconv := Z.w4 hw); (have hnot := Z.w5 hw); (have hbeq := Z.w6 hw); (have hmm := Z.w7 hw); (have hscmp := Z.w8 hw); (have hsadd := Z.w9 hw); (have hslen := Z.w10 hw); (have hsat := Z.w11 hw); (have heqs := Z.w12 hw); (have hlen := Z.w13 hw); (have hnlen := Z.w14 hw); (have hofNat := Z.w15 hw); (have htake := Z.w16 hw); (have hdrop := Z.w17 hw); (have happ := Z.w18 hw); (have hzero := Z.w19 hw); (have hnat := Z.w20 hw); (conv => arg 2; cbv); (generalize hP : Try.prog = P); cbv
  have hF : ∀ (o' : Bool) (h : AHeap), (o' = true ↔ (a ≤ b ∧ -35184372088832 ≤ a ∧ b ≤ 35184372088832)) → Ret [.bool o'] h R := fun o' h k => ⟨_, Vw.same rfl, hR _ (congrArg AV.bool (by rw [← ho, Bool.eq_iff_iff, k, decide_eq_true_iff]))⟩
  repeat' (split <;> rename_i h1 <;> (try (simp only [hbin, hcmp, hun, hconv, hnot, hbeq, hmm, hscmp, hsadd, hslen, hsat, heqs, hofNat, binStd, cmpStd, unStd, scmpStd, maxI, Z.z1, Z.z2, Z.z3, Z.z4, Z.z5, Z.z6, if_true, if_false, Z.z7, beq_iff_eq, bne_iff_ne, ne_eq, Z.z8, Z.z9, Z.y1, beq_eq_false_iff_ne, bne_eq_false_iff_eq, Z.y2, Z.y3, Z.y4, Z.y5, reduceCtorEq] at h1)) <;> (try cbv))
  all_goals first
    | (refine hF false _ ?_; simp; omega)
    | (refine hF _ _ ?_; rw [hcmp]; simp only [cmpStd, decide_eq_true_iff]; omega)
end Go.Proofs.Ytpiocfmdjgbamaa

/- Where a group lies on some ways, plainly. -/
set_option linter.unusedVariables false
set_option linter.unusedSimpArgs false
namespace Go.Proofs.Ytpiocfmdjgbamaa
open Go Go.RowKit Go.Eng
/-- Where a group lies on what is left of a way. -/
def plc (ss : List Sg) (sg off : Int) : Int → List Int → List Int
  | _, [] => []
  | a, n :: l => (if n = sg then [a + off] else []) ++ plc ss sg off (a + lenAt ss n) l
def plcs (ss : List Sg) (sg off from_ : Int) (m : List (List Int)) : List Int := m.flatMap (plc ss sg off (-from_))
/-- A number in its place, if it isn't there. -/
def addQ : List Int → Int → List Int
  | [], x => [x]
  | k :: l, x => if k < x then k :: addQ l x else if x < k then x :: k :: l else k :: l
theorem addQ_lt {k x : Int} {l : List Int} (h : k < x) : addQ (k :: l) x = k :: addQ l x := by simp only [addQ]; rw [if_pos h]
theorem addQ_gt {k x : Int} {l : List Int} (h : x < k) : addQ (k :: l) x = x :: k :: l := by simp only [addQ]; rw [if_neg (by omega), if_pos h]
theorem addQ_eq {k x : Int} {l : List Int} (h : x ≤ k) (h2 : k ≤ x) : addQ (k :: l) x = k :: l := by simp only [addQ]; rw [if_neg (by omega), if_neg (by omega)]
theorem addQ_mem : ∀ (l : List Int) (x y : Int), y ∈ addQ l x ↔ y ∈ l ∨ y = x
  | [], x, y => by simp [addQ]
  | k :: l, x, y => by
    simp only [addQ]
    split
    · rw [List.mem_cons, addQ_mem l x y, List.mem_cons, or_assoc]
    · split
      · simp only [List.mem_cons]
        constructor
        · rintro (h | h | h)
          · exact .inr h
          · exact .inl (.inl h)
          · exact .inl (.inr h)
        · rintro ((h | h) | h)
          · exact .inr (.inl h)
          · exact .inr (.inr h)
          · exact .inl h
      · have : k = x := by omega
        rw [List.mem_cons, this]
        constructor
        · exact .inl
        · rintro (h | h)
          · exact h
          · exact .inl h
theorem addQ_sorted : ∀ (l : List Int) (x : Int), l.Pairwise (· < ·) → (addQ l x).Pairwise (· < ·)
  | [], x, _ => List.pairwise_singleton _ _
  | k :: l, x, h => by
    obtain ⟨h1, h2⟩ := List.pairwise_cons.1 h
    simp only [addQ]
    split
    · rename_i hk
      refine List.pairwise_cons.2 ⟨fun y hy => ?_, addQ_sorted l x h2⟩
      rcases (addQ_mem l x y).1 hy with hy | hy
      · exact h1 y hy
      · omega
    · split
      · rename_i hk
        refine List.pairwise_cons.2 ⟨fun y hy => ?_, h⟩
        rcases List.mem_cons.1 hy with rfl | hy
        · exact hk
        · have := h1 y hy; omega
      · exact h
theorem addQ_len : ∀ (l : List Int) (x : Int), (addQ l x).length ≤ l.length + 1
  | [], x => by simp [addQ]
  | k :: l, x => by
    have := addQ_len l x
    simp only [addQ]
    split
    · simp only [List.length_cons]; omega
    · split <;> simp
theorem adds_sorted : ∀ (l q : List Int), q.Pairwise (· < ·) → (l.foldl addQ q).Pairwise (· < ·) ∧ (∀ y, y ∈ l.foldl addQ q ↔ y ∈ q ∨ y ∈ l) ∧ (l.foldl addQ q).length ≤ q.length + l.length
  | [], q, h => ⟨h, fun y => by simp, by simp⟩
  | x :: l, q, h => by
    obtain ⟨h1, h2, h3⟩ := adds_sorted l (addQ q x) (addQ_sorted q x h)
    have := addQ_len q x
    refine ⟨h1, fun y => ?_, by simp only [List.foldl_cons, List.length_cons]; omega⟩
    rw [List.foldl_cons, h2, addQ_mem, List.mem_cons, or_assoc]
theorem sorted_ext : ∀ (l m : List Int), l.Pairwise (· < ·) → m.Pairwise (· < ·) → (∀ x, x ∈ l ↔ x ∈ m) → l = m
  | [], [], _, _, _ => rfl
  | [], b :: m, _, _, h => by have := (h b).2 List.mem_cons_self; simp at this
  | a :: l, [], _, _, h => by have := (h a).1 List.mem_cons_self; simp at this
  | a :: l, b :: m, h1, h2, h => by
    obtain ⟨a1, a2⟩ := List.pairwise_cons.1 h1
    obtain ⟨b1, b2⟩ := List.pairwise_cons.1 h2
    have e : a = b := by
      have k1 := (h a).1 List.mem_cons_self
      have k2 := (h b).2 List.mem_cons_self
      rcases List.mem_cons.1 k1 with k1 | k1
      · exact k1
      · rcases List.mem_cons.1 k2 with k2 | k2
        · exact k2.symm
        · have := b1 a k1; have := a1 b k2; omega
    subst e
    congr 1
    refine sorted_ext l m a2 b2 fun x => ⟨fun hx => ?_, fun hx => ?_⟩
    · rcases List.mem_cons.1 ((h x).1 (List.mem_cons_of_mem _ hx)) with k | k
      · have := a1 x hx; omega
      · exact k
    · rcases List.mem_cons.1 ((h x).2 (List.mem_cons_of_mem _ hx)) with k | k
      · have := b1 x hx; omega
      · exact k
/-- The places, rising, each once. -/
def plcR (ss : List Sg) (sg off from_ : Int) (m : List (List Int)) : List Int := (plcs ss sg off from_ m).foldl addQ []
theorem plcR_unique {ss : List Sg} {sg off from_ : Int} {m : List (List Int)} {os : List Int} (h1 : os.Pairwise (· < ·)) (h2 : ∀ x, x ∈ os ↔ x ∈ plcs ss sg off from_ m) : os = plcR ss sg off from_ m := by
  obtain ⟨k1, k2, _⟩ := adds_sorted (plcs ss sg off from_ m) [] List.Pairwise.nil
  exact sorted_ext _ _ h1 k1 fun x => by rw [h2]; unfold plcR at *; rw [k2]; simp
theorem plc_len (ss : List Sg) (sg off : Int) : ∀ (l : List Int) (a : Int), (plc ss sg off a l).length ≤ l.length
  | [], a => by simp [plc]
  | n :: l, a => by
    have := plc_len ss sg off l (a + lenAt ss n)
    simp only [plc, List.length_append, List.length_cons]
    split <;> simp <;> omega
theorem plcs_len (ss : List Sg) (sg off from_ : Int) : ∀ (m : List (List Int)), (∀ l, l ∈ m → l.length ≤ 12) → (plcs ss sg off from_ m).length ≤ 12 * m.length
  | [], _ => by simp [plcs]
  | l :: m, h => by
    have h1 := plcs_len ss sg off from_ m fun x hx => h x (List.mem_cons_of_mem _ hx)
    have h2 := plc_len ss sg off l (-from_)
    have h3 := h l List.mem_cons_self
    unfold plcs at h1 ⊢
    rw [List.flatMap_cons, List.length_append, List.length_cons]
    omega
theorem plcs_snoc (ss : List Sg) (sg off from_ : Int) (m : List (List Int)) (l : List Int) : plcs ss sg off from_ (m ++ [l]) = plcs ss sg off from_ m ++ plc ss sg off (-from_) l := by
  unfold plcs; rw [List.flatMap_append]; simp
end Go.Proofs.Ytpiocfmdjgbamaa

/- slices.Sort and slices.Compact at an own slot of numbers of 64 bits. -/
set_option linter.unusedVariables false
set_option linter.unusedSimpArgs false
namespace Go.Proofs.Ytpiocfmdjgbamaa
open Go Go.RowKit Go.Eng Go.Shelf Go.Sort Go.Lib
set_option maxRecDepth 100000
theorem frozen_blk' {w : World} {b : Nat} {cs : Array Value} {t : TypeId} (h : w.heap[b]? = some (.cells cs t (0, 0))) (i : Nat) : w.frozen? ⟨b, i, none⟩ = false := by
  unfold World.frozen?
  simp [h]
theorem nx_get {ns : List Int} {i : Nat} {r : List AV} (h : (ns.map nxRow)[i]? = some r) : i < ns.length ∧ r = [.int .i64 ns[i]!] := by
  rw [List.getElem?_map] at h
  cases hi : ns[i]? with
  | none => rw [hi] at h; cases h
  | some y =>
    rw [hi] at h
    simp only [Option.map_some, Option.some.injEq] at h
    obtain ⟨h1, h2⟩ := List.getElem?_eq_some_iff.1 hi
    exact ⟨h1, by rw [← h, getElem!_pos ns i h1, h2]; rfl⟩
/-- An own slot's numbers, in memory. -/
theorem holds_nx {C : Cfg} (RC : Rel C) {s : Nat} {ns : List Int} (hs : C.h[s]? = some (.live 1 (ns.map nxRow))) : C.r s < C.w.heap.size ∧ Go.Sort.Holds (Value.int .i64) C.w (C.r s) 0 ns.toArray := by
  obtain ⟨_, hO, hrl, us, ty, hcell, hul, hur⟩ := RC.live s 1 _ hs (by decide)
  refine ⟨(Array.getElem?_eq_some_iff.1 hcell).1, fun j hj => ⟨?_, frozen_blk' hcell _⟩⟩
  have hj' : j < ns.length := by simpa using hj
  have hv := (hur j [.int .i64 ns[j]!] (by rw [List.getElem?_map, List.getElem?_eq_getElem hj', getElem!_pos ns j hj']; rfl) 0 _ rfl).int'
  have hju : j < us.size := by simp at hul; omega
  unfold World.cell?
  simp only [hcell, Option.isSome_none, Bool.false_eq_true, if_false, Nat.zero_add]
  rw [Nat.mul_one, Nat.add_zero, Array.getD_eq_getD_getElem?, Array.getElem?_eq_getElem hju] at hv
  rw [Array.getElem?_eq_getElem hju]
  simp only [Option.getD_some] at hv
  rw [hv]
  simp [hj']
/-- New numbers in it. -/
theorem put_nx {C : Cfg} (RC : Rel C) {s : Nat} {ns ns' : List Int} (hs : C.h[s]? = some (.live 1 (ns.map nxRow))) (hl : ns'.length = ns.length) (m : Nat) :
    Rel { C with h := C.h.set s (.live 1 (ns'.map nxRow)), w := putRow (Value.int .i64) (Sort.ahead C.w m) (C.r s) 0 ns'.toArray } ∧ Ext C.h.length C { C with h := C.h.set s (.live 1 (ns'.map nxRow)), w := putRow (Value.int .i64) (Sort.ahead C.w m) (C.r s) 0 ns'.toArray } := by
  obtain ⟨_, hO, hrl, us, ty, hcell, hul, hur⟩ := RC.live s 1 _ hs (by decide)
  have hslt : s < C.h.length := (List.getElem?_eq_some_iff.1 hs).1
  have hw1 : (putRow (Value.int .i64) (Sort.ahead C.w m) (C.r s) 0 ns'.toArray).heap[C.r s]? = some (.cells (putCells (Value.int .i64) 0 ns'.toArray us) ty (0, 0)) := by
    simp only [putRow, mapBlock, Sort.ahead, Array.getElem?_modify, if_true, hcell, Option.map_some, onCells]
  have hw2 : ∀ b, b ≠ C.r s → (putRow (Value.int .i64) (Sort.ahead C.w m) (C.r s) 0 ns'.toArray).heap[b]? = C.w.heap[b]? := fun b hb => by
    simp only [putRow, mapBlock, Sort.ahead, Array.getElem?_modify, if_neg (Ne.symm hb)]
  refine Rel.write RC s (C.h.set s (.live 1 (ns'.map nxRow))) (putRow (Value.int .i64) (Sort.ahead C.w m) (C.r s) 0 ns'.toArray) 1 (ns.map nxRow) (ns'.map nxRow) us (putCells (Value.int .i64) 0 ns'.toArray us) ty C.h.length (by decide) hs
    (List.getElem?_set_self hslt) (fun k hk => List.getElem?_set_ne (Ne.symm hk)) hcell hw1 (by simp [putCells]) hw2 rfl rfl rfl (by simp [putRow, mapBlock, Sort.ahead])
    (fun e he => by obtain ⟨x, _, rfl⟩ := List.mem_map.1 he; rfl) (by simp [putCells] at hul ⊢; omega) (fun i e he j x hx => ?_)
  obtain ⟨hi, rfl⟩ := nx_get he
  cases j with
  | succ j => simp at hx
  | zero =>
    simp only [List.getElem?_cons_zero, Option.some.injEq] at hx
    subst hx
    have hiu : i < us.size := by simp at hul; omega
    have : (putCells (Value.int .i64) 0 ns'.toArray us).getD (i * 1 + 0) undef = .int .i64 ns'[i]! := by
      rw [Nat.mul_one, Nat.add_zero, Array.getD_eq_getD_getElem?]
      unfold putCells
      rw [Array.getElem?_mapIdx, Array.getElem?_eq_getElem hiu]
      simp only [Option.map_some, Option.getD_some, Nat.zero_le, true_and, Nat.zero_add, Nat.sub_zero]
      rw [if_pos (by simpa using hi)]
      simp [hi]
    rw [this]
    exact .int _ _
theorem call_sort64 {P : Program} (hP : Try.prog = P) {h : AHeap} {K : AV → AHeap → Prop} {s n : Nat} {es : List (List AV)} {ns : List Int} (hs : h[s]? = some (.live 1 es)) (hes : es = ns.map nxRow) (hn : n = ns.length) (hsz : ns.length ≤ 1000000)
    (hK : ∀ ns' : List Int, ns'.Perm ns → ns'.Pairwise (· ≤ ·) → K (.tuple []) (h.set s (.live 1 (ns'.map nxRow)))) :
    ACall P 77 [.sl s 1 0 n] h K := by
  subst hP hes
  refine ⟨⟨_, Try.func77, by kernel_rfl, by kernel_rfl⟩, fun C vs hC RC hv => ?_⟩
  subst hC
  obtain ⟨hvl, hv0⟩ := hv
  have hvs : vs = #[vs.getD 0 undef] := by
    have hn : vs.size = 1 := by simpa using hvl
    obtain ⟨l⟩ := vs
    match l, hn with
    | [x], _ => rfl
  obtain ⟨cap, e0, hus, hnc, _⟩ := (hv0 0 _ rfl).sls
  rw [hvs, e0]
  obtain ⟨hBm, hH⟩ := holds_nx RC hs
  have hcall := AnyM.slices_Sort_int Try.sortL64 (C.r s) 0 cap ns C.w hH hBm (by omega)
  rw [← hn] at hcall
  refine hcall.mono ?_
  rintro e w' ⟨rfl, m, os, rfl⟩
  have hperm : (ns.mergeSort fun x y => decide (x ≤ y)).Perm ns := List.mergeSort_perm _ _
  have hsort : (ns.mergeSort fun x y => decide (x ≤ y)).Pairwise (· ≤ ·) := by
    have := List.pairwise_mergeSort (le := fun x y : Int => decide (x ≤ y)) (fun a b c h1 h2 => by simp at h1 h2 ⊢; omega) (fun a b => by simp; omega) ns
    exact this.imp fun h => by simpa using h
  generalize ns.mergeSort (fun x y => decide (x ≤ y)) = ns' at hperm hsort
  obtain ⟨R1, E1⟩ := put_nx RC hs hperm.length_eq m
  have hbel : Below (putRow (Value.int .i64) (Sort.ahead C.w m) (C.r s) 0 ns'.toArray).heap.size (putRow (Value.int .i64) (Sort.ahead C.w m) (C.r s) 0 ns'.toArray) (Go.Sort.grow (putRow (Value.int .i64) (Sort.ahead C.w m) (C.r s) 0 ns'.toArray) os) :=
    ⟨rfl, rfl, rfl, by simp [Go.Sort.grow], fun b hb => by simp only [Go.Sort.grow]; rw [Array.getElem?_append_left hb]⟩
  obtain ⟨R2, E2⟩ := Rel.below R1 hbel
  exact ⟨_, _, _, rfl, hK ns' hperm hsort, rfl, R2, .tuple [] #[] rfl (fun i x hx => by simp at hx), E1.trans (E2 _), by simp⟩
/-- slices.Sort of none. -/
theorem call_sort64_nil {P : Program} (hP : Try.prog = P) : PCalls P 77 [.nils] (· = .tuple []) := by
  subst hP
  refine ⟨⟨_, Try.func77, by kernel_rfl, by kernel_rfl⟩, fun C vs hC RC hv => ?_⟩
  obtain ⟨hvl, hv0⟩ := hv
  have hvs : vs = #[vs.getD 0 undef] := by
    have hn : vs.size = 1 := by simpa using hvl
    obtain ⟨l⟩ := vs
    match l, hn with
    | [x], _ => rfl
  have e0 := (hv0 0 _ rfl).nils'
  rw [hvs, e0]
  refine (AnyM.slices_Sort_int_none Try.sortL64 none 0 C.w).mono ?_
  rintro e w' ⟨rfl, rfl⟩
  exact ⟨_, _, C, rfl, rfl, hC, rfl, RC, .tuple [] #[] rfl (fun i x hx => by simp at hx), .refl _ _⟩
/-- What is left, if each number that is the one ahead of it again is taken away. -/
theorem compact_sorted {ns : List Int} (h : ns.Pairwise (· ≤ ·)) : (compactUpTo ns.toArray ns.length).Pairwise (· < ·) ∧ ∀ x, x ∈ compactUpTo ns.toArray ns.length ↔ x ∈ ns := by
  have key : ∀ m, m ≤ ns.length → (compactUpTo ns.toArray m).Pairwise (· < ·) ∧ (∀ x, x ∈ compactUpTo ns.toArray m ↔ x ∈ ns.take m) := by
    intro m
    induction m with
    | zero => intro _; simp [compactUpTo]
    | succ m ih =>
      intro hm
      obtain ⟨h1, h2⟩ := ih (by omega)
      have hmm : ns.toArray[m]! = ns[m] := by rw [getElem!_pos _ _ (by simp; omega)]; simp
      have ht : ns.take (m + 1) = ns.take m ++ [ns[m]] := by rw [List.take_add_one, List.getElem?_eq_getElem (by omega)]; rfl
      rw [compactUpTo_succ, ht]
      by_cases hk : keeps ns.toArray m = true
      · rw [if_pos hk, hmm]
        refine ⟨List.pairwise_append.2 ⟨h1, List.pairwise_singleton _ _, fun x hx y hy => ?_⟩, fun x => by rw [List.mem_append, List.mem_append, h2]⟩
        simp at hy
        subst hy
        have hx' := (h2 x).1 hx
        obtain ⟨i, hi, rfl⟩ := List.getElem_of_mem hx'
        rw [List.length_take] at hi
        rw [List.getElem_take]
        have hk' : m = 0 ∨ ns[m]! ≠ ns[m - 1]! := by
          unfold keeps at hk
          simpa using hk
        have hm0 : m ≠ 0 := by omega
        rcases hk' with hk' | hk'
        · exact absurd hk' hm0
        · rw [getElem!_pos ns m (by omega), getElem!_pos ns (m - 1) (by omega)] at hk'
          rw [List.pairwise_iff_getElem] at h
          have a1 := h (m - 1) m (by omega) (by omega) (by omega)
          have a2 : ns[i] ≤ ns[m - 1] := by
            by_cases e : i = m - 1
            · subst e; exact Int.le_refl _
            · exact h i (m - 1) (by omega) (by omega) (by omega)
          omega
      · rw [if_neg hk, List.append_nil]
        refine ⟨h1, fun x => ?_⟩
        rw [h2, List.mem_append, List.mem_singleton]
        have hk' : ¬ (m = 0 ∨ ns[m]! ≠ ns[m - 1]!) := by
          unfold keeps at hk
          simpa using hk
        have e : ns[m] = ns[m - 1] := by
          have h3 : ns[m]! = ns[m - 1]! := by
            apply Classical.byContradiction; intro h3; exact hk' (.inr h3)
          rwa [getElem!_pos ns m (by omega), getElem!_pos ns (m - 1) (by omega)] at h3
        constructor
        · exact .inl
        · rintro (h4 | h4)
          · exact h4
          · rw [h4, e]
            have hm0 : m ≠ 0 := fun h5 => hk' (.inl h5)
            exact List.mem_take_iff_getElem.2 ⟨m - 1, by omega, rfl⟩
  have := key ns.length (Nat.le_refl _)
  rwa [List.take_length] at this
theorem compact_len (d : Array Int) (m : Nat) : (compactUpTo d m).length ≤ m := by
  unfold compactUpTo
  rw [List.length_map]
  exact Nat.le_trans (List.length_filter_le _ _) (by simp)
theorem call_compact64 {P : Program} (hP : Try.prog = P) {h : AHeap} {K : AV → AHeap → Prop} {s n : Nat} {es : List (List AV)} {ns : List Int} (hs : h[s]? = some (.live 1 es)) (hes : es = ns.map nxRow) (hn : n = ns.length) (hsz : ns.length ≤ 1000000) (hsort : ns.Pairwise (· ≤ ·))
    (hK : ∀ (os zs : List Int), os.Pairwise (· < ·) → (∀ x, x ∈ os ↔ x ∈ ns) → os.length ≤ ns.length → K (.sl s 1 0 os.length) (h.set s (.live 1 ((os ++ zs).map nxRow)))) :
    ACall P 78 [.sl s 1 0 n] h K := by
  subst hP hes
  refine ⟨⟨_, Try.func78, by kernel_rfl, by kernel_rfl⟩, fun C vs hC RC hv => ?_⟩
  subst hC
  obtain ⟨hvl, hv0⟩ := hv
  have hvs : vs = #[vs.getD 0 undef] := by
    have hn : vs.size = 1 := by simpa using hvl
    obtain ⟨l⟩ := vs
    match l, hn with
    | [x], _ => rfl
  obtain ⟨cap, e0, hus, hnc, hshape⟩ := (hv0 0 _ rfl).sls
  rw [hvs, e0]
  obtain ⟨hBm, hH⟩ := holds_nx RC hs
  have hcall := AnyE.slices_Compact Try.compactL (Value.int .i64) (fun _ => rfl) (EqlAt.intD _ _ .i64) (NeqAt.intD _ _ .i64) 0 Try.zeroValue2 (C.r s) 0 cap ns.toArray C.w hH (by simp; omega) (by simp; omega)
  have hsz' : ns.toArray.size = n := by simp [hn]
  rw [hsz'] at hcall
  refine hcall.mono ?_
  rintro e w' ⟨rfl, m, rfl⟩
  have hcl := compact_len ns.toArray n
  obtain ⟨c1, c2⟩ := compact_sorted hsort
  rw [← hn] at c1 c2
  generalize compactUpTo ns.toArray n = os at hcl c1 c2
  have hlen : (os ++ List.replicate (n - os.length) 0).length = ns.length := by simp; omega
  obtain ⟨R1, E1⟩ := put_nx RC hs hlen m
  exact ⟨_, _, _, rfl, hK os _ c1 c2 (by omega), rfl, R1, E1.vr' (VR.sl s 1 0 os.length cap hus (by omega) hshape), E1, by simp⟩
end Go.Proofs.Ytpiocfmdjgbamaa

/- route.Set.Places, by the engine. Printed by wip/tools/genplaces.py. -/
set_option linter.unusedVariables false
set_option linter.unusedSimpArgs false
namespace Go.Proofs.Ytpiocfmdjgbamaa
open Go Go.RowKit Go.Eng
set_option maxRecDepth 100000
/-- A list that is built, or none yet. -/
def RepL (o : Option (Nat × List (List AV))) (acc : List Int) : Prop := match o with | none => acc = [] | some (k, w) => w = acc.map nxRow ∧ k = w.length ∧ Up0 w
theorem drop_getP {α : Type} {l : List α} {i : Nat} {a : α} (h : l[i]? = some a) : l.drop i = a :: l.drop (i + 1) := by
  obtain ⟨h1, h2⟩ := List.getElem?_eq_some_iff.1 h
  rw [List.drop_eq_getElem_cons h1, h2]
theorem e_compactNil : PCalls Try.prog 78 [.nils] (· = .nils) := by
  (refine PCalls.ofY Try.func78 (by kernel_rfl) (by kernel_rfl) fun w hw R hR => ?_); (subst hw); (conv => arg 2; cbv); (generalize hP : Try.prog = P); cbv
  exact ⟨_, Vw.same rfl, hR _ rfl⟩
set_option maxHeartbeats 8000000 in
theorem e_places (ss : List Sg) (gs : List Gr) (es ds : List (List AV)) (hes : es = ss.map sgRow) (hds : ds = gs.map grRow) (hln : LensOk ss) (from_ : Int) (hf : 0 ≤ from_ ∧ from_ ≤ 1099511627776) (m : List (List Int)) (hw1 : ∀ l, l ∈ m → l.length ≤ 12 ∧ ∀ n, n ∈ l → 0 ≤ n ∧ n.toNat < ss.length) (hm : m.length ≤ 1000) (rs : List (List AV)) (hrs : rs = m.map rtC)
    (g : Int) (hg : 0 ≤ g) (G : Gr) (hG : gs[g.toNat]? = some G) (hoff : 0 ≤ G.off ∧ G.off ≤ 1099511627776) :
    PCalls Try.prog 49 [.agg [.int .i64 from_, .list 13 rs], .agg [.list 3 es, .list 5 ds], .int .i64 g] (· = .list 1 ((plcR ss G.seg G.off from_ m).map nxRow)) := by
  have hu : Up0 es := by rw [hes]; exact up_sg ss
  have hud : Up0 ds := by rw [hds]; exact up_gr gs
  have hur : Up0 rs := by rw [hrs]; exact up_map (f := rtC) (fun d => rfl) m
  have hrl : rs.length = m.length := by rw [hrs]; simp
  have hdl : ds.length = gs.length := by rw [hds]; simp
  have hgl := (List.getElem?_eq_some_iff.1 hG).1
  obtain ⟨gid, gseg, goff, gacc, gsl⟩ := G
  have hG : ds[g.toNat]? = some [.int .i64 gid, .int .i64 gseg, .int .i64 goff, .int .i64 gacc, .int .i64 gsl] := by rw [hds, List.getElem?_map, hG]; rfl
  simp only at hoff
  obtain ⟨v, ev⟩ : ∃ v, v = plcR ss gseg goff from_ m := ⟨_, rfl⟩
  show PCalls Try.prog 49 [.agg [.int .i64 from_, .list 13 rs], .agg [.list 3 es, .list 5 ds], .int .i64 g] (· = .list 1 ((plcR ss gseg goff from_ m).map nxRow))
  rw [← ev]
  have hpl := plcs_len ss gseg goff from_ m fun l hl => (hw1 l hl).1
  (refine PCalls.ofY Try.func49 (by kernel_rfl) (by kernel_rfl) fun w hw R hR => ?_); (obtain ⟨wbin, wcmp, wun, wconv, wnot, wbeq, wmm, wscmp, wsadd, wslen, wsat, weqs, wlen, wnlen, wofNat, wtake, wdrop, wapp, wzero, wnat⟩ := w); (have hbin := Z.w1 hw); (have hcmp := Z.w2 hw); (have hun := Z.w3 hw); (have hconv := Z.w4 hw); (have hnot := Z.w5 hw); (have hbeq := Z.w6 hw); (have hmm := Z.w7 hw); (have hscmp := Z.w8 hw); (have hsadd := Z.w9 hw); (have hslen := Z.w10 hw); (have hsat := Z.w11 hw); (have heqs := Z.w12 hw); (have hlen := Z.w13 hw); (have hnlen := Z.w14 hw); (have hofNat := Z.w15 hw); (have htake := Z.w16 hw); (have hdrop := Z.w17 hw); (have happ := Z.w18 hw); (have hzero := Z.w19 hw); (have hnat := Z.w20 hw); (conv => arg 2; cbv); (generalize hP : Try.prog = P); cbv
  (obtain ⟨J, eJ, J0, Jn⟩ : ∃ L : Int, wlen ds = L ∧ 0 ≤ L ∧ L.toNat = ds.length := ⟨(ds.length : Int), by rw [hlen], Int.natCast_nonneg _, Int.toNat_natCast _⟩)
  (obtain ⟨L, eL, L0, Ln⟩ : ∃ L : Int, wlen rs = L ∧ 0 ≤ L ∧ L.toNat = rs.length := ⟨(rs.length : Int), by rw [hlen], Int.natCast_nonneg _, Int.toNat_natCast _⟩)
  repeat' (first | (exfalso; omega) | (split <;> rename_i h <;> (try (simp only [eJ] at h)) <;> (try (simp only [hbin, hcmp, hun, hconv, hnot, hbeq, hmm, hscmp, hsadd, hslen, hsat, heqs, hofNat, binStd, cmpStd, unStd, scmpStd, maxI, Z.z1, Z.z2, Z.z3, Z.z4, Z.z5, Z.z6, if_true, if_false, Z.z7, beq_iff_eq, bne_iff_ne, ne_eq, Z.z8, Z.z9, Z.y1, beq_eq_false_iff_ne, bne_eq_false_iff_eq, Z.y2, Z.y3, Z.y4, Z.y5, reduceCtorEq] at h)) <;> (try cbv)))
  all_goals first | (exfalso; omega) | skip
  refine Idx.mk _ hg hG ?_
  cbv
  (refine Call.inl hw hP Try.func75 (by kernel_rfl) (by kernel_rfl) ?_); (conv => arg 2; cbv); cbv
  simp only [eL]
  obtain ⟨a0, ea0⟩ : ∃ a0, a0 = -from_ := ⟨_, rfl⟩
  have c0 : wun .neg .i64 from_ = a0 := by rw [hun, ea0]; simp only [unStd]; rw [IntKind.wrap_i64]; omega
  refine Loop.dataN hw (S := Int × Option (Nat × List (List AV))) (fun s => fr 42 [(2, .func (.func 76) [] [.ref 3 5 0 0, .ref 2 1 0 0]), (3, .ref 4 2 0 0), (4, .ref 5 2 0 0), (12, .list 13 rs), (13, .int .i64 L), (14, .int .i64 s.1)])
    (fun s => match s.2 with | none => [.live 2 [[.int .i64 from_, .list 13 rs]], .live 2 [[.list 3 es, .list 5 ds]], .live 1 [[.nils]], .live 5 [[.int .i64 gid, .int .i64 gseg, .int .i64 goff, .int .i64 gacc, .int .i64 gsl]], .live 2 [[.int .i64 from_, .list 13 rs]], .live 2 [[.list 3 es, .list 5 ds]]] | some (k, w) => [.live 2 [[.int .i64 from_, .list 13 rs]], .live 2 [[.list 3 es, .list 5 ds]], .live 1 [[.sl 6 1 0 k]], .live 5 [[.int .i64 gid, .int .i64 gseg, .int .i64 goff, .int .i64 gacc, .int .i64 gsl]], .live 2 [[.int .i64 from_, .list 13 rs]], .live 2 [[.list 3 es, .list 5 ds]], .live 1 w])
    (fun s => 0 ≤ s.1 ∧ s.1 ≤ L ∧ RepL s.2 (plcs ss gseg goff from_ (m.take s.1.toNat))) (fun s => (L - s.1).toNat) (0, none) (by (refine Wk.eqzN (id) (by intro i hi; first | rfl | (have hh : i = 0 ∨ i = 1 ∨ i = 2 ∨ i = 3 := (by omega); rcases hh with hh | hh | hh | hh <;> subst hh <;> rfl)) (Nat.le_of_ble_eq_true rfl) (by first | exact fun i _ j _ e => e | (simp only [List.length_cons, List.length_nil]; decide)) ?_; cbv; (repeat' (first | exact trivial | rfl | assumption | apply And.intro | (simp only [hbin, hcmp, hun, hconv, hnot, hbeq, hmm, hscmp, hsadd, hslen, hsat, heqs, hofNat, binStd, cmpStd, unStd, scmpStd, maxI, Z.z1, Z.z2, Z.z3, Z.z4, Z.z5, Z.z6, if_true, if_false, Z.z7, beq_iff_eq, bne_iff_ne, ne_eq, Z.z8, Z.z9, Z.y1, beq_eq_false_iff_ne, bne_eq_false_iff_eq, Z.y2, Z.y3, Z.y4, Z.y5, reduceCtorEq]; first | done | assumption) | exact RowsZ.same (by assumption) (by first | assumption | rfl) | exact FzL.mk rfl rfl rfl (by assumption) (by first | assumption | rfl) (by decide) | (refine RowsZ.one ?_; cbv))))) ⟨Int.le_refl _, L0, rfl⟩ ?_
  rintro ⟨i, (_ | ⟨k0, w0⟩)⟩ hinv Q' hN hE hR'
  · have hinv : 0 ≤ i ∧ i ≤ L ∧ RepL none (plcs ss gseg goff from_ (m.take i.toNat)) := hinv
    cbv
    obtain ⟨hi0, hi1, hrep⟩ := hinv
    have hlen0 := plcs_len ss gseg goff from_ (m.take i.toNat) fun x hx => (hw1 x (List.mem_of_mem_take hx)).1
    rw [List.length_take, Nat.min_eq_left (by omega)] at hlen0
    (split <;> rename_i hc <;> (try (simp only [hbin, hcmp, hun, hconv, hnot, hbeq, hmm, hscmp, hsadd, hslen, hsat, heqs, hofNat, binStd, cmpStd, unStd, scmpStd, maxI, Z.z1, Z.z2, Z.z3, Z.z4, Z.z5, Z.z6, if_true, if_false, Z.z7, beq_iff_eq, bne_iff_ne, ne_eq, Z.z8, Z.z9, Z.y1, beq_eq_false_iff_ne, bne_eq_false_iff_eq, Z.y2, Z.y3, Z.y4, Z.y5, reduceCtorEq] at hc)) <;> (try cbv))
    rotate_left 1
    · rw [List.take_of_length_le (by omega)] at hrep
      refine hE _ _ _ ?_
      cbv
      have hv0 : v = [] := by rw [ev]; unfold plcR; rw [show plcs ss gseg goff from_ m = [] from hrep]; rfl
      refine Call.stepE (call_sort64_nil hP) rfl ?_
      cbv
      refine Call.stepE (by rw [← hP]; exact e_compactNil) rfl ?_
      cbv
      exact ⟨_, Vw.nil 1, hR _ (by rw [hv0]; rfl)⟩
    obtain ⟨l, hl⟩ : ∃ l, m[i.toNat]? = some l := ⟨_, List.getElem?_eq_getElem (show i.toNat < m.length by omega)⟩
    obtain ⟨hl12, hlseg⟩ := hw1 l (List.mem_of_getElem? hl)
    have hri : rs[i.toNat]? = some (toR l).row := by rw [hrs, List.getElem?_map, hl]; rfl
    obtain ⟨xs, exs⟩ : ∃ x, x = l.map nxRow := ⟨_, rfl⟩
    have huxs : Up0 xs := by rw [exs]; exact up_nx l
    have hxl : xs.length = l.length := by rw [exs]; simp
    have hpa := e_pathL l hl12
    have hpa : PCalls Try.prog 54 [.agg (toR l).row] (· = .list 1 xs) := by rw [exs]; exact hpa
    obtain ⟨i2, ei2⟩ : ∃ z, z = i + 1 := ⟨_, rfl⟩
    have a4 : wbin .add .i64 i 1 = i2 := by rw [hbin, ei2]; show IntKind.i64.wrap (i + 1) = i + 1; rw [IntKind.wrap_i64]; omega
    have hT2 : (L - i2).toNat < (L - i).toNat := by omega
    have htk : m.take i2.toNat = m.take i.toNat ++ [l] := by rw [ei2]; exact take_next hi0 hl
    have hacc2 : plcs ss gseg goff from_ (m.take i2.toNat) = plcs ss gseg goff from_ (m.take i.toNat) ++ plc ss gseg goff (-from_) l := by rw [htk, plcs_snoc]
    obtain ⟨row, erow⟩ : ∃ row, row = toR l := ⟨_, rfl⟩
    rw [← erow] at hri hpa
    obtain ⟨n, s0, s1, s2, s3, s4, s5, s6, s7, s8, s9, s10, s11⟩ := row
    (obtain ⟨K, eK, K0, Kn⟩ : ∃ L : Int, wlen xs = L ∧ 0 ≤ L ∧ L.toNat = xs.length := ⟨(xs.length : Int), by rw [hlen], Int.natCast_nonneg _, Int.toNat_natCast _⟩)
    refine Idx.mk _ hi0 hri ?_
    cbv
    simp only [c0]
    refine Call.stepE (by rw [← hP]; exact hpa) rfl ?_
    cbv
    simp only [eK]
    refine Loop.dataN hw (S := Int × Int × Option (Nat × List (List AV))) (fun s => fr 42 [(2, .func (.func 76) [] [.ref 3 5 0 0, .ref 2 1 0 0]), (3, .ref 4 2 0 0), (4, .ref 5 2 0 0), (8, .int .i64 s.2.1), (12, .list 13 rs), (13, .int .i64 L), (14, .int .i64 i), (22, .list 1 xs), (23, .int .i64 K), (24, .int .i64 s.1)])
      (fun s => match s.2.2 with | none => [.live 2 [[.int .i64 from_, .list 13 rs]], .live 2 [[.list 3 es, .list 5 ds]], .live 1 [[.nils]], .live 5 [[.int .i64 gid, .int .i64 gseg, .int .i64 goff, .int .i64 gacc, .int .i64 gsl]], .live 2 [[.int .i64 from_, .list 13 rs]], .live 2 [[.list 3 es, .list 5 ds]]] | some (k, w) => [.live 2 [[.int .i64 from_, .list 13 rs]], .live 2 [[.list 3 es, .list 5 ds]], .live 1 [[.sl 6 1 0 k]], .live 5 [[.int .i64 gid, .int .i64 gseg, .int .i64 goff, .int .i64 gacc, .int .i64 gsl]], .live 2 [[.int .i64 from_, .list 13 rs]], .live 2 [[.list 3 es, .list 5 ds]], .live 1 w])
      (fun s => 0 ≤ s.1 ∧ s.1 ≤ K ∧ -1099511627776 ≤ s.2.1 ∧ s.2.1 ≤ s.1 * 1099511627776 ∧ ∃ acc, RepL s.2.2 acc ∧ acc.length ≤ 12 * i.toNat + s.1.toNat ∧ acc ++ plc ss gseg goff s.2.1 (l.drop s.1.toNat) = plcs ss gseg goff from_ (m.take i2.toNat)) (fun s => (K - s.1).toNat) (0, a0, none) (by (refine Wk.eqzN (id) (by intro i hi; first | rfl | (have hh : i = 0 ∨ i = 1 ∨ i = 2 ∨ i = 3 := (by omega); rcases hh with hh | hh | hh | hh <;> subst hh <;> rfl)) (Nat.le_of_ble_eq_true rfl) (by first | exact fun i _ j _ e => e | (simp only [List.length_cons, List.length_nil]; decide)) ?_; cbv; (repeat' (first | exact trivial | rfl | assumption | apply And.intro | (simp only [hbin, hcmp, hun, hconv, hnot, hbeq, hmm, hscmp, hsadd, hslen, hsat, heqs, hofNat, binStd, cmpStd, unStd, scmpStd, maxI, Z.z1, Z.z2, Z.z3, Z.z4, Z.z5, Z.z6, if_true, if_false, Z.z7, beq_iff_eq, bne_iff_ne, ne_eq, Z.z8, Z.z9, Z.y1, beq_eq_false_iff_ne, bne_eq_false_iff_eq, Z.y2, Z.y3, Z.y4, Z.y5, reduceCtorEq]; first | done | assumption) | exact RowsZ.same (by assumption) (by first | assumption | rfl) | exact FzL.mk rfl rfl rfl (by assumption) (by first | assumption | rfl) (by decide) | (refine RowsZ.one ?_; cbv))))) ⟨Int.le_refl _, K0, by simp only; omega, by simp only; omega, _, hrep, by simp only; omega, by simp only; rw [hacc2, ea0]; rfl⟩ ?_
    rintro ⟨j, a, (_ | ⟨k1, w1⟩)⟩ hinv2 Q2 hN2 hE2 hR2
    · have hinv2 : 0 ≤ j ∧ j ≤ K ∧ -1099511627776 ≤ a ∧ a ≤ j * 1099511627776 ∧ ∃ acc, RepL (none) acc ∧ acc.length ≤ 12 * i.toNat + j.toNat ∧ acc ++ plc ss gseg goff a (l.drop j.toNat) = plcs ss gseg goff from_ (m.take i2.toNat) := hinv2
      cbv
      obtain ⟨hj0, hj1, hq0, hq1, acc, hrp, hal, hacc⟩ := hinv2
      (split <;> rename_i hd <;> (try (simp only [hbin, hcmp, hun, hconv, hnot, hbeq, hmm, hscmp, hsadd, hslen, hsat, heqs, hofNat, binStd, cmpStd, unStd, scmpStd, maxI, Z.z1, Z.z2, Z.z3, Z.z4, Z.z5, Z.z6, if_true, if_false, Z.z7, beq_iff_eq, bne_iff_ne, ne_eq, Z.z8, Z.z9, Z.y1, beq_eq_false_iff_ne, bne_eq_false_iff_eq, Z.y2, Z.y3, Z.y4, Z.y5, reduceCtorEq] at hd)) <;> (try cbv))
      rotate_left 1
      · refine hE2 _ _ _ ?_
        cbv
        simp only [a4]
        have e : plcs ss gseg goff from_ (m.take i2.toNat) = acc := by rw [← hacc, List.drop_of_length_le (by omega)]; simp [plc]
        refine hN (i2, none) _ _ ?hx ?hI hT2
        case hx => (refine Wk.eqzN (id) (by intro i hi; first | rfl | (have hh : i = 0 ∨ i = 1 ∨ i = 2 ∨ i = 3 := (by omega); rcases hh with hh | hh | hh | hh <;> subst hh <;> rfl)) (Nat.le_of_ble_eq_true rfl) (by first | exact fun i _ j _ e => e | (simp only [List.length_cons, List.length_nil]; decide)) ?_; cbv; (repeat' (first | exact trivial | rfl | assumption | apply And.intro | (simp only [hbin, hcmp, hun, hconv, hnot, hbeq, hmm, hscmp, hsadd, hslen, hsat, heqs, hofNat, binStd, cmpStd, unStd, scmpStd, maxI, Z.z1, Z.z2, Z.z3, Z.z4, Z.z5, Z.z6, if_true, if_false, Z.z7, beq_iff_eq, bne_iff_ne, ne_eq, Z.z8, Z.z9, Z.y1, beq_eq_false_iff_ne, bne_eq_false_iff_eq, Z.y2, Z.y3, Z.y4, Z.y5, reduceCtorEq]; first | done | assumption) | exact RowsZ.same (by assumption) (by first | assumption | rfl) | exact FzL.mk rfl rfl rfl (by assumption) (by first | assumption | rfl) (by decide) | (refine RowsZ.one ?_; cbv))))
        case hI => exact ⟨by simp only; omega, by simp only; omega, by rw [e]; exact hrp⟩
      obtain ⟨c, hcj⟩ : ∃ c, l[j.toNat]? = some c := ⟨_, List.getElem?_eq_getElem (show j.toNat < l.length by omega)⟩
      have hxj : xs[j.toNat]? = some [.int .i64 c] := by rw [exs, List.getElem?_map, hcj]; rfl
      obtain ⟨hcs0, hcs1⟩ := hlseg c (List.mem_of_getElem? hcj)
      obtain ⟨⟨len, pps, nx⟩, hdc, hrow⟩ := get_map (f := sgRow) (ds := ss) (i := c) hcs0 hcs1
      obtain ⟨pq, epq⟩ : ∃ x, pps.map pcRow = x := ⟨_, rfl⟩
      obtain ⟨n1, en1⟩ : ∃ x, nx.map nxRow = x := ⟨_, rfl⟩
      have hrow : es[c.toNat]? = some [.int .i64 len, .list 2 pq, .list 1 n1] := by rw [hes, ← epq, ← en1]; exact hrow
      have hlen : lenAt ss c = len := by unfold lenAt; rw [hdc]
      have hlb := lenAt_le hln c
      rw [hlen] at hlb
      obtain ⟨j2, ej2⟩ : ∃ z, z = j + 1 := ⟨_, rfl⟩
      have a5 : wbin .add .i64 j 1 = j2 := by rw [hbin, ej2]; show IntKind.i64.wrap (j + 1) = j + 1; rw [IntKind.wrap_i64]; omega
      obtain ⟨a2, ea2⟩ : ∃ z, z = a + len := ⟨_, rfl⟩
      have a6 : wbin .add .i64 a len = a2 := by rw [hbin, ea2]; show IntKind.i64.wrap (a + len) = a + len; rw [IntKind.wrap_i64]; omega
      obtain ⟨p2, ep2⟩ : ∃ z, z = a + goff := ⟨_, rfl⟩
      have a7 : wbin .add .i64 a goff = p2 := by rw [hbin, ep2]; show IntKind.i64.wrap (a + goff) = a + goff; rw [IntKind.wrap_i64]; omega
      have hT3 : (K - j2).toNat < (K - j).toNat := by omega
      have hdr : plc ss gseg goff a (l.drop j.toNat) = (if c = gseg then [p2] else []) ++ plc ss gseg goff a2 (l.drop j2.toNat) := by
        rw [drop_getP hcj, show j2.toNat = j.toNat + 1 by omega, ep2, ea2, ← hlen]; rfl
      rw [hdr] at hacc
      clear hdr
      refine Idx.mk _ hj0 hxj ?_
      cbv
      (refine Call.inl hw hP Try.func76 (by kernel_rfl) (by kernel_rfl) ?_); (conv => arg 2; cbv); cbv
      (split <;> rename_i he <;> (try (simp only [hbin, hcmp, hun, hconv, hnot, hbeq, hmm, hscmp, hsadd, hslen, hsat, heqs, hofNat, binStd, cmpStd, unStd, scmpStd, maxI, Z.z1, Z.z2, Z.z3, Z.z4, Z.z5, Z.z6, if_true, if_false, Z.z7, beq_iff_eq, bne_iff_ne, ne_eq, Z.z8, Z.z9, Z.y1, beq_eq_false_iff_ne, bne_eq_false_iff_eq, Z.y2, Z.y3, Z.y4, Z.y5, reduceCtorEq] at he)) <;> (try cbv))
      · simp only [a7]
        have hacc0 : acc = [] := hrp
        refine Ob.mk (by decide) ?_
        cbv
        refine Idx.mk _ hcs0 hrow ?_
        cbv
        simp only [a5, a6]
        refine hN2 (j2, a2, some (1, [[.int .i64 p2]])) _ _ ?hx ?hI hT3
        case hx => (refine Wk.eqzN (fun j => [0, 1, 2, 3, 4, 5, 6].getD j 0) (by intro i hi; first | rfl | (have hh : i = 0 ∨ i = 1 ∨ i = 2 ∨ i = 3 := (by omega); rcases hh with hh | hh | hh | hh <;> subst hh <;> rfl)) (Nat.le_of_ble_eq_true rfl) (by first | exact fun i _ j _ e => e | (simp only [List.length_cons, List.length_nil]; decide)) ?_; cbv; (repeat' (first | exact trivial | rfl | assumption | apply And.intro | (simp only [hbin, hcmp, hun, hconv, hnot, hbeq, hmm, hscmp, hsadd, hslen, hsat, heqs, hofNat, binStd, cmpStd, unStd, scmpStd, maxI, Z.z1, Z.z2, Z.z3, Z.z4, Z.z5, Z.z6, if_true, if_false, Z.z7, beq_iff_eq, bne_iff_ne, ne_eq, Z.z8, Z.z9, Z.y1, beq_eq_false_iff_ne, bne_eq_false_iff_eq, Z.y2, Z.y3, Z.y4, Z.y5, reduceCtorEq]; first | done | assumption) | exact RowsZ.same (by assumption) (by first | assumption | rfl) | exact FzL.mk rfl rfl rfl (by assumption) (by first | assumption | rfl) (by decide) | (refine RowsZ.one ?_; cbv))))
        case hI => exact ⟨by simp only; omega, by simp only; omega, by simp only; omega, by simp only; omega, [p2], ⟨rfl, rfl, ⟨rfl⟩⟩, by simp only [List.length_cons, List.length_nil]; omega, by rw [← hacc, hacc0, if_pos he]; simp⟩
      · refine Idx.mk _ hcs0 hrow ?_
        cbv
        simp only [a5, a6]
        refine hN2 (j2, a2, none) _ _ ?hx ?hI hT3
        case hx => (refine Wk.eqzN (id) (by intro i hi; first | rfl | (have hh : i = 0 ∨ i = 1 ∨ i = 2 ∨ i = 3 := (by omega); rcases hh with hh | hh | hh | hh <;> subst hh <;> rfl)) (Nat.le_of_ble_eq_true rfl) (by first | exact fun i _ j _ e => e | (simp only [List.length_cons, List.length_nil]; decide)) ?_; cbv; (repeat' (first | exact trivial | rfl | assumption | apply And.intro | (simp only [hbin, hcmp, hun, hconv, hnot, hbeq, hmm, hscmp, hsadd, hslen, hsat, heqs, hofNat, binStd, cmpStd, unStd, scmpStd, maxI, Z.z1, Z.z2, Z.z3, Z.z4, Z.z5, Z.z6, if_true, if_false, Z.z7, beq_iff_eq, bne_iff_ne, ne_eq, Z.z8, Z.z9, Z.y1, beq_eq_false_iff_ne, bne_eq_false_iff_eq, Z.y2, Z.y3, Z.y4, Z.y5, reduceCtorEq]; first | done | assumption) | exact RowsZ.same (by assumption) (by first | assumption | rfl) | exact FzL.mk rfl rfl rfl (by assumption) (by first | assumption | rfl) (by decide) | (refine RowsZ.one ?_; cbv))))
        case hI => exact ⟨by simp only; omega, by simp only; omega, by simp only; omega, by simp only; omega, acc, hrp, by simp only; omega, by rw [← hacc, if_neg he]; simp⟩
    · have hinv2 : 0 ≤ j ∧ j ≤ K ∧ -1099511627776 ≤ a ∧ a ≤ j * 1099511627776 ∧ ∃ acc, RepL (some (k1, w1)) acc ∧ acc.length ≤ 12 * i.toNat + j.toNat ∧ acc ++ plc ss gseg goff a (l.drop j.toNat) = plcs ss gseg goff from_ (m.take i2.toNat) := hinv2
      cbv
      obtain ⟨hj0, hj1, hq0, hq1, acc, hrp, hal, hacc⟩ := hinv2
      have huw1 : Up0 w1 := hrp.2.2
      have hk1 : k1 = w1.length := hrp.2.1
      have hwl1 : w1.length = acc.length := by rw [hrp.1]; simp
      (split <;> rename_i hd <;> (try (simp only [hbin, hcmp, hun, hconv, hnot, hbeq, hmm, hscmp, hsadd, hslen, hsat, heqs, hofNat, binStd, cmpStd, unStd, scmpStd, maxI, Z.z1, Z.z2, Z.z3, Z.z4, Z.z5, Z.z6, if_true, if_false, Z.z7, beq_iff_eq, bne_iff_ne, ne_eq, Z.z8, Z.z9, Z.y1, beq_eq_false_iff_ne, bne_eq_false_iff_eq, Z.y2, Z.y3, Z.y4, Z.y5, reduceCtorEq] at hd)) <;> (try cbv))
      rotate_left 1
      · refine hE2 _ _ _ ?_
        cbv
        simp only [a4]
        have e : plcs ss gseg goff from_ (m.take i2.toNat) = acc := by rw [← hacc, List.drop_of_length_le (by omega)]; simp [plc]
        refine hN (i2, some (k1, w1)) _ _ ?hx ?hI hT2
        case hx => (refine Wk.eqzN (id) (by intro i hi; first | rfl | (have hh : i = 0 ∨ i = 1 ∨ i = 2 ∨ i = 3 := (by omega); rcases hh with hh | hh | hh | hh <;> subst hh <;> rfl)) (Nat.le_of_ble_eq_true rfl) (by first | exact fun i _ j _ e => e | (simp only [List.length_cons, List.length_nil]; decide)) ?_; cbv; (repeat' (first | exact trivial | rfl | assumption | apply And.intro | (simp only [hbin, hcmp, hun, hconv, hnot, hbeq, hmm, hscmp, hsadd, hslen, hsat, heqs, hofNat, binStd, cmpStd, unStd, scmpStd, maxI, Z.z1, Z.z2, Z.z3, Z.z4, Z.z5, Z.z6, if_true, if_false, Z.z7, beq_iff_eq, bne_iff_ne, ne_eq, Z.z8, Z.z9, Z.y1, beq_eq_false_iff_ne, bne_eq_false_iff_eq, Z.y2, Z.y3, Z.y4, Z.y5, reduceCtorEq]; first | done | assumption) | exact RowsZ.same (by assumption) (by first | assumption | rfl) | exact FzL.mk rfl rfl rfl (by assumption) (by first | assumption | rfl) (by decide) | (refine RowsZ.one ?_; cbv))))
        case hI => exact ⟨by simp only; omega, by simp only; omega, by rw [e]; exact hrp⟩
      obtain ⟨c, hcj⟩ : ∃ c, l[j.toNat]? = some c := ⟨_, List.getElem?_eq_getElem (show j.toNat < l.length by omega)⟩
      have hxj : xs[j.toNat]? = some [.int .i64 c] := by rw [exs, List.getElem?_map, hcj]; rfl
      obtain ⟨hcs0, hcs1⟩ := hlseg c (List.mem_of_getElem? hcj)
      obtain ⟨⟨len, pps, nx⟩, hdc, hrow⟩ := get_map (f := sgRow) (ds := ss) (i := c) hcs0 hcs1
      obtain ⟨pq, epq⟩ : ∃ x, pps.map pcRow = x := ⟨_, rfl⟩
      obtain ⟨n1, en1⟩ : ∃ x, nx.map nxRow = x := ⟨_, rfl⟩
      have hrow : es[c.toNat]? = some [.int .i64 len, .list 2 pq, .list 1 n1] := by rw [hes, ← epq, ← en1]; exact hrow
      have hlen : lenAt ss c = len := by unfold lenAt; rw [hdc]
      have hlb := lenAt_le hln c
      rw [hlen] at hlb
      obtain ⟨j2, ej2⟩ : ∃ z, z = j + 1 := ⟨_, rfl⟩
      have a5 : wbin .add .i64 j 1 = j2 := by rw [hbin, ej2]; show IntKind.i64.wrap (j + 1) = j + 1; rw [IntKind.wrap_i64]; omega
      obtain ⟨a2, ea2⟩ : ∃ z, z = a + len := ⟨_, rfl⟩
      have a6 : wbin .add .i64 a len = a2 := by rw [hbin, ea2]; show IntKind.i64.wrap (a + len) = a + len; rw [IntKind.wrap_i64]; omega
      obtain ⟨p2, ep2⟩ : ∃ z, z = a + goff := ⟨_, rfl⟩
      have a7 : wbin .add .i64 a goff = p2 := by rw [hbin, ep2]; show IntKind.i64.wrap (a + goff) = a + goff; rw [IntKind.wrap_i64]; omega
      have hT3 : (K - j2).toNat < (K - j).toNat := by omega
      have hdr : plc ss gseg goff a (l.drop j.toNat) = (if c = gseg then [p2] else []) ++ plc ss gseg goff a2 (l.drop j2.toNat) := by
        rw [drop_getP hcj, show j2.toNat = j.toNat + 1 by omega, ep2, ea2, ← hlen]; rfl
      rw [hdr] at hacc
      clear hdr
      refine Idx.mk _ hj0 hxj ?_
      cbv
      (refine Call.inl hw hP Try.func76 (by kernel_rfl) (by kernel_rfl) ?_); (conv => arg 2; cbv); cbv
      (split <;> rename_i he <;> (try (simp only [hbin, hcmp, hun, hconv, hnot, hbeq, hmm, hscmp, hsadd, hslen, hsat, heqs, hofNat, binStd, cmpStd, unStd, scmpStd, maxI, Z.z1, Z.z2, Z.z3, Z.z4, Z.z5, Z.z6, if_true, if_false, Z.z7, beq_iff_eq, bne_iff_ne, ne_eq, Z.z8, Z.z9, Z.y1, beq_eq_false_iff_ne, bne_eq_false_iff_eq, Z.y2, Z.y3, Z.y4, Z.y5, reduceCtorEq] at he)) <;> (try cbv))
      · simp only [a7]
        obtain ⟨w2, ew2⟩ : ∃ x : List (List AV), x = w1 ++ [[.int .i64 p2]] := ⟨_, rfl⟩
        obtain ⟨k2, ek2⟩ : ∃ x, x = k1 + 1 := ⟨_, rfl⟩
        have hwl2 : w2.length = w1.length + 1 := by rw [ew2]; simp
        have hw2 : w2 = (acc ++ [p2]).map nxRow := by rw [ew2, hrp.1]; simp [nxRow]
        have huw2 : Up0 w2 := by rw [hw2]; exact up_nx _
        refine App.mk w2 k2 ew2 hk1 ek2 (by omega) (by omega) ?_
        cbv
        refine Idx.mk _ hcs0 hrow ?_
        cbv
        simp only [a5, a6]
        refine hN2 (j2, a2, some (k2, w2)) _ _ ?hx ?hI hT3
        case hx => (refine Wk.eqzN (fun j => [0, 1, 2, 3, 4, 5, 7].getD j 0) (by intro i hi; first | rfl | (have hh : i = 0 ∨ i = 1 ∨ i = 2 ∨ i = 3 := (by omega); rcases hh with hh | hh | hh | hh <;> subst hh <;> rfl)) (Nat.le_of_ble_eq_true rfl) (by first | exact fun i _ j _ e => e | (simp only [List.length_cons, List.length_nil]; decide)) ?_; cbv; (repeat' (first | exact trivial | rfl | assumption | apply And.intro | (simp only [hbin, hcmp, hun, hconv, hnot, hbeq, hmm, hscmp, hsadd, hslen, hsat, heqs, hofNat, binStd, cmpStd, unStd, scmpStd, maxI, Z.z1, Z.z2, Z.z3, Z.z4, Z.z5, Z.z6, if_true, if_false, Z.z7, beq_iff_eq, bne_iff_ne, ne_eq, Z.z8, Z.z9, Z.y1, beq_eq_false_iff_ne, bne_eq_false_iff_eq, Z.y2, Z.y3, Z.y4, Z.y5, reduceCtorEq]; first | done | assumption) | exact RowsZ.same (by assumption) (by first | assumption | rfl) | exact FzL.mk rfl rfl rfl (by assumption) (by first | assumption | rfl) (by decide) | (refine RowsZ.one ?_; cbv))))
        case hI => exact ⟨by simp only; omega, by simp only; omega, by simp only; omega, by simp only; omega, acc ++ [p2], ⟨hw2, by omega, huw2⟩, by simp only [List.length_append, List.length_cons, List.length_nil]; omega, by rw [← hacc, if_pos he]; simp⟩
      · refine Idx.mk _ hcs0 hrow ?_
        cbv
        simp only [a5, a6]
        refine hN2 (j2, a2, some (k1, w1)) _ _ ?hx ?hI hT3
        case hx => (refine Wk.eqzN (id) (by intro i hi; first | rfl | (have hh : i = 0 ∨ i = 1 ∨ i = 2 ∨ i = 3 := (by omega); rcases hh with hh | hh | hh | hh <;> subst hh <;> rfl)) (Nat.le_of_ble_eq_true rfl) (by first | exact fun i _ j _ e => e | (simp only [List.length_cons, List.length_nil]; decide)) ?_; cbv; (repeat' (first | exact trivial | rfl | assumption | apply And.intro | (simp only [hbin, hcmp, hun, hconv, hnot, hbeq, hmm, hscmp, hsadd, hslen, hsat, heqs, hofNat, binStd, cmpStd, unStd, scmpStd, maxI, Z.z1, Z.z2, Z.z3, Z.z4, Z.z5, Z.z6, if_true, if_false, Z.z7, beq_iff_eq, bne_iff_ne, ne_eq, Z.z8, Z.z9, Z.y1, beq_eq_false_iff_ne, bne_eq_false_iff_eq, Z.y2, Z.y3, Z.y4, Z.y5, reduceCtorEq]; first | done | assumption) | exact RowsZ.same (by assumption) (by first | assumption | rfl) | exact FzL.mk rfl rfl rfl (by assumption) (by first | assumption | rfl) (by decide) | (refine RowsZ.one ?_; cbv))))
        case hI => exact ⟨by simp only; omega, by simp only; omega, by simp only; omega, by simp only; omega, acc, hrp, by simp only; omega, by rw [← hacc, if_neg he]; simp⟩
  · have hinv : 0 ≤ i ∧ i ≤ L ∧ RepL (some (k0, w0)) (plcs ss gseg goff from_ (m.take i.toNat)) := hinv
    cbv
    obtain ⟨hi0, hi1, hrep⟩ := hinv
    have huw : Up0 w0 := hrep.2.2
    have hlen0 := plcs_len ss gseg goff from_ (m.take i.toNat) fun x hx => (hw1 x (List.mem_of_mem_take hx)).1
    rw [List.length_take, Nat.min_eq_left (by omega)] at hlen0
    (split <;> rename_i hc <;> (try (simp only [hbin, hcmp, hun, hconv, hnot, hbeq, hmm, hscmp, hsadd, hslen, hsat, heqs, hofNat, binStd, cmpStd, unStd, scmpStd, maxI, Z.z1, Z.z2, Z.z3, Z.z4, Z.z5, Z.z6, if_true, if_false, Z.z7, beq_iff_eq, bne_iff_ne, ne_eq, Z.z8, Z.z9, Z.y1, beq_eq_false_iff_ne, bne_eq_false_iff_eq, Z.y2, Z.y3, Z.y4, Z.y5, reduceCtorEq] at hc)) <;> (try cbv))
    rotate_left 1
    · rw [List.take_of_length_le (by omega)] at hrep
      refine hE _ _ _ ?_
      cbv
      have hwl : w0.length = (plcs ss gseg goff from_ m).length := by rw [hrep.1]; simp
      refine Call.of (call_sort64 hP (s := 6) (n := k0) (ns := plcs ss gseg goff from_ m) rfl hrep.1 (by rw [hrep.2.1, hwl]) (by omega) ?_)
      rintro ns' hp1 hp2
      obtain ⟨w2, ew2⟩ : ∃ x, x = ns'.map nxRow := ⟨_, rfl⟩
      rw [← ew2]
      cbv
      have hpl2 := hp1.length_eq
      refine Call.of (call_compact64 hP (s := 6) (n := k0) (ns := ns') rfl ew2 (by rw [hrep.2.1, hwl, hpl2]) (by omega) hp2 ?_)
      rintro os zs h1 h2 h3
      obtain ⟨w3, ew3⟩ : ∃ x, x = (os ++ zs).map nxRow := ⟨_, rfl⟩
      obtain ⟨k3, ek3⟩ : ∃ x, x = os.length := ⟨_, rfl⟩
      rw [← ew3, ← ek3]
      cbv
      have huw3 : Up0 w3 := by rw [ew3]; exact up_nx _
      have hos : os = v := by rw [ev]; exact plcR_unique h1 fun x => by rw [h2, hp1.mem_iff]
      have e1 : (w3.drop 0).take k3 = v.map nxRow := by rw [ew3, ek3, List.drop_zero, ← List.map_take, List.take_left, hos]
      have hw3l : k3 ≤ w3.length := by rw [ew3, ek3]; simp
      refine ⟨_, Vw.sl (s := 6) (z := 1) (n := k3) (i := 0) rfl huw3.get (by omega), hR _ ?_⟩
      rw [e1]
    obtain ⟨l, hl⟩ : ∃ l, m[i.toNat]? = some l := ⟨_, List.getElem?_eq_getElem (show i.toNat < m.length by omega)⟩
    obtain ⟨hl12, hlseg⟩ := hw1 l (List.mem_of_getElem? hl)
    have hri : rs[i.toNat]? = some (toR l).row := by rw [hrs, List.getElem?_map, hl]; rfl
    obtain ⟨xs, exs⟩ : ∃ x, x = l.map nxRow := ⟨_, rfl⟩
    have huxs : Up0 xs := by rw [exs]; exact up_nx l
    have hxl : xs.length = l.length := by rw [exs]; simp
    have hpa := e_pathL l hl12
    have hpa : PCalls Try.prog 54 [.agg (toR l).row] (· = .list 1 xs) := by rw [exs]; exact hpa
    obtain ⟨i2, ei2⟩ : ∃ z, z = i + 1 := ⟨_, rfl⟩
    have a4 : wbin .add .i64 i 1 = i2 := by rw [hbin, ei2]; show IntKind.i64.wrap (i + 1) = i + 1; rw [IntKind.wrap_i64]; omega
    have hT2 : (L - i2).toNat < (L - i).toNat := by omega
    have htk : m.take i2.toNat = m.take i.toNat ++ [l] := by rw [ei2]; exact take_next hi0 hl
    have hacc2 : plcs ss gseg goff from_ (m.take i2.toNat) = plcs ss gseg goff from_ (m.take i.toNat) ++ plc ss gseg goff (-from_) l := by rw [htk, plcs_snoc]
    obtain ⟨row, erow⟩ : ∃ row, row = toR l := ⟨_, rfl⟩
    rw [← erow] at hri hpa
    obtain ⟨n, s0, s1, s2, s3, s4, s5, s6, s7, s8, s9, s10, s11⟩ := row
    (obtain ⟨K, eK, K0, Kn⟩ : ∃ L : Int, wlen xs = L ∧ 0 ≤ L ∧ L.toNat = xs.length := ⟨(xs.length : Int), by rw [hlen], Int.natCast_nonneg _, Int.toNat_natCast _⟩)
    refine Idx.mk _ hi0 hri ?_
    cbv
    simp only [c0]
    refine Call.stepE (by rw [← hP]; exact hpa) rfl ?_
    cbv
    simp only [eK]
    refine Loop.dataN hw (S := Int × Int × Option (Nat × List (List AV))) (fun s => fr 42 [(2, .func (.func 76) [] [.ref 3 5 0 0, .ref 2 1 0 0]), (3, .ref 4 2 0 0), (4, .ref 5 2 0 0), (8, .int .i64 s.2.1), (12, .list 13 rs), (13, .int .i64 L), (14, .int .i64 i), (22, .list 1 xs), (23, .int .i64 K), (24, .int .i64 s.1)])
      (fun s => match s.2.2 with | none => [.live 2 [[.int .i64 from_, .list 13 rs]], .live 2 [[.list 3 es, .list 5 ds]], .live 1 [[.nils]], .live 5 [[.int .i64 gid, .int .i64 gseg, .int .i64 goff, .int .i64 gacc, .int .i64 gsl]], .live 2 [[.int .i64 from_, .list 13 rs]], .live 2 [[.list 3 es, .list 5 ds]]] | some (k, w) => [.live 2 [[.int .i64 from_, .list 13 rs]], .live 2 [[.list 3 es, .list 5 ds]], .live 1 [[.sl 6 1 0 k]], .live 5 [[.int .i64 gid, .int .i64 gseg, .int .i64 goff, .int .i64 gacc, .int .i64 gsl]], .live 2 [[.int .i64 from_, .list 13 rs]], .live 2 [[.list 3 es, .list 5 ds]], .live 1 w])
      (fun s => 0 ≤ s.1 ∧ s.1 ≤ K ∧ -1099511627776 ≤ s.2.1 ∧ s.2.1 ≤ s.1 * 1099511627776 ∧ ∃ acc, RepL s.2.2 acc ∧ acc.length ≤ 12 * i.toNat + s.1.toNat ∧ acc ++ plc ss gseg goff s.2.1 (l.drop s.1.toNat) = plcs ss gseg goff from_ (m.take i2.toNat)) (fun s => (K - s.1).toNat) (0, a0, some (k0, w0)) (by (refine Wk.eqzN (id) (by intro i hi; first | rfl | (have hh : i = 0 ∨ i = 1 ∨ i = 2 ∨ i = 3 := (by omega); rcases hh with hh | hh | hh | hh <;> subst hh <;> rfl)) (Nat.le_of_ble_eq_true rfl) (by first | exact fun i _ j _ e => e | (simp only [List.length_cons, List.length_nil]; decide)) ?_; cbv; (repeat' (first | exact trivial | rfl | assumption | apply And.intro | (simp only [hbin, hcmp, hun, hconv, hnot, hbeq, hmm, hscmp, hsadd, hslen, hsat, heqs, hofNat, binStd, cmpStd, unStd, scmpStd, maxI, Z.z1, Z.z2, Z.z3, Z.z4, Z.z5, Z.z6, if_true, if_false, Z.z7, beq_iff_eq, bne_iff_ne, ne_eq, Z.z8, Z.z9, Z.y1, beq_eq_false_iff_ne, bne_eq_false_iff_eq, Z.y2, Z.y3, Z.y4, Z.y5, reduceCtorEq]; first | done | assumption) | exact RowsZ.same (by assumption) (by first | assumption | rfl) | exact FzL.mk rfl rfl rfl (by assumption) (by first | assumption | rfl) (by decide) | (refine RowsZ.one ?_; cbv))))) ⟨Int.le_refl _, K0, by simp only; omega, by simp only; omega, _, hrep, by simp only; omega, by simp only; rw [hacc2, ea0]; rfl⟩ ?_
    rintro ⟨j, a, (_ | ⟨k1, w1⟩)⟩ hinv2 Q2 hN2 hE2 hR2
    · have hinv2 : 0 ≤ j ∧ j ≤ K ∧ -1099511627776 ≤ a ∧ a ≤ j * 1099511627776 ∧ ∃ acc, RepL (none) acc ∧ acc.length ≤ 12 * i.toNat + j.toNat ∧ acc ++ plc ss gseg goff a (l.drop j.toNat) = plcs ss gseg goff from_ (m.take i2.toNat) := hinv2
      cbv
      obtain ⟨hj0, hj1, hq0, hq1, acc, hrp, hal, hacc⟩ := hinv2
      (split <;> rename_i hd <;> (try (simp only [hbin, hcmp, hun, hconv, hnot, hbeq, hmm, hscmp, hsadd, hslen, hsat, heqs, hofNat, binStd, cmpStd, unStd, scmpStd, maxI, Z.z1, Z.z2, Z.z3, Z.z4, Z.z5, Z.z6, if_true, if_false, Z.z7, beq_iff_eq, bne_iff_ne, ne_eq, Z.z8, Z.z9, Z.y1, beq_eq_false_iff_ne, bne_eq_false_iff_eq, Z.y2, Z.y3, Z.y4, Z.y5, reduceCtorEq] at hd)) <;> (try cbv))
      rotate_left 1
      · refine hE2 _ _ _ ?_
        cbv
        simp only [a4]
        have e : plcs ss gseg goff from_ (m.take i2.toNat) = acc := by rw [← hacc, List.drop_of_length_le (by omega)]; simp [plc]
        refine hN (i2, none) _ _ ?hx ?hI hT2
        case hx => (refine Wk.eqzN (id) (by intro i hi; first | rfl | (have hh : i = 0 ∨ i = 1 ∨ i = 2 ∨ i = 3 := (by omega); rcases hh with hh | hh | hh | hh <;> subst hh <;> rfl)) (Nat.le_of_ble_eq_true rfl) (by first | exact fun i _ j _ e => e | (simp only [List.length_cons, List.length_nil]; decide)) ?_; cbv; (repeat' (first | exact trivial | rfl | assumption | apply And.intro | (simp only [hbin, hcmp, hun, hconv, hnot, hbeq, hmm, hscmp, hsadd, hslen, hsat, heqs, hofNat, binStd, cmpStd, unStd, scmpStd, maxI, Z.z1, Z.z2, Z.z3, Z.z4, Z.z5, Z.z6, if_true, if_false, Z.z7, beq_iff_eq, bne_iff_ne, ne_eq, Z.z8, Z.z9, Z.y1, beq_eq_false_iff_ne, bne_eq_false_iff_eq, Z.y2, Z.y3, Z.y4, Z.y5, reduceCtorEq]; first | done | assumption) | exact RowsZ.same (by assumption) (by first | assumption | rfl) | exact FzL.mk rfl rfl rfl (by assumption) (by first | assumption | rfl) (by decide) | (refine RowsZ.one ?_; cbv))))
        case hI => exact ⟨by simp only; omega, by simp only; omega, by rw [e]; exact hrp⟩
      obtain ⟨c, hcj⟩ : ∃ c, l[j.toNat]? = some c := ⟨_, List.getElem?_eq_getElem (show j.toNat < l.length by omega)⟩
      have hxj : xs[j.toNat]? = some [.int .i64 c] := by rw [exs, List.getElem?_map, hcj]; rfl
      obtain ⟨hcs0, hcs1⟩ := hlseg c (List.mem_of_getElem? hcj)
      obtain ⟨⟨len, pps, nx⟩, hdc, hrow⟩ := get_map (f := sgRow) (ds := ss) (i := c) hcs0 hcs1
      obtain ⟨pq, epq⟩ : ∃ x, pps.map pcRow = x := ⟨_, rfl⟩
      obtain ⟨n1, en1⟩ : ∃ x, nx.map nxRow = x := ⟨_, rfl⟩
      have hrow : es[c.toNat]? = some [.int .i64 len, .list 2 pq, .list 1 n1] := by rw [hes, ← epq, ← en1]; exact hrow
      have hlen : lenAt ss c = len := by unfold lenAt; rw [hdc]
      have hlb := lenAt_le hln c
      rw [hlen] at hlb
      obtain ⟨j2, ej2⟩ : ∃ z, z = j + 1 := ⟨_, rfl⟩
      have a5 : wbin .add .i64 j 1 = j2 := by rw [hbin, ej2]; show IntKind.i64.wrap (j + 1) = j + 1; rw [IntKind.wrap_i64]; omega
      obtain ⟨a2, ea2⟩ : ∃ z, z = a + len := ⟨_, rfl⟩
      have a6 : wbin .add .i64 a len = a2 := by rw [hbin, ea2]; show IntKind.i64.wrap (a + len) = a + len; rw [IntKind.wrap_i64]; omega
      obtain ⟨p2, ep2⟩ : ∃ z, z = a + goff := ⟨_, rfl⟩
      have a7 : wbin .add .i64 a goff = p2 := by rw [hbin, ep2]; show IntKind.i64.wrap (a + goff) = a + goff; rw [IntKind.wrap_i64]; omega
      have hT3 : (K - j2).toNat < (K - j).toNat := by omega
      have hdr : plc ss gseg goff a (l.drop j.toNat) = (if c = gseg then [p2] else []) ++ plc ss gseg goff a2 (l.drop j2.toNat) := by
        rw [drop_getP hcj, show j2.toNat = j.toNat + 1 by omega, ep2, ea2, ← hlen]; rfl
      rw [hdr] at hacc
      clear hdr
      refine Idx.mk _ hj0 hxj ?_
      cbv
      (refine Call.inl hw hP Try.func76 (by kernel_rfl) (by kernel_rfl) ?_); (conv => arg 2; cbv); cbv
      (split <;> rename_i he <;> (try (simp only [hbin, hcmp, hun, hconv, hnot, hbeq, hmm, hscmp, hsadd, hslen, hsat, heqs, hofNat, binStd, cmpStd, unStd, scmpStd, maxI, Z.z1, Z.z2, Z.z3, Z.z4, Z.z5, Z.z6, if_true, if_false, Z.z7, beq_iff_eq, bne_iff_ne, ne_eq, Z.z8, Z.z9, Z.y1, beq_eq_false_iff_ne, bne_eq_false_iff_eq, Z.y2, Z.y3, Z.y4, Z.y5, reduceCtorEq] at he)) <;> (try cbv))
      · simp only [a7]
        have hacc0 : acc = [] := hrp
        refine Ob.mk (by decide) ?_
        cbv
        refine Idx.mk _ hcs0 hrow ?_
        cbv
        simp only [a5, a6]
        refine hN2 (j2, a2, some (1, [[.int .i64 p2]])) _ _ ?hx ?hI hT3
        case hx => (refine Wk.eqzN (fun j => [0, 1, 2, 3, 4, 5, 6].getD j 0) (by intro i hi; first | rfl | (have hh : i = 0 ∨ i = 1 ∨ i = 2 ∨ i = 3 := (by omega); rcases hh with hh | hh | hh | hh <;> subst hh <;> rfl)) (Nat.le_of_ble_eq_true rfl) (by first | exact fun i _ j _ e => e | (simp only [List.length_cons, List.length_nil]; decide)) ?_; cbv; (repeat' (first | exact trivial | rfl | assumption | apply And.intro | (simp only [hbin, hcmp, hun, hconv, hnot, hbeq, hmm, hscmp, hsadd, hslen, hsat, heqs, hofNat, binStd, cmpStd, unStd, scmpStd, maxI, Z.z1, Z.z2, Z.z3, Z.z4, Z.z5, Z.z6, if_true, if_false, Z.z7, beq_iff_eq, bne_iff_ne, ne_eq, Z.z8, Z.z9, Z.y1, beq_eq_false_iff_ne, bne_eq_false_iff_eq, Z.y2, Z.y3, Z.y4, Z.y5, reduceCtorEq]; first | done | assumption) | exact RowsZ.same (by assumption) (by first | assumption | rfl) | exact FzL.mk rfl rfl rfl (by assumption) (by first | assumption | rfl) (by decide) | (refine RowsZ.one ?_; cbv))))
        case hI => exact ⟨by simp only; omega, by simp only; omega, by simp only; omega, by simp only; omega, [p2], ⟨rfl, rfl, ⟨rfl⟩⟩, by simp only [List.length_cons, List.length_nil]; omega, by rw [← hacc, hacc0, if_pos he]; simp⟩
      · refine Idx.mk _ hcs0 hrow ?_
        cbv
        simp only [a5, a6]
        refine hN2 (j2, a2, none) _ _ ?hx ?hI hT3
        case hx => (refine Wk.eqzN (id) (by intro i hi; first | rfl | (have hh : i = 0 ∨ i = 1 ∨ i = 2 ∨ i = 3 := (by omega); rcases hh with hh | hh | hh | hh <;> subst hh <;> rfl)) (Nat.le_of_ble_eq_true rfl) (by first | exact fun i _ j _ e => e | (simp only [List.length_cons, List.length_nil]; decide)) ?_; cbv; (repeat' (first | exact trivial | rfl | assumption | apply And.intro | (simp only [hbin, hcmp, hun, hconv, hnot, hbeq, hmm, hscmp, hsadd, hslen, hsat, heqs, hofNat, binStd, cmpStd, unStd, scmpStd, maxI, Z.z1, Z.z2, Z.z3, Z.z4, Z.z5, Z.z6, if_true, if_false, Z.z7, beq_iff_eq, bne_iff_ne, ne_eq, Z.z8, Z.z9, Z.y1, beq_eq_false_iff_ne, bne_eq_false_iff_eq, Z.y2, Z.y3, Z.y4, Z.y5, reduceCtorEq]; first | done | assumption) | exact RowsZ.same (by assumption) (by first | assumption | rfl) | exact FzL.mk rfl rfl rfl (by assumption) (by first | assumption | rfl) (by decide) | (refine RowsZ.one ?_; cbv))))
        case hI => exact ⟨by simp only; omega, by simp only; omega, by simp only; omega, by simp only; omega, acc, hrp, by simp only; omega, by rw [← hacc, if_neg he]; simp⟩
    · have hinv2 : 0 ≤ j ∧ j ≤ K ∧ -1099511627776 ≤ a ∧ a ≤ j * 1099511627776 ∧ ∃ acc, RepL (some (k1, w1)) acc ∧ acc.length ≤ 12 * i.toNat + j.toNat ∧ acc ++ plc ss gseg goff a (l.drop j.toNat) = plcs ss gseg goff from_ (m.take i2.toNat) := hinv2
      cbv
      obtain ⟨hj0, hj1, hq0, hq1, acc, hrp, hal, hacc⟩ := hinv2
      have huw1 : Up0 w1 := hrp.2.2
      have hk1 : k1 = w1.length := hrp.2.1
      have hwl1 : w1.length = acc.length := by rw [hrp.1]; simp
      (split <;> rename_i hd <;> (try (simp only [hbin, hcmp, hun, hconv, hnot, hbeq, hmm, hscmp, hsadd, hslen, hsat, heqs, hofNat, binStd, cmpStd, unStd, scmpStd, maxI, Z.z1, Z.z2, Z.z3, Z.z4, Z.z5, Z.z6, if_true, if_false, Z.z7, beq_iff_eq, bne_iff_ne, ne_eq, Z.z8, Z.z9, Z.y1, beq_eq_false_iff_ne, bne_eq_false_iff_eq, Z.y2, Z.y3, Z.y4, Z.y5, reduceCtorEq] at hd)) <;> (try cbv))
      rotate_left 1
      · refine hE2 _ _ _ ?_
        cbv
        simp only [a4]
        have e : plcs ss gseg goff from_ (m.take i2.toNat) = acc := by rw [← hacc, List.drop_of_length_le (by omega)]; simp [plc]
        refine hN (i2, some (k1, w1)) _ _ ?hx ?hI hT2
        case hx => (refine Wk.eqzN (id) (by intro i hi; first | rfl | (have hh : i = 0 ∨ i = 1 ∨ i = 2 ∨ i = 3 := (by omega); rcases hh with hh | hh | hh | hh <;> subst hh <;> rfl)) (Nat.le_of_ble_eq_true rfl) (by first | exact fun i _ j _ e => e | (simp only [List.length_cons, List.length_nil]; decide)) ?_; cbv; (repeat' (first | exact trivial | rfl | assumption | apply And.intro | (simp only [hbin, hcmp, hun, hconv, hnot, hbeq, hmm, hscmp, hsadd, hslen, hsat, heqs, hofNat, binStd, cmpStd, unStd, scmpStd, maxI, Z.z1, Z.z2, Z.z3, Z.z4, Z.z5, Z.z6, if_true, if_false, Z.z7, beq_iff_eq, bne_iff_ne, ne_eq, Z.z8, Z.z9, Z.y1, beq_eq_false_iff_ne, bne_eq_false_iff_eq, Z.y2, Z.y3, Z.y4, Z.y5, reduceCtorEq]; first | done | assumption) | exact RowsZ.same (by assumption) (by first | assumption | rfl) | exact FzL.mk rfl rfl rfl (by assumption) (by first | assumption | rfl) (by decide) | (refine RowsZ.one ?_; cbv))))
        case hI => exact ⟨by simp only; omega, by simp only; omega, by rw [e]; exact hrp⟩
      obtain ⟨c, hcj⟩ : ∃ c, l[j.toNat]? = some c := ⟨_, List.getElem?_eq_getElem (show j.toNat < l.length by omega)⟩
      have hxj : xs[j.toNat]? = some [.int .i64 c] := by rw [exs, List.getElem?_map, hcj]; rfl
      obtain ⟨hcs0, hcs1⟩ := hlseg c (List.mem_of_getElem? hcj)
      obtain ⟨⟨len, pps, nx⟩, hdc, hrow⟩ := get_map (f := sgRow) (ds := ss) (i := c) hcs0 hcs1
      obtain ⟨pq, epq⟩ : ∃ x, pps.map pcRow = x := ⟨_, rfl⟩
      obtain ⟨n1, en1⟩ : ∃ x, nx.map nxRow = x := ⟨_, rfl⟩
      have hrow : es[c.toNat]? = some [.int .i64 len, .list 2 pq, .list 1 n1] := by rw [hes, ← epq, ← en1]; exact hrow
      have hlen : lenAt ss c = len := by unfold lenAt; rw [hdc]
      have hlb := lenAt_le hln c
      rw [hlen] at hlb
      obtain ⟨j2, ej2⟩ : ∃ z, z = j + 1 := ⟨_, rfl⟩
      have a5 : wbin .add .i64 j 1 = j2 := by rw [hbin, ej2]; show IntKind.i64.wrap (j + 1) = j + 1; rw [IntKind.wrap_i64]; omega
      obtain ⟨a2, ea2⟩ : ∃ z, z = a + len := ⟨_, rfl⟩
      have a6 : wbin .add .i64 a len = a2 := by rw [hbin, ea2]; show IntKind.i64.wrap (a + len) = a + len; rw [IntKind.wrap_i64]; omega
      obtain ⟨p2, ep2⟩ : ∃ z, z = a + goff := ⟨_, rfl⟩
      have a7 : wbin .add .i64 a goff = p2 := by rw [hbin, ep2]; show IntKind.i64.wrap (a + goff) = a + goff; rw [IntKind.wrap_i64]; omega
      have hT3 : (K - j2).toNat < (K - j).toNat := by omega
      have hdr : plc ss gseg goff a (l.drop j.toNat) = (if c = gseg then [p2] else []) ++ plc ss gseg goff a2 (l.drop j2.toNat) := by
        rw [drop_getP hcj, show j2.toNat = j.toNat + 1 by omega, ep2, ea2, ← hlen]; rfl
      rw [hdr] at hacc
      clear hdr
      refine Idx.mk _ hj0 hxj ?_
      cbv
      (refine Call.inl hw hP Try.func76 (by kernel_rfl) (by kernel_rfl) ?_); (conv => arg 2; cbv); cbv
      (split <;> rename_i he <;> (try (simp only [hbin, hcmp, hun, hconv, hnot, hbeq, hmm, hscmp, hsadd, hslen, hsat, heqs, hofNat, binStd, cmpStd, unStd, scmpStd, maxI, Z.z1, Z.z2, Z.z3, Z.z4, Z.z5, Z.z6, if_true, if_false, Z.z7, beq_iff_eq, bne_iff_ne, ne_eq, Z.z8, Z.z9, Z.y1, beq_eq_false_iff_ne, bne_eq_false_iff_eq, Z.y2, Z.y3, Z.y4, Z.y5, reduceCtorEq] at he)) <;> (try cbv))
      · simp only [a7]
        obtain ⟨w2, ew2⟩ : ∃ x : List (List AV), x = w1 ++ [[.int .i64 p2]] := ⟨_, rfl⟩
        obtain ⟨k2, ek2⟩ : ∃ x, x = k1 + 1 := ⟨_, rfl⟩
        have hwl2 : w2.length = w1.length + 1 := by rw [ew2]; simp
        have hw2 : w2 = (acc ++ [p2]).map nxRow := by rw [ew2, hrp.1]; simp [nxRow]
        have huw2 : Up0 w2 := by rw [hw2]; exact up_nx _
        refine App.mk w2 k2 ew2 hk1 ek2 (by omega) (by omega) ?_
        cbv
        refine Idx.mk _ hcs0 hrow ?_
        cbv
        simp only [a5, a6]
        refine hN2 (j2, a2, some (k2, w2)) _ _ ?hx ?hI hT3
        case hx => (refine Wk.eqzN (fun j => [0, 1, 2, 3, 4, 5, 7].getD j 0) (by intro i hi; first | rfl | (have hh : i = 0 ∨ i = 1 ∨ i = 2 ∨ i = 3 := (by omega); rcases hh with hh | hh | hh | hh <;> subst hh <;> rfl)) (Nat.le_of_ble_eq_true rfl) (by first | exact fun i _ j _ e => e | (simp only [List.length_cons, List.length_nil]; decide)) ?_; cbv; (repeat' (first | exact trivial | rfl | assumption | apply And.intro | (simp only [hbin, hcmp, hun, hconv, hnot, hbeq, hmm, hscmp, hsadd, hslen, hsat, heqs, hofNat, binStd, cmpStd, unStd, scmpStd, maxI, Z.z1, Z.z2, Z.z3, Z.z4, Z.z5, Z.z6, if_true, if_false, Z.z7, beq_iff_eq, bne_iff_ne, ne_eq, Z.z8, Z.z9, Z.y1, beq_eq_false_iff_ne, bne_eq_false_iff_eq, Z.y2, Z.y3, Z.y4, Z.y5, reduceCtorEq]; first | done | assumption) | exact RowsZ.same (by assumption) (by first | assumption | rfl) | exact FzL.mk rfl rfl rfl (by assumption) (by first | assumption | rfl) (by decide) | (refine RowsZ.one ?_; cbv))))
        case hI => exact ⟨by simp only; omega, by simp only; omega, by simp only; omega, by simp only; omega, acc ++ [p2], ⟨hw2, by omega, huw2⟩, by simp only [List.length_append, List.length_cons, List.length_nil]; omega, by rw [← hacc, if_pos he]; simp⟩
      · refine Idx.mk _ hcs0 hrow ?_
        cbv
        simp only [a5, a6]
        refine hN2 (j2, a2, some (k1, w1)) _ _ ?hx ?hI hT3
        case hx => (refine Wk.eqzN (id) (by intro i hi; first | rfl | (have hh : i = 0 ∨ i = 1 ∨ i = 2 ∨ i = 3 := (by omega); rcases hh with hh | hh | hh | hh <;> subst hh <;> rfl)) (Nat.le_of_ble_eq_true rfl) (by first | exact fun i _ j _ e => e | (simp only [List.length_cons, List.length_nil]; decide)) ?_; cbv; (repeat' (first | exact trivial | rfl | assumption | apply And.intro | (simp only [hbin, hcmp, hun, hconv, hnot, hbeq, hmm, hscmp, hsadd, hslen, hsat, heqs, hofNat, binStd, cmpStd, unStd, scmpStd, maxI, Z.z1, Z.z2, Z.z3, Z.z4, Z.z5, Z.z6, if_true, if_false, Z.z7, beq_iff_eq, bne_iff_ne, ne_eq, Z.z8, Z.z9, Z.y1, beq_eq_false_iff_ne, bne_eq_false_iff_eq, Z.y2, Z.y3, Z.y4, Z.y5, reduceCtorEq]; first | done | assumption) | exact RowsZ.same (by assumption) (by first | assumption | rfl) | exact FzL.mk rfl rfl rfl (by assumption) (by first | assumption | rfl) (by decide) | (refine RowsZ.one ?_; cbv))))
        case hI => exact ⟨by simp only; omega, by simp only; omega, by simp only; omega, by simp only; omega, acc, hrp, by simp only; omega, by rw [← hacc, if_neg he]; simp⟩
end Go.Proofs.Ytpiocfmdjgbamaa

/- link.Fitting, by the engine. -/
set_option linter.unusedVariables false
set_option linter.unusedSimpArgs false
namespace Go.Proofs.Ytpiocfmdjgbamaa
open Go Go.RowKit Go.Eng
set_option maxRecDepth 100000
def fitF (w lo hi : Int) (ps : List Int) : List Int := ps.filter fun a => decide (a - w ≤ hi ∧ lo ≤ a + w)
theorem e_window (c0 c1 c2 c3 c4 c5 c6 c7 c8 c9 c10 c11 c12 c13 g1 g2 g3 g4 g5 w : Int) (h : g4 + c8 + g5 = w) (h1 : 0 ≤ c8 ∧ c8 ≤ 1048576) (h2 : 0 ≤ g4 ∧ g4 ≤ 1048576) (h3 : 0 ≤ g5 ∧ g5 ≤ 16777216) :
    PCalls Try.prog 47 [.agg [.int .i64 c0, .int .i64 c1, .int .i64 c2, .int .i64 c3, .int .i64 c4, .int .i64 c5, .int .i64 c6, .int .i64 c7, .int .i64 c8, .int .i64 c9, .int .i64 c10, .int .i64 c11, .int .i64 c12, .int .i64 c13], .agg [.int .i64 g1, .int .i64 g2, .int .i64 g3, .int .i64 g4, .int .i64 g5]] (· = .int .i64 w) := by
  (refine PCalls.ofY Try.func47 (by kernel_rfl) (by kernel_rfl) fun w hw R hR => ?_); (obtain ⟨wbin, wcmp, wun, wconv, wnot, wbeq, wmm, wscmp, wsadd, wslen, wsat, weqs, wlen, wnlen, wofNat, wtake, wdrop, wapp, wzero, wnat⟩ := w); (have hbin := Z.w1 hw); (have hcmp := Z.w2 hw); (have hun := Z.w3 hw); (have hconv := Z.w4 hw); (have hnot := Z.w5 hw); (have hbeq := Z.w6 hw); (have hmm := Z.w7 hw); (have hscmp := Z.w8 hw); (have hsadd := Z.w9 hw); (have hslen := Z.w10 hw); (have hsat := Z.w11 hw); (have heqs := Z.w12 hw); (have hlen := Z.w13 hw); (have hnlen := Z.w14 hw); (have hofNat := Z.w15 hw); (have htake := Z.w16 hw); (have hdrop := Z.w17 hw); (have happ := Z.w18 hw); (have hzero := Z.w19 hw); (have hnat := Z.w20 hw); (conv => arg 2; cbv); (generalize hP : Try.prog = P); cbv
  obtain ⟨x, ex⟩ : ∃ x, g4 + c8 = x := ⟨_, rfl⟩
  have e1 : wbin .add .i64 g4 c8 = x := by rw [hbin, i_add (by omega) (by omega)]; exact ex
  have e2 : wbin .add .i64 x g5 = w := by rw [hbin, i_add (by omega) (by omega)]; omega
  simp only [e1, e2]
  exact ⟨_, Vw.same rfl, hR _ rfl⟩
theorem e_xaround {a w l h : Int} (h0 : 0 ≤ w) (hl : a - w = l) (hh : a + w = h) (ha : I62 a) (hw : I62 w) : PCalls Try.prog 72 [.int .i64 a, .int .i64 w] (· = .tuple [.agg [.int .i64 l, .int .i64 h], .bool true]) := by
  have hg : PCalls Try.prog 99 [.agg [.int .i64 a, .int .i64 a], .int .i64 w] (· = .tuple [.agg [.int .i64 l, .int .i64 h], .bool true]) := by
    have r1 := e_xright (a := a) (b := a) true (by simp)
    have s1 := e_xsub hl ha hw
    have s2 := e_xadd hh ha hw
    have b1 := e_xboth (lo := l) (hi := h) (by omega)
    (refine PCalls.ofY Try.func99 (by kernel_rfl) (by kernel_rfl) fun w hw R hR => ?_); (obtain ⟨wbin, wcmp, wun, wconv, wnot, wbeq, wmm, wscmp, wsadd, wslen, wsat, weqs, wlen, wnlen, wofNat, wtake, wdrop, wapp, wzero, wnat⟩ := w); (have hbin := Z.w1 hw); (have hcmp := Z.w2 hw); (have hun := Z.w3 hw); (have hconv := Z.w4 hw); (have hnot := Z.w5 hw); (have hbeq := Z.w6 hw); (have hmm := Z.w7 hw); (have hscmp := Z.w8 hw); (have hsadd := Z.w9 hw); (have hslen := Z.w10 hw); (have hsat := Z.w11 hw); (have heqs := Z.w12 hw); (have hlen := Z.w13 hw); (have hnlen := Z.w14 hw); (have hofNat := Z.w15 hw); (have htake := Z.w16 hw); (have hdrop := Z.w17 hw); (have happ := Z.w18 hw); (have hzero := Z.w19 hw); (have hnat := Z.w20 hw); (conv => arg 2; cbv); (generalize hP : Try.prog = P); cbv
    have n1 : wnot true = false := by rw [hnot]; rfl
    repeat' (first
      | (refine Call.stepE (by rw [← hP]; exact r1) rfl ?_; cbv; simp only [n1]; cbv)
      | (refine Call.stepE (by rw [← hP]; exact s1) rfl ?_; cbv)
      | (refine Call.stepE (by rw [← hP]; exact s2) rfl ?_; cbv)
      | (refine Call.stepE (by rw [← hP]; exact b1) rfl ?_; cbv))
    exact ⟨_, Vw.same rfl, hR _ rfl⟩
  have h2 : PCalls Try.prog 98 [.int .i64 a] (· = .agg [.int .i64 a, .int .i64 a]) := by
    (refine PCalls.ofY Try.func98 (by kernel_rfl) (by kernel_rfl) fun w hw R hR => ?_); (obtain ⟨wbin, wcmp, wun, wconv, wnot, wbeq, wmm, wscmp, wsadd, wslen, wsat, weqs, wlen, wnlen, wofNat, wtake, wdrop, wapp, wzero, wnat⟩ := w); (have hbin := Z.w1 hw); (have hcmp := Z.w2 hw); (have hun := Z.w3 hw); (have hconv := Z.w4 hw); (have hnot := Z.w5 hw); (have hbeq := Z.w6 hw); (have hmm := Z.w7 hw); (have hscmp := Z.w8 hw); (have hsadd := Z.w9 hw); (have hslen := Z.w10 hw); (have hsat := Z.w11 hw); (have heqs := Z.w12 hw); (have hlen := Z.w13 hw); (have hnlen := Z.w14 hw); (have hofNat := Z.w15 hw); (have htake := Z.w16 hw); (have hdrop := Z.w17 hw); (have happ := Z.w18 hw); (have hzero := Z.w19 hw); (have hnat := Z.w20 hw); (conv => arg 2; cbv); (generalize hP : Try.prog = P); cbv
    exact ⟨_, Vw.same rfl, hR _ rfl⟩
  (refine PCalls.ofY Try.func72 (by kernel_rfl) (by kernel_rfl) fun w hw R hR => ?_); (obtain ⟨wbin, wcmp, wun, wconv, wnot, wbeq, wmm, wscmp, wsadd, wslen, wsat, weqs, wlen, wnlen, wofNat, wtake, wdrop, wapp, wzero, wnat⟩ := w); (have hbin := Z.w1 hw); (have hcmp := Z.w2 hw); (have hun := Z.w3 hw); (have hconv := Z.w4 hw); (have hnot := Z.w5 hw); (have hbeq := Z.w6 hw); (have hmm := Z.w7 hw); (have hscmp := Z.w8 hw); (have hsadd := Z.w9 hw); (have hslen := Z.w10 hw); (have hsat := Z.w11 hw); (have heqs := Z.w12 hw); (have hlen := Z.w13 hw); (have hnlen := Z.w14 hw); (have hofNat := Z.w15 hw); (have htake := Z.w16 hw); (have hdrop := Z.w17 hw); (have happ := Z.w18 hw); (have hzero := Z.w19 hw); (have hnat := Z.w20 hw); (conv => arg 2; cbv); (generalize hP : Try.prog = P); cbv
  repeat' (first
    | (refine Call.stepE (by rw [← hP]; exact h2) rfl ?_; cbv)
    | (refine Call.stepE (by rw [← hP]; exact hg) rfl ?_; cbv))
  exact ⟨_, Vw.same rfl, hR _ rfl⟩
set_option maxHeartbeats 4000000 in
theorem e_fitting (c0 c1 c2 c3 c4 c5 c6 c7 c8 c9 c10 c11 c12 c13 : Int) (hc : 0 ≤ c8 ∧ c8 ≤ 1048576) (es ds rs : List (List AV)) (hu : Up0 es) (hud : Up0 ds) (hur : Up0 rs) (from_ lo hi g : Int) (hg : 0 ≤ g) (g1 g2 g3 g4 g5 : Int) (hG : ds[g.toNat]? = some [.int .i64 g1, .int .i64 g2, .int .i64 g3, .int .i64 g4, .int .i64 g5]) (h4 : 0 ≤ g4 ∧ g4 ≤ 1048576) (h5 : 0 ≤ g5 ∧ g5 ≤ 16777216) (hlh : lo ≤ hi)
    (w : Int) (hw0 : g4 + c8 + g5 = w) (ps : List Int) (hps : ps.length ≤ 1000) (hpb : ∀ a, a ∈ ps → -1125899906842624 ≤ a ∧ a ≤ 1125899906842624) (hpl : PCalls Try.prog 49 [.agg [.int .i64 from_, .list 13 rs], .agg [.list 3 es, .list 5 ds], .int .i64 g] (· = .list 1 (ps.map nxRow))) :
    PCalls Try.prog 45 [.agg [.int .i64 c0, .int .i64 c1, .int .i64 c2, .int .i64 c3, .int .i64 c4, .int .i64 c5, .int .i64 c6, .int .i64 c7, .int .i64 c8, .int .i64 c9, .int .i64 c10, .int .i64 c11, .int .i64 c12, .int .i64 c13], .agg [.list 3 es, .list 5 ds], .agg [.int .i64 from_, .list 13 rs], .agg [.int .i64 lo, .int .i64 hi], .int .i64 g] (· = .list 1 ((fitF w lo hi ps).map nxRow)) := by
  have hdl : g.toNat < ds.length := (List.getElem?_eq_some_iff.1 hG).1
  obtain ⟨v, ev⟩ : ∃ v, v = fitF w lo hi ps := ⟨_, rfl⟩
  obtain ⟨q, eq⟩ : ∃ q, q = ps.map nxRow := ⟨_, rfl⟩
  have huq : Up0 q := by rw [eq]; exact up_nx ps
  have hql : q.length = ps.length := by rw [eq]; simp
  rw [← eq] at hpl
  rw [← ev]
  have hup : uptoL 0 [AV.agg [.int .i64 from_, .list 13 rs], .agg [.list 3 es, .list 5 ds], .int .i64 g] = true := by simp only [uptoL, AV.upto, hu.get, hud.get, hur.get]; rfl
  (refine PCalls.ofY Try.func45 (by kernel_rfl) (by kernel_rfl) fun w hw R hR => ?_); (obtain ⟨wbin, wcmp, wun, wconv, wnot, wbeq, wmm, wscmp, wsadd, wslen, wsat, weqs, wlen, wnlen, wofNat, wtake, wdrop, wapp, wzero, wnat⟩ := w); (have hbin := Z.w1 hw); (have hcmp := Z.w2 hw); (have hun := Z.w3 hw); (have hconv := Z.w4 hw); (have hnot := Z.w5 hw); (have hbeq := Z.w6 hw); (have hmm := Z.w7 hw); (have hscmp := Z.w8 hw); (have hsadd := Z.w9 hw); (have hslen := Z.w10 hw); (have hsat := Z.w11 hw); (have heqs := Z.w12 hw); (have hlen := Z.w13 hw); (have hnlen := Z.w14 hw); (have hofNat := Z.w15 hw); (have htake := Z.w16 hw); (have hdrop := Z.w17 hw); (have happ := Z.w18 hw); (have hzero := Z.w19 hw); (have hnat := Z.w20 hw); (conv => arg 2; cbv); (generalize hP : Try.prog = P); cbv
  refine Call.stepE (by rw [← hP]; exact hpl) (by exact hup) ?_
  cbv
  (obtain ⟨L, eL, L0, Ln⟩ : ∃ L : Int, wlen q = L ∧ 0 ≤ L ∧ L.toNat = q.length := ⟨(q.length : Int), by rw [hlen], Int.natCast_nonneg _, Int.toNat_natCast _⟩)
  simp only [eL]
  have hwin := e_window c0 c1 c2 c3 c4 c5 c6 c7 c8 c9 c10 c11 c12 c13 g1 g2 g3 g4 g5 w hw0 hc h4 h5
  refine Loop.data hw (S := Int × Option (Nat × List (List AV))) (fun s => match s.2 with
      | none => fr 55 [(4, .int .i64 g), (5, .ref 0 14 0 0), (6, .ref 1 2 0 0), (8, .ref 3 2 0 0), (11, .nils), (21, .list 1 q), (22, .int .i64 L), (23, .int .i64 s.1)]
      | some (k, w) => fr 55 [(4, .int .i64 g), (5, .ref 0 14 0 0), (6, .ref 1 2 0 0), (8, .ref 3 2 0 0), (11, .sl 4 1 0 k), (21, .list 1 q), (22, .int .i64 L), (23, .int .i64 s.1)])
    (fun s => match s.2 with
      | none => [.live 14 [[.int .i64 c0, .int .i64 c1, .int .i64 c2, .int .i64 c3, .int .i64 c4, .int .i64 c5, .int .i64 c6, .int .i64 c7, .int .i64 c8, .int .i64 c9, .int .i64 c10, .int .i64 c11, .int .i64 c12, .int .i64 c13]], .live 2 [[.list 3 es, .list 5 ds]], .live 2 [[.int .i64 from_, .list 13 rs]], .live 2 [[.int .i64 lo, .int .i64 hi]]]
      | some (k, w) => [.live 14 [[.int .i64 c0, .int .i64 c1, .int .i64 c2, .int .i64 c3, .int .i64 c4, .int .i64 c5, .int .i64 c6, .int .i64 c7, .int .i64 c8, .int .i64 c9, .int .i64 c10, .int .i64 c11, .int .i64 c12, .int .i64 c13]], .live 2 [[.list 3 es, .list 5 ds]], .live 2 [[.int .i64 from_, .list 13 rs]], .live 2 [[.int .i64 lo, .int .i64 hi]], .live 1 w])
    (fun s => 0 ≤ s.1 ∧ s.1 ≤ L ∧ RepL s.2 (fitF w lo hi (ps.take s.1.toNat))) (fun s => (L - s.1).toNat) (0, none) (by (refine Wk.eqz (id) (by first | exact fun i _ j _ e => e | (simp only [List.length_cons, List.length_nil]; decide)) ?_; cbv; (repeat' (first | exact trivial | rfl | assumption | apply And.intro | (simp only [hbin, hcmp, hun, hconv, hnot, hbeq, hmm, hscmp, hsadd, hslen, hsat, heqs, hofNat, binStd, cmpStd, unStd, scmpStd, maxI, Z.z1, Z.z2, Z.z3, Z.z4, Z.z5, Z.z6, if_true, if_false, Z.z7, beq_iff_eq, bne_iff_ne, ne_eq, Z.z8, Z.z9, Z.y1, beq_eq_false_iff_ne, bne_eq_false_iff_eq, Z.y2, Z.y3, Z.y4, Z.y5, reduceCtorEq]; first | done | assumption) | exact RowsZ.same (by assumption) (by first | assumption | rfl) | exact FzL.mk rfl rfl rfl (by assumption) (by first | assumption | rfl) (by decide) | (refine RowsZ.one ?_; cbv))))) ⟨Int.le_refl _, L0, rfl⟩ ?_
  rintro ⟨i, (_ | ⟨k1, w1⟩)⟩ hinv Q' hN hE hR'
  · have hinv : 0 ≤ i ∧ i ≤ L ∧ RepL none (fitF w lo hi (ps.take i.toNat)) := hinv
    cbv
    obtain ⟨hi0, hi1, hrep⟩ := hinv
    have hfl : (fitF w lo hi (ps.take i.toNat)).length ≤ ps.length := Nat.le_trans (List.length_filter_le _ _) (by simp; omega)
    (split <;> rename_i hd <;> (try (simp only [hbin, hcmp, hun, hconv, hnot, hbeq, hmm, hscmp, hsadd, hslen, hsat, heqs, hofNat, binStd, cmpStd, unStd, scmpStd, maxI, Z.z1, Z.z2, Z.z3, Z.z4, Z.z5, Z.z6, if_true, if_false, Z.z7, beq_iff_eq, bne_iff_ne, ne_eq, Z.z8, Z.z9, Z.y1, beq_eq_false_iff_ne, bne_eq_false_iff_eq, Z.y2, Z.y3, Z.y4, Z.y5, reduceCtorEq] at hd)) <;> (try cbv))
    rotate_left 1
    · rw [List.take_of_length_le (by omega), ← ev] at hrep
      refine hE _ _ _ ?_
      cbv
      exact ⟨_, Vw.nil 1, hR _ (by rw [show v = [] from hrep]; rfl)⟩
    obtain ⟨a, ha⟩ : ∃ a, ps[i.toNat]? = some a := ⟨_, List.getElem?_eq_getElem (show i.toNat < ps.length by omega)⟩
    have hqa : q[i.toNat]? = some [.int .i64 a] := by rw [eq, List.getElem?_map, ha]; rfl
    have hab := hpb a (List.mem_of_getElem? ha)
    obtain ⟨i2, ei2⟩ : ∃ z, z = i + 1 := ⟨_, rfl⟩
    have a4 : wbin .add .i64 i 1 = i2 := by rw [hbin, ei2]; show IntKind.i64.wrap (i + 1) = i + 1; rw [IntKind.wrap_i64]; omega
    have hT2 : (L - i2).toNat < (L - i).toNat := by omega
    have htk : ps.take i2.toNat = ps.take i.toNat ++ [a] := by rw [ei2]; exact take_next hi0 ha
    have hst : fitF w lo hi (ps.take i2.toNat) = fitF w lo hi (ps.take i.toNat) ++ (if a - w ≤ hi ∧ lo ≤ a + w then [a] else []) := by
      rw [htk]; unfold fitF; rw [List.filter_append]
      congr 1
      by_cases h : a - w ≤ hi ∧ lo ≤ a + w
      · rw [if_pos h]; simp [h.1, h.2]
      · rw [if_neg h]
        simp only [List.filter_cons, List.filter_nil]
        rw [if_neg (by simpa using h)]
    obtain ⟨l1, el1⟩ : ∃ z, a - w = z := ⟨_, rfl⟩
    obtain ⟨h1, eh1⟩ : ∃ z, a + w = z := ⟨_, rfl⟩
    obtain ⟨x1, ex1⟩ : ∃ z, max l1 lo = z := ⟨_, rfl⟩
    obtain ⟨y1, ey1⟩ : ∃ z, min h1 hi = z := ⟨_, rfl⟩
    have s1 := e_xaround (by omega) el1 eh1 ⟨by omega, by omega⟩ ⟨by omega, by omega⟩
    refine Idx.mk _ hi0 hqa ?_
    cbv
    refine Idx.mk _ hg hG ?_
    cbv
    refine QCal.stepE (by rw [← hP]; exact hwin) rfl ?_
    cbv
    refine QCal.stepE (by rw [← hP]; exact s1) rfl ?_
    cbv
    by_cases hm : x1 ≤ y1
    · have s2 := e_xmeet ex1 ey1 hm
      refine Call.stepE (by rw [← hP]; exact s2) rfl ?_
      cbv
      rw [if_pos (by omega)] at hst
      refine Ob.mk (by decide) ?_
      cbv
      simp only [a4]
      refine hN (i2, some (1, [[.int .i64 a]])) _ _ ?hx ?hI hT2
      case hx => (refine Wk.eqz (fun j => [0, 1, 2, 3, 6].getD j 0) (by first | exact fun i _ j _ e => e | (simp only [List.length_cons, List.length_nil]; decide)) ?_; cbv; (repeat' (first | exact trivial | rfl | assumption | apply And.intro | (simp only [hbin, hcmp, hun, hconv, hnot, hbeq, hmm, hscmp, hsadd, hslen, hsat, heqs, hofNat, binStd, cmpStd, unStd, scmpStd, maxI, Z.z1, Z.z2, Z.z3, Z.z4, Z.z5, Z.z6, if_true, if_false, Z.z7, beq_iff_eq, bne_iff_ne, ne_eq, Z.z8, Z.z9, Z.y1, beq_eq_false_iff_ne, bne_eq_false_iff_eq, Z.y2, Z.y3, Z.y4, Z.y5, reduceCtorEq]; first | done | assumption) | exact RowsZ.same (by assumption) (by first | assumption | rfl) | exact FzL.mk rfl rfl rfl (by assumption) (by first | assumption | rfl) (by decide) | (refine RowsZ.one ?_; cbv))))
      case hI => exact ⟨by simp only; omega, by simp only; omega, by simp only; rw [hst, show fitF w lo hi (ps.take i.toNat) = [] from hrep]; exact ⟨rfl, rfl, ⟨rfl⟩⟩⟩
    · have s2 := e_xmeetNo ex1 ey1 (show y1 < x1 by omega)
      refine Call.stepE (by rw [← hP]; exact s2) rfl ?_
      cbv
      rw [if_neg (by omega), List.append_nil] at hst
      simp only [a4]
      refine hN (i2, none) _ _ ?hx ?hI hT2
      case hx => (refine Wk.eqz (id) (by first | exact fun i _ j _ e => e | (simp only [List.length_cons, List.length_nil]; decide)) ?_; cbv; (repeat' (first | exact trivial | rfl | assumption | apply And.intro | (simp only [hbin, hcmp, hun, hconv, hnot, hbeq, hmm, hscmp, hsadd, hslen, hsat, heqs, hofNat, binStd, cmpStd, unStd, scmpStd, maxI, Z.z1, Z.z2, Z.z3, Z.z4, Z.z5, Z.z6, if_true, if_false, Z.z7, beq_iff_eq, bne_iff_ne, ne_eq, Z.z8, Z.z9, Z.y1, beq_eq_false_iff_ne, bne_eq_false_iff_eq, Z.y2, Z.y3, Z.y4, Z.y5, reduceCtorEq]; first | done | assumption) | exact RowsZ.same (by assumption) (by first | assumption | rfl) | exact FzL.mk rfl rfl rfl (by assumption) (by first | assumption | rfl) (by decide) | (refine RowsZ.one ?_; cbv))))
      case hI => exact ⟨by simp only; omega, by simp only; omega, by simp only; rw [hst]; exact hrep⟩
  · have hinv : 0 ≤ i ∧ i ≤ L ∧ RepL (some (k1, w1)) (fitF w lo hi (ps.take i.toNat)) := hinv
    cbv
    obtain ⟨hi0, hi1, hrep⟩ := hinv
    have hfl : (fitF w lo hi (ps.take i.toNat)).length ≤ ps.length := Nat.le_trans (List.length_filter_le _ _) (by simp; omega)
    have huw : Up0 w1 := hrep.2.2
    have hk1 : k1 = w1.length := hrep.2.1
    have hwl1 : w1.length = (fitF w lo hi (ps.take i.toNat)).length := by rw [hrep.1]; simp
    (split <;> rename_i hd <;> (try (simp only [hbin, hcmp, hun, hconv, hnot, hbeq, hmm, hscmp, hsadd, hslen, hsat, heqs, hofNat, binStd, cmpStd, unStd, scmpStd, maxI, Z.z1, Z.z2, Z.z3, Z.z4, Z.z5, Z.z6, if_true, if_false, Z.z7, beq_iff_eq, bne_iff_ne, ne_eq, Z.z8, Z.z9, Z.y1, beq_eq_false_iff_ne, bne_eq_false_iff_eq, Z.y2, Z.y3, Z.y4, Z.y5, reduceCtorEq] at hd)) <;> (try cbv))
    rotate_left 1
    · rw [List.take_of_length_le (by omega), ← ev] at hrep
      refine hE _ _ _ ?_
      cbv
      have e1 : (w1.drop 0).take k1 = v.map nxRow := by rw [List.drop_zero, List.take_of_length_le (by omega)]; exact hrep.1
      refine ⟨_, Vw.sl (s := 4) (z := 1) (n := k1) (i := 0) rfl huw.get (by omega), hR _ ?_⟩
      rw [e1]
    obtain ⟨a, ha⟩ : ∃ a, ps[i.toNat]? = some a := ⟨_, List.getElem?_eq_getElem (show i.toNat < ps.length by omega)⟩
    have hqa : q[i.toNat]? = some [.int .i64 a] := by rw [eq, List.getElem?_map, ha]; rfl
    have hab := hpb a (List.mem_of_getElem? ha)
    obtain ⟨i2, ei2⟩ : ∃ z, z = i + 1 := ⟨_, rfl⟩
    have a4 : wbin .add .i64 i 1 = i2 := by rw [hbin, ei2]; show IntKind.i64.wrap (i + 1) = i + 1; rw [IntKind.wrap_i64]; omega
    have hT2 : (L - i2).toNat < (L - i).toNat := by omega
    have htk : ps.take i2.toNat = ps.take i.toNat ++ [a] := by rw [ei2]; exact take_next hi0 ha
    have hst : fitF w lo hi (ps.take i2.toNat) = fitF w lo hi (ps.take i.toNat) ++ (if a - w ≤ hi ∧ lo ≤ a + w then [a] else []) := by
      rw [htk]; unfold fitF; rw [List.filter_append]
      congr 1
      by_cases h : a - w ≤ hi ∧ lo ≤ a + w
      · rw [if_pos h]; simp [h.1, h.2]
      · rw [if_neg h]
        simp only [List.filter_cons, List.filter_nil]
        rw [if_neg (by simpa using h)]
    obtain ⟨l1, el1⟩ : ∃ z, a - w = z := ⟨_, rfl⟩
    obtain ⟨h1, eh1⟩ : ∃ z, a + w = z := ⟨_, rfl⟩
    obtain ⟨x1, ex1⟩ : ∃ z, max l1 lo = z := ⟨_, rfl⟩
    obtain ⟨y1, ey1⟩ : ∃ z, min h1 hi = z := ⟨_, rfl⟩
    have s1 := e_xaround (by omega) el1 eh1 ⟨by omega, by omega⟩ ⟨by omega, by omega⟩
    refine Idx.mk _ hi0 hqa ?_
    cbv
    refine Idx.mk _ hg hG ?_
    cbv
    refine QCal.stepE (by rw [← hP]; exact hwin) rfl ?_
    cbv
    refine QCal.stepE (by rw [← hP]; exact s1) rfl ?_
    cbv
    by_cases hm : x1 ≤ y1
    · have s2 := e_xmeet ex1 ey1 hm
      refine Call.stepE (by rw [← hP]; exact s2) rfl ?_
      cbv
      rw [if_pos (by omega)] at hst
      obtain ⟨w2, ew2⟩ : ∃ x : List (List AV), x = w1 ++ [[.int .i64 a]] := ⟨_, rfl⟩
      obtain ⟨k2, ek2⟩ : ∃ x, x = k1 + 1 := ⟨_, rfl⟩
      have hwl2 : w2.length = w1.length + 1 := by rw [ew2]; simp
      have hw2 : w2 = (fitF w lo hi (ps.take i.toNat) ++ [a]).map nxRow := by rw [ew2, hrep.1]; simp [nxRow]
      have huw2 : Up0 w2 := by rw [hw2]; exact up_nx _
      refine App.mk w2 k2 ew2 hk1 ek2 (by omega) (by omega) ?_
      cbv
      simp only [a4]
      refine hN (i2, some (k2, w2)) _ _ ?hx ?hI hT2
      case hx => (refine Wk.eqz (fun j => [0, 1, 2, 3, 7].getD j 0) (by first | exact fun i _ j _ e => e | (simp only [List.length_cons, List.length_nil]; decide)) ?_; cbv; (repeat' (first | exact trivial | rfl | assumption | apply And.intro | (simp only [hbin, hcmp, hun, hconv, hnot, hbeq, hmm, hscmp, hsadd, hslen, hsat, heqs, hofNat, binStd, cmpStd, unStd, scmpStd, maxI, Z.z1, Z.z2, Z.z3, Z.z4, Z.z5, Z.z6, if_true, if_false, Z.z7, beq_iff_eq, bne_iff_ne, ne_eq, Z.z8, Z.z9, Z.y1, beq_eq_false_iff_ne, bne_eq_false_iff_eq, Z.y2, Z.y3, Z.y4, Z.y5, reduceCtorEq]; first | done | assumption) | exact RowsZ.same (by assumption) (by first | assumption | rfl) | exact FzL.mk rfl rfl rfl (by assumption) (by first | assumption | rfl) (by decide) | (refine RowsZ.one ?_; cbv))))
      case hI => exact ⟨by simp only; omega, by simp only; omega, by simp only; rw [hst]; exact ⟨hw2, by omega, huw2⟩⟩
    · have s2 := e_xmeetNo ex1 ey1 (show y1 < x1 by omega)
      refine Call.stepE (by rw [← hP]; exact s2) rfl ?_
      cbv
      rw [if_neg (by omega), List.append_nil] at hst
      simp only [a4]
      refine hN (i2, (some (k1, w1))) _ _ ?hx ?hI hT2
      case hx => (refine Wk.eqz (id) (by first | exact fun i _ j _ e => e | (simp only [List.length_cons, List.length_nil]; decide)) ?_; cbv; (repeat' (first | exact trivial | rfl | assumption | apply And.intro | (simp only [hbin, hcmp, hun, hconv, hnot, hbeq, hmm, hscmp, hsadd, hslen, hsat, heqs, hofNat, binStd, cmpStd, unStd, scmpStd, maxI, Z.z1, Z.z2, Z.z3, Z.z4, Z.z5, Z.z6, if_true, if_false, Z.z7, beq_iff_eq, bne_iff_ne, ne_eq, Z.z8, Z.z9, Z.y1, beq_eq_false_iff_ne, bne_eq_false_iff_eq, Z.y2, Z.y3, Z.y4, Z.y5, reduceCtorEq]; first | done | assumption) | exact RowsZ.same (by assumption) (by first | assumption | rfl) | exact FzL.mk rfl rfl rfl (by assumption) (by first | assumption | rfl) (by decide) | (refine RowsZ.one ?_; cbv))))
      case hI => exact ⟨by simp only; omega, by simp only; omega, by simp only; rw [hst]; exact hrep⟩
end Go.Proofs.Ytpiocfmdjgbamaa

/- The example of layer 20, by the engine. -/
set_option linter.unusedVariables false
set_option linter.unusedSimpArgs false
namespace Go.Proofs.Ytpiocfmdjgbamaa
open Go Go.RowKit Go.Eng
set_option maxRecDepth 100000
theorem e_usual20 : PCalls Try.prog 58 [] (· = .agg [.int .i64 1024, .int .i64 131072, .int .i64 131072, .int .i64 0, .int .i64 0, .int .i64 0, .int .i64 1000, .int .i64 100, .int .i64 5, .int .i64 1, .int .i64 128, .int .i64 10, .int .i64 5, .int .i64 1]) := by
  (refine PCalls.ofY Try.func58 (by kernel_rfl) (by kernel_rfl) fun w hw R hR => ?_); (subst hw); (conv => arg 2; cbv); (generalize hP : Try.prog = P); cbv
  exact ⟨_, Vw.same rfl, hR _ rfl⟩
theorem e_fit20 (g v : Int) (r : List Int) (hg : 0 ≤ g) (hG : ([[.int .i64 1, .int .i64 0, .int .i64 125, .int .i64 0, .int .i64 0], [.int .i64 2, .int .i64 0, .int .i64 126, .int .i64 0, .int .i64 0]] : List (List AV))[g.toNat]? = some [.int .i64 v, .int .i64 0, .int .i64 (124 + v), .int .i64 0, .int .i64 0]) (hG2 : ([⟨1, 0, 125, 0, 0⟩, ⟨2, 0, 126, 0, 0⟩] : List Gr)[g.toNat]? = some ⟨v, 0, 124 + v, 0, 0⟩) (hv : 0 ≤ v ∧ v ≤ 100) (hr : fitF 5 100 120 [124 + v] = r) :
    PCalls Try.prog 45 [.agg [.int .i64 1024, .int .i64 131072, .int .i64 131072, .int .i64 0, .int .i64 0, .int .i64 0, .int .i64 1000, .int .i64 100, .int .i64 5, .int .i64 1, .int .i64 128, .int .i64 10, .int .i64 5, .int .i64 1], .agg [.list 3 ([⟨900, [(0, 0)], []⟩].map sgRow), .list 5 ([⟨1, 0, 125, 0, 0⟩, ⟨2, 0, 126, 0, 0⟩].map grRow)], .agg [.int .i64 0, .list 13 ([[0]].map rtC)], .agg [.int .i64 100, .int .i64 120], .int .i64 g] (· = .list 1 (r.map nxRow)) := by
  have hp := e_places [⟨900, [(0, 0)], []⟩] [⟨1, 0, 125, 0, 0⟩, ⟨2, 0, 126, 0, 0⟩] _ _ rfl rfl ⟨by decide⟩ 0 (by decide) [[0]] (fun l hl => by simp at hl; subst hl; exact ⟨by decide, by decide⟩) (by decide) _ rfl g hg ⟨v, 0, 124 + v, 0, 0⟩ hG2 ⟨by simp only; omega, by simp only; omega⟩
  have hpv : plcR [⟨900, [(0, 0)], []⟩] 0 (124 + v) 0 [[0]] = [124 + v] := by
    unfold plcR plcs
    simp [plc, addQ]
  simp only [hpv] at hp
  have hf := e_fitting 1024 131072 131072 0 0 0 1000 100 5 1 128 10 5 1 (by decide) ([⟨900, [(0, 0)], []⟩].map sgRow) ([⟨1, 0, 125, 0, 0⟩, ⟨2, 0, 126, 0, 0⟩].map grRow) ([[0]].map rtC) (up_sg _) (up_gr _) (up_map (f := rtC) (fun d => rfl) _) 0 100 120 g hg v 0 (124 + v) 0 0 hG (by decide) (by decide) (by decide) 5 (by decide) [124 + v] (by simp) (fun a ha => by simp at ha; omega) hp
  rw [hr] at hf
  exact hf
set_option maxHeartbeats 2000000 in
theorem e_anchor20 : PCalls Try.prog 20 [] (· = .bool true) := by
  have h1 := e_fit20 0 1 [125] (by decide) rfl rfl (by decide) (by decide)
  have h2 := e_fit20 1 2 [] (by decide) rfl rfl (by decide) (by decide)
  have h1 : PCalls Try.prog 45 [.agg [.int .i64 1024, .int .i64 131072, .int .i64 131072, .int .i64 0, .int .i64 0, .int .i64 0, .int .i64 1000, .int .i64 100, .int .i64 5, .int .i64 1, .int .i64 128, .int .i64 10, .int .i64 5, .int .i64 1], .agg [.list 3 [[.int .i64 900, .list 2 [[.int .i64 0, .int .i64 0]], .nils]], .list 5 [[.int .i64 1, .int .i64 0, .int .i64 125, .int .i64 0, .int .i64 0], [.int .i64 2, .int .i64 0, .int .i64 126, .int .i64 0, .int .i64 0]]], .agg [.int .i64 0, .list 13 [[.int .i64 1, .int .i64 0, .int .i64 0, .int .i64 0, .int .i64 0, .int .i64 0, .int .i64 0, .int .i64 0, .int .i64 0, .int .i64 0, .int .i64 0, .int .i64 0, .int .i64 0]]], .agg [.int .i64 100, .int .i64 120], .int .i64 0] (· = .list 1 [[.int .i64 125]]) := PCalls.le h1 rfl
  have h2 : PCalls Try.prog 45 [.agg [.int .i64 1024, .int .i64 131072, .int .i64 131072, .int .i64 0, .int .i64 0, .int .i64 0, .int .i64 1000, .int .i64 100, .int .i64 5, .int .i64 1, .int .i64 128, .int .i64 10, .int .i64 5, .int .i64 1], .agg [.list 3 [[.int .i64 900, .list 2 [[.int .i64 0, .int .i64 0]], .nils]], .list 5 [[.int .i64 1, .int .i64 0, .int .i64 125, .int .i64 0, .int .i64 0], [.int .i64 2, .int .i64 0, .int .i64 126, .int .i64 0, .int .i64 0]]], .agg [.int .i64 0, .list 13 [[.int .i64 1, .int .i64 0, .int .i64 0, .int .i64 0, .int .i64 0, .int .i64 0, .int .i64 0, .int .i64 0, .int .i64 0, .int .i64 0, .int .i64 0, .int .i64 0, .int .i64 0]]], .agg [.int .i64 100, .int .i64 120], .int .i64 1] (· = .list 1 []) := PCalls.le h2 rfl
  (refine PCalls.ofY Try.func20 (by kernel_rfl) (by kernel_rfl) fun w hw R hR => ?_); (subst hw); (conv => arg 2; cbv); (generalize hP : Try.prog = P); cbv
  repeat' (first
    | (refine QCal.stepE (by rw [← hP]; exact e_begin 0 0 0 rfl) rfl ?_; cbv)
    | (refine Call.stepE (by rw [← hP]; exact e_begin 0 0 0 rfl) rfl ?_; cbv)
    | (refine QCal.stepE (by rw [← hP]; exact e_usual20) rfl ?_; cbv)
    | (refine Call.stepE (by rw [← hP]; exact e_usual20) rfl ?_; cbv)
    | (refine QCal.stepE (by rw [← hP]; exact h1) rfl ?_; cbv)
    | (refine Call.stepE (by rw [← hP]; exact h1) rfl ?_; cbv)
    | (refine QCal.stepE (by rw [← hP]; exact h2) rfl ?_; cbv)
    | (refine Call.stepE (by rw [← hP]; exact h2) rfl ?_; cbv)
    | (refine Idx.mk _ (by decide) rfl ?_; cbv)
    | (exact ⟨_, Vw.same rfl, hR _ rfl⟩))
end Go.Proofs.Ytpiocfmdjgbamaa

/- A number in its place, by the engine. -/
set_option linter.unusedVariables false
set_option linter.unusedSimpArgs false
namespace Go.Proofs.Ytpiocfmdjgbamaa
open Go Go.RowKit Go.Eng
set_option maxRecDepth 100000
set_option maxHeartbeats 4000000 in
theorem e_add14 (l : List Int) (r : Int) (hl16 : l.length ≤ 1000) (ls : List (List AV)) (hls : ls = l.map nxRow) :
    PCalls Try.prog 74 [.list 1 ls, .int .i64 r] (· = .list 1 ((addQ l r).map nxRow)) := by
  have hul : Up0 ls := by rw [hls]; exact up_nx l
  have hll : ls.length = l.length := by rw [hls]; simp
  obtain ⟨q, eq⟩ : ∃ q, q = (addQ l r).map nxRow := ⟨_, rfl⟩
  rw [← eq]
  (refine PCalls.ofY Try.func74 (by kernel_rfl) (by kernel_rfl) fun w hw R hR => ?_); (obtain ⟨wbin, wcmp, wun, wconv, wnot, wbeq, wmm, wscmp, wsadd, wslen, wsat, weqs, wlen, wnlen, wofNat, wtake, wdrop, wapp, wzero, wnat⟩ := w); (have hbin := Z.w1 hw); (have hcmp := Z.w2 hw); (have hun := Z.w3 hw); (have hconv := Z.w4 hw); (have hnot := Z.w5 hw); (have hbeq := Z.w6 hw); (have hmm := Z.w7 hw); (have hscmp := Z.w8 hw); (have hsadd := Z.w9 hw); (have hslen := Z.w10 hw); (have hsat := Z.w11 hw); (have heqs := Z.w12 hw); (have hlen := Z.w13 hw); (have hnlen := Z.w14 hw); (have hofNat := Z.w15 hw); (have htake := Z.w16 hw); (have hdrop := Z.w17 hw); (have happ := Z.w18 hw); (have hzero := Z.w19 hw); (have hnat := Z.w20 hw); (conv => arg 2; cbv); (generalize hP : Try.prog = P); cbv
  (obtain ⟨L, eL, L0, Ln⟩ : ∃ L : Int, wlen ls = L ∧ 0 ≤ L ∧ L.toNat = ls.length := ⟨(ls.length : Int), by rw [hlen], Int.natCast_nonneg _, Int.toNat_natCast _⟩)
  refine Loop.data hw (S := Option (Int × Bool × List Int × Nat × List (List AV))) (fun s => match s with
      | none => fr 48 [(0, .list 1 ls), (1, .int .i64 r), (5, .nils), (6, .bool false), (7, .int .i64 0)]
      | some (i, d, out, k, w) => fr 48 [(0, .list 1 ls), (1, .int .i64 r), (5, .sl 0 1 0 k), (6, .bool d), (7, .int .i64 i)])
    (fun s => match s with
      | none => []
      | some (i, d, out, k, w) => [.live 1 w])
    (fun s => match s with
      | none => True
      | some (i, d, out, k, w) => 0 ≤ i ∧ i ≤ L ∧ addQ l r = out ++ (if d then l.drop i.toNat else addQ (l.drop i.toNat) r) ∧ w = out.map nxRow ∧ Up0 w ∧ k = w.length ∧ out.length ≤ 2 * i.toNat) (fun s => match s with | none => L.toNat + 1 | some (i, _) => (L - i).toNat) none (by (refine Wk.eqz (id) (by first | exact fun i _ j _ e => e | (simp only [List.length_cons, List.length_nil]; decide)) ?_; cbv; (repeat' (first | exact trivial | rfl | assumption | apply And.intro | (simp only [hbin, hcmp, hun, hconv, hnot, hbeq, hmm, hscmp, hsadd, hslen, hsat, heqs, hofNat, binStd, cmpStd, unStd, scmpStd, maxI, Z.z1, Z.z2, Z.z3, Z.z4, Z.z5, Z.z6, if_true, if_false, Z.z7, beq_iff_eq, bne_iff_ne, ne_eq, Z.z8, Z.z9, Z.y1, beq_eq_false_iff_ne, bne_eq_false_iff_eq, Z.y2, Z.y3, Z.y4, Z.y5, reduceCtorEq]; first | done | assumption) | exact RowsZ.same (by assumption) (by first | assumption | rfl) | exact FzL.mk rfl rfl rfl (by assumption) (by first | assumption | rfl) (by decide) | (refine RowsZ.one ?_; cbv))))) trivial ?_
  rintro (_ | ⟨i, d, out, k, w⟩) hinv Q' hN hE hR'
  · cbv
    simp only [eL]
    (split <;> rename_i hc <;> (try (simp only [hbin, hcmp, hun, hconv, hnot, hbeq, hmm, hscmp, hsadd, hslen, hsat, heqs, hofNat, binStd, cmpStd, unStd, scmpStd, maxI, Z.z1, Z.z2, Z.z3, Z.z4, Z.z5, Z.z6, if_true, if_false, Z.z7, beq_iff_eq, bne_iff_ne, ne_eq, Z.z8, Z.z9, Z.y1, beq_eq_false_iff_ne, bne_eq_false_iff_eq, Z.y2, Z.y3, Z.y4, Z.y5, reduceCtorEq] at hc)) <;> (try cbv))
    · obtain ⟨k0, hk0⟩ : ∃ k0, l[0]? = some k0 := ⟨_, List.getElem?_eq_getElem (show 0 < l.length by omega)⟩
      obtain ⟨i2, ei2⟩ : ∃ z : Int, z = 0 + 1 := ⟨_, rfl⟩
      have a4 : wbin .add .i64 0 1 = i2 := by rw [hbin, ei2]; show IntKind.i64.wrap (0 + 1) = 0 + 1; rw [IntKind.wrap_i64]; omega
      have hD : l.drop 0 = k0 :: l.drop i2.toNat := by rw [drop_get hk0, show i2.toNat = 0 + 1 by omega]
      have hrow : ls[(0 : Int).toNat]? = some [.int .i64 k0] := by rw [hls, List.getElem?_map, show (0 : Int).toNat = 0 from rfl, hk0]; rfl
      have n1 : wnot true = false := by rw [hnot]; rfl
      have n2 : wnot false = true := by rw [hnot]; rfl
      have hput : addQ l r = addQ (k0 :: l.drop i2.toNat) r := by rw [← hD, List.drop_zero]
      simp only [n2]
      cbv
      refine Idx.mk _ (by decide) hrow ?_
      cbv
      by_cases hq : k0 < r
      · have g1 : wcmp .geq k0 r = false := by rw [hcmp]; simp [cmpStd]; omega
        simp only [g1]
        cbv
        refine Idx.mk _ (by decide) hrow ?_
        cbv
        refine Ob.mk (by decide) ?_
        cbv
        have hwf : [[.int .i64 k0]] = ([] ++ [k0]).map nxRow := by simp only [List.map_append, List.append_assoc, List.nil_append, List.map_cons, List.map_nil]; simp [nxRow]
        have huwf : Up0 [[.int .i64 k0]] := by rw [hwf]; exact up_nx _
        simp only [a4]
        refine hN (some (i2, false, [] ++ [k0], 1, [[.int .i64 k0]])) _ _ ?hx ?hi ?ht
        case hx => (refine Wk.eqz (fun j => [0].getD j 0) (by first | exact fun i _ j _ e => e | (simp only [List.length_cons, List.length_nil]; decide)) ?_; cbv; (repeat' (first | exact trivial | rfl | assumption | apply And.intro | (simp only [hbin, hcmp, hun, hconv, hnot, hbeq, hmm, hscmp, hsadd, hslen, hsat, heqs, hofNat, binStd, cmpStd, unStd, scmpStd, maxI, Z.z1, Z.z2, Z.z3, Z.z4, Z.z5, Z.z6, if_true, if_false, Z.z7, beq_iff_eq, bne_iff_ne, ne_eq, Z.z8, Z.z9, Z.y1, beq_eq_false_iff_ne, bne_eq_false_iff_eq, Z.y2, Z.y3, Z.y4, Z.y5, reduceCtorEq]; first | done | assumption) | exact RowsZ.same (by assumption) (by first | assumption | rfl) | exact FzL.mk rfl rfl rfl (by assumption) (by first | assumption | rfl) (by decide) | (refine RowsZ.one ?_; cbv))))
        case hi => exact ⟨by omega, by omega, by rw [hput]; rw [addQ_lt hq]; simp, hwf, huwf, by first | rfl | omega, by simp only [List.length_append, List.length_cons, List.length_nil]; omega⟩
        case ht => show (L - i2).toNat < L.toNat + 1; omega
      · have g1 : wcmp .geq k0 r = true := by rw [hcmp]; simp [cmpStd]; omega
        simp only [g1]
        cbv
        refine Idx.mk _ (by decide) hrow ?_
        cbv
        by_cases hq2 : r < k0
        · have g2 : wcmp .gtr k0 r = true := by rw [hcmp]; simp [cmpStd]; omega
          simp only [g2]
          cbv
          refine Ob.mk (by decide) ?_
          cbv
          refine Idx.mk _ (by decide) hrow ?_
          cbv
          obtain ⟨w0, ew0⟩ : ∃ x : List (List AV), x = [[AV.int .i64 r]] ++ [[.int .i64 k0]] := ⟨_, rfl⟩
          obtain ⟨k0', ek0'⟩ : ∃ x, x = 1 + 1 := ⟨_, rfl⟩
          have hl0 : w0.length = 2 := by rw [ew0]; simp
          refine App.mk w0 k0' ew0 (by simp) ek0' (by omega) (by omega) ?_
          cbv
          have hwf : w0 = ([] ++ [r, k0]).map nxRow := by simp only [ew0, List.map_append, List.append_assoc, List.nil_append, List.map_cons, List.map_nil]; simp [nxRow]
          have huwf : Up0 w0 := by rw [hwf]; exact up_nx _
          simp only [a4]
          refine hN (some (i2, true, [] ++ [r, k0], k0', w0)) _ _ ?hx ?hi ?ht
          case hx => (refine Wk.eqz (fun j => [1].getD j 0) (by first | exact fun i _ j _ e => e | (simp only [List.length_cons, List.length_nil]; decide)) ?_; cbv; (repeat' (first | exact trivial | rfl | assumption | apply And.intro | (simp only [hbin, hcmp, hun, hconv, hnot, hbeq, hmm, hscmp, hsadd, hslen, hsat, heqs, hofNat, binStd, cmpStd, unStd, scmpStd, maxI, Z.z1, Z.z2, Z.z3, Z.z4, Z.z5, Z.z6, if_true, if_false, Z.z7, beq_iff_eq, bne_iff_ne, ne_eq, Z.z8, Z.z9, Z.y1, beq_eq_false_iff_ne, bne_eq_false_iff_eq, Z.y2, Z.y3, Z.y4, Z.y5, reduceCtorEq]; first | done | assumption) | exact RowsZ.same (by assumption) (by first | assumption | rfl) | exact FzL.mk rfl rfl rfl (by assumption) (by first | assumption | rfl) (by decide) | (refine RowsZ.one ?_; cbv))))
          case hi => exact ⟨by omega, by omega, by rw [hput]; rw [addQ_gt hq2]; simp, hwf, huwf, by first | rfl | omega, by simp only [List.length_append, List.length_cons, List.length_nil]; omega⟩
          case ht => show (L - i2).toNat < L.toNat + 1; omega
        · have g2 : wcmp .gtr k0 r = false := by rw [hcmp]; simp [cmpStd]; omega
          simp only [g2]
          cbv
          refine Idx.mk _ (by decide) hrow ?_
          cbv
          refine Ob.mk (by decide) ?_
          cbv
          have hwf : [[.int .i64 k0]] = ([] ++ [k0]).map nxRow := by simp only [List.map_append, List.append_assoc, List.nil_append, List.map_cons, List.map_nil]; simp [nxRow]
          have huwf : Up0 [[.int .i64 k0]] := by rw [hwf]; exact up_nx _
          simp only [a4]
          refine hN (some (i2, true, [] ++ [k0], 1, [[.int .i64 k0]])) _ _ ?hx ?hi ?ht
          case hx => (refine Wk.eqz (fun j => [0].getD j 0) (by first | exact fun i _ j _ e => e | (simp only [List.length_cons, List.length_nil]; decide)) ?_; cbv; (repeat' (first | exact trivial | rfl | assumption | apply And.intro | (simp only [hbin, hcmp, hun, hconv, hnot, hbeq, hmm, hscmp, hsadd, hslen, hsat, heqs, hofNat, binStd, cmpStd, unStd, scmpStd, maxI, Z.z1, Z.z2, Z.z3, Z.z4, Z.z5, Z.z6, if_true, if_false, Z.z7, beq_iff_eq, bne_iff_ne, ne_eq, Z.z8, Z.z9, Z.y1, beq_eq_false_iff_ne, bne_eq_false_iff_eq, Z.y2, Z.y3, Z.y4, Z.y5, reduceCtorEq]; first | done | assumption) | exact RowsZ.same (by assumption) (by first | assumption | rfl) | exact FzL.mk rfl rfl rfl (by assumption) (by first | assumption | rfl) (by decide) | (refine RowsZ.one ?_; cbv))))
          case hi => exact ⟨by omega, by omega, by rw [hput]; rw [addQ_eq (by omega) (by omega)]; simp, hwf, huwf, by first | rfl | omega, by simp only [List.length_append, List.length_cons, List.length_nil]; omega⟩
          case ht => show (L - i2).toNat < L.toNat + 1; omega
    · refine hE _ _ _ ?_
      cbv
      have hl0 : l = [] := List.length_eq_zero_iff.1 (by omega)
      simp only [show wnot false = true by rw [hnot]; rfl]
      cbv
      refine Ob.mk (by decide) ?_
      cbv
      refine ⟨_, Vw.sl (n := 1) (i := 0) rfl (by rfl) (by simp), hR _ ?_⟩
      rw [eq, hl0]; rfl
  · have hinv : 0 ≤ i ∧ i ≤ L ∧ addQ l r = out ++ (if d then l.drop i.toNat else addQ (l.drop i.toNat) r) ∧ w = out.map nxRow ∧ Up0 w ∧ k = w.length ∧ out.length ≤ 2 * i.toNat := hinv
    cbv
    obtain ⟨hi0, hi1, hput, hw2, huw, hk, hsz⟩ := hinv
    have hwl : w.length = out.length := by rw [hw2]; simp
    simp only [eL]
    (split <;> rename_i hc <;> (try (simp only [hbin, hcmp, hun, hconv, hnot, hbeq, hmm, hscmp, hsadd, hslen, hsat, heqs, hofNat, binStd, cmpStd, unStd, scmpStd, maxI, Z.z1, Z.z2, Z.z3, Z.z4, Z.z5, Z.z6, if_true, if_false, Z.z7, beq_iff_eq, bne_iff_ne, ne_eq, Z.z8, Z.z9, Z.y1, beq_eq_false_iff_ne, bne_eq_false_iff_eq, Z.y2, Z.y3, Z.y4, Z.y5, reduceCtorEq] at hc)) <;> (try cbv))
    · obtain ⟨k0, hk0⟩ : ∃ k0, l[i.toNat]? = some k0 := ⟨_, List.getElem?_eq_getElem (show i.toNat < l.length by omega)⟩
      obtain ⟨i2, ei2⟩ : ∃ z : Int, z = i + 1 := ⟨_, rfl⟩
      have a4 : wbin .add .i64 i 1 = i2 := by rw [hbin, ei2]; show IntKind.i64.wrap (i + 1) = i + 1; rw [IntKind.wrap_i64]; omega
      have hD : l.drop i.toNat = k0 :: l.drop i2.toNat := by rw [drop_get hk0, show i2.toNat = i.toNat + 1 by omega]
      have hrow : ls[(i : Int).toNat]? = some [.int .i64 k0] := by rw [hls, List.getElem?_map, show (i : Int).toNat = i.toNat from rfl, hk0]; rfl
      have n1 : wnot true = false := by rw [hnot]; rfl
      have n2 : wnot false = true := by rw [hnot]; rfl
      cases d with
      | true =>
        cbv
        simp only [n1]
        cbv
        refine Idx.mk _ hi0 hrow ?_
        cbv
        obtain ⟨w0, ew0⟩ : ∃ x : List (List AV), x = w ++ [[.int .i64 k0]] := ⟨_, rfl⟩
        obtain ⟨k0', ek0'⟩ : ∃ x, x = k + 1 := ⟨_, rfl⟩
        have hl0 : w0.length = w.length + 1 := by rw [ew0]; simp
        refine App.mk w0 k0' ew0 hk ek0' (by omega) (by omega) ?_
        cbv
        have hwf : w0 = (out ++ [k0]).map nxRow := by simp only [ew0, hw2, List.map_append, List.append_assoc, List.nil_append, List.map_cons, List.map_nil]; simp [nxRow]
        have huwf : Up0 w0 := by rw [hwf]; exact up_nx _
        simp only [a4]
        refine hN (some (i2, true, out ++ [k0], k0', w0)) _ _ ?hx ?hi ?ht
        case hx => (refine Wk.eqz (fun j => [1].getD j 0) (by first | exact fun i _ j _ e => e | (simp only [List.length_cons, List.length_nil]; decide)) ?_; cbv; (repeat' (first | exact trivial | rfl | assumption | apply And.intro | (simp only [hbin, hcmp, hun, hconv, hnot, hbeq, hmm, hscmp, hsadd, hslen, hsat, heqs, hofNat, binStd, cmpStd, unStd, scmpStd, maxI, Z.z1, Z.z2, Z.z3, Z.z4, Z.z5, Z.z6, if_true, if_false, Z.z7, beq_iff_eq, bne_iff_ne, ne_eq, Z.z8, Z.z9, Z.y1, beq_eq_false_iff_ne, bne_eq_false_iff_eq, Z.y2, Z.y3, Z.y4, Z.y5, reduceCtorEq]; first | done | assumption) | exact RowsZ.same (by assumption) (by first | assumption | rfl) | exact FzL.mk rfl rfl rfl (by assumption) (by first | assumption | rfl) (by decide) | (refine RowsZ.one ?_; cbv))))
        case hi => exact ⟨by omega, by omega, by rw [hput]; simp only [if_true]; rw [hD]; simp, hwf, huwf, by first | rfl | omega, by simp only [List.length_append, List.length_cons, List.length_nil]; omega⟩
        case ht => show (L - i2).toNat < (L - i).toNat; omega
      | false =>
        cbv
        simp only [n2]
        cbv
        refine Idx.mk _ hi0 hrow ?_
        cbv
        by_cases hq : k0 < r
        · have g1 : wcmp .geq k0 r = false := by rw [hcmp]; simp [cmpStd]; omega
          simp only [g1]
          cbv
          refine Idx.mk _ hi0 hrow ?_
          cbv
          obtain ⟨w0, ew0⟩ : ∃ x : List (List AV), x = w ++ [[.int .i64 k0]] := ⟨_, rfl⟩
          obtain ⟨k0', ek0'⟩ : ∃ x, x = k + 1 := ⟨_, rfl⟩
          have hl0 : w0.length = w.length + 1 := by rw [ew0]; simp
          refine App.mk w0 k0' ew0 hk ek0' (by omega) (by omega) ?_
          cbv
          have hwf : w0 = (out ++ [k0]).map nxRow := by simp only [ew0, hw2, List.map_append, List.append_assoc, List.nil_append, List.map_cons, List.map_nil]; simp [nxRow]
          have huwf : Up0 w0 := by rw [hwf]; exact up_nx _
          simp only [a4]
          refine hN (some (i2, false, out ++ [k0], k0', w0)) _ _ ?hx ?hi ?ht
          case hx => (refine Wk.eqz (fun j => [1].getD j 0) (by first | exact fun i _ j _ e => e | (simp only [List.length_cons, List.length_nil]; decide)) ?_; cbv; (repeat' (first | exact trivial | rfl | assumption | apply And.intro | (simp only [hbin, hcmp, hun, hconv, hnot, hbeq, hmm, hscmp, hsadd, hslen, hsat, heqs, hofNat, binStd, cmpStd, unStd, scmpStd, maxI, Z.z1, Z.z2, Z.z3, Z.z4, Z.z5, Z.z6, if_true, if_false, Z.z7, beq_iff_eq, bne_iff_ne, ne_eq, Z.z8, Z.z9, Z.y1, beq_eq_false_iff_ne, bne_eq_false_iff_eq, Z.y2, Z.y3, Z.y4, Z.y5, reduceCtorEq]; first | done | assumption) | exact RowsZ.same (by assumption) (by first | assumption | rfl) | exact FzL.mk rfl rfl rfl (by assumption) (by first | assumption | rfl) (by decide) | (refine RowsZ.one ?_; cbv))))
          case hi => exact ⟨by omega, by omega, by rw [hput]; simp only [Bool.false_eq_true, if_false]; rw [hD, addQ_lt hq]; simp, hwf, huwf, by first | rfl | omega, by simp only [List.length_append, List.length_cons, List.length_nil]; omega⟩
          case ht => show (L - i2).toNat < (L - i).toNat; omega
        · have g1 : wcmp .geq k0 r = true := by rw [hcmp]; simp [cmpStd]; omega
          simp only [g1]
          cbv
          refine Idx.mk _ hi0 hrow ?_
          cbv
          by_cases hq2 : r < k0
          · have g2 : wcmp .gtr k0 r = true := by rw [hcmp]; simp [cmpStd]; omega
            simp only [g2]
            cbv
            obtain ⟨w0, ew0⟩ : ∃ x : List (List AV), x = w ++ [[.int .i64 r]] := ⟨_, rfl⟩
            obtain ⟨k0', ek0'⟩ : ∃ x, x = k + 1 := ⟨_, rfl⟩
            have hl0 : w0.length = w.length + 1 := by rw [ew0]; simp
            refine App.mk w0 k0' ew0 hk ek0' (by omega) (by omega) ?_
            cbv
            refine Idx.mk _ hi0 hrow ?_
            cbv
            obtain ⟨w1, ew1⟩ : ∃ x : List (List AV), x = w0 ++ [[.int .i64 k0]] := ⟨_, rfl⟩
            obtain ⟨k1', ek1'⟩ : ∃ x, x = k0' + 1 := ⟨_, rfl⟩
            have hl1 : w1.length = w0.length + 1 := by rw [ew1]; simp
            refine App.mk w1 k1' ew1 (by omega) ek1' (by omega) (by omega) ?_
            cbv
            have hwf : w1 = (out ++ [r, k0]).map nxRow := by simp only [ew0, ew1, hw2, List.map_append, List.append_assoc, List.nil_append, List.map_cons, List.map_nil]; simp [nxRow]
            have huwf : Up0 w1 := by rw [hwf]; exact up_nx _
            simp only [a4]
            refine hN (some (i2, true, out ++ [r, k0], k1', w1)) _ _ ?hx ?hi ?ht
            case hx => (refine Wk.eqz (fun j => [2].getD j 0) (by first | exact fun i _ j _ e => e | (simp only [List.length_cons, List.length_nil]; decide)) ?_; cbv; (repeat' (first | exact trivial | rfl | assumption | apply And.intro | (simp only [hbin, hcmp, hun, hconv, hnot, hbeq, hmm, hscmp, hsadd, hslen, hsat, heqs, hofNat, binStd, cmpStd, unStd, scmpStd, maxI, Z.z1, Z.z2, Z.z3, Z.z4, Z.z5, Z.z6, if_true, if_false, Z.z7, beq_iff_eq, bne_iff_ne, ne_eq, Z.z8, Z.z9, Z.y1, beq_eq_false_iff_ne, bne_eq_false_iff_eq, Z.y2, Z.y3, Z.y4, Z.y5, reduceCtorEq]; first | done | assumption) | exact RowsZ.same (by assumption) (by first | assumption | rfl) | exact FzL.mk rfl rfl rfl (by assumption) (by first | assumption | rfl) (by decide) | (refine RowsZ.one ?_; cbv))))
            case hi => exact ⟨by omega, by omega, by rw [hput]; simp only [Bool.false_eq_true, if_false, if_true]; rw [hD, addQ_gt hq2]; simp, hwf, huwf, by first | rfl | omega, by simp only [List.length_append, List.length_cons, List.length_nil]; omega⟩
            case ht => show (L - i2).toNat < (L - i).toNat; omega
          · have g2 : wcmp .gtr k0 r = false := by rw [hcmp]; simp [cmpStd]; omega
            simp only [g2]
            cbv
            refine Idx.mk _ hi0 hrow ?_
            cbv
            obtain ⟨w0, ew0⟩ : ∃ x : List (List AV), x = w ++ [[.int .i64 k0]] := ⟨_, rfl⟩
            obtain ⟨k0', ek0'⟩ : ∃ x, x = k + 1 := ⟨_, rfl⟩
            have hl0 : w0.length = w.length + 1 := by rw [ew0]; simp
            refine App.mk w0 k0' ew0 hk ek0' (by omega) (by omega) ?_
            cbv
            have hwf : w0 = (out ++ [k0]).map nxRow := by simp only [ew0, hw2, List.map_append, List.append_assoc, List.nil_append, List.map_cons, List.map_nil]; simp [nxRow]
            have huwf : Up0 w0 := by rw [hwf]; exact up_nx _
            simp only [a4]
            refine hN (some (i2, true, out ++ [k0], k0', w0)) _ _ ?hx ?hi ?ht
            case hx => (refine Wk.eqz (fun j => [1].getD j 0) (by first | exact fun i _ j _ e => e | (simp only [List.length_cons, List.length_nil]; decide)) ?_; cbv; (repeat' (first | exact trivial | rfl | assumption | apply And.intro | (simp only [hbin, hcmp, hun, hconv, hnot, hbeq, hmm, hscmp, hsadd, hslen, hsat, heqs, hofNat, binStd, cmpStd, unStd, scmpStd, maxI, Z.z1, Z.z2, Z.z3, Z.z4, Z.z5, Z.z6, if_true, if_false, Z.z7, beq_iff_eq, bne_iff_ne, ne_eq, Z.z8, Z.z9, Z.y1, beq_eq_false_iff_ne, bne_eq_false_iff_eq, Z.y2, Z.y3, Z.y4, Z.y5, reduceCtorEq]; first | done | assumption) | exact RowsZ.same (by assumption) (by first | assumption | rfl) | exact FzL.mk rfl rfl rfl (by assumption) (by first | assumption | rfl) (by decide) | (refine RowsZ.one ?_; cbv))))
            case hi => exact ⟨by omega, by omega, by rw [hput]; simp only [Bool.false_eq_true, if_false, if_true]; rw [hD, addQ_eq (by omega) (by omega)]; simp, hwf, huwf, by first | rfl | omega, by simp only [List.length_append, List.length_cons, List.length_nil]; omega⟩
            case ht => show (L - i2).toNat < (L - i).toNat; omega
    · refine hE _ _ _ ?_
      cbv
      have hdr : l.drop i.toNat = [] := List.drop_of_length_le (by omega)
      cases d with
      | true =>
        cbv
        simp only [show wnot true = false by rw [hnot]; rfl]
        cbv
        have hq : q = w := by rw [eq, hput, hw2, hdr]; simp
        have e1 : (w.drop 0).take k = w := by rw [List.drop_zero, List.take_of_length_le (by omega)]
        have := Vw.sl (h := [.live 1 w]) (s := 0) (z := 1) rfl huw.get (i := 0) (n := k) (by omega)
        rw [e1] at this
        exact ⟨_, this, hR _ (by rw [hq])⟩
      | false =>
        cbv
        simp only [show wnot false = true by rw [hnot]; rfl]
        cbv
        obtain ⟨w0, ew0⟩ : ∃ x : List (List AV), x = w ++ [[.int .i64 r]] := ⟨_, rfl⟩
        obtain ⟨k0', ek0'⟩ : ∃ x, x = k + 1 := ⟨_, rfl⟩
        have hl0 : w0.length = w.length + 1 := by rw [ew0]; simp
        refine App.mk w0 k0' ew0 hk ek0' (by omega) (by omega) ?_
        cbv
        have hq : q = w0 := by rw [eq, hput, ew0, hw2, hdr]; simp [addQ, nxRow]
        have huw0 : Up0 w0 := by rw [← hq, eq]; exact up_nx _
        have e1 : (w0.drop 0).take k0' = w0 := by rw [List.drop_zero, List.take_of_length_le (by omega)]
        have := Vw.sl (h := [.dead, .live 1 w0]) (s := 1) (z := 1) rfl huw0.get (i := 0) (n := k0') (by omega)
        rw [e1] at this
        exact ⟨_, this, hR _ (by rw [hq])⟩
end Go.Proofs.Ytpiocfmdjgbamaa

/- The document's places of a group, by the engine. -/
set_option linter.unusedVariables false
set_option linter.unusedSimpArgs false
namespace Go.Proofs.Ytpiocfmdjgbamaa
open Go Go.RowKit Go.Eng
set_option maxRecDepth 100000
theorem plc_bnd {ss : List Sg} (hln : LensOk ss) (sg : Int) {off : Int} (hoff : 0 ≤ off ∧ off ≤ 1099511627776) : ∀ (l : List Int) (a : Int), ∀ x, x ∈ plc ss sg off a l → a ≤ x ∧ x ≤ a + lenI l * 1099511627776 + 1099511627776
  | [], a, x, h => by simp [plc] at h
  | n :: l, a, x, h => by
    have hb := lenAt_le hln n
    simp only [plc, lenI] at h ⊢
    have hl0 : 0 ≤ lenI l := by rw [lenI_len]; omega
    rcases List.mem_append.1 h with h | h
    · split at h
      · simp at h; omega
      · simp at h
    · have := plc_bnd hln sg hoff l (a + lenAt ss n) x h
      omega
theorem plcR_bnd {ss : List Sg} (hln : LensOk ss) {sg off from_ : Int} (hf : 0 ≤ from_ ∧ from_ ≤ 1099511627776) (hoff : 0 ≤ off ∧ off ≤ 1099511627776) (m : List (List Int)) (hm : ∀ l, l ∈ m → l.length ≤ 12) : ∀ x, x ∈ plcR ss sg off from_ m → -1125899906842624 ≤ x ∧ x ≤ 1125899906842624 := fun x hx => by
  unfold plcR at hx
  rw [(adds_sorted (plcs ss sg off from_ m) [] List.Pairwise.nil).2.1] at hx
  rcases hx with hx | hx
  · simp at hx
  · unfold plcs at hx
    obtain ⟨l, hl, hx⟩ := List.mem_flatMap.1 hx
    have h1 := plc_bnd hln sg hoff l (-from_) x hx
    have h2 := hm l hl
    have h3 := lenI_len l
    omega
set_option maxHeartbeats 4000000 in
theorem e_rplaces (ss : List Sg) (gs : List Gr) (es ds : List (List AV)) (hes : es = ss.map sgRow) (hds : ds = gs.map grRow) (hln : LensOk ss) (from_ : Int) (hf : 0 ≤ from_ ∧ from_ ≤ 1099511627776) (m : List (List Int)) (hw1 : ∀ l, l ∈ m → WayOk ss l) (hm : m.length ≤ 50) (qs : List (List AV)) (hqs : qs = m.map rtRow)
    (g : Int) (hg : 0 ≤ g) (G : Gr) (hG : gs[g.toNat]? = some G) (hoff : 0 ≤ G.off ∧ G.off ≤ 1099511627776) :
    PCalls Try.prog 48 [.agg [.list 3 es, .list 5 ds], .agg [.int .i64 from_, .list 1 qs], .int .i64 g] (· = .list 1 ((plcR ss G.seg G.off from_ m).map nxRow)) := by
  have hu : Up0 es := by rw [hes]; exact up_sg ss
  have hud : Up0 ds := by rw [hds]; exact up_gr gs
  have huq : Up0 qs := by rw [hqs]; exact up_rt m
  have hql : qs.length = m.length := by rw [hqs]; simp
  obtain ⟨gid, gseg, goff, gacc, gsl⟩ := G
  simp only at hoff
  have hG : ds[g.toNat]? = some [.int .i64 gid, .int .i64 gseg, .int .i64 goff, .int .i64 gacc, .int .i64 gsl] := by rw [hds, List.getElem?_map, hG]; rfl
  obtain ⟨v, ev⟩ : ∃ v, v = (plcR ss gseg goff from_ m).map nxRow := ⟨_, rfl⟩
  show PCalls Try.prog 48 [.agg [.list 3 es, .list 5 ds], .agg [.int .i64 from_, .list 1 qs], .int .i64 g] (· = .list 1 ((plcR ss gseg goff from_ m).map nxRow))
  rw [← ev]
  (refine PCalls.ofY Try.func48 (by kernel_rfl) (by kernel_rfl) fun w hw R hR => ?_); (obtain ⟨wbin, wcmp, wun, wconv, wnot, wbeq, wmm, wscmp, wsadd, wslen, wsat, weqs, wlen, wnlen, wofNat, wtake, wdrop, wapp, wzero, wnat⟩ := w); (have hbin := Z.w1 hw); (have hcmp := Z.w2 hw); (have hun := Z.w3 hw); (have hconv := Z.w4 hw); (have hnot := Z.w5 hw); (have hbeq := Z.w6 hw); (have hmm := Z.w7 hw); (have hscmp := Z.w8 hw); (have hsadd := Z.w9 hw); (have hslen := Z.w10 hw); (have hsat := Z.w11 hw); (have heqs := Z.w12 hw); (have hlen := Z.w13 hw); (have hnlen := Z.w14 hw); (have hofNat := Z.w15 hw); (have htake := Z.w16 hw); (have hdrop := Z.w17 hw); (have happ := Z.w18 hw); (have hzero := Z.w19 hw); (have hnat := Z.w20 hw); (conv => arg 2; cbv); (generalize hP : Try.prog = P); cbv
  (obtain ⟨L, eL, L0, Ln⟩ : ∃ L : Int, wlen qs = L ∧ 0 ≤ L ∧ L.toNat = qs.length := ⟨(qs.length : Int), by rw [hlen], Int.natCast_nonneg _, Int.toNat_natCast _⟩)
  obtain ⟨a0, ea0⟩ : ∃ a0, a0 = -from_ := ⟨_, rfl⟩
  have c0 : wun .neg .i64 from_ = a0 := by rw [hun, ea0]; simp only [unStd]; rw [IntKind.wrap_i64]; omega
  refine Loop.data hw (S := Int × List Int × List (List AV)) (fun s => fr 72 [(2, .int .i64 g), (3, .ref 0 2 0 0), (4, .ref 1 2 0 0), (7, .list 1 s.2.2), (8, .int .i64 s.1)])
    (fun _ => [.live 2 [[.list 3 es, .list 5 ds]], .live 2 [[.int .i64 from_, .list 1 qs]]])
    (fun s => 0 ≤ s.1 ∧ s.1 ≤ L ∧ s.2.2 = s.2.1.map nxRow ∧ Up0 s.2.2 ∧ s.2.1 = (plcs ss gseg goff from_ (m.take s.1.toNat)).foldl addQ []) (fun s => (L - s.1).toNat) (0, [], []) (by (refine Wk.eqz (id) (by first | exact fun i _ j _ e => e | (simp only [List.length_cons, List.length_nil]; decide)) ?_; cbv; (repeat' (first | exact trivial | rfl | assumption | apply And.intro | (simp only [hbin, hcmp, hun, hconv, hnot, hbeq, hmm, hscmp, hsadd, hslen, hsat, heqs, hofNat, binStd, cmpStd, unStd, scmpStd, maxI, Z.z1, Z.z2, Z.z3, Z.z4, Z.z5, Z.z6, if_true, if_false, Z.z7, beq_iff_eq, bne_iff_ne, ne_eq, Z.z8, Z.z9, Z.y1, beq_eq_false_iff_ne, bne_eq_false_iff_eq, Z.y2, Z.y3, Z.y4, Z.y5, reduceCtorEq]; first | done | assumption) | exact RowsZ.same (by assumption) (by first | assumption | rfl) | exact FzL.mk rfl rfl rfl (by assumption) (by first | assumption | rfl) (by decide) | (refine RowsZ.one ?_; cbv))))) ⟨Int.le_refl _, L0, rfl, ⟨rfl⟩, rfl⟩ ?_
  rintro ⟨i, acc, w⟩ hinv Q' hN hE hR'
  have hinv : 0 ≤ i ∧ i ≤ L ∧ w = acc.map nxRow ∧ Up0 w ∧ acc = (plcs ss gseg goff from_ (m.take i.toNat)).foldl addQ [] := hinv
  cbv
  obtain ⟨hi0, hi1, hwa, huw, hacc⟩ := hinv
  have hlen0 := plcs_len ss gseg goff from_ (m.take i.toNat) fun x hx => (hw1 x (List.mem_of_mem_take hx)).len.1
  rw [List.length_take, Nat.min_eq_left (by omega)] at hlen0
  have hal := (adds_sorted (plcs ss gseg goff from_ (m.take i.toNat)) [] List.Pairwise.nil).2.2
  rw [← hacc] at hal
  simp only [List.length_nil] at hal
  simp only [eL]
  (split <;> rename_i hc <;> (try (simp only [hbin, hcmp, hun, hconv, hnot, hbeq, hmm, hscmp, hsadd, hslen, hsat, heqs, hofNat, binStd, cmpStd, unStd, scmpStd, maxI, Z.z1, Z.z2, Z.z3, Z.z4, Z.z5, Z.z6, if_true, if_false, Z.z7, beq_iff_eq, bne_iff_ne, ne_eq, Z.z8, Z.z9, Z.y1, beq_eq_false_iff_ne, bne_eq_false_iff_eq, Z.y2, Z.y3, Z.y4, Z.y5, reduceCtorEq] at hc)) <;> (try cbv))
  rotate_left 1
  · refine hE _ _ _ ?_
    cbv
    have e : v = w := by rw [ev, hwa, hacc, List.take_of_length_le (by omega)]; rfl
    exact ⟨_, Vw.same huw.list, hR _ (by rw [e]; rfl)⟩
  obtain ⟨l, hl⟩ : ∃ l, m[i.toNat]? = some l := ⟨_, List.getElem?_eq_getElem (show i.toNat < m.length by omega)⟩
  have hlw := hw1 l (List.mem_of_getElem? hl)
  have hl12 := hlw.len.1
  obtain ⟨xs, exs⟩ : ∃ x, x = l.map nxRow := ⟨_, rfl⟩
  have huxs : Up0 xs := by rw [exs]; exact up_nx l
  have hxl : xs.length = l.length := by rw [exs]; simp
  have hqi : qs[i.toNat]? = some [.list 1 xs] := by rw [hqs, List.getElem?_map, hl, exs]; rfl
  obtain ⟨i2, ei2⟩ : ∃ z, z = i + 1 := ⟨_, rfl⟩
  have a4 : wbin .add .i64 i 1 = i2 := by rw [hbin, ei2]; show IntKind.i64.wrap (i + 1) = i + 1; rw [IntKind.wrap_i64]; omega
  have hT2 : (L - i2).toNat < (L - i).toNat := by omega
  have htk : m.take i2.toNat = m.take i.toNat ++ [l] := by rw [ei2]; exact take_next hi0 hl
  have hacc2 : (plcs ss gseg goff from_ (m.take i2.toNat)).foldl addQ [] = (plc ss gseg goff (-from_) l).foldl addQ acc := by rw [htk, plcs_snoc, List.foldl_append, ← hacc]
  (obtain ⟨K, eK, K0, Kn⟩ : ∃ L : Int, wlen xs = L ∧ 0 ≤ L ∧ L.toNat = xs.length := ⟨(xs.length : Int), by rw [hlen], Int.natCast_nonneg _, Int.toNat_natCast _⟩)
  simp only [c0]
  refine Loop.data hw (S := Int × Int × List Int × List (List AV)) (fun s => fr 72 [(2, .int .i64 g), (3, .ref 0 2 0 0), (4, .ref 1 2 0 0), (7, .list 1 s.2.2.2), (8, .int .i64 i), (9, .int .i64 s.2.1), (10, .int .i64 s.1)])
    (fun _ => [.live 2 [[.list 3 es, .list 5 ds]], .live 2 [[.int .i64 from_, .list 1 qs]]])
    (fun s => 0 ≤ s.1 ∧ s.1 ≤ K ∧ -1099511627776 ≤ s.2.1 ∧ s.2.1 ≤ s.1 * 1099511627776 ∧ s.2.2.2 = s.2.2.1.map nxRow ∧ Up0 s.2.2.2 ∧ s.2.2.1.length ≤ 12 * i.toNat + s.1.toNat ∧ (plc ss gseg goff s.2.1 (l.drop s.1.toNat)).foldl addQ s.2.2.1 = (plcs ss gseg goff from_ (m.take i2.toNat)).foldl addQ []) (fun s => (K - s.1).toNat) (0, a0, acc, w) (by (refine Wk.eqz (id) (by first | exact fun i _ j _ e => e | (simp only [List.length_cons, List.length_nil]; decide)) ?_; cbv; (repeat' (first | exact trivial | rfl | assumption | apply And.intro | (simp only [hbin, hcmp, hun, hconv, hnot, hbeq, hmm, hscmp, hsadd, hslen, hsat, heqs, hofNat, binStd, cmpStd, unStd, scmpStd, maxI, Z.z1, Z.z2, Z.z3, Z.z4, Z.z5, Z.z6, if_true, if_false, Z.z7, beq_iff_eq, bne_iff_ne, ne_eq, Z.z8, Z.z9, Z.y1, beq_eq_false_iff_ne, bne_eq_false_iff_eq, Z.y2, Z.y3, Z.y4, Z.y5, reduceCtorEq]; first | done | assumption) | exact RowsZ.same (by assumption) (by first | assumption | rfl) | exact FzL.mk rfl rfl rfl (by assumption) (by first | assumption | rfl) (by decide) | (refine RowsZ.one ?_; cbv))))) ⟨Int.le_refl _, K0, by simp only; omega, by simp only; omega, hwa, huw, by simp only; omega, by simp only; rw [hacc2, ea0]; rfl⟩ ?_
  rintro ⟨j, a, ac, w1⟩ hinv2 Q2 hN2 hE2 hR2
  have hinv2 : 0 ≤ j ∧ j ≤ K ∧ -1099511627776 ≤ a ∧ a ≤ j * 1099511627776 ∧ w1 = ac.map nxRow ∧ Up0 w1 ∧ ac.length ≤ 12 * i.toNat + j.toNat ∧ (plc ss gseg goff a (l.drop j.toNat)).foldl addQ ac = (plcs ss gseg goff from_ (m.take i2.toNat)).foldl addQ [] := hinv2
  cbv
  obtain ⟨hj0, hj1, hq0, hq1, hw1a, huw1, hacl, hac⟩ := hinv2
  refine Idx.mk _ hi0 hqi ?_
  cbv
  simp only [eK]
  (split <;> rename_i hd <;> (try (simp only [hbin, hcmp, hun, hconv, hnot, hbeq, hmm, hscmp, hsadd, hslen, hsat, heqs, hofNat, binStd, cmpStd, unStd, scmpStd, maxI, Z.z1, Z.z2, Z.z3, Z.z4, Z.z5, Z.z6, if_true, if_false, Z.z7, beq_iff_eq, bne_iff_ne, ne_eq, Z.z8, Z.z9, Z.y1, beq_eq_false_iff_ne, bne_eq_false_iff_eq, Z.y2, Z.y3, Z.y4, Z.y5, reduceCtorEq] at hd)) <;> (try cbv))
  rotate_left 1
  · refine hE2 _ _ _ ?_
    cbv
    simp only [a4]
    rw [List.drop_of_length_le (by omega)] at hac
    refine hN (i2, ac, w1) _ _ ?hx ?hI hT2
    case hx => (refine Wk.eqz (id) (by first | exact fun i _ j _ e => e | (simp only [List.length_cons, List.length_nil]; decide)) ?_; cbv; (repeat' (first | exact trivial | rfl | assumption | apply And.intro | (simp only [hbin, hcmp, hun, hconv, hnot, hbeq, hmm, hscmp, hsadd, hslen, hsat, heqs, hofNat, binStd, cmpStd, unStd, scmpStd, maxI, Z.z1, Z.z2, Z.z3, Z.z4, Z.z5, Z.z6, if_true, if_false, Z.z7, beq_iff_eq, bne_iff_ne, ne_eq, Z.z8, Z.z9, Z.y1, beq_eq_false_iff_ne, bne_eq_false_iff_eq, Z.y2, Z.y3, Z.y4, Z.y5, reduceCtorEq]; first | done | assumption) | exact RowsZ.same (by assumption) (by first | assumption | rfl) | exact FzL.mk rfl rfl rfl (by assumption) (by first | assumption | rfl) (by decide) | (refine RowsZ.one ?_; cbv))))
    case hI => exact ⟨by simp only; omega, by simp only; omega, hw1a, huw1, hac⟩
  obtain ⟨c, hcj⟩ : ∃ c, l[j.toNat]? = some c := ⟨_, List.getElem?_eq_getElem (show j.toNat < l.length by omega)⟩
  have hxj : xs[j.toNat]? = some [.int .i64 c] := by rw [exs, List.getElem?_map, hcj]; rfl
  obtain ⟨hcs0, hcs1⟩ := hlw.seg c (List.mem_of_getElem? hcj)
  obtain ⟨⟨len, pps, nx⟩, hdc, hrow⟩ := get_map (f := sgRow) (ds := ss) (i := c) hcs0 hcs1
  obtain ⟨pq, epq⟩ : ∃ x, pps.map pcRow = x := ⟨_, rfl⟩
  obtain ⟨n1, en1⟩ : ∃ x, nx.map nxRow = x := ⟨_, rfl⟩
  have hrow : es[c.toNat]? = some [.int .i64 len, .list 2 pq, .list 1 n1] := by rw [hes, ← epq, ← en1]; exact hrow
  have hlen : lenAt ss c = len := by unfold lenAt; rw [hdc]
  have hlb := lenAt_le hln c
  rw [hlen] at hlb
  obtain ⟨j2, ej2⟩ : ∃ z, z = j + 1 := ⟨_, rfl⟩
  have a5 : wbin .add .i64 j 1 = j2 := by rw [hbin, ej2]; show IntKind.i64.wrap (j + 1) = j + 1; rw [IntKind.wrap_i64]; omega
  obtain ⟨a2, ea2⟩ : ∃ z, z = a + len := ⟨_, rfl⟩
  have a6 : wbin .add .i64 a len = a2 := by rw [hbin, ea2]; show IntKind.i64.wrap (a + len) = a + len; rw [IntKind.wrap_i64]; omega
  obtain ⟨p2, ep2⟩ : ∃ z, z = a + goff := ⟨_, rfl⟩
  have a7 : wbin .add .i64 a goff = p2 := by rw [hbin, ep2]; show IntKind.i64.wrap (a + goff) = a + goff; rw [IntKind.wrap_i64]; omega
  have hT3 : (K - j2).toNat < (K - j).toNat := by omega
  have hdr : plc ss gseg goff a (l.drop j.toNat) = (if c = gseg then [p2] else []) ++ plc ss gseg goff a2 (l.drop j2.toNat) := by
    rw [drop_get hcj, show j2.toNat = j.toNat + 1 by omega, ep2, ea2, ← hlen]; rfl
  rw [hdr] at hac
  clear hdr
  have hadd := e_add14 ac p2 (by omega) w1 hw1a
  obtain ⟨w2, ew2⟩ : ∃ x, x = (addQ ac p2).map nxRow := ⟨_, rfl⟩
  rw [← ew2] at hadd
  have huw2 : Up0 w2 := by rw [ew2]; exact up_nx _
  have hal2 := addQ_len ac p2
  repeat' (first
    | (refine Idx.mk _ hi0 hqi ?_; cbv)
    | (refine Idx.mk _ hj0 hxj ?_; cbv)
    | (refine Idx.mk _ hg hG ?_; cbv))
  (split <;> rename_i he <;> (try (simp only [hbin, hcmp, hun, hconv, hnot, hbeq, hmm, hscmp, hsadd, hslen, hsat, heqs, hofNat, binStd, cmpStd, unStd, scmpStd, maxI, Z.z1, Z.z2, Z.z3, Z.z4, Z.z5, Z.z6, if_true, if_false, Z.z7, beq_iff_eq, bne_iff_ne, ne_eq, Z.z8, Z.z9, Z.y1, beq_eq_false_iff_ne, bne_eq_false_iff_eq, Z.y2, Z.y3, Z.y4, Z.y5, reduceCtorEq] at he)) <;> (try cbv))
  · rw [if_pos he] at hac
    refine Idx.mk _ hg hG ?_
    cbv
    simp only [a7]
    first
      | refine Call.stepE (by rw [← hP]; exact hadd) (by exact Up0.one huw1 rfl) ?_
      | refine QCal.stepE (by rw [← hP]; exact hadd) (by exact Up0.one huw1 rfl) ?_
    cbv
    repeat' (first
      | (refine Idx.mk _ hi0 hqi ?_; cbv)
      | (refine Idx.mk _ hj0 hxj ?_; cbv)
      | (refine Idx.mk _ hcs0 hrow ?_; cbv))
    simp only [a5, a6]
    refine hN2 (j2, a2, addQ ac p2, w2) _ _ ?hx ?hI hT3
    case hx => (refine Wk.eqz (id) (by first | exact fun i _ j _ e => e | (simp only [List.length_cons, List.length_nil]; decide)) ?_; cbv; (repeat' (first | exact trivial | rfl | assumption | apply And.intro | (simp only [hbin, hcmp, hun, hconv, hnot, hbeq, hmm, hscmp, hsadd, hslen, hsat, heqs, hofNat, binStd, cmpStd, unStd, scmpStd, maxI, Z.z1, Z.z2, Z.z3, Z.z4, Z.z5, Z.z6, if_true, if_false, Z.z7, beq_iff_eq, bne_iff_ne, ne_eq, Z.z8, Z.z9, Z.y1, beq_eq_false_iff_ne, bne_eq_false_iff_eq, Z.y2, Z.y3, Z.y4, Z.y5, reduceCtorEq]; first | done | assumption) | exact RowsZ.same (by assumption) (by first | assumption | rfl) | exact FzL.mk rfl rfl rfl (by assumption) (by first | assumption | rfl) (by decide) | (refine RowsZ.one ?_; cbv))))
    case hI => exact ⟨by simp only; omega, by simp only; omega, by simp only; omega, by simp only; omega, ew2, huw2, by simp only; omega, hac⟩
  · rw [if_neg he] at hac
    repeat' (first
      | (refine Idx.mk _ hi0 hqi ?_; cbv)
      | (refine Idx.mk _ hj0 hxj ?_; cbv)
      | (refine Idx.mk _ hcs0 hrow ?_; cbv))
    simp only [a5, a6]
    refine hN2 (j2, a2, ac, w1) _ _ ?hx ?hI hT3
    case hx => (refine Wk.eqz (id) (by first | exact fun i _ j _ e => e | (simp only [List.length_cons, List.length_nil]; decide)) ?_; cbv; (repeat' (first | exact trivial | rfl | assumption | apply And.intro | (simp only [hbin, hcmp, hun, hconv, hnot, hbeq, hmm, hscmp, hsadd, hslen, hsat, heqs, hofNat, binStd, cmpStd, unStd, scmpStd, maxI, Z.z1, Z.z2, Z.z3, Z.z4, Z.z5, Z.z6, if_true, if_false, Z.z7, beq_iff_eq, bne_iff_ne, ne_eq, Z.z8, Z.z9, Z.y1, beq_eq_false_iff_ne, bne_eq_false_iff_eq, Z.y2, Z.y3, Z.y4, Z.y5, reduceCtorEq]; first | done | assumption) | exact RowsZ.same (by assumption) (by first | assumption | rfl) | exact FzL.mk rfl rfl rfl (by assumption) (by first | assumption | rfl) (by decide) | (refine RowsZ.one ?_; cbv))))
    case hI => exact ⟨by simp only; omega, by simp only; omega, by simp only; omega, by simp only; omega, hw1a, huw1, by simp only; omega, hac⟩
end Go.Proofs.Ytpiocfmdjgbamaa

/- What a growth may tell; places as rows. -/
set_option linter.unusedVariables false
set_option linter.unusedSimpArgs false
namespace Go.Proofs.Ytpiocfmdjgbamaa
open Go Go.RowKit Go.Eng
set_option maxRecDepth 100000
def plRow (p : Int × Int) : List AV := [.int .i64 p.1, .int .i64 p.2]
theorem up_pl (ps : List (Int × Int)) : Up0 (ps.map plRow) := up_map (f := plRow) (fun d => rfl) ps
theorem growA_e {ss : List Sg} {lo hi from_ : Int} {ls : List (List Int)} {v1 v3 : Int} {v2 : List (List Int)} (h : ((v1, v2), v3) = growA ss lo hi from_ ls) : v3 = 0 ∨ v3 = 13 ∨ v3 = 40 := by
  have he := growS_e (ss := ss) (lo := lo) (hi := hi) (from_ := from_) ls
  unfold growA at h
  split at h
  · simp only [Prod.mk.injEq] at h; exact .inr (.inr h.2)
  · split at h
    · simp only [Prod.mk.injEq] at h; rw [h.2]; exact he.imp id .inl
    · split at h
      · simp only [Prod.mk.injEq] at h; exact .inr (.inr h.2)
      · simp only [Prod.mk.injEq] at h; exact .inl h.2
end Go.Proofs.Ytpiocfmdjgbamaa

/- A configuration that may be, by the engine. -/
set_option linter.unusedVariables false
set_option linter.unusedSimpArgs false
namespace Go.Proofs.Ytpiocfmdjgbamaa
open Go Go.RowKit Go.Eng
set_option maxRecDepth 100000
theorem e_up13 (a b : Int) (h1 : 1 ≤ a) (h2 : a ≤ 8388608) (h3 : 1 ≤ b) (h4 : b ≤ 1024) : PCalls Try.prog 71 [.int .i64 a, .int .i64 b] (· = .int .i64 ((a + b - 1) / b)) := by
  (refine PCalls.ofY Try.func71 (by kernel_rfl) (by kernel_rfl) fun w hw R hR => ?_); (conv => arg 2; cbv); (generalize hP : Try.prog = P); cbv
  subst hw
  have e1 : IntKind.i64.wrap (IntKind.i64.wrap (a + b) - 1) = a + b - 1 := by rw [IntKind.wrap_i64, IntKind.wrap_i64]; omega
  refine Nz.mk (by omega) ?_
  refine ⟨_, Vw.same rfl, hR _ (congrArg (AV.int .i64) ?_)⟩
  show IntKind.i64.wrap ((IntKind.i64.wrap (IntKind.i64.wrap (a + b) - 1)).tdiv b) = _
  rw [e1]
  have h5 : (a + b - 1).tdiv b = (a + b - 1) / b := Int.tdiv_eq_ediv_of_nonneg (by omega)
  have h6 : (a + b - 1) / b ≤ a + b - 1 := Int.ediv_le_self _ (by omega)
  have h7 : 0 ≤ (a + b - 1) / b := Int.ediv_nonneg (by omega) (by omega)
  rw [h5, IntKind.wrap_i64]; omega
def ConfOk (c0 c1 c2 c3 c4 c5 c6 c7 c8 c9 c10 c11 c12 c13 : Int) : Prop :=
  (1 ≤ c0 ∧ c0 ≤ 1024) ∧ (131072 ≤ c1 ∧ c1 ≤ 8388608 ∧ c1 ≤ c2 ∧ c2 ≤ 8388608) ∧ (c2 - c1) * 16 ≤ c1 ∧ (0 ≤ c3 ∧ c3 ≤ 1048576 ∧ 0 ≤ c4 ∧ c4 ≤ 65536) ∧ (0 ≤ c5 ∧ c5 ≤ 1048576) ∧ (1 ≤ c6 ∧ c6 ≤ 16777216 ∧ 1 ≤ c7 ∧ c7 ≤ 1048576) ∧ c6 * c0 ≤ 32000 * c1 ∧ (0 ≤ c8 ∧ c8 ≤ 1048576) ∧ (1 ≤ c9 ∧ c9 ≤ 1000 ∧ 1 ≤ c12 ∧ c12 ≤ 1000) ∧ ((c2 + c0 - 1) / c0 ≤ c10 ∧ 3 * c3 ≤ c10 ∧ c10 ≤ 16777216) ∧ (0 ≤ c11 ∧ c11 ≤ 1073741824) ∧ (1 ≤ c13 ∧ c13 ≤ 1048576)
/-- The first rule that does not hold. -/
def wrongV (c0 c1 c2 c3 c4 c5 c6 c7 c8 c9 c10 c11 c12 c13 : Int) : Int :=
  if c0 < 1 ∨ 1024 < c0 then 1 else
  if c1 < 131072 ∨ 8388608 < c1 ∨ c2 < c1 ∨ 8388608 < c2 then 2 else
  if c1 < IntKind.i64.wrap (IntKind.i64.wrap (c2 - c1) * 16) then 3 else
  if c3 < 0 ∨ 1048576 < c3 ∨ c4 < 0 ∨ 65536 < c4 then 4 else
  if c5 < 0 ∨ 1048576 < c5 then 5 else
  if c6 < 1 ∨ 16777216 < c6 ∨ c7 < 1 ∨ 1048576 < c7 then 6 else
  if IntKind.i64.wrap (32000 * c1) < IntKind.i64.wrap (c6 * c0) then 7 else
  if c8 < 0 ∨ 1048576 < c8 then 8 else
  if c9 < 1 ∨ 1000 < c9 ∨ c12 < 1 ∨ 1000 < c12 then 9 else
  if c10 < (c2 + c0 - 1) / c0 ∨ c10 < IntKind.i64.wrap (3 * c3) ∨ 16777216 < c10 then 10 else
  if c11 < 0 ∨ 1073741824 < c11 then 11 else
  if c13 < 1 ∨ 1048576 < c13 then 12 else 0
theorem ite_zero {p : Prop} [Decidable p] {a b : Int} (h : (if p then a else b) = 0) (ha : a ≠ 0) : ¬ p ∧ b = 0 := by
  by_cases hp : p
  · rw [if_pos hp] at h; exact absurd h ha
  · rw [if_neg hp] at h; exact ⟨hp, h⟩
theorem wrong_ok {c0 c1 c2 c3 c4 c5 c6 c7 c8 c9 c10 c11 c12 c13 : Int} (h : wrongV c0 c1 c2 c3 c4 c5 c6 c7 c8 c9 c10 c11 c12 c13 = 0) : ConfOk c0 c1 c2 c3 c4 c5 c6 c7 c8 c9 c10 c11 c12 c13 := by
  unfold wrongV at h
  replace h := ite_zero h (by decide); have k1 := h.1; replace h := h.2
  replace h := ite_zero h (by decide); have k2 := h.1; replace h := h.2
  replace h := ite_zero h (by decide); have k3 := h.1; replace h := h.2
  replace h := ite_zero h (by decide); have k4 := h.1; replace h := h.2
  replace h := ite_zero h (by decide); have k5 := h.1; replace h := h.2
  replace h := ite_zero h (by decide); have k6 := h.1; replace h := h.2
  replace h := ite_zero h (by decide); have k7 := h.1; replace h := h.2
  replace h := ite_zero h (by decide); have k8 := h.1; replace h := h.2
  replace h := ite_zero h (by decide); have k9 := h.1; replace h := h.2
  replace h := ite_zero h (by decide); have k10 := h.1; replace h := h.2
  replace h := ite_zero h (by decide); have k11 := h.1; replace h := h.2
  replace h := ite_zero h (by decide); have k12 := h.1; replace h := h.2
  clear h
  have b1 : IntKind.i64.wrap (IntKind.i64.wrap (c2 - c1) * 16) = (c2 - c1) * 16 := by rw [IntKind.wrap_i64, IntKind.wrap_i64]; omega
  have b2 : c6 * c0 ≤ 16777216 * 1024 := Int.mul_le_mul (by omega) (by omega) (by omega) (by omega)
  have b3 : 0 ≤ c6 * c0 := Int.mul_nonneg (by omega) (by omega)
  have b4 : IntKind.i64.wrap (c6 * c0) = c6 * c0 := by rw [IntKind.wrap_i64]; omega
  have b5 : IntKind.i64.wrap (32000 * c1) = 32000 * c1 := by rw [IntKind.wrap_i64]; omega
  have b6 : IntKind.i64.wrap (3 * c3) = 3 * c3 := by rw [IntKind.wrap_i64]; omega
  unfold ConfOk
  rw [b1] at k3
  rw [b4, b5] at k7
  rw [b6] at k10
  clear b1 b2 b3 b4 b5 b6
  and_intros <;> omega
set_option maxHeartbeats 4000000 in
theorem e_wrong (c0 c1 c2 c3 c4 c5 c6 c7 c8 c9 c10 c11 c12 c13 : Int) : PCalls Try.prog 43 [.agg [.int .i64 c0, .int .i64 c1, .int .i64 c2, .int .i64 c3, .int .i64 c4, .int .i64 c5, .int .i64 c6, .int .i64 c7, .int .i64 c8, .int .i64 c9, .int .i64 c10, .int .i64 c11, .int .i64 c12, .int .i64 c13]] (· = .int .i64 (wrongV c0 c1 c2 c3 c4 c5 c6 c7 c8 c9 c10 c11 c12 c13)) := by
  (refine PCalls.ofY Try.func43 (by kernel_rfl) (by kernel_rfl) fun w hw R hR => ?_); (conv => arg 2; cbv); (generalize hP : Try.prog = P); cbv
  have hR' : ∀ n, n = wrongV c0 c1 c2 c3 c4 c5 c6 c7 c8 c9 c10 c11 c12 c13 → R (.int .i64 n) := fun n h => hR _ (by rw [h])
  clear hR
  repeat' (first | (refine ⟨_, Vw.same rfl, hR' _ ?_⟩; unfold wrongV; (repeat rw [if_neg (by omega)]); rw [if_pos (by omega)]; done) | (split <;> rename_i hb <;> (try (rw [hw] at hb)) <;> (try (simp only [std, binStd, cmpStd, unStd, scmpStd, maxI, Bool.not_eq_true', Bool.not_eq_false', decide_eq_true_eq, decide_eq_false_iff_not, Int.not_lt, Int.not_le, if_true, if_false, Bool.false_eq_true, beq_iff_eq, bne_iff_ne, ne_eq, Bool.not_eq_eq_eq_not, Bool.not_true, Bool.not_false, beq_eq_false_iff_ne, bne_eq_false_iff_eq, Int.ofNat_eq_natCast] at hb)) <;> (try cbv)))
  refine QCal.stepE (by rw [← hP]; exact e_up13 c2 c0 (by omega) (by omega) (by omega) (by omega)) rfl ?_
  generalize hu : (c2 + c0 - 1) / c0 = u at *
  cbv
  repeat' (first | (refine ⟨_, Vw.same rfl, hR' _ ?_⟩; unfold wrongV; rw [hu]; (repeat rw [if_neg (by omega)]); (first | done | (rw [if_pos (by omega)]; done))) | (split <;> rename_i hb <;> (try (rw [hw] at hb)) <;> (try (simp only [std, binStd, cmpStd, unStd, scmpStd, maxI, Bool.not_eq_true', Bool.not_eq_false', decide_eq_true_eq, decide_eq_false_iff_not, Int.not_lt, Int.not_le, if_true, if_false, Bool.false_eq_true, beq_iff_eq, bne_iff_ne, ne_eq, Bool.not_eq_eq_eq_not, Bool.not_true, Bool.not_false, beq_eq_false_iff_ne, bne_eq_false_iff_eq, Int.ofNat_eq_natCast] at hb)) <;> (try cbv)))
end Go.Proofs.Ytpiocfmdjgbamaa

/- LinkFits, by the engine. -/
set_option linter.unusedVariables false
set_option linter.unusedSimpArgs false
namespace Go.Proofs.Ytpiocfmdjgbamaa
open Go Go.RowKit Go.Eng
set_option maxRecDepth 100000
theorem e_placesNo (es ds rs : List (List AV)) (hu : Up0 es) (hud : Up0 ds) (hur : Up0 rs) (from_ g : Int) (hg : g < 0 ∨ ds.length ≤ g.toNat) : PCalls Try.prog 49 [.agg [.int .i64 from_, .list 13 rs], .agg [.list 3 es, .list 5 ds], .int .i64 g] (· = .nils) := by
  (refine PCalls.ofY Try.func49 (by kernel_rfl) (by kernel_rfl) fun w hw R hR => ?_); (obtain ⟨wbin, wcmp, wun, wconv, wnot, wbeq, wmm, wscmp, wsadd, wslen, wsat, weqs, wlen, wnlen, wofNat, wtake, wdrop, wapp, wzero, wnat⟩ := w); (have hbin := Z.w1 hw); (have hcmp := Z.w2 hw); (have hun := Z.w3 hw); (have hconv := Z.w4 hw); (have hnot := Z.w5 hw); (have hbeq := Z.w6 hw); (have hmm := Z.w7 hw); (have hscmp := Z.w8 hw); (have hsadd := Z.w9 hw); (have hslen := Z.w10 hw); (have hsat := Z.w11 hw); (have heqs := Z.w12 hw); (have hlen := Z.w13 hw); (have hnlen := Z.w14 hw); (have hofNat := Z.w15 hw); (have htake := Z.w16 hw); (have hdrop := Z.w17 hw); (have happ := Z.w18 hw); (have hzero := Z.w19 hw); (have hnat := Z.w20 hw); (conv => arg 2; cbv); (generalize hP : Try.prog = P); cbv
  (obtain ⟨J, eJ, J0, Jn⟩ : ∃ L : Int, wlen ds = L ∧ 0 ≤ L ∧ L.toNat = ds.length := ⟨(ds.length : Int), by rw [hlen], Int.natCast_nonneg _, Int.toNat_natCast _⟩)
  repeat' (first | exact ⟨_, Vw.same rfl, hR _ rfl⟩ | (exfalso; omega) | (split <;> rename_i h <;> (try (simp only [eJ] at h)) <;> (try (simp only [hbin, hcmp, hun, hconv, hnot, hbeq, hmm, hscmp, hsadd, hslen, hsat, heqs, hofNat, binStd, cmpStd, unStd, scmpStd, maxI, Z.z1, Z.z2, Z.z3, Z.z4, Z.z5, Z.z6, if_true, if_false, Z.z7, beq_iff_eq, bne_iff_ne, ne_eq, Z.z8, Z.z9, Z.y1, beq_eq_false_iff_ne, bne_eq_false_iff_eq, Z.y2, Z.y3, Z.y4, Z.y5, reduceCtorEq] at h)) <;> (try cbv)))
  all_goals (exfalso; omega)
theorem e_fittingNo (c0 c1 c2 c3 c4 c5 c6 c7 c8 c9 c10 c11 c12 c13 : Int) (es ds rs : List (List AV)) (hu : Up0 es) (hud : Up0 ds) (hur : Up0 rs) (from_ lo hi g : Int) (hg : g < 0 ∨ ds.length ≤ g.toNat) :
    PCalls Try.prog 45 [.agg [.int .i64 c0, .int .i64 c1, .int .i64 c2, .int .i64 c3, .int .i64 c4, .int .i64 c5, .int .i64 c6, .int .i64 c7, .int .i64 c8, .int .i64 c9, .int .i64 c10, .int .i64 c11, .int .i64 c12, .int .i64 c13], .agg [.list 3 es, .list 5 ds], .agg [.int .i64 from_, .list 13 rs], .agg [.int .i64 lo, .int .i64 hi], .int .i64 g] (· = .list 1 []) := by
  have hup : uptoL 0 [AV.agg [.int .i64 from_, .list 13 rs], .agg [.list 3 es, .list 5 ds], .int .i64 g] = true := by simp only [uptoL, AV.upto, hu.get, hud.get, hur.get]; rfl
  (refine PCalls.ofY Try.func45 (by kernel_rfl) (by kernel_rfl) fun w hw R hR => ?_); (obtain ⟨wbin, wcmp, wun, wconv, wnot, wbeq, wmm, wscmp, wsadd, wslen, wsat, weqs, wlen, wnlen, wofNat, wtake, wdrop, wapp, wzero, wnat⟩ := w); (have hbin := Z.w1 hw); (have hcmp := Z.w2 hw); (have hun := Z.w3 hw); (have hconv := Z.w4 hw); (have hnot := Z.w5 hw); (have hbeq := Z.w6 hw); (have hmm := Z.w7 hw); (have hscmp := Z.w8 hw); (have hsadd := Z.w9 hw); (have hslen := Z.w10 hw); (have hsat := Z.w11 hw); (have heqs := Z.w12 hw); (have hlen := Z.w13 hw); (have hnlen := Z.w14 hw); (have hofNat := Z.w15 hw); (have htake := Z.w16 hw); (have hdrop := Z.w17 hw); (have happ := Z.w18 hw); (have hzero := Z.w19 hw); (have hnat := Z.w20 hw); (conv => arg 2; cbv); (generalize hP : Try.prog = P); cbv
  refine Call.stepE (by rw [← hP]; exact e_placesNo es ds rs hu hud hur from_ g hg) (by exact hup) ?_
  cbv
  (refine Loop.rounds hw 1 ?_; cbv)
  have w00 : wofNat 0 = 0 := by rw [hofNat]; rfl
  repeat' (first | exact ⟨_, Vw.nil 1, hR _ rfl⟩ | (split <;> rename_i h1 <;> (try (simp only [w00] at h1)) <;> (try (simp only [hbin, hcmp, hun, hconv, hnot, hbeq, hmm, hscmp, hsadd, hslen, hsat, heqs, hofNat, binStd, cmpStd, unStd, scmpStd, maxI, Z.z1, Z.z2, Z.z3, Z.z4, Z.z5, Z.z6, if_true, if_false, Z.z7, beq_iff_eq, bne_iff_ne, ne_eq, Z.z8, Z.z9, Z.y1, beq_eq_false_iff_ne, bne_eq_false_iff_eq, Z.y2, Z.y3, Z.y4, Z.y5, reduceCtorEq] at h1)) <;> (try cbv)))
  all_goals (exfalso; omega)
set_option maxHeartbeats 4000000 in
theorem e_lfits (c0 c1 c2 c3 c4 c5 c6 c7 c8 c9 c10 c11 c12 c13 : Int) (ss : List Sg) (gs : List Gr) (es ds : List (List AV)) (hes : es = ss.map sgRow) (hds : ds = gs.map grRow) (sg from_ a b c d g : Int) :
    PCalls Try.prog 10 [.agg [.int .i64 c0, .int .i64 c1, .int .i64 c2, .int .i64 c3, .int .i64 c4, .int .i64 c5, .int .i64 c6, .int .i64 c7, .int .i64 c8, .int .i64 c9, .int .i64 c10, .int .i64 c11, .int .i64 c12, .int .i64 c13], .agg [.list 3 es, .list 5 ds], .int .i64 sg, .int .i64 from_, .agg [.int .i64 a, .int .i64 b], .agg [.int .i64 c, .int .i64 d], .int .i64 g] (· = .bool true) := by
  have hu : Up0 es := by rw [hes]; exact up_sg ss
  have hud : Up0 ds := by rw [hds]; exact up_gr gs
  have hdl : ds.length = gs.length := by rw [hds]; simp
  have hT : uptoL 0 [AV.agg [.list 3 es, .list 5 ds], .int .i64 sg, .int .i64 from_] = true := Bool.and_eq_true_iff.mpr ⟨Up0.one hu (Up0.one hud rfl), rfl⟩
  obtain ⟨w0, ew0⟩ : ∃ w, wrongV c0 c1 c2 c3 c4 c5 c6 c7 c8 c9 c10 c11 c12 c13 = w := ⟨_, rfl⟩
  have hwr := e_wrong c0 c1 c2 c3 c4 c5 c6 c7 c8 c9 c10 c11 c12 c13
  rw [ew0] at hwr
  obtain ⟨o1, eo1⟩ : ∃ o, decide (a ≤ b ∧ -35184372088832 ≤ a ∧ b ≤ 35184372088832) = o := ⟨_, rfl⟩
  obtain ⟨o2, eo2⟩ : ∃ o, decide (c ≤ d ∧ -35184372088832 ≤ c ∧ d ≤ 35184372088832) = o := ⟨_, rfl⟩
  have s1 := e_small20 a b o1 eo1
  have s2 := e_small20 c d o2 eo2
  (refine PCalls.ofY Try.func10 (by kernel_rfl) (by kernel_rfl) fun w hw R hR => ?_); (obtain ⟨wbin, wcmp, wun, wconv, wnot, wbeq, wmm, wscmp, wsadd, wslen, wsat, weqs, wlen, wnlen, wofNat, wtake, wdrop, wapp, wzero, wnat⟩ := w); (have hbin := Z.w1 hw); (have hcmp := Z.w2 hw); (have hun := Z.w3 hw); (have hconv := Z.w4 hw); (have hnot := Z.w5 hw); (have hbeq := Z.w6 hw); (have hmm := Z.w7 hw); (have hscmp := Z.w8 hw); (have hsadd := Z.w9 hw); (have hslen := Z.w10 hw); (have hsat := Z.w11 hw); (have heqs := Z.w12 hw); (have hlen := Z.w13 hw); (have hnlen := Z.w14 hw); (have hofNat := Z.w15 hw); (have htake := Z.w16 hw); (have hdrop := Z.w17 hw); (have happ := Z.w18 hw); (have hzero := Z.w19 hw); (have hnat := Z.w20 hw); (conv => arg 2; cbv); (generalize hP : Try.prog = P); cbv
  have hW : ∀ h : AHeap, Ret [.bool true] h R := fun h => ⟨_, Vw.same rfl, hR _ rfl⟩
  have n1 : wnot true = false := by rw [hnot]; rfl
  have n2 : wnot false = true := by rw [hnot]; rfl
  (obtain ⟨J, eJ, J0, Jn⟩ : ∃ L : Int, wlen ds = L ∧ 0 ≤ L ∧ L.toNat = ds.length := ⟨(ds.length : Int), by rw [hlen], Int.natCast_nonneg _, Int.toNat_natCast _⟩)
  refine Call.stepE (by rw [← hP]; exact e_anchor20) rfl ?_
  cbv
  simp only [n1]
  cbv
  refine Call.stepE (by rw [← hP]; exact hwr) rfl ?_
  cbv
  (split <;> rename_i h0 <;> (try (simp only [hbin, hcmp, hun, hconv, hnot, hbeq, hmm, hscmp, hsadd, hslen, hsat, heqs, hofNat, binStd, cmpStd, unStd, scmpStd, maxI, Z.z1, Z.z2, Z.z3, Z.z4, Z.z5, Z.z6, if_true, if_false, Z.z7, beq_iff_eq, bne_iff_ne, ne_eq, Z.z8, Z.z9, Z.y1, beq_eq_false_iff_ne, bne_eq_false_iff_eq, Z.y2, Z.y3, Z.y4, Z.y5, reduceCtorEq] at h0)) <;> (try cbv))
  · exact hW _
  refine Call.step (by rw [← hP]; exact e_may20 ss gs es ds hes hds sg from_) (by exact hT) ?_
  rintro r ⟨o, rfl, ho⟩
  cbv
  (split <;> rename_i h1 <;> (try (simp only [hbin, hcmp, hun, hconv, hnot, hbeq, hmm, hscmp, hsadd, hslen, hsat, heqs, hofNat, binStd, cmpStd, unStd, scmpStd, maxI, Z.z1, Z.z2, Z.z3, Z.z4, Z.z5, Z.z6, if_true, if_false, Z.z7, beq_iff_eq, bne_iff_ne, ne_eq, Z.z8, Z.z9, Z.y1, beq_eq_false_iff_ne, bne_eq_false_iff_eq, Z.y2, Z.y3, Z.y4, Z.y5, reduceCtorEq] at h1)) <;> (try cbv))
  · exact hW _
  have hM := ho h1
  have hC := wrong_ok (show wrongV c0 c1 c2 c3 c4 c5 c6 c7 c8 c9 c10 c11 c12 c13 = 0 by omega)
  refine Call.stepE (by rw [← hP]; exact s1) rfl ?_
  cbv
  (split <;> rename_i h2 <;> (try (simp only [hbin, hcmp, hun, hconv, hnot, hbeq, hmm, hscmp, hsadd, hslen, hsat, heqs, hofNat, binStd, cmpStd, unStd, scmpStd, maxI, Z.z1, Z.z2, Z.z3, Z.z4, Z.z5, Z.z6, if_true, if_false, Z.z7, beq_iff_eq, bne_iff_ne, ne_eq, Z.z8, Z.z9, Z.y1, beq_eq_false_iff_ne, bne_eq_false_iff_eq, Z.y2, Z.y3, Z.y4, Z.y5, reduceCtorEq] at h2)) <;> (try cbv))
  · exact hW _
  refine Call.stepE (by rw [← hP]; exact s2) rfl ?_
  cbv
  (split <;> rename_i h3 <;> (try (simp only [hbin, hcmp, hun, hconv, hnot, hbeq, hmm, hscmp, hsadd, hslen, hsat, heqs, hofNat, binStd, cmpStd, unStd, scmpStd, maxI, Z.z1, Z.z2, Z.z3, Z.z4, Z.z5, Z.z6, if_true, if_false, Z.z7, beq_iff_eq, bne_iff_ne, ne_eq, Z.z8, Z.z9, Z.y1, beq_eq_false_iff_ne, bne_eq_false_iff_eq, Z.y2, Z.y3, Z.y4, Z.y5, reduceCtorEq] at h3)) <;> (try cbv))
  · exact hW _
  have k1 : a ≤ b ∧ -35184372088832 ≤ a ∧ b ≤ 35184372088832 := by rw [h2] at eo1; simpa using eo1
  have k2 : c ≤ d ∧ -35184372088832 ≤ c ∧ d ≤ 35184372088832 := by rw [h3] at eo2; simpa using eo2
  have hnx := hM.tr.nextOk
  have hln := hM.tr.lensOk
  have hfr := hM.fr
  obtain ⟨r0, er0⟩ : ∃ r : List (List AV), r = [[sg]].map rtC := ⟨_, rfl⟩
  obtain ⟨q0, eq0⟩ : ∃ r : List (List AV), r = [[sg]].map rtRow := ⟨_, rfl⟩
  have hbeg := e_begin sg from_ sg rfl
  have hbeg : PCalls Try.prog 18 [.int .i64 sg, .int .i64 from_] (· = .agg [.int .i64 from_, .list 13 r0]) := by rw [er0]; exact hbeg
  have hur0 : Up0 r0 := by rw [er0]; exact ⟨rfl⟩
  have huq0 : Up0 q0 := by rw [eq0]; exact ⟨rfl⟩
  have hway : ∀ l, l ∈ [[sg]] → WayOk ss l := fun l hl => by
    simp at hl; subst hl
    exact ⟨by simp, fun n hn => by simp at hn; subst hn; exact hM.seg⟩
  have href := e_refsT20 ss gs es ds hes hds (by have := hM.n300; omega) (by have := hM.g500; omega) hM.ps
  have hut2 : uptoL 0 [AV.agg [.list 3 es, .list 5 ds]] = true := Bool.and_eq_true_iff.mpr ⟨Up0.one hu (Up0.one hud rfl), rfl⟩
  obtain ⟨v, ev⟩ : ∃ v, v = growA ss a b from_ [[sg]] := ⟨_, rfl⟩
  have hA := e_grows ss gs es ds hes hds hln hnx a b from_ hfr [[sg]] hway (by simp) r0 er0 v ev
  have hB := e_rgrow ss gs es ds hes hds hln hnx a b from_ hfr [[sg]] hway (by simp) q0 eq0 v (by rw [ev, growA_eq hnx [[sg]] hway])
  have hcase := growA_ok hnx [[sg]] hway ev
  obtain ⟨⟨v1, m⟩, v3⟩ := v
  obtain ⟨us, eus⟩ : ∃ x, x = m.map rtC := ⟨_, rfl⟩
  obtain ⟨ys, eys⟩ : ∃ x, x = m.map rtRow := ⟨_, rfl⟩
  have hA : PCalls Try.prog 19 [.agg [.int .i64 from_, .list 13 r0], .agg [.list 3 es, .list 5 ds], .agg [.int .i64 a, .int .i64 b]] (· = .tuple [.agg [.int .i64 v1, .list 13 us], .int .i64 v3]) := by rw [eus]; exact hA
  have hB : PCalls Try.prog 37 [.agg [.list 3 es, .list 5 ds], .agg [.int .i64 from_, .list 1 q0], .int .i64 a, .int .i64 b] (· = .tuple [.agg [.int .i64 v1, .list 1 ys], .int .i64 v3]) := by rw [eys]; exact hB
  have huus : Up0 us := by rw [eus]; exact up_map (f := rtC) (fun d => rfl) m
  have huys : Up0 ys := by rw [eys]; exact up_rt m
  refine QCal.stepE (by rw [← hP]; exact hbeg) rfl ?_
  cbv
  refine QCal.stepE (by rw [← hP]; exact hA) (by simp only [uptoL, AV.upto, hu.get, hud.get, hur0.get]; rfl) ?_
  cbv
  (split <;> rename_i h4 <;> (try (simp only [hbin, hcmp, hun, hconv, hnot, hbeq, hmm, hscmp, hsadd, hslen, hsat, heqs, hofNat, binStd, cmpStd, unStd, scmpStd, maxI, Z.z1, Z.z2, Z.z3, Z.z4, Z.z5, Z.z6, if_true, if_false, Z.z7, beq_iff_eq, bne_iff_ne, ne_eq, Z.z8, Z.z9, Z.y1, beq_eq_false_iff_ne, bne_eq_false_iff_eq, Z.y2, Z.y3, Z.y4, Z.y5, reduceCtorEq] at h4)) <;> (try cbv))
  · exact hW _
  have hgr : v1 = from_ ∧ Grown ss a b from_ m := by
    rcases hcase with h | h
    · exact absurd h4 h.1
    · exact h.2
  obtain ⟨hv1, hG⟩ := hgr
  subst hv1
  have hmw : ∀ l, l ∈ m → WayOk ss l := fun l hl => (hG.ways l hl).1
  have hfew := hG.few
  by_cases hgn : g < 0 ∨ ds.length ≤ g.toNat
  · refine Call.stepE (by rw [← hP]; exact e_fittingNo c0 c1 c2 c3 c4 c5 c6 c7 c8 c9 c10 c11 c12 c13 es ds us hu hud huus v1 c d g hgn) (by simp only [uptoL, AV.upto, hu.get, hud.get, huus.get]; rfl) ?_
    cbv
    repeat' (first | (exfalso; omega) | (split <;> rename_i h <;> (try (simp only [eJ] at h)) <;> (try (simp only [hbin, hcmp, hun, hconv, hnot, hbeq, hmm, hscmp, hsadd, hslen, hsat, heqs, hofNat, binStd, cmpStd, unStd, scmpStd, maxI, Z.z1, Z.z2, Z.z3, Z.z4, Z.z5, Z.z6, if_true, if_false, Z.z7, beq_iff_eq, bne_iff_ne, ne_eq, Z.z8, Z.z9, Z.y1, beq_eq_false_iff_ne, bne_eq_false_iff_eq, Z.y2, Z.y3, Z.y4, Z.y5, reduceCtorEq] at h)) <;> (try cbv)))
    all_goals (try (exfalso; omega))
    all_goals
      have z1 : wcmp .eql (wlen []) 0 = true := by rw [hlen, hcmp]; rfl
      simp only [z1]
      exact hW _
  obtain ⟨G, hG0⟩ : ∃ G, gs[g.toNat]? = some G := ⟨_, List.getElem?_eq_getElem (show g.toNat < gs.length by omega)⟩
  have hGo := hM.tr.grp g.toNat (by omega) G hG0
  obtain ⟨_, _, hq1, hq2, hq3, hq4, hq5, hq6, hq7, hq8, _⟩ := hGo
  have hoff : 0 ≤ G.off ∧ G.off ≤ 1099511627776 := by
    obtain ⟨s, hs⟩ : ∃ s, ss[G.seg.toNat]? = some s := ⟨_, List.getElem?_eq_getElem hq2⟩
    have h1 := hq4 s hs
    have h2 := (hM.tr.seg G.seg.toNat hq2 s hs).le
    omega
  have hpl := e_places ss gs es ds hes hds hln v1 hfr m (fun l hl => ⟨(hmw l hl).len.1, (hmw l hl).seg⟩) (by omega) us eus g (by omega) G hG0 hoff
  have hrp := e_rplaces ss gs es ds hes hds hln v1 hfr m hmw (by omega) ys eys g (by omega) G hG0 hoff
  have hGd : ds[g.toNat]? = some (grRow G) := by rw [hds, List.getElem?_map, hG0]; rfl
  have hgno : 0 ≤ g ∧ g < J := by omega
  obtain ⟨gid, gseg, goff, gacc, gsl⟩ := G
  simp only at hq1 hq2 hq3 hq5 hq6 hq7 hq8 hoff hpl hrp
  have hGd : ds[g.toNat]? = some [.int .i64 gid, .int .i64 gseg, .int .i64 goff, .int .i64 gacc, .int .i64 gsl] := hGd
  obtain ⟨ps, eps⟩ : ∃ x, x = plcR ss gseg goff v1 m := ⟨_, rfl⟩
  rw [← eps] at hpl hrp
  have hC8 : 0 ≤ c8 ∧ c8 ≤ 1048576 := by unfold ConfOk at hC; omega
  obtain ⟨w, ew⟩ : ∃ w, gacc + c8 + gsl = w := ⟨_, rfl⟩
  have hpsl : ps.length ≤ 12 * m.length := by
    have h1 := (adds_sorted (plcs ss gseg goff v1 m) [] List.Pairwise.nil).2.2
    have h2 := plcs_len ss gseg goff v1 m fun l hl => (hmw l hl).len.1
    have h3 : ps.length = (plcR ss gseg goff v1 m).length := by rw [eps]
    unfold plcR at h3
    simp only [List.length_nil] at h1
    omega
  have hpsb : ∀ x, x ∈ ps → -1125899906842624 ≤ x ∧ x ≤ 1125899906842624 := by
    rw [eps]
    exact plcR_bnd hln hfr hoff m fun l hl => (hmw l hl).len.1
  have hfit := e_fitting c0 c1 c2 c3 c4 c5 c6 c7 c8 c9 c10 c11 c12 c13 hC8 es ds us hu hud huus v1 c d g hgno.1 gid gseg goff gacc gsl hGd ⟨hq5, hq6⟩ ⟨hq7, hq8⟩ k2.1 w ew ps (by omega) hpsb hpl
  have hwin := e_window c0 c1 c2 c3 c4 c5 c6 c7 c8 c9 c10 c11 c12 c13 gid gseg goff gacc gsl w ew hC8 ⟨hq5, hq6⟩ ⟨hq7, hq8⟩
  obtain ⟨fs, efs⟩ : ∃ x, x = fitF w c d ps := ⟨_, rfl⟩
  rw [← efs] at hfit
  obtain ⟨fr_, efr⟩ : ∃ x, x = fs.map nxRow := ⟨_, rfl⟩
  obtain ⟨pr, epr⟩ : ∃ x, x = ps.map nxRow := ⟨_, rfl⟩
  rw [← efr] at hfit
  rw [← epr] at hrp
  have hufr : Up0 fr_ := by rw [efr]; exact up_nx fs
  have hupr : Up0 pr := by rw [epr]; exact up_nx ps
  have hfl : fr_.length = fs.length := by rw [efr]; simp
  have hprl : pr.length = ps.length := by rw [epr]; simp
  refine Call.stepE (by rw [← hP]; exact hfit) (by simp only [uptoL, AV.upto, hu.get, hud.get, huus.get]; rfl) ?_
  cbv
  repeat' (first | (exfalso; omega) | (split <;> rename_i h <;> (try (simp only [eJ] at h)) <;> (try (simp only [hbin, hcmp, hun, hconv, hnot, hbeq, hmm, hscmp, hsadd, hslen, hsat, heqs, hofNat, binStd, cmpStd, unStd, scmpStd, maxI, Z.z1, Z.z2, Z.z3, Z.z4, Z.z5, Z.z6, if_true, if_false, Z.z7, beq_iff_eq, bne_iff_ne, ne_eq, Z.z8, Z.z9, Z.y1, beq_eq_false_iff_ne, bne_eq_false_iff_eq, Z.y2, Z.y3, Z.y4, Z.y5, reduceCtorEq] at h)) <;> (try cbv)))
  all_goals (try (exfalso; omega))
  have eq1 : q0 = [[.list 1 [[.int .i64 sg]]]] := eq0
  refine QCal.stepE (by rw [← hP]; exact href) (by exact hut2) ?_
  cbv
  rw [← eq1]
  refine QCal.stepE (by rw [← hP]; exact hB) (by simp only [uptoL, AV.upto, hu.get, hud.get, huq0.get]; rfl) ?_
  cbv
  refine Idx.mk _ hgno.1 hGd ?_
  cbv
  obtain ⟨x1, ex1⟩ : ∃ z, gacc + c8 = z := ⟨_, rfl⟩
  have b1 : wbin .add .i64 gacc c8 = x1 := by rw [hbin, i_add (by omega) (by omega)]; exact ex1
  have b2 : wbin .add .i64 x1 gsl = w := by rw [hbin, i_add (by omega) (by omega)]; omega
  have cne : ∀ x, wcmp .neq x x = false := fun x => by rw [hcmp]; simp [cmpStd]
  simp only [b1, b2]
  refine Call.stepE (by rw [← hP]; exact hwin) rfl ?_
  cbv
  simp only [b1, b2, cne]
  cbv
  first
    | refine QCal.stepE (by rw [← hP]; exact href) (by exact hut2) ?_
    | refine Call.stepE (by rw [← hP]; exact href) (by exact hut2) ?_
  cbv
  first
    | refine QCal.stepE (by rw [← hP]; exact hrp) (by simp only [uptoL, AV.upto, hu.get, hud.get, huys.get]; rfl) ?_
    | refine Call.stepE (by rw [← hP]; exact hrp) (by simp only [uptoL, AV.upto, hu.get, hud.get, huys.get]; rfl) ?_
  cbv
  (obtain ⟨L, eL, L0, Ln⟩ : ∃ L : Int, wlen pr = L ∧ 0 ≤ L ∧ L.toNat = pr.length := ⟨(pr.length : Int), by rw [hlen], Int.natCast_nonneg _, Int.toNat_natCast _⟩)
  (obtain ⟨F, eF, F0, Fn⟩ : ∃ L : Int, wlen fr_ = L ∧ 0 ≤ L ∧ L.toNat = fr_.length := ⟨(fr_.length : Int), by rw [hlen], Int.natCast_nonneg _, Int.toNat_natCast _⟩)
  simp only [eL]
  refine Loop.data hw (S := Int × Int) (fun s => fr 152 [(12, .ref 3 2 0 0), (17, .list 1 fr_), (21, .int .i64 w), (22, .int .i64 s.2), (113, .list 1 pr), (114, .int .i64 L), (115, .int .i64 s.1)])
    (fun _ => [.live 14 [[.int .i64 c0, .int .i64 c1, .int .i64 c2, .int .i64 c3, .int .i64 c4, .int .i64 c5, .int .i64 c6, .int .i64 c7, .int .i64 c8, .int .i64 c9, .int .i64 c10, .int .i64 c11, .int .i64 c12, .int .i64 c13]], .live 2 [[.list 3 es, .list 5 ds]], .live 2 [[.int .i64 a, .int .i64 b]], .live 2 [[.int .i64 c, .int .i64 d]]])
    (fun s => 0 ≤ s.1 ∧ s.1 ≤ L ∧ 0 ≤ s.2 ∧ s.2.toNat = (fitF w c d (ps.take s.1.toNat)).length) (fun s => (L - s.1).toNat) (0, 0) (by (refine Wk.eqz (id) (by first | exact fun i _ j _ e => e | (simp only [List.length_cons, List.length_nil]; decide)) ?_; cbv; (repeat' (first | exact trivial | rfl | assumption | apply And.intro | (simp only [hbin, hcmp, hun, hconv, hnot, hbeq, hmm, hscmp, hsadd, hslen, hsat, heqs, hofNat, binStd, cmpStd, unStd, scmpStd, maxI, Z.z1, Z.z2, Z.z3, Z.z4, Z.z5, Z.z6, if_true, if_false, Z.z7, beq_iff_eq, bne_iff_ne, ne_eq, Z.z8, Z.z9, Z.y1, beq_eq_false_iff_ne, bne_eq_false_iff_eq, Z.y2, Z.y3, Z.y4, Z.y5, reduceCtorEq]; first | done | assumption) | exact RowsZ.same (by assumption) (by first | assumption | rfl) | exact FzL.mk rfl rfl rfl (by assumption) (by first | assumption | rfl) (by decide) | (refine RowsZ.one ?_; cbv))))) ⟨Int.le_refl _, L0, Int.le_refl _, rfl⟩ ?_
  rintro ⟨i, n⟩ hinv Q' hN hE hR'
  have hinv : 0 ≤ i ∧ i ≤ L ∧ 0 ≤ n ∧ n.toNat = (fitF w c d (ps.take i.toNat)).length := hinv
  cbv
  obtain ⟨hi0, hi1, hn0, hn1⟩ := hinv
  have hnl : (fitF w c d (ps.take i.toNat)).length ≤ ps.length := Nat.le_trans (List.length_filter_le _ _) (by simp; omega)
  (split <;> rename_i hc <;> (try (simp only [hbin, hcmp, hun, hconv, hnot, hbeq, hmm, hscmp, hsadd, hslen, hsat, heqs, hofNat, binStd, cmpStd, unStd, scmpStd, maxI, Z.z1, Z.z2, Z.z3, Z.z4, Z.z5, Z.z6, if_true, if_false, Z.z7, beq_iff_eq, bne_iff_ne, ne_eq, Z.z8, Z.z9, Z.y1, beq_eq_false_iff_ne, bne_eq_false_iff_eq, Z.y2, Z.y3, Z.y4, Z.y5, reduceCtorEq] at hc)) <;> (try cbv))
  rotate_left 1
  · refine hE _ _ _ ?_
    cbv
    rw [List.take_of_length_le (by omega), ← efs] at hn1
    have z1 : wcmp .eql n (wlen fr_) = true := by rw [eF, hcmp]; simp [cmpStd]; omega
    simp only [z1]
    exact hW _
  obtain ⟨x, hx⟩ : ∃ x, ps[i.toNat]? = some x := ⟨_, List.getElem?_eq_getElem (show i.toNat < ps.length by omega)⟩
  have hxr : pr[i.toNat]? = some [.int .i64 x] := by rw [epr, List.getElem?_map, hx]; rfl
  have hxb := hpsb x (List.mem_of_getElem? hx)
  obtain ⟨i2, ei2⟩ : ∃ z, z = i + 1 := ⟨_, rfl⟩
  have a4 : wbin .add .i64 i 1 = i2 := by rw [hbin, ei2]; show IntKind.i64.wrap (i + 1) = i + 1; rw [IntKind.wrap_i64]; omega
  have hT2 : (L - i2).toNat < (L - i).toNat := by omega
  have htk : ps.take i2.toNat = ps.take i.toNat ++ [x] := by rw [ei2]; exact take_next hi0 hx
  obtain ⟨y1, ey1⟩ : ∃ z, x + w = z := ⟨_, rfl⟩
  obtain ⟨y2, ey2⟩ : ∃ z, x - w = z := ⟨_, rfl⟩
  have b3 : wbin .add .i64 x w = y1 := by rw [hbin, i_add (by omega) (by omega)]; exact ey1
  have b4 : wbin .sub .i64 x w = y2 := by rw [hbin, i_sub (by omega) (by omega)]; exact ey2
  have hno : ¬ (y2 ≤ d ∧ c ≤ y1) → fitF w c d (ps.take i2.toNat) = fitF w c d (ps.take i.toNat) := fun h => by
    rw [htk]; unfold fitF; rw [List.filter_append]
    simp only [List.filter_cons, List.filter_nil, ey1, ey2]
    rw [if_neg (by simpa using h), List.append_nil]
  have hye : (y2 ≤ d ∧ c ≤ y1) → (fitF w c d (ps.take i2.toNat)).length = n.toNat + 1 ∧ fs[n.toNat]? = some x := fun h => by
    have e1 : fitF w c d (ps.take i2.toNat) = fitF w c d (ps.take i.toNat) ++ [x] := by
      rw [htk]; unfold fitF; rw [List.filter_append]
      simp only [List.filter_cons, List.filter_nil, ey1, ey2]
      rw [if_pos (by simpa using h)]
    refine ⟨by rw [e1, List.length_append, ← hn1]; rfl, ?_⟩
    have e2 : fs = fitF w c d (ps.take i2.toNat) ++ fitF w c d (ps.drop i2.toNat) := by rw [efs]; unfold fitF; rw [← List.filter_append, List.take_append_drop]
    rw [e2, e1, hn1, List.append_assoc, List.getElem?_append_right (Nat.le_refl _), Nat.sub_self]; rfl
  obtain ⟨n2, en2⟩ : ∃ z, z = n + 1 := ⟨_, rfl⟩
  have b5 : wbin .add .i64 n 1 = n2 := by rw [hbin, en2]; show IntKind.i64.wrap (n + 1) = n + 1; rw [IntKind.wrap_i64]; omega
  refine Idx.mk _ hi0 hxr ?_
  cbv
  by_cases hf : y2 ≤ d ∧ c ≤ y1
  · obtain ⟨g1, g2⟩ := hye hf
    have hfn := (List.getElem?_eq_some_iff.1 g2).1
    have hfrn : fr_[n.toNat]? = some [.int .i64 x] := by rw [efr, List.getElem?_map, g2]; rfl
    repeat' (first
      | (exfalso; omega)
      | (refine Idx.mk _ hn0 hfrn ?_; cbv)
      | (simp only [cne]; cbv)
      | (split <;> rename_i h6 <;> (try (simp only [b3, b4, eF] at h6)) <;> (try (simp only [hbin, hcmp, hun, hconv, hnot, hbeq, hmm, hscmp, hsadd, hslen, hsat, heqs, hofNat, binStd, cmpStd, unStd, scmpStd, maxI, Z.z1, Z.z2, Z.z3, Z.z4, Z.z5, Z.z6, if_true, if_false, Z.z7, beq_iff_eq, bne_iff_ne, ne_eq, Z.z8, Z.z9, Z.y1, beq_eq_false_iff_ne, bne_eq_false_iff_eq, Z.y2, Z.y3, Z.y4, Z.y5, reduceCtorEq] at h6)) <;> (try cbv)))
    simp only [a4, b5]
    refine hN (i2, n2) _ _ ?hx ?hI hT2
    case hx => (refine Wk.eqz (id) (by first | exact fun i _ j _ e => e | (simp only [List.length_cons, List.length_nil]; decide)) ?_; cbv; (repeat' (first | exact trivial | rfl | assumption | apply And.intro | (simp only [hbin, hcmp, hun, hconv, hnot, hbeq, hmm, hscmp, hsadd, hslen, hsat, heqs, hofNat, binStd, cmpStd, unStd, scmpStd, maxI, Z.z1, Z.z2, Z.z3, Z.z4, Z.z5, Z.z6, if_true, if_false, Z.z7, beq_iff_eq, bne_iff_ne, ne_eq, Z.z8, Z.z9, Z.y1, beq_eq_false_iff_ne, bne_eq_false_iff_eq, Z.y2, Z.y3, Z.y4, Z.y5, reduceCtorEq]; first | done | assumption) | exact RowsZ.same (by assumption) (by first | assumption | rfl) | exact FzL.mk rfl rfl rfl (by assumption) (by first | assumption | rfl) (by decide) | (refine RowsZ.one ?_; cbv))))
    case hI => exact ⟨by simp only; omega, by simp only; omega, by simp only; omega, by simp only; omega⟩
  · repeat' (first
      | (exfalso; omega)
      | (simp only [a4]; refine hN (i2, n) _ _ ?hx ?hI hT2; (case hx => (refine Wk.eqz (id) (by first | exact fun i _ j _ e => e | (simp only [List.length_cons, List.length_nil]; decide)) ?_; cbv; (repeat' (first | exact trivial | rfl | assumption | apply And.intro | (simp only [hbin, hcmp, hun, hconv, hnot, hbeq, hmm, hscmp, hsadd, hslen, hsat, heqs, hofNat, binStd, cmpStd, unStd, scmpStd, maxI, Z.z1, Z.z2, Z.z3, Z.z4, Z.z5, Z.z6, if_true, if_false, Z.z7, beq_iff_eq, bne_iff_ne, ne_eq, Z.z8, Z.z9, Z.y1, beq_eq_false_iff_ne, bne_eq_false_iff_eq, Z.y2, Z.y3, Z.y4, Z.y5, reduceCtorEq]; first | done | assumption) | exact RowsZ.same (by assumption) (by first | assumption | rfl) | exact FzL.mk rfl rfl rfl (by assumption) (by first | assumption | rfl) (by decide) | (refine RowsZ.one ?_; cbv))))); (case hI => exact ⟨by simp only; omega, by simp only; omega, hn0, by simp only; rw [hno hf]; exact hn1⟩))
      | (split <;> rename_i h6 <;> (try (simp only [b3, b4, eF] at h6)) <;> (try (simp only [hbin, hcmp, hun, hconv, hnot, hbeq, hmm, hscmp, hsadd, hslen, hsat, heqs, hofNat, binStd, cmpStd, unStd, scmpStd, maxI, Z.z1, Z.z2, Z.z3, Z.z4, Z.z5, Z.z6, if_true, if_false, Z.z7, beq_iff_eq, bne_iff_ne, ne_eq, Z.z8, Z.z9, Z.y1, beq_eq_false_iff_ne, bne_eq_false_iff_eq, Z.y2, Z.y3, Z.y4, Z.y5, reduceCtorEq] at h6)) <;> (try cbv)))
end Go.Proofs.Ytpiocfmdjgbamaa

/- LinkFits, joined. -/
set_option linter.unusedVariables false
set_option maxRecDepth 100000
namespace Go.Proofs.Ytpiocfmdjgbamaa
open Go Go.RowKit Go.Eng
theorem walk_LinkFits (x0 x1 x2 x3 x4 x5 x6 : AV) (h0 : TyV Try.prog 8 68 x0) (h1 : TyV Try.prog 8 25 x1) (h2 : TyV Try.prog 8 3 x2) (h3 : TyV Try.prog 8 2 x3) (h4 : TyV Try.prog 8 50 x4) (h5 : TyV Try.prog 8 50 x5) (h6 : TyV Try.prog 8 3 x6) : PCalls Try.prog 10 [x0, x1, x2, x3, x4, x5, x6] (fun r => r = .bool true) := by
  obtain ⟨c0, c1, c2, c3, c4, c5, c6, c7, c8, c9, c10, c11, c12, c13, rfl⟩ := ty_conf x0 h0
  obtain ⟨ss, gs, rfl⟩ := ty_track x1 h1
  obtain ⟨sg, rfl⟩ := ty_intS x2 h2
  obtain ⟨f, rfl, _, _⟩ := ty_i64 x3 h3
  obtain ⟨a, b, rfl⟩ := ty_span x4 h4
  obtain ⟨c, d, rfl⟩ := ty_span x5 h5
  obtain ⟨g, rfl⟩ := ty_intS x6 h6
  exact e_lfits c0 c1 c2 c3 c4 c5 c6 c7 c8 c9 c10 c11 c12 c13 ss gs _ _ rfl rfl sg f a b c d g
end Go.Proofs.Ytpiocfmdjgbamaa

