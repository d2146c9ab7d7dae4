/- Texts of the proof of RouteGrows, joined by wip/tools/pack.py. -/
import Derived.Test.YtpiocfmdjgbamaaRouteGrowsP2
import Derived.KernelRfl
import Derived.Test.YtpiocfmdjgbamaaEng33
import Derived.Test.YtpiocfmdjgbamaaEng28
/- odographlaw14: same, steps. -/
set_option linter.unusedVariables false
set_option linter.unusedSimpArgs false
namespace Go.Proofs.Ytpiocfmdjgbamaa
open Go Go.RowKit Go.Eng
set_option maxRecDepth 100000
set_option maxHeartbeats 2000000 in
theorem e_same14 (from_ : Int) (m : List (List Int)) (hm : ∀ l, l ∈ m → l.length ≤ 12) (hm16 : m.length ≤ 1000) (rs qs : List (List AV)) (hrs : rs = m.map rtC) (hqs : qs = m.map rtRow) :
    PCalls Try.prog 53 [.agg [.int .i64 from_, .list 13 rs], .agg [.int .i64 from_, .list 1 qs]] (· = .bool true) := by
  have hur : Up0 rs := by rw [hrs]; exact up_map (f := rtC) (fun d => rfl) m
  have huq : Up0 qs := by rw [hqs]; exact up_rt m
  have hrl : rs.length = m.length := by rw [hrs]; simp
  have hql : qs.length = m.length := by rw [hqs]; simp
  (refine PCalls.ofY Try.func53 (by kernel_rfl) (by kernel_rfl) fun w hw R hR => ?_); (obtain ⟨wbin, wcmp, wun, wconv, wnot, wbeq, wmm, wscmp, wsadd, wslen, wsat, weqs, wlen, wnlen, wofNat, wtake, wdrop, wapp, wzero, wnat⟩ := w); (have hbin : wbin = binStd := congrArg Prims.bin hw); (have hcmp : wcmp = cmpStd := congrArg Prims.cmp hw); (have hun : wun = unStd := congrArg Prims.un hw); (have hconv : wconv = fun k n => k.wrap n := congrArg Prims.conv hw); (have hnot : wnot = fun b => !b := congrArg Prims.not hw); (have hbeq : wbeq = fun a b => a == b := congrArg Prims.beq hw); (have hmm : wmm = maxI := congrArg Prims.mm hw); (have hscmp : wscmp = scmpStd := congrArg Prims.scmp hw); (have hsadd : wsadd = fun x y => x ++ y := congrArg Prims.sadd hw); (have hslen : wslen = fun s => (s.size : Int) := congrArg Prims.slen hw); (have hsat : wsat = std.sat := congrArg Prims.sat hw); (have heqs : weqs = fun a b os => (eqOffs a b os).getD false := congrArg Prims.eqs hw); (have hlen : wlen = fun es => (es.length : Int) := congrArg Prims.len hw); (have hnlen : wnlen = fun es => es.length := congrArg Prims.nlen hw); (have hofNat : wofNat = (fun n : Nat => (n : Int)) := congrArg Prims.ofNat hw); (have htake : wtake = fun es b => es.take b.toNat := congrArg Prims.take hw); (have hdrop : wdrop = fun es a => es.drop a.toNat := congrArg Prims.drop hw); (have happ : wapp = fun a b => a ++ b := congrArg Prims.app hw); (have hzero : wzero = fun n z => List.replicate n.toNat z := congrArg Prims.zero hw); (have hnat : wnat = fun n => n.toNat := congrArg Prims.nat hw); (conv => arg 2; cbv); (generalize hP : Try.prog = P); cbv
  have c1 : ∀ x, wcmp .neq x x = false := fun x => by rw [hcmp]; simp [cmpStd]
  simp only [c1]
  cbv
  (obtain ⟨L, eL, L0, Ln⟩ : ∃ L : Int, wlen rs = L ∧ 0 ≤ L ∧ L.toNat = rs.length := ⟨(rs.length : Int), by rw [hlen], Int.natCast_nonneg _, Int.toNat_natCast _⟩)
  (obtain ⟨M, eM, M0, Mn⟩ : ∃ L : Int, wlen qs = L ∧ 0 ≤ L ∧ L.toNat = qs.length := ⟨(qs.length : Int), by rw [hlen], Int.natCast_nonneg _, Int.toNat_natCast _⟩)
  have hLM : L = M := by omega
  simp only [eL, eM, ← hLM]
  simp only [c1]
  cbv
  simp only [eL]
  refine Loop.data hw (S := Int) (fun i => fr 84 [(3, .ref 1 2 0 0), (25, .list 13 rs), (26, .int .i64 L), (27, .int .i64 i)])
    (fun _ => [.live 2 [[.int .i64 from_, .list 13 rs]], .live 2 [[.int .i64 from_, .list 1 qs]]]) (fun i => 0 ≤ i ∧ i ≤ L) (fun i => (L - i).toNat) 0 (by (refine Wk.eqz (id) (by first | exact fun i _ j _ e => e | (simp only [List.length_cons, List.length_nil]; decide)) ?_; cbv; (repeat' (first | exact trivial | rfl | assumption | apply And.intro | (simp only [hbin, hcmp, hun, hconv, hnot, hbeq, hmm, hscmp, hsadd, hslen, hsat, heqs, hofNat, binStd, cmpStd, unStd, scmpStd, maxI, Bool.not_eq_true', Bool.not_eq_false', decide_eq_true_eq, decide_eq_false_iff_not, Int.not_lt, Int.not_le, if_true, if_false, Bool.false_eq_true, beq_iff_eq, bne_iff_ne, ne_eq, Bool.not_eq_eq_eq_not, Bool.not_true, Bool.not_false, beq_eq_false_iff_ne, bne_eq_false_iff_eq, Int.ofNat_eq_natCast, Bool.not_not, not_true_eq_false, not_false_eq_true, reduceCtorEq]; first | done | assumption) | exact RowsZ.same (by assumption) (by first | assumption | rfl) | exact FzL.mk rfl rfl rfl (by assumption) (by first | assumption | rfl) (by decide) | (refine RowsZ.one ?_; cbv))))) ⟨Int.le_refl _, L0⟩ ?_
  rintro i hinv Q' hN hE hR'
  have hinv : 0 ≤ i ∧ i ≤ L := hinv
  cbv
  obtain ⟨hi0, hi1⟩ := hinv
  (split <;> rename_i hc <;> (try (simp only [hbin, hcmp, hun, hconv, hnot, hbeq, hmm, hscmp, hsadd, hslen, hsat, heqs, hofNat, binStd, cmpStd, unStd, scmpStd, maxI, Bool.not_eq_true', Bool.not_eq_false', decide_eq_true_eq, decide_eq_false_iff_not, Int.not_lt, Int.not_le, if_true, if_false, Bool.false_eq_true, beq_iff_eq, bne_iff_ne, ne_eq, Bool.not_eq_eq_eq_not, Bool.not_true, Bool.not_false, beq_eq_false_iff_ne, bne_eq_false_iff_eq, Int.ofNat_eq_natCast, Bool.not_not, not_true_eq_false, not_false_eq_true, reduceCtorEq] at hc)) <;> (try cbv))
  rotate_left 1
  · refine hE _ _ _ ?_
    cbv
    exact ⟨_, Vw.same rfl, hR _ rfl⟩
  obtain ⟨l, hl⟩ : ∃ l, m[i.toNat]? = some l := ⟨_, List.getElem?_eq_getElem (show i.toNat < m.length by omega)⟩
  have hl12 := hm l (List.mem_of_getElem? hl)
  have hri : rs[i.toNat]? = some (toR l).row := by rw [hrs, List.getElem?_map, hl]; rfl
  obtain ⟨xs, exs⟩ : ∃ x, x = l.map nxRow := ⟨_, rfl⟩
  have huxs : Up0 xs := by rw [exs]; exact up_nx l
  have hxl : xs.length = l.length := by rw [exs]; simp
  have hqi : qs[i.toNat]? = some [.list 1 xs] := by rw [hqs, List.getElem?_map, hl, exs]; rfl
  obtain ⟨i2, ei2⟩ : ∃ z, z = i + 1 := ⟨_, rfl⟩
  have a4 : wbin .add .i64 i 1 = i2 := by rw [hbin, ei2]; show IntKind.i64.wrap (i + 1) = i + 1; rw [IntKind.wrap_i64]; omega
  have hp := e_pathL l hl12
  obtain ⟨row, erow⟩ : ∃ row, row = toR l := ⟨_, rfl⟩
  have hp : PCalls Try.prog 54 [.agg row.row] (· = .list 1 xs) := by rw [erow, exs]; exact hp
  rw [← erow] at hri
  (obtain ⟨K, eK, K0, Kn⟩ : ∃ L : Int, wlen xs = L ∧ 0 ≤ L ∧ L.toNat = xs.length := ⟨(xs.length : Int), by rw [hlen], Int.natCast_nonneg _, Int.toNat_natCast _⟩)
  have hcell : ∀ k : Nat, k < l.length → xs[k]? = some [.int .i64 (l.getD k 0)] := fun k hk => by rw [exs, List.getElem?_map, List.getD_eq_getElem?_getD, List.getElem?_eq_getElem hk]; rfl
  have hnil : ∀ k : Nat, l.length ≤ k → l.getD k 0 = 0 := fun k hk => by rw [List.getD_eq_getElem?_getD, List.getElem?_eq_none hk]; rfl
  have hlenI := lenI_len l
  obtain ⟨n, s0, s1, s2, s3, s4, s5, s6, s7, s8, s9, s10, s11⟩ := row
  simp only [toR, R13.mk.injEq] at erow
  obtain ⟨f0, g0, g1, g2, g3, g4, g5, g6, g7, g8, g9, g10, g11⟩ := erow
  obtain rfl : n = K := by omega
  refine Idx.mk _ hi0 hri ?_
  cbv
  refine Call.stepE (by rw [← hP]; exact hp) rfl ?_
  cbv
  refine Idx.mk _ hi0 hqi ?_
  cbv
  simp only [eK, c1]
  cbv
  simp only [eK, c1]
  cbv
  (split <;> rename_i h12 <;> (try (simp only [hbin, hcmp, hun, hconv, hnot, hbeq, hmm, hscmp, hsadd, hslen, hsat, heqs, hofNat, binStd, cmpStd, unStd, scmpStd, maxI, Bool.not_eq_true', Bool.not_eq_false', decide_eq_true_eq, decide_eq_false_iff_not, Int.not_lt, Int.not_le, if_true, if_false, Bool.false_eq_true, beq_iff_eq, bne_iff_ne, ne_eq, Bool.not_eq_eq_eq_not, Bool.not_true, Bool.not_false, beq_eq_false_iff_ne, bne_eq_false_iff_eq, Int.ofNat_eq_natCast, Bool.not_not, not_true_eq_false, not_false_eq_true, reduceCtorEq] at h12)) <;> (try cbv))
  · exfalso; omega
  refine Loop.data hw (S := Int) (fun k => fr 84 [(3, .ref 1 2 0 0), (5, .int .i64 i), (6, .ref 2 13 0 0), (7, .list 1 xs), (25, .list 13 rs), (26, .int .i64 L), (27, .int .i64 i), (55, .int .i64 k)])
    (fun _ => [.live 2 [[.int .i64 from_, .list 13 rs]], .live 2 [[.int .i64 from_, .list 1 qs]], .live 13 [[.int .i64 n, .int .i64 s0, .int .i64 s1, .int .i64 s2, .int .i64 s3, .int .i64 s4, .int .i64 s5, .int .i64 s6, .int .i64 s7, .int .i64 s8, .int .i64 s9, .int .i64 s10, .int .i64 s11]]]) (fun k => 0 ≤ k ∧ k ≤ 12) (fun k => (12 - k).toNat) 0 (by (refine Wk.eqz (id) (by first | exact fun i _ j _ e => e | (simp only [List.length_cons, List.length_nil]; decide)) ?_; cbv; (repeat' (first | exact trivial | rfl | assumption | apply And.intro | (simp only [hbin, hcmp, hun, hconv, hnot, hbeq, hmm, hscmp, hsadd, hslen, hsat, heqs, hofNat, binStd, cmpStd, unStd, scmpStd, maxI, Bool.not_eq_true', Bool.not_eq_false', decide_eq_true_eq, decide_eq_false_iff_not, Int.not_lt, Int.not_le, if_true, if_false, Bool.false_eq_true, beq_iff_eq, bne_iff_ne, ne_eq, Bool.not_eq_eq_eq_not, Bool.not_true, Bool.not_false, beq_eq_false_iff_ne, bne_eq_false_iff_eq, Int.ofNat_eq_natCast, Bool.not_not, not_true_eq_false, not_false_eq_true, reduceCtorEq]; first | done | assumption) | exact RowsZ.same (by assumption) (by first | assumption | rfl) | exact FzL.mk rfl rfl rfl (by assumption) (by first | assumption | rfl) (by decide) | (refine RowsZ.one ?_; cbv))))) ⟨Int.le_refl _, by decide⟩ ?_
  rintro k hinv2 Q2 hN2 hE2 hR2
  have hinv2 : 0 ≤ k ∧ k ≤ 12 := hinv2
  cbv
  obtain ⟨hk0, hk1⟩ := hinv2
  (split <;> rename_i hc2 <;> (try (simp only [hbin, hcmp, hun, hconv, hnot, hbeq, hmm, hscmp, hsadd, hslen, hsat, heqs, hofNat, binStd, cmpStd, unStd, scmpStd, maxI, Bool.not_eq_true', Bool.not_eq_false', decide_eq_true_eq, decide_eq_false_iff_not, Int.not_lt, Int.not_le, if_true, if_false, Bool.false_eq_true, beq_iff_eq, bne_iff_ne, ne_eq, Bool.not_eq_eq_eq_not, Bool.not_true, Bool.not_false, beq_eq_false_iff_ne, bne_eq_false_iff_eq, Int.ofNat_eq_natCast, Bool.not_not, not_true_eq_false, not_false_eq_true, reduceCtorEq] at hc2)) <;> (try cbv))
  rotate_left 1
  · refine hE2 _ _ _ ?_
    cbv
    simp only [a4]
    refine hN i2 _ _ ?hx ?hi ?ht
    case hx => (refine Wk.eqz (id) (by first | exact fun i _ j _ e => e | (simp only [List.length_cons, List.length_nil]; decide)) ?_; cbv; (repeat' (first | exact trivial | rfl | assumption | apply And.intro | (simp only [hbin, hcmp, hun, hconv, hnot, hbeq, hmm, hscmp, hsadd, hslen, hsat, heqs, hofNat, binStd, cmpStd, unStd, scmpStd, maxI, Bool.not_eq_true', Bool.not_eq_false', decide_eq_true_eq, decide_eq_false_iff_not, Int.not_lt, Int.not_le, if_true, if_false, Bool.false_eq_true, beq_iff_eq, bne_iff_ne, ne_eq, Bool.not_eq_eq_eq_not, Bool.not_true, Bool.not_false, beq_eq_false_iff_ne, bne_eq_false_iff_eq, Int.ofNat_eq_natCast, Bool.not_not, not_true_eq_false, not_false_eq_true, reduceCtorEq]; first | done | assumption) | exact RowsZ.same (by assumption) (by first | assumption | rfl) | exact FzL.mk rfl rfl rfl (by assumption) (by first | assumption | rfl) (by decide) | (refine RowsZ.one ?_; cbv))))
    case hi => exact ⟨by omega, by omega⟩
    case ht => omega
  have hk : k = 0 ∨ k = 1 ∨ k = 2 ∨ k = 3 ∨ k = 4 ∨ k = 5 ∨ k = 6 ∨ k = 7 ∨ k = 8 ∨ k = 9 ∨ k = 10 ∨ k = 11 := by omega
  rcases hk with rfl | rfl | rfl | rfl | rfl | rfl | rfl | rfl | rfl | rfl | rfl | rfl
  · cbv
    have a5 : wbin .add .i64 0 1 = 1 := by rw [hbin]; rfl
    (split <;> rename_i hkn <;> (try (simp only [hbin, hcmp, hun, hconv, hnot, hbeq, hmm, hscmp, hsadd, hslen, hsat, heqs, hofNat, binStd, cmpStd, unStd, scmpStd, maxI, Bool.not_eq_true', Bool.not_eq_false', decide_eq_true_eq, decide_eq_false_iff_not, Int.not_lt, Int.not_le, if_true, if_false, Bool.false_eq_true, beq_iff_eq, bne_iff_ne, ne_eq, Bool.not_eq_eq_eq_not, Bool.not_true, Bool.not_false, beq_eq_false_iff_ne, bne_eq_false_iff_eq, Int.ofNat_eq_natCast, Bool.not_not, not_true_eq_false, not_false_eq_true, reduceCtorEq] at hkn)) <;> (try cbv))
    · have hc0 : xs[(0 : Int).toNat]? = some [.int .i64 s0] := by rw [g0]; exact hcell 0 (by omega)
      refine Idx.mk _ hi0 hqi ?_
      cbv
      refine Idx.mk _ (by decide) hc0 ?_
      cbv
      refine Idx.mk _ (by decide) hc0 ?_
      cbv
      simp only [c1]
      cbv
      refine InN.mk (by decide) (by decide) ?_
      cbv
      simp only [c1]
      cbv
      simp only [a5]
      refine hN2 1 _ _ ?hx ?hi ?ht
      case hx => (refine Wk.eqz (id) (by first | exact fun i _ j _ e => e | (simp only [List.length_cons, List.length_nil]; decide)) ?_; cbv; (repeat' (first | exact trivial | rfl | assumption | apply And.intro | (simp only [hbin, hcmp, hun, hconv, hnot, hbeq, hmm, hscmp, hsadd, hslen, hsat, heqs, hofNat, binStd, cmpStd, unStd, scmpStd, maxI, Bool.not_eq_true', Bool.not_eq_false', decide_eq_true_eq, decide_eq_false_iff_not, Int.not_lt, Int.not_le, if_true, if_false, Bool.false_eq_true, beq_iff_eq, bne_iff_ne, ne_eq, Bool.not_eq_eq_eq_not, Bool.not_true, Bool.not_false, beq_eq_false_iff_ne, bne_eq_false_iff_eq, Int.ofNat_eq_natCast, Bool.not_not, not_true_eq_false, not_false_eq_true, reduceCtorEq]; first | done | assumption) | exact RowsZ.same (by assumption) (by first | assumption | rfl) | exact FzL.mk rfl rfl rfl (by assumption) (by first | assumption | rfl) (by decide) | (refine RowsZ.one ?_; cbv))))
      case hi => exact ⟨by decide, by decide⟩
      case ht => decide
    · have ce : wcmp .neq s0 0 = false := by rw [show s0 = 0 by rw [g0]; exact hnil 0 (by omega)]; exact c1 0
      refine InN.mk (by decide) (by decide) ?_
      cbv
      simp only [ce]
      cbv
      simp only [a5]
      refine hN2 1 _ _ ?hx ?hi ?ht
      case hx => (refine Wk.eqz (id) (by first | exact fun i _ j _ e => e | (simp only [List.length_cons, List.length_nil]; decide)) ?_; cbv; (repeat' (first | exact trivial | rfl | assumption | apply And.intro | (simp only [hbin, hcmp, hun, hconv, hnot, hbeq, hmm, hscmp, hsadd, hslen, hsat, heqs, hofNat, binStd, cmpStd, unStd, scmpStd, maxI, Bool.not_eq_true', Bool.not_eq_false', decide_eq_true_eq, decide_eq_false_iff_not, Int.not_lt, Int.not_le, if_true, if_false, Bool.false_eq_true, beq_iff_eq, bne_iff_ne, ne_eq, Bool.not_eq_eq_eq_not, Bool.not_true, Bool.not_false, beq_eq_false_iff_ne, bne_eq_false_iff_eq, Int.ofNat_eq_natCast, Bool.not_not, not_true_eq_false, not_false_eq_true, reduceCtorEq]; first | done | assumption) | exact RowsZ.same (by assumption) (by first | assumption | rfl) | exact FzL.mk rfl rfl rfl (by assumption) (by first | assumption | rfl) (by decide) | (refine RowsZ.one ?_; cbv))))
      case hi => exact ⟨by decide, by decide⟩
      case ht => decide
  · cbv
    have a5 : wbin .add .i64 1 1 = 2 := by rw [hbin]; rfl
    (split <;> rename_i hkn <;> (try (simp only [hbin, hcmp, hun, hconv, hnot, hbeq, hmm, hscmp, hsadd, hslen, hsat, heqs, hofNat, binStd, cmpStd, unStd, scmpStd, maxI, Bool.not_eq_true', Bool.not_eq_false', decide_eq_true_eq, decide_eq_false_iff_not, Int.not_lt, Int.not_le, if_true, if_false, Bool.false_eq_true, beq_iff_eq, bne_iff_ne, ne_eq, Bool.not_eq_eq_eq_not, Bool.not_true, Bool.not_false, beq_eq_false_iff_ne, bne_eq_false_iff_eq, Int.ofNat_eq_natCast, Bool.not_not, not_true_eq_false, not_false_eq_true, reduceCtorEq] at hkn)) <;> (try cbv))
    · have hc1 : xs[(1 : Int).toNat]? = some [.int .i64 s1] := by rw [g1]; exact hcell 1 (by omega)
      refine Idx.mk _ hi0 hqi ?_
      cbv
      refine Idx.mk _ (by decide) hc1 ?_
      cbv
      refine Idx.mk _ (by decide) hc1 ?_
      cbv
      simp only [c1]
      cbv
      refine InN.mk (by decide) (by decide) ?_
      cbv
      simp only [c1]
      cbv
      simp only [a5]
      refine hN2 2 _ _ ?hx ?hi ?ht
      case hx => (refine Wk.eqz (id) (by first | exact fun i _ j _ e => e | (simp only [List.length_cons, List.length_nil]; decide)) ?_; cbv; (repeat' (first | exact trivial | rfl | assumption | apply And.intro | (simp only [hbin, hcmp, hun, hconv, hnot, hbeq, hmm, hscmp, hsadd, hslen, hsat, heqs, hofNat, binStd, cmpStd, unStd, scmpStd, maxI, Bool.not_eq_true', Bool.not_eq_false', decide_eq_true_eq, decide_eq_false_iff_not, Int.not_lt, Int.not_le, if_true, if_false, Bool.false_eq_true, beq_iff_eq, bne_iff_ne, ne_eq, Bool.not_eq_eq_eq_not, Bool.not_true, Bool.not_false, beq_eq_false_iff_ne, bne_eq_false_iff_eq, Int.ofNat_eq_natCast, Bool.not_not, not_true_eq_false, not_false_eq_true, reduceCtorEq]; first | done | assumption) | exact RowsZ.same (by assumption) (by first | assumption | rfl) | exact FzL.mk rfl rfl rfl (by assumption) (by first | assumption | rfl) (by decide) | (refine RowsZ.one ?_; cbv))))
      case hi => exact ⟨by decide, by decide⟩
      case ht => decide
    · have ce : wcmp .neq s1 0 = false := by rw [show s1 = 0 by rw [g1]; exact hnil 1 (by omega)]; exact c1 0
      refine InN.mk (by decide) (by decide) ?_
      cbv
      simp only [ce]
      cbv
      simp only [a5]
      refine hN2 2 _ _ ?hx ?hi ?ht
      case hx => (refine Wk.eqz (id) (by first | exact fun i _ j _ e => e | (simp only [List.length_cons, List.length_nil]; decide)) ?_; cbv; (repeat' (first | exact trivial | rfl | assumption | apply And.intro | (simp only [hbin, hcmp, hun, hconv, hnot, hbeq, hmm, hscmp, hsadd, hslen, hsat, heqs, hofNat, binStd, cmpStd, unStd, scmpStd, maxI, Bool.not_eq_true', Bool.not_eq_false', decide_eq_true_eq, decide_eq_false_iff_not, Int.not_lt, Int.not_le, if_true, if_false, Bool.false_eq_true, beq_iff_eq, bne_iff_ne, ne_eq, Bool.not_eq_eq_eq_not, Bool.not_true, Bool.not_false, beq_eq_false_iff_ne, bne_eq_false_iff_eq, Int.ofNat_eq_natCast, Bool.not_not, not_true_eq_false, not_false_eq_true, reduceCtorEq]; first | done | assumption) | exact RowsZ.same (by assumption) (by first | assumption | rfl) | exact FzL.mk rfl rfl rfl (by assumption) (by first | assumption | rfl) (by decide) | (refine RowsZ.one ?_; cbv))))
      case hi => exact ⟨by decide, by decide⟩
      case ht => decide
  · cbv
    have a5 : wbin .add .i64 2 1 = 3 := by rw [hbin]; rfl
    (split <;> rename_i hkn <;> (try (simp only [hbin, hcmp, hun, hconv, hnot, hbeq, hmm, hscmp, hsadd, hslen, hsat, heqs, hofNat, binStd, cmpStd, unStd, scmpStd, maxI, Bool.not_eq_true', Bool.not_eq_false', decide_eq_true_eq, decide_eq_false_iff_not, Int.not_lt, Int.not_le, if_true, if_false, Bool.false_eq_true, beq_iff_eq, bne_iff_ne, ne_eq, Bool.not_eq_eq_eq_not, Bool.not_true, Bool.not_false, beq_eq_false_iff_ne, bne_eq_false_iff_eq, Int.ofNat_eq_natCast, Bool.not_not, not_true_eq_false, not_false_eq_true, reduceCtorEq] at hkn)) <;> (try cbv))
    · have hc2 : xs[(2 : Int).toNat]? = some [.int .i64 s2] := by rw [g2]; exact hcell 2 (by omega)
      refine Idx.mk _ hi0 hqi ?_
      cbv
      refine Idx.mk _ (by decide) hc2 ?_
      cbv
      refine Idx.mk _ (by decide) hc2 ?_
      cbv
      simp only [c1]
      cbv
      refine InN.mk (by decide) (by decide) ?_
      cbv
      simp only [c1]
      cbv
      simp only [a5]
      refine hN2 3 _ _ ?hx ?hi ?ht
      case hx => (refine Wk.eqz (id) (by first | exact fun i _ j _ e => e | (simp only [List.length_cons, List.length_nil]; decide)) ?_; cbv; (repeat' (first | exact trivial | rfl | assumption | apply And.intro | (simp only [hbin, hcmp, hun, hconv, hnot, hbeq, hmm, hscmp, hsadd, hslen, hsat, heqs, hofNat, binStd, cmpStd, unStd, scmpStd, maxI, Bool.not_eq_true', Bool.not_eq_false', decide_eq_true_eq, decide_eq_false_iff_not, Int.not_lt, Int.not_le, if_true, if_false, Bool.false_eq_true, beq_iff_eq, bne_iff_ne, ne_eq, Bool.not_eq_eq_eq_not, Bool.not_true, Bool.not_false, beq_eq_false_iff_ne, bne_eq_false_iff_eq, Int.ofNat_eq_natCast, Bool.not_not, not_true_eq_false, not_false_eq_true, reduceCtorEq]; first | done | assumption) | exact RowsZ.same (by assumption) (by first | assumption | rfl) | exact FzL.mk rfl rfl rfl (by assumption) (by first | assumption | rfl) (by decide) | (refine RowsZ.one ?_; cbv))))
      case hi => exact ⟨by decide, by decide⟩
      case ht => decide
    · have ce : wcmp .neq s2 0 = false := by rw [show s2 = 0 by rw [g2]; exact hnil 2 (by omega)]; exact c1 0
      refine InN.mk (by decide) (by decide) ?_
      cbv
      simp only [ce]
      cbv
      simp only [a5]
      refine hN2 3 _ _ ?hx ?hi ?ht
      case hx => (refine Wk.eqz (id) (by first | exact fun i _ j _ e => e | (simp only [List.length_cons, List.length_nil]; decide)) ?_; cbv; (repeat' (first | exact trivial | rfl | assumption | apply And.intro | (simp only [hbin, hcmp, hun, hconv, hnot, hbeq, hmm, hscmp, hsadd, hslen, hsat, heqs, hofNat, binStd, cmpStd, unStd, scmpStd, maxI, Bool.not_eq_true', Bool.not_eq_false', decide_eq_true_eq, decide_eq_false_iff_not, Int.not_lt, Int.not_le, if_true, if_false, Bool.false_eq_true, beq_iff_eq, bne_iff_ne, ne_eq, Bool.not_eq_eq_eq_not, Bool.not_true, Bool.not_false, beq_eq_false_iff_ne, bne_eq_false_iff_eq, Int.ofNat_eq_natCast, Bool.not_not, not_true_eq_false, not_false_eq_true, reduceCtorEq]; first | done | assumption) | exact RowsZ.same (by assumption) (by first | assumption | rfl) | exact FzL.mk rfl rfl rfl (by assumption) (by first | assumption | rfl) (by decide) | (refine RowsZ.one ?_; cbv))))
      case hi => exact ⟨by decide, by decide⟩
      case ht => decide
  · cbv
    have a5 : wbin .add .i64 3 1 = 4 := by rw [hbin]; rfl
    (split <;> rename_i hkn <;> (try (simp only [hbin, hcmp, hun, hconv, hnot, hbeq, hmm, hscmp, hsadd, hslen, hsat, heqs, hofNat, binStd, cmpStd, unStd, scmpStd, maxI, Bool.not_eq_true', Bool.not_eq_false', decide_eq_true_eq, decide_eq_false_iff_not, Int.not_lt, Int.not_le, if_true, if_false, Bool.false_eq_true, beq_iff_eq, bne_iff_ne, ne_eq, Bool.not_eq_eq_eq_not, Bool.not_true, Bool.not_false, beq_eq_false_iff_ne, bne_eq_false_iff_eq, Int.ofNat_eq_natCast, Bool.not_not, not_true_eq_false, not_false_eq_true, reduceCtorEq] at hkn)) <;> (try cbv))
    · have hc3 : xs[(3 : Int).toNat]? = some [.int .i64 s3] := by rw [g3]; exact hcell 3 (by omega)
      refine Idx.mk _ hi0 hqi ?_
      cbv
      refine Idx.mk _ (by decide) hc3 ?_
      cbv
      refine Idx.mk _ (by decide) hc3 ?_
      cbv
      simp only [c1]
      cbv
      refine InN.mk (by decide) (by decide) ?_
      cbv
      simp only [c1]
      cbv
      simp only [a5]
      refine hN2 4 _ _ ?hx ?hi ?ht
      case hx => (refine Wk.eqz (id) (by first | exact fun i _ j _ e => e | (simp only [List.length_cons, List.length_nil]; decide)) ?_; cbv; (repeat' (first | exact trivial | rfl | assumption | apply And.intro | (simp only [hbin, hcmp, hun, hconv, hnot, hbeq, hmm, hscmp, hsadd, hslen, hsat, heqs, hofNat, binStd, cmpStd, unStd, scmpStd, maxI, Bool.not_eq_true', Bool.not_eq_false', decide_eq_true_eq, decide_eq_false_iff_not, Int.not_lt, Int.not_le, if_true, if_false, Bool.false_eq_true, beq_iff_eq, bne_iff_ne, ne_eq, Bool.not_eq_eq_eq_not, Bool.not_true, Bool.not_false, beq_eq_false_iff_ne, bne_eq_false_iff_eq, Int.ofNat_eq_natCast, Bool.not_not, not_true_eq_false, not_false_eq_true, reduceCtorEq]; first | done | assumption) | exact RowsZ.same (by assumption) (by first | assumption | rfl) | exact FzL.mk rfl rfl rfl (by assumption) (by first | assumption | rfl) (by decide) | (refine RowsZ.one ?_; cbv))))
      case hi => exact ⟨by decide, by decide⟩
      case ht => decide
    · have ce : wcmp .neq s3 0 = false := by rw [show s3 = 0 by rw [g3]; exact hnil 3 (by omega)]; exact c1 0
      refine InN.mk (by decide) (by decide) ?_
      cbv
      simp only [ce]
      cbv
      simp only [a5]
      refine hN2 4 _ _ ?hx ?hi ?ht
      case hx => (refine Wk.eqz (id) (by first | exact fun i _ j _ e => e | (simp only [List.length_cons, List.length_nil]; decide)) ?_; cbv; (repeat' (first | exact trivial | rfl | assumption | apply And.intro | (simp only [hbin, hcmp, hun, hconv, hnot, hbeq, hmm, hscmp, hsadd, hslen, hsat, heqs, hofNat, binStd, cmpStd, unStd, scmpStd, maxI, Bool.not_eq_true', Bool.not_eq_false', decide_eq_true_eq, decide_eq_false_iff_not, Int.not_lt, Int.not_le, if_true, if_false, Bool.false_eq_true, beq_iff_eq, bne_iff_ne, ne_eq, Bool.not_eq_eq_eq_not, Bool.not_true, Bool.not_false, beq_eq_false_iff_ne, bne_eq_false_iff_eq, Int.ofNat_eq_natCast, Bool.not_not, not_true_eq_false, not_false_eq_true, reduceCtorEq]; first | done | assumption) | exact RowsZ.same (by assumption) (by first | assumption | rfl) | exact FzL.mk rfl rfl rfl (by assumption) (by first | assumption | rfl) (by decide) | (refine RowsZ.one ?_; cbv))))
      case hi => exact ⟨by decide, by decide⟩
      case ht => decide
  · cbv
    have a5 : wbin .add .i64 4 1 = 5 := by rw [hbin]; rfl
    (split <;> rename_i hkn <;> (try (simp only [hbin, hcmp, hun, hconv, hnot, hbeq, hmm, hscmp, hsadd, hslen, hsat, heqs, hofNat, binStd, cmpStd, unStd, scmpStd, maxI, Bool.not_eq_true', Bool.not_eq_false', decide_eq_true_eq, decide_eq_false_iff_not, Int.not_lt, Int.not_le, if_true, if_false, Bool.false_eq_true, beq_iff_eq, bne_iff_ne, ne_eq, Bool.not_eq_eq_eq_not, Bool.not_true, Bool.not_false, beq_eq_false_iff_ne, bne_eq_false_iff_eq, Int.ofNat_eq_natCast, Bool.not_not, not_true_eq_false, not_false_eq_true, reduceCtorEq] at hkn)) <;> (try cbv))
    · have hc4 : xs[(4 : Int).toNat]? = some [.int .i64 s4] := by rw [g4]; exact hcell 4 (by omega)
      refine Idx.mk _ hi0 hqi ?_
      cbv
      refine Idx.mk _ (by decide) hc4 ?_
      cbv
      refine Idx.mk _ (by decide) hc4 ?_
      cbv
      simp only [c1]
      cbv
      refine InN.mk (by decide) (by decide) ?_
      cbv
      simp only [c1]
      cbv
      simp only [a5]
      refine hN2 5 _ _ ?hx ?hi ?ht
      case hx => (refine Wk.eqz (id) (by first | exact fun i _ j _ e => e | (simp only [List.length_cons, List.length_nil]; decide)) ?_; cbv; (repeat' (first | exact trivial | rfl | assumption | apply And.intro | (simp only [hbin, hcmp, hun, hconv, hnot, hbeq, hmm, hscmp, hsadd, hslen, hsat, heqs, hofNat, binStd, cmpStd, unStd, scmpStd, maxI, Bool.not_eq_true', Bool.not_eq_false', decide_eq_true_eq, decide_eq_false_iff_not, Int.not_lt, Int.not_le, if_true, if_false, Bool.false_eq_true, beq_iff_eq, bne_iff_ne, ne_eq, Bool.not_eq_eq_eq_not, Bool.not_true, Bool.not_false, beq_eq_false_iff_ne, bne_eq_false_iff_eq, Int.ofNat_eq_natCast, Bool.not_not, not_true_eq_false, not_false_eq_true, reduceCtorEq]; first | done | assumption) | exact RowsZ.same (by assumption) (by first | assumption | rfl) | exact FzL.mk rfl rfl rfl (by assumption) (by first | assumption | rfl) (by decide) | (refine RowsZ.one ?_; cbv))))
      case hi => exact ⟨by decide, by decide⟩
      case ht => decide
    · have ce : wcmp .neq s4 0 = false := by rw [show s4 = 0 by rw [g4]; exact hnil 4 (by omega)]; exact c1 0
      refine InN.mk (by decide) (by decide) ?_
      cbv
      simp only [ce]
      cbv
      simp only [a5]
      refine hN2 5 _ _ ?hx ?hi ?ht
      case hx => (refine Wk.eqz (id) (by first | exact fun i _ j _ e => e | (simp only [List.length_cons, List.length_nil]; decide)) ?_; cbv; (repeat' (first | exact trivial | rfl | assumption | apply And.intro | (simp only [hbin, hcmp, hun, hconv, hnot, hbeq, hmm, hscmp, hsadd, hslen, hsat, heqs, hofNat, binStd, cmpStd, unStd, scmpStd, maxI, Bool.not_eq_true', Bool.not_eq_false', decide_eq_true_eq, decide_eq_false_iff_not, Int.not_lt, Int.not_le, if_true, if_false, Bool.false_eq_true, beq_iff_eq, bne_iff_ne, ne_eq, Bool.not_eq_eq_eq_not, Bool.not_true, Bool.not_false, beq_eq_false_iff_ne, bne_eq_false_iff_eq, Int.ofNat_eq_natCast, Bool.not_not, not_true_eq_false, not_false_eq_true, reduceCtorEq]; first | done | assumption) | exact RowsZ.same (by assumption) (by first | assumption | rfl) | exact FzL.mk rfl rfl rfl (by assumption) (by first | assumption | rfl) (by decide) | (refine RowsZ.one ?_; cbv))))
      case hi => exact ⟨by decide, by decide⟩
      case ht => decide
  · cbv
    have a5 : wbin .add .i64 5 1 = 6 := by rw [hbin]; rfl
    (split <;> rename_i hkn <;> (try (simp only [hbin, hcmp, hun, hconv, hnot, hbeq, hmm, hscmp, hsadd, hslen, hsat, heqs, hofNat, binStd, cmpStd, unStd, scmpStd, maxI, Bool.not_eq_true', Bool.not_eq_false', decide_eq_true_eq, decide_eq_false_iff_not, Int.not_lt, Int.not_le, if_true, if_false, Bool.false_eq_true, beq_iff_eq, bne_iff_ne, ne_eq, Bool.not_eq_eq_eq_not, Bool.not_true, Bool.not_false, beq_eq_false_iff_ne, bne_eq_false_iff_eq, Int.ofNat_eq_natCast, Bool.not_not, not_true_eq_false, not_false_eq_true, reduceCtorEq] at hkn)) <;> (try cbv))
    · have hc5 : xs[(5 : Int).toNat]? = some [.int .i64 s5] := by rw [g5]; exact hcell 5 (by omega)
      refine Idx.mk _ hi0 hqi ?_
      cbv
      refine Idx.mk _ (by decide) hc5 ?_
      cbv
      refine Idx.mk _ (by decide) hc5 ?_
      cbv
      simp only [c1]
      cbv
      refine InN.mk (by decide) (by decide) ?_
      cbv
      simp only [c1]
      cbv
      simp only [a5]
      refine hN2 6 _ _ ?hx ?hi ?ht
      case hx => (refine Wk.eqz (id) (by first | exact fun i _ j _ e => e | (simp only [List.length_cons, List.length_nil]; decide)) ?_; cbv; (repeat' (first | exact trivial | rfl | assumption | apply And.intro | (simp only [hbin, hcmp, hun, hconv, hnot, hbeq, hmm, hscmp, hsadd, hslen, hsat, heqs, hofNat, binStd, cmpStd, unStd, scmpStd, maxI, Bool.not_eq_true', Bool.not_eq_false', decide_eq_true_eq, decide_eq_false_iff_not, Int.not_lt, Int.not_le, if_true, if_false, Bool.false_eq_true, beq_iff_eq, bne_iff_ne, ne_eq, Bool.not_eq_eq_eq_not, Bool.not_true, Bool.not_false, beq_eq_false_iff_ne, bne_eq_false_iff_eq, Int.ofNat_eq_natCast, Bool.not_not, not_true_eq_false, not_false_eq_true, reduceCtorEq]; first | done | assumption) | exact RowsZ.same (by assumption) (by first | assumption | rfl) | exact FzL.mk rfl rfl rfl (by assumption) (by first | assumption | rfl) (by decide) | (refine RowsZ.one ?_; cbv))))
      case hi => exact ⟨by decide, by decide⟩
      case ht => decide
    · have ce : wcmp .neq s5 0 = false := by rw [show s5 = 0 by rw [g5]; exact hnil 5 (by omega)]; exact c1 0
      refine InN.mk (by decide) (by decide) ?_
      cbv
      simp only [ce]
      cbv
      simp only [a5]
      refine hN2 6 _ _ ?hx ?hi ?ht
      case hx => (refine Wk.eqz (id) (by first | exact fun i _ j _ e => e | (simp only [List.length_cons, List.length_nil]; decide)) ?_; cbv; (repeat' (first | exact trivial | rfl | assumption | apply And.intro | (simp only [hbin, hcmp, hun, hconv, hnot, hbeq, hmm, hscmp, hsadd, hslen, hsat, heqs, hofNat, binStd, cmpStd, unStd, scmpStd, maxI, Bool.not_eq_true', Bool.not_eq_false', decide_eq_true_eq, decide_eq_false_iff_not, Int.not_lt, Int.not_le, if_true, if_false, Bool.false_eq_true, beq_iff_eq, bne_iff_ne, ne_eq, Bool.not_eq_eq_eq_not, Bool.not_true, Bool.not_false, beq_eq_false_iff_ne, bne_eq_false_iff_eq, Int.ofNat_eq_natCast, Bool.not_not, not_true_eq_false, not_false_eq_true, reduceCtorEq]; first | done | assumption) | exact RowsZ.same (by assumption) (by first | assumption | rfl) | exact FzL.mk rfl rfl rfl (by assumption) (by first | assumption | rfl) (by decide) | (refine RowsZ.one ?_; cbv))))
      case hi => exact ⟨by decide, by decide⟩
      case ht => decide
  · cbv
    have a5 : wbin .add .i64 6 1 = 7 := by rw [hbin]; rfl
    (split <;> rename_i hkn <;> (try (simp only [hbin, hcmp, hun, hconv, hnot, hbeq, hmm, hscmp, hsadd, hslen, hsat, heqs, hofNat, binStd, cmpStd, unStd, scmpStd, maxI, Bool.not_eq_true', Bool.not_eq_false', decide_eq_true_eq, decide_eq_false_iff_not, Int.not_lt, Int.not_le, if_true, if_false, Bool.false_eq_true, beq_iff_eq, bne_iff_ne, ne_eq, Bool.not_eq_eq_eq_not, Bool.not_true, Bool.not_false, beq_eq_false_iff_ne, bne_eq_false_iff_eq, Int.ofNat_eq_natCast, Bool.not_not, not_true_eq_false, not_false_eq_true, reduceCtorEq] at hkn)) <;> (try cbv))
    · have hc6 : xs[(6 : Int).toNat]? = some [.int .i64 s6] := by rw [g6]; exact hcell 6 (by omega)
      refine Idx.mk _ hi0 hqi ?_
      cbv
      refine Idx.mk _ (by decide) hc6 ?_
      cbv
      refine Idx.mk _ (by decide) hc6 ?_
      cbv
      simp only [c1]
      cbv
      refine InN.mk (by decide) (by decide) ?_
      cbv
      simp only [c1]
      cbv
      simp only [a5]
      refine hN2 7 _ _ ?hx ?hi ?ht
      case hx => (refine Wk.eqz (id) (by first | exact fun i _ j _ e => e | (simp only [List.length_cons, List.length_nil]; decide)) ?_; cbv; (repeat' (first | exact trivial | rfl | assumption | apply And.intro | (simp only [hbin, hcmp, hun, hconv, hnot, hbeq, hmm, hscmp, hsadd, hslen, hsat, heqs, hofNat, binStd, cmpStd, unStd, scmpStd, maxI, Bool.not_eq_true', Bool.not_eq_false', decide_eq_true_eq, decide_eq_false_iff_not, Int.not_lt, Int.not_le, if_true, if_false, Bool.false_eq_true, beq_iff_eq, bne_iff_ne, ne_eq, Bool.not_eq_eq_eq_not, Bool.not_true, Bool.not_false, beq_eq_false_iff_ne, bne_eq_false_iff_eq, Int.ofNat_eq_natCast, Bool.not_not, not_true_eq_false, not_false_eq_true, reduceCtorEq]; first | done | assumption) | exact RowsZ.same (by assumption) (by first | assumption | rfl) | exact FzL.mk rfl rfl rfl (by assumption) (by first | assumption | rfl) (by decide) | (refine RowsZ.one ?_; cbv))))
      case hi => exact ⟨by decide, by decide⟩
      case ht => decide
    · have ce : wcmp .neq s6 0 = false := by rw [show s6 = 0 by rw [g6]; exact hnil 6 (by omega)]; exact c1 0
      refine InN.mk (by decide) (by decide) ?_
      cbv
      simp only [ce]
      cbv
      simp only [a5]
      refine hN2 7 _ _ ?hx ?hi ?ht
      case hx => (refine Wk.eqz (id) (by first | exact fun i _ j _ e => e | (simp only [List.length_cons, List.length_nil]; decide)) ?_; cbv; (repeat' (first | exact trivial | rfl | assumption | apply And.intro | (simp only [hbin, hcmp, hun, hconv, hnot, hbeq, hmm, hscmp, hsadd, hslen, hsat, heqs, hofNat, binStd, cmpStd, unStd, scmpStd, maxI, Bool.not_eq_true', Bool.not_eq_false', decide_eq_true_eq, decide_eq_false_iff_not, Int.not_lt, Int.not_le, if_true, if_false, Bool.false_eq_true, beq_iff_eq, bne_iff_ne, ne_eq, Bool.not_eq_eq_eq_not, Bool.not_true, Bool.not_false, beq_eq_false_iff_ne, bne_eq_false_iff_eq, Int.ofNat_eq_natCast, Bool.not_not, not_true_eq_false, not_false_eq_true, reduceCtorEq]; first | done | assumption) | exact RowsZ.same (by assumption) (by first | assumption | rfl) | exact FzL.mk rfl rfl rfl (by assumption) (by first | assumption | rfl) (by decide) | (refine RowsZ.one ?_; cbv))))
      case hi => exact ⟨by decide, by decide⟩
      case ht => decide
  · cbv
    have a5 : wbin .add .i64 7 1 = 8 := by rw [hbin]; rfl
    (split <;> rename_i hkn <;> (try (simp only [hbin, hcmp, hun, hconv, hnot, hbeq, hmm, hscmp, hsadd, hslen, hsat, heqs, hofNat, binStd, cmpStd, unStd, scmpStd, maxI, Bool.not_eq_true', Bool.not_eq_false', decide_eq_true_eq, decide_eq_false_iff_not, Int.not_lt, Int.not_le, if_true, if_false, Bool.false_eq_true, beq_iff_eq, bne_iff_ne, ne_eq, Bool.not_eq_eq_eq_not, Bool.not_true, Bool.not_false, beq_eq_false_iff_ne, bne_eq_false_iff_eq, Int.ofNat_eq_natCast, Bool.not_not, not_true_eq_false, not_false_eq_true, reduceCtorEq] at hkn)) <;> (try cbv))
    · have hc7 : xs[(7 : Int).toNat]? = some [.int .i64 s7] := by rw [g7]; exact hcell 7 (by omega)
      refine Idx.mk _ hi0 hqi ?_
      cbv
      refine Idx.mk _ (by decide) hc7 ?_
      cbv
      refine Idx.mk _ (by decide) hc7 ?_
      cbv
      simp only [c1]
      cbv
      refine InN.mk (by decide) (by decide) ?_
      cbv
      simp only [c1]
      cbv
      simp only [a5]
      refine hN2 8 _ _ ?hx ?hi ?ht
      case hx => (refine Wk.eqz (id) (by first | exact fun i _ j _ e => e | (simp only [List.length_cons, List.length_nil]; decide)) ?_; cbv; (repeat' (first | exact trivial | rfl | assumption | apply And.intro | (simp only [hbin, hcmp, hun, hconv, hnot, hbeq, hmm, hscmp, hsadd, hslen, hsat, heqs, hofNat, binStd, cmpStd, unStd, scmpStd, maxI, Bool.not_eq_true', Bool.not_eq_false', decide_eq_true_eq, decide_eq_false_iff_not, Int.not_lt, Int.not_le, if_true, if_false, Bool.false_eq_true, beq_iff_eq, bne_iff_ne, ne_eq, Bool.not_eq_eq_eq_not, Bool.not_true, Bool.not_false, beq_eq_false_iff_ne, bne_eq_false_iff_eq, Int.ofNat_eq_natCast, Bool.not_not, not_true_eq_false, not_false_eq_true, reduceCtorEq]; first | done | assumption) | exact RowsZ.same (by assumption) (by first | assumption | rfl) | exact FzL.mk rfl rfl rfl (by assumption) (by first | assumption | rfl) (by decide) | (refine RowsZ.one ?_; cbv))))
      case hi => exact ⟨by decide, by decide⟩
      case ht => decide
    · have ce : wcmp .neq s7 0 = false := by rw [show s7 = 0 by rw [g7]; exact hnil 7 (by omega)]; exact c1 0
      refine InN.mk (by decide) (by decide) ?_
      cbv
      simp only [ce]
      cbv
      simp only [a5]
      refine hN2 8 _ _ ?hx ?hi ?ht
      case hx => (refine Wk.eqz (id) (by first | exact fun i _ j _ e => e | (simp only [List.length_cons, List.length_nil]; decide)) ?_; cbv; (repeat' (first | exact trivial | rfl | assumption | apply And.intro | (simp only [hbin, hcmp, hun, hconv, hnot, hbeq, hmm, hscmp, hsadd, hslen, hsat, heqs, hofNat, binStd, cmpStd, unStd, scmpStd, maxI, Bool.not_eq_true', Bool.not_eq_false', decide_eq_true_eq, decide_eq_false_iff_not, Int.not_lt, Int.not_le, if_true, if_false, Bool.false_eq_true, beq_iff_eq, bne_iff_ne, ne_eq, Bool.not_eq_eq_eq_not, Bool.not_true, Bool.not_false, beq_eq_false_iff_ne, bne_eq_false_iff_eq, Int.ofNat_eq_natCast, Bool.not_not, not_true_eq_false, not_false_eq_true, reduceCtorEq]; first | done | assumption) | exact RowsZ.same (by assumption) (by first | assumption | rfl) | exact FzL.mk rfl rfl rfl (by assumption) (by first | assumption | rfl) (by decide) | (refine RowsZ.one ?_; cbv))))
      case hi => exact ⟨by decide, by decide⟩
      case ht => decide
  · cbv
    have a5 : wbin .add .i64 8 1 = 9 := by rw [hbin]; rfl
    (split <;> rename_i hkn <;> (try (simp only [hbin, hcmp, hun, hconv, hnot, hbeq, hmm, hscmp, hsadd, hslen, hsat, heqs, hofNat, binStd, cmpStd, unStd, scmpStd, maxI, Bool.not_eq_true', Bool.not_eq_false', decide_eq_true_eq, decide_eq_false_iff_not, Int.not_lt, Int.not_le, if_true, if_false, Bool.false_eq_true, beq_iff_eq, bne_iff_ne, ne_eq, Bool.not_eq_eq_eq_not, Bool.not_true, Bool.not_false, beq_eq_false_iff_ne, bne_eq_false_iff_eq, Int.ofNat_eq_natCast, Bool.not_not, not_true_eq_false, not_false_eq_true, reduceCtorEq] at hkn)) <;> (try cbv))
    · have hc8 : xs[(8 : Int).toNat]? = some [.int .i64 s8] := by rw [g8]; exact hcell 8 (by omega)
      refine Idx.mk _ hi0 hqi ?_
      cbv
      refine Idx.mk _ (by decide) hc8 ?_
      cbv
      refine Idx.mk _ (by decide) hc8 ?_
      cbv
      simp only [c1]
      cbv
      refine InN.mk (by decide) (by decide) ?_
      cbv
      simp only [c1]
      cbv
      simp only [a5]
      refine hN2 9 _ _ ?hx ?hi ?ht
      case hx => (refine Wk.eqz (id) (by first | exact fun i _ j _ e => e | (simp only [List.length_cons, List.length_nil]; decide)) ?_; cbv; (repeat' (first | exact trivial | rfl | assumption | apply And.intro | (simp only [hbin, hcmp, hun, hconv, hnot, hbeq, hmm, hscmp, hsadd, hslen, hsat, heqs, hofNat, binStd, cmpStd, unStd, scmpStd, maxI, Bool.not_eq_true', Bool.not_eq_false', decide_eq_true_eq, decide_eq_false_iff_not, Int.not_lt, Int.not_le, if_true, if_false, Bool.false_eq_true, beq_iff_eq, bne_iff_ne, ne_eq, Bool.not_eq_eq_eq_not, Bool.not_true, Bool.not_false, beq_eq_false_iff_ne, bne_eq_false_iff_eq, Int.ofNat_eq_natCast, Bool.not_not, not_true_eq_false, not_false_eq_true, reduceCtorEq]; first | done | assumption) | exact RowsZ.same (by assumption) (by first | assumption | rfl) | exact FzL.mk rfl rfl rfl (by assumption) (by first | assumption | rfl) (by decide) | (refine RowsZ.one ?_; cbv))))
      case hi => exact ⟨by decide, by decide⟩
      case ht => decide
    · have ce : wcmp .neq s8 0 = false := by rw [show s8 = 0 by rw [g8]; exact hnil 8 (by omega)]; exact c1 0
      refine InN.mk (by decide) (by decide) ?_
      cbv
      simp only [ce]
      cbv
      simp only [a5]
      refine hN2 9 _ _ ?hx ?hi ?ht
      case hx => (refine Wk.eqz (id) (by first | exact fun i _ j _ e => e | (simp only [List.length_cons, List.length_nil]; decide)) ?_; cbv; (repeat' (first | exact trivial | rfl | assumption | apply And.intro | (simp only [hbin, hcmp, hun, hconv, hnot, hbeq, hmm, hscmp, hsadd, hslen, hsat, heqs, hofNat, binStd, cmpStd, unStd, scmpStd, maxI, Bool.not_eq_true', Bool.not_eq_false', decide_eq_true_eq, decide_eq_false_iff_not, Int.not_lt, Int.not_le, if_true, if_false, Bool.false_eq_true, beq_iff_eq, bne_iff_ne, ne_eq, Bool.not_eq_eq_eq_not, Bool.not_true, Bool.not_false, beq_eq_false_iff_ne, bne_eq_false_iff_eq, Int.ofNat_eq_natCast, Bool.not_not, not_true_eq_false, not_false_eq_true, reduceCtorEq]; first | done | assumption) | exact RowsZ.same (by assumption) (by first | assumption | rfl) | exact FzL.mk rfl rfl rfl (by assumption) (by first | assumption | rfl) (by decide) | (refine RowsZ.one ?_; cbv))))
      case hi => exact ⟨by decide, by decide⟩
      case ht => decide
  · cbv
    have a5 : wbin .add .i64 9 1 = 10 := by rw [hbin]; rfl
    (split <;> rename_i hkn <;> (try (simp only [hbin, hcmp, hun, hconv, hnot, hbeq, hmm, hscmp, hsadd, hslen, hsat, heqs, hofNat, binStd, cmpStd, unStd, scmpStd, maxI, Bool.not_eq_true', Bool.not_eq_false', decide_eq_true_eq, decide_eq_false_iff_not, Int.not_lt, Int.not_le, if_true, if_false, Bool.false_eq_true, beq_iff_eq, bne_iff_ne, ne_eq, Bool.not_eq_eq_eq_not, Bool.not_true, Bool.not_false, beq_eq_false_iff_ne, bne_eq_false_iff_eq, Int.ofNat_eq_natCast, Bool.not_not, not_true_eq_false, not_false_eq_true, reduceCtorEq] at hkn)) <;> (try cbv))
    · have hc9 : xs[(9 : Int).toNat]? = some [.int .i64 s9] := by rw [g9]; exact hcell 9 (by omega)
      refine Idx.mk _ hi0 hqi ?_
      cbv
      refine Idx.mk _ (by decide) hc9 ?_
      cbv
      refine Idx.mk _ (by decide) hc9 ?_
      cbv
      simp only [c1]
      cbv
      refine InN.mk (by decide) (by decide) ?_
      cbv
      simp only [c1]
      cbv
      simp only [a5]
      refine hN2 10 _ _ ?hx ?hi ?ht
      case hx => (refine Wk.eqz (id) (by first | exact fun i _ j _ e => e | (simp only [List.length_cons, List.length_nil]; decide)) ?_; cbv; (repeat' (first | exact trivial | rfl | assumption | apply And.intro | (simp only [hbin, hcmp, hun, hconv, hnot, hbeq, hmm, hscmp, hsadd, hslen, hsat, heqs, hofNat, binStd, cmpStd, unStd, scmpStd, maxI, Bool.not_eq_true', Bool.not_eq_false', decide_eq_true_eq, decide_eq_false_iff_not, Int.not_lt, Int.not_le, if_true, if_false, Bool.false_eq_true, beq_iff_eq, bne_iff_ne, ne_eq, Bool.not_eq_eq_eq_not, Bool.not_true, Bool.not_false, beq_eq_false_iff_ne, bne_eq_false_iff_eq, Int.ofNat_eq_natCast, Bool.not_not, not_true_eq_false, not_false_eq_true, reduceCtorEq]; first | done | assumption) | exact RowsZ.same (by assumption) (by first | assumption | rfl) | exact FzL.mk rfl rfl rfl (by assumption) (by first | assumption | rfl) (by decide) | (refine RowsZ.one ?_; cbv))))
      case hi => exact ⟨by decide, by decide⟩
      case ht => decide
    · have ce : wcmp .neq s9 0 = false := by rw [show s9 = 0 by rw [g9]; exact hnil 9 (by omega)]; exact c1 0
      refine InN.mk (by decide) (by decide) ?_
      cbv
      simp only [ce]
      cbv
      simp only [a5]
      refine hN2 10 _ _ ?hx ?hi ?ht
      case hx => (refine Wk.eqz (id) (by first | exact fun i _ j _ e => e | (simp only [List.length_cons, List.length_nil]; decide)) ?_; cbv; (repeat' (first | exact trivial | rfl | assumption | apply And.intro | (simp only [hbin, hcmp, hun, hconv, hnot, hbeq, hmm, hscmp, hsadd, hslen, hsat, heqs, hofNat, binStd, cmpStd, unStd, scmpStd, maxI, Bool.not_eq_true', Bool.not_eq_false', decide_eq_true_eq, decide_eq_false_iff_not, Int.not_lt, Int.not_le, if_true, if_false, Bool.false_eq_true, beq_iff_eq, bne_iff_ne, ne_eq, Bool.not_eq_eq_eq_not, Bool.not_true, Bool.not_false, beq_eq_false_iff_ne, bne_eq_false_iff_eq, Int.ofNat_eq_natCast, Bool.not_not, not_true_eq_false, not_false_eq_true, reduceCtorEq]; first | done | assumption) | exact RowsZ.same (by assumption) (by first | assumption | rfl) | exact FzL.mk rfl rfl rfl (by assumption) (by first | assumption | rfl) (by decide) | (refine RowsZ.one ?_; cbv))))
      case hi => exact ⟨by decide, by decide⟩
      case ht => decide
  · cbv
    have a5 : wbin .add .i64 10 1 = 11 := by rw [hbin]; rfl
    (split <;> rename_i hkn <;> (try (simp only [hbin, hcmp, hun, hconv, hnot, hbeq, hmm, hscmp, hsadd, hslen, hsat, heqs, hofNat, binStd, cmpStd, unStd, scmpStd, maxI, Bool.not_eq_true', Bool.not_eq_false', decide_eq_true_eq, decide_eq_false_iff_not, Int.not_lt, Int.not_le, if_true, if_false, Bool.false_eq_true, beq_iff_eq, bne_iff_ne, ne_eq, Bool.not_eq_eq_eq_not, Bool.not_true, Bool.not_false, beq_eq_false_iff_ne, bne_eq_false_iff_eq, Int.ofNat_eq_natCast, Bool.not_not, not_true_eq_false, not_false_eq_true, reduceCtorEq] at hkn)) <;> (try cbv))
    · have hc10 : xs[(10 : Int).toNat]? = some [.int .i64 s10] := by rw [g10]; exact hcell 10 (by omega)
      refine Idx.mk _ hi0 hqi ?_
      cbv
      refine Idx.mk _ (by decide) hc10 ?_
      cbv
      refine Idx.mk _ (by decide) hc10 ?_
      cbv
      simp only [c1]
      cbv
      refine InN.mk (by decide) (by decide) ?_
      cbv
      simp only [c1]
      cbv
      simp only [a5]
      refine hN2 11 _ _ ?hx ?hi ?ht
      case hx => (refine Wk.eqz (id) (by first | exact fun i _ j _ e => e | (simp only [List.length_cons, List.length_nil]; decide)) ?_; cbv; (repeat' (first | exact trivial | rfl | assumption | apply And.intro | (simp only [hbin, hcmp, hun, hconv, hnot, hbeq, hmm, hscmp, hsadd, hslen, hsat, heqs, hofNat, binStd, cmpStd, unStd, scmpStd, maxI, Bool.not_eq_true', Bool.not_eq_false', decide_eq_true_eq, decide_eq_false_iff_not, Int.not_lt, Int.not_le, if_true, if_false, Bool.false_eq_true, beq_iff_eq, bne_iff_ne, ne_eq, Bool.not_eq_eq_eq_not, Bool.not_true, Bool.not_false, beq_eq_false_iff_ne, bne_eq_false_iff_eq, Int.ofNat_eq_natCast, Bool.not_not, not_true_eq_false, not_false_eq_true, reduceCtorEq]; first | done | assumption) | exact RowsZ.same (by assumption) (by first | assumption | rfl) | exact FzL.mk rfl rfl rfl (by assumption) (by first | assumption | rfl) (by decide) | (refine RowsZ.one ?_; cbv))))
      case hi => exact ⟨by decide, by decide⟩
      case ht => decide
    · have ce : wcmp .neq s10 0 = false := by rw [show s10 = 0 by rw [g10]; exact hnil 10 (by omega)]; exact c1 0
      refine InN.mk (by decide) (by decide) ?_
      cbv
      simp only [ce]
      cbv
      simp only [a5]
      refine hN2 11 _ _ ?hx ?hi ?ht
      case hx => (refine Wk.eqz (id) (by first | exact fun i _ j _ e => e | (simp only [List.length_cons, List.length_nil]; decide)) ?_; cbv; (repeat' (first | exact trivial | rfl | assumption | apply And.intro | (simp only [hbin, hcmp, hun, hconv, hnot, hbeq, hmm, hscmp, hsadd, hslen, hsat, heqs, hofNat, binStd, cmpStd, unStd, scmpStd, maxI, Bool.not_eq_true', Bool.not_eq_false', decide_eq_true_eq, decide_eq_false_iff_not, Int.not_lt, Int.not_le, if_true, if_false, Bool.false_eq_true, beq_iff_eq, bne_iff_ne, ne_eq, Bool.not_eq_eq_eq_not, Bool.not_true, Bool.not_false, beq_eq_false_iff_ne, bne_eq_false_iff_eq, Int.ofNat_eq_natCast, Bool.not_not, not_true_eq_false, not_false_eq_true, reduceCtorEq]; first | done | assumption) | exact RowsZ.same (by assumption) (by first | assumption | rfl) | exact FzL.mk rfl rfl rfl (by assumption) (by first | assumption | rfl) (by decide) | (refine RowsZ.one ?_; cbv))))
      case hi => exact ⟨by decide, by decide⟩
      case ht => decide
  · cbv
    have a5 : wbin .add .i64 11 1 = 12 := by rw [hbin]; rfl
    (split <;> rename_i hkn <;> (try (simp only [hbin, hcmp, hun, hconv, hnot, hbeq, hmm, hscmp, hsadd, hslen, hsat, heqs, hofNat, binStd, cmpStd, unStd, scmpStd, maxI, Bool.not_eq_true', Bool.not_eq_false', decide_eq_true_eq, decide_eq_false_iff_not, Int.not_lt, Int.not_le, if_true, if_false, Bool.false_eq_true, beq_iff_eq, bne_iff_ne, ne_eq, Bool.not_eq_eq_eq_not, Bool.not_true, Bool.not_false, beq_eq_false_iff_ne, bne_eq_false_iff_eq, Int.ofNat_eq_natCast, Bool.not_not, not_true_eq_false, not_false_eq_true, reduceCtorEq] at hkn)) <;> (try cbv))
    · have hc11 : xs[(11 : Int).toNat]? = some [.int .i64 s11] := by rw [g11]; exact hcell 11 (by omega)
      refine Idx.mk _ hi0 hqi ?_
      cbv
      refine Idx.mk _ (by decide) hc11 ?_
      cbv
      refine Idx.mk _ (by decide) hc11 ?_
      cbv
      simp only [c1]
      cbv
      refine InN.mk (by decide) (by decide) ?_
      cbv
      simp only [c1]
      cbv
      simp only [a5]
      refine hN2 12 _ _ ?hx ?hi ?ht
      case hx => (refine Wk.eqz (id) (by first | exact fun i _ j _ e => e | (simp only [List.length_cons, List.length_nil]; decide)) ?_; cbv; (repeat' (first | exact trivial | rfl | assumption | apply And.intro | (simp only [hbin, hcmp, hun, hconv, hnot, hbeq, hmm, hscmp, hsadd, hslen, hsat, heqs, hofNat, binStd, cmpStd, unStd, scmpStd, maxI, Bool.not_eq_true', Bool.not_eq_false', decide_eq_true_eq, decide_eq_false_iff_not, Int.not_lt, Int.not_le, if_true, if_false, Bool.false_eq_true, beq_iff_eq, bne_iff_ne, ne_eq, Bool.not_eq_eq_eq_not, Bool.not_true, Bool.not_false, beq_eq_false_iff_ne, bne_eq_false_iff_eq, Int.ofNat_eq_natCast, Bool.not_not, not_true_eq_false, not_false_eq_true, reduceCtorEq]; first | done | assumption) | exact RowsZ.same (by assumption) (by first | assumption | rfl) | exact FzL.mk rfl rfl rfl (by assumption) (by first | assumption | rfl) (by decide) | (refine RowsZ.one ?_; cbv))))
      case hi => exact ⟨by decide, by decide⟩
      case ht => decide
    · have ce : wcmp .neq s11 0 = false := by rw [show s11 = 0 by rw [g11]; exact hnil 11 (by omega)]; exact c1 0
      refine InN.mk (by decide) (by decide) ?_
      cbv
      simp only [ce]
      cbv
      simp only [a5]
      refine hN2 12 _ _ ?hx ?hi ?ht
      case hx => (refine Wk.eqz (id) (by first | exact fun i _ j _ e => e | (simp only [List.length_cons, List.length_nil]; decide)) ?_; cbv; (repeat' (first | exact trivial | rfl | assumption | apply And.intro | (simp only [hbin, hcmp, hun, hconv, hnot, hbeq, hmm, hscmp, hsadd, hslen, hsat, heqs, hofNat, binStd, cmpStd, unStd, scmpStd, maxI, Bool.not_eq_true', Bool.not_eq_false', decide_eq_true_eq, decide_eq_false_iff_not, Int.not_lt, Int.not_le, if_true, if_false, Bool.false_eq_true, beq_iff_eq, bne_iff_ne, ne_eq, Bool.not_eq_eq_eq_not, Bool.not_true, Bool.not_false, beq_eq_false_iff_ne, bne_eq_false_iff_eq, Int.ofNat_eq_natCast, Bool.not_not, not_true_eq_false, not_false_eq_true, reduceCtorEq]; first | done | assumption) | exact RowsZ.same (by assumption) (by first | assumption | rfl) | exact FzL.mk rfl rfl rfl (by assumption) (by first | assumption | rfl) (by decide) | (refine RowsZ.one ?_; cbv))))
      case hi => exact ⟨by decide, by decide⟩
      case ht => decide
end Go.Proofs.Ytpiocfmdjgbamaa

/- odographlaw14.steps. -/
set_option linter.unusedVariables false
set_option linter.unusedSimpArgs false
namespace Go.Proofs.Ytpiocfmdjgbamaa
open Go Go.RowKit Go.Eng
set_option maxRecDepth 100000
def plRow (p : Int × Int) : List AV := [.int .i64 p.1, .int .i64 p.2]
theorem up_pl (ps : List (Int × Int)) : Up0 (ps.map plRow) := up_map (f := plRow) (fun d => rfl) ps
/-- The ways behind some growths. -/
def stepW (ss : List Sg) (from_ : Int) (m : List (List Int)) (p : Int × Int) : List (List Int) := if (growA ss p.1 p.2 from_ m).2 = 0 then (growA ss p.1 p.2 from_ m).1.2 else m
theorem growA_e {ss : List Sg} {lo hi from_ : Int} {ls : List (List Int)} {v1 v3 : Int} {v2 : List (List Int)} (h : ((v1, v2), v3) = growA ss lo hi from_ ls) : v3 = 0 ∨ v3 = 13 ∨ v3 = 40 := by
  have he := growS_e (ss := ss) (lo := lo) (hi := hi) (from_ := from_) ls
  unfold growA at h
  split at h
  · simp only [Prod.mk.injEq] at h; exact .inr (.inr h.2)
  · split at h
    · simp only [Prod.mk.injEq] at h; rw [h.2]; exact he.imp id .inl
    · split at h
      · simp only [Prod.mk.injEq] at h; exact .inr (.inr h.2)
      · simp only [Prod.mk.injEq] at h; exact .inl h.2
set_option maxHeartbeats 2000000 in
theorem e_steps (ss : List Sg) (gs : List Gr) (es ds : List (List AV)) (hes : es = ss.map sgRow) (hds : ds = gs.map grRow) (sg from_ : Int) (hM : May14 ss gs sg from_) (ps : List (Int × Int)) (hps : ps.length ≤ 1000) (pl : List (List AV)) (hpl : pl = ps.map plRow) (m : List (List Int)) (hm : m = ps.foldl (stepW ss from_) [[sg]]) :
    PCalls Try.prog 14 [.agg [.list 3 es, .list 5 ds], .int .i64 sg, .int .i64 from_, .list 2 pl] (· = .tuple [.agg [.int .i64 from_, .list 13 (m.map rtC)], .agg [.int .i64 from_, .list 1 (m.map rtRow)], .bool true]) := by
  have hu : Up0 es := by rw [hes]; exact up_sg ss
  have hud : Up0 ds := by rw [hds]; exact up_gr gs
  have hup : Up0 pl := by rw [hpl]; exact up_pl ps
  have hpll : pl.length = ps.length := by rw [hpl]; simp
  have hnx := hM.tr.nextOk
  have hln := hM.tr.lensOk
  obtain ⟨r0, er0⟩ : ∃ r : List (List AV), r = [rtC [sg]] := ⟨_, rfl⟩
  obtain ⟨q0, eq0⟩ : ∃ r : List (List AV), r = [rtRow [sg]] := ⟨_, rfl⟩
  have hbeg := e_begin sg from_ sg rfl
  have hbeg : PCalls Try.prog 18 [.int .i64 sg, .int .i64 from_] (· = .agg [.int .i64 from_, .list 13 r0]) := by rw [er0]; exact hbeg
  have hur0 : Up0 r0 := by rw [er0]; exact ⟨rfl⟩
  have huq0 : Up0 q0 := by rw [eq0]; exact ⟨rfl⟩
  obtain ⟨ra, era⟩ : ∃ x, x = m.map rtC := ⟨_, rfl⟩
  obtain ⟨rq, erq⟩ : ∃ x, x = m.map rtRow := ⟨_, rfl⟩
  rw [← era, ← erq]
  have hway : ∀ l, l ∈ [[sg]] → WayOk ss l := fun l hl => by
    simp at hl; subst hl
    exact ⟨by simp, fun n hn => by simp at hn; subst hn; exact hM.seg⟩
  have hsame := e_same14 from_ [[sg]] (fun l hl => (hway l hl).len.1) (by simp) r0 q0 er0 eq0
  have hus : ∀ (x y : List (List AV)), Up0 x → Up0 y → uptoL 0 [AV.agg [.int .i64 from_, .list 13 x], .agg [.int .i64 from_, .list 1 y]] = true := fun x y hx hy => by simp only [uptoL, AV.upto, hx.get, hy.get]; rfl
  (refine PCalls.ofY Try.func14 (by kernel_rfl) (by kernel_rfl) fun w hw R hR => ?_); (obtain ⟨wbin, wcmp, wun, wconv, wnot, wbeq, wmm, wscmp, wsadd, wslen, wsat, weqs, wlen, wnlen, wofNat, wtake, wdrop, wapp, wzero, wnat⟩ := w); (have hbin : wbin = binStd := congrArg Prims.bin hw); (have hcmp : wcmp = cmpStd := congrArg Prims.cmp hw); (have hun : wun = unStd := congrArg Prims.un hw); (have hconv : wconv = fun k n => k.wrap n := congrArg Prims.conv hw); (have hnot : wnot = fun b => !b := congrArg Prims.not hw); (have hbeq : wbeq = fun a b => a == b := congrArg Prims.beq hw); (have hmm : wmm = maxI := congrArg Prims.mm hw); (have hscmp : wscmp = scmpStd := congrArg Prims.scmp hw); (have hsadd : wsadd = fun x y => x ++ y := congrArg Prims.sadd hw); (have hslen : wslen = fun s => (s.size : Int) := congrArg Prims.slen hw); (have hsat : wsat = std.sat := congrArg Prims.sat hw); (have heqs : weqs = fun a b os => (eqOffs a b os).getD false := congrArg Prims.eqs hw); (have hlen : wlen = fun es => (es.length : Int) := congrArg Prims.len hw); (have hnlen : wnlen = fun es => es.length := congrArg Prims.nlen hw); (have hofNat : wofNat = (fun n : Nat => (n : Int)) := congrArg Prims.ofNat hw); (have htake : wtake = fun es b => es.take b.toNat := congrArg Prims.take hw); (have hdrop : wdrop = fun es a => es.drop a.toNat := congrArg Prims.drop hw); (have happ : wapp = fun a b => a ++ b := congrArg Prims.app hw); (have hzero : wzero = fun n z => List.replicate n.toNat z := congrArg Prims.zero hw); (have hnat : wnat = fun n => n.toNat := congrArg Prims.nat hw); (conv => arg 2; cbv); (generalize hP : Try.prog = P); cbv
  have eq1 : q0 = [[.list 1 [[.int .i64 sg]]]] := eq0
  refine Call.stepE (by rw [← hP]; exact hbeg) rfl ?_
  cbv
  rw [← eq1]
  refine Call.stepE (by rw [← hP]; exact hsame) (by exact hus _ _ hur0 huq0) ?_
  cbv
  have n1 : wnot true = false := by rw [hnot]; rfl
  simp only [n1]
  cbv
  (obtain ⟨L, eL, L0, Ln⟩ : ∃ L : Int, wlen pl = L ∧ 0 ≤ L ∧ L.toNat = pl.length := ⟨(pl.length : Int), by rw [hlen], Int.natCast_nonneg _, Int.toNat_natCast _⟩)
  simp only [eL]
  refine Loop.data hw (S := Int × List (List Int) × List (List AV) × List (List AV)) (fun s => fr 89 [(4, .ref 0 2 0 0), (8, .ref 1 2 0 0), (9, .ref 2 2 0 0), (11, .ref 3 2 0 0), (12, .ref 4 2 0 0), (33, .list 2 pl), (34, .int .i64 L), (35, .int .i64 s.1)])
    (fun s => [.live 2 [[.list 3 es, .list 5 ds]], .live 2 [[.int .i64 0, .nils]], .live 2 [[.int .i64 0, .nils]], .live 2 [[.int .i64 from_, .list 13 s.2.2.1]], .live 2 [[.int .i64 from_, .list 1 s.2.2.2]]])
    (fun s => 0 ≤ s.1 ∧ s.1 ≤ L ∧ s.2.1 = (ps.take s.1.toNat).foldl (stepW ss from_) [[sg]] ∧ s.2.2.1 = s.2.1.map rtC ∧ s.2.2.2 = s.2.1.map rtRow ∧ Up0 s.2.2.1 ∧ Up0 s.2.2.2 ∧ (∀ l, l ∈ s.2.1 → WayOk ss l) ∧ s.2.1.length ≤ 16) (fun s => (L - s.1).toNat) (0, [[sg]], r0, q0) (by (refine Wk.eqz (id) (by first | exact fun i _ j _ e => e | (simp only [List.length_cons, List.length_nil]; decide)) ?_; cbv; (repeat' (first | exact trivial | rfl | assumption | apply And.intro | (simp only [hbin, hcmp, hun, hconv, hnot, hbeq, hmm, hscmp, hsadd, hslen, hsat, heqs, hofNat, binStd, cmpStd, unStd, scmpStd, maxI, Bool.not_eq_true', Bool.not_eq_false', decide_eq_true_eq, decide_eq_false_iff_not, Int.not_lt, Int.not_le, if_true, if_false, Bool.false_eq_true, beq_iff_eq, bne_iff_ne, ne_eq, Bool.not_eq_eq_eq_not, Bool.not_true, Bool.not_false, beq_eq_false_iff_ne, bne_eq_false_iff_eq, Int.ofNat_eq_natCast, Bool.not_not, not_true_eq_false, not_false_eq_true, reduceCtorEq]; first | done | assumption) | exact RowsZ.same (by assumption) (by first | assumption | rfl) | exact FzL.mk rfl rfl rfl (by assumption) (by first | assumption | rfl) (by decide) | (refine RowsZ.one ?_; cbv))))) ⟨Int.le_refl _, L0, rfl, er0, eq0, hur0, huq0, hway, by simp⟩ ?_
  rintro ⟨i, m1, ra1, rq1⟩ hinv Q' hN hE hR'
  have hinv : 0 ≤ i ∧ i ≤ L ∧ m1 = (ps.take i.toNat).foldl (stepW ss from_) [[sg]] ∧ ra1 = m1.map rtC ∧ rq1 = m1.map rtRow ∧ Up0 ra1 ∧ Up0 rq1 ∧ (∀ l, l ∈ m1 → WayOk ss l) ∧ m1.length ≤ 16 := hinv
  cbv
  obtain ⟨hi0, hi1, hmf, hra1, hrq1, hura, hurq, hw1, hl16⟩ := hinv
  (split <;> rename_i hc <;> (try (simp only [hbin, hcmp, hun, hconv, hnot, hbeq, hmm, hscmp, hsadd, hslen, hsat, heqs, hofNat, binStd, cmpStd, unStd, scmpStd, maxI, Bool.not_eq_true', Bool.not_eq_false', decide_eq_true_eq, decide_eq_false_iff_not, Int.not_lt, Int.not_le, if_true, if_false, Bool.false_eq_true, beq_iff_eq, bne_iff_ne, ne_eq, Bool.not_eq_eq_eq_not, Bool.not_true, Bool.not_false, beq_eq_false_iff_ne, bne_eq_false_iff_eq, Int.ofNat_eq_natCast, Bool.not_not, not_true_eq_false, not_false_eq_true, reduceCtorEq] at hc)) <;> (try cbv))
  rotate_left 1
  · refine hE _ _ _ ?_
    cbv
    have hmm1 : m1 = m := by rw [hm, hmf, List.take_of_length_le (by omega)]
    rw [hmm1] at hra1 hrq1
    have e1 : ra = ra1 := by rw [era, hra1]
    have e2 : rq = rq1 := by rw [erq, hrq1]
    have hfin : ∀ h : AHeap, Ret [.agg [.int .i64 from_, .list 13 ra1], .agg [.int .i64 from_, .list 1 rq1], .bool true] h R := fun h =>
      ⟨_, Vw.same (by simp only [retOne, AV.upto, uptoL, hura.get, hurq.get]; rfl), hR _ (by rw [e1, e2]; rfl)⟩
    repeat' (refine And.intro ?_ ?_)
    all_goals exact hfin _
  obtain ⟨⟨lo, hi⟩, hp⟩ : ∃ p, ps[i.toNat]? = some p := ⟨_, List.getElem?_eq_getElem (show i.toNat < ps.length by omega)⟩
  have hpi : pl[i.toNat]? = some [.int .i64 lo, .int .i64 hi] := by rw [hpl, List.getElem?_map, hp]; rfl
  obtain ⟨i2, ei2⟩ : ∃ z, z = i + 1 := ⟨_, rfl⟩
  have a4 : wbin .add .i64 i 1 = i2 := by rw [hbin, ei2]; show IntKind.i64.wrap (i + 1) = i + 1; rw [IntKind.wrap_i64]; omega
  obtain ⟨v, ev⟩ : ∃ v, v = growA ss lo hi from_ m1 := ⟨_, rfl⟩
  have hstep : (ps.take i2.toNat).foldl (stepW ss from_) [[sg]] = (if v.2 = 0 then v.1.2 else m1) := by
    rw [ei2, take_next hi0 hp, List.foldl_append, ← hmf, ev]; rfl
  have hA := e_grows ss gs es ds hes hds hln hnx lo hi from_ hM.fr m1 hw1 (by omega) ra1 hra1 v ev
  have hB := e_rgrow ss gs es ds hes hds hln hnx lo hi from_ hM.fr m1 hw1 (by omega) rq1 hrq1 v (by rw [ev, growA_eq hnx m1 hw1])
  have hcase := growA_ok hnx m1 hw1 ev
  obtain ⟨⟨v1, v2⟩, v3⟩ := v
  obtain ⟨us, eus⟩ : ∃ x, x = v2.map rtC := ⟨_, rfl⟩
  obtain ⟨ys, eys⟩ : ∃ x, x = v2.map rtRow := ⟨_, rfl⟩
  have hA : PCalls Try.prog 19 [.agg [.int .i64 from_, .list 13 ra1], .agg [.list 3 es, .list 5 ds], .agg [.int .i64 lo, .int .i64 hi]] (· = .tuple [.agg [.int .i64 v1, .list 13 us], .int .i64 v3]) := by rw [eus]; exact hA
  have hB : PCalls Try.prog 37 [.agg [.list 3 es, .list 5 ds], .agg [.int .i64 from_, .list 1 rq1], .int .i64 lo, .int .i64 hi] (· = .tuple [.agg [.int .i64 v1, .list 1 ys], .int .i64 v3]) := by rw [eys]; exact hB
  have hugA : uptoL 0 [AV.agg [.int .i64 from_, .list 13 ra1], .agg [.list 3 es, .list 5 ds], .agg [.int .i64 lo, .int .i64 hi]] = true := by simp only [uptoL, AV.upto, hu.get, hud.get, hura.get]; rfl
  have hugB : uptoL 0 [AV.agg [.list 3 es, .list 5 ds], .agg [.int .i64 from_, .list 1 rq1], .int .i64 lo, .int .i64 hi] = true := by simp only [uptoL, AV.upto, hu.get, hud.get, hurq.get]; rfl
  have hut : uptoL 0 [AV.agg [.list 3 es, .list 5 ds]] = true := Bool.and_eq_true_iff.mpr ⟨Up0.one hu (Up0.one hud rfl), rfl⟩
  have href := e_refsT14 ss gs es ds hes hds (by have := hM.n300; omega) (by have := hM.g500; omega) hM.ps
  refine Idx.mk _ hi0 hpi ?_
  cbv
  refine Call.stepE (by rw [← hP]; exact hA) (by exact hugA) ?_
  cbv
  refine QCal.stepE (by rw [← hP]; exact href) (by exact hut) ?_
  cbv
  refine QCal.stepE (by rw [← hP]; exact hB) (by exact hugB) ?_
  cbv
  have c1 : ∀ x, wcmp .neq x x = false := fun x => by rw [hcmp]; simp [cmpStd]
  have c2 : wconv .i64 v3 = v3 := by
    rw [hconv]; show IntKind.i64.wrap v3 = v3
    have : v3 = 0 ∨ v3 = 13 ∨ v3 = 40 := growA_e ev
    rw [IntKind.wrap_i64]; omega
  simp only [c1, c2]
  cbv
  have huus : Up0 us := by rw [eus]; exact up_map (f := rtC) (fun d => rfl) v2
  have huys : Up0 ys := by rw [eys]; exact up_rt v2
  (split <;> rename_i h5 <;> (try (simp only [hbin, hcmp, hun, hconv, hnot, hbeq, hmm, hscmp, hsadd, hslen, hsat, heqs, hofNat, binStd, cmpStd, unStd, scmpStd, maxI, Bool.not_eq_true', Bool.not_eq_false', decide_eq_true_eq, decide_eq_false_iff_not, Int.not_lt, Int.not_le, if_true, if_false, Bool.false_eq_true, beq_iff_eq, bne_iff_ne, ne_eq, Bool.not_eq_eq_eq_not, Bool.not_true, Bool.not_false, beq_eq_false_iff_ne, bne_eq_false_iff_eq, Int.ofNat_eq_natCast, Bool.not_not, not_true_eq_false, not_false_eq_true, reduceCtorEq] at h5)) <;> (try cbv))
  · have hv2 : v2 = [] := by
      rcases hcase with h | h
      · exact h.2
      · exact absurd h.1 h5
    (obtain ⟨H, eH, H0, Hn⟩ : ∃ L : Int, wlen us = L ∧ 0 ≤ L ∧ L.toNat = us.length := ⟨(us.length : Int), by rw [hlen], Int.natCast_nonneg _, Int.toNat_natCast _⟩)
    have hH : H = 0 := by
      have : us.length = 0 := by rw [eus, hv2]; rfl
      omega
    have c4 : wcmp .eql v3 0 = false := by rw [hcmp]; simp only [cmpStd]; rw [beq_eq_false_iff_ne]; exact h5
    simp only [eH, hH, c1]
    cbv
    simp only [c4]
    cbv
    simp only [c4]
    cbv
    simp only [a4]
    refine hN (i2, m1, ra1, rq1) _ _ ?hx ?hi ?ht
    case hx => (refine Wk.eqz (id) (by first | exact fun i _ j _ e => e | (simp only [List.length_cons, List.length_nil]; decide)) ?_; cbv; (repeat' (first | exact trivial | rfl | assumption | apply And.intro | (simp only [hbin, hcmp, hun, hconv, hnot, hbeq, hmm, hscmp, hsadd, hslen, hsat, heqs, hofNat, binStd, cmpStd, unStd, scmpStd, maxI, Bool.not_eq_true', Bool.not_eq_false', decide_eq_true_eq, decide_eq_false_iff_not, Int.not_lt, Int.not_le, if_true, if_false, Bool.false_eq_true, beq_iff_eq, bne_iff_ne, ne_eq, Bool.not_eq_eq_eq_not, Bool.not_true, Bool.not_false, beq_eq_false_iff_ne, bne_eq_false_iff_eq, Int.ofNat_eq_natCast, Bool.not_not, not_true_eq_false, not_false_eq_true, reduceCtorEq]; first | done | assumption) | exact RowsZ.same (by assumption) (by first | assumption | rfl) | exact FzL.mk rfl rfl rfl (by assumption) (by first | assumption | rfl) (by decide) | (refine RowsZ.one ?_; cbv))))
    case hi => exact ⟨by first | omega | (simp only; omega), by first | omega | (simp only; omega), by rw [hstep]; exact (if_neg h5).symm, hra1, hrq1, hura, hurq, hw1, hl16⟩
    case ht => show (L - i2).toNat < (L - i).toNat; omega
  · have hG : v1 = from_ ∧ Grown ss lo hi from_ v2 := by
      rcases hcase with h | h
      · exact absurd h5 h.1
      · exact ⟨h.2.1, h.2.2⟩
    obtain ⟨rfl, hG⟩ := hG
    have hw2 : ∀ l, l ∈ v2 → WayOk ss l := fun l hl => (hG.ways l hl).1
    have hsm := e_same14 v1 v2 (fun l hl => (hw2 l hl).len.1) (by have := hG.few; omega) us ys eus eys
    have c4 : wcmp .eql v3 0 = true := by rw [hcmp]; simp only [cmpStd]; rw [beq_iff_eq]; exact h5
    simp only [c4]
    cbv
    refine Call.stepE (by rw [← hP]; exact hsm) (by exact hus _ _ huus huys) ?_
    cbv
    simp only [n1]
    cbv
    simp only [c4]
    cbv
    repeat' (refine And.intro ?_ ?_)
    all_goals
      simp only [a4]
      refine hN (i2, v2, us, ys) _ _ ?hx ?hi ?ht
      case hx => (refine Wk.eqz (id) (by first | exact fun i _ j _ e => e | (simp only [List.length_cons, List.length_nil]; decide)) ?_; cbv; (repeat' (first | exact trivial | rfl | assumption | apply And.intro | (simp only [hbin, hcmp, hun, hconv, hnot, hbeq, hmm, hscmp, hsadd, hslen, hsat, heqs, hofNat, binStd, cmpStd, unStd, scmpStd, maxI, Bool.not_eq_true', Bool.not_eq_false', decide_eq_true_eq, decide_eq_false_iff_not, Int.not_lt, Int.not_le, if_true, if_false, Bool.false_eq_true, beq_iff_eq, bne_iff_ne, ne_eq, Bool.not_eq_eq_eq_not, Bool.not_true, Bool.not_false, beq_eq_false_iff_ne, bne_eq_false_iff_eq, Int.ofNat_eq_natCast, Bool.not_not, not_true_eq_false, not_false_eq_true, reduceCtorEq]; first | done | assumption) | exact RowsZ.same (by assumption) (by first | assumption | rfl) | exact FzL.mk rfl rfl rfl (by assumption) (by first | assumption | rfl) (by decide) | (refine RowsZ.one ?_; cbv))))
      case hi => exact ⟨by first | omega | (simp only; omega), by first | omega | (simp only; omega), by rw [hstep]; exact (if_pos h5).symm, eus, eys, huus, huys, hw2, hG.few⟩
      case ht => show (L - i2).toNat < (L - i).toNat; omega
end Go.Proofs.Ytpiocfmdjgbamaa

/- Arguments that say less: a nil slice is a list of none. -/
set_option linter.unusedVariables false
namespace Go.Eng
open Go Go.RowKit
mutual
def leB : AV → AV → Bool
  | .int k a, y => (match y with | .int k' b => decide (k = k') && decide (a = b) | _ => false)
  | .bool a, y => (match y with | .bool b => a == b | _ => false)
  | .nils, y => (match y with | .nils => true | .list _ es => es.isEmpty | _ => false)
  | .nilp, y => (match y with | .nilp => true | _ => false)
  | .agg cs, y => (match y with | .agg ds => leL cs ds | _ => false)
  | .list z es, y => (match y with | .list z' fs => Nat.beq z z' && leLL es fs | _ => false)
  | _, _ => false
def leL : List AV → List AV → Bool
  | [], y => (match y with | [] => true | _ => false)
  | c :: cs, y => (match y with | d :: ds => leB c d && leL cs ds | _ => false)
def leLL : List (List AV) → List (List AV) → Bool
  | [], y => (match y with | [] => true | _ => false)
  | c :: cs, y => (match y with | d :: ds => leL c d && leLL cs ds | _ => false)
end
def VLe (x y : AV) : Prop := ∀ C v, VR C x v → VR C y v
mutual
theorem leB_ok : ∀ (x y : AV), leB x y = true → VLe x y
  | .int k a, y, h => by
    unfold leB at h
    split at h
    · simp only [Bool.and_eq_true, decide_eq_true_eq] at h
      obtain ⟨rfl, rfl⟩ := h
      exact fun C v h => h
    · cases h
  | .bool a, y, h => by
    unfold leB at h
    split at h
    · simp only [beq_iff_eq] at h
      subst h
      exact fun C v h => h
    · cases h
  | .nils, y, h => by
    unfold leB at h
    split at h
    · exact fun C v h => h
    · rename_i z es
      have : es = [] := List.isEmpty_iff.1 h
      subst this
      intro C v hv
      rw [hv.nils']
      exact .listNil _ _ _
    · cases h
  | .nilp, y, h => by
    unfold leB at h
    split at h
    · exact fun C v h => h
    · cases h
  | .agg cs, y, h => by
    unfold leB at h
    split at h
    · rename_i ds
      intro C v hv
      obtain ⟨vs, rfl, hl, hx⟩ := hv.agg'
      obtain ⟨h1, h2⟩ := leL_ok cs ds h
      refine .agg _ _ (by rw [hl, h1]) fun i y hy => ?_
      obtain ⟨x, hx', hle⟩ := h2 i y hy
      exact hle C _ (hx i x hx')
    · cases h
  | .list z es, y, h => by
    unfold leB at h
    split at h
    · rename_i z' fs
      simp only [Bool.and_eq_true] at h
      have := Nat.eq_of_beq_eq_true h.1
      subst this
      obtain ⟨h1, h2⟩ := leLL_ok es fs h.2
      intro C v hv
      rcases hv.lists with ⟨⟨a, cap, rfl⟩, rfl⟩ | ⟨a, cap, f, rfl, hcap, hsp, hz, hcell, hown, hv⟩
      · have : fs = [] := List.length_eq_zero_iff.1 h1.symm
        subst this
        exact .listNil _ _ _
      · refine .list z fs a es.length cap f h1.symm hcap hsp (fun e he => ?_) hcell hown fun i e he j x hx => ?_
        · obtain ⟨i, hi⟩ := List.mem_iff_getElem?.1 he
          obtain ⟨r, hr, hl, _⟩ := h2 i e hi
          rw [← hl]; exact hz r (List.mem_of_getElem? hr)
        · obtain ⟨r, hr, hl, hle⟩ := h2 i e he
          obtain ⟨x', hx', hle'⟩ := hle j x hx
          exact hle' C _ (hv i r hr j x' hx')
    · cases h
  | .any, y, h => by unfold leB at h; cases h
  | .str _, y, h => by unfold leB at h; cases h
  | .nilFunc, y, h => by unfold leB at h; cases h
  | .nilIface, y, h => by unfold leB at h; cases h
  | .tuple _, y, h => by unfold leB at h; cases h
  | .sl _ _ _ _, y, h => by unfold leB at h; cases h
  | .ref _ _ _ _, y, h => by unfold leB at h; cases h
  | .cref _, y, h => by unfold leB at h; cases h
  | .mapr _, y, h => by unfold leB at h; cases h
  | .func _ _ _, y, h => by unfold leB at h; cases h
  | .iface _ _, y, h => by unfold leB at h; cases h
theorem leL_ok : ∀ (xs ys : List AV), leL xs ys = true → xs.length = ys.length ∧ ∀ (i : Nat) (y : AV), ys[i]? = some y → ∃ x, xs[i]? = some x ∧ VLe x y
  | [], y, h => by
    unfold leL at h
    split at h
    · exact ⟨rfl, fun i y hy => by simp at hy⟩
    · cases h
  | c :: cs, y, h => by
    unfold leL at h
    split at h
    · rename_i d ds
      simp only [Bool.and_eq_true] at h
      obtain ⟨h1, h2⟩ := leL_ok cs ds h.2
      refine ⟨by simp [h1], fun i y hy => ?_⟩
      cases i with
      | zero => simp at hy; subst hy; exact ⟨c, rfl, leB_ok c d h.1⟩
      | succ i => simpa using h2 i y (by simpa using hy)
    · cases h
theorem leLL_ok : ∀ (xs ys : List (List AV)), leLL xs ys = true → xs.length = ys.length ∧ ∀ (i : Nat) (y : List AV), ys[i]? = some y → ∃ x, xs[i]? = some x ∧ x.length = y.length ∧ ∀ (j : Nat) (b : AV), y[j]? = some b → ∃ a, x[j]? = some a ∧ VLe a b
  | [], y, h => by
    unfold leLL at h
    split at h
    · exact ⟨rfl, fun i y hy => by simp at hy⟩
    · cases h
  | c :: cs, y, h => by
    unfold leLL at h
    split at h
    · rename_i d ds
      simp only [Bool.and_eq_true] at h
      obtain ⟨h1, h2⟩ := leLL_ok cs ds h.2
      obtain ⟨k1, k2⟩ := leL_ok c d h.1
      refine ⟨by simp [h1], fun i y hy => ?_⟩
      cases i with
      | zero => simp at hy; subst hy; exact ⟨c, rfl, k1, k2⟩
      | succ i => simpa using h2 i y (by simpa using hy)
    · cases h
end
theorem PCalls.le {P : Program} {g : FuncId} {args args' : List AV} {R : AV → Prop} (H : PCalls P g args' R) (hl : leL args args' = true) : PCalls P g args R := by
  obtain ⟨h1, h2⟩ := leL_ok args args' hl
  refine ⟨H.1, fun C vs hC RC hv => H.2 C vs hC RC ⟨by rw [hv.1, h1], fun i y hy => ?_⟩⟩
  obtain ⟨x, hx, hle⟩ := h2 i y hy
  exact hle C _ (hv.2 i x hx)
end Go.Eng

/- RouteAgain, by the engine. -/
set_option linter.unusedVariables false
set_option linter.unusedSimpArgs false
namespace Go.Proofs.Ytpiocfmdjgbamaa
open Go Go.RowKit Go.Eng
set_option maxRecDepth 100000
set_option maxHeartbeats 2000000 in
theorem e_anchor14 : PCalls Try.prog 12 [] (· = .bool true) := by
  have hA : growA [⟨10, [(0, 0)], [1, 2]⟩, ⟨5, [(0, 0)], []⟩, ⟨5, [(0, 0)], []⟩] 7 8 4 [[0]] = ((4, [[0, 1], [0, 2]]), 0) := by decide
  have hg := e_grows [⟨10, [(0, 0)], [1, 2]⟩, ⟨5, [(0, 0)], []⟩, ⟨5, [(0, 0)], []⟩] [] _ _ rfl rfl ⟨by decide⟩ ⟨by decide⟩ 7 8 4 (by decide) [[0]] (fun l hl => by simp at hl; subst hl; exact ⟨by decide, by decide⟩) (by decide) _ rfl ((4, [[0, 1], [0, 2]]), 0) hA.symm
  have hg2 := PCalls.le (args := [.agg [.int .i64 4, .list 13 [[.int .i64 1, .int .i64 0, .int .i64 0, .int .i64 0, .int .i64 0, .int .i64 0, .int .i64 0, .int .i64 0, .int .i64 0, .int .i64 0, .int .i64 0, .int .i64 0, .int .i64 0]]], .agg [.list 3 [[.int .i64 10, .list 2 [[.int .i64 0, .int .i64 0]], .list 1 [[.int .i64 1], [.int .i64 2]]], [.int .i64 5, .list 2 [[.int .i64 0, .int .i64 0]], .nils], [.int .i64 5, .list 2 [[.int .i64 0, .int .i64 0]], .nils]], .nils], .agg [.int .i64 7, .int .i64 8]]) hg rfl
  clear hg
  have hg3 : PCalls Try.prog 19 [.agg [.int .i64 4, .list 13 [[.int .i64 1, .int .i64 0, .int .i64 0, .int .i64 0, .int .i64 0, .int .i64 0, .int .i64 0, .int .i64 0, .int .i64 0, .int .i64 0, .int .i64 0, .int .i64 0, .int .i64 0]]], .agg [.list 3 [[.int .i64 10, .list 2 [[.int .i64 0, .int .i64 0]], .list 1 [[.int .i64 1], [.int .i64 2]]], [.int .i64 5, .list 2 [[.int .i64 0, .int .i64 0]], .nils], [.int .i64 5, .list 2 [[.int .i64 0, .int .i64 0]], .nils]], .nils], .agg [.int .i64 7, .int .i64 8]] (· = .tuple [.agg [.int .i64 4, .list 13 [[.int .i64 2, .int .i64 0, .int .i64 1, .int .i64 0, .int .i64 0, .int .i64 0, .int .i64 0, .int .i64 0, .int .i64 0, .int .i64 0, .int .i64 0, .int .i64 0, .int .i64 0], [.int .i64 2, .int .i64 0, .int .i64 2, .int .i64 0, .int .i64 0, .int .i64 0, .int .i64 0, .int .i64 0, .int .i64 0, .int .i64 0, .int .i64 0, .int .i64 0, .int .i64 0]]], .int .i64 0]) := hg2
  clear hg2
  (refine PCalls.ofY Try.func12 (by kernel_rfl) (by kernel_rfl) fun w hw R hR => ?_); (subst hw); (conv => arg 2; cbv); (generalize hP : Try.prog = P); cbv
  refine QCal.stepE (by rw [← hP]; exact e_begin 0 4 0 rfl) rfl ?_
  cbv
  refine QCal.stepE (by rw [← hP]; exact hg3) rfl ?_
  cbv
  repeat' (first
    | (refine Idx.mk _ (by decide) rfl ?_; cbv)
    | (refine InN.mk (by decide) (by decide) ?_; cbv)
    | (exact ⟨_, Vw.same rfl, hR _ rfl⟩))
set_option maxHeartbeats 2000000 in
theorem e_again (ss : List Sg) (gs : List Gr) (es ds : List (List AV)) (hes : es = ss.map sgRow) (hds : ds = gs.map grRow) (sg from_ lo hi lo2 hi2 : Int) :
    PCalls Try.prog 4 [.agg [.list 3 es, .list 5 ds], .int .i64 sg, .int .i64 from_, .agg [.int .i64 lo, .int .i64 hi], .agg [.int .i64 lo2, .int .i64 hi2]] (· = .bool true) := by
  have hu : Up0 es := by rw [hes]; exact up_sg ss
  have hud : Up0 ds := by rw [hds]; exact up_gr gs
  have hT : uptoL 0 [AV.agg [.list 3 es, .list 5 ds], .int .i64 sg, .int .i64 from_] = true := Bool.and_eq_true_iff.mpr ⟨Up0.one hu (Up0.one hud rfl), rfl⟩
  (refine PCalls.ofY Try.func4 (by kernel_rfl) (by kernel_rfl) fun w hw R hR => ?_); (obtain ⟨wbin, wcmp, wun, wconv, wnot, wbeq, wmm, wscmp, wsadd, wslen, wsat, weqs, wlen, wnlen, wofNat, wtake, wdrop, wapp, wzero, wnat⟩ := w); (have hbin : wbin = binStd := congrArg Prims.bin hw); (have hcmp : wcmp = cmpStd := congrArg Prims.cmp hw); (have hun : wun = unStd := congrArg Prims.un hw); (have hconv : wconv = fun k n => k.wrap n := congrArg Prims.conv hw); (have hnot : wnot = fun b => !b := congrArg Prims.not hw); (have hbeq : wbeq = fun a b => a == b := congrArg Prims.beq hw); (have hmm : wmm = maxI := congrArg Prims.mm hw); (have hscmp : wscmp = scmpStd := congrArg Prims.scmp hw); (have hsadd : wsadd = fun x y => x ++ y := congrArg Prims.sadd hw); (have hslen : wslen = fun s => (s.size : Int) := congrArg Prims.slen hw); (have hsat : wsat = std.sat := congrArg Prims.sat hw); (have heqs : weqs = fun a b os => (eqOffs a b os).getD false := congrArg Prims.eqs hw); (have hlen : wlen = fun es => (es.length : Int) := congrArg Prims.len hw); (have hnlen : wnlen = fun es => es.length := congrArg Prims.nlen hw); (have hofNat : wofNat = (fun n : Nat => (n : Int)) := congrArg Prims.ofNat hw); (have htake : wtake = fun es b => es.take b.toNat := congrArg Prims.take hw); (have hdrop : wdrop = fun es a => es.drop a.toNat := congrArg Prims.drop hw); (have happ : wapp = fun a b => a ++ b := congrArg Prims.app hw); (have hzero : wzero = fun n z => List.replicate n.toNat z := congrArg Prims.zero hw); (have hnat : wnat = fun n => n.toNat := congrArg Prims.nat hw); (conv => arg 2; cbv); (generalize hP : Try.prog = P); cbv
  have hW : ∀ h : AHeap, Ret [.bool true] h R := fun h => ⟨_, Vw.same rfl, hR _ rfl⟩
  refine Call.stepE (by rw [← hP]; exact e_anchor14) rfl ?_
  cbv
  have n1 : wnot true = false := by rw [hnot]; rfl
  simp only [n1]
  cbv
  refine Call.step (by rw [← hP]; exact e_may14 ss gs es ds hes hds sg from_) (by exact hT) ?_
  rintro r ⟨o, rfl, ho⟩
  cbv
  (split <;> rename_i h1 <;> (try (simp only [hbin, hcmp, hun, hconv, hnot, hbeq, hmm, hscmp, hsadd, hslen, hsat, heqs, hofNat, binStd, cmpStd, unStd, scmpStd, maxI, Bool.not_eq_true', Bool.not_eq_false', decide_eq_true_eq, decide_eq_false_iff_not, Int.not_lt, Int.not_le, if_true, if_false, Bool.false_eq_true, beq_iff_eq, bne_iff_ne, ne_eq, Bool.not_eq_eq_eq_not, Bool.not_true, Bool.not_false, beq_eq_false_iff_ne, bne_eq_false_iff_eq, Int.ofNat_eq_natCast, Bool.not_not, not_true_eq_false, not_false_eq_true, reduceCtorEq] at h1)) <;> (try cbv))
  · exact hW _
  have hM := ho h1
  have hnx := hM.tr.nextOk
  have hln := hM.tr.lensOk
  have hway : ∀ l, l ∈ [[sg]] → WayOk ss l := fun l hl => by
    simp at hl; subst hl
    exact ⟨by simp, fun n hn => by simp at hn; subst hn; exact hM.seg⟩
  obtain ⟨r0, er0⟩ : ∃ r : List (List AV), r = [rtC [sg]] := ⟨_, rfl⟩
  have hbeg := e_begin sg from_ sg rfl
  have hbeg : PCalls Try.prog 18 [.int .i64 sg, .int .i64 from_] (· = .agg [.int .i64 from_, .list 13 r0]) := by rw [er0]; exact hbeg
  have hur0 : Up0 r0 := by rw [er0]; exact ⟨rfl⟩
  obtain ⟨v, ev⟩ : ∃ v, v = growA ss lo hi from_ [[sg]] := ⟨_, rfl⟩
  have hg := e_grows ss gs es ds hes hds hln hnx lo hi from_ hM.fr [[sg]] hway (by simp) r0 (by rw [er0]; rfl) v ev
  have hcase := growA_ok hnx [[sg]] hway ev
  obtain ⟨⟨v1, m⟩, e1⟩ := v
  obtain ⟨ms, ems⟩ : ∃ x, m.map rtC = x := ⟨_, rfl⟩
  have hg : PCalls Try.prog 19 [.agg [.int .i64 from_, .list 13 r0], .agg [.list 3 es, .list 5 ds], .agg [.int .i64 lo, .int .i64 hi]] (· = .tuple [.agg [.int .i64 v1, .list 13 ms], .int .i64 e1]) := by rw [← ems]; exact hg
  have hug : ∀ f (r : List (List AV)) a b, Up0 r → uptoL 0 [AV.agg [.int .i64 f, .list 13 r], .agg [.list 3 es, .list 5 ds], .agg [.int .i64 a, .int .i64 b]] = true := fun f r a b hr => by simp only [uptoL, AV.upto, hu.get, hud.get, hr.get]; rfl
  refine QCal.stepE (by rw [← hP]; exact hbeg) rfl ?_
  cbv
  refine QCal.stepE (by rw [← hP]; exact hg) (hug _ _ _ _ hur0) ?_
  cbv
  (split <;> rename_i h2 <;> (try (simp only [hbin, hcmp, hun, hconv, hnot, hbeq, hmm, hscmp, hsadd, hslen, hsat, heqs, hofNat, binStd, cmpStd, unStd, scmpStd, maxI, Bool.not_eq_true', Bool.not_eq_false', decide_eq_true_eq, decide_eq_false_iff_not, Int.not_lt, Int.not_le, if_true, if_false, Bool.false_eq_true, beq_iff_eq, bne_iff_ne, ne_eq, Bool.not_eq_eq_eq_not, Bool.not_true, Bool.not_false, beq_eq_false_iff_ne, bne_eq_false_iff_eq, Int.ofNat_eq_natCast, Bool.not_not, not_true_eq_false, not_false_eq_true, reduceCtorEq] at h2)) <;> (try cbv))
  · exact hW _
  have hcase : e1 = 0 ∧ v1 = from_ ∧ Grown ss lo hi from_ m := by
    rcases hcase with h | h
    · exact absurd h2 h.1
    · exact h
  obtain ⟨rfl, rfl, hG⟩ := hcase
  have hums : Up0 ms := by rw [← ems]; exact up_map (f := rtC) (fun d => rfl) m
  have hml : ms.length = m.length := by rw [← ems]; simp
  have hga : ∀ b, lo ≤ b → b ≤ hi → PCalls Try.prog 19 [.agg [.int .i64 v1, .list 13 ms], .agg [.list 3 es, .list 5 ds], .agg [.int .i64 lo, .int .i64 b]] (· = .tuple [.agg [.int .i64 v1, .list 13 ms], .int .i64 0]) := fun b h1 h2 => by
    have := e_grows ss gs es ds hes hds hln hnx lo b v1 hM.fr m (fun l hl => (hG.ways l hl).1) (by have := hG.few; omega) ms ems.symm _ (hG.again h1 h2).symm
    rw [← ems] at this ⊢
    exact this
  refine Call.stepE (by rw [← hP]; exact hga hi hG.le.1 (Int.le_refl _)) (hug _ _ _ _ hums) ?_
  cbv
  have c0 : wcmp .neq 0 0 = false := by rw [hcmp]; rfl
  simp only [c0]
  cbv
  (obtain ⟨L, eL, L0, Ln⟩ : ∃ L : Int, wlen ms = L ∧ 0 ≤ L ∧ L.toNat = ms.length := ⟨(ms.length : Int), by rw [hlen], Int.natCast_nonneg _, Int.toNat_natCast _⟩)
  simp only [eL]
  have c1 : ∀ x, wcmp .neq x x = false := fun x => by rw [hcmp]; simp [cmpStd]
  simp only [c1]
  cbv
  simp only [c1]
  cbv
  simp only [eL]
  have hfew := hG.few
  refine Loop.data hw (S := Int) (fun i => fr 116 [(5, .ref 0 2 0 0), (8, .ref 1 2 0 0), (9, .ref 2 2 0 0), (11, .ref 3 2 0 0), (13, .ref 4 2 0 0), (63, .int .i64 L), (64, .int .i64 i)])
    (fun _ => [.live 2 [[.list 3 es, .list 5 ds]], .live 2 [[.int .i64 lo, .int .i64 hi]], .live 2 [[.int .i64 lo2, .int .i64 hi2]], .live 2 [[.int .i64 v1, .list 13 ms]], .live 2 [[.int .i64 v1, .list 13 ms]]])
    (fun i => 0 ≤ i ∧ i ≤ L) (fun i => (L - i).toNat) 0 (by (refine Wk.eqz (id) (by first | exact fun i _ j _ e => e | (simp only [List.length_cons, List.length_nil]; decide)) ?_; cbv; (repeat' (first | exact trivial | rfl | assumption | apply And.intro | (simp only [hbin, hcmp, hun, hconv, hnot, hbeq, hmm, hscmp, hsadd, hslen, hsat, heqs, hofNat, binStd, cmpStd, unStd, scmpStd, maxI, Bool.not_eq_true', Bool.not_eq_false', decide_eq_true_eq, decide_eq_false_iff_not, Int.not_lt, Int.not_le, if_true, if_false, Bool.false_eq_true, beq_iff_eq, bne_iff_ne, ne_eq, Bool.not_eq_eq_eq_not, Bool.not_true, Bool.not_false, beq_eq_false_iff_ne, bne_eq_false_iff_eq, Int.ofNat_eq_natCast, Bool.not_not, not_true_eq_false, not_false_eq_true, reduceCtorEq]; first | done | assumption) | exact RowsZ.same (by assumption) (by first | assumption | rfl) | exact FzL.mk rfl rfl rfl (by assumption) (by first | assumption | rfl) (by decide) | (refine RowsZ.one ?_; cbv))))) ⟨Int.le_refl _, L0⟩ ?_
  rintro i hinv Q' hN hE hR'
  have hinv : 0 ≤ i ∧ i ≤ L := hinv
  cbv
  obtain ⟨hi0, hi1⟩ := hinv
  (split <;> rename_i hc <;> (try (simp only [hbin, hcmp, hun, hconv, hnot, hbeq, hmm, hscmp, hsadd, hslen, hsat, heqs, hofNat, binStd, cmpStd, unStd, scmpStd, maxI, Bool.not_eq_true', Bool.not_eq_false', decide_eq_true_eq, decide_eq_false_iff_not, Int.not_lt, Int.not_le, if_true, if_false, Bool.false_eq_true, beq_iff_eq, bne_iff_ne, ne_eq, Bool.not_eq_eq_eq_not, Bool.not_true, Bool.not_false, beq_eq_false_iff_ne, bne_eq_false_iff_eq, Int.ofNat_eq_natCast, Bool.not_not, not_true_eq_false, not_false_eq_true, reduceCtorEq] at hc)) <;> (try cbv))
  · obtain ⟨l, hl⟩ : ∃ l, m[i.toNat]? = some l := ⟨_, List.getElem?_eq_getElem (show i.toNat < m.length by omega)⟩
    have hri : ms[i.toNat]? = some (toR l).row := by rw [← ems, List.getElem?_map, hl]; rfl
    obtain ⟨i2, ei2⟩ : ∃ z, z = i + 1 := ⟨_, rfl⟩
    have a4 : wbin .add .i64 i 1 = i2 := by rw [hbin, ei2]; show IntKind.i64.wrap (i + 1) = i + 1; rw [IntKind.wrap_i64]; omega
    obtain ⟨row, erow⟩ : ∃ row, row = toR l := ⟨_, rfl⟩
    rw [← erow] at hri
    obtain ⟨n, s0, s1, s2, s3, s4, s5, s6, s7, s8, s9, s10, s11⟩ := row
    have ce : weqs [.int .i64 n, .int .i64 s0, .int .i64 s1, .int .i64 s2, .int .i64 s3, .int .i64 s4, .int .i64 s5, .int .i64 s6, .int .i64 s7, .int .i64 s8, .int .i64 s9, .int .i64 s10, .int .i64 s11] [.int .i64 n, .int .i64 s0, .int .i64 s1, .int .i64 s2, .int .i64 s3, .int .i64 s4, .int .i64 s5, .int .i64 s6, .int .i64 s7, .int .i64 s8, .int .i64 s9, .int .i64 s10, .int .i64 s11] [(0, 1), (1, 1), (2, 1), (3, 1), (4, 1), (5, 1), (6, 1), (7, 1), (8, 1), (9, 1), (10, 1), (11, 1), (12, 1)] = true := by
      rw [heqs]; simp [eqOffs, eqA]
    have n2 : wnot true = false := by rw [hnot]; rfl
    refine Idx.mk _ hi0 hri ?_
    cbv
    refine Idx.mk _ hi0 hri ?_
    cbv
    simp only [ce, n2]
    cbv
    simp only [a4]
    refine hN i2 _ _ ?hx ?hi ?ht
    case hx => (refine Wk.eqz (id) (by first | exact fun i _ j _ e => e | (simp only [List.length_cons, List.length_nil]; decide)) ?_; cbv; (repeat' (first | exact trivial | rfl | assumption | apply And.intro | (simp only [hbin, hcmp, hun, hconv, hnot, hbeq, hmm, hscmp, hsadd, hslen, hsat, heqs, hofNat, binStd, cmpStd, unStd, scmpStd, maxI, Bool.not_eq_true', Bool.not_eq_false', decide_eq_true_eq, decide_eq_false_iff_not, Int.not_lt, Int.not_le, if_true, if_false, Bool.false_eq_true, beq_iff_eq, bne_iff_ne, ne_eq, Bool.not_eq_eq_eq_not, Bool.not_true, Bool.not_false, beq_eq_false_iff_ne, bne_eq_false_iff_eq, Int.ofNat_eq_natCast, Bool.not_not, not_true_eq_false, not_false_eq_true, reduceCtorEq]; first | done | assumption) | exact RowsZ.same (by assumption) (by first | assumption | rfl) | exact FzL.mk rfl rfl rfl (by assumption) (by first | assumption | rfl) (by decide) | (refine RowsZ.one ?_; cbv))))
    case hi => exact ⟨by omega, by omega⟩
    case ht => omega
  refine hE _ _ _ ?_
  cbv
  repeat' (first | exact hW _ | (split <;> rename_i h5 <;> (try (simp only [hbin, hcmp, hun, hconv, hnot, hbeq, hmm, hscmp, hsadd, hslen, hsat, heqs, hofNat, binStd, cmpStd, unStd, scmpStd, maxI, Bool.not_eq_true', Bool.not_eq_false', decide_eq_true_eq, decide_eq_false_iff_not, Int.not_lt, Int.not_le, if_true, if_false, Bool.false_eq_true, beq_iff_eq, bne_iff_ne, ne_eq, Bool.not_eq_eq_eq_not, Bool.not_true, Bool.not_false, beq_eq_false_iff_ne, bne_eq_false_iff_eq, Int.ofNat_eq_natCast, Bool.not_not, not_true_eq_false, not_false_eq_true, reduceCtorEq] at h5)) <;> (try cbv)))
  have hl2 : lo2 = lo := by omega
  have hb2 : lo ≤ hi2 ∧ hi2 ≤ hi := by omega
  rw [hl2]
  refine Call.stepE (by rw [← hP]; exact hga hi2 hb2.1 hb2.2) (hug _ _ _ _ hums) ?_
  cbv
  have c3 : wcmp .eql 0 0 = true := by rw [hcmp]; rfl
  simp only [c3]
  cbv
  have c4 : ∀ x, wcmp .eql x x = true := fun x => by rw [hcmp]; simp [cmpStd]
  simp only [c4]
  exact hW _
end Go.Proofs.Ytpiocfmdjgbamaa

/- RouteGrows, by the engine. -/
set_option linter.unusedVariables false
set_option linter.unusedSimpArgs false
namespace Go.Proofs.Ytpiocfmdjgbamaa
open Go Go.RowKit Go.Eng
set_option maxRecDepth 100000
theorem steps_ok {ss : List Sg} (hnx : NextOk ss) {from_ : Int} (ps : List (Int × Int)) (m : List (List Int)) (hm : (∀ l, l ∈ m → WayOk ss l) ∧ m.length ≤ 16) : (∀ l, l ∈ ps.foldl (stepW ss from_) m → WayOk ss l) ∧ (ps.foldl (stepW ss from_) m).length ≤ 16 :=
  fold_ind (P := fun m : List (List Int) => (∀ l, l ∈ m → WayOk ss l) ∧ m.length ≤ 16) ps m hm fun s p _ hs => by
    unfold stepW
    split
    · rename_i h
      rcases growA_ok (lo := p.1) (hi := p.2) (from_ := from_) hnx s hs.1 rfl with h2 | h2
      · exact absurd h h2.1
      · exact ⟨fun l hl => (h2.2.2.ways l hl).1, h2.2.2.few⟩
    · exact hs
set_option maxHeartbeats 2000000 in
theorem e_rgrows (ss : List Sg) (gs : List Gr) (es ds : List (List AV)) (hes : es = ss.map sgRow) (hds : ds = gs.map grRow) (sg from_ : Int) (ps : List (Int × Int)) (pl : List (List AV)) (hpl : pl = ps.map plRow) :
    PCalls Try.prog 3 [.agg [.list 3 es, .list 5 ds], .int .i64 sg, .int .i64 from_, .list 2 pl] (· = .bool true) := by
  have hu : Up0 es := by rw [hes]; exact up_sg ss
  have hud : Up0 ds := by rw [hds]; exact up_gr gs
  have hup : Up0 pl := by rw [hpl]; exact up_pl ps
  have hpll : pl.length = ps.length := by rw [hpl]; simp
  have hT : uptoL 0 [AV.agg [.list 3 es, .list 5 ds], .int .i64 sg, .int .i64 from_] = true := Bool.and_eq_true_iff.mpr ⟨Up0.one hu (Up0.one hud rfl), rfl⟩
  have hT2 : uptoL 0 [AV.agg [.list 3 es, .list 5 ds], .int .i64 sg, .int .i64 from_, .list 2 pl] = true := by simp only [uptoL, AV.upto, hu.get, hud.get, hup.get]; rfl
  obtain ⟨m, hm⟩ : ∃ m, m = ps.foldl (stepW ss from_) [[sg]] := ⟨_, rfl⟩
  obtain ⟨ra, era⟩ : ∃ x, x = m.map rtC := ⟨_, rfl⟩
  obtain ⟨rq, erq⟩ : ∃ x, x = m.map rtRow := ⟨_, rfl⟩
  have hura : Up0 ra := by rw [era]; exact up_map (f := rtC) (fun d => rfl) m
  have hurq : Up0 rq := by rw [erq]; exact up_rt m
  have hral : ra.length = m.length := by rw [era]; simp
  (refine PCalls.ofY Try.func3 (by kernel_rfl) (by kernel_rfl) fun w hw R hR => ?_); (obtain ⟨wbin, wcmp, wun, wconv, wnot, wbeq, wmm, wscmp, wsadd, wslen, wsat, weqs, wlen, wnlen, wofNat, wtake, wdrop, wapp, wzero, wnat⟩ := w); (have hbin : wbin = binStd := congrArg Prims.bin hw); (have hcmp : wcmp = cmpStd := congrArg Prims.cmp hw); (have hun : wun = unStd := congrArg Prims.un hw); (have hconv : wconv = fun k n => k.wrap n := congrArg Prims.conv hw); (have hnot : wnot = fun b => !b := congrArg Prims.not hw); (have hbeq : wbeq = fun a b => a == b := congrArg Prims.beq hw); (have hmm : wmm = maxI := congrArg Prims.mm hw); (have hscmp : wscmp = scmpStd := congrArg Prims.scmp hw); (have hsadd : wsadd = fun x y => x ++ y := congrArg Prims.sadd hw); (have hslen : wslen = fun s => (s.size : Int) := congrArg Prims.slen hw); (have hsat : wsat = std.sat := congrArg Prims.sat hw); (have heqs : weqs = fun a b os => (eqOffs a b os).getD false := congrArg Prims.eqs hw); (have hlen : wlen = fun es => (es.length : Int) := congrArg Prims.len hw); (have hnlen : wnlen = fun es => es.length := congrArg Prims.nlen hw); (have hofNat : wofNat = (fun n : Nat => (n : Int)) := congrArg Prims.ofNat hw); (have htake : wtake = fun es b => es.take b.toNat := congrArg Prims.take hw); (have hdrop : wdrop = fun es a => es.drop a.toNat := congrArg Prims.drop hw); (have happ : wapp = fun a b => a ++ b := congrArg Prims.app hw); (have hzero : wzero = fun n z => List.replicate n.toNat z := congrArg Prims.zero hw); (have hnat : wnat = fun n => n.toNat := congrArg Prims.nat hw); (conv => arg 2; cbv); (generalize hP : Try.prog = P); cbv
  have hW : ∀ h : AHeap, Ret [.bool true] h R := fun h => ⟨_, Vw.same rfl, hR _ rfl⟩
  refine Call.stepE (by rw [← hP]; exact e_anchor14) rfl ?_
  cbv
  have n1 : wnot true = false := by rw [hnot]; rfl
  simp only [n1]
  cbv
  refine Call.step (by rw [← hP]; exact e_may14 ss gs es ds hes hds sg from_) (by exact hT) ?_
  rintro r ⟨o, rfl, ho⟩
  cbv
  (obtain ⟨M, eM, M0, Mn⟩ : ∃ L : Int, wlen pl = L ∧ 0 ≤ L ∧ L.toNat = pl.length := ⟨(pl.length : Int), by rw [hlen], Int.natCast_nonneg _, Int.toNat_natCast _⟩)
  (split <;> rename_i h1 <;> (try (simp only [hbin, hcmp, hun, hconv, hnot, hbeq, hmm, hscmp, hsadd, hslen, hsat, heqs, hofNat, binStd, cmpStd, unStd, scmpStd, maxI, Bool.not_eq_true', Bool.not_eq_false', decide_eq_true_eq, decide_eq_false_iff_not, Int.not_lt, Int.not_le, if_true, if_false, Bool.false_eq_true, beq_iff_eq, bne_iff_ne, ne_eq, Bool.not_eq_eq_eq_not, Bool.not_true, Bool.not_false, beq_eq_false_iff_ne, bne_eq_false_iff_eq, Int.ofNat_eq_natCast, Bool.not_not, not_true_eq_false, not_false_eq_true, reduceCtorEq] at h1)) <;> (try cbv))
  · exact hW _
  simp only [eM]
  (split <;> rename_i h2 <;> (try (simp only [hbin, hcmp, hun, hconv, hnot, hbeq, hmm, hscmp, hsadd, hslen, hsat, heqs, hofNat, binStd, cmpStd, unStd, scmpStd, maxI, Bool.not_eq_true', Bool.not_eq_false', decide_eq_true_eq, decide_eq_false_iff_not, Int.not_lt, Int.not_le, if_true, if_false, Bool.false_eq_true, beq_iff_eq, bne_iff_ne, ne_eq, Bool.not_eq_eq_eq_not, Bool.not_true, Bool.not_false, beq_eq_false_iff_ne, bne_eq_false_iff_eq, Int.ofNat_eq_natCast, Bool.not_not, not_true_eq_false, not_false_eq_true, reduceCtorEq] at h2)) <;> (try cbv))
  · exact hW _
  have hM := ho h1
  have hnx := hM.tr.nextOk
  have hln := hM.tr.lensOk
  have hway : ∀ l, l ∈ [[sg]] → WayOk ss l := fun l hl => by
    simp at hl; subst hl
    exact ⟨by simp, fun n hn => by simp at hn; subst hn; exact hM.seg⟩
  have hmok := steps_ok (from_ := from_) hnx ps [[sg]] ⟨hway, by simp⟩
  rw [← hm] at hmok
  have hst := e_steps ss gs es ds hes hds sg from_ hM ps (by omega) pl hpl m hm
  rw [← era, ← erq] at hst
  refine Call.stepE (by rw [← hP]; exact hst) (by exact hT2) ?_
  cbv
  simp only [n1]
  cbv
  (obtain ⟨L, eL, L0, Ln⟩ : ∃ L : Int, wlen ra = L ∧ 0 ≤ L ∧ L.toNat = ra.length := ⟨(ra.length : Int), by rw [hlen], Int.natCast_nonneg _, Int.toNat_natCast _⟩)
  simp only [eL]
  refine Loop.data hw (S := Int) (fun i => fr 60 [(2, .int .i64 from_), (4, .ref 0 2 0 0), (9, .ref 1 2 0 0), (10, .ref 2 2 0 0), (38, .list 13 ra), (39, .int .i64 L), (40, .int .i64 i)])
    (fun _ => [.live 2 [[.list 3 es, .list 5 ds]], .live 2 [[.int .i64 from_, .list 13 ra]], .live 2 [[.int .i64 from_, .list 1 rq]]]) (fun i => 0 ≤ i ∧ i ≤ L) (fun i => (L - i).toNat) 0 (by (refine Wk.eqz (id) (by first | exact fun i _ j _ e => e | (simp only [List.length_cons, List.length_nil]; decide)) ?_; cbv; (repeat' (first | exact trivial | rfl | assumption | apply And.intro | (simp only [hbin, hcmp, hun, hconv, hnot, hbeq, hmm, hscmp, hsadd, hslen, hsat, heqs, hofNat, binStd, cmpStd, unStd, scmpStd, maxI, Bool.not_eq_true', Bool.not_eq_false', decide_eq_true_eq, decide_eq_false_iff_not, Int.not_lt, Int.not_le, if_true, if_false, Bool.false_eq_true, beq_iff_eq, bne_iff_ne, ne_eq, Bool.not_eq_eq_eq_not, Bool.not_true, Bool.not_false, beq_eq_false_iff_ne, bne_eq_false_iff_eq, Int.ofNat_eq_natCast, Bool.not_not, not_true_eq_false, not_false_eq_true, reduceCtorEq]; first | done | assumption) | exact RowsZ.same (by assumption) (by first | assumption | rfl) | exact FzL.mk rfl rfl rfl (by assumption) (by first | assumption | rfl) (by decide) | (refine RowsZ.one ?_; cbv))))) ⟨Int.le_refl _, L0⟩ ?_
  rintro i hinv Q' hN hE hR'
  have hinv : 0 ≤ i ∧ i ≤ L := hinv
  cbv
  obtain ⟨hi0, hi1⟩ := hinv
  (split <;> rename_i hc <;> (try (simp only [hbin, hcmp, hun, hconv, hnot, hbeq, hmm, hscmp, hsadd, hslen, hsat, heqs, hofNat, binStd, cmpStd, unStd, scmpStd, maxI, Bool.not_eq_true', Bool.not_eq_false', decide_eq_true_eq, decide_eq_false_iff_not, Int.not_lt, Int.not_le, if_true, if_false, Bool.false_eq_true, beq_iff_eq, bne_iff_ne, ne_eq, Bool.not_eq_eq_eq_not, Bool.not_true, Bool.not_false, beq_eq_false_iff_ne, bne_eq_false_iff_eq, Int.ofNat_eq_natCast, Bool.not_not, not_true_eq_false, not_false_eq_true, reduceCtorEq] at hc)) <;> (try cbv))
  rotate_left 1
  · refine hE _ _ _ ?_
    cbv
    exact hW _
  obtain ⟨l, hl⟩ : ∃ l, m[i.toNat]? = some l := ⟨_, List.getElem?_eq_getElem (show i.toNat < m.length by omega)⟩
  have hlo := hmok.1 l (List.mem_of_getElem? hl)
  have hri : ra[i.toNat]? = some (toR l).row := by rw [era, List.getElem?_map, hl]; rfl
  obtain ⟨xs, exs⟩ : ∃ x, x = l.map nxRow := ⟨_, rfl⟩
  have huxs : Up0 xs := by rw [exs]; exact up_nx l
  have hqi : rq[i.toNat]? = some [.list 1 xs] := by rw [erq, List.getElem?_map, hl, exs]; rfl
  obtain ⟨i2, ei2⟩ : ∃ z, z = i + 1 := ⟨_, rfl⟩
  have hm16 := hmok.2
  have a4 : wbin .add .i64 i 1 = i2 := by rw [hbin, ei2]; show IntKind.i64.wrap (i + 1) = i + 1; rw [IntKind.wrap_i64]; omega
  obtain ⟨y, ey⟩ : ∃ y, y = endF ss from_ l := ⟨_, rfl⟩
  have hend := e_end ss gs es ds hes hds hln from_ hM.fr ra hura l hlo.len.1 hlo.seg
  have hend : PCalls Try.prog 15 [.agg [.int .i64 from_, .list 13 ra], .agg [.list 3 es, .list 5 ds], .agg (toR l).row] (· = .int .i64 y) := by rw [ey]; exact hend
  have hrend := e_rend ss gs es ds hes hds hln from_ hM.fr l hlo.len.1 hlo.seg xs exs y ey
  have href := e_refsT14 ss gs es ds hes hds (by have := hM.n300; omega) (by have := hM.g500; omega) hM.ps
  have hut : uptoL 0 [AV.agg [.list 3 es, .list 5 ds]] = true := Bool.and_eq_true_iff.mpr ⟨Up0.one hu (Up0.one hud rfl), rfl⟩
  have hur : uptoL 0 [AV.agg [.list 3 es, .list 5 ds], .int .i64 from_, .list 1 xs] = true := by simp only [uptoL, AV.upto, hu.get, hud.get, huxs.get]; rfl
  have hupx : ∀ n s0 s1 s2 s3 s4 s5 s6 s7 s8 s9 s10 s11 : Int, uptoL 0 [AV.agg [.int .i64 from_, .list 13 ra], .agg [.list 3 es, .list 5 ds], .agg [.int .i64 n, .int .i64 s0, .int .i64 s1, .int .i64 s2, .int .i64 s3, .int .i64 s4, .int .i64 s5, .int .i64 s6, .int .i64 s7, .int .i64 s8, .int .i64 s9, .int .i64 s10, .int .i64 s11]] = true := fun n s0 s1 s2 s3 s4 s5 s6 s7 s8 s9 s10 s11 => by simp only [uptoL, AV.upto, hu.get, hud.get, hura.get]; rfl
  have c1 : ∀ x, wcmp .neq x x = false := fun x => by rw [hcmp]; simp [cmpStd]
  obtain ⟨row, erow⟩ : ∃ row, row = toR l := ⟨_, rfl⟩
  rw [← erow] at hri hend
  obtain ⟨n, s0, s1, s2, s3, s4, s5, s6, s7, s8, s9, s10, s11⟩ := row
  refine Idx.mk _ hi0 hri ?_
  cbv
  repeat' (first
    | (refine Idx.mk _ hi0 hqi ?_; cbv)
    | (refine QCal.stepE (by rw [← hP]; exact hend) (hupx _ _ _ _ _ _ _ _ _ _ _ _ _) ?_; cbv)
    | (refine Call.stepE (by rw [← hP]; exact hend) (hupx _ _ _ _ _ _ _ _ _ _ _ _ _) ?_; cbv)
    | (refine QCal.stepE (by rw [← hP]; exact href) (by exact hut) ?_; cbv)
    | (refine Call.stepE (by rw [← hP]; exact href) (by exact hut) ?_; cbv)
    | (refine QCal.stepE (by rw [← hP]; exact hrend) (by exact hur) ?_; cbv)
    | (refine Call.stepE (by rw [← hP]; exact hrend) (by exact hur) ?_; cbv))
  simp only [c1]
  cbv
  simp only [a4]
  refine hN i2 _ _ ?hx ?hi ?ht
  case hx => (refine Wk.eqz (id) (by first | exact fun i _ j _ e => e | (simp only [List.length_cons, List.length_nil]; decide)) ?_; cbv; (repeat' (first | exact trivial | rfl | assumption | apply And.intro | (simp only [hbin, hcmp, hun, hconv, hnot, hbeq, hmm, hscmp, hsadd, hslen, hsat, heqs, hofNat, binStd, cmpStd, unStd, scmpStd, maxI, Bool.not_eq_true', Bool.not_eq_false', decide_eq_true_eq, decide_eq_false_iff_not, Int.not_lt, Int.not_le, if_true, if_false, Bool.false_eq_true, beq_iff_eq, bne_iff_ne, ne_eq, Bool.not_eq_eq_eq_not, Bool.not_true, Bool.not_false, beq_eq_false_iff_ne, bne_eq_false_iff_eq, Int.ofNat_eq_natCast, Bool.not_not, not_true_eq_false, not_false_eq_true, reduceCtorEq]; first | done | assumption) | exact RowsZ.same (by assumption) (by first | assumption | rfl) | exact FzL.mk rfl rfl rfl (by assumption) (by first | assumption | rfl) (by decide) | (refine RowsZ.one ?_; cbv))))
  case hi => exact ⟨by omega, by omega⟩
  case ht => omega
end Go.Proofs.Ytpiocfmdjgbamaa

/- What a configuration is. -/
set_option linter.unusedVariables false
set_option linter.unusedSimpArgs false
namespace Go.Proofs.Ytpiocfmdjgbamaa
open Go Go.RowKit Go.Eng
set_option maxRecDepth 100000
theorem ok_int {k : IntKind} {l : List Sh} {xs : List AV} (h : OkL (.int k :: l) xs) : ∃ n y, xs = .int k n :: y ∧ (Lit.int k n).wf = true ∧ OkL l y := by
  unfold OkL at h
  obtain ⟨x, y, rfl, h1, h2⟩ := h
  unfold Sh.Ok at h1
  obtain ⟨n, rfl, hn⟩ := h1
  exact ⟨n, y, rfl, hn, h2⟩
theorem ok_bool {l : List Sh} {xs : List AV} (h : OkL (.bool :: l) xs) : ∃ b y, xs = .bool b :: y ∧ OkL l y := by
  unfold OkL at h
  obtain ⟨x, y, rfl, h1, h2⟩ := h
  unfold Sh.Ok at h1
  obtain ⟨n, rfl⟩ := h1
  exact ⟨n, y, rfl, h2⟩
theorem ok_list {z : Nat} {row l : List Sh} {xs : List AV} (h : OkL (.list z row :: l) xs) : ∃ es y, xs = .list z es :: y ∧ es.length ≤ maxLen ∧ (∀ r, r ∈ es → OkL row r) ∧ OkL l y := by
  unfold OkL at h
  obtain ⟨x, y, rfl, h1, h2⟩ := h
  unfold Sh.Ok at h1
  obtain ⟨n, rfl, h3, h4⟩ := h1
  exact ⟨n, y, rfl, h3, h4, h2⟩
theorem ok_nil {xs : List AV} (h : OkL [] xs) : xs = [] := by unfold OkL at h; exact h
theorem wf64 {n : Int} (h : (Lit.int .i64 n).wf = true) : -9223372036854775808 ≤ n ∧ n ≤ 9223372036854775807 := by
  simp [Lit.wf, IntKind.min, IntKind.max, IntKind.signed, IntKind.bits] at h
  omega
theorem ty_conf (x : AV) (h : TyV Try.prog 8 68 x) : ∃ c0 c1 c2 c3 c4 c5 c6 c7 c8 c9 c10 c11 c12 c13 : Int, x = .agg [.int .i64 c0, .int .i64 c1, .int .i64 c2, .int .i64 c3, .int .i64 c4, .int .i64 c5, .int .i64 c6, .int .i64 c7, .int .i64 c8, .int .i64 c9, .int .i64 c10, .int .i64 c11, .int .i64 c12, .int .i64 c13] := by
  obtain ⟨cs, rfl, hx⟩ := h.agg (by kernel_rfl) (show shOf Try.prog 8 68 = some [.int .i64, .int .i64, .int .i64, .int .i64, .int .i64, .int .i64, .int .i64, .int .i64, .int .i64, .int .i64, .int .i64, .int .i64, .int .i64, .int .i64] from by kernel_rfl)
  obtain ⟨c0, _, rfl, _, hx⟩ := ok_int hx
  obtain ⟨c1, _, rfl, _, hx⟩ := ok_int hx
  obtain ⟨c2, _, rfl, _, hx⟩ := ok_int hx
  obtain ⟨c3, _, rfl, _, hx⟩ := ok_int hx
  obtain ⟨c4, _, rfl, _, hx⟩ := ok_int hx
  obtain ⟨c5, _, rfl, _, hx⟩ := ok_int hx
  obtain ⟨c6, _, rfl, _, hx⟩ := ok_int hx
  obtain ⟨c7, _, rfl, _, hx⟩ := ok_int hx
  obtain ⟨c8, _, rfl, _, hx⟩ := ok_int hx
  obtain ⟨c9, _, rfl, _, hx⟩ := ok_int hx
  obtain ⟨c10, _, rfl, _, hx⟩ := ok_int hx
  obtain ⟨c11, _, rfl, _, hx⟩ := ok_int hx
  obtain ⟨c12, _, rfl, _, hx⟩ := ok_int hx
  obtain ⟨c13, _, rfl, _, hx⟩ := ok_int hx
  obtain rfl := ok_nil hx
  exact ⟨c0, c1, c2, c3, c4, c5, c6, c7, c8, c9, c10, c11, c12, c13, rfl⟩
end Go.Proofs.Ytpiocfmdjgbamaa

/- What an int64 is. -/
set_option linter.unusedVariables false
set_option maxRecDepth 100000
namespace Go.Proofs.Ytpiocfmdjgbamaa
open Go Go.RowKit Go.Eng
theorem ty_i64 (x : AV) (h : TyV Try.prog 8 2 x) : ∃ n, x = .int .i64 n ∧ -9223372036854775808 ≤ n ∧ n ≤ 9223372036854775807 := by
  have h := h.one (by kernel_rfl) (show shOf Try.prog 8 2 = some [.int .i64] from by kernel_rfl)
  unfold Sh.Ok at h
  obtain ⟨n, rfl, hn⟩ := h
  exact ⟨n, rfl, wf64 hn⟩
end Go.Proofs.Ytpiocfmdjgbamaa

/- What a track is. -/
set_option linter.unusedVariables false
set_option maxRecDepth 100000
namespace Go.Proofs.Ytpiocfmdjgbamaa
open Go Go.RowKit Go.Eng
theorem ty_track (x : AV) (h : TyV Try.prog 8 25 x) : ∃ (ss : List Sg) (gs : List Gr), x = .agg [.list 3 (ss.map sgRow), .list 5 (gs.map grRow)] := by
  obtain ⟨cs, rfl, k0⟩ := h.agg (by kernel_rfl) (show shOf Try.prog 8 25 = some [.list 3 [.int .i64, .list 2 [.int .i64, .int .i64], .list 1 [.int .i64]], .list 5 [.int .i64, .int .i64, .int .i64, .int .i64, .int .i64]] from by kernel_rfl)
  clear h
  obtain ⟨es, _, rfl, _, hr, k1⟩ := ok_list k0
  obtain ⟨ds, _, rfl, _, hs, k2⟩ := ok_list k1
  obtain rfl := ok_nil k2
  clear k0 k1 k2
  obtain ⟨ss, rfl⟩ := rows_of (f := sgRow) (es := es) fun r hrr => by
    have k0 := hr r hrr
    clear hr hrr
    obtain ⟨len, _, rfl, _, k1⟩ := ok_int k0
    obtain ⟨ps, _, rfl, _, hp, k2⟩ := ok_list k1
    obtain ⟨ns, _, rfl, _, hn, k3⟩ := ok_list k2
    obtain rfl := ok_nil k3
    clear k0 k1 k2 k3
    obtain ⟨qs, rfl⟩ := rows_of (f := pcRow) (es := ps) fun r hrr => by
      have k0 := hp r hrr
      clear hp hrr
      obtain ⟨a, _, rfl, _, k1⟩ := ok_int k0
      obtain ⟨b, _, rfl, _, k2⟩ := ok_int k1
      obtain rfl := ok_nil k2
      exact ⟨(a, b), rfl⟩
    obtain ⟨ms, rfl⟩ := rows_of (f := nxRow) (es := ns) fun r hrr => by
      have k0 := hn r hrr
      clear hn hrr
      obtain ⟨a, _, rfl, _, k1⟩ := ok_int k0
      obtain rfl := ok_nil k1
      exact ⟨a, rfl⟩
    exact ⟨⟨len, qs, ms⟩, rfl⟩
  obtain ⟨gs, rfl⟩ := rows_of (f := grRow) (es := ds) fun r hrr => by
    have k0 := hs r hrr
    clear hr hs hrr
    obtain ⟨a, _, rfl, _, k1⟩ := ok_int k0
    obtain ⟨b, _, rfl, _, k2⟩ := ok_int k1
    obtain ⟨c, _, rfl, _, k3⟩ := ok_int k2
    obtain ⟨d, _, rfl, _, k4⟩ := ok_int k3
    obtain ⟨e, _, rfl, _, k5⟩ := ok_int k4
    obtain rfl := ok_nil k5
    exact ⟨⟨a, b, c, d, e⟩, rfl⟩
  exact ⟨ss, gs, rfl⟩
end Go.Proofs.Ytpiocfmdjgbamaa

/- What the arguments' types tell: numbers, spans, ways. -/
set_option linter.unusedVariables false
set_option linter.unusedSimpArgs false
namespace Go.Proofs.Ytpiocfmdjgbamaa
open Go Go.RowKit Go.Eng
set_option maxRecDepth 100000
theorem ty_intS (x : AV) (h : TyV Try.prog 8 3 x) : ∃ n, x = .int .i64 n := by
  have h := h.one (by kernel_rfl) (show shOf Try.prog 8 3 = some [.int .i64] from by kernel_rfl)
  unfold Sh.Ok at h
  obtain ⟨n, rfl, hn⟩ := h
  exact ⟨n, rfl⟩
theorem ty_span (x : AV) (h : TyV Try.prog 8 50 x) : ∃ a b, x = .agg [.int .i64 a, .int .i64 b] := by
  obtain ⟨cs, rfl, k0⟩ := h.agg (by kernel_rfl) (show shOf Try.prog 8 50 = some [.int .i64, .int .i64] from by kernel_rfl)
  obtain ⟨a, _, rfl, _, k1⟩ := ok_int k0
  obtain ⟨b, _, rfl, _, k2⟩ := ok_int k1
  obtain rfl := ok_nil k2
  exact ⟨a, b, rfl⟩
end Go.Proofs.Ytpiocfmdjgbamaa

/- RouteGrows, joined. -/
set_option linter.unusedVariables false
set_option maxRecDepth 100000
namespace Go.Proofs.Ytpiocfmdjgbamaa
open Go Go.RowKit Go.Eng
theorem ty_places (x : AV) (h : TyV Try.prog 8 26 x) : ∃ ps : List (Int × Int), x = .list 2 (ps.map plRow) := by
  have h := h.one (by kernel_rfl) (show shOf Try.prog 8 26 = some [.list 2 [.int .i64, .int .i64]] from by kernel_rfl)
  unfold Sh.Ok at h
  obtain ⟨es, rfl, _, hr⟩ := h
  obtain ⟨ps, rfl⟩ := rows_of (f := plRow) (es := es) fun r hrr => by
    have k0 := hr r hrr
    clear hr hrr
    obtain ⟨a, _, rfl, _, k1⟩ := ok_int k0
    obtain ⟨b, _, rfl, _, k2⟩ := ok_int k1
    obtain rfl := ok_nil k2
    exact ⟨(a, b), rfl⟩
  exact ⟨ps, rfl⟩
theorem walk_RouteGrows (x0 x1 x2 x3 : AV) (h0 : TyV Try.prog 8 25 x0) (h1 : TyV Try.prog 8 3 x1) (h2 : TyV Try.prog 8 2 x2) (h3 : TyV Try.prog 8 26 x3) : PCalls Try.prog 3 [x0, x1, x2, x3] (fun r => r = .bool true) := by
  obtain ⟨ss, gs, rfl⟩ := ty_track x0 h0
  obtain ⟨sg, rfl⟩ := ty_intS x1 h1
  obtain ⟨f, rfl, _, _⟩ := ty_i64 x2 h2
  obtain ⟨ps, rfl⟩ := ty_places x3 h3
  exact e_rgrows ss gs _ _ rfl rfl sg f ps _ rfl
end Go.Proofs.Ytpiocfmdjgbamaa

