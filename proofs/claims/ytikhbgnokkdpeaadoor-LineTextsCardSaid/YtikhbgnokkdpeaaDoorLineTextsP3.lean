/- Texts of the proof of LineTexts, joined by wip/tools/pack.py. -/
import Derived.Test.YtikhbgnokkdpeaaDoorLineTextsP2
import Derived.KernelRfl
import Derived.Test.YtikhbgnokkdpeaaDoorEng28
import Derived.MakeChecks
import Derived.Test.YtikhbgnokkdpeaaDoorRows
/- A report's line as the document has it, whatever its mode. -/
set_option linter.unusedVariables false
set_option linter.unusedSimpArgs false
namespace Go.Proofs.YtikhbgnokkdpeaaDoor
open Go Go.RowKit Go.Eng
set_option maxRecDepth 100000
def fi (b : Bool) : Int := if b then 1 else 0
theorem fi_ok (b : Bool) : fi b = 1 ↔ b = true := by cases b <;> simp [fi]
def refRow (o : Lr) (qs : List (List AV)) : List AV := [.int .i64 o.c, .int .i64 o.m, .int .i64 o.g, .int .i64 o.fit, .int .i64 o.lo, .int .i64 o.hi, .int .i64 o.slo, .int .i64 o.shi, .int .i64 o.est, .list 1 qs, .int .i64 o.s0, .int .i64 o.s1, .int .i64 (fi o.b1), .int .i64 (fi o.b2), .int .i64 (fi o.b3), .int .i64 (fi o.b4), .int .i64 (fi o.b5), .int .i64 (fi o.b6), .int .i64 (fi o.b7)]
theorem e_rtext (o : Lr) (h : LrOk o) (hs : LrSmall o) (qs : List (List AV)) (hqs : qs = o.rs.map (fun r => [AV.list 1 (r.map nxRow)])) (t : ByteArray) (et : t = lineB o) : PCalls Tryd.prog 7 [.agg (refRow o qs)] (· = .str t) := by
  have hf : FlOk o (fi o.b1) (fi o.b2) (fi o.b3) (fi o.b4) (fi o.b5) (fi o.b6) (fi o.b7) := ⟨fi_ok _, fi_ok _, fi_ok _, fi_ok _, fi_ok _, fi_ok _, fi_ok _⟩
  by_cases h0 : o.m < 1
  · exact e_rtext0 o h hs _ _ _ _ _ _ _ _ _ _ _ _ _ _ _ _ _ _ _ rfl rfl rfl rfl rfl rfl rfl rfl rfl rfl rfl rfl hf h0 qs hqs t et
  by_cases h5 : 4 < o.m
  · exact e_rtext5 o h hs _ _ _ _ _ _ _ _ _ _ _ _ _ _ _ _ _ _ _ rfl rfl rfl rfl rfl rfl rfl rfl rfl rfl rfl rfl hf h5 qs hqs t et
  have hm : o.m = 1 ∨ o.m = 2 ∨ o.m = 3 ∨ o.m = 4 := by omega
  rcases hm with hm | hm | hm | hm
  · exact e_rtext1 o h hs _ _ _ _ _ _ _ _ _ _ _ _ _ _ _ _ _ _ _ rfl rfl rfl rfl rfl rfl rfl rfl rfl rfl rfl rfl hf hm qs hqs t et
  · exact e_rtext2 o h hs _ _ _ _ _ _ _ _ _ _ _ _ _ _ _ _ _ _ _ rfl rfl rfl rfl rfl rfl rfl rfl rfl rfl rfl rfl hf hm qs hqs t et
  · exact e_rtext3 o h hs _ _ _ _ _ _ _ _ _ _ _ _ _ _ _ _ _ _ _ rfl rfl rfl rfl rfl rfl rfl rfl rfl rfl rfl rfl hf hm qs hqs t et
  · exact e_rtext4 o h hs _ _ _ _ _ _ _ _ _ _ _ _ _ _ _ _ _ _ _ rfl rfl rfl rfl rfl rfl rfl rfl rfl rfl rfl rfl hf hm qs hqs t et
theorem e_texts (o : Lr) (h : LrOk o) (hbig : ∀ r, r ∈ o.rs → r.length ≤ 140737488355328) (qs : List (List AV)) (hqs : qs = o.rs.map (fun r => [AV.list 1 (r.map nxRow)])) : PCalls Tryd.prog 3 [.agg (lrRow o qs)] (· = .bool true) := by
  obtain ⟨c, m, g, lo, hi, est, slo, shi, nom, dist, rs, fit, b1, b2, s0, s1, b3, b4, b5, b6, b7, mlo, mhi, perm, c0, c1, c2, c3, k0, k1, k2, k3⟩ := o
  have hbig : ∀ r, r ∈ rs → r.length ≤ 140737488355328 := hbig
  have huq : Up0 qs := by rw [hqs]; exact up_map (f := fun r => [AV.list 1 (r.map nxRow)]) (fun d => Up0.one (up_nx d) rfl) rs
  have hql : qs.length = rs.length := by rw [hqs]; simp
  (refine PCalls.ofY Tryd.func3 (by kernel_rfl) (by kernel_rfl) fun w hw R hR => ?_); (obtain ⟨wbin, wcmp, wun, wconv, wnot, wbeq, wmm, wscmp, wsadd, wslen, wsat, weqs, wlen, wnlen, wofNat, wtake, wdrop, wapp, wzero, wnat⟩ := w); (have hbin : wbin = binStd := congrArg Prims.bin hw); (have hcmp : wcmp = cmpStd := congrArg Prims.cmp hw); (have hun : wun = unStd := congrArg Prims.un hw); (have hconv : wconv = fun k n => k.wrap n := congrArg Prims.conv hw); (have hnot : wnot = fun b => !b := congrArg Prims.not hw); (have hbeq : wbeq = fun a b => a == b := congrArg Prims.beq hw); (have hmm : wmm = maxI := congrArg Prims.mm hw); (have hscmp : wscmp = scmpStd := congrArg Prims.scmp hw); (have hsadd : wsadd = fun x y => x ++ y := congrArg Prims.sadd hw); (have hslen : wslen = fun s => (s.size : Int) := congrArg Prims.slen hw); (have hsat : wsat = std.sat := congrArg Prims.sat hw); (have heqs : weqs = fun a b os => (eqOffs a b os).getD false := congrArg Prims.eqs hw); (have hlen : wlen = fun es => (es.length : Int) := congrArg Prims.len hw); (have hnlen : wnlen = fun es => es.length := congrArg Prims.nlen hw); (have hofNat : wofNat = (fun n : Nat => (n : Int)) := congrArg Prims.ofNat hw); (have htake : wtake = fun es b => es.take b.toNat := congrArg Prims.take hw); (have hdrop : wdrop = fun es a => es.drop a.toNat := congrArg Prims.drop hw); (have happ : wapp = fun a b => a ++ b := congrArg Prims.app hw); (have hzero : wzero = fun n z => List.replicate n.toNat z := congrArg Prims.zero hw); (have hnat : wnat = fun n => n.toNat := congrArg Prims.nat hw); (conv => arg 2; cbv); (generalize hP : Tryd.prog = P); cbv
  refine Call.stepE (by rw [← hP]; exact e_anchor25) rfl ?_
  cbv
  have n1 : wnot true = false := by rw [hnot]; rfl
  simp only [n1]
  cbv
  (obtain ⟨L, eL, L0, Ln⟩ : ∃ L : Int, wlen qs = L ∧ 0 ≤ L ∧ L.toNat = qs.length := ⟨(qs.length : Int), by rw [hlen], Int.natCast_nonneg _, Int.toNat_natCast _⟩)
  simp only [eL]
  (split <;> rename_i h0 <;> (try (simp only [hbin, hcmp, hun, hconv, hnot, hbeq, hmm, hscmp, hsadd, hslen, hsat, heqs, hofNat, binStd, cmpStd, unStd, scmpStd, maxI, Bool.not_eq_true', Bool.not_eq_false', decide_eq_true_eq, decide_eq_false_iff_not, Int.not_lt, Int.not_le, if_true, if_false, Bool.false_eq_true, beq_iff_eq, bne_iff_ne, ne_eq, Bool.not_eq_eq_eq_not, Bool.not_true, Bool.not_false, beq_eq_false_iff_ne, bne_eq_false_iff_eq, Int.ofNat_eq_natCast, Bool.not_not, not_true_eq_false, not_false_eq_true, reduceCtorEq] at h0)) <;> (try cbv))
  · exact ⟨_, Vw.same rfl, hR _ rfl⟩
  have hL100 : L ≤ 100 := by omega
  refine Loop.data hw (S := Int × Int) (fun s => fr 88 [(1, .ref 0 32 0 0), (3, .int .i64 s.2), (17, .list 1 qs), (18, .int .i64 L), (19, .int .i64 s.1)])
    (fun s => [.live 32 [[.int .i64 c, .int .i64 m, .int .i64 g, .int .i64 lo, .int .i64 hi, .int .i64 est, .int .i64 slo, .int .i64 shi, .int .i64 nom, .int .i64 dist, .list 1 qs, .int .i64 fit, .bool b1, .bool b2, .int .i64 s0, .int .i64 s1, .bool b3, .bool b4, .bool b5, .bool b6, .bool b7, .int .i64 mlo, .int .i64 mhi, .int .i64 perm, .int .i64 c0, .int .i64 c1, .int .i64 c2, .int .i64 c3, .int .i64 k0, .int .i64 k1, .int .i64 k2, .int .i64 k3]]])
    (fun s => 0 ≤ s.1 ∧ s.1 ≤ L ∧ 0 ≤ s.2 ∧ s.2 ≤ 1000 ∧ ∀ r, r ∈ rs.take s.1.toNat → r.length ≤ 1000) (fun s => (L - s.1).toNat) (0, L) (by (refine Wk.eqz (id) (by first | exact fun i _ j _ e => e | (simp only [List.length_cons, List.length_nil]; decide)) ?_; cbv; (repeat' (first | exact trivial | rfl | assumption | apply And.intro | (simp only [hbin, hcmp, hun, hconv, hnot, hbeq, hmm, hscmp, hsadd, hslen, hsat, heqs, hofNat, binStd, cmpStd, unStd, scmpStd, maxI, Bool.not_eq_true', Bool.not_eq_false', decide_eq_true_eq, decide_eq_false_iff_not, Int.not_lt, Int.not_le, if_true, if_false, Bool.false_eq_true, beq_iff_eq, bne_iff_ne, ne_eq, Bool.not_eq_eq_eq_not, Bool.not_true, Bool.not_false, beq_eq_false_iff_ne, bne_eq_false_iff_eq, Int.ofNat_eq_natCast, Bool.not_not, not_true_eq_false, not_false_eq_true, reduceCtorEq]; first | done | assumption) | exact RowsZ.same (by assumption) (by first | assumption | rfl) | exact FzL.mk rfl rfl rfl (by assumption) (by first | assumption | rfl) (by decide) | (refine RowsZ.one ?_; cbv))))) ⟨Int.le_refl 0, L0, L0, (show L ≤ 1000 by omega), fun r hr => by simp at hr⟩ ?_
  rintro ⟨i, n⟩ hinv Q' hN hE hR'
  have hinv : 0 ≤ i ∧ i ≤ L ∧ 0 ≤ n ∧ n ≤ 1000 ∧ ∀ r, r ∈ rs.take i.toNat → r.length ≤ 1000 := hinv
  cbv
  obtain ⟨hi0, hi1, hn0, hn1, hsm⟩ := hinv
  (split <;> rename_i hc <;> (try (simp only [hbin, hcmp, hun, hconv, hnot, hbeq, hmm, hscmp, hsadd, hslen, hsat, heqs, hofNat, binStd, cmpStd, unStd, scmpStd, maxI, Bool.not_eq_true', Bool.not_eq_false', decide_eq_true_eq, decide_eq_false_iff_not, Int.not_lt, Int.not_le, if_true, if_false, Bool.false_eq_true, beq_iff_eq, bne_iff_ne, ne_eq, Bool.not_eq_eq_eq_not, Bool.not_true, Bool.not_false, beq_eq_false_iff_ne, bne_eq_false_iff_eq, Int.ofNat_eq_natCast, Bool.not_not, not_true_eq_false, not_false_eq_true, reduceCtorEq] at hc)) <;> (try cbv))
  · obtain ⟨r, hr⟩ : ∃ r, rs[i.toNat]? = some r := ⟨_, List.getElem?_eq_getElem (show i.toNat < rs.length by omega)⟩
    obtain ⟨es, ees⟩ : ∃ z, z = r.map nxRow := ⟨_, rfl⟩
    have hel : es.length = r.length := by rw [ees]; simp
    have hq : qs[i.toNat]? = some [.list 1 es] := by rw [hqs, List.getElem?_map]; show (rs[i.toNat]?).map _ = _; rw [hr, ees]; rfl
    obtain ⟨i2, ei2⟩ : ∃ z, z = i + 1 := ⟨_, rfl⟩
    have a4 : wbin .add .i64 i 1 = i2 := by rw [hbin, i_add (by omega) (by omega), ei2]
    have hT : (L - i2).toNat < (L - i).toNat := by omega
    refine Idx.mk _ hi0 hq ?_
    cbv
    (obtain ⟨D, eD, D0, Dn⟩ : ∃ L : Int, wlen es = L ∧ 0 ≤ L ∧ L.toNat = es.length := ⟨(es.length : Int), by rw [hlen], Int.natCast_nonneg _, Int.toNat_natCast _⟩)
    simp only [eD]
    have hrl := hbig r (List.mem_of_getElem? hr)
    obtain ⟨n2, en2⟩ : ∃ z, z = n + D := ⟨_, rfl⟩
    have a5 : wbin .add .i64 n D = n2 := by rw [hbin, i_add (by omega) (by omega), en2]
    simp only [a5]
    (split <;> rename_i hg <;> (try (simp only [hbin, hcmp, hun, hconv, hnot, hbeq, hmm, hscmp, hsadd, hslen, hsat, heqs, hofNat, binStd, cmpStd, unStd, scmpStd, maxI, Bool.not_eq_true', Bool.not_eq_false', decide_eq_true_eq, decide_eq_false_iff_not, Int.not_lt, Int.not_le, if_true, if_false, Bool.false_eq_true, beq_iff_eq, bne_iff_ne, ne_eq, Bool.not_eq_eq_eq_not, Bool.not_true, Bool.not_false, beq_eq_false_iff_ne, bne_eq_false_iff_eq, Int.ofNat_eq_natCast, Bool.not_not, not_true_eq_false, not_false_eq_true, reduceCtorEq] at hg)) <;> (try cbv))
    · exact hR' _ _ ⟨_, Vw.same rfl, hR _ rfl⟩
    simp only [a4]
    refine hN (i2, n2) _ _ ?hx ?hi hT
    case hx => (refine Wk.eqz (id) (by first | exact fun i _ j _ e => e | (simp only [List.length_cons, List.length_nil]; decide)) ?_; cbv; (repeat' (first | exact trivial | rfl | assumption | apply And.intro | (simp only [hbin, hcmp, hun, hconv, hnot, hbeq, hmm, hscmp, hsadd, hslen, hsat, heqs, hofNat, binStd, cmpStd, unStd, scmpStd, maxI, Bool.not_eq_true', Bool.not_eq_false', decide_eq_true_eq, decide_eq_false_iff_not, Int.not_lt, Int.not_le, if_true, if_false, Bool.false_eq_true, beq_iff_eq, bne_iff_ne, ne_eq, Bool.not_eq_eq_eq_not, Bool.not_true, Bool.not_false, beq_eq_false_iff_ne, bne_eq_false_iff_eq, Int.ofNat_eq_natCast, Bool.not_not, not_true_eq_false, not_false_eq_true, reduceCtorEq]; first | done | assumption) | exact RowsZ.same (by assumption) (by first | assumption | rfl) | exact FzL.mk rfl rfl rfl (by assumption) (by first | assumption | rfl) (by decide) | (refine RowsZ.one ?_; cbv))))
    case hi =>
      refine ⟨by simp only; omega, by simp only; omega, by simp only; omega, by simp only; omega, fun x hx => ?_⟩
      simp only at hx
      rw [show i2.toNat = i.toNat + 1 by omega, List.take_add_one, hr] at hx
      rcases List.mem_append.1 hx with hx | hx
      · exact hsm x hx
      · simp at hx; subst hx; omega
  · refine hE _ _ _ ?_
    cbv
    have hsm : ∀ r, r ∈ rs → r.length ≤ 1000 := by rw [List.take_of_length_le (by omega)] at hsm; exact hsm
    have hO : LrOk ⟨c, m, g, lo, hi, est, slo, shi, nom, dist, rs, fit, b1, b2, s0, s1, b3, b4, b5, b6, b7, mlo, mhi, perm, c0, c1, c2, c3, k0, k1, k2, k3⟩ := h
    have hS : LrSmall ⟨c, m, g, lo, hi, est, slo, shi, nom, dist, rs, fit, b1, b2, s0, s1, b3, b4, b5, b6, b7, mlo, mhi, perm, c0, c1, c2, c3, k0, k1, k2, k3⟩ := ⟨fun _ => (by show rs.length ≤ 1000; omega), fun _ => hsm⟩
    obtain ⟨t, et⟩ : ∃ t, t = lineB ⟨c, m, g, lo, hi, est, slo, shi, nom, dist, rs, fit, b1, b2, s0, s1, b3, b4, b5, b6, b7, mlo, mhi, perm, c0, c1, c2, c3, k0, k1, k2, k3⟩ := ⟨_, rfl⟩
    have qa := e_text _ hO hS qs hqs t et
    have qb := e_rtext _ hO hS qs hqs t et
    refine Loop.data hw (S := Int × Int × Int × Int × Int × Int × Int × Int) (fun s => fr 88 [(1, .ref 0 32 0 0), (6, .ref 1 19 0 0), (73, .agg [.bool b1, .bool b2, .bool b3, .bool b4, .bool b5, .bool b6, .bool b7]), (74, .int .i64 s.1)])
      (fun s => [.live 32 [[.int .i64 c, .int .i64 m, .int .i64 g, .int .i64 lo, .int .i64 hi, .int .i64 est, .int .i64 slo, .int .i64 shi, .int .i64 nom, .int .i64 dist, .list 1 qs, .int .i64 fit, .bool b1, .bool b2, .int .i64 s0, .int .i64 s1, .bool b3, .bool b4, .bool b5, .bool b6, .bool b7, .int .i64 mlo, .int .i64 mhi, .int .i64 perm, .int .i64 c0, .int .i64 c1, .int .i64 c2, .int .i64 c3, .int .i64 k0, .int .i64 k1, .int .i64 k2, .int .i64 k3]], .live 19 [[.int .i64 c, .int .i64 m, .int .i64 g, .int .i64 fit, .int .i64 lo, .int .i64 hi, .int .i64 slo, .int .i64 shi, .int .i64 est, .list 1 qs, .int .i64 s0, .int .i64 s1, .int .i64 (s.2.1), .int .i64 (s.2.2.1), .int .i64 (s.2.2.2.1), .int .i64 (s.2.2.2.2.1), .int .i64 (s.2.2.2.2.2.1), .int .i64 (s.2.2.2.2.2.2.1), .int .i64 (s.2.2.2.2.2.2.2)]]])
      (fun s => 0 ≤ s.1 ∧ s.1 ≤ 7 ∧ (s.2.1) = (if (0 : Int) < s.1 then fi b1 else 0) ∧ (s.2.2.1) = (if (1 : Int) < s.1 then fi b2 else 0) ∧ (s.2.2.2.1) = (if (2 : Int) < s.1 then fi b3 else 0) ∧ (s.2.2.2.2.1) = (if (3 : Int) < s.1 then fi b4 else 0) ∧ (s.2.2.2.2.2.1) = (if (4 : Int) < s.1 then fi b5 else 0) ∧ (s.2.2.2.2.2.2.1) = (if (5 : Int) < s.1 then fi b6 else 0) ∧ (s.2.2.2.2.2.2.2) = (if (6 : Int) < s.1 then fi b7 else 0)) (fun s => (7 - s.1).toNat) (0, 0, 0, 0, 0, 0, 0, 0) (by (refine Wk.eqz (id) (by first | exact fun i _ j _ e => e | (simp only [List.length_cons, List.length_nil]; decide)) ?_; cbv; (repeat' (first | exact trivial | rfl | assumption | apply And.intro | (simp only [hbin, hcmp, hun, hconv, hnot, hbeq, hmm, hscmp, hsadd, hslen, hsat, heqs, hofNat, binStd, cmpStd, unStd, scmpStd, maxI, Bool.not_eq_true', Bool.not_eq_false', decide_eq_true_eq, decide_eq_false_iff_not, Int.not_lt, Int.not_le, if_true, if_false, Bool.false_eq_true, beq_iff_eq, bne_iff_ne, ne_eq, Bool.not_eq_eq_eq_not, Bool.not_true, Bool.not_false, beq_eq_false_iff_ne, bne_eq_false_iff_eq, Int.ofNat_eq_natCast, Bool.not_not, not_true_eq_false, not_false_eq_true, reduceCtorEq]; first | done | assumption) | exact RowsZ.same (by assumption) (by first | assumption | rfl) | exact FzL.mk rfl rfl rfl (by assumption) (by first | assumption | rfl) (by decide) | (refine RowsZ.one ?_; cbv))))) ⟨Int.le_refl 0, (show (0 : Int) ≤ 7 by decide), rfl, rfl, rfl, rfl, rfl, rfl, rfl⟩ ?_
    rintro ⟨i, f0, f1, f2, f3, f4, f5, f6⟩ hinv2 Q2 hN2 hE2 hR2
    have hinv2 : 0 ≤ i ∧ i ≤ 7 ∧ f0 = (if (0 : Int) < i then fi b1 else 0) ∧ f1 = (if (1 : Int) < i then fi b2 else 0) ∧ f2 = (if (2 : Int) < i then fi b3 else 0) ∧ f3 = (if (3 : Int) < i then fi b4 else 0) ∧ f4 = (if (4 : Int) < i then fi b5 else 0) ∧ f5 = (if (5 : Int) < i then fi b6 else 0) ∧ f6 = (if (6 : Int) < i then fi b7 else 0) := hinv2
    cbv
    obtain ⟨hj0, hj7, x0, x1, x2, x3, x4, x5, x6⟩ := hinv2
    (split <;> rename_i hd <;> (try (simp only [hbin, hcmp, hun, hconv, hnot, hbeq, hmm, hscmp, hsadd, hslen, hsat, heqs, hofNat, binStd, cmpStd, unStd, scmpStd, maxI, Bool.not_eq_true', Bool.not_eq_false', decide_eq_true_eq, decide_eq_false_iff_not, Int.not_lt, Int.not_le, if_true, if_false, Bool.false_eq_true, beq_iff_eq, bne_iff_ne, ne_eq, Bool.not_eq_eq_eq_not, Bool.not_true, Bool.not_false, beq_eq_false_iff_ne, bne_eq_false_iff_eq, Int.ofNat_eq_natCast, Bool.not_not, not_true_eq_false, not_false_eq_true, reduceCtorEq] at hd)) <;> (try cbv))
    · have hi : i = 0 ∨ i = 1 ∨ i = 2 ∨ i = 3 ∨ i = 4 ∨ i = 5 ∨ i = 6 := by omega
      rcases hi with rfl | rfl | rfl | rfl | rfl | rfl | rfl
      · have ca : wbin .add .i64 0 1 = 1 := by rw [hbin]; rfl
        cases b1
        · cbv
          refine InN.mk (by decide) (by decide) ?_
          simp only [ca]
          refine hN2 (1, f0, f1, f2, f3, f4, f5, f6) _ _ ?hx ?hi (show ((7 : Int) - 1).toNat < ((7 : Int) - 0).toNat by decide)
          case hx => (refine Wk.eqz (id) (by first | exact fun i _ j _ e => e | (simp only [List.length_cons, List.length_nil]; decide)) ?_; cbv; (repeat' (first | exact trivial | rfl | assumption | apply And.intro | (simp only [hbin, hcmp, hun, hconv, hnot, hbeq, hmm, hscmp, hsadd, hslen, hsat, heqs, hofNat, binStd, cmpStd, unStd, scmpStd, maxI, Bool.not_eq_true', Bool.not_eq_false', decide_eq_true_eq, decide_eq_false_iff_not, Int.not_lt, Int.not_le, if_true, if_false, Bool.false_eq_true, beq_iff_eq, bne_iff_ne, ne_eq, Bool.not_eq_eq_eq_not, Bool.not_true, Bool.not_false, beq_eq_false_iff_ne, bne_eq_false_iff_eq, Int.ofNat_eq_natCast, Bool.not_not, not_true_eq_false, not_false_eq_true, reduceCtorEq]; first | done | assumption) | exact RowsZ.same (by assumption) (by first | assumption | rfl) | exact FzL.mk rfl rfl rfl (by assumption) (by first | assumption | rfl) (by decide) | (refine RowsZ.one ?_; cbv))))
          case hi => exact ⟨(show (0 : Int) ≤ 1 by decide), (show (1 : Int) ≤ 7 by decide), x0, x1, x2, x3, x4, x5, x6⟩
        · cbv
          refine InN.mk (by decide) (by decide) ?_
          cbv
          refine InN.mk (by decide) (by decide) ?_
          simp only [ca]
          refine hN2 (1, 1, f1, f2, f3, f4, f5, f6) _ _ ?hx ?hi (show ((7 : Int) - 1).toNat < ((7 : Int) - 0).toNat by decide)
          case hx => (refine Wk.eqz (id) (by first | exact fun i _ j _ e => e | (simp only [List.length_cons, List.length_nil]; decide)) ?_; cbv; (repeat' (first | exact trivial | rfl | assumption | apply And.intro | (simp only [hbin, hcmp, hun, hconv, hnot, hbeq, hmm, hscmp, hsadd, hslen, hsat, heqs, hofNat, binStd, cmpStd, unStd, scmpStd, maxI, Bool.not_eq_true', Bool.not_eq_false', decide_eq_true_eq, decide_eq_false_iff_not, Int.not_lt, Int.not_le, if_true, if_false, Bool.false_eq_true, beq_iff_eq, bne_iff_ne, ne_eq, Bool.not_eq_eq_eq_not, Bool.not_true, Bool.not_false, beq_eq_false_iff_ne, bne_eq_false_iff_eq, Int.ofNat_eq_natCast, Bool.not_not, not_true_eq_false, not_false_eq_true, reduceCtorEq]; first | done | assumption) | exact RowsZ.same (by assumption) (by first | assumption | rfl) | exact FzL.mk rfl rfl rfl (by assumption) (by first | assumption | rfl) (by decide) | (refine RowsZ.one ?_; cbv))))
          case hi => exact ⟨(show (0 : Int) ≤ 1 by decide), (show (1 : Int) ≤ 7 by decide), rfl, x1, x2, x3, x4, x5, x6⟩
      · have ca : wbin .add .i64 1 1 = 2 := by rw [hbin]; rfl
        cases b2
        · cbv
          refine InN.mk (by decide) (by decide) ?_
          simp only [ca]
          refine hN2 (2, f0, f1, f2, f3, f4, f5, f6) _ _ ?hx ?hi (show ((7 : Int) - 2).toNat < ((7 : Int) - 1).toNat by decide)
          case hx => (refine Wk.eqz (id) (by first | exact fun i _ j _ e => e | (simp only [List.length_cons, List.length_nil]; decide)) ?_; cbv; (repeat' (first | exact trivial | rfl | assumption | apply And.intro | (simp only [hbin, hcmp, hun, hconv, hnot, hbeq, hmm, hscmp, hsadd, hslen, hsat, heqs, hofNat, binStd, cmpStd, unStd, scmpStd, maxI, Bool.not_eq_true', Bool.not_eq_false', decide_eq_true_eq, decide_eq_false_iff_not, Int.not_lt, Int.not_le, if_true, if_false, Bool.false_eq_true, beq_iff_eq, bne_iff_ne, ne_eq, Bool.not_eq_eq_eq_not, Bool.not_true, Bool.not_false, beq_eq_false_iff_ne, bne_eq_false_iff_eq, Int.ofNat_eq_natCast, Bool.not_not, not_true_eq_false, not_false_eq_true, reduceCtorEq]; first | done | assumption) | exact RowsZ.same (by assumption) (by first | assumption | rfl) | exact FzL.mk rfl rfl rfl (by assumption) (by first | assumption | rfl) (by decide) | (refine RowsZ.one ?_; cbv))))
          case hi => exact ⟨(show (0 : Int) ≤ 2 by decide), (show (2 : Int) ≤ 7 by decide), x0, x1, x2, x3, x4, x5, x6⟩
        · cbv
          refine InN.mk (by decide) (by decide) ?_
          cbv
          refine InN.mk (by decide) (by decide) ?_
          simp only [ca]
          refine hN2 (2, f0, 1, f2, f3, f4, f5, f6) _ _ ?hx ?hi (show ((7 : Int) - 2).toNat < ((7 : Int) - 1).toNat by decide)
          case hx => (refine Wk.eqz (id) (by first | exact fun i _ j _ e => e | (simp only [List.length_cons, List.length_nil]; decide)) ?_; cbv; (repeat' (first | exact trivial | rfl | assumption | apply And.intro | (simp only [hbin, hcmp, hun, hconv, hnot, hbeq, hmm, hscmp, hsadd, hslen, hsat, heqs, hofNat, binStd, cmpStd, unStd, scmpStd, maxI, Bool.not_eq_true', Bool.not_eq_false', decide_eq_true_eq, decide_eq_false_iff_not, Int.not_lt, Int.not_le, if_true, if_false, Bool.false_eq_true, beq_iff_eq, bne_iff_ne, ne_eq, Bool.not_eq_eq_eq_not, Bool.not_true, Bool.not_false, beq_eq_false_iff_ne, bne_eq_false_iff_eq, Int.ofNat_eq_natCast, Bool.not_not, not_true_eq_false, not_false_eq_true, reduceCtorEq]; first | done | assumption) | exact RowsZ.same (by assumption) (by first | assumption | rfl) | exact FzL.mk rfl rfl rfl (by assumption) (by first | assumption | rfl) (by decide) | (refine RowsZ.one ?_; cbv))))
          case hi => exact ⟨(show (0 : Int) ≤ 2 by decide), (show (2 : Int) ≤ 7 by decide), x0, rfl, x2, x3, x4, x5, x6⟩
      · have ca : wbin .add .i64 2 1 = 3 := by rw [hbin]; rfl
        cases b3
        · cbv
          refine InN.mk (by decide) (by decide) ?_
          simp only [ca]
          refine hN2 (3, f0, f1, f2, f3, f4, f5, f6) _ _ ?hx ?hi (show ((7 : Int) - 3).toNat < ((7 : Int) - 2).toNat by decide)
          case hx => (refine Wk.eqz (id) (by first | exact fun i _ j _ e => e | (simp only [List.length_cons, List.length_nil]; decide)) ?_; cbv; (repeat' (first | exact trivial | rfl | assumption | apply And.intro | (simp only [hbin, hcmp, hun, hconv, hnot, hbeq, hmm, hscmp, hsadd, hslen, hsat, heqs, hofNat, binStd, cmpStd, unStd, scmpStd, maxI, Bool.not_eq_true', Bool.not_eq_false', decide_eq_true_eq, decide_eq_false_iff_not, Int.not_lt, Int.not_le, if_true, if_false, Bool.false_eq_true, beq_iff_eq, bne_iff_ne, ne_eq, Bool.not_eq_eq_eq_not, Bool.not_true, Bool.not_false, beq_eq_false_iff_ne, bne_eq_false_iff_eq, Int.ofNat_eq_natCast, Bool.not_not, not_true_eq_false, not_false_eq_true, reduceCtorEq]; first | done | assumption) | exact RowsZ.same (by assumption) (by first | assumption | rfl) | exact FzL.mk rfl rfl rfl (by assumption) (by first | assumption | rfl) (by decide) | (refine RowsZ.one ?_; cbv))))
          case hi => exact ⟨(show (0 : Int) ≤ 3 by decide), (show (3 : Int) ≤ 7 by decide), x0, x1, x2, x3, x4, x5, x6⟩
        · cbv
          refine InN.mk (by decide) (by decide) ?_
          cbv
          refine InN.mk (by decide) (by decide) ?_
          simp only [ca]
          refine hN2 (3, f0, f1, 1, f3, f4, f5, f6) _ _ ?hx ?hi (show ((7 : Int) - 3).toNat < ((7 : Int) - 2).toNat by decide)
          case hx => (refine Wk.eqz (id) (by first | exact fun i _ j _ e => e | (simp only [List.length_cons, List.length_nil]; decide)) ?_; cbv; (repeat' (first | exact trivial | rfl | assumption | apply And.intro | (simp only [hbin, hcmp, hun, hconv, hnot, hbeq, hmm, hscmp, hsadd, hslen, hsat, heqs, hofNat, binStd, cmpStd, unStd, scmpStd, maxI, Bool.not_eq_true', Bool.not_eq_false', decide_eq_true_eq, decide_eq_false_iff_not, Int.not_lt, Int.not_le, if_true, if_false, Bool.false_eq_true, beq_iff_eq, bne_iff_ne, ne_eq, Bool.not_eq_eq_eq_not, Bool.not_true, Bool.not_false, beq_eq_false_iff_ne, bne_eq_false_iff_eq, Int.ofNat_eq_natCast, Bool.not_not, not_true_eq_false, not_false_eq_true, reduceCtorEq]; first | done | assumption) | exact RowsZ.same (by assumption) (by first | assumption | rfl) | exact FzL.mk rfl rfl rfl (by assumption) (by first | assumption | rfl) (by decide) | (refine RowsZ.one ?_; cbv))))
          case hi => exact ⟨(show (0 : Int) ≤ 3 by decide), (show (3 : Int) ≤ 7 by decide), x0, x1, rfl, x3, x4, x5, x6⟩
      · have ca : wbin .add .i64 3 1 = 4 := by rw [hbin]; rfl
        cases b4
        · cbv
          refine InN.mk (by decide) (by decide) ?_
          simp only [ca]
          refine hN2 (4, f0, f1, f2, f3, f4, f5, f6) _ _ ?hx ?hi (show ((7 : Int) - 4).toNat < ((7 : Int) - 3).toNat by decide)
          case hx => (refine Wk.eqz (id) (by first | exact fun i _ j _ e => e | (simp only [List.length_cons, List.length_nil]; decide)) ?_; cbv; (repeat' (first | exact trivial | rfl | assumption | apply And.intro | (simp only [hbin, hcmp, hun, hconv, hnot, hbeq, hmm, hscmp, hsadd, hslen, hsat, heqs, hofNat, binStd, cmpStd, unStd, scmpStd, maxI, Bool.not_eq_true', Bool.not_eq_false', decide_eq_true_eq, decide_eq_false_iff_not, Int.not_lt, Int.not_le, if_true, if_false, Bool.false_eq_true, beq_iff_eq, bne_iff_ne, ne_eq, Bool.not_eq_eq_eq_not, Bool.not_true, Bool.not_false, beq_eq_false_iff_ne, bne_eq_false_iff_eq, Int.ofNat_eq_natCast, Bool.not_not, not_true_eq_false, not_false_eq_true, reduceCtorEq]; first | done | assumption) | exact RowsZ.same (by assumption) (by first | assumption | rfl) | exact FzL.mk rfl rfl rfl (by assumption) (by first | assumption | rfl) (by decide) | (refine RowsZ.one ?_; cbv))))
          case hi => exact ⟨(show (0 : Int) ≤ 4 by decide), (show (4 : Int) ≤ 7 by decide), x0, x1, x2, x3, x4, x5, x6⟩
        · cbv
          refine InN.mk (by decide) (by decide) ?_
          cbv
          refine InN.mk (by decide) (by decide) ?_
          simp only [ca]
          refine hN2 (4, f0, f1, f2, 1, f4, f5, f6) _ _ ?hx ?hi (show ((7 : Int) - 4).toNat < ((7 : Int) - 3).toNat by decide)
          case hx => (refine Wk.eqz (id) (by first | exact fun i _ j _ e => e | (simp only [List.length_cons, List.length_nil]; decide)) ?_; cbv; (repeat' (first | exact trivial | rfl | assumption | apply And.intro | (simp only [hbin, hcmp, hun, hconv, hnot, hbeq, hmm, hscmp, hsadd, hslen, hsat, heqs, hofNat, binStd, cmpStd, unStd, scmpStd, maxI, Bool.not_eq_true', Bool.not_eq_false', decide_eq_true_eq, decide_eq_false_iff_not, Int.not_lt, Int.not_le, if_true, if_false, Bool.false_eq_true, beq_iff_eq, bne_iff_ne, ne_eq, Bool.not_eq_eq_eq_not, Bool.not_true, Bool.not_false, beq_eq_false_iff_ne, bne_eq_false_iff_eq, Int.ofNat_eq_natCast, Bool.not_not, not_true_eq_false, not_false_eq_true, reduceCtorEq]; first | done | assumption) | exact RowsZ.same (by assumption) (by first | assumption | rfl) | exact FzL.mk rfl rfl rfl (by assumption) (by first | assumption | rfl) (by decide) | (refine RowsZ.one ?_; cbv))))
          case hi => exact ⟨(show (0 : Int) ≤ 4 by decide), (show (4 : Int) ≤ 7 by decide), x0, x1, x2, rfl, x4, x5, x6⟩
      · have ca : wbin .add .i64 4 1 = 5 := by rw [hbin]; rfl
        cases b5
        · cbv
          refine InN.mk (by decide) (by decide) ?_
          simp only [ca]
          refine hN2 (5, f0, f1, f2, f3, f4, f5, f6) _ _ ?hx ?hi (show ((7 : Int) - 5).toNat < ((7 : Int) - 4).toNat by decide)
          case hx => (refine Wk.eqz (id) (by first | exact fun i _ j _ e => e | (simp only [List.length_cons, List.length_nil]; decide)) ?_; cbv; (repeat' (first | exact trivial | rfl | assumption | apply And.intro | (simp only [hbin, hcmp, hun, hconv, hnot, hbeq, hmm, hscmp, hsadd, hslen, hsat, heqs, hofNat, binStd, cmpStd, unStd, scmpStd, maxI, Bool.not_eq_true', Bool.not_eq_false', decide_eq_true_eq, decide_eq_false_iff_not, Int.not_lt, Int.not_le, if_true, if_false, Bool.false_eq_true, beq_iff_eq, bne_iff_ne, ne_eq, Bool.not_eq_eq_eq_not, Bool.not_true, Bool.not_false, beq_eq_false_iff_ne, bne_eq_false_iff_eq, Int.ofNat_eq_natCast, Bool.not_not, not_true_eq_false, not_false_eq_true, reduceCtorEq]; first | done | assumption) | exact RowsZ.same (by assumption) (by first | assumption | rfl) | exact FzL.mk rfl rfl rfl (by assumption) (by first | assumption | rfl) (by decide) | (refine RowsZ.one ?_; cbv))))
          case hi => exact ⟨(show (0 : Int) ≤ 5 by decide), (show (5 : Int) ≤ 7 by decide), x0, x1, x2, x3, x4, x5, x6⟩
        · cbv
          refine InN.mk (by decide) (by decide) ?_
          cbv
          refine InN.mk (by decide) (by decide) ?_
          simp only [ca]
          refine hN2 (5, f0, f1, f2, f3, 1, f5, f6) _ _ ?hx ?hi (show ((7 : Int) - 5).toNat < ((7 : Int) - 4).toNat by decide)
          case hx => (refine Wk.eqz (id) (by first | exact fun i _ j _ e => e | (simp only [List.length_cons, List.length_nil]; decide)) ?_; cbv; (repeat' (first | exact trivial | rfl | assumption | apply And.intro | (simp only [hbin, hcmp, hun, hconv, hnot, hbeq, hmm, hscmp, hsadd, hslen, hsat, heqs, hofNat, binStd, cmpStd, unStd, scmpStd, maxI, Bool.not_eq_true', Bool.not_eq_false', decide_eq_true_eq, decide_eq_false_iff_not, Int.not_lt, Int.not_le, if_true, if_false, Bool.false_eq_true, beq_iff_eq, bne_iff_ne, ne_eq, Bool.not_eq_eq_eq_not, Bool.not_true, Bool.not_false, beq_eq_false_iff_ne, bne_eq_false_iff_eq, Int.ofNat_eq_natCast, Bool.not_not, not_true_eq_false, not_false_eq_true, reduceCtorEq]; first | done | assumption) | exact RowsZ.same (by assumption) (by first | assumption | rfl) | exact FzL.mk rfl rfl rfl (by assumption) (by first | assumption | rfl) (by decide) | (refine RowsZ.one ?_; cbv))))
          case hi => exact ⟨(show (0 : Int) ≤ 5 by decide), (show (5 : Int) ≤ 7 by decide), x0, x1, x2, x3, rfl, x5, x6⟩
      · have ca : wbin .add .i64 5 1 = 6 := by rw [hbin]; rfl
        cases b6
        · cbv
          refine InN.mk (by decide) (by decide) ?_
          simp only [ca]
          refine hN2 (6, f0, f1, f2, f3, f4, f5, f6) _ _ ?hx ?hi (show ((7 : Int) - 6).toNat < ((7 : Int) - 5).toNat by decide)
          case hx => (refine Wk.eqz (id) (by first | exact fun i _ j _ e => e | (simp only [List.length_cons, List.length_nil]; decide)) ?_; cbv; (repeat' (first | exact trivial | rfl | assumption | apply And.intro | (simp only [hbin, hcmp, hun, hconv, hnot, hbeq, hmm, hscmp, hsadd, hslen, hsat, heqs, hofNat, binStd, cmpStd, unStd, scmpStd, maxI, Bool.not_eq_true', Bool.not_eq_false', decide_eq_true_eq, decide_eq_false_iff_not, Int.not_lt, Int.not_le, if_true, if_false, Bool.false_eq_true, beq_iff_eq, bne_iff_ne, ne_eq, Bool.not_eq_eq_eq_not, Bool.not_true, Bool.not_false, beq_eq_false_iff_ne, bne_eq_false_iff_eq, Int.ofNat_eq_natCast, Bool.not_not, not_true_eq_false, not_false_eq_true, reduceCtorEq]; first | done | assumption) | exact RowsZ.same (by assumption) (by first | assumption | rfl) | exact FzL.mk rfl rfl rfl (by assumption) (by first | assumption | rfl) (by decide) | (refine RowsZ.one ?_; cbv))))
          case hi => exact ⟨(show (0 : Int) ≤ 6 by decide), (show (6 : Int) ≤ 7 by decide), x0, x1, x2, x3, x4, x5, x6⟩
        · cbv
          refine InN.mk (by decide) (by decide) ?_
          cbv
          refine InN.mk (by decide) (by decide) ?_
          simp only [ca]
          refine hN2 (6, f0, f1, f2, f3, f4, 1, f6) _ _ ?hx ?hi (show ((7 : Int) - 6).toNat < ((7 : Int) - 5).toNat by decide)
          case hx => (refine Wk.eqz (id) (by first | exact fun i _ j _ e => e | (simp only [List.length_cons, List.length_nil]; decide)) ?_; cbv; (repeat' (first | exact trivial | rfl | assumption | apply And.intro | (simp only [hbin, hcmp, hun, hconv, hnot, hbeq, hmm, hscmp, hsadd, hslen, hsat, heqs, hofNat, binStd, cmpStd, unStd, scmpStd, maxI, Bool.not_eq_true', Bool.not_eq_false', decide_eq_true_eq, decide_eq_false_iff_not, Int.not_lt, Int.not_le, if_true, if_false, Bool.false_eq_true, beq_iff_eq, bne_iff_ne, ne_eq, Bool.not_eq_eq_eq_not, Bool.not_true, Bool.not_false, beq_eq_false_iff_ne, bne_eq_false_iff_eq, Int.ofNat_eq_natCast, Bool.not_not, not_true_eq_false, not_false_eq_true, reduceCtorEq]; first | done | assumption) | exact RowsZ.same (by assumption) (by first | assumption | rfl) | exact FzL.mk rfl rfl rfl (by assumption) (by first | assumption | rfl) (by decide) | (refine RowsZ.one ?_; cbv))))
          case hi => exact ⟨(show (0 : Int) ≤ 6 by decide), (show (6 : Int) ≤ 7 by decide), x0, x1, x2, x3, x4, rfl, x6⟩
      · have ca : wbin .add .i64 6 1 = 7 := by rw [hbin]; rfl
        cases b7
        · cbv
          refine InN.mk (by decide) (by decide) ?_
          simp only [ca]
          refine hN2 (7, f0, f1, f2, f3, f4, f5, f6) _ _ ?hx ?hi (show ((7 : Int) - 7).toNat < ((7 : Int) - 6).toNat by decide)
          case hx => (refine Wk.eqz (id) (by first | exact fun i _ j _ e => e | (simp only [List.length_cons, List.length_nil]; decide)) ?_; cbv; (repeat' (first | exact trivial | rfl | assumption | apply And.intro | (simp only [hbin, hcmp, hun, hconv, hnot, hbeq, hmm, hscmp, hsadd, hslen, hsat, heqs, hofNat, binStd, cmpStd, unStd, scmpStd, maxI, Bool.not_eq_true', Bool.not_eq_false', decide_eq_true_eq, decide_eq_false_iff_not, Int.not_lt, Int.not_le, if_true, if_false, Bool.false_eq_true, beq_iff_eq, bne_iff_ne, ne_eq, Bool.not_eq_eq_eq_not, Bool.not_true, Bool.not_false, beq_eq_false_iff_ne, bne_eq_false_iff_eq, Int.ofNat_eq_natCast, Bool.not_not, not_true_eq_false, not_false_eq_true, reduceCtorEq]; first | done | assumption) | exact RowsZ.same (by assumption) (by first | assumption | rfl) | exact FzL.mk rfl rfl rfl (by assumption) (by first | assumption | rfl) (by decide) | (refine RowsZ.one ?_; cbv))))
          case hi => exact ⟨(show (0 : Int) ≤ 7 by decide), (show (7 : Int) ≤ 7 by decide), x0, x1, x2, x3, x4, x5, x6⟩
        · cbv
          refine InN.mk (by decide) (by decide) ?_
          cbv
          refine InN.mk (by decide) (by decide) ?_
          simp only [ca]
          refine hN2 (7, f0, f1, f2, f3, f4, f5, 1) _ _ ?hx ?hi (show ((7 : Int) - 7).toNat < ((7 : Int) - 6).toNat by decide)
          case hx => (refine Wk.eqz (id) (by first | exact fun i _ j _ e => e | (simp only [List.length_cons, List.length_nil]; decide)) ?_; cbv; (repeat' (first | exact trivial | rfl | assumption | apply And.intro | (simp only [hbin, hcmp, hun, hconv, hnot, hbeq, hmm, hscmp, hsadd, hslen, hsat, heqs, hofNat, binStd, cmpStd, unStd, scmpStd, maxI, Bool.not_eq_true', Bool.not_eq_false', decide_eq_true_eq, decide_eq_false_iff_not, Int.not_lt, Int.not_le, if_true, if_false, Bool.false_eq_true, beq_iff_eq, bne_iff_ne, ne_eq, Bool.not_eq_eq_eq_not, Bool.not_true, Bool.not_false, beq_eq_false_iff_ne, bne_eq_false_iff_eq, Int.ofNat_eq_natCast, Bool.not_not, not_true_eq_false, not_false_eq_true, reduceCtorEq]; first | done | assumption) | exact RowsZ.same (by assumption) (by first | assumption | rfl) | exact FzL.mk rfl rfl rfl (by assumption) (by first | assumption | rfl) (by decide) | (refine RowsZ.one ?_; cbv))))
          case hi => exact ⟨(show (0 : Int) ≤ 7 by decide), (show (7 : Int) ≤ 7 by decide), x0, x1, x2, x3, x4, x5, rfl⟩
    · refine hE2 _ _ _ ?_
      cbv
      have e7 : i = 7 := by omega
      subst e7
      have y0 : f0 = fi b1 := x0
      have y1 : f1 = fi b2 := x1
      have y2 : f2 = fi b3 := x2
      have y3 : f3 = fi b4 := x3
      have y4 : f4 = fi b5 := x4
      have y5 : f5 = fi b6 := x5
      have y6 : f6 = fi b7 := x6
      have qb : PCalls Tryd.prog 7 [.agg [.int .i64 c, .int .i64 m, .int .i64 g, .int .i64 fit, .int .i64 lo, .int .i64 hi, .int .i64 slo, .int .i64 shi, .int .i64 est, .list 1 qs, .int .i64 s0, .int .i64 s1, .int .i64 f0, .int .i64 f1, .int .i64 f2, .int .i64 f3, .int .i64 f4, .int .i64 f5, .int .i64 f6]] (· = .str t) := by rw [y0, y1, y2, y3, y4, y5, y6]; exact qb
      refine QCal.stepE (by rw [← hP]; exact qa) (by exact Bool.and_eq_true_iff.mpr ⟨Up0.one huq rfl, rfl⟩) ?_
      cbv
      refine QCal.stepE (by rw [← hP]; exact qb) (by exact Bool.and_eq_true_iff.mpr ⟨Up0.one huq rfl, rfl⟩) ?_
      cbv
      have cc : wscmp .eql t t = true := by rw [hscmp, scmp_eql]; simp
      simp only [cc]
      exact ⟨_, Vw.same rfl, hR _ rfl⟩
end Go.Proofs.YtikhbgnokkdpeaaDoor

/- What a configuration is. -/
set_option linter.unusedVariables false
set_option linter.unusedSimpArgs false
namespace Go.Proofs.YtikhbgnokkdpeaaDoor
open Go Go.RowKit Go.Eng
set_option maxRecDepth 100000
theorem ok_int {k : IntKind} {l : List Sh} {xs : List AV} (h : OkL (.int k :: l) xs) : ∃ n y, xs = .int k n :: y ∧ (Lit.int k n).wf = true ∧ OkL l y := by
  unfold OkL at h
  obtain ⟨x, y, rfl, h1, h2⟩ := h
  unfold Sh.Ok at h1
  obtain ⟨n, rfl, hn⟩ := h1
  exact ⟨n, y, rfl, hn, h2⟩
theorem ok_bool {l : List Sh} {xs : List AV} (h : OkL (.bool :: l) xs) : ∃ b y, xs = .bool b :: y ∧ OkL l y := by
  unfold OkL at h
  obtain ⟨x, y, rfl, h1, h2⟩ := h
  unfold Sh.Ok at h1
  obtain ⟨n, rfl⟩ := h1
  exact ⟨n, y, rfl, h2⟩
theorem ok_list {z : Nat} {row l : List Sh} {xs : List AV} (h : OkL (.list z row :: l) xs) : ∃ es y, xs = .list z es :: y ∧ es.length ≤ maxS ∧ (∀ r, r ∈ es → OkL row r) ∧ OkL l y := by
  unfold OkL at h
  obtain ⟨x, y, rfl, h1, h2⟩ := h
  unfold Sh.Ok at h1
  obtain ⟨n, rfl, h3, h4⟩ := h1
  exact ⟨n, y, rfl, h3, h4, h2⟩
theorem ok_nil {xs : List AV} (h : OkL [] xs) : xs = [] := by unfold OkL at h; exact h
theorem wf64 {n : Int} (h : (Lit.int .i64 n).wf = true) : -9223372036854775808 ≤ n ∧ n ≤ 9223372036854775807 := by
  simp [Lit.wf, IntKind.min, IntKind.max, IntKind.signed, IntKind.bits] at h
  omega
end Go.Proofs.YtikhbgnokkdpeaaDoor

/- What an int64 is. -/
set_option linter.unusedVariables false
set_option maxRecDepth 100000
namespace Go.Proofs.YtikhbgnokkdpeaaDoor
open Go Go.RowKit Go.Eng
theorem ty_i64 (x : AV) (h : TyV Tryd.prog 8 2 x) : ∃ n, x = .int .i64 n ∧ -9223372036854775808 ≤ n ∧ n ≤ 9223372036854775807 := by
  have h := h.one (by kernel_rfl) (show shOf Tryd.prog 8 2 = some [.int .i64] from by kernel_rfl)
  unfold Sh.Ok at h
  obtain ⟨n, rfl, hn⟩ := h
  exact ⟨n, rfl, wf64 hn⟩
end Go.Proofs.YtikhbgnokkdpeaaDoor

/- What a report is. -/
set_option linter.unusedVariables false
set_option maxRecDepth 100000
namespace Go.Proofs.YtikhbgnokkdpeaaDoor
open Go Go.RowKit Go.Eng
theorem rows_ofL {D : Type} {f : D → List AV} {p : D → Prop} : ∀ {es : List (List AV)}, (∀ r, r ∈ es → ∃ d, r = f d ∧ p d) → ∃ ds : List D, es = ds.map f ∧ ∀ d, d ∈ ds → p d
  | [], _ => ⟨[], rfl, fun d hd => by cases hd⟩
  | r :: es, h => by
    obtain ⟨d, h1, h2⟩ := h r (by simp)
    obtain ⟨ds, h3, h4⟩ := rows_ofL (es := es) fun x hx => h x (by simp [hx])
    exact ⟨d :: ds, by rw [h1, h3]; rfl, fun x hx => by
      rcases List.mem_cons.1 hx with rfl | hx
      · exact h2
      · exact h4 x hx⟩
theorem ty_lr (x : AV) (h : TyV Tryd.prog 8 28 x) : ∃ o : Lr, x = .agg (lrRow o (o.rs.map (fun r => [AV.list 1 (r.map nxRow)]))) ∧ LrOk o ∧ ∀ r, r ∈ o.rs → r.length ≤ 140737488355328 := by
  obtain ⟨cs, rfl, k0⟩ := h.agg (by kernel_rfl) (show shOf Tryd.prog 8 28 = some [.int .i64, .int .i64, .int .i64, .int .i64, .int .i64, .int .i64, .int .i64, .int .i64, .int .i64, .int .i64, .list 1 [.list 1 [.int .i64]], .int .i64, .bool, .bool, .int .i64, .int .i64, .bool, .bool, .bool, .bool, .bool, .int .i64, .int .i64, .int .i64, .int .i64, .int .i64, .int .i64, .int .i64, .int .i64, .int .i64, .int .i64, .int .i64] from by kernel_rfl)
  obtain ⟨c, _, rfl, wc, k1⟩ := ok_int k0
  clear k0
  obtain ⟨m, _, rfl, wm, k2⟩ := ok_int k1
  clear k1
  obtain ⟨g, _, rfl, wg, k3⟩ := ok_int k2
  clear k2
  obtain ⟨lo, _, rfl, wlo, k4⟩ := ok_int k3
  clear k3
  obtain ⟨hi, _, rfl, whi, k5⟩ := ok_int k4
  clear k4
  obtain ⟨est, _, rfl, west, k6⟩ := ok_int k5
  clear k5
  obtain ⟨slo, _, rfl, wslo, k7⟩ := ok_int k6
  clear k6
  obtain ⟨shi, _, rfl, wshi, k8⟩ := ok_int k7
  clear k7
  obtain ⟨nom, _, rfl, wnom, k9⟩ := ok_int k8
  clear k8
  obtain ⟨dist, _, rfl, wdist, k10⟩ := ok_int k9
  clear k9
  obtain ⟨qs, _, rfl, _, hq, k11⟩ := ok_list k10
  clear k10
  obtain ⟨fit, _, rfl, wfit, k12⟩ := ok_int k11
  clear k11
  obtain ⟨b1, _, rfl, k13⟩ := ok_bool k12
  clear k12
  obtain ⟨b2, _, rfl, k14⟩ := ok_bool k13
  clear k13
  obtain ⟨s0, _, rfl, ws0, k15⟩ := ok_int k14
  clear k14
  obtain ⟨s1, _, rfl, ws1, k16⟩ := ok_int k15
  clear k15
  obtain ⟨b3, _, rfl, k17⟩ := ok_bool k16
  clear k16
  obtain ⟨b4, _, rfl, k18⟩ := ok_bool k17
  clear k17
  obtain ⟨b5, _, rfl, k19⟩ := ok_bool k18
  clear k18
  obtain ⟨b6, _, rfl, k20⟩ := ok_bool k19
  clear k19
  obtain ⟨b7, _, rfl, k21⟩ := ok_bool k20
  clear k20
  obtain ⟨mlo, _, rfl, wmlo, k22⟩ := ok_int k21
  clear k21
  obtain ⟨mhi, _, rfl, wmhi, k23⟩ := ok_int k22
  clear k22
  obtain ⟨perm, _, rfl, wperm, k24⟩ := ok_int k23
  clear k23
  obtain ⟨c0, _, rfl, wc0, k25⟩ := ok_int k24
  clear k24
  obtain ⟨c1, _, rfl, wc1, k26⟩ := ok_int k25
  clear k25
  obtain ⟨c2, _, rfl, wc2, k27⟩ := ok_int k26
  clear k26
  obtain ⟨c3, _, rfl, wc3, k28⟩ := ok_int k27
  clear k27
  obtain ⟨j0, _, rfl, wj0, k29⟩ := ok_int k28
  clear k28
  obtain ⟨j1, _, rfl, wj1, k30⟩ := ok_int k29
  clear k29
  obtain ⟨j2, _, rfl, wj2, k31⟩ := ok_int k30
  clear k30
  obtain ⟨j3, _, rfl, wj3, k32⟩ := ok_int k31
  clear k31
  obtain rfl := ok_nil k32
  obtain ⟨rs, rfl, hrs⟩ := rows_ofL (f := fun r : List Int => [AV.list 1 (r.map nxRow)]) (p := fun r => (∀ n, n ∈ r → In64 n) ∧ r.length ≤ 140737488355328) (es := qs) fun r hr => by
    obtain ⟨es, _, rfl, hlen, h1, k1⟩ := ok_list (hq r hr)
    obtain rfl := ok_nil k1
    obtain ⟨l, rfl, hl⟩ := rows_ofL (f := nxRow) (p := In64) (es := es) fun r hr => by
      obtain ⟨n, _, rfl, hw, k1⟩ := ok_int (h1 r hr)
      obtain rfl := ok_nil k1
      exact ⟨n, rfl, wf64 hw⟩
    exact ⟨l, rfl, hl, by unfold maxS at hlen; simpa using hlen⟩
  exact ⟨⟨c, m, g, lo, hi, est, slo, shi, nom, dist, rs, fit, b1, b2, s0, s1, b3, b4, b5, b6, b7, mlo, mhi, perm, c0, c1, c2, c3, j0, j1, j2, j3⟩, rfl, ⟨wf64 wc, wf64 wg, wf64 wlo, wf64 whi, wf64 west, wf64 wslo, wf64 wshi, wf64 wfit, wf64 ws0, wf64 ws1, fun r hr => (hrs r hr).1⟩, fun r hr => (hrs r hr).2⟩
end Go.Proofs.YtikhbgnokkdpeaaDoor

/- The powers of ten, out of the row's own condition. -/
set_option linter.unusedVariables false
set_option linter.unusedSimpArgs false
namespace Go.Proofs.YtikhbgnokkdpeaaDoor
open Go Go.RowKit Go.Eng
set_option maxRecDepth 100000
def pows : List Int := [1, 10, 100, 1000, 10000, 100000, 1000000, 10000000, 100000000, 1000000000, 10000000000, 100000000000, 1000000000000, 10000000000000, 100000000000000, 1000000000000000, 10000000000000000, 100000000000000000, 1000000000000000000, 10000000000000000000]
theorem glo_pow {W : World} {l : List (String × DataW Unit)} (hp : (l.all fun x => x.2.handleName?.isNone) = true) (hm : ("internal/strconv.uint64pow10", Rows.laid_internal_strconv_uint64pow10) ∈ l) (h : laidMetH Tryd.prog l W) :
    ∃ g, Tryd.prog.globalNamed "internal/strconv.uint64pow10" = some g ∧ VR (cfg0 W) (.cref (pows.map (AV.int .u64))) (.pointer (some ⟨g, 0, none⟩)) ∧ ∃ ty, W.shape? g = some (ty, (pows.map (AV.int .u64)).length) := by
  rw [Go.MakeChecks.laidMetH_plain _ _ _ hp] at h
  obtain ⟨ps, hl, _⟩ := h
  obtain ⟨g, t, cs, fuel, p, h1, h2, h3, h4⟩ := laid_mem hl hm
  refine ⟨g, h1, glo_ints h1 h3 ?_⟩
  have hT : (Tryd.prog.globalNamed "internal/strconv.uint64pow10").bind (fun g => (Tryd.prog.globals[g]?).map (·.type)) = some 78 := by kernel_rfl
  rw [h1, Option.bind_some, h2] at hT
  obtain rfl := Option.some.inj hT
  have e : (Rows.laid_internal_strconv_uint64pow10 : DataW Unit) = .agg (pows.map fun x => .lit (.int .u64 x)) := rfl
  rw [e] at h4
  exact trod_ints (n := 20) (et := 68) (by kernel_rfl) (by kernel_rfl) (by kernel_rfl) (by kernel_rfl) h4
end Go.Proofs.YtikhbgnokkdpeaaDoor

/- LineTexts, joined. -/
set_option linter.unusedVariables false
set_option maxRecDepth 100000
namespace Go.Proofs.YtikhbgnokkdpeaaDoor
open Go Go.RowKit Go.Eng
theorem walk_LineTexts (x0 : AV) (h0 : TyV Tryd.prog 8 28 x0) : PCalls Tryd.prog 3 [x0] (fun r => r = .bool true) := by
  obtain ⟨o, rfl, ho, hl⟩ := ty_lr x0 h0
  exact e_texts o ho hl _ rfl
theorem glo_LineTexts {W : World} (h : laidMetH Tryd.prog Rows.lineTextsRow.laid W) : Glo W := by
  obtain ⟨g, h1, h2, h3⟩ := glo_pow (by kernel_rfl) (by simp [Rows.lineTextsRow]) h
  have h0 : Tryd.prog.globalNamed "internal/strconv.uint64pow10" = some 0 := by kernel_rfl
  obtain rfl : 0 = g := Option.some.inj (h0.symm.trans h1)
  intro p hp
  have hp : p ∈ [((0 : Nat), pows.map (AV.int .u64))] := hp
  obtain rfl := List.mem_singleton.1 hp
  exact ⟨h2, h3⟩
end Go.Proofs.YtikhbgnokkdpeaaDoor

