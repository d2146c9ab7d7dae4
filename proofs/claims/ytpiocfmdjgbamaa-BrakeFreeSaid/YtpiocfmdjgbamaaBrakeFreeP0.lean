/- Texts of the proof, joined by wip/tools/pack3.py. -/
import Derived.Test.YtpiocfmdjgbamaaCoreP2
import Derived.KernelRfl
import Derived.Test.YtpiocfmdjgbamaaBase
import Derived.Test.YtpiocfmdjgbamaaEng30
/- The least way to a dead end, from a place of some ways, by the engine. -/
set_option linter.unusedVariables false
set_option linter.unusedSimpArgs false
namespace Go.Proofs.Ytpiocfmdjgbamaa
open Go Go.RowKit Go.Eng
set_option maxRecDepth 100000
theorem e_xsubSat {a b d : Int} (h : a - b = d) (ha : I62 a) (hb : I62 b) : PCalls Try.prog 70 [.int .i64 a, .int .i64 b] (· = .int .i64 d) := by
  (refine PCalls.ofY Try.func70 (by kernel_rfl) (by kernel_rfl) fun w hw R hR => ?_); (obtain ⟨wbin, wcmp, wun, wconv, wnot, wbeq, wmm, wscmp, wsadd, wslen, wsat, weqs, wlen, wnlen, wofNat, wtake, wdrop, wapp, wzero, wnat⟩ := w); (have hbin := Z.w1 hw); (have hcmp := Z.w2 hw); (have hun := Z.w3 hw); (have hconv := Z.w4 hw); (have hnot := Z.w5 hw); (have hbeq := Z.w6 hw); (have hmm := Z.w7 hw); (have hscmp := Z.w8 hw); (have hsadd := Z.w9 hw); (have hslen := Z.w10 hw); (have hsat := Z.w11 hw); (have heqs := Z.w12 hw); (have hlen := Z.w13 hw); (have hnlen := Z.w14 hw); (have hofNat := Z.w15 hw); (have htake := Z.w16 hw); (have hdrop := Z.w17 hw); (have happ := Z.w18 hw); (have hzero := Z.w19 hw); (have hnat := Z.w20 hw); (have hz := Z.z hw); (conv => arg 2; cbv); (generalize hP : Try.prog = P); cbv
  refine Call.stepE (by rw [← hP]; exact e_xsub h ha hb) rfl ?_
  cbv
  obtain ⟨o, eo⟩ : ∃ o, wcmp .lss a 0 = o := ⟨_, rfl⟩
  simp only [eo]
  refine Call.stepE (by rw [← hP]; exact e_xnear d o) rfl ?_
  cbv
  exact ⟨_, Vw.same rfl, hR _ rfl⟩
def free1 (ss : List Sg) (f : Nat → Int) (from_ at_ : Int) (s : Int × Bool) (l : List Int) : Int × Bool :=
  if f (lastI l).toNat = -1 then s
  else if s.2 = false ∨ endF ss from_ l + f (lastI l).toNat - at_ < s.1 then (endF ss from_ l + f (lastI l).toNat - at_, true) else s
theorem free1_no {ss : List Sg} {f : Nat → Int} {from_ at_ a : Int} {b : Bool} {l : List Int} (h : f (lastI l).toNat = -1) : free1 ss f from_ at_ (a, b) l = (a, b) := by unfold free1; rw [if_pos h]
theorem free1_yes {ss : List Sg} {f : Nat → Int} {from_ at_ a : Int} {b : Bool} {l : List Int} {d : Int} (h : f (lastI l).toNat ≠ -1) (hd : endF ss from_ l + f (lastI l).toNat - at_ = d) (h2 : b = false ∨ d < a) : free1 ss f from_ at_ (a, b) l = (d, true) := by unfold free1; rw [if_neg h, hd, if_pos h2]
theorem free1_keep {ss : List Sg} {f : Nat → Int} {from_ at_ a : Int} {b : Bool} {l : List Int} {d : Int} (h : f (lastI l).toNat ≠ -1) (hd : endF ss from_ l + f (lastI l).toNat - at_ = d) (h2 : b = true) (h3 : a ≤ d) : free1 ss f from_ at_ (a, b) l = (a, b) := by
  unfold free1; rw [if_neg h, hd, if_neg (by simp [h2]; omega)]
theorem bfl_mem : ∀ (l : List Int), l ≠ [] → lastI l ∈ l
  | [], h => absurd rfl h
  | [a], _ => List.mem_cons_self
  | a :: b :: l, _ => List.mem_cons_of_mem _ (bfl_mem (b :: l) (by simp))
theorem bfl_get : ∀ (P : List Int), P ≠ [] → P[P.length - 1]? = some (lastI P)
  | [], h => absurd rfl h
  | [a], _ => rfl
  | a :: b :: l, _ => by
    have := bfl_get (b :: l) (by simp)
    simpa [lastI] using this
theorem endF_lim {ss : List Sg} (hln : LensOk ss) {from_ : Int} (hf : 0 ≤ from_ ∧ from_ ≤ 1099511627776) {l : List Int} (hl : l.length ≤ 12) : -1099511627776 ≤ endF ss from_ l ∧ endF ss from_ l ≤ 13194139533312 := by
  have h1 := endF_le (from_ := from_) hln hf l
  have h2 := lenI_len l
  omega
set_option maxHeartbeats 4000000 in
theorem e_bfree (ss : List Sg) (gs : List Gr) (es ds : List (List AV)) (hes : es = ss.map sgRow) (hds : ds = gs.map grRow) (hln : LensOk ss) (from_ : Int) (hf : 0 ≤ from_ ∧ from_ ≤ 1099511627776) (m : List (List Int)) (hw1 : ∀ l, l ∈ m → WayOk ss l) (hm : m.length ≤ 1000) (rs : List (List AV)) (hrs : rs = m.map rtC)
    (f : Nat → Int) (os : List (List AV)) (hos : ∀ x, x < ss.length → os[x]? = some [.int .i64 (f x)]) (huo : Up0 os) (hfb : ∀ x, x < ss.length → -1 ≤ f x ∧ f x ≤ 1125899906842624) (at_ : Int) (hat : -35184372088832 ≤ at_ ∧ at_ ≤ 35184372088832) (v : Int × Bool) (ev : v = m.foldl (free1 ss f from_ at_) (0, false)) :
    PCalls Try.prog 39 [.agg [.list 3 es, .list 5 ds], .list 1 os, .agg [.int .i64 from_, .list 13 rs], .int .i64 at_] (· = .tuple [.int .i64 v.1, .bool v.2]) := by
  have hu : Up0 es := by rw [hes]; exact up_sg ss
  have hud : Up0 ds := by rw [hds]; exact up_gr gs
  have hur : Up0 rs := by rw [hrs]; exact up_map (f := rtC) (fun d => rfl) m
  have hrl : rs.length = m.length := by rw [hrs]; simp
  obtain ⟨v1, v2⟩ := v
  (refine PCalls.ofY Try.func39 (by kernel_rfl) (by kernel_rfl) fun w hw R hR => ?_); (obtain ⟨wbin, wcmp, wun, wconv, wnot, wbeq, wmm, wscmp, wsadd, wslen, wsat, weqs, wlen, wnlen, wofNat, wtake, wdrop, wapp, wzero, wnat⟩ := w); (have hbin := Z.w1 hw); (have hcmp := Z.w2 hw); (have hun := Z.w3 hw); (have hconv := Z.w4 hw); (have hnot := Z.w5 hw); (have hbeq := Z.w6 hw); (have hmm := Z.w7 hw); (have hscmp := Z.w8 hw); (have hsadd := Z.w9 hw); (have hslen := Z.w10 hw); (have hsat := Z.w11 hw); (have heqs := Z.w12 hw); (have hlen := Z.w13 hw); (have hnlen := Z.w14 hw); (have hofNat := Z.w15 hw); (have htake := Z.w16 hw); (have hdrop := Z.w17 hw); (have happ := Z.w18 hw); (have hzero := Z.w19 hw); (have hnat := Z.w20 hw); (have hz := Z.z hw); (conv => arg 2; cbv); (generalize hP : Try.prog = P); cbv
  (obtain ⟨L, eL, L0, Ln⟩ : ∃ L : Int, wlen rs = L ∧ 0 ≤ L ∧ L.toNat = rs.length := ⟨(rs.length : Int), by rw [hlen], Int.natCast_nonneg _, Int.toNat_natCast _⟩)
  simp only [eL]
  refine Loop.data hw (S := Int × Int × Bool) (fun s => fr 53 [(1, .list 1 os), (3, .int .i64 at_), (4, .ref 0 2 0 0), (6, .ref 1 2 0 0), (10, .int .i64 s.2.1), (11, .bool s.2.2), (17, .list 13 rs), (18, .int .i64 L), (19, .int .i64 s.1)])
    (fun _ => [.live 2 [[.list 3 es, .list 5 ds]], .live 2 [[.int .i64 from_, .list 13 rs]]])
    (fun s => 0 ≤ s.1 ∧ s.1 ≤ L ∧ (s.2.1, s.2.2) = (m.take s.1.toNat).foldl (free1 ss f from_ at_) (0, false)) (fun s => (L - s.1).toNat) (0, 0, false) (by (refine Wk.eqz (id) (by first | exact fun i _ j _ e => e | (simp only [List.length_cons, List.length_nil]; decide)) ?_; cbv; (repeat' (first | exact trivial | rfl | assumption | apply And.intro | (simp only [hz, Z.a, binStd, cmpStd, unStd, scmpStd, maxI, reduceCtorEq]; first | done | assumption) | exact RowsZ.same (by assumption) (by first | assumption | rfl) | exact FzL.mk rfl rfl rfl (by assumption) (by first | assumption | rfl) (by decide) | (refine RowsZ.one ?_; cbv))))) ⟨Int.le_refl _, L0, rfl⟩ ?_
  rintro ⟨i, a, b⟩ hinv Q' hN hE hR'
  have hinv : 0 ≤ i ∧ i ≤ L ∧ (a, b) = (m.take i.toNat).foldl (free1 ss f from_ at_) (0, false) := hinv
  cbv
  obtain ⟨hi0, hi1, hab⟩ := hinv
  (split <;> rename_i hc <;> (try (simp only [hz, Z.a, binStd, cmpStd, unStd, scmpStd, maxI, reduceCtorEq] at hc)) <;> (try cbv))
  · obtain ⟨i2, ei2⟩ : ∃ z, z = i + 1 := ⟨_, rfl⟩
    have a4 : wbin .add .i64 i 1 = i2 := by rw [hbin, i_add (by omega) (by omega), ei2]
    have hT : (L - i2).toNat < (L - i).toNat := by omega
    obtain ⟨l, hl⟩ : ∃ b, m[i.toNat]? = some b := ⟨_, List.getElem?_eq_getElem (show i.toNat < m.length by omega)⟩
    have hlm := List.mem_of_getElem? hl
    have hway := hw1 l hlm
    have hlr : rs[i.toNat]? = some (rtC l) := by rw [hrs, List.getElem?_map, hl]; rfl
    have hend := e_end ss gs es ds hes hds hln from_ hf rs hur l hway.len.1 hway.seg
    obtain ⟨row, erow⟩ : ∃ row, row = toR l := ⟨_, rfl⟩
    have hlr : rs[i.toNat]? = some row.row := by rw [erow]; exact hlr
    have hend : PCalls Try.prog 15 [.agg [.int .i64 from_, .list 13 rs], .agg [.list 3 es, .list 5 ds], .agg row.row] (· = .int .i64 (endF ss from_ l)) := by rw [erow]; exact hend
    obtain ⟨n, s0, s1, s2, s3, s4, s5, s6, s7, s8, s9, s10, s11⟩ := row
    refine Idx.mk _ hi0 hlr ?_
    cbv
    obtain ⟨q, eq⟩ : ∃ q, q = lastI l := ⟨_, rfl⟩
    have hlen : n = lenI l ∧ 1 ≤ l.length ∧ l.length ≤ 12 := by
      have := congrArg R13.n erow
      exact ⟨this, hway.len.2, hway.len.1⟩
    have hnl : n = l.length := by rw [hlen.1, lenI_len]
    have hs : ∀ j : Nat, j < 12 → n = (j : Int) + 1 → l.getD j 0 = q := fun j hj h => by
      have h1 := bfl_get l (by intro h0; rw [h0] at hlen; simp at hlen)
      rw [show l.length - 1 = j by omega] at h1
      rw [eq, List.getD_eq_getElem?_getD, h1]; rfl
    simp only [toR, R13.mk.injEq] at erow
    obtain ⟨_, g0, g1, g2, g3, g4, g5, g6, g7, g8, g9, g10, g11⟩ := erow
    have l1 : n = 1 → s0 = q := fun h => by rw [g0]; exact hs 0 (by decide) (by omega)
    have l2 : n = 2 → s1 = q := fun h => by rw [g1]; exact hs 1 (by decide) (by omega)
    have l3 : n = 3 → s2 = q := fun h => by rw [g2]; exact hs 2 (by decide) (by omega)
    have l4 : n = 4 → s3 = q := fun h => by rw [g3]; exact hs 3 (by decide) (by omega)
    have l5 : n = 5 → s4 = q := fun h => by rw [g4]; exact hs 4 (by decide) (by omega)
    have l6 : n = 6 → s5 = q := fun h => by rw [g5]; exact hs 5 (by decide) (by omega)
    have l7 : n = 7 → s6 = q := fun h => by rw [g6]; exact hs 6 (by decide) (by omega)
    have l8 : n = 8 → s7 = q := fun h => by rw [g7]; exact hs 7 (by decide) (by omega)
    have l9 : n = 9 → s8 = q := fun h => by rw [g8]; exact hs 8 (by decide) (by omega)
    have l10 : n = 10 → s9 = q := fun h => by rw [g9]; exact hs 9 (by decide) (by omega)
    have l11 : n = 11 → s10 = q := fun h => by rw [g10]; exact hs 10 (by decide) (by omega)
    have l12 : n = 12 → s11 = q := fun h => by rw [g11]; exact hs 11 (by decide) (by omega)
    have c1 : wbin .sub .i64 1 1 = 0 := by rw [hbin]; rfl
    have c2 : wbin .sub .i64 2 1 = 1 := by rw [hbin]; rfl
    have c3 : wbin .sub .i64 3 1 = 2 := by rw [hbin]; rfl
    have c4 : wbin .sub .i64 4 1 = 3 := by rw [hbin]; rfl
    have c5 : wbin .sub .i64 5 1 = 4 := by rw [hbin]; rfl
    have c6 : wbin .sub .i64 6 1 = 5 := by rw [hbin]; rfl
    have c7 : wbin .sub .i64 7 1 = 6 := by rw [hbin]; rfl
    have c8 : wbin .sub .i64 8 1 = 7 := by rw [hbin]; rfl
    have c9 : wbin .sub .i64 9 1 = 8 := by rw [hbin]; rfl
    have c10 : wbin .sub .i64 10 1 = 9 := by rw [hbin]; rfl
    have c11 : wbin .sub .i64 11 1 = 10 := by rw [hbin]; rfl
    have c12 : wbin .sub .i64 12 1 = 11 := by rw [hbin]; rfl
    have hqm : q ∈ l := by rw [eq]; exact bfl_mem l (by intro h0; rw [h0] at hlen; simp at hlen)
    have hqb := hway.seg q hqm
    obtain ⟨fq, efq⟩ : ∃ z, z = f q.toNat := ⟨_, rfl⟩
    have hqo : os[q.toNat]? = some [.int .i64 fq] := by rw [efq]; exact hos q.toNat hqb.2
    have hfq := hfb q.toNat hqb.2
    rw [← efq] at hfq
    obtain ⟨e, ee⟩ : ∃ e, e = endF ss from_ l := ⟨_, rfl⟩
    have heb := endF_lim hln hf (l := l) hway.len.1
    rw [← ee] at hend heb
    have hft : (m.take i2.toNat).foldl (free1 ss f from_ at_) (0, false) = free1 ss f from_ at_ (a, b) l := by
      rw [show m.take i2.toNat = m.take i.toNat ++ [l] by rw [ei2]; exact take_next hi0 hl, List.foldl_append, ← hab]; rfl
    obtain ⟨d1, ed1⟩ : ∃ z, z = e + fq := ⟨_, rfl⟩
    obtain ⟨d, ed⟩ : ∃ z, d1 - at_ = z := ⟨_, rfl⟩
    have a5 : wbin .add .i64 e fq = d1 := by rw [hbin, i_add (by omega) (by omega), ed1]
    have hsub := e_xsubSat ed (by unfold I62; omega) (by unfold I62; omega)
    have hdd : endF ss from_ l + f (lastI l).toNat - at_ = d := by rw [← eq, ← efq, ← ee]; omega
    have hn12 : n = 1 ∨ n = 2 ∨ n = 3 ∨ n = 4 ∨ n = 5 ∨ n = 6 ∨ n = 7 ∨ n = 8 ∨ n = 9 ∨ n = 10 ∨ n = 11 ∨ n = 12 := by omega
    clear hs hlen hnl g0 g1 g2 g3 g4 g5 g6 g7 g8 g9 g10 g11
    rcases hn12 with h | h | h | h | h | h | h | h | h | h | h | h
    all_goals
      subst h
      simp only [c1, c2, c3, c4, c5, c6, c7, c8, c9, c10, c11, c12]
      refine InN.mk (by decide) (by decide) ?_
      cbv
      first | rw [l1 rfl] at hend ⊢ | rw [l2 rfl] at hend ⊢ | rw [l3 rfl] at hend ⊢ | rw [l4 rfl] at hend ⊢ | rw [l5 rfl] at hend ⊢ | rw [l6 rfl] at hend ⊢ | rw [l7 rfl] at hend ⊢ | rw [l8 rfl] at hend ⊢ | rw [l9 rfl] at hend ⊢ | rw [l10 rfl] at hend ⊢ | rw [l11 rfl] at hend ⊢ | rw [l12 rfl] at hend ⊢
      refine Idx.mk _ hqb.1 hqo ?_
      cbv
      (split <;> rename_i hm1 <;> (try (simp only [hz, Z.a, binStd, cmpStd, unStd, scmpStd, maxI, reduceCtorEq] at hm1)) <;> (try cbv))
      · simp only [a4]
        refine hN (i2, a, b) _ _ ?hx ?hi hT
        case hx => (refine Wk.eqz (fun j => [0, 1].getD j 0) (by first | exact fun i _ j _ e => e | (simp only [List.length_cons, List.length_nil]; decide)) ?_; cbv; (repeat' (first | exact trivial | rfl | assumption | apply And.intro | (simp only [hz, Z.a, binStd, cmpStd, unStd, scmpStd, maxI, reduceCtorEq]; first | done | assumption) | exact RowsZ.same (by assumption) (by first | assumption | rfl) | exact FzL.mk rfl rfl rfl (by assumption) (by first | assumption | rfl) (by decide) | (refine RowsZ.one ?_; cbv))))
        case hi => exact ⟨by omega, by omega, by rw [hft, free1_no (by rw [← eq, ← efq]; exact hm1)]⟩
      · refine Call.stepE (by rw [← hP]; exact hend) (by simp only [uptoL, AV.upto, hu.get, hud.get, hur.get]; rfl) ?_
        cbv
        simp only [a5]
        refine Call.stepE (by rw [← hP]; exact hsub) rfl ?_
        cbv
        have hm2 : f (lastI l).toNat ≠ -1 := by rw [← eq, ← efq]; exact hm1
        repeat' (split <;> rename_i h <;> (try (simp only [hz, Z.a, binStd, cmpStd, unStd, scmpStd, maxI, reduceCtorEq] at h)) <;> (try cbv))
        · simp only [a4]
          refine hN (i2, d, true) _ _ ?hx ?hi hT
          case hx => (refine Wk.eqz (fun j => [0, 1].getD j 0) (by first | exact fun i _ j _ e => e | (simp only [List.length_cons, List.length_nil]; decide)) ?_; cbv; (repeat' (first | exact trivial | rfl | assumption | apply And.intro | (simp only [hz, Z.a, binStd, cmpStd, unStd, scmpStd, maxI, reduceCtorEq]; first | done | assumption) | exact RowsZ.same (by assumption) (by first | assumption | rfl) | exact FzL.mk rfl rfl rfl (by assumption) (by first | assumption | rfl) (by decide) | (refine RowsZ.one ?_; cbv))))
          case hi =>
            refine ⟨by omega, by omega, ?_⟩
            rw [hft, free1_yes hm2 hdd (by first | (left; assumption) | (right; omega))]
        · simp only [a4]
          refine hN (i2, d, true) _ _ ?hx ?hi hT
          case hx => (refine Wk.eqz (fun j => [0, 1].getD j 0) (by first | exact fun i _ j _ e => e | (simp only [List.length_cons, List.length_nil]; decide)) ?_; cbv; (repeat' (first | exact trivial | rfl | assumption | apply And.intro | (simp only [hz, Z.a, binStd, cmpStd, unStd, scmpStd, maxI, reduceCtorEq]; first | done | assumption) | exact RowsZ.same (by assumption) (by first | assumption | rfl) | exact FzL.mk rfl rfl rfl (by assumption) (by first | assumption | rfl) (by decide) | (refine RowsZ.one ?_; cbv))))
          case hi =>
            refine ⟨by omega, by omega, ?_⟩
            rw [hft, free1_yes hm2 hdd (by first | (left; assumption) | (right; omega))]
        · simp only [a4]
          refine hN (i2, a, b) _ _ ?hx ?hi hT
          case hx => (refine Wk.eqz (fun j => [0, 1].getD j 0) (by first | exact fun i _ j _ e => e | (simp only [List.length_cons, List.length_nil]; decide)) ?_; cbv; (repeat' (first | exact trivial | rfl | assumption | apply And.intro | (simp only [hz, Z.a, binStd, cmpStd, unStd, scmpStd, maxI, reduceCtorEq]; first | done | assumption) | exact RowsZ.same (by assumption) (by first | assumption | rfl) | exact FzL.mk rfl rfl rfl (by assumption) (by first | assumption | rfl) (by decide) | (refine RowsZ.one ?_; cbv))))
          case hi =>
            refine ⟨by omega, by omega, ?_⟩
            rw [hft, free1_keep hm2 hdd (by assumption) (by omega)]
  · refine hE _ _ _ ?_
    cbv
    rw [List.take_of_length_le (by omega), ← ev] at hab
    simp only [Prod.mk.injEq] at hab
    exact ⟨_, Vw.same rfl, hR _ (by rw [hab.1, hab.2]; rfl)⟩
end Go.Proofs.Ytpiocfmdjgbamaa

/- The document's least way to a dead end, by the engine. -/
namespace Go.Proofs.Ytpiocfmdjgbamaa
open Go Go.RowKit Go.Eng
set_option maxRecDepth 100000
set_option maxHeartbeats 4000000 in
theorem e_rfree (ss : List Sg) (gs : List Gr) (es ds : List (List AV)) (hes : es = ss.map sgRow) (hds : ds = gs.map grRow) (hln : LensOk ss) (from_ : Int) (hf : 0 ≤ from_ ∧ from_ ≤ 1099511627776) (m : List (List Int)) (hw1 : ∀ l, l ∈ m → WayOk ss l) (hm : m.length ≤ 1000) (qs : List (List AV)) (hqs : qs = m.map rtRow)
    (f : Nat → Int) (os : List (List AV)) (hos : ∀ x, x < ss.length → os[x]? = some [.int .i64 (f x)]) (huo : Up0 os) (hfb : ∀ x, x < ss.length → -1 ≤ f x ∧ f x ≤ 1125899906842624) (at_ : Int) (hat : -35184372088832 ≤ at_ ∧ at_ ≤ 35184372088832) (v : Int × Bool) (ev : v = m.foldl (free1 ss f from_ at_) (0, false)) :
    PCalls Try.prog 41 [.agg [.list 3 es, .list 5 ds], .list 1 os, .agg [.int .i64 from_, .list 1 qs], .int .i64 at_] (· = .tuple [.int .i64 v.1, .bool v.2]) := by
  have hu : Up0 es := by rw [hes]; exact up_sg ss
  have hud : Up0 ds := by rw [hds]; exact up_gr gs
  have huq : Up0 qs := by rw [hqs]; exact up_rt m
  have hql : qs.length = m.length := by rw [hqs]; simp
  obtain ⟨v1, v2⟩ := v
  (refine PCalls.ofY Try.func41 (by kernel_rfl) (by kernel_rfl) fun w hw R hR => ?_); (obtain ⟨wbin, wcmp, wun, wconv, wnot, wbeq, wmm, wscmp, wsadd, wslen, wsat, weqs, wlen, wnlen, wofNat, wtake, wdrop, wapp, wzero, wnat⟩ := w); (have hbin := Z.w1 hw); (have hcmp := Z.w2 hw); (have hun := Z.w3 hw); (have hconv := Z.w4 hw); (have hnot := Z.w5 hw); (have hbeq := Z.w6 hw); (have hmm := Z.w7 hw); (have hscmp := Z.w8 hw); (have hsadd := Z.w9 hw); (have hslen := Z.w10 hw); (have hsat := Z.w11 hw); (have heqs := Z.w12 hw); (have hlen := Z.w13 hw); (have hnlen := Z.w14 hw); (have hofNat := Z.w15 hw); (have htake := Z.w16 hw); (have hdrop := Z.w17 hw); (have happ := Z.w18 hw); (have hzero := Z.w19 hw); (have hnat := Z.w20 hw); (have hz := Z.z hw); (conv => arg 2; cbv); (generalize hP : Try.prog = P); cbv
  (obtain ⟨L, eL, L0, Ln⟩ : ∃ L : Int, wlen qs = L ∧ 0 ≤ L ∧ L.toNat = qs.length := ⟨(qs.length : Int), by rw [hlen], Int.natCast_nonneg _, Int.toNat_natCast _⟩)
  refine Loop.data hw (S := Int × Int × Bool) (fun s => fr 58 [(1, .list 1 os), (3, .int .i64 at_), (4, .ref 0 2 0 0), (6, .ref 1 2 0 0), (10, .int .i64 s.2.1), (11, .bool s.2.2), (12, .int .i64 s.1)])
    (fun _ => [.live 2 [[.list 3 es, .list 5 ds]], .live 2 [[.int .i64 from_, .list 1 qs]]])
    (fun s => 0 ≤ s.1 ∧ s.1 ≤ L ∧ (s.2.1, s.2.2) = (m.take s.1.toNat).foldl (free1 ss f from_ at_) (0, false)) (fun s => (L - s.1).toNat) (0, 0, false) (by (refine Wk.eqz (id) (by first | exact fun i _ j _ e => e | (simp only [List.length_cons, List.length_nil]; decide)) ?_; cbv; (repeat' (first | exact trivial | rfl | assumption | apply And.intro | (simp only [hz, Z.a, binStd, cmpStd, unStd, scmpStd, maxI, reduceCtorEq]; first | done | assumption) | exact RowsZ.same (by assumption) (by first | assumption | rfl) | exact FzL.mk rfl rfl rfl (by assumption) (by first | assumption | rfl) (by decide) | (refine RowsZ.one ?_; cbv))))) ⟨Int.le_refl _, L0, rfl⟩ ?_
  rintro ⟨i, a, b⟩ hinv Q' hN hE hR'
  have hinv : 0 ≤ i ∧ i ≤ L ∧ (a, b) = (m.take i.toNat).foldl (free1 ss f from_ at_) (0, false) := hinv
  cbv
  obtain ⟨hi0, hi1, hab⟩ := hinv
  (split <;> rename_i hc <;> (try (simp only [eL] at hc)) <;> (try (simp only [hz, Z.a, binStd, cmpStd, unStd, scmpStd, maxI, reduceCtorEq] at hc)) <;> (try cbv))
  · obtain ⟨i2, ei2⟩ : ∃ z, z = i + 1 := ⟨_, rfl⟩
    have a4 : wbin .add .i64 i 1 = i2 := by rw [hbin, i_add (by omega) (by omega), ei2]
    have hT : (L - i2).toNat < (L - i).toNat := by omega
    obtain ⟨l, hl⟩ : ∃ b, m[i.toNat]? = some b := ⟨_, List.getElem?_eq_getElem (show i.toNat < m.length by omega)⟩
    have hlm := List.mem_of_getElem? hl
    have hway := hw1 l hlm
    obtain ⟨xs, exs⟩ : ∃ x, x = l.map nxRow := ⟨_, rfl⟩
    have huxs : Up0 xs := by rw [exs]; exact up_nx l
    have hxl : xs.length = l.length := by rw [exs]; simp
    have hlr : qs[i.toNat]? = some [.list 1 xs] := by rw [hqs, List.getElem?_map, hl, exs]; rfl
    obtain ⟨e, ee⟩ : ∃ e, e = endF ss from_ l := ⟨_, rfl⟩
    have hend := e_rend ss gs es ds hes hds hln from_ hf l hway.len.1 hway.seg xs exs e ee
    have hl1 := hway.len.2
    have hl2 := hway.len.1
    (obtain ⟨K, eK, K0, Kn⟩ : ∃ L : Int, wlen xs = L ∧ 0 ≤ L ∧ L.toNat = xs.length := ⟨(xs.length : Int), by rw [hlen], Int.natCast_nonneg _, Int.toNat_natCast _⟩)
    obtain ⟨k, ek⟩ : ∃ z, z = K - 1 := ⟨_, rfl⟩
    have a3 : wbin .sub .i64 K 1 = k := by rw [hbin, i_sub (by omega) (by omega), ek]
    obtain ⟨q, eq⟩ : ∃ q, q = lastI l := ⟨_, rfl⟩
    have hqm : q ∈ l := by rw [eq]; exact bfl_mem l (by intro h0; rw [h0] at hl1; simp at hl1)
    have hqb := hway.seg q hqm
    have hxk : xs[k.toNat]? = some [.int .i64 q] := by
      have h1 := bfl_get l (by intro h0; rw [h0] at hl1; simp at hl1)
      rw [exs, List.getElem?_map, show k.toNat = l.length - 1 by omega, h1, eq]; rfl
    obtain ⟨fq, efq⟩ : ∃ z, z = f q.toNat := ⟨_, rfl⟩
    have hqo : os[q.toNat]? = some [.int .i64 fq] := by rw [efq]; exact hos q.toNat hqb.2
    have hfq := hfb q.toNat hqb.2
    rw [← efq] at hfq
    have heb := endF_lim hln hf (l := l) hway.len.1
    rw [← ee] at heb
    have hft : (m.take i2.toNat).foldl (free1 ss f from_ at_) (0, false) = free1 ss f from_ at_ (a, b) l := by
      rw [show m.take i2.toNat = m.take i.toNat ++ [l] by rw [ei2]; exact take_next hi0 hl, List.foldl_append, ← hab]; rfl
    obtain ⟨d1, ed1⟩ : ∃ z, z = e + fq := ⟨_, rfl⟩
    obtain ⟨d, ed⟩ : ∃ z, d1 - at_ = z := ⟨_, rfl⟩
    have a5 : wbin .add .i64 e fq = d1 := by rw [hbin, i_add (by omega) (by omega), ed1]
    have a6 : wbin .sub .i64 d1 at_ = d := by rw [hbin, i_sub (by omega) (by omega), ed]
    have hdd : endF ss from_ l + f (lastI l).toNat - at_ = d := by rw [← eq, ← efq, ← ee]; omega
    refine Idx.mk _ hi0 hlr ?_
    cbv
    simp only [eK, a3]
    refine Idx.mk _ (show 0 ≤ k by omega) hxk ?_
    cbv
    refine Idx.mk _ hqb.1 hqo ?_
    cbv
    (split <;> rename_i hm1 <;> (try (simp only [hz, Z.a, binStd, cmpStd, unStd, scmpStd, maxI, reduceCtorEq] at hm1)) <;> (try cbv))
    · simp only [a4]
      refine hN (i2, a, b) _ _ ?hx ?hi hT
      case hx => (refine Wk.eqz (id) (by first | exact fun i _ j _ e => e | (simp only [List.length_cons, List.length_nil]; decide)) ?_; cbv; (repeat' (first | exact trivial | rfl | assumption | apply And.intro | (simp only [hz, Z.a, binStd, cmpStd, unStd, scmpStd, maxI, reduceCtorEq]; first | done | assumption) | exact RowsZ.same (by assumption) (by first | assumption | rfl) | exact FzL.mk rfl rfl rfl (by assumption) (by first | assumption | rfl) (by decide) | (refine RowsZ.one ?_; cbv))))
      case hi => exact ⟨by omega, by omega, by rw [hft, free1_no (by rw [← eq, ← efq]; omega)]⟩
    · refine Call.stepE (by rw [← hP]; exact hend) (by simp only [uptoL, AV.upto, hu.get, hud.get, huxs.get]; rfl) ?_
      cbv
      simp only [a5, a6]
      have hm2 : f (lastI l).toNat ≠ -1 := by rw [← eq, ← efq]; omega
      repeat' (split <;> rename_i h <;> (try (simp only [hz, Z.a, binStd, cmpStd, unStd, scmpStd, maxI, reduceCtorEq] at h)) <;> (try cbv))
      · simp only [a4]
        refine hN (i2, d, true) _ _ ?hx ?hi hT
        case hx => (refine Wk.eqz (id) (by first | exact fun i _ j _ e => e | (simp only [List.length_cons, List.length_nil]; decide)) ?_; cbv; (repeat' (first | exact trivial | rfl | assumption | apply And.intro | (simp only [hz, Z.a, binStd, cmpStd, unStd, scmpStd, maxI, reduceCtorEq]; first | done | assumption) | exact RowsZ.same (by assumption) (by first | assumption | rfl) | exact FzL.mk rfl rfl rfl (by assumption) (by first | assumption | rfl) (by decide) | (refine RowsZ.one ?_; cbv))))
        case hi =>
          refine ⟨by omega, by omega, ?_⟩
          rw [hft, free1_yes hm2 hdd (by first | (left; assumption) | (right; omega))]
      · simp only [a4]
        refine hN (i2, d, true) _ _ ?hx ?hi hT
        case hx => (refine Wk.eqz (id) (by first | exact fun i _ j _ e => e | (simp only [List.length_cons, List.length_nil]; decide)) ?_; cbv; (repeat' (first | exact trivial | rfl | assumption | apply And.intro | (simp only [hz, Z.a, binStd, cmpStd, unStd, scmpStd, maxI, reduceCtorEq]; first | done | assumption) | exact RowsZ.same (by assumption) (by first | assumption | rfl) | exact FzL.mk rfl rfl rfl (by assumption) (by first | assumption | rfl) (by decide) | (refine RowsZ.one ?_; cbv))))
        case hi =>
          refine ⟨by omega, by omega, ?_⟩
          rw [hft, free1_yes hm2 hdd (by first | (left; assumption) | (right; omega))]
      · simp only [a4]
        refine hN (i2, a, b) _ _ ?hx ?hi hT
        case hx => (refine Wk.eqz (id) (by first | exact fun i _ j _ e => e | (simp only [List.length_cons, List.length_nil]; decide)) ?_; cbv; (repeat' (first | exact trivial | rfl | assumption | apply And.intro | (simp only [hz, Z.a, binStd, cmpStd, unStd, scmpStd, maxI, reduceCtorEq]; first | done | assumption) | exact RowsZ.same (by assumption) (by first | assumption | rfl) | exact FzL.mk rfl rfl rfl (by assumption) (by first | assumption | rfl) (by decide) | (refine RowsZ.one ?_; cbv))))
        case hi =>
          refine ⟨by omega, by omega, ?_⟩
          rw [hft, free1_keep hm2 hdd (by assumption) (by omega)]
  · refine hE _ _ _ ?_
    cbv
    rw [List.take_of_length_le (by omega), ← ev] at hab
    simp only [Prod.mk.injEq] at hab
    exact ⟨_, Vw.same rfl, hR _ (by rw [hab.1, hab.2]; rfl)⟩
end Go.Proofs.Ytpiocfmdjgbamaa

/- A track as the document has it, by the engine. Printed by wip/tools/genrefs.py. -/
namespace Go.Proofs.Ytpiocfmdjgbamaa
open Go Go.RowKit Go.Eng
set_option maxRecDepth 100000
set_option maxHeartbeats 4000000 in
theorem e_refsT (ss : List Sg) (gs : List Gr) (es ds : List (List AV)) (hes : es = ss.map sgRow) (hds : ds = gs.map grRow) (hm1 : ss.length ≤ 1000) (hm2 : gs.length ≤ 1000) (hm3 : ∀ s, s ∈ ss → s.ps.length ≤ 1000) : PCalls Try.prog 38 [.agg [.list 3 es, .list 5 ds]] (· = .agg [.list 3 es, .list 5 ds]) := by
  have hu : Up0 es := by rw [hes]; exact up_sg ss
  have hud : Up0 ds := by rw [hds]; exact up_gr gs
  have hel : es.length = ss.length := by rw [hes]; simp
  have hdl : ds.length = gs.length := by rw [hds]; simp
  (refine PCalls.ofY Try.func38 (by kernel_rfl) (by kernel_rfl) fun w hw R hR => ?_); (obtain ⟨wbin, wcmp, wun, wconv, wnot, wbeq, wmm, wscmp, wsadd, wslen, wsat, weqs, wlen, wnlen, wofNat, wtake, wdrop, wapp, wzero, wnat⟩ := w); (have hbin := Z.w1 hw); (have hcmp := Z.w2 hw); (have hun := Z.w3 hw); (have hconv := Z.w4 hw); (have hnot := Z.w5 hw); (have hbeq := Z.w6 hw); (have hmm := Z.w7 hw); (have hscmp := Z.w8 hw); (have hsadd := Z.w9 hw); (have hslen := Z.w10 hw); (have hsat := Z.w11 hw); (have heqs := Z.w12 hw); (have hlen := Z.w13 hw); (have hnlen := Z.w14 hw); (have hofNat := Z.w15 hw); (have htake := Z.w16 hw); (have hdrop := Z.w17 hw); (have happ := Z.w18 hw); (have hzero := Z.w19 hw); (have hnat := Z.w20 hw); (have hz := Z.z hw); (conv => arg 2; cbv); (generalize hP : Try.prog = P); cbv
  (obtain ⟨L, eL, L0, Ln⟩ : ∃ L : Int, wlen es = L ∧ 0 ≤ L ∧ L.toNat = es.length := ⟨(es.length : Int), by rw [hlen], Int.natCast_nonneg _, Int.toNat_natCast _⟩)
  refine Loop.data hw (S := Bd) (fun s => match s with | .start => fr 63 [(1, .ref 0 2 0 0), (2, .ref 1 2 0 0), (3, .ref 2 2 0 0), (12, .list 3 es), (13, .int .i64 L), (14, .int .i64 0)] | .more i n fs => fr 63 [(1, .ref 0 2 0 0), (2, .ref 1 2 0 0), (3, .ref 2 2 0 0), (12, .list 3 es), (13, .int .i64 L), (14, .int .i64 i)])
    (fun s => match s with | .start => [.live 2 [[.list 3 es, .list 5 ds]], .live 2 [[.nils, .nils]], .live 2 [[.nils, .nils]]] | .more i n fs => [.live 2 [[.list 3 es, .list 5 ds]], .live 2 [[.nils, .nils]], .live 2 [[.sl 3 3 0 n, .nils]], .live 3 fs]) (Bd.Ok es) (Bd.left es) .start (by (refine Wk.eqz (id) (by first | exact fun i _ j _ e => e | (simp only [List.length_cons, List.length_nil]; decide)) ?_; cbv; (repeat' (first | exact trivial | rfl | assumption | apply And.intro | (simp only [hz, Z.a, binStd, cmpStd, unStd, scmpStd, maxI, reduceCtorEq]; first | done | assumption) | exact RowsZ.same (by assumption) (by first | assumption | rfl) | exact FzL.mk rfl rfl rfl (by assumption) (by first | assumption | rfl) (by decide) | (refine RowsZ.one ?_; cbv))))) trivial ?_
  rintro (_ | ⟨i, n, fs⟩) hinv Q' hN hE hR'
  · cbv
    (split <;> rename_i hc <;> (try (simp only [hz, Z.a, binStd, cmpStd, unStd, scmpStd, maxI, reduceCtorEq] at hc)) <;> (try cbv))
    · obtain ⟨⟨len, ps, nx⟩, hd, hrow⟩ := get_map (f := sgRow) (ds := ss) (i := 0) (Int.le_refl 0) (by omega)
      obtain ⟨q1, eq1⟩ : ∃ x, ps.map pcRow = x := ⟨_, rfl⟩
      obtain ⟨n1, en1⟩ : ∃ x, nx.map nxRow = x := ⟨_, rfl⟩
      have hrow : es[(0 : Int).toNat]? = some [.int .i64 len, .list 2 q1, .list 1 n1] := by rw [hes, ← eq1, ← en1]; exact hrow
      have hql : q1.length = ps.length := by rw [← eq1]; simp
      have hpl : ps.length ≤ 1000 := hm3 ⟨len, ps, nx⟩ (List.mem_of_getElem? hd)
      have huq : Up0 q1 := by rw [← eq1]; exact up_pc ps
      have hun : Up0 n1 := by rw [← en1]; exact up_nx nx
      refine Idx.mk [.int .i64 len, .list 2 q1, .list 1 n1] (by decide) hrow ?_
      cbv
      have ei : wbin .add .i64 0 1 = 1 := by rw [hbin]; rfl
      have hT1 : Bd.left es (.more 1 1 [[.int .i64 len, .list 2 q1, .list 1 n1]]) < Bd.left es .start := by simp only [Bd.left]; omega
      have hI1 : Bd.Ok es (.more 1 1 [[.int .i64 len, .list 2 q1, .list 1 n1]]) := ⟨by decide, by omega, (take_row (Int.le_refl 0) hrow).symm, rfl, up_seg huq hun⟩
      (obtain ⟨K, eK, K0, Kn⟩ : ∃ L : Int, wlen q1 = L ∧ 0 ≤ L ∧ L.toNat = q1.length := ⟨(q1.length : Int), by rw [hlen], Int.natCast_nonneg _, Int.toNat_natCast _⟩)
      refine Loop.data hw (S := Bd) (fun s => match s with | .start => fr 63 [(1, .ref 0 2 0 0), (2, .ref 1 2 0 0), (3, .ref 2 2 0 0), (12, .list 3 es), (13, .int .i64 L), (14, .int .i64 0), (5, .ref 3 3 0 0), (6, .ref 4 3 0 0), (24, .list 2 q1), (25, .int .i64 K), (26, .int .i64 0)] | .more k m fp => fr 63 [(1, .ref 0 2 0 0), (2, .ref 1 2 0 0), (3, .ref 2 2 0 0), (12, .list 3 es), (13, .int .i64 L), (14, .int .i64 0), (5, .ref 3 3 0 0), (6, .ref 4 3 0 0), (24, .list 2 q1), (25, .int .i64 K), (26, .int .i64 k)])
        (fun s => match s with | .start => [.live 2 [[.list 3 es, .list 5 ds]], .live 2 [[.nils, .nils]], .live 2 [[.nils, .nils]], .live 3 [[.int .i64 len, .list 2 q1, .list 1 n1]], .live 3 [[.int .i64 len, .nils, .list 1 n1]]] | .more k m fp => [.live 2 [[.list 3 es, .list 5 ds]], .live 2 [[.nils, .nils]], .live 2 [[.nils, .nils]], .live 3 [[.int .i64 len, .list 2 q1, .list 1 n1]], .live 3 [[.int .i64 len, .sl 5 2 0 m, .list 1 n1]], .live 2 fp]) (Bd.Ok q1) (Bd.left q1) .start (by (refine Wk.eqz (id) (by first | exact fun i _ j _ e => e | (simp only [List.length_cons, List.length_nil]; decide)) ?_; cbv; (repeat' (first | exact trivial | rfl | assumption | apply And.intro | (simp only [hz, Z.a, binStd, cmpStd, unStd, scmpStd, maxI, reduceCtorEq]; first | done | assumption) | exact RowsZ.same (by assumption) (by first | assumption | rfl) | exact FzL.mk rfl rfl rfl (by assumption) (by first | assumption | rfl) (by decide) | (refine RowsZ.one ?_; cbv))))) trivial ?_
      rintro (_ | ⟨k, m, fp⟩) hinv2 Q2 hN2 hE2 hR2
      · cbv
        (split <;> rename_i hc2 <;> (try (simp only [hz, Z.a, binStd, cmpStd, unStd, scmpStd, maxI, reduceCtorEq] at hc2)) <;> (try cbv))
        · obtain ⟨⟨a, b⟩, hd2, hrow2⟩ := get_map (f := pcRow) (ds := ps) (i := 0) (Int.le_refl 0) (by omega)
          have hrow2 : q1[(0 : Int).toNat]? = some [.int .i64 a, .int .i64 b] := by rw [← eq1]; exact hrow2
          refine Idx.mk [.int .i64 a, .int .i64 b] (by decide) hrow2 ?_
          cbv
          refine Ob.mk (by decide) ?_
          cbv
          have hU2 : Up0 [[AV.int .i64 a, .int .i64 b]] := ⟨rfl⟩
          have ei2 : wbin .add .i64 0 1 = 1 := by rw [hbin]; rfl
          refine hN2 (Bd.more 1 1 [[.int .i64 a, .int .i64 b]]) _ _ ?hx ?hi ?ht
          case hx => (refine Wk.eqz (fun j => [0, 1, 2, 3, 4, 6].getD j 0) (by first | exact fun i _ j _ e => e | (simp only [List.length_cons, List.length_nil]; decide)) ?_; cbv; (repeat' (first | exact trivial | rfl | assumption | apply And.intro | (simp only [hz, Z.a, binStd, cmpStd, unStd, scmpStd, maxI, reduceCtorEq]; first | done | assumption) | exact RowsZ.same (by assumption) (by first | assumption | rfl) | exact FzL.mk rfl rfl rfl (by assumption) (by first | assumption | rfl) (by decide) | (refine RowsZ.one ?_; cbv))))
          case hi => exact ⟨by decide, by omega, (take_row (Int.le_refl 0) hrow2).symm, rfl, hU2⟩
          case ht => simp only [Bd.left]; omega
        · refine hE2 _ _ _ ?_
          cbv
          have hq0 : q1 = [] := List.length_eq_zero_iff.1 (by omega)
          refine Ob.mk (by decide) ?_
          cbv
          refine hN (Bd.more 1 1 [[.int .i64 len, .list 2 q1, .list 1 n1]]) _ _ ?hx ?hi ?ht
          case hx => (refine Wk.eqz (fun j => [0, 1, 2, 5].getD j 0) (by first | exact fun i _ j _ e => e | (simp only [List.length_cons, List.length_nil]; decide)) ?_; cbv; (repeat' (first | exact trivial | rfl | assumption | exact Eq.symm (by assumption) | apply And.intro | (simp only [hz, Z.a, binStd, cmpStd, unStd, scmpStd, maxI, reduceCtorEq]; first | done | assumption) | exact RowsZ.same (by assumption) (by first | assumption | rfl) | exact FzL.mk rfl rfl rfl (by assumption) (by first | assumption | rfl) (by decide) | (refine RowsZ.one ?_; cbv))))
          case hi => exact hI1
          case ht => exact hT1
      · cbv
        obtain ⟨hk0, hk1, hfp, hmf, hup⟩ : 0 < k ∧ k.toNat ≤ q1.length ∧ fp = q1.take k.toNat ∧ m = fp.length ∧ Up0 fp := hinv2
        (split <;> rename_i hc2 <;> (try (simp only [hz, Z.a, binStd, cmpStd, unStd, scmpStd, maxI, reduceCtorEq] at hc2)) <;> (try cbv))
        · obtain ⟨⟨a, b⟩, hd2, hrow2⟩ := get_map (f := pcRow) (ds := ps) (i := k) (by omega) (by omega)
          have hrow2 : q1[k.toNat]? = some [.int .i64 a, .int .i64 b] := by rw [← eq1]; exact hrow2
          refine Idx.mk [.int .i64 a, .int .i64 b] (by omega) hrow2 ?_
          cbv
          obtain ⟨k', ek'⟩ : ∃ x, k + 1 = x := ⟨_, rfl⟩
          have ek : wbin .add .i64 k 1 = k' := by rw [hbin, i_add (by omega) (by omega)]; exact ek'
          obtain ⟨fp', efp⟩ : ∃ x, fp ++ [[AV.int .i64 a, .int .i64 b]] = x := ⟨_, rfl⟩
          have hfl2 : fp'.length = m + 1 := by rw [← efp, hmf]; simp
          have hft2 : fp' = q1.take k'.toNat := by rw [← efp, ← ek', take_row (by omega) hrow2, hfp]
          have hup' : Up0 fp' := by rw [hft2]; exact up_take huq _
          obtain ⟨m', em'⟩ : ∃ x, m + 1 = x := ⟨_, rfl⟩
          have hml : m = k.toNat := by rw [hmf, hfp, List.length_take]; omega
          refine App.mk fp' m' efp.symm hmf em'.symm (by omega) (by omega) ?_
          cbv
          refine hN2 (Bd.more k' m' fp') _ _ ?hx ?hi ?ht
          case hx => (refine Wk.eqz (fun j => [0, 1, 2, 3, 4, 7].getD j 0) (by first | exact fun i _ j _ e => e | (simp only [List.length_cons, List.length_nil]; decide)) ?_; cbv; (repeat' (first | exact trivial | rfl | assumption | apply And.intro | (simp only [hz, Z.a, binStd, cmpStd, unStd, scmpStd, maxI, reduceCtorEq]; first | done | assumption) | exact RowsZ.same (by assumption) (by first | assumption | rfl) | exact FzL.mk rfl rfl rfl (by assumption) (by first | assumption | rfl) (by decide) | (refine RowsZ.one ?_; cbv))))
          case hi => exact ⟨by omega, by omega, hft2, by omega, hup'⟩
          case ht => simp only [Bd.left]; omega
        · refine hE2 _ _ _ ?_
          cbv
          have hq : fp = q1 := by rw [hfp, List.take_of_length_le (by omega)]
          have hmq : m = q1.length := by rw [hmf, hq]
          clear hfp
          subst fp
          refine Ob.mk (by decide) ?_
          cbv
          refine hN (Bd.more 1 1 [[.int .i64 len, .list 2 q1, .list 1 n1]]) _ _ ?hx ?hi ?ht
          case hx => (refine Wk.eqz (fun j => [0, 1, 2, 6].getD j 0) (by first | exact fun i _ j _ e => e | (simp only [List.length_cons, List.length_nil]; decide)) ?_; cbv; (repeat' (first | exact trivial | rfl | assumption | exact Eq.symm (by assumption) | apply And.intro | (simp only [hz, Z.a, binStd, cmpStd, unStd, scmpStd, maxI, reduceCtorEq]; first | done | assumption) | exact RowsZ.same (by assumption) (by first | assumption | rfl) | exact FzL.mk rfl rfl rfl (by assumption) (by first | assumption | rfl) (by decide) | (refine RowsZ.one ?_; cbv))))
          case hi => exact hI1
          case ht => exact hT1
    · refine hE _ _ _ ?_
      cbv
      have he0 : es = [] := List.length_eq_zero_iff.1 (by omega)
      (obtain ⟨J, eJ, J0, Jn⟩ : ∃ L : Int, wlen ds = L ∧ 0 ≤ L ∧ L.toNat = ds.length := ⟨(ds.length : Int), by rw [hlen], Int.natCast_nonneg _, Int.toNat_natCast _⟩)
      refine Loop.data hw (S := Bd) (fun s => match s with | .start => fr 63 [(2, .ref 1 2 0 0), (3, .ref 2 2 0 0), (49, .list 5 ds), (50, .int .i64 J), (51, .int .i64 0)] | .more k m fp => fr 63 [(2, .ref 1 2 0 0), (3, .ref 2 2 0 0), (49, .list 5 ds), (50, .int .i64 J), (51, .int .i64 k)])
        (fun s => match s with | .start => [.live 2 [[.list 3 es, .list 5 ds]], .live 2 [[.nils, .nils]], .live 2 [[.list 3 es, .nils]]] | .more k m fp => [.live 2 [[.list 3 es, .list 5 ds]], .live 2 [[.nils, .nils]], .live 2 [[.list 3 es, .sl 3 5 0 m]], .live 5 fp]) (Bd.Ok ds) (Bd.left ds) .start (by (refine Wk.eqz (id) (by first | exact fun i _ j _ e => e | (simp only [List.length_cons, List.length_nil]; decide)) ?_; cbv; (repeat' (first | exact trivial | rfl | assumption | apply And.intro | (simp only [hz, Z.a, binStd, cmpStd, unStd, scmpStd, maxI, reduceCtorEq]; first | done | assumption) | exact RowsZ.same (by assumption) (by first | assumption | rfl) | exact FzL.mk rfl rfl rfl (by assumption) (by first | assumption | rfl) (by decide) | (refine RowsZ.one ?_; cbv))))) trivial ?_
      rintro (_ | ⟨k, m, fp⟩) hinv2 Q2 hN2 hE2 hR2
      · cbv
        (split <;> rename_i hc2 <;> (try (simp only [hz, Z.a, binStd, cmpStd, unStd, scmpStd, maxI, reduceCtorEq] at hc2)) <;> (try cbv))
        · obtain ⟨⟨a1, a2, a3, a4, a5⟩, hd2, hrow2⟩ := get_map (f := grRow) (ds := gs) (i := 0) (Int.le_refl 0) (by omega)
          have hrow2 : ds[(0 : Int).toNat]? = some [.int .i64 a1, .int .i64 a2, .int .i64 a3, .int .i64 a4, .int .i64 a5] := by rw [hds]; exact hrow2
          refine Idx.mk [.int .i64 a1, .int .i64 a2, .int .i64 a3, .int .i64 a4, .int .i64 a5] (by decide) hrow2 ?_
          cbv
          refine Ob.mk (by decide) ?_
          cbv
          have hU2 : Up0 [[AV.int .i64 a1, .int .i64 a2, .int .i64 a3, .int .i64 a4, .int .i64 a5]] := ⟨rfl⟩
          have ei2 : wbin .add .i64 0 1 = 1 := by rw [hbin]; rfl
          refine hN2 (Bd.more 1 1 [[.int .i64 a1, .int .i64 a2, .int .i64 a3, .int .i64 a4, .int .i64 a5]]) _ _ ?hx ?hi ?ht
          case hx => (refine Wk.eqz (fun j => [0, 1, 2, 4].getD j 0) (by first | exact fun i _ j _ e => e | (simp only [List.length_cons, List.length_nil]; decide)) ?_; cbv; (repeat' (first | exact trivial | rfl | assumption | apply And.intro | (simp only [hz, Z.a, binStd, cmpStd, unStd, scmpStd, maxI, reduceCtorEq]; first | done | assumption) | exact RowsZ.same (by assumption) (by first | assumption | rfl) | exact FzL.mk rfl rfl rfl (by assumption) (by first | assumption | rfl) (by decide) | (refine RowsZ.one ?_; cbv))))
          case hi => exact ⟨by decide, by omega, (take_row (Int.le_refl 0) hrow2).symm, rfl, hU2⟩
          case ht => simp only [Bd.left]; omega
        · refine hE2 _ _ _ ?_
          cbv
          have hd0 : ds = [] := List.length_eq_zero_iff.1 (by omega)
          exact ⟨_, Vw.agg (rs := [.list 3 es, .list 5 []]) ⟨Vw.same hu.list, Vw.nil 5, trivial⟩, hR _ (by rw [hd0])⟩
      · cbv
        obtain ⟨hk0, hk1, hfp, hmf, hup⟩ : 0 < k ∧ k.toNat ≤ ds.length ∧ fp = ds.take k.toNat ∧ m = fp.length ∧ Up0 fp := hinv2
        (split <;> rename_i hc2 <;> (try (simp only [hz, Z.a, binStd, cmpStd, unStd, scmpStd, maxI, reduceCtorEq] at hc2)) <;> (try cbv))
        · obtain ⟨⟨a1, a2, a3, a4, a5⟩, hd2, hrow2⟩ := get_map (f := grRow) (ds := gs) (i := k) (by omega) (by omega)
          have hrow2 : ds[k.toNat]? = some [.int .i64 a1, .int .i64 a2, .int .i64 a3, .int .i64 a4, .int .i64 a5] := by rw [hds]; exact hrow2
          refine Idx.mk [.int .i64 a1, .int .i64 a2, .int .i64 a3, .int .i64 a4, .int .i64 a5] (by omega) hrow2 ?_
          cbv
          obtain ⟨k', ek'⟩ : ∃ x, k + 1 = x := ⟨_, rfl⟩
          have ek : wbin .add .i64 k 1 = k' := by rw [hbin, i_add (by omega) (by omega)]; exact ek'
          obtain ⟨fp', efp⟩ : ∃ x, fp ++ [[AV.int .i64 a1, .int .i64 a2, .int .i64 a3, .int .i64 a4, .int .i64 a5]] = x := ⟨_, rfl⟩
          have hfl2 : fp'.length = m + 1 := by rw [← efp, hmf]; simp
          have hft2 : fp' = ds.take k'.toNat := by rw [← efp, ← ek', take_row (by omega) hrow2, hfp]
          have hup' : Up0 fp' := by rw [hft2]; exact up_take hud _
          obtain ⟨m', em'⟩ : ∃ x, m + 1 = x := ⟨_, rfl⟩
          have hml : m = k.toNat := by rw [hmf, hfp, List.length_take]; omega
          refine App.mk fp' m' efp.symm hmf em'.symm (by omega) (by omega) ?_
          cbv
          refine hN2 (Bd.more k' m' fp') _ _ ?hx ?hi ?ht
          case hx => (refine Wk.eqz (fun j => [0, 1, 2, 5].getD j 0) (by first | exact fun i _ j _ e => e | (simp only [List.length_cons, List.length_nil]; decide)) ?_; cbv; (repeat' (first | exact trivial | rfl | assumption | apply And.intro | (simp only [hz, Z.a, binStd, cmpStd, unStd, scmpStd, maxI, reduceCtorEq]; first | done | assumption) | exact RowsZ.same (by assumption) (by first | assumption | rfl) | exact FzL.mk rfl rfl rfl (by assumption) (by first | assumption | rfl) (by decide) | (refine RowsZ.one ?_; cbv))))
          case hi => exact ⟨by omega, by omega, hft2, by omega, hup'⟩
          case ht => simp only [Bd.left]; omega
        · refine hE2 _ _ _ ?_
          cbv
          have hq : fp = ds := by rw [hfp, List.take_of_length_le (by omega)]
          refine ⟨_, Vw.agg (rs := [.list 3 es, .list 5 _]) ⟨Vw.same hu.list, Vw.sl rfl hup.get (by omega), trivial⟩, hR _ ?_⟩
          rw [List.drop_zero, List.take_of_length_le (by omega), hq]
  · cbv
    obtain ⟨hi0, hi1, hfs, hnf, huf⟩ : 0 < i ∧ i.toNat ≤ es.length ∧ fs = es.take i.toNat ∧ n = fs.length ∧ Up0 fs := hinv
    (split <;> rename_i hc <;> (try (simp only [hz, Z.a, binStd, cmpStd, unStd, scmpStd, maxI, reduceCtorEq] at hc)) <;> (try cbv))
    · obtain ⟨⟨len, ps, nx⟩, hd, hrow⟩ := get_map (f := sgRow) (ds := ss) (i := i) (by omega) (by omega)
      obtain ⟨q1, eq1⟩ : ∃ x, ps.map pcRow = x := ⟨_, rfl⟩
      obtain ⟨n1, en1⟩ : ∃ x, nx.map nxRow = x := ⟨_, rfl⟩
      have hrow : es[i.toNat]? = some [.int .i64 len, .list 2 q1, .list 1 n1] := by rw [hes, ← eq1, ← en1]; exact hrow
      have hql : q1.length = ps.length := by rw [← eq1]; simp
      have hpl : ps.length ≤ 1000 := hm3 ⟨len, ps, nx⟩ (List.mem_of_getElem? hd)
      have huq : Up0 q1 := by rw [← eq1]; exact up_pc ps
      have hun : Up0 n1 := by rw [← en1]; exact up_nx nx
      refine Idx.mk [.int .i64 len, .list 2 q1, .list 1 n1] (by omega) hrow ?_
      cbv
      obtain ⟨i', ei'⟩ : ∃ x, i + 1 = x := ⟨_, rfl⟩
      have ei : wbin .add .i64 i 1 = i' := by rw [hbin, i_add (by omega) (by omega)]; exact ei'
      obtain ⟨fw, efw⟩ : ∃ x, fs ++ [[AV.int .i64 len, .list 2 q1, .list 1 n1]] = x := ⟨_, rfl⟩
      have hfl : fw.length = n + 1 := by rw [← efw, hnf]; simp
      have hft : fw = es.take i'.toNat := by rw [← efw, ← ei', take_row (by omega) hrow, hfs]
      have hufw : Up0 fw := by rw [hft]; exact up_take hu _
      obtain ⟨n', en'⟩ : ∃ x, n + 1 = x := ⟨_, rfl⟩
      have hnl : n = i.toNat := by rw [hnf, hfs, List.length_take]; omega
      have hT1 : Bd.left es (.more i' n' fw) < Bd.left es (.more i n fs) := by simp only [Bd.left]; omega
      have hI1 : Bd.Ok es (.more i' n' fw) := ⟨by omega, by omega, hft, by omega, hufw⟩
      (obtain ⟨K, eK, K0, Kn⟩ : ∃ L : Int, wlen q1 = L ∧ 0 ≤ L ∧ L.toNat = q1.length := ⟨(q1.length : Int), by rw [hlen], Int.natCast_nonneg _, Int.toNat_natCast _⟩)
      refine Loop.data hw (S := Bd) (fun s => match s with | .start => fr 63 [(1, .ref 0 2 0 0), (2, .ref 1 2 0 0), (3, .ref 2 2 0 0), (12, .list 3 es), (13, .int .i64 L), (14, .int .i64 i), (5, .ref 4 3 0 0), (6, .ref 5 3 0 0), (24, .list 2 q1), (25, .int .i64 K), (26, .int .i64 0)] | .more k m fp => fr 63 [(1, .ref 0 2 0 0), (2, .ref 1 2 0 0), (3, .ref 2 2 0 0), (12, .list 3 es), (13, .int .i64 L), (14, .int .i64 i), (5, .ref 4 3 0 0), (6, .ref 5 3 0 0), (24, .list 2 q1), (25, .int .i64 K), (26, .int .i64 k)])
        (fun s => match s with | .start => [.live 2 [[.list 3 es, .list 5 ds]], .live 2 [[.nils, .nils]], .live 2 [[.sl 3 3 0 n, .nils]], .live 3 fs, .live 3 [[.int .i64 len, .list 2 q1, .list 1 n1]], .live 3 [[.int .i64 len, .nils, .list 1 n1]]] | .more k m fp => [.live 2 [[.list 3 es, .list 5 ds]], .live 2 [[.nils, .nils]], .live 2 [[.sl 3 3 0 n, .nils]], .live 3 fs, .live 3 [[.int .i64 len, .list 2 q1, .list 1 n1]], .live 3 [[.int .i64 len, .sl 6 2 0 m, .list 1 n1]], .live 2 fp]) (Bd.Ok q1) (Bd.left q1) .start (by (refine Wk.eqz (id) (by first | exact fun i _ j _ e => e | (simp only [List.length_cons, List.length_nil]; decide)) ?_; cbv; (repeat' (first | exact trivial | rfl | assumption | apply And.intro | (simp only [hz, Z.a, binStd, cmpStd, unStd, scmpStd, maxI, reduceCtorEq]; first | done | assumption) | exact RowsZ.same (by assumption) (by first | assumption | rfl) | exact FzL.mk rfl rfl rfl (by assumption) (by first | assumption | rfl) (by decide) | (refine RowsZ.one ?_; cbv))))) trivial ?_
      rintro (_ | ⟨k, m, fp⟩) hinv2 Q2 hN2 hE2 hR2
      · cbv
        (split <;> rename_i hc2 <;> (try (simp only [hz, Z.a, binStd, cmpStd, unStd, scmpStd, maxI, reduceCtorEq] at hc2)) <;> (try cbv))
        · obtain ⟨⟨a, b⟩, hd2, hrow2⟩ := get_map (f := pcRow) (ds := ps) (i := 0) (Int.le_refl 0) (by omega)
          have hrow2 : q1[(0 : Int).toNat]? = some [.int .i64 a, .int .i64 b] := by rw [← eq1]; exact hrow2
          refine Idx.mk [.int .i64 a, .int .i64 b] (by decide) hrow2 ?_
          cbv
          refine Ob.mk (by decide) ?_
          cbv
          have hU2 : Up0 [[AV.int .i64 a, .int .i64 b]] := ⟨rfl⟩
          have ei2 : wbin .add .i64 0 1 = 1 := by rw [hbin]; rfl
          refine hN2 (Bd.more 1 1 [[.int .i64 a, .int .i64 b]]) _ _ ?hx ?hi ?ht
          case hx => (refine Wk.eqz (fun j => [0, 1, 2, 3, 4, 5, 7].getD j 0) (by first | exact fun i _ j _ e => e | (simp only [List.length_cons, List.length_nil]; decide)) ?_; cbv; (repeat' (first | exact trivial | rfl | assumption | apply And.intro | (simp only [hz, Z.a, binStd, cmpStd, unStd, scmpStd, maxI, reduceCtorEq]; first | done | assumption) | exact RowsZ.same (by assumption) (by first | assumption | rfl) | exact FzL.mk rfl rfl rfl (by assumption) (by first | assumption | rfl) (by decide) | (refine RowsZ.one ?_; cbv))))
          case hi => exact ⟨by decide, by omega, (take_row (Int.le_refl 0) hrow2).symm, rfl, hU2⟩
          case ht => simp only [Bd.left]; omega
        · refine hE2 _ _ _ ?_
          cbv
          have hq0 : q1 = [] := List.length_eq_zero_iff.1 (by omega)
          obtain ⟨fx, efx⟩ : ∃ x, fs ++ [[AV.int .i64 len, .nils, .list 1 n1]] = x := ⟨_, rfl⟩
          refine App.mk fx n' efx.symm hnf en'.symm (by omega) (by omega) ?_
          cbv
          refine hN (Bd.more i' n' fw) _ _ ?hx ?hi ?ht
          case hx => (refine Wk.eqz (fun j => [0, 1, 2, 6].getD j 0) (by first | exact fun i _ j _ e => e | (simp only [List.length_cons, List.length_nil]; decide)) ?_; cbv; (repeat' (first | exact trivial | rfl | assumption | (refine RowsZ.app huf efx.symm efw.symm ?_; cbv) | apply And.intro | (simp only [hz, Z.a, binStd, cmpStd, unStd, scmpStd, maxI, reduceCtorEq]; first | done | assumption) | exact RowsZ.same (by assumption) (by first | assumption | rfl) | exact FzL.mk rfl rfl rfl (by assumption) (by first | assumption | rfl) (by decide) | (refine RowsZ.one ?_; cbv))))
          case hi => exact hI1
          case ht => exact hT1
      · cbv
        obtain ⟨hk0, hk1, hfp, hmf, hup⟩ : 0 < k ∧ k.toNat ≤ q1.length ∧ fp = q1.take k.toNat ∧ m = fp.length ∧ Up0 fp := hinv2
        (split <;> rename_i hc2 <;> (try (simp only [hz, Z.a, binStd, cmpStd, unStd, scmpStd, maxI, reduceCtorEq] at hc2)) <;> (try cbv))
        · obtain ⟨⟨a, b⟩, hd2, hrow2⟩ := get_map (f := pcRow) (ds := ps) (i := k) (by omega) (by omega)
          have hrow2 : q1[k.toNat]? = some [.int .i64 a, .int .i64 b] := by rw [← eq1]; exact hrow2
          refine Idx.mk [.int .i64 a, .int .i64 b] (by omega) hrow2 ?_
          cbv
          obtain ⟨k', ek'⟩ : ∃ x, k + 1 = x := ⟨_, rfl⟩
          have ek : wbin .add .i64 k 1 = k' := by rw [hbin, i_add (by omega) (by omega)]; exact ek'
          obtain ⟨fp', efp⟩ : ∃ x, fp ++ [[AV.int .i64 a, .int .i64 b]] = x := ⟨_, rfl⟩
          have hfl2 : fp'.length = m + 1 := by rw [← efp, hmf]; simp
          have hft2 : fp' = q1.take k'.toNat := by rw [← efp, ← ek', take_row (by omega) hrow2, hfp]
          have hup' : Up0 fp' := by rw [hft2]; exact up_take huq _
          obtain ⟨m', em'⟩ : ∃ x, m + 1 = x := ⟨_, rfl⟩
          have hml : m = k.toNat := by rw [hmf, hfp, List.length_take]; omega
          refine App.mk fp' m' efp.symm hmf em'.symm (by omega) (by omega) ?_
          cbv
          refine hN2 (Bd.more k' m' fp') _ _ ?hx ?hi ?ht
          case hx => (refine Wk.eqz (fun j => [0, 1, 2, 3, 4, 5, 8].getD j 0) (by first | exact fun i _ j _ e => e | (simp only [List.length_cons, List.length_nil]; decide)) ?_; cbv; (repeat' (first | exact trivial | rfl | assumption | apply And.intro | (simp only [hz, Z.a, binStd, cmpStd, unStd, scmpStd, maxI, reduceCtorEq]; first | done | assumption) | exact RowsZ.same (by assumption) (by first | assumption | rfl) | exact FzL.mk rfl rfl rfl (by assumption) (by first | assumption | rfl) (by decide) | (refine RowsZ.one ?_; cbv))))
          case hi => exact ⟨by omega, by omega, hft2, by omega, hup'⟩
          case ht => simp only [Bd.left]; omega
        · refine hE2 _ _ _ ?_
          cbv
          have hq : fp = q1 := by rw [hfp, List.take_of_length_le (by omega)]
          have hmq : m = q1.length := by rw [hmf, hq]
          clear hfp
          subst fp
          obtain ⟨fx, efx⟩ : ∃ x, fs ++ [[AV.int .i64 len, .sl 6 2 0 m, .list 1 n1]] = x := ⟨_, rfl⟩
          refine App.mk fx n' efx.symm hnf en'.symm (by omega) (by omega) ?_
          cbv
          refine hN (Bd.more i' n' fw) _ _ ?hx ?hi ?ht
          case hx => (refine Wk.eqz (fun j => [0, 1, 2, 7].getD j 0) (by first | exact fun i _ j _ e => e | (simp only [List.length_cons, List.length_nil]; decide)) ?_; cbv; (repeat' (first | exact trivial | rfl | assumption | (refine RowsZ.app huf efx.symm efw.symm ?_; cbv) | apply And.intro | (simp only [hz, Z.a, binStd, cmpStd, unStd, scmpStd, maxI, reduceCtorEq]; first | done | assumption) | exact RowsZ.same (by assumption) (by first | assumption | rfl) | exact FzL.mk rfl rfl rfl (by assumption) (by first | assumption | rfl) (by decide) | (refine RowsZ.one ?_; cbv))))
          case hi => exact hI1
          case ht => exact hT1
    · refine hE _ _ _ ?_
      cbv
      have hfe : fs = es := by rw [hfs, List.take_of_length_le (by omega)]
      have hne : n = es.length := by rw [hnf, hfe]
      subst hfe
      (obtain ⟨J, eJ, J0, Jn⟩ : ∃ L : Int, wlen ds = L ∧ 0 ≤ L ∧ L.toNat = ds.length := ⟨(ds.length : Int), by rw [hlen], Int.natCast_nonneg _, Int.toNat_natCast _⟩)
      refine Loop.data hw (S := Bd) (fun s => match s with | .start => fr 63 [(2, .ref 1 2 0 0), (3, .ref 2 2 0 0), (49, .list 5 ds), (50, .int .i64 J), (51, .int .i64 0)] | .more k m fp => fr 63 [(2, .ref 1 2 0 0), (3, .ref 2 2 0 0), (49, .list 5 ds), (50, .int .i64 J), (51, .int .i64 k)])
        (fun s => match s with | .start => [.live 2 [[.list 3 fs, .list 5 ds]], .live 2 [[.nils, .nils]], .live 2 [[.list 3 fs, .nils]]] | .more k m fp => [.live 2 [[.list 3 fs, .list 5 ds]], .live 2 [[.nils, .nils]], .live 2 [[.list 3 fs, .sl 3 5 0 m]], .live 5 fp]) (Bd.Ok ds) (Bd.left ds) .start (by (refine Wk.eqz (id) (by first | exact fun i _ j _ e => e | (simp only [List.length_cons, List.length_nil]; decide)) ?_; cbv; (repeat' (first | exact trivial | rfl | assumption | apply And.intro | (simp only [hz, Z.a, binStd, cmpStd, unStd, scmpStd, maxI, reduceCtorEq]; first | done | assumption) | exact RowsZ.same (by assumption) (by first | assumption | rfl) | exact FzL.mk rfl rfl rfl (by assumption) (by first | assumption | rfl) (by decide) | (refine RowsZ.one ?_; cbv))))) trivial ?_
      rintro (_ | ⟨k, m, fp⟩) hinv2 Q2 hN2 hE2 hR2
      · cbv
        (split <;> rename_i hc2 <;> (try (simp only [hz, Z.a, binStd, cmpStd, unStd, scmpStd, maxI, reduceCtorEq] at hc2)) <;> (try cbv))
        · obtain ⟨⟨a1, a2, a3, a4, a5⟩, hd2, hrow2⟩ := get_map (f := grRow) (ds := gs) (i := 0) (Int.le_refl 0) (by omega)
          have hrow2 : ds[(0 : Int).toNat]? = some [.int .i64 a1, .int .i64 a2, .int .i64 a3, .int .i64 a4, .int .i64 a5] := by rw [hds]; exact hrow2
          refine Idx.mk [.int .i64 a1, .int .i64 a2, .int .i64 a3, .int .i64 a4, .int .i64 a5] (by decide) hrow2 ?_
          cbv
          refine Ob.mk (by decide) ?_
          cbv
          have hU2 : Up0 [[AV.int .i64 a1, .int .i64 a2, .int .i64 a3, .int .i64 a4, .int .i64 a5]] := ⟨rfl⟩
          have ei2 : wbin .add .i64 0 1 = 1 := by rw [hbin]; rfl
          refine hN2 (Bd.more 1 1 [[.int .i64 a1, .int .i64 a2, .int .i64 a3, .int .i64 a4, .int .i64 a5]]) _ _ ?hx ?hi ?ht
          case hx => (refine Wk.eqz (fun j => [0, 1, 2, 4].getD j 0) (by first | exact fun i _ j _ e => e | (simp only [List.length_cons, List.length_nil]; decide)) ?_; cbv; (repeat' (first | exact trivial | rfl | assumption | apply And.intro | (simp only [hz, Z.a, binStd, cmpStd, unStd, scmpStd, maxI, reduceCtorEq]; first | done | assumption) | exact RowsZ.same (by assumption) (by first | assumption | rfl) | exact FzL.mk rfl rfl rfl (by assumption) (by first | assumption | rfl) (by decide) | (refine RowsZ.one ?_; cbv))))
          case hi => exact ⟨by decide, by omega, (take_row (Int.le_refl 0) hrow2).symm, rfl, hU2⟩
          case ht => simp only [Bd.left]; omega
        · refine hE2 _ _ _ ?_
          cbv
          have hd0 : ds = [] := List.length_eq_zero_iff.1 (by omega)
          exact ⟨_, Vw.agg (rs := [.list 3 fs, .list 5 []]) ⟨Vw.same hu.list, Vw.nil 5, trivial⟩, hR _ (by rw [hd0])⟩
      · cbv
        obtain ⟨hk0, hk1, hfp, hmf, hup⟩ : 0 < k ∧ k.toNat ≤ ds.length ∧ fp = ds.take k.toNat ∧ m = fp.length ∧ Up0 fp := hinv2
        (split <;> rename_i hc2 <;> (try (simp only [hz, Z.a, binStd, cmpStd, unStd, scmpStd, maxI, reduceCtorEq] at hc2)) <;> (try cbv))
        · obtain ⟨⟨a1, a2, a3, a4, a5⟩, hd2, hrow2⟩ := get_map (f := grRow) (ds := gs) (i := k) (by omega) (by omega)
          have hrow2 : ds[k.toNat]? = some [.int .i64 a1, .int .i64 a2, .int .i64 a3, .int .i64 a4, .int .i64 a5] := by rw [hds]; exact hrow2
          refine Idx.mk [.int .i64 a1, .int .i64 a2, .int .i64 a3, .int .i64 a4, .int .i64 a5] (by omega) hrow2 ?_
          cbv
          obtain ⟨k', ek'⟩ : ∃ x, k + 1 = x := ⟨_, rfl⟩
          have ek : wbin .add .i64 k 1 = k' := by rw [hbin, i_add (by omega) (by omega)]; exact ek'
          obtain ⟨fp', efp⟩ : ∃ x, fp ++ [[AV.int .i64 a1, .int .i64 a2, .int .i64 a3, .int .i64 a4, .int .i64 a5]] = x := ⟨_, rfl⟩
          have hfl2 : fp'.length = m + 1 := by rw [← efp, hmf]; simp
          have hft2 : fp' = ds.take k'.toNat := by rw [← efp, ← ek', take_row (by omega) hrow2, hfp]
          have hup' : Up0 fp' := by rw [hft2]; exact up_take hud _
          obtain ⟨m', em'⟩ : ∃ x, m + 1 = x := ⟨_, rfl⟩
          have hml : m = k.toNat := by rw [hmf, hfp, List.length_take]; omega
          refine App.mk fp' m' efp.symm hmf em'.symm (by omega) (by omega) ?_
          cbv
          refine hN2 (Bd.more k' m' fp') _ _ ?hx ?hi ?ht
          case hx => (refine Wk.eqz (fun j => [0, 1, 2, 5].getD j 0) (by first | exact fun i _ j _ e => e | (simp only [List.length_cons, List.length_nil]; decide)) ?_; cbv; (repeat' (first | exact trivial | rfl | assumption | apply And.intro | (simp only [hz, Z.a, binStd, cmpStd, unStd, scmpStd, maxI, reduceCtorEq]; first | done | assumption) | exact RowsZ.same (by assumption) (by first | assumption | rfl) | exact FzL.mk rfl rfl rfl (by assumption) (by first | assumption | rfl) (by decide) | (refine RowsZ.one ?_; cbv))))
          case hi => exact ⟨by omega, by omega, hft2, by omega, hup'⟩
          case ht => simp only [Bd.left]; omega
        · refine hE2 _ _ _ ?_
          cbv
          have hq : fp = ds := by rw [hfp, List.take_of_length_le (by omega)]
          refine ⟨_, Vw.agg (rs := [.list 3 fs, .list 5 _]) ⟨Vw.same hu.list, Vw.sl rfl hup.get (by omega), trivial⟩, hR _ ?_⟩
          rw [List.drop_zero, List.take_of_length_le (by omega), hq]
end Go.Proofs.Ytpiocfmdjgbamaa

/- odographlaw22.may, by the engine. Printed by wip/tools/gensmall.py. -/
namespace Go.Proofs.Ytpiocfmdjgbamaa
open Go Go.RowKit Go.Eng
set_option maxRecDepth 100000


theorem up_track {es ds : List (List AV)} (hu : Up0 es) (hud : Up0 ds) : uptoL 0 [.agg [.list 3 es, .list 5 ds]] = true :=
  Bool.and_eq_true_iff.mpr ⟨Up0.one hu (Up0.one hud rfl), rfl⟩
theorem e_small_may (ss : List Sg) (gs : List Gr) (es ds : List (List AV)) (hes : es = ss.map sgRow) (hds : ds = gs.map grRow) : PCalls Try.prog 36 [.agg [.list 3 es, .list 5 ds]] (fun r => ∃ o : Bool, r = .bool o ∧ (o = true → TrackOk ss gs ∧ ∀ s, s ∈ ss → s.ps.length ≤ 1000)) := by
  have hu : Up0 es := by rw [hes]; exact up_sg ss
  have hud : Up0 ds := by rw [hds]; exact up_gr gs
  have hel : es.length = ss.length := by rw [hes]; simp
  have hdl : ds.length = gs.length := by rw [hds]; simp
  (refine PCalls.ofY Try.func36 (by kernel_rfl) (by kernel_rfl) fun w hw R hR => ?_); (obtain ⟨wbin, wcmp, wun, wconv, wnot, wbeq, wmm, wscmp, wsadd, wslen, wsat, weqs, wlen, wnlen, wofNat, wtake, wdrop, wapp, wzero, wnat⟩ := w); (have hbin := Z.w1 hw); (have hcmp := Z.w2 hw); (have hun := Z.w3 hw); (have hconv := Z.w4 hw); (have hnot := Z.w5 hw); (have hbeq := Z.w6 hw); (have hmm := Z.w7 hw); (have hscmp := Z.w8 hw); (have hsadd := Z.w9 hw); (have hslen := Z.w10 hw); (have hsat := Z.w11 hw); (have heqs := Z.w12 hw); (have hlen := Z.w13 hw); (have hnlen := Z.w14 hw); (have hofNat := Z.w15 hw); (have htake := Z.w16 hw); (have hdrop := Z.w17 hw); (have happ := Z.w18 hw); (have hzero := Z.w19 hw); (have hnat := Z.w20 hw); (have hz := Z.z hw); (conv => arg 2; cbv); (generalize hP : Try.prog = P); cbv
  (obtain ⟨L, eL, L0, Ln⟩ : ∃ L : Int, wlen es = L ∧ 0 ≤ L ∧ L.toNat = es.length := ⟨(es.length : Int), by rw [hlen], Int.natCast_nonneg _, Int.toNat_natCast _⟩)
  (obtain ⟨J, eJ, J0, Jn⟩ : ∃ L : Int, wlen ds = L ∧ 0 ≤ L ∧ L.toNat = ds.length := ⟨(ds.length : Int), by rw [hlen], Int.natCast_nonneg _, Int.toNat_natCast _⟩)
  have hF : R (.bool false) := hR _ ⟨_, rfl, fun h => (by cases h)⟩
  (split <;> rename_i h1 <;> (try (simp only [eL] at h1)) <;> (try (simp only [hz, Z.a, binStd, cmpStd, unStd, scmpStd, maxI, reduceCtorEq] at h1)) <;> (try cbv))
  · exact ⟨_, Vw.same rfl, hF⟩
  (split <;> rename_i h2 <;> (try (simp only [eJ] at h2)) <;> (try (simp only [hz, Z.a, binStd, cmpStd, unStd, scmpStd, maxI, reduceCtorEq] at h2)) <;> (try cbv))
  · exact ⟨_, Vw.same rfl, hF⟩
  refine Loop.data hw (S := Int) (fun i => fr 43 [(1, .ref 0 2 0 0), (18, .list 3 es), (19, .int .i64 L), (20, .int .i64 i)]) (fun i => [.live 2 [[.list 3 es, .list 5 ds]]]) (fun i => 0 ≤ i ∧ i ≤ L ∧ ∀ j, j < i.toNat → ∀ s, ss[j]? = some s → s.ps.length ≤ 100) (fun i => (L - i).toNat) 0 (by (refine Wk.eqz (id) (by first | exact fun i _ j _ e => e | (simp only [List.length_cons, List.length_nil]; decide)) ?_; cbv; (repeat' (first | exact trivial | rfl | assumption | apply And.intro | (simp only [hz, Z.a, binStd, cmpStd, unStd, scmpStd, maxI, reduceCtorEq]; first | done | assumption) | exact RowsZ.same (by assumption) (by first | assumption | rfl) | exact FzL.mk rfl rfl rfl (by assumption) (by first | assumption | rfl) (by decide) | (refine RowsZ.one ?_; cbv))))) ⟨Int.le_refl _, L0, fun j hj => (by simp at hj)⟩ ?_
  rintro i hinv Q' hN hE hR'
  have hinv : 0 ≤ i ∧ i ≤ L ∧ ∀ j, j < i.toNat → ∀ s, ss[j]? = some s → s.ps.length ≤ 100 := hinv
  cbv
  obtain ⟨hi0, hi1, hl⟩ := hinv
  (split <;> rename_i hc <;> (try (simp only [hz, Z.a, binStd, cmpStd, unStd, scmpStd, maxI, reduceCtorEq] at hc)) <;> (try cbv))
  · obtain ⟨⟨len, ps, nx⟩, hd, hrow⟩ := get_map (f := sgRow) (ds := ss) (i := i) hi0 (by omega)
    obtain ⟨q1, eq1⟩ : ∃ x, ps.map pcRow = x := ⟨_, rfl⟩
    obtain ⟨n1, en1⟩ : ∃ x, nx.map nxRow = x := ⟨_, rfl⟩
    have hrow : es[i.toNat]? = some [.int .i64 len, .list 2 q1, .list 1 n1] := by rw [hes, ← eq1, ← en1]; exact hrow
    have hql : q1.length = ps.length := by rw [← eq1]; simp
    (obtain ⟨K, eK, K0, Kn⟩ : ∃ L : Int, wlen q1 = L ∧ 0 ≤ L ∧ L.toNat = q1.length := ⟨(q1.length : Int), by rw [hlen], Int.natCast_nonneg _, Int.toNat_natCast _⟩)
    obtain ⟨i', ei'⟩ : ∃ x, i + 1 = x := ⟨_, rfl⟩
    have ei : wbin .add .i64 i 1 = i' := by rw [hbin, i_add (by omega) (by omega)]; exact ei'
    have hT : (L - i').toNat < (L - i).toNat := by omega
    refine Idx.mk [.int .i64 len, .list 2 q1, .list 1 n1] hi0 hrow ?_
    cbv
    repeat' (first | exact hR' _ _ ⟨_, Vw.same rfl, hF⟩ | (split <;> rename_i h <;> (try (simp only [eK] at h)) <;> (try (simp only [hz, Z.a, binStd, cmpStd, unStd, scmpStd, maxI, reduceCtorEq] at h)) <;> (try cbv)))
    refine hN i' _ _ ?hx ?hi hT
    case hx => (refine Wk.eqz (id) (by first | exact fun i _ j _ e => e | (simp only [List.length_cons, List.length_nil]; decide)) ?_; cbv; (repeat' (first | exact trivial | rfl | assumption | apply And.intro | (simp only [hz, Z.a, binStd, cmpStd, unStd, scmpStd, maxI, reduceCtorEq]; first | done | assumption) | exact RowsZ.same (by assumption) (by first | assumption | rfl) | exact FzL.mk rfl rfl rfl (by assumption) (by first | assumption | rfl) (by decide) | (refine RowsZ.one ?_; cbv))))
    case hi =>
      refine ⟨by omega, by omega, ?_⟩
      rw [← ei']
      refine all_step hi0 hl fun m hm => ?_
      rw [hd] at hm
      obtain rfl : (⟨len, ps, nx⟩ : Sg) = m := by simpa using hm
      simp only; omega
  refine hE _ _ _ ?_
  cbv
  have hps : ∀ s, s ∈ ss → s.ps.length ≤ 1000 := fun s hs => by
    obtain ⟨j, hj⟩ := List.mem_iff_getElem?.1 hs
    have := hl j (by have := (List.getElem?_eq_some_iff.1 hj).1; omega) s hj
    omega
  refine Call.stepE (by rw [← hP]; exact e_refsT ss gs es ds hes hds (by omega) (by omega) hps) (by exact up_track hu hud) ?_
  cbv
  refine Call.step (by rw [← hP]; exact e_check11 ss gs es ds hes hds) (by exact up_track hu hud) ?_
  rintro r ⟨e, i, rfl, hok⟩
  cbv
  refine ⟨_, Vw.same rfl, hR _ ⟨_, rfl, fun ho => ⟨hok ?_, hps⟩⟩⟩
  rw [hcmp] at ho
  simpa [cmpStd] using ho
end Go.Proofs.Ytpiocfmdjgbamaa

/- The least ways to a dead end: rounds in place and rounds out of place come to the same (plain). -/
set_option linter.unusedSectionVars false
namespace Go.Proofs.Ytpiocfmdjgbamaa
def lq (a b : Int) : Prop := b < 0 ∨ (0 ≤ a ∧ a ≤ b)
theorem lq_refl (a : Int) : lq a a := by unfold lq; omega
theorem lq_trans {a b c : Int} (h : lq a b) (h' : lq b c) : lq a c := by unfold lq at *; omega
theorem lq_anti {a b : Int} (ha : -1 ≤ a) (hb : -1 ≤ b) (h : lq a b) (h' : lq b a) : a = b := by unfold lq at *; omega
def bst (b c l : Int) : Int := if 0 ≤ c ∧ (b < 0 ∨ c + l < b) then c + l else b
theorem bst_mono {b b' c c' l : Int} (h : lq b b') (h' : lq c c') (hl : 0 ≤ l) : lq (bst b c l) (bst b' c' l) := by
  unfold lq bst at *; split <;> split <;> omega
theorem bst_le {b c l : Int} (hl : 0 ≤ l) : lq (bst b c l) b := by unfold lq bst; split <;> omega
theorem bst_le2 {b c l : Int} (hl : 0 ≤ l) (hc : 0 ≤ c) (hb : -1 ≤ b) : lq (bst b c l) (c + l) := by unfold lq bst; split <;> omega
theorem bst_ge {b c l : Int} (hl : 0 ≤ l) (hb : -1 ≤ b) : -1 ≤ bst b c l := by unfold bst; split <;> omega
section
variable (n : Nat) (nx : Nat → List Int) (L : Nat → Int)
def fld (cur : Nat → Int) (b : Int) (l : List Int) : Int := l.foldl (fun b j => bst b (cur j.toNat) (L j.toNat)) b
def jac (cur : Nat → Int) (i : Nat) : Int := fld L cur (cur i) (nx i)
def J : Nat → Nat → Int
  | 0, i => if (nx i).isEmpty then 0 else -1
  | r + 1, i => jac nx L (J r) i
end
section
variable {n : Nat} {nx : Nat → List Int} {L : Nat → Int}
theorem fld_le {cur : Nat → Int} : ∀ {l : List Int} {b : Int}, (∀ j, j ∈ l → 0 ≤ L j.toNat) → lq (fld L cur b l) b
  | [], b, h => lq_refl b
  | j :: l, b, h => lq_trans (fld_le (l := l) (b := bst b (cur j.toNat) (L j.toNat)) fun k hk => h k (List.mem_cons_of_mem _ hk)) (bst_le (h j (List.mem_cons_self ..)))
theorem fld_ge {cur : Nat → Int} : ∀ {l : List Int} {b : Int}, (∀ j, j ∈ l → 0 ≤ L j.toNat) → -1 ≤ b → -1 ≤ fld L cur b l
  | [], b, h, hb => hb
  | j :: l, b, h, hb => fld_ge (l := l) (fun k hk => h k (List.mem_cons_of_mem _ hk)) (bst_ge (h j (List.mem_cons_self ..)) hb)
theorem fld_le2 {cur : Nat → Int} : ∀ {l : List Int} {b : Int}, (∀ j, j ∈ l → 0 ≤ L j.toNat) → -1 ≤ b → ∀ j, j ∈ l → 0 ≤ cur j.toNat → lq (fld L cur b l) (cur j.toNat + L j.toNat)
  | [], b, h, hb, j, hj, hc => by cases hj
  | k :: l, b, h, hb, j, hj, hc => by
    have hk := h k (List.mem_cons_self ..)
    have ht : ∀ j, j ∈ l → 0 ≤ L j.toNat := fun j hj => h j (List.mem_cons_of_mem _ hj)
    rcases List.mem_cons.1 hj with rfl | hj
    · exact lq_trans (fld_le (l := l) (b := bst b (cur j.toNat) (L j.toNat)) ht) (bst_le2 hk hc hb)
    · exact fld_le2 (l := l) ht (bst_ge hk hb) j hj hc
theorem fld_is {cur : Nat → Int} : ∀ {l : List Int} {b : Int}, fld L cur b l = b ∨ ∃ j, j ∈ l ∧ 0 ≤ cur j.toNat ∧ fld L cur b l = cur j.toNat + L j.toNat
  | [], b => .inl rfl
  | k :: l, b => by
    rcases fld_is (cur := cur) (l := l) (b := bst b (cur k.toNat) (L k.toNat)) with h | ⟨j, h1, h2, h3⟩
    · have e : fld L cur b (k :: l) = bst b (cur k.toNat) (L k.toNat) := h
      rw [e]
      unfold bst
      split
      · rename_i hc; exact .inr ⟨k, List.mem_cons_self .., hc.1, rfl⟩
      · exact .inl rfl
    · exact .inr ⟨j, List.mem_cons_of_mem _ h1, h2, h3⟩
variable (hin : ∀ i, i < n → ∀ j, j ∈ nx i → j.toNat < n) (hL : ∀ i, i < n → 1 ≤ L i)
include hin hL
theorem nx_pos {i : Nat} (hi : i < n) : ∀ j, j ∈ nx i → 0 ≤ L j.toNat := fun j hj => by have := hL _ (hin i hi j hj); omega
theorem J_ge : ∀ (r : Nat) {i : Nat}, i < n → -1 ≤ J nx L r i
  | 0, i, hi => by unfold J; split <;> omega
  | r + 1, i, hi => fld_ge (nx_pos hin hL hi) (J_ge r hi)
theorem J_down (r : Nat) {i : Nat} (hi : i < n) : lq (J nx L (r + 1) i) (J nx L r i) := fld_le (nx_pos hin hL hi)
theorem J_downs (r : Nat) {i : Nat} (hi : i < n) : ∀ d, lq (J nx L (r + d) i) (J nx L r i)
  | 0 => lq_refl _
  | d + 1 => lq_trans (J_down hin hL (r + d) hi) (J_downs r hi d)
theorem J_edge (r : Nat) {i : Nat} (hi : i < n) {j : Int} (hj : j ∈ nx i) (hc : 0 ≤ J nx L r j.toNat) : lq (J nx L (r + 1) i) (J nx L r j.toNat + L j.toNat) :=
  fld_le2 (nx_pos hin hL hi) (J_ge hin hL r hi) j hj hc
theorem J_new (r : Nat) {i : Nat} (hi : i < n) (h : J nx L (r + 1) i ≠ J nx L r i) : ∃ j, j ∈ nx i ∧ 0 ≤ J nx L r j.toNat ∧ J nx L (r + 1) i = J nx L r j.toNat + L j.toNat := by
  rcases fld_is (L := L) (cur := J nx L r) (l := nx i) (b := J nx L r i) with h' | h'
  · exact absurd h' h
  · exact h'
theorem J_chain : ∀ (r i : Nat), i < n → J nx L (r + 1) i ≠ J nx L r i → ∃ c : Nat → Nat, c r = i ∧ (∀ s, s ≤ r → c s < n ∧ 0 ≤ J nx L (s + 1) (c s)) ∧ ∀ s, s < r → J nx L (s + 1) (c s) < J nx L (s + 2) (c (s + 1)) := by
  intro r
  induction r with
  | zero =>
    intro i hi h
    obtain ⟨j, h1, h2, h3⟩ := J_new hin hL 0 hi h
    have := hL _ (hin i hi j h1)
    refine ⟨fun _ => i, rfl, fun s hs => ⟨hi, ?_⟩, fun s hs => by omega⟩
    obtain rfl : s = 0 := by omega
    show 0 ≤ J nx L 1 i
    rw [h3]; omega
  | succ r ih =>
    intro i hi h
    obtain ⟨j, h1, h2, h3⟩ := J_new hin hL (r + 1) hi h
    have hjn := hin i hi j h1
    have hLj := hL _ hjn
    have hup : J nx L (r + 1) j.toNat ≠ J nx L r j.toNat := by
      intro e
      rw [e] at h2 h3
      have k1 := J_edge hin hL r hi h1 h2
      rw [← h3] at k1
      exact h (lq_anti (J_ge hin hL (r + 2) hi) (J_ge hin hL (r + 1) hi) (J_down hin hL (r + 1) hi) k1)
    obtain ⟨c, c1, c2, c3⟩ := ih j.toNat hjn hup
    refine ⟨fun s => if s = r + 1 then i else c s, by simp, fun s hs => ?_, fun s hs => ?_⟩
    · by_cases hsr : s = r + 1
      · subst hsr
        simp only [if_true]
        exact ⟨hi, by rw [h3]; omega⟩
      · simp only [hsr, if_false]
        exact c2 s (by omega)
    · have hs1 : s ≠ r + 1 := by omega
      simp only [hs1, if_false]
      by_cases hsr : s = r
      · subst hsr
        simp only [if_true]
        rw [c1, h3]
        omega
      · have : s + 1 ≠ r + 1 := by omega
        simp only [this, if_false]
        exact c3 s (by omega)
omit hin hL in
theorem pigeon : ∀ (n : Nat) (f : Nat → Nat), (∀ k, k ≤ n → f k < n) → ∃ a b, a < b ∧ b ≤ n ∧ f a = f b
  | 0, f, h => by have := h 0 (by omega); omega
  | n + 1, f, h => by
    by_cases hx : ∃ a, a ≤ n ∧ f a = f (n + 1)
    · obtain ⟨a, h1, h2⟩ := hx
      exact ⟨a, n + 1, by omega, by omega, h2⟩
    · -- give the value n the place of the last one
      have hx : ∀ a, a ≤ n → f a ≠ f (n + 1) := fun a ha e => hx ⟨a, ha, e⟩
      obtain ⟨a, b, h1, h2, h3⟩ := pigeon n (fun k => if f k = n then f (n + 1) else f k) (fun k hk => by
        have h1 := h k (by omega)
        have h2 := h (n + 1) (by omega)
        have h3 := hx k hk
        show (if f k = n then f (n + 1) else f k) < n
        split <;> omega)
      refine ⟨a, b, h1, by omega, ?_⟩
      have ha := hx a (by omega)
      have hb := hx b (by omega)
      have h3 : (if f a = n then f (n + 1) else f a) = (if f b = n then f (n + 1) else f b) := h3
      split at h3 <;> split at h3 <;> omega
theorem J_fix {i : Nat} (hi : i < n) : J nx L (n + 1) i = J nx L n i := by
  refine Classical.byContradiction fun h => ?_
  obtain ⟨c, c1, c2, c3⟩ := J_chain hin hL n i hi h
  obtain ⟨a, b, h1, h2, h3⟩ := pigeon n c fun k hk => (c2 k hk).1
  have up : ∀ d, a + d ≤ n → J nx L (a + 1) (c a) + d ≤ J nx L (a + d + 1) (c (a + d)) := by
    intro d
    induction d with
    | zero => intro _; show J nx L (a + 1) (c a) + 0 ≤ J nx L (a + 1) (c a); omega
    | succ d ih =>
      intro hd
      have := ih (by omega)
      have k := c3 (a + d) (by omega)
      have e : a + (d + 1) = a + d + 1 := by omega
      rw [e]
      have e2 : a + d + 1 + 1 = a + d + 2 := by omega
      rw [e2]
      omega
  have k1 := up (b - a) (by omega)
  have e : a + (b - a) = b := by omega
  rw [e] at k1
  have k2 := J_downs hin hL (a + 1) (c2 b h2).1 (b - a)
  have e2 : a + 1 + (b - a) = b + 1 := by omega
  rw [e2, ← h3] at k2
  rw [← h3] at k1
  have k3 := (c2 a (by omega)).2
  unfold lq at k2
  omega
theorem J_low {i : Nat} (hi : i < n) {j : Int} (hj : j ∈ nx i) {ci cj : Int} (h1 : lq (J nx L n i) ci) (h2 : lq (J nx L n j.toNat) cj) : lq (J nx L n i) (bst ci cj (L j.toNat)) := by
  have hl := hL _ (hin i hi j hj)
  unfold bst
  split
  · rename_i hc
    have h3 : 0 ≤ J nx L n j.toNat ∧ J nx L n j.toNat ≤ cj := by unfold lq at h2; omega
    have k := J_edge hin hL n hi hj h3.1
    rw [J_fix hin hL hi] at k
    unfold lq at *
    omega
  · exact h1
theorem J_start {i : Nat} (hi : i < n) : lq (J nx L n i) (J nx L 0 i) := by
  have := J_downs hin hL 0 hi n
  rw [Nat.zero_add] at this
  exact this
end
end Go.Proofs.Ytpiocfmdjgbamaa

/- Rounds in place: what holds from edge to edge (plain). -/
namespace Go.Proofs.Ytpiocfmdjgbamaa
structure Gs (n : Nat) (nx : Nat → List Int) (L : Nat → Int) (r i k : Nat) (B : Int) (f : Nat → Int) : Prop where
  lo : ∀ x, x < n → lq (J nx L n x) (f x)
  ge : ∀ x, x < n → -1 ≤ f x ∧ f x ≤ B
  old : ∀ x, x < i → x < n → lq (f x) (J nx L (r + 1) x)
  new : ∀ x, i < x → x < n → lq (f x) (J nx L r x)
  at_ : i < n → lq (f i) (fld L (J nx L r) (J nx L r i) ((nx i).take k))
structure Gr0 (n : Nat) (nx : Nat → List Int) (L : Nat → Int) (r : Nat) (B : Int) (f : Nat → Int) : Prop where
  lo : ∀ x, x < n → lq (J nx L n x) (f x)
  ge : ∀ x, x < n → -1 ≤ f x ∧ f x ≤ B
  up : ∀ x, x < n → lq (f x) (J nx L r x)
def upd (f : Nat → Int) (i : Nat) (v : Int) : Nat → Int := fun x => if x = i then v else f x
section
variable {n : Nat} {nx : Nat → List Int} {L : Nat → Int} (hin : ∀ i, i < n → ∀ j, j ∈ nx i → j.toNat < n) (hL : ∀ i, i < n → 1 ≤ L i) {r i k : Nat} {B : Int} {f : Nat → Int}
include hin hL
theorem gs_first (hB : 0 ≤ B) (hf : ∀ x, x < n → f x = J nx L 0 x) : Gr0 n nx L 0 B f := by
  refine ⟨fun x hx => by rw [hf x hx]; exact J_start hin hL hx, fun x hx => ?_, fun x hx => by rw [hf x hx]; exact lq_refl _⟩
  rw [hf x hx]; unfold J; split <;> omega
theorem gs_start (h : Gr0 n nx L r B f) : Gs n nx L r 0 0 B f :=
  ⟨h.lo, h.ge, fun x hx => by omega, fun x _ hx => h.up x hx, fun hi => h.up 0 hi⟩
theorem gs_round (h : Gs n nx L r n 0 B f) : Gr0 n nx L (r + 1) B f := ⟨h.lo, h.ge, fun x hx => h.old x hx hx⟩
theorem gs_next (hi : i < n) (h : Gs n nx L r i (nx i).length B f) : Gs n nx L r (i + 1) 0 B f := by
  refine ⟨h.lo, h.ge, fun x hx hn => ?_, fun x hx hn => h.new x (by omega) hn, fun hn => h.new (i + 1) (by omega) hn⟩
  by_cases hxi : x = i
  · subst hxi
    have := h.at_ hi
    rw [List.take_length] at this
    exact this
  · exact h.old x (by omega) hn
theorem gs_of (hi : i < n) (h : Gs n nx L r i k B f) {x : Nat} (hx : x < n) : lq (f x) (J nx L r x) := by
  rcases Nat.lt_trichotomy x i with h1 | h1 | h1
  · exact lq_trans (h.old x h1 hx) (J_down hin hL r hx)
  · subst h1
    exact lq_trans (h.at_ hi) (fld_le fun j hj => nx_pos hin hL hi j (List.mem_of_mem_take hj))
  · exact h.new x h1 hx
theorem gs_edge (hi : i < n) (h : Gs n nx L r i k B f) {j : Int} (hj : (nx i)[k]? = some j) {B' : Int} (hB : B + L j.toNat ≤ B') (hB0 : 0 ≤ L j.toNat) {g : Nat → Int} (hg : ∀ x, x < n → g x = if x = i then bst (f i) (f j.toNat) (L j.toNat) else f x) : Gs n nx L r i (k + 1) B' g := by
  have hm : j ∈ nx i := List.mem_of_getElem? hj
  have hjn := hin i hi j hm
  have hl := hL _ hjn
  have e : (nx i).take (k + 1) = (nx i).take k ++ [j] := by rw [List.take_add_one, hj]; rfl
  refine ⟨fun x hx => ?_, fun x hx => ?_, fun x hxi hx => ?_, fun x hxi hx => ?_, fun _ => ?_⟩
  · rw [hg x hx]
    split
    · rename_i e; subst e
      exact J_low hin hL hx hm (h.lo x hx) (h.lo _ hjn)
    · exact h.lo x hx
  · rw [hg x hx]
    have h1 := h.ge x hx
    have h2 := h.ge _ hjn
    have h3 := h.ge i hi
    split
    · unfold bst; split <;> omega
    · omega
  · rw [hg x hx, if_neg (by omega)]; exact h.old x hxi hx
  · rw [hg x hx, if_neg (by omega)]; exact h.new x hxi hx
  · rw [hg i hi, if_pos rfl, e]
    unfold fld
    rw [List.foldl_append]
    exact bst_mono (h.at_ hi) (gs_of hin hL hi h hjn) (by omega)
theorem gs_end (h : Gr0 n nx L n B f) {x : Nat} (hx : x < n) : f x = J nx L n x :=
  lq_anti (h.ge x hx).1 (J_ge hin hL n hx) (h.up x hx) (h.lo x hx)
end
end Go.Proofs.Ytpiocfmdjgbamaa

/- How far it is to a dead end, by the engine. -/
namespace Go.Proofs.Ytpiocfmdjgbamaa
open Go Go.RowKit Go.Eng
set_option maxRecDepth 100000
def nxF (ss : List Sg) (i : Nat) : List Int := match ss[i]? with | some s => s.nx | none => []
def lenF (ss : List Sg) (i : Nat) : Int := match ss[i]? with | some s => s.len | none => 1
theorem nx_in {ss : List Sg} {gs : List Gr} (h : TrackOk ss gs) : ∀ i, i < ss.length → ∀ j, j ∈ nxF ss i → j.toNat < ss.length := by
  intro i hi j hj
  unfold nxF at hj
  rw [List.getElem?_eq_getElem hi] at hj
  obtain ⟨k, hk⟩ := List.mem_iff_getElem?.1 hj
  have := (h.seg i hi ss[i] (List.getElem?_eq_getElem hi)).nx k (List.getElem?_eq_some_iff.1 hk).1 j hk
  omega
theorem len_pos {ss : List Sg} {gs : List Gr} (h : TrackOk ss gs) : ∀ i, i < ss.length → 1 ≤ lenF ss i := by
  intro i hi
  unfold lenF
  rw [List.getElem?_eq_getElem hi]
  exact (h.seg i hi ss[i] (List.getElem?_eq_getElem hi)).pos
structure Own (n : Nat) (os : List (List AV)) (f : Nat → Int) : Prop where
  len : os.length = n
  at_ : ∀ x, x < n → os[x]? = some [.int .i64 (f x)]
theorem Own.set {n : Nat} {os : List (List AV)} {f : Nat → Int} (h : Own n os f) {i : Nat} (v : Int) : Own n (os.set i [.int .i64 v]) (upd f i v) := by
  refine ⟨by rw [List.length_set]; exact h.len, fun x hx => ?_⟩
  unfold upd
  by_cases hxi : x = i
  · subst hxi
    rw [if_pos rfl, List.getElem?_set_self (by rw [h.len]; exact hx)]
  · rw [if_neg hxi, List.getElem?_set_ne (Ne.symm hxi)]
    exact h.at_ x hx
theorem Own.up {n : Nat} {os : List (List AV)} {f : Nat → Int} (h : Own n os f) : Up0 os := by
  have e : os = (List.range n).map fun x => [AV.int .i64 (f x)] := by
    apply List.ext_getElem?
    intro x
    by_cases hx : x < n
    · rw [h.at_ x hx, List.getElem?_map, List.getElem?_range hx]; rfl
    · rw [List.getElem?_eq_none (by rw [h.len]; omega), List.getElem?_eq_none (by rw [List.length_map, List.length_range]; omega)]
  rw [e]
  exact up_map (f := fun x => [AV.int .i64 (f x)]) (fun d => rfl) _
theorem Own.rep (n : Nat) : Own n (List.replicate n [.int .i64 0]) (fun _ => 0) := ⟨by simp, fun x hx => by simp [hx]⟩
theorem e_ends (ss : List Sg) (gs : List Gr) (es ds : List (List AV)) (hes : es = ss.map sgRow) (hds : ds = gs.map grRow) (hok : TrackOk ss gs) : PCalls Try.prog 40 [.agg [.list 3 es, .list 5 ds]] (fun r => ∃ os, r = .list 1 os ∧ Own ss.length os (J (nxF ss) (lenF ss) ss.length)) := by
  have hu : Up0 es := by rw [hes]; exact up_sg ss
  have hud : Up0 ds := by rw [hds]; exact up_gr gs
  have hel : es.length = ss.length := by rw [hes]; simp
  have hin := nx_in hok
  have hL := len_pos hok
  (refine PCalls.ofY Try.func40 (by kernel_rfl) (by kernel_rfl) fun w hw R hR => ?_); (obtain ⟨wbin, wcmp, wun, wconv, wnot, wbeq, wmm, wscmp, wsadd, wslen, wsat, weqs, wlen, wnlen, wofNat, wtake, wdrop, wapp, wzero, wnat⟩ := w); (have hbin := Z.w1 hw); (have hcmp := Z.w2 hw); (have hun := Z.w3 hw); (have hconv := Z.w4 hw); (have hnot := Z.w5 hw); (have hbeq := Z.w6 hw); (have hmm := Z.w7 hw); (have hscmp := Z.w8 hw); (have hsadd := Z.w9 hw); (have hslen := Z.w10 hw); (have hsat := Z.w11 hw); (have heqs := Z.w12 hw); (have hlen := Z.w13 hw); (have hnlen := Z.w14 hw); (have hofNat := Z.w15 hw); (have htake := Z.w16 hw); (have hdrop := Z.w17 hw); (have happ := Z.w18 hw); (have hzero := Z.w19 hw); (have hnat := Z.w20 hw); (have hz := Z.z hw); (conv => arg 2; cbv); (generalize hP : Try.prog = P); cbv
  (obtain ⟨L, eL, L0, Ln⟩ : ∃ L : Int, wlen es = L ∧ 0 ≤ L ∧ L.toNat = es.length := ⟨(es.length : Int), by rw [hlen], Int.natCast_nonneg _, Int.toNat_natCast _⟩)
  simp only [eL]
  refine Mk.mk (List.replicate L.toNat [.int .i64 0]) L.toNat L0 (Int.le_refl _) (by have := hok.le; omega) (by have := hok.le; omega) rfl rfl ?_
  obtain ⟨n, en⟩ : ∃ n, L.toNat = n := ⟨_, rfl⟩
  obtain ⟨os, eos⟩ : ∃ os, List.replicate L.toNat [AV.int .i64 0] = os := ⟨_, rfl⟩
  have hos : Own n os (fun _ => 0) := by rw [← eos, en]; exact Own.rep n
  rw [eos, en]
  clear eos
  cbv
  have nL : n = ss.length := by omega
  have huo := hos.up
  refine Loop.data hw (S := Int × List (List AV)) (fun s => fr 90 [(1, .ref 0 2 0 0), (3, .sl 1 1 0 n), (16, .list 3 es), (17, .int .i64 L), (18, .int .i64 s.1)]) (fun s => [.live 2 [[.list 3 es, .list 5 ds]], .live 1 s.2]) (fun s => 0 ≤ s.1 ∧ s.1 ≤ L ∧ Own n s.2 (fun x => if x < s.1.toNat then J (nxF ss) (lenF ss) 0 x else 0)) (fun s => (L - s.1).toNat) (0, os) (by (refine Wk.eqz (id) (by first | exact fun i _ j _ e => e | (simp only [List.length_cons, List.length_nil]; decide)) ?_; cbv; (repeat' (first | exact trivial | rfl | assumption | apply And.intro | (simp only [hz, Z.a, binStd, cmpStd, unStd, scmpStd, maxI, reduceCtorEq]; first | done | assumption) | exact RowsZ.same (by assumption) (by first | assumption | rfl) | exact FzL.mk rfl rfl rfl (by assumption) (by first | assumption | rfl) (by decide) | (refine RowsZ.one ?_; cbv))))) ⟨Int.le_refl _, L0, by simpa using hos⟩ ?_
  rintro ⟨i, os⟩ hinv Q' hN hE hR'
  have hinv : 0 ≤ i ∧ i ≤ L ∧ Own n os (fun x => if x < i.toNat then J (nxF ss) (lenF ss) 0 x else 0) := hinv
  cbv
  obtain ⟨hi0, hi1, hos⟩ := hinv
  have huo := hos.up
  (split <;> rename_i hc <;> (try (simp only [eL] at hc)) <;> (try (simp only [hz, Z.a, binStd, cmpStd, unStd, scmpStd, maxI, reduceCtorEq] at hc)) <;> (try cbv))
  · obtain ⟨⟨len, ps, nx⟩, hd, hrow⟩ := get_map (f := sgRow) (ds := ss) (i := i) hi0 (by omega)
    obtain ⟨q1, eq1⟩ : ∃ x, ps.map pcRow = x := ⟨_, rfl⟩
    obtain ⟨n1, en1⟩ : ∃ x, nx.map nxRow = x := ⟨_, rfl⟩
    have hrow : es[i.toNat]? = some [.int .i64 len, .list 2 q1, .list 1 n1] := by rw [hes, ← eq1, ← en1]; exact hrow
    have hnl : n1.length = nx.length := by rw [← en1]; simp
    (obtain ⟨K, eK, K0, Kn⟩ : ∃ L : Int, wlen n1 = L ∧ 0 ≤ L ∧ L.toNat = n1.length := ⟨(n1.length : Int), by rw [hlen], Int.natCast_nonneg _, Int.toNat_natCast _⟩)
    obtain ⟨i', ei'⟩ : ∃ x, i + 1 = x := ⟨_, rfl⟩
    have ei : wbin .add .i64 i 1 = i' := by rw [hbin, i_add (by have := hok.le; omega) (by have := hok.le; omega)]; exact ei'
    have hT : (L - i').toNat < (L - i).toNat := by omega
    refine Idx.mk [.int .i64 len, .list 2 q1, .list 1 n1] hi0 hrow ?_
    cbv
    obtain ⟨k, ek⟩ : ∃ k, i.toNat = k := ⟨_, rfl⟩
    have hk : k < n := by omega
    have ek' : i'.toNat = k + 1 := by omega
    have eJ : J (nxF ss) (lenF ss) 0 k = if nx.isEmpty then 0 else -1 := by
      unfold J nxF
      rw [← ek, hd]
    rw [ek] at hos
    (split <;> rename_i h1 <;> (try (simp only [eK] at h1)) <;> (try (simp only [hz, Z.a, binStd, cmpStd, unStd, scmpStd, maxI, reduceCtorEq] at h1)) <;> (try cbv))
    · refine At.mk k hi0 (by omega) (by rw [Nat.zero_add]; exact ek) ?_
      cbv
      obtain ⟨os', eos'⟩ : ∃ x, os.set k [.int .i64 (-1)] = x := ⟨_, rfl⟩
      refine SetRow.mk [.int .i64 0] os' (by rw [hos.at_ k hk, if_neg (Nat.lt_irrefl _)]) eos'.symm ?_
      have hos' : Own n os' (fun x => if x < i'.toNat then J (nxF ss) (lenF ss) 0 x else 0) := by
        rw [← eos']
        have := hos.set (i := k) (-1)
        refine ⟨this.len, fun x hx => ?_⟩
        rw [this.at_ x hx, ek']
        show some [AV.int .i64 (if x = k then -1 else if x < k then J (nxF ss) (lenF ss) 0 x else 0)] = _
        by_cases hxk : x = k
        · subst hxk
          have k0 : 0 < n1.length := by rw [← Kn]; exact Int.pos_iff_toNat_pos.1 h1
          have hne : nx.isEmpty = false := by cases nx with | nil => exfalso; rw [hnl] at k0; exact absurd k0 (by decide) | cons a b => rfl
          rw [if_pos rfl, if_pos (by omega), eJ, hne]; rfl
        · rw [if_neg hxk]
          by_cases hlt : x < k
          · rw [if_pos hlt, if_pos (by omega)]
          · rw [if_neg hlt, if_neg (by omega)]
      have huo' := hos'.up
      cbv
      simp only [ei]
      refine hN (i', os') _ _ ?hx ?hi hT
      case hx => (refine Wk.eqz (id) (by first | exact fun i _ j _ e => e | (simp only [List.length_cons, List.length_nil]; decide)) ?_; cbv; (repeat' (first | exact trivial | rfl | assumption | apply And.intro | (simp only [hz, Z.a, binStd, cmpStd, unStd, scmpStd, maxI, reduceCtorEq]; first | done | assumption) | exact RowsZ.same (by assumption) (by first | assumption | rfl) | exact FzL.mk rfl rfl rfl (by assumption) (by first | assumption | rfl) (by decide) | (refine RowsZ.one ?_; cbv))))
      case hi => exact ⟨by omega, by omega, hos'⟩
    · simp only [ei]
      refine hN (i', os) _ _ ?hx ?hi hT
      case hx => (refine Wk.eqz (id) (by first | exact fun i _ j _ e => e | (simp only [List.length_cons, List.length_nil]; decide)) ?_; cbv; (repeat' (first | exact trivial | rfl | assumption | apply And.intro | (simp only [hz, Z.a, binStd, cmpStd, unStd, scmpStd, maxI, reduceCtorEq]; first | done | assumption) | exact RowsZ.same (by assumption) (by first | assumption | rfl) | exact FzL.mk rfl rfl rfl (by assumption) (by first | assumption | rfl) (by decide) | (refine RowsZ.one ?_; cbv))))
      case hi =>
        refine ⟨by omega, by omega, hos.len, fun x hx => ?_⟩
        rw [hos.at_ x hx, ek']
        show some [AV.int .i64 (if x < k then J (nxF ss) (lenF ss) 0 x else 0)] = _
        by_cases hxk : x = k
        · subst hxk
          have k0 : n1.length = 0 := by rw [← Kn]; exact Int.toNat_eq_zero.2 h1
          have hne : nx.isEmpty = true := by cases nx with | nil => rfl | cons a b => exfalso; rw [k0] at hnl; cases hnl
          rw [if_neg (Nat.lt_irrefl _), if_pos (by omega), eJ, hne]; rfl
        · by_cases hlt : x < k
          · rw [if_pos hlt, if_pos (by omega)]
          · rw [if_neg hlt, if_neg (by omega)]
  refine hE _ _ _ ?_
  cbv
  have hos : Own n os (J (nxF ss) (lenF ss) 0) := ⟨hos.len, fun x hx => by rw [hos.at_ x hx, if_pos (by omega)]⟩
  have huo := hos.up
  clear hN hE hR' hc hi0 hi1
  simp only [eL]
  obtain ⟨f, ef⟩ : ∃ f, J (nxF ss) (lenF ss) 0 = f := ⟨_, rfl⟩
  have hG := gs_first hin hL (f := f) (B := 0) (Int.le_refl _) (fun x _ => by rw [ef])
  rw [ef] at hos
  rw [← nL] at hin hL hG
  have hn2 : n ≤ 200 := by have := hok.le; omega
  have hll : ∀ j : Nat, j < n → lenF ss j ≤ 1099511627776 := fun j hj => by
    have hj : j < ss.length := by omega
    unfold lenF
    rw [List.getElem?_eq_getElem hj]
    exact (hok.seg j hj ss[j] (List.getElem?_eq_getElem hj)).le
  refine Loop.data hw (S := Int × List (List AV)) (fun s => fr 90 [(1, .ref 0 2 0 0), (3, .sl 1 1 0 n), (33, .int .i64 L), (34, .int .i64 s.1)]) (fun s => [.live 2 [[.list 3 es, .list 5 ds]], .live 1 s.2]) (fun s => 0 ≤ s.1 ∧ s.1 ≤ L ∧ ∃ f, Own n s.2 f ∧ Gr0 n (nxF ss) (lenF ss) s.1.toNat (s.1 * 439804651110400) f) (fun s => (L - s.1).toNat) (0, os) (by (refine Wk.eqz (id) (by first | exact fun i _ j _ e => e | (simp only [List.length_cons, List.length_nil]; decide)) ?_; cbv; (repeat' (first | exact trivial | rfl | assumption | apply And.intro | (simp only [hz, Z.a, binStd, cmpStd, unStd, scmpStd, maxI, reduceCtorEq]; first | done | assumption) | exact RowsZ.same (by assumption) (by first | assumption | rfl) | exact FzL.mk rfl rfl rfl (by assumption) (by first | assumption | rfl) (by decide) | (refine RowsZ.one ?_; cbv))))) ⟨Int.le_refl _, L0, f, hos, by simpa using hG⟩ ?_
  clear hG hos ef f
  rintro ⟨r, os⟩ hinv Q' hN hE hR'
  have hinv : 0 ≤ r ∧ r ≤ L ∧ ∃ f, Own n os f ∧ Gr0 n (nxF ss) (lenF ss) r.toNat (r * 439804651110400) f := hinv
  cbv
  obtain ⟨hr0, hr1, f, hos, hG⟩ := hinv
  have huo := hos.up
  (split <;> rename_i hc <;> (try (simp only [eL] at hc)) <;> (try (simp only [hz, Z.a, binStd, cmpStd, unStd, scmpStd, maxI, reduceCtorEq] at hc)) <;> (try cbv))
  · simp only [eL]
    obtain ⟨r', er'⟩ : ∃ x, r + 1 = x := ⟨_, rfl⟩
    have er : wbin .add .i64 r 1 = r' := by rw [hbin, i_add (by omega) (by omega)]; exact er'
    have hT : (L - r').toNat < (L - r).toNat := by omega
    obtain ⟨rn, ern⟩ : ∃ x, r.toNat = x := ⟨_, rfl⟩
    rw [ern] at hG
    refine Loop.data hw (S := Int × List (List AV)) (fun s => fr 90 [(1, .ref 0 2 0 0), (3, .sl 1 1 0 n), (33, .int .i64 L), (34, .int .i64 r), (37, .list 3 es), (38, .int .i64 L), (39, .int .i64 s.1)]) (fun s => [.live 2 [[.list 3 es, .list 5 ds]], .live 1 s.2]) (fun s => 0 ≤ s.1 ∧ s.1 ≤ L ∧ ∃ f, Own n s.2 f ∧ Gs n (nxF ss) (lenF ss) rn s.1.toNat 0 (r * 439804651110400 + s.1 * 2199023255552) f) (fun s => (L - s.1).toNat) (0, os) (by (refine Wk.eqz (id) (by first | exact fun i _ j _ e => e | (simp only [List.length_cons, List.length_nil]; decide)) ?_; cbv; (repeat' (first | exact trivial | rfl | assumption | apply And.intro | (simp only [hz, Z.a, binStd, cmpStd, unStd, scmpStd, maxI, reduceCtorEq]; first | done | assumption) | exact RowsZ.same (by assumption) (by first | assumption | rfl) | exact FzL.mk rfl rfl rfl (by assumption) (by first | assumption | rfl) (by decide) | (refine RowsZ.one ?_; cbv))))) ⟨Int.le_refl _, L0, f, hos, by have := gs_start hin hL hG; simpa using this⟩ ?_
    clear hG hos huo
    rintro ⟨i, os⟩ hinv Q2 hN2 hE2 hR2
    have hinv : 0 ≤ i ∧ i ≤ L ∧ ∃ f, Own n os f ∧ Gs n (nxF ss) (lenF ss) rn i.toNat 0 (r * 439804651110400 + i * 2199023255552) f := hinv
    cbv
    obtain ⟨hi0, hi1, f, hos, hG⟩ := hinv
    have huo := hos.up
    (split <;> rename_i hc2 <;> (try (simp only [hz, Z.a, binStd, cmpStd, unStd, scmpStd, maxI, reduceCtorEq] at hc2)) <;> (try cbv))
    · obtain ⟨⟨len, ps, nx⟩, hd, hrow⟩ := get_map (f := sgRow) (ds := ss) (i := i) hi0 (by omega)
      obtain ⟨q1, eq1⟩ : ∃ x, ps.map pcRow = x := ⟨_, rfl⟩
      obtain ⟨n1, en1⟩ : ∃ x, nx.map nxRow = x := ⟨_, rfl⟩
      have hrow : es[i.toNat]? = some [.int .i64 len, .list 2 q1, .list 1 n1] := by rw [hes, ← eq1, ← en1]; exact hrow
      have hun : Up0 n1 := by rw [← en1]; exact up_nx nx
      have hnl : n1.length = nx.length := by rw [← en1]; simp
      (obtain ⟨K, eK, K0, Kn⟩ : ∃ L : Int, wlen n1 = L ∧ 0 ≤ L ∧ L.toNat = n1.length := ⟨(n1.length : Int), by rw [hlen], Int.natCast_nonneg _, Int.toNat_natCast _⟩)
      obtain ⟨i', ei'⟩ : ∃ x, i + 1 = x := ⟨_, rfl⟩
      have ei : wbin .add .i64 i 1 = i' := by rw [hbin, i_add (by omega) (by omega)]; exact ei'
      have hT2 : (L - i').toNat < (L - i).toNat := by omega
      obtain ⟨m, em⟩ : ∃ m, i.toNat = m := ⟨_, rfl⟩
      have hm : m < n := by omega
      have em' : i'.toNat = m + 1 := by omega
      have enx : nxF ss m = nx := by unfold nxF; rw [← em, hd]
      rw [em] at hG
      have hK2 : nx.length ≤ 2 := by rw [em] at hd; exact (hok.seg m (by omega) _ hd).two
      refine Idx.mk [.int .i64 len, .list 2 q1, .list 1 n1] hi0 hrow ?_
      cbv
      simp only [eK]
      refine Loop.data hw (S := Int × List (List AV)) (fun s => fr 90 [(1, .ref 0 2 0 0), (3, .sl 1 1 0 n), (6, .int .i64 i), (33, .int .i64 L), (34, .int .i64 r), (37, .list 3 es), (38, .int .i64 L), (39, .int .i64 i), (45, .list 1 n1), (46, .int .i64 K), (47, .int .i64 s.1)]) (fun s => [.live 2 [[.list 3 es, .list 5 ds]], .live 1 s.2]) (fun s => 0 ≤ s.1 ∧ s.1 ≤ K ∧ ∃ f, Own n s.2 f ∧ Gs n (nxF ss) (lenF ss) rn m s.1.toNat (r * 439804651110400 + i * 2199023255552 + s.1 * 1099511627776) f) (fun s => (K - s.1).toNat) (0, os) (by (refine Wk.eqz (id) (by first | exact fun i _ j _ e => e | (simp only [List.length_cons, List.length_nil]; decide)) ?_; cbv; (repeat' (first | exact trivial | rfl | assumption | apply And.intro | (simp only [hz, Z.a, binStd, cmpStd, unStd, scmpStd, maxI, reduceCtorEq]; first | done | assumption) | exact RowsZ.same (by assumption) (by first | assumption | rfl) | exact FzL.mk rfl rfl rfl (by assumption) (by first | assumption | rfl) (by decide) | (refine RowsZ.one ?_; cbv))))) ⟨Int.le_refl _, K0, f, hos, by simpa using hG⟩ ?_
      clear hG hos huo
      rintro ⟨k, os⟩ hinv Q3 hN3 hE3 hR3
      have hinv : 0 ≤ k ∧ k ≤ K ∧ ∃ f, Own n os f ∧ Gs n (nxF ss) (lenF ss) rn m k.toNat (r * 439804651110400 + i * 2199023255552 + k * 1099511627776) f := hinv
      cbv
      obtain ⟨hk0, hk1, f, hos, hG⟩ := hinv
      have huo := hos.up
      (split <;> rename_i hc3 <;> (try (simp only [hz, Z.a, binStd, cmpStd, unStd, scmpStd, maxI, reduceCtorEq] at hc3)) <;> (try cbv))
      · obtain ⟨j, hj, hjr⟩ := get_map (f := nxRow) (ds := nx) (i := k) hk0 (by omega)
        have hjr : n1[k.toNat]? = some [.int .i64 j] := by rw [← en1]; exact hjr
        obtain ⟨k', ek'⟩ : ∃ x, k + 1 = x := ⟨_, rfl⟩
        have ekk : wbin .add .i64 k 1 = k' := by rw [hbin, i_add (by omega) (by omega)]; exact ek'
        have hT3 : (K - k').toNat < (K - k).toNat := by omega
        refine Idx.mk [.int .i64 j] hk0 hjr ?_
        cbv
        have hjm : j ∈ nxF ss m := by rw [enx]; exact List.mem_of_getElem? hj
        have hjb : 0 ≤ j ∧ j < n := by
          rw [em] at hd
          have := (hok.seg m (by omega) _ hd).nx k.toNat (List.getElem?_eq_some_iff.1 hj).1 j hj
          omega
        obtain ⟨hj0, hjl⟩ := hjb
        obtain ⟨jn, ejn⟩ : ∃ x, j.toNat = x := ⟨_, rfl⟩
        have hjn : jn < n := by omega
        have hjz : 0 + j.toNat = jn := by rw [Nat.zero_add]; exact ejn
        have hmz : 0 + i.toNat = m := by rw [Nat.zero_add]; exact em
        have hil : i < n := by omega
        obtain ⟨⟨len2, ps2, nx2⟩, hd2, hrow2⟩ := get_map (f := sgRow) (ds := ss) (i := j) hj0 (by omega)
        obtain ⟨q2, eq2⟩ : ∃ x, ps2.map pcRow = x := ⟨_, rfl⟩
        obtain ⟨n2, en2⟩ : ∃ x, nx2.map nxRow = x := ⟨_, rfl⟩
        have hrow2 : es[j.toNat]? = some [.int .i64 len2, .list 2 q2, .list 1 n2] := by rw [hes, ← eq2, ← en2]; exact hrow2
        have el2 : lenF ss jn = len2 := by unfold lenF; rw [← ejn, hd2]
        have hl1 := hL jn hjn
        have hl2 := hll jn hjn
        rw [el2] at hl1 hl2
        have hrj := hos.at_ jn hjn
        have hri := hos.at_ m hm
        have hgj := hG.ge jn hjn
        have hgi := hG.ge m hm
        obtain ⟨cj, ecj⟩ : ∃ x, f jn = x := ⟨_, rfl⟩
        obtain ⟨ci, eci⟩ : ∃ x, f m = x := ⟨_, rfl⟩
        rw [ecj] at hrj hgj
        rw [eci] at hri hgi
        obtain ⟨fa, efa⟩ : ∃ x, cj + len2 = x := ⟨_, rfl⟩
        have efw : wbin .add .i64 cj len2 = fa := by rw [hbin, i_add (by omega) (by omega)]; exact efa
        obtain ⟨os', eos'⟩ : ∃ x, os.set m [.int .i64 fa] = x := ⟨_, rfl⟩
        have hos' : Own n os' (upd f m fa) := by rw [← eos']; exact hos.set fa
        have huo' := hos'.up
        have ekn : k'.toNat = k.toNat + 1 := by omega
        have hkey : ∀ g, (∀ x, x < n → g x = if x = m then bst ci cj len2 else f x) → Gs n (nxF ss) (lenF ss) rn m k'.toNat (r * 439804651110400 + i * 2199023255552 + k' * 1099511627776) g := by
          intro g hg
          rw [ekn]
          refine gs_edge hin hL hm hG (j := j) (by rw [enx]; exact hj) (by rw [ejn, el2]; omega) (by rw [ejn, el2]; omega) fun x hx => ?_
          rw [hg x hx, ejn, el2, ecj, eci]
        repeat' (first
          | (simp only [efw, ekk]; cbv)
          | (simp only [efw, ekk])
          | (refine At.mk jn hj0 hjl hjz ?_; cbv)
          | (refine At.mk m hi0 hil hmz ?_; cbv)
          | (refine RowOf.mk [.int .i64 cj] hrj ?_; cbv)
          | (refine RowOf.mk [.int .i64 ci] hri ?_; cbv)
          | (refine Idx.mk [.int .i64 len2, .list 2 q2, .list 1 n2] hj0 hrow2 ?_; cbv)
          | (refine SetRow.mk [.int .i64 ci] os' hri eos'.symm ?_; cbv)
          | (split <;> rename_i h <;> (try (simp only [efw, ekk] at h)) <;> (try (simp only [hz, Z.a, binStd, cmpStd, unStd, scmpStd, maxI, reduceCtorEq] at h)) <;> (try cbv)))
        all_goals first
          | (refine hN3 (k', os') _ _ ?hx ?hi hT3
             case hx => (refine Wk.eqz (id) (by first | exact fun i _ j _ e => e | (simp only [List.length_cons, List.length_nil]; decide)) ?_; cbv; (repeat' (first | exact trivial | rfl | assumption | apply And.intro | (simp only [hz, Z.a, binStd, cmpStd, unStd, scmpStd, maxI, reduceCtorEq]; first | done | assumption) | exact RowsZ.same (by assumption) (by first | assumption | rfl) | exact FzL.mk rfl rfl rfl (by assumption) (by first | assumption | rfl) (by decide) | (refine RowsZ.one ?_; cbv))))
             case hi =>
               refine ⟨by omega, by omega, upd f m fa, hos', hkey _ fun x hx => ?_⟩
               unfold upd bst
               split
               · split <;> omega
               · rfl)
          | (refine hN3 (k', os) _ _ ?hx ?hi hT3
             case hx => (refine Wk.eqz (id) (by first | exact fun i _ j _ e => e | (simp only [List.length_cons, List.length_nil]; decide)) ?_; cbv; (repeat' (first | exact trivial | rfl | assumption | apply And.intro | (simp only [hz, Z.a, binStd, cmpStd, unStd, scmpStd, maxI, reduceCtorEq]; first | done | assumption) | exact RowsZ.same (by assumption) (by first | assumption | rfl) | exact FzL.mk rfl rfl rfl (by assumption) (by first | assumption | rfl) (by decide) | (refine RowsZ.one ?_; cbv))))
             case hi =>
               refine ⟨by omega, by omega, f, hos, hkey _ fun x hx => ?_⟩
               unfold bst
               split
               · rename_i e
                 rw [e, eci]
                 split <;> omega
               · rfl)
      · refine hE3 _ _ _ ?_
        cbv
        simp only [ei]
        have hG' : Gs n (nxF ss) (lenF ss) rn i'.toNat 0 (r * 439804651110400 + i' * 2199023255552) f := by
          have e1 : k.toNat = (nxF ss m).length := by rw [enx]; omega
          rw [e1] at hG
          rw [em']
          have := gs_next hin hL hm hG
          exact ⟨this.lo, fun x hx => by have := this.ge x hx; omega, this.old, this.new, this.at_⟩
        refine hN2 (i', os) _ _ ?hx ?hi hT2
        case hx => (refine Wk.eqz (id) (by first | exact fun i _ j _ e => e | (simp only [List.length_cons, List.length_nil]; decide)) ?_; cbv; (repeat' (first | exact trivial | rfl | assumption | apply And.intro | (simp only [hz, Z.a, binStd, cmpStd, unStd, scmpStd, maxI, reduceCtorEq]; first | done | assumption) | exact RowsZ.same (by assumption) (by first | assumption | rfl) | exact FzL.mk rfl rfl rfl (by assumption) (by first | assumption | rfl) (by decide) | (refine RowsZ.one ?_; cbv))))
        case hi => exact ⟨by omega, by omega, f, hos, hG'⟩
    · refine hE2 _ _ _ ?_
      cbv
      simp only [er]
      have eb : r * 439804651110400 + L * 2199023255552 ≤ r' * 439804651110400 := by omega
      have hG' : Gr0 n (nxF ss) (lenF ss) r'.toNat (r' * 439804651110400) f := by
        have e1 : i.toNat = n := by omega
        have e2 : r'.toNat = rn + 1 := by omega
        rw [e1] at hG
        rw [e2]
        have := gs_round hin hL hG
        exact ⟨this.lo, fun x hx => by have := this.ge x hx; omega, this.up⟩
      refine hN (r', os) _ _ ?hx ?hi hT
      case hx => (refine Wk.eqz (id) (by first | exact fun i _ j _ e => e | (simp only [List.length_cons, List.length_nil]; decide)) ?_; cbv; (repeat' (first | exact trivial | rfl | assumption | apply And.intro | (simp only [hz, Z.a, binStd, cmpStd, unStd, scmpStd, maxI, reduceCtorEq]; first | done | assumption) | exact RowsZ.same (by assumption) (by first | assumption | rfl) | exact FzL.mk rfl rfl rfl (by assumption) (by first | assumption | rfl) (by decide) | (refine RowsZ.one ?_; cbv))))
      case hi => exact ⟨by omega, by omega, f, hos, hG'⟩
  · refine hE _ _ _ ?_
    cbv
    refine ⟨_, Vw.sl (es := os) rfl huo.get (by rw [hos.len]; omega), hR _ ⟨os, ?_, ?_⟩⟩
    · rw [List.drop_zero, List.take_of_length_le (by rw [hos.len]; exact Nat.le_refl _)]
    · have e1 : r.toNat = n := by omega
      rw [e1] at hG
      rw [← nL]
      exact ⟨hos.len, fun x hx => by rw [hos.at_ x hx, gs_end hin hL hG hx]⟩
end Go.Proofs.Ytpiocfmdjgbamaa

/- The least ways to a dead end, as the document has them, by the engine. -/
namespace Go.Proofs.Ytpiocfmdjgbamaa
open Go Go.RowKit Go.Eng
set_option maxRecDepth 100000
theorem Own.snoc {k : Nat} {os : List (List AV)} {f : Nat → Int} (h : Own k os f) {v : Int} (hv : v = f k) : Own (k + 1) (os ++ [[.int .i64 v]]) f := by
  refine ⟨by rw [List.length_append, h.len]; rfl, fun x hx => ?_⟩
  by_cases hxk : x = k
  · subst hxk
    rw [List.getElem?_append_right (by rw [h.len]; exact Nat.le_refl _), h.len, Nat.sub_self, hv]; rfl
  · rw [List.getElem?_append_left (by rw [h.len]; omega)]
    exact h.at_ x (by omega)
theorem Own.one {f : Nat → Int} {v : Int} (hv : v = f 0) : Own 1 [[.int .i64 v]] f := by
  refine ⟨rfl, fun x hx => ?_⟩
  obtain rfl : x = 0 := by omega
  rw [hv]; rfl
theorem J_bnd {n : Nat} {nx : Nat → List Int} {L : Nat → Int} (hin : ∀ i, i < n → ∀ j, j ∈ nx i → j.toNat < n) (hL : ∀ i, i < n → 1 ≤ L i) {M : Int} (hM : 0 ≤ M) (hl : ∀ j, j < n → L j ≤ M) : ∀ (r : Nat) {i : Nat}, i < n → J nx L r i ≤ r * M
  | 0, i, hi => by unfold J; split <;> omega
  | r + 1, i, hi => by
    have e : ((r + 1 : Nat) : Int) * M = r * M + M := by rw [Int.natCast_add, Int.add_mul]; simp
    rw [e]
    rcases fld_is (L := L) (cur := J nx L r) (l := nx i) (b := J nx L r i) with h | ⟨j, h1, h2, h3⟩
    · have := J_bnd hin hL hM hl r hi
      have h : J nx L (r + 1) i = J nx L r i := h
      omega
    · have hj := hin i hi j h1
      have := J_bnd hin hL hM hl r hj
      have h3 : J nx L (r + 1) i = J nx L r j.toNat + L j.toNat := h3
      have := hl _ hj
      omega
set_option maxHeartbeats 2000000 in
theorem e_rends (ss : List Sg) (gs : List Gr) (es ds : List (List AV)) (hes : es = ss.map sgRow) (hds : ds = gs.map grRow) (hok : TrackOk ss gs) (m : Int) (hm0 : 0 ≤ m) (hm : m.toNat = ss.length) : PCalls Try.prog 42 [.agg [.list 3 es, .list 5 ds], .int .i64 m] (fun r => ∃ os, r = .list 1 os ∧ Own ss.length os (J (nxF ss) (lenF ss) ss.length)) := by
  have hu : Up0 es := by rw [hes]; exact up_sg ss
  have hud : Up0 ds := by rw [hds]; exact up_gr gs
  (refine PCalls.ofY Try.func42 (by kernel_rfl) (by kernel_rfl) fun w hw R hR => ?_); (obtain ⟨wbin, wcmp, wun, wconv, wnot, wbeq, wmm, wscmp, wsadd, wslen, wsat, weqs, wlen, wnlen, wofNat, wtake, wdrop, wapp, wzero, wnat⟩ := w); (have hbin := Z.w1 hw); (have hcmp := Z.w2 hw); (have hun := Z.w3 hw); (have hconv := Z.w4 hw); (have hnot := Z.w5 hw); (have hbeq := Z.w6 hw); (have hmm := Z.w7 hw); (have hscmp := Z.w8 hw); (have hsadd := Z.w9 hw); (have hslen := Z.w10 hw); (have hsat := Z.w11 hw); (have heqs := Z.w12 hw); (have hlen := Z.w13 hw); (have hnlen := Z.w14 hw); (have hofNat := Z.w15 hw); (have htake := Z.w16 hw); (have hdrop := Z.w17 hw); (have happ := Z.w18 hw); (have hzero := Z.w19 hw); (have hnat := Z.w20 hw); (have hz := Z.z hw); (conv => arg 2; cbv); (generalize hP : Try.prog = P); cbv
  have hel : es.length = ss.length := by rw [hes]; simp
  have hin := nx_in hok
  have hL := len_pos hok
  (obtain ⟨L, eL, L0, Ln⟩ : ∃ L : Int, wlen es = L ∧ 0 ≤ L ∧ L.toNat = es.length := ⟨(es.length : Int), by rw [hlen], Int.natCast_nonneg _, Int.toNat_natCast _⟩)
  obtain ⟨n, en⟩ : ∃ n, L.toNat = n := ⟨_, rfl⟩
  have nL : n = ss.length := by omega
  refine Loop.data hw (S := Option (Int × List (List AV) × Nat)) (fun s => match s with | none => fr 110 [(1, .int .i64 m), (2, .ref 0 2 0 0), (5, .nils), (6, .int .i64 0)] | some (i, os, k) => fr 110 [(1, .int .i64 m), (2, .ref 0 2 0 0), (5, .sl 1 1 0 k), (6, .int .i64 i)])
    (fun s => match s with | none => [.live 2 [[.list 3 es, .list 5 ds]]] | some (i, os, k) => [.live 2 [[.list 3 es, .list 5 ds]], .live 1 os]) (fun s => match s with | none => True | some (i, os, k) => 0 < i ∧ i ≤ L ∧ i.toNat = k ∧ Own k os (J (nxF ss) (lenF ss) 0)) (fun s => match s with | none => L.toNat | some (i, os, k) => (L - i).toNat) none (by (refine Wk.eqz (id) (by first | exact fun i _ j _ e => e | (simp only [List.length_cons, List.length_nil]; decide)) ?_; cbv; (repeat' (first | exact trivial | rfl | assumption | apply And.intro | (simp only [hz, Z.a, binStd, cmpStd, unStd, scmpStd, maxI, reduceCtorEq]; first | done | assumption) | exact RowsZ.same (by assumption) (by first | assumption | rfl) | exact FzL.mk rfl rfl rfl (by assumption) (by first | assumption | rfl) (by decide) | (refine RowsZ.one ?_; cbv))))) trivial ?_
  rintro (_ | ⟨i, os, k⟩) hinv Q' hN hE hR'
  · cbv
    have e01 : wbin .add .i64 0 1 = 1 := by rw [hbin]; rfl
    (split <;> rename_i hc <;> (try (simp only [eL] at hc)) <;> (try (simp only [hz, Z.a, binStd, cmpStd, unStd, scmpStd, maxI, reduceCtorEq] at hc)) <;> (try cbv))
    · obtain ⟨⟨len, ps, nx⟩, hd, hrow⟩ := get_map (f := sgRow) (ds := ss) (i := 0) (Int.le_refl 0) (by omega)
      obtain ⟨q1, eq1⟩ : ∃ x, ps.map pcRow = x := ⟨_, rfl⟩
      obtain ⟨n1, en1⟩ : ∃ x, nx.map nxRow = x := ⟨_, rfl⟩
      have hrow : es[(0 : Int).toNat]? = some [.int .i64 len, .list 2 q1, .list 1 n1] := by rw [hes, ← eq1, ← en1]; exact hrow
      have hnl : n1.length = nx.length := by rw [← en1]; simp
      (obtain ⟨K, eK, K0, Kn⟩ : ∃ L : Int, wlen n1 = L ∧ 0 ≤ L ∧ L.toNat = n1.length := ⟨(n1.length : Int), by rw [hlen], Int.natCast_nonneg _, Int.toNat_natCast _⟩)
      refine Idx.mk [.int .i64 len, .list 2 q1, .list 1 n1] (by decide) hrow ?_
      cbv
      (split <;> rename_i h1 <;> (try (simp only [eK] at h1)) <;> (try (simp only [hz, Z.a, binStd, cmpStd, unStd, scmpStd, maxI, reduceCtorEq] at h1)) <;> (try cbv))
      · refine Ob.mk (by decide) ?_
        have hos' : Own 1 [[.int .i64 (0)]] (J (nxF ss) (lenF ss) 0) := Own.one (by
          have hd : ss[0]? = some ⟨len, ps, nx⟩ := hd
          unfold J nxF; rw [hd]
          have k0 : n1.length = 0 := by rw [← Kn]; exact Int.toNat_eq_zero.2 (by omega)
          cases nx with
          | nil => rfl
          | cons a b => rw [k0] at hnl; cases hnl)
        have huo' := hos'.up
        cbv
        simp only [e01]
        have hT1 : (L - 1).toNat < L.toNat := by omega
        refine hN (some (1, [[.int .i64 (0)]], 1)) _ _ ?hx ?hi hT1
        case hx => (refine Wk.eqz (id) (by first | exact fun i _ j _ e => e | (simp only [List.length_cons, List.length_nil]; decide)) ?_; cbv; (repeat' (first | exact trivial | rfl | assumption | apply And.intro | (simp only [hz, Z.a, binStd, cmpStd, unStd, scmpStd, maxI, reduceCtorEq]; first | done | assumption) | exact RowsZ.same (by assumption) (by first | assumption | rfl) | exact FzL.mk rfl rfl rfl (by assumption) (by first | assumption | rfl) (by decide) | (refine RowsZ.one ?_; cbv))))
        case hi => exact ⟨by decide, by omega, rfl, hos'⟩
      · refine Ob.mk (by decide) ?_
        have hos' : Own 1 [[.int .i64 (-1)]] (J (nxF ss) (lenF ss) 0) := Own.one (by
          have hd : ss[0]? = some ⟨len, ps, nx⟩ := hd
          unfold J nxF; rw [hd]
          have k0 : n1.length ≠ 0 := by rw [← Kn]; intro e; exact h1 (by have := Int.toNat_of_nonneg K0; omega)
          cases nx with
          | nil => exact absurd hnl k0
          | cons a b => rfl)
        have huo' := hos'.up
        cbv
        simp only [e01]
        have hT1 : (L - 1).toNat < L.toNat := by omega
        refine hN (some (1, [[.int .i64 (-1)]], 1)) _ _ ?hx ?hi hT1
        case hx => (refine Wk.eqz (id) (by first | exact fun i _ j _ e => e | (simp only [List.length_cons, List.length_nil]; decide)) ?_; cbv; (repeat' (first | exact trivial | rfl | assumption | apply And.intro | (simp only [hz, Z.a, binStd, cmpStd, unStd, scmpStd, maxI, reduceCtorEq]; first | done | assumption) | exact RowsZ.same (by assumption) (by first | assumption | rfl) | exact FzL.mk rfl rfl rfl (by assumption) (by first | assumption | rfl) (by decide) | (refine RowsZ.one ?_; cbv))))
        case hi => exact ⟨by decide, by omega, rfl, hos'⟩
    · exfalso; have := hok.ne; omega
  · cbv
    obtain ⟨hi0, hi1, ek, hos⟩ : 0 < i ∧ i ≤ L ∧ i.toNat = k ∧ Own k os (J (nxF ss) (lenF ss) 0) := hinv
    have huo := hos.up
    (split <;> rename_i hc <;> (try (simp only [eL] at hc)) <;> (try (simp only [hz, Z.a, binStd, cmpStd, unStd, scmpStd, maxI, reduceCtorEq] at hc)) <;> (try cbv))
    · obtain ⟨⟨len, ps, nx⟩, hd, hrow⟩ := get_map (f := sgRow) (ds := ss) (i := i) (by omega) (by omega)
      obtain ⟨q1, eq1⟩ : ∃ x, ps.map pcRow = x := ⟨_, rfl⟩
      obtain ⟨n1, en1⟩ : ∃ x, nx.map nxRow = x := ⟨_, rfl⟩
      have hrow : es[(i : Int).toNat]? = some [.int .i64 len, .list 2 q1, .list 1 n1] := by rw [hes, ← eq1, ← en1]; exact hrow
      have hnl : n1.length = nx.length := by rw [← en1]; simp
      (obtain ⟨K, eK, K0, Kn⟩ : ∃ L : Int, wlen n1 = L ∧ 0 ≤ L ∧ L.toNat = n1.length := ⟨(n1.length : Int), by rw [hlen], Int.natCast_nonneg _, Int.toNat_natCast _⟩)
      have hi00 : 0 ≤ i := by omega
      obtain ⟨i', ei'⟩ : ∃ x, i + 1 = x := ⟨_, rfl⟩
      have ei : wbin .add .i64 i 1 = i' := by rw [hbin, i_add (by have := hok.le; omega) (by have := hok.le; omega)]; exact ei'
      have hT : (L - i').toNat < (L - i).toNat := by omega
      have hle := hok.le
      refine Idx.mk [.int .i64 len, .list 2 q1, .list 1 n1] hi00 hrow ?_
      cbv
      (split <;> rename_i h1 <;> (try (simp only [eK] at h1)) <;> (try (simp only [hz, Z.a, binStd, cmpStd, unStd, scmpStd, maxI, reduceCtorEq] at h1)) <;> (try cbv))
      · obtain ⟨os', eos'⟩ : ∃ x, os ++ [[AV.int .i64 (0)]] = x := ⟨_, rfl⟩
        obtain ⟨k', ek'⟩ : ∃ x, k + 1 = x := ⟨_, rfl⟩
        have hos' : Own k' os' (J (nxF ss) (lenF ss) 0) := by
          rw [← ek', ← eos']
          refine hos.snoc ?_
          rw [ek] at hd
          unfold J nxF; rw [hd]
          have k0 : n1.length = 0 := by rw [← Kn]; exact Int.toNat_eq_zero.2 (by omega)
          cases nx with
          | nil => rfl
          | cons a b => rw [k0] at hnl; cases hnl
        have huo' := hos'.up
        refine App.mk os' k' eos'.symm (by rw [hos.len]) ek'.symm (by omega) (by omega) ?_
        cbv
        simp only [ei]
        refine hN (some (i', os', k')) _ _ ?hx ?hi hT
        case hx => (refine Wk.eqz (fun j => [0, 2].getD j 0) (by first | exact fun i _ j _ e => e | (simp only [List.length_cons, List.length_nil]; decide)) ?_; cbv; (repeat' (first | exact trivial | rfl | assumption | apply And.intro | (simp only [hz, Z.a, binStd, cmpStd, unStd, scmpStd, maxI, reduceCtorEq]; first | done | assumption) | exact RowsZ.same (by assumption) (by first | assumption | rfl) | exact FzL.mk rfl rfl rfl (by assumption) (by first | assumption | rfl) (by decide) | (refine RowsZ.one ?_; cbv))))
        case hi => exact ⟨by omega, by omega, by omega, hos'⟩
      · obtain ⟨os', eos'⟩ : ∃ x, os ++ [[AV.int .i64 (-1)]] = x := ⟨_, rfl⟩
        obtain ⟨k', ek'⟩ : ∃ x, k + 1 = x := ⟨_, rfl⟩
        have hos' : Own k' os' (J (nxF ss) (lenF ss) 0) := by
          rw [← ek', ← eos']
          refine hos.snoc ?_
          rw [ek] at hd
          unfold J nxF; rw [hd]
          have k0 : n1.length ≠ 0 := by rw [← Kn]; intro e; exact h1 (by have := Int.toNat_of_nonneg K0; omega)
          cases nx with
          | nil => exact absurd hnl k0
          | cons a b => rfl
        have huo' := hos'.up
        refine App.mk os' k' eos'.symm (by rw [hos.len]) ek'.symm (by omega) (by omega) ?_
        cbv
        simp only [ei]
        refine hN (some (i', os', k')) _ _ ?hx ?hi hT
        case hx => (refine Wk.eqz (fun j => [0, 2].getD j 0) (by first | exact fun i _ j _ e => e | (simp only [List.length_cons, List.length_nil]; decide)) ?_; cbv; (repeat' (first | exact trivial | rfl | assumption | apply And.intro | (simp only [hz, Z.a, binStd, cmpStd, unStd, scmpStd, maxI, reduceCtorEq]; first | done | assumption) | exact RowsZ.same (by assumption) (by first | assumption | rfl) | exact FzL.mk rfl rfl rfl (by assumption) (by first | assumption | rfl) (by decide) | (refine RowsZ.one ?_; cbv))))
        case hi => exact ⟨by omega, by omega, by omega, hos'⟩
    · refine hE _ _ _ ?_
      cbv
      have huo := hos.up
      have ekn : k = n := by omega
      rw [ekn] at hos
      rw [ekn]
      have hmL : m = L := by omega
      rw [hmL]
      clear hN hE hR' hc hi0 hi1 ek ekn
      rw [← nL] at hin hL
      have hn2 : n ≤ 200 := by have := hok.le; omega
      have hne := hok.ne
      have hll : ∀ j : Nat, j < n → lenF ss j ≤ 1099511627776 := fun j hj => by
        have hj : j < ss.length := by omega
        unfold lenF
        rw [List.getElem?_eq_getElem hj]
        exact (hok.seg j hj ss[j] (List.getElem?_eq_getElem hj)).le
      refine Loop.data hw (S := Int × List (List AV)) (fun s => fr 110 [(1, .int .i64 L), (2, .ref 0 2 0 0), (5, .sl 1 1 0 n), (8, .int .i64 s.1)]) (fun s => [.live 2 [[.list 3 es, .list 5 ds]], .live 1 s.2]) (fun s => 0 ≤ s.1 ∧ s.1 ≤ L ∧ Own n s.2 (J (nxF ss) (lenF ss) s.1.toNat)) (fun s => (L - s.1).toNat) (0, os) (by (refine Wk.eqz (id) (by first | exact fun i _ j _ e => e | (simp only [List.length_cons, List.length_nil]; decide)) ?_; cbv; (repeat' (first | exact trivial | rfl | assumption | apply And.intro | (simp only [hz, Z.a, binStd, cmpStd, unStd, scmpStd, maxI, reduceCtorEq]; first | done | assumption) | exact RowsZ.same (by assumption) (by first | assumption | rfl) | exact FzL.mk rfl rfl rfl (by assumption) (by first | assumption | rfl) (by decide) | (refine RowsZ.one ?_; cbv))))) ⟨Int.le_refl _, L0, hos⟩ ?_
      clear hos huo
      rintro ⟨r, os⟩ hinv Q' hN hE hR'
      have hinv : 0 ≤ r ∧ r ≤ L ∧ Own n os (J (nxF ss) (lenF ss) r.toNat) := hinv
      cbv
      obtain ⟨hr0, hr1, hos⟩ := hinv
      have huo := hos.up
      (split <;> rename_i hc <;> (try (simp only [hz, Z.a, binStd, cmpStd, unStd, scmpStd, maxI, reduceCtorEq] at hc)) <;> (try cbv))
      · obtain ⟨r', er'⟩ : ∃ x, r + 1 = x := ⟨_, rfl⟩
        have er : wbin .add .i64 r 1 = r' := by rw [hbin, i_add (by omega) (by omega)]; exact er'
        have hT : (L - r').toNat < (L - r).toNat := by omega
        obtain ⟨rn, ern⟩ : ∃ x, r.toNat = x := ⟨_, rfl⟩
        rw [ern] at hos
        have ern' : r'.toNat = rn + 1 := by omega
        have hbnd : ∀ x, x < n → -1 ≤ J (nxF ss) (lenF ss) rn x ∧ J (nxF ss) (lenF ss) rn x ≤ 219902325555200 := fun x hx => by
          have k1 := J_ge hin hL rn hx
          have k2 := J_bnd hin hL (M := 1099511627776) (by omega) hll rn hx
          exact ⟨k1, by omega⟩
        refine Loop.data hw (S := Option (Int × List (List AV) × Nat)) (fun s => match s with | none => fr 110 [(1, .int .i64 L), (2, .ref 0 2 0 0), (5, .sl 1 1 0 n), (8, .int .i64 r), (9, .nils), (10, .int .i64 0)] | some (i, fs, k) => fr 110 [(1, .int .i64 L), (2, .ref 0 2 0 0), (5, .sl 1 1 0 n), (8, .int .i64 r), (9, .sl 2 1 0 k), (10, .int .i64 i)])
          (fun s => match s with | none => [.live 2 [[.list 3 es, .list 5 ds]], .live 1 os] | some (i, fs, k) => [.live 2 [[.list 3 es, .list 5 ds]], .live 1 os, .live 1 fs]) (fun s => match s with | none => True | some (i, fs, k) => 0 < i ∧ i ≤ L ∧ i.toNat = k ∧ Own k fs (J (nxF ss) (lenF ss) (rn + 1))) (fun s => match s with | none => L.toNat | some (i, fs, k) => (L - i).toNat) none (by (refine Wk.eqz (id) (by first | exact fun i _ j _ e => e | (simp only [List.length_cons, List.length_nil]; decide)) ?_; cbv; (repeat' (first | exact trivial | rfl | assumption | apply And.intro | (simp only [hz, Z.a, binStd, cmpStd, unStd, scmpStd, maxI, reduceCtorEq]; first | done | assumption) | exact RowsZ.same (by assumption) (by first | assumption | rfl) | exact FzL.mk rfl rfl rfl (by assumption) (by first | assumption | rfl) (by decide) | (refine RowsZ.one ?_; cbv))))) trivial ?_
        rintro (_ | ⟨i, fs, k0⟩) hinv Q2 hN2 hE2 hR2
        · cbv
          have e01 : wbin .add .i64 0 1 = 1 := by rw [hbin]; rfl
          (split <;> rename_i hc2 <;> (try (simp only [eL] at hc2)) <;> (try (simp only [hz, Z.a, binStd, cmpStd, unStd, scmpStd, maxI, reduceCtorEq] at hc2)) <;> (try cbv))
          · obtain ⟨⟨len, ps, nx⟩, hd, hrow⟩ := get_map (f := sgRow) (ds := ss) (i := 0) (Int.le_refl 0) (by omega)
            obtain ⟨q1, eq1⟩ : ∃ x, ps.map pcRow = x := ⟨_, rfl⟩
            obtain ⟨n1, en1⟩ : ∃ x, nx.map nxRow = x := ⟨_, rfl⟩
            have hrow : es[(0 : Int).toNat]? = some [.int .i64 len, .list 2 q1, .list 1 n1] := by rw [hes, ← eq1, ← en1]; exact hrow
            have hnl : n1.length = nx.length := by rw [← en1]; simp
            (obtain ⟨K, eK, K0, Kn⟩ : ∃ L : Int, wlen n1 = L ∧ 0 ≤ L ∧ L.toNat = n1.length := ⟨(n1.length : Int), by rw [hlen], Int.natCast_nonneg _, Int.toNat_natCast _⟩)
            have hd : ss[0]? = some ⟨len, ps, nx⟩ := hd
            have h00 : (0 : Int) ≤ 0 := Int.le_refl 0
            have h0L : (0 : Int) < n := by omega
            have h0z : 0 + (0 : Int).toNat = 0 := rfl
            have h0n : 0 < n := by omega
            have enx : nxF ss 0 = nx := by unfold nxF; rw [hd]
            have hK2 : nx.length ≤ 2 := (hok.seg 0 (by omega) _ hd).two
            have hnx : ∀ j, j ∈ nxF ss 0 → 0 ≤ j ∧ j.toNat < n := fun j hj => by
              rw [enx] at hj
              obtain ⟨x, hx⟩ := List.mem_iff_getElem?.1 hj
              have := (hok.seg 0 (by omega) _ hd).nx x (List.getElem?_eq_some_iff.1 hx).1 j hx
              omega
            refine At.mk 0 h00 h0L h0z ?_
            cbv
            refine RowOf.mk [.int .i64 (J (nxF ss) (lenF ss) rn 0)] (hos.at_ 0 h0n) ?_
            obtain ⟨b0, eb0⟩ : ∃ x, J (nxF ss) (lenF ss) rn 0 = x := ⟨_, rfl⟩
            rw [eb0]
            cbv
            refine Loop.data hw (S := Int × Int) (fun s => fr 110 [(1, .int .i64 L), (2, .ref 0 2 0 0), (5, .sl 1 1 0 n), (8, .int .i64 r), (9, .nils), (10, .int .i64 0), (11, .int .i64 s.2), (12, .int .i64 s.1)]) (fun s => [.live 2 [[.list 3 es, .list 5 ds]], .live 1 os]) (fun s => 0 ≤ s.1 ∧ s.1 ≤ K ∧ s.2 = fld (lenF ss) (J (nxF ss) (lenF ss) rn) b0 ((nxF ss 0).take s.1.toNat)) (fun s => (K - s.1).toNat) (0, b0) (by (refine Wk.eqz (id) (by first | exact fun i _ j _ e => e | (simp only [List.length_cons, List.length_nil]; decide)) ?_; cbv; (repeat' (first | exact trivial | rfl | assumption | apply And.intro | (simp only [hz, Z.a, binStd, cmpStd, unStd, scmpStd, maxI, reduceCtorEq]; first | done | assumption) | exact RowsZ.same (by assumption) (by first | assumption | rfl) | exact FzL.mk rfl rfl rfl (by assumption) (by first | assumption | rfl) (by decide) | (refine RowsZ.one ?_; cbv))))) ⟨Int.le_refl _, K0, rfl⟩ ?_
            rintro ⟨k, best⟩ hinv Q3 hN3 hE3 hR3
            have hinv : 0 ≤ k ∧ k ≤ K ∧ best = fld (lenF ss) (J (nxF ss) (lenF ss) rn) b0 ((nxF ss 0).take k.toNat) := hinv
            cbv
            obtain ⟨hk0, hk1, hbest⟩ := hinv
            refine Idx.mk [.int .i64 len, .list 2 q1, .list 1 n1] h00 hrow ?_
            cbv
            simp only [eK]
            (split <;> rename_i hc3 <;> (try (simp only [hz, Z.a, binStd, cmpStd, unStd, scmpStd, maxI, reduceCtorEq] at hc3)) <;> (try cbv))
            · obtain ⟨j, hj, hjr⟩ := get_map (f := nxRow) (ds := nx) (i := k) hk0 (by omega)
              have hjr : n1[k.toNat]? = some [.int .i64 j] := by rw [← en1]; exact hjr
              obtain ⟨k', ek'⟩ : ∃ x, k + 1 = x := ⟨_, rfl⟩
              have ekk : wbin .add .i64 k 1 = k' := by rw [hbin, i_add (by omega) (by omega)]; exact ek'
              have hT3 : (K - k').toNat < (K - k).toNat := by omega
              have hjm : j ∈ nxF ss 0 := by rw [enx]; exact List.mem_of_getElem? hj
              have hjb := hnx j hjm
              obtain ⟨hj0, hjl0⟩ := hjb
              have hjl : j < n := by omega
              obtain ⟨jn, ejn⟩ : ∃ x, j.toNat = x := ⟨_, rfl⟩
              have hjn : jn < n := by rw [← ejn]; exact hjl0
              have hjz : 0 + j.toNat = jn := by rw [Nat.zero_add]; exact ejn
              obtain ⟨⟨len2, ps2, nx2⟩, hd2, hrow2⟩ := get_map (f := sgRow) (ds := ss) (i := j) hj0 (by omega)
              obtain ⟨q2, eq2⟩ : ∃ x, ps2.map pcRow = x := ⟨_, rfl⟩
              obtain ⟨n2, en2⟩ : ∃ x, nx2.map nxRow = x := ⟨_, rfl⟩
              have hrow2 : es[j.toNat]? = some [.int .i64 len2, .list 2 q2, .list 1 n2] := by rw [hes, ← eq2, ← en2]; exact hrow2
              have el2 : lenF ss jn = len2 := by unfold lenF; rw [← ejn, hd2]
              have hl1 := hL jn hjn
              have hl2 := hll jn hjn
              rw [el2] at hl1 hl2
              have hrj := hos.at_ jn hjn
              have hgj := hbnd jn hjn
              obtain ⟨cj, ecj⟩ : ∃ x, J (nxF ss) (lenF ss) rn jn = x := ⟨_, rfl⟩
              rw [ecj] at hrj hgj
              obtain ⟨fa, efa⟩ : ∃ x, cj + len2 = x := ⟨_, rfl⟩
              have efw : wbin .add .i64 cj len2 = fa := by rw [hbin, i_add (by omega) (by omega)]; exact efa
              have hkey : ∀ b, b = bst best cj len2 → b = fld (lenF ss) (J (nxF ss) (lenF ss) rn) b0 ((nxF ss 0).take k'.toNat) := by
                intro b hb
                have e1 : k'.toNat = k.toNat + 1 := by omega
                have e2 : (nxF ss 0)[k.toNat]? = some j := by rw [enx]; exact hj
                rw [e1, List.take_add_one, e2]
                unfold fld
                rw [Option.toList_some, List.foldl_append]
                show b = bst (fld (lenF ss) (J (nxF ss) (lenF ss) rn) b0 ((nxF ss 0).take k.toNat)) (J (nxF ss) (lenF ss) rn j.toNat) (lenF ss j.toNat)
                rw [← hbest, ejn, ecj, el2]
                exact hb
              repeat' (first
                | (simp only [efw, ekk]; cbv)
                | (simp only [efw, ekk])
                | (refine Idx.mk [.int .i64 len, .list 2 q1, .list 1 n1] h00 hrow ?_; cbv)
                | (refine Idx.mk [.int .i64 j] hk0 hjr ?_; cbv)
                | (refine Idx.mk [.int .i64 len2, .list 2 q2, .list 1 n2] hj0 hrow2 ?_; cbv)
                | (refine At.mk jn hj0 hjl hjz ?_; cbv)
                | (refine RowOf.mk [.int .i64 cj] hrj ?_; cbv)
                | (split <;> rename_i h <;> (try (simp only [efw, ekk] at h)) <;> (try (simp only [hz, Z.a, binStd, cmpStd, unStd, scmpStd, maxI, reduceCtorEq] at h)) <;> (try cbv)))
              all_goals first
                | (refine hN3 (k', fa) _ _ ?hx ?hi hT3
                   case hx => (refine Wk.eqz (id) (by first | exact fun i _ j _ e => e | (simp only [List.length_cons, List.length_nil]; decide)) ?_; cbv; (repeat' (first | exact trivial | rfl | assumption | apply And.intro | (simp only [hz, Z.a, binStd, cmpStd, unStd, scmpStd, maxI, reduceCtorEq]; first | done | assumption) | exact RowsZ.same (by assumption) (by first | assumption | rfl) | exact FzL.mk rfl rfl rfl (by assumption) (by first | assumption | rfl) (by decide) | (refine RowsZ.one ?_; cbv))))
                   case hi =>
                     refine ⟨by omega, by omega, hkey _ ?_⟩
                     unfold bst
                     split <;> omega)
                | (refine hN3 (k', best) _ _ ?hx ?hi hT3
                   case hx => (refine Wk.eqz (id) (by first | exact fun i _ j _ e => e | (simp only [List.length_cons, List.length_nil]; decide)) ?_; cbv; (repeat' (first | exact trivial | rfl | assumption | apply And.intro | (simp only [hz, Z.a, binStd, cmpStd, unStd, scmpStd, maxI, reduceCtorEq]; first | done | assumption) | exact RowsZ.same (by assumption) (by first | assumption | rfl) | exact FzL.mk rfl rfl rfl (by assumption) (by first | assumption | rfl) (by decide) | (refine RowsZ.one ?_; cbv))))
                   case hi =>
                     refine ⟨by omega, by omega, hkey _ ?_⟩
                     unfold bst
                     split <;> omega)
            · refine hE3 _ _ _ ?_
              cbv
              have hb : best = J (nxF ss) (lenF ss) (rn + 1) 0 := by
                have e1 : k.toNat = (nxF ss 0).length := by rw [enx]; omega
                rw [e1, List.take_length, ← eb0] at hbest
                exact hbest
              refine Ob.mk (by decide) ?_
              have hfs' : Own 1 [[.int .i64 best]] (J (nxF ss) (lenF ss) (rn + 1)) := Own.one hb
              have huf' := hfs'.up
              cbv
              simp only [e01]
              have hT1 : (L - 1).toNat < L.toNat := by omega
              refine hN2 (some (1, [[.int .i64 best]], 1)) _ _ ?hx ?hi hT1
              case hx => (refine Wk.eqz (id) (by first | exact fun i _ j _ e => e | (simp only [List.length_cons, List.length_nil]; decide)) ?_; cbv; (repeat' (first | exact trivial | rfl | assumption | apply And.intro | (simp only [hz, Z.a, binStd, cmpStd, unStd, scmpStd, maxI, reduceCtorEq]; first | done | assumption) | exact RowsZ.same (by assumption) (by first | assumption | rfl) | exact FzL.mk rfl rfl rfl (by assumption) (by first | assumption | rfl) (by decide) | (refine RowsZ.one ?_; cbv))))
              case hi => exact ⟨by decide, by omega, rfl, hfs'⟩
          · exfalso; omega
        · cbv
          obtain ⟨hi0, hi1, ek, hfs⟩ : 0 < i ∧ i ≤ L ∧ i.toNat = k0 ∧ Own k0 fs (J (nxF ss) (lenF ss) (rn + 1)) := hinv
          have huf := hfs.up
          (split <;> rename_i hc2 <;> (try (simp only [eL] at hc2)) <;> (try (simp only [hz, Z.a, binStd, cmpStd, unStd, scmpStd, maxI, reduceCtorEq] at hc2)) <;> (try cbv))
          · obtain ⟨⟨len, ps, nx⟩, hd, hrow⟩ := get_map (f := sgRow) (ds := ss) (i := i) (by omega) (by omega)
            obtain ⟨q1, eq1⟩ : ∃ x, ps.map pcRow = x := ⟨_, rfl⟩
            obtain ⟨n1, en1⟩ : ∃ x, nx.map nxRow = x := ⟨_, rfl⟩
            have hrow : es[(i : Int).toNat]? = some [.int .i64 len, .list 2 q1, .list 1 n1] := by rw [hes, ← eq1, ← en1]; exact hrow
            have hnl : n1.length = nx.length := by rw [← en1]; simp
            (obtain ⟨K, eK, K0, Kn⟩ : ∃ L : Int, wlen n1 = L ∧ 0 ≤ L ∧ L.toNat = n1.length := ⟨(n1.length : Int), by rw [hlen], Int.natCast_nonneg _, Int.toNat_natCast _⟩)
            have hd0 : ss[k0]? = some ⟨len, ps, nx⟩ := by rw [← ek]; exact hd
            have h00 : 0 ≤ i := by omega
            have h0L : i < n := by omega
            have h0z : 0 + i.toNat = k0 := by rw [Nat.zero_add]; exact ek
            have h0n : k0 < n := by omega
            obtain ⟨i', ei'⟩ : ∃ x, i + 1 = x := ⟨_, rfl⟩
            have ei : wbin .add .i64 i 1 = i' := by rw [hbin, i_add (by omega) (by omega)]; exact ei'
            have hT2 : (L - i').toNat < (L - i).toNat := by omega
            have enx : nxF ss k0 = nx := by unfold nxF; rw [hd0]
            have hK2 : nx.length ≤ 2 := (hok.seg k0 (by omega) _ hd0).two
            have hnx : ∀ j, j ∈ nxF ss k0 → 0 ≤ j ∧ j.toNat < n := fun j hj => by
              rw [enx] at hj
              obtain ⟨x, hx⟩ := List.mem_iff_getElem?.1 hj
              have := (hok.seg k0 (by omega) _ hd0).nx x (List.getElem?_eq_some_iff.1 hx).1 j hx
              omega
            refine At.mk k0 h00 h0L h0z ?_
            cbv
            refine RowOf.mk [.int .i64 (J (nxF ss) (lenF ss) rn k0)] (hos.at_ k0 h0n) ?_
            obtain ⟨b0, eb0⟩ : ∃ x, J (nxF ss) (lenF ss) rn k0 = x := ⟨_, rfl⟩
            rw [eb0]
            cbv
            refine Loop.data hw (S := Int × Int) (fun s => fr 110 [(1, .int .i64 L), (2, .ref 0 2 0 0), (5, .sl 1 1 0 n), (8, .int .i64 r), (9, .sl 2 1 0 k0), (10, .int .i64 i), (11, .int .i64 s.2), (12, .int .i64 s.1)]) (fun s => [.live 2 [[.list 3 es, .list 5 ds]], .live 1 os, .live 1 fs]) (fun s => 0 ≤ s.1 ∧ s.1 ≤ K ∧ s.2 = fld (lenF ss) (J (nxF ss) (lenF ss) rn) b0 ((nxF ss k0).take s.1.toNat)) (fun s => (K - s.1).toNat) (0, b0) (by (refine Wk.eqz (id) (by first | exact fun i _ j _ e => e | (simp only [List.length_cons, List.length_nil]; decide)) ?_; cbv; (repeat' (first | exact trivial | rfl | assumption | apply And.intro | (simp only [hz, Z.a, binStd, cmpStd, unStd, scmpStd, maxI, reduceCtorEq]; first | done | assumption) | exact RowsZ.same (by assumption) (by first | assumption | rfl) | exact FzL.mk rfl rfl rfl (by assumption) (by first | assumption | rfl) (by decide) | (refine RowsZ.one ?_; cbv))))) ⟨Int.le_refl _, K0, rfl⟩ ?_
            rintro ⟨k, best⟩ hinv Q3 hN3 hE3 hR3
            have hinv : 0 ≤ k ∧ k ≤ K ∧ best = fld (lenF ss) (J (nxF ss) (lenF ss) rn) b0 ((nxF ss k0).take k.toNat) := hinv
            cbv
            obtain ⟨hk0, hk1, hbest⟩ := hinv
            refine Idx.mk [.int .i64 len, .list 2 q1, .list 1 n1] h00 hrow ?_
            cbv
            simp only [eK]
            (split <;> rename_i hc3 <;> (try (simp only [hz, Z.a, binStd, cmpStd, unStd, scmpStd, maxI, reduceCtorEq] at hc3)) <;> (try cbv))
            · obtain ⟨j, hj, hjr⟩ := get_map (f := nxRow) (ds := nx) (i := k) hk0 (by omega)
              have hjr : n1[k.toNat]? = some [.int .i64 j] := by rw [← en1]; exact hjr
              obtain ⟨k', ek'⟩ : ∃ x, k + 1 = x := ⟨_, rfl⟩
              have ekk : wbin .add .i64 k 1 = k' := by rw [hbin, i_add (by omega) (by omega)]; exact ek'
              have hT3 : (K - k').toNat < (K - k).toNat := by omega
              have hjm : j ∈ nxF ss k0 := by rw [enx]; exact List.mem_of_getElem? hj
              have hjb := hnx j hjm
              obtain ⟨hj0, hjl0⟩ := hjb
              have hjl : j < n := by omega
              obtain ⟨jn, ejn⟩ : ∃ x, j.toNat = x := ⟨_, rfl⟩
              have hjn : jn < n := by rw [← ejn]; exact hjl0
              have hjz : 0 + j.toNat = jn := by rw [Nat.zero_add]; exact ejn
              obtain ⟨⟨len2, ps2, nx2⟩, hd2, hrow2⟩ := get_map (f := sgRow) (ds := ss) (i := j) hj0 (by omega)
              obtain ⟨q2, eq2⟩ : ∃ x, ps2.map pcRow = x := ⟨_, rfl⟩
              obtain ⟨n2, en2⟩ : ∃ x, nx2.map nxRow = x := ⟨_, rfl⟩
              have hrow2 : es[j.toNat]? = some [.int .i64 len2, .list 2 q2, .list 1 n2] := by rw [hes, ← eq2, ← en2]; exact hrow2
              have el2 : lenF ss jn = len2 := by unfold lenF; rw [← ejn, hd2]
              have hl1 := hL jn hjn
              have hl2 := hll jn hjn
              rw [el2] at hl1 hl2
              have hrj := hos.at_ jn hjn
              have hgj := hbnd jn hjn
              obtain ⟨cj, ecj⟩ : ∃ x, J (nxF ss) (lenF ss) rn jn = x := ⟨_, rfl⟩
              rw [ecj] at hrj hgj
              obtain ⟨fa, efa⟩ : ∃ x, cj + len2 = x := ⟨_, rfl⟩
              have efw : wbin .add .i64 cj len2 = fa := by rw [hbin, i_add (by omega) (by omega)]; exact efa
              have hkey : ∀ b, b = bst best cj len2 → b = fld (lenF ss) (J (nxF ss) (lenF ss) rn) b0 ((nxF ss k0).take k'.toNat) := by
                intro b hb
                have e1 : k'.toNat = k.toNat + 1 := by omega
                have e2 : (nxF ss k0)[k.toNat]? = some j := by rw [enx]; exact hj
                rw [e1, List.take_add_one, e2]
                unfold fld
                rw [Option.toList_some, List.foldl_append]
                show b = bst (fld (lenF ss) (J (nxF ss) (lenF ss) rn) b0 ((nxF ss k0).take k.toNat)) (J (nxF ss) (lenF ss) rn j.toNat) (lenF ss j.toNat)
                rw [← hbest, ejn, ecj, el2]
                exact hb
              repeat' (first
                | (simp only [efw, ekk]; cbv)
                | (simp only [efw, ekk])
                | (refine Idx.mk [.int .i64 len, .list 2 q1, .list 1 n1] h00 hrow ?_; cbv)
                | (refine Idx.mk [.int .i64 j] hk0 hjr ?_; cbv)
                | (refine Idx.mk [.int .i64 len2, .list 2 q2, .list 1 n2] hj0 hrow2 ?_; cbv)
                | (refine At.mk jn hj0 hjl hjz ?_; cbv)
                | (refine RowOf.mk [.int .i64 cj] hrj ?_; cbv)
                | (split <;> rename_i h <;> (try (simp only [efw, ekk] at h)) <;> (try (simp only [hz, Z.a, binStd, cmpStd, unStd, scmpStd, maxI, reduceCtorEq] at h)) <;> (try cbv)))
              all_goals first
                | (refine hN3 (k', fa) _ _ ?hx ?hi hT3
                   case hx => (refine Wk.eqz (id) (by first | exact fun i _ j _ e => e | (simp only [List.length_cons, List.length_nil]; decide)) ?_; cbv; (repeat' (first | exact trivial | rfl | assumption | apply And.intro | (simp only [hz, Z.a, binStd, cmpStd, unStd, scmpStd, maxI, reduceCtorEq]; first | done | assumption) | exact RowsZ.same (by assumption) (by first | assumption | rfl) | exact FzL.mk rfl rfl rfl (by assumption) (by first | assumption | rfl) (by decide) | (refine RowsZ.one ?_; cbv))))
                   case hi =>
                     refine ⟨by omega, by omega, hkey _ ?_⟩
                     unfold bst
                     split <;> omega)
                | (refine hN3 (k', best) _ _ ?hx ?hi hT3
                   case hx => (refine Wk.eqz (id) (by first | exact fun i _ j _ e => e | (simp only [List.length_cons, List.length_nil]; decide)) ?_; cbv; (repeat' (first | exact trivial | rfl | assumption | apply And.intro | (simp only [hz, Z.a, binStd, cmpStd, unStd, scmpStd, maxI, reduceCtorEq]; first | done | assumption) | exact RowsZ.same (by assumption) (by first | assumption | rfl) | exact FzL.mk rfl rfl rfl (by assumption) (by first | assumption | rfl) (by decide) | (refine RowsZ.one ?_; cbv))))
                   case hi =>
                     refine ⟨by omega, by omega, hkey _ ?_⟩
                     unfold bst
                     split <;> omega)
            · refine hE3 _ _ _ ?_
              cbv
              have hb : best = J (nxF ss) (lenF ss) (rn + 1) k0 := by
                have e1 : k.toNat = (nxF ss k0).length := by rw [enx]; omega
                rw [e1, List.take_length, ← eb0] at hbest
                exact hbest
              obtain ⟨fs', efs'⟩ : ∃ x, fs ++ [[AV.int .i64 best]] = x := ⟨_, rfl⟩
              obtain ⟨k', ek'⟩ : ∃ x, k0 + 1 = x := ⟨_, rfl⟩
              have hfs' : Own k' fs' (J (nxF ss) (lenF ss) (rn + 1)) := by
                rw [← ek', ← efs']
                exact hfs.snoc hb
              have huf' := hfs'.up
              refine App.mk fs' k' efs'.symm (by rw [hfs.len]) ek'.symm (by omega) (by omega) ?_
              cbv
              simp only [ei]
              refine hN2 (some (i', fs', k')) _ _ ?hx ?hi hT2
              case hx => (refine Wk.eqz (fun j => [0, 1, 3].getD j 0) (by first | exact fun i _ j _ e => e | (simp only [List.length_cons, List.length_nil]; decide)) ?_; cbv; (repeat' (first | exact trivial | rfl | assumption | apply And.intro | (simp only [hz, Z.a, binStd, cmpStd, unStd, scmpStd, maxI, reduceCtorEq]; first | done | assumption) | exact RowsZ.same (by assumption) (by first | assumption | rfl) | exact FzL.mk rfl rfl rfl (by assumption) (by first | assumption | rfl) (by decide) | (refine RowsZ.one ?_; cbv))))
              case hi => exact ⟨by omega, by omega, by omega, hfs'⟩
          · refine hE2 _ _ _ ?_
            cbv
            simp only [er]
            have ekn : k0 = n := by omega
            rw [ekn] at hfs
            rw [ekn]
            refine hN (r', fs) _ _ ?hx ?hi hT
            case hx => (refine Wk.eqz (fun j => [0, 2].getD j 0) (by first | exact fun i _ j _ e => e | (simp only [List.length_cons, List.length_nil]; decide)) ?_; cbv; (repeat' (first | exact trivial | rfl | assumption | apply And.intro | (simp only [hz, Z.a, binStd, cmpStd, unStd, scmpStd, maxI, reduceCtorEq]; first | done | assumption) | exact RowsZ.same (by assumption) (by first | assumption | rfl) | exact FzL.mk rfl rfl rfl (by assumption) (by first | assumption | rfl) (by decide) | (refine RowsZ.one ?_; cbv))))
            case hi => exact ⟨by omega, by omega, by rw [ern']; exact hfs⟩
      · refine hE _ _ _ ?_
        cbv
        refine ⟨_, Vw.sl (es := os) rfl huo.get (by rw [hos.len]; omega), hR _ ⟨os, ?_, ?_⟩⟩
        · rw [List.drop_zero, List.take_of_length_le (by rw [hos.len]; exact Nat.le_refl _)]
        · have e1 : r.toNat = n := by omega
          rw [e1] at hos
          rw [← nL]
          exact hos
end Go.Proofs.Ytpiocfmdjgbamaa

/- Numbers of 128 bits: products and how they compare, by the engine. -/
namespace Go.Proofs.Ytpiocfmdjgbamaa
open Go Go.RowKit Go.Eng
set_option maxRecDepth 100000
theorem u_mul {x y : Int} (h0 : 0 ≤ x * y) (h1 : x * y < 18446744073709551616) : binStd .mul .u64 x y = x * y := by
  show IntKind.u64.wrap (x * y) = _; rw [IntKind.wrap_u64]; omega
theorem u_add {x y : Int} (h0 : 0 ≤ x + y) (h1 : x + y < 18446744073709551616) : binStd .add .u64 x y = x + y := by
  show IntKind.u64.wrap (x + y) = _; rw [IntKind.wrap_u64]; omega
theorem u_shr {x : Int} : binStd .shr .u64 x 32 = x / 4294967296 := by
  show x.fdiv (2 ^ (min (32 : Int).toNat 64)) = _
  rw [show (2 : Int) ^ (min (32 : Int).toNat 64) = 4294967296 by decide, Int.fdiv_eq_ediv_of_nonneg _ (by decide)]
theorem u_shl {x : Int} : binStd .shl .u64 x 32 = x * 4294967296 % 18446744073709551616 := by
  show IntKind.u64.wrap (x * 2 ^ (min (32 : Int).toNat 64)) = _
  rw [show (2 : Int) ^ (min (32 : Int).toNat 64) = 4294967296 by decide, IntKind.wrap_u64]
theorem bv_int {x : Int} (h0 : 0 ≤ x) (h1 : x < 18446744073709551616) : (BitVec.ofInt 64 x).toNat = x.toNat := by
  rw [BitVec.toNat_ofInt]
  show (x % 18446744073709551616).toNat = _
  rw [Int.emod_eq_of_lt h0 h1]
theorem u_and {x : Int} (h0 : 0 ≤ x) (h1 : x < 18446744073709551616) : binStd .and .u64 x 4294967295 = x % 4294967296 := by
  show IntKind.u64.wrap ((BitVec.ofInt 64 x &&& BitVec.ofInt 64 4294967295).toNat : Int) = _
  rw [BitVec.toNat_and, bv_int h0 h1, bv_int (by decide) (by decide)]
  have : x.toNat &&& (4294967295 : Int).toNat = x.toNat % 4294967296 := Nat.and_two_pow_sub_one_eq_mod x.toNat 32
  rw [this, IntKind.wrap_u64]
  omega
theorem u_or {q i : Nat} {y : Int} (hy0 : 0 ≤ y) (hy : y < 2 ^ i) (hb : (2 : Int) ^ i * q + y < 18446744073709551616) : binStd .or .u64 (2 ^ i * q) y = 2 ^ i * q + y := by
  have hp : (2 : Int) ^ i * q = ((2 ^ i * q : Nat) : Int) := by push_cast; rfl
  have h0 : (0 : Int) ≤ 2 ^ i * q := by rw [hp]; exact Int.natCast_nonneg _
  obtain ⟨n, rfl⟩ := Int.eq_ofNat_of_zero_le hy0
  have hn : n < 2 ^ i := by
    have : (n : Int) < ((2 ^ i : Nat) : Int) := by push_cast; exact hy
    exact Int.ofNat_lt.1 this
  show IntKind.u64.wrap ((BitVec.ofInt 64 (2 ^ i * q) ||| BitVec.ofInt 64 n).toNat : Int) = _
  rw [BitVec.toNat_or, bv_int h0 (by omega), bv_int hy0 (by omega), hp]
  have : (((2 ^ i * q : Nat) : Int)).toNat ||| ((n : Nat) : Int).toNat = 2 ^ i * q + n := by
    rw [Int.toNat_natCast, Int.toNat_natCast]
    exact (Nat.two_pow_add_eq_or_of_lt hn q).symm
  rw [this, IntKind.wrap_u64]
  have e : ((2 ^ i * q + n : Nat) : Int) = ((2 ^ i * q : Nat) : Int) + n := by push_cast; rfl
  rw [e, ← hp]
  omega
theorem mul_split {a1 a0 b1 b0 : Int} : (a1 * 4294967296 + a0) * (b1 * 4294967296 + b0) = a1 * b1 * 18446744073709551616 + (a1 * b0 + a0 * b1) * 4294967296 + a0 * b0 := by
  rw [Int.add_mul, Int.mul_add, Int.mul_add, Int.add_mul, show a1 * 4294967296 * (b1 * 4294967296) = a1 * b1 * 18446744073709551616 by rw [Int.mul_assoc, Int.mul_left_comm 4294967296, ← Int.mul_assoc, ← Int.mul_assoc, Int.mul_assoc]; rfl, show a1 * 4294967296 * b0 = a1 * b0 * 4294967296 by rw [Int.mul_assoc, Int.mul_comm 4294967296, ← Int.mul_assoc], ← Int.mul_assoc a0]
  omega
theorem small_mul {x y : Int} (h0 : 0 ≤ x) (h1 : x < 4294967296) (k0 : 0 ≤ y) (k1 : y < 4294967296) : 0 ≤ x * y ∧ x * y ≤ 4294967295 * 4294967295 :=
  ⟨Int.mul_nonneg h0 k0, Int.mul_le_mul (by omega) (by omega) k0 (by decide)⟩
theorem e_mul {a b h l : Int} (ha0 : 0 ≤ a) (ha1 : a < 18446744073709551616) (hb0 : 0 ≤ b) (hb1 : b < 18446744073709551616) (hh : a * b / 18446744073709551616 = h) (hl : a * b % 18446744073709551616 = l) : PCalls Try.prog 114 [.int .u64 a, .int .u64 b] (· = .agg [.int .u64 h, .int .u64 l]) := by
  (refine PCalls.ofY Try.func114 (by kernel_rfl) (by kernel_rfl) fun w hw R hR => ?_); (obtain ⟨wbin, wcmp, wun, wconv, wnot, wbeq, wmm, wscmp, wsadd, wslen, wsat, weqs, wlen, wnlen, wofNat, wtake, wdrop, wapp, wzero, wnat⟩ := w); (have hbin := Z.w1 hw); (have hcmp := Z.w2 hw); (have hun := Z.w3 hw); (have hconv := Z.w4 hw); (have hnot := Z.w5 hw); (have hbeq := Z.w6 hw); (have hmm := Z.w7 hw); (have hscmp := Z.w8 hw); (have hsadd := Z.w9 hw); (have hslen := Z.w10 hw); (have hsat := Z.w11 hw); (have heqs := Z.w12 hw); (have hlen := Z.w13 hw); (have hnlen := Z.w14 hw); (have hofNat := Z.w15 hw); (have htake := Z.w16 hw); (have hdrop := Z.w17 hw); (have happ := Z.w18 hw); (have hzero := Z.w19 hw); (have hnat := Z.w20 hw); (have hz := Z.z hw); (conv => arg 2; cbv); (generalize hP : Try.prog = P); cbv
  repeat (refine Nn.mk (by decide) ?_; try cbv)
  refine ⟨_, Vw.same rfl, hR _ ?_⟩
  obtain ⟨a1, ea1⟩ : ∃ x, a / 4294967296 = x := ⟨_, rfl⟩
  obtain ⟨a0, ea0⟩ : ∃ x, a % 4294967296 = x := ⟨_, rfl⟩
  obtain ⟨b1, eb1⟩ : ∃ x, b / 4294967296 = x := ⟨_, rfl⟩
  obtain ⟨b0, eb0⟩ : ∃ x, b % 4294967296 = x := ⟨_, rfl⟩
  have eab : a * b = a1 * b1 * 18446744073709551616 + (a1 * b0 + a0 * b1) * 4294967296 + a0 * b0 := by
    rw [← mul_split]; congr 1 <;> omega
  obtain ⟨p0, p1⟩ := small_mul (x := a0) (y := b0) (by omega) (by omega) (by omega) (by omega)
  obtain ⟨q0, q1⟩ := small_mul (x := a1) (y := b0) (by omega) (by omega) (by omega) (by omega)
  obtain ⟨r0, r1⟩ := small_mul (x := a0) (y := b1) (by omega) (by omega) (by omega) (by omega)
  obtain ⟨s0, s1⟩ := small_mul (x := a1) (y := b1) (by omega) (by omega) (by omega) (by omega)
  show AV.agg _ = AV.agg _
  simp only [hbin, u_shr, u_and ha0 ha1, u_and hb0 hb1, ea1, ea0, eb1, eb0]
  rw [u_mul p0 (by omega), u_mul q0 (by omega), u_mul r0 (by omega), u_mul s0 (by omega)]
  generalize a0 * b0 = p at *
  generalize a1 * b0 = q at *
  generalize a0 * b1 = r at *
  generalize a1 * b1 = s at *
  rw [u_add (x := q) (y := p / 4294967296) (by omega) (by omega)]
  rw [u_and (x := q + p / 4294967296) (by omega) (by omega), u_and (x := p) (by omega) (by omega)]
  rw [u_add (x := r) (y := (q + p / 4294967296) % 4294967296) (by omega) (by omega)]
  rw [u_shl]
  obtain ⟨m, em⟩ : ∃ x, q + p / 4294967296 = x := ⟨_, rfl⟩
  rw [em]
  obtain ⟨n, en⟩ : ∃ x, r + m % 4294967296 = x := ⟨_, rfl⟩
  rw [en]
  rw [u_add (x := s) (y := m / 4294967296) (by omega) (by omega)]
  rw [u_add (x := s + m / 4294967296) (y := n / 4294967296) (by omega) (by omega)]
  have e1 : n * 4294967296 % 18446744073709551616 = 2 ^ 32 * ((n % 4294967296).toNat : Int) := by omega
  rw [e1, u_or (by omega) (by omega) (by omega)]
  have hA : s + m / 4294967296 + n / 4294967296 = h := by omega
  have hB : 2 ^ 32 * ((n % 4294967296).toNat : Int) + p % 4294967296 = l := by omega
  rw [hA, hB]
end Go.Proofs.Ytpiocfmdjgbamaa

/- Numbers of 128 bits: how they compare, and the root, by the engine. -/
namespace Go.Proofs.Ytpiocfmdjgbamaa
open Go Go.RowKit Go.Eng
set_option maxRecDepth 100000
theorem e_cmp {xh xl yh yl c : Int} (h1 : 0 ≤ xl) (h2 : xl < 18446744073709551616) (h3 : 0 ≤ yl) (h4 : yl < 18446744073709551616) (hc : (xh * 18446744073709551616 + xl < yh * 18446744073709551616 + yl ∧ c = -1) ∨ (xh * 18446744073709551616 + xl = yh * 18446744073709551616 + yl ∧ c = 0) ∨ (yh * 18446744073709551616 + yl < xh * 18446744073709551616 + xl ∧ c = 1)) : PCalls Try.prog 130 [.agg [.int .u64 xh, .int .u64 xl], .agg [.int .u64 yh, .int .u64 yl]] (· = .int .i64 c) := by
  (refine PCalls.ofY Try.func130 (by kernel_rfl) (by kernel_rfl) fun w hw R hR => ?_); (obtain ⟨wbin, wcmp, wun, wconv, wnot, wbeq, wmm, wscmp, wsadd, wslen, wsat, weqs, wlen, wnlen, wofNat, wtake, wdrop, wapp, wzero, wnat⟩ := w); (have hbin := Z.w1 hw); (have hcmp := Z.w2 hw); (have hun := Z.w3 hw); (have hconv := Z.w4 hw); (have hnot := Z.w5 hw); (have hbeq := Z.w6 hw); (have hmm := Z.w7 hw); (have hscmp := Z.w8 hw); (have hsadd := Z.w9 hw); (have hslen := Z.w10 hw); (have hsat := Z.w11 hw); (have heqs := Z.w12 hw); (have hlen := Z.w13 hw); (have hnlen := Z.w14 hw); (have hofNat := Z.w15 hw); (have htake := Z.w16 hw); (have hdrop := Z.w17 hw); (have happ := Z.w18 hw); (have hzero := Z.w19 hw); (have hnat := Z.w20 hw); (have hz := Z.z hw); (conv => arg 2; cbv); (generalize hP : Try.prog = P); cbv
  repeat' (split <;> rename_i h <;> (try (simp only [hz, Z.a, binStd, cmpStd, unStd, scmpStd, maxI, reduceCtorEq] at h)) <;> (try cbv))
  all_goals
    refine ⟨_, Vw.same rfl, hR _ (congrArg (AV.int .i64) ?_)⟩
    simp [eqOffs, eqA] at *
    omega
theorem root_uniq {r s X : Int} (hr0 : 0 ≤ r) (hr : r * r ≤ X) (hr2 : X < (r + 1) * (r + 1)) (hs0 : 0 ≤ s) (hs : s * s ≤ X) (hs2 : X < (s + 1) * (s + 1)) : s = r := by
  have a : ¬ r + 1 ≤ s := fun h => by
    have : (r + 1) * (r + 1) ≤ s * s := Int.mul_le_mul h h (by omega) (by omega)
    omega
  have b : ¬ s + 1 ≤ r := fun h => by
    have : (s + 1) * (s + 1) ≤ r * r := Int.mul_le_mul h h (by omega) (by omega)
    omega
  omega
theorem pow_le63 {k : Nat} (h : k ≤ 63) : (2 : Int) ^ k ≤ 9223372036854775808 := by
  have : (2 : Nat) ^ k ≤ 2 ^ 63 := Nat.pow_le_pow_right (by decide) h
  have e : ((2 ^ k : Nat) : Int) ≤ ((2 ^ 63 : Nat) : Int) := Int.ofNat_le.2 this
  simpa using e
theorem u_one {i : Int} (h0 : 0 ≤ i) (h1 : i ≤ 63) : binStd .shl .u64 1 (IntKind.u64.wrap i) = 2 ^ i.toNat := by
  have e : IntKind.u64.wrap i = i := by rw [IntKind.wrap_u64]; omega
  rw [e]
  show IntKind.u64.wrap (1 * 2 ^ (min i.toNat 64)) = _
  rw [show min i.toNat 64 = i.toNat by omega, Int.one_mul, IntKind.wrap_u64]
  have := pow_le63 (k := i.toNat) (by omega)
  have : (0 : Int) < 2 ^ i.toNat := Int.pow_pos (by decide)
  omega
structure Rt where
  i : Int
  r : Int
def RtOk (X i r : Int) : Prop := -1 ≤ i ∧ i ≤ 63 ∧ 0 ≤ r ∧ (∃ q : Nat, r = 2 ^ (i + 1).toNat * q) ∧ r * r ≤ X ∧ X < (r + 2 ^ (i + 1).toNat) * (r + 2 ^ (i + 1).toNat) ∧ r + 2 ^ (i + 1).toNat ≤ 18446744073709551616
theorem RtOk.start {X : Int} (h0 : 0 ≤ X) (h1 : X < 340282366920938463463374607431768211456) : RtOk X 63 0 := by
  refine ⟨by decide, by decide, by decide, ⟨0, by simp⟩, by simpa using h0, ?_, by decide⟩
  show X < (0 + 2 ^ 64) * (0 + 2 ^ 64)
  omega
theorem RtOk.next {X i r : Int} (h : RtOk X i r) (hi : 0 ≤ i) : ∃ n, binStd .or .u64 r (binStd .shl .u64 1 (IntKind.u64.wrap i)) = n ∧ 0 ≤ n ∧ n < 18446744073709551616 ∧ (n * n ≤ X → RtOk X (i - 1) n) ∧ (X < n * n → RtOk X (i - 1) r) := by
  obtain ⟨h1, h2, h3, ⟨q, hq⟩, h4, h5, h6⟩ := h
  rw [u_one hi h2]
  have ek : (i + 1).toNat = i.toNat + 1 := by omega
  rw [ek] at hq h5 h6
  have ew : (2 : Int) ^ (i.toNat + 1) = 2 * 2 ^ i.toNat := by rw [Int.pow_succ, Int.mul_comm]
  have hw0 : (0 : Int) < 2 ^ i.toNat := Int.pow_pos (by decide)
  refine ⟨r + 2 ^ i.toNat, ?_, by omega, by omega, fun h => ⟨by omega, by omega, by omega, ?_, h, ?_, ?_⟩, fun h => ⟨by omega, by omega, h3, ?_, h4, ?_, ?_⟩⟩
  · rw [hq]
    exact u_or (by omega) (by omega) (by rw [← hq]; omega)
  · refine ⟨2 * q + 1, ?_⟩
    rw [show (i - 1 + 1).toNat = i.toNat by omega, hq, ew]
    push_cast
    rw [Int.mul_add, Int.mul_one, Int.mul_comm 2, Int.mul_assoc]
  · rw [show (i - 1 + 1).toNat = i.toNat by omega]
    rw [show r + 2 ^ i.toNat + 2 ^ i.toNat = r + 2 ^ (i.toNat + 1) by omega]
    exact h5
  · rw [show (i - 1 + 1).toNat = i.toNat by omega]
    omega
  · refine ⟨2 * q, ?_⟩
    rw [show (i - 1 + 1).toNat = i.toNat by omega, hq, ew]
    push_cast
    rw [Int.mul_comm 2, Int.mul_assoc]
  · rw [show (i - 1 + 1).toNat = i.toNat by omega]
    exact h
  · rw [show (i - 1 + 1).toNat = i.toNat by omega]
    omega
theorem RtOk.fin {X i r : Int} (h : RtOk X i r) (hi : i < 0) : 0 ≤ r ∧ r * r ≤ X ∧ X < (r + 1) * (r + 1) := by
  obtain ⟨h1, h2, h3, _, h4, h5, h6⟩ := h
  have : (i + 1).toNat = 0 := by omega
  rw [this] at h5
  exact ⟨h3, h4, by simpa using h5⟩
theorem e_root (xh xl r : Int) (h1 : 0 ≤ xl) (h2 : xl < 18446744073709551616) (h3 : 0 ≤ xh) (h4 : xh < 18446744073709551616) (hr0 : 0 ≤ r) (hr : r * r ≤ xh * 18446744073709551616 + xl) (hr2 : xh * 18446744073709551616 + xl < (r + 1) * (r + 1)) : PCalls Try.prog 115 [.agg [.int .u64 xh, .int .u64 xl]] (· = .int .u64 r) := by
  (refine PCalls.ofY Try.func115 (by kernel_rfl) (by kernel_rfl) fun w hw R hR => ?_); (obtain ⟨wbin, wcmp, wun, wconv, wnot, wbeq, wmm, wscmp, wsadd, wslen, wsat, weqs, wlen, wnlen, wofNat, wtake, wdrop, wapp, wzero, wnat⟩ := w); (have hbin := Z.w1 hw); (have hcmp := Z.w2 hw); (have hun := Z.w3 hw); (have hconv := Z.w4 hw); (have hnot := Z.w5 hw); (have hbeq := Z.w6 hw); (have hmm := Z.w7 hw); (have hscmp := Z.w8 hw); (have hsadd := Z.w9 hw); (have hslen := Z.w10 hw); (have hsat := Z.w11 hw); (have heqs := Z.w12 hw); (have hlen := Z.w13 hw); (have hnlen := Z.w14 hw); (have hofNat := Z.w15 hw); (have htake := Z.w16 hw); (have hdrop := Z.w17 hw); (have happ := Z.w18 hw); (have hzero := Z.w19 hw); (have hnat := Z.w20 hw); (have hz := Z.z hw); (conv => arg 2; cbv); (generalize hP : Try.prog = P); cbv
  obtain ⟨X, eX⟩ : ∃ x, xh * 18446744073709551616 + xl = x := ⟨_, rfl⟩
  rw [eX] at hr hr2
  refine Loop.data hw (S := Rt) (fun s => fr 23 [(1, .ref 0 2 0 0), (3, .int .u64 s.r), (4, .int .i64 s.i)]) (fun s => [.live 2 [[.int .u64 xh, .int .u64 xl]]])
    (fun s => RtOk X s.i s.r) (fun s => (s.i + 1).toNat) ⟨63, 0⟩ (by (refine Wk.eqs ?_; cbv; (repeat' (first | exact trivial | rfl | assumption | apply And.intro | (simp only [hz, Z.a, binStd, cmpStd, unStd, scmpStd, maxI, reduceCtorEq]; first | done | assumption) | exact RowsX.same (by assumption) (by first | assumption | rfl) | (refine RowsX.one ?_; cbv))))) (RtOk.start (by omega) (by omega)) ?_
  rintro ⟨i, s⟩ hinv Q' hN hE hR'
  have hinv : RtOk X i s := hinv
  cbv
  (split <;> rename_i hc <;> (try (simp only [hz, Z.a, binStd, cmpStd, unStd, scmpStd, maxI, reduceCtorEq] at hc)) <;> (try cbv))
  · obtain ⟨n, en, hn0, hn1, hy, hno⟩ := hinv.next hc
    have hi1 : i ≤ 63 := hinv.2.1
    obtain ⟨i', ei'⟩ : ∃ x, i - 1 = x := ⟨_, rfl⟩
    rw [ei'] at hy hno
    have hT : (i' + 1).toNat < (i + 1).toNat := by omega
    have ei : wbin .sub .i64 i 1 = i' := by rw [hbin]; show IntKind.i64.wrap (i - 1) = _; rw [IntKind.wrap_i64]; omega
    have enn : wbin .or .u64 s (wbin .shl .u64 1 (wconv .u64 i)) = n := by rw [hbin, hconv]; exact en
    refine Nn.mk (by rw [hconv]; show 0 ≤ IntKind.u64.wrap i; rw [IntKind.wrap_u64]; omega) ?_
    simp only [enn]
    obtain ⟨mh, emh⟩ : ∃ x, n * n / 18446744073709551616 = x := ⟨_, rfl⟩
    obtain ⟨ml, eml⟩ : ∃ x, n * n % 18446744073709551616 = x := ⟨_, rfl⟩
    refine QCal.stepE (by rw [← hP]; exact e_mul hn0 hn1 hn0 hn1 emh eml) rfl ?_
    cbv
    obtain ⟨c, ec⟩ : ∃ c : Int, (mh * 18446744073709551616 + ml < xh * 18446744073709551616 + xl ∧ c = -1) ∨ (mh * 18446744073709551616 + ml = xh * 18446744073709551616 + xl ∧ c = 0) ∨ (xh * 18446744073709551616 + xl < mh * 18446744073709551616 + ml ∧ c = 1) := by
      rcases Int.lt_trichotomy (mh * 18446744073709551616 + ml) (xh * 18446744073709551616 + xl) with h | h | h
      · exact ⟨_, .inl ⟨h, rfl⟩⟩
      · exact ⟨_, .inr (.inl ⟨h, rfl⟩)⟩
      · exact ⟨_, .inr (.inr ⟨h, rfl⟩)⟩
    have esq : n * n = mh * 18446744073709551616 + ml := by omega
    refine QCal.stepE (by rw [← hP]; exact e_cmp (by omega) (by omega) h1 h2 ec) rfl ?_
    cbv
    (split <;> rename_i h <;> (try (simp only [hz, Z.a, binStd, cmpStd, unStd, scmpStd, maxI, reduceCtorEq] at h)) <;> (try cbv))
    · have hy := hy (by omega)
      cbv
      (refine hN ⟨i', n⟩ _ _ ?hx ?hi ?ht; (case hx => (refine Wk.eqs ?_; cbv; (repeat' (first | exact trivial | rfl | assumption | apply And.intro | (simp only [hz, Z.a, binStd, cmpStd, unStd, scmpStd, maxI, reduceCtorEq]; first | done | assumption) | exact RowsX.same (by assumption) (by first | assumption | rfl) | (refine RowsX.one ?_; cbv))))); (case hi => exact hy); (case ht => exact hT))
    · have hno := hno (by omega)
      (refine hN ⟨i', s⟩ _ _ ?hx ?hi ?ht; (case hx => (refine Wk.eqs ?_; cbv; (repeat' (first | exact trivial | rfl | assumption | apply And.intro | (simp only [hz, Z.a, binStd, cmpStd, unStd, scmpStd, maxI, reduceCtorEq]; first | done | assumption) | exact RowsX.same (by assumption) (by first | assumption | rfl) | (refine RowsX.one ?_; cbv))))); (case hi => exact hno); (case ht => exact hT))
  · refine hE _ _ _ ?_
    cbv
    obtain ⟨k1, k2, k3⟩ := hinv.fin hc
    refine ⟨_, Vw.same rfl, hR _ (congrArg (AV.int .u64) (root_uniq hr0 hr hr2 k1 k2 k3))⟩
end Go.Proofs.Ytpiocfmdjgbamaa

/- Roots, and how fast a train may go, by the engine. -/
namespace Go.Proofs.Ytpiocfmdjgbamaa
open Go Go.RowKit Go.Eng
set_option maxRecDepth 100000
def RootIs (X r : Int) : Prop := 0 ≤ r ∧ r * r ≤ X ∧ X < (r + 1) * (r + 1)
theorem root_ex (n : Nat) : ∃ r, RootIs n r := by
  induction n with
  | zero => exact ⟨0, by decide, by decide, by decide⟩
  | succ n ih =>
    obtain ⟨r, h0, h1, h2⟩ := ih
    by_cases h : (r + 1) * (r + 1) ≤ ((n + 1 : Nat) : Int)
    · refine ⟨r + 1, by omega, h, ?_⟩
      have : (r + 1 + 1) * (r + 1 + 1) = (r + 1) * (r + 1) + 2 * (r + 1) + 1 := by rw [Int.mul_add, Int.add_mul]; omega
      omega
    · exact ⟨r, h0, by omega, by omega⟩
theorem root_get {X : Int} (h : 0 ≤ X) : ∃ r, RootIs X r := by
  obtain ⟨n, rfl⟩ := Int.eq_ofNat_of_zero_le h
  exact root_ex n
theorem root_lt {X r b : Int} (h : RootIs X r) (hb : 0 ≤ b) (hX : X < b * b) : r < b := by
  obtain ⟨h0, h1, h2⟩ := h
  apply Int.lt_of_not_ge
  intro hge
  have : b * b ≤ r * r := Int.mul_le_mul hge hge hb (by omega)
  omega
theorem e_rroot {a b r : Int} (ha0 : 0 ≤ a) (ha1 : a < 9223372036854775808) (hb0 : 0 ≤ b) (hb1 : b < 9223372036854775808) (hr : RootIs (a * b) r) : PCalls Try.prog 95 [.int .i64 a, .int .i64 b] (· = .tuple [.int .i64 r, .int .i64 0]) := by
  (refine PCalls.ofY Try.func95 (by kernel_rfl) (by kernel_rfl) fun w hw R hR => ?_); (obtain ⟨wbin, wcmp, wun, wconv, wnot, wbeq, wmm, wscmp, wsadd, wslen, wsat, weqs, wlen, wnlen, wofNat, wtake, wdrop, wapp, wzero, wnat⟩ := w); (have hbin := Z.w1 hw); (have hcmp := Z.w2 hw); (have hun := Z.w3 hw); (have hconv := Z.w4 hw); (have hnot := Z.w5 hw); (have hbeq := Z.w6 hw); (have hmm := Z.w7 hw); (have hscmp := Z.w8 hw); (have hsadd := Z.w9 hw); (have hslen := Z.w10 hw); (have hsat := Z.w11 hw); (have heqs := Z.w12 hw); (have hlen := Z.w13 hw); (have hnlen := Z.w14 hw); (have hofNat := Z.w15 hw); (have htake := Z.w16 hw); (have hdrop := Z.w17 hw); (have happ := Z.w18 hw); (have hzero := Z.w19 hw); (have hnat := Z.w20 hw); (have hz := Z.z hw); (conv => arg 2; cbv); (generalize hP : Try.prog = P); cbv
  have hab0 : 0 ≤ a * b := Int.mul_nonneg ha0 hb0
  have hab1 : a * b ≤ 9223372036854775807 * 9223372036854775807 := Int.mul_le_mul (by omega) (by omega) hb0 (by decide)
  have hr1 : r < 9223372036854775808 := root_lt hr (by decide) (by omega)
  obtain ⟨h0, h1, h2⟩ := hr
  (split <;> rename_i h <;> (try (simp only [hz, Z.a, binStd, cmpStd, unStd, scmpStd, maxI, reduceCtorEq] at h)) <;> (try cbv))
  · exfalso; omega
  (split <;> rename_i h <;> (try (simp only [hz, Z.a, binStd, cmpStd, unStd, scmpStd, maxI, reduceCtorEq] at h)) <;> (try cbv))
  · exfalso; omega
  have ca : wconv .u64 a = a := by rw [hconv]; show IntKind.u64.wrap a = a; rw [IntKind.wrap_u64]; omega
  have cb : wconv .u64 b = b := by rw [hconv]; show IntKind.u64.wrap b = b; rw [IntKind.wrap_u64]; omega
  have cr : wconv .i64 r = r := by rw [hconv]; show IntKind.i64.wrap r = r; rw [IntKind.wrap_i64]; omega
  simp only [ca, cb]
  obtain ⟨mh, emh⟩ : ∃ x, a * b / 18446744073709551616 = x := ⟨_, rfl⟩
  obtain ⟨ml, eml⟩ : ∃ x, a * b % 18446744073709551616 = x := ⟨_, rfl⟩
  refine Call.stepE (by rw [← hP]; exact e_mul ha0 (by omega) hb0 (by omega) emh eml) rfl ?_
  cbv
  have em : mh * 18446744073709551616 + ml = a * b := by omega
  refine Call.stepE (by rw [← hP]; exact e_root _ _ r (by omega) (by omega) (by omega) (by omega) h0 (by omega) (by omega)) rfl ?_
  cbv
  refine ⟨_, Vw.same rfl, hR _ ?_⟩
  show AV.tuple _ = AV.tuple _
  rw [cr]
def PermIs (X m v : Int) : Prop := 0 ≤ v ∧ v ≤ m ∧ v * v ≤ X ∧ (v = m ∨ X < (v + 1) * (v + 1))
theorem perm_le {X Y m v u : Int} (h : PermIs X m v) (k : PermIs Y m u) (hXY : X ≤ Y) : v ≤ u := by
  obtain ⟨h0, h1, h2, h3⟩ := h
  obtain ⟨k0, k1, k2, k3⟩ := k
  refine Int.not_lt.1 fun hlt => ?_
  rcases k3 with k3 | k3
  · omega
  · have : (u + 1) * (u + 1) ≤ v * v := Int.mul_le_mul hlt hlt (by omega) (by omega)
    omega
theorem perm_eq {X m v u : Int} (h : PermIs X m v) (k : PermIs X m u) : v = u := by
  have := perm_le h k (Int.le_refl _)
  have := perm_le k h (Int.le_refl _)
  omega
theorem perm_of_root {X m r : Int} (hm : 0 ≤ m) (h : RootIs X r) : PermIs X m (if m < r then m else r) := by
  obtain ⟨h0, h1, h2⟩ := h
  split
  · rename_i hlt
    refine ⟨hm, by omega, ?_, .inl rfl⟩
    have : m * m ≤ r * r := Int.mul_le_mul (by omega) (by omega) hm h0
    omega
  · exact ⟨h0, by omega, h1, .inr h2⟩
def maxZ (f : Int) : Int := if f < 0 then 0 else f
theorem e_permitted {c0 c1 c2 c3 c4 c5 c6 c7 c8 c9 c10 c11 c12 c13 f v : Int} (hb0 : 1 ≤ c13) (hb1 : c13 ≤ 1048576) (hm : 0 ≤ c6) (hf1 : f ≤ 9223372036854775807) (hf0 : -9223372036854775808 ≤ f) (hv : PermIs (2 * c13 * maxZ f) c6 v) : PCalls Try.prog 67 [.agg [.int .i64 c0, .int .i64 c1, .int .i64 c2, .int .i64 c3, .int .i64 c4, .int .i64 c5, .int .i64 c6, .int .i64 c7, .int .i64 c8, .int .i64 c9, .int .i64 c10, .int .i64 c11, .int .i64 c12, .int .i64 c13], .int .i64 f] (· = .int .i64 v) := by
  (refine PCalls.ofY Try.func67 (by kernel_rfl) (by kernel_rfl) fun w hw R hR => ?_); (obtain ⟨wbin, wcmp, wun, wconv, wnot, wbeq, wmm, wscmp, wsadd, wslen, wsat, weqs, wlen, wnlen, wofNat, wtake, wdrop, wapp, wzero, wnat⟩ := w); (have hbin := Z.w1 hw); (have hcmp := Z.w2 hw); (have hun := Z.w3 hw); (have hconv := Z.w4 hw); (have hnot := Z.w5 hw); (have hbeq := Z.w6 hw); (have hmm := Z.w7 hw); (have hscmp := Z.w8 hw); (have hsadd := Z.w9 hw); (have hslen := Z.w10 hw); (have hsat := Z.w11 hw); (have heqs := Z.w12 hw); (have hlen := Z.w13 hw); (have hnlen := Z.w14 hw); (have hofNat := Z.w15 hw); (have htake := Z.w16 hw); (have hdrop := Z.w17 hw); (have happ := Z.w18 hw); (have hzero := Z.w19 hw); (have hnat := Z.w20 hw); (have hz := Z.z hw); (conv => arg 2; cbv); (generalize hP : Try.prog = P); cbv
  obtain ⟨b2, eb2⟩ : ∃ x, 2 * c13 = x := ⟨_, rfl⟩
  obtain ⟨g, eg⟩ : ∃ x, maxZ f = x := ⟨_, rfl⟩
  have hg : 0 ≤ g ∧ g ≤ 9223372036854775807 := by rw [← eg]; unfold maxZ; split <;> omega
  have e1 : wbin .mul .i64 2 c13 = b2 := by rw [hbin]; exact (i_mul (by omega) (by omega)).trans eb2
  have e2 : wmm true f 0 = g := by rw [hmm, ← eg]; simp only [maxI, maxZ, if_true]
  rw [eb2, eg] at hv
  obtain ⟨r, hr⟩ := root_get (X := b2 * g) (Int.mul_nonneg (by omega) hg.1)
  have hvr := perm_eq hv (perm_of_root hm hr)
  simp only [e1, e2]
  refine Call.stepE (by rw [← hP]; exact e_rroot (by omega) (by omega) hg.1 (by omega) hr) rfl ?_
  cbv
  repeat' (split <;> rename_i h <;> (try (simp only [hz, Z.a, binStd, cmpStd, unStd, scmpStd, maxI, reduceCtorEq] at h)) <;> (try cbv))
  · refine ⟨_, Vw.same rfl, hR _ (congrArg (AV.int .i64) ?_)⟩
    rw [hvr, if_pos (by omega)]
  · refine ⟨_, Vw.same rfl, hR _ (congrArg (AV.int .i64) ?_)⟩
    rw [hvr, if_neg (by omega)]
end Go.Proofs.Ytpiocfmdjgbamaa

/- A configuration that may be, by the engine. -/
namespace Go.Proofs.Ytpiocfmdjgbamaa
open Go Go.RowKit Go.Eng
set_option maxRecDepth 100000
theorem e_up13 (a b : Int) (h1 : 1 ≤ a) (h2 : a ≤ 8388608) (h3 : 1 ≤ b) (h4 : b ≤ 1024) : PCalls Try.prog 71 [.int .i64 a, .int .i64 b] (· = .int .i64 ((a + b - 1) / b)) := by
  (refine PCalls.ofY Try.func71 (by kernel_rfl) (by kernel_rfl) fun w hw R hR => ?_); (conv => arg 2; cbv); (generalize hP : Try.prog = P); cbv
  subst hw
  have e1 : IntKind.i64.wrap (IntKind.i64.wrap (a + b) - 1) = a + b - 1 := by rw [IntKind.wrap_i64, IntKind.wrap_i64]; omega
  refine Nz.mk (by omega) ?_
  refine ⟨_, Vw.same rfl, hR _ (congrArg (AV.int .i64) ?_)⟩
  show IntKind.i64.wrap ((IntKind.i64.wrap (IntKind.i64.wrap (a + b) - 1)).tdiv b) = _
  rw [e1]
  have h5 : (a + b - 1).tdiv b = (a + b - 1) / b := Int.tdiv_eq_ediv_of_nonneg (by omega)
  have h6 : (a + b - 1) / b ≤ a + b - 1 := Int.ediv_le_self _ (by omega)
  have h7 : 0 ≤ (a + b - 1) / b := Int.ediv_nonneg (by omega) (by omega)
  rw [h5, IntKind.wrap_i64]; omega
def ConfOk (c0 c1 c2 c3 c4 c5 c6 c7 c8 c9 c10 c11 c12 c13 : Int) : Prop :=
  (1 ≤ c0 ∧ c0 ≤ 1024) ∧ (131072 ≤ c1 ∧ c1 ≤ 8388608 ∧ c1 ≤ c2 ∧ c2 ≤ 8388608) ∧ (c2 - c1) * 16 ≤ c1 ∧ (0 ≤ c3 ∧ c3 ≤ 1048576 ∧ 0 ≤ c4 ∧ c4 ≤ 65536) ∧ (0 ≤ c5 ∧ c5 ≤ 1048576) ∧ (1 ≤ c6 ∧ c6 ≤ 16777216 ∧ 1 ≤ c7 ∧ c7 ≤ 1048576) ∧ c6 * c0 ≤ 32000 * c1 ∧ (0 ≤ c8 ∧ c8 ≤ 1048576) ∧ (1 ≤ c9 ∧ c9 ≤ 1000 ∧ 1 ≤ c12 ∧ c12 ≤ 1000) ∧ ((c2 + c0 - 1) / c0 ≤ c10 ∧ 3 * c3 ≤ c10 ∧ c10 ≤ 16777216) ∧ (0 ≤ c11 ∧ c11 ≤ 1073741824) ∧ (1 ≤ c13 ∧ c13 ≤ 1048576)
def wrongV (c0 c1 c2 c3 c4 c5 c6 c7 c8 c9 c10 c11 c12 c13 : Int) : Int :=
  if c0 < 1 ∨ 1024 < c0 then 1 else
  if c1 < 131072 ∨ 8388608 < c1 ∨ c2 < c1 ∨ 8388608 < c2 then 2 else
  if c1 < IntKind.i64.wrap (IntKind.i64.wrap (c2 - c1) * 16) then 3 else
  if c3 < 0 ∨ 1048576 < c3 ∨ c4 < 0 ∨ 65536 < c4 then 4 else
  if c5 < 0 ∨ 1048576 < c5 then 5 else
  if c6 < 1 ∨ 16777216 < c6 ∨ c7 < 1 ∨ 1048576 < c7 then 6 else
  if IntKind.i64.wrap (32000 * c1) < IntKind.i64.wrap (c6 * c0) then 7 else
  if c8 < 0 ∨ 1048576 < c8 then 8 else
  if c9 < 1 ∨ 1000 < c9 ∨ c12 < 1 ∨ 1000 < c12 then 9 else
  if c10 < (c2 + c0 - 1) / c0 ∨ c10 < IntKind.i64.wrap (3 * c3) ∨ 16777216 < c10 then 10 else
  if c11 < 0 ∨ 1073741824 < c11 then 11 else
  if c13 < 1 ∨ 1048576 < c13 then 12 else 0
theorem ite_zero {p : Prop} [Decidable p] {a b : Int} (h : (if p then a else b) = 0) (ha : a ≠ 0) : ¬ p ∧ b = 0 := by
  by_cases hp : p
  · rw [if_pos hp] at h; exact absurd h ha
  · rw [if_neg hp] at h; exact ⟨hp, h⟩
theorem wrong_ok {c0 c1 c2 c3 c4 c5 c6 c7 c8 c9 c10 c11 c12 c13 : Int} (h : wrongV c0 c1 c2 c3 c4 c5 c6 c7 c8 c9 c10 c11 c12 c13 = 0) : ConfOk c0 c1 c2 c3 c4 c5 c6 c7 c8 c9 c10 c11 c12 c13 := by
  unfold wrongV at h
  replace h := ite_zero h (by decide); have k1 := h.1; replace h := h.2
  replace h := ite_zero h (by decide); have k2 := h.1; replace h := h.2
  replace h := ite_zero h (by decide); have k3 := h.1; replace h := h.2
  replace h := ite_zero h (by decide); have k4 := h.1; replace h := h.2
  replace h := ite_zero h (by decide); have k5 := h.1; replace h := h.2
  replace h := ite_zero h (by decide); have k6 := h.1; replace h := h.2
  replace h := ite_zero h (by decide); have k7 := h.1; replace h := h.2
  replace h := ite_zero h (by decide); have k8 := h.1; replace h := h.2
  replace h := ite_zero h (by decide); have k9 := h.1; replace h := h.2
  replace h := ite_zero h (by decide); have k10 := h.1; replace h := h.2
  replace h := ite_zero h (by decide); have k11 := h.1; replace h := h.2
  replace h := ite_zero h (by decide); have k12 := h.1; replace h := h.2
  clear h
  have b1 : IntKind.i64.wrap (IntKind.i64.wrap (c2 - c1) * 16) = (c2 - c1) * 16 := by rw [IntKind.wrap_i64, IntKind.wrap_i64]; omega
  have b2 : c6 * c0 ≤ 16777216 * 1024 := Int.mul_le_mul (by omega) (by omega) (by omega) (by omega)
  have b3 : 0 ≤ c6 * c0 := Int.mul_nonneg (by omega) (by omega)
  have b4 : IntKind.i64.wrap (c6 * c0) = c6 * c0 := by rw [IntKind.wrap_i64]; omega
  have b5 : IntKind.i64.wrap (32000 * c1) = 32000 * c1 := by rw [IntKind.wrap_i64]; omega
  have b6 : IntKind.i64.wrap (3 * c3) = 3 * c3 := by rw [IntKind.wrap_i64]; omega
  unfold ConfOk
  rw [b1] at k3
  rw [b4, b5] at k7
  rw [b6] at k10
  clear b1 b2 b3 b4 b5 b6
  and_intros <;> omega
set_option maxHeartbeats 4000000 in
theorem e_wrong (c0 c1 c2 c3 c4 c5 c6 c7 c8 c9 c10 c11 c12 c13 : Int) : PCalls Try.prog 43 [.agg [.int .i64 c0, .int .i64 c1, .int .i64 c2, .int .i64 c3, .int .i64 c4, .int .i64 c5, .int .i64 c6, .int .i64 c7, .int .i64 c8, .int .i64 c9, .int .i64 c10, .int .i64 c11, .int .i64 c12, .int .i64 c13]] (· = .int .i64 (wrongV c0 c1 c2 c3 c4 c5 c6 c7 c8 c9 c10 c11 c12 c13)) := by
  (refine PCalls.ofY Try.func43 (by kernel_rfl) (by kernel_rfl) fun w hw R hR => ?_); (conv => arg 2; cbv); (generalize hP : Try.prog = P); cbv
  have hR' : ∀ n, n = wrongV c0 c1 c2 c3 c4 c5 c6 c7 c8 c9 c10 c11 c12 c13 → R (.int .i64 n) := fun n h => hR _ (by rw [h])
  clear hR
  repeat' (first | (refine ⟨_, Vw.same rfl, hR' _ ?_⟩; unfold wrongV; (repeat rw [if_neg (by omega)]); rw [if_pos (by omega)]; done) | (split <;> rename_i hb <;> (try (rw [hw] at hb)) <;> (try (simp only [std, binStd, cmpStd, unStd, scmpStd, maxI, Bool.not_eq_true', Bool.not_eq_false', decide_eq_true_eq, decide_eq_false_iff_not, Int.not_lt, Int.not_le, if_true, if_false, Bool.false_eq_true, beq_iff_eq, bne_iff_ne, ne_eq, Bool.not_eq_eq_eq_not, Bool.not_true, Bool.not_false, beq_eq_false_iff_ne, bne_eq_false_iff_eq, Int.ofNat_eq_natCast] at hb)) <;> (try cbv)))
  refine QCal.stepE (by rw [← hP]; exact e_up13 c2 c0 (by omega) (by omega) (by omega) (by omega)) rfl ?_
  generalize hu : (c2 + c0 - 1) / c0 = u at *
  cbv
  repeat' (first | (refine ⟨_, Vw.same rfl, hR' _ ?_⟩; unfold wrongV; rw [hu]; (repeat rw [if_neg (by omega)]); (first | done | (rw [if_pos (by omega)]; done))) | (split <;> rename_i hb <;> (try (rw [hw] at hb)) <;> (try (simp only [std, binStd, cmpStd, unStd, scmpStd, maxI, Bool.not_eq_true', Bool.not_eq_false', decide_eq_true_eq, decide_eq_false_iff_not, Int.not_lt, Int.not_le, if_true, if_false, Bool.false_eq_true, beq_iff_eq, bne_iff_ne, ne_eq, Bool.not_eq_eq_eq_not, Bool.not_true, Bool.not_false, beq_eq_false_iff_ne, bne_eq_false_iff_eq, Int.ofNat_eq_natCast] at hb)) <;> (try cbv)))
end Go.Proofs.Ytpiocfmdjgbamaa

/- The document's root and permitted speed, by the engine. -/
namespace Go.Proofs.Ytpiocfmdjgbamaa
open Go Go.RowKit Go.Eng
set_option maxRecDepth 100000
structure Bs where
  lo : Int
  hi : Int
def BsOk (x m lo hi : Int) : Prop := 0 ≤ lo ∧ lo ≤ hi ∧ hi ≤ m ∧ lo * lo ≤ x ∧ (hi = m ∨ x < (hi + 1) * (hi + 1))
theorem e_usual : PCalls Try.prog 68 [] (· = .agg [.int .i64 1024, .int .i64 131072, .int .i64 131072, .int .i64 0, .int .i64 0, .int .i64 0, .int .i64 1000, .int .i64 100, .int .i64 0, .int .i64 1, .int .i64 128, .int .i64 0, .int .i64 5, .int .i64 2]) := by
  (refine PCalls.ofY Try.func68 (by kernel_rfl) (by kernel_rfl) fun w hw R hR => ?_); (obtain ⟨wbin, wcmp, wun, wconv, wnot, wbeq, wmm, wscmp, wsadd, wslen, wsat, weqs, wlen, wnlen, wofNat, wtake, wdrop, wapp, wzero, wnat⟩ := w); (have hbin := Z.w1 hw); (have hcmp := Z.w2 hw); (have hun := Z.w3 hw); (have hconv := Z.w4 hw); (have hnot := Z.w5 hw); (have hbeq := Z.w6 hw); (have hmm := Z.w7 hw); (have hscmp := Z.w8 hw); (have hsadd := Z.w9 hw); (have hslen := Z.w10 hw); (have hsat := Z.w11 hw); (have heqs := Z.w12 hw); (have hlen := Z.w13 hw); (have hnlen := Z.w14 hw); (have hofNat := Z.w15 hw); (have htake := Z.w16 hw); (have hdrop := Z.w17 hw); (have happ := Z.w18 hw); (have hzero := Z.w19 hw); (have hnat := Z.w20 hw); (have hz := Z.z hw); (conv => arg 2; cbv); (generalize hP : Try.prog = P); cbv
  exact ⟨_, Vw.same rfl, hR _ rfl⟩
theorem e_anchor22 : PCalls Try.prog 35 [] (fun r => r = .bool true) := by
  (refine PCalls.ofY Try.func35 (by kernel_rfl) (by kernel_rfl) fun w hw R hR => ?_); (obtain ⟨wbin, wcmp, wun, wconv, wnot, wbeq, wmm, wscmp, wsadd, wslen, wsat, weqs, wlen, wnlen, wofNat, wtake, wdrop, wapp, wzero, wnat⟩ := w); (have hbin := Z.w1 hw); (have hcmp := Z.w2 hw); (have hun := Z.w3 hw); (have hconv := Z.w4 hw); (have hnot := Z.w5 hw); (have hbeq := Z.w6 hw); (have hmm := Z.w7 hw); (have hscmp := Z.w8 hw); (have hsadd := Z.w9 hw); (have hslen := Z.w10 hw); (have hsat := Z.w11 hw); (have heqs := Z.w12 hw); (have hlen := Z.w13 hw); (have hnlen := Z.w14 hw); (have hofNat := Z.w15 hw); (have htake := Z.w16 hw); (have hdrop := Z.w17 hw); (have happ := Z.w18 hw); (have hzero := Z.w19 hw); (have hnat := Z.w20 hw); (have hz := Z.z hw); (conv => arg 2; cbv); (generalize hP : Try.prog = P); cbv
  refine Call.stepE (by rw [← hP]; exact e_usual) rfl ?_
  cbv
  refine Call.stepE (by rw [← hP]; exact e_permitted (v := 10) (by decide) (by decide) (by decide) (by decide) (by decide) (by unfold PermIs maxZ; decide)) rfl ?_
  cbv
  refine ⟨_, Vw.same rfl, hR _ ?_⟩
  rw [hcmp]; rfl
end Go.Proofs.Ytpiocfmdjgbamaa

/- What a growth may tell; places as rows. -/
namespace Go.Proofs.Ytpiocfmdjgbamaa
open Go Go.RowKit Go.Eng
set_option maxRecDepth 100000
def plRow (p : Int × Int) : List AV := [.int .i64 p.1, .int .i64 p.2]
theorem up_pl (ps : List (Int × Int)) : Up0 (ps.map plRow) := up_map (f := plRow) (fun d => rfl) ps
theorem growA_e {ss : List Sg} {lo hi from_ : Int} {ls : List (List Int)} {v1 v3 : Int} {v2 : List (List Int)} (h : ((v1, v2), v3) = growA ss lo hi from_ ls) : v3 = 0 ∨ v3 = 13 ∨ v3 = 40 := by
  have he := growS_e (ss := ss) (lo := lo) (hi := hi) (from_ := from_) ls
  unfold growA at h
  split at h
  · simp only [Prod.mk.injEq] at h; exact .inr (.inr h.2)
  · split at h
    · simp only [Prod.mk.injEq] at h; rw [h.2]; exact he.imp id .inl
    · split at h
      · simp only [Prod.mk.injEq] at h; exact .inr (.inr h.2)
      · simp only [Prod.mk.injEq] at h; exact .inl h.2
end Go.Proofs.Ytpiocfmdjgbamaa

/- BrakeFree, by the engine. -/
namespace Go.Proofs.Ytpiocfmdjgbamaa
open Go Go.RowKit Go.Eng
set_option maxRecDepth 100000
theorem own_eq {n : Nat} {os : List (List AV)} {f : Nat → Int} (h : Own n os f) : os = (List.range n).map fun x => [AV.int .i64 (f x)] := by
  apply List.ext_getElem?
  intro x
  by_cases hx : x < n
  · rw [h.at_ x hx, List.getElem?_map, List.getElem?_range hx]; rfl
  · rw [List.getElem?_eq_none (by rw [h.len]; omega), List.getElem?_eq_none (by rw [List.length_map, List.length_range]; omega)]
set_option maxHeartbeats 4000000 in
theorem e_bf (ss : List Sg) (gs : List Gr) (es ds : List (List AV)) (hes : es = ss.map sgRow) (hds : ds = gs.map grRow) (sg from_ lo hi at_ : Int) :
    PCalls Try.prog 8 [.agg [.list 3 es, .list 5 ds], .int .i64 sg, .int .i64 from_, .agg [.int .i64 lo, .int .i64 hi], .int .i64 at_] (· = .bool true) := by
  have hu : Up0 es := by rw [hes]; exact up_sg ss
  have hud : Up0 ds := by rw [hds]; exact up_gr gs
  have hel : es.length = ss.length := by rw [hes]; simp
  (refine PCalls.ofY Try.func8 (by kernel_rfl) (by kernel_rfl) fun w hw R hR => ?_); (obtain ⟨wbin, wcmp, wun, wconv, wnot, wbeq, wmm, wscmp, wsadd, wslen, wsat, weqs, wlen, wnlen, wofNat, wtake, wdrop, wapp, wzero, wnat⟩ := w); (have hbin := Z.w1 hw); (have hcmp := Z.w2 hw); (have hun := Z.w3 hw); (have hconv := Z.w4 hw); (have hnot := Z.w5 hw); (have hbeq := Z.w6 hw); (have hmm := Z.w7 hw); (have hscmp := Z.w8 hw); (have hsadd := Z.w9 hw); (have hslen := Z.w10 hw); (have hsat := Z.w11 hw); (have heqs := Z.w12 hw); (have hlen := Z.w13 hw); (have hnlen := Z.w14 hw); (have hofNat := Z.w15 hw); (have htake := Z.w16 hw); (have hdrop := Z.w17 hw); (have happ := Z.w18 hw); (have hzero := Z.w19 hw); (have hnat := Z.w20 hw); (have hz := Z.z hw); (conv => arg 2; cbv); (generalize hP : Try.prog = P); cbv
  have hW : ∀ h : AHeap, Ret [.bool true] h R := fun h => ⟨_, Vw.same rfl, hR _ rfl⟩
  (obtain ⟨L, eL, L0, Ln⟩ : ∃ L : Int, wlen es = L ∧ 0 ≤ L ∧ L.toNat = es.length := ⟨(es.length : Int), by rw [hlen], Int.natCast_nonneg _, Int.toNat_natCast _⟩)
  refine Call.step (by rw [← hP]; exact e_anchor22) rfl ?_
  rintro r rfl
  cbv
  (split <;> rename_i h0 <;> (try (simp only [hz, Z.a, binStd, cmpStd, unStd, scmpStd, maxI, reduceCtorEq] at h0)) <;> (try cbv))
  refine Call.step (by rw [← hP]; exact e_small_may ss gs es ds hes hds) (by exact up_track hu hud) ?_
  rintro r ⟨o, rfl, ho⟩
  cbv
  (split <;> rename_i h1 <;> (try (simp only [hz, Z.a, binStd, cmpStd, unStd, scmpStd, maxI, reduceCtorEq] at h1)) <;> (try cbv))
  · exact hW _
  (split <;> rename_i h2 <;> (try (simp only [eL] at h2)) <;> (try (simp only [hz, Z.a, binStd, cmpStd, unStd, scmpStd, maxI, reduceCtorEq] at h2)) <;> (try cbv))
  · exact hW _
  (split <;> rename_i h3 <;> (try (simp only [eL] at h3)) <;> (try (simp only [hz, Z.a, binStd, cmpStd, unStd, scmpStd, maxI, reduceCtorEq] at h3)) <;> (try cbv))
  · exact hW _
  obtain ⟨hok, hps⟩ := ho (by first | rfl | assumption)
  have hle := hok.le
  have hgle := hok.gle
  have hnx := hok.nextOk
  have hln := hok.lensOk
  have hin := nx_in hok
  have hLp := len_pos hok
  obtain ⟨⟨len, ps, nx⟩, hd, hrow⟩ := get_map (f := sgRow) (ds := ss) (i := sg) (by omega) (by omega)
  have hslen := (hok.seg sg.toNat (by omega) _ hd).le
  have hslen : len ≤ 1099511627776 := hslen
  obtain ⟨q1, eq1⟩ : ∃ x, ps.map pcRow = x := ⟨_, rfl⟩
  obtain ⟨n1, en1⟩ : ∃ x, nx.map nxRow = x := ⟨_, rfl⟩
  have hrow : es[sg.toNat]? = some [.int .i64 len, .list 2 q1, .list 1 n1] := by rw [hes, ← eq1, ← en1]; exact hrow
  (split <;> rename_i h4 <;> (try (simp only [hz, Z.a, binStd, cmpStd, unStd, scmpStd, maxI, reduceCtorEq] at h4)) <;> (try cbv))
  · exact hW _
  refine Idx.mk _ (show 0 ≤ sg by omega) hrow ?_
  cbv
  (split <;> rename_i h5 <;> (try (simp only [hz, Z.a, binStd, cmpStd, unStd, scmpStd, maxI, reduceCtorEq] at h5)) <;> (try cbv))
  · exact hW _
  (split <;> rename_i h6 <;> (try (simp only [hz, Z.a, binStd, cmpStd, unStd, scmpStd, maxI, reduceCtorEq] at h6)) <;> (try cbv))
  · exact hW _
  (split <;> rename_i h7 <;> (try (simp only [hz, Z.a, binStd, cmpStd, unStd, scmpStd, maxI, reduceCtorEq] at h7)) <;> (try cbv))
  · exact hW _
  have hfr : 0 ≤ from_ ∧ from_ ≤ 1099511627776 := ⟨by omega, by omega⟩
  have hat : -35184372088832 ≤ at_ ∧ at_ ≤ 35184372088832 := ⟨by omega, by omega⟩
  obtain ⟨r0, er0⟩ : ∃ r : List (List AV), r = [[sg]].map rtC := ⟨_, rfl⟩
  obtain ⟨q0, eq0⟩ : ∃ r : List (List AV), r = [[sg]].map rtRow := ⟨_, rfl⟩
  have hbeg := e_begin sg from_ sg rfl
  have hbeg : PCalls Try.prog 18 [.int .i64 sg, .int .i64 from_] (· = .agg [.int .i64 from_, .list 13 r0]) := by rw [er0]; exact hbeg
  have hur0 : Up0 r0 := by rw [er0]; exact ⟨rfl⟩
  have huq0 : Up0 q0 := by rw [eq0]; exact ⟨rfl⟩
  have hway : ∀ l, l ∈ [[sg]] → WayOk ss l := fun l hl => by
    simp at hl; subst hl
    exact ⟨by simp, fun n hn => by simp at hn; subst hn; exact ⟨by omega, by omega⟩⟩
  have href := e_refsT ss gs es ds hes hds (by omega) (by omega) hps
  have hut2 : uptoL 0 [AV.agg [.list 3 es, .list 5 ds]] = true := Bool.and_eq_true_iff.mpr ⟨Up0.one hu (Up0.one hud rfl), rfl⟩
  obtain ⟨v, ev⟩ : ∃ v, v = growA ss lo hi from_ [[sg]] := ⟨_, rfl⟩
  have hA := e_grows ss gs es ds hes hds hln hnx lo hi from_ hfr [[sg]] hway (by simp) r0 er0 v ev
  have hB := e_rgrow ss gs es ds hes hds hln hnx lo hi from_ hfr [[sg]] hway (by simp) q0 eq0 v (by rw [ev, growA_eq hnx [[sg]] hway])
  have hcase := growA_ok hnx [[sg]] hway ev
  obtain ⟨⟨v1, m⟩, v3⟩ := v
  obtain ⟨us, eus⟩ : ∃ x, x = m.map rtC := ⟨_, rfl⟩
  obtain ⟨ys, eys⟩ : ∃ x, x = m.map rtRow := ⟨_, rfl⟩
  have hA : PCalls Try.prog 19 [.agg [.int .i64 from_, .list 13 r0], .agg [.list 3 es, .list 5 ds], .agg [.int .i64 lo, .int .i64 hi]] (· = .tuple [.agg [.int .i64 v1, .list 13 us], .int .i64 v3]) := by rw [eus]; exact hA
  have hB : PCalls Try.prog 37 [.agg [.list 3 es, .list 5 ds], .agg [.int .i64 from_, .list 1 q0], .int .i64 lo, .int .i64 hi] (· = .tuple [.agg [.int .i64 v1, .list 1 ys], .int .i64 v3]) := by rw [eys]; exact hB
  have huus : Up0 us := by rw [eus]; exact up_map (f := rtC) (fun d => rfl) m
  have huys : Up0 ys := by rw [eys]; exact up_rt m
  have eq1' : q0 = [[.list 1 [[.int .i64 sg]]]] := eq0
  obtain ⟨f, ef⟩ : ∃ f, f = J (nxF ss) (lenF ss) ss.length := ⟨_, rfl⟩
  have hll : ∀ j : Nat, j < ss.length → lenF ss j ≤ 1099511627776 := fun j hj => by
    unfold lenF
    rw [List.getElem?_eq_getElem hj]
    exact (hok.seg j hj ss[j] (List.getElem?_eq_getElem hj)).le
  have hfb : ∀ x, x < ss.length → -1 ≤ f x ∧ f x ≤ 1125899906842624 := fun x hx => by
    have k1 := J_ge hin hLp ss.length hx
    have k2 := J_bnd hin hLp (M := 1099511627776) (by omega) hll ss.length hx
    rw [ef]
    exact ⟨k1, by omega⟩
  obtain ⟨os, eos⟩ : ∃ os, ((List.range ss.length).map fun x => [AV.int .i64 (f x)]) = os := ⟨_, rfl⟩
  have m1 : PCalls Try.prog 40 [.agg [.list 3 es, .list 5 ds]] (· = .list 1 os) := by
    refine (e_ends ss gs es ds hes hds hok).mono ?_
    rintro r ⟨os', rfl, h⟩
    rw [← ef] at h
    rw [own_eq h, eos]
  have m2 : PCalls Try.prog 42 [.agg [.list 3 es, .list 5 ds], .int .i64 L] (· = .list 1 os) := by
    refine (e_rends ss gs es ds hes hds hok L L0 (by omega)).mono ?_
    rintro r ⟨os', rfl, h⟩
    rw [← ef] at h
    rw [own_eq h, eos]
  have huo : Up0 os := by rw [← eos]; exact up_map (f := fun x => [AV.int .i64 (f x)]) (fun d => rfl) _
  have hos : ∀ x, x < ss.length → os[x]? = some [.int .i64 (f x)] := fun x hx => by
    rw [← eos, List.getElem?_map, List.getElem?_range hx]; rfl
  have hut3 : uptoL 0 [AV.agg [.list 3 es, .list 5 ds], .int .i64 L] = true := Bool.and_eq_true_iff.mpr ⟨Up0.one hu (Up0.one hud rfl), rfl⟩
  obtain ⟨w, ew⟩ : ∃ w, w = m.foldl (free1 ss f from_ at_) (0, false) := ⟨_, rfl⟩
  have hm3 : (v3 ≠ 0) ∨ (v1 = from_ ∧ Grown ss lo hi from_ m) := by
    rcases hcase with h | h
    · exact .inl h.1
    · exact .inr h.2
  have hF1 : (v1 = from_ ∧ Grown ss lo hi from_ m) → PCalls Try.prog 39 [.agg [.list 3 es, .list 5 ds], .list 1 os, .agg [.int .i64 v1, .list 13 us], .int .i64 at_] (· = .tuple [.int .i64 w.1, .bool w.2]) := fun h => by
    rw [h.1]
    exact e_bfree ss gs es ds hes hds hln from_ hfr m (fun l hl => (h.2.ways l hl).1) (by have := h.2.few; omega) us eus f os hos huo hfb at_ hat w ew
  have hF2 : (v1 = from_ ∧ Grown ss lo hi from_ m) → PCalls Try.prog 41 [.agg [.list 3 es, .list 5 ds], .list 1 os, .agg [.int .i64 v1, .list 1 ys], .int .i64 at_] (· = .tuple [.int .i64 w.1, .bool w.2]) := fun h => by
    rw [h.1]
    exact e_rfree ss gs es ds hes hds hln from_ hfr m (fun l hl => (h.2.ways l hl).1) (by have := h.2.few; omega) ys eys f os hos huo hfb at_ hat w ew
  obtain ⟨w1, w2⟩ := w
  clear hcase ev hfb hll ef hok ho hos hin hLp hnx hln ew hway
  refine QCal.stepE (by rw [← hP]; exact hbeg) rfl ?_
  cbv
  refine QCal.stepE (by rw [← hP]; exact hA) (by simp only [uptoL, AV.upto, hu.get, hud.get, hur0.get]; rfl) ?_
  cbv
  (split <;> rename_i h8 <;> (try (simp only [hz, Z.a, binStd, cmpStd, unStd, scmpStd, maxI, reduceCtorEq] at h8)) <;> (try cbv))
  · exact hW _
  have hgr : v1 = from_ ∧ Grown ss lo hi from_ m := by
    rcases hm3 with h | h
    · exact absurd h8 h
    · exact h
  have hF1 := hF1 hgr
  have hF2 := hF2 hgr
  clear hgr hm3
  refine QCal.stepE (by rw [← hP]; exact href) (by exact hut2) ?_
  cbv
  rw [← eq1']
  refine QCal.stepE (by rw [← hP]; exact hB) (by simp only [uptoL, AV.upto, hu.get, hud.get, huq0.get]; rfl) ?_
  cbv
  refine QCal.stepE (by rw [← hP]; exact m1) (by exact hut2) ?_
  cbv
  refine QCal.stepE (by rw [← hP]; exact hF1) (by simp only [uptoL, AV.upto, hu.get, hud.get, huus.get, huo.get]; rfl) ?_
  cbv
  refine QCal.stepE (by rw [← hP]; exact href) (by exact hut2) ?_
  cbv
  refine QCal.stepE (by rw [← hP]; exact href) (by exact hut2) ?_
  cbv
  simp only [eL]
  refine QCal.stepE (by rw [← hP]; exact m2) (by exact hut3) ?_
  cbv
  refine QCal.stepE (by rw [← hP]; exact hF2) (by simp only [uptoL, AV.upto, hu.get, hud.get, huys.get, huo.get]; rfl) ?_
  cbv
  have ce : wcmp .eql w1 w1 = true := by rw [hcmp]; simp [cmpStd]
  have be : wbeq w2 w2 = true := by rw [hbeq]; simp
  simp only [ce]
  cbv
  try simp only [be]
  exact hW _
end Go.Proofs.Ytpiocfmdjgbamaa

/- BrakeFree, joined. -/
set_option maxRecDepth 100000
namespace Go.Proofs.Ytpiocfmdjgbamaa
open Go Go.RowKit Go.Eng
theorem walk_BrakeFree (x0 x1 x2 x3 x4 : AV) (h0 : TyV Try.prog 8 25 x0) (h1 : TyV Try.prog 8 3 x1) (h2 : TyV Try.prog 8 2 x2) (h3 : TyV Try.prog 8 50 x3) (h4 : TyV Try.prog 8 2 x4) : PCalls Try.prog 8 [x0, x1, x2, x3, x4] (fun r => r = .bool true) := by
  obtain ⟨ss, gs, rfl⟩ := ty_track x0 h0
  obtain ⟨sg, rfl⟩ := ty_intS x1 h1
  obtain ⟨f, rfl, _, _⟩ := ty_i64 x2 h2
  obtain ⟨a, b, rfl⟩ := ty_span x3 h3
  obtain ⟨t, rfl, _, _⟩ := ty_i64 x4 h4
  exact e_bf ss gs _ _ rfl rfl sg f a b t
end Go.Proofs.Ytpiocfmdjgbamaa

