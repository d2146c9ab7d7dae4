/- Texts of the proof, joined by wip/tools/pack3.py. -/
import Derived.Test.YtpiocfmdjgbamaaCoreP1
import Derived.KernelRfl
import Derived.Test.YtpiocfmdjgbamaaEng33
import Derived.Handy
import Derived.IntWalk
import Derived.Test.YtpiocfmdjgbamaaEng28
/- odographref14: End, Less, Put. -/
set_option linter.unusedVariables false
set_option linter.unusedSimpArgs false
namespace Go.Proofs.Ytpiocfmdjgbamaa
open Go Go.RowKit Go.Eng
set_option maxRecDepth 100000
set_option maxHeartbeats 1000000 in
theorem e_rend (ss : List Sg) (gs : List Gr) (es ds : List (List AV)) (hes : es = ss.map sgRow) (hds : ds = gs.map grRow) (hln : LensOk ss) (from_ : Int) (hf : 0 ≤ from_ ∧ from_ ≤ 1099511627776) (l : List Int) (hl : l.length ≤ 12) (hb : ∀ n, n ∈ l → 0 ≤ n ∧ n.toNat < ss.length) (ns : List (List AV)) (hns : ns = l.map nxRow) (y : Int) (ey : y = endF ss from_ l) :
    PCalls Try.prog 16 [.agg [.list 3 es, .list 5 ds], .int .i64 from_, .list 1 ns] (· = .int .i64 y) := by
  have hu : Up0 es := by rw [hes]; exact up_sg ss
  have hud : Up0 ds := by rw [hds]; exact up_gr gs
  have huns : Up0 ns := by rw [hns]; exact up_nx l
  have hnl : ns.length = l.length := by rw [hns]; simp
  (refine PCalls.ofY Try.func16 (by kernel_rfl) (by kernel_rfl) fun w hw R hR => ?_); (obtain ⟨wbin, wcmp, wun, wconv, wnot, wbeq, wmm, wscmp, wsadd, wslen, wsat, weqs, wlen, wnlen, wofNat, wtake, wdrop, wapp, wzero, wnat⟩ := w); (have hbin := Z.w1 hw); (have hcmp := Z.w2 hw); (have hun := Z.w3 hw); (have hconv := Z.w4 hw); (have hnot := Z.w5 hw); (have hbeq := Z.w6 hw); (have hmm := Z.w7 hw); (have hscmp := Z.w8 hw); (have hsadd := Z.w9 hw); (have hslen := Z.w10 hw); (have hsat := Z.w11 hw); (have heqs := Z.w12 hw); (have hlen := Z.w13 hw); (have hnlen := Z.w14 hw); (have hofNat := Z.w15 hw); (have htake := Z.w16 hw); (have hdrop := Z.w17 hw); (have happ := Z.w18 hw); (have hzero := Z.w19 hw); (have hnat := Z.w20 hw); (conv => arg 2; cbv); (generalize hP : Try.prog = P); cbv
  obtain ⟨a0, ea0⟩ : ∃ a0, a0 = -from_ := ⟨_, rfl⟩
  have c0 : wun .neg .i64 from_ = a0 := by rw [hun, ea0]; simp only [unStd]; rw [IntKind.wrap_i64]; omega
  simp only [c0]
  (obtain ⟨L, eL, L0, Ln⟩ : ∃ L : Int, wlen ns = L ∧ 0 ≤ L ∧ L.toNat = ns.length := ⟨(ns.length : Int), by rw [hlen], Int.natCast_nonneg _, Int.toNat_natCast _⟩)
  refine Loop.data hw (S := Int × Int) (fun s => fr 29 [(2, .list 1 ns), (3, .ref 0 2 0 0), (7, .int .i64 s.2), (8, .int .i64 s.1)])
    (fun s => [.live 2 [[.list 3 es, .list 5 ds]]])
    (fun s => 0 ≤ s.1 ∧ s.1 ≤ L ∧ s.2 = (l.take s.1.toNat).foldl (fun e n => e + lenAt ss n) a0 ∧ -1099511627776 ≤ s.2 ∧ s.2 ≤ s.1 * 1099511627776) (fun s => (L - s.1).toNat) (0, a0) (by (refine Wk.eqz (id) (by first | exact fun i _ j _ e => e | (simp only [List.length_cons, List.length_nil]; decide)) ?_; cbv; (repeat' (first | exact trivial | rfl | assumption | apply And.intro | (simp only [hbin, hcmp, hun, hconv, hnot, hbeq, hmm, hscmp, hsadd, hslen, hsat, heqs, hofNat, binStd, cmpStd, unStd, scmpStd, maxI, Z.z1, Z.z2, Z.z3, Z.z4, Z.z5, Z.z6, if_true, if_false, Z.z7, beq_iff_eq, bne_iff_ne, ne_eq, Z.z8, Z.z9, Z.y1, beq_eq_false_iff_ne, bne_eq_false_iff_eq, Z.y2, Z.y3, Z.y4, Z.y5, reduceCtorEq]; first | done | assumption) | exact RowsZ.same (by assumption) (by first | assumption | rfl) | exact FzL.mk rfl rfl rfl (by assumption) (by first | assumption | rfl) (by decide) | (refine RowsZ.one ?_; cbv))))) ⟨Int.le_refl _, L0, rfl, by simp only; omega, by simp only; omega⟩ ?_
  rintro ⟨i, e⟩ hinv Q' hN hE hR'
  have hinv : 0 ≤ i ∧ i ≤ L ∧ e = (l.take i.toNat).foldl (fun e n => e + lenAt ss n) a0 ∧ -1099511627776 ≤ e ∧ e ≤ i * 1099511627776 := hinv
  cbv
  obtain ⟨hi0, hi1, hfold, hb1, hb2⟩ := hinv
  simp only [eL]
  (split <;> rename_i hc <;> (try (simp only [hbin, hcmp, hun, hconv, hnot, hbeq, hmm, hscmp, hsadd, hslen, hsat, heqs, hofNat, binStd, cmpStd, unStd, scmpStd, maxI, Z.z1, Z.z2, Z.z3, Z.z4, Z.z5, Z.z6, if_true, if_false, Z.z7, beq_iff_eq, bne_iff_ne, ne_eq, Z.z8, Z.z9, Z.y1, beq_eq_false_iff_ne, bne_eq_false_iff_eq, Z.y2, Z.y3, Z.y4, Z.y5, reduceCtorEq] at hc)) <;> (try cbv))
  · have hit : i.toNat < l.length := by omega
    obtain ⟨q, hq⟩ : ∃ q, l[i.toNat]? = some q := ⟨_, List.getElem?_eq_getElem hit⟩
    have hni : ns[i.toNat]? = some (nxRow q) := by rw [hns, List.getElem?_map, hq]; rfl
    have hnb := hb q (List.mem_of_getElem? hq)
    obtain ⟨sg1, hd1, hrow1⟩ := get_map (f := sgRow) (ds := ss) (i := q) hnb.1 hnb.2
    have hle : lenAt ss q = sg1.len := by unfold lenAt; rw [hd1]
    have hl1 := hln.pos sg1 (List.mem_of_getElem? hd1)
    obtain ⟨len1, pcs1, nx1⟩ := sg1
    have hl1 : 1 ≤ len1 ∧ len1 ≤ 1099511627776 := hl1
    have hle : lenAt ss q = len1 := hle
    obtain ⟨q1, eq1⟩ : ∃ x, pcs1.map pcRow = x := ⟨_, rfl⟩
    obtain ⟨q2, eq2⟩ : ∃ x, nx1.map nxRow = x := ⟨_, rfl⟩
    have hrow1 : es[q.toNat]? = some [.int .i64 len1, .list 2 q1, .list 1 q2] := by rw [hes, ← eq1, ← eq2]; exact hrow1
    obtain ⟨e2, ee2⟩ : ∃ z, z = e + len1 := ⟨_, rfl⟩
    obtain ⟨i2, ei2⟩ : ∃ z, z = i + 1 := ⟨_, rfl⟩
    have a3 : wbin .add .i64 e len1 = e2 := by rw [hbin, ee2]; show IntKind.i64.wrap (e + len1) = e + len1; rw [IntKind.wrap_i64]; omega
    have a4 : wbin .add .i64 i 1 = i2 := by rw [hbin, ei2]; show IntKind.i64.wrap (i + 1) = i + 1; rw [IntKind.wrap_i64]; omega
    have hf2 : e2 = (l.take i2.toNat).foldl (fun e n => e + lenAt ss n) a0 := by
      rw [ei2, take_next hi0 hq, List.foldl_append, ← hfold, List.foldl_cons, List.foldl_nil, hle, ee2]
    refine Idx.mk _ hi0 hni ?_
    cbv
    refine Idx.mk _ hnb.1 hrow1 ?_
    cbv
    simp only [a3, a4]
    refine hN (i2, e2) _ _ ?hx ?hi ?ht
    case hx => (refine Wk.eqz (id) (by first | exact fun i _ j _ e => e | (simp only [List.length_cons, List.length_nil]; decide)) ?_; cbv; (repeat' (first | exact trivial | rfl | assumption | apply And.intro | (simp only [hbin, hcmp, hun, hconv, hnot, hbeq, hmm, hscmp, hsadd, hslen, hsat, heqs, hofNat, binStd, cmpStd, unStd, scmpStd, maxI, Z.z1, Z.z2, Z.z3, Z.z4, Z.z5, Z.z6, if_true, if_false, Z.z7, beq_iff_eq, bne_iff_ne, ne_eq, Z.z8, Z.z9, Z.y1, beq_eq_false_iff_ne, bne_eq_false_iff_eq, Z.y2, Z.y3, Z.y4, Z.y5, reduceCtorEq]; first | done | assumption) | exact RowsZ.same (by assumption) (by first | assumption | rfl) | exact FzL.mk rfl rfl rfl (by assumption) (by first | assumption | rfl) (by decide) | (refine RowsZ.one ?_; cbv))))
    case hi => exact ⟨by simp only; omega, by simp only; omega, hf2, by simp only; omega, by simp only; omega⟩
    case ht => simp only; omega
  · refine hE _ _ _ ?_
    cbv
    have : e = y := by rw [ey, hfold, List.take_of_length_le (by omega), ea0]; rfl
    exact ⟨_, Vw.same rfl, hR _ (by rw [this]; rfl)⟩
theorem ltL_at : ∀ (i : Nat) (l m : List Int), l.length = m.length → (∀ j, j < i → l.getD j 0 = m.getD j 0) → i < l.length → l.getD i 0 ≠ m.getD i 0 → (ltL l m ↔ l.getD i 0 < m.getD i 0)
  | _, [], _, _, _, h, _ => absurd h (by simp)
  | _, _ :: _, [], hl, _, _, _ => absurd hl (by simp)
  | 0, a :: l, b :: m, hl, _, _, hne => by
    simp only [List.getD_cons_zero] at hne ⊢
    simp only [ltL]
    exact ⟨fun h => h.elim id fun h => absurd h.1 hne, .inl⟩
  | i + 1, a :: l, b :: m, hl, hj, hi, hne => by
    have h0 := hj 0 (by omega)
    simp only [List.getD_cons_zero] at h0
    simp only [List.getD_cons_succ] at hne ⊢
    have ih := ltL_at i l m (by simpa using hl) (fun j h => by have := hj (j + 1) (by omega); simpa using this) (by simpa using hi) hne
    rw [← ih]
    simp only [ltL]
    exact ⟨fun h => h.elim (fun h => by omega) fun h => h.2, fun h => .inr ⟨h0, h⟩⟩
theorem ltL_all {l m : List Int} (hl : l.length = m.length) (h : ∀ j, j < l.length → l.getD j 0 = m.getD j 0) : ¬ ltL l m := by
  have : l = m := List.ext_getElem hl fun i h1 h2 => by have := h i h1; simpa [List.getD_eq_getElem?_getD, h1, h2] using this
  rw [this]; exact ltL_irrefl m
theorem key_at (l : List Int) (i : Nat) (hi : i < 12) : (toR l).key.getD i 0 = l.getD i 0 := by
  match i, hi with
  | 0, _ => rfl
  | 1, _ => rfl
  | 2, _ => rfl
  | 3, _ => rfl
  | 4, _ => rfl
  | 5, _ => rfl
  | 6, _ => rfl
  | 7, _ => rfl
  | 8, _ => rfl
  | 9, _ => rfl
  | 10, _ => rfl
  | 11, _ => rfl
theorem key_last (l : List Int) : (toR l).key.getD 12 0 = lenI l := rfl
/-- The first places alike, then two that differ. -/
theorem ltR_at {a b : List Int} {i : Nat} (hi : i < 12) (h : ∀ j, j < i → a.getD j 0 = b.getD j 0) (hne : a.getD i 0 ≠ b.getD i 0) : ltR a b ↔ a.getD i 0 < b.getD i 0 := by
  have := ltL_at i (toR a).key (toR b).key rfl (fun j hj => by rw [key_at a j (by omega), key_at b j (by omega)]; exact h j hj) (show i < 13 by omega) (by rw [key_at a i hi, key_at b i hi]; exact hne)
  rw [key_at a i hi, key_at b i hi] at this
  exact this
theorem ltR_len {a b : List Int} (h : ∀ j, j < 12 → a.getD j 0 = b.getD j 0) : ltR a b ↔ a.length < b.length := by
  by_cases hl : a.length = b.length
  · have h1 : ¬ ltR a b := ltL_all rfl fun j hj => by
      have hj : j < 13 := hj
      by_cases h12 : j = 12
      · subst h12; rw [key_last, key_last, lenI_len, lenI_len, hl]
      · rw [key_at a j (by omega), key_at b j (by omega)]; exact h j (by omega)
    exact ⟨fun h => absurd h h1, fun h => by omega⟩
  · have := ltL_at 12 (toR a).key (toR b).key rfl (fun j hj => by rw [key_at a j hj, key_at b j hj]; exact h j hj) (show 12 < 13 by omega) (by rw [key_last, key_last, lenI_len, lenI_len]; omega)
    rw [key_last, key_last, lenI_len, lenI_len] at this
    unfold ltR
    rw [this]; omega
set_option maxHeartbeats 1000000 in
theorem e_less (a b : List Int) (ha : a.length ≤ 12) (hb : b.length ≤ 12) (ra rb : List (List AV)) (has : ra = a.map nxRow) (hbs : rb = b.map nxRow) (o : Bool) (ho : o = decide (ltR a b)) :
    PCalls Try.prog 96 [.list 1 ra, .list 1 rb] (· = .bool o) := by
  have hua : Up0 ra := by rw [has]; exact up_nx a
  have hub : Up0 rb := by rw [hbs]; exact up_nx b
  have hal : ra.length = a.length := by rw [has]; simp
  have hbl : rb.length = b.length := by rw [hbs]; simp
  (refine PCalls.ofY Try.func96 (by kernel_rfl) (by kernel_rfl) fun w hw R hR => ?_); (obtain ⟨wbin, wcmp, wun, wconv, wnot, wbeq, wmm, wscmp, wsadd, wslen, wsat, weqs, wlen, wnlen, wofNat, wtake, wdrop, wapp, wzero, wnat⟩ := w); (have hbin := Z.w1 hw); (have hcmp := Z.w2 hw); (have hun := Z.w3 hw); (have hconv := Z.w4 hw); (have hnot := Z.w5 hw); (have hbeq := Z.w6 hw); (have hmm := Z.w7 hw); (have hscmp := Z.w8 hw); (have hsadd := Z.w9 hw); (have hslen := Z.w10 hw); (have hsat := Z.w11 hw); (have heqs := Z.w12 hw); (have hlen := Z.w13 hw); (have hnlen := Z.w14 hw); (have hofNat := Z.w15 hw); (have htake := Z.w16 hw); (have hdrop := Z.w17 hw); (have happ := Z.w18 hw); (have hzero := Z.w19 hw); (have hnat := Z.w20 hw); (conv => arg 2; cbv); (generalize hP : Try.prog = P); cbv
  (obtain ⟨L, eL, L0, Ln⟩ : ∃ L : Int, wlen ra = L ∧ 0 ≤ L ∧ L.toNat = ra.length := ⟨(ra.length : Int), by rw [hlen], Int.natCast_nonneg _, Int.toNat_natCast _⟩)
  (obtain ⟨M, eM, M0, Mn⟩ : ∃ L : Int, wlen rb = L ∧ 0 ≤ L ∧ L.toNat = rb.length := ⟨(rb.length : Int), by rw [hlen], Int.natCast_nonneg _, Int.toNat_natCast _⟩)
  refine Loop.data hw (S := Int) (fun i => fr 39 [(0, .list 1 ra), (1, .list 1 rb), (5, .int .i64 i)]) (fun s => [])
    (fun i => 0 ≤ i ∧ i ≤ 12 ∧ ∀ j, j < i.toNat → a.getD j 0 = b.getD j 0) (fun i => (12 - i).toNat) 0 (by (refine Wk.eqz (id) (by first | exact fun i _ j _ e => e | (simp only [List.length_cons, List.length_nil]; decide)) ?_; cbv; (repeat' (first | exact trivial | rfl | assumption | apply And.intro | (simp only [hbin, hcmp, hun, hconv, hnot, hbeq, hmm, hscmp, hsadd, hslen, hsat, heqs, hofNat, binStd, cmpStd, unStd, scmpStd, maxI, Z.z1, Z.z2, Z.z3, Z.z4, Z.z5, Z.z6, if_true, if_false, Z.z7, beq_iff_eq, bne_iff_ne, ne_eq, Z.z8, Z.z9, Z.y1, beq_eq_false_iff_ne, bne_eq_false_iff_eq, Z.y2, Z.y3, Z.y4, Z.y5, reduceCtorEq]; first | done | assumption) | exact RowsZ.same (by assumption) (by first | assumption | rfl) | exact FzL.mk rfl rfl rfl (by assumption) (by first | assumption | rfl) (by decide) | (refine RowsZ.one ?_; cbv))))) ⟨Int.le_refl _, by decide, fun j hj => (by simp at hj)⟩ ?_
  rintro i hinv Q' hN hE hR'
  have hinv : 0 ≤ i ∧ i ≤ 12 ∧ ∀ j, j < i.toNat → a.getD j 0 = b.getD j 0 := hinv
  cbv
  obtain ⟨hi0, hi1, hpre⟩ := hinv
  (split <;> rename_i hc <;> (try (simp only [hbin, hcmp, hun, hconv, hnot, hbeq, hmm, hscmp, hsadd, hslen, hsat, heqs, hofNat, binStd, cmpStd, unStd, scmpStd, maxI, Z.z1, Z.z2, Z.z3, Z.z4, Z.z5, Z.z6, if_true, if_false, Z.z7, beq_iff_eq, bne_iff_ne, ne_eq, Z.z8, Z.z9, Z.y1, beq_eq_false_iff_ne, bne_eq_false_iff_eq, Z.y2, Z.y3, Z.y4, Z.y5, reduceCtorEq] at hc)) <;> (try cbv))
  · obtain ⟨x, ex⟩ : ∃ x, x = a.getD i.toNat 0 := ⟨_, rfl⟩
    obtain ⟨y, ey⟩ : ∃ y, y = b.getD i.toNat 0 := ⟨_, rfl⟩
    obtain ⟨i2, ei2⟩ : ∃ z, z = i + 1 := ⟨_, rfl⟩
    have a4 : wbin .add .i64 i 1 = i2 := by rw [hbin, ei2]; show IntKind.i64.wrap (i + 1) = i + 1; rw [IntKind.wrap_i64]; omega
    have hra : i.toNat < a.length → ra[i.toNat]? = some (nxRow x) := fun h => by rw [has, List.getElem?_map, ex, List.getD_eq_getElem?_getD, List.getElem?_eq_getElem h]; rfl
    have hrb : i.toNat < b.length → rb[i.toNat]? = some (nxRow y) := fun h => by rw [hbs, List.getElem?_map, ey, List.getD_eq_getElem?_getD, List.getElem?_eq_getElem h]; rfl
    have hxz : a.length ≤ i.toNat → x = 0 := fun h => by rw [ex, List.getD_eq_getElem?_getD, List.getElem?_eq_none h]; rfl
    have hyz : b.length ≤ i.toNat → y = 0 := fun h => by rw [ey, List.getD_eq_getElem?_getD, List.getElem?_eq_none h]; rfl
    (split <;> rename_i h1 <;> (try (simp only [eL] at h1)) <;> (try (simp only [hbin, hcmp, hun, hconv, hnot, hbeq, hmm, hscmp, hsadd, hslen, hsat, heqs, hofNat, binStd, cmpStd, unStd, scmpStd, maxI, Z.z1, Z.z2, Z.z3, Z.z4, Z.z5, Z.z6, if_true, if_false, Z.z7, beq_iff_eq, bne_iff_ne, ne_eq, Z.z8, Z.z9, Z.y1, beq_eq_false_iff_ne, bne_eq_false_iff_eq, Z.y2, Z.y3, Z.y4, Z.y5, reduceCtorEq] at h1)) <;> (try cbv))
    · refine Idx.mk _ hi0 (hra (by omega)) ?_
      cbv
      (split <;> rename_i h2 <;> (try (simp only [eM] at h2)) <;> (try (simp only [hbin, hcmp, hun, hconv, hnot, hbeq, hmm, hscmp, hsadd, hslen, hsat, heqs, hofNat, binStd, cmpStd, unStd, scmpStd, maxI, Z.z1, Z.z2, Z.z3, Z.z4, Z.z5, Z.z6, if_true, if_false, Z.z7, beq_iff_eq, bne_iff_ne, ne_eq, Z.z8, Z.z9, Z.y1, beq_eq_false_iff_ne, bne_eq_false_iff_eq, Z.y2, Z.y3, Z.y4, Z.y5, reduceCtorEq] at h2)) <;> (try cbv))
      · refine Idx.mk _ hi0 (hrb (by omega)) ?_
        cbv
        (split <;> rename_i h3 <;> (try (simp only [hbin, hcmp, hun, hconv, hnot, hbeq, hmm, hscmp, hsadd, hslen, hsat, heqs, hofNat, binStd, cmpStd, unStd, scmpStd, maxI, Z.z1, Z.z2, Z.z3, Z.z4, Z.z5, Z.z6, if_true, if_false, Z.z7, beq_iff_eq, bne_iff_ne, ne_eq, Z.z8, Z.z9, Z.y1, beq_eq_false_iff_ne, bne_eq_false_iff_eq, Z.y2, Z.y3, Z.y4, Z.y5, reduceCtorEq] at h3)) <;> (try cbv))
        · refine hR' _ _ ⟨_, Vw.same rfl, hR _ ?_⟩
          have := ltR_at (a := a) (b := b) (i := i.toNat) (by omega) hpre (by rw [← ex, ← ey]; exact h3)
          rw [ho, hcmp]
          simp only [cmpStd]
          show AV.bool _ = AV.bool _
          congr 1
          rw [decide_eq_decide, this, ← ex, ← ey]
        · simp only [a4]
          refine hN i2 _ _ ?hx ?hi ?ht
          case hx => (refine Wk.eqz (id) (by first | exact fun i _ j _ e => e | (simp only [List.length_cons, List.length_nil]; decide)) ?_; cbv; (repeat' (first | exact trivial | rfl | assumption | apply And.intro | (simp only [hbin, hcmp, hun, hconv, hnot, hbeq, hmm, hscmp, hsadd, hslen, hsat, heqs, hofNat, binStd, cmpStd, unStd, scmpStd, maxI, Z.z1, Z.z2, Z.z3, Z.z4, Z.z5, Z.z6, if_true, if_false, Z.z7, beq_iff_eq, bne_iff_ne, ne_eq, Z.z8, Z.z9, Z.y1, beq_eq_false_iff_ne, bne_eq_false_iff_eq, Z.y2, Z.y3, Z.y4, Z.y5, reduceCtorEq]; first | done | assumption) | exact RowsZ.same (by assumption) (by first | assumption | rfl) | exact FzL.mk rfl rfl rfl (by assumption) (by first | assumption | rfl) (by decide) | (refine RowsZ.one ?_; cbv))))
          case hi =>
            refine ⟨by omega, by omega, fun j hj => ?_⟩
            by_cases hji : j = i.toNat
            · rw [hji, ← ex, ← ey]; first | exact h3 | rfl
            · exact hpre j (by omega)
          case ht => omega
      · obtain rfl : y = 0 := hyz (by omega)
        (split <;> rename_i h3 <;> (try (simp only [hbin, hcmp, hun, hconv, hnot, hbeq, hmm, hscmp, hsadd, hslen, hsat, heqs, hofNat, binStd, cmpStd, unStd, scmpStd, maxI, Z.z1, Z.z2, Z.z3, Z.z4, Z.z5, Z.z6, if_true, if_false, Z.z7, beq_iff_eq, bne_iff_ne, ne_eq, Z.z8, Z.z9, Z.y1, beq_eq_false_iff_ne, bne_eq_false_iff_eq, Z.y2, Z.y3, Z.y4, Z.y5, reduceCtorEq] at h3)) <;> (try cbv))
        · refine hR' _ _ ⟨_, Vw.same rfl, hR _ ?_⟩
          have := ltR_at (a := a) (b := b) (i := i.toNat) (by omega) hpre (by rw [← ex, ← ey]; exact h3)
          rw [ho, hcmp]
          simp only [cmpStd]
          show AV.bool _ = AV.bool _
          congr 1
          rw [decide_eq_decide, this, ← ex, ← ey]
        · simp only [a4]
          refine hN i2 _ _ ?hx ?hi ?ht
          case hx => (refine Wk.eqz (id) (by first | exact fun i _ j _ e => e | (simp only [List.length_cons, List.length_nil]; decide)) ?_; cbv; (repeat' (first | exact trivial | rfl | assumption | apply And.intro | (simp only [hbin, hcmp, hun, hconv, hnot, hbeq, hmm, hscmp, hsadd, hslen, hsat, heqs, hofNat, binStd, cmpStd, unStd, scmpStd, maxI, Z.z1, Z.z2, Z.z3, Z.z4, Z.z5, Z.z6, if_true, if_false, Z.z7, beq_iff_eq, bne_iff_ne, ne_eq, Z.z8, Z.z9, Z.y1, beq_eq_false_iff_ne, bne_eq_false_iff_eq, Z.y2, Z.y3, Z.y4, Z.y5, reduceCtorEq]; first | done | assumption) | exact RowsZ.same (by assumption) (by first | assumption | rfl) | exact FzL.mk rfl rfl rfl (by assumption) (by first | assumption | rfl) (by decide) | (refine RowsZ.one ?_; cbv))))
          case hi =>
            refine ⟨by omega, by omega, fun j hj => ?_⟩
            by_cases hji : j = i.toNat
            · rw [hji, ← ex, ← ey]; first | exact h3 | rfl
            · exact hpre j (by omega)
          case ht => omega
    · obtain rfl : x = 0 := hxz (by omega)
      (split <;> rename_i h2 <;> (try (simp only [eM] at h2)) <;> (try (simp only [hbin, hcmp, hun, hconv, hnot, hbeq, hmm, hscmp, hsadd, hslen, hsat, heqs, hofNat, binStd, cmpStd, unStd, scmpStd, maxI, Z.z1, Z.z2, Z.z3, Z.z4, Z.z5, Z.z6, if_true, if_false, Z.z7, beq_iff_eq, bne_iff_ne, ne_eq, Z.z8, Z.z9, Z.y1, beq_eq_false_iff_ne, bne_eq_false_iff_eq, Z.y2, Z.y3, Z.y4, Z.y5, reduceCtorEq] at h2)) <;> (try cbv))
      · refine Idx.mk _ hi0 (hrb (by omega)) ?_
        cbv
        (split <;> rename_i h3 <;> (try (simp only [hbin, hcmp, hun, hconv, hnot, hbeq, hmm, hscmp, hsadd, hslen, hsat, heqs, hofNat, binStd, cmpStd, unStd, scmpStd, maxI, Z.z1, Z.z2, Z.z3, Z.z4, Z.z5, Z.z6, if_true, if_false, Z.z7, beq_iff_eq, bne_iff_ne, ne_eq, Z.z8, Z.z9, Z.y1, beq_eq_false_iff_ne, bne_eq_false_iff_eq, Z.y2, Z.y3, Z.y4, Z.y5, reduceCtorEq] at h3)) <;> (try cbv))
        · refine hR' _ _ ⟨_, Vw.same rfl, hR _ ?_⟩
          have := ltR_at (a := a) (b := b) (i := i.toNat) (by omega) hpre (by rw [← ex, ← ey]; exact h3)
          rw [ho, hcmp]
          simp only [cmpStd]
          show AV.bool _ = AV.bool _
          congr 1
          rw [decide_eq_decide, this, ← ex, ← ey]
        · simp only [a4]
          refine hN i2 _ _ ?hx ?hi ?ht
          case hx => (refine Wk.eqz (id) (by first | exact fun i _ j _ e => e | (simp only [List.length_cons, List.length_nil]; decide)) ?_; cbv; (repeat' (first | exact trivial | rfl | assumption | apply And.intro | (simp only [hbin, hcmp, hun, hconv, hnot, hbeq, hmm, hscmp, hsadd, hslen, hsat, heqs, hofNat, binStd, cmpStd, unStd, scmpStd, maxI, Z.z1, Z.z2, Z.z3, Z.z4, Z.z5, Z.z6, if_true, if_false, Z.z7, beq_iff_eq, bne_iff_ne, ne_eq, Z.z8, Z.z9, Z.y1, beq_eq_false_iff_ne, bne_eq_false_iff_eq, Z.y2, Z.y3, Z.y4, Z.y5, reduceCtorEq]; first | done | assumption) | exact RowsZ.same (by assumption) (by first | assumption | rfl) | exact FzL.mk rfl rfl rfl (by assumption) (by first | assumption | rfl) (by decide) | (refine RowsZ.one ?_; cbv))))
          case hi =>
            refine ⟨by omega, by omega, fun j hj => ?_⟩
            by_cases hji : j = i.toNat
            · rw [hji, ← ex, ← ey]; first | exact h3 | rfl
            · exact hpre j (by omega)
          case ht => omega
      · obtain rfl : y = 0 := hyz (by omega)
        have c9 : wcmp .neq 0 0 = false := by rw [hcmp]; rfl
        simp only [c9]
        cbv
        simp only [a4]
        refine hN i2 _ _ ?hx ?hi ?ht
        case hx => (refine Wk.eqz (id) (by first | exact fun i _ j _ e => e | (simp only [List.length_cons, List.length_nil]; decide)) ?_; cbv; (repeat' (first | exact trivial | rfl | assumption | apply And.intro | (simp only [hbin, hcmp, hun, hconv, hnot, hbeq, hmm, hscmp, hsadd, hslen, hsat, heqs, hofNat, binStd, cmpStd, unStd, scmpStd, maxI, Z.z1, Z.z2, Z.z3, Z.z4, Z.z5, Z.z6, if_true, if_false, Z.z7, beq_iff_eq, bne_iff_ne, ne_eq, Z.z8, Z.z9, Z.y1, beq_eq_false_iff_ne, bne_eq_false_iff_eq, Z.y2, Z.y3, Z.y4, Z.y5, reduceCtorEq]; first | done | assumption) | exact RowsZ.same (by assumption) (by first | assumption | rfl) | exact FzL.mk rfl rfl rfl (by assumption) (by first | assumption | rfl) (by decide) | (refine RowsZ.one ?_; cbv))))
        case hi =>
          refine ⟨by omega, by omega, fun j hj => ?_⟩
          by_cases hji : j = i.toNat
          · rw [hji, ← ex, ← ey]
          · exact hpre j (by omega)
        case ht => omega
  · refine hE _ _ _ ?_
    cbv
    simp only [eL, eM]
    refine ⟨_, Vw.same rfl, hR _ ?_⟩
    have := ltR_len (a := a) (b := b) fun j hj => hpre j (by omega)
    rw [ho, hcmp]
    simp only [cmpStd]
    show AV.bool _ = AV.bool _
    congr 1
    rw [decide_eq_decide, this]
    omega
/-- A way in its place, if it isn't there. -/
def putQ : List (List Int) → List Int → List (List Int)
  | [], r => [r]
  | k :: l, r => if ltR k r then k :: putQ l r else if ltR r k then r :: k :: l else k :: l
theorem drop_get {α : Type} {l : List α} {i : Nat} {a : α} (h : l[i]? = some a) : l.drop i = a :: l.drop (i + 1) := by
  have h1 := (List.getElem?_eq_some_iff.1 h)
  rw [List.drop_eq_getElem_cons h1.1, h1.2]
theorem putQ_lt {k r : List Int} (h : ltR k r) (l : List (List Int)) : putQ (k :: l) r = k :: putQ l r := by show (if ltR k r then _ else _) = _; rw [if_pos h]
theorem putQ_gt {k r : List Int} (h : ¬ ltR k r) (h2 : ltR r k) (l : List (List Int)) : putQ (k :: l) r = r :: k :: l := by show (if ltR k r then _ else _) = _; rw [if_neg h, if_pos h2]
theorem putQ_eq {k r : List Int} (h : ¬ ltR k r) (h2 : ¬ ltR r k) (l : List (List Int)) : putQ (k :: l) r = k :: l := by show (if ltR k r then _ else _) = _; rw [if_neg h, if_neg h2]
theorem up_one1 {xs : List (List AV)} (h : Up0 xs) : uptoLL 0 [[AV.list 1 xs]] = true := by simp only [uptoLL, uptoL, AV.upto, h.get]; rfl
theorem up_two {xs ys : List (List AV)} (h : Up0 xs) (k : Up0 ys) : uptoL 0 [AV.list 1 xs, .list 1 ys] = true := Up0.one h (Up0.one k rfl)
set_option maxHeartbeats 2000000 in
theorem e_put (l : List (List Int)) (r : List Int) (hl : ∀ k, k ∈ l → k.length ≤ 12) (hl16 : l.length ≤ 1000) (hr : r.length ≤ 12) (ls rs : List (List AV)) (hls : ls = l.map rtRow) (hrs : rs = r.map nxRow) :
    PCalls Try.prog 69 [.list 1 ls, .list 1 rs] (· = .list 1 ((putQ l r).map rtRow)) := by
  have hul : Up0 ls := by rw [hls]; exact up_rt l
  have hur : Up0 rs := by rw [hrs]; exact up_nx r
  have hll : ls.length = l.length := by rw [hls]; simp
  obtain ⟨q, eq⟩ : ∃ q, q = (putQ l r).map rtRow := ⟨_, rfl⟩
  rw [← eq]
  (refine PCalls.ofY Try.func69 (by kernel_rfl) (by kernel_rfl) fun w hw R hR => ?_); (obtain ⟨wbin, wcmp, wun, wconv, wnot, wbeq, wmm, wscmp, wsadd, wslen, wsat, weqs, wlen, wnlen, wofNat, wtake, wdrop, wapp, wzero, wnat⟩ := w); (have hbin := Z.w1 hw); (have hcmp := Z.w2 hw); (have hun := Z.w3 hw); (have hconv := Z.w4 hw); (have hnot := Z.w5 hw); (have hbeq := Z.w6 hw); (have hmm := Z.w7 hw); (have hscmp := Z.w8 hw); (have hsadd := Z.w9 hw); (have hslen := Z.w10 hw); (have hsat := Z.w11 hw); (have heqs := Z.w12 hw); (have hlen := Z.w13 hw); (have hnlen := Z.w14 hw); (have hofNat := Z.w15 hw); (have htake := Z.w16 hw); (have hdrop := Z.w17 hw); (have happ := Z.w18 hw); (have hzero := Z.w19 hw); (have hnat := Z.w20 hw); (conv => arg 2; cbv); (generalize hP : Try.prog = P); cbv
  (obtain ⟨L, eL, L0, Ln⟩ : ∃ L : Int, wlen ls = L ∧ 0 ≤ L ∧ L.toNat = ls.length := ⟨(ls.length : Int), by rw [hlen], Int.natCast_nonneg _, Int.toNat_natCast _⟩)
  refine Loop.data hw (S := Option (Int × Bool × List (List Int) × Nat × List (List AV))) (fun s => match s with
      | none => fr 49 [(0, .list 1 ls), (1, .list 1 rs), (5, .nils), (6, .bool false), (7, .int .i64 0)]
      | some (i, d, out, k, w) => fr 49 [(0, .list 1 ls), (1, .list 1 rs), (5, .sl 0 1 0 k), (6, .bool d), (7, .int .i64 i)])
    (fun s => match s with
      | none => []
      | some (i, d, out, k, w) => [.live 1 w])
    (fun s => match s with
      | none => True
      | some (i, d, out, k, w) => 0 ≤ i ∧ i ≤ L ∧ putQ l r = out ++ (if d then l.drop i.toNat else putQ (l.drop i.toNat) r) ∧ w = out.map rtRow ∧ Up0 w ∧ k = w.length ∧ out.length ≤ 2 * i.toNat) (fun s => match s with | none => L.toNat + 1 | some (i, _) => (L - i).toNat) none (by (refine Wk.eqz (id) (by first | exact fun i _ j _ e => e | (simp only [List.length_cons, List.length_nil]; decide)) ?_; cbv; (repeat' (first | exact trivial | rfl | assumption | apply And.intro | (simp only [hbin, hcmp, hun, hconv, hnot, hbeq, hmm, hscmp, hsadd, hslen, hsat, heqs, hofNat, binStd, cmpStd, unStd, scmpStd, maxI, Z.z1, Z.z2, Z.z3, Z.z4, Z.z5, Z.z6, if_true, if_false, Z.z7, beq_iff_eq, bne_iff_ne, ne_eq, Z.z8, Z.z9, Z.y1, beq_eq_false_iff_ne, bne_eq_false_iff_eq, Z.y2, Z.y3, Z.y4, Z.y5, reduceCtorEq]; first | done | assumption) | exact RowsZ.same (by assumption) (by first | assumption | rfl) | exact FzL.mk rfl rfl rfl (by assumption) (by first | assumption | rfl) (by decide) | (refine RowsZ.one ?_; cbv))))) trivial ?_
  rintro (_ | ⟨i, d, out, k, w⟩) hinv Q' hN hE hR'
  · cbv
    simp only [eL]
    (split <;> rename_i hc <;> (try (simp only [hbin, hcmp, hun, hconv, hnot, hbeq, hmm, hscmp, hsadd, hslen, hsat, heqs, hofNat, binStd, cmpStd, unStd, scmpStd, maxI, Z.z1, Z.z2, Z.z3, Z.z4, Z.z5, Z.z6, if_true, if_false, Z.z7, beq_iff_eq, bne_iff_ne, ne_eq, Z.z8, Z.z9, Z.y1, beq_eq_false_iff_ne, bne_eq_false_iff_eq, Z.y2, Z.y3, Z.y4, Z.y5, reduceCtorEq] at hc)) <;> (try cbv))
    · obtain ⟨k0, hk0⟩ : ∃ k0, l[0]? = some k0 := ⟨_, List.getElem?_eq_getElem (show 0 < l.length by omega)⟩
      obtain ⟨i2, ei2⟩ : ∃ z : Int, z = 0 + 1 := ⟨_, rfl⟩
      have a4 : wbin .add .i64 0 1 = i2 := by rw [hbin, ei2]; show IntKind.i64.wrap (0 + 1) = 0 + 1; rw [IntKind.wrap_i64]; omega
      have hD : l.drop 0 = k0 :: l.drop i2.toNat := by rw [drop_get hk0, show i2.toNat = 0 + 1 by omega]
      obtain ⟨xs, exs⟩ : ∃ x, x = k0.map nxRow := ⟨_, rfl⟩
      have huxs : Up0 xs := by rw [exs]; exact up_nx k0
      have hrow : ls[(0 : Int).toNat]? = some [.list 1 xs] := by rw [hls, List.getElem?_map, show (0 : Int).toNat = 0 from rfl, hk0, exs]; rfl
      have hk12 := hl k0 (List.mem_of_getElem? hk0)
      have n1 : wnot true = false := by rw [hnot]; rfl
      have n2 : wnot false = true := by rw [hnot]; rfl
      have hput : putQ l r = putQ (k0 :: l.drop i2.toNat) r := by rw [← hD, List.drop_zero]
      simp only [n2]
      cbv
      refine Idx.mk _ (by decide) hrow ?_
      cbv
      by_cases hq : ltR k0 r
      · refine Call.stepE (by rw [← hP]; exact e_less k0 r hk12 hr xs rs exs hrs true (by simp [hq])) (by exact up_two huxs hur) ?_
        cbv
        simp only [n1]
        cbv
        refine Idx.mk _ (by decide) hrow ?_
        cbv
        refine Ob.mk (by decide) ?_
        cbv
        have hwf : [[.list 1 xs]] = ([] ++ [k0]).map rtRow := by simp only [List.map_append, List.append_assoc, List.nil_append, List.map_cons, List.map_nil]; simp [rtRow, exs, hrs]
        have huwf : Up0 [[.list 1 xs]] := by rw [hwf]; exact up_rt _
        simp only [a4]
        refine hN (some (i2, false, [] ++ [k0], 1, [[.list 1 xs]])) _ _ ?hx ?hi ?ht
        case hx => (refine Wk.eqz (fun j => [0].getD j 0) (by first | exact fun i _ j _ e => e | (simp only [List.length_cons, List.length_nil]; decide)) ?_; cbv; (repeat' (first | exact trivial | rfl | assumption | apply And.intro | (simp only [hbin, hcmp, hun, hconv, hnot, hbeq, hmm, hscmp, hsadd, hslen, hsat, heqs, hofNat, binStd, cmpStd, unStd, scmpStd, maxI, Z.z1, Z.z2, Z.z3, Z.z4, Z.z5, Z.z6, if_true, if_false, Z.z7, beq_iff_eq, bne_iff_ne, ne_eq, Z.z8, Z.z9, Z.y1, beq_eq_false_iff_ne, bne_eq_false_iff_eq, Z.y2, Z.y3, Z.y4, Z.y5, reduceCtorEq]; first | done | assumption) | exact RowsZ.same (by assumption) (by first | assumption | rfl) | exact FzL.mk rfl rfl rfl (by assumption) (by first | assumption | rfl) (by decide) | (refine RowsZ.one ?_; cbv))))
        case hi => exact ⟨by omega, by omega, by rw [hput]; rw [putQ_lt hq]; simp, hwf, huwf, by first | rfl | omega, by simp only [List.length_append, List.length_cons, List.length_nil]; omega⟩
        case ht => show (L - i2).toNat < L.toNat + 1; omega
      · refine Call.stepE (by rw [← hP]; exact e_less k0 r hk12 hr xs rs exs hrs false (by simp [hq])) (by exact up_two huxs hur) ?_
        cbv
        simp only [n2]
        cbv
        refine Idx.mk _ (by decide) hrow ?_
        cbv
        by_cases hq2 : ltR r k0
        · refine Call.stepE (by rw [← hP]; exact e_less r k0 hr hk12 rs xs hrs exs true (by simp [hq2])) (by exact up_two hur huxs) ?_
          cbv
          refine Ob.mk (by decide) ?_
          cbv
          refine Idx.mk _ (by decide) hrow ?_
          cbv
          obtain ⟨w0, ew0⟩ : ∃ x : List (List AV), x = [[AV.list 1 rs]] ++ [[.list 1 xs]] := ⟨_, rfl⟩
          obtain ⟨k0', ek0'⟩ : ∃ x, x = 1 + 1 := ⟨_, rfl⟩
          have hl0 : w0.length = 2 := by rw [ew0]; simp
          refine App.mk w0 k0' ew0 (by simp) ek0' (by omega) (by omega) ?_
          cbv
          have hwf : w0 = ([] ++ [r, k0]).map rtRow := by simp only [ew0, List.map_append, List.append_assoc, List.nil_append, List.map_cons, List.map_nil]; simp [rtRow, exs, hrs]
          have huwf : Up0 w0 := by rw [hwf]; exact up_rt _
          simp only [a4]
          refine hN (some (i2, true, [] ++ [r, k0], k0', w0)) _ _ ?hx ?hi ?ht
          case hx => (refine Wk.eqz (fun j => [1].getD j 0) (by first | exact fun i _ j _ e => e | (simp only [List.length_cons, List.length_nil]; decide)) ?_; cbv; (repeat' (first | exact trivial | rfl | assumption | apply And.intro | (simp only [hbin, hcmp, hun, hconv, hnot, hbeq, hmm, hscmp, hsadd, hslen, hsat, heqs, hofNat, binStd, cmpStd, unStd, scmpStd, maxI, Z.z1, Z.z2, Z.z3, Z.z4, Z.z5, Z.z6, if_true, if_false, Z.z7, beq_iff_eq, bne_iff_ne, ne_eq, Z.z8, Z.z9, Z.y1, beq_eq_false_iff_ne, bne_eq_false_iff_eq, Z.y2, Z.y3, Z.y4, Z.y5, reduceCtorEq]; first | done | assumption) | exact RowsZ.same (by assumption) (by first | assumption | rfl) | exact FzL.mk rfl rfl rfl (by assumption) (by first | assumption | rfl) (by decide) | (refine RowsZ.one ?_; cbv))))
          case hi => exact ⟨by omega, by omega, by rw [hput]; rw [putQ_gt hq hq2]; simp, hwf, huwf, by first | rfl | omega, by simp only [List.length_append, List.length_cons, List.length_nil]; omega⟩
          case ht => show (L - i2).toNat < L.toNat + 1; omega
        · refine Call.stepE (by rw [← hP]; exact e_less r k0 hr hk12 rs xs hrs exs false (by simp [hq2])) (by exact up_two hur huxs) ?_
          cbv
          refine Idx.mk _ (by decide) hrow ?_
          cbv
          refine Ob.mk (by decide) ?_
          cbv
          have hwf : [[.list 1 xs]] = ([] ++ [k0]).map rtRow := by simp only [List.map_append, List.append_assoc, List.nil_append, List.map_cons, List.map_nil]; simp [rtRow, exs, hrs]
          have huwf : Up0 [[.list 1 xs]] := by rw [hwf]; exact up_rt _
          simp only [a4]
          refine hN (some (i2, true, [] ++ [k0], 1, [[.list 1 xs]])) _ _ ?hx ?hi ?ht
          case hx => (refine Wk.eqz (fun j => [0].getD j 0) (by first | exact fun i _ j _ e => e | (simp only [List.length_cons, List.length_nil]; decide)) ?_; cbv; (repeat' (first | exact trivial | rfl | assumption | apply And.intro | (simp only [hbin, hcmp, hun, hconv, hnot, hbeq, hmm, hscmp, hsadd, hslen, hsat, heqs, hofNat, binStd, cmpStd, unStd, scmpStd, maxI, Z.z1, Z.z2, Z.z3, Z.z4, Z.z5, Z.z6, if_true, if_false, Z.z7, beq_iff_eq, bne_iff_ne, ne_eq, Z.z8, Z.z9, Z.y1, beq_eq_false_iff_ne, bne_eq_false_iff_eq, Z.y2, Z.y3, Z.y4, Z.y5, reduceCtorEq]; first | done | assumption) | exact RowsZ.same (by assumption) (by first | assumption | rfl) | exact FzL.mk rfl rfl rfl (by assumption) (by first | assumption | rfl) (by decide) | (refine RowsZ.one ?_; cbv))))
          case hi => exact ⟨by omega, by omega, by rw [hput]; rw [putQ_eq hq hq2]; simp, hwf, huwf, by first | rfl | omega, by simp only [List.length_append, List.length_cons, List.length_nil]; omega⟩
          case ht => show (L - i2).toNat < L.toNat + 1; omega
    · refine hE _ _ _ ?_
      cbv
      have hl0 : l = [] := List.length_eq_zero_iff.1 (by omega)
      simp only [show wnot false = true by rw [hnot]; rfl]
      cbv
      refine Ob.mk (by decide) ?_
      cbv
      refine ⟨_, Vw.sl (n := 1) (i := 0) rfl (by exact up_one1 hur) (by simp), hR _ ?_⟩
      rw [eq, hl0, hrs]; rfl
  · have hinv : 0 ≤ i ∧ i ≤ L ∧ putQ l r = out ++ (if d then l.drop i.toNat else putQ (l.drop i.toNat) r) ∧ w = out.map rtRow ∧ Up0 w ∧ k = w.length ∧ out.length ≤ 2 * i.toNat := hinv
    cbv
    obtain ⟨hi0, hi1, hput, hw2, huw, hk, hsz⟩ := hinv
    have hwl : w.length = out.length := by rw [hw2]; simp
    simp only [eL]
    (split <;> rename_i hc <;> (try (simp only [hbin, hcmp, hun, hconv, hnot, hbeq, hmm, hscmp, hsadd, hslen, hsat, heqs, hofNat, binStd, cmpStd, unStd, scmpStd, maxI, Z.z1, Z.z2, Z.z3, Z.z4, Z.z5, Z.z6, if_true, if_false, Z.z7, beq_iff_eq, bne_iff_ne, ne_eq, Z.z8, Z.z9, Z.y1, beq_eq_false_iff_ne, bne_eq_false_iff_eq, Z.y2, Z.y3, Z.y4, Z.y5, reduceCtorEq] at hc)) <;> (try cbv))
    · obtain ⟨k0, hk0⟩ : ∃ k0, l[i.toNat]? = some k0 := ⟨_, List.getElem?_eq_getElem (show i.toNat < l.length by omega)⟩
      obtain ⟨i2, ei2⟩ : ∃ z : Int, z = i + 1 := ⟨_, rfl⟩
      have a4 : wbin .add .i64 i 1 = i2 := by rw [hbin, ei2]; show IntKind.i64.wrap (i + 1) = i + 1; rw [IntKind.wrap_i64]; omega
      have hD : l.drop i.toNat = k0 :: l.drop i2.toNat := by rw [drop_get hk0, show i2.toNat = i.toNat + 1 by omega]
      obtain ⟨xs, exs⟩ : ∃ x, x = k0.map nxRow := ⟨_, rfl⟩
      have huxs : Up0 xs := by rw [exs]; exact up_nx k0
      have hrow : ls[(i : Int).toNat]? = some [.list 1 xs] := by rw [hls, List.getElem?_map, show (i : Int).toNat = i.toNat from rfl, hk0, exs]; rfl
      have hk12 := hl k0 (List.mem_of_getElem? hk0)
      have n1 : wnot true = false := by rw [hnot]; rfl
      have n2 : wnot false = true := by rw [hnot]; rfl
      cases d with
      | true =>
        cbv
        simp only [n1]
        cbv
        refine Idx.mk _ hi0 hrow ?_
        cbv
        obtain ⟨w0, ew0⟩ : ∃ x : List (List AV), x = w ++ [[.list 1 xs]] := ⟨_, rfl⟩
        obtain ⟨k0', ek0'⟩ : ∃ x, x = k + 1 := ⟨_, rfl⟩
        have hl0 : w0.length = w.length + 1 := by rw [ew0]; simp
        refine App.mk w0 k0' ew0 hk ek0' (by omega) (by omega) ?_
        cbv
        have hwf : w0 = (out ++ [k0]).map rtRow := by simp only [ew0, hw2, List.map_append, List.append_assoc, List.nil_append, List.map_cons, List.map_nil]; simp [rtRow, exs, hrs]
        have huwf : Up0 w0 := by rw [hwf]; exact up_rt _
        simp only [a4]
        refine hN (some (i2, true, out ++ [k0], k0', w0)) _ _ ?hx ?hi ?ht
        case hx => (refine Wk.eqz (fun j => [1].getD j 0) (by first | exact fun i _ j _ e => e | (simp only [List.length_cons, List.length_nil]; decide)) ?_; cbv; (repeat' (first | exact trivial | rfl | assumption | apply And.intro | (simp only [hbin, hcmp, hun, hconv, hnot, hbeq, hmm, hscmp, hsadd, hslen, hsat, heqs, hofNat, binStd, cmpStd, unStd, scmpStd, maxI, Z.z1, Z.z2, Z.z3, Z.z4, Z.z5, Z.z6, if_true, if_false, Z.z7, beq_iff_eq, bne_iff_ne, ne_eq, Z.z8, Z.z9, Z.y1, beq_eq_false_iff_ne, bne_eq_false_iff_eq, Z.y2, Z.y3, Z.y4, Z.y5, reduceCtorEq]; first | done | assumption) | exact RowsZ.same (by assumption) (by first | assumption | rfl) | exact FzL.mk rfl rfl rfl (by assumption) (by first | assumption | rfl) (by decide) | (refine RowsZ.one ?_; cbv))))
        case hi => exact ⟨by omega, by omega, by rw [hput]; simp only [if_true]; rw [hD]; simp, hwf, huwf, by first | rfl | omega, by simp only [List.length_append, List.length_cons, List.length_nil]; omega⟩
        case ht => show (L - i2).toNat < (L - i).toNat; omega
      | false =>
        cbv
        simp only [n2]
        cbv
        refine Idx.mk _ hi0 hrow ?_
        cbv
        by_cases hq : ltR k0 r
        · refine Call.stepE (by rw [← hP]; exact e_less k0 r hk12 hr xs rs exs hrs true (by simp [hq])) (by exact up_two huxs hur) ?_
          cbv
          simp only [n1]
          cbv
          refine Idx.mk _ hi0 hrow ?_
          cbv
          obtain ⟨w0, ew0⟩ : ∃ x : List (List AV), x = w ++ [[.list 1 xs]] := ⟨_, rfl⟩
          obtain ⟨k0', ek0'⟩ : ∃ x, x = k + 1 := ⟨_, rfl⟩
          have hl0 : w0.length = w.length + 1 := by rw [ew0]; simp
          refine App.mk w0 k0' ew0 hk ek0' (by omega) (by omega) ?_
          cbv
          have hwf : w0 = (out ++ [k0]).map rtRow := by simp only [ew0, hw2, List.map_append, List.append_assoc, List.nil_append, List.map_cons, List.map_nil]; simp [rtRow, exs, hrs]
          have huwf : Up0 w0 := by rw [hwf]; exact up_rt _
          simp only [a4]
          refine hN (some (i2, false, out ++ [k0], k0', w0)) _ _ ?hx ?hi ?ht
          case hx => (refine Wk.eqz (fun j => [1].getD j 0) (by first | exact fun i _ j _ e => e | (simp only [List.length_cons, List.length_nil]; decide)) ?_; cbv; (repeat' (first | exact trivial | rfl | assumption | apply And.intro | (simp only [hbin, hcmp, hun, hconv, hnot, hbeq, hmm, hscmp, hsadd, hslen, hsat, heqs, hofNat, binStd, cmpStd, unStd, scmpStd, maxI, Z.z1, Z.z2, Z.z3, Z.z4, Z.z5, Z.z6, if_true, if_false, Z.z7, beq_iff_eq, bne_iff_ne, ne_eq, Z.z8, Z.z9, Z.y1, beq_eq_false_iff_ne, bne_eq_false_iff_eq, Z.y2, Z.y3, Z.y4, Z.y5, reduceCtorEq]; first | done | assumption) | exact RowsZ.same (by assumption) (by first | assumption | rfl) | exact FzL.mk rfl rfl rfl (by assumption) (by first | assumption | rfl) (by decide) | (refine RowsZ.one ?_; cbv))))
          case hi => exact ⟨by omega, by omega, by rw [hput]; simp only [Bool.false_eq_true, if_false]; rw [hD, putQ_lt hq]; simp, hwf, huwf, by first | rfl | omega, by simp only [List.length_append, List.length_cons, List.length_nil]; omega⟩
          case ht => show (L - i2).toNat < (L - i).toNat; omega
        · refine Call.stepE (by rw [← hP]; exact e_less k0 r hk12 hr xs rs exs hrs false (by simp [hq])) (by exact up_two huxs hur) ?_
          cbv
          simp only [n2]
          cbv
          refine Idx.mk _ hi0 hrow ?_
          cbv
          by_cases hq2 : ltR r k0
          · refine Call.stepE (by rw [← hP]; exact e_less r k0 hr hk12 rs xs hrs exs true (by simp [hq2])) (by exact up_two hur huxs) ?_
            cbv
            obtain ⟨w0, ew0⟩ : ∃ x : List (List AV), x = w ++ [[.list 1 rs]] := ⟨_, rfl⟩
            obtain ⟨k0', ek0'⟩ : ∃ x, x = k + 1 := ⟨_, rfl⟩
            have hl0 : w0.length = w.length + 1 := by rw [ew0]; simp
            refine App.mk w0 k0' ew0 hk ek0' (by omega) (by omega) ?_
            cbv
            refine Idx.mk _ hi0 hrow ?_
            cbv
            obtain ⟨w1, ew1⟩ : ∃ x : List (List AV), x = w0 ++ [[.list 1 xs]] := ⟨_, rfl⟩
            obtain ⟨k1', ek1'⟩ : ∃ x, x = k0' + 1 := ⟨_, rfl⟩
            have hl1 : w1.length = w0.length + 1 := by rw [ew1]; simp
            refine App.mk w1 k1' ew1 (by omega) ek1' (by omega) (by omega) ?_
            cbv
            have hwf : w1 = (out ++ [r, k0]).map rtRow := by simp only [ew0, ew1, hw2, List.map_append, List.append_assoc, List.nil_append, List.map_cons, List.map_nil]; simp [rtRow, exs, hrs]
            have huwf : Up0 w1 := by rw [hwf]; exact up_rt _
            simp only [a4]
            refine hN (some (i2, true, out ++ [r, k0], k1', w1)) _ _ ?hx ?hi ?ht
            case hx => (refine Wk.eqz (fun j => [2].getD j 0) (by first | exact fun i _ j _ e => e | (simp only [List.length_cons, List.length_nil]; decide)) ?_; cbv; (repeat' (first | exact trivial | rfl | assumption | apply And.intro | (simp only [hbin, hcmp, hun, hconv, hnot, hbeq, hmm, hscmp, hsadd, hslen, hsat, heqs, hofNat, binStd, cmpStd, unStd, scmpStd, maxI, Z.z1, Z.z2, Z.z3, Z.z4, Z.z5, Z.z6, if_true, if_false, Z.z7, beq_iff_eq, bne_iff_ne, ne_eq, Z.z8, Z.z9, Z.y1, beq_eq_false_iff_ne, bne_eq_false_iff_eq, Z.y2, Z.y3, Z.y4, Z.y5, reduceCtorEq]; first | done | assumption) | exact RowsZ.same (by assumption) (by first | assumption | rfl) | exact FzL.mk rfl rfl rfl (by assumption) (by first | assumption | rfl) (by decide) | (refine RowsZ.one ?_; cbv))))
            case hi => exact ⟨by omega, by omega, by rw [hput]; simp only [Bool.false_eq_true, if_false, if_true]; rw [hD, putQ_gt hq hq2]; simp, hwf, huwf, by first | rfl | omega, by simp only [List.length_append, List.length_cons, List.length_nil]; omega⟩
            case ht => show (L - i2).toNat < (L - i).toNat; omega
          · refine Call.stepE (by rw [← hP]; exact e_less r k0 hr hk12 rs xs hrs exs false (by simp [hq2])) (by exact up_two hur huxs) ?_
            cbv
            refine Idx.mk _ hi0 hrow ?_
            cbv
            obtain ⟨w0, ew0⟩ : ∃ x : List (List AV), x = w ++ [[.list 1 xs]] := ⟨_, rfl⟩
            obtain ⟨k0', ek0'⟩ : ∃ x, x = k + 1 := ⟨_, rfl⟩
            have hl0 : w0.length = w.length + 1 := by rw [ew0]; simp
            refine App.mk w0 k0' ew0 hk ek0' (by omega) (by omega) ?_
            cbv
            have hwf : w0 = (out ++ [k0]).map rtRow := by simp only [ew0, hw2, List.map_append, List.append_assoc, List.nil_append, List.map_cons, List.map_nil]; simp [rtRow, exs, hrs]
            have huwf : Up0 w0 := by rw [hwf]; exact up_rt _
            simp only [a4]
            refine hN (some (i2, true, out ++ [k0], k0', w0)) _ _ ?hx ?hi ?ht
            case hx => (refine Wk.eqz (fun j => [1].getD j 0) (by first | exact fun i _ j _ e => e | (simp only [List.length_cons, List.length_nil]; decide)) ?_; cbv; (repeat' (first | exact trivial | rfl | assumption | apply And.intro | (simp only [hbin, hcmp, hun, hconv, hnot, hbeq, hmm, hscmp, hsadd, hslen, hsat, heqs, hofNat, binStd, cmpStd, unStd, scmpStd, maxI, Z.z1, Z.z2, Z.z3, Z.z4, Z.z5, Z.z6, if_true, if_false, Z.z7, beq_iff_eq, bne_iff_ne, ne_eq, Z.z8, Z.z9, Z.y1, beq_eq_false_iff_ne, bne_eq_false_iff_eq, Z.y2, Z.y3, Z.y4, Z.y5, reduceCtorEq]; first | done | assumption) | exact RowsZ.same (by assumption) (by first | assumption | rfl) | exact FzL.mk rfl rfl rfl (by assumption) (by first | assumption | rfl) (by decide) | (refine RowsZ.one ?_; cbv))))
            case hi => exact ⟨by omega, by omega, by rw [hput]; simp only [Bool.false_eq_true, if_false, if_true]; rw [hD, putQ_eq hq hq2]; simp, hwf, huwf, by first | rfl | omega, by simp only [List.length_append, List.length_cons, List.length_nil]; omega⟩
            case ht => show (L - i2).toNat < (L - i).toNat; omega
    · refine hE _ _ _ ?_
      cbv
      have hdr : l.drop i.toNat = [] := List.drop_of_length_le (by omega)
      cases d with
      | true =>
        cbv
        simp only [show wnot true = false by rw [hnot]; rfl]
        cbv
        have hq : q = w := by rw [eq, hput, hw2, hdr]; simp
        have e1 : (w.drop 0).take k = w := by rw [List.drop_zero, List.take_of_length_le (by omega)]
        have := Vw.sl (h := [.live 1 w]) (s := 0) (z := 1) rfl huw.get (i := 0) (n := k) (by omega)
        rw [e1] at this
        exact ⟨_, this, hR _ (by rw [hq])⟩
      | false =>
        cbv
        simp only [show wnot false = true by rw [hnot]; rfl]
        cbv
        obtain ⟨w0, ew0⟩ : ∃ x : List (List AV), x = w ++ [[.list 1 rs]] := ⟨_, rfl⟩
        obtain ⟨k0', ek0'⟩ : ∃ x, x = k + 1 := ⟨_, rfl⟩
        have hl0 : w0.length = w.length + 1 := by rw [ew0]; simp
        refine App.mk w0 k0' ew0 hk ek0' (by omega) (by omega) ?_
        cbv
        have hq : q = w0 := by rw [eq, hput, ew0, hw2, hdr, hrs]; simp [putQ, rtRow]
        have huw0 : Up0 w0 := by rw [← hq, eq]; exact up_rt _
        have e1 : (w0.drop 0).take k0' = w0 := by rw [List.drop_zero, List.take_of_length_le (by omega)]
        have := Vw.sl (h := [.dead, .live 1 w0]) (s := 1) (z := 1) rfl huw0.get (i := 0) (n := k0') (by omega)
        rw [e1] at this
        exact ⟨_, this, hR _ (by rw [hq])⟩
end Go.Proofs.Ytpiocfmdjgbamaa

/- The reference's growth, plainly. -/
set_option linter.unusedVariables false
set_option linter.unusedSimpArgs false
namespace Go.Proofs.Ytpiocfmdjgbamaa
open Go Go.RowKit Go.Eng
/-- One way of a round: the error, the ways that are gathered, the longer ones. -/
def grow1 (ss : List Sg) (lo hi from_ : Int) (s : Int × List (List Int) × List (List Int)) (r : List Int) : Int × List (List Int) × List (List Int) :=
  if s.1 ≠ 0 then s
  else if hi ≤ endF ss from_ r ∨ nxAt ss (lastI r) = [] then
    (if 16 < (if lo ≤ endF ss from_ r then putQ s.2.1 r else s.2.1).length then 13 else 0, if lo ≤ endF ss from_ r then putQ s.2.1 r else s.2.1, s.2.2)
  else if r.length = 12 then (13, s.2.1, s.2.2)
  else (0, s.2.1, s.2.2 ++ (nxAt ss (lastI r)).map fun n => r ++ [n])
def growQ (ss : List Sg) (lo hi from_ : Int) : Nat → List (List Int) → List (List Int) → Int × List (List Int)
  | 0, out, todo => (0, out)
  | n + 1, out, todo =>
    if (todo.foldl (grow1 ss lo hi from_) (0, out, [])).1 ≠ 0 then (13, [])
    else growQ ss lo hi from_ n (todo.foldl (grow1 ss lo hi from_) (0, out, [])).2.1 (todo.foldl (grow1 ss lo hi from_) (0, out, [])).2.2
theorem fold_err (ss : List Sg) (lo hi from_ : Int) : ∀ (l : List (List Int)) (s : Int × List (List Int) × List (List Int)), s.1 ≠ 0 → l.foldl (grow1 ss lo hi from_) s = s
  | [], _, _ => rfl
  | r :: l, s, h => by
    have : grow1 ss lo hi from_ s r = s := by unfold grow1; rw [if_pos h]
    rw [List.foldl_cons, this, fold_err ss lo hi from_ l s h]
theorem putQ_len : ∀ (l : List (List Int)) (r : List Int), (putQ l r).length ≤ l.length + 1
  | [], _ => by simp [putQ]
  | k :: l, r => by
    unfold putQ
    split
    · have := putQ_len l r; simp; omega
    · split <;> simp
theorem putQ_mem1 : ∀ (l : List (List Int)) (r x : List Int), x ∈ putQ l r → x ∈ l ∨ x = r
  | [], r, x, h => by simp [putQ] at h; exact .inr h
  | k :: l, r, x, h => by
    unfold putQ at h
    split at h
    · rcases List.mem_cons.1 h with rfl | h
      · exact .inl List.mem_cons_self
      · rcases putQ_mem1 l r x h with h | h
        · exact .inl (List.mem_cons_of_mem _ h)
        · exact .inr h
    · split at h
      · rcases List.mem_cons.1 h with rfl | h
        · exact .inr rfl
        · exact .inl h
      · exact .inl h
def growB (ss : List Sg) (lo hi from_ : Int) (ls : List (List Int)) : (Int × List (List Int)) × Int :=
  if hi < lo ∨ lo < -from_ then ((0, []), 40)
  else if (growQ ss lo hi from_ 13 [] ls).1 ≠ 0 then ((0, []), 13)
  else if (growQ ss lo hi from_ 13 [] ls).2 = [] then ((0, []), 40)
  else ((from_, (growQ ss lo hi from_ 13 [] ls).2), 0)
end Go.Proofs.Ytpiocfmdjgbamaa

/- Both ways to grow come to the same. -/
set_option linter.unusedVariables false
set_option linter.unusedSimpArgs false
namespace Go.Proofs.Ytpiocfmdjgbamaa
open Go Go.RowKit Go.Eng
theorem nodup_sub : ∀ (l m : List (List Int)), l.Nodup → (∀ k, k ∈ l → k ∈ m) → l.length ≤ m.length
  | [], _, _, _ => Nat.zero_le _
  | a :: l, m, h, hs => by
    obtain ⟨h1, h2⟩ := List.nodup_cons.1 h
    have ha := hs a List.mem_cons_self
    have := nodup_sub l (m.erase a) h2 fun k hk => by
      have hka : k ≠ a := fun e => h1 (e ▸ hk)
      exact (List.mem_erase_of_ne hka).2 (hs k (List.mem_cons_of_mem _ hk))
    rw [List.length_erase_of_mem ha] at this
    have : 0 < m.length := List.length_pos_of_mem ha
    simp only [List.length_cons]; omega
section
variable (ss : List Sg) (lo hi from_ : Int)
def endP (l : List Int) : Prop := hi ≤ endF ss from_ l ∨ nxAt ss (lastI l) = []
instance (l : List Int) : Decidable (endP ss hi from_ l) := inferInstanceAs (Decidable (_ ∨ _))
def overP (l : List Int) : Prop := ¬ endP ss hi from_ l ∧ l.length = 12
/-- A way, and one that it goes on to. -/
inductive Reach : List Int → List Int → Prop
  | refl (l : List Int) : Reach l l
  | step {l k : List Int} {n : Int} (h : ¬ endP ss hi from_ l) (h12 : l.length ≠ 12) (hn : n ∈ nxAt ss (lastI l)) (hk : Reach (l ++ [n]) k) : Reach l k
/-- What some ways' growth comes to. -/
structure FP (R : List Int → Prop) (s s' : Int × List (List Int)) : Prop where
  stay : s.1 ≠ 0 → s'.1 ≠ 0
  good : s'.1 = 0 → (∀ k, k ∈ s'.2 ↔ k ∈ s.2 ∨ (R k ∧ leafP ss lo hi from_ k)) ∧ (∀ k, R k → ¬ overP ss hi from_ k)
  bad : s.1 = 0 → s'.1 ≠ 0 → (∃ k, R k ∧ overP ss hi from_ k) ∨ (∃ L : List (List Int), L.Nodup ∧ 17 ≤ L.length ∧ ∀ k, k ∈ L → k ∈ s.2 ∨ (R k ∧ leafP ss lo hi from_ k))
end
variable {ss : List Sg} {lo hi from_ : Int}
theorem FP.nil (s : Int × List (List Int)) : FP ss lo hi from_ (fun _ => False) s s :=
  ⟨id, fun _ => ⟨fun k => by simp, fun k h => h.elim⟩, fun h h' => absurd h h'⟩
theorem FP.comp {R1 R2 : List Int → Prop} {s0 s1 s2 : Int × List (List Int)} (h1 : FP ss lo hi from_ R1 s0 s1) (h2 : FP ss lo hi from_ R2 s1 s2) : FP ss lo hi from_ (fun k => R1 k ∨ R2 k) s0 s2 := by
  refine ⟨fun h => h2.stay (h1.stay h), fun h => ?_, fun h h' => ?_⟩
  · have e1 : s1.1 = 0 := Classical.byContradiction fun h3 => h2.stay h3 h
    obtain ⟨a1, a2⟩ := h1.good e1
    obtain ⟨b1, b2⟩ := h2.good h
    refine ⟨fun k => ?_, fun k hk => hk.elim (a2 k) (b2 k)⟩
    rw [b1, a1, or_and_right, or_assoc]
  · by_cases e1 : s1.1 = 0
    · obtain ⟨a1, a2⟩ := h1.good e1
      rcases h2.bad e1 h' with ⟨k, hk, ho⟩ | ⟨L, l1, l2, l3⟩
      · exact .inl ⟨k, .inr hk, ho⟩
      · refine .inr ⟨L, l1, l2, fun k hk => ?_⟩
        rcases l3 k hk with h3 | ⟨h3, h4⟩
        · rcases (a1 k).1 h3 with h5 | ⟨h5, h6⟩
          · exact .inl h5
          · exact .inr ⟨.inl h5, h6⟩
        · exact .inr ⟨.inr h3, h4⟩
    · rcases h1.bad h e1 with ⟨k, hk, ho⟩ | ⟨L, l1, l2, l3⟩
      · exact .inl ⟨k, .inl hk, ho⟩
      · refine .inr ⟨L, l1, l2, fun k hk => ?_⟩
        rcases l3 k hk with h3 | ⟨h3, h4⟩
        · exact .inl h3
        · exact .inr ⟨.inl h3, h4⟩
theorem FP.congr {R R' : List Int → Prop} {s s' : Int × List (List Int)} (h : FP ss lo hi from_ R s s') (h1 : ∀ k, R' k ∧ leafP ss lo hi from_ k ↔ R k ∧ leafP ss lo hi from_ k) (h2 : ∀ k, R' k ∧ overP ss hi from_ k ↔ R k ∧ overP ss hi from_ k) : FP ss lo hi from_ R' s s' := by
  refine ⟨h.stay, fun e => ?_, fun e e' => ?_⟩
  · obtain ⟨a1, a2⟩ := h.good e
    exact ⟨fun k => by rw [a1, h1], fun k hk ho => a2 k ((h2 k).1 ⟨hk, ho⟩).1 ho⟩
  · rcases h.bad e e' with ⟨k, hk, ho⟩ | ⟨L, l1, l2, l3⟩
    · exact .inl ⟨k, (h2 k).2 ⟨hk, ho⟩⟩
    · exact .inr ⟨L, l1, l2, fun k hk => (l3 k hk).imp id (h1 k).2⟩
theorem reach_end {l k : List Int} (h : endP ss hi from_ l) (hk : Reach ss hi from_ l k) : k = l := by
  cases hk with
  | refl => rfl
  | step h' => exact absurd h h'
theorem reach_iff {l k : List Int} (h : ¬ endP ss hi from_ l) (h12 : l.length ≠ 12) : Reach ss hi from_ l k ↔ k = l ∨ ∃ n, n ∈ nxAt ss (lastI l) ∧ Reach ss hi from_ (l ++ [n]) k := by
  constructor
  · intro hk
    cases hk with
    | refl => exact .inl rfl
    | step h' h12' hn hk => exact .inr ⟨_, hn, hk⟩
  · rintro (rfl | ⟨n, hn, hk⟩)
    · exact .refl _
    · exact .step h h12 hn hk
theorem growF_fp : ∀ (f : Nat) (l : List Int) (s : Int × List (List Int)), l.length ≤ 12 ∧ 1 ≤ l.length → 13 ≤ l.length + f → GOk s → FP ss lo hi from_ (Reach ss hi from_ l) s (growF ss lo hi f l (endF ss from_ l) s)
  | 0, l, s, hl, hf, _ => absurd hf (by omega)
  | f + 1, l, s, hl, hf, hok => by
    have hg : growF ss lo hi (f + 1) l (endF ss from_ l) s = (if s.1 ≠ 0 then s else if endP ss hi from_ l then (if 16 < (if lo ≤ endF ss from_ l then putL s.2 l else s.2).length then 13 else 0, if lo ≤ endF ss from_ l then putL s.2 l else s.2) else if l.length = 12 then (13, s.2) else (nxAt ss (lastI l)).foldl (fun s n => growF ss lo hi f (l ++ [n]) (endF ss from_ l + lenAt ss n) s) s) := by
      unfold endP; rfl
    rw [hg]
    by_cases h0 : s.1 = 0
    rotate_left 1
    · rw [if_pos h0]
      exact ⟨fun h => h, fun h => absurd h h0, fun h => absurd h h0⟩
    rw [if_neg (by simp [h0])]
    by_cases he : endP ss hi from_ l
    · rw [if_pos he]
      have hm : ∀ k, k ∈ (if lo ≤ endF ss from_ l then putL s.2 l else s.2) ↔ k ∈ s.2 ∨ (Reach ss hi from_ l k ∧ leafP ss lo hi from_ k) := fun k => by
        by_cases hlo : lo ≤ endF ss from_ l
        · rw [if_pos hlo, putL_mem]
          constructor
          · rintro (h | rfl)
            · exact .inl h
            · exact .inr ⟨.refl _, hlo, he⟩
          · rintro (h | ⟨h, _⟩)
            · exact .inl h
            · exact .inr (reach_end he h)
        · rw [if_neg hlo]
          constructor
          · exact .inl
          · rintro (h | ⟨h, h1, _⟩)
            · exact h
            · rw [reach_end he h] at h1; exact absurd h1 hlo
      refine ⟨fun h => absurd h0 h, fun h => ⟨hm, fun k hk ho => ?_⟩, fun _ h => .inr ?_⟩
      · rw [reach_end he hk] at ho; exact ho.1 he
      · refine ⟨_, ?_, ?_, fun k hk => (hm k).1 hk⟩
        · by_cases hlo : lo ≤ endF ss from_ l
          · rw [if_pos hlo]; exact (hok.put h0 hl).nd
          · rw [if_neg hlo]; exact hok.nd
        · by_cases h16 : 16 < (if lo ≤ endF ss from_ l then putL s.2 l else s.2).length
          · exact h16
          · exact absurd (show (if 16 < (if lo ≤ endF ss from_ l then putL s.2 l else s.2).length then (13 : Int) else 0) = 0 by rw [if_neg h16]) h
    · rw [if_neg he]
      by_cases h12 : l.length = 12
      · rw [if_pos h12]
        exact ⟨fun h => absurd h0 h, fun h => absurd h (show (13 : Int) ≠ 0 by decide), fun _ _ => .inl ⟨l, .refl _, he, h12⟩⟩
      · rw [if_neg h12]
        have key : ∀ (ns : List Int) (s : Int × List (List Int)), GOk s → FP ss lo hi from_ (fun k => ∃ n, n ∈ ns ∧ Reach ss hi from_ (l ++ [n]) k) s (ns.foldl (fun s n => growF ss lo hi f (l ++ [n]) (endF ss from_ l + lenAt ss n) s) s) := by
          intro ns
          induction ns with
          | nil => intro s _; exact (FP.nil s).congr (fun k => by simp) (fun k => by simp)
          | cons n ns ih =>
            intro s hs
            have h1 := growF_fp f (l ++ [n]) s (by simp; omega) (by simp; omega) hs
            rw [endF_snoc] at h1
            have h2 := ih _ (growF_ok ss lo hi f (l ++ [n]) (endF ss from_ l + lenAt ss n) s hs (by simp; omega))
            exact (h1.comp h2).congr (fun k => by simp) (fun k => by simp)
        refine (key _ s hok).congr (fun k => ?_) (fun k => ?_)
        · rw [reach_iff he h12]
          constructor
          · rintro ⟨rfl | h, h1⟩
            · exact absurd h1.2 he
            · exact ⟨h, h1⟩
          · rintro ⟨h, h1⟩; exact ⟨.inr h, h1⟩
        · rw [reach_iff he h12]
          constructor
          · rintro ⟨rfl | h, h1⟩
            · exact absurd h1.2 h12
            · exact ⟨h, h1⟩
          · rintro ⟨h, h1⟩; exact ⟨.inr h, h1⟩
theorem growS_fp (ls : List (List Int)) (hl : ∀ l, l ∈ ls → WayOk ss l) : FP ss lo hi from_ (fun k => ∃ l, l ∈ ls ∧ Reach ss hi from_ l k) (0, []) (growS ss lo hi from_ ls) := by
  have key : ∀ (ls : List (List Int)) (s : Int × List (List Int)), (∀ l, l ∈ ls → WayOk ss l) → GOk s → FP ss lo hi from_ (fun k => ∃ l, l ∈ ls ∧ Reach ss hi from_ l k) s (ls.foldl (fun s l => growF ss lo hi (13 - l.length) l (endF ss from_ l) s) s) := by
    intro ls
    induction ls with
    | nil => intro s _ _; exact (FP.nil s).congr (fun k => by simp) (fun k => by simp)
    | cons l ls ih =>
      intro s hl hs
      have hk := (hl l List.mem_cons_self).len
      have h1 := growF_fp (ss := ss) (lo := lo) (hi := hi) (from_ := from_) (13 - l.length) l s hk (by omega) hs
      have h2 := ih _ (fun x hx => hl x (List.mem_cons_of_mem _ hx)) (growF_ok ss lo hi (13 - l.length) l (endF ss from_ l) s hs hk)
      exact (h1.comp h2).congr (fun k => by simp) (fun k => by simp)
  exact key ls (0, []) hl ⟨by simp, fun _ => by simp, fun k hk => by simp at hk, List.nodup_nil⟩
end Go.Proofs.Ytpiocfmdjgbamaa

/- Both ways to grow come to the same: the reference's side; the two joined. -/
set_option linter.unusedVariables false
set_option linter.unusedSimpArgs false
namespace Go.Proofs.Ytpiocfmdjgbamaa
open Go Go.RowKit Go.Eng
variable {ss : List Sg} {lo hi from_ : Int}
theorem ltR_same {a b : List Int} (ha : a.length ≤ 12) (hb : b.length ≤ 12) (h1 : ¬ ltR a b) (h2 : ¬ ltR b a) : a = b := by
  rcases ltR_total a b with h | h | h
  · exact absurd h h1
  · exact toR_inj ha hb h
  · exact absurd h h2
theorem putQ_mem : ∀ (l : List (List Int)) (r : List Int), (∀ k, k ∈ l → k.length ≤ 12) → r.length ≤ 12 → ∀ x, x ∈ putQ l r ↔ x ∈ l ∨ x = r
  | [], r, _, _, x => by simp [putQ]
  | k :: l, r, hl, hr, x => by
    by_cases h1 : ltR k r
    · rw [putQ_lt h1, List.mem_cons, List.mem_cons, putQ_mem l r (fun y hy => hl y (List.mem_cons_of_mem _ hy)) hr, or_assoc]
    · by_cases h2 : ltR r k
      · rw [putQ_gt h1 h2, List.mem_cons, or_comm]
      · have e := ltR_same (hl k List.mem_cons_self) hr h1 h2
        rw [putQ_eq h1 h2, List.mem_cons, e]
        constructor
        · exact .inl
        · rintro (h | h)
          · exact h
          · exact .inl h
theorem putQ_sorted : ∀ (l : List (List Int)) (r : List Int), (∀ k, k ∈ l → k.length ≤ 12) → r.length ≤ 12 → l.Pairwise ltR → (putQ l r).Pairwise ltR
  | [], r, _, _, _ => List.pairwise_singleton _ _
  | k :: l, r, hl, hr, h => by
    obtain ⟨k1, k2⟩ := List.pairwise_cons.1 h
    by_cases h1 : ltR k r
    · rw [putQ_lt h1]
      refine List.pairwise_cons.2 ⟨fun x hx => ?_, putQ_sorted l r (fun y hy => hl y (List.mem_cons_of_mem _ hy)) hr k2⟩
      rcases (putQ_mem l r (fun y hy => hl y (List.mem_cons_of_mem _ hy)) hr x).1 hx with hx | rfl
      · exact k1 x hx
      · exact h1
    · by_cases h2 : ltR r k
      · rw [putQ_gt h1 h2]
        refine List.pairwise_cons.2 ⟨fun x hx => ?_, h⟩
        rcases List.mem_cons.1 hx with rfl | hx
        · exact h2
        · exact ltR_trans h2 (k1 x hx)
      · rw [putQ_eq h1 h2]; exact h
theorem sorted_nodup {l : List (List Int)} (h : l.Pairwise ltR) : l.Nodup := h.imp (S := (· ≠ ·)) fun {a b} h e => ltR_irrefl a (by rw [← e] at h; exact h)
/-- What goes on from a way. -/
def kids (ss : List Sg) (hi from_ : Int) (t : List Int) : List (List Int) := if endP ss hi from_ t then [] else (nxAt ss (lastI t)).map fun n => t ++ [n]
structure OutOk (out : List (List Int)) : Prop where
  sort : out.Pairwise ltR
  few : out.length ≤ 16
  len : ∀ k, k ∈ out → k.length ≤ 12
structure F1 (ss : List Sg) (lo hi from_ : Int) (T out more : List (List Int)) (s' : Int × List (List Int) × List (List Int)) : Prop where
  good : s'.1 = 0 → (∀ k, k ∈ s'.2.1 ↔ k ∈ out ∨ (k ∈ T ∧ leafP ss lo hi from_ k)) ∧ (∀ t, t ∈ T → ¬ overP ss hi from_ t) ∧ s'.2.2 = more ++ T.flatMap (kids ss hi from_) ∧ OutOk s'.2.1
  bad : s'.1 ≠ 0 → (∃ t, t ∈ T ∧ overP ss hi from_ t) ∨ (∃ L : List (List Int), L.Nodup ∧ 17 ≤ L.length ∧ ∀ k, k ∈ L → k ∈ out ∨ (k ∈ T ∧ leafP ss lo hi from_ k))
theorem fold1 : ∀ (T out more : List (List Int)), (∀ t, t ∈ T → t.length ≤ 12) → OutOk out → F1 ss lo hi from_ T out more (T.foldl (grow1 ss lo hi from_) (0, out, more))
  | [], out, more, _, ho => ⟨fun _ => ⟨fun k => by simp, fun t h => by simp at h, by simp, ho⟩, fun h => absurd rfl h⟩
  | t :: T, out, more, hT, ho => by
    have ht := hT t List.mem_cons_self
    have hT' : ∀ x, x ∈ T → x.length ≤ 12 := fun x hx => hT x (List.mem_cons_of_mem _ hx)
    have hg : grow1 ss lo hi from_ (0, out, more) t = (if endP ss hi from_ t then (if 16 < (if lo ≤ endF ss from_ t then putQ out t else out).length then 13 else 0, if lo ≤ endF ss from_ t then putQ out t else out, more) else if t.length = 12 then (13, out, more) else (0, out, more ++ (nxAt ss (lastI t)).map fun n => t ++ [n])) := by
      unfold endP grow1; rw [if_neg (by simp)]; rfl
    rw [List.foldl_cons, hg]
    clear hg
    by_cases he : endP ss hi from_ t
    · rw [if_pos he]
      have hk0 : kids ss hi from_ t = [] := by unfold kids; rw [if_pos he]
      obtain ⟨out', eo⟩ : ∃ o, o = (if lo ≤ endF ss from_ t then putQ out t else out) := ⟨_, rfl⟩
      rw [← eo]
      have hm : ∀ k, k ∈ out' ↔ k ∈ out ∨ (k = t ∧ leafP ss lo hi from_ k) := fun k => by
        rw [eo]
        by_cases hlo : lo ≤ endF ss from_ t
        · rw [if_pos hlo, putQ_mem out t ho.len ht]
          constructor
          · rintro (h | rfl)
            · exact .inl h
            · exact .inr ⟨rfl, hlo, he⟩
          · rintro (h | ⟨h, _⟩)
            · exact .inl h
            · exact .inr h
        · rw [if_neg hlo]
          constructor
          · exact .inl
          · rintro (h | ⟨rfl, h1, _⟩)
            · exact h
            · exact absurd h1 hlo
      have hs' : out'.Pairwise ltR := by
        rw [eo]; split
        · exact putQ_sorted out t ho.len ht ho.sort
        · exact ho.sort
      have hl' : ∀ k, k ∈ out' → k.length ≤ 12 := fun k hk => by
        rcases (hm k).1 hk with h | ⟨rfl, _⟩
        · exact ho.len k h
        · exact ht
      by_cases h16 : 16 < out'.length
      · rw [if_pos h16, fold_err ss lo hi from_ T _ (by simp)]
        refine ⟨fun h => absurd h (by simp), fun _ => .inr ⟨out', sorted_nodup hs', h16, fun k hk => ?_⟩⟩
        rcases (hm k).1 hk with h | ⟨rfl, h⟩
        · exact .inl h
        · exact .inr ⟨List.mem_cons_self, h⟩
      · rw [if_neg h16]
        have ih := fold1 T out' more hT' ⟨hs', by omega, hl'⟩
        refine ⟨fun h => ?_, fun h => ?_⟩
        · obtain ⟨a1, a2, a3, a4⟩ := ih.good h
          refine ⟨fun k => ?_, fun x hx => ?_, by rw [a3, List.flatMap_cons, hk0, List.nil_append], a4⟩
          · rw [a1, hm, List.mem_cons, or_and_right, or_assoc]
          · rcases List.mem_cons.1 hx with rfl | hx
            · exact fun h => h.1 he
            · exact a2 x hx
        · rcases ih.bad h with ⟨x, hx, h1⟩ | ⟨L, l1, l2, l3⟩
          · exact .inl ⟨x, List.mem_cons_of_mem _ hx, h1⟩
          · refine .inr ⟨L, l1, l2, fun k hk => ?_⟩
            rcases l3 k hk with h3 | ⟨h3, h4⟩
            · rcases (hm k).1 h3 with h5 | ⟨rfl, h5⟩
              · exact .inl h5
              · exact .inr ⟨List.mem_cons_self, h5⟩
            · exact .inr ⟨List.mem_cons_of_mem _ h3, h4⟩
    · rw [if_neg he]
      by_cases h12 : t.length = 12
      · rw [if_pos h12, fold_err ss lo hi from_ T _ (by simp)]
        exact ⟨fun h => absurd h (by simp), fun _ => .inl ⟨t, List.mem_cons_self, he, h12⟩⟩
      · rw [if_neg h12]
        have ih := fold1 T out (more ++ (nxAt ss (lastI t)).map fun n => t ++ [n]) hT' ho
        have hk0 : kids ss hi from_ t = (nxAt ss (lastI t)).map fun n => t ++ [n] := by unfold kids; rw [if_neg he]
        refine ⟨fun h => ?_, fun h => ?_⟩
        · obtain ⟨a1, a2, a3, a4⟩ := ih.good h
          refine ⟨fun k => ?_, fun x hx => ?_, by rw [a3, List.flatMap_cons, hk0, List.append_assoc], a4⟩
          · rw [a1, List.mem_cons, or_and_right]
            constructor
            · rintro (h | h)
              · exact .inl h
              · exact .inr (.inr h)
            · rintro (h7 | ⟨h8, h7⟩ | h7)
              · exact .inl h7
              · rw [h8] at h7; exact absurd h7.2 he
              · exact .inr h7
          · rcases List.mem_cons.1 hx with rfl | hx
            · exact fun h => h12 h.2
            · exact a2 x hx
        · rcases ih.bad h with ⟨x, hx, h1⟩ | ⟨L, l1, l2, l3⟩
          · exact .inl ⟨x, List.mem_cons_of_mem _ hx, h1⟩
          · exact .inr ⟨L, l1, l2, fun k hk => (l3 k hk).imp id fun h => ⟨List.mem_cons_of_mem _ h.1, h.2⟩⟩
/-- What the reference's growth comes to. -/
structure FQ (ss : List Sg) (lo hi from_ : Int) (R : List Int → Prop) (out : List (List Int)) (s' : Int × List (List Int)) : Prop where
  good : s'.1 = 0 → (∀ k, k ∈ s'.2 ↔ k ∈ out ∨ (R k ∧ leafP ss lo hi from_ k)) ∧ (∀ k, R k → ¬ overP ss hi from_ k) ∧ OutOk s'.2
  bad : s'.1 ≠ 0 → (∃ k, R k ∧ overP ss hi from_ k) ∨ (∃ L : List (List Int), L.Nodup ∧ 17 ≤ L.length ∧ ∀ k, k ∈ L → k ∈ out ∨ (R k ∧ leafP ss lo hi from_ k))
theorem growQ_fq (hnx : NextOk ss) : ∀ (n : Nat) (out todo : List (List Int)), (∀ t, t ∈ todo → WayOk ss t ∧ 13 ≤ t.length + n) → OutOk out → FQ ss lo hi from_ (fun k => ∃ t, t ∈ todo ∧ Reach ss hi from_ t k) out (growQ ss lo hi from_ n out todo)
  | 0, out, todo, ht, ho => by
    have h0 : ∀ t, t ∉ todo := fun t h => by have := ht t h; have := this.1.len; omega
    exact ⟨fun _ => ⟨fun k => ⟨.inl, fun h => h.elim id fun ⟨⟨t, h, _⟩, _⟩ => absurd h (h0 t)⟩, fun k ⟨t, h, _⟩ => absurd h (h0 t), ho⟩, fun h => absurd rfl h⟩
  | n + 1, out, todo, ht, ho => by
    have h1 := fold1 (ss := ss) (lo := lo) (hi := hi) (from_ := from_) todo out [] (fun t h => (ht t h).1.len.1) ho
    unfold growQ
    generalize todo.foldl (grow1 ss lo hi from_) (0, out, []) = s at h1 ⊢
    by_cases h0 : s.1 = 0
    · rw [if_neg (by simp [h0])]
      obtain ⟨a1, a2, a3, a4⟩ := h1.good h0
      rw [List.nil_append] at a3
      have hk : ∀ x, x ∈ s.2.2 ↔ ∃ t, t ∈ todo ∧ ¬ endP ss hi from_ t ∧ ∃ q, q ∈ nxAt ss (lastI t) ∧ x = t ++ [q] := fun x => by
        rw [a3, List.mem_flatMap]
        constructor
        · rintro ⟨t, h, hx⟩
          unfold kids at hx
          by_cases he : endP ss hi from_ t
          · rw [if_pos he] at hx; simp at hx
          · rw [if_neg he] at hx
            obtain ⟨q, hq, rfl⟩ := List.mem_map.1 hx
            exact ⟨t, h, he, q, hq, rfl⟩
        · rintro ⟨t, h, he, q, hq, rfl⟩
          refine ⟨t, h, ?_⟩
          unfold kids
          rw [if_neg he]
          exact List.mem_map.2 ⟨q, hq, rfl⟩
      have h12 : ∀ t, t ∈ todo → ¬ endP ss hi from_ t → t.length ≠ 12 := fun t h he e => a2 t h ⟨he, e⟩
      have ih := growQ_fq hnx n s.2.1 s.2.2 (fun x hx => by
        obtain ⟨t, h, he, q, hq, rfl⟩ := (hk x).1 hx
        refine ⟨(ht t h).1.snoc hnx (h12 t h he) hq, ?_⟩
        have := (ht t h).2
        simp; omega) a4
      have hR : ∀ k, (∃ t, t ∈ todo ∧ Reach ss hi from_ t k) ↔ k ∈ todo ∨ ∃ x, x ∈ s.2.2 ∧ Reach ss hi from_ x k := fun k => by
        constructor
        · rintro ⟨t, h, hr⟩
          by_cases he : endP ss hi from_ t
          · exact .inl (reach_end he hr ▸ h)
          · rcases (reach_iff he (h12 t h he)).1 hr with rfl | ⟨q, hq, hr⟩
            · exact .inl h
            · exact .inr ⟨_, (hk _).2 ⟨t, h, he, q, hq, rfl⟩, hr⟩
        · rintro (h | ⟨x, hx, hr⟩)
          · exact ⟨k, h, .refl _⟩
          · obtain ⟨t, h, he, q, hq, rfl⟩ := (hk x).1 hx
            exact ⟨t, h, .step he (h12 t h he) hq hr⟩
      refine ⟨fun h => ?_, fun h => ?_⟩
      · obtain ⟨b1, b2, b3⟩ := ih.good h
        refine ⟨fun k => ?_, fun k hk1 => ?_, b3⟩
        · rw [b1, a1, hR, or_and_right, or_assoc]
        · rcases (hR k).1 hk1 with h | h
          · exact a2 k h
          · exact b2 k h
      · rcases ih.bad h with ⟨k, hk1, h2⟩ | ⟨L, l1, l2, l3⟩
        · exact .inl ⟨k, (hR k).2 (.inr hk1), h2⟩
        · refine .inr ⟨L, l1, l2, fun k hk1 => ?_⟩
          rcases l3 k hk1 with h3 | ⟨h3, h4⟩
          · rcases (a1 k).1 h3 with h5 | ⟨h5, h6⟩
            · exact .inl h5
            · exact .inr ⟨(hR k).2 (.inl h5), h6⟩
          · exact .inr ⟨(hR k).2 (.inr h3), h4⟩
    · rw [if_pos h0]
      refine ⟨fun h => absurd h (by decide), fun _ => ?_⟩
      rcases h1.bad h0 with ⟨t, h, h2⟩ | ⟨L, l1, l2, l3⟩
      · exact .inl ⟨t, ⟨t, h, .refl _⟩, h2⟩
      · exact .inr ⟨L, l1, l2, fun k hk1 => (l3 k hk1).imp id fun h => ⟨⟨k, h.1, .refl _⟩, h.2⟩⟩
theorem map_toR_inj : ∀ {l m : List (List Int)}, (∀ k, k ∈ l → k.length ≤ 12) → (∀ k, k ∈ m → k.length ≤ 12) → l.map toR = m.map toR → l = m
  | [], [], _, _, _ => rfl
  | [], _ :: _, _, _, h => by simp at h
  | _ :: _, [], _, _, h => by simp at h
  | a :: l, b :: m, h1, h2, h => by
    simp only [List.map_cons, List.cons.injEq] at h
    rw [toR_inj (h1 a List.mem_cons_self) (h2 b List.mem_cons_self) h.1, map_toR_inj (fun k hk => h1 k (List.mem_cons_of_mem _ hk)) (fun k hk => h2 k (List.mem_cons_of_mem _ hk)) h.2]
/-- Both answers are one. -/
theorem growA_eq (hnx : NextOk ss) (ls : List (List Int)) (hl : ∀ l, l ∈ ls → WayOk ss l) : growA ss lo hi from_ ls = growB ss lo hi from_ ls := by
  have hA := growS_fp (ss := ss) (lo := lo) (hi := hi) (from_ := from_) ls hl
  have hok := growS_ok (ss := ss) (lo := lo) (hi := hi) (from_ := from_) ls hl
  have heA := growS_e (ss := ss) (lo := lo) (hi := hi) (from_ := from_) ls
  have hB := growQ_fq (ss := ss) (lo := lo) (hi := hi) (from_ := from_) hnx 13 [] ls (fun t h => ⟨hl t h, by omega⟩) ⟨List.Pairwise.nil, by simp, fun k hk => by simp at hk⟩
  unfold growA growB
  generalize growS ss lo hi from_ ls = sA at hA hok heA ⊢
  generalize growQ ss lo hi from_ 13 [] ls = sB at hB ⊢
  by_cases h0 : hi < lo ∨ lo < -from_
  · rw [if_pos h0, if_pos h0]
  · rw [if_neg h0, if_neg h0]
    have iff : sA.1 = 0 ↔ sB.1 = 0 := by
      constructor
      · intro h
        refine Classical.byContradiction fun h' => ?_
        obtain ⟨a1, a2⟩ := hA.good h
        rcases hB.bad h' with ⟨k, hk, ho⟩ | ⟨L, l1, l2, l3⟩
        · exact a2 k hk ho
        · have := nodup_sub L sA.2 l1 fun k hk => (a1 k).2 (by simpa using l3 k hk)
          have := hok.few h
          omega
      · intro h
        refine Classical.byContradiction fun h' => ?_
        obtain ⟨a1, a2, a3⟩ := hB.good h
        rcases hA.bad rfl h' with ⟨k, hk, ho⟩ | ⟨L, l1, l2, l3⟩
        · exact a2 k hk ho
        · have := nodup_sub L sB.2 l1 fun k hk => (a1 k).2 (by simpa using l3 k hk)
          have := a3.few
          omega
    by_cases h1 : sA.1 = 0
    · have h2 := iff.1 h1
      rw [if_neg (show ¬ (sA.1 ≠ 0) from fun h => h h1), if_neg (show ¬ (sB.1 ≠ 0) from fun h => h h2)]
      obtain ⟨a1, _⟩ := hA.good h1
      obtain ⟨b1, _, b3⟩ := hB.good h2
      have hp : sB.2.Perm sA.2 := (List.perm_ext_iff_of_nodup (sorted_nodup b3.sort) hok.nd).2 fun k => by rw [a1, b1]
      have hs : sB.2 = sortR sA.2 := by
        refine map_toR_inj b3.len (fun k hk => (hok.all k (sortR_mem.1 hk)).1) (sortR_unique (hp.map toR) (List.pairwise_map.2 ?_))
        exact b3.sort.imp fun {a b} h h' => ltR_irrefl a (ltR_trans h h')
      by_cases h3 : sA.2 = []
      · rw [if_pos h3, if_pos (by rw [hs, h3]; rfl)]
      · rw [if_neg h3, if_neg (fun h => h3 (by rw [h] at hp; exact List.nil_perm.1 hp)), hs]
    · have h2 : ¬ sB.1 = 0 := fun h => h1 (iff.2 h)
      rw [if_pos h1, if_pos h2]
      rcases heA with h | h
      · exact absurd h h1
      · rw [h]
end Go.Proofs.Ytpiocfmdjgbamaa

/- odographref14.Grow. -/
set_option linter.unusedVariables false
set_option linter.unusedSimpArgs false
namespace Go.Proofs.Ytpiocfmdjgbamaa
open Go Go.RowKit Go.Eng
set_option maxRecDepth 100000
theorem lastI_get : ∀ l : List Int, 1 ≤ l.length → l[l.length - 1]? = some (lastI l)
  | [], h => absurd h (by decide)
  | [a], _ => rfl
  | a :: b :: l, _ => by
    have := lastI_get (b :: l) (by simp)
    simpa [lastI] using this
/-- How many ways there may be. -/
def capR (n : Nat) : Nat := 1000 * 2 ^ n
theorem capR_succ (n : Nat) : capR (n + 1) = 2 * capR n := by unfold capR; rw [Nat.pow_succ]; omega
theorem capR_le {n : Nat} (h : n ≤ 13) : capR n ≤ 8192000 := by
  unfold capR
  have : 2 ^ n ≤ 2 ^ 13 := Nat.pow_le_pow_right (by decide) h
  omega
set_option maxHeartbeats 4000000 in
theorem e_rgrow (ss : List Sg) (gs : List Gr) (es ds : List (List AV)) (hes : es = ss.map sgRow) (hds : ds = gs.map grRow) (hln : LensOk ss) (hnx : NextOk ss) (lo hi from_ : Int) (hf : 0 ≤ from_ ∧ from_ ≤ 1099511627776) (ls : List (List Int)) (hls : ∀ l, l ∈ ls → WayOk ss l) (hsz : ls.length ≤ 1000) (rs : List (List AV)) (hrs : rs = ls.map rtRow) (v : (Int × List (List Int)) × Int) (hv : v = growB ss lo hi from_ ls) :
    PCalls Try.prog 37 [.agg [.list 3 es, .list 5 ds], .agg [.int .i64 from_, .list 1 rs], .int .i64 lo, .int .i64 hi] (· = .tuple [.agg [.int .i64 v.1.1, .list 1 (v.1.2.map rtRow)], .int .i64 v.2]) := by
  have hu : Up0 es := by rw [hes]; exact up_sg ss
  have hud : Up0 ds := by rw [hds]; exact up_gr gs
  have hur : Up0 rs := by rw [hrs]; exact up_rt ls
  obtain ⟨⟨v1, v2⟩, v3⟩ := v
  obtain ⟨vs, evs⟩ : ∃ x, x = v2.map rtRow := ⟨_, rfl⟩
  show PCalls Try.prog 37 [.agg [.list 3 es, .list 5 ds], .agg [.int .i64 from_, .list 1 rs], .int .i64 lo, .int .i64 hi] (· = .tuple [.agg [.int .i64 v1, .list 1 (v2.map rtRow)], .int .i64 v3])
  rw [← evs]
  obtain ⟨a0, ea0⟩ : ∃ a0, a0 = -from_ := ⟨_, rfl⟩
  (refine PCalls.ofY Try.func37 (by kernel_rfl) (by kernel_rfl) fun w hw R hR => ?_); (obtain ⟨wbin, wcmp, wun, wconv, wnot, wbeq, wmm, wscmp, wsadd, wslen, wsat, weqs, wlen, wnlen, wofNat, wtake, wdrop, wapp, wzero, wnat⟩ := w); (have hbin := Z.w1 hw); (have hcmp := Z.w2 hw); (have hun := Z.w3 hw); (have hconv := Z.w4 hw); (have hnot := Z.w5 hw); (have hbeq := Z.w6 hw); (have hmm := Z.w7 hw); (have hscmp := Z.w8 hw); (have hsadd := Z.w9 hw); (have hslen := Z.w10 hw); (have hsat := Z.w11 hw); (have heqs := Z.w12 hw); (have hlen := Z.w13 hw); (have hnlen := Z.w14 hw); (have hofNat := Z.w15 hw); (have htake := Z.w16 hw); (have hdrop := Z.w17 hw); (have happ := Z.w18 hw); (have hzero := Z.w19 hw); (have hnat := Z.w20 hw); (conv => arg 2; cbv); (generalize hP : Try.prog = P); cbv
  have c0 : wun .neg .i64 from_ = a0 := by rw [hun, ea0]; simp only [unStd]; rw [IntKind.wrap_i64]; omega
  have hbad : v1 = 0 → v2 = [] → ∀ h : AHeap, Ret [.agg [.int .i64 0, .nils], .int .i64 v3] h R := fun h1 h2 h => by
    subst h1 h2 evs
    exact ⟨_, Vw.tuple (rs := [.agg [.int .i64 0, .list 1 []], .int .i64 v3]) ⟨Vw.agg (rs := [.int .i64 0, .list 1 []]) ⟨Vw.same rfl, Vw.nil 1, trivial⟩, Vw.same rfl, trivial⟩, hR _ rfl⟩
  have hsplit : (hi < lo ∨ lo < -from_) → v1 = 0 ∧ v2 = [] ∧ v3 = 40 := fun h => by
    unfold growB at hv; rw [if_pos h] at hv
    simp only [Prod.mk.injEq] at hv; exact ⟨hv.1.1, hv.1.2, hv.2⟩
  (split <;> rename_i h1 <;> (try (simp only [hbin, hcmp, hun, hconv, hnot, hbeq, hmm, hscmp, hsadd, hslen, hsat, heqs, hofNat, binStd, cmpStd, unStd, scmpStd, maxI, Z.z1, Z.z2, Z.z3, Z.z4, Z.z5, Z.z6, if_true, if_false, Z.z7, beq_iff_eq, bne_iff_ne, ne_eq, Z.z8, Z.z9, Z.y1, beq_eq_false_iff_ne, bne_eq_false_iff_eq, Z.y2, Z.y3, Z.y4, Z.y5, reduceCtorEq] at h1)) <;> (try cbv))
  · obtain ⟨k1, k2, k3⟩ := hsplit (.inl h1)
    subst k3
    exact hbad k1 k2 _
  simp only [c0]
  (split <;> rename_i h2 <;> (try (simp only [hbin, hcmp, hun, hconv, hnot, hbeq, hmm, hscmp, hsadd, hslen, hsat, heqs, hofNat, binStd, cmpStd, unStd, scmpStd, maxI, Z.z1, Z.z2, Z.z3, Z.z4, Z.z5, Z.z6, if_true, if_false, Z.z7, beq_iff_eq, bne_iff_ne, ne_eq, Z.z8, Z.z9, Z.y1, beq_eq_false_iff_ne, bne_eq_false_iff_eq, Z.y2, Z.y3, Z.y4, Z.y5, reduceCtorEq] at h2)) <;> (try cbv))
  · obtain ⟨k1, k2, k3⟩ := hsplit (.inr (by omega))
    subst k3
    exact hbad k1 k2 _
  unfold growB at hv
  rw [if_neg (show ¬ (hi < lo ∨ lo < -from_) by omega)] at hv
  have h0 : growQ ss lo hi from_ 13 [] ls = growQ ss lo hi from_ (13 - (0 : Int).toNat) [] ls := rfl
  refine Loop.data hw (S := Int × List (List Int) × List (List AV) × List (List Int) × List (List AV)) (fun s => fr 117 [(2, .int .i64 lo), (3, .int .i64 hi), (4, .ref 0 2 0 0), (5, .ref 1 2 0 0), (8, .ref 2 2 0 0), (10, .ref 3 2 0 0), (11, .list 1 s.2.2.2.2), (12, .int .i64 s.1)])
    (fun s => [.live 2 [[.list 3 es, .list 5 ds]], .live 2 [[.int .i64 from_, .list 1 rs]], .live 2 [[.int .i64 0, .nils]], .live 2 [[.int .i64 from_, .list 1 s.2.2.1]]])
    (fun s => 0 ≤ s.1 ∧ s.1 ≤ 13 ∧ growQ ss lo hi from_ 13 [] ls = growQ ss lo hi from_ (13 - s.1.toNat) s.2.1 s.2.2.2.1 ∧ s.2.2.1 = s.2.1.map rtRow ∧ Up0 s.2.2.1 ∧ s.2.2.2.2 = s.2.2.2.1.map rtRow ∧ Up0 s.2.2.2.2 ∧ s.2.1.length ≤ 16 ∧ (∀ k, k ∈ s.2.1 → k.length ≤ 12) ∧ (∀ l, l ∈ s.2.2.2.1 → WayOk ss l) ∧ s.2.2.2.1.length ≤ capR s.1.toNat) (fun s => (13 - s.1).toNat) (0, [], [], ls, rs) (by (refine Wk.eqz (id) (by first | exact fun i _ j _ e => e | (simp only [List.length_cons, List.length_nil]; decide)) ?_; cbv; (repeat' (first | exact trivial | rfl | assumption | apply And.intro | (simp only [hbin, hcmp, hun, hconv, hnot, hbeq, hmm, hscmp, hsadd, hslen, hsat, heqs, hofNat, binStd, cmpStd, unStd, scmpStd, maxI, Z.z1, Z.z2, Z.z3, Z.z4, Z.z5, Z.z6, if_true, if_false, Z.z7, beq_iff_eq, bne_iff_ne, ne_eq, Z.z8, Z.z9, Z.y1, beq_eq_false_iff_ne, bne_eq_false_iff_eq, Z.y2, Z.y3, Z.y4, Z.y5, reduceCtorEq]; first | done | assumption) | exact RowsZ.same (by assumption) (by first | assumption | rfl) | exact FzL.mk rfl rfl rfl (by assumption) (by first | assumption | rfl) (by decide) | (refine RowsZ.one ?_; cbv))))) ⟨Int.le_refl _, (show (0 : Int) ≤ 13 by decide), h0, rfl, ⟨rfl⟩, hrs, hur, by simp, fun k hk => by simp at hk, hls, hsz⟩ ?_
  rintro ⟨n, out, ow, todo, tw⟩ hinv Q' hN hE hR'
  have hinv : 0 ≤ n ∧ n ≤ 13 ∧ growQ ss lo hi from_ 13 [] ls = growQ ss lo hi from_ (13 - n.toNat) out todo ∧ ow = out.map rtRow ∧ Up0 ow ∧ tw = todo.map rtRow ∧ Up0 tw ∧ out.length ≤ 16 ∧ (∀ k, k ∈ out → k.length ≤ 12) ∧ (∀ l, l ∈ todo → WayOk ss l) ∧ todo.length ≤ capR n.toNat := hinv
  cbv
  obtain ⟨hn0, hn1, hgq, hwo, huo, hwt, hut, ho16, ho12, htodo, hcap⟩ := hinv
  have hcap2 := capR_le (n := n.toNat) (by omega)
  (split <;> rename_i hc <;> (try (simp only [hbin, hcmp, hun, hconv, hnot, hbeq, hmm, hscmp, hsadd, hslen, hsat, heqs, hofNat, binStd, cmpStd, unStd, scmpStd, maxI, Z.z1, Z.z2, Z.z3, Z.z4, Z.z5, Z.z6, if_true, if_false, Z.z7, beq_iff_eq, bne_iff_ne, ne_eq, Z.z8, Z.z9, Z.y1, beq_eq_false_iff_ne, bne_eq_false_iff_eq, Z.y2, Z.y3, Z.y4, Z.y5, reduceCtorEq] at hc)) <;> (try cbv))
  · have htl : tw.length = todo.length := by rw [hwt]; simp
    (obtain ⟨L, eL, L0, Ln⟩ : ∃ L : Int, wlen tw = L ∧ 0 ≤ L ∧ L.toNat = tw.length := ⟨(tw.length : Int), by rw [hlen], Int.natCast_nonneg _, Int.toNat_natCast _⟩)
    have hret : ∀ (j : Nat) (s : Int × List (List Int) × List (List Int)), (todo.take j).foldl (grow1 ss lo hi from_) (0, out, []) = s → s.1 ≠ 0 → v1 = 0 ∧ v2 = [] ∧ v3 = 13 := fun j s hs he => by
      have hf : todo.foldl (grow1 ss lo hi from_) (0, out, []) = s := by
        conv => lhs; rw [← List.take_append_drop j todo]
        rw [List.foldl_append, hs, fold_err ss lo hi from_ _ s he]
      have hq : growQ ss lo hi from_ (13 - n.toNat) out todo = (13, []) := by
        obtain ⟨m, hm⟩ : ∃ m, 13 - n.toNat = m + 1 := ⟨12 - n.toNat, by omega⟩
        rw [hm]; unfold growQ; rw [hf, if_pos he]
      rw [hgq, hq, if_pos (by decide)] at hv
      simp only [Prod.mk.injEq] at hv
      exact ⟨hv.1.1, hv.1.2, hv.2⟩
    refine Loop.data hw (S := Int × List (List Int) × List (List AV) × List (List Int) × Option (Nat × List (List AV))) (fun s => match s.2.2.2.2 with
        | none => fr 117 [(2, .int .i64 lo), (3, .int .i64 hi), (4, .ref 0 2 0 0), (5, .ref 1 2 0 0), (8, .ref 2 2 0 0), (10, .ref 3 2 0 0), (11, .list 1 tw), (12, .int .i64 n), (13, .nils), (14, .int .i64 s.1)]
        | some (k, w) => fr 117 [(2, .int .i64 lo), (3, .int .i64 hi), (4, .ref 0 2 0 0), (5, .ref 1 2 0 0), (8, .ref 2 2 0 0), (10, .ref 3 2 0 0), (11, .list 1 tw), (12, .int .i64 n), (13, .sl 4 1 0 k), (14, .int .i64 s.1)])
      (fun s => match s.2.2.2.2 with
        | none => [.live 2 [[.list 3 es, .list 5 ds]], .live 2 [[.int .i64 from_, .list 1 rs]], .live 2 [[.int .i64 0, .nils]], .live 2 [[.int .i64 from_, .list 1 s.2.2.1]]]
        | some (k, w) => [.live 2 [[.list 3 es, .list 5 ds]], .live 2 [[.int .i64 from_, .list 1 rs]], .live 2 [[.int .i64 0, .nils]], .live 2 [[.int .i64 from_, .list 1 s.2.2.1]], .live 1 w])
      (fun s => 0 ≤ s.1 ∧ s.1 ≤ L ∧ (todo.take s.1.toNat).foldl (grow1 ss lo hi from_) (0, out, []) = (0, s.2.1, s.2.2.2.1) ∧ s.2.2.1 = s.2.1.map rtRow ∧ Up0 s.2.2.1 ∧ s.2.1.length ≤ 16 ∧ (∀ k, k ∈ s.2.1 → k.length ≤ 12) ∧ s.2.2.2.1.length ≤ 2 * s.1.toNat ∧ (∀ l, l ∈ s.2.2.2.1 → WayOk ss l) ∧ (match s.2.2.2.2 with | none => s.2.2.2.1 = [] | some (k, w) => k = w.length ∧ w = s.2.2.2.1.map rtRow ∧ Up0 w)) (fun s => (L - s.1).toNat) (0, out, ow, [], none) (by (refine Wk.eqz (id) (by first | exact fun i _ j _ e => e | (simp only [List.length_cons, List.length_nil]; decide)) ?_; cbv; (repeat' (first | exact trivial | rfl | assumption | apply And.intro | (simp only [hbin, hcmp, hun, hconv, hnot, hbeq, hmm, hscmp, hsadd, hslen, hsat, heqs, hofNat, binStd, cmpStd, unStd, scmpStd, maxI, Z.z1, Z.z2, Z.z3, Z.z4, Z.z5, Z.z6, if_true, if_false, Z.z7, beq_iff_eq, bne_iff_ne, ne_eq, Z.z8, Z.z9, Z.y1, beq_eq_false_iff_ne, bne_eq_false_iff_eq, Z.y2, Z.y3, Z.y4, Z.y5, reduceCtorEq]; first | done | assumption) | exact RowsZ.same (by assumption) (by first | assumption | rfl) | exact FzL.mk rfl rfl rfl (by assumption) (by first | assumption | rfl) (by decide) | (refine RowsZ.one ?_; cbv))))) ⟨Int.le_refl _, L0, rfl, hwo, huo, ho16, ho12, by simp, fun l hl => by simp at hl, rfl⟩ ?_
    rintro ⟨i, out1, ow1, more, _ | ⟨k, w⟩⟩ hinv1 Q1 hN1 hE1 hR1
    · cbv
      simp only [eL]
      have hinv2 : 0 ≤ i ∧ i ≤ L ∧ (todo.take i.toNat).foldl (grow1 ss lo hi from_) (0, out, []) = (0, out1, more) ∧ ow1 = out1.map rtRow ∧ Up0 ow1 ∧ out1.length ≤ 16 ∧ (∀ k, k ∈ out1 → k.length ≤ 12) ∧ more.length ≤ 2 * i.toNat ∧ (∀ l, l ∈ more → WayOk ss l) := ⟨hinv1.1, hinv1.2.1, hinv1.2.2.1, hinv1.2.2.2.1, hinv1.2.2.2.2.1, hinv1.2.2.2.2.2.1, hinv1.2.2.2.2.2.2.1, hinv1.2.2.2.2.2.2.2.1, hinv1.2.2.2.2.2.2.2.2.1⟩
      have hms : more = [] := hinv1.2.2.2.2.2.2.2.2.2
      obtain ⟨hi0, hi1, hfold, hwo1, huo1, ho161, ho121, hml, hmo⟩ := hinv2
      (split <;> rename_i hc1 <;> (try (simp only [hbin, hcmp, hun, hconv, hnot, hbeq, hmm, hscmp, hsadd, hslen, hsat, heqs, hofNat, binStd, cmpStd, unStd, scmpStd, maxI, Z.z1, Z.z2, Z.z3, Z.z4, Z.z5, Z.z6, if_true, if_false, Z.z7, beq_iff_eq, bne_iff_ne, ne_eq, Z.z8, Z.z9, Z.y1, beq_eq_false_iff_ne, bne_eq_false_iff_eq, Z.y2, Z.y3, Z.y4, Z.y5, reduceCtorEq] at hc1)) <;> (try cbv))
      · skip
        obtain ⟨r, hr⟩ : ∃ r, todo[i.toNat]? = some r := ⟨_, List.getElem?_eq_getElem (show i.toNat < todo.length by omega)⟩
        have hrok := htodo r (List.mem_of_getElem? hr)
        have hrl := hrok.len
        obtain ⟨xs, exs⟩ : ∃ x, x = r.map nxRow := ⟨_, rfl⟩
        have huxs : Up0 xs := by rw [exs]; exact up_nx r
        have hxl : xs.length = r.length := by rw [exs]; simp
        have hrow : tw[i.toNat]? = some [.list 1 xs] := by rw [hwt, List.getElem?_map, hr, exs]; rfl
        obtain ⟨i2, ei2⟩ : ∃ z, z = i + 1 := ⟨_, rfl⟩
        have a4 : wbin .add .i64 i 1 = i2 := by rw [hbin, ei2]; show IntKind.i64.wrap (i + 1) = i + 1; rw [IntKind.wrap_i64]; omega
        obtain ⟨q, eq⟩ : ∃ q, q = lastI r := ⟨_, rfl⟩
        have hq1 := lastI_get r hrl.2
        have hqb := hrok.seg q (by rw [eq]; exact List.mem_of_getElem? hq1)
        obtain ⟨sg0, hd0, hrow0⟩ := get_map (f := sgRow) (ds := ss) (i := q) hqb.1 hqb.2
        have hnxe : nxAt ss (lastI r) = sg0.nx := by rw [← eq]; unfold nxAt; rw [hd0]
        have hnxs : ∀ x, x ∈ sg0.nx → x ∈ nxAt ss (lastI r) := fun x hx => by rw [hnxe]; exact hx
        have hnx2 : sg0.nx.length ≤ 2 := by have := nxAt_two hnx (lastI r); rw [hnxe] at this; exact this
        obtain ⟨y, ey⟩ : ∃ y, y = endF ss from_ r := ⟨_, rfl⟩
        have hyb := endF_le hln hf r
        rw [← ey] at hyb
        have hend := e_rend ss gs es ds hes hds hln from_ hf r hrl.1 hrok.seg xs exs y ey
        have hstep : (todo.take i2.toNat).foldl (grow1 ss lo hi from_) (0, out, []) = grow1 ss lo hi from_ (0, out1, more) r := by
          rw [ei2, take_next hi0 hr, List.foldl_append, hfold]; rfl
        have hg : grow1 ss lo hi from_ (0, out1, more) r = (if hi ≤ y ∨ sg0.nx = [] then (if 16 < (if lo ≤ y then putQ out1 r else out1).length then 13 else 0, if lo ≤ y then putQ out1 r else out1, more) else if r.length = 12 then (13, out1, more) else (0, out1, more ++ sg0.nx.map fun n => r ++ [n])) := by
          unfold grow1; rw [if_neg (by simp), ← ey, hnxe]
        rw [hg] at hstep
        clear hg
        obtain ⟨len, pcs, nx⟩ := sg0
        obtain ⟨q0, eq0⟩ : ∃ x, pcs.map pcRow = x := ⟨_, rfl⟩
        obtain ⟨ns, ens⟩ : ∃ x, nx.map nxRow = x := ⟨_, rfl⟩
        have huns : Up0 ns := by rw [← ens]; exact up_nx nx
        have hnl : ns.length = nx.length := by rw [← ens]; simp
        have hrow0 : es[q.toNat]? = some [.int .i64 len, .list 2 q0, .list 1 ns] := by rw [hes, ← eq0, ← ens]; exact hrow0
        have hnx2 : nx.length ≤ 2 := hnx2
        have hnxs : ∀ x, x ∈ nx → x ∈ nxAt ss (lastI r) := hnxs
        have hT1 : (L - i2).toNat < (L - i).toNat := by omega
        have hup : ∀ x : List (List AV), Up0 x → uptoL 0 [AV.agg [.list 3 es, .list 5 ds], .int .i64 from_, .list 1 x] = true := fun x hx => by simp only [uptoL, AV.upto, hu.get, hud.get, hx.get]; rfl
        refine Idx.mk _ hi0 hrow ?_
        cbv
        (obtain ⟨K, eK, K0, Kn⟩ : ∃ L : Int, wlen xs = L ∧ 0 ≤ L ∧ L.toNat = xs.length := ⟨(xs.length : Int), by rw [hlen], Int.natCast_nonneg _, Int.toNat_natCast _⟩)
        obtain ⟨K1, eK1⟩ : ∃ z, z = K - 1 := ⟨_, rfl⟩
        have s1 : wbin .sub .i64 K 1 = K1 := by rw [hbin, eK1]; show IntKind.i64.wrap (K - 1) = K - 1; rw [IntKind.wrap_i64]; omega
        have hxq : xs[K1.toNat]? = some (nxRow q) := by rw [exs, List.getElem?_map, show K1.toNat = r.length - 1 by omega, hq1, eq]; rfl
        simp only [eK, s1]
        refine Idx.mk _ (show 0 ≤ K1 by omega) hxq ?_
        cbv
        refine Idx.mk _ hqb.1 hrow0 ?_
        cbv
        refine Call.stepE (by rw [← hP]; exact hend) (by exact hup _ huxs) ?_
        cbv
        (obtain ⟨J, eJ, J0, Jn⟩ : ∃ L : Int, wlen ns = L ∧ 0 ≤ L ∧ L.toNat = ns.length := ⟨(ns.length : Int), by rw [hlen], Int.natCast_nonneg _, Int.toNat_natCast _⟩)
        (split <;> rename_i h3 <;> (try (simp only [hbin, hcmp, hun, hconv, hnot, hbeq, hmm, hscmp, hsadd, hslen, hsat, heqs, hofNat, binStd, cmpStd, unStd, scmpStd, maxI, Z.z1, Z.z2, Z.z3, Z.z4, Z.z5, Z.z6, if_true, if_false, Z.z7, beq_iff_eq, bne_iff_ne, ne_eq, Z.z8, Z.z9, Z.y1, beq_eq_false_iff_ne, bne_eq_false_iff_eq, Z.y2, Z.y3, Z.y4, Z.y5, reduceCtorEq] at h3)) <;> (try cbv))
        · skip
          have hE1' : hi ≤ y ∨ nx = [] := .inl h3
          rw [if_pos hE1'] at hstep
          (split <;> rename_i h5 <;> (try (simp only [hbin, hcmp, hun, hconv, hnot, hbeq, hmm, hscmp, hsadd, hslen, hsat, heqs, hofNat, binStd, cmpStd, unStd, scmpStd, maxI, Z.z1, Z.z2, Z.z3, Z.z4, Z.z5, Z.z6, if_true, if_false, Z.z7, beq_iff_eq, bne_iff_ne, ne_eq, Z.z8, Z.z9, Z.y1, beq_eq_false_iff_ne, bne_eq_false_iff_eq, Z.y2, Z.y3, Z.y4, Z.y5, reduceCtorEq] at h5)) <;> (try cbv))
          · rw [if_pos h5] at hstep
            obtain ⟨o2, eo2⟩ : ∃ z, z = putQ out1 r := ⟨_, rfl⟩
            obtain ⟨po, epo⟩ : ∃ z, z = (putQ out1 r).map rtRow := ⟨_, rfl⟩
            have hpq := e_put out1 r ho121 (by omega) hrl.1 ow1 xs hwo1 exs
            rw [← epo] at hpq
            rw [← eo2] at epo hstep
            have hupo : Up0 po := by rw [epo]; exact up_rt o2
            have hpl : po.length = o2.length := by rw [epo]; simp
            have hol : o2.length ≤ 17 := by rw [eo2]; have := putQ_len out1 r; omega
            have ho2 : ∀ k, k ∈ o2 → k.length ≤ 12 := fun k hk => by
              rw [eo2] at hk
              rcases putQ_mem1 out1 r k hk with h | rfl
              · exact ho121 k h
              · exact hrl.1
            refine Call.stepE (by rw [← hP]; exact hpq) (by exact up_two huo1 huxs) ?_
            cbv
            (obtain ⟨H, eH, H0, Hn⟩ : ∃ L : Int, wlen po = L ∧ 0 ≤ L ∧ L.toNat = po.length := ⟨(po.length : Int), by rw [hlen], Int.natCast_nonneg _, Int.toNat_natCast _⟩)
            (split <;> rename_i h6 <;> (try (simp only [eH] at h6)) <;> (try (simp only [hbin, hcmp, hun, hconv, hnot, hbeq, hmm, hscmp, hsadd, hslen, hsat, heqs, hofNat, binStd, cmpStd, unStd, scmpStd, maxI, Z.z1, Z.z2, Z.z3, Z.z4, Z.z5, Z.z6, if_true, if_false, Z.z7, beq_iff_eq, bne_iff_ne, ne_eq, Z.z8, Z.z9, Z.y1, beq_eq_false_iff_ne, bne_eq_false_iff_eq, Z.y2, Z.y3, Z.y4, Z.y5, reduceCtorEq] at h6)) <;> (try cbv))
            · obtain ⟨k1, k2, k3⟩ := hret _ _ hstep (by rw [if_pos (by omega)]; exact (show (13 : Int) ≠ 0 by decide))
              subst k3
              exact hR1 _ _ (hR' _ _ (hbad k1 k2 _))
            · rw [if_neg (show ¬ 16 < o2.length by omega)] at hstep
              simp only [a4]
              refine hN1 (i2, o2, po, more, none) _ _ ?hx ?hi ?ht
              case hx => (refine Wk.eqz (id) (by first | exact fun i _ j _ e => e | (simp only [List.length_cons, List.length_nil]; decide)) ?_; cbv; (repeat' (first | exact trivial | rfl | assumption | apply And.intro | (simp only [hbin, hcmp, hun, hconv, hnot, hbeq, hmm, hscmp, hsadd, hslen, hsat, heqs, hofNat, binStd, cmpStd, unStd, scmpStd, maxI, Z.z1, Z.z2, Z.z3, Z.z4, Z.z5, Z.z6, if_true, if_false, Z.z7, beq_iff_eq, bne_iff_ne, ne_eq, Z.z8, Z.z9, Z.y1, beq_eq_false_iff_ne, bne_eq_false_iff_eq, Z.y2, Z.y3, Z.y4, Z.y5, reduceCtorEq]; first | done | assumption) | exact RowsZ.same (by assumption) (by first | assumption | rfl) | exact FzL.mk rfl rfl rfl (by assumption) (by first | assumption | rfl) (by decide) | (refine RowsZ.one ?_; cbv))))
              case hi => exact ⟨by first | omega | (simp only; omega), by first | omega | (simp only; omega), hstep, epo, hupo, (by first | omega | (simp only; omega)), ho2, by first | omega | (simp only; omega), hmo, hms⟩
              case ht => exact hT1
          · rw [if_neg (show ¬ lo ≤ y by omega), if_neg (show ¬ 16 < out1.length by omega)] at hstep
            (obtain ⟨H, eH, H0, Hn⟩ : ∃ L : Int, wlen ow1 = L ∧ 0 ≤ L ∧ L.toNat = ow1.length := ⟨(ow1.length : Int), by rw [hlen], Int.natCast_nonneg _, Int.toNat_natCast _⟩)
            have hol : ow1.length = out1.length := by rw [hwo1]; simp
            (split <;> rename_i h6 <;> (try (simp only [eH] at h6)) <;> (try (simp only [hbin, hcmp, hun, hconv, hnot, hbeq, hmm, hscmp, hsadd, hslen, hsat, heqs, hofNat, binStd, cmpStd, unStd, scmpStd, maxI, Z.z1, Z.z2, Z.z3, Z.z4, Z.z5, Z.z6, if_true, if_false, Z.z7, beq_iff_eq, bne_iff_ne, ne_eq, Z.z8, Z.z9, Z.y1, beq_eq_false_iff_ne, bne_eq_false_iff_eq, Z.y2, Z.y3, Z.y4, Z.y5, reduceCtorEq] at h6)) <;> (try cbv))
            · exfalso; omega
            · simp only [a4]
              refine hN1 (i2, out1, ow1, more, none) _ _ ?hx ?hi ?ht
              case hx => (refine Wk.eqz (id) (by first | exact fun i _ j _ e => e | (simp only [List.length_cons, List.length_nil]; decide)) ?_; cbv; (repeat' (first | exact trivial | rfl | assumption | apply And.intro | (simp only [hbin, hcmp, hun, hconv, hnot, hbeq, hmm, hscmp, hsadd, hslen, hsat, heqs, hofNat, binStd, cmpStd, unStd, scmpStd, maxI, Z.z1, Z.z2, Z.z3, Z.z4, Z.z5, Z.z6, if_true, if_false, Z.z7, beq_iff_eq, bne_iff_ne, ne_eq, Z.z8, Z.z9, Z.y1, beq_eq_false_iff_ne, bne_eq_false_iff_eq, Z.y2, Z.y3, Z.y4, Z.y5, reduceCtorEq]; first | done | assumption) | exact RowsZ.same (by assumption) (by first | assumption | rfl) | exact FzL.mk rfl rfl rfl (by assumption) (by first | assumption | rfl) (by decide) | (refine RowsZ.one ?_; cbv))))
              case hi => exact ⟨by first | omega | (simp only; omega), by first | omega | (simp only; omega), hstep, hwo1, huo1, ho161, ho121, by first | omega | (simp only; omega), hmo, hms⟩
              case ht => exact hT1
        simp only [eJ]
        (split <;> rename_i h4 <;> (try (simp only [hbin, hcmp, hun, hconv, hnot, hbeq, hmm, hscmp, hsadd, hslen, hsat, heqs, hofNat, binStd, cmpStd, unStd, scmpStd, maxI, Z.z1, Z.z2, Z.z3, Z.z4, Z.z5, Z.z6, if_true, if_false, Z.z7, beq_iff_eq, bne_iff_ne, ne_eq, Z.z8, Z.z9, Z.y1, beq_eq_false_iff_ne, bne_eq_false_iff_eq, Z.y2, Z.y3, Z.y4, Z.y5, reduceCtorEq] at h4)) <;> (try cbv))
        · skip
          have hE1' : hi ≤ y ∨ nx = [] := .inr (List.length_eq_zero_iff.1 (by omega))
          rw [if_pos hE1'] at hstep
          (split <;> rename_i h5 <;> (try (simp only [hbin, hcmp, hun, hconv, hnot, hbeq, hmm, hscmp, hsadd, hslen, hsat, heqs, hofNat, binStd, cmpStd, unStd, scmpStd, maxI, Z.z1, Z.z2, Z.z3, Z.z4, Z.z5, Z.z6, if_true, if_false, Z.z7, beq_iff_eq, bne_iff_ne, ne_eq, Z.z8, Z.z9, Z.y1, beq_eq_false_iff_ne, bne_eq_false_iff_eq, Z.y2, Z.y3, Z.y4, Z.y5, reduceCtorEq] at h5)) <;> (try cbv))
          · rw [if_pos h5] at hstep
            obtain ⟨o2, eo2⟩ : ∃ z, z = putQ out1 r := ⟨_, rfl⟩
            obtain ⟨po, epo⟩ : ∃ z, z = (putQ out1 r).map rtRow := ⟨_, rfl⟩
            have hpq := e_put out1 r ho121 (by omega) hrl.1 ow1 xs hwo1 exs
            rw [← epo] at hpq
            rw [← eo2] at epo hstep
            have hupo : Up0 po := by rw [epo]; exact up_rt o2
            have hpl : po.length = o2.length := by rw [epo]; simp
            have hol : o2.length ≤ 17 := by rw [eo2]; have := putQ_len out1 r; omega
            have ho2 : ∀ k, k ∈ o2 → k.length ≤ 12 := fun k hk => by
              rw [eo2] at hk
              rcases putQ_mem1 out1 r k hk with h | rfl
              · exact ho121 k h
              · exact hrl.1
            refine Call.stepE (by rw [← hP]; exact hpq) (by exact up_two huo1 huxs) ?_
            cbv
            (obtain ⟨H, eH, H0, Hn⟩ : ∃ L : Int, wlen po = L ∧ 0 ≤ L ∧ L.toNat = po.length := ⟨(po.length : Int), by rw [hlen], Int.natCast_nonneg _, Int.toNat_natCast _⟩)
            (split <;> rename_i h6 <;> (try (simp only [eH] at h6)) <;> (try (simp only [hbin, hcmp, hun, hconv, hnot, hbeq, hmm, hscmp, hsadd, hslen, hsat, heqs, hofNat, binStd, cmpStd, unStd, scmpStd, maxI, Z.z1, Z.z2, Z.z3, Z.z4, Z.z5, Z.z6, if_true, if_false, Z.z7, beq_iff_eq, bne_iff_ne, ne_eq, Z.z8, Z.z9, Z.y1, beq_eq_false_iff_ne, bne_eq_false_iff_eq, Z.y2, Z.y3, Z.y4, Z.y5, reduceCtorEq] at h6)) <;> (try cbv))
            · obtain ⟨k1, k2, k3⟩ := hret _ _ hstep (by rw [if_pos (by omega)]; exact (show (13 : Int) ≠ 0 by decide))
              subst k3
              exact hR1 _ _ (hR' _ _ (hbad k1 k2 _))
            · rw [if_neg (show ¬ 16 < o2.length by omega)] at hstep
              simp only [a4]
              refine hN1 (i2, o2, po, more, none) _ _ ?hx ?hi ?ht
              case hx => (refine Wk.eqz (id) (by first | exact fun i _ j _ e => e | (simp only [List.length_cons, List.length_nil]; decide)) ?_; cbv; (repeat' (first | exact trivial | rfl | assumption | apply And.intro | (simp only [hbin, hcmp, hun, hconv, hnot, hbeq, hmm, hscmp, hsadd, hslen, hsat, heqs, hofNat, binStd, cmpStd, unStd, scmpStd, maxI, Z.z1, Z.z2, Z.z3, Z.z4, Z.z5, Z.z6, if_true, if_false, Z.z7, beq_iff_eq, bne_iff_ne, ne_eq, Z.z8, Z.z9, Z.y1, beq_eq_false_iff_ne, bne_eq_false_iff_eq, Z.y2, Z.y3, Z.y4, Z.y5, reduceCtorEq]; first | done | assumption) | exact RowsZ.same (by assumption) (by first | assumption | rfl) | exact FzL.mk rfl rfl rfl (by assumption) (by first | assumption | rfl) (by decide) | (refine RowsZ.one ?_; cbv))))
              case hi => exact ⟨by first | omega | (simp only; omega), by first | omega | (simp only; omega), hstep, epo, hupo, (by first | omega | (simp only; omega)), ho2, by first | omega | (simp only; omega), hmo, hms⟩
              case ht => exact hT1
          · rw [if_neg (show ¬ lo ≤ y by omega), if_neg (show ¬ 16 < out1.length by omega)] at hstep
            (obtain ⟨H, eH, H0, Hn⟩ : ∃ L : Int, wlen ow1 = L ∧ 0 ≤ L ∧ L.toNat = ow1.length := ⟨(ow1.length : Int), by rw [hlen], Int.natCast_nonneg _, Int.toNat_natCast _⟩)
            have hol : ow1.length = out1.length := by rw [hwo1]; simp
            (split <;> rename_i h6 <;> (try (simp only [eH] at h6)) <;> (try (simp only [hbin, hcmp, hun, hconv, hnot, hbeq, hmm, hscmp, hsadd, hslen, hsat, heqs, hofNat, binStd, cmpStd, unStd, scmpStd, maxI, Z.z1, Z.z2, Z.z3, Z.z4, Z.z5, Z.z6, if_true, if_false, Z.z7, beq_iff_eq, bne_iff_ne, ne_eq, Z.z8, Z.z9, Z.y1, beq_eq_false_iff_ne, bne_eq_false_iff_eq, Z.y2, Z.y3, Z.y4, Z.y5, reduceCtorEq] at h6)) <;> (try cbv))
            · exfalso; omega
            · simp only [a4]
              refine hN1 (i2, out1, ow1, more, none) _ _ ?hx ?hi ?ht
              case hx => (refine Wk.eqz (id) (by first | exact fun i _ j _ e => e | (simp only [List.length_cons, List.length_nil]; decide)) ?_; cbv; (repeat' (first | exact trivial | rfl | assumption | apply And.intro | (simp only [hbin, hcmp, hun, hconv, hnot, hbeq, hmm, hscmp, hsadd, hslen, hsat, heqs, hofNat, binStd, cmpStd, unStd, scmpStd, maxI, Z.z1, Z.z2, Z.z3, Z.z4, Z.z5, Z.z6, if_true, if_false, Z.z7, beq_iff_eq, bne_iff_ne, ne_eq, Z.z8, Z.z9, Z.y1, beq_eq_false_iff_ne, bne_eq_false_iff_eq, Z.y2, Z.y3, Z.y4, Z.y5, reduceCtorEq]; first | done | assumption) | exact RowsZ.same (by assumption) (by first | assumption | rfl) | exact FzL.mk rfl rfl rfl (by assumption) (by first | assumption | rfl) (by decide) | (refine RowsZ.one ?_; cbv))))
              case hi => exact ⟨by first | omega | (simp only; omega), by first | omega | (simp only; omega), hstep, hwo1, huo1, ho161, ho121, by first | omega | (simp only; omega), hmo, hms⟩
              case ht => exact hT1
        have hE1' : ¬ (hi ≤ y ∨ nx = []) := by
          rintro (h | h)
          · omega
          · rw [h, List.length_nil] at hnl; omega
        rw [if_neg hE1'] at hstep
        simp only [eK]
        (split <;> rename_i h5 <;> (try (simp only [hbin, hcmp, hun, hconv, hnot, hbeq, hmm, hscmp, hsadd, hslen, hsat, heqs, hofNat, binStd, cmpStd, unStd, scmpStd, maxI, Z.z1, Z.z2, Z.z3, Z.z4, Z.z5, Z.z6, if_true, if_false, Z.z7, beq_iff_eq, bne_iff_ne, ne_eq, Z.z8, Z.z9, Z.y1, beq_eq_false_iff_ne, bne_eq_false_iff_eq, Z.y2, Z.y3, Z.y4, Z.y5, reduceCtorEq] at h5)) <;> (try cbv))
        · rw [if_pos (show r.length = 12 by omega)] at hstep
          obtain ⟨k1, k2, k3⟩ := hret _ _ hstep (show (13 : Int) ≠ 0 by decide)
          subst k3
          exact hR1 _ _ (hR' _ _ (hbad k1 k2 _))
        rw [if_neg (show ¬ r.length = 12 by omega)] at hstep
        have h12 : r.length ≠ 12 := by omega
        have hnl0 : more ++ (nx.take (0 : Int).toNat).map (fun n => r ++ [n]) = more := by simp
        refine Loop.data hw (S := Int × List (List Int) × Option (Nat × List (List AV))) (fun s => match s.2.2 with
            | none => fr 117 [(2, .int .i64 lo), (3, .int .i64 hi), (4, .ref 0 2 0 0), (5, .ref 1 2 0 0), (8, .ref 2 2 0 0), (10, .ref 3 2 0 0), (11, .list 1 tw), (12, .int .i64 n), (13, .nils), (14, .int .i64 i), (15, .list 1 xs), (16, .list 1 ns), (18, .int .i64 s.1)]
            | some (k, w) => fr 117 [(2, .int .i64 lo), (3, .int .i64 hi), (4, .ref 0 2 0 0), (5, .ref 1 2 0 0), (8, .ref 2 2 0 0), (10, .ref 3 2 0 0), (11, .list 1 tw), (12, .int .i64 n), (13, .sl 4 1 0 k), (14, .int .i64 i), (15, .list 1 xs), (16, .list 1 ns), (18, .int .i64 s.1)])
          (fun s => match s.2.2 with
            | none => [.live 2 [[.list 3 es, .list 5 ds]], .live 2 [[.int .i64 from_, .list 1 rs]], .live 2 [[.int .i64 0, .nils]], .live 2 [[.int .i64 from_, .list 1 ow1]]]
            | some (k, w) => [.live 2 [[.list 3 es, .list 5 ds]], .live 2 [[.int .i64 from_, .list 1 rs]], .live 2 [[.int .i64 0, .nils]], .live 2 [[.int .i64 from_, .list 1 ow1]], .live 1 w])
          (fun s => 0 ≤ s.1 ∧ s.1 ≤ J ∧ s.2.1 = more ++ (nx.take s.1.toNat).map (fun n => r ++ [n]) ∧ (match s.2.2 with | none => s.2.1 = [] | some (k, w) => k = w.length ∧ w = s.2.1.map rtRow ∧ Up0 w)) (fun s => (J - s.1).toNat) (0, more, none) (by (refine Wk.eqz (id) (by first | exact fun i _ j _ e => e | (simp only [List.length_cons, List.length_nil]; decide)) ?_; cbv; (repeat' (first | exact trivial | rfl | assumption | apply And.intro | (simp only [hbin, hcmp, hun, hconv, hnot, hbeq, hmm, hscmp, hsadd, hslen, hsat, heqs, hofNat, binStd, cmpStd, unStd, scmpStd, maxI, Z.z1, Z.z2, Z.z3, Z.z4, Z.z5, Z.z6, if_true, if_false, Z.z7, beq_iff_eq, bne_iff_ne, ne_eq, Z.z8, Z.z9, Z.y1, beq_eq_false_iff_ne, bne_eq_false_iff_eq, Z.y2, Z.y3, Z.y4, Z.y5, reduceCtorEq]; first | done | assumption) | exact RowsZ.same (by assumption) (by first | assumption | rfl) | exact FzL.mk rfl rfl rfl (by assumption) (by first | assumption | rfl) (by decide) | (refine RowsZ.one ?_; cbv))))) ⟨Int.le_refl _, J0, hnl0.symm, hms⟩ ?_
        rintro ⟨j, mo, _ | ⟨k2, w2⟩⟩ hinv3 Q2 hN2 hE2 hR2
        · cbv
          simp only [eJ]
          have hinv4 : 0 ≤ j ∧ j ≤ J ∧ mo = more ++ (nx.take j.toNat).map (fun n => r ++ [n]) := ⟨hinv3.1, hinv3.2.1, hinv3.2.2.1⟩
          have hms2 : mo = [] := hinv3.2.2.2
          obtain ⟨hj0, hj1, hmoe⟩ := hinv4
          have hmol : mo.length ≤ more.length + 2 := by rw [hmoe]; simp only [List.length_append, List.length_map, List.length_take]; omega
          (split <;> rename_i hc3 <;> (try (simp only [hbin, hcmp, hun, hconv, hnot, hbeq, hmm, hscmp, hsadd, hslen, hsat, heqs, hofNat, binStd, cmpStd, unStd, scmpStd, maxI, Z.z1, Z.z2, Z.z3, Z.z4, Z.z5, Z.z6, if_true, if_false, Z.z7, beq_iff_eq, bne_iff_ne, ne_eq, Z.z8, Z.z9, Z.y1, beq_eq_false_iff_ne, bne_eq_false_iff_eq, Z.y2, Z.y3, Z.y4, Z.y5, reduceCtorEq] at hc3)) <;> (try cbv))
          · skip
            obtain ⟨nn, hnn⟩ : ∃ nn, nx[j.toNat]? = some nn := ⟨_, List.getElem?_eq_getElem (show j.toNat < nx.length by omega)⟩
            have hnn2 : ns[j.toNat]? = some (nxRow nn) := by rw [← ens, List.getElem?_map, hnn]; rfl
            obtain ⟨j2, ej2⟩ : ∃ z, z = j + 1 := ⟨_, rfl⟩
            have a5 : wbin .add .i64 j 1 = j2 := by rw [hbin, ej2]; show IntKind.i64.wrap (j + 1) = j + 1; rw [IntKind.wrap_i64]; omega
            have hmo2 : mo ++ [r ++ [nn]] = more ++ (nx.take j2.toNat).map (fun n => r ++ [n]) := by rw [ej2, take_next hj0 hnn, hmoe]; simp
            have hxne : xs ≠ [] := fun h => by rw [h] at hxl; simp at hxl; omega
            rcases xs with _ | ⟨x0, _ | ⟨x1, xt⟩⟩
            · exact absurd rfl hxne
            all_goals
              obtain ⟨xl, exl⟩ : ∃ m : Nat, m = r.length := ⟨_, rfl⟩
              obtain ⟨lx, elx⟩ : ∃ x : List (List AV), x = (r ++ [nn]).map nxRow := ⟨_, rfl⟩
              have hlx : lx.length = r.length + 1 := by rw [elx]; simp
              have hulx : Up0 lx := by rw [elx]; exact up_nx _
              obtain ⟨lk, elk⟩ : ∃ k, k = lx.length := ⟨_, rfl⟩
              cbv
              first
                | refine Ob.mk (by decide) ?_
                | (refine Fb.mk ⟨fun h => absurd h (by simp), fun _ => ⟨⟨rfl, by simp only [List.length_cons] at hxl ⊢; omega, by simp only [List.length_cons] at hxl ⊢; omega⟩, ?_⟩⟩; rw [hxl, ← exl])
              cbv
              refine Idx.mk _ hj0 hnn2 ?_
              cbv
              refine App.mk lx lk (by rw [elx, List.map_append, ← exs]; rfl) (by first | rfl | rw [hxl, exl]) (by simp only [List.length_cons, List.length_nil] at hxl; omega) (by simp only [List.length_cons, List.length_nil] at hxl; omega) (by simp only [List.length_cons, List.length_nil] at hxl; omega) ?_
              cbv
              refine Ob.mk (by decide) ?_
              cbv
              simp only [a5]
              refine hN2 (j2, mo ++ [r ++ [nn]], some (1, [[.list 1 lx]])) _ _ ?hx ?hi ?ht
              case hx => (refine Wk.eqz (fun j => [0, 1, 2, 3, 6].getD j 0) (by first | exact fun i _ j _ e => e | (simp only [List.length_cons, List.length_nil]; decide)) ?_; cbv; (repeat' (first | exact trivial | rfl | assumption | apply And.intro | (simp only [hbin, hcmp, hun, hconv, hnot, hbeq, hmm, hscmp, hsadd, hslen, hsat, heqs, hofNat, binStd, cmpStd, unStd, scmpStd, maxI, Z.z1, Z.z2, Z.z3, Z.z4, Z.z5, Z.z6, if_true, if_false, Z.z7, beq_iff_eq, bne_iff_ne, ne_eq, Z.z8, Z.z9, Z.y1, beq_eq_false_iff_ne, bne_eq_false_iff_eq, Z.y2, Z.y3, Z.y4, Z.y5, reduceCtorEq]; first | done | assumption) | exact RowsZ.same (by assumption) (by first | assumption | rfl) | exact FzL.mk rfl rfl rfl (by assumption) (by first | assumption | rfl) (by decide) | (refine RowsZ.one ?_; cbv))))
              case hi => exact ⟨by first | omega | (simp only; omega), by first | omega | (simp only; omega), hmo2, rfl, by rw [hms2, elx]; rfl, ⟨by simp only [uptoLL, uptoL, AV.upto, hulx.get]; rfl⟩⟩
              case ht => show (J - j2).toNat < (J - j).toNat; omega
          · skip
            have hmoF : mo = more ++ nx.map (fun n => r ++ [n]) := by rw [hmoe, List.take_of_length_le (by omega)]
            rw [← hmoF] at hstep
            have hmok : ∀ l, l ∈ mo → WayOk ss l := fun l hl => by
              rw [hmoF] at hl
              rcases List.mem_append.1 hl with hl | hl
              · exact hmo l hl
              · obtain ⟨q, hq, rfl⟩ := List.mem_map.1 hl
                exact hrok.snoc hnx h12 (hnxs q hq)
            refine hE2 _ _ _ ?_
            cbv
            simp only [a4]
            refine hN1 (i2, out1, ow1, mo, none) _ _ ?hx ?hi ?ht
            case hx => (refine Wk.eqz (id) (by first | exact fun i _ j _ e => e | (simp only [List.length_cons, List.length_nil]; decide)) ?_; cbv; (repeat' (first | exact trivial | rfl | assumption | apply And.intro | (simp only [hbin, hcmp, hun, hconv, hnot, hbeq, hmm, hscmp, hsadd, hslen, hsat, heqs, hofNat, binStd, cmpStd, unStd, scmpStd, maxI, Z.z1, Z.z2, Z.z3, Z.z4, Z.z5, Z.z6, if_true, if_false, Z.z7, beq_iff_eq, bne_iff_ne, ne_eq, Z.z8, Z.z9, Z.y1, beq_eq_false_iff_ne, bne_eq_false_iff_eq, Z.y2, Z.y3, Z.y4, Z.y5, reduceCtorEq]; first | done | assumption) | exact RowsZ.same (by assumption) (by first | assumption | rfl) | exact FzL.mk rfl rfl rfl (by assumption) (by first | assumption | rfl) (by decide) | (refine RowsZ.one ?_; cbv))))
            case hi => exact ⟨by first | omega | (simp only; omega), by first | omega | (simp only; omega), hstep, hwo1, huo1, ho161, ho121, by first | omega | (simp only; omega), hmok, hms2⟩
            case ht => exact hT1
        · cbv
          simp only [eJ]
          have hinv4 : 0 ≤ j ∧ j ≤ J ∧ mo = more ++ (nx.take j.toNat).map (fun n => r ++ [n]) := ⟨hinv3.1, hinv3.2.1, hinv3.2.2.1⟩
          have hms2 : k2 = w2.length ∧ w2 = mo.map rtRow ∧ Up0 w2 := hinv3.2.2.2
          obtain ⟨hj0, hj1, hmoe⟩ := hinv4
          have hmol : mo.length ≤ more.length + 2 := by rw [hmoe]; simp only [List.length_append, List.length_map, List.length_take]; omega
          obtain ⟨hk2, hw22, huw22⟩ := hms2
          (split <;> rename_i hc3 <;> (try (simp only [hbin, hcmp, hun, hconv, hnot, hbeq, hmm, hscmp, hsadd, hslen, hsat, heqs, hofNat, binStd, cmpStd, unStd, scmpStd, maxI, Z.z1, Z.z2, Z.z3, Z.z4, Z.z5, Z.z6, if_true, if_false, Z.z7, beq_iff_eq, bne_iff_ne, ne_eq, Z.z8, Z.z9, Z.y1, beq_eq_false_iff_ne, bne_eq_false_iff_eq, Z.y2, Z.y3, Z.y4, Z.y5, reduceCtorEq] at hc3)) <;> (try cbv))
          · skip
            obtain ⟨nn, hnn⟩ : ∃ nn, nx[j.toNat]? = some nn := ⟨_, List.getElem?_eq_getElem (show j.toNat < nx.length by omega)⟩
            have hnn2 : ns[j.toNat]? = some (nxRow nn) := by rw [← ens, List.getElem?_map, hnn]; rfl
            obtain ⟨j2, ej2⟩ : ∃ z, z = j + 1 := ⟨_, rfl⟩
            have a5 : wbin .add .i64 j 1 = j2 := by rw [hbin, ej2]; show IntKind.i64.wrap (j + 1) = j + 1; rw [IntKind.wrap_i64]; omega
            have hmo2 : mo ++ [r ++ [nn]] = more ++ (nx.take j2.toNat).map (fun n => r ++ [n]) := by rw [ej2, take_next hj0 hnn, hmoe]; simp
            have hxne : xs ≠ [] := fun h => by rw [h] at hxl; simp at hxl; omega
            rcases xs with _ | ⟨x0, _ | ⟨x1, xt⟩⟩
            · exact absurd rfl hxne
            all_goals
              obtain ⟨xl, exl⟩ : ∃ m : Nat, m = r.length := ⟨_, rfl⟩
              obtain ⟨lx, elx⟩ : ∃ x : List (List AV), x = (r ++ [nn]).map nxRow := ⟨_, rfl⟩
              have hlx : lx.length = r.length + 1 := by rw [elx]; simp
              have hulx : Up0 lx := by rw [elx]; exact up_nx _
              obtain ⟨lk, elk⟩ : ∃ k, k = lx.length := ⟨_, rfl⟩
              cbv
              first
                | refine Ob.mk (by decide) ?_
                | (refine Fb.mk ⟨fun h => absurd h (by simp), fun _ => ⟨⟨rfl, by simp only [List.length_cons] at hxl ⊢; omega, by simp only [List.length_cons] at hxl ⊢; omega⟩, ?_⟩⟩; rw [hxl, ← exl])
              cbv
              refine Idx.mk _ hj0 hnn2 ?_
              cbv
              refine App.mk lx lk (by rw [elx, List.map_append, ← exs]; rfl) (by first | rfl | rw [hxl, exl]) (by simp only [List.length_cons, List.length_nil] at hxl; omega) (by simp only [List.length_cons, List.length_nil] at hxl; omega) (by simp only [List.length_cons, List.length_nil] at hxl; omega) ?_
              cbv
              obtain ⟨w3, ew3⟩ : ∃ x : List (List AV), x = w2 ++ [[.sl 6 1 0 lk]] := ⟨_, rfl⟩
              obtain ⟨w4, ew4⟩ : ∃ x : List (List AV), x = w2 ++ [[.list 1 lx]] := ⟨_, rfl⟩
              obtain ⟨k3, ek3⟩ : ∃ x, x = k2 + 1 := ⟨_, rfl⟩
              have hw3l : k3 = w4.length := by rw [ek3, ew4]; simp; omega
              have hw4 : w4 = (mo ++ [r ++ [nn]]).map rtRow := by rw [ew4, hw22, elx]; simp [rtRow]
              have huw4 : Up0 w4 := by rw [hw4]; exact up_rt _
              have hkml : k2 = mo.length := by rw [hk2, hw22]; simp
              refine App.mk w3 k3 ew3 hk2 ek3 (by omega) (by omega) ?_
              cbv
              simp only [a5]
              refine hN2 (j2, mo ++ [r ++ [nn]], some (k3, w4)) _ _ ?hx ?hi ?ht
              case hx => (refine Wk.eqz (fun j => [0, 1, 2, 3, 7].getD j 0) (by first | exact fun i _ j _ e => e | (simp only [List.length_cons, List.length_nil]; decide)) ?_; cbv; (repeat' (first | exact trivial | rfl | assumption | (refine RowsZ.app huw22 ew3 ew4 ?_; cbv) | apply And.intro | (simp only [hbin, hcmp, hun, hconv, hnot, hbeq, hmm, hscmp, hsadd, hslen, hsat, heqs, hofNat, binStd, cmpStd, unStd, scmpStd, maxI, Z.z1, Z.z2, Z.z3, Z.z4, Z.z5, Z.z6, if_true, if_false, Z.z7, beq_iff_eq, bne_iff_ne, ne_eq, Z.z8, Z.z9, Z.y1, beq_eq_false_iff_ne, bne_eq_false_iff_eq, Z.y2, Z.y3, Z.y4, Z.y5, reduceCtorEq]; first | done | assumption) | exact RowsZ.same (by assumption) (by first | assumption | rfl) | exact FzL.mk rfl rfl rfl (by assumption) (by first | assumption | rfl) (by decide) | (refine RowsZ.one ?_; cbv))))
              case hi => exact ⟨by first | omega | (simp only; omega), by first | omega | (simp only; omega), hmo2, hw3l, hw4, huw4⟩
              case ht => show (J - j2).toNat < (J - j).toNat; omega
          · skip
            have hmoF : mo = more ++ nx.map (fun n => r ++ [n]) := by rw [hmoe, List.take_of_length_le (by omega)]
            rw [← hmoF] at hstep
            have hmok : ∀ l, l ∈ mo → WayOk ss l := fun l hl => by
              rw [hmoF] at hl
              rcases List.mem_append.1 hl with hl | hl
              · exact hmo l hl
              · obtain ⟨q, hq, rfl⟩ := List.mem_map.1 hl
                exact hrok.snoc hnx h12 (hnxs q hq)
            refine hE2 _ _ _ ?_
            cbv
            simp only [a4]
            refine hN1 (i2, out1, ow1, mo, some (k2, w2)) _ _ ?hx ?hi ?ht
            case hx => (refine Wk.eqz (id) (by first | exact fun i _ j _ e => e | (simp only [List.length_cons, List.length_nil]; decide)) ?_; cbv; (repeat' (first | exact trivial | rfl | assumption | apply And.intro | (simp only [hbin, hcmp, hun, hconv, hnot, hbeq, hmm, hscmp, hsadd, hslen, hsat, heqs, hofNat, binStd, cmpStd, unStd, scmpStd, maxI, Z.z1, Z.z2, Z.z3, Z.z4, Z.z5, Z.z6, if_true, if_false, Z.z7, beq_iff_eq, bne_iff_ne, ne_eq, Z.z8, Z.z9, Z.y1, beq_eq_false_iff_ne, bne_eq_false_iff_eq, Z.y2, Z.y3, Z.y4, Z.y5, reduceCtorEq]; first | done | assumption) | exact RowsZ.same (by assumption) (by first | assumption | rfl) | exact FzL.mk rfl rfl rfl (by assumption) (by first | assumption | rfl) (by decide) | (refine RowsZ.one ?_; cbv))))
            case hi => exact ⟨by first | omega | (simp only; omega), by first | omega | (simp only; omega), hstep, hwo1, huo1, ho161, ho121, by first | omega | (simp only; omega), hmok, hk2, hw22, huw22⟩
            case ht => exact hT1
      · have hiL : todo.take i.toNat = todo := List.take_of_length_le (by omega)
        rw [hiL] at hfold
        obtain ⟨n2, en2⟩ : ∃ z, z = n + 1 := ⟨_, rfl⟩
        have a6 : wbin .add .i64 n 1 = n2 := by rw [hbin, en2]; show IntKind.i64.wrap (n + 1) = n + 1; rw [IntKind.wrap_i64]; omega
        have hgq2 : growQ ss lo hi from_ 13 [] ls = growQ ss lo hi from_ (13 - n2.toNat) out1 more := by
          rw [hgq, show 13 - n.toNat = (13 - n2.toNat) + 1 by omega]
          conv => lhs; unfold growQ
          rw [hfold, if_neg (by simp)]
        have hcap3 : more.length ≤ capR n2.toNat := by rw [show n2.toNat = n.toNat + 1 by omega, capR_succ]; omega
        refine hE1 _ _ _ ?_
        cbv
        simp only [a6]
        refine hN (n2, out1, ow1, more, []) _ _ ?hx ?hi ?ht
        case hx => (refine Wk.eqz (id) (by first | exact fun i _ j _ e => e | (simp only [List.length_cons, List.length_nil]; decide)) ?_; cbv; (repeat' (first | exact trivial | rfl | assumption | apply And.intro | (simp only [hbin, hcmp, hun, hconv, hnot, hbeq, hmm, hscmp, hsadd, hslen, hsat, heqs, hofNat, binStd, cmpStd, unStd, scmpStd, maxI, Z.z1, Z.z2, Z.z3, Z.z4, Z.z5, Z.z6, if_true, if_false, Z.z7, beq_iff_eq, bne_iff_ne, ne_eq, Z.z8, Z.z9, Z.y1, beq_eq_false_iff_ne, bne_eq_false_iff_eq, Z.y2, Z.y3, Z.y4, Z.y5, reduceCtorEq]; first | done | assumption) | exact RowsZ.same (by assumption) (by first | assumption | rfl) | exact FzL.mk rfl rfl rfl (by assumption) (by first | assumption | rfl) (by decide) | (refine RowsZ.one ?_; cbv))))
        case hi => exact ⟨by first | omega | (simp only; omega), by first | omega | (simp only; omega), hgq2, hwo1, huo1, by rw [hms]; rfl, ⟨rfl⟩, ho161, ho121, hmo, hcap3⟩
        case ht => show (13 - n2).toNat < (13 - n).toNat; omega
    · cbv
      simp only [eL]
      have hinv2 : 0 ≤ i ∧ i ≤ L ∧ (todo.take i.toNat).foldl (grow1 ss lo hi from_) (0, out, []) = (0, out1, more) ∧ ow1 = out1.map rtRow ∧ Up0 ow1 ∧ out1.length ≤ 16 ∧ (∀ k, k ∈ out1 → k.length ≤ 12) ∧ more.length ≤ 2 * i.toNat ∧ (∀ l, l ∈ more → WayOk ss l) := ⟨hinv1.1, hinv1.2.1, hinv1.2.2.1, hinv1.2.2.2.1, hinv1.2.2.2.2.1, hinv1.2.2.2.2.2.1, hinv1.2.2.2.2.2.2.1, hinv1.2.2.2.2.2.2.2.1, hinv1.2.2.2.2.2.2.2.2.1⟩
      have hms : k = w.length ∧ w = more.map rtRow ∧ Up0 w := hinv1.2.2.2.2.2.2.2.2.2
      obtain ⟨hi0, hi1, hfold, hwo1, huo1, ho161, ho121, hml, hmo⟩ := hinv2
      (split <;> rename_i hc1 <;> (try (simp only [hbin, hcmp, hun, hconv, hnot, hbeq, hmm, hscmp, hsadd, hslen, hsat, heqs, hofNat, binStd, cmpStd, unStd, scmpStd, maxI, Z.z1, Z.z2, Z.z3, Z.z4, Z.z5, Z.z6, if_true, if_false, Z.z7, beq_iff_eq, bne_iff_ne, ne_eq, Z.z8, Z.z9, Z.y1, beq_eq_false_iff_ne, bne_eq_false_iff_eq, Z.y2, Z.y3, Z.y4, Z.y5, reduceCtorEq] at hc1)) <;> (try cbv))
      · skip
        obtain ⟨r, hr⟩ : ∃ r, todo[i.toNat]? = some r := ⟨_, List.getElem?_eq_getElem (show i.toNat < todo.length by omega)⟩
        have hrok := htodo r (List.mem_of_getElem? hr)
        have hrl := hrok.len
        obtain ⟨xs, exs⟩ : ∃ x, x = r.map nxRow := ⟨_, rfl⟩
        have huxs : Up0 xs := by rw [exs]; exact up_nx r
        have hxl : xs.length = r.length := by rw [exs]; simp
        have hrow : tw[i.toNat]? = some [.list 1 xs] := by rw [hwt, List.getElem?_map, hr, exs]; rfl
        obtain ⟨i2, ei2⟩ : ∃ z, z = i + 1 := ⟨_, rfl⟩
        have a4 : wbin .add .i64 i 1 = i2 := by rw [hbin, ei2]; show IntKind.i64.wrap (i + 1) = i + 1; rw [IntKind.wrap_i64]; omega
        obtain ⟨q, eq⟩ : ∃ q, q = lastI r := ⟨_, rfl⟩
        have hq1 := lastI_get r hrl.2
        have hqb := hrok.seg q (by rw [eq]; exact List.mem_of_getElem? hq1)
        obtain ⟨sg0, hd0, hrow0⟩ := get_map (f := sgRow) (ds := ss) (i := q) hqb.1 hqb.2
        have hnxe : nxAt ss (lastI r) = sg0.nx := by rw [← eq]; unfold nxAt; rw [hd0]
        have hnxs : ∀ x, x ∈ sg0.nx → x ∈ nxAt ss (lastI r) := fun x hx => by rw [hnxe]; exact hx
        have hnx2 : sg0.nx.length ≤ 2 := by have := nxAt_two hnx (lastI r); rw [hnxe] at this; exact this
        obtain ⟨y, ey⟩ : ∃ y, y = endF ss from_ r := ⟨_, rfl⟩
        have hyb := endF_le hln hf r
        rw [← ey] at hyb
        have hend := e_rend ss gs es ds hes hds hln from_ hf r hrl.1 hrok.seg xs exs y ey
        have hstep : (todo.take i2.toNat).foldl (grow1 ss lo hi from_) (0, out, []) = grow1 ss lo hi from_ (0, out1, more) r := by
          rw [ei2, take_next hi0 hr, List.foldl_append, hfold]; rfl
        have hg : grow1 ss lo hi from_ (0, out1, more) r = (if hi ≤ y ∨ sg0.nx = [] then (if 16 < (if lo ≤ y then putQ out1 r else out1).length then 13 else 0, if lo ≤ y then putQ out1 r else out1, more) else if r.length = 12 then (13, out1, more) else (0, out1, more ++ sg0.nx.map fun n => r ++ [n])) := by
          unfold grow1; rw [if_neg (by simp), ← ey, hnxe]
        rw [hg] at hstep
        clear hg
        obtain ⟨len, pcs, nx⟩ := sg0
        obtain ⟨q0, eq0⟩ : ∃ x, pcs.map pcRow = x := ⟨_, rfl⟩
        obtain ⟨ns, ens⟩ : ∃ x, nx.map nxRow = x := ⟨_, rfl⟩
        have huns : Up0 ns := by rw [← ens]; exact up_nx nx
        have hnl : ns.length = nx.length := by rw [← ens]; simp
        have hrow0 : es[q.toNat]? = some [.int .i64 len, .list 2 q0, .list 1 ns] := by rw [hes, ← eq0, ← ens]; exact hrow0
        have hnx2 : nx.length ≤ 2 := hnx2
        have hnxs : ∀ x, x ∈ nx → x ∈ nxAt ss (lastI r) := hnxs
        have hT1 : (L - i2).toNat < (L - i).toNat := by omega
        have hup : ∀ x : List (List AV), Up0 x → uptoL 0 [AV.agg [.list 3 es, .list 5 ds], .int .i64 from_, .list 1 x] = true := fun x hx => by simp only [uptoL, AV.upto, hu.get, hud.get, hx.get]; rfl
        obtain ⟨hk, hw2, huw⟩ := hms
        refine Idx.mk _ hi0 hrow ?_
        cbv
        (obtain ⟨K, eK, K0, Kn⟩ : ∃ L : Int, wlen xs = L ∧ 0 ≤ L ∧ L.toNat = xs.length := ⟨(xs.length : Int), by rw [hlen], Int.natCast_nonneg _, Int.toNat_natCast _⟩)
        obtain ⟨K1, eK1⟩ : ∃ z, z = K - 1 := ⟨_, rfl⟩
        have s1 : wbin .sub .i64 K 1 = K1 := by rw [hbin, eK1]; show IntKind.i64.wrap (K - 1) = K - 1; rw [IntKind.wrap_i64]; omega
        have hxq : xs[K1.toNat]? = some (nxRow q) := by rw [exs, List.getElem?_map, show K1.toNat = r.length - 1 by omega, hq1, eq]; rfl
        simp only [eK, s1]
        refine Idx.mk _ (show 0 ≤ K1 by omega) hxq ?_
        cbv
        refine Idx.mk _ hqb.1 hrow0 ?_
        cbv
        refine Call.stepE (by rw [← hP]; exact hend) (by exact hup _ huxs) ?_
        cbv
        (obtain ⟨J, eJ, J0, Jn⟩ : ∃ L : Int, wlen ns = L ∧ 0 ≤ L ∧ L.toNat = ns.length := ⟨(ns.length : Int), by rw [hlen], Int.natCast_nonneg _, Int.toNat_natCast _⟩)
        (split <;> rename_i h3 <;> (try (simp only [hbin, hcmp, hun, hconv, hnot, hbeq, hmm, hscmp, hsadd, hslen, hsat, heqs, hofNat, binStd, cmpStd, unStd, scmpStd, maxI, Z.z1, Z.z2, Z.z3, Z.z4, Z.z5, Z.z6, if_true, if_false, Z.z7, beq_iff_eq, bne_iff_ne, ne_eq, Z.z8, Z.z9, Z.y1, beq_eq_false_iff_ne, bne_eq_false_iff_eq, Z.y2, Z.y3, Z.y4, Z.y5, reduceCtorEq] at h3)) <;> (try cbv))
        · skip
          have hE1' : hi ≤ y ∨ nx = [] := .inl h3
          rw [if_pos hE1'] at hstep
          (split <;> rename_i h5 <;> (try (simp only [hbin, hcmp, hun, hconv, hnot, hbeq, hmm, hscmp, hsadd, hslen, hsat, heqs, hofNat, binStd, cmpStd, unStd, scmpStd, maxI, Z.z1, Z.z2, Z.z3, Z.z4, Z.z5, Z.z6, if_true, if_false, Z.z7, beq_iff_eq, bne_iff_ne, ne_eq, Z.z8, Z.z9, Z.y1, beq_eq_false_iff_ne, bne_eq_false_iff_eq, Z.y2, Z.y3, Z.y4, Z.y5, reduceCtorEq] at h5)) <;> (try cbv))
          · rw [if_pos h5] at hstep
            obtain ⟨o2, eo2⟩ : ∃ z, z = putQ out1 r := ⟨_, rfl⟩
            obtain ⟨po, epo⟩ : ∃ z, z = (putQ out1 r).map rtRow := ⟨_, rfl⟩
            have hpq := e_put out1 r ho121 (by omega) hrl.1 ow1 xs hwo1 exs
            rw [← epo] at hpq
            rw [← eo2] at epo hstep
            have hupo : Up0 po := by rw [epo]; exact up_rt o2
            have hpl : po.length = o2.length := by rw [epo]; simp
            have hol : o2.length ≤ 17 := by rw [eo2]; have := putQ_len out1 r; omega
            have ho2 : ∀ k, k ∈ o2 → k.length ≤ 12 := fun k hk => by
              rw [eo2] at hk
              rcases putQ_mem1 out1 r k hk with h | rfl
              · exact ho121 k h
              · exact hrl.1
            refine Call.stepE (by rw [← hP]; exact hpq) (by exact up_two huo1 huxs) ?_
            cbv
            (obtain ⟨H, eH, H0, Hn⟩ : ∃ L : Int, wlen po = L ∧ 0 ≤ L ∧ L.toNat = po.length := ⟨(po.length : Int), by rw [hlen], Int.natCast_nonneg _, Int.toNat_natCast _⟩)
            (split <;> rename_i h6 <;> (try (simp only [eH] at h6)) <;> (try (simp only [hbin, hcmp, hun, hconv, hnot, hbeq, hmm, hscmp, hsadd, hslen, hsat, heqs, hofNat, binStd, cmpStd, unStd, scmpStd, maxI, Z.z1, Z.z2, Z.z3, Z.z4, Z.z5, Z.z6, if_true, if_false, Z.z7, beq_iff_eq, bne_iff_ne, ne_eq, Z.z8, Z.z9, Z.y1, beq_eq_false_iff_ne, bne_eq_false_iff_eq, Z.y2, Z.y3, Z.y4, Z.y5, reduceCtorEq] at h6)) <;> (try cbv))
            · obtain ⟨k1, k2, k3⟩ := hret _ _ hstep (by rw [if_pos (by omega)]; exact (show (13 : Int) ≠ 0 by decide))
              subst k3
              exact hR1 _ _ (hR' _ _ (hbad k1 k2 _))
            · rw [if_neg (show ¬ 16 < o2.length by omega)] at hstep
              simp only [a4]
              refine hN1 (i2, o2, po, more, some (k, w)) _ _ ?hx ?hi ?ht
              case hx => (refine Wk.eqz (id) (by first | exact fun i _ j _ e => e | (simp only [List.length_cons, List.length_nil]; decide)) ?_; cbv; (repeat' (first | exact trivial | rfl | assumption | apply And.intro | (simp only [hbin, hcmp, hun, hconv, hnot, hbeq, hmm, hscmp, hsadd, hslen, hsat, heqs, hofNat, binStd, cmpStd, unStd, scmpStd, maxI, Z.z1, Z.z2, Z.z3, Z.z4, Z.z5, Z.z6, if_true, if_false, Z.z7, beq_iff_eq, bne_iff_ne, ne_eq, Z.z8, Z.z9, Z.y1, beq_eq_false_iff_ne, bne_eq_false_iff_eq, Z.y2, Z.y3, Z.y4, Z.y5, reduceCtorEq]; first | done | assumption) | exact RowsZ.same (by assumption) (by first | assumption | rfl) | exact FzL.mk rfl rfl rfl (by assumption) (by first | assumption | rfl) (by decide) | (refine RowsZ.one ?_; cbv))))
              case hi => exact ⟨by first | omega | (simp only; omega), by first | omega | (simp only; omega), hstep, epo, hupo, (by first | omega | (simp only; omega)), ho2, by first | omega | (simp only; omega), hmo, ⟨hk, hw2, huw⟩⟩
              case ht => exact hT1
          · rw [if_neg (show ¬ lo ≤ y by omega), if_neg (show ¬ 16 < out1.length by omega)] at hstep
            (obtain ⟨H, eH, H0, Hn⟩ : ∃ L : Int, wlen ow1 = L ∧ 0 ≤ L ∧ L.toNat = ow1.length := ⟨(ow1.length : Int), by rw [hlen], Int.natCast_nonneg _, Int.toNat_natCast _⟩)
            have hol : ow1.length = out1.length := by rw [hwo1]; simp
            (split <;> rename_i h6 <;> (try (simp only [eH] at h6)) <;> (try (simp only [hbin, hcmp, hun, hconv, hnot, hbeq, hmm, hscmp, hsadd, hslen, hsat, heqs, hofNat, binStd, cmpStd, unStd, scmpStd, maxI, Z.z1, Z.z2, Z.z3, Z.z4, Z.z5, Z.z6, if_true, if_false, Z.z7, beq_iff_eq, bne_iff_ne, ne_eq, Z.z8, Z.z9, Z.y1, beq_eq_false_iff_ne, bne_eq_false_iff_eq, Z.y2, Z.y3, Z.y4, Z.y5, reduceCtorEq] at h6)) <;> (try cbv))
            · exfalso; omega
            · simp only [a4]
              refine hN1 (i2, out1, ow1, more, some (k, w)) _ _ ?hx ?hi ?ht
              case hx => (refine Wk.eqz (id) (by first | exact fun i _ j _ e => e | (simp only [List.length_cons, List.length_nil]; decide)) ?_; cbv; (repeat' (first | exact trivial | rfl | assumption | apply And.intro | (simp only [hbin, hcmp, hun, hconv, hnot, hbeq, hmm, hscmp, hsadd, hslen, hsat, heqs, hofNat, binStd, cmpStd, unStd, scmpStd, maxI, Z.z1, Z.z2, Z.z3, Z.z4, Z.z5, Z.z6, if_true, if_false, Z.z7, beq_iff_eq, bne_iff_ne, ne_eq, Z.z8, Z.z9, Z.y1, beq_eq_false_iff_ne, bne_eq_false_iff_eq, Z.y2, Z.y3, Z.y4, Z.y5, reduceCtorEq]; first | done | assumption) | exact RowsZ.same (by assumption) (by first | assumption | rfl) | exact FzL.mk rfl rfl rfl (by assumption) (by first | assumption | rfl) (by decide) | (refine RowsZ.one ?_; cbv))))
              case hi => exact ⟨by first | omega | (simp only; omega), by first | omega | (simp only; omega), hstep, hwo1, huo1, ho161, ho121, by first | omega | (simp only; omega), hmo, ⟨hk, hw2, huw⟩⟩
              case ht => exact hT1
        simp only [eJ]
        (split <;> rename_i h4 <;> (try (simp only [hbin, hcmp, hun, hconv, hnot, hbeq, hmm, hscmp, hsadd, hslen, hsat, heqs, hofNat, binStd, cmpStd, unStd, scmpStd, maxI, Z.z1, Z.z2, Z.z3, Z.z4, Z.z5, Z.z6, if_true, if_false, Z.z7, beq_iff_eq, bne_iff_ne, ne_eq, Z.z8, Z.z9, Z.y1, beq_eq_false_iff_ne, bne_eq_false_iff_eq, Z.y2, Z.y3, Z.y4, Z.y5, reduceCtorEq] at h4)) <;> (try cbv))
        · skip
          have hE1' : hi ≤ y ∨ nx = [] := .inr (List.length_eq_zero_iff.1 (by omega))
          rw [if_pos hE1'] at hstep
          (split <;> rename_i h5 <;> (try (simp only [hbin, hcmp, hun, hconv, hnot, hbeq, hmm, hscmp, hsadd, hslen, hsat, heqs, hofNat, binStd, cmpStd, unStd, scmpStd, maxI, Z.z1, Z.z2, Z.z3, Z.z4, Z.z5, Z.z6, if_true, if_false, Z.z7, beq_iff_eq, bne_iff_ne, ne_eq, Z.z8, Z.z9, Z.y1, beq_eq_false_iff_ne, bne_eq_false_iff_eq, Z.y2, Z.y3, Z.y4, Z.y5, reduceCtorEq] at h5)) <;> (try cbv))
          · rw [if_pos h5] at hstep
            obtain ⟨o2, eo2⟩ : ∃ z, z = putQ out1 r := ⟨_, rfl⟩
            obtain ⟨po, epo⟩ : ∃ z, z = (putQ out1 r).map rtRow := ⟨_, rfl⟩
            have hpq := e_put out1 r ho121 (by omega) hrl.1 ow1 xs hwo1 exs
            rw [← epo] at hpq
            rw [← eo2] at epo hstep
            have hupo : Up0 po := by rw [epo]; exact up_rt o2
            have hpl : po.length = o2.length := by rw [epo]; simp
            have hol : o2.length ≤ 17 := by rw [eo2]; have := putQ_len out1 r; omega
            have ho2 : ∀ k, k ∈ o2 → k.length ≤ 12 := fun k hk => by
              rw [eo2] at hk
              rcases putQ_mem1 out1 r k hk with h | rfl
              · exact ho121 k h
              · exact hrl.1
            refine Call.stepE (by rw [← hP]; exact hpq) (by exact up_two huo1 huxs) ?_
            cbv
            (obtain ⟨H, eH, H0, Hn⟩ : ∃ L : Int, wlen po = L ∧ 0 ≤ L ∧ L.toNat = po.length := ⟨(po.length : Int), by rw [hlen], Int.natCast_nonneg _, Int.toNat_natCast _⟩)
            (split <;> rename_i h6 <;> (try (simp only [eH] at h6)) <;> (try (simp only [hbin, hcmp, hun, hconv, hnot, hbeq, hmm, hscmp, hsadd, hslen, hsat, heqs, hofNat, binStd, cmpStd, unStd, scmpStd, maxI, Z.z1, Z.z2, Z.z3, Z.z4, Z.z5, Z.z6, if_true, if_false, Z.z7, beq_iff_eq, bne_iff_ne, ne_eq, Z.z8, Z.z9, Z.y1, beq_eq_false_iff_ne, bne_eq_false_iff_eq, Z.y2, Z.y3, Z.y4, Z.y5, reduceCtorEq] at h6)) <;> (try cbv))
            · obtain ⟨k1, k2, k3⟩ := hret _ _ hstep (by rw [if_pos (by omega)]; exact (show (13 : Int) ≠ 0 by decide))
              subst k3
              exact hR1 _ _ (hR' _ _ (hbad k1 k2 _))
            · rw [if_neg (show ¬ 16 < o2.length by omega)] at hstep
              simp only [a4]
              refine hN1 (i2, o2, po, more, some (k, w)) _ _ ?hx ?hi ?ht
              case hx => (refine Wk.eqz (id) (by first | exact fun i _ j _ e => e | (simp only [List.length_cons, List.length_nil]; decide)) ?_; cbv; (repeat' (first | exact trivial | rfl | assumption | apply And.intro | (simp only [hbin, hcmp, hun, hconv, hnot, hbeq, hmm, hscmp, hsadd, hslen, hsat, heqs, hofNat, binStd, cmpStd, unStd, scmpStd, maxI, Z.z1, Z.z2, Z.z3, Z.z4, Z.z5, Z.z6, if_true, if_false, Z.z7, beq_iff_eq, bne_iff_ne, ne_eq, Z.z8, Z.z9, Z.y1, beq_eq_false_iff_ne, bne_eq_false_iff_eq, Z.y2, Z.y3, Z.y4, Z.y5, reduceCtorEq]; first | done | assumption) | exact RowsZ.same (by assumption) (by first | assumption | rfl) | exact FzL.mk rfl rfl rfl (by assumption) (by first | assumption | rfl) (by decide) | (refine RowsZ.one ?_; cbv))))
              case hi => exact ⟨by first | omega | (simp only; omega), by first | omega | (simp only; omega), hstep, epo, hupo, (by first | omega | (simp only; omega)), ho2, by first | omega | (simp only; omega), hmo, ⟨hk, hw2, huw⟩⟩
              case ht => exact hT1
          · rw [if_neg (show ¬ lo ≤ y by omega), if_neg (show ¬ 16 < out1.length by omega)] at hstep
            (obtain ⟨H, eH, H0, Hn⟩ : ∃ L : Int, wlen ow1 = L ∧ 0 ≤ L ∧ L.toNat = ow1.length := ⟨(ow1.length : Int), by rw [hlen], Int.natCast_nonneg _, Int.toNat_natCast _⟩)
            have hol : ow1.length = out1.length := by rw [hwo1]; simp
            (split <;> rename_i h6 <;> (try (simp only [eH] at h6)) <;> (try (simp only [hbin, hcmp, hun, hconv, hnot, hbeq, hmm, hscmp, hsadd, hslen, hsat, heqs, hofNat, binStd, cmpStd, unStd, scmpStd, maxI, Z.z1, Z.z2, Z.z3, Z.z4, Z.z5, Z.z6, if_true, if_false, Z.z7, beq_iff_eq, bne_iff_ne, ne_eq, Z.z8, Z.z9, Z.y1, beq_eq_false_iff_ne, bne_eq_false_iff_eq, Z.y2, Z.y3, Z.y4, Z.y5, reduceCtorEq] at h6)) <;> (try cbv))
            · exfalso; omega
            · simp only [a4]
              refine hN1 (i2, out1, ow1, more, some (k, w)) _ _ ?hx ?hi ?ht
              case hx => (refine Wk.eqz (id) (by first | exact fun i _ j _ e => e | (simp only [List.length_cons, List.length_nil]; decide)) ?_; cbv; (repeat' (first | exact trivial | rfl | assumption | apply And.intro | (simp only [hbin, hcmp, hun, hconv, hnot, hbeq, hmm, hscmp, hsadd, hslen, hsat, heqs, hofNat, binStd, cmpStd, unStd, scmpStd, maxI, Z.z1, Z.z2, Z.z3, Z.z4, Z.z5, Z.z6, if_true, if_false, Z.z7, beq_iff_eq, bne_iff_ne, ne_eq, Z.z8, Z.z9, Z.y1, beq_eq_false_iff_ne, bne_eq_false_iff_eq, Z.y2, Z.y3, Z.y4, Z.y5, reduceCtorEq]; first | done | assumption) | exact RowsZ.same (by assumption) (by first | assumption | rfl) | exact FzL.mk rfl rfl rfl (by assumption) (by first | assumption | rfl) (by decide) | (refine RowsZ.one ?_; cbv))))
              case hi => exact ⟨by first | omega | (simp only; omega), by first | omega | (simp only; omega), hstep, hwo1, huo1, ho161, ho121, by first | omega | (simp only; omega), hmo, ⟨hk, hw2, huw⟩⟩
              case ht => exact hT1
        have hE1' : ¬ (hi ≤ y ∨ nx = []) := by
          rintro (h | h)
          · omega
          · rw [h, List.length_nil] at hnl; omega
        rw [if_neg hE1'] at hstep
        simp only [eK]
        (split <;> rename_i h5 <;> (try (simp only [hbin, hcmp, hun, hconv, hnot, hbeq, hmm, hscmp, hsadd, hslen, hsat, heqs, hofNat, binStd, cmpStd, unStd, scmpStd, maxI, Z.z1, Z.z2, Z.z3, Z.z4, Z.z5, Z.z6, if_true, if_false, Z.z7, beq_iff_eq, bne_iff_ne, ne_eq, Z.z8, Z.z9, Z.y1, beq_eq_false_iff_ne, bne_eq_false_iff_eq, Z.y2, Z.y3, Z.y4, Z.y5, reduceCtorEq] at h5)) <;> (try cbv))
        · rw [if_pos (show r.length = 12 by omega)] at hstep
          obtain ⟨k1, k2, k3⟩ := hret _ _ hstep (show (13 : Int) ≠ 0 by decide)
          subst k3
          exact hR1 _ _ (hR' _ _ (hbad k1 k2 _))
        rw [if_neg (show ¬ r.length = 12 by omega)] at hstep
        have h12 : r.length ≠ 12 := by omega
        have hnl0 : more ++ (nx.take (0 : Int).toNat).map (fun n => r ++ [n]) = more := by simp
        refine Loop.data hw (S := Int × List (List Int) × Option (Nat × List (List AV))) (fun s => match s.2.2 with
            | none => fr 117 [(2, .int .i64 lo), (3, .int .i64 hi), (4, .ref 0 2 0 0), (5, .ref 1 2 0 0), (8, .ref 2 2 0 0), (10, .ref 3 2 0 0), (11, .list 1 tw), (12, .int .i64 n), (13, .nils), (14, .int .i64 i), (15, .list 1 xs), (16, .list 1 ns), (18, .int .i64 s.1)]
            | some (k, w) => fr 117 [(2, .int .i64 lo), (3, .int .i64 hi), (4, .ref 0 2 0 0), (5, .ref 1 2 0 0), (8, .ref 2 2 0 0), (10, .ref 3 2 0 0), (11, .list 1 tw), (12, .int .i64 n), (13, .sl 4 1 0 k), (14, .int .i64 i), (15, .list 1 xs), (16, .list 1 ns), (18, .int .i64 s.1)])
          (fun s => match s.2.2 with
            | none => [.live 2 [[.list 3 es, .list 5 ds]], .live 2 [[.int .i64 from_, .list 1 rs]], .live 2 [[.int .i64 0, .nils]], .live 2 [[.int .i64 from_, .list 1 ow1]]]
            | some (k, w) => [.live 2 [[.list 3 es, .list 5 ds]], .live 2 [[.int .i64 from_, .list 1 rs]], .live 2 [[.int .i64 0, .nils]], .live 2 [[.int .i64 from_, .list 1 ow1]], .live 1 w])
          (fun s => 0 ≤ s.1 ∧ s.1 ≤ J ∧ s.2.1 = more ++ (nx.take s.1.toNat).map (fun n => r ++ [n]) ∧ (match s.2.2 with | none => s.2.1 = [] | some (k, w) => k = w.length ∧ w = s.2.1.map rtRow ∧ Up0 w)) (fun s => (J - s.1).toNat) (0, more, some (k, w)) (by (refine Wk.eqz (id) (by first | exact fun i _ j _ e => e | (simp only [List.length_cons, List.length_nil]; decide)) ?_; cbv; (repeat' (first | exact trivial | rfl | assumption | apply And.intro | (simp only [hbin, hcmp, hun, hconv, hnot, hbeq, hmm, hscmp, hsadd, hslen, hsat, heqs, hofNat, binStd, cmpStd, unStd, scmpStd, maxI, Z.z1, Z.z2, Z.z3, Z.z4, Z.z5, Z.z6, if_true, if_false, Z.z7, beq_iff_eq, bne_iff_ne, ne_eq, Z.z8, Z.z9, Z.y1, beq_eq_false_iff_ne, bne_eq_false_iff_eq, Z.y2, Z.y3, Z.y4, Z.y5, reduceCtorEq]; first | done | assumption) | exact RowsZ.same (by assumption) (by first | assumption | rfl) | exact FzL.mk rfl rfl rfl (by assumption) (by first | assumption | rfl) (by decide) | (refine RowsZ.one ?_; cbv))))) ⟨Int.le_refl _, J0, hnl0.symm, ⟨hk, hw2, huw⟩⟩ ?_
        rintro ⟨j, mo, _ | ⟨k2, w2⟩⟩ hinv3 Q2 hN2 hE2 hR2
        · cbv
          simp only [eJ]
          have hinv4 : 0 ≤ j ∧ j ≤ J ∧ mo = more ++ (nx.take j.toNat).map (fun n => r ++ [n]) := ⟨hinv3.1, hinv3.2.1, hinv3.2.2.1⟩
          have hms2 : mo = [] := hinv3.2.2.2
          obtain ⟨hj0, hj1, hmoe⟩ := hinv4
          have hmol : mo.length ≤ more.length + 2 := by rw [hmoe]; simp only [List.length_append, List.length_map, List.length_take]; omega
          (split <;> rename_i hc3 <;> (try (simp only [hbin, hcmp, hun, hconv, hnot, hbeq, hmm, hscmp, hsadd, hslen, hsat, heqs, hofNat, binStd, cmpStd, unStd, scmpStd, maxI, Z.z1, Z.z2, Z.z3, Z.z4, Z.z5, Z.z6, if_true, if_false, Z.z7, beq_iff_eq, bne_iff_ne, ne_eq, Z.z8, Z.z9, Z.y1, beq_eq_false_iff_ne, bne_eq_false_iff_eq, Z.y2, Z.y3, Z.y4, Z.y5, reduceCtorEq] at hc3)) <;> (try cbv))
          · skip
            obtain ⟨nn, hnn⟩ : ∃ nn, nx[j.toNat]? = some nn := ⟨_, List.getElem?_eq_getElem (show j.toNat < nx.length by omega)⟩
            have hnn2 : ns[j.toNat]? = some (nxRow nn) := by rw [← ens, List.getElem?_map, hnn]; rfl
            obtain ⟨j2, ej2⟩ : ∃ z, z = j + 1 := ⟨_, rfl⟩
            have a5 : wbin .add .i64 j 1 = j2 := by rw [hbin, ej2]; show IntKind.i64.wrap (j + 1) = j + 1; rw [IntKind.wrap_i64]; omega
            have hmo2 : mo ++ [r ++ [nn]] = more ++ (nx.take j2.toNat).map (fun n => r ++ [n]) := by rw [ej2, take_next hj0 hnn, hmoe]; simp
            have hxne : xs ≠ [] := fun h => by rw [h] at hxl; simp at hxl; omega
            rcases xs with _ | ⟨x0, _ | ⟨x1, xt⟩⟩
            · exact absurd rfl hxne
            all_goals
              obtain ⟨xl, exl⟩ : ∃ m : Nat, m = r.length := ⟨_, rfl⟩
              obtain ⟨lx, elx⟩ : ∃ x : List (List AV), x = (r ++ [nn]).map nxRow := ⟨_, rfl⟩
              have hlx : lx.length = r.length + 1 := by rw [elx]; simp
              have hulx : Up0 lx := by rw [elx]; exact up_nx _
              obtain ⟨lk, elk⟩ : ∃ k, k = lx.length := ⟨_, rfl⟩
              cbv
              first
                | refine Ob.mk (by decide) ?_
                | (refine Fb.mk ⟨fun h => absurd h (by simp), fun _ => ⟨⟨rfl, by simp only [List.length_cons] at hxl ⊢; omega, by simp only [List.length_cons] at hxl ⊢; omega⟩, ?_⟩⟩; rw [hxl, ← exl])
              cbv
              refine Idx.mk _ hj0 hnn2 ?_
              cbv
              refine App.mk lx lk (by rw [elx, List.map_append, ← exs]; rfl) (by first | rfl | rw [hxl, exl]) (by simp only [List.length_cons, List.length_nil] at hxl; omega) (by simp only [List.length_cons, List.length_nil] at hxl; omega) (by simp only [List.length_cons, List.length_nil] at hxl; omega) ?_
              cbv
              refine Ob.mk (by decide) ?_
              cbv
              simp only [a5]
              refine hN2 (j2, mo ++ [r ++ [nn]], some (1, [[.list 1 lx]])) _ _ ?hx ?hi ?ht
              case hx => (refine Wk.eqz (fun j => [0, 1, 2, 3, 6].getD j 0) (by first | exact fun i _ j _ e => e | (simp only [List.length_cons, List.length_nil]; decide)) ?_; cbv; (repeat' (first | exact trivial | rfl | assumption | apply And.intro | (simp only [hbin, hcmp, hun, hconv, hnot, hbeq, hmm, hscmp, hsadd, hslen, hsat, heqs, hofNat, binStd, cmpStd, unStd, scmpStd, maxI, Z.z1, Z.z2, Z.z3, Z.z4, Z.z5, Z.z6, if_true, if_false, Z.z7, beq_iff_eq, bne_iff_ne, ne_eq, Z.z8, Z.z9, Z.y1, beq_eq_false_iff_ne, bne_eq_false_iff_eq, Z.y2, Z.y3, Z.y4, Z.y5, reduceCtorEq]; first | done | assumption) | exact RowsZ.same (by assumption) (by first | assumption | rfl) | exact FzL.mk rfl rfl rfl (by assumption) (by first | assumption | rfl) (by decide) | (refine RowsZ.one ?_; cbv))))
              case hi => exact ⟨by first | omega | (simp only; omega), by first | omega | (simp only; omega), hmo2, rfl, by rw [hms2, elx]; rfl, ⟨by simp only [uptoLL, uptoL, AV.upto, hulx.get]; rfl⟩⟩
              case ht => show (J - j2).toNat < (J - j).toNat; omega
          · skip
            have hmoF : mo = more ++ nx.map (fun n => r ++ [n]) := by rw [hmoe, List.take_of_length_le (by omega)]
            rw [← hmoF] at hstep
            have hmok : ∀ l, l ∈ mo → WayOk ss l := fun l hl => by
              rw [hmoF] at hl
              rcases List.mem_append.1 hl with hl | hl
              · exact hmo l hl
              · obtain ⟨q, hq, rfl⟩ := List.mem_map.1 hl
                exact hrok.snoc hnx h12 (hnxs q hq)
            refine hE2 _ _ _ ?_
            cbv
            simp only [a4]
            refine hN1 (i2, out1, ow1, mo, none) _ _ ?hx ?hi ?ht
            case hx => (refine Wk.eqz (id) (by first | exact fun i _ j _ e => e | (simp only [List.length_cons, List.length_nil]; decide)) ?_; cbv; (repeat' (first | exact trivial | rfl | assumption | apply And.intro | (simp only [hbin, hcmp, hun, hconv, hnot, hbeq, hmm, hscmp, hsadd, hslen, hsat, heqs, hofNat, binStd, cmpStd, unStd, scmpStd, maxI, Z.z1, Z.z2, Z.z3, Z.z4, Z.z5, Z.z6, if_true, if_false, Z.z7, beq_iff_eq, bne_iff_ne, ne_eq, Z.z8, Z.z9, Z.y1, beq_eq_false_iff_ne, bne_eq_false_iff_eq, Z.y2, Z.y3, Z.y4, Z.y5, reduceCtorEq]; first | done | assumption) | exact RowsZ.same (by assumption) (by first | assumption | rfl) | exact FzL.mk rfl rfl rfl (by assumption) (by first | assumption | rfl) (by decide) | (refine RowsZ.one ?_; cbv))))
            case hi => exact ⟨by first | omega | (simp only; omega), by first | omega | (simp only; omega), hstep, hwo1, huo1, ho161, ho121, by first | omega | (simp only; omega), hmok, hms2⟩
            case ht => exact hT1
        · cbv
          simp only [eJ]
          have hinv4 : 0 ≤ j ∧ j ≤ J ∧ mo = more ++ (nx.take j.toNat).map (fun n => r ++ [n]) := ⟨hinv3.1, hinv3.2.1, hinv3.2.2.1⟩
          have hms2 : k2 = w2.length ∧ w2 = mo.map rtRow ∧ Up0 w2 := hinv3.2.2.2
          obtain ⟨hj0, hj1, hmoe⟩ := hinv4
          have hmol : mo.length ≤ more.length + 2 := by rw [hmoe]; simp only [List.length_append, List.length_map, List.length_take]; omega
          obtain ⟨hk2, hw22, huw22⟩ := hms2
          (split <;> rename_i hc3 <;> (try (simp only [hbin, hcmp, hun, hconv, hnot, hbeq, hmm, hscmp, hsadd, hslen, hsat, heqs, hofNat, binStd, cmpStd, unStd, scmpStd, maxI, Z.z1, Z.z2, Z.z3, Z.z4, Z.z5, Z.z6, if_true, if_false, Z.z7, beq_iff_eq, bne_iff_ne, ne_eq, Z.z8, Z.z9, Z.y1, beq_eq_false_iff_ne, bne_eq_false_iff_eq, Z.y2, Z.y3, Z.y4, Z.y5, reduceCtorEq] at hc3)) <;> (try cbv))
          · skip
            obtain ⟨nn, hnn⟩ : ∃ nn, nx[j.toNat]? = some nn := ⟨_, List.getElem?_eq_getElem (show j.toNat < nx.length by omega)⟩
            have hnn2 : ns[j.toNat]? = some (nxRow nn) := by rw [← ens, List.getElem?_map, hnn]; rfl
            obtain ⟨j2, ej2⟩ : ∃ z, z = j + 1 := ⟨_, rfl⟩
            have a5 : wbin .add .i64 j 1 = j2 := by rw [hbin, ej2]; show IntKind.i64.wrap (j + 1) = j + 1; rw [IntKind.wrap_i64]; omega
            have hmo2 : mo ++ [r ++ [nn]] = more ++ (nx.take j2.toNat).map (fun n => r ++ [n]) := by rw [ej2, take_next hj0 hnn, hmoe]; simp
            have hxne : xs ≠ [] := fun h => by rw [h] at hxl; simp at hxl; omega
            rcases xs with _ | ⟨x0, _ | ⟨x1, xt⟩⟩
            · exact absurd rfl hxne
            all_goals
              obtain ⟨xl, exl⟩ : ∃ m : Nat, m = r.length := ⟨_, rfl⟩
              obtain ⟨lx, elx⟩ : ∃ x : List (List AV), x = (r ++ [nn]).map nxRow := ⟨_, rfl⟩
              have hlx : lx.length = r.length + 1 := by rw [elx]; simp
              have hulx : Up0 lx := by rw [elx]; exact up_nx _
              obtain ⟨lk, elk⟩ : ∃ k, k = lx.length := ⟨_, rfl⟩
              cbv
              first
                | refine Ob.mk (by decide) ?_
                | (refine Fb.mk ⟨fun h => absurd h (by simp), fun _ => ⟨⟨rfl, by simp only [List.length_cons] at hxl ⊢; omega, by simp only [List.length_cons] at hxl ⊢; omega⟩, ?_⟩⟩; rw [hxl, ← exl])
              cbv
              refine Idx.mk _ hj0 hnn2 ?_
              cbv
              refine App.mk lx lk (by rw [elx, List.map_append, ← exs]; rfl) (by first | rfl | rw [hxl, exl]) (by simp only [List.length_cons, List.length_nil] at hxl; omega) (by simp only [List.length_cons, List.length_nil] at hxl; omega) (by simp only [List.length_cons, List.length_nil] at hxl; omega) ?_
              cbv
              obtain ⟨w3, ew3⟩ : ∃ x : List (List AV), x = w2 ++ [[.sl 6 1 0 lk]] := ⟨_, rfl⟩
              obtain ⟨w4, ew4⟩ : ∃ x : List (List AV), x = w2 ++ [[.list 1 lx]] := ⟨_, rfl⟩
              obtain ⟨k3, ek3⟩ : ∃ x, x = k2 + 1 := ⟨_, rfl⟩
              have hw3l : k3 = w4.length := by rw [ek3, ew4]; simp; omega
              have hw4 : w4 = (mo ++ [r ++ [nn]]).map rtRow := by rw [ew4, hw22, elx]; simp [rtRow]
              have huw4 : Up0 w4 := by rw [hw4]; exact up_rt _
              have hkml : k2 = mo.length := by rw [hk2, hw22]; simp
              refine App.mk w3 k3 ew3 hk2 ek3 (by omega) (by omega) ?_
              cbv
              simp only [a5]
              refine hN2 (j2, mo ++ [r ++ [nn]], some (k3, w4)) _ _ ?hx ?hi ?ht
              case hx => (refine Wk.eqz (fun j => [0, 1, 2, 3, 7].getD j 0) (by first | exact fun i _ j _ e => e | (simp only [List.length_cons, List.length_nil]; decide)) ?_; cbv; (repeat' (first | exact trivial | rfl | assumption | (refine RowsZ.app huw22 ew3 ew4 ?_; cbv) | apply And.intro | (simp only [hbin, hcmp, hun, hconv, hnot, hbeq, hmm, hscmp, hsadd, hslen, hsat, heqs, hofNat, binStd, cmpStd, unStd, scmpStd, maxI, Z.z1, Z.z2, Z.z3, Z.z4, Z.z5, Z.z6, if_true, if_false, Z.z7, beq_iff_eq, bne_iff_ne, ne_eq, Z.z8, Z.z9, Z.y1, beq_eq_false_iff_ne, bne_eq_false_iff_eq, Z.y2, Z.y3, Z.y4, Z.y5, reduceCtorEq]; first | done | assumption) | exact RowsZ.same (by assumption) (by first | assumption | rfl) | exact FzL.mk rfl rfl rfl (by assumption) (by first | assumption | rfl) (by decide) | (refine RowsZ.one ?_; cbv))))
              case hi => exact ⟨by first | omega | (simp only; omega), by first | omega | (simp only; omega), hmo2, hw3l, hw4, huw4⟩
              case ht => show (J - j2).toNat < (J - j).toNat; omega
          · skip
            have hmoF : mo = more ++ nx.map (fun n => r ++ [n]) := by rw [hmoe, List.take_of_length_le (by omega)]
            rw [← hmoF] at hstep
            have hmok : ∀ l, l ∈ mo → WayOk ss l := fun l hl => by
              rw [hmoF] at hl
              rcases List.mem_append.1 hl with hl | hl
              · exact hmo l hl
              · obtain ⟨q, hq, rfl⟩ := List.mem_map.1 hl
                exact hrok.snoc hnx h12 (hnxs q hq)
            refine hE2 _ _ _ ?_
            cbv
            simp only [a4]
            refine hN1 (i2, out1, ow1, mo, some (k2, w2)) _ _ ?hx ?hi ?ht
            case hx => (refine Wk.eqz (id) (by first | exact fun i _ j _ e => e | (simp only [List.length_cons, List.length_nil]; decide)) ?_; cbv; (repeat' (first | exact trivial | rfl | assumption | apply And.intro | (simp only [hbin, hcmp, hun, hconv, hnot, hbeq, hmm, hscmp, hsadd, hslen, hsat, heqs, hofNat, binStd, cmpStd, unStd, scmpStd, maxI, Z.z1, Z.z2, Z.z3, Z.z4, Z.z5, Z.z6, if_true, if_false, Z.z7, beq_iff_eq, bne_iff_ne, ne_eq, Z.z8, Z.z9, Z.y1, beq_eq_false_iff_ne, bne_eq_false_iff_eq, Z.y2, Z.y3, Z.y4, Z.y5, reduceCtorEq]; first | done | assumption) | exact RowsZ.same (by assumption) (by first | assumption | rfl) | exact FzL.mk rfl rfl rfl (by assumption) (by first | assumption | rfl) (by decide) | (refine RowsZ.one ?_; cbv))))
            case hi => exact ⟨by first | omega | (simp only; omega), by first | omega | (simp only; omega), hstep, hwo1, huo1, ho161, ho121, by first | omega | (simp only; omega), hmok, hk2, hw22, huw22⟩
            case ht => exact hT1
      · have hiL : todo.take i.toNat = todo := List.take_of_length_le (by omega)
        obtain ⟨hk, hw2, huw⟩ := hms
        rw [hiL] at hfold
        obtain ⟨n2, en2⟩ : ∃ z, z = n + 1 := ⟨_, rfl⟩
        have a6 : wbin .add .i64 n 1 = n2 := by rw [hbin, en2]; show IntKind.i64.wrap (n + 1) = n + 1; rw [IntKind.wrap_i64]; omega
        have hgq2 : growQ ss lo hi from_ 13 [] ls = growQ ss lo hi from_ (13 - n2.toNat) out1 more := by
          rw [hgq, show 13 - n.toNat = (13 - n2.toNat) + 1 by omega]
          conv => lhs; unfold growQ
          rw [hfold, if_neg (by simp)]
        have hcap3 : more.length ≤ capR n2.toNat := by rw [show n2.toNat = n.toNat + 1 by omega, capR_succ]; omega
        refine hE1 _ _ _ ?_
        cbv
        simp only [a6]
        refine hN (n2, out1, ow1, more, w) _ _ ?hx ?hi ?ht
        case hx => (refine Wk.eqz (id) (by first | exact fun i _ j _ e => e | (simp only [List.length_cons, List.length_nil]; decide)) ?_; cbv; (repeat' (first | exact trivial | rfl | assumption | apply And.intro | (simp only [hbin, hcmp, hun, hconv, hnot, hbeq, hmm, hscmp, hsadd, hslen, hsat, heqs, hofNat, binStd, cmpStd, unStd, scmpStd, maxI, Z.z1, Z.z2, Z.z3, Z.z4, Z.z5, Z.z6, if_true, if_false, Z.z7, beq_iff_eq, bne_iff_ne, ne_eq, Z.z8, Z.z9, Z.y1, beq_eq_false_iff_ne, bne_eq_false_iff_eq, Z.y2, Z.y3, Z.y4, Z.y5, reduceCtorEq]; first | done | assumption) | exact RowsZ.same (by assumption) (by first | assumption | rfl) | exact FzL.mk rfl rfl rfl (by assumption) (by first | assumption | rfl) (by decide) | (refine RowsZ.one ?_; cbv))))
        case hi => exact ⟨by first | omega | (simp only; omega), by first | omega | (simp only; omega), hgq2, hwo1, huo1, hw2, huw, ho161, ho121, hmo, hcap3⟩
        case ht => show (13 - n2).toNat < (13 - n).toNat; omega
  · refine hE _ _ _ ?_
    cbv
    have hn13 : 13 - n.toNat = 0 := by omega
    rw [hn13] at hgq
    have hgq2 : growQ ss lo hi from_ 13 [] ls = (0, out) := hgq
    rw [hgq2, if_neg (show ¬ ((0 : Int), out).1 ≠ 0 from fun h => h rfl)] at hv
    have hol : ow.length = out.length := by rw [hwo]; simp
    (obtain ⟨L, eL, L0, Ln⟩ : ∃ L : Int, wlen ow = L ∧ 0 ≤ L ∧ L.toNat = ow.length := ⟨(ow.length : Int), by rw [hlen], Int.natCast_nonneg _, Int.toNat_natCast _⟩)
    (split <;> rename_i h9 <;> (try (simp only [eL] at h9)) <;> (try (simp only [hbin, hcmp, hun, hconv, hnot, hbeq, hmm, hscmp, hsadd, hslen, hsat, heqs, hofNat, binStd, cmpStd, unStd, scmpStd, maxI, Z.z1, Z.z2, Z.z3, Z.z4, Z.z5, Z.z6, if_true, if_false, Z.z7, beq_iff_eq, bne_iff_ne, ne_eq, Z.z8, Z.z9, Z.y1, beq_eq_false_iff_ne, bne_eq_false_iff_eq, Z.y2, Z.y3, Z.y4, Z.y5, reduceCtorEq] at h9)) <;> (try cbv))
    · rw [if_pos (show ((0 : Int), out).2 = [] from List.length_eq_zero_iff.1 (show out.length = 0 by omega))] at hv
      simp only [Prod.mk.injEq] at hv
      obtain ⟨⟨k1, k2⟩, k3⟩ := hv
      subst k3
      exact hbad k1 k2 _
    · rw [if_neg (show ¬ ((0 : Int), out).2 = [] from fun h => by have : out.length = 0 := List.length_eq_zero_iff.2 h; omega)] at hv
      simp only [Prod.mk.injEq] at hv
      obtain ⟨⟨rfl, rfl⟩, rfl⟩ := hv
      have e1 : vs = ow := by rw [evs, hwo]
      subst e1
      exact ⟨_, Vw.same (by simp only [retOne, AV.upto, uptoL, huo.get]; rfl), hR _ rfl⟩
end Go.Proofs.Ytpiocfmdjgbamaa

/- route.Begin. -/
set_option linter.unusedVariables false
set_option linter.unusedSimpArgs false
namespace Go.Proofs.Ytpiocfmdjgbamaa
open Go Go.RowKit Go.Eng
set_option maxRecDepth 100000
theorem e_begin (a b v : Int) (hv : v = a) : PCalls Try.prog 18 [.int .i64 a, .int .i64 b] (· = .agg [.int .i64 b, .list 13 [[.int .i64 1, .int .i64 v, .int .i64 0, .int .i64 0, .int .i64 0, .int .i64 0, .int .i64 0, .int .i64 0, .int .i64 0, .int .i64 0, .int .i64 0, .int .i64 0, .int .i64 0]]]) := by
  subst hv
  (refine PCalls.ofY Try.func18 (by kernel_rfl) (by kernel_rfl) fun w hw R hR => ?_); (obtain ⟨wbin, wcmp, wun, wconv, wnot, wbeq, wmm, wscmp, wsadd, wslen, wsat, weqs, wlen, wnlen, wofNat, wtake, wdrop, wapp, wzero, wnat⟩ := w); (have hbin := Z.w1 hw); (have hcmp := Z.w2 hw); (have hun := Z.w3 hw); (have hconv := Z.w4 hw); (have hnot := Z.w5 hw); (have hbeq := Z.w6 hw); (have hmm := Z.w7 hw); (have hscmp := Z.w8 hw); (have hsadd := Z.w9 hw); (have hslen := Z.w10 hw); (have hsat := Z.w11 hw); (have heqs := Z.w12 hw); (have hlen := Z.w13 hw); (have hnlen := Z.w14 hw); (have hofNat := Z.w15 hw); (have htake := Z.w16 hw); (have hdrop := Z.w17 hw); (have happ := Z.w18 hw); (have hzero := Z.w19 hw); (have hnat := Z.w20 hw); (conv => arg 2; cbv); (generalize hP : Try.prog = P); cbv
  refine InN.mk (by decide) (by decide) ?_
  exact ⟨_, Vw.same rfl, hR _ rfl⟩
end Go.Proofs.Ytpiocfmdjgbamaa

/- Arguments that say less: a nil slice is a list of none. -/
set_option linter.unusedVariables false
namespace Go.Eng
open Go Go.RowKit
mutual
def leB : AV → AV → Bool
  | .int k a, y => (match y with | .int k' b => decide (k = k') && decide (a = b) | _ => false)
  | .bool a, y => (match y with | .bool b => a == b | _ => false)
  | .nils, y => (match y with | .nils => true | .list _ es => es.isEmpty | _ => false)
  | .nilp, y => (match y with | .nilp => true | _ => false)
  | .agg cs, y => (match y with | .agg ds => leL cs ds | _ => false)
  | .list z es, y => (match y with | .list z' fs => Nat.beq z z' && leLL es fs | _ => false)
  | _, _ => false
def leL : List AV → List AV → Bool
  | [], y => (match y with | [] => true | _ => false)
  | c :: cs, y => (match y with | d :: ds => leB c d && leL cs ds | _ => false)
def leLL : List (List AV) → List (List AV) → Bool
  | [], y => (match y with | [] => true | _ => false)
  | c :: cs, y => (match y with | d :: ds => leL c d && leLL cs ds | _ => false)
end
def VLe (x y : AV) : Prop := ∀ C v, VR C x v → VR C y v
mutual
theorem leB_ok : ∀ (x y : AV), leB x y = true → VLe x y
  | .int k a, y, h => by
    unfold leB at h
    split at h
    · simp only [Bool.and_eq_true, decide_eq_true_eq] at h
      obtain ⟨rfl, rfl⟩ := h
      exact fun C v h => h
    · cases h
  | .bool a, y, h => by
    unfold leB at h
    split at h
    · simp only [beq_iff_eq] at h
      subst h
      exact fun C v h => h
    · cases h
  | .nils, y, h => by
    unfold leB at h
    split at h
    · exact fun C v h => h
    · rename_i z es
      have : es = [] := List.isEmpty_iff.1 h
      subst this
      intro C v hv
      rw [hv.nils']
      exact .listNil _ _ _
    · cases h
  | .nilp, y, h => by
    unfold leB at h
    split at h
    · exact fun C v h => h
    · cases h
  | .agg cs, y, h => by
    unfold leB at h
    split at h
    · rename_i ds
      intro C v hv
      obtain ⟨vs, rfl, hl, hx⟩ := hv.agg'
      obtain ⟨h1, h2⟩ := leL_ok cs ds h
      refine .agg _ _ (by rw [hl, h1]) fun i y hy => ?_
      obtain ⟨x, hx', hle⟩ := h2 i y hy
      exact hle C _ (hx i x hx')
    · cases h
  | .list z es, y, h => by
    unfold leB at h
    split at h
    · rename_i z' fs
      simp only [Bool.and_eq_true] at h
      have := Nat.eq_of_beq_eq_true h.1
      subst this
      obtain ⟨h1, h2⟩ := leLL_ok es fs h.2
      intro C v hv
      rcases hv.lists with ⟨⟨a, cap, rfl⟩, rfl⟩ | ⟨a, cap, f, rfl, hcap, hsp, hz, hcell, hown, hv⟩
      · have : fs = [] := List.length_eq_zero_iff.1 h1.symm
        subst this
        exact .listNil _ _ _
      · refine .list z fs a es.length cap f h1.symm hcap hsp (fun e he => ?_) hcell hown fun i e he j x hx => ?_
        · obtain ⟨i, hi⟩ := List.mem_iff_getElem?.1 he
          obtain ⟨r, hr, hl, _⟩ := h2 i e hi
          rw [← hl]; exact hz r (List.mem_of_getElem? hr)
        · obtain ⟨r, hr, hl, hle⟩ := h2 i e he
          obtain ⟨x', hx', hle'⟩ := hle j x hx
          exact hle' C _ (hv i r hr j x' hx')
    · cases h
  | .any, y, h => by unfold leB at h; cases h
  | .str _, y, h => by unfold leB at h; cases h
  | .nilFunc, y, h => by unfold leB at h; cases h
  | .nilIface, y, h => by unfold leB at h; cases h
  | .tuple _, y, h => by unfold leB at h; cases h
  | .sl _ _ _ _, y, h => by unfold leB at h; cases h
  | .ref _ _ _ _, y, h => by unfold leB at h; cases h
  | .cref _, y, h => by unfold leB at h; cases h
  | .mapr _, y, h => by unfold leB at h; cases h
  | .func _ _ _, y, h => by unfold leB at h; cases h
  | .iface _ _, y, h => by unfold leB at h; cases h
theorem leL_ok : ∀ (xs ys : List AV), leL xs ys = true → xs.length = ys.length ∧ ∀ (i : Nat) (y : AV), ys[i]? = some y → ∃ x, xs[i]? = some x ∧ VLe x y
  | [], y, h => by
    unfold leL at h
    split at h
    · exact ⟨rfl, fun i y hy => by simp at hy⟩
    · cases h
  | c :: cs, y, h => by
    unfold leL at h
    split at h
    · rename_i d ds
      simp only [Bool.and_eq_true] at h
      obtain ⟨h1, h2⟩ := leL_ok cs ds h.2
      refine ⟨by simp [h1], fun i y hy => ?_⟩
      cases i with
      | zero => simp at hy; subst hy; exact ⟨c, rfl, leB_ok c d h.1⟩
      | succ i => simpa using h2 i y (by simpa using hy)
    · cases h
theorem leLL_ok : ∀ (xs ys : List (List AV)), leLL xs ys = true → xs.length = ys.length ∧ ∀ (i : Nat) (y : List AV), ys[i]? = some y → ∃ x, xs[i]? = some x ∧ x.length = y.length ∧ ∀ (j : Nat) (b : AV), y[j]? = some b → ∃ a, x[j]? = some a ∧ VLe a b
  | [], y, h => by
    unfold leLL at h
    split at h
    · exact ⟨rfl, fun i y hy => by simp at hy⟩
    · cases h
  | c :: cs, y, h => by
    unfold leLL at h
    split at h
    · rename_i d ds
      simp only [Bool.and_eq_true] at h
      obtain ⟨h1, h2⟩ := leLL_ok cs ds h.2
      obtain ⟨k1, k2⟩ := leL_ok c d h.1
      refine ⟨by simp [h1], fun i y hy => ?_⟩
      cases i with
      | zero => simp at hy; subst hy; exact ⟨c, rfl, k1, k2⟩
      | succ i => simpa using h2 i y (by simpa using hy)
    · cases h
end
theorem PCalls.le {P : Program} {g : FuncId} {args args' : List AV} {R : AV → Prop} (H : PCalls P g args' R) (hl : leL args args' = true) : PCalls P g args R := by
  obtain ⟨h1, h2⟩ := leL_ok args args' hl
  refine ⟨H.1, fun C vs hC RC hv => H.2 C vs hC RC ⟨by rw [hv.1, h1], fun i y hy => ?_⟩⟩
  obtain ⟨x, hx, hle⟩ := h2 i y hy
  exact hle C _ (hv.2 i x hx)
end Go.Eng

/- Half of a sum of numbers of 64 bits. -/
set_option linter.unusedVariables false
set_option linter.unusedSimpArgs false
set_option maxRecDepth 100000
namespace Go.Proofs.Ytpiocfmdjgbamaa
open Go Go.RowKit Go.Eng
/-- A number of 64 bits. -/
def I64 (a : Int) : Prop := -9223372036854775808 ≤ a ∧ a ≤ 9223372036854775807
theorem and_xor (x y : Nat) : 2 * (x &&& y) + (x ^^^ y) = x + y := by
  induction x using Nat.strongRecOn generalizing y with
  | ind x ih =>
    by_cases hx : x = 0
    · subst hx; simp
    · have h := ih (x / 2) (by omega) (y / 2)
      have h1 : (x &&& y) / 2 = x / 2 &&& y / 2 := Nat.and_div_two
      have h2 : (x ^^^ y) / 2 = x / 2 ^^^ y / 2 := Nat.xor_div_two
      have h3 := Nat.and_mod_two_eq_one (a := x) (b := y)
      have h4 := Nat.xor_mod_two_eq_one (a := x) (b := y)
      omega
theorem div63 (x : Nat) (hx : x < 18446744073709551616) : (x < 9223372036854775808 ∧ x / 2 ^ 63 = 0) ∨ (9223372036854775808 ≤ x ∧ x / 2 ^ 63 = 1) := by
  have e : (2 : Nat) ^ 63 = 9223372036854775808 := by decide
  rw [e]; omega
theorem and_top (x y : Nat) (hx : x < 18446744073709551616) (hy : y < 18446744073709551616) (hu : x &&& y < 18446744073709551616) :
    (9223372036854775808 ≤ x &&& y ↔ 9223372036854775808 ≤ x ∧ 9223372036854775808 ≤ y) := by
  have h : (x &&& y) / 2 ^ 63 = x / 2 ^ 63 &&& y / 2 ^ 63 := Nat.and_div_two_pow
  rcases div63 x hx with ⟨l1, a1⟩ | ⟨l1, a1⟩ <;> rcases div63 y hy with ⟨l2, a2⟩ | ⟨l2, a2⟩ <;> rcases div63 _ hu with ⟨l3, a3⟩ | ⟨l3, a3⟩ <;> rw [a1, a2, a3] at h <;> first | (exfalso; revert h; decide) | omega
theorem xor_top (x y : Nat) (hx : x < 18446744073709551616) (hy : y < 18446744073709551616) (hu : x ^^^ y < 18446744073709551616) :
    (9223372036854775808 ≤ x ^^^ y ↔ ¬ (9223372036854775808 ≤ x ↔ 9223372036854775808 ≤ y)) := by
  have h : (x ^^^ y) / 2 ^ 63 = x / 2 ^ 63 ^^^ y / 2 ^ 63 := Nat.xor_div_two_pow
  rcases div63 x hx with ⟨l1, a1⟩ | ⟨l1, a1⟩ <;> rcases div63 y hy with ⟨l2, a2⟩ | ⟨l2, a2⟩ <;> rcases div63 _ hu with ⟨l3, a3⟩ | ⟨l3, a3⟩ <;> rw [a1, a2, a3] at h <;> first | (exfalso; revert h; decide) | omega
theorem bits_and_i64 (a b : Int) : bits .and .i64 a b = wrap64 (((a % 18446744073709551616).toNat &&& (b % 18446744073709551616).toNat : Nat) : Int) := by
  show IntKind.i64.wrap ((BitVec.ofInt 64 a &&& BitVec.ofInt 64 b).toNat : Int) = _
  rw [BitVec.toNat_and, BitVec.toNat_ofInt, BitVec.toNat_ofInt, IntWalk.i64_left]
  rfl
theorem bits_xor_i64 (a b : Int) : bits .xor .i64 a b = wrap64 (((a % 18446744073709551616).toNat ^^^ (b % 18446744073709551616).toNat : Nat) : Int) := by
  show IntKind.i64.wrap ((BitVec.ofInt 64 a ^^^ BitVec.ofInt 64 b).toNat : Int) = _
  rw [BitVec.toNat_xor, BitVec.toNat_ofInt, BitVec.toNat_ofInt, IntWalk.i64_left]
  rfl
theorem xor_lt64 (x y : Nat) (hx : x < 18446744073709551616) (hy : y < 18446744073709551616) : x ^^^ y < 18446744073709551616 := by
  have e : (2 : Nat) ^ 64 = 18446744073709551616 := by decide
  rw [← e] at hx hy ⊢
  exact Nat.xor_lt_two_pow hx hy
theorem wrap_nat (u : Nat) (h : u < 18446744073709551616) : wrap64 (u : Int) = if 9223372036854775808 ≤ u then (u : Int) - 18446744073709551616 else u := by
  unfold wrap64; split <;> omega
theorem mid_core (a b : Int) (x y u v : Nat) (ha : I64 a) (hb : I64 b) (ex : (x : Int) = a ∨ (x : Int) = a + 18446744073709551616) (ey : (y : Int) = b ∨ (y : Int) = b + 18446744073709551616)
    (hx : x < 18446744073709551616) (hy : y < 18446744073709551616) (hu : u < 18446744073709551616) (hv : v < 18446744073709551616) (h1 : 2 * u + v = x + y)
    (h2 : 9223372036854775808 ≤ u ↔ 9223372036854775808 ≤ x ∧ 9223372036854775808 ≤ y) (h3 : 9223372036854775808 ≤ v ↔ ¬ (9223372036854775808 ≤ x ↔ 9223372036854775808 ≤ y)) :
    wrap64 (wrap64 (u : Int) + wrap64 (v : Int) / 2) = (a + b) / 2 := by
  unfold I64 at ha hb
  rw [wrap_nat u hu, wrap_nat v hv]
  have key : 2 * (if 9223372036854775808 ≤ u then (u : Int) - 18446744073709551616 else u) + (if 9223372036854775808 ≤ v then (v : Int) - 18446744073709551616 else v) = a + b := by
    split <;> split <;> omega
  generalize (if 9223372036854775808 ≤ u then (u : Int) - 18446744073709551616 else u) = p at *
  generalize (if 9223372036854775808 ≤ v then (v : Int) - 18446744073709551616 else v) = q at *
  have e : p + q / 2 = (a + b) / 2 := by omega
  rw [e, IntWalk.wrap64_in _ (by omega)]
theorem mid_eq (a b : Int) (ha : I64 a) (hb : I64 b) : wrap64 (bits .and .i64 a b + bits .xor .i64 a b / 2) = (a + b) / 2 := by
  rw [bits_and_i64, bits_xor_i64]
  have hx : (a % 18446744073709551616).toNat < 18446744073709551616 := by omega
  have hy : (b % 18446744073709551616).toNat < 18446744073709551616 := by omega
  have hu := Nat.lt_of_le_of_lt (Nat.and_le_left (n := (a % 18446744073709551616).toNat) (m := (b % 18446744073709551616).toNat)) hx
  have hv := xor_lt64 _ _ hx hy
  exact mid_core a b _ _ _ _ ha hb (by unfold I64 at ha; omega) (by unfold I64 at hb; omega) hx hy hu hv (and_xor _ _) (and_top _ _ hx hy hu) (xor_top _ _ hx hy hv)
theorem e_nmid (a b : Int) (ha : I64 a) (hb : I64 b) : PCalls Try.prog 93 [.int .i64 a, .int .i64 b] (· = .int .i64 ((a + b) / 2)) := by
  (refine PCalls.ofY Try.func93 (by kernel_rfl) (by kernel_rfl) fun w hw R hR => ?_); (obtain ⟨wbin, wcmp, wun, wconv, wnot, wbeq, wmm, wscmp, wsadd, wslen, wsat, weqs, wlen, wnlen, wofNat, wtake, wdrop, wapp, wzero, wnat⟩ := w); (have hbin := Z.w1 hw); (have hcmp := Z.w2 hw); (have hun := Z.w3 hw); (have hconv := Z.w4 hw); (have hnot := Z.w5 hw); (have hbeq := Z.w6 hw); (have hmm := Z.w7 hw); (have hscmp := Z.w8 hw); (have hsadd := Z.w9 hw); (have hslen := Z.w10 hw); (have hsat := Z.w11 hw); (have heqs := Z.w12 hw); (have hlen := Z.w13 hw); (have hnlen := Z.w14 hw); (have hofNat := Z.w15 hw); (have htake := Z.w16 hw); (have hdrop := Z.w17 hw); (have happ := Z.w18 hw); (have hzero := Z.w19 hw); (have hnat := Z.w20 hw); (conv => arg 2; cbv); (generalize hP : Try.prog = P); cbv
  refine Nn.mk (by decide) ?_
  refine ⟨_, Vw.same rfl, hR _ (congrArg (AV.int .i64) ?_)⟩
  rw [hbin]
  have e1 : binStd .shr .i64 (binStd .xor .i64 a b) 1 = bits .xor .i64 a b / 2 := by
    show (bits .xor .i64 a b).fdiv (2 ^ (min (1 : Int).toNat 64)) = _
    rw [show (2 : Int) ^ (min (1 : Int).toNat 64) = 2 by decide, Int.fdiv_eq_ediv_of_nonneg _ (by decide)]
  rw [e1]
  show IntKind.i64.wrap (bits .and .i64 a b + bits .xor .i64 a b / 2) = _
  rw [IntWalk.i64_left]
  exact mid_eq a b ha hb
end Go.Proofs.Ytpiocfmdjgbamaa

/- Sums, and spans, of numbers that are not too great, by the engine. -/
set_option linter.unusedVariables false
set_option linter.unusedSimpArgs false
namespace Go.Proofs.Ytpiocfmdjgbamaa
open Go Go.RowKit Go.Eng
set_option maxRecDepth 100000
/-- A number of at most 2^62. -/
def I62 (a : Int) : Prop := -4611686018427387904 ≤ a ∧ a ≤ 4611686018427387903
theorem e_xadd {a b d : Int} (h : a + b = d) (ha : I62 a) (hb : I62 b) : PCalls Try.prog 90 [.int .i64 a, .int .i64 b] (· = .tuple [.int .i64 d, .bool true]) := by
  unfold I62 at ha hb
  (refine PCalls.ofY Try.func90 (by kernel_rfl) (by kernel_rfl) fun w hw R hR => ?_); (obtain ⟨wbin, wcmp, wun, wconv, wnot, wbeq, wmm, wscmp, wsadd, wslen, wsat, weqs, wlen, wnlen, wofNat, wtake, wdrop, wapp, wzero, wnat⟩ := w); (have hbin := Z.w1 hw); (have hcmp := Z.w2 hw); (have hun := Z.w3 hw); (have hconv := Z.w4 hw); (have hnot := Z.w5 hw); (have hbeq := Z.w6 hw); (have hmm := Z.w7 hw); (have hscmp := Z.w8 hw); (have hsadd := Z.w9 hw); (have hslen := Z.w10 hw); (have hsat := Z.w11 hw); (have heqs := Z.w12 hw); (have hlen := Z.w13 hw); (have hnlen := Z.w14 hw); (have hofNat := Z.w15 hw); (have htake := Z.w16 hw); (have hdrop := Z.w17 hw); (have happ := Z.w18 hw); (have hzero := Z.w19 hw); (have hnat := Z.w20 hw); (conv => arg 2; cbv); (generalize hP : Try.prog = P); cbv
  have ed : wbin .add .i64 a b = d := by rw [hbin, i_add (by omega) (by omega)]; exact h
  simp only [ed]
  have hb1 : wbeq (wcmp .geq a 0) (wcmp .geq b 0) = false ∨ wbeq (wcmp .geq d 0) (wcmp .geq a 0) = true := by
    rw [hbeq, hcmp]
    simp only [cmpStd, beq_iff_eq, beq_eq_false_iff_ne, ne_eq, decide_eq_decide]
    omega
  repeat' (split <;> rename_i h1 <;> (try (simp only [hbin, hcmp, hun, hconv, hnot, hbeq, hmm, hscmp, hsadd, hslen, hsat, heqs, hofNat, binStd, cmpStd, unStd, scmpStd, maxI, Z.z1, Z.z2, Z.z3, Z.z4, Z.z5, Z.z6, if_true, if_false, Z.z7, beq_iff_eq, bne_iff_ne, ne_eq, Z.z8, Z.z9, Z.y1, beq_eq_false_iff_ne, bne_eq_false_iff_eq, Z.y2, Z.y3, Z.y4, Z.y5, reduceCtorEq] at h1)) <;> (try cbv))
  all_goals first
    | exact ⟨_, Vw.same rfl, hR _ rfl⟩
    | (exfalso; simp only [hbeq, hcmp, cmpStd, beq_iff_eq, beq_eq_false_iff_ne, ne_eq, decide_eq_decide] at *; omega)
theorem e_xsub {a b d : Int} (h : a - b = d) (ha : I62 a) (hb : I62 b) : PCalls Try.prog 97 [.int .i64 a, .int .i64 b] (· = .tuple [.int .i64 d, .bool true]) := by
  unfold I62 at ha hb
  (refine PCalls.ofY Try.func97 (by kernel_rfl) (by kernel_rfl) fun w hw R hR => ?_); (obtain ⟨wbin, wcmp, wun, wconv, wnot, wbeq, wmm, wscmp, wsadd, wslen, wsat, weqs, wlen, wnlen, wofNat, wtake, wdrop, wapp, wzero, wnat⟩ := w); (have hbin := Z.w1 hw); (have hcmp := Z.w2 hw); (have hun := Z.w3 hw); (have hconv := Z.w4 hw); (have hnot := Z.w5 hw); (have hbeq := Z.w6 hw); (have hmm := Z.w7 hw); (have hscmp := Z.w8 hw); (have hsadd := Z.w9 hw); (have hslen := Z.w10 hw); (have hsat := Z.w11 hw); (have heqs := Z.w12 hw); (have hlen := Z.w13 hw); (have hnlen := Z.w14 hw); (have hofNat := Z.w15 hw); (have htake := Z.w16 hw); (have hdrop := Z.w17 hw); (have happ := Z.w18 hw); (have hzero := Z.w19 hw); (have hnat := Z.w20 hw); (conv => arg 2; cbv); (generalize hP : Try.prog = P); cbv
  have ed : wbin .sub .i64 a b = d := by rw [hbin, i_sub (by omega) (by omega)]; exact h
  simp only [ed]
  have hb1 : wbeq (wcmp .geq a 0) (wcmp .geq b 0) = true ∨ wbeq (wcmp .geq d 0) (wcmp .geq a 0) = true := by
    rw [hbeq, hcmp]
    simp only [cmpStd, beq_iff_eq, decide_eq_decide]
    omega
  repeat' (split <;> rename_i h1 <;> (try (simp only [hbin, hcmp, hun, hconv, hnot, hbeq, hmm, hscmp, hsadd, hslen, hsat, heqs, hofNat, binStd, cmpStd, unStd, scmpStd, maxI, Z.z1, Z.z2, Z.z3, Z.z4, Z.z5, Z.z6, if_true, if_false, Z.z7, beq_iff_eq, bne_iff_ne, ne_eq, Z.z8, Z.z9, Z.y1, beq_eq_false_iff_ne, bne_eq_false_iff_eq, Z.y2, Z.y3, Z.y4, Z.y5, reduceCtorEq] at h1)) <;> (try cbv))
  all_goals first
    | exact ⟨_, Vw.same rfl, hR _ rfl⟩
    | (exfalso; simp only [hbeq, hcmp, cmpStd, beq_iff_eq, decide_eq_decide] at *; omega)
theorem e_xnear (d : Int) (b : Bool) : PCalls Try.prog 94 [.int .i64 d, .bool true, .bool b] (· = .int .i64 d) := by
  (refine PCalls.ofY Try.func94 (by kernel_rfl) (by kernel_rfl) fun w hw R hR => ?_); (obtain ⟨wbin, wcmp, wun, wconv, wnot, wbeq, wmm, wscmp, wsadd, wslen, wsat, weqs, wlen, wnlen, wofNat, wtake, wdrop, wapp, wzero, wnat⟩ := w); (have hbin := Z.w1 hw); (have hcmp := Z.w2 hw); (have hun := Z.w3 hw); (have hconv := Z.w4 hw); (have hnot := Z.w5 hw); (have hbeq := Z.w6 hw); (have hmm := Z.w7 hw); (have hscmp := Z.w8 hw); (have hsadd := Z.w9 hw); (have hslen := Z.w10 hw); (have hsat := Z.w11 hw); (have heqs := Z.w12 hw); (have hlen := Z.w13 hw); (have hnlen := Z.w14 hw); (have hofNat := Z.w15 hw); (have htake := Z.w16 hw); (have hdrop := Z.w17 hw); (have happ := Z.w18 hw); (have hzero := Z.w19 hw); (have hnat := Z.w20 hw); (conv => arg 2; cbv); (generalize hP : Try.prog = P); cbv
  exact ⟨_, Vw.same rfl, hR _ rfl⟩
theorem e_xaddSat {a b d : Int} (h : a + b = d) (ha : I62 a) (hb : I62 b) : PCalls Try.prog 66 [.int .i64 a, .int .i64 b] (· = .int .i64 d) := by
  (refine PCalls.ofY Try.func66 (by kernel_rfl) (by kernel_rfl) fun w hw R hR => ?_); (obtain ⟨wbin, wcmp, wun, wconv, wnot, wbeq, wmm, wscmp, wsadd, wslen, wsat, weqs, wlen, wnlen, wofNat, wtake, wdrop, wapp, wzero, wnat⟩ := w); (have hbin := Z.w1 hw); (have hcmp := Z.w2 hw); (have hun := Z.w3 hw); (have hconv := Z.w4 hw); (have hnot := Z.w5 hw); (have hbeq := Z.w6 hw); (have hmm := Z.w7 hw); (have hscmp := Z.w8 hw); (have hsadd := Z.w9 hw); (have hslen := Z.w10 hw); (have hsat := Z.w11 hw); (have heqs := Z.w12 hw); (have hlen := Z.w13 hw); (have hnlen := Z.w14 hw); (have hofNat := Z.w15 hw); (have htake := Z.w16 hw); (have hdrop := Z.w17 hw); (have happ := Z.w18 hw); (have hzero := Z.w19 hw); (have hnat := Z.w20 hw); (conv => arg 2; cbv); (generalize hP : Try.prog = P); cbv
  refine Call.stepE (by rw [← hP]; exact e_xadd h ha hb) rfl ?_
  cbv
  obtain ⟨o, eo⟩ : ∃ o, wcmp .lss a 0 = o := ⟨_, rfl⟩
  simp only [eo]
  refine Call.stepE (by rw [← hP]; exact e_xnear d o) rfl ?_
  cbv
  exact ⟨_, Vw.same rfl, hR _ rfl⟩
theorem mmT' (a b : Int) : maxI true a b = max a b := by simp only [maxI, if_true]; split <;> omega
theorem mmF' (a b : Int) : maxI false a b = min a b := by simp only [maxI, Bool.false_eq_true, if_false]; split <;> omega
theorem e_xclamp {x lo hi v : Int} (h : max lo (min x hi) = v) : PCalls Try.prog 65 [.int .i64 x, .int .i64 lo, .int .i64 hi] (· = .int .i64 v) := by
  (refine PCalls.ofY Try.func65 (by kernel_rfl) (by kernel_rfl) fun w hw R hR => ?_); (obtain ⟨wbin, wcmp, wun, wconv, wnot, wbeq, wmm, wscmp, wsadd, wslen, wsat, weqs, wlen, wnlen, wofNat, wtake, wdrop, wapp, wzero, wnat⟩ := w); (have hbin := Z.w1 hw); (have hcmp := Z.w2 hw); (have hun := Z.w3 hw); (have hconv := Z.w4 hw); (have hnot := Z.w5 hw); (have hbeq := Z.w6 hw); (have hmm := Z.w7 hw); (have hscmp := Z.w8 hw); (have hsadd := Z.w9 hw); (have hslen := Z.w10 hw); (have hsat := Z.w11 hw); (have heqs := Z.w12 hw); (have hlen := Z.w13 hw); (have hnlen := Z.w14 hw); (have hofNat := Z.w15 hw); (have htake := Z.w16 hw); (have hdrop := Z.w17 hw); (have happ := Z.w18 hw); (have hzero := Z.w19 hw); (have hnat := Z.w20 hw); (conv => arg 2; cbv); (generalize hP : Try.prog = P); cbv
  obtain ⟨m, em⟩ : ∃ m, min x hi = m := ⟨_, rfl⟩
  have e1 : wmm false x hi = m := by rw [hmm, mmF', em]
  have e2 : wmm true lo m = v := by rw [hmm, mmT', ← h, em]
  simp only [e1, e2]
  exact ⟨_, Vw.same rfl, hR _ rfl⟩
theorem e_xboth {lo hi : Int} (h : lo ≤ hi) : PCalls Try.prog 91 [.int .i64 lo, .bool true, .int .i64 hi, .bool true] (· = .tuple [.agg [.int .i64 lo, .int .i64 hi], .bool true]) := by
  (refine PCalls.ofY Try.func91 (by kernel_rfl) (by kernel_rfl) fun w hw R hR => ?_); (obtain ⟨wbin, wcmp, wun, wconv, wnot, wbeq, wmm, wscmp, wsadd, wslen, wsat, weqs, wlen, wnlen, wofNat, wtake, wdrop, wapp, wzero, wnat⟩ := w); (have hbin := Z.w1 hw); (have hcmp := Z.w2 hw); (have hun := Z.w3 hw); (have hconv := Z.w4 hw); (have hnot := Z.w5 hw); (have hbeq := Z.w6 hw); (have hmm := Z.w7 hw); (have hscmp := Z.w8 hw); (have hsadd := Z.w9 hw); (have hslen := Z.w10 hw); (have hsat := Z.w11 hw); (have heqs := Z.w12 hw); (have hlen := Z.w13 hw); (have hnlen := Z.w14 hw); (have hofNat := Z.w15 hw); (have htake := Z.w16 hw); (have hdrop := Z.w17 hw); (have happ := Z.w18 hw); (have hzero := Z.w19 hw); (have hnat := Z.w20 hw); (conv => arg 2; cbv); (generalize hP : Try.prog = P); cbv
  repeat' (split <;> rename_i h1 <;> (try (simp only [hbin, hcmp, hun, hconv, hnot, hbeq, hmm, hscmp, hsadd, hslen, hsat, heqs, hofNat, binStd, cmpStd, unStd, scmpStd, maxI, Z.z1, Z.z2, Z.z3, Z.z4, Z.z5, Z.z6, if_true, if_false, Z.z7, beq_iff_eq, bne_iff_ne, ne_eq, Z.z8, Z.z9, Z.y1, beq_eq_false_iff_ne, bne_eq_false_iff_eq, Z.y2, Z.y3, Z.y4, Z.y5, reduceCtorEq] at h1)) <;> (try cbv))
  all_goals first
    | (exfalso; omega)
    | exact ⟨_, Vw.same rfl, hR _ rfl⟩
theorem e_xbothNo {lo hi : Int} (h : hi < lo) : PCalls Try.prog 91 [.int .i64 lo, .bool true, .int .i64 hi, .bool true] (· = .tuple [.agg [.int .i64 0, .int .i64 0], .bool false]) := by
  (refine PCalls.ofY Try.func91 (by kernel_rfl) (by kernel_rfl) fun w hw R hR => ?_); (obtain ⟨wbin, wcmp, wun, wconv, wnot, wbeq, wmm, wscmp, wsadd, wslen, wsat, weqs, wlen, wnlen, wofNat, wtake, wdrop, wapp, wzero, wnat⟩ := w); (have hbin := Z.w1 hw); (have hcmp := Z.w2 hw); (have hun := Z.w3 hw); (have hconv := Z.w4 hw); (have hnot := Z.w5 hw); (have hbeq := Z.w6 hw); (have hmm := Z.w7 hw); (have hscmp := Z.w8 hw); (have hsadd := Z.w9 hw); (have hslen := Z.w10 hw); (have hsat := Z.w11 hw); (have heqs := Z.w12 hw); (have hlen := Z.w13 hw); (have hnlen := Z.w14 hw); (have hofNat := Z.w15 hw); (have htake := Z.w16 hw); (have hdrop := Z.w17 hw); (have happ := Z.w18 hw); (have hzero := Z.w19 hw); (have hnat := Z.w20 hw); (conv => arg 2; cbv); (generalize hP : Try.prog = P); cbv
  repeat' (split <;> rename_i h1 <;> (try (simp only [hbin, hcmp, hun, hconv, hnot, hbeq, hmm, hscmp, hsadd, hslen, hsat, heqs, hofNat, binStd, cmpStd, unStd, scmpStd, maxI, Z.z1, Z.z2, Z.z3, Z.z4, Z.z5, Z.z6, if_true, if_false, Z.z7, beq_iff_eq, bne_iff_ne, ne_eq, Z.z8, Z.z9, Z.y1, beq_eq_false_iff_ne, bne_eq_false_iff_eq, Z.y2, Z.y3, Z.y4, Z.y5, reduceCtorEq] at h1)) <;> (try cbv))
  all_goals first
    | (exfalso; omega)
    | exact ⟨_, Vw.same rfl, hR _ rfl⟩
theorem e_xright {a b : Int} (o : Bool) (ho : decide (a ≤ b) = o) : PCalls Try.prog 27 [.agg [.int .i64 a, .int .i64 b]] (· = .bool o) := by
  (refine PCalls.ofY Try.func27 (by kernel_rfl) (by kernel_rfl) fun w hw R hR => ?_); (obtain ⟨wbin, wcmp, wun, wconv, wnot, wbeq, wmm, wscmp, wsadd, wslen, wsat, weqs, wlen, wnlen, wofNat, wtake, wdrop, wapp, wzero, wnat⟩ := w); (have hbin := Z.w1 hw); (have hcmp := Z.w2 hw); (have hun := Z.w3 hw); (have hconv := Z.w4 hw); (have hnot := Z.w5 hw); (have hbeq := Z.w6 hw); (have hmm := Z.w7 hw); (have hscmp := Z.w8 hw); (have hsadd := Z.w9 hw); (have hslen := Z.w10 hw); (have hsat := Z.w11 hw); (have heqs := Z.w12 hw); (have hlen := Z.w13 hw); (have hnlen := Z.w14 hw); (have hofNat := Z.w15 hw); (have htake := Z.w16 hw); (have hdrop := Z.w17 hw); (have happ := Z.w18 hw); (have hzero := Z.w19 hw); (have hnat := Z.w20 hw); (conv => arg 2; cbv); (generalize hP : Try.prog = P); cbv
  refine ⟨_, Vw.same rfl, hR _ ?_⟩
  rw [hcmp, ← ho]; rfl
theorem e_xin {a b c d : Int} (o : Bool) (ho : decide (a ≤ b → c ≤ a ∧ b ≤ d) = o) : PCalls Try.prog 28 [.agg [.int .i64 a, .int .i64 b], .agg [.int .i64 c, .int .i64 d]] (· = .bool o) := by
  obtain ⟨u, eu⟩ : ∃ u, decide (a ≤ b) = u := ⟨_, rfl⟩
  have hr := e_xright (a := a) (b := b) u eu
  (refine PCalls.ofY Try.func28 (by kernel_rfl) (by kernel_rfl) fun w hw R hR => ?_); (obtain ⟨wbin, wcmp, wun, wconv, wnot, wbeq, wmm, wscmp, wsadd, wslen, wsat, weqs, wlen, wnlen, wofNat, wtake, wdrop, wapp, wzero, wnat⟩ := w); (have hbin := Z.w1 hw); (have hcmp := Z.w2 hw); (have hun := Z.w3 hw); (have hconv := Z.w4 hw); (have hnot := Z.w5 hw); (have hbeq := Z.w6 hw); (have hmm := Z.w7 hw); (have hscmp := Z.w8 hw); (have hsadd := Z.w9 hw); (have hslen := Z.w10 hw); (have hsat := Z.w11 hw); (have heqs := Z.w12 hw); (have hlen := Z.w13 hw); (have hnlen := Z.w14 hw); (have hofNat := Z.w15 hw); (have htake := Z.w16 hw); (have hdrop := Z.w17 hw); (have happ := Z.w18 hw); (have hzero := Z.w19 hw); (have hnat := Z.w20 hw); (conv => arg 2; cbv); (generalize hP : Try.prog = P); cbv
  refine Call.stepE (by rw [← hP]; exact hr) rfl ?_
  cbv
  have hn : wnot u = !u := by rw [hnot]
  have hF : ∀ (o' : Bool) (h : AHeap), (o' = true ↔ (a ≤ b → c ≤ a ∧ b ≤ d)) → Ret [.bool o'] h R := fun o' h k => ⟨_, Vw.same rfl, hR _ (congrArg AV.bool (by rw [← ho, Bool.eq_iff_iff, k, decide_eq_true_iff]))⟩
  cases u with
  | false =>
    have n1 : wnot false = true := by rw [hnot]; rfl
    simp only [n1]
    cbv
    exact hF true _ (by simp at eu ⊢; omega)
  | true =>
    have n1 : wnot true = false := by rw [hnot]; rfl
    simp only [n1]
    cbv
    have eu' : a ≤ b := by simpa using eu
    (split <;> rename_i h1 <;> (try (simp only [hbin, hcmp, hun, hconv, hnot, hbeq, hmm, hscmp, hsadd, hslen, hsat, heqs, hofNat, binStd, cmpStd, unStd, scmpStd, maxI, Z.z1, Z.z2, Z.z3, Z.z4, Z.z5, Z.z6, if_true, if_false, Z.z7, beq_iff_eq, bne_iff_ne, ne_eq, Z.z8, Z.z9, Z.y1, beq_eq_false_iff_ne, bne_eq_false_iff_eq, Z.y2, Z.y3, Z.y4, Z.y5, reduceCtorEq] at h1)) <;> (try cbv))
    · refine hF _ _ ?_
      rw [hcmp]
      simp only [cmpStd, decide_eq_true_iff]
      omega
    · exact hF false _ (by simp; omega)
theorem e_xhas {a b x : Int} (o : Bool) (ho : decide (a ≤ x ∧ x ≤ b) = o) : PCalls Try.prog 23 [.agg [.int .i64 a, .int .i64 b], .int .i64 x] (· = .bool o) := by
  (refine PCalls.ofY Try.func23 (by kernel_rfl) (by kernel_rfl) fun w hw R hR => ?_); (obtain ⟨wbin, wcmp, wun, wconv, wnot, wbeq, wmm, wscmp, wsadd, wslen, wsat, weqs, wlen, wnlen, wofNat, wtake, wdrop, wapp, wzero, wnat⟩ := w); (have hbin := Z.w1 hw); (have hcmp := Z.w2 hw); (have hun := Z.w3 hw); (have hconv := Z.w4 hw); (have hnot := Z.w5 hw); (have hbeq := Z.w6 hw); (have hmm := Z.w7 hw); (have hscmp := Z.w8 hw); (have hsadd := Z.w9 hw); (have hslen := Z.w10 hw); (have hsat := Z.w11 hw); (have heqs := Z.w12 hw); (have hlen := Z.w13 hw); (have hnlen := Z.w14 hw); (have hofNat := Z.w15 hw); (have htake := Z.w16 hw); (have hdrop := Z.w17 hw); (have happ := Z.w18 hw); (have hzero := Z.w19 hw); (have hnat := Z.w20 hw); (conv => arg 2; cbv); (generalize hP : Try.prog = P); cbv
  have hF : ∀ (o' : Bool) (h : AHeap), (o' = true ↔ (a ≤ x ∧ x ≤ b)) → Ret [.bool o'] h R := fun o' h k => ⟨_, Vw.same rfl, hR _ (congrArg AV.bool (by rw [← ho, Bool.eq_iff_iff, k, decide_eq_true_iff]))⟩
  (split <;> rename_i h1 <;> (try (simp only [hbin, hcmp, hun, hconv, hnot, hbeq, hmm, hscmp, hsadd, hslen, hsat, heqs, hofNat, binStd, cmpStd, unStd, scmpStd, maxI, Z.z1, Z.z2, Z.z3, Z.z4, Z.z5, Z.z6, if_true, if_false, Z.z7, beq_iff_eq, bne_iff_ne, ne_eq, Z.z8, Z.z9, Z.y1, beq_eq_false_iff_ne, bne_eq_false_iff_eq, Z.y2, Z.y3, Z.y4, Z.y5, reduceCtorEq] at h1)) <;> (try cbv))
  · refine hF _ _ ?_
    rw [hcmp]
    simp only [cmpStd, decide_eq_true_iff]
    omega
  · exact hF false _ (by simp; omega)
theorem e_xsadd {a b c d l h : Int} (h1 : a ≤ b) (h2 : c ≤ d) (hl : a + c = l) (hh : b + d = h) (ha : I62 a) (hb : I62 b) (hc : I62 c) (hd : I62 d) : PCalls Try.prog 59 [.agg [.int .i64 a, .int .i64 b], .agg [.int .i64 c, .int .i64 d]] (· = .tuple [.agg [.int .i64 l, .int .i64 h], .bool true]) := by
  have r1 := e_xright (a := a) (b := b) true (by simp [h1])
  have r2 := e_xright (a := c) (b := d) true (by simp [h2])
  have a1 := e_xadd hl ha hc
  have a2 := e_xadd hh hb hd
  have b1 := e_xboth (lo := l) (hi := h) (by omega)
  (refine PCalls.ofY Try.func59 (by kernel_rfl) (by kernel_rfl) fun w hw R hR => ?_); (obtain ⟨wbin, wcmp, wun, wconv, wnot, wbeq, wmm, wscmp, wsadd, wslen, wsat, weqs, wlen, wnlen, wofNat, wtake, wdrop, wapp, wzero, wnat⟩ := w); (have hbin := Z.w1 hw); (have hcmp := Z.w2 hw); (have hun := Z.w3 hw); (have hconv := Z.w4 hw); (have hnot := Z.w5 hw); (have hbeq := Z.w6 hw); (have hmm := Z.w7 hw); (have hscmp := Z.w8 hw); (have hsadd := Z.w9 hw); (have hslen := Z.w10 hw); (have hsat := Z.w11 hw); (have heqs := Z.w12 hw); (have hlen := Z.w13 hw); (have hnlen := Z.w14 hw); (have hofNat := Z.w15 hw); (have htake := Z.w16 hw); (have hdrop := Z.w17 hw); (have happ := Z.w18 hw); (have hzero := Z.w19 hw); (have hnat := Z.w20 hw); (conv => arg 2; cbv); (generalize hP : Try.prog = P); cbv
  have n1 : wnot true = false := by rw [hnot]; rfl
  repeat' (first
    | (refine Call.stepE (by rw [← hP]; exact r1) rfl ?_; cbv; simp only [n1]; cbv)
    | (refine Call.stepE (by rw [← hP]; exact r2) rfl ?_; cbv; simp only [n1]; cbv)
    | (refine Call.stepE (by rw [← hP]; exact a1) rfl ?_; cbv)
    | (refine Call.stepE (by rw [← hP]; exact a2) rfl ?_; cbv)
    | (refine Call.stepE (by rw [← hP]; exact b1) rfl ?_; cbv))
  exact ⟨_, Vw.same rfl, hR _ rfl⟩
theorem e_xmid {a b m : Int} (h : (a + b) / 2 = m) (ha : I64 a) (hb : I64 b) : PCalls Try.prog 63 [.agg [.int .i64 a, .int .i64 b]] (· = .int .i64 m) := by
  (refine PCalls.ofY Try.func63 (by kernel_rfl) (by kernel_rfl) fun w hw R hR => ?_); (obtain ⟨wbin, wcmp, wun, wconv, wnot, wbeq, wmm, wscmp, wsadd, wslen, wsat, weqs, wlen, wnlen, wofNat, wtake, wdrop, wapp, wzero, wnat⟩ := w); (have hbin := Z.w1 hw); (have hcmp := Z.w2 hw); (have hun := Z.w3 hw); (have hconv := Z.w4 hw); (have hnot := Z.w5 hw); (have hbeq := Z.w6 hw); (have hmm := Z.w7 hw); (have hscmp := Z.w8 hw); (have hsadd := Z.w9 hw); (have hslen := Z.w10 hw); (have hsat := Z.w11 hw); (have heqs := Z.w12 hw); (have hlen := Z.w13 hw); (have hnlen := Z.w14 hw); (have hofNat := Z.w15 hw); (have htake := Z.w16 hw); (have hdrop := Z.w17 hw); (have happ := Z.w18 hw); (have hzero := Z.w19 hw); (have hnat := Z.w20 hw); (conv => arg 2; cbv); (generalize hP : Try.prog = P); cbv
  refine Call.stepE (by rw [← hP]; exact (e_nmid a b ha hb).mono fun r hr => by rw [hr, h]) rfl ?_
  cbv
  exact ⟨_, Vw.same rfl, hR _ rfl⟩
theorem e_xmeet {a b c d x y : Int} (hx : max a c = x) (hy : min b d = y) (h : x ≤ y) : PCalls Try.prog 73 [.agg [.int .i64 a, .int .i64 b], .agg [.int .i64 c, .int .i64 d]] (· = .tuple [.agg [.int .i64 x, .int .i64 y], .bool true]) := by
  have b1 := e_xboth h
  (refine PCalls.ofY Try.func73 (by kernel_rfl) (by kernel_rfl) fun w hw R hR => ?_); (obtain ⟨wbin, wcmp, wun, wconv, wnot, wbeq, wmm, wscmp, wsadd, wslen, wsat, weqs, wlen, wnlen, wofNat, wtake, wdrop, wapp, wzero, wnat⟩ := w); (have hbin := Z.w1 hw); (have hcmp := Z.w2 hw); (have hun := Z.w3 hw); (have hconv := Z.w4 hw); (have hnot := Z.w5 hw); (have hbeq := Z.w6 hw); (have hmm := Z.w7 hw); (have hscmp := Z.w8 hw); (have hsadd := Z.w9 hw); (have hslen := Z.w10 hw); (have hsat := Z.w11 hw); (have heqs := Z.w12 hw); (have hlen := Z.w13 hw); (have hnlen := Z.w14 hw); (have hofNat := Z.w15 hw); (have htake := Z.w16 hw); (have hdrop := Z.w17 hw); (have happ := Z.w18 hw); (have hzero := Z.w19 hw); (have hnat := Z.w20 hw); (conv => arg 2; cbv); (generalize hP : Try.prog = P); cbv
  have e1 : wmm true a c = x := by rw [hmm, mmT', hx]
  have e2 : wmm false b d = y := by rw [hmm, mmF', hy]
  simp only [e1, e2]
  refine Call.stepE (by rw [← hP]; exact b1) rfl ?_
  cbv
  exact ⟨_, Vw.same rfl, hR _ rfl⟩
theorem e_xmeetNo {a b c d x y : Int} (hx : max a c = x) (hy : min b d = y) (h : y < x) : PCalls Try.prog 73 [.agg [.int .i64 a, .int .i64 b], .agg [.int .i64 c, .int .i64 d]] (· = .tuple [.agg [.int .i64 0, .int .i64 0], .bool false]) := by
  have b1 := e_xbothNo h
  (refine PCalls.ofY Try.func73 (by kernel_rfl) (by kernel_rfl) fun w hw R hR => ?_); (obtain ⟨wbin, wcmp, wun, wconv, wnot, wbeq, wmm, wscmp, wsadd, wslen, wsat, weqs, wlen, wnlen, wofNat, wtake, wdrop, wapp, wzero, wnat⟩ := w); (have hbin := Z.w1 hw); (have hcmp := Z.w2 hw); (have hun := Z.w3 hw); (have hconv := Z.w4 hw); (have hnot := Z.w5 hw); (have hbeq := Z.w6 hw); (have hmm := Z.w7 hw); (have hscmp := Z.w8 hw); (have hsadd := Z.w9 hw); (have hslen := Z.w10 hw); (have hsat := Z.w11 hw); (have heqs := Z.w12 hw); (have hlen := Z.w13 hw); (have hnlen := Z.w14 hw); (have hofNat := Z.w15 hw); (have htake := Z.w16 hw); (have hdrop := Z.w17 hw); (have happ := Z.w18 hw); (have hzero := Z.w19 hw); (have hnat := Z.w20 hw); (conv => arg 2; cbv); (generalize hP : Try.prog = P); cbv
  have e1 : wmm true a c = x := by rw [hmm, mmT', hx]
  have e2 : wmm false b d = y := by rw [hmm, mmF', hy]
  simp only [e1, e2]
  refine Call.stepE (by rw [← hP]; exact b1) rfl ?_
  cbv
  exact ⟨_, Vw.same rfl, hR _ rfl⟩
end Go.Proofs.Ytpiocfmdjgbamaa

/- What a configuration is. -/
set_option linter.unusedVariables false
set_option linter.unusedSimpArgs false
namespace Go.Proofs.Ytpiocfmdjgbamaa
open Go Go.RowKit Go.Eng
set_option maxRecDepth 100000
theorem ok_int {k : IntKind} {l : List Sh} {xs : List AV} (h : OkL (.int k :: l) xs) : ∃ n y, xs = .int k n :: y ∧ (Lit.int k n).wf = true ∧ OkL l y := by
  unfold OkL at h
  obtain ⟨x, y, rfl, h1, h2⟩ := h
  unfold Sh.Ok at h1
  obtain ⟨n, rfl, hn⟩ := h1
  exact ⟨n, y, rfl, hn, h2⟩
theorem ok_bool {l : List Sh} {xs : List AV} (h : OkL (.bool :: l) xs) : ∃ b y, xs = .bool b :: y ∧ OkL l y := by
  unfold OkL at h
  obtain ⟨x, y, rfl, h1, h2⟩ := h
  unfold Sh.Ok at h1
  obtain ⟨n, rfl⟩ := h1
  exact ⟨n, y, rfl, h2⟩
theorem ok_list {z : Nat} {row l : List Sh} {xs : List AV} (h : OkL (.list z row :: l) xs) : ∃ es y, xs = .list z es :: y ∧ es.length ≤ maxLen ∧ (∀ r, r ∈ es → OkL row r) ∧ OkL l y := by
  unfold OkL at h
  obtain ⟨x, y, rfl, h1, h2⟩ := h
  unfold Sh.Ok at h1
  obtain ⟨n, rfl, h3, h4⟩ := h1
  exact ⟨n, y, rfl, h3, h4, h2⟩
theorem ok_nil {xs : List AV} (h : OkL [] xs) : xs = [] := by unfold OkL at h; exact h
theorem wf64 {n : Int} (h : (Lit.int .i64 n).wf = true) : -9223372036854775808 ≤ n ∧ n ≤ 9223372036854775807 := by
  simp [Lit.wf, IntKind.min, IntKind.max, IntKind.signed, IntKind.bits] at h
  omega
theorem ty_conf (x : AV) (h : TyV Try.prog 8 68 x) : ∃ c0 c1 c2 c3 c4 c5 c6 c7 c8 c9 c10 c11 c12 c13 : Int, x = .agg [.int .i64 c0, .int .i64 c1, .int .i64 c2, .int .i64 c3, .int .i64 c4, .int .i64 c5, .int .i64 c6, .int .i64 c7, .int .i64 c8, .int .i64 c9, .int .i64 c10, .int .i64 c11, .int .i64 c12, .int .i64 c13] := by
  obtain ⟨cs, rfl, hx⟩ := h.agg (by kernel_rfl) (show shOf Try.prog 8 68 = some [.int .i64, .int .i64, .int .i64, .int .i64, .int .i64, .int .i64, .int .i64, .int .i64, .int .i64, .int .i64, .int .i64, .int .i64, .int .i64, .int .i64] from by kernel_rfl)
  obtain ⟨c0, _, rfl, _, hx⟩ := ok_int hx
  obtain ⟨c1, _, rfl, _, hx⟩ := ok_int hx
  obtain ⟨c2, _, rfl, _, hx⟩ := ok_int hx
  obtain ⟨c3, _, rfl, _, hx⟩ := ok_int hx
  obtain ⟨c4, _, rfl, _, hx⟩ := ok_int hx
  obtain ⟨c5, _, rfl, _, hx⟩ := ok_int hx
  obtain ⟨c6, _, rfl, _, hx⟩ := ok_int hx
  obtain ⟨c7, _, rfl, _, hx⟩ := ok_int hx
  obtain ⟨c8, _, rfl, _, hx⟩ := ok_int hx
  obtain ⟨c9, _, rfl, _, hx⟩ := ok_int hx
  obtain ⟨c10, _, rfl, _, hx⟩ := ok_int hx
  obtain ⟨c11, _, rfl, _, hx⟩ := ok_int hx
  obtain ⟨c12, _, rfl, _, hx⟩ := ok_int hx
  obtain ⟨c13, _, rfl, _, hx⟩ := ok_int hx
  obtain rfl := ok_nil hx
  exact ⟨c0, c1, c2, c3, c4, c5, c6, c7, c8, c9, c10, c11, c12, c13, rfl⟩
end Go.Proofs.Ytpiocfmdjgbamaa

/- What an int64 is. -/
set_option linter.unusedVariables false
set_option maxRecDepth 100000
namespace Go.Proofs.Ytpiocfmdjgbamaa
open Go Go.RowKit Go.Eng
theorem ty_i64 (x : AV) (h : TyV Try.prog 8 2 x) : ∃ n, x = .int .i64 n ∧ -9223372036854775808 ≤ n ∧ n ≤ 9223372036854775807 := by
  have h := h.one (by kernel_rfl) (show shOf Try.prog 8 2 = some [.int .i64] from by kernel_rfl)
  unfold Sh.Ok at h
  obtain ⟨n, rfl, hn⟩ := h
  exact ⟨n, rfl, wf64 hn⟩
end Go.Proofs.Ytpiocfmdjgbamaa

/- What a track is. -/
set_option linter.unusedVariables false
set_option maxRecDepth 100000
namespace Go.Proofs.Ytpiocfmdjgbamaa
open Go Go.RowKit Go.Eng
theorem ty_track (x : AV) (h : TyV Try.prog 8 25 x) : ∃ (ss : List Sg) (gs : List Gr), x = .agg [.list 3 (ss.map sgRow), .list 5 (gs.map grRow)] := by
  obtain ⟨cs, rfl, k0⟩ := h.agg (by kernel_rfl) (show shOf Try.prog 8 25 = some [.list 3 [.int .i64, .list 2 [.int .i64, .int .i64], .list 1 [.int .i64]], .list 5 [.int .i64, .int .i64, .int .i64, .int .i64, .int .i64]] from by kernel_rfl)
  clear h
  obtain ⟨es, _, rfl, _, hr, k1⟩ := ok_list k0
  obtain ⟨ds, _, rfl, _, hs, k2⟩ := ok_list k1
  obtain rfl := ok_nil k2
  clear k0 k1 k2
  obtain ⟨ss, rfl⟩ := rows_of (f := sgRow) (es := es) fun r hrr => by
    have k0 := hr r hrr
    clear hr hrr
    obtain ⟨len, _, rfl, _, k1⟩ := ok_int k0
    obtain ⟨ps, _, rfl, _, hp, k2⟩ := ok_list k1
    obtain ⟨ns, _, rfl, _, hn, k3⟩ := ok_list k2
    obtain rfl := ok_nil k3
    clear k0 k1 k2 k3
    obtain ⟨qs, rfl⟩ := rows_of (f := pcRow) (es := ps) fun r hrr => by
      have k0 := hp r hrr
      clear hp hrr
      obtain ⟨a, _, rfl, _, k1⟩ := ok_int k0
      obtain ⟨b, _, rfl, _, k2⟩ := ok_int k1
      obtain rfl := ok_nil k2
      exact ⟨(a, b), rfl⟩
    obtain ⟨ms, rfl⟩ := rows_of (f := nxRow) (es := ns) fun r hrr => by
      have k0 := hn r hrr
      clear hn hrr
      obtain ⟨a, _, rfl, _, k1⟩ := ok_int k0
      obtain rfl := ok_nil k1
      exact ⟨a, rfl⟩
    exact ⟨⟨len, qs, ms⟩, rfl⟩
  obtain ⟨gs, rfl⟩ := rows_of (f := grRow) (es := ds) fun r hrr => by
    have k0 := hs r hrr
    clear hr hs hrr
    obtain ⟨a, _, rfl, _, k1⟩ := ok_int k0
    obtain ⟨b, _, rfl, _, k2⟩ := ok_int k1
    obtain ⟨c, _, rfl, _, k3⟩ := ok_int k2
    obtain ⟨d, _, rfl, _, k4⟩ := ok_int k3
    obtain ⟨e, _, rfl, _, k5⟩ := ok_int k4
    obtain rfl := ok_nil k5
    exact ⟨⟨a, b, c, d, e⟩, rfl⟩
  exact ⟨ss, gs, rfl⟩
end Go.Proofs.Ytpiocfmdjgbamaa

/- What the arguments' types tell: numbers, spans, ways. -/
set_option linter.unusedVariables false
set_option linter.unusedSimpArgs false
namespace Go.Proofs.Ytpiocfmdjgbamaa
open Go Go.RowKit Go.Eng
set_option maxRecDepth 100000
theorem ty_intS (x : AV) (h : TyV Try.prog 8 3 x) : ∃ n, x = .int .i64 n := by
  have h := h.one (by kernel_rfl) (show shOf Try.prog 8 3 = some [.int .i64] from by kernel_rfl)
  unfold Sh.Ok at h
  obtain ⟨n, rfl, hn⟩ := h
  exact ⟨n, rfl⟩
theorem ty_span (x : AV) (h : TyV Try.prog 8 50 x) : ∃ a b, x = .agg [.int .i64 a, .int .i64 b] := by
  obtain ⟨cs, rfl, k0⟩ := h.agg (by kernel_rfl) (show shOf Try.prog 8 50 = some [.int .i64, .int .i64] from by kernel_rfl)
  obtain ⟨a, _, rfl, _, k1⟩ := ok_int k0
  obtain ⟨b, _, rfl, _, k2⟩ := ok_int k1
  obtain rfl := ok_nil k2
  exact ⟨a, b, rfl⟩
end Go.Proofs.Ytpiocfmdjgbamaa

