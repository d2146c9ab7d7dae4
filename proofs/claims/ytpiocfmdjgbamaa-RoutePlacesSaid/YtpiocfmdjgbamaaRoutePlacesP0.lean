/- Texts of the proof, joined by wip/tools/pack3.py. -/
import Derived.Test.YtpiocfmdjgbamaaCoreP2
import Derived.KernelRfl
/- The least and the greatest grade of pieces at some places, by the engine. -/
set_option linter.unusedVariables false
set_option linter.unusedSimpArgs false
namespace Go.Proofs.Ytpiocfmdjgbamaa
open Go Go.RowKit Go.Eng
set_option maxRecDepth 100000
theorem e_xhull {a b c d l h : Int} (h1 : a ≤ b) (h2 : c ≤ d) (hl : min a c = l) (hh : max b d = h) : PCalls Try.prog 81 [.agg [.int .i64 a, .int .i64 b], .agg [.int .i64 c, .int .i64 d]] (· = .agg [.int .i64 l, .int .i64 h]) := by
  have r1 := e_xright (a := a) (b := b) true (by simp [h1])
  have r2 := e_xright (a := c) (b := d) true (by simp [h2])
  (refine PCalls.ofY Try.func81 (by kernel_rfl) (by kernel_rfl) fun w hw R hR => ?_); (obtain ⟨wbin, wcmp, wun, wconv, wnot, wbeq, wmm, wscmp, wsadd, wslen, wsat, weqs, wlen, wnlen, wofNat, wtake, wdrop, wapp, wzero, wnat⟩ := w); (have hbin := Z.w1 hw); (have hcmp := Z.w2 hw); (have hun := Z.w3 hw); (have hconv := Z.w4 hw); (have hnot := Z.w5 hw); (have hbeq := Z.w6 hw); (have hmm := Z.w7 hw); (have hscmp := Z.w8 hw); (have hsadd := Z.w9 hw); (have hslen := Z.w10 hw); (have hsat := Z.w11 hw); (have heqs := Z.w12 hw); (have hlen := Z.w13 hw); (have hnlen := Z.w14 hw); (have hofNat := Z.w15 hw); (have htake := Z.w16 hw); (have hdrop := Z.w17 hw); (have happ := Z.w18 hw); (have hzero := Z.w19 hw); (have hnat := Z.w20 hw); (have hz := Z.z hw); (conv => arg 2; cbv); (generalize hP : Try.prog = P); cbv
  have e1 : wmm false a c = l := by rw [hmm, mmF', hl]
  have e2 : wmm true b d = h := by rw [hmm, mmT', hh]
  have n1 : wnot true = false := by rw [hnot]; rfl
  repeat' (first
    | (refine Call.stepE (by rw [← hP]; exact r1) rfl ?_; cbv)
    | (refine Call.stepE (by rw [← hP]; exact r2) rfl ?_; cbv)
    | (simp only [n1]; cbv))
  simp only [e1, e2]
  exact ⟨_, Vw.same rfl, hR _ rfl⟩
theorem e_xat (a : Int) : PCalls Try.prog 98 [.int .i64 a] (· = .agg [.int .i64 a, .int .i64 a]) := by
  (refine PCalls.ofY Try.func98 (by kernel_rfl) (by kernel_rfl) fun w hw R hR => ?_); (obtain ⟨wbin, wcmp, wun, wconv, wnot, wbeq, wmm, wscmp, wsadd, wslen, wsat, weqs, wlen, wnlen, wofNat, wtake, wdrop, wapp, wzero, wnat⟩ := w); (have hbin := Z.w1 hw); (have hcmp := Z.w2 hw); (have hun := Z.w3 hw); (have hconv := Z.w4 hw); (have hnot := Z.w5 hw); (have hbeq := Z.w6 hw); (have hmm := Z.w7 hw); (have hscmp := Z.w8 hw); (have hsadd := Z.w9 hw); (have hslen := Z.w10 hw); (have hsat := Z.w11 hw); (have heqs := Z.w12 hw); (have hlen := Z.w13 hw); (have hnlen := Z.w14 hw); (have hofNat := Z.w15 hw); (have htake := Z.w16 hw); (have hdrop := Z.w17 hw); (have happ := Z.w18 hw); (have hzero := Z.w19 hw); (have hnat := Z.w20 hw); (have hz := Z.z hw); (conv => arg 2; cbv); (generalize hP : Try.prog = P); cbv
  exact ⟨_, Vw.same rfl, hR _ rfl⟩
def reachB (ps : List (Int × Int)) (lo hi : Int) (i : Nat) : Bool :=
  decide ((i = 0 ∨ ∀ p, ps[i]? = some p → p.1 ≤ hi) ∧ (∀ q, ps[i + 1]? = some q → lo ≤ q.1))
def gstep (ps : List (Int × Int)) (lo hi : Int) (s : Int × Int × Bool) (i : Nat) : Int × Int × Bool :=
  if reachB ps lo hi i then (if s.2.2 then (min s.1 (ps.getD i (0, 0)).2, max s.2.1 (ps.getD i (0, 0)).2, true) else ((ps.getD i (0, 0)).2, (ps.getD i (0, 0)).2, true)) else s
def bndG (ps : List (Int × Int)) (lo hi : Int) (n : Nat) : Int × Int × Bool := (List.range n).foldl (gstep ps lo hi) (0, 0, false)
theorem bndG_succ (ps : List (Int × Int)) (lo hi : Int) (n : Nat) : bndG ps lo hi (n + 1) = gstep ps lo hi (bndG ps lo hi n) n := by
  unfold bndG; rw [List.range_succ, List.foldl_append]; rfl
theorem bndG_le (ps : List (Int × Int)) (lo hi : Int) : ∀ n, (bndG ps lo hi n).1 ≤ (bndG ps lo hi n).2.1
  | 0 => Int.le_refl _
  | n + 1 => by
    have := bndG_le ps lo hi n
    rw [bndG_succ]
    unfold gstep
    split
    · split <;> simp only <;> omega
    · exact this
theorem bndG_no (ps : List (Int × Int)) (lo hi : Int) : ∀ n, (bndG ps lo hi n).2.2 = false → bndG ps lo hi n = (0, 0, false)
  | 0, _ => rfl
  | n + 1, h => by
    rw [bndG_succ] at h ⊢
    unfold gstep at h ⊢
    split at h
    · split at h <;> simp at h
    · rename_i hr
      rw [if_neg hr]
      exact bndG_no ps lo hi n h
theorem bndG_in {ps : List (Int × Int)} (hg : ∀ i, i < ps.length → -1048576 ≤ (ps.getD i (0, 0)).2 ∧ (ps.getD i (0, 0)).2 ≤ 1048576) (lo hi : Int) : ∀ n, n ≤ ps.length → -1048576 ≤ (bndG ps lo hi n).1 ∧ (bndG ps lo hi n).2.1 ≤ 1048576 ∧ (bndG ps lo hi n).1 ≤ 1048576 ∧ -1048576 ≤ (bndG ps lo hi n).2.1
  | 0, _ => by simp [bndG]
  | n + 1, hn => by
    have h1 := bndG_in hg lo hi n (by omega)
    have h2 := hg n (by omega)
    rw [bndG_succ]
    unfold gstep
    split
    · split <;> simp only <;> omega
    · exact h1
def bndR (s : Int × Int × Bool) : Int × Int := if s.2.2 then (s.1, s.2.1) else (1048577, -1048577)
structure PcsOk (ps : List (Int × Int)) : Prop where
  zero : ∀ p, ps[0]? = some p → p.1 = 0
  ne : 1 ≤ ps.length
  le : ps.length ≤ 64
  gr : ∀ i, i < ps.length → -1048576 ≤ (ps.getD i (0, 0)).2 ∧ (ps.getD i (0, 0)).2 ≤ 1048576
theorem bndG_found {ps : List (Int × Int)} (hp : PcsOk ps) {lo hi : Int} (h0 : 0 ≤ hi) (h : lo ≤ hi) : (bndG ps lo hi ps.length).2.2 = true := by
  have key : ∀ n, n ≤ ps.length → (bndG ps lo hi n).2.2 = false → n = 0 ∨ ∀ p, ps[n]? = some p → p.1 < lo := by
    intro n
    induction n with
    | zero => intro _ _; exact .inl rfl
    | succ n ih =>
      intro hn hf
      rw [bndG_succ] at hf
      unfold gstep at hf
      split at hf
      · split at hf <;> simp at hf
      · rename_i hr
        have hk := ih (by omega) hf
        refine .inr fun p hp2 => ?_
        unfold reachB at hr
        rw [decide_eq_true_iff] at hr
        apply Classical.byContradiction
        intro hlt
        apply hr
        refine ⟨?_, fun q hq => by rw [hp2] at hq; cases hq; omega⟩
        rcases hk with hk | hk
        · exact .inl hk
        · exact .inr fun q hq => by have := hk q hq; omega
  cases hf : (bndG ps lo hi ps.length).2.2 with
  | true => rfl
  | false =>
    exfalso
    have hne := hp.ne
    obtain ⟨n, hn⟩ : ∃ n, ps.length = n + 1 := ⟨ps.length - 1, by omega⟩
    have hf' := hf
    rw [hn, bndG_succ] at hf
    unfold gstep at hf
    split at hf
    · split at hf <;> simp at hf
    · rename_i hr
      have hk := key n (by omega) hf
      unfold reachB at hr
      rw [decide_eq_true_iff] at hr
      apply hr
      refine ⟨?_, fun q hq => by rw [List.getElem?_eq_none (by omega)] at hq; cases hq⟩
      rcases hk with hk | hk
      · exact .inl hk
      · exact .inr fun q hq => by have := hk q hq; omega
set_option maxHeartbeats 4000000 in
theorem e_gbounds (ps : List (Int × Int)) (hn : ps.length ≤ 1000) (q : List (List AV)) (hq : q = ps.map pcRow) (lo hi : Int) (hlh : lo ≤ hi) (v : Int × Int × Bool) (ev : v = bndG ps lo hi ps.length) :
    PCalls Try.prog 80 [.list 2 q, .agg [.int .i64 lo, .int .i64 hi]] (· = .tuple [.agg [.int .i64 v.1, .int .i64 v.2.1], .bool v.2.2]) := by
  have huq : Up0 q := by rw [hq]; exact up_pc ps
  have hql : q.length = ps.length := by rw [hq]; simp
  have hr := e_xright (a := lo) (b := hi) true (by simp [hlh])
  obtain ⟨v1, v2, v3⟩ := v
  (refine PCalls.ofY Try.func80 (by kernel_rfl) (by kernel_rfl) fun w hw R hR => ?_); (obtain ⟨wbin, wcmp, wun, wconv, wnot, wbeq, wmm, wscmp, wsadd, wslen, wsat, weqs, wlen, wnlen, wofNat, wtake, wdrop, wapp, wzero, wnat⟩ := w); (have hbin := Z.w1 hw); (have hcmp := Z.w2 hw); (have hun := Z.w3 hw); (have hconv := Z.w4 hw); (have hnot := Z.w5 hw); (have hbeq := Z.w6 hw); (have hmm := Z.w7 hw); (have hscmp := Z.w8 hw); (have hsadd := Z.w9 hw); (have hslen := Z.w10 hw); (have hsat := Z.w11 hw); (have heqs := Z.w12 hw); (have hlen := Z.w13 hw); (have hnlen := Z.w14 hw); (have hofNat := Z.w15 hw); (have htake := Z.w16 hw); (have hdrop := Z.w17 hw); (have happ := Z.w18 hw); (have hzero := Z.w19 hw); (have hnat := Z.w20 hw); (have hz := Z.z hw); (conv => arg 2; cbv); (generalize hP : Try.prog = P); cbv
  (obtain ⟨L, eL, L0, Ln⟩ : ∃ L : Int, wlen q = L ∧ 0 ≤ L ∧ L.toNat = q.length := ⟨(q.length : Int), by rw [hlen], Int.natCast_nonneg _, Int.toNat_natCast _⟩)
  simp only [eL]
  refine Loop.data hw (S := Int × Int × Int × Bool × Int × Int) (fun s => fr 66 [(0, .list 2 q), (3, .ref 0 2 0 0), (4, .ref 1 2 0 0), (6, .ref 2 2 0 0), (7, .bool s.2.2.2.1), (12, .list 2 q), (13, .int .i64 L), (14, .int .i64 s.1)])
    (fun s => [.live 2 [[.int .i64 lo, .int .i64 hi]], .live 2 [[.int .i64 s.2.2.2.2.1, .int .i64 s.2.2.2.2.2]], .live 2 [[.int .i64 s.2.1, .int .i64 s.2.2.1]]])
    (fun s => 0 ≤ s.1 ∧ s.1 ≤ L ∧ (s.2.1, s.2.2.1, s.2.2.2.1) = bndG ps lo hi s.1.toNat) (fun s => (L - s.1).toNat) (0, 0, 0, false, 0, 0) (by (refine Wk.eqz (id) (by first | exact fun i _ j _ e => e | (simp only [List.length_cons, List.length_nil]; decide)) ?_; cbv; (repeat' (first | exact trivial | rfl | assumption | apply And.intro | (simp only [hz, Z.a, binStd, cmpStd, unStd, scmpStd, maxI, reduceCtorEq]; first | done | assumption) | exact RowsZ.same (by assumption) (by first | assumption | rfl) | exact FzL.mk rfl rfl rfl (by assumption) (by first | assumption | rfl) (by decide) | (refine RowsZ.one ?_; cbv))))) ⟨Int.le_refl _, L0, rfl⟩ ?_
  rintro ⟨i, a, b, f, x0, y0⟩ hinv Q' hN hE hR'
  have hinv : 0 ≤ i ∧ i ≤ L ∧ (a, b, f) = bndG ps lo hi i.toNat := hinv
  cbv
  obtain ⟨hi0, hi1, hab⟩ := hinv
  (split <;> rename_i hc <;> (try (simp only [hz, Z.a, binStd, cmpStd, unStd, scmpStd, maxI, reduceCtorEq] at hc)) <;> (try cbv))
  rotate_left 1
  · refine hE _ _ _ ?_
    cbv
    have e : (v1, v2, v3) = (a, b, f) := by rw [ev, hab]; congr 1; omega
    simp only [Prod.mk.injEq] at e
    obtain ⟨rfl, rfl, rfl⟩ := e
    repeat' (refine And.intro ?_ ?_)
    all_goals exact ⟨_, Vw.same rfl, hR _ rfl⟩
  obtain ⟨⟨x, y⟩, hd, hrow⟩ := get_map (f := pcRow) (ds := ps) (i := i) hi0 (by omega)
  have hrow : q[i.toNat]? = some [.int .i64 x, .int .i64 y] := by rw [hq]; exact hrow
  obtain ⟨i2, ei2⟩ : ∃ z, z = i + 1 := ⟨_, rfl⟩
  have a4 : wbin .add .i64 i 1 = i2 := by rw [hbin, ei2]; show IntKind.i64.wrap (i + 1) = i + 1; rw [IntKind.wrap_i64]; omega
  have hstep : bndG ps lo hi i2.toNat = gstep ps lo hi (a, b, f) i.toNat := by rw [hab, ← bndG_succ]; congr 1; omega
  have hle : a ≤ b := by
    have := bndG_le ps lo hi i.toNat
    rw [← hab] at this; exact this
  have hgy : (ps.getD i.toNat (0, 0)).2 = y := by rw [List.getD_eq_getElem?_getD, hd]; rfl
  have n1 : wnot true = false := by rw [hnot]; rfl
  have n2 : wnot false = true := by rw [hnot]; rfl
  obtain ⟨l', el'⟩ : ∃ z, min a y = z := ⟨_, rfl⟩
  obtain ⟨h', eh'⟩ : ∃ z, max b y = z := ⟨_, rfl⟩
  have k1 := e_xhull hle (Int.le_refl y) el' eh'
  have k2 := e_xhull (Int.le_refl y) (Int.le_refl y) (show min y y = y by omega) (show max y y = y by omega)
  have k3 := e_xat y
  have hgo : ∀ (o : Bool), reachB ps lo hi i.toNat = o → bndG ps lo hi i2.toNat = if o then (if f then (l', h', true) else (y, y, true)) else (a, b, f) := fun o ho => by
    rw [hstep]; unfold gstep; rw [ho, hgy, el', eh']
  have hno : reachB ps lo hi i.toNat = false → (a, b, f) = bndG ps lo hi i2.toNat := fun h => by rw [hgo _ h]; rfl
  have hye : reachB ps lo hi i.toNat = true → f = true → (l', h', true) = bndG ps lo hi i2.toNat := fun h h2 => by rw [hgo _ h, h2]; rfl
  have hyn : reachB ps lo hi i.toNat = true → f = false → (y, y, true) = bndG ps lo hi i2.toNat := fun h h2 => by rw [hgo _ h, h2]; rfl
  clear hgo
  have hT2 : (L - i2).toNat < (L - i).toNat := by omega
  refine Idx.mk _ hi0 hrow ?_
  cbv
  simp only [eL, a4]
  rcases Int.lt_or_le i2 L with hnx | hnx
  · obtain ⟨⟨x2, y2⟩, hd2, hrow2⟩ := get_map (f := pcRow) (ds := ps) (i := i2) (by omega) (by omega)
    have hrow2 : q[i2.toNat]? = some [.int .i64 x2, .int .i64 y2] := by rw [hq]; exact hrow2
    have hre : reachB ps lo hi i.toNat = decide ((i = 0 ∨ x ≤ hi) ∧ lo ≤ x2) := by
      unfold reachB
      rw [hd, show i.toNat + 1 = i2.toNat by omega, hd2]
      congr 1
      simp only [Option.some.injEq, forall_eq', eq_iff_iff]
      exact and_congr (or_congr (by omega) Iff.rfl) Iff.rfl
    rw [hre] at hno hye hyn
    clear hre hstep
    simp only [decide_eq_true_eq, decide_eq_false_iff_not] at hno hye hyn
    repeat' (first
      | (refine Idx.mk _ (by rw [a4]; omega) (by rw [a4]; exact hrow2) ?_; cbv)
      | (refine Call.stepE (by rw [← hP]; exact hr) rfl ?_; cbv; simp only [n1]; cbv)
      | (refine Call.stepE (by rw [← hP]; exact k3) rfl ?_; cbv)
      | (refine QCal.stepE (by rw [← hP]; exact k3) rfl ?_; cbv)
      | (refine Call.stepE (by rw [← hP]; exact k2) rfl ?_; cbv)
      | (refine QCal.stepE (by rw [← hP]; exact k2) rfl ?_; cbv)
      | (refine Call.stepE (by rw [← hP]; exact k1) rfl ?_; cbv)
      | (refine QCal.stepE (by rw [← hP]; exact k1) rfl ?_; cbv)
      | (split <;> rename_i h <;> (try (simp only [eL, a4] at h)) <;> (try (simp only [hz, Z.a, binStd, cmpStd, unStd, scmpStd, maxI, reduceCtorEq] at h)) <;> (try cbv)))
    all_goals (try simp only [a4])
    all_goals first
      | (exfalso; omega)
      | (refine hN (i2, a, b, f, x0, y0) _ _ ?hx ?hI hT2; (case hx => (refine Wk.eqz (id) (by first | exact fun i _ j _ e => e | (simp only [List.length_cons, List.length_nil]; decide)) ?_; cbv; (repeat' (first | exact trivial | rfl | assumption | apply And.intro | (simp only [hz, Z.a, binStd, cmpStd, unStd, scmpStd, maxI, reduceCtorEq]; first | done | assumption) | exact RowsZ.same (by assumption) (by first | assumption | rfl) | exact FzL.mk rfl rfl rfl (by assumption) (by first | assumption | rfl) (by decide) | (refine RowsZ.one ?_; cbv))))); (case hI => exact ⟨by simp only; omega, by simp only; omega, hno (by omega)⟩))
      | (refine hN (i2, l', h', f, x0, y0) _ _ ?hx ?hI hT2; (case hx => (refine Wk.eqz (id) (by first | exact fun i _ j _ e => e | (simp only [List.length_cons, List.length_nil]; decide)) ?_; cbv; (repeat' (first | exact trivial | rfl | assumption | apply And.intro | (simp only [hz, Z.a, binStd, cmpStd, unStd, scmpStd, maxI, reduceCtorEq]; first | done | assumption) | exact RowsZ.same (by assumption) (by first | assumption | rfl) | exact FzL.mk rfl rfl rfl (by assumption) (by first | assumption | rfl) (by decide) | (refine RowsZ.one ?_; cbv))))); (case hI => exact ⟨by simp only; omega, by simp only; omega, by have := hye (by omega) (by assumption); simp only [show f = true by assumption]; exact this⟩))
      | (refine hN (i2, y, y, true, x0, y0) _ _ ?hx ?hI hT2; (case hx => (refine Wk.eqz (id) (by first | exact fun i _ j _ e => e | (simp only [List.length_cons, List.length_nil]; decide)) ?_; cbv; (repeat' (first | exact trivial | rfl | assumption | apply And.intro | (simp only [hz, Z.a, binStd, cmpStd, unStd, scmpStd, maxI, reduceCtorEq]; first | done | assumption) | exact RowsZ.same (by assumption) (by first | assumption | rfl) | exact FzL.mk rfl rfl rfl (by assumption) (by first | assumption | rfl) (by decide) | (refine RowsZ.one ?_; cbv))))); (case hI => exact ⟨by simp only; omega, by simp only; omega, hyn (by omega) (by assumption)⟩))
  · have hre : reachB ps lo hi i.toNat = decide (i = 0 ∨ x ≤ hi) := by
      unfold reachB
      rw [hd, List.getElem?_eq_none (show ps.length ≤ i.toNat + 1 by omega)]
      congr 1
      simp only [Option.some.injEq, forall_eq', eq_iff_iff]
      refine ⟨fun h => ?_, fun h => ⟨?_, fun q hq => by cases hq⟩⟩
      · exact h.1.imp (by omega) id
      · exact h.imp (by omega) id
    rw [hre] at hno hye hyn
    clear hre hstep
    simp only [decide_eq_true_eq, decide_eq_false_iff_not] at hno hye hyn
    repeat' (first
      | (refine Call.stepE (by rw [← hP]; exact hr) rfl ?_; cbv; simp only [n1]; cbv)
      | (refine Call.stepE (by rw [← hP]; exact k3) rfl ?_; cbv)
      | (refine QCal.stepE (by rw [← hP]; exact k3) rfl ?_; cbv)
      | (refine Call.stepE (by rw [← hP]; exact k2) rfl ?_; cbv)
      | (refine QCal.stepE (by rw [← hP]; exact k2) rfl ?_; cbv)
      | (refine Call.stepE (by rw [← hP]; exact k1) rfl ?_; cbv)
      | (refine QCal.stepE (by rw [← hP]; exact k1) rfl ?_; cbv)
      | (split <;> rename_i h <;> (try (simp only [eL, a4] at h)) <;> (try (simp only [hz, Z.a, binStd, cmpStd, unStd, scmpStd, maxI, reduceCtorEq] at h)) <;> (try cbv)))
    all_goals (try simp only [a4])
    all_goals first
      | (exfalso; omega)
      | (refine hN (i2, a, b, f, x0, y0) _ _ ?hx ?hI hT2; (case hx => (refine Wk.eqz (id) (by first | exact fun i _ j _ e => e | (simp only [List.length_cons, List.length_nil]; decide)) ?_; cbv; (repeat' (first | exact trivial | rfl | assumption | apply And.intro | (simp only [hz, Z.a, binStd, cmpStd, unStd, scmpStd, maxI, reduceCtorEq]; first | done | assumption) | exact RowsZ.same (by assumption) (by first | assumption | rfl) | exact FzL.mk rfl rfl rfl (by assumption) (by first | assumption | rfl) (by decide) | (refine RowsZ.one ?_; cbv))))); (case hI => exact ⟨by simp only; omega, by simp only; omega, hno (by omega)⟩))
      | (refine hN (i2, l', h', f, x0, y0) _ _ ?hx ?hI hT2; (case hx => (refine Wk.eqz (id) (by first | exact fun i _ j _ e => e | (simp only [List.length_cons, List.length_nil]; decide)) ?_; cbv; (repeat' (first | exact trivial | rfl | assumption | apply And.intro | (simp only [hz, Z.a, binStd, cmpStd, unStd, scmpStd, maxI, reduceCtorEq]; first | done | assumption) | exact RowsZ.same (by assumption) (by first | assumption | rfl) | exact FzL.mk rfl rfl rfl (by assumption) (by first | assumption | rfl) (by decide) | (refine RowsZ.one ?_; cbv))))); (case hI => exact ⟨by simp only; omega, by simp only; omega, by have := hye (by omega) (by assumption); simp only [show f = true by assumption]; exact this⟩))
      | (refine hN (i2, y, y, true, x0, y0) _ _ ?hx ?hI hT2; (case hx => (refine Wk.eqz (id) (by first | exact fun i _ j _ e => e | (simp only [List.length_cons, List.length_nil]; decide)) ?_; cbv; (repeat' (first | exact trivial | rfl | assumption | apply And.intro | (simp only [hz, Z.a, binStd, cmpStd, unStd, scmpStd, maxI, reduceCtorEq]; first | done | assumption) | exact RowsZ.same (by assumption) (by first | assumption | rfl) | exact FzL.mk rfl rfl rfl (by assumption) (by first | assumption | rfl) (by decide) | (refine RowsZ.one ?_; cbv))))); (case hI => exact ⟨by simp only; omega, by simp only; omega, hyn (by omega) (by assumption)⟩))
set_option maxHeartbeats 4000000 in
theorem e_rreaches (ps : List (Int × Int)) (hn : ps.length ≤ 1000) (q : List (List AV)) (hq : q = ps.map pcRow) (lo hi i : Int) (hi0 : 0 ≤ i) (hi1 : i.toNat < ps.length) (o : Bool) (eo : o = reachB ps lo hi i.toNat) :
    PCalls Try.prog 101 [.list 2 q, .int .i64 i, .int .i64 lo, .int .i64 hi] (· = .bool o) := by
  have huq : Up0 q := by rw [hq]; exact up_pc ps
  have hql : q.length = ps.length := by rw [hq]; simp
  obtain ⟨⟨x, y⟩, hd, hrow⟩ := get_map (f := pcRow) (ds := ps) (i := i) hi0 hi1
  have hrow : q[i.toNat]? = some [.int .i64 x, .int .i64 y] := by rw [hq]; exact hrow
  obtain ⟨i2, ei2⟩ : ∃ z, z = i + 1 := ⟨_, rfl⟩
  (refine PCalls.ofY Try.func101 (by kernel_rfl) (by kernel_rfl) fun w hw R hR => ?_); (obtain ⟨wbin, wcmp, wun, wconv, wnot, wbeq, wmm, wscmp, wsadd, wslen, wsat, weqs, wlen, wnlen, wofNat, wtake, wdrop, wapp, wzero, wnat⟩ := w); (have hbin := Z.w1 hw); (have hcmp := Z.w2 hw); (have hun := Z.w3 hw); (have hconv := Z.w4 hw); (have hnot := Z.w5 hw); (have hbeq := Z.w6 hw); (have hmm := Z.w7 hw); (have hscmp := Z.w8 hw); (have hsadd := Z.w9 hw); (have hslen := Z.w10 hw); (have hsat := Z.w11 hw); (have heqs := Z.w12 hw); (have hlen := Z.w13 hw); (have hnlen := Z.w14 hw); (have hofNat := Z.w15 hw); (have htake := Z.w16 hw); (have hdrop := Z.w17 hw); (have happ := Z.w18 hw); (have hzero := Z.w19 hw); (have hnat := Z.w20 hw); (have hz := Z.z hw); (conv => arg 2; cbv); (generalize hP : Try.prog = P); cbv
  (obtain ⟨L, eL, L0, Ln⟩ : ∃ L : Int, wlen q = L ∧ 0 ≤ L ∧ L.toNat = q.length := ⟨(q.length : Int), by rw [hlen], Int.natCast_nonneg _, Int.toNat_natCast _⟩)
  have a4 : wbin .add .i64 i 1 = i2 := by rw [hbin, ei2]; show IntKind.i64.wrap (i + 1) = i + 1; rw [IntKind.wrap_i64]; omega
  rcases Int.lt_or_le i2 L with hnx | hnx
  · obtain ⟨⟨x2, y2⟩, hd2, hrow2⟩ := get_map (f := pcRow) (ds := ps) (i := i2) (by omega) (by omega)
    have hrow2 : q[i2.toNat]? = some [.int .i64 x2, .int .i64 y2] := by rw [hq]; exact hrow2
    have hre : o = decide ((i = 0 ∨ x ≤ hi) ∧ lo ≤ x2) := by
      rw [eo]
      unfold reachB
      rw [hd, show i.toNat + 1 = i2.toNat by omega, hd2]
      congr 1
      simp only [Option.some.injEq, forall_eq', eq_iff_iff]
      exact and_congr (or_congr (by omega) Iff.rfl) Iff.rfl
    clear eo
    have hF : ∀ (o' : Bool) (h : AHeap), (o' = true ↔ ((i = 0 ∨ x ≤ hi) ∧ lo ≤ x2)) → Ret [.bool o'] h R := fun o' h k => ⟨_, Vw.same rfl, hR _ (congrArg AV.bool (by rw [hre, Bool.eq_iff_iff, k, decide_eq_true_iff]))⟩
    repeat' (first
      | (refine Idx.mk _ (by omega) hrow ?_; cbv)
      | (refine Idx.mk _ (by rw [a4]; omega) (by rw [a4]; exact hrow2) ?_; cbv)
      | (split <;> rename_i h <;> (try (simp only [eL, a4] at h)) <;> (try (simp only [hz, Z.a, binStd, cmpStd, unStd, scmpStd, maxI, reduceCtorEq] at h)) <;> (try cbv)))
    all_goals first
      | (exfalso; omega)
      | (refine hF false _ ?_; simp; omega)
      | (refine hF true _ ?_; simp; omega)
      | (refine hF _ _ ?_; rw [hcmp]; simp only [cmpStd, decide_eq_true_iff]; omega)
  · have hre : o = decide (i = 0 ∨ x ≤ hi) := by
      rw [eo]
      unfold reachB
      rw [hd, List.getElem?_eq_none (show ps.length ≤ i.toNat + 1 by omega)]
      congr 1
      simp only [Option.some.injEq, forall_eq', eq_iff_iff]
      refine ⟨fun h => ?_, fun h => ⟨?_, fun q hq => by cases hq⟩⟩
      · exact h.1.imp (by omega) id
      · exact h.imp (by omega) id
    clear eo
    have hF : ∀ (o' : Bool) (h : AHeap), (o' = true ↔ (i = 0 ∨ x ≤ hi)) → Ret [.bool o'] h R := fun o' h k => ⟨_, Vw.same rfl, hR _ (congrArg AV.bool (by rw [hre, Bool.eq_iff_iff, k, decide_eq_true_iff]))⟩
    repeat' (first
      | (refine Idx.mk _ (by omega) hrow ?_; cbv)
      | (split <;> rename_i h <;> (try (simp only [eL, a4] at h)) <;> (try (simp only [hz, Z.a, binStd, cmpStd, unStd, scmpStd, maxI, reduceCtorEq] at h)) <;> (try cbv)))
    all_goals first
      | (exfalso; omega)
      | (refine hF false _ ?_; simp; omega)
      | (refine hF true _ ?_; simp; omega)
      | (refine hF _ _ ?_; rw [hcmp]; simp only [cmpStd, decide_eq_true_iff]; omega)
set_option maxHeartbeats 4000000 in
theorem e_rbounds (ps : List (Int × Int)) (hp : PcsOk ps) (q : List (List AV)) (hq : q = ps.map pcRow) (lo hi : Int) (v : Int × Int) (ev : v = bndR (bndG ps lo hi ps.length)) :
    PCalls Try.prog 82 [.list 2 q, .int .i64 lo, .int .i64 hi] (· = .tuple [.int .i64 v.1, .int .i64 v.2]) := by
  have huq : Up0 q := by rw [hq]; exact up_pc ps
  have hql : q.length = ps.length := by rw [hq]; simp
  obtain ⟨v1, v2⟩ := v
  (refine PCalls.ofY Try.func82 (by kernel_rfl) (by kernel_rfl) fun w hw R hR => ?_); (obtain ⟨wbin, wcmp, wun, wconv, wnot, wbeq, wmm, wscmp, wsadd, wslen, wsat, weqs, wlen, wnlen, wofNat, wtake, wdrop, wapp, wzero, wnat⟩ := w); (have hbin := Z.w1 hw); (have hcmp := Z.w2 hw); (have hun := Z.w3 hw); (have hconv := Z.w4 hw); (have hnot := Z.w5 hw); (have hbeq := Z.w6 hw); (have hmm := Z.w7 hw); (have hscmp := Z.w8 hw); (have hsadd := Z.w9 hw); (have hslen := Z.w10 hw); (have hsat := Z.w11 hw); (have heqs := Z.w12 hw); (have hlen := Z.w13 hw); (have hnlen := Z.w14 hw); (have hofNat := Z.w15 hw); (have htake := Z.w16 hw); (have hdrop := Z.w17 hw); (have happ := Z.w18 hw); (have hzero := Z.w19 hw); (have hnat := Z.w20 hw); (have hz := Z.z hw); (conv => arg 2; cbv); (generalize hP : Try.prog = P); cbv
  (obtain ⟨L, eL, L0, Ln⟩ : ∃ L : Int, wlen q = L ∧ 0 ≤ L ∧ L.toNat = q.length := ⟨(q.length : Int), by rw [hlen], Int.natCast_nonneg _, Int.toNat_natCast _⟩)
  (try simp only [eL])
  have hle := hp.le
  refine Loop.data hw (S := Int × Int × Int) (fun s => fr 48 [(0, .list 2 q), (1, .int .i64 lo), (2, .int .i64 hi), (8, .int .i64 s.2.1), (9, .int .i64 s.2.2), (10, .int .i64 s.1)])
    (fun s => []) (fun s => 0 ≤ s.1 ∧ s.1 ≤ L ∧ (s.2.1, s.2.2) = bndR (bndG ps lo hi s.1.toNat)) (fun s => (L - s.1).toNat) (0, 1048577, -1048577) (by (refine Wk.eqz (id) (by first | exact fun i _ j _ e => e | (simp only [List.length_cons, List.length_nil]; decide)) ?_; cbv; (repeat' (first | exact trivial | rfl | assumption | apply And.intro | (simp only [hz, Z.a, binStd, cmpStd, unStd, scmpStd, maxI, reduceCtorEq]; first | done | assumption) | exact RowsZ.same (by assumption) (by first | assumption | rfl) | exact FzL.mk rfl rfl rfl (by assumption) (by first | assumption | rfl) (by decide) | (refine RowsZ.one ?_; cbv))))) ⟨Int.le_refl _, L0, rfl⟩ ?_
  rintro ⟨i, a, b⟩ hinv Q' hN hE hR'
  have hinv : 0 ≤ i ∧ i ≤ L ∧ (a, b) = bndR (bndG ps lo hi i.toNat) := hinv
  cbv
  obtain ⟨hi0, hi1, hab⟩ := hinv
  simp only [eL]
  (split <;> rename_i hc <;> (try (simp only [hz, Z.a, binStd, cmpStd, unStd, scmpStd, maxI, reduceCtorEq] at hc)) <;> (try cbv))
  rotate_left 1
  · refine hE _ _ _ ?_
    cbv
    have e : (v1, v2) = (a, b) := by rw [ev, hab]; congr 2; omega
    simp only [Prod.mk.injEq] at e
    obtain ⟨rfl, rfl⟩ := e
    repeat' (refine And.intro ?_ ?_)
    all_goals exact ⟨_, Vw.same rfl, hR _ rfl⟩
  obtain ⟨⟨x, y⟩, hd, hrow⟩ := get_map (f := pcRow) (ds := ps) (i := i) hi0 (by omega)
  have hrow : q[i.toNat]? = some [.int .i64 x, .int .i64 y] := by rw [hq]; exact hrow
  obtain ⟨i2, ei2⟩ : ∃ z, z = i + 1 := ⟨_, rfl⟩
  have a4 : wbin .add .i64 i 1 = i2 := by rw [hbin, ei2]; show IntKind.i64.wrap (i + 1) = i + 1; rw [IntKind.wrap_i64]; omega
  have hgy : (ps.getD i.toNat (0, 0)).2 = y := by rw [List.getD_eq_getElem?_getD, hd]; rfl
  have hgr := hp.gr i.toNat (by omega)
  have hall := bndG_in hp.gr lo hi i.toNat (by omega)
  rw [hgy] at hgr
  have hT2 : (L - i2).toNat < (L - i).toNat := by omega
  obtain ⟨o, eo⟩ : ∃ o, o = reachB ps lo hi i.toNat := ⟨_, rfl⟩
  have hr := e_rreaches ps (by omega) q hq lo hi i hi0 (by omega) o eo
  have hstep : ∀ a' b', (if o then (a' = min a y ∧ b' = max b y) else (a' = a ∧ b' = b)) → (a', b') = bndR (bndG ps lo hi i2.toNat) := fun a' b' h => by
    rw [show i2.toNat = i.toNat + 1 by omega, bndG_succ]
    unfold gstep bndR at *
    rw [← eo, hgy]
    cases o with
    | false =>
      simp only [Bool.false_eq_true, if_false] at h ⊢
      rw [h.1, h.2, hab]
    | true =>
      simp only [if_true] at h ⊢
      obtain ⟨h1, h2⟩ := h
      generalize hG : bndG ps lo hi i.toNat = G at *
      obtain ⟨g1, g2, g3⟩ := G
      cases g3 with
      | true =>
        simp only [if_true, Prod.mk.injEq] at hab ⊢
        rw [h1, h2, hab.1, hab.2]; exact ⟨rfl, rfl⟩
      | false =>
        simp only [Bool.false_eq_true, if_false, if_true, Prod.mk.injEq] at hab ⊢
        omega
  clear hab hall
  refine Call.stepE (by rw [← hP]; exact hr) (by exact Up0.one huq rfl) ?_
  cbv
  have hT3 := hT2
  repeat' (first
    | (refine Idx.mk _ hi0 hrow ?_; cbv)
    | (split <;> rename_i h <;> (try (simp only [eL, a4] at h)) <;> (try (simp only [hz, Z.a, binStd, cmpStd, unStd, scmpStd, maxI, reduceCtorEq] at h)) <;> (try cbv)))
  all_goals (try simp only [a4])
  all_goals first
    | (refine hN (i2, a, b) _ _ ?hx ?hI hT2; (case hx => (refine Wk.eqz (id) (by first | exact fun i _ j _ e => e | (simp only [List.length_cons, List.length_nil]; decide)) ?_; cbv; (repeat' (first | exact trivial | rfl | assumption | apply And.intro | (simp only [hz, Z.a, binStd, cmpStd, unStd, scmpStd, maxI, reduceCtorEq]; first | done | assumption) | exact RowsZ.same (by assumption) (by first | assumption | rfl) | exact FzL.mk rfl rfl rfl (by assumption) (by first | assumption | rfl) (by decide) | (refine RowsZ.one ?_; cbv))))); (case hI => exact ⟨by simp only; omega, by simp only; omega, hstep a b (by simp_all; try omega)⟩))
    | (refine hN (i2, y, b) _ _ ?hx ?hI hT2; (case hx => (refine Wk.eqz (id) (by first | exact fun i _ j _ e => e | (simp only [List.length_cons, List.length_nil]; decide)) ?_; cbv; (repeat' (first | exact trivial | rfl | assumption | apply And.intro | (simp only [hz, Z.a, binStd, cmpStd, unStd, scmpStd, maxI, reduceCtorEq]; first | done | assumption) | exact RowsZ.same (by assumption) (by first | assumption | rfl) | exact FzL.mk rfl rfl rfl (by assumption) (by first | assumption | rfl) (by decide) | (refine RowsZ.one ?_; cbv))))); (case hI => exact ⟨by simp only; omega, by simp only; omega, hstep y b (by simp_all; try omega)⟩))
    | (refine hN (i2, a, y) _ _ ?hx ?hI hT2; (case hx => (refine Wk.eqz (id) (by first | exact fun i _ j _ e => e | (simp only [List.length_cons, List.length_nil]; decide)) ?_; cbv; (repeat' (first | exact trivial | rfl | assumption | apply And.intro | (simp only [hz, Z.a, binStd, cmpStd, unStd, scmpStd, maxI, reduceCtorEq]; first | done | assumption) | exact RowsZ.same (by assumption) (by first | assumption | rfl) | exact FzL.mk rfl rfl rfl (by assumption) (by first | assumption | rfl) (by decide) | (refine RowsZ.one ?_; cbv))))); (case hI => exact ⟨by simp only; omega, by simp only; omega, hstep a y (by simp_all; try omega)⟩))
    | (refine hN (i2, y, y) _ _ ?hx ?hI hT2; (case hx => (refine Wk.eqz (id) (by first | exact fun i _ j _ e => e | (simp only [List.length_cons, List.length_nil]; decide)) ?_; cbv; (repeat' (first | exact trivial | rfl | assumption | apply And.intro | (simp only [hz, Z.a, binStd, cmpStd, unStd, scmpStd, maxI, reduceCtorEq]; first | done | assumption) | exact RowsZ.same (by assumption) (by first | assumption | rfl) | exact FzL.mk rfl rfl rfl (by assumption) (by first | assumption | rfl) (by decide) | (refine RowsZ.one ?_; cbv))))); (case hI => exact ⟨by simp only; omega, by simp only; omega, hstep y y (by simp_all; try omega)⟩))
end Go.Proofs.Ytpiocfmdjgbamaa

/- Where a group lies on some ways, plainly. -/
namespace Go.Proofs.Ytpiocfmdjgbamaa
open Go Go.RowKit Go.Eng
def plc (ss : List Sg) (sg off : Int) : Int → List Int → List Int
  | _, [] => []
  | a, n :: l => (if n = sg then [a + off] else []) ++ plc ss sg off (a + lenAt ss n) l
def plcs (ss : List Sg) (sg off from_ : Int) (m : List (List Int)) : List Int := m.flatMap (plc ss sg off (-from_))
def addQ : List Int → Int → List Int
  | [], x => [x]
  | k :: l, x => if k < x then k :: addQ l x else if x < k then x :: k :: l else k :: l
theorem addQ_lt {k x : Int} {l : List Int} (h : k < x) : addQ (k :: l) x = k :: addQ l x := by simp only [addQ]; rw [if_pos h]
theorem addQ_gt {k x : Int} {l : List Int} (h : x < k) : addQ (k :: l) x = x :: k :: l := by simp only [addQ]; rw [if_neg (by omega), if_pos h]
theorem addQ_eq {k x : Int} {l : List Int} (h : x ≤ k) (h2 : k ≤ x) : addQ (k :: l) x = k :: l := by simp only [addQ]; rw [if_neg (by omega), if_neg (by omega)]
theorem addQ_mem : ∀ (l : List Int) (x y : Int), y ∈ addQ l x ↔ y ∈ l ∨ y = x
  | [], x, y => by simp [addQ]
  | k :: l, x, y => by
    simp only [addQ]
    split
    · rw [List.mem_cons, addQ_mem l x y, List.mem_cons, or_assoc]
    · split
      · simp only [List.mem_cons]
        constructor
        · rintro (h | h | h)
          · exact .inr h
          · exact .inl (.inl h)
          · exact .inl (.inr h)
        · rintro ((h | h) | h)
          · exact .inr (.inl h)
          · exact .inr (.inr h)
          · exact .inl h
      · have : k = x := by omega
        rw [List.mem_cons, this]
        constructor
        · exact .inl
        · rintro (h | h)
          · exact h
          · exact .inl h
theorem addQ_sorted : ∀ (l : List Int) (x : Int), l.Pairwise (· < ·) → (addQ l x).Pairwise (· < ·)
  | [], x, _ => List.pairwise_singleton _ _
  | k :: l, x, h => by
    obtain ⟨h1, h2⟩ := List.pairwise_cons.1 h
    simp only [addQ]
    split
    · rename_i hk
      refine List.pairwise_cons.2 ⟨fun y hy => ?_, addQ_sorted l x h2⟩
      rcases (addQ_mem l x y).1 hy with hy | hy
      · exact h1 y hy
      · omega
    · split
      · rename_i hk
        refine List.pairwise_cons.2 ⟨fun y hy => ?_, h⟩
        rcases List.mem_cons.1 hy with rfl | hy
        · exact hk
        · have := h1 y hy; omega
      · exact h
theorem addQ_len : ∀ (l : List Int) (x : Int), (addQ l x).length ≤ l.length + 1
  | [], x => by simp [addQ]
  | k :: l, x => by
    have := addQ_len l x
    simp only [addQ]
    split
    · simp only [List.length_cons]; omega
    · split <;> simp
theorem adds_sorted : ∀ (l q : List Int), q.Pairwise (· < ·) → (l.foldl addQ q).Pairwise (· < ·) ∧ (∀ y, y ∈ l.foldl addQ q ↔ y ∈ q ∨ y ∈ l) ∧ (l.foldl addQ q).length ≤ q.length + l.length
  | [], q, h => ⟨h, fun y => by simp, by simp⟩
  | x :: l, q, h => by
    obtain ⟨h1, h2, h3⟩ := adds_sorted l (addQ q x) (addQ_sorted q x h)
    have := addQ_len q x
    refine ⟨h1, fun y => ?_, by simp only [List.foldl_cons, List.length_cons]; omega⟩
    rw [List.foldl_cons, h2, addQ_mem, List.mem_cons, or_assoc]
theorem sorted_ext : ∀ (l m : List Int), l.Pairwise (· < ·) → m.Pairwise (· < ·) → (∀ x, x ∈ l ↔ x ∈ m) → l = m
  | [], [], _, _, _ => rfl
  | [], b :: m, _, _, h => by have := (h b).2 List.mem_cons_self; simp at this
  | a :: l, [], _, _, h => by have := (h a).1 List.mem_cons_self; simp at this
  | a :: l, b :: m, h1, h2, h => by
    obtain ⟨a1, a2⟩ := List.pairwise_cons.1 h1
    obtain ⟨b1, b2⟩ := List.pairwise_cons.1 h2
    have e : a = b := by
      have k1 := (h a).1 List.mem_cons_self
      have k2 := (h b).2 List.mem_cons_self
      rcases List.mem_cons.1 k1 with k1 | k1
      · exact k1
      · rcases List.mem_cons.1 k2 with k2 | k2
        · exact k2.symm
        · have := b1 a k1; have := a1 b k2; omega
    subst e
    congr 1
    refine sorted_ext l m a2 b2 fun x => ⟨fun hx => ?_, fun hx => ?_⟩
    · rcases List.mem_cons.1 ((h x).1 (List.mem_cons_of_mem _ hx)) with k | k
      · have := a1 x hx; omega
      · exact k
    · rcases List.mem_cons.1 ((h x).2 (List.mem_cons_of_mem _ hx)) with k | k
      · have := b1 x hx; omega
      · exact k
def plcR (ss : List Sg) (sg off from_ : Int) (m : List (List Int)) : List Int := (plcs ss sg off from_ m).foldl addQ []
theorem plcR_unique {ss : List Sg} {sg off from_ : Int} {m : List (List Int)} {os : List Int} (h1 : os.Pairwise (· < ·)) (h2 : ∀ x, x ∈ os ↔ x ∈ plcs ss sg off from_ m) : os = plcR ss sg off from_ m := by
  obtain ⟨k1, k2, _⟩ := adds_sorted (plcs ss sg off from_ m) [] List.Pairwise.nil
  exact sorted_ext _ _ h1 k1 fun x => by rw [h2]; unfold plcR at *; rw [k2]; simp
theorem plc_len (ss : List Sg) (sg off : Int) : ∀ (l : List Int) (a : Int), (plc ss sg off a l).length ≤ l.length
  | [], a => by simp [plc]
  | n :: l, a => by
    have := plc_len ss sg off l (a + lenAt ss n)
    simp only [plc, List.length_append, List.length_cons]
    split <;> simp <;> omega
theorem plcs_len (ss : List Sg) (sg off from_ : Int) : ∀ (m : List (List Int)), (∀ l, l ∈ m → l.length ≤ 12) → (plcs ss sg off from_ m).length ≤ 12 * m.length
  | [], _ => by simp [plcs]
  | l :: m, h => by
    have h1 := plcs_len ss sg off from_ m fun x hx => h x (List.mem_cons_of_mem _ hx)
    have h2 := plc_len ss sg off l (-from_)
    have h3 := h l List.mem_cons_self
    unfold plcs at h1 ⊢
    rw [List.flatMap_cons, List.length_append, List.length_cons]
    omega
theorem plcs_snoc (ss : List Sg) (sg off from_ : Int) (m : List (List Int)) (l : List Int) : plcs ss sg off from_ (m ++ [l]) = plcs ss sg off from_ m ++ plc ss sg off (-from_) l := by
  unfold plcs; rw [List.flatMap_append]; simp
end Go.Proofs.Ytpiocfmdjgbamaa

/- slices.Sort and slices.Compact at an own slot of numbers of 64 bits. -/
namespace Go.Proofs.Ytpiocfmdjgbamaa
open Go Go.RowKit Go.Eng Go.Shelf Go.Sort Go.Lib
set_option maxRecDepth 100000
theorem frozen_blk' {w : World} {b : Nat} {cs : Array Value} {t : TypeId} (h : w.heap[b]? = some (.cells cs t (0, 0))) (i : Nat) : w.frozen? ⟨b, i, none⟩ = false := by
  unfold World.frozen?
  simp [h]
theorem nx_get {ns : List Int} {i : Nat} {r : List AV} (h : (ns.map nxRow)[i]? = some r) : i < ns.length ∧ r = [.int .i64 ns[i]!] := by
  rw [List.getElem?_map] at h
  cases hi : ns[i]? with
  | none => rw [hi] at h; cases h
  | some y =>
    rw [hi] at h
    simp only [Option.map_some, Option.some.injEq] at h
    obtain ⟨h1, h2⟩ := List.getElem?_eq_some_iff.1 hi
    exact ⟨h1, by rw [← h, getElem!_pos ns i h1, h2]; rfl⟩
theorem holds_nx {C : Cfg} (RC : Rel C) {s : Nat} {ns : List Int} (hs : C.h[s]? = some (.live 1 (ns.map nxRow))) : C.r s < C.w.heap.size ∧ Go.Sort.Holds (Value.int .i64) C.w (C.r s) 0 ns.toArray := by
  obtain ⟨_, hO, hrl, us, ty, hcell, hul, hur⟩ := RC.live s 1 _ hs (by decide)
  refine ⟨(Array.getElem?_eq_some_iff.1 hcell).1, fun j hj => ⟨?_, frozen_blk' hcell _⟩⟩
  have hj' : j < ns.length := by simpa using hj
  have hv := (hur j [.int .i64 ns[j]!] (by rw [List.getElem?_map, List.getElem?_eq_getElem hj', getElem!_pos ns j hj']; rfl) 0 _ rfl).int'
  have hju : j < us.size := by simp at hul; omega
  unfold World.cell?
  simp only [hcell, Option.isSome_none, Bool.false_eq_true, if_false, Nat.zero_add]
  rw [Nat.mul_one, Nat.add_zero, Array.getD_eq_getD_getElem?, Array.getElem?_eq_getElem hju] at hv
  rw [Array.getElem?_eq_getElem hju]
  simp only [Option.getD_some] at hv
  rw [hv]
  simp [hj']
theorem put_nx {C : Cfg} (RC : Rel C) {s : Nat} {ns ns' : List Int} (hs : C.h[s]? = some (.live 1 (ns.map nxRow))) (hl : ns'.length = ns.length) (m : Nat) :
    Rel { C with h := C.h.set s (.live 1 (ns'.map nxRow)), w := putRow (Value.int .i64) (Sort.ahead C.w m) (C.r s) 0 ns'.toArray } ∧ Ext C.h.length C { C with h := C.h.set s (.live 1 (ns'.map nxRow)), w := putRow (Value.int .i64) (Sort.ahead C.w m) (C.r s) 0 ns'.toArray } := by
  obtain ⟨_, hO, hrl, us, ty, hcell, hul, hur⟩ := RC.live s 1 _ hs (by decide)
  have hslt : s < C.h.length := (List.getElem?_eq_some_iff.1 hs).1
  have hw1 : (putRow (Value.int .i64) (Sort.ahead C.w m) (C.r s) 0 ns'.toArray).heap[C.r s]? = some (.cells (putCells (Value.int .i64) 0 ns'.toArray us) ty (0, 0)) := by
    simp only [putRow, mapBlock, Sort.ahead, Array.getElem?_modify, if_true, hcell, Option.map_some, onCells]
  have hw2 : ∀ b, b ≠ C.r s → (putRow (Value.int .i64) (Sort.ahead C.w m) (C.r s) 0 ns'.toArray).heap[b]? = C.w.heap[b]? := fun b hb => by
    simp only [putRow, mapBlock, Sort.ahead, Array.getElem?_modify, if_neg (Ne.symm hb)]
  refine Rel.write RC s (C.h.set s (.live 1 (ns'.map nxRow))) (putRow (Value.int .i64) (Sort.ahead C.w m) (C.r s) 0 ns'.toArray) 1 (ns.map nxRow) (ns'.map nxRow) us (putCells (Value.int .i64) 0 ns'.toArray us) ty C.h.length (by decide) hs
    (List.getElem?_set_self hslt) (fun k hk => List.getElem?_set_ne (Ne.symm hk)) hcell hw1 (by simp [putCells]) hw2 rfl rfl rfl (by simp [putRow, mapBlock, Sort.ahead])
    (fun e he => by obtain ⟨x, _, rfl⟩ := List.mem_map.1 he; rfl) (by simp [putCells] at hul ⊢; omega) (fun i e he j x hx => ?_)
  obtain ⟨hi, rfl⟩ := nx_get he
  cases j with
  | succ j => simp at hx
  | zero =>
    simp only [List.getElem?_cons_zero, Option.some.injEq] at hx
    subst hx
    have hiu : i < us.size := by simp at hul; omega
    have : (putCells (Value.int .i64) 0 ns'.toArray us).getD (i * 1 + 0) undef = .int .i64 ns'[i]! := by
      rw [Nat.mul_one, Nat.add_zero, Array.getD_eq_getD_getElem?]
      unfold putCells
      rw [Array.getElem?_mapIdx, Array.getElem?_eq_getElem hiu]
      simp only [Option.map_some, Option.getD_some, Nat.zero_le, true_and, Nat.zero_add, Nat.sub_zero]
      rw [if_pos (by simpa using hi)]
      simp [hi]
    rw [this]
    exact .int _ _
theorem call_sort64 {P : Program} (hP : Try.prog = P) {h : AHeap} {K : AV → AHeap → Prop} {s n : Nat} {es : List (List AV)} {ns : List Int} (hs : h[s]? = some (.live 1 es)) (hes : es = ns.map nxRow) (hn : n = ns.length) (hsz : ns.length ≤ 1000000)
    (hK : ∀ ns' : List Int, ns'.Perm ns → ns'.Pairwise (· ≤ ·) → K (.tuple []) (h.set s (.live 1 (ns'.map nxRow)))) :
    ACall P 77 [.sl s 1 0 n] h K := by
  subst hP hes
  refine ⟨⟨_, Try.func77, by kernel_rfl, by kernel_rfl⟩, fun C vs hC RC hv => ?_⟩
  subst hC
  obtain ⟨hvl, hv0⟩ := hv
  have hvs : vs = #[vs.getD 0 undef] := by
    have hn : vs.size = 1 := by simpa using hvl
    obtain ⟨l⟩ := vs
    match l, hn with
    | [x], _ => rfl
  obtain ⟨cap, e0, hus, hnc, _⟩ := (hv0 0 _ rfl).sls
  rw [hvs, e0]
  obtain ⟨hBm, hH⟩ := holds_nx RC hs
  have hcall := AnyM.slices_Sort_int Try.sortL64 (C.r s) 0 cap ns C.w hH hBm (by omega)
  rw [← hn] at hcall
  refine hcall.mono ?_
  rintro e w' ⟨rfl, m, os, rfl⟩
  have hperm : (ns.mergeSort fun x y => decide (x ≤ y)).Perm ns := List.mergeSort_perm _ _
  have hsort : (ns.mergeSort fun x y => decide (x ≤ y)).Pairwise (· ≤ ·) := by
    have := List.pairwise_mergeSort (le := fun x y : Int => decide (x ≤ y)) (fun a b c h1 h2 => by simp at h1 h2 ⊢; omega) (fun a b => by simp; omega) ns
    exact this.imp fun h => by simpa using h
  generalize ns.mergeSort (fun x y => decide (x ≤ y)) = ns' at hperm hsort
  obtain ⟨R1, E1⟩ := put_nx RC hs hperm.length_eq m
  have hbel : Below (putRow (Value.int .i64) (Sort.ahead C.w m) (C.r s) 0 ns'.toArray).heap.size (putRow (Value.int .i64) (Sort.ahead C.w m) (C.r s) 0 ns'.toArray) (Go.Sort.grow (putRow (Value.int .i64) (Sort.ahead C.w m) (C.r s) 0 ns'.toArray) os) :=
    ⟨rfl, rfl, rfl, by simp [Go.Sort.grow], fun b hb => by simp only [Go.Sort.grow]; rw [Array.getElem?_append_left hb]⟩
  obtain ⟨R2, E2⟩ := Rel.below R1 hbel
  exact ⟨_, _, _, rfl, hK ns' hperm hsort, rfl, R2, .tuple [] #[] rfl (fun i x hx => by simp at hx), E1.trans (E2 _), by simp⟩
theorem call_sort64_nil {P : Program} (hP : Try.prog = P) : PCalls P 77 [.nils] (· = .tuple []) := by
  subst hP
  refine ⟨⟨_, Try.func77, by kernel_rfl, by kernel_rfl⟩, fun C vs hC RC hv => ?_⟩
  obtain ⟨hvl, hv0⟩ := hv
  have hvs : vs = #[vs.getD 0 undef] := by
    have hn : vs.size = 1 := by simpa using hvl
    obtain ⟨l⟩ := vs
    match l, hn with
    | [x], _ => rfl
  have e0 := (hv0 0 _ rfl).nils'
  rw [hvs, e0]
  refine (AnyM.slices_Sort_int_none Try.sortL64 none 0 C.w).mono ?_
  rintro e w' ⟨rfl, rfl⟩
  exact ⟨_, _, C, rfl, rfl, hC, rfl, RC, .tuple [] #[] rfl (fun i x hx => by simp at hx), .refl _ _⟩
theorem compact_sorted {ns : List Int} (h : ns.Pairwise (· ≤ ·)) : (compactUpTo ns.toArray ns.length).Pairwise (· < ·) ∧ ∀ x, x ∈ compactUpTo ns.toArray ns.length ↔ x ∈ ns := by
  have key : ∀ m, m ≤ ns.length → (compactUpTo ns.toArray m).Pairwise (· < ·) ∧ (∀ x, x ∈ compactUpTo ns.toArray m ↔ x ∈ ns.take m) := by
    intro m
    induction m with
    | zero => intro _; simp [compactUpTo]
    | succ m ih =>
      intro hm
      obtain ⟨h1, h2⟩ := ih (by omega)
      have hmm : ns.toArray[m]! = ns[m] := by rw [getElem!_pos _ _ (by simp; omega)]; simp
      have ht : ns.take (m + 1) = ns.take m ++ [ns[m]] := by rw [List.take_add_one, List.getElem?_eq_getElem (by omega)]; rfl
      rw [compactUpTo_succ, ht]
      by_cases hk : keeps ns.toArray m = true
      · rw [if_pos hk, hmm]
        refine ⟨List.pairwise_append.2 ⟨h1, List.pairwise_singleton _ _, fun x hx y hy => ?_⟩, fun x => by rw [List.mem_append, List.mem_append, h2]⟩
        simp at hy
        subst hy
        have hx' := (h2 x).1 hx
        obtain ⟨i, hi, rfl⟩ := List.getElem_of_mem hx'
        rw [List.length_take] at hi
        rw [List.getElem_take]
        have hk' : m = 0 ∨ ns[m]! ≠ ns[m - 1]! := by
          unfold keeps at hk
          simpa using hk
        have hm0 : m ≠ 0 := by omega
        rcases hk' with hk' | hk'
        · exact absurd hk' hm0
        · rw [getElem!_pos ns m (by omega), getElem!_pos ns (m - 1) (by omega)] at hk'
          rw [List.pairwise_iff_getElem] at h
          have a1 := h (m - 1) m (by omega) (by omega) (by omega)
          have a2 : ns[i] ≤ ns[m - 1] := by
            by_cases e : i = m - 1
            · subst e; exact Int.le_refl _
            · exact h i (m - 1) (by omega) (by omega) (by omega)
          omega
      · rw [if_neg hk, List.append_nil]
        refine ⟨h1, fun x => ?_⟩
        rw [h2, List.mem_append, List.mem_singleton]
        have hk' : ¬ (m = 0 ∨ ns[m]! ≠ ns[m - 1]!) := by
          unfold keeps at hk
          simpa using hk
        have e : ns[m] = ns[m - 1] := by
          have h3 : ns[m]! = ns[m - 1]! := by
            apply Classical.byContradiction; intro h3; exact hk' (.inr h3)
          rwa [getElem!_pos ns m (by omega), getElem!_pos ns (m - 1) (by omega)] at h3
        constructor
        · exact .inl
        · rintro (h4 | h4)
          · exact h4
          · rw [h4, e]
            have hm0 : m ≠ 0 := fun h5 => hk' (.inl h5)
            exact List.mem_take_iff_getElem.2 ⟨m - 1, by omega, rfl⟩
  have := key ns.length (Nat.le_refl _)
  rwa [List.take_length] at this
theorem compact_len (d : Array Int) (m : Nat) : (compactUpTo d m).length ≤ m := by
  unfold compactUpTo
  rw [List.length_map]
  exact Nat.le_trans (List.length_filter_le _ _) (by simp)
theorem call_compact64 {P : Program} (hP : Try.prog = P) {h : AHeap} {K : AV → AHeap → Prop} {s n : Nat} {es : List (List AV)} {ns : List Int} (hs : h[s]? = some (.live 1 es)) (hes : es = ns.map nxRow) (hn : n = ns.length) (hsz : ns.length ≤ 1000000) (hsort : ns.Pairwise (· ≤ ·))
    (hK : ∀ (os zs : List Int), os.Pairwise (· < ·) → (∀ x, x ∈ os ↔ x ∈ ns) → os.length ≤ ns.length → K (.sl s 1 0 os.length) (h.set s (.live 1 ((os ++ zs).map nxRow)))) :
    ACall P 78 [.sl s 1 0 n] h K := by
  subst hP hes
  refine ⟨⟨_, Try.func78, by kernel_rfl, by kernel_rfl⟩, fun C vs hC RC hv => ?_⟩
  subst hC
  obtain ⟨hvl, hv0⟩ := hv
  have hvs : vs = #[vs.getD 0 undef] := by
    have hn : vs.size = 1 := by simpa using hvl
    obtain ⟨l⟩ := vs
    match l, hn with
    | [x], _ => rfl
  obtain ⟨cap, e0, hus, hnc, hshape⟩ := (hv0 0 _ rfl).sls
  rw [hvs, e0]
  obtain ⟨hBm, hH⟩ := holds_nx RC hs
  have hcall := AnyE.slices_Compact Try.compactL (Value.int .i64) (fun _ => rfl) (EqlAt.intD _ _ .i64) (NeqAt.intD _ _ .i64) 0 Try.zeroValue2 (C.r s) 0 cap ns.toArray C.w hH (by simp; omega) (by simp; omega)
  have hsz' : ns.toArray.size = n := by simp [hn]
  rw [hsz'] at hcall
  refine hcall.mono ?_
  rintro e w' ⟨rfl, m, rfl⟩
  have hcl := compact_len ns.toArray n
  obtain ⟨c1, c2⟩ := compact_sorted hsort
  rw [← hn] at c1 c2
  generalize compactUpTo ns.toArray n = os at hcl c1 c2
  have hlen : (os ++ List.replicate (n - os.length) 0).length = ns.length := by simp; omega
  obtain ⟨R1, E1⟩ := put_nx RC hs hlen m
  exact ⟨_, _, _, rfl, hK os _ c1 c2 (by omega), rfl, R1, E1.vr' (VR.sl s 1 0 os.length cap hus (by omega) hshape), E1, by simp⟩
end Go.Proofs.Ytpiocfmdjgbamaa

/- route.Set.Places, by the engine. Printed by wip/tools/genplaces.py. -/
namespace Go.Proofs.Ytpiocfmdjgbamaa
open Go Go.RowKit Go.Eng
set_option maxRecDepth 100000
def RepL (o : Option (Nat × List (List AV))) (acc : List Int) : Prop := match o with | none => acc = [] | some (k, w) => w = acc.map nxRow ∧ k = w.length ∧ Up0 w
theorem drop_getP {α : Type} {l : List α} {i : Nat} {a : α} (h : l[i]? = some a) : l.drop i = a :: l.drop (i + 1) := by
  obtain ⟨h1, h2⟩ := List.getElem?_eq_some_iff.1 h
  rw [List.drop_eq_getElem_cons h1, h2]
theorem e_compactNil : PCalls Try.prog 78 [.nils] (· = .nils) := by
  (refine PCalls.ofY Try.func78 (by kernel_rfl) (by kernel_rfl) fun w hw R hR => ?_); (subst hw); (conv => arg 2; cbv); (generalize hP : Try.prog = P); cbv
  exact ⟨_, Vw.same rfl, hR _ rfl⟩
set_option maxHeartbeats 8000000 in
theorem e_places (ss : List Sg) (gs : List Gr) (es ds : List (List AV)) (hes : es = ss.map sgRow) (hds : ds = gs.map grRow) (hln : LensOk ss) (from_ : Int) (hf : 0 ≤ from_ ∧ from_ ≤ 1099511627776) (m : List (List Int)) (hw1 : ∀ l, l ∈ m → l.length ≤ 12 ∧ ∀ n, n ∈ l → 0 ≤ n ∧ n.toNat < ss.length) (hm : m.length ≤ 1000) (rs : List (List AV)) (hrs : rs = m.map rtC)
    (g : Int) (hg : 0 ≤ g) (G : Gr) (hG : gs[g.toNat]? = some G) (hoff : 0 ≤ G.off ∧ G.off ≤ 1099511627776) :
    PCalls Try.prog 49 [.agg [.int .i64 from_, .list 13 rs], .agg [.list 3 es, .list 5 ds], .int .i64 g] (· = .list 1 ((plcR ss G.seg G.off from_ m).map nxRow)) := by
  have hu : Up0 es := by rw [hes]; exact up_sg ss
  have hud : Up0 ds := by rw [hds]; exact up_gr gs
  have hur : Up0 rs := by rw [hrs]; exact up_map (f := rtC) (fun d => rfl) m
  have hrl : rs.length = m.length := by rw [hrs]; simp
  have hdl : ds.length = gs.length := by rw [hds]; simp
  have hgl := (List.getElem?_eq_some_iff.1 hG).1
  obtain ⟨gid, gseg, goff, gacc, gsl⟩ := G
  have hG : ds[g.toNat]? = some [.int .i64 gid, .int .i64 gseg, .int .i64 goff, .int .i64 gacc, .int .i64 gsl] := by rw [hds, List.getElem?_map, hG]; rfl
  simp only at hoff
  obtain ⟨v, ev⟩ : ∃ v, v = plcR ss gseg goff from_ m := ⟨_, rfl⟩
  show PCalls Try.prog 49 [.agg [.int .i64 from_, .list 13 rs], .agg [.list 3 es, .list 5 ds], .int .i64 g] (· = .list 1 ((plcR ss gseg goff from_ m).map nxRow))
  rw [← ev]
  have hpl := plcs_len ss gseg goff from_ m fun l hl => (hw1 l hl).1
  (refine PCalls.ofY Try.func49 (by kernel_rfl) (by kernel_rfl) fun w hw R hR => ?_); (obtain ⟨wbin, wcmp, wun, wconv, wnot, wbeq, wmm, wscmp, wsadd, wslen, wsat, weqs, wlen, wnlen, wofNat, wtake, wdrop, wapp, wzero, wnat⟩ := w); (have hbin := Z.w1 hw); (have hcmp := Z.w2 hw); (have hun := Z.w3 hw); (have hconv := Z.w4 hw); (have hnot := Z.w5 hw); (have hbeq := Z.w6 hw); (have hmm := Z.w7 hw); (have hscmp := Z.w8 hw); (have hsadd := Z.w9 hw); (have hslen := Z.w10 hw); (have hsat := Z.w11 hw); (have heqs := Z.w12 hw); (have hlen := Z.w13 hw); (have hnlen := Z.w14 hw); (have hofNat := Z.w15 hw); (have htake := Z.w16 hw); (have hdrop := Z.w17 hw); (have happ := Z.w18 hw); (have hzero := Z.w19 hw); (have hnat := Z.w20 hw); (have hz := Z.z hw); (conv => arg 2; cbv); (generalize hP : Try.prog = P); cbv
  (obtain ⟨J, eJ, J0, Jn⟩ : ∃ L : Int, wlen ds = L ∧ 0 ≤ L ∧ L.toNat = ds.length := ⟨(ds.length : Int), by rw [hlen], Int.natCast_nonneg _, Int.toNat_natCast _⟩)
  (obtain ⟨L, eL, L0, Ln⟩ : ∃ L : Int, wlen rs = L ∧ 0 ≤ L ∧ L.toNat = rs.length := ⟨(rs.length : Int), by rw [hlen], Int.natCast_nonneg _, Int.toNat_natCast _⟩)
  repeat' (first | (exfalso; omega) | (split <;> rename_i h <;> (try (simp only [eJ] at h)) <;> (try (simp only [hz, Z.a, binStd, cmpStd, unStd, scmpStd, maxI, reduceCtorEq] at h)) <;> (try cbv)))
  all_goals first | (exfalso; omega) | skip
  refine Idx.mk _ hg hG ?_
  cbv
  (refine Call.inl hw hP Try.func75 (by kernel_rfl) (by kernel_rfl) ?_); (conv => arg 2; cbv); cbv
  simp only [eL]
  obtain ⟨a0, ea0⟩ : ∃ a0, a0 = -from_ := ⟨_, rfl⟩
  have c0 : wun .neg .i64 from_ = a0 := by rw [hun, ea0]; simp only [unStd]; rw [IntKind.wrap_i64]; omega
  refine Loop.dataN hw (S := Int × Option (Nat × List (List AV))) (fun s => fr 42 [(2, .func (.func 76) [] [.ref 3 5 0 0, .ref 2 1 0 0]), (3, .ref 4 2 0 0), (4, .ref 5 2 0 0), (12, .list 13 rs), (13, .int .i64 L), (14, .int .i64 s.1)])
    (fun s => match s.2 with | none => [.live 2 [[.int .i64 from_, .list 13 rs]], .live 2 [[.list 3 es, .list 5 ds]], .live 1 [[.nils]], .live 5 [[.int .i64 gid, .int .i64 gseg, .int .i64 goff, .int .i64 gacc, .int .i64 gsl]], .live 2 [[.int .i64 from_, .list 13 rs]], .live 2 [[.list 3 es, .list 5 ds]]] | some (k, w) => [.live 2 [[.int .i64 from_, .list 13 rs]], .live 2 [[.list 3 es, .list 5 ds]], .live 1 [[.sl 6 1 0 k]], .live 5 [[.int .i64 gid, .int .i64 gseg, .int .i64 goff, .int .i64 gacc, .int .i64 gsl]], .live 2 [[.int .i64 from_, .list 13 rs]], .live 2 [[.list 3 es, .list 5 ds]], .live 1 w])
    (fun s => 0 ≤ s.1 ∧ s.1 ≤ L ∧ RepL s.2 (plcs ss gseg goff from_ (m.take s.1.toNat))) (fun s => (L - s.1).toNat) (0, none) (by (refine Wk.eqzN (id) (by intro i hi; first | rfl | (have hh : i = 0 ∨ i = 1 ∨ i = 2 ∨ i = 3 := (by omega); rcases hh with hh | hh | hh | hh <;> subst hh <;> rfl)) (Nat.le_of_ble_eq_true rfl) (by first | exact fun i _ j _ e => e | (simp only [List.length_cons, List.length_nil]; decide)) ?_; cbv; (repeat' (first | exact trivial | rfl | assumption | apply And.intro | (simp only [hz, Z.a, binStd, cmpStd, unStd, scmpStd, maxI, reduceCtorEq]; first | done | assumption) | exact RowsZ.same (by assumption) (by first | assumption | rfl) | exact FzL.mk rfl rfl rfl (by assumption) (by first | assumption | rfl) (by decide) | (refine RowsZ.one ?_; cbv))))) ⟨Int.le_refl _, L0, rfl⟩ ?_
  rintro ⟨i, (_ | ⟨k0, w0⟩)⟩ hinv Q' hN hE hR'
  · have hinv : 0 ≤ i ∧ i ≤ L ∧ RepL none (plcs ss gseg goff from_ (m.take i.toNat)) := hinv
    cbv
    obtain ⟨hi0, hi1, hrep⟩ := hinv
    have hlen0 := plcs_len ss gseg goff from_ (m.take i.toNat) fun x hx => (hw1 x (List.mem_of_mem_take hx)).1
    rw [List.length_take, Nat.min_eq_left (by omega)] at hlen0
    (split <;> rename_i hc <;> (try (simp only [hz, Z.a, binStd, cmpStd, unStd, scmpStd, maxI, reduceCtorEq] at hc)) <;> (try cbv))
    rotate_left 1
    · rw [List.take_of_length_le (by omega)] at hrep
      refine hE _ _ _ ?_
      cbv
      have hv0 : v = [] := by rw [ev]; unfold plcR; rw [show plcs ss gseg goff from_ m = [] from hrep]; rfl
      refine Call.stepE (call_sort64_nil hP) rfl ?_
      cbv
      refine Call.stepE (by rw [← hP]; exact e_compactNil) rfl ?_
      cbv
      exact ⟨_, Vw.nil 1, hR _ (by rw [hv0]; rfl)⟩
    obtain ⟨l, hl⟩ : ∃ l, m[i.toNat]? = some l := ⟨_, List.getElem?_eq_getElem (show i.toNat < m.length by omega)⟩
    obtain ⟨hl12, hlseg⟩ := hw1 l (List.mem_of_getElem? hl)
    have hri : rs[i.toNat]? = some (toR l).row := by rw [hrs, List.getElem?_map, hl]; rfl
    obtain ⟨xs, exs⟩ : ∃ x, x = l.map nxRow := ⟨_, rfl⟩
    have huxs : Up0 xs := by rw [exs]; exact up_nx l
    have hxl : xs.length = l.length := by rw [exs]; simp
    have hpa := e_pathL l hl12
    have hpa : PCalls Try.prog 54 [.agg (toR l).row] (· = .list 1 xs) := by rw [exs]; exact hpa
    obtain ⟨i2, ei2⟩ : ∃ z, z = i + 1 := ⟨_, rfl⟩
    have a4 : wbin .add .i64 i 1 = i2 := by rw [hbin, ei2]; show IntKind.i64.wrap (i + 1) = i + 1; rw [IntKind.wrap_i64]; omega
    have hT2 : (L - i2).toNat < (L - i).toNat := by omega
    have htk : m.take i2.toNat = m.take i.toNat ++ [l] := by rw [ei2]; exact take_next hi0 hl
    have hacc2 : plcs ss gseg goff from_ (m.take i2.toNat) = plcs ss gseg goff from_ (m.take i.toNat) ++ plc ss gseg goff (-from_) l := by rw [htk, plcs_snoc]
    obtain ⟨row, erow⟩ : ∃ row, row = toR l := ⟨_, rfl⟩
    rw [← erow] at hri hpa
    obtain ⟨n, s0, s1, s2, s3, s4, s5, s6, s7, s8, s9, s10, s11⟩ := row
    (obtain ⟨K, eK, K0, Kn⟩ : ∃ L : Int, wlen xs = L ∧ 0 ≤ L ∧ L.toNat = xs.length := ⟨(xs.length : Int), by rw [hlen], Int.natCast_nonneg _, Int.toNat_natCast _⟩)
    refine Idx.mk _ hi0 hri ?_
    cbv
    simp only [c0]
    refine Call.stepE (by rw [← hP]; exact hpa) rfl ?_
    cbv
    simp only [eK]
    refine Loop.dataN hw (S := Int × Int × Option (Nat × List (List AV))) (fun s => fr 42 [(2, .func (.func 76) [] [.ref 3 5 0 0, .ref 2 1 0 0]), (3, .ref 4 2 0 0), (4, .ref 5 2 0 0), (8, .int .i64 s.2.1), (12, .list 13 rs), (13, .int .i64 L), (14, .int .i64 i), (22, .list 1 xs), (23, .int .i64 K), (24, .int .i64 s.1)])
      (fun s => match s.2.2 with | none => [.live 2 [[.int .i64 from_, .list 13 rs]], .live 2 [[.list 3 es, .list 5 ds]], .live 1 [[.nils]], .live 5 [[.int .i64 gid, .int .i64 gseg, .int .i64 goff, .int .i64 gacc, .int .i64 gsl]], .live 2 [[.int .i64 from_, .list 13 rs]], .live 2 [[.list 3 es, .list 5 ds]]] | some (k, w) => [.live 2 [[.int .i64 from_, .list 13 rs]], .live 2 [[.list 3 es, .list 5 ds]], .live 1 [[.sl 6 1 0 k]], .live 5 [[.int .i64 gid, .int .i64 gseg, .int .i64 goff, .int .i64 gacc, .int .i64 gsl]], .live 2 [[.int .i64 from_, .list 13 rs]], .live 2 [[.list 3 es, .list 5 ds]], .live 1 w])
      (fun s => 0 ≤ s.1 ∧ s.1 ≤ K ∧ -1099511627776 ≤ s.2.1 ∧ s.2.1 ≤ s.1 * 1099511627776 ∧ ∃ acc, RepL s.2.2 acc ∧ acc.length ≤ 12 * i.toNat + s.1.toNat ∧ acc ++ plc ss gseg goff s.2.1 (l.drop s.1.toNat) = plcs ss gseg goff from_ (m.take i2.toNat)) (fun s => (K - s.1).toNat) (0, a0, none) (by (refine Wk.eqzN (id) (by intro i hi; first | rfl | (have hh : i = 0 ∨ i = 1 ∨ i = 2 ∨ i = 3 := (by omega); rcases hh with hh | hh | hh | hh <;> subst hh <;> rfl)) (Nat.le_of_ble_eq_true rfl) (by first | exact fun i _ j _ e => e | (simp only [List.length_cons, List.length_nil]; decide)) ?_; cbv; (repeat' (first | exact trivial | rfl | assumption | apply And.intro | (simp only [hz, Z.a, binStd, cmpStd, unStd, scmpStd, maxI, reduceCtorEq]; first | done | assumption) | exact RowsZ.same (by assumption) (by first | assumption | rfl) | exact FzL.mk rfl rfl rfl (by assumption) (by first | assumption | rfl) (by decide) | (refine RowsZ.one ?_; cbv))))) ⟨Int.le_refl _, K0, by simp only; omega, by simp only; omega, _, hrep, by simp only; omega, by simp only; rw [hacc2, ea0]; rfl⟩ ?_
    rintro ⟨j, a, (_ | ⟨k1, w1⟩)⟩ hinv2 Q2 hN2 hE2 hR2
    · have hinv2 : 0 ≤ j ∧ j ≤ K ∧ -1099511627776 ≤ a ∧ a ≤ j * 1099511627776 ∧ ∃ acc, RepL (none) acc ∧ acc.length ≤ 12 * i.toNat + j.toNat ∧ acc ++ plc ss gseg goff a (l.drop j.toNat) = plcs ss gseg goff from_ (m.take i2.toNat) := hinv2
      cbv
      obtain ⟨hj0, hj1, hq0, hq1, acc, hrp, hal, hacc⟩ := hinv2
      (split <;> rename_i hd <;> (try (simp only [hz, Z.a, binStd, cmpStd, unStd, scmpStd, maxI, reduceCtorEq] at hd)) <;> (try cbv))
      rotate_left 1
      · refine hE2 _ _ _ ?_
        cbv
        simp only [a4]
        have e : plcs ss gseg goff from_ (m.take i2.toNat) = acc := by rw [← hacc, List.drop_of_length_le (by omega)]; simp [plc]
        refine hN (i2, none) _ _ ?hx ?hI hT2
        case hx => (refine Wk.eqzN (id) (by intro i hi; first | rfl | (have hh : i = 0 ∨ i = 1 ∨ i = 2 ∨ i = 3 := (by omega); rcases hh with hh | hh | hh | hh <;> subst hh <;> rfl)) (Nat.le_of_ble_eq_true rfl) (by first | exact fun i _ j _ e => e | (simp only [List.length_cons, List.length_nil]; decide)) ?_; cbv; (repeat' (first | exact trivial | rfl | assumption | apply And.intro | (simp only [hz, Z.a, binStd, cmpStd, unStd, scmpStd, maxI, reduceCtorEq]; first | done | assumption) | exact RowsZ.same (by assumption) (by first | assumption | rfl) | exact FzL.mk rfl rfl rfl (by assumption) (by first | assumption | rfl) (by decide) | (refine RowsZ.one ?_; cbv))))
        case hI => exact ⟨by simp only; omega, by simp only; omega, by rw [e]; exact hrp⟩
      obtain ⟨c, hcj⟩ : ∃ c, l[j.toNat]? = some c := ⟨_, List.getElem?_eq_getElem (show j.toNat < l.length by omega)⟩
      have hxj : xs[j.toNat]? = some [.int .i64 c] := by rw [exs, List.getElem?_map, hcj]; rfl
      obtain ⟨hcs0, hcs1⟩ := hlseg c (List.mem_of_getElem? hcj)
      obtain ⟨⟨len, pps, nx⟩, hdc, hrow⟩ := get_map (f := sgRow) (ds := ss) (i := c) hcs0 hcs1
      obtain ⟨pq, epq⟩ : ∃ x, pps.map pcRow = x := ⟨_, rfl⟩
      obtain ⟨n1, en1⟩ : ∃ x, nx.map nxRow = x := ⟨_, rfl⟩
      have hrow : es[c.toNat]? = some [.int .i64 len, .list 2 pq, .list 1 n1] := by rw [hes, ← epq, ← en1]; exact hrow
      have hlen : lenAt ss c = len := by unfold lenAt; rw [hdc]
      have hlb := lenAt_le hln c
      rw [hlen] at hlb
      obtain ⟨j2, ej2⟩ : ∃ z, z = j + 1 := ⟨_, rfl⟩
      have a5 : wbin .add .i64 j 1 = j2 := by rw [hbin, ej2]; show IntKind.i64.wrap (j + 1) = j + 1; rw [IntKind.wrap_i64]; omega
      obtain ⟨a2, ea2⟩ : ∃ z, z = a + len := ⟨_, rfl⟩
      have a6 : wbin .add .i64 a len = a2 := by rw [hbin, ea2]; show IntKind.i64.wrap (a + len) = a + len; rw [IntKind.wrap_i64]; omega
      obtain ⟨p2, ep2⟩ : ∃ z, z = a + goff := ⟨_, rfl⟩
      have a7 : wbin .add .i64 a goff = p2 := by rw [hbin, ep2]; show IntKind.i64.wrap (a + goff) = a + goff; rw [IntKind.wrap_i64]; omega
      have hT3 : (K - j2).toNat < (K - j).toNat := by omega
      have hdr : plc ss gseg goff a (l.drop j.toNat) = (if c = gseg then [p2] else []) ++ plc ss gseg goff a2 (l.drop j2.toNat) := by
        rw [drop_getP hcj, show j2.toNat = j.toNat + 1 by omega, ep2, ea2, ← hlen]; rfl
      rw [hdr] at hacc
      clear hdr
      refine Idx.mk _ hj0 hxj ?_
      cbv
      (refine Call.inl hw hP Try.func76 (by kernel_rfl) (by kernel_rfl) ?_); (conv => arg 2; cbv); cbv
      (split <;> rename_i he <;> (try (simp only [hz, Z.a, binStd, cmpStd, unStd, scmpStd, maxI, reduceCtorEq] at he)) <;> (try cbv))
      · simp only [a7]
        have hacc0 : acc = [] := hrp
        refine Ob.mk (by decide) ?_
        cbv
        refine Idx.mk _ hcs0 hrow ?_
        cbv
        simp only [a5, a6]
        refine hN2 (j2, a2, some (1, [[.int .i64 p2]])) _ _ ?hx ?hI hT3
        case hx => (refine Wk.eqzN (fun j => [0, 1, 2, 3, 4, 5, 6].getD j 0) (by intro i hi; first | rfl | (have hh : i = 0 ∨ i = 1 ∨ i = 2 ∨ i = 3 := (by omega); rcases hh with hh | hh | hh | hh <;> subst hh <;> rfl)) (Nat.le_of_ble_eq_true rfl) (by first | exact fun i _ j _ e => e | (simp only [List.length_cons, List.length_nil]; decide)) ?_; cbv; (repeat' (first | exact trivial | rfl | assumption | apply And.intro | (simp only [hz, Z.a, binStd, cmpStd, unStd, scmpStd, maxI, reduceCtorEq]; first | done | assumption) | exact RowsZ.same (by assumption) (by first | assumption | rfl) | exact FzL.mk rfl rfl rfl (by assumption) (by first | assumption | rfl) (by decide) | (refine RowsZ.one ?_; cbv))))
        case hI => exact ⟨by simp only; omega, by simp only; omega, by simp only; omega, by simp only; omega, [p2], ⟨rfl, rfl, ⟨rfl⟩⟩, by simp only [List.length_cons, List.length_nil]; omega, by rw [← hacc, hacc0, if_pos he]; simp⟩
      · refine Idx.mk _ hcs0 hrow ?_
        cbv
        simp only [a5, a6]
        refine hN2 (j2, a2, none) _ _ ?hx ?hI hT3
        case hx => (refine Wk.eqzN (id) (by intro i hi; first | rfl | (have hh : i = 0 ∨ i = 1 ∨ i = 2 ∨ i = 3 := (by omega); rcases hh with hh | hh | hh | hh <;> subst hh <;> rfl)) (Nat.le_of_ble_eq_true rfl) (by first | exact fun i _ j _ e => e | (simp only [List.length_cons, List.length_nil]; decide)) ?_; cbv; (repeat' (first | exact trivial | rfl | assumption | apply And.intro | (simp only [hz, Z.a, binStd, cmpStd, unStd, scmpStd, maxI, reduceCtorEq]; first | done | assumption) | exact RowsZ.same (by assumption) (by first | assumption | rfl) | exact FzL.mk rfl rfl rfl (by assumption) (by first | assumption | rfl) (by decide) | (refine RowsZ.one ?_; cbv))))
        case hI => exact ⟨by simp only; omega, by simp only; omega, by simp only; omega, by simp only; omega, acc, hrp, by simp only; omega, by rw [← hacc, if_neg he]; simp⟩
    · have hinv2 : 0 ≤ j ∧ j ≤ K ∧ -1099511627776 ≤ a ∧ a ≤ j * 1099511627776 ∧ ∃ acc, RepL (some (k1, w1)) acc ∧ acc.length ≤ 12 * i.toNat + j.toNat ∧ acc ++ plc ss gseg goff a (l.drop j.toNat) = plcs ss gseg goff from_ (m.take i2.toNat) := hinv2
      cbv
      obtain ⟨hj0, hj1, hq0, hq1, acc, hrp, hal, hacc⟩ := hinv2
      have huw1 : Up0 w1 := hrp.2.2
      have hk1 : k1 = w1.length := hrp.2.1
      have hwl1 : w1.length = acc.length := by rw [hrp.1]; simp
      (split <;> rename_i hd <;> (try (simp only [hz, Z.a, binStd, cmpStd, unStd, scmpStd, maxI, reduceCtorEq] at hd)) <;> (try cbv))
      rotate_left 1
      · refine hE2 _ _ _ ?_
        cbv
        simp only [a4]
        have e : plcs ss gseg goff from_ (m.take i2.toNat) = acc := by rw [← hacc, List.drop_of_length_le (by omega)]; simp [plc]
        refine hN (i2, some (k1, w1)) _ _ ?hx ?hI hT2
        case hx => (refine Wk.eqzN (id) (by intro i hi; first | rfl | (have hh : i = 0 ∨ i = 1 ∨ i = 2 ∨ i = 3 := (by omega); rcases hh with hh | hh | hh | hh <;> subst hh <;> rfl)) (Nat.le_of_ble_eq_true rfl) (by first | exact fun i _ j _ e => e | (simp only [List.length_cons, List.length_nil]; decide)) ?_; cbv; (repeat' (first | exact trivial | rfl | assumption | apply And.intro | (simp only [hz, Z.a, binStd, cmpStd, unStd, scmpStd, maxI, reduceCtorEq]; first | done | assumption) | exact RowsZ.same (by assumption) (by first | assumption | rfl) | exact FzL.mk rfl rfl rfl (by assumption) (by first | assumption | rfl) (by decide) | (refine RowsZ.one ?_; cbv))))
        case hI => exact ⟨by simp only; omega, by simp only; omega, by rw [e]; exact hrp⟩
      obtain ⟨c, hcj⟩ : ∃ c, l[j.toNat]? = some c := ⟨_, List.getElem?_eq_getElem (show j.toNat < l.length by omega)⟩
      have hxj : xs[j.toNat]? = some [.int .i64 c] := by rw [exs, List.getElem?_map, hcj]; rfl
      obtain ⟨hcs0, hcs1⟩ := hlseg c (List.mem_of_getElem? hcj)
      obtain ⟨⟨len, pps, nx⟩, hdc, hrow⟩ := get_map (f := sgRow) (ds := ss) (i := c) hcs0 hcs1
      obtain ⟨pq, epq⟩ : ∃ x, pps.map pcRow = x := ⟨_, rfl⟩
      obtain ⟨n1, en1⟩ : ∃ x, nx.map nxRow = x := ⟨_, rfl⟩
      have hrow : es[c.toNat]? = some [.int .i64 len, .list 2 pq, .list 1 n1] := by rw [hes, ← epq, ← en1]; exact hrow
      have hlen : lenAt ss c = len := by unfold lenAt; rw [hdc]
      have hlb := lenAt_le hln c
      rw [hlen] at hlb
      obtain ⟨j2, ej2⟩ : ∃ z, z = j + 1 := ⟨_, rfl⟩
      have a5 : wbin .add .i64 j 1 = j2 := by rw [hbin, ej2]; show IntKind.i64.wrap (j + 1) = j + 1; rw [IntKind.wrap_i64]; omega
      obtain ⟨a2, ea2⟩ : ∃ z, z = a + len := ⟨_, rfl⟩
      have a6 : wbin .add .i64 a len = a2 := by rw [hbin, ea2]; show IntKind.i64.wrap (a + len) = a + len; rw [IntKind.wrap_i64]; omega
      obtain ⟨p2, ep2⟩ : ∃ z, z = a + goff := ⟨_, rfl⟩
      have a7 : wbin .add .i64 a goff = p2 := by rw [hbin, ep2]; show IntKind.i64.wrap (a + goff) = a + goff; rw [IntKind.wrap_i64]; omega
      have hT3 : (K - j2).toNat < (K - j).toNat := by omega
      have hdr : plc ss gseg goff a (l.drop j.toNat) = (if c = gseg then [p2] else []) ++ plc ss gseg goff a2 (l.drop j2.toNat) := by
        rw [drop_getP hcj, show j2.toNat = j.toNat + 1 by omega, ep2, ea2, ← hlen]; rfl
      rw [hdr] at hacc
      clear hdr
      refine Idx.mk _ hj0 hxj ?_
      cbv
      (refine Call.inl hw hP Try.func76 (by kernel_rfl) (by kernel_rfl) ?_); (conv => arg 2; cbv); cbv
      (split <;> rename_i he <;> (try (simp only [hz, Z.a, binStd, cmpStd, unStd, scmpStd, maxI, reduceCtorEq] at he)) <;> (try cbv))
      · simp only [a7]
        obtain ⟨w2, ew2⟩ : ∃ x : List (List AV), x = w1 ++ [[.int .i64 p2]] := ⟨_, rfl⟩
        obtain ⟨k2, ek2⟩ : ∃ x, x = k1 + 1 := ⟨_, rfl⟩
        have hwl2 : w2.length = w1.length + 1 := by rw [ew2]; simp
        have hw2 : w2 = (acc ++ [p2]).map nxRow := by rw [ew2, hrp.1]; simp [nxRow]
        have huw2 : Up0 w2 := by rw [hw2]; exact up_nx _
        refine App.mk w2 k2 ew2 hk1 ek2 (by omega) (by omega) ?_
        cbv
        refine Idx.mk _ hcs0 hrow ?_
        cbv
        simp only [a5, a6]
        refine hN2 (j2, a2, some (k2, w2)) _ _ ?hx ?hI hT3
        case hx => (refine Wk.eqzN (fun j => [0, 1, 2, 3, 4, 5, 7].getD j 0) (by intro i hi; first | rfl | (have hh : i = 0 ∨ i = 1 ∨ i = 2 ∨ i = 3 := (by omega); rcases hh with hh | hh | hh | hh <;> subst hh <;> rfl)) (Nat.le_of_ble_eq_true rfl) (by first | exact fun i _ j _ e => e | (simp only [List.length_cons, List.length_nil]; decide)) ?_; cbv; (repeat' (first | exact trivial | rfl | assumption | apply And.intro | (simp only [hz, Z.a, binStd, cmpStd, unStd, scmpStd, maxI, reduceCtorEq]; first | done | assumption) | exact RowsZ.same (by assumption) (by first | assumption | rfl) | exact FzL.mk rfl rfl rfl (by assumption) (by first | assumption | rfl) (by decide) | (refine RowsZ.one ?_; cbv))))
        case hI => exact ⟨by simp only; omega, by simp only; omega, by simp only; omega, by simp only; omega, acc ++ [p2], ⟨hw2, by omega, huw2⟩, by simp only [List.length_append, List.length_cons, List.length_nil]; omega, by rw [← hacc, if_pos he]; simp⟩
      · refine Idx.mk _ hcs0 hrow ?_
        cbv
        simp only [a5, a6]
        refine hN2 (j2, a2, some (k1, w1)) _ _ ?hx ?hI hT3
        case hx => (refine Wk.eqzN (id) (by intro i hi; first | rfl | (have hh : i = 0 ∨ i = 1 ∨ i = 2 ∨ i = 3 := (by omega); rcases hh with hh | hh | hh | hh <;> subst hh <;> rfl)) (Nat.le_of_ble_eq_true rfl) (by first | exact fun i _ j _ e => e | (simp only [List.length_cons, List.length_nil]; decide)) ?_; cbv; (repeat' (first | exact trivial | rfl | assumption | apply And.intro | (simp only [hz, Z.a, binStd, cmpStd, unStd, scmpStd, maxI, reduceCtorEq]; first | done | assumption) | exact RowsZ.same (by assumption) (by first | assumption | rfl) | exact FzL.mk rfl rfl rfl (by assumption) (by first | assumption | rfl) (by decide) | (refine RowsZ.one ?_; cbv))))
        case hI => exact ⟨by simp only; omega, by simp only; omega, by simp only; omega, by simp only; omega, acc, hrp, by simp only; omega, by rw [← hacc, if_neg he]; simp⟩
  · have hinv : 0 ≤ i ∧ i ≤ L ∧ RepL (some (k0, w0)) (plcs ss gseg goff from_ (m.take i.toNat)) := hinv
    cbv
    obtain ⟨hi0, hi1, hrep⟩ := hinv
    have huw : Up0 w0 := hrep.2.2
    have hlen0 := plcs_len ss gseg goff from_ (m.take i.toNat) fun x hx => (hw1 x (List.mem_of_mem_take hx)).1
    rw [List.length_take, Nat.min_eq_left (by omega)] at hlen0
    (split <;> rename_i hc <;> (try (simp only [hz, Z.a, binStd, cmpStd, unStd, scmpStd, maxI, reduceCtorEq] at hc)) <;> (try cbv))
    rotate_left 1
    · rw [List.take_of_length_le (by omega)] at hrep
      refine hE _ _ _ ?_
      cbv
      have hwl : w0.length = (plcs ss gseg goff from_ m).length := by rw [hrep.1]; simp
      refine Call.of (call_sort64 hP (s := 6) (n := k0) (ns := plcs ss gseg goff from_ m) rfl hrep.1 (by rw [hrep.2.1, hwl]) (by omega) ?_)
      rintro ns' hp1 hp2
      obtain ⟨w2, ew2⟩ : ∃ x, x = ns'.map nxRow := ⟨_, rfl⟩
      rw [← ew2]
      cbv
      have hpl2 := hp1.length_eq
      refine Call.of (call_compact64 hP (s := 6) (n := k0) (ns := ns') rfl ew2 (by rw [hrep.2.1, hwl, hpl2]) (by omega) hp2 ?_)
      rintro os zs h1 h2 h3
      obtain ⟨w3, ew3⟩ : ∃ x, x = (os ++ zs).map nxRow := ⟨_, rfl⟩
      obtain ⟨k3, ek3⟩ : ∃ x, x = os.length := ⟨_, rfl⟩
      rw [← ew3, ← ek3]
      cbv
      have huw3 : Up0 w3 := by rw [ew3]; exact up_nx _
      have hos : os = v := by rw [ev]; exact plcR_unique h1 fun x => by rw [h2, hp1.mem_iff]
      have e1 : (w3.drop 0).take k3 = v.map nxRow := by rw [ew3, ek3, List.drop_zero, ← List.map_take, List.take_left, hos]
      have hw3l : k3 ≤ w3.length := by rw [ew3, ek3]; simp
      refine ⟨_, Vw.sl (s := 6) (z := 1) (n := k3) (i := 0) rfl huw3.get (by omega), hR _ ?_⟩
      rw [e1]
    obtain ⟨l, hl⟩ : ∃ l, m[i.toNat]? = some l := ⟨_, List.getElem?_eq_getElem (show i.toNat < m.length by omega)⟩
    obtain ⟨hl12, hlseg⟩ := hw1 l (List.mem_of_getElem? hl)
    have hri : rs[i.toNat]? = some (toR l).row := by rw [hrs, List.getElem?_map, hl]; rfl
    obtain ⟨xs, exs⟩ : ∃ x, x = l.map nxRow := ⟨_, rfl⟩
    have huxs : Up0 xs := by rw [exs]; exact up_nx l
    have hxl : xs.length = l.length := by rw [exs]; simp
    have hpa := e_pathL l hl12
    have hpa : PCalls Try.prog 54 [.agg (toR l).row] (· = .list 1 xs) := by rw [exs]; exact hpa
    obtain ⟨i2, ei2⟩ : ∃ z, z = i + 1 := ⟨_, rfl⟩
    have a4 : wbin .add .i64 i 1 = i2 := by rw [hbin, ei2]; show IntKind.i64.wrap (i + 1) = i + 1; rw [IntKind.wrap_i64]; omega
    have hT2 : (L - i2).toNat < (L - i).toNat := by omega
    have htk : m.take i2.toNat = m.take i.toNat ++ [l] := by rw [ei2]; exact take_next hi0 hl
    have hacc2 : plcs ss gseg goff from_ (m.take i2.toNat) = plcs ss gseg goff from_ (m.take i.toNat) ++ plc ss gseg goff (-from_) l := by rw [htk, plcs_snoc]
    obtain ⟨row, erow⟩ : ∃ row, row = toR l := ⟨_, rfl⟩
    rw [← erow] at hri hpa
    obtain ⟨n, s0, s1, s2, s3, s4, s5, s6, s7, s8, s9, s10, s11⟩ := row
    (obtain ⟨K, eK, K0, Kn⟩ : ∃ L : Int, wlen xs = L ∧ 0 ≤ L ∧ L.toNat = xs.length := ⟨(xs.length : Int), by rw [hlen], Int.natCast_nonneg _, Int.toNat_natCast _⟩)
    refine Idx.mk _ hi0 hri ?_
    cbv
    simp only [c0]
    refine Call.stepE (by rw [← hP]; exact hpa) rfl ?_
    cbv
    simp only [eK]
    refine Loop.dataN hw (S := Int × Int × Option (Nat × List (List AV))) (fun s => fr 42 [(2, .func (.func 76) [] [.ref 3 5 0 0, .ref 2 1 0 0]), (3, .ref 4 2 0 0), (4, .ref 5 2 0 0), (8, .int .i64 s.2.1), (12, .list 13 rs), (13, .int .i64 L), (14, .int .i64 i), (22, .list 1 xs), (23, .int .i64 K), (24, .int .i64 s.1)])
      (fun s => match s.2.2 with | none => [.live 2 [[.int .i64 from_, .list 13 rs]], .live 2 [[.list 3 es, .list 5 ds]], .live 1 [[.nils]], .live 5 [[.int .i64 gid, .int .i64 gseg, .int .i64 goff, .int .i64 gacc, .int .i64 gsl]], .live 2 [[.int .i64 from_, .list 13 rs]], .live 2 [[.list 3 es, .list 5 ds]]] | some (k, w) => [.live 2 [[.int .i64 from_, .list 13 rs]], .live 2 [[.list 3 es, .list 5 ds]], .live 1 [[.sl 6 1 0 k]], .live 5 [[.int .i64 gid, .int .i64 gseg, .int .i64 goff, .int .i64 gacc, .int .i64 gsl]], .live 2 [[.int .i64 from_, .list 13 rs]], .live 2 [[.list 3 es, .list 5 ds]], .live 1 w])
      (fun s => 0 ≤ s.1 ∧ s.1 ≤ K ∧ -1099511627776 ≤ s.2.1 ∧ s.2.1 ≤ s.1 * 1099511627776 ∧ ∃ acc, RepL s.2.2 acc ∧ acc.length ≤ 12 * i.toNat + s.1.toNat ∧ acc ++ plc ss gseg goff s.2.1 (l.drop s.1.toNat) = plcs ss gseg goff from_ (m.take i2.toNat)) (fun s => (K - s.1).toNat) (0, a0, some (k0, w0)) (by (refine Wk.eqzN (id) (by intro i hi; first | rfl | (have hh : i = 0 ∨ i = 1 ∨ i = 2 ∨ i = 3 := (by omega); rcases hh with hh | hh | hh | hh <;> subst hh <;> rfl)) (Nat.le_of_ble_eq_true rfl) (by first | exact fun i _ j _ e => e | (simp only [List.length_cons, List.length_nil]; decide)) ?_; cbv; (repeat' (first | exact trivial | rfl | assumption | apply And.intro | (simp only [hz, Z.a, binStd, cmpStd, unStd, scmpStd, maxI, reduceCtorEq]; first | done | assumption) | exact RowsZ.same (by assumption) (by first | assumption | rfl) | exact FzL.mk rfl rfl rfl (by assumption) (by first | assumption | rfl) (by decide) | (refine RowsZ.one ?_; cbv))))) ⟨Int.le_refl _, K0, by simp only; omega, by simp only; omega, _, hrep, by simp only; omega, by simp only; rw [hacc2, ea0]; rfl⟩ ?_
    rintro ⟨j, a, (_ | ⟨k1, w1⟩)⟩ hinv2 Q2 hN2 hE2 hR2
    · have hinv2 : 0 ≤ j ∧ j ≤ K ∧ -1099511627776 ≤ a ∧ a ≤ j * 1099511627776 ∧ ∃ acc, RepL (none) acc ∧ acc.length ≤ 12 * i.toNat + j.toNat ∧ acc ++ plc ss gseg goff a (l.drop j.toNat) = plcs ss gseg goff from_ (m.take i2.toNat) := hinv2
      cbv
      obtain ⟨hj0, hj1, hq0, hq1, acc, hrp, hal, hacc⟩ := hinv2
      (split <;> rename_i hd <;> (try (simp only [hz, Z.a, binStd, cmpStd, unStd, scmpStd, maxI, reduceCtorEq] at hd)) <;> (try cbv))
      rotate_left 1
      · refine hE2 _ _ _ ?_
        cbv
        simp only [a4]
        have e : plcs ss gseg goff from_ (m.take i2.toNat) = acc := by rw [← hacc, List.drop_of_length_le (by omega)]; simp [plc]
        refine hN (i2, none) _ _ ?hx ?hI hT2
        case hx => (refine Wk.eqzN (id) (by intro i hi; first | rfl | (have hh : i = 0 ∨ i = 1 ∨ i = 2 ∨ i = 3 := (by omega); rcases hh with hh | hh | hh | hh <;> subst hh <;> rfl)) (Nat.le_of_ble_eq_true rfl) (by first | exact fun i _ j _ e => e | (simp only [List.length_cons, List.length_nil]; decide)) ?_; cbv; (repeat' (first | exact trivial | rfl | assumption | apply And.intro | (simp only [hz, Z.a, binStd, cmpStd, unStd, scmpStd, maxI, reduceCtorEq]; first | done | assumption) | exact RowsZ.same (by assumption) (by first | assumption | rfl) | exact FzL.mk rfl rfl rfl (by assumption) (by first | assumption | rfl) (by decide) | (refine RowsZ.one ?_; cbv))))
        case hI => exact ⟨by simp only; omega, by simp only; omega, by rw [e]; exact hrp⟩
      obtain ⟨c, hcj⟩ : ∃ c, l[j.toNat]? = some c := ⟨_, List.getElem?_eq_getElem (show j.toNat < l.length by omega)⟩
      have hxj : xs[j.toNat]? = some [.int .i64 c] := by rw [exs, List.getElem?_map, hcj]; rfl
      obtain ⟨hcs0, hcs1⟩ := hlseg c (List.mem_of_getElem? hcj)
      obtain ⟨⟨len, pps, nx⟩, hdc, hrow⟩ := get_map (f := sgRow) (ds := ss) (i := c) hcs0 hcs1
      obtain ⟨pq, epq⟩ : ∃ x, pps.map pcRow = x := ⟨_, rfl⟩
      obtain ⟨n1, en1⟩ : ∃ x, nx.map nxRow = x := ⟨_, rfl⟩
      have hrow : es[c.toNat]? = some [.int .i64 len, .list 2 pq, .list 1 n1] := by rw [hes, ← epq, ← en1]; exact hrow
      have hlen : lenAt ss c = len := by unfold lenAt; rw [hdc]
      have hlb := lenAt_le hln c
      rw [hlen] at hlb
      obtain ⟨j2, ej2⟩ : ∃ z, z = j + 1 := ⟨_, rfl⟩
      have a5 : wbin .add .i64 j 1 = j2 := by rw [hbin, ej2]; show IntKind.i64.wrap (j + 1) = j + 1; rw [IntKind.wrap_i64]; omega
      obtain ⟨a2, ea2⟩ : ∃ z, z = a + len := ⟨_, rfl⟩
      have a6 : wbin .add .i64 a len = a2 := by rw [hbin, ea2]; show IntKind.i64.wrap (a + len) = a + len; rw [IntKind.wrap_i64]; omega
      obtain ⟨p2, ep2⟩ : ∃ z, z = a + goff := ⟨_, rfl⟩
      have a7 : wbin .add .i64 a goff = p2 := by rw [hbin, ep2]; show IntKind.i64.wrap (a + goff) = a + goff; rw [IntKind.wrap_i64]; omega
      have hT3 : (K - j2).toNat < (K - j).toNat := by omega
      have hdr : plc ss gseg goff a (l.drop j.toNat) = (if c = gseg then [p2] else []) ++ plc ss gseg goff a2 (l.drop j2.toNat) := by
        rw [drop_getP hcj, show j2.toNat = j.toNat + 1 by omega, ep2, ea2, ← hlen]; rfl
      rw [hdr] at hacc
      clear hdr
      refine Idx.mk _ hj0 hxj ?_
      cbv
      (refine Call.inl hw hP Try.func76 (by kernel_rfl) (by kernel_rfl) ?_); (conv => arg 2; cbv); cbv
      (split <;> rename_i he <;> (try (simp only [hz, Z.a, binStd, cmpStd, unStd, scmpStd, maxI, reduceCtorEq] at he)) <;> (try cbv))
      · simp only [a7]
        have hacc0 : acc = [] := hrp
        refine Ob.mk (by decide) ?_
        cbv
        refine Idx.mk _ hcs0 hrow ?_
        cbv
        simp only [a5, a6]
        refine hN2 (j2, a2, some (1, [[.int .i64 p2]])) _ _ ?hx ?hI hT3
        case hx => (refine Wk.eqzN (fun j => [0, 1, 2, 3, 4, 5, 6].getD j 0) (by intro i hi; first | rfl | (have hh : i = 0 ∨ i = 1 ∨ i = 2 ∨ i = 3 := (by omega); rcases hh with hh | hh | hh | hh <;> subst hh <;> rfl)) (Nat.le_of_ble_eq_true rfl) (by first | exact fun i _ j _ e => e | (simp only [List.length_cons, List.length_nil]; decide)) ?_; cbv; (repeat' (first | exact trivial | rfl | assumption | apply And.intro | (simp only [hz, Z.a, binStd, cmpStd, unStd, scmpStd, maxI, reduceCtorEq]; first | done | assumption) | exact RowsZ.same (by assumption) (by first | assumption | rfl) | exact FzL.mk rfl rfl rfl (by assumption) (by first | assumption | rfl) (by decide) | (refine RowsZ.one ?_; cbv))))
        case hI => exact ⟨by simp only; omega, by simp only; omega, by simp only; omega, by simp only; omega, [p2], ⟨rfl, rfl, ⟨rfl⟩⟩, by simp only [List.length_cons, List.length_nil]; omega, by rw [← hacc, hacc0, if_pos he]; simp⟩
      · refine Idx.mk _ hcs0 hrow ?_
        cbv
        simp only [a5, a6]
        refine hN2 (j2, a2, none) _ _ ?hx ?hI hT3
        case hx => (refine Wk.eqzN (id) (by intro i hi; first | rfl | (have hh : i = 0 ∨ i = 1 ∨ i = 2 ∨ i = 3 := (by omega); rcases hh with hh | hh | hh | hh <;> subst hh <;> rfl)) (Nat.le_of_ble_eq_true rfl) (by first | exact fun i _ j _ e => e | (simp only [List.length_cons, List.length_nil]; decide)) ?_; cbv; (repeat' (first | exact trivial | rfl | assumption | apply And.intro | (simp only [hz, Z.a, binStd, cmpStd, unStd, scmpStd, maxI, reduceCtorEq]; first | done | assumption) | exact RowsZ.same (by assumption) (by first | assumption | rfl) | exact FzL.mk rfl rfl rfl (by assumption) (by first | assumption | rfl) (by decide) | (refine RowsZ.one ?_; cbv))))
        case hI => exact ⟨by simp only; omega, by simp only; omega, by simp only; omega, by simp only; omega, acc, hrp, by simp only; omega, by rw [← hacc, if_neg he]; simp⟩
    · have hinv2 : 0 ≤ j ∧ j ≤ K ∧ -1099511627776 ≤ a ∧ a ≤ j * 1099511627776 ∧ ∃ acc, RepL (some (k1, w1)) acc ∧ acc.length ≤ 12 * i.toNat + j.toNat ∧ acc ++ plc ss gseg goff a (l.drop j.toNat) = plcs ss gseg goff from_ (m.take i2.toNat) := hinv2
      cbv
      obtain ⟨hj0, hj1, hq0, hq1, acc, hrp, hal, hacc⟩ := hinv2
      have huw1 : Up0 w1 := hrp.2.2
      have hk1 : k1 = w1.length := hrp.2.1
      have hwl1 : w1.length = acc.length := by rw [hrp.1]; simp
      (split <;> rename_i hd <;> (try (simp only [hz, Z.a, binStd, cmpStd, unStd, scmpStd, maxI, reduceCtorEq] at hd)) <;> (try cbv))
      rotate_left 1
      · refine hE2 _ _ _ ?_
        cbv
        simp only [a4]
        have e : plcs ss gseg goff from_ (m.take i2.toNat) = acc := by rw [← hacc, List.drop_of_length_le (by omega)]; simp [plc]
        refine hN (i2, some (k1, w1)) _ _ ?hx ?hI hT2
        case hx => (refine Wk.eqzN (id) (by intro i hi; first | rfl | (have hh : i = 0 ∨ i = 1 ∨ i = 2 ∨ i = 3 := (by omega); rcases hh with hh | hh | hh | hh <;> subst hh <;> rfl)) (Nat.le_of_ble_eq_true rfl) (by first | exact fun i _ j _ e => e | (simp only [List.length_cons, List.length_nil]; decide)) ?_; cbv; (repeat' (first | exact trivial | rfl | assumption | apply And.intro | (simp only [hz, Z.a, binStd, cmpStd, unStd, scmpStd, maxI, reduceCtorEq]; first | done | assumption) | exact RowsZ.same (by assumption) (by first | assumption | rfl) | exact FzL.mk rfl rfl rfl (by assumption) (by first | assumption | rfl) (by decide) | (refine RowsZ.one ?_; cbv))))
        case hI => exact ⟨by simp only; omega, by simp only; omega, by rw [e]; exact hrp⟩
      obtain ⟨c, hcj⟩ : ∃ c, l[j.toNat]? = some c := ⟨_, List.getElem?_eq_getElem (show j.toNat < l.length by omega)⟩
      have hxj : xs[j.toNat]? = some [.int .i64 c] := by rw [exs, List.getElem?_map, hcj]; rfl
      obtain ⟨hcs0, hcs1⟩ := hlseg c (List.mem_of_getElem? hcj)
      obtain ⟨⟨len, pps, nx⟩, hdc, hrow⟩ := get_map (f := sgRow) (ds := ss) (i := c) hcs0 hcs1
      obtain ⟨pq, epq⟩ : ∃ x, pps.map pcRow = x := ⟨_, rfl⟩
      obtain ⟨n1, en1⟩ : ∃ x, nx.map nxRow = x := ⟨_, rfl⟩
      have hrow : es[c.toNat]? = some [.int .i64 len, .list 2 pq, .list 1 n1] := by rw [hes, ← epq, ← en1]; exact hrow
      have hlen : lenAt ss c = len := by unfold lenAt; rw [hdc]
      have hlb := lenAt_le hln c
      rw [hlen] at hlb
      obtain ⟨j2, ej2⟩ : ∃ z, z = j + 1 := ⟨_, rfl⟩
      have a5 : wbin .add .i64 j 1 = j2 := by rw [hbin, ej2]; show IntKind.i64.wrap (j + 1) = j + 1; rw [IntKind.wrap_i64]; omega
      obtain ⟨a2, ea2⟩ : ∃ z, z = a + len := ⟨_, rfl⟩
      have a6 : wbin .add .i64 a len = a2 := by rw [hbin, ea2]; show IntKind.i64.wrap (a + len) = a + len; rw [IntKind.wrap_i64]; omega
      obtain ⟨p2, ep2⟩ : ∃ z, z = a + goff := ⟨_, rfl⟩
      have a7 : wbin .add .i64 a goff = p2 := by rw [hbin, ep2]; show IntKind.i64.wrap (a + goff) = a + goff; rw [IntKind.wrap_i64]; omega
      have hT3 : (K - j2).toNat < (K - j).toNat := by omega
      have hdr : plc ss gseg goff a (l.drop j.toNat) = (if c = gseg then [p2] else []) ++ plc ss gseg goff a2 (l.drop j2.toNat) := by
        rw [drop_getP hcj, show j2.toNat = j.toNat + 1 by omega, ep2, ea2, ← hlen]; rfl
      rw [hdr] at hacc
      clear hdr
      refine Idx.mk _ hj0 hxj ?_
      cbv
      (refine Call.inl hw hP Try.func76 (by kernel_rfl) (by kernel_rfl) ?_); (conv => arg 2; cbv); cbv
      (split <;> rename_i he <;> (try (simp only [hz, Z.a, binStd, cmpStd, unStd, scmpStd, maxI, reduceCtorEq] at he)) <;> (try cbv))
      · simp only [a7]
        obtain ⟨w2, ew2⟩ : ∃ x : List (List AV), x = w1 ++ [[.int .i64 p2]] := ⟨_, rfl⟩
        obtain ⟨k2, ek2⟩ : ∃ x, x = k1 + 1 := ⟨_, rfl⟩
        have hwl2 : w2.length = w1.length + 1 := by rw [ew2]; simp
        have hw2 : w2 = (acc ++ [p2]).map nxRow := by rw [ew2, hrp.1]; simp [nxRow]
        have huw2 : Up0 w2 := by rw [hw2]; exact up_nx _
        refine App.mk w2 k2 ew2 hk1 ek2 (by omega) (by omega) ?_
        cbv
        refine Idx.mk _ hcs0 hrow ?_
        cbv
        simp only [a5, a6]
        refine hN2 (j2, a2, some (k2, w2)) _ _ ?hx ?hI hT3
        case hx => (refine Wk.eqzN (fun j => [0, 1, 2, 3, 4, 5, 7].getD j 0) (by intro i hi; first | rfl | (have hh : i = 0 ∨ i = 1 ∨ i = 2 ∨ i = 3 := (by omega); rcases hh with hh | hh | hh | hh <;> subst hh <;> rfl)) (Nat.le_of_ble_eq_true rfl) (by first | exact fun i _ j _ e => e | (simp only [List.length_cons, List.length_nil]; decide)) ?_; cbv; (repeat' (first | exact trivial | rfl | assumption | apply And.intro | (simp only [hz, Z.a, binStd, cmpStd, unStd, scmpStd, maxI, reduceCtorEq]; first | done | assumption) | exact RowsZ.same (by assumption) (by first | assumption | rfl) | exact FzL.mk rfl rfl rfl (by assumption) (by first | assumption | rfl) (by decide) | (refine RowsZ.one ?_; cbv))))
        case hI => exact ⟨by simp only; omega, by simp only; omega, by simp only; omega, by simp only; omega, acc ++ [p2], ⟨hw2, by omega, huw2⟩, by simp only [List.length_append, List.length_cons, List.length_nil]; omega, by rw [← hacc, if_pos he]; simp⟩
      · refine Idx.mk _ hcs0 hrow ?_
        cbv
        simp only [a5, a6]
        refine hN2 (j2, a2, some (k1, w1)) _ _ ?hx ?hI hT3
        case hx => (refine Wk.eqzN (id) (by intro i hi; first | rfl | (have hh : i = 0 ∨ i = 1 ∨ i = 2 ∨ i = 3 := (by omega); rcases hh with hh | hh | hh | hh <;> subst hh <;> rfl)) (Nat.le_of_ble_eq_true rfl) (by first | exact fun i _ j _ e => e | (simp only [List.length_cons, List.length_nil]; decide)) ?_; cbv; (repeat' (first | exact trivial | rfl | assumption | apply And.intro | (simp only [hz, Z.a, binStd, cmpStd, unStd, scmpStd, maxI, reduceCtorEq]; first | done | assumption) | exact RowsZ.same (by assumption) (by first | assumption | rfl) | exact FzL.mk rfl rfl rfl (by assumption) (by first | assumption | rfl) (by decide) | (refine RowsZ.one ?_; cbv))))
        case hI => exact ⟨by simp only; omega, by simp only; omega, by simp only; omega, by simp only; omega, acc, hrp, by simp only; omega, by rw [← hacc, if_neg he]; simp⟩
end Go.Proofs.Ytpiocfmdjgbamaa

/- route.Set.Grades, by the engine. -/
namespace Go.Proofs.Ytpiocfmdjgbamaa
open Go Go.RowKit Go.Eng
set_option maxRecDepth 100000
def psAt (ss : List Sg) (n : Int) : List (Int × Int) := match ss[n.toNat]? with | some s => s.ps | none => []
def joinG (s : Int × Int × Bool) (b : Int × Int × Bool) : Int × Int × Bool := if s.2.2 then (min s.1 b.1, max s.2.1 b.2.1, true) else (b.1, b.2.1, true)
def grw (ss : List Sg) (lo hi : Int) (s : Int × Int × Bool) : Int → List Int → Int × Int × Bool
  | _, [] => s
  | a, n :: l => grw ss lo hi (if max lo a ≤ min hi (a + lenAt ss n) then joinG s (bndG (psAt ss n) (max lo a - a) (min hi (a + lenAt ss n) - a) (psAt ss n).length) else s) (a + lenAt ss n) l
set_option maxHeartbeats 4000000 in
theorem e_grades (ss : List Sg) (gs : List Gr) (es ds : List (List AV)) (hes : es = ss.map sgRow) (hds : ds = gs.map grRow) (hln : LensOk ss) (hpc : ∀ s, s ∈ ss → PcsOk s.ps) (from_ : Int) (hf : 0 ≤ from_ ∧ from_ ≤ 1099511627776) (m : List (List Int)) (hw1 : ∀ l, l ∈ m → l.length ≤ 12 ∧ ∀ n, n ∈ l → 0 ≤ n ∧ n.toNat < ss.length) (hm : m.length ≤ 1000) (rs : List (List AV)) (hrs : rs = m.map rtC)
    (lo hi : Int) (v : Int × Int × Bool) (ev : v = m.foldl (fun s l => grw ss lo hi s (-from_) l) (0, 0, false)) :
    PCalls Try.prog 50 [.agg [.int .i64 from_, .list 13 rs], .agg [.list 3 es, .list 5 ds], .agg [.int .i64 lo, .int .i64 hi]] (· = .tuple [.agg [.int .i64 v.1, .int .i64 v.2.1], .bool v.2.2]) := by
  have hu : Up0 es := by rw [hes]; exact up_sg ss
  have hud : Up0 ds := by rw [hds]; exact up_gr gs
  have hur : Up0 rs := by rw [hrs]; exact up_map (f := rtC) (fun d => rfl) m
  have hrl : rs.length = m.length := by rw [hrs]; simp
  obtain ⟨v1, v2, v3⟩ := v
  (refine PCalls.ofY Try.func50 (by kernel_rfl) (by kernel_rfl) fun w hw R hR => ?_); (obtain ⟨wbin, wcmp, wun, wconv, wnot, wbeq, wmm, wscmp, wsadd, wslen, wsat, weqs, wlen, wnlen, wofNat, wtake, wdrop, wapp, wzero, wnat⟩ := w); (have hbin := Z.w1 hw); (have hcmp := Z.w2 hw); (have hun := Z.w3 hw); (have hconv := Z.w4 hw); (have hnot := Z.w5 hw); (have hbeq := Z.w6 hw); (have hmm := Z.w7 hw); (have hscmp := Z.w8 hw); (have hsadd := Z.w9 hw); (have hslen := Z.w10 hw); (have hsat := Z.w11 hw); (have heqs := Z.w12 hw); (have hlen := Z.w13 hw); (have hnlen := Z.w14 hw); (have hofNat := Z.w15 hw); (have htake := Z.w16 hw); (have hdrop := Z.w17 hw); (have happ := Z.w18 hw); (have hzero := Z.w19 hw); (have hnat := Z.w20 hw); (have hz := Z.z hw); (conv => arg 2; cbv); (generalize hP : Try.prog = P); cbv
  (obtain ⟨L, eL, L0, Ln⟩ : ∃ L : Int, wlen rs = L ∧ 0 ≤ L ∧ L.toNat = rs.length := ⟨(rs.length : Int), by rw [hlen], Int.natCast_nonneg _, Int.toNat_natCast _⟩)
  (refine Call.inl hw hP Try.func75 (by kernel_rfl) (by kernel_rfl) ?_); (conv => arg 2; cbv); cbv
  simp only [eL]
  obtain ⟨a0, ea0⟩ : ∃ a0, a0 = -from_ := ⟨_, rfl⟩
  have c0 : wun .neg .i64 from_ = a0 := by rw [hun, ea0]; simp only [unStd]; rw [IntKind.wrap_i64]; omega
  have n1 : wnot true = false := by rw [hnot]; rfl
  have n2 : wnot false = true := by rw [hnot]; rfl
  refine Loop.dataN hw (S := Int × Int × Int × Bool) (fun s => fr 42 [(2, .func (.func 79) [] [.ref 2 2 0 0, .ref 1 2 0 0, .ref 5 1 0 0, .ref 4 2 0 0]), (3, .ref 6 2 0 0), (4, .ref 7 2 0 0), (12, .list 13 rs), (13, .int .i64 L), (14, .int .i64 s.1)])
    (fun s => [.live 2 [[.int .i64 from_, .list 13 rs]], .live 2 [[.list 3 es, .list 5 ds]], .live 2 [[.int .i64 lo, .int .i64 hi]], .live 2 [[.int .i64 0, .int .i64 0]], .live 2 [[.int .i64 s.2.1, .int .i64 s.2.2.1]], .live 1 [[.bool s.2.2.2]], .live 2 [[.int .i64 from_, .list 13 rs]], .live 2 [[.list 3 es, .list 5 ds]]])
    (fun s => 0 ≤ s.1 ∧ s.1 ≤ L ∧ s.2.1 ≤ s.2.2.1 ∧ (s.2.1, s.2.2.1, s.2.2.2) = (m.take s.1.toNat).foldl (fun s l => grw ss lo hi s (-from_) l) (0, 0, false)) (fun s => (L - s.1).toNat) (0, 0, 0, false) (by (refine Wk.eqzN (id) (by intro i hi; first | rfl | (have hh : i = 0 ∨ i = 1 ∨ i = 2 ∨ i = 3 := (by omega); rcases hh with hh | hh | hh | hh <;> subst hh <;> rfl)) (Nat.le_of_ble_eq_true rfl) (by first | exact fun i _ j _ e => e | (simp only [List.length_cons, List.length_nil]; decide)) ?_; cbv; (repeat' (first | exact trivial | rfl | assumption | apply And.intro | (simp only [hz, Z.a, binStd, cmpStd, unStd, scmpStd, maxI, reduceCtorEq]; first | done | assumption) | exact RowsZ.same (by assumption) (by first | assumption | rfl) | exact FzL.mk rfl rfl rfl (by assumption) (by first | assumption | rfl) (by decide) | (refine RowsZ.one ?_; cbv))))) ⟨Int.le_refl _, L0, Int.le_refl _, rfl⟩ ?_
  rintro ⟨i, b1, b2, f⟩ hinv Q' hN hE hR'
  have hinv : 0 ≤ i ∧ i ≤ L ∧ b1 ≤ b2 ∧ (b1, b2, f) = (m.take i.toNat).foldl (fun s l => grw ss lo hi s (-from_) l) (0, 0, false) := hinv
  cbv
  obtain ⟨hi0, hi1, hb12, hacc⟩ := hinv
  (split <;> rename_i hc <;> (try (simp only [hz, Z.a, binStd, cmpStd, unStd, scmpStd, maxI, reduceCtorEq] at hc)) <;> (try cbv))
  rotate_left 1
  · rw [List.take_of_length_le (by omega), ← ev] at hacc
    simp only [Prod.mk.injEq] at hacc
    obtain ⟨rfl, rfl, rfl⟩ := hacc
    refine hE _ _ _ ?_
    cbv
    repeat' (refine And.intro ?_ ?_)
    all_goals exact ⟨_, Vw.same rfl, hR _ rfl⟩
  obtain ⟨l, hl⟩ : ∃ l, m[i.toNat]? = some l := ⟨_, List.getElem?_eq_getElem (show i.toNat < m.length by omega)⟩
  obtain ⟨hl12, hlseg⟩ := hw1 l (List.mem_of_getElem? hl)
  have hri : rs[i.toNat]? = some (toR l).row := by rw [hrs, List.getElem?_map, hl]; rfl
  obtain ⟨xs, exs⟩ : ∃ x, x = l.map nxRow := ⟨_, rfl⟩
  have huxs : Up0 xs := by rw [exs]; exact up_nx l
  have hxl : xs.length = l.length := by rw [exs]; simp
  have hpa := e_pathL l hl12
  have hpa : PCalls Try.prog 54 [.agg (toR l).row] (· = .list 1 xs) := by rw [exs]; exact hpa
  obtain ⟨i2, ei2⟩ : ∃ z, z = i + 1 := ⟨_, rfl⟩
  have a4 : wbin .add .i64 i 1 = i2 := by rw [hbin, ei2]; show IntKind.i64.wrap (i + 1) = i + 1; rw [IntKind.wrap_i64]; omega
  have hT2 : (L - i2).toNat < (L - i).toNat := by omega
  have htk : m.take i2.toNat = m.take i.toNat ++ [l] := by rw [ei2]; exact take_next hi0 hl
  obtain ⟨tg, etg⟩ : ∃ x, x = (m.take i2.toNat).foldl (fun s l => grw ss lo hi s (-from_) l) (0, 0, false) := ⟨_, rfl⟩
  have hacc2 : grw ss lo hi (b1, b2, f) a0 l = tg := by rw [etg, htk, List.foldl_append, ← hacc, ea0]; rfl
  obtain ⟨row, erow⟩ : ∃ row, row = toR l := ⟨_, rfl⟩
  rw [← erow] at hri hpa
  obtain ⟨n, s0, s1, s2, s3, s4, s5, s6, s7, s8, s9, s10, s11⟩ := row
  (obtain ⟨K, eK, K0, Kn⟩ : ∃ L : Int, wlen xs = L ∧ 0 ≤ L ∧ L.toNat = xs.length := ⟨(xs.length : Int), by rw [hlen], Int.natCast_nonneg _, Int.toNat_natCast _⟩)
  refine Idx.mk _ hi0 hri ?_
  cbv
  simp only [c0]
  refine Call.stepE (by rw [← hP]; exact hpa) rfl ?_
  cbv
  simp only [eK]
  refine Loop.dataN hw (S := Int × Int × Int × Int × Bool) (fun s => fr 42 [(2, .func (.func 79) [] [.ref 2 2 0 0, .ref 1 2 0 0, .ref 5 1 0 0, .ref 4 2 0 0]), (3, .ref 6 2 0 0), (4, .ref 7 2 0 0), (8, .int .i64 s.2.1), (12, .list 13 rs), (13, .int .i64 L), (14, .int .i64 i), (22, .list 1 xs), (23, .int .i64 K), (24, .int .i64 s.1)])
    (fun s => [.live 2 [[.int .i64 from_, .list 13 rs]], .live 2 [[.list 3 es, .list 5 ds]], .live 2 [[.int .i64 lo, .int .i64 hi]], .live 2 [[.int .i64 0, .int .i64 0]], .live 2 [[.int .i64 s.2.2.1, .int .i64 s.2.2.2.1]], .live 1 [[.bool s.2.2.2.2]], .live 2 [[.int .i64 from_, .list 13 rs]], .live 2 [[.list 3 es, .list 5 ds]]])
    (fun s => 0 ≤ s.1 ∧ s.1 ≤ K ∧ -1099511627776 ≤ s.2.1 ∧ s.2.1 ≤ s.1 * 1099511627776 ∧ s.2.2.1 ≤ s.2.2.2.1 ∧ grw ss lo hi (s.2.2.1, s.2.2.2.1, s.2.2.2.2) s.2.1 (l.drop s.1.toNat) = tg) (fun s => (K - s.1).toNat) (0, a0, b1, b2, f) (by (refine Wk.eqzN (id) (by intro i hi; first | rfl | (have hh : i = 0 ∨ i = 1 ∨ i = 2 ∨ i = 3 := (by omega); rcases hh with hh | hh | hh | hh <;> subst hh <;> rfl)) (Nat.le_of_ble_eq_true rfl) (by first | exact fun i _ j _ e => e | (simp only [List.length_cons, List.length_nil]; decide)) ?_; cbv; (repeat' (first | exact trivial | rfl | assumption | apply And.intro | (simp only [hz, Z.a, binStd, cmpStd, unStd, scmpStd, maxI, reduceCtorEq]; first | done | assumption) | exact RowsZ.same (by assumption) (by first | assumption | rfl) | exact FzL.mk rfl rfl rfl (by assumption) (by first | assumption | rfl) (by decide) | (refine RowsZ.one ?_; cbv))))) ⟨Int.le_refl _, K0, by simp only; omega, by simp only; omega, hb12, hacc2⟩ ?_
  rintro ⟨j, a, g1, g2, fd⟩ hinv2 Q2 hN2 hE2 hR2
  have hinv2 : 0 ≤ j ∧ j ≤ K ∧ -1099511627776 ≤ a ∧ a ≤ j * 1099511627776 ∧ g1 ≤ g2 ∧ grw ss lo hi (g1, g2, fd) a (l.drop j.toNat) = tg := hinv2
  cbv
  obtain ⟨hj0, hj1, hq0, hq1, hg12, hac⟩ := hinv2
  (split <;> rename_i hd <;> (try (simp only [hz, Z.a, binStd, cmpStd, unStd, scmpStd, maxI, reduceCtorEq] at hd)) <;> (try cbv))
  rotate_left 1
  · refine hE2 _ _ _ ?_
    cbv
    simp only [a4]
    rw [List.drop_of_length_le (by omega)] at hac
    refine hN (i2, g1, g2, fd) _ _ ?hx ?hI hT2
    case hx => (refine Wk.eqzN (id) (by intro i hi; first | rfl | (have hh : i = 0 ∨ i = 1 ∨ i = 2 ∨ i = 3 := (by omega); rcases hh with hh | hh | hh | hh <;> subst hh <;> rfl)) (Nat.le_of_ble_eq_true rfl) (by first | exact fun i _ j _ e => e | (simp only [List.length_cons, List.length_nil]; decide)) ?_; cbv; (repeat' (first | exact trivial | rfl | assumption | apply And.intro | (simp only [hz, Z.a, binStd, cmpStd, unStd, scmpStd, maxI, reduceCtorEq]; first | done | assumption) | exact RowsZ.same (by assumption) (by first | assumption | rfl) | exact FzL.mk rfl rfl rfl (by assumption) (by first | assumption | rfl) (by decide) | (refine RowsZ.one ?_; cbv))))
    case hI => exact ⟨by simp only; omega, by simp only; omega, hg12, by simp only; rw [← etg, ← hac]; rfl⟩
  obtain ⟨c, hcj⟩ : ∃ c, l[j.toNat]? = some c := ⟨_, List.getElem?_eq_getElem (show j.toNat < l.length by omega)⟩
  have hxj : xs[j.toNat]? = some [.int .i64 c] := by rw [exs, List.getElem?_map, hcj]; rfl
  obtain ⟨hcs0, hcs1⟩ := hlseg c (List.mem_of_getElem? hcj)
  obtain ⟨⟨len, pps, nx⟩, hdc, hrow⟩ := get_map (f := sgRow) (ds := ss) (i := c) hcs0 hcs1
  have hpo : PcsOk pps := hpc ⟨len, pps, nx⟩ (List.mem_of_getElem? hdc)
  obtain ⟨pq, epq⟩ : ∃ x, x = pps.map pcRow := ⟨_, rfl⟩
  have hupq : Up0 pq := by rw [epq]; exact up_pc pps
  obtain ⟨xn, exn⟩ : ∃ x, nx.map nxRow = x := ⟨_, rfl⟩
  have hrow : es[c.toNat]? = some [.int .i64 len, .list 2 pq, .list 1 xn] := by rw [hes, epq, ← exn]; exact hrow
  have hlen : lenAt ss c = len := by unfold lenAt; rw [hdc]
  have hpsA : psAt ss c = pps := by unfold psAt; rw [hdc]
  have hlb := lenAt_le hln c
  rw [hlen] at hlb
  obtain ⟨j2, ej2⟩ : ∃ z, z = j + 1 := ⟨_, rfl⟩
  have a5 : wbin .add .i64 j 1 = j2 := by rw [hbin, ej2]; show IntKind.i64.wrap (j + 1) = j + 1; rw [IntKind.wrap_i64]; omega
  obtain ⟨a2, ea2⟩ : ∃ z, z = a + len := ⟨_, rfl⟩
  have a6 : wbin .add .i64 a len = a2 := by rw [hbin, ea2]; show IntKind.i64.wrap (a + len) = a + len; rw [IntKind.wrap_i64]; omega
  have hT3 : (K - j2).toNat < (K - j).toNat := by omega
  obtain ⟨x1, ex1⟩ : ∃ z, max lo a = z := ⟨_, rfl⟩
  obtain ⟨y1, ey1⟩ : ∃ z, min hi a2 = z := ⟨_, rfl⟩
  obtain ⟨x2, ex2⟩ : ∃ z, x1 - a = z := ⟨_, rfl⟩
  obtain ⟨y2, ey2⟩ : ∃ z, y1 - a = z := ⟨_, rfl⟩
  obtain ⟨bv, ebv⟩ : ∃ x, x = bndG pps x2 y2 pps.length := ⟨_, rfl⟩
  have hbl := bndG_le pps x2 y2 pps.length
  rw [← ebv] at hbl
  have hdr : grw ss lo hi (g1, g2, fd) a (l.drop j.toNat) = grw ss lo hi (if x1 ≤ y1 then joinG (g1, g2, fd) bv else (g1, g2, fd)) a2 (l.drop j2.toNat) := by
    rw [drop_getP hcj, show j2.toNat = j.toNat + 1 by omega]
    simp only [grw]
    rw [hlen, hpsA, ← ea2, ex1, ey1, ex2, ey2, ← ebv]
  rw [hdr] at hac
  clear hdr
  obtain ⟨p1, p2, p3⟩ := bv
  simp only at hbl
  obtain ⟨h1, eh1⟩ : ∃ z, min g1 p1 = z := ⟨_, rfl⟩
  obtain ⟨h2, eh2⟩ : ∃ z, max g2 p2 = z := ⟨_, rfl⟩
  have hu1 := e_xhull hg12 hbl eh1 eh2
  have hu2 := e_xhull hbl hbl (show min p1 p1 = p1 by omega) (show max p2 p2 = p2 by omega)
  refine Idx.mk _ hj0 hxj ?_
  cbv
  (refine Call.inl hw hP Try.func79 (by kernel_rfl) (by kernel_rfl) ?_); (conv => arg 2; cbv); cbv
  refine Idx.mk _ hcs0 hrow ?_
  cbv
  simp only [a6]
  by_cases hxy : x1 ≤ y1
  · rw [if_pos hxy] at hac
    have k1 := e_xmeet ex1 ey1 hxy
    have b7 : wbin .sub .i64 x1 a = x2 := by rw [hbin, i_sub (by omega) (by omega)]; exact ex2
    have b8 : wbin .sub .i64 y1 a = y2 := by rw [hbin, i_sub (by omega) (by omega)]; exact ey2
    have k2 := e_gbounds pps (by have := hpo.le; omega) pq epq x2 y2 (by omega) (p1, p2, p3) ebv
    have k2 : PCalls Try.prog 80 [.list 2 pq, .agg [.int .i64 x2, .int .i64 y2]] (· = .tuple [.agg [.int .i64 p1, .int .i64 p2], .bool p3]) := k2
    (first | (refine Call.stepE (v := ?_) ?_ ?_ ?_; rotate_left 1; (focus (rw [← hP]; exact k1)); (focus (exact rfl)); cbv) | (refine QCal.stepE (v := ?_) ?_ ?_ ?_; rotate_left 1; (focus (rw [← hP]; exact k1)); (focus (exact rfl)); cbv))
    simp only [n1]
    cbv
    refine Idx.mk _ hcs0 hrow ?_
    cbv
    simp only [b7, b8]
    (first | (refine Call.stepE (v := ?_) ?_ ?_ ?_; rotate_left 1; (focus (rw [← hP]; exact k2)); (focus (exact Up0.one hupq rfl)); cbv) | (refine QCal.stepE (v := ?_) ?_ ?_ ?_; rotate_left 1; (focus (rw [← hP]; exact k2)); (focus (exact Up0.one hupq rfl)); cbv))
    cases fd with
    | false =>
      cbv
      simp only [n2]
      cbv
      (first | (refine Call.stepE (v := ?_) ?_ ?_ ?_; rotate_left 1; (focus (rw [← hP]; exact hu2)); (focus (exact rfl)); cbv) | (refine QCal.stepE (v := ?_) ?_ ?_ ?_; rotate_left 1; (focus (rw [← hP]; exact hu2)); (focus (exact rfl)); cbv))
      refine Idx.mk _ hcs0 hrow ?_
      cbv
      simp only [a5, a6]
      refine hN2 (j2, a2, p1, p2, true) _ _ ?hx ?hI hT3
      case hx => (refine Wk.eqzN (id) (by intro i hi; first | rfl | (have hh : i = 0 ∨ i = 1 ∨ i = 2 ∨ i = 3 := (by omega); rcases hh with hh | hh | hh | hh <;> subst hh <;> rfl)) (Nat.le_of_ble_eq_true rfl) (by first | exact fun i _ j _ e => e | (simp only [List.length_cons, List.length_nil]; decide)) ?_; cbv; (repeat' (first | exact trivial | rfl | assumption | apply And.intro | (simp only [hz, Z.a, binStd, cmpStd, unStd, scmpStd, maxI, reduceCtorEq]; first | done | assumption) | exact RowsZ.same (by assumption) (by first | assumption | rfl) | exact FzL.mk rfl rfl rfl (by assumption) (by first | assumption | rfl) (by decide) | (refine RowsZ.one ?_; cbv))))
      case hI => exact ⟨by simp only; omega, by simp only; omega, by simp only; omega, by simp only; omega, hbl, hac⟩
    | true =>
      cbv
      simp only [n1]
      cbv
      (first | (refine Call.stepE (v := ?_) ?_ ?_ ?_; rotate_left 1; (focus (rw [← hP]; exact hu1)); (focus (exact rfl)); cbv) | (refine QCal.stepE (v := ?_) ?_ ?_ ?_; rotate_left 1; (focus (rw [← hP]; exact hu1)); (focus (exact rfl)); cbv))
      refine Idx.mk _ hcs0 hrow ?_
      cbv
      simp only [a5, a6]
      refine hN2 (j2, a2, h1, h2, true) _ _ ?hx ?hI hT3
      case hx => (refine Wk.eqzN (id) (by intro i hi; first | rfl | (have hh : i = 0 ∨ i = 1 ∨ i = 2 ∨ i = 3 := (by omega); rcases hh with hh | hh | hh | hh <;> subst hh <;> rfl)) (Nat.le_of_ble_eq_true rfl) (by first | exact fun i _ j _ e => e | (simp only [List.length_cons, List.length_nil]; decide)) ?_; cbv; (repeat' (first | exact trivial | rfl | assumption | apply And.intro | (simp only [hz, Z.a, binStd, cmpStd, unStd, scmpStd, maxI, reduceCtorEq]; first | done | assumption) | exact RowsZ.same (by assumption) (by first | assumption | rfl) | exact FzL.mk rfl rfl rfl (by assumption) (by first | assumption | rfl) (by decide) | (refine RowsZ.one ?_; cbv))))
      case hI => exact ⟨by simp only; omega, by simp only; omega, by simp only; omega, by simp only; omega, by simp only; omega, by simp only [joinG, if_true, eh1, eh2] at hac; exact hac⟩
  · rw [if_neg hxy] at hac
    have k1 := e_xmeetNo ex1 ey1 (show y1 < x1 by omega)
    (first | (refine Call.stepE (v := ?_) ?_ ?_ ?_; rotate_left 1; (focus (rw [← hP]; exact k1)); (focus (exact rfl)); cbv) | (refine QCal.stepE (v := ?_) ?_ ?_ ?_; rotate_left 1; (focus (rw [← hP]; exact k1)); (focus (exact rfl)); cbv))
    simp only [n2]
    cbv
    refine Idx.mk _ hcs0 hrow ?_
    cbv
    simp only [a5, a6]
    refine hN2 (j2, a2, g1, g2, fd) _ _ ?hx ?hI hT3
    case hx => (refine Wk.eqzN (id) (by intro i hi; first | rfl | (have hh : i = 0 ∨ i = 1 ∨ i = 2 ∨ i = 3 := (by omega); rcases hh with hh | hh | hh | hh <;> subst hh <;> rfl)) (Nat.le_of_ble_eq_true rfl) (by first | exact fun i _ j _ e => e | (simp only [List.length_cons, List.length_nil]; decide)) ?_; cbv; (repeat' (first | exact trivial | rfl | assumption | apply And.intro | (simp only [hz, Z.a, binStd, cmpStd, unStd, scmpStd, maxI, reduceCtorEq]; first | done | assumption) | exact RowsZ.same (by assumption) (by first | assumption | rfl) | exact FzL.mk rfl rfl rfl (by assumption) (by first | assumption | rfl) (by decide) | (refine RowsZ.one ?_; cbv))))
    case hI => exact ⟨by simp only; omega, by simp only; omega, by simp only; omega, by simp only; omega, hg12, hac⟩
end Go.Proofs.Ytpiocfmdjgbamaa

/- The document's grades at some places of ways, by the engine. -/
namespace Go.Proofs.Ytpiocfmdjgbamaa
open Go Go.RowKit Go.Eng
set_option maxRecDepth 100000
set_option maxHeartbeats 4000000 in
theorem e_rgrades (ss : List Sg) (gs : List Gr) (es ds : List (List AV)) (hes : es = ss.map sgRow) (hds : ds = gs.map grRow) (hln : LensOk ss) (hpc : ∀ s, s ∈ ss → PcsOk s.ps) (from_ : Int) (hf : 0 ≤ from_ ∧ from_ ≤ 1099511627776) (m : List (List Int)) (hw1 : ∀ l, l ∈ m → WayOk ss l) (hm : m.length ≤ 1000) (qs : List (List AV)) (hqs : qs = m.map rtRow)
    (lo hi : Int) (v : Int × Int × Bool) (ev : v = m.foldl (fun s l => grw ss lo hi s (-from_) l) (0, 0, false)) :
    PCalls Try.prog 51 [.agg [.list 3 es, .list 5 ds], .agg [.int .i64 from_, .list 1 qs], .int .i64 lo, .int .i64 hi] (· = .tuple [.int .i64 v.1, .int .i64 v.2.1, .bool v.2.2]) := by
  have hu : Up0 es := by rw [hes]; exact up_sg ss
  have hud : Up0 ds := by rw [hds]; exact up_gr gs
  have huq : Up0 qs := by rw [hqs]; exact up_rt m
  have hql : qs.length = m.length := by rw [hqs]; simp
  obtain ⟨v1, v2, v3⟩ := v
  (refine PCalls.ofY Try.func51 (by kernel_rfl) (by kernel_rfl) fun w hw R hR => ?_); (obtain ⟨wbin, wcmp, wun, wconv, wnot, wbeq, wmm, wscmp, wsadd, wslen, wsat, weqs, wlen, wnlen, wofNat, wtake, wdrop, wapp, wzero, wnat⟩ := w); (have hbin := Z.w1 hw); (have hcmp := Z.w2 hw); (have hun := Z.w3 hw); (have hconv := Z.w4 hw); (have hnot := Z.w5 hw); (have hbeq := Z.w6 hw); (have hmm := Z.w7 hw); (have hscmp := Z.w8 hw); (have hsadd := Z.w9 hw); (have hslen := Z.w10 hw); (have hsat := Z.w11 hw); (have heqs := Z.w12 hw); (have hlen := Z.w13 hw); (have hnlen := Z.w14 hw); (have hofNat := Z.w15 hw); (have htake := Z.w16 hw); (have hdrop := Z.w17 hw); (have happ := Z.w18 hw); (have hzero := Z.w19 hw); (have hnat := Z.w20 hw); (have hz := Z.z hw); (conv => arg 2; cbv); (generalize hP : Try.prog = P); cbv
  (obtain ⟨L, eL, L0, Ln⟩ : ∃ L : Int, wlen qs = L ∧ 0 ≤ L ∧ L.toNat = qs.length := ⟨(qs.length : Int), by rw [hlen], Int.natCast_nonneg _, Int.toNat_natCast _⟩)
  obtain ⟨a0, ea0⟩ : ∃ a0, a0 = -from_ := ⟨_, rfl⟩
  have c0 : wun .neg .i64 from_ = a0 := by rw [hun, ea0]; simp only [unStd]; rw [IntKind.wrap_i64]; omega
  refine Loop.data hw (S := Int × Int × Int × Bool) (fun s => fr 101 [(2, .int .i64 lo), (3, .int .i64 hi), (4, .ref 0 2 0 0), (5, .ref 1 2 0 0), (11, .int .i64 s.2.1), (12, .int .i64 s.2.2.1), (13, .bool s.2.2.2), (14, .int .i64 s.1)]) (fun _ => [.live 2 [[.list 3 es, .list 5 ds]], .live 2 [[.int .i64 from_, .list 1 qs]]])
    (fun s => 0 ≤ s.1 ∧ s.1 ≤ L ∧ (s.2.1, s.2.2.1, s.2.2.2) = (m.take s.1.toNat).foldl (fun s l => grw ss lo hi s (-from_) l) (0, 0, false)) (fun s => (L - s.1).toNat) (0, 0, 0, false) (by (refine Wk.eqz (id) (by first | exact fun i _ j _ e => e | (simp only [List.length_cons, List.length_nil]; decide)) ?_; cbv; (repeat' (first | exact trivial | rfl | assumption | apply And.intro | (simp only [hz, Z.a, binStd, cmpStd, unStd, scmpStd, maxI, reduceCtorEq]; first | done | assumption) | exact RowsZ.same (by assumption) (by first | assumption | rfl) | exact FzL.mk rfl rfl rfl (by assumption) (by first | assumption | rfl) (by decide) | (refine RowsZ.one ?_; cbv))))) ⟨Int.le_refl _, L0, rfl⟩ ?_
  rintro ⟨i, b1, b2, f⟩ hinv Q' hN hE hR'
  have hinv : 0 ≤ i ∧ i ≤ L ∧ (b1, b2, f) = (m.take i.toNat).foldl (fun s l => grw ss lo hi s (-from_) l) (0, 0, false) := hinv
  cbv
  obtain ⟨hi0, hi1, hacc⟩ := hinv
  simp only [eL]
  (split <;> rename_i hc <;> (try (simp only [hz, Z.a, binStd, cmpStd, unStd, scmpStd, maxI, reduceCtorEq] at hc)) <;> (try cbv))
  rotate_left 1
  · rw [List.take_of_length_le (by omega), ← ev] at hacc
    simp only [Prod.mk.injEq] at hacc
    obtain ⟨rfl, rfl, rfl⟩ := hacc
    refine hE _ _ _ ?_
    cbv
    repeat' (refine And.intro ?_ ?_)
    all_goals exact ⟨_, Vw.same rfl, hR _ rfl⟩
  obtain ⟨l, hl⟩ : ∃ l, m[i.toNat]? = some l := ⟨_, List.getElem?_eq_getElem (show i.toNat < m.length by omega)⟩
  have hlw := hw1 l (List.mem_of_getElem? hl)
  have hl12 := hlw.len.1
  obtain ⟨xs, exs⟩ : ∃ x, x = l.map nxRow := ⟨_, rfl⟩
  have huxs : Up0 xs := by rw [exs]; exact up_nx l
  have hxl : xs.length = l.length := by rw [exs]; simp
  have hqi : qs[i.toNat]? = some [.list 1 xs] := by rw [hqs, List.getElem?_map, hl, exs]; rfl
  obtain ⟨i2, ei2⟩ : ∃ z, z = i + 1 := ⟨_, rfl⟩
  have a4 : wbin .add .i64 i 1 = i2 := by rw [hbin, ei2]; show IntKind.i64.wrap (i + 1) = i + 1; rw [IntKind.wrap_i64]; omega
  have hT2 : (L - i2).toNat < (L - i).toNat := by omega
  have htk : m.take i2.toNat = m.take i.toNat ++ [l] := by rw [ei2]; exact take_next hi0 hl
  obtain ⟨tg, etg⟩ : ∃ x, x = (m.take i2.toNat).foldl (fun s l => grw ss lo hi s (-from_) l) (0, 0, false) := ⟨_, rfl⟩
  have hacc2 : grw ss lo hi (b1, b2, f) a0 l = tg := by rw [etg, htk, List.foldl_append, ← hacc, ea0]; rfl
  (obtain ⟨K, eK, K0, Kn⟩ : ∃ L : Int, wlen xs = L ∧ 0 ≤ L ∧ L.toNat = xs.length := ⟨(xs.length : Int), by rw [hlen], Int.natCast_nonneg _, Int.toNat_natCast _⟩)
  simp only [c0]
  refine Loop.data hw (S := Int × Int × Int × Int × Bool) (fun s => fr 101 [(2, .int .i64 lo), (3, .int .i64 hi), (4, .ref 0 2 0 0), (5, .ref 1 2 0 0), (11, .int .i64 s.2.2.1), (12, .int .i64 s.2.2.2.1), (13, .bool s.2.2.2.2), (14, .int .i64 i), (15, .int .i64 s.2.1), (16, .int .i64 s.1)]) (fun _ => [.live 2 [[.list 3 es, .list 5 ds]], .live 2 [[.int .i64 from_, .list 1 qs]]])
    (fun s => 0 ≤ s.1 ∧ s.1 ≤ K ∧ -1099511627776 ≤ s.2.1 ∧ s.2.1 ≤ s.1 * 1099511627776 ∧ grw ss lo hi (s.2.2.1, s.2.2.2.1, s.2.2.2.2) s.2.1 (l.drop s.1.toNat) = tg) (fun s => (K - s.1).toNat) (0, a0, b1, b2, f) (by (refine Wk.eqz (id) (by first | exact fun i _ j _ e => e | (simp only [List.length_cons, List.length_nil]; decide)) ?_; cbv; (repeat' (first | exact trivial | rfl | assumption | apply And.intro | (simp only [hz, Z.a, binStd, cmpStd, unStd, scmpStd, maxI, reduceCtorEq]; first | done | assumption) | exact RowsZ.same (by assumption) (by first | assumption | rfl) | exact FzL.mk rfl rfl rfl (by assumption) (by first | assumption | rfl) (by decide) | (refine RowsZ.one ?_; cbv))))) ⟨Int.le_refl _, K0, by simp only; omega, by simp only; omega, hacc2⟩ ?_
  rintro ⟨j, a, g1, g2, fd⟩ hinv2 Q2 hN2 hE2 hR2
  have hinv2 : 0 ≤ j ∧ j ≤ K ∧ -1099511627776 ≤ a ∧ a ≤ j * 1099511627776 ∧ grw ss lo hi (g1, g2, fd) a (l.drop j.toNat) = tg := hinv2
  cbv
  obtain ⟨hj0, hj1, hq0, hq1, hac⟩ := hinv2
  refine Idx.mk _ hi0 hqi ?_
  cbv
  simp only [eK]
  (split <;> rename_i hd <;> (try (simp only [hz, Z.a, binStd, cmpStd, unStd, scmpStd, maxI, reduceCtorEq] at hd)) <;> (try cbv))
  rotate_left 1
  · refine hE2 _ _ _ ?_
    cbv
    simp only [a4]
    rw [List.drop_of_length_le (by omega)] at hac
    refine hN (i2, g1, g2, fd) _ _ ?hx ?hI hT2
    case hx => (refine Wk.eqz (id) (by first | exact fun i _ j _ e => e | (simp only [List.length_cons, List.length_nil]; decide)) ?_; cbv; (repeat' (first | exact trivial | rfl | assumption | apply And.intro | (simp only [hz, Z.a, binStd, cmpStd, unStd, scmpStd, maxI, reduceCtorEq]; first | done | assumption) | exact RowsZ.same (by assumption) (by first | assumption | rfl) | exact FzL.mk rfl rfl rfl (by assumption) (by first | assumption | rfl) (by decide) | (refine RowsZ.one ?_; cbv))))
    case hI => exact ⟨by simp only; omega, by simp only; omega, by simp only; rw [← etg, ← hac]; rfl⟩
  obtain ⟨c, hcj⟩ : ∃ c, l[j.toNat]? = some c := ⟨_, List.getElem?_eq_getElem (show j.toNat < l.length by omega)⟩
  have hxj : xs[j.toNat]? = some [.int .i64 c] := by rw [exs, List.getElem?_map, hcj]; rfl
  obtain ⟨hcs0, hcs1⟩ := hlw.seg c (List.mem_of_getElem? hcj)
  obtain ⟨⟨len, pps, nx⟩, hdc, hrow⟩ := get_map (f := sgRow) (ds := ss) (i := c) hcs0 hcs1
  have hpo : PcsOk pps := hpc ⟨len, pps, nx⟩ (List.mem_of_getElem? hdc)
  obtain ⟨pq, epq⟩ : ∃ x, x = pps.map pcRow := ⟨_, rfl⟩
  have hupq : Up0 pq := by rw [epq]; exact up_pc pps
  obtain ⟨xn, exn⟩ : ∃ x, nx.map nxRow = x := ⟨_, rfl⟩
  have hrow : es[c.toNat]? = some [.int .i64 len, .list 2 pq, .list 1 xn] := by rw [hes, epq, ← exn]; exact hrow
  have hlen : lenAt ss c = len := by unfold lenAt; rw [hdc]
  have hpsA : psAt ss c = pps := by unfold psAt; rw [hdc]
  have hlb := lenAt_le hln c
  rw [hlen] at hlb
  obtain ⟨j2, ej2⟩ : ∃ z, z = j + 1 := ⟨_, rfl⟩
  have a5 : wbin .add .i64 j 1 = j2 := by rw [hbin, ej2]; show IntKind.i64.wrap (j + 1) = j + 1; rw [IntKind.wrap_i64]; omega
  obtain ⟨a2, ea2⟩ : ∃ z, z = a + len := ⟨_, rfl⟩
  have a6 : wbin .add .i64 a len = a2 := by rw [hbin, ea2]; show IntKind.i64.wrap (a + len) = a + len; rw [IntKind.wrap_i64]; omega
  have hT3 : (K - j2).toNat < (K - j).toNat := by omega
  obtain ⟨x1, ex1⟩ : ∃ z, max lo a = z := ⟨_, rfl⟩
  obtain ⟨y1, ey1⟩ : ∃ z, min hi a2 = z := ⟨_, rfl⟩
  obtain ⟨x2, ex2⟩ : ∃ z, x1 - a = z := ⟨_, rfl⟩
  obtain ⟨y2, ey2⟩ : ∃ z, y1 - a = z := ⟨_, rfl⟩
  obtain ⟨bv, ebv⟩ : ∃ x, x = bndG pps x2 y2 pps.length := ⟨_, rfl⟩
  have hdr : grw ss lo hi (g1, g2, fd) a (l.drop j.toNat) = grw ss lo hi (if x1 ≤ y1 then joinG (g1, g2, fd) bv else (g1, g2, fd)) a2 (l.drop j2.toNat) := by
    rw [drop_getP hcj, show j2.toNat = j.toNat + 1 by omega]
    simp only [grw]
    rw [hlen, hpsA, ← ea2, ex1, ey1, ex2, ey2, ← ebv]
  rw [hdr] at hac
  clear hdr
  have m1 : wmm true lo a = x1 := by rw [hmm, mmT', ex1]
  have m2 : wmm false hi a2 = y1 := by rw [hmm, mmF', ey1]
  refine Idx.mk _ hi0 hqi ?_
  cbv
  refine Idx.mk _ hj0 hxj ?_
  cbv
  refine Idx.mk _ hcs0 hrow ?_
  cbv
  simp only [a6, m1, m2]
  by_cases hxy : x1 ≤ y1
  · rw [if_pos hxy] at hac
    have b7 : wbin .sub .i64 x1 a = x2 := by rw [hbin, i_sub (by omega) (by omega)]; exact ex2
    have b8 : wbin .sub .i64 y1 a = y2 := by rw [hbin, i_sub (by omega) (by omega)]; exact ey2
    have hfo : bv.2.2 = true := by rw [ebv]; exact bndG_found hpo (by omega) (by omega)
    have k2 := e_rbounds pps hpo pq epq x2 y2 (bv.1, bv.2.1) (by rw [← ebv]; unfold bndR; rw [hfo]; rfl)
    obtain ⟨p1, p2, p3⟩ := bv
    simp only at hfo k2
    subst hfo
    have z1 : wcmp .leq x1 y1 = true := by rw [hcmp]; simp [cmpStd, hxy]
    simp only [z1]
    cbv
    simp only [b7, b8]
    (first | (refine Call.stepE (v := ?_) ?_ ?_ ?_; rotate_left 1; (focus (rw [← hP]; exact k2)); (focus (exact Up0.one hupq rfl)); cbv) | (refine QCal.stepE (v := ?_) ?_ ?_ ?_; rotate_left 1; (focus (rw [← hP]; exact k2)); (focus (exact Up0.one hupq rfl)); cbv))
    have n1 : wnot true = false := by rw [hnot]; rfl
    have n2 : wnot false = true := by rw [hnot]; rfl
    cases fd with
    | false =>
      cbv
      simp only [n2]
      cbv
      (try (simp only [n2]; cbv))
      simp only [a5, a6]
      refine hN2 (j2, a2, p1, p2, true) _ _ ?hx ?hI hT3
      case hx => (refine Wk.eqz (id) (by first | exact fun i _ j _ e => e | (simp only [List.length_cons, List.length_nil]; decide)) ?_; cbv; (repeat' (first | exact trivial | rfl | assumption | apply And.intro | (simp only [hz, Z.a, binStd, cmpStd, unStd, scmpStd, maxI, reduceCtorEq]; first | done | assumption) | exact RowsZ.same (by assumption) (by first | assumption | rfl) | exact FzL.mk rfl rfl rfl (by assumption) (by first | assumption | rfl) (by decide) | (refine RowsZ.one ?_; cbv))))
      case hI => exact ⟨by simp only; omega, by simp only; omega, by simp only; omega, by simp only; omega, hac⟩
    | true =>
      cbv
      simp only [n1]
      cbv
      have hac : grw ss lo hi (min g1 p1, max g2 p2, true) a2 (l.drop j2.toNat) = tg := hac
      repeat' (first
        | (simp only [n1]; cbv)
        | (split <;> rename_i h9 <;> (try (simp only [hz, Z.a, binStd, cmpStd, unStd, scmpStd, maxI, reduceCtorEq] at h9)) <;> (try cbv)))
      all_goals
        simp only [a5, a6]
        first
          | (refine hN2 (j2, a2, g1, g2, true) _ _ ?hx ?hI hT3; (case hx => (refine Wk.eqz (id) (by first | exact fun i _ j _ e => e | (simp only [List.length_cons, List.length_nil]; decide)) ?_; cbv; (repeat' (first | exact trivial | rfl | assumption | apply And.intro | (simp only [hz, Z.a, binStd, cmpStd, unStd, scmpStd, maxI, reduceCtorEq]; first | done | assumption) | exact RowsZ.same (by assumption) (by first | assumption | rfl) | exact FzL.mk rfl rfl rfl (by assumption) (by first | assumption | rfl) (by decide) | (refine RowsZ.one ?_; cbv))))); (case hI => exact ⟨by simp only; omega, by simp only; omega, by simp only; omega, by simp only; omega, by rw [← hac]; simp only; rw [show min g1 p1 = g1 by omega, show max g2 p2 = g2 by omega]⟩))
          | (refine hN2 (j2, a2, p1, g2, true) _ _ ?hx ?hI hT3; (case hx => (refine Wk.eqz (id) (by first | exact fun i _ j _ e => e | (simp only [List.length_cons, List.length_nil]; decide)) ?_; cbv; (repeat' (first | exact trivial | rfl | assumption | apply And.intro | (simp only [hz, Z.a, binStd, cmpStd, unStd, scmpStd, maxI, reduceCtorEq]; first | done | assumption) | exact RowsZ.same (by assumption) (by first | assumption | rfl) | exact FzL.mk rfl rfl rfl (by assumption) (by first | assumption | rfl) (by decide) | (refine RowsZ.one ?_; cbv))))); (case hI => exact ⟨by simp only; omega, by simp only; omega, by simp only; omega, by simp only; omega, by rw [← hac]; simp only; rw [show min g1 p1 = p1 by omega, show max g2 p2 = g2 by omega]⟩))
          | (refine hN2 (j2, a2, g1, p2, true) _ _ ?hx ?hI hT3; (case hx => (refine Wk.eqz (id) (by first | exact fun i _ j _ e => e | (simp only [List.length_cons, List.length_nil]; decide)) ?_; cbv; (repeat' (first | exact trivial | rfl | assumption | apply And.intro | (simp only [hz, Z.a, binStd, cmpStd, unStd, scmpStd, maxI, reduceCtorEq]; first | done | assumption) | exact RowsZ.same (by assumption) (by first | assumption | rfl) | exact FzL.mk rfl rfl rfl (by assumption) (by first | assumption | rfl) (by decide) | (refine RowsZ.one ?_; cbv))))); (case hI => exact ⟨by simp only; omega, by simp only; omega, by simp only; omega, by simp only; omega, by rw [← hac]; simp only; rw [show min g1 p1 = g1 by omega, show max g2 p2 = p2 by omega]⟩))
          | (refine hN2 (j2, a2, p1, p2, true) _ _ ?hx ?hI hT3; (case hx => (refine Wk.eqz (id) (by first | exact fun i _ j _ e => e | (simp only [List.length_cons, List.length_nil]; decide)) ?_; cbv; (repeat' (first | exact trivial | rfl | assumption | apply And.intro | (simp only [hz, Z.a, binStd, cmpStd, unStd, scmpStd, maxI, reduceCtorEq]; first | done | assumption) | exact RowsZ.same (by assumption) (by first | assumption | rfl) | exact FzL.mk rfl rfl rfl (by assumption) (by first | assumption | rfl) (by decide) | (refine RowsZ.one ?_; cbv))))); (case hI => exact ⟨by simp only; omega, by simp only; omega, by simp only; omega, by simp only; omega, by rw [← hac]; simp only; rw [show min g1 p1 = p1 by omega, show max g2 p2 = p2 by omega]⟩))
  · rw [if_neg hxy] at hac
    have z1 : wcmp .leq x1 y1 = false := by rw [hcmp]; simp [cmpStd]; omega
    simp only [z1]
    cbv
    simp only [a5, a6]
    refine hN2 (j2, a2, g1, g2, fd) _ _ ?hx ?hI hT3
    case hx => (refine Wk.eqz (id) (by first | exact fun i _ j _ e => e | (simp only [List.length_cons, List.length_nil]; decide)) ?_; cbv; (repeat' (first | exact trivial | rfl | assumption | apply And.intro | (simp only [hz, Z.a, binStd, cmpStd, unStd, scmpStd, maxI, reduceCtorEq]; first | done | assumption) | exact RowsZ.same (by assumption) (by first | assumption | rfl) | exact FzL.mk rfl rfl rfl (by assumption) (by first | assumption | rfl) (by decide) | (refine RowsZ.one ?_; cbv))))
    case hI => exact ⟨by simp only; omega, by simp only; omega, by simp only; omega, by simp only; omega, hac⟩
end Go.Proofs.Ytpiocfmdjgbamaa

/- A number in its place, by the engine. -/
namespace Go.Proofs.Ytpiocfmdjgbamaa
open Go Go.RowKit Go.Eng
set_option maxRecDepth 100000
set_option maxHeartbeats 4000000 in
theorem e_add14 (l : List Int) (r : Int) (hl16 : l.length ≤ 1000) (ls : List (List AV)) (hls : ls = l.map nxRow) :
    PCalls Try.prog 74 [.list 1 ls, .int .i64 r] (· = .list 1 ((addQ l r).map nxRow)) := by
  have hul : Up0 ls := by rw [hls]; exact up_nx l
  have hll : ls.length = l.length := by rw [hls]; simp
  obtain ⟨q, eq⟩ : ∃ q, q = (addQ l r).map nxRow := ⟨_, rfl⟩
  rw [← eq]
  (refine PCalls.ofY Try.func74 (by kernel_rfl) (by kernel_rfl) fun w hw R hR => ?_); (obtain ⟨wbin, wcmp, wun, wconv, wnot, wbeq, wmm, wscmp, wsadd, wslen, wsat, weqs, wlen, wnlen, wofNat, wtake, wdrop, wapp, wzero, wnat⟩ := w); (have hbin := Z.w1 hw); (have hcmp := Z.w2 hw); (have hun := Z.w3 hw); (have hconv := Z.w4 hw); (have hnot := Z.w5 hw); (have hbeq := Z.w6 hw); (have hmm := Z.w7 hw); (have hscmp := Z.w8 hw); (have hsadd := Z.w9 hw); (have hslen := Z.w10 hw); (have hsat := Z.w11 hw); (have heqs := Z.w12 hw); (have hlen := Z.w13 hw); (have hnlen := Z.w14 hw); (have hofNat := Z.w15 hw); (have htake := Z.w16 hw); (have hdrop := Z.w17 hw); (have happ := Z.w18 hw); (have hzero := Z.w19 hw); (have hnat := Z.w20 hw); (have hz := Z.z hw); (conv => arg 2; cbv); (generalize hP : Try.prog = P); cbv
  (obtain ⟨L, eL, L0, Ln⟩ : ∃ L : Int, wlen ls = L ∧ 0 ≤ L ∧ L.toNat = ls.length := ⟨(ls.length : Int), by rw [hlen], Int.natCast_nonneg _, Int.toNat_natCast _⟩)
  refine Loop.data hw (S := Option (Int × Bool × List Int × Nat × List (List AV))) (fun s => match s with
      | none => fr 48 [(0, .list 1 ls), (1, .int .i64 r), (5, .nils), (6, .bool false), (7, .int .i64 0)]
      | some (i, d, out, k, w) => fr 48 [(0, .list 1 ls), (1, .int .i64 r), (5, .sl 0 1 0 k), (6, .bool d), (7, .int .i64 i)])
    (fun s => match s with
      | none => []
      | some (i, d, out, k, w) => [.live 1 w])
    (fun s => match s with
      | none => True
      | some (i, d, out, k, w) => 0 ≤ i ∧ i ≤ L ∧ addQ l r = out ++ (if d then l.drop i.toNat else addQ (l.drop i.toNat) r) ∧ w = out.map nxRow ∧ Up0 w ∧ k = w.length ∧ out.length ≤ 2 * i.toNat) (fun s => match s with | none => L.toNat + 1 | some (i, _) => (L - i).toNat) none (by (refine Wk.eqz (id) (by first | exact fun i _ j _ e => e | (simp only [List.length_cons, List.length_nil]; decide)) ?_; cbv; (repeat' (first | exact trivial | rfl | assumption | apply And.intro | (simp only [hz, Z.a, binStd, cmpStd, unStd, scmpStd, maxI, reduceCtorEq]; first | done | assumption) | exact RowsZ.same (by assumption) (by first | assumption | rfl) | exact FzL.mk rfl rfl rfl (by assumption) (by first | assumption | rfl) (by decide) | (refine RowsZ.one ?_; cbv))))) trivial ?_
  rintro (_ | ⟨i, d, out, k, w⟩) hinv Q' hN hE hR'
  · cbv
    simp only [eL]
    (split <;> rename_i hc <;> (try (simp only [hz, Z.a, binStd, cmpStd, unStd, scmpStd, maxI, reduceCtorEq] at hc)) <;> (try cbv))
    · obtain ⟨k0, hk0⟩ : ∃ k0, l[0]? = some k0 := ⟨_, List.getElem?_eq_getElem (show 0 < l.length by omega)⟩
      obtain ⟨i2, ei2⟩ : ∃ z : Int, z = 0 + 1 := ⟨_, rfl⟩
      have a4 : wbin .add .i64 0 1 = i2 := by rw [hbin, ei2]; show IntKind.i64.wrap (0 + 1) = 0 + 1; rw [IntKind.wrap_i64]; omega
      have hD : l.drop 0 = k0 :: l.drop i2.toNat := by rw [drop_get hk0, show i2.toNat = 0 + 1 by omega]
      have hrow : ls[(0 : Int).toNat]? = some [.int .i64 k0] := by rw [hls, List.getElem?_map, show (0 : Int).toNat = 0 from rfl, hk0]; rfl
      have n1 : wnot true = false := by rw [hnot]; rfl
      have n2 : wnot false = true := by rw [hnot]; rfl
      have hput : addQ l r = addQ (k0 :: l.drop i2.toNat) r := by rw [← hD, List.drop_zero]
      simp only [n2]
      cbv
      refine Idx.mk _ (by decide) hrow ?_
      cbv
      by_cases hq : k0 < r
      · have g1 : wcmp .geq k0 r = false := by rw [hcmp]; simp [cmpStd]; omega
        simp only [g1]
        cbv
        refine Idx.mk _ (by decide) hrow ?_
        cbv
        refine Ob.mk (by decide) ?_
        cbv
        have hwf : [[.int .i64 k0]] = ([] ++ [k0]).map nxRow := by simp only [List.map_append, List.append_assoc, List.nil_append, List.map_cons, List.map_nil]; simp [nxRow]
        have huwf : Up0 [[.int .i64 k0]] := by rw [hwf]; exact up_nx _
        simp only [a4]
        refine hN (some (i2, false, [] ++ [k0], 1, [[.int .i64 k0]])) _ _ ?hx ?hi ?ht
        case hx => (refine Wk.eqz (fun j => [0].getD j 0) (by first | exact fun i _ j _ e => e | (simp only [List.length_cons, List.length_nil]; decide)) ?_; cbv; (repeat' (first | exact trivial | rfl | assumption | apply And.intro | (simp only [hz, Z.a, binStd, cmpStd, unStd, scmpStd, maxI, reduceCtorEq]; first | done | assumption) | exact RowsZ.same (by assumption) (by first | assumption | rfl) | exact FzL.mk rfl rfl rfl (by assumption) (by first | assumption | rfl) (by decide) | (refine RowsZ.one ?_; cbv))))
        case hi => exact ⟨by omega, by omega, by rw [hput]; rw [addQ_lt hq]; simp, hwf, huwf, by first | rfl | omega, by simp only [List.length_append, List.length_cons, List.length_nil]; omega⟩
        case ht => show (L - i2).toNat < L.toNat + 1; omega
      · have g1 : wcmp .geq k0 r = true := by rw [hcmp]; simp [cmpStd]; omega
        simp only [g1]
        cbv
        refine Idx.mk _ (by decide) hrow ?_
        cbv
        by_cases hq2 : r < k0
        · have g2 : wcmp .gtr k0 r = true := by rw [hcmp]; simp [cmpStd]; omega
          simp only [g2]
          cbv
          refine Ob.mk (by decide) ?_
          cbv
          refine Idx.mk _ (by decide) hrow ?_
          cbv
          obtain ⟨w0, ew0⟩ : ∃ x : List (List AV), x = [[AV.int .i64 r]] ++ [[.int .i64 k0]] := ⟨_, rfl⟩
          obtain ⟨k0', ek0'⟩ : ∃ x, x = 1 + 1 := ⟨_, rfl⟩
          have hl0 : w0.length = 2 := by rw [ew0]; simp
          refine App.mk w0 k0' ew0 (by simp) ek0' (by omega) (by omega) ?_
          cbv
          have hwf : w0 = ([] ++ [r, k0]).map nxRow := by simp only [ew0, List.map_append, List.append_assoc, List.nil_append, List.map_cons, List.map_nil]; simp [nxRow]
          have huwf : Up0 w0 := by rw [hwf]; exact up_nx _
          simp only [a4]
          refine hN (some (i2, true, [] ++ [r, k0], k0', w0)) _ _ ?hx ?hi ?ht
          case hx => (refine Wk.eqz (fun j => [1].getD j 0) (by first | exact fun i _ j _ e => e | (simp only [List.length_cons, List.length_nil]; decide)) ?_; cbv; (repeat' (first | exact trivial | rfl | assumption | apply And.intro | (simp only [hz, Z.a, binStd, cmpStd, unStd, scmpStd, maxI, reduceCtorEq]; first | done | assumption) | exact RowsZ.same (by assumption) (by first | assumption | rfl) | exact FzL.mk rfl rfl rfl (by assumption) (by first | assumption | rfl) (by decide) | (refine RowsZ.one ?_; cbv))))
          case hi => exact ⟨by omega, by omega, by rw [hput]; rw [addQ_gt hq2]; simp, hwf, huwf, by first | rfl | omega, by simp only [List.length_append, List.length_cons, List.length_nil]; omega⟩
          case ht => show (L - i2).toNat < L.toNat + 1; omega
        · have g2 : wcmp .gtr k0 r = false := by rw [hcmp]; simp [cmpStd]; omega
          simp only [g2]
          cbv
          refine Idx.mk _ (by decide) hrow ?_
          cbv
          refine Ob.mk (by decide) ?_
          cbv
          have hwf : [[.int .i64 k0]] = ([] ++ [k0]).map nxRow := by simp only [List.map_append, List.append_assoc, List.nil_append, List.map_cons, List.map_nil]; simp [nxRow]
          have huwf : Up0 [[.int .i64 k0]] := by rw [hwf]; exact up_nx _
          simp only [a4]
          refine hN (some (i2, true, [] ++ [k0], 1, [[.int .i64 k0]])) _ _ ?hx ?hi ?ht
          case hx => (refine Wk.eqz (fun j => [0].getD j 0) (by first | exact fun i _ j _ e => e | (simp only [List.length_cons, List.length_nil]; decide)) ?_; cbv; (repeat' (first | exact trivial | rfl | assumption | apply And.intro | (simp only [hz, Z.a, binStd, cmpStd, unStd, scmpStd, maxI, reduceCtorEq]; first | done | assumption) | exact RowsZ.same (by assumption) (by first | assumption | rfl) | exact FzL.mk rfl rfl rfl (by assumption) (by first | assumption | rfl) (by decide) | (refine RowsZ.one ?_; cbv))))
          case hi => exact ⟨by omega, by omega, by rw [hput]; rw [addQ_eq (by omega) (by omega)]; simp, hwf, huwf, by first | rfl | omega, by simp only [List.length_append, List.length_cons, List.length_nil]; omega⟩
          case ht => show (L - i2).toNat < L.toNat + 1; omega
    · refine hE _ _ _ ?_
      cbv
      have hl0 : l = [] := List.length_eq_zero_iff.1 (by omega)
      simp only [show wnot false = true by rw [hnot]; rfl]
      cbv
      refine Ob.mk (by decide) ?_
      cbv
      refine ⟨_, Vw.sl (n := 1) (i := 0) rfl (by rfl) (by simp), hR _ ?_⟩
      rw [eq, hl0]; rfl
  · have hinv : 0 ≤ i ∧ i ≤ L ∧ addQ l r = out ++ (if d then l.drop i.toNat else addQ (l.drop i.toNat) r) ∧ w = out.map nxRow ∧ Up0 w ∧ k = w.length ∧ out.length ≤ 2 * i.toNat := hinv
    cbv
    obtain ⟨hi0, hi1, hput, hw2, huw, hk, hsz⟩ := hinv
    have hwl : w.length = out.length := by rw [hw2]; simp
    simp only [eL]
    (split <;> rename_i hc <;> (try (simp only [hz, Z.a, binStd, cmpStd, unStd, scmpStd, maxI, reduceCtorEq] at hc)) <;> (try cbv))
    · obtain ⟨k0, hk0⟩ : ∃ k0, l[i.toNat]? = some k0 := ⟨_, List.getElem?_eq_getElem (show i.toNat < l.length by omega)⟩
      obtain ⟨i2, ei2⟩ : ∃ z : Int, z = i + 1 := ⟨_, rfl⟩
      have a4 : wbin .add .i64 i 1 = i2 := by rw [hbin, ei2]; show IntKind.i64.wrap (i + 1) = i + 1; rw [IntKind.wrap_i64]; omega
      have hD : l.drop i.toNat = k0 :: l.drop i2.toNat := by rw [drop_get hk0, show i2.toNat = i.toNat + 1 by omega]
      have hrow : ls[(i : Int).toNat]? = some [.int .i64 k0] := by rw [hls, List.getElem?_map, show (i : Int).toNat = i.toNat from rfl, hk0]; rfl
      have n1 : wnot true = false := by rw [hnot]; rfl
      have n2 : wnot false = true := by rw [hnot]; rfl
      cases d with
      | true =>
        cbv
        simp only [n1]
        cbv
        refine Idx.mk _ hi0 hrow ?_
        cbv
        obtain ⟨w0, ew0⟩ : ∃ x : List (List AV), x = w ++ [[.int .i64 k0]] := ⟨_, rfl⟩
        obtain ⟨k0', ek0'⟩ : ∃ x, x = k + 1 := ⟨_, rfl⟩
        have hl0 : w0.length = w.length + 1 := by rw [ew0]; simp
        refine App.mk w0 k0' ew0 hk ek0' (by omega) (by omega) ?_
        cbv
        have hwf : w0 = (out ++ [k0]).map nxRow := by simp only [ew0, hw2, List.map_append, List.append_assoc, List.nil_append, List.map_cons, List.map_nil]; simp [nxRow]
        have huwf : Up0 w0 := by rw [hwf]; exact up_nx _
        simp only [a4]
        refine hN (some (i2, true, out ++ [k0], k0', w0)) _ _ ?hx ?hi ?ht
        case hx => (refine Wk.eqz (fun j => [1].getD j 0) (by first | exact fun i _ j _ e => e | (simp only [List.length_cons, List.length_nil]; decide)) ?_; cbv; (repeat' (first | exact trivial | rfl | assumption | apply And.intro | (simp only [hz, Z.a, binStd, cmpStd, unStd, scmpStd, maxI, reduceCtorEq]; first | done | assumption) | exact RowsZ.same (by assumption) (by first | assumption | rfl) | exact FzL.mk rfl rfl rfl (by assumption) (by first | assumption | rfl) (by decide) | (refine RowsZ.one ?_; cbv))))
        case hi => exact ⟨by omega, by omega, by rw [hput]; simp only [if_true]; rw [hD]; simp, hwf, huwf, by first | rfl | omega, by simp only [List.length_append, List.length_cons, List.length_nil]; omega⟩
        case ht => show (L - i2).toNat < (L - i).toNat; omega
      | false =>
        cbv
        simp only [n2]
        cbv
        refine Idx.mk _ hi0 hrow ?_
        cbv
        by_cases hq : k0 < r
        · have g1 : wcmp .geq k0 r = false := by rw [hcmp]; simp [cmpStd]; omega
          simp only [g1]
          cbv
          refine Idx.mk _ hi0 hrow ?_
          cbv
          obtain ⟨w0, ew0⟩ : ∃ x : List (List AV), x = w ++ [[.int .i64 k0]] := ⟨_, rfl⟩
          obtain ⟨k0', ek0'⟩ : ∃ x, x = k + 1 := ⟨_, rfl⟩
          have hl0 : w0.length = w.length + 1 := by rw [ew0]; simp
          refine App.mk w0 k0' ew0 hk ek0' (by omega) (by omega) ?_
          cbv
          have hwf : w0 = (out ++ [k0]).map nxRow := by simp only [ew0, hw2, List.map_append, List.append_assoc, List.nil_append, List.map_cons, List.map_nil]; simp [nxRow]
          have huwf : Up0 w0 := by rw [hwf]; exact up_nx _
          simp only [a4]
          refine hN (some (i2, false, out ++ [k0], k0', w0)) _ _ ?hx ?hi ?ht
          case hx => (refine Wk.eqz (fun j => [1].getD j 0) (by first | exact fun i _ j _ e => e | (simp only [List.length_cons, List.length_nil]; decide)) ?_; cbv; (repeat' (first | exact trivial | rfl | assumption | apply And.intro | (simp only [hz, Z.a, binStd, cmpStd, unStd, scmpStd, maxI, reduceCtorEq]; first | done | assumption) | exact RowsZ.same (by assumption) (by first | assumption | rfl) | exact FzL.mk rfl rfl rfl (by assumption) (by first | assumption | rfl) (by decide) | (refine RowsZ.one ?_; cbv))))
          case hi => exact ⟨by omega, by omega, by rw [hput]; simp only [Bool.false_eq_true, if_false]; rw [hD, addQ_lt hq]; simp, hwf, huwf, by first | rfl | omega, by simp only [List.length_append, List.length_cons, List.length_nil]; omega⟩
          case ht => show (L - i2).toNat < (L - i).toNat; omega
        · have g1 : wcmp .geq k0 r = true := by rw [hcmp]; simp [cmpStd]; omega
          simp only [g1]
          cbv
          refine Idx.mk _ hi0 hrow ?_
          cbv
          by_cases hq2 : r < k0
          · have g2 : wcmp .gtr k0 r = true := by rw [hcmp]; simp [cmpStd]; omega
            simp only [g2]
            cbv
            obtain ⟨w0, ew0⟩ : ∃ x : List (List AV), x = w ++ [[.int .i64 r]] := ⟨_, rfl⟩
            obtain ⟨k0', ek0'⟩ : ∃ x, x = k + 1 := ⟨_, rfl⟩
            have hl0 : w0.length = w.length + 1 := by rw [ew0]; simp
            refine App.mk w0 k0' ew0 hk ek0' (by omega) (by omega) ?_
            cbv
            refine Idx.mk _ hi0 hrow ?_
            cbv
            obtain ⟨w1, ew1⟩ : ∃ x : List (List AV), x = w0 ++ [[.int .i64 k0]] := ⟨_, rfl⟩
            obtain ⟨k1', ek1'⟩ : ∃ x, x = k0' + 1 := ⟨_, rfl⟩
            have hl1 : w1.length = w0.length + 1 := by rw [ew1]; simp
            refine App.mk w1 k1' ew1 (by omega) ek1' (by omega) (by omega) ?_
            cbv
            have hwf : w1 = (out ++ [r, k0]).map nxRow := by simp only [ew0, ew1, hw2, List.map_append, List.append_assoc, List.nil_append, List.map_cons, List.map_nil]; simp [nxRow]
            have huwf : Up0 w1 := by rw [hwf]; exact up_nx _
            simp only [a4]
            refine hN (some (i2, true, out ++ [r, k0], k1', w1)) _ _ ?hx ?hi ?ht
            case hx => (refine Wk.eqz (fun j => [2].getD j 0) (by first | exact fun i _ j _ e => e | (simp only [List.length_cons, List.length_nil]; decide)) ?_; cbv; (repeat' (first | exact trivial | rfl | assumption | apply And.intro | (simp only [hz, Z.a, binStd, cmpStd, unStd, scmpStd, maxI, reduceCtorEq]; first | done | assumption) | exact RowsZ.same (by assumption) (by first | assumption | rfl) | exact FzL.mk rfl rfl rfl (by assumption) (by first | assumption | rfl) (by decide) | (refine RowsZ.one ?_; cbv))))
            case hi => exact ⟨by omega, by omega, by rw [hput]; simp only [Bool.false_eq_true, if_false, if_true]; rw [hD, addQ_gt hq2]; simp, hwf, huwf, by first | rfl | omega, by simp only [List.length_append, List.length_cons, List.length_nil]; omega⟩
            case ht => show (L - i2).toNat < (L - i).toNat; omega
          · have g2 : wcmp .gtr k0 r = false := by rw [hcmp]; simp [cmpStd]; omega
            simp only [g2]
            cbv
            refine Idx.mk _ hi0 hrow ?_
            cbv
            obtain ⟨w0, ew0⟩ : ∃ x : List (List AV), x = w ++ [[.int .i64 k0]] := ⟨_, rfl⟩
            obtain ⟨k0', ek0'⟩ : ∃ x, x = k + 1 := ⟨_, rfl⟩
            have hl0 : w0.length = w.length + 1 := by rw [ew0]; simp
            refine App.mk w0 k0' ew0 hk ek0' (by omega) (by omega) ?_
            cbv
            have hwf : w0 = (out ++ [k0]).map nxRow := by simp only [ew0, hw2, List.map_append, List.append_assoc, List.nil_append, List.map_cons, List.map_nil]; simp [nxRow]
            have huwf : Up0 w0 := by rw [hwf]; exact up_nx _
            simp only [a4]
            refine hN (some (i2, true, out ++ [k0], k0', w0)) _ _ ?hx ?hi ?ht
            case hx => (refine Wk.eqz (fun j => [1].getD j 0) (by first | exact fun i _ j _ e => e | (simp only [List.length_cons, List.length_nil]; decide)) ?_; cbv; (repeat' (first | exact trivial | rfl | assumption | apply And.intro | (simp only [hz, Z.a, binStd, cmpStd, unStd, scmpStd, maxI, reduceCtorEq]; first | done | assumption) | exact RowsZ.same (by assumption) (by first | assumption | rfl) | exact FzL.mk rfl rfl rfl (by assumption) (by first | assumption | rfl) (by decide) | (refine RowsZ.one ?_; cbv))))
            case hi => exact ⟨by omega, by omega, by rw [hput]; simp only [Bool.false_eq_true, if_false, if_true]; rw [hD, addQ_eq (by omega) (by omega)]; simp, hwf, huwf, by first | rfl | omega, by simp only [List.length_append, List.length_cons, List.length_nil]; omega⟩
            case ht => show (L - i2).toNat < (L - i).toNat; omega
    · refine hE _ _ _ ?_
      cbv
      have hdr : l.drop i.toNat = [] := List.drop_of_length_le (by omega)
      cases d with
      | true =>
        cbv
        simp only [show wnot true = false by rw [hnot]; rfl]
        cbv
        have hq : q = w := by rw [eq, hput, hw2, hdr]; simp
        have e1 : (w.drop 0).take k = w := by rw [List.drop_zero, List.take_of_length_le (by omega)]
        have := Vw.sl (h := [.live 1 w]) (s := 0) (z := 1) rfl huw.get (i := 0) (n := k) (by omega)
        rw [e1] at this
        exact ⟨_, this, hR _ (by rw [hq])⟩
      | false =>
        cbv
        simp only [show wnot false = true by rw [hnot]; rfl]
        cbv
        obtain ⟨w0, ew0⟩ : ∃ x : List (List AV), x = w ++ [[.int .i64 r]] := ⟨_, rfl⟩
        obtain ⟨k0', ek0'⟩ : ∃ x, x = k + 1 := ⟨_, rfl⟩
        have hl0 : w0.length = w.length + 1 := by rw [ew0]; simp
        refine App.mk w0 k0' ew0 hk ek0' (by omega) (by omega) ?_
        cbv
        have hq : q = w0 := by rw [eq, hput, ew0, hw2, hdr]; simp [addQ, nxRow]
        have huw0 : Up0 w0 := by rw [← hq, eq]; exact up_nx _
        have e1 : (w0.drop 0).take k0' = w0 := by rw [List.drop_zero, List.take_of_length_le (by omega)]
        have := Vw.sl (h := [.dead, .live 1 w0]) (s := 1) (z := 1) rfl huw0.get (i := 0) (n := k0') (by omega)
        rw [e1] at this
        exact ⟨_, this, hR _ (by rw [hq])⟩
end Go.Proofs.Ytpiocfmdjgbamaa

/- The document's places of a group, by the engine. -/
namespace Go.Proofs.Ytpiocfmdjgbamaa
open Go Go.RowKit Go.Eng
set_option maxRecDepth 100000
theorem plc_bnd {ss : List Sg} (hln : LensOk ss) (sg : Int) {off : Int} (hoff : 0 ≤ off ∧ off ≤ 1099511627776) : ∀ (l : List Int) (a : Int), ∀ x, x ∈ plc ss sg off a l → a ≤ x ∧ x ≤ a + lenI l * 1099511627776 + 1099511627776
  | [], a, x, h => by simp [plc] at h
  | n :: l, a, x, h => by
    have hb := lenAt_le hln n
    simp only [plc, lenI] at h ⊢
    have hl0 : 0 ≤ lenI l := by rw [lenI_len]; omega
    rcases List.mem_append.1 h with h | h
    · split at h
      · simp at h; omega
      · simp at h
    · have := plc_bnd hln sg hoff l (a + lenAt ss n) x h
      omega
theorem plcR_bnd {ss : List Sg} (hln : LensOk ss) {sg off from_ : Int} (hf : 0 ≤ from_ ∧ from_ ≤ 1099511627776) (hoff : 0 ≤ off ∧ off ≤ 1099511627776) (m : List (List Int)) (hm : ∀ l, l ∈ m → l.length ≤ 12) : ∀ x, x ∈ plcR ss sg off from_ m → -1125899906842624 ≤ x ∧ x ≤ 1125899906842624 := fun x hx => by
  unfold plcR at hx
  rw [(adds_sorted (plcs ss sg off from_ m) [] List.Pairwise.nil).2.1] at hx
  rcases hx with hx | hx
  · simp at hx
  · unfold plcs at hx
    obtain ⟨l, hl, hx⟩ := List.mem_flatMap.1 hx
    have h1 := plc_bnd hln sg hoff l (-from_) x hx
    have h2 := hm l hl
    have h3 := lenI_len l
    omega
set_option maxHeartbeats 4000000 in
theorem e_rplaces (ss : List Sg) (gs : List Gr) (es ds : List (List AV)) (hes : es = ss.map sgRow) (hds : ds = gs.map grRow) (hln : LensOk ss) (from_ : Int) (hf : 0 ≤ from_ ∧ from_ ≤ 1099511627776) (m : List (List Int)) (hw1 : ∀ l, l ∈ m → WayOk ss l) (hm : m.length ≤ 50) (qs : List (List AV)) (hqs : qs = m.map rtRow)
    (g : Int) (hg : 0 ≤ g) (G : Gr) (hG : gs[g.toNat]? = some G) (hoff : 0 ≤ G.off ∧ G.off ≤ 1099511627776) :
    PCalls Try.prog 48 [.agg [.list 3 es, .list 5 ds], .agg [.int .i64 from_, .list 1 qs], .int .i64 g] (· = .list 1 ((plcR ss G.seg G.off from_ m).map nxRow)) := by
  have hu : Up0 es := by rw [hes]; exact up_sg ss
  have hud : Up0 ds := by rw [hds]; exact up_gr gs
  have huq : Up0 qs := by rw [hqs]; exact up_rt m
  have hql : qs.length = m.length := by rw [hqs]; simp
  obtain ⟨gid, gseg, goff, gacc, gsl⟩ := G
  simp only at hoff
  have hG : ds[g.toNat]? = some [.int .i64 gid, .int .i64 gseg, .int .i64 goff, .int .i64 gacc, .int .i64 gsl] := by rw [hds, List.getElem?_map, hG]; rfl
  obtain ⟨v, ev⟩ : ∃ v, v = (plcR ss gseg goff from_ m).map nxRow := ⟨_, rfl⟩
  show PCalls Try.prog 48 [.agg [.list 3 es, .list 5 ds], .agg [.int .i64 from_, .list 1 qs], .int .i64 g] (· = .list 1 ((plcR ss gseg goff from_ m).map nxRow))
  rw [← ev]
  (refine PCalls.ofY Try.func48 (by kernel_rfl) (by kernel_rfl) fun w hw R hR => ?_); (obtain ⟨wbin, wcmp, wun, wconv, wnot, wbeq, wmm, wscmp, wsadd, wslen, wsat, weqs, wlen, wnlen, wofNat, wtake, wdrop, wapp, wzero, wnat⟩ := w); (have hbin := Z.w1 hw); (have hcmp := Z.w2 hw); (have hun := Z.w3 hw); (have hconv := Z.w4 hw); (have hnot := Z.w5 hw); (have hbeq := Z.w6 hw); (have hmm := Z.w7 hw); (have hscmp := Z.w8 hw); (have hsadd := Z.w9 hw); (have hslen := Z.w10 hw); (have hsat := Z.w11 hw); (have heqs := Z.w12 hw); (have hlen := Z.w13 hw); (have hnlen := Z.w14 hw); (have hofNat := Z.w15 hw); (have htake := Z.w16 hw); (have hdrop := Z.w17 hw); (have happ := Z.w18 hw); (have hzero := Z.w19 hw); (have hnat := Z.w20 hw); (have hz := Z.z hw); (conv => arg 2; cbv); (generalize hP : Try.prog = P); cbv
  (obtain ⟨L, eL, L0, Ln⟩ : ∃ L : Int, wlen qs = L ∧ 0 ≤ L ∧ L.toNat = qs.length := ⟨(qs.length : Int), by rw [hlen], Int.natCast_nonneg _, Int.toNat_natCast _⟩)
  obtain ⟨a0, ea0⟩ : ∃ a0, a0 = -from_ := ⟨_, rfl⟩
  have c0 : wun .neg .i64 from_ = a0 := by rw [hun, ea0]; simp only [unStd]; rw [IntKind.wrap_i64]; omega
  refine Loop.data hw (S := Int × List Int × List (List AV)) (fun s => fr 72 [(2, .int .i64 g), (3, .ref 0 2 0 0), (4, .ref 1 2 0 0), (7, .list 1 s.2.2), (8, .int .i64 s.1)])
    (fun _ => [.live 2 [[.list 3 es, .list 5 ds]], .live 2 [[.int .i64 from_, .list 1 qs]]])
    (fun s => 0 ≤ s.1 ∧ s.1 ≤ L ∧ s.2.2 = s.2.1.map nxRow ∧ Up0 s.2.2 ∧ s.2.1 = (plcs ss gseg goff from_ (m.take s.1.toNat)).foldl addQ []) (fun s => (L - s.1).toNat) (0, [], []) (by (refine Wk.eqz (id) (by first | exact fun i _ j _ e => e | (simp only [List.length_cons, List.length_nil]; decide)) ?_; cbv; (repeat' (first | exact trivial | rfl | assumption | apply And.intro | (simp only [hz, Z.a, binStd, cmpStd, unStd, scmpStd, maxI, reduceCtorEq]; first | done | assumption) | exact RowsZ.same (by assumption) (by first | assumption | rfl) | exact FzL.mk rfl rfl rfl (by assumption) (by first | assumption | rfl) (by decide) | (refine RowsZ.one ?_; cbv))))) ⟨Int.le_refl _, L0, rfl, ⟨rfl⟩, rfl⟩ ?_
  rintro ⟨i, acc, w⟩ hinv Q' hN hE hR'
  have hinv : 0 ≤ i ∧ i ≤ L ∧ w = acc.map nxRow ∧ Up0 w ∧ acc = (plcs ss gseg goff from_ (m.take i.toNat)).foldl addQ [] := hinv
  cbv
  obtain ⟨hi0, hi1, hwa, huw, hacc⟩ := hinv
  have hlen0 := plcs_len ss gseg goff from_ (m.take i.toNat) fun x hx => (hw1 x (List.mem_of_mem_take hx)).len.1
  rw [List.length_take, Nat.min_eq_left (by omega)] at hlen0
  have hal := (adds_sorted (plcs ss gseg goff from_ (m.take i.toNat)) [] List.Pairwise.nil).2.2
  rw [← hacc] at hal
  simp only [List.length_nil] at hal
  simp only [eL]
  (split <;> rename_i hc <;> (try (simp only [hz, Z.a, binStd, cmpStd, unStd, scmpStd, maxI, reduceCtorEq] at hc)) <;> (try cbv))
  rotate_left 1
  · refine hE _ _ _ ?_
    cbv
    have e : v = w := by rw [ev, hwa, hacc, List.take_of_length_le (by omega)]; rfl
    exact ⟨_, Vw.same huw.list, hR _ (by rw [e]; rfl)⟩
  obtain ⟨l, hl⟩ : ∃ l, m[i.toNat]? = some l := ⟨_, List.getElem?_eq_getElem (show i.toNat < m.length by omega)⟩
  have hlw := hw1 l (List.mem_of_getElem? hl)
  have hl12 := hlw.len.1
  obtain ⟨xs, exs⟩ : ∃ x, x = l.map nxRow := ⟨_, rfl⟩
  have huxs : Up0 xs := by rw [exs]; exact up_nx l
  have hxl : xs.length = l.length := by rw [exs]; simp
  have hqi : qs[i.toNat]? = some [.list 1 xs] := by rw [hqs, List.getElem?_map, hl, exs]; rfl
  obtain ⟨i2, ei2⟩ : ∃ z, z = i + 1 := ⟨_, rfl⟩
  have a4 : wbin .add .i64 i 1 = i2 := by rw [hbin, ei2]; show IntKind.i64.wrap (i + 1) = i + 1; rw [IntKind.wrap_i64]; omega
  have hT2 : (L - i2).toNat < (L - i).toNat := by omega
  have htk : m.take i2.toNat = m.take i.toNat ++ [l] := by rw [ei2]; exact take_next hi0 hl
  have hacc2 : (plcs ss gseg goff from_ (m.take i2.toNat)).foldl addQ [] = (plc ss gseg goff (-from_) l).foldl addQ acc := by rw [htk, plcs_snoc, List.foldl_append, ← hacc]
  (obtain ⟨K, eK, K0, Kn⟩ : ∃ L : Int, wlen xs = L ∧ 0 ≤ L ∧ L.toNat = xs.length := ⟨(xs.length : Int), by rw [hlen], Int.natCast_nonneg _, Int.toNat_natCast _⟩)
  simp only [c0]
  refine Loop.data hw (S := Int × Int × List Int × List (List AV)) (fun s => fr 72 [(2, .int .i64 g), (3, .ref 0 2 0 0), (4, .ref 1 2 0 0), (7, .list 1 s.2.2.2), (8, .int .i64 i), (9, .int .i64 s.2.1), (10, .int .i64 s.1)])
    (fun _ => [.live 2 [[.list 3 es, .list 5 ds]], .live 2 [[.int .i64 from_, .list 1 qs]]])
    (fun s => 0 ≤ s.1 ∧ s.1 ≤ K ∧ -1099511627776 ≤ s.2.1 ∧ s.2.1 ≤ s.1 * 1099511627776 ∧ s.2.2.2 = s.2.2.1.map nxRow ∧ Up0 s.2.2.2 ∧ s.2.2.1.length ≤ 12 * i.toNat + s.1.toNat ∧ (plc ss gseg goff s.2.1 (l.drop s.1.toNat)).foldl addQ s.2.2.1 = (plcs ss gseg goff from_ (m.take i2.toNat)).foldl addQ []) (fun s => (K - s.1).toNat) (0, a0, acc, w) (by (refine Wk.eqz (id) (by first | exact fun i _ j _ e => e | (simp only [List.length_cons, List.length_nil]; decide)) ?_; cbv; (repeat' (first | exact trivial | rfl | assumption | apply And.intro | (simp only [hz, Z.a, binStd, cmpStd, unStd, scmpStd, maxI, reduceCtorEq]; first | done | assumption) | exact RowsZ.same (by assumption) (by first | assumption | rfl) | exact FzL.mk rfl rfl rfl (by assumption) (by first | assumption | rfl) (by decide) | (refine RowsZ.one ?_; cbv))))) ⟨Int.le_refl _, K0, by simp only; omega, by simp only; omega, hwa, huw, by simp only; omega, by simp only; rw [hacc2, ea0]; rfl⟩ ?_
  rintro ⟨j, a, ac, w1⟩ hinv2 Q2 hN2 hE2 hR2
  have hinv2 : 0 ≤ j ∧ j ≤ K ∧ -1099511627776 ≤ a ∧ a ≤ j * 1099511627776 ∧ w1 = ac.map nxRow ∧ Up0 w1 ∧ ac.length ≤ 12 * i.toNat + j.toNat ∧ (plc ss gseg goff a (l.drop j.toNat)).foldl addQ ac = (plcs ss gseg goff from_ (m.take i2.toNat)).foldl addQ [] := hinv2
  cbv
  obtain ⟨hj0, hj1, hq0, hq1, hw1a, huw1, hacl, hac⟩ := hinv2
  refine Idx.mk _ hi0 hqi ?_
  cbv
  simp only [eK]
  (split <;> rename_i hd <;> (try (simp only [hz, Z.a, binStd, cmpStd, unStd, scmpStd, maxI, reduceCtorEq] at hd)) <;> (try cbv))
  rotate_left 1
  · refine hE2 _ _ _ ?_
    cbv
    simp only [a4]
    rw [List.drop_of_length_le (by omega)] at hac
    refine hN (i2, ac, w1) _ _ ?hx ?hI hT2
    case hx => (refine Wk.eqz (id) (by first | exact fun i _ j _ e => e | (simp only [List.length_cons, List.length_nil]; decide)) ?_; cbv; (repeat' (first | exact trivial | rfl | assumption | apply And.intro | (simp only [hz, Z.a, binStd, cmpStd, unStd, scmpStd, maxI, reduceCtorEq]; first | done | assumption) | exact RowsZ.same (by assumption) (by first | assumption | rfl) | exact FzL.mk rfl rfl rfl (by assumption) (by first | assumption | rfl) (by decide) | (refine RowsZ.one ?_; cbv))))
    case hI => exact ⟨by simp only; omega, by simp only; omega, hw1a, huw1, hac⟩
  obtain ⟨c, hcj⟩ : ∃ c, l[j.toNat]? = some c := ⟨_, List.getElem?_eq_getElem (show j.toNat < l.length by omega)⟩
  have hxj : xs[j.toNat]? = some [.int .i64 c] := by rw [exs, List.getElem?_map, hcj]; rfl
  obtain ⟨hcs0, hcs1⟩ := hlw.seg c (List.mem_of_getElem? hcj)
  obtain ⟨⟨len, pps, nx⟩, hdc, hrow⟩ := get_map (f := sgRow) (ds := ss) (i := c) hcs0 hcs1
  obtain ⟨pq, epq⟩ : ∃ x, pps.map pcRow = x := ⟨_, rfl⟩
  obtain ⟨n1, en1⟩ : ∃ x, nx.map nxRow = x := ⟨_, rfl⟩
  have hrow : es[c.toNat]? = some [.int .i64 len, .list 2 pq, .list 1 n1] := by rw [hes, ← epq, ← en1]; exact hrow
  have hlen : lenAt ss c = len := by unfold lenAt; rw [hdc]
  have hlb := lenAt_le hln c
  rw [hlen] at hlb
  obtain ⟨j2, ej2⟩ : ∃ z, z = j + 1 := ⟨_, rfl⟩
  have a5 : wbin .add .i64 j 1 = j2 := by rw [hbin, ej2]; show IntKind.i64.wrap (j + 1) = j + 1; rw [IntKind.wrap_i64]; omega
  obtain ⟨a2, ea2⟩ : ∃ z, z = a + len := ⟨_, rfl⟩
  have a6 : wbin .add .i64 a len = a2 := by rw [hbin, ea2]; show IntKind.i64.wrap (a + len) = a + len; rw [IntKind.wrap_i64]; omega
  obtain ⟨p2, ep2⟩ : ∃ z, z = a + goff := ⟨_, rfl⟩
  have a7 : wbin .add .i64 a goff = p2 := by rw [hbin, ep2]; show IntKind.i64.wrap (a + goff) = a + goff; rw [IntKind.wrap_i64]; omega
  have hT3 : (K - j2).toNat < (K - j).toNat := by omega
  have hdr : plc ss gseg goff a (l.drop j.toNat) = (if c = gseg then [p2] else []) ++ plc ss gseg goff a2 (l.drop j2.toNat) := by
    rw [drop_get hcj, show j2.toNat = j.toNat + 1 by omega, ep2, ea2, ← hlen]; rfl
  rw [hdr] at hac
  clear hdr
  have hadd := e_add14 ac p2 (by omega) w1 hw1a
  obtain ⟨w2, ew2⟩ : ∃ x, x = (addQ ac p2).map nxRow := ⟨_, rfl⟩
  rw [← ew2] at hadd
  have huw2 : Up0 w2 := by rw [ew2]; exact up_nx _
  have hal2 := addQ_len ac p2
  repeat' (first
    | (refine Idx.mk _ hi0 hqi ?_; cbv)
    | (refine Idx.mk _ hj0 hxj ?_; cbv)
    | (refine Idx.mk _ hg hG ?_; cbv))
  (split <;> rename_i he <;> (try (simp only [hz, Z.a, binStd, cmpStd, unStd, scmpStd, maxI, reduceCtorEq] at he)) <;> (try cbv))
  · rw [if_pos he] at hac
    refine Idx.mk _ hg hG ?_
    cbv
    simp only [a7]
    first
      | refine Call.stepE (by rw [← hP]; exact hadd) (by exact Up0.one huw1 rfl) ?_
      | refine QCal.stepE (by rw [← hP]; exact hadd) (by exact Up0.one huw1 rfl) ?_
    cbv
    repeat' (first
      | (refine Idx.mk _ hi0 hqi ?_; cbv)
      | (refine Idx.mk _ hj0 hxj ?_; cbv)
      | (refine Idx.mk _ hcs0 hrow ?_; cbv))
    simp only [a5, a6]
    refine hN2 (j2, a2, addQ ac p2, w2) _ _ ?hx ?hI hT3
    case hx => (refine Wk.eqz (id) (by first | exact fun i _ j _ e => e | (simp only [List.length_cons, List.length_nil]; decide)) ?_; cbv; (repeat' (first | exact trivial | rfl | assumption | apply And.intro | (simp only [hz, Z.a, binStd, cmpStd, unStd, scmpStd, maxI, reduceCtorEq]; first | done | assumption) | exact RowsZ.same (by assumption) (by first | assumption | rfl) | exact FzL.mk rfl rfl rfl (by assumption) (by first | assumption | rfl) (by decide) | (refine RowsZ.one ?_; cbv))))
    case hI => exact ⟨by simp only; omega, by simp only; omega, by simp only; omega, by simp only; omega, ew2, huw2, by simp only; omega, hac⟩
  · rw [if_neg he] at hac
    repeat' (first
      | (refine Idx.mk _ hi0 hqi ?_; cbv)
      | (refine Idx.mk _ hj0 hxj ?_; cbv)
      | (refine Idx.mk _ hcs0 hrow ?_; cbv))
    simp only [a5, a6]
    refine hN2 (j2, a2, ac, w1) _ _ ?hx ?hI hT3
    case hx => (refine Wk.eqz (id) (by first | exact fun i _ j _ e => e | (simp only [List.length_cons, List.length_nil]; decide)) ?_; cbv; (repeat' (first | exact trivial | rfl | assumption | apply And.intro | (simp only [hz, Z.a, binStd, cmpStd, unStd, scmpStd, maxI, reduceCtorEq]; first | done | assumption) | exact RowsZ.same (by assumption) (by first | assumption | rfl) | exact FzL.mk rfl rfl rfl (by assumption) (by first | assumption | rfl) (by decide) | (refine RowsZ.one ?_; cbv))))
    case hI => exact ⟨by simp only; omega, by simp only; omega, by simp only; omega, by simp only; omega, hw1a, huw1, by simp only; omega, hac⟩
end Go.Proofs.Ytpiocfmdjgbamaa

/- A track as the document has it, by the engine. Printed by wip/tools/genrefs.py. -/
namespace Go.Proofs.Ytpiocfmdjgbamaa
open Go Go.RowKit Go.Eng
set_option maxRecDepth 100000
set_option maxHeartbeats 4000000 in
theorem e_refsT14 (ss : List Sg) (gs : List Gr) (es ds : List (List AV)) (hes : es = ss.map sgRow) (hds : ds = gs.map grRow) (hm1 : ss.length ≤ 1000) (hm2 : gs.length ≤ 1000) (hm3 : ∀ s, s ∈ ss → s.ps.length ≤ 1000) : PCalls Try.prog 17 [.agg [.list 3 es, .list 5 ds]] (· = .agg [.list 3 es, .list 5 ds]) := by
  have hu : Up0 es := by rw [hes]; exact up_sg ss
  have hud : Up0 ds := by rw [hds]; exact up_gr gs
  have hel : es.length = ss.length := by rw [hes]; simp
  have hdl : ds.length = gs.length := by rw [hds]; simp
  (refine PCalls.ofY Try.func17 (by kernel_rfl) (by kernel_rfl) fun w hw R hR => ?_); (obtain ⟨wbin, wcmp, wun, wconv, wnot, wbeq, wmm, wscmp, wsadd, wslen, wsat, weqs, wlen, wnlen, wofNat, wtake, wdrop, wapp, wzero, wnat⟩ := w); (have hbin := Z.w1 hw); (have hcmp := Z.w2 hw); (have hun := Z.w3 hw); (have hconv := Z.w4 hw); (have hnot := Z.w5 hw); (have hbeq := Z.w6 hw); (have hmm := Z.w7 hw); (have hscmp := Z.w8 hw); (have hsadd := Z.w9 hw); (have hslen := Z.w10 hw); (have hsat := Z.w11 hw); (have heqs := Z.w12 hw); (have hlen := Z.w13 hw); (have hnlen := Z.w14 hw); (have hofNat := Z.w15 hw); (have htake := Z.w16 hw); (have hdrop := Z.w17 hw); (have happ := Z.w18 hw); (have hzero := Z.w19 hw); (have hnat := Z.w20 hw); (have hz := Z.z hw); (conv => arg 2; cbv); (generalize hP : Try.prog = P); cbv
  (obtain ⟨L, eL, L0, Ln⟩ : ∃ L : Int, wlen es = L ∧ 0 ≤ L ∧ L.toNat = es.length := ⟨(es.length : Int), by rw [hlen], Int.natCast_nonneg _, Int.toNat_natCast _⟩)
  refine Loop.data hw (S := Bd) (fun s => match s with | .start => fr 63 [(1, .ref 0 2 0 0), (2, .ref 1 2 0 0), (3, .ref 2 2 0 0), (12, .list 3 es), (13, .int .i64 L), (14, .int .i64 0)] | .more i n fs => fr 63 [(1, .ref 0 2 0 0), (2, .ref 1 2 0 0), (3, .ref 2 2 0 0), (12, .list 3 es), (13, .int .i64 L), (14, .int .i64 i)])
    (fun s => match s with | .start => [.live 2 [[.list 3 es, .list 5 ds]], .live 2 [[.nils, .nils]], .live 2 [[.nils, .nils]]] | .more i n fs => [.live 2 [[.list 3 es, .list 5 ds]], .live 2 [[.nils, .nils]], .live 2 [[.sl 3 3 0 n, .nils]], .live 3 fs]) (Bd.Ok es) (Bd.left es) .start (by (refine Wk.eqz (id) (by first | exact fun i _ j _ e => e | (simp only [List.length_cons, List.length_nil]; decide)) ?_; cbv; (repeat' (first | exact trivial | rfl | assumption | apply And.intro | (simp only [hz, Z.a, binStd, cmpStd, unStd, scmpStd, maxI, reduceCtorEq]; first | done | assumption) | exact RowsZ.same (by assumption) (by first | assumption | rfl) | exact FzL.mk rfl rfl rfl (by assumption) (by first | assumption | rfl) (by decide) | (refine RowsZ.one ?_; cbv))))) trivial ?_
  rintro (_ | ⟨i, n, fs⟩) hinv Q' hN hE hR'
  · cbv
    (split <;> rename_i hc <;> (try (simp only [hz, Z.a, binStd, cmpStd, unStd, scmpStd, maxI, reduceCtorEq] at hc)) <;> (try cbv))
    · obtain ⟨⟨len, ps, nx⟩, hd, hrow⟩ := get_map (f := sgRow) (ds := ss) (i := 0) (Int.le_refl 0) (by omega)
      obtain ⟨q1, eq1⟩ : ∃ x, ps.map pcRow = x := ⟨_, rfl⟩
      obtain ⟨n1, en1⟩ : ∃ x, nx.map nxRow = x := ⟨_, rfl⟩
      have hrow : es[(0 : Int).toNat]? = some [.int .i64 len, .list 2 q1, .list 1 n1] := by rw [hes, ← eq1, ← en1]; exact hrow
      have hql : q1.length = ps.length := by rw [← eq1]; simp
      have hpl : ps.length ≤ 1000 := hm3 ⟨len, ps, nx⟩ (List.mem_of_getElem? hd)
      have huq : Up0 q1 := by rw [← eq1]; exact up_pc ps
      have hun : Up0 n1 := by rw [← en1]; exact up_nx nx
      refine Idx.mk [.int .i64 len, .list 2 q1, .list 1 n1] (by decide) hrow ?_
      cbv
      have ei : wbin .add .i64 0 1 = 1 := by rw [hbin]; rfl
      have hT1 : Bd.left es (.more 1 1 [[.int .i64 len, .list 2 q1, .list 1 n1]]) < Bd.left es .start := by simp only [Bd.left]; omega
      have hI1 : Bd.Ok es (.more 1 1 [[.int .i64 len, .list 2 q1, .list 1 n1]]) := ⟨by decide, by omega, (take_row (Int.le_refl 0) hrow).symm, rfl, up_seg huq hun⟩
      (obtain ⟨K, eK, K0, Kn⟩ : ∃ L : Int, wlen q1 = L ∧ 0 ≤ L ∧ L.toNat = q1.length := ⟨(q1.length : Int), by rw [hlen], Int.natCast_nonneg _, Int.toNat_natCast _⟩)
      refine Loop.data hw (S := Bd) (fun s => match s with | .start => fr 63 [(1, .ref 0 2 0 0), (2, .ref 1 2 0 0), (3, .ref 2 2 0 0), (12, .list 3 es), (13, .int .i64 L), (14, .int .i64 0), (5, .ref 3 3 0 0), (6, .ref 4 3 0 0), (24, .list 2 q1), (25, .int .i64 K), (26, .int .i64 0)] | .more k m fp => fr 63 [(1, .ref 0 2 0 0), (2, .ref 1 2 0 0), (3, .ref 2 2 0 0), (12, .list 3 es), (13, .int .i64 L), (14, .int .i64 0), (5, .ref 3 3 0 0), (6, .ref 4 3 0 0), (24, .list 2 q1), (25, .int .i64 K), (26, .int .i64 k)])
        (fun s => match s with | .start => [.live 2 [[.list 3 es, .list 5 ds]], .live 2 [[.nils, .nils]], .live 2 [[.nils, .nils]], .live 3 [[.int .i64 len, .list 2 q1, .list 1 n1]], .live 3 [[.int .i64 len, .nils, .list 1 n1]]] | .more k m fp => [.live 2 [[.list 3 es, .list 5 ds]], .live 2 [[.nils, .nils]], .live 2 [[.nils, .nils]], .live 3 [[.int .i64 len, .list 2 q1, .list 1 n1]], .live 3 [[.int .i64 len, .sl 5 2 0 m, .list 1 n1]], .live 2 fp]) (Bd.Ok q1) (Bd.left q1) .start (by (refine Wk.eqz (id) (by first | exact fun i _ j _ e => e | (simp only [List.length_cons, List.length_nil]; decide)) ?_; cbv; (repeat' (first | exact trivial | rfl | assumption | apply And.intro | (simp only [hz, Z.a, binStd, cmpStd, unStd, scmpStd, maxI, reduceCtorEq]; first | done | assumption) | exact RowsZ.same (by assumption) (by first | assumption | rfl) | exact FzL.mk rfl rfl rfl (by assumption) (by first | assumption | rfl) (by decide) | (refine RowsZ.one ?_; cbv))))) trivial ?_
      rintro (_ | ⟨k, m, fp⟩) hinv2 Q2 hN2 hE2 hR2
      · cbv
        (split <;> rename_i hc2 <;> (try (simp only [hz, Z.a, binStd, cmpStd, unStd, scmpStd, maxI, reduceCtorEq] at hc2)) <;> (try cbv))
        · obtain ⟨⟨a, b⟩, hd2, hrow2⟩ := get_map (f := pcRow) (ds := ps) (i := 0) (Int.le_refl 0) (by omega)
          have hrow2 : q1[(0 : Int).toNat]? = some [.int .i64 a, .int .i64 b] := by rw [← eq1]; exact hrow2
          refine Idx.mk [.int .i64 a, .int .i64 b] (by decide) hrow2 ?_
          cbv
          refine Ob.mk (by decide) ?_
          cbv
          have hU2 : Up0 [[AV.int .i64 a, .int .i64 b]] := ⟨rfl⟩
          have ei2 : wbin .add .i64 0 1 = 1 := by rw [hbin]; rfl
          refine hN2 (Bd.more 1 1 [[.int .i64 a, .int .i64 b]]) _ _ ?hx ?hi ?ht
          case hx => (refine Wk.eqz (fun j => [0, 1, 2, 3, 4, 6].getD j 0) (by first | exact fun i _ j _ e => e | (simp only [List.length_cons, List.length_nil]; decide)) ?_; cbv; (repeat' (first | exact trivial | rfl | assumption | apply And.intro | (simp only [hz, Z.a, binStd, cmpStd, unStd, scmpStd, maxI, reduceCtorEq]; first | done | assumption) | exact RowsZ.same (by assumption) (by first | assumption | rfl) | exact FzL.mk rfl rfl rfl (by assumption) (by first | assumption | rfl) (by decide) | (refine RowsZ.one ?_; cbv))))
          case hi => exact ⟨by decide, by omega, (take_row (Int.le_refl 0) hrow2).symm, rfl, hU2⟩
          case ht => simp only [Bd.left]; omega
        · refine hE2 _ _ _ ?_
          cbv
          have hq0 : q1 = [] := List.length_eq_zero_iff.1 (by omega)
          refine Ob.mk (by decide) ?_
          cbv
          refine hN (Bd.more 1 1 [[.int .i64 len, .list 2 q1, .list 1 n1]]) _ _ ?hx ?hi ?ht
          case hx => (refine Wk.eqz (fun j => [0, 1, 2, 5].getD j 0) (by first | exact fun i _ j _ e => e | (simp only [List.length_cons, List.length_nil]; decide)) ?_; cbv; (repeat' (first | exact trivial | rfl | assumption | exact Eq.symm (by assumption) | apply And.intro | (simp only [hz, Z.a, binStd, cmpStd, unStd, scmpStd, maxI, reduceCtorEq]; first | done | assumption) | exact RowsZ.same (by assumption) (by first | assumption | rfl) | exact FzL.mk rfl rfl rfl (by assumption) (by first | assumption | rfl) (by decide) | (refine RowsZ.one ?_; cbv))))
          case hi => exact hI1
          case ht => exact hT1
      · cbv
        obtain ⟨hk0, hk1, hfp, hmf, hup⟩ : 0 < k ∧ k.toNat ≤ q1.length ∧ fp = q1.take k.toNat ∧ m = fp.length ∧ Up0 fp := hinv2
        (split <;> rename_i hc2 <;> (try (simp only [hz, Z.a, binStd, cmpStd, unStd, scmpStd, maxI, reduceCtorEq] at hc2)) <;> (try cbv))
        · obtain ⟨⟨a, b⟩, hd2, hrow2⟩ := get_map (f := pcRow) (ds := ps) (i := k) (by omega) (by omega)
          have hrow2 : q1[k.toNat]? = some [.int .i64 a, .int .i64 b] := by rw [← eq1]; exact hrow2
          refine Idx.mk [.int .i64 a, .int .i64 b] (by omega) hrow2 ?_
          cbv
          obtain ⟨k', ek'⟩ : ∃ x, k + 1 = x := ⟨_, rfl⟩
          have ek : wbin .add .i64 k 1 = k' := by rw [hbin, i_add (by omega) (by omega)]; exact ek'
          obtain ⟨fp', efp⟩ : ∃ x, fp ++ [[AV.int .i64 a, .int .i64 b]] = x := ⟨_, rfl⟩
          have hfl2 : fp'.length = m + 1 := by rw [← efp, hmf]; simp
          have hft2 : fp' = q1.take k'.toNat := by rw [← efp, ← ek', take_row (by omega) hrow2, hfp]
          have hup' : Up0 fp' := by rw [hft2]; exact up_take huq _
          obtain ⟨m', em'⟩ : ∃ x, m + 1 = x := ⟨_, rfl⟩
          have hml : m = k.toNat := by rw [hmf, hfp, List.length_take]; omega
          refine App.mk fp' m' efp.symm hmf em'.symm (by omega) (by omega) ?_
          cbv
          refine hN2 (Bd.more k' m' fp') _ _ ?hx ?hi ?ht
          case hx => (refine Wk.eqz (fun j => [0, 1, 2, 3, 4, 7].getD j 0) (by first | exact fun i _ j _ e => e | (simp only [List.length_cons, List.length_nil]; decide)) ?_; cbv; (repeat' (first | exact trivial | rfl | assumption | apply And.intro | (simp only [hz, Z.a, binStd, cmpStd, unStd, scmpStd, maxI, reduceCtorEq]; first | done | assumption) | exact RowsZ.same (by assumption) (by first | assumption | rfl) | exact FzL.mk rfl rfl rfl (by assumption) (by first | assumption | rfl) (by decide) | (refine RowsZ.one ?_; cbv))))
          case hi => exact ⟨by omega, by omega, hft2, by omega, hup'⟩
          case ht => simp only [Bd.left]; omega
        · refine hE2 _ _ _ ?_
          cbv
          have hq : fp = q1 := by rw [hfp, List.take_of_length_le (by omega)]
          have hmq : m = q1.length := by rw [hmf, hq]
          clear hfp
          subst fp
          refine Ob.mk (by decide) ?_
          cbv
          refine hN (Bd.more 1 1 [[.int .i64 len, .list 2 q1, .list 1 n1]]) _ _ ?hx ?hi ?ht
          case hx => (refine Wk.eqz (fun j => [0, 1, 2, 6].getD j 0) (by first | exact fun i _ j _ e => e | (simp only [List.length_cons, List.length_nil]; decide)) ?_; cbv; (repeat' (first | exact trivial | rfl | assumption | exact Eq.symm (by assumption) | apply And.intro | (simp only [hz, Z.a, binStd, cmpStd, unStd, scmpStd, maxI, reduceCtorEq]; first | done | assumption) | exact RowsZ.same (by assumption) (by first | assumption | rfl) | exact FzL.mk rfl rfl rfl (by assumption) (by first | assumption | rfl) (by decide) | (refine RowsZ.one ?_; cbv))))
          case hi => exact hI1
          case ht => exact hT1
    · refine hE _ _ _ ?_
      cbv
      have he0 : es = [] := List.length_eq_zero_iff.1 (by omega)
      (obtain ⟨J, eJ, J0, Jn⟩ : ∃ L : Int, wlen ds = L ∧ 0 ≤ L ∧ L.toNat = ds.length := ⟨(ds.length : Int), by rw [hlen], Int.natCast_nonneg _, Int.toNat_natCast _⟩)
      refine Loop.data hw (S := Bd) (fun s => match s with | .start => fr 63 [(2, .ref 1 2 0 0), (3, .ref 2 2 0 0), (49, .list 5 ds), (50, .int .i64 J), (51, .int .i64 0)] | .more k m fp => fr 63 [(2, .ref 1 2 0 0), (3, .ref 2 2 0 0), (49, .list 5 ds), (50, .int .i64 J), (51, .int .i64 k)])
        (fun s => match s with | .start => [.live 2 [[.list 3 es, .list 5 ds]], .live 2 [[.nils, .nils]], .live 2 [[.list 3 es, .nils]]] | .more k m fp => [.live 2 [[.list 3 es, .list 5 ds]], .live 2 [[.nils, .nils]], .live 2 [[.list 3 es, .sl 3 5 0 m]], .live 5 fp]) (Bd.Ok ds) (Bd.left ds) .start (by (refine Wk.eqz (id) (by first | exact fun i _ j _ e => e | (simp only [List.length_cons, List.length_nil]; decide)) ?_; cbv; (repeat' (first | exact trivial | rfl | assumption | apply And.intro | (simp only [hz, Z.a, binStd, cmpStd, unStd, scmpStd, maxI, reduceCtorEq]; first | done | assumption) | exact RowsZ.same (by assumption) (by first | assumption | rfl) | exact FzL.mk rfl rfl rfl (by assumption) (by first | assumption | rfl) (by decide) | (refine RowsZ.one ?_; cbv))))) trivial ?_
      rintro (_ | ⟨k, m, fp⟩) hinv2 Q2 hN2 hE2 hR2
      · cbv
        (split <;> rename_i hc2 <;> (try (simp only [hz, Z.a, binStd, cmpStd, unStd, scmpStd, maxI, reduceCtorEq] at hc2)) <;> (try cbv))
        · obtain ⟨⟨a1, a2, a3, a4, a5⟩, hd2, hrow2⟩ := get_map (f := grRow) (ds := gs) (i := 0) (Int.le_refl 0) (by omega)
          have hrow2 : ds[(0 : Int).toNat]? = some [.int .i64 a1, .int .i64 a2, .int .i64 a3, .int .i64 a4, .int .i64 a5] := by rw [hds]; exact hrow2
          refine Idx.mk [.int .i64 a1, .int .i64 a2, .int .i64 a3, .int .i64 a4, .int .i64 a5] (by decide) hrow2 ?_
          cbv
          refine Ob.mk (by decide) ?_
          cbv
          have hU2 : Up0 [[AV.int .i64 a1, .int .i64 a2, .int .i64 a3, .int .i64 a4, .int .i64 a5]] := ⟨rfl⟩
          have ei2 : wbin .add .i64 0 1 = 1 := by rw [hbin]; rfl
          refine hN2 (Bd.more 1 1 [[.int .i64 a1, .int .i64 a2, .int .i64 a3, .int .i64 a4, .int .i64 a5]]) _ _ ?hx ?hi ?ht
          case hx => (refine Wk.eqz (fun j => [0, 1, 2, 4].getD j 0) (by first | exact fun i _ j _ e => e | (simp only [List.length_cons, List.length_nil]; decide)) ?_; cbv; (repeat' (first | exact trivial | rfl | assumption | apply And.intro | (simp only [hz, Z.a, binStd, cmpStd, unStd, scmpStd, maxI, reduceCtorEq]; first | done | assumption) | exact RowsZ.same (by assumption) (by first | assumption | rfl) | exact FzL.mk rfl rfl rfl (by assumption) (by first | assumption | rfl) (by decide) | (refine RowsZ.one ?_; cbv))))
          case hi => exact ⟨by decide, by omega, (take_row (Int.le_refl 0) hrow2).symm, rfl, hU2⟩
          case ht => simp only [Bd.left]; omega
        · refine hE2 _ _ _ ?_
          cbv
          have hd0 : ds = [] := List.length_eq_zero_iff.1 (by omega)
          exact ⟨_, Vw.agg (rs := [.list 3 es, .list 5 []]) ⟨Vw.same hu.list, Vw.nil 5, trivial⟩, hR _ (by rw [hd0])⟩
      · cbv
        obtain ⟨hk0, hk1, hfp, hmf, hup⟩ : 0 < k ∧ k.toNat ≤ ds.length ∧ fp = ds.take k.toNat ∧ m = fp.length ∧ Up0 fp := hinv2
        (split <;> rename_i hc2 <;> (try (simp only [hz, Z.a, binStd, cmpStd, unStd, scmpStd, maxI, reduceCtorEq] at hc2)) <;> (try cbv))
        · obtain ⟨⟨a1, a2, a3, a4, a5⟩, hd2, hrow2⟩ := get_map (f := grRow) (ds := gs) (i := k) (by omega) (by omega)
          have hrow2 : ds[k.toNat]? = some [.int .i64 a1, .int .i64 a2, .int .i64 a3, .int .i64 a4, .int .i64 a5] := by rw [hds]; exact hrow2
          refine Idx.mk [.int .i64 a1, .int .i64 a2, .int .i64 a3, .int .i64 a4, .int .i64 a5] (by omega) hrow2 ?_
          cbv
          obtain ⟨k', ek'⟩ : ∃ x, k + 1 = x := ⟨_, rfl⟩
          have ek : wbin .add .i64 k 1 = k' := by rw [hbin, i_add (by omega) (by omega)]; exact ek'
          obtain ⟨fp', efp⟩ : ∃ x, fp ++ [[AV.int .i64 a1, .int .i64 a2, .int .i64 a3, .int .i64 a4, .int .i64 a5]] = x := ⟨_, rfl⟩
          have hfl2 : fp'.length = m + 1 := by rw [← efp, hmf]; simp
          have hft2 : fp' = ds.take k'.toNat := by rw [← efp, ← ek', take_row (by omega) hrow2, hfp]
          have hup' : Up0 fp' := by rw [hft2]; exact up_take hud _
          obtain ⟨m', em'⟩ : ∃ x, m + 1 = x := ⟨_, rfl⟩
          have hml : m = k.toNat := by rw [hmf, hfp, List.length_take]; omega
          refine App.mk fp' m' efp.symm hmf em'.symm (by omega) (by omega) ?_
          cbv
          refine hN2 (Bd.more k' m' fp') _ _ ?hx ?hi ?ht
          case hx => (refine Wk.eqz (fun j => [0, 1, 2, 5].getD j 0) (by first | exact fun i _ j _ e => e | (simp only [List.length_cons, List.length_nil]; decide)) ?_; cbv; (repeat' (first | exact trivial | rfl | assumption | apply And.intro | (simp only [hz, Z.a, binStd, cmpStd, unStd, scmpStd, maxI, reduceCtorEq]; first | done | assumption) | exact RowsZ.same (by assumption) (by first | assumption | rfl) | exact FzL.mk rfl rfl rfl (by assumption) (by first | assumption | rfl) (by decide) | (refine RowsZ.one ?_; cbv))))
          case hi => exact ⟨by omega, by omega, hft2, by omega, hup'⟩
          case ht => simp only [Bd.left]; omega
        · refine hE2 _ _ _ ?_
          cbv
          have hq : fp = ds := by rw [hfp, List.take_of_length_le (by omega)]
          refine ⟨_, Vw.agg (rs := [.list 3 es, .list 5 _]) ⟨Vw.same hu.list, Vw.sl rfl hup.get (by omega), trivial⟩, hR _ ?_⟩
          rw [List.drop_zero, List.take_of_length_le (by omega), hq]
  · cbv
    obtain ⟨hi0, hi1, hfs, hnf, huf⟩ : 0 < i ∧ i.toNat ≤ es.length ∧ fs = es.take i.toNat ∧ n = fs.length ∧ Up0 fs := hinv
    (split <;> rename_i hc <;> (try (simp only [hz, Z.a, binStd, cmpStd, unStd, scmpStd, maxI, reduceCtorEq] at hc)) <;> (try cbv))
    · obtain ⟨⟨len, ps, nx⟩, hd, hrow⟩ := get_map (f := sgRow) (ds := ss) (i := i) (by omega) (by omega)
      obtain ⟨q1, eq1⟩ : ∃ x, ps.map pcRow = x := ⟨_, rfl⟩
      obtain ⟨n1, en1⟩ : ∃ x, nx.map nxRow = x := ⟨_, rfl⟩
      have hrow : es[i.toNat]? = some [.int .i64 len, .list 2 q1, .list 1 n1] := by rw [hes, ← eq1, ← en1]; exact hrow
      have hql : q1.length = ps.length := by rw [← eq1]; simp
      have hpl : ps.length ≤ 1000 := hm3 ⟨len, ps, nx⟩ (List.mem_of_getElem? hd)
      have huq : Up0 q1 := by rw [← eq1]; exact up_pc ps
      have hun : Up0 n1 := by rw [← en1]; exact up_nx nx
      refine Idx.mk [.int .i64 len, .list 2 q1, .list 1 n1] (by omega) hrow ?_
      cbv
      obtain ⟨i', ei'⟩ : ∃ x, i + 1 = x := ⟨_, rfl⟩
      have ei : wbin .add .i64 i 1 = i' := by rw [hbin, i_add (by omega) (by omega)]; exact ei'
      obtain ⟨fw, efw⟩ : ∃ x, fs ++ [[AV.int .i64 len, .list 2 q1, .list 1 n1]] = x := ⟨_, rfl⟩
      have hfl : fw.length = n + 1 := by rw [← efw, hnf]; simp
      have hft : fw = es.take i'.toNat := by rw [← efw, ← ei', take_row (by omega) hrow, hfs]
      have hufw : Up0 fw := by rw [hft]; exact up_take hu _
      obtain ⟨n', en'⟩ : ∃ x, n + 1 = x := ⟨_, rfl⟩
      have hnl : n = i.toNat := by rw [hnf, hfs, List.length_take]; omega
      have hT1 : Bd.left es (.more i' n' fw) < Bd.left es (.more i n fs) := by simp only [Bd.left]; omega
      have hI1 : Bd.Ok es (.more i' n' fw) := ⟨by omega, by omega, hft, by omega, hufw⟩
      (obtain ⟨K, eK, K0, Kn⟩ : ∃ L : Int, wlen q1 = L ∧ 0 ≤ L ∧ L.toNat = q1.length := ⟨(q1.length : Int), by rw [hlen], Int.natCast_nonneg _, Int.toNat_natCast _⟩)
      refine Loop.data hw (S := Bd) (fun s => match s with | .start => fr 63 [(1, .ref 0 2 0 0), (2, .ref 1 2 0 0), (3, .ref 2 2 0 0), (12, .list 3 es), (13, .int .i64 L), (14, .int .i64 i), (5, .ref 4 3 0 0), (6, .ref 5 3 0 0), (24, .list 2 q1), (25, .int .i64 K), (26, .int .i64 0)] | .more k m fp => fr 63 [(1, .ref 0 2 0 0), (2, .ref 1 2 0 0), (3, .ref 2 2 0 0), (12, .list 3 es), (13, .int .i64 L), (14, .int .i64 i), (5, .ref 4 3 0 0), (6, .ref 5 3 0 0), (24, .list 2 q1), (25, .int .i64 K), (26, .int .i64 k)])
        (fun s => match s with | .start => [.live 2 [[.list 3 es, .list 5 ds]], .live 2 [[.nils, .nils]], .live 2 [[.sl 3 3 0 n, .nils]], .live 3 fs, .live 3 [[.int .i64 len, .list 2 q1, .list 1 n1]], .live 3 [[.int .i64 len, .nils, .list 1 n1]]] | .more k m fp => [.live 2 [[.list 3 es, .list 5 ds]], .live 2 [[.nils, .nils]], .live 2 [[.sl 3 3 0 n, .nils]], .live 3 fs, .live 3 [[.int .i64 len, .list 2 q1, .list 1 n1]], .live 3 [[.int .i64 len, .sl 6 2 0 m, .list 1 n1]], .live 2 fp]) (Bd.Ok q1) (Bd.left q1) .start (by (refine Wk.eqz (id) (by first | exact fun i _ j _ e => e | (simp only [List.length_cons, List.length_nil]; decide)) ?_; cbv; (repeat' (first | exact trivial | rfl | assumption | apply And.intro | (simp only [hz, Z.a, binStd, cmpStd, unStd, scmpStd, maxI, reduceCtorEq]; first | done | assumption) | exact RowsZ.same (by assumption) (by first | assumption | rfl) | exact FzL.mk rfl rfl rfl (by assumption) (by first | assumption | rfl) (by decide) | (refine RowsZ.one ?_; cbv))))) trivial ?_
      rintro (_ | ⟨k, m, fp⟩) hinv2 Q2 hN2 hE2 hR2
      · cbv
        (split <;> rename_i hc2 <;> (try (simp only [hz, Z.a, binStd, cmpStd, unStd, scmpStd, maxI, reduceCtorEq] at hc2)) <;> (try cbv))
        · obtain ⟨⟨a, b⟩, hd2, hrow2⟩ := get_map (f := pcRow) (ds := ps) (i := 0) (Int.le_refl 0) (by omega)
          have hrow2 : q1[(0 : Int).toNat]? = some [.int .i64 a, .int .i64 b] := by rw [← eq1]; exact hrow2
          refine Idx.mk [.int .i64 a, .int .i64 b] (by decide) hrow2 ?_
          cbv
          refine Ob.mk (by decide) ?_
          cbv
          have hU2 : Up0 [[AV.int .i64 a, .int .i64 b]] := ⟨rfl⟩
          have ei2 : wbin .add .i64 0 1 = 1 := by rw [hbin]; rfl
          refine hN2 (Bd.more 1 1 [[.int .i64 a, .int .i64 b]]) _ _ ?hx ?hi ?ht
          case hx => (refine Wk.eqz (fun j => [0, 1, 2, 3, 4, 5, 7].getD j 0) (by first | exact fun i _ j _ e => e | (simp only [List.length_cons, List.length_nil]; decide)) ?_; cbv; (repeat' (first | exact trivial | rfl | assumption | apply And.intro | (simp only [hz, Z.a, binStd, cmpStd, unStd, scmpStd, maxI, reduceCtorEq]; first | done | assumption) | exact RowsZ.same (by assumption) (by first | assumption | rfl) | exact FzL.mk rfl rfl rfl (by assumption) (by first | assumption | rfl) (by decide) | (refine RowsZ.one ?_; cbv))))
          case hi => exact ⟨by decide, by omega, (take_row (Int.le_refl 0) hrow2).symm, rfl, hU2⟩
          case ht => simp only [Bd.left]; omega
        · refine hE2 _ _ _ ?_
          cbv
          have hq0 : q1 = [] := List.length_eq_zero_iff.1 (by omega)
          obtain ⟨fx, efx⟩ : ∃ x, fs ++ [[AV.int .i64 len, .nils, .list 1 n1]] = x := ⟨_, rfl⟩
          refine App.mk fx n' efx.symm hnf en'.symm (by omega) (by omega) ?_
          cbv
          refine hN (Bd.more i' n' fw) _ _ ?hx ?hi ?ht
          case hx => (refine Wk.eqz (fun j => [0, 1, 2, 6].getD j 0) (by first | exact fun i _ j _ e => e | (simp only [List.length_cons, List.length_nil]; decide)) ?_; cbv; (repeat' (first | exact trivial | rfl | assumption | (refine RowsZ.app huf efx.symm efw.symm ?_; cbv) | apply And.intro | (simp only [hz, Z.a, binStd, cmpStd, unStd, scmpStd, maxI, reduceCtorEq]; first | done | assumption) | exact RowsZ.same (by assumption) (by first | assumption | rfl) | exact FzL.mk rfl rfl rfl (by assumption) (by first | assumption | rfl) (by decide) | (refine RowsZ.one ?_; cbv))))
          case hi => exact hI1
          case ht => exact hT1
      · cbv
        obtain ⟨hk0, hk1, hfp, hmf, hup⟩ : 0 < k ∧ k.toNat ≤ q1.length ∧ fp = q1.take k.toNat ∧ m = fp.length ∧ Up0 fp := hinv2
        (split <;> rename_i hc2 <;> (try (simp only [hz, Z.a, binStd, cmpStd, unStd, scmpStd, maxI, reduceCtorEq] at hc2)) <;> (try cbv))
        · obtain ⟨⟨a, b⟩, hd2, hrow2⟩ := get_map (f := pcRow) (ds := ps) (i := k) (by omega) (by omega)
          have hrow2 : q1[k.toNat]? = some [.int .i64 a, .int .i64 b] := by rw [← eq1]; exact hrow2
          refine Idx.mk [.int .i64 a, .int .i64 b] (by omega) hrow2 ?_
          cbv
          obtain ⟨k', ek'⟩ : ∃ x, k + 1 = x := ⟨_, rfl⟩
          have ek : wbin .add .i64 k 1 = k' := by rw [hbin, i_add (by omega) (by omega)]; exact ek'
          obtain ⟨fp', efp⟩ : ∃ x, fp ++ [[AV.int .i64 a, .int .i64 b]] = x := ⟨_, rfl⟩
          have hfl2 : fp'.length = m + 1 := by rw [← efp, hmf]; simp
          have hft2 : fp' = q1.take k'.toNat := by rw [← efp, ← ek', take_row (by omega) hrow2, hfp]
          have hup' : Up0 fp' := by rw [hft2]; exact up_take huq _
          obtain ⟨m', em'⟩ : ∃ x, m + 1 = x := ⟨_, rfl⟩
          have hml : m = k.toNat := by rw [hmf, hfp, List.length_take]; omega
          refine App.mk fp' m' efp.symm hmf em'.symm (by omega) (by omega) ?_
          cbv
          refine hN2 (Bd.more k' m' fp') _ _ ?hx ?hi ?ht
          case hx => (refine Wk.eqz (fun j => [0, 1, 2, 3, 4, 5, 8].getD j 0) (by first | exact fun i _ j _ e => e | (simp only [List.length_cons, List.length_nil]; decide)) ?_; cbv; (repeat' (first | exact trivial | rfl | assumption | apply And.intro | (simp only [hz, Z.a, binStd, cmpStd, unStd, scmpStd, maxI, reduceCtorEq]; first | done | assumption) | exact RowsZ.same (by assumption) (by first | assumption | rfl) | exact FzL.mk rfl rfl rfl (by assumption) (by first | assumption | rfl) (by decide) | (refine RowsZ.one ?_; cbv))))
          case hi => exact ⟨by omega, by omega, hft2, by omega, hup'⟩
          case ht => simp only [Bd.left]; omega
        · refine hE2 _ _ _ ?_
          cbv
          have hq : fp = q1 := by rw [hfp, List.take_of_length_le (by omega)]
          have hmq : m = q1.length := by rw [hmf, hq]
          clear hfp
          subst fp
          obtain ⟨fx, efx⟩ : ∃ x, fs ++ [[AV.int .i64 len, .sl 6 2 0 m, .list 1 n1]] = x := ⟨_, rfl⟩
          refine App.mk fx n' efx.symm hnf en'.symm (by omega) (by omega) ?_
          cbv
          refine hN (Bd.more i' n' fw) _ _ ?hx ?hi ?ht
          case hx => (refine Wk.eqz (fun j => [0, 1, 2, 7].getD j 0) (by first | exact fun i _ j _ e => e | (simp only [List.length_cons, List.length_nil]; decide)) ?_; cbv; (repeat' (first | exact trivial | rfl | assumption | (refine RowsZ.app huf efx.symm efw.symm ?_; cbv) | apply And.intro | (simp only [hz, Z.a, binStd, cmpStd, unStd, scmpStd, maxI, reduceCtorEq]; first | done | assumption) | exact RowsZ.same (by assumption) (by first | assumption | rfl) | exact FzL.mk rfl rfl rfl (by assumption) (by first | assumption | rfl) (by decide) | (refine RowsZ.one ?_; cbv))))
          case hi => exact hI1
          case ht => exact hT1
    · refine hE _ _ _ ?_
      cbv
      have hfe : fs = es := by rw [hfs, List.take_of_length_le (by omega)]
      have hne : n = es.length := by rw [hnf, hfe]
      subst hfe
      (obtain ⟨J, eJ, J0, Jn⟩ : ∃ L : Int, wlen ds = L ∧ 0 ≤ L ∧ L.toNat = ds.length := ⟨(ds.length : Int), by rw [hlen], Int.natCast_nonneg _, Int.toNat_natCast _⟩)
      refine Loop.data hw (S := Bd) (fun s => match s with | .start => fr 63 [(2, .ref 1 2 0 0), (3, .ref 2 2 0 0), (49, .list 5 ds), (50, .int .i64 J), (51, .int .i64 0)] | .more k m fp => fr 63 [(2, .ref 1 2 0 0), (3, .ref 2 2 0 0), (49, .list 5 ds), (50, .int .i64 J), (51, .int .i64 k)])
        (fun s => match s with | .start => [.live 2 [[.list 3 fs, .list 5 ds]], .live 2 [[.nils, .nils]], .live 2 [[.list 3 fs, .nils]]] | .more k m fp => [.live 2 [[.list 3 fs, .list 5 ds]], .live 2 [[.nils, .nils]], .live 2 [[.list 3 fs, .sl 3 5 0 m]], .live 5 fp]) (Bd.Ok ds) (Bd.left ds) .start (by (refine Wk.eqz (id) (by first | exact fun i _ j _ e => e | (simp only [List.length_cons, List.length_nil]; decide)) ?_; cbv; (repeat' (first | exact trivial | rfl | assumption | apply And.intro | (simp only [hz, Z.a, binStd, cmpStd, unStd, scmpStd, maxI, reduceCtorEq]; first | done | assumption) | exact RowsZ.same (by assumption) (by first | assumption | rfl) | exact FzL.mk rfl rfl rfl (by assumption) (by first | assumption | rfl) (by decide) | (refine RowsZ.one ?_; cbv))))) trivial ?_
      rintro (_ | ⟨k, m, fp⟩) hinv2 Q2 hN2 hE2 hR2
      · cbv
        (split <;> rename_i hc2 <;> (try (simp only [hz, Z.a, binStd, cmpStd, unStd, scmpStd, maxI, reduceCtorEq] at hc2)) <;> (try cbv))
        · obtain ⟨⟨a1, a2, a3, a4, a5⟩, hd2, hrow2⟩ := get_map (f := grRow) (ds := gs) (i := 0) (Int.le_refl 0) (by omega)
          have hrow2 : ds[(0 : Int).toNat]? = some [.int .i64 a1, .int .i64 a2, .int .i64 a3, .int .i64 a4, .int .i64 a5] := by rw [hds]; exact hrow2
          refine Idx.mk [.int .i64 a1, .int .i64 a2, .int .i64 a3, .int .i64 a4, .int .i64 a5] (by decide) hrow2 ?_
          cbv
          refine Ob.mk (by decide) ?_
          cbv
          have hU2 : Up0 [[AV.int .i64 a1, .int .i64 a2, .int .i64 a3, .int .i64 a4, .int .i64 a5]] := ⟨rfl⟩
          have ei2 : wbin .add .i64 0 1 = 1 := by rw [hbin]; rfl
          refine hN2 (Bd.more 1 1 [[.int .i64 a1, .int .i64 a2, .int .i64 a3, .int .i64 a4, .int .i64 a5]]) _ _ ?hx ?hi ?ht
          case hx => (refine Wk.eqz (fun j => [0, 1, 2, 4].getD j 0) (by first | exact fun i _ j _ e => e | (simp only [List.length_cons, List.length_nil]; decide)) ?_; cbv; (repeat' (first | exact trivial | rfl | assumption | apply And.intro | (simp only [hz, Z.a, binStd, cmpStd, unStd, scmpStd, maxI, reduceCtorEq]; first | done | assumption) | exact RowsZ.same (by assumption) (by first | assumption | rfl) | exact FzL.mk rfl rfl rfl (by assumption) (by first | assumption | rfl) (by decide) | (refine RowsZ.one ?_; cbv))))
          case hi => exact ⟨by decide, by omega, (take_row (Int.le_refl 0) hrow2).symm, rfl, hU2⟩
          case ht => simp only [Bd.left]; omega
        · refine hE2 _ _ _ ?_
          cbv
          have hd0 : ds = [] := List.length_eq_zero_iff.1 (by omega)
          exact ⟨_, Vw.agg (rs := [.list 3 fs, .list 5 []]) ⟨Vw.same hu.list, Vw.nil 5, trivial⟩, hR _ (by rw [hd0])⟩
      · cbv
        obtain ⟨hk0, hk1, hfp, hmf, hup⟩ : 0 < k ∧ k.toNat ≤ ds.length ∧ fp = ds.take k.toNat ∧ m = fp.length ∧ Up0 fp := hinv2
        (split <;> rename_i hc2 <;> (try (simp only [hz, Z.a, binStd, cmpStd, unStd, scmpStd, maxI, reduceCtorEq] at hc2)) <;> (try cbv))
        · obtain ⟨⟨a1, a2, a3, a4, a5⟩, hd2, hrow2⟩ := get_map (f := grRow) (ds := gs) (i := k) (by omega) (by omega)
          have hrow2 : ds[k.toNat]? = some [.int .i64 a1, .int .i64 a2, .int .i64 a3, .int .i64 a4, .int .i64 a5] := by rw [hds]; exact hrow2
          refine Idx.mk [.int .i64 a1, .int .i64 a2, .int .i64 a3, .int .i64 a4, .int .i64 a5] (by omega) hrow2 ?_
          cbv
          obtain ⟨k', ek'⟩ : ∃ x, k + 1 = x := ⟨_, rfl⟩
          have ek : wbin .add .i64 k 1 = k' := by rw [hbin, i_add (by omega) (by omega)]; exact ek'
          obtain ⟨fp', efp⟩ : ∃ x, fp ++ [[AV.int .i64 a1, .int .i64 a2, .int .i64 a3, .int .i64 a4, .int .i64 a5]] = x := ⟨_, rfl⟩
          have hfl2 : fp'.length = m + 1 := by rw [← efp, hmf]; simp
          have hft2 : fp' = ds.take k'.toNat := by rw [← efp, ← ek', take_row (by omega) hrow2, hfp]
          have hup' : Up0 fp' := by rw [hft2]; exact up_take hud _
          obtain ⟨m', em'⟩ : ∃ x, m + 1 = x := ⟨_, rfl⟩
          have hml : m = k.toNat := by rw [hmf, hfp, List.length_take]; omega
          refine App.mk fp' m' efp.symm hmf em'.symm (by omega) (by omega) ?_
          cbv
          refine hN2 (Bd.more k' m' fp') _ _ ?hx ?hi ?ht
          case hx => (refine Wk.eqz (fun j => [0, 1, 2, 5].getD j 0) (by first | exact fun i _ j _ e => e | (simp only [List.length_cons, List.length_nil]; decide)) ?_; cbv; (repeat' (first | exact trivial | rfl | assumption | apply And.intro | (simp only [hz, Z.a, binStd, cmpStd, unStd, scmpStd, maxI, reduceCtorEq]; first | done | assumption) | exact RowsZ.same (by assumption) (by first | assumption | rfl) | exact FzL.mk rfl rfl rfl (by assumption) (by first | assumption | rfl) (by decide) | (refine RowsZ.one ?_; cbv))))
          case hi => exact ⟨by omega, by omega, hft2, by omega, hup'⟩
          case ht => simp only [Bd.left]; omega
        · refine hE2 _ _ _ ?_
          cbv
          have hq : fp = ds := by rw [hfp, List.take_of_length_le (by omega)]
          refine ⟨_, Vw.agg (rs := [.list 3 fs, .list 5 _]) ⟨Vw.same hu.list, Vw.sl rfl hup.get (by omega), trivial⟩, hR _ ?_⟩
          rw [List.drop_zero, List.take_of_length_le (by omega), hq]
end Go.Proofs.Ytpiocfmdjgbamaa

/- What the statements of layer 14 ask first, by the engine. -/
namespace Go.Proofs.Ytpiocfmdjgbamaa
open Go Go.RowKit Go.Eng
set_option maxRecDepth 100000
structure May14 (ss : List Sg) (gs : List Gr) (segment from_ : Int) : Prop where
  tr : TrackOk ss gs
  ps : ∀ s, s ∈ ss → s.ps.length ≤ 1000
  n300 : ss.length ≤ 300
  g500 : gs.length ≤ 500
  seg : 0 ≤ segment ∧ segment.toNat < ss.length
  fr : 0 ≤ from_ ∧ from_ ≤ 1099511627776
set_option maxHeartbeats 2000000 in
theorem e_may14 (ss : List Sg) (gs : List Gr) (es ds : List (List AV)) (hes : es = ss.map sgRow) (hds : ds = gs.map grRow) (segment from_ : Int) :
    PCalls Try.prog 13 [.agg [.list 3 es, .list 5 ds], .int .i64 segment, .int .i64 from_] (fun r => ∃ o : Bool, r = .bool o ∧ (o = true → May14 ss gs segment from_)) := by
  have hu : Up0 es := by rw [hes]; exact up_sg ss
  have hud : Up0 ds := by rw [hds]; exact up_gr gs
  have hel : es.length = ss.length := by rw [hes]; simp
  have hdl : ds.length = gs.length := by rw [hds]; simp
  have hut : uptoL 0 [.agg [.list 3 es, .list 5 ds]] = true := Bool.and_eq_true_iff.mpr ⟨Up0.one hu (Up0.one hud rfl), rfl⟩
  (refine PCalls.ofY Try.func13 (by kernel_rfl) (by kernel_rfl) fun w hw R hR => ?_); (obtain ⟨wbin, wcmp, wun, wconv, wnot, wbeq, wmm, wscmp, wsadd, wslen, wsat, weqs, wlen, wnlen, wofNat, wtake, wdrop, wapp, wzero, wnat⟩ := w); (have hbin := Z.w1 hw); (have hcmp := Z.w2 hw); (have hun := Z.w3 hw); (have hconv := Z.w4 hw); (have hnot := Z.w5 hw); (have hbeq := Z.w6 hw); (have hmm := Z.w7 hw); (have hscmp := Z.w8 hw); (have hsadd := Z.w9 hw); (have hslen := Z.w10 hw); (have hsat := Z.w11 hw); (have heqs := Z.w12 hw); (have hlen := Z.w13 hw); (have hnlen := Z.w14 hw); (have hofNat := Z.w15 hw); (have htake := Z.w16 hw); (have hdrop := Z.w17 hw); (have happ := Z.w18 hw); (have hzero := Z.w19 hw); (have hnat := Z.w20 hw); (have hz := Z.z hw); (conv => arg 2; cbv); (generalize hP : Try.prog = P); cbv
  (obtain ⟨L, eL, L0, Ln⟩ : ∃ L : Int, wlen es = L ∧ 0 ≤ L ∧ L.toNat = es.length := ⟨(es.length : Int), by rw [hlen], Int.natCast_nonneg _, Int.toNat_natCast _⟩)
  (obtain ⟨J, eJ, J0, Jn⟩ : ∃ L : Int, wlen ds = L ∧ 0 ≤ L ∧ L.toNat = ds.length := ⟨(ds.length : Int), by rw [hlen], Int.natCast_nonneg _, Int.toNat_natCast _⟩)
  have hF : R (.bool false) := hR _ ⟨_, rfl, fun h => (by cases h)⟩
  repeat' (first | exact ⟨_, Vw.same rfl, hF⟩ | (split <;> rename_i h <;> (try (simp only [eL, eJ] at h)) <;> (try (simp only [hz, Z.a, binStd, cmpStd, unStd, scmpStd, maxI, reduceCtorEq] at h)) <;> (try cbv)))
  have hb : ss.length ≤ 300 ∧ gs.length ≤ 500 := by omega
  obtain ⟨b1, b2⟩ := hb
  simp only [eL]
  refine Loop.data hw (S := Int) (fun i => fr 72 [(1, .int .i64 segment), (2, .int .i64 from_), (3, .ref 0 2 0 0), (22, .list 3 es), (23, .int .i64 L), (24, .int .i64 i)]) (fun i => [.live 2 [[.list 3 es, .list 5 ds]]]) (fun i => 0 ≤ i ∧ i ≤ L ∧ ∀ j, j < i.toNat → ∀ s, ss[j]? = some s → s.ps.length ≤ 100) (fun i => (L - i).toNat) 0 (by (refine Wk.eqz (id) (by first | exact fun i _ j _ e => e | (simp only [List.length_cons, List.length_nil]; decide)) ?_; cbv; (repeat' (first | exact trivial | rfl | assumption | apply And.intro | (simp only [hz, Z.a, binStd, cmpStd, unStd, scmpStd, maxI, reduceCtorEq]; first | done | assumption) | exact RowsZ.same (by assumption) (by first | assumption | rfl) | exact FzL.mk rfl rfl rfl (by assumption) (by first | assumption | rfl) (by decide) | (refine RowsZ.one ?_; cbv))))) ⟨Int.le_refl _, L0, fun j hj => (by simp at hj)⟩ ?_
  rintro i hinv Q' hN hE hR'
  have hinv : 0 ≤ i ∧ i ≤ L ∧ ∀ j, j < i.toNat → ∀ s, ss[j]? = some s → s.ps.length ≤ 100 := hinv
  cbv
  obtain ⟨hi0, hi1, hl⟩ := hinv
  (split <;> rename_i hc <;> (try (simp only [hz, Z.a, binStd, cmpStd, unStd, scmpStd, maxI, reduceCtorEq] at hc)) <;> (try cbv))
  · obtain ⟨⟨len, ps, nx⟩, hd, hrow⟩ := get_map (f := sgRow) (ds := ss) (i := i) hi0 (by omega)
    obtain ⟨q1, eq1⟩ : ∃ x, ps.map pcRow = x := ⟨_, rfl⟩
    obtain ⟨n1, en1⟩ : ∃ x, nx.map nxRow = x := ⟨_, rfl⟩
    have hrow : es[i.toNat]? = some [.int .i64 len, .list 2 q1, .list 1 n1] := by rw [hes, ← eq1, ← en1]; exact hrow
    have hql : q1.length = ps.length := by rw [← eq1]; simp
    (obtain ⟨K, eK, K0, Kn⟩ : ∃ L : Int, wlen q1 = L ∧ 0 ≤ L ∧ L.toNat = q1.length := ⟨(q1.length : Int), by rw [hlen], Int.natCast_nonneg _, Int.toNat_natCast _⟩)
    obtain ⟨i', ei'⟩ : ∃ x, i + 1 = x := ⟨_, rfl⟩
    have ei : wbin .add .i64 i 1 = i' := by rw [hbin, i_add (by omega) (by omega)]; exact ei'
    have hT : (L - i').toNat < (L - i).toNat := by omega
    refine Idx.mk [.int .i64 len, .list 2 q1, .list 1 n1] hi0 hrow ?_
    cbv
    repeat' (first | exact hR' _ _ ⟨_, Vw.same rfl, hF⟩ | (split <;> rename_i h <;> (try (simp only [eK] at h)) <;> (try (simp only [hz, Z.a, binStd, cmpStd, unStd, scmpStd, maxI, reduceCtorEq] at h)) <;> (try cbv)))
    refine hN i' _ _ ?hx ?hI hT
    case hx => (refine Wk.eqz (id) (by first | exact fun i _ j _ e => e | (simp only [List.length_cons, List.length_nil]; decide)) ?_; cbv; (repeat' (first | exact trivial | rfl | assumption | apply And.intro | (simp only [hz, Z.a, binStd, cmpStd, unStd, scmpStd, maxI, reduceCtorEq]; first | done | assumption) | exact RowsZ.same (by assumption) (by first | assumption | rfl) | exact FzL.mk rfl rfl rfl (by assumption) (by first | assumption | rfl) (by decide) | (refine RowsZ.one ?_; cbv))))
    case hI =>
      refine ⟨by omega, by omega, ?_⟩
      rw [← ei']
      refine all_step hi0 hl fun m hm => ?_
      rw [hd] at hm
      obtain rfl : (⟨len, ps, nx⟩ : Sg) = m := by simpa using hm
      simp only; omega
  refine hE _ _ _ ?_
  cbv
  have hps : ∀ s, s ∈ ss → s.ps.length ≤ 1000 := fun s hs => by
    obtain ⟨j, hj⟩ := List.mem_iff_getElem?.1 hs
    have := hl j (by have := (List.getElem?_eq_some_iff.1 hj).1; omega) s hj
    omega
  refine Call.stepE (by rw [← hP]; exact e_refsT14 ss gs es ds hes hds (by omega) (by omega) hps) (by exact hut) ?_
  cbv
  refine Call.step (by rw [← hP]; exact e_check11 ss gs es ds hes hds) (by exact hut) ?_
  rintro r ⟨e, i, rfl, hok⟩
  cbv
  (split <;> rename_i h1 <;> (try (simp only [hz, Z.a, binStd, cmpStd, unStd, scmpStd, maxI, reduceCtorEq] at h1)) <;> (try cbv))
  rotate_left 1
  · exact ⟨_, Vw.same rfl, hF⟩
  have hT := hok h1
  (split <;> rename_i h2 <;> (try (simp only [eL] at h2)) <;> (try (simp only [hz, Z.a, binStd, cmpStd, unStd, scmpStd, maxI, reduceCtorEq] at h2)) <;> (try cbv))
  rotate_left 1
  · exact ⟨_, Vw.same rfl, hF⟩
  (split <;> rename_i h3 <;> (try (simp only [eL] at h3)) <;> (try (simp only [hz, Z.a, binStd, cmpStd, unStd, scmpStd, maxI, reduceCtorEq] at h3)) <;> (try cbv))
  rotate_left 1
  · exact ⟨_, Vw.same rfl, hF⟩
  (split <;> rename_i h4 <;> (try (simp only [eL] at h4)) <;> (try (simp only [hz, Z.a, binStd, cmpStd, unStd, scmpStd, maxI, reduceCtorEq] at h4)) <;> (try cbv))
  rotate_left 1
  · exact ⟨_, Vw.same rfl, hF⟩
  obtain ⟨sg, hd, hrow⟩ := get_map (f := sgRow) (ds := ss) (i := segment) h2 (by omega)
  have hsg := hT.seg segment.toNat (by omega) sg hd
  obtain ⟨len, ps, nx⟩ := sg
  have hle : len ≤ 1099511627776 := hsg.le
  obtain ⟨q1, eq1⟩ : ∃ x, ps.map pcRow = x := ⟨_, rfl⟩
  obtain ⟨n1, en1⟩ : ∃ x, nx.map nxRow = x := ⟨_, rfl⟩
  have hrow : es[segment.toNat]? = some [.int .i64 len, .list 2 q1, .list 1 n1] := by rw [hes, ← eq1, ← en1]; exact hrow
  refine Idx.mk [.int .i64 len, .list 2 q1, .list 1 n1] h2 hrow ?_
  cbv
  refine ⟨_, Vw.same rfl, hR _ ⟨_, rfl, fun ho => ⟨hT, hps, b1, b2, ⟨h2, by omega⟩, ?_⟩⟩⟩
  rw [hcmp] at ho
  have : from_ ≤ len := by simpa [cmpStd] using ho
  omega
end Go.Proofs.Ytpiocfmdjgbamaa

/- odographlaw14: same, steps. -/
namespace Go.Proofs.Ytpiocfmdjgbamaa
open Go Go.RowKit Go.Eng
set_option maxRecDepth 100000
set_option maxHeartbeats 2000000 in
theorem e_same14 (from_ : Int) (m : List (List Int)) (hm : ∀ l, l ∈ m → l.length ≤ 12) (hm16 : m.length ≤ 1000) (rs qs : List (List AV)) (hrs : rs = m.map rtC) (hqs : qs = m.map rtRow) :
    PCalls Try.prog 53 [.agg [.int .i64 from_, .list 13 rs], .agg [.int .i64 from_, .list 1 qs]] (· = .bool true) := by
  have hur : Up0 rs := by rw [hrs]; exact up_map (f := rtC) (fun d => rfl) m
  have huq : Up0 qs := by rw [hqs]; exact up_rt m
  have hrl : rs.length = m.length := by rw [hrs]; simp
  have hql : qs.length = m.length := by rw [hqs]; simp
  (refine PCalls.ofY Try.func53 (by kernel_rfl) (by kernel_rfl) fun w hw R hR => ?_); (obtain ⟨wbin, wcmp, wun, wconv, wnot, wbeq, wmm, wscmp, wsadd, wslen, wsat, weqs, wlen, wnlen, wofNat, wtake, wdrop, wapp, wzero, wnat⟩ := w); (have hbin := Z.w1 hw); (have hcmp := Z.w2 hw); (have hun := Z.w3 hw); (have hconv := Z.w4 hw); (have hnot := Z.w5 hw); (have hbeq := Z.w6 hw); (have hmm := Z.w7 hw); (have hscmp := Z.w8 hw); (have hsadd := Z.w9 hw); (have hslen := Z.w10 hw); (have hsat := Z.w11 hw); (have heqs := Z.w12 hw); (have hlen := Z.w13 hw); (have hnlen := Z.w14 hw); (have hofNat := Z.w15 hw); (have htake := Z.w16 hw); (have hdrop := Z.w17 hw); (have happ := Z.w18 hw); (have hzero := Z.w19 hw); (have hnat := Z.w20 hw); (have hz := Z.z hw); (conv => arg 2; cbv); (generalize hP : Try.prog = P); cbv
  have c1 : ∀ x, wcmp .neq x x = false := fun x => by rw [hcmp]; simp [cmpStd]
  simp only [c1]
  cbv
  (obtain ⟨L, eL, L0, Ln⟩ : ∃ L : Int, wlen rs = L ∧ 0 ≤ L ∧ L.toNat = rs.length := ⟨(rs.length : Int), by rw [hlen], Int.natCast_nonneg _, Int.toNat_natCast _⟩)
  (obtain ⟨M, eM, M0, Mn⟩ : ∃ L : Int, wlen qs = L ∧ 0 ≤ L ∧ L.toNat = qs.length := ⟨(qs.length : Int), by rw [hlen], Int.natCast_nonneg _, Int.toNat_natCast _⟩)
  have hLM : L = M := by omega
  simp only [eL, eM, ← hLM]
  simp only [c1]
  cbv
  simp only [eL]
  refine Loop.data hw (S := Int) (fun i => fr 84 [(3, .ref 1 2 0 0), (25, .list 13 rs), (26, .int .i64 L), (27, .int .i64 i)])
    (fun _ => [.live 2 [[.int .i64 from_, .list 13 rs]], .live 2 [[.int .i64 from_, .list 1 qs]]]) (fun i => 0 ≤ i ∧ i ≤ L) (fun i => (L - i).toNat) 0 (by (refine Wk.eqz (id) (by first | exact fun i _ j _ e => e | (simp only [List.length_cons, List.length_nil]; decide)) ?_; cbv; (repeat' (first | exact trivial | rfl | assumption | apply And.intro | (simp only [hz, Z.a, binStd, cmpStd, unStd, scmpStd, maxI, reduceCtorEq]; first | done | assumption) | exact RowsZ.same (by assumption) (by first | assumption | rfl) | exact FzL.mk rfl rfl rfl (by assumption) (by first | assumption | rfl) (by decide) | (refine RowsZ.one ?_; cbv))))) ⟨Int.le_refl _, L0⟩ ?_
  rintro i hinv Q' hN hE hR'
  have hinv : 0 ≤ i ∧ i ≤ L := hinv
  cbv
  obtain ⟨hi0, hi1⟩ := hinv
  (split <;> rename_i hc <;> (try (simp only [hz, Z.a, binStd, cmpStd, unStd, scmpStd, maxI, reduceCtorEq] at hc)) <;> (try cbv))
  rotate_left 1
  · refine hE _ _ _ ?_
    cbv
    exact ⟨_, Vw.same rfl, hR _ rfl⟩
  obtain ⟨l, hl⟩ : ∃ l, m[i.toNat]? = some l := ⟨_, List.getElem?_eq_getElem (show i.toNat < m.length by omega)⟩
  have hl12 := hm l (List.mem_of_getElem? hl)
  have hri : rs[i.toNat]? = some (toR l).row := by rw [hrs, List.getElem?_map, hl]; rfl
  obtain ⟨xs, exs⟩ : ∃ x, x = l.map nxRow := ⟨_, rfl⟩
  have huxs : Up0 xs := by rw [exs]; exact up_nx l
  have hxl : xs.length = l.length := by rw [exs]; simp
  have hqi : qs[i.toNat]? = some [.list 1 xs] := by rw [hqs, List.getElem?_map, hl, exs]; rfl
  obtain ⟨i2, ei2⟩ : ∃ z, z = i + 1 := ⟨_, rfl⟩
  have a4 : wbin .add .i64 i 1 = i2 := by rw [hbin, ei2]; show IntKind.i64.wrap (i + 1) = i + 1; rw [IntKind.wrap_i64]; omega
  have hp := e_pathL l hl12
  obtain ⟨row, erow⟩ : ∃ row, row = toR l := ⟨_, rfl⟩
  have hp : PCalls Try.prog 54 [.agg row.row] (· = .list 1 xs) := by rw [erow, exs]; exact hp
  rw [← erow] at hri
  (obtain ⟨K, eK, K0, Kn⟩ : ∃ L : Int, wlen xs = L ∧ 0 ≤ L ∧ L.toNat = xs.length := ⟨(xs.length : Int), by rw [hlen], Int.natCast_nonneg _, Int.toNat_natCast _⟩)
  have hcell : ∀ k : Nat, k < l.length → xs[k]? = some [.int .i64 (l.getD k 0)] := fun k hk => by rw [exs, List.getElem?_map, List.getD_eq_getElem?_getD, List.getElem?_eq_getElem hk]; rfl
  have hnil : ∀ k : Nat, l.length ≤ k → l.getD k 0 = 0 := fun k hk => by rw [List.getD_eq_getElem?_getD, List.getElem?_eq_none hk]; rfl
  have hlenI := lenI_len l
  obtain ⟨n, s0, s1, s2, s3, s4, s5, s6, s7, s8, s9, s10, s11⟩ := row
  simp only [toR, R13.mk.injEq] at erow
  obtain ⟨f0, g0, g1, g2, g3, g4, g5, g6, g7, g8, g9, g10, g11⟩ := erow
  obtain rfl : n = K := by omega
  refine Idx.mk _ hi0 hri ?_
  cbv
  refine Call.stepE (by rw [← hP]; exact hp) rfl ?_
  cbv
  refine Idx.mk _ hi0 hqi ?_
  cbv
  simp only [eK, c1]
  cbv
  simp only [eK, c1]
  cbv
  (split <;> rename_i h12 <;> (try (simp only [hz, Z.a, binStd, cmpStd, unStd, scmpStd, maxI, reduceCtorEq] at h12)) <;> (try cbv))
  · exfalso; omega
  refine Loop.data hw (S := Int) (fun k => fr 84 [(3, .ref 1 2 0 0), (5, .int .i64 i), (6, .ref 2 13 0 0), (7, .list 1 xs), (25, .list 13 rs), (26, .int .i64 L), (27, .int .i64 i), (55, .int .i64 k)])
    (fun _ => [.live 2 [[.int .i64 from_, .list 13 rs]], .live 2 [[.int .i64 from_, .list 1 qs]], .live 13 [[.int .i64 n, .int .i64 s0, .int .i64 s1, .int .i64 s2, .int .i64 s3, .int .i64 s4, .int .i64 s5, .int .i64 s6, .int .i64 s7, .int .i64 s8, .int .i64 s9, .int .i64 s10, .int .i64 s11]]]) (fun k => 0 ≤ k ∧ k ≤ 12) (fun k => (12 - k).toNat) 0 (by (refine Wk.eqz (id) (by first | exact fun i _ j _ e => e | (simp only [List.length_cons, List.length_nil]; decide)) ?_; cbv; (repeat' (first | exact trivial | rfl | assumption | apply And.intro | (simp only [hz, Z.a, binStd, cmpStd, unStd, scmpStd, maxI, reduceCtorEq]; first | done | assumption) | exact RowsZ.same (by assumption) (by first | assumption | rfl) | exact FzL.mk rfl rfl rfl (by assumption) (by first | assumption | rfl) (by decide) | (refine RowsZ.one ?_; cbv))))) ⟨Int.le_refl _, by decide⟩ ?_
  rintro k hinv2 Q2 hN2 hE2 hR2
  have hinv2 : 0 ≤ k ∧ k ≤ 12 := hinv2
  cbv
  obtain ⟨hk0, hk1⟩ := hinv2
  (split <;> rename_i hc2 <;> (try (simp only [hz, Z.a, binStd, cmpStd, unStd, scmpStd, maxI, reduceCtorEq] at hc2)) <;> (try cbv))
  rotate_left 1
  · refine hE2 _ _ _ ?_
    cbv
    simp only [a4]
    refine hN i2 _ _ ?hx ?hi ?ht
    case hx => (refine Wk.eqz (id) (by first | exact fun i _ j _ e => e | (simp only [List.length_cons, List.length_nil]; decide)) ?_; cbv; (repeat' (first | exact trivial | rfl | assumption | apply And.intro | (simp only [hz, Z.a, binStd, cmpStd, unStd, scmpStd, maxI, reduceCtorEq]; first | done | assumption) | exact RowsZ.same (by assumption) (by first | assumption | rfl) | exact FzL.mk rfl rfl rfl (by assumption) (by first | assumption | rfl) (by decide) | (refine RowsZ.one ?_; cbv))))
    case hi => exact ⟨by omega, by omega⟩
    case ht => omega
  have hk : k = 0 ∨ k = 1 ∨ k = 2 ∨ k = 3 ∨ k = 4 ∨ k = 5 ∨ k = 6 ∨ k = 7 ∨ k = 8 ∨ k = 9 ∨ k = 10 ∨ k = 11 := by omega
  rcases hk with rfl | rfl | rfl | rfl | rfl | rfl | rfl | rfl | rfl | rfl | rfl | rfl
  · cbv
    have a5 : wbin .add .i64 0 1 = 1 := by rw [hbin]; rfl
    (split <;> rename_i hkn <;> (try (simp only [hz, Z.a, binStd, cmpStd, unStd, scmpStd, maxI, reduceCtorEq] at hkn)) <;> (try cbv))
    · have hc0 : xs[(0 : Int).toNat]? = some [.int .i64 s0] := by rw [g0]; exact hcell 0 (by omega)
      refine Idx.mk _ hi0 hqi ?_
      cbv
      refine Idx.mk _ (by decide) hc0 ?_
      cbv
      refine Idx.mk _ (by decide) hc0 ?_
      cbv
      simp only [c1]
      cbv
      refine InN.mk (by decide) (by decide) ?_
      cbv
      simp only [c1]
      cbv
      simp only [a5]
      refine hN2 1 _ _ ?hx ?hi ?ht
      case hx => (refine Wk.eqz (id) (by first | exact fun i _ j _ e => e | (simp only [List.length_cons, List.length_nil]; decide)) ?_; cbv; (repeat' (first | exact trivial | rfl | assumption | apply And.intro | (simp only [hz, Z.a, binStd, cmpStd, unStd, scmpStd, maxI, reduceCtorEq]; first | done | assumption) | exact RowsZ.same (by assumption) (by first | assumption | rfl) | exact FzL.mk rfl rfl rfl (by assumption) (by first | assumption | rfl) (by decide) | (refine RowsZ.one ?_; cbv))))
      case hi => exact ⟨by decide, by decide⟩
      case ht => decide
    · have ce : wcmp .neq s0 0 = false := by rw [show s0 = 0 by rw [g0]; exact hnil 0 (by omega)]; exact c1 0
      refine InN.mk (by decide) (by decide) ?_
      cbv
      simp only [ce]
      cbv
      simp only [a5]
      refine hN2 1 _ _ ?hx ?hi ?ht
      case hx => (refine Wk.eqz (id) (by first | exact fun i _ j _ e => e | (simp only [List.length_cons, List.length_nil]; decide)) ?_; cbv; (repeat' (first | exact trivial | rfl | assumption | apply And.intro | (simp only [hz, Z.a, binStd, cmpStd, unStd, scmpStd, maxI, reduceCtorEq]; first | done | assumption) | exact RowsZ.same (by assumption) (by first | assumption | rfl) | exact FzL.mk rfl rfl rfl (by assumption) (by first | assumption | rfl) (by decide) | (refine RowsZ.one ?_; cbv))))
      case hi => exact ⟨by decide, by decide⟩
      case ht => decide
  · cbv
    have a5 : wbin .add .i64 1 1 = 2 := by rw [hbin]; rfl
    (split <;> rename_i hkn <;> (try (simp only [hz, Z.a, binStd, cmpStd, unStd, scmpStd, maxI, reduceCtorEq] at hkn)) <;> (try cbv))
    · have hc1 : xs[(1 : Int).toNat]? = some [.int .i64 s1] := by rw [g1]; exact hcell 1 (by omega)
      refine Idx.mk _ hi0 hqi ?_
      cbv
      refine Idx.mk _ (by decide) hc1 ?_
      cbv
      refine Idx.mk _ (by decide) hc1 ?_
      cbv
      simp only [c1]
      cbv
      refine InN.mk (by decide) (by decide) ?_
      cbv
      simp only [c1]
      cbv
      simp only [a5]
      refine hN2 2 _ _ ?hx ?hi ?ht
      case hx => (refine Wk.eqz (id) (by first | exact fun i _ j _ e => e | (simp only [List.length_cons, List.length_nil]; decide)) ?_; cbv; (repeat' (first | exact trivial | rfl | assumption | apply And.intro | (simp only [hz, Z.a, binStd, cmpStd, unStd, scmpStd, maxI, reduceCtorEq]; first | done | assumption) | exact RowsZ.same (by assumption) (by first | assumption | rfl) | exact FzL.mk rfl rfl rfl (by assumption) (by first | assumption | rfl) (by decide) | (refine RowsZ.one ?_; cbv))))
      case hi => exact ⟨by decide, by decide⟩
      case ht => decide
    · have ce : wcmp .neq s1 0 = false := by rw [show s1 = 0 by rw [g1]; exact hnil 1 (by omega)]; exact c1 0
      refine InN.mk (by decide) (by decide) ?_
      cbv
      simp only [ce]
      cbv
      simp only [a5]
      refine hN2 2 _ _ ?hx ?hi ?ht
      case hx => (refine Wk.eqz (id) (by first | exact fun i _ j _ e => e | (simp only [List.length_cons, List.length_nil]; decide)) ?_; cbv; (repeat' (first | exact trivial | rfl | assumption | apply And.intro | (simp only [hz, Z.a, binStd, cmpStd, unStd, scmpStd, maxI, reduceCtorEq]; first | done | assumption) | exact RowsZ.same (by assumption) (by first | assumption | rfl) | exact FzL.mk rfl rfl rfl (by assumption) (by first | assumption | rfl) (by decide) | (refine RowsZ.one ?_; cbv))))
      case hi => exact ⟨by decide, by decide⟩
      case ht => decide
  · cbv
    have a5 : wbin .add .i64 2 1 = 3 := by rw [hbin]; rfl
    (split <;> rename_i hkn <;> (try (simp only [hz, Z.a, binStd, cmpStd, unStd, scmpStd, maxI, reduceCtorEq] at hkn)) <;> (try cbv))
    · have hc2 : xs[(2 : Int).toNat]? = some [.int .i64 s2] := by rw [g2]; exact hcell 2 (by omega)
      refine Idx.mk _ hi0 hqi ?_
      cbv
      refine Idx.mk _ (by decide) hc2 ?_
      cbv
      refine Idx.mk _ (by decide) hc2 ?_
      cbv
      simp only [c1]
      cbv
      refine InN.mk (by decide) (by decide) ?_
      cbv
      simp only [c1]
      cbv
      simp only [a5]
      refine hN2 3 _ _ ?hx ?hi ?ht
      case hx => (refine Wk.eqz (id) (by first | exact fun i _ j _ e => e | (simp only [List.length_cons, List.length_nil]; decide)) ?_; cbv; (repeat' (first | exact trivial | rfl | assumption | apply And.intro | (simp only [hz, Z.a, binStd, cmpStd, unStd, scmpStd, maxI, reduceCtorEq]; first | done | assumption) | exact RowsZ.same (by assumption) (by first | assumption | rfl) | exact FzL.mk rfl rfl rfl (by assumption) (by first | assumption | rfl) (by decide) | (refine RowsZ.one ?_; cbv))))
      case hi => exact ⟨by decide, by decide⟩
      case ht => decide
    · have ce : wcmp .neq s2 0 = false := by rw [show s2 = 0 by rw [g2]; exact hnil 2 (by omega)]; exact c1 0
      refine InN.mk (by decide) (by decide) ?_
      cbv
      simp only [ce]
      cbv
      simp only [a5]
      refine hN2 3 _ _ ?hx ?hi ?ht
      case hx => (refine Wk.eqz (id) (by first | exact fun i _ j _ e => e | (simp only [List.length_cons, List.length_nil]; decide)) ?_; cbv; (repeat' (first | exact trivial | rfl | assumption | apply And.intro | (simp only [hz, Z.a, binStd, cmpStd, unStd, scmpStd, maxI, reduceCtorEq]; first | done | assumption) | exact RowsZ.same (by assumption) (by first | assumption | rfl) | exact FzL.mk rfl rfl rfl (by assumption) (by first | assumption | rfl) (by decide) | (refine RowsZ.one ?_; cbv))))
      case hi => exact ⟨by decide, by decide⟩
      case ht => decide
  · cbv
    have a5 : wbin .add .i64 3 1 = 4 := by rw [hbin]; rfl
    (split <;> rename_i hkn <;> (try (simp only [hz, Z.a, binStd, cmpStd, unStd, scmpStd, maxI, reduceCtorEq] at hkn)) <;> (try cbv))
    · have hc3 : xs[(3 : Int).toNat]? = some [.int .i64 s3] := by rw [g3]; exact hcell 3 (by omega)
      refine Idx.mk _ hi0 hqi ?_
      cbv
      refine Idx.mk _ (by decide) hc3 ?_
      cbv
      refine Idx.mk _ (by decide) hc3 ?_
      cbv
      simp only [c1]
      cbv
      refine InN.mk (by decide) (by decide) ?_
      cbv
      simp only [c1]
      cbv
      simp only [a5]
      refine hN2 4 _ _ ?hx ?hi ?ht
      case hx => (refine Wk.eqz (id) (by first | exact fun i _ j _ e => e | (simp only [List.length_cons, List.length_nil]; decide)) ?_; cbv; (repeat' (first | exact trivial | rfl | assumption | apply And.intro | (simp only [hz, Z.a, binStd, cmpStd, unStd, scmpStd, maxI, reduceCtorEq]; first | done | assumption) | exact RowsZ.same (by assumption) (by first | assumption | rfl) | exact FzL.mk rfl rfl rfl (by assumption) (by first | assumption | rfl) (by decide) | (refine RowsZ.one ?_; cbv))))
      case hi => exact ⟨by decide, by decide⟩
      case ht => decide
    · have ce : wcmp .neq s3 0 = false := by rw [show s3 = 0 by rw [g3]; exact hnil 3 (by omega)]; exact c1 0
      refine InN.mk (by decide) (by decide) ?_
      cbv
      simp only [ce]
      cbv
      simp only [a5]
      refine hN2 4 _ _ ?hx ?hi ?ht
      case hx => (refine Wk.eqz (id) (by first | exact fun i _ j _ e => e | (simp only [List.length_cons, List.length_nil]; decide)) ?_; cbv; (repeat' (first | exact trivial | rfl | assumption | apply And.intro | (simp only [hz, Z.a, binStd, cmpStd, unStd, scmpStd, maxI, reduceCtorEq]; first | done | assumption) | exact RowsZ.same (by assumption) (by first | assumption | rfl) | exact FzL.mk rfl rfl rfl (by assumption) (by first | assumption | rfl) (by decide) | (refine RowsZ.one ?_; cbv))))
      case hi => exact ⟨by decide, by decide⟩
      case ht => decide
  · cbv
    have a5 : wbin .add .i64 4 1 = 5 := by rw [hbin]; rfl
    (split <;> rename_i hkn <;> (try (simp only [hz, Z.a, binStd, cmpStd, unStd, scmpStd, maxI, reduceCtorEq] at hkn)) <;> (try cbv))
    · have hc4 : xs[(4 : Int).toNat]? = some [.int .i64 s4] := by rw [g4]; exact hcell 4 (by omega)
      refine Idx.mk _ hi0 hqi ?_
      cbv
      refine Idx.mk _ (by decide) hc4 ?_
      cbv
      refine Idx.mk _ (by decide) hc4 ?_
      cbv
      simp only [c1]
      cbv
      refine InN.mk (by decide) (by decide) ?_
      cbv
      simp only [c1]
      cbv
      simp only [a5]
      refine hN2 5 _ _ ?hx ?hi ?ht
      case hx => (refine Wk.eqz (id) (by first | exact fun i _ j _ e => e | (simp only [List.length_cons, List.length_nil]; decide)) ?_; cbv; (repeat' (first | exact trivial | rfl | assumption | apply And.intro | (simp only [hz, Z.a, binStd, cmpStd, unStd, scmpStd, maxI, reduceCtorEq]; first | done | assumption) | exact RowsZ.same (by assumption) (by first | assumption | rfl) | exact FzL.mk rfl rfl rfl (by assumption) (by first | assumption | rfl) (by decide) | (refine RowsZ.one ?_; cbv))))
      case hi => exact ⟨by decide, by decide⟩
      case ht => decide
    · have ce : wcmp .neq s4 0 = false := by rw [show s4 = 0 by rw [g4]; exact hnil 4 (by omega)]; exact c1 0
      refine InN.mk (by decide) (by decide) ?_
      cbv
      simp only [ce]
      cbv
      simp only [a5]
      refine hN2 5 _ _ ?hx ?hi ?ht
      case hx => (refine Wk.eqz (id) (by first | exact fun i _ j _ e => e | (simp only [List.length_cons, List.length_nil]; decide)) ?_; cbv; (repeat' (first | exact trivial | rfl | assumption | apply And.intro | (simp only [hz, Z.a, binStd, cmpStd, unStd, scmpStd, maxI, reduceCtorEq]; first | done | assumption) | exact RowsZ.same (by assumption) (by first | assumption | rfl) | exact FzL.mk rfl rfl rfl (by assumption) (by first | assumption | rfl) (by decide) | (refine RowsZ.one ?_; cbv))))
      case hi => exact ⟨by decide, by decide⟩
      case ht => decide
  · cbv
    have a5 : wbin .add .i64 5 1 = 6 := by rw [hbin]; rfl
    (split <;> rename_i hkn <;> (try (simp only [hz, Z.a, binStd, cmpStd, unStd, scmpStd, maxI, reduceCtorEq] at hkn)) <;> (try cbv))
    · have hc5 : xs[(5 : Int).toNat]? = some [.int .i64 s5] := by rw [g5]; exact hcell 5 (by omega)
      refine Idx.mk _ hi0 hqi ?_
      cbv
      refine Idx.mk _ (by decide) hc5 ?_
      cbv
      refine Idx.mk _ (by decide) hc5 ?_
      cbv
      simp only [c1]
      cbv
      refine InN.mk (by decide) (by decide) ?_
      cbv
      simp only [c1]
      cbv
      simp only [a5]
      refine hN2 6 _ _ ?hx ?hi ?ht
      case hx => (refine Wk.eqz (id) (by first | exact fun i _ j _ e => e | (simp only [List.length_cons, List.length_nil]; decide)) ?_; cbv; (repeat' (first | exact trivial | rfl | assumption | apply And.intro | (simp only [hz, Z.a, binStd, cmpStd, unStd, scmpStd, maxI, reduceCtorEq]; first | done | assumption) | exact RowsZ.same (by assumption) (by first | assumption | rfl) | exact FzL.mk rfl rfl rfl (by assumption) (by first | assumption | rfl) (by decide) | (refine RowsZ.one ?_; cbv))))
      case hi => exact ⟨by decide, by decide⟩
      case ht => decide
    · have ce : wcmp .neq s5 0 = false := by rw [show s5 = 0 by rw [g5]; exact hnil 5 (by omega)]; exact c1 0
      refine InN.mk (by decide) (by decide) ?_
      cbv
      simp only [ce]
      cbv
      simp only [a5]
      refine hN2 6 _ _ ?hx ?hi ?ht
      case hx => (refine Wk.eqz (id) (by first | exact fun i _ j _ e => e | (simp only [List.length_cons, List.length_nil]; decide)) ?_; cbv; (repeat' (first | exact trivial | rfl | assumption | apply And.intro | (simp only [hz, Z.a, binStd, cmpStd, unStd, scmpStd, maxI, reduceCtorEq]; first | done | assumption) | exact RowsZ.same (by assumption) (by first | assumption | rfl) | exact FzL.mk rfl rfl rfl (by assumption) (by first | assumption | rfl) (by decide) | (refine RowsZ.one ?_; cbv))))
      case hi => exact ⟨by decide, by decide⟩
      case ht => decide
  · cbv
    have a5 : wbin .add .i64 6 1 = 7 := by rw [hbin]; rfl
    (split <;> rename_i hkn <;> (try (simp only [hz, Z.a, binStd, cmpStd, unStd, scmpStd, maxI, reduceCtorEq] at hkn)) <;> (try cbv))
    · have hc6 : xs[(6 : Int).toNat]? = some [.int .i64 s6] := by rw [g6]; exact hcell 6 (by omega)
      refine Idx.mk _ hi0 hqi ?_
      cbv
      refine Idx.mk _ (by decide) hc6 ?_
      cbv
      refine Idx.mk _ (by decide) hc6 ?_
      cbv
      simp only [c1]
      cbv
      refine InN.mk (by decide) (by decide) ?_
      cbv
      simp only [c1]
      cbv
      simp only [a5]
      refine hN2 7 _ _ ?hx ?hi ?ht
      case hx => (refine Wk.eqz (id) (by first | exact fun i _ j _ e => e | (simp only [List.length_cons, List.length_nil]; decide)) ?_; cbv; (repeat' (first | exact trivial | rfl | assumption | apply And.intro | (simp only [hz, Z.a, binStd, cmpStd, unStd, scmpStd, maxI, reduceCtorEq]; first | done | assumption) | exact RowsZ.same (by assumption) (by first | assumption | rfl) | exact FzL.mk rfl rfl rfl (by assumption) (by first | assumption | rfl) (by decide) | (refine RowsZ.one ?_; cbv))))
      case hi => exact ⟨by decide, by decide⟩
      case ht => decide
    · have ce : wcmp .neq s6 0 = false := by rw [show s6 = 0 by rw [g6]; exact hnil 6 (by omega)]; exact c1 0
      refine InN.mk (by decide) (by decide) ?_
      cbv
      simp only [ce]
      cbv
      simp only [a5]
      refine hN2 7 _ _ ?hx ?hi ?ht
      case hx => (refine Wk.eqz (id) (by first | exact fun i _ j _ e => e | (simp only [List.length_cons, List.length_nil]; decide)) ?_; cbv; (repeat' (first | exact trivial | rfl | assumption | apply And.intro | (simp only [hz, Z.a, binStd, cmpStd, unStd, scmpStd, maxI, reduceCtorEq]; first | done | assumption) | exact RowsZ.same (by assumption) (by first | assumption | rfl) | exact FzL.mk rfl rfl rfl (by assumption) (by first | assumption | rfl) (by decide) | (refine RowsZ.one ?_; cbv))))
      case hi => exact ⟨by decide, by decide⟩
      case ht => decide
  · cbv
    have a5 : wbin .add .i64 7 1 = 8 := by rw [hbin]; rfl
    (split <;> rename_i hkn <;> (try (simp only [hz, Z.a, binStd, cmpStd, unStd, scmpStd, maxI, reduceCtorEq] at hkn)) <;> (try cbv))
    · have hc7 : xs[(7 : Int).toNat]? = some [.int .i64 s7] := by rw [g7]; exact hcell 7 (by omega)
      refine Idx.mk _ hi0 hqi ?_
      cbv
      refine Idx.mk _ (by decide) hc7 ?_
      cbv
      refine Idx.mk _ (by decide) hc7 ?_
      cbv
      simp only [c1]
      cbv
      refine InN.mk (by decide) (by decide) ?_
      cbv
      simp only [c1]
      cbv
      simp only [a5]
      refine hN2 8 _ _ ?hx ?hi ?ht
      case hx => (refine Wk.eqz (id) (by first | exact fun i _ j _ e => e | (simp only [List.length_cons, List.length_nil]; decide)) ?_; cbv; (repeat' (first | exact trivial | rfl | assumption | apply And.intro | (simp only [hz, Z.a, binStd, cmpStd, unStd, scmpStd, maxI, reduceCtorEq]; first | done | assumption) | exact RowsZ.same (by assumption) (by first | assumption | rfl) | exact FzL.mk rfl rfl rfl (by assumption) (by first | assumption | rfl) (by decide) | (refine RowsZ.one ?_; cbv))))
      case hi => exact ⟨by decide, by decide⟩
      case ht => decide
    · have ce : wcmp .neq s7 0 = false := by rw [show s7 = 0 by rw [g7]; exact hnil 7 (by omega)]; exact c1 0
      refine InN.mk (by decide) (by decide) ?_
      cbv
      simp only [ce]
      cbv
      simp only [a5]
      refine hN2 8 _ _ ?hx ?hi ?ht
      case hx => (refine Wk.eqz (id) (by first | exact fun i _ j _ e => e | (simp only [List.length_cons, List.length_nil]; decide)) ?_; cbv; (repeat' (first | exact trivial | rfl | assumption | apply And.intro | (simp only [hz, Z.a, binStd, cmpStd, unStd, scmpStd, maxI, reduceCtorEq]; first | done | assumption) | exact RowsZ.same (by assumption) (by first | assumption | rfl) | exact FzL.mk rfl rfl rfl (by assumption) (by first | assumption | rfl) (by decide) | (refine RowsZ.one ?_; cbv))))
      case hi => exact ⟨by decide, by decide⟩
      case ht => decide
  · cbv
    have a5 : wbin .add .i64 8 1 = 9 := by rw [hbin]; rfl
    (split <;> rename_i hkn <;> (try (simp only [hz, Z.a, binStd, cmpStd, unStd, scmpStd, maxI, reduceCtorEq] at hkn)) <;> (try cbv))
    · have hc8 : xs[(8 : Int).toNat]? = some [.int .i64 s8] := by rw [g8]; exact hcell 8 (by omega)
      refine Idx.mk _ hi0 hqi ?_
      cbv
      refine Idx.mk _ (by decide) hc8 ?_
      cbv
      refine Idx.mk _ (by decide) hc8 ?_
      cbv
      simp only [c1]
      cbv
      refine InN.mk (by decide) (by decide) ?_
      cbv
      simp only [c1]
      cbv
      simp only [a5]
      refine hN2 9 _ _ ?hx ?hi ?ht
      case hx => (refine Wk.eqz (id) (by first | exact fun i _ j _ e => e | (simp only [List.length_cons, List.length_nil]; decide)) ?_; cbv; (repeat' (first | exact trivial | rfl | assumption | apply And.intro | (simp only [hz, Z.a, binStd, cmpStd, unStd, scmpStd, maxI, reduceCtorEq]; first | done | assumption) | exact RowsZ.same (by assumption) (by first | assumption | rfl) | exact FzL.mk rfl rfl rfl (by assumption) (by first | assumption | rfl) (by decide) | (refine RowsZ.one ?_; cbv))))
      case hi => exact ⟨by decide, by decide⟩
      case ht => decide
    · have ce : wcmp .neq s8 0 = false := by rw [show s8 = 0 by rw [g8]; exact hnil 8 (by omega)]; exact c1 0
      refine InN.mk (by decide) (by decide) ?_
      cbv
      simp only [ce]
      cbv
      simp only [a5]
      refine hN2 9 _ _ ?hx ?hi ?ht
      case hx => (refine Wk.eqz (id) (by first | exact fun i _ j _ e => e | (simp only [List.length_cons, List.length_nil]; decide)) ?_; cbv; (repeat' (first | exact trivial | rfl | assumption | apply And.intro | (simp only [hz, Z.a, binStd, cmpStd, unStd, scmpStd, maxI, reduceCtorEq]; first | done | assumption) | exact RowsZ.same (by assumption) (by first | assumption | rfl) | exact FzL.mk rfl rfl rfl (by assumption) (by first | assumption | rfl) (by decide) | (refine RowsZ.one ?_; cbv))))
      case hi => exact ⟨by decide, by decide⟩
      case ht => decide
  · cbv
    have a5 : wbin .add .i64 9 1 = 10 := by rw [hbin]; rfl
    (split <;> rename_i hkn <;> (try (simp only [hz, Z.a, binStd, cmpStd, unStd, scmpStd, maxI, reduceCtorEq] at hkn)) <;> (try cbv))
    · have hc9 : xs[(9 : Int).toNat]? = some [.int .i64 s9] := by rw [g9]; exact hcell 9 (by omega)
      refine Idx.mk _ hi0 hqi ?_
      cbv
      refine Idx.mk _ (by decide) hc9 ?_
      cbv
      refine Idx.mk _ (by decide) hc9 ?_
      cbv
      simp only [c1]
      cbv
      refine InN.mk (by decide) (by decide) ?_
      cbv
      simp only [c1]
      cbv
      simp only [a5]
      refine hN2 10 _ _ ?hx ?hi ?ht
      case hx => (refine Wk.eqz (id) (by first | exact fun i _ j _ e => e | (simp only [List.length_cons, List.length_nil]; decide)) ?_; cbv; (repeat' (first | exact trivial | rfl | assumption | apply And.intro | (simp only [hz, Z.a, binStd, cmpStd, unStd, scmpStd, maxI, reduceCtorEq]; first | done | assumption) | exact RowsZ.same (by assumption) (by first | assumption | rfl) | exact FzL.mk rfl rfl rfl (by assumption) (by first | assumption | rfl) (by decide) | (refine RowsZ.one ?_; cbv))))
      case hi => exact ⟨by decide, by decide⟩
      case ht => decide
    · have ce : wcmp .neq s9 0 = false := by rw [show s9 = 0 by rw [g9]; exact hnil 9 (by omega)]; exact c1 0
      refine InN.mk (by decide) (by decide) ?_
      cbv
      simp only [ce]
      cbv
      simp only [a5]
      refine hN2 10 _ _ ?hx ?hi ?ht
      case hx => (refine Wk.eqz (id) (by first | exact fun i _ j _ e => e | (simp only [List.length_cons, List.length_nil]; decide)) ?_; cbv; (repeat' (first | exact trivial | rfl | assumption | apply And.intro | (simp only [hz, Z.a, binStd, cmpStd, unStd, scmpStd, maxI, reduceCtorEq]; first | done | assumption) | exact RowsZ.same (by assumption) (by first | assumption | rfl) | exact FzL.mk rfl rfl rfl (by assumption) (by first | assumption | rfl) (by decide) | (refine RowsZ.one ?_; cbv))))
      case hi => exact ⟨by decide, by decide⟩
      case ht => decide
  · cbv
    have a5 : wbin .add .i64 10 1 = 11 := by rw [hbin]; rfl
    (split <;> rename_i hkn <;> (try (simp only [hz, Z.a, binStd, cmpStd, unStd, scmpStd, maxI, reduceCtorEq] at hkn)) <;> (try cbv))
    · have hc10 : xs[(10 : Int).toNat]? = some [.int .i64 s10] := by rw [g10]; exact hcell 10 (by omega)
      refine Idx.mk _ hi0 hqi ?_
      cbv
      refine Idx.mk _ (by decide) hc10 ?_
      cbv
      refine Idx.mk _ (by decide) hc10 ?_
      cbv
      simp only [c1]
      cbv
      refine InN.mk (by decide) (by decide) ?_
      cbv
      simp only [c1]
      cbv
      simp only [a5]
      refine hN2 11 _ _ ?hx ?hi ?ht
      case hx => (refine Wk.eqz (id) (by first | exact fun i _ j _ e => e | (simp only [List.length_cons, List.length_nil]; decide)) ?_; cbv; (repeat' (first | exact trivial | rfl | assumption | apply And.intro | (simp only [hz, Z.a, binStd, cmpStd, unStd, scmpStd, maxI, reduceCtorEq]; first | done | assumption) | exact RowsZ.same (by assumption) (by first | assumption | rfl) | exact FzL.mk rfl rfl rfl (by assumption) (by first | assumption | rfl) (by decide) | (refine RowsZ.one ?_; cbv))))
      case hi => exact ⟨by decide, by decide⟩
      case ht => decide
    · have ce : wcmp .neq s10 0 = false := by rw [show s10 = 0 by rw [g10]; exact hnil 10 (by omega)]; exact c1 0
      refine InN.mk (by decide) (by decide) ?_
      cbv
      simp only [ce]
      cbv
      simp only [a5]
      refine hN2 11 _ _ ?hx ?hi ?ht
      case hx => (refine Wk.eqz (id) (by first | exact fun i _ j _ e => e | (simp only [List.length_cons, List.length_nil]; decide)) ?_; cbv; (repeat' (first | exact trivial | rfl | assumption | apply And.intro | (simp only [hz, Z.a, binStd, cmpStd, unStd, scmpStd, maxI, reduceCtorEq]; first | done | assumption) | exact RowsZ.same (by assumption) (by first | assumption | rfl) | exact FzL.mk rfl rfl rfl (by assumption) (by first | assumption | rfl) (by decide) | (refine RowsZ.one ?_; cbv))))
      case hi => exact ⟨by decide, by decide⟩
      case ht => decide
  · cbv
    have a5 : wbin .add .i64 11 1 = 12 := by rw [hbin]; rfl
    (split <;> rename_i hkn <;> (try (simp only [hz, Z.a, binStd, cmpStd, unStd, scmpStd, maxI, reduceCtorEq] at hkn)) <;> (try cbv))
    · have hc11 : xs[(11 : Int).toNat]? = some [.int .i64 s11] := by rw [g11]; exact hcell 11 (by omega)
      refine Idx.mk _ hi0 hqi ?_
      cbv
      refine Idx.mk _ (by decide) hc11 ?_
      cbv
      refine Idx.mk _ (by decide) hc11 ?_
      cbv
      simp only [c1]
      cbv
      refine InN.mk (by decide) (by decide) ?_
      cbv
      simp only [c1]
      cbv
      simp only [a5]
      refine hN2 12 _ _ ?hx ?hi ?ht
      case hx => (refine Wk.eqz (id) (by first | exact fun i _ j _ e => e | (simp only [List.length_cons, List.length_nil]; decide)) ?_; cbv; (repeat' (first | exact trivial | rfl | assumption | apply And.intro | (simp only [hz, Z.a, binStd, cmpStd, unStd, scmpStd, maxI, reduceCtorEq]; first | done | assumption) | exact RowsZ.same (by assumption) (by first | assumption | rfl) | exact FzL.mk rfl rfl rfl (by assumption) (by first | assumption | rfl) (by decide) | (refine RowsZ.one ?_; cbv))))
      case hi => exact ⟨by decide, by decide⟩
      case ht => decide
    · have ce : wcmp .neq s11 0 = false := by rw [show s11 = 0 by rw [g11]; exact hnil 11 (by omega)]; exact c1 0
      refine InN.mk (by decide) (by decide) ?_
      cbv
      simp only [ce]
      cbv
      simp only [a5]
      refine hN2 12 _ _ ?hx ?hi ?ht
      case hx => (refine Wk.eqz (id) (by first | exact fun i _ j _ e => e | (simp only [List.length_cons, List.length_nil]; decide)) ?_; cbv; (repeat' (first | exact trivial | rfl | assumption | apply And.intro | (simp only [hz, Z.a, binStd, cmpStd, unStd, scmpStd, maxI, reduceCtorEq]; first | done | assumption) | exact RowsZ.same (by assumption) (by first | assumption | rfl) | exact FzL.mk rfl rfl rfl (by assumption) (by first | assumption | rfl) (by decide) | (refine RowsZ.one ?_; cbv))))
      case hi => exact ⟨by decide, by decide⟩
      case ht => decide
end Go.Proofs.Ytpiocfmdjgbamaa

/- odographlaw14.steps. -/
namespace Go.Proofs.Ytpiocfmdjgbamaa
open Go Go.RowKit Go.Eng
set_option maxRecDepth 100000
def plRow (p : Int × Int) : List AV := [.int .i64 p.1, .int .i64 p.2]
theorem up_pl (ps : List (Int × Int)) : Up0 (ps.map plRow) := up_map (f := plRow) (fun d => rfl) ps
def stepW (ss : List Sg) (from_ : Int) (m : List (List Int)) (p : Int × Int) : List (List Int) := if (growA ss p.1 p.2 from_ m).2 = 0 then (growA ss p.1 p.2 from_ m).1.2 else m
theorem growA_e {ss : List Sg} {lo hi from_ : Int} {ls : List (List Int)} {v1 v3 : Int} {v2 : List (List Int)} (h : ((v1, v2), v3) = growA ss lo hi from_ ls) : v3 = 0 ∨ v3 = 13 ∨ v3 = 40 := by
  have he := growS_e (ss := ss) (lo := lo) (hi := hi) (from_ := from_) ls
  unfold growA at h
  split at h
  · simp only [Prod.mk.injEq] at h; exact .inr (.inr h.2)
  · split at h
    · simp only [Prod.mk.injEq] at h; rw [h.2]; exact he.imp id .inl
    · split at h
      · simp only [Prod.mk.injEq] at h; exact .inr (.inr h.2)
      · simp only [Prod.mk.injEq] at h; exact .inl h.2
set_option maxHeartbeats 2000000 in
theorem e_steps (ss : List Sg) (gs : List Gr) (es ds : List (List AV)) (hes : es = ss.map sgRow) (hds : ds = gs.map grRow) (sg from_ : Int) (hM : May14 ss gs sg from_) (ps : List (Int × Int)) (hps : ps.length ≤ 1000) (pl : List (List AV)) (hpl : pl = ps.map plRow) (m : List (List Int)) (hm : m = ps.foldl (stepW ss from_) [[sg]]) :
    PCalls Try.prog 14 [.agg [.list 3 es, .list 5 ds], .int .i64 sg, .int .i64 from_, .list 2 pl] (· = .tuple [.agg [.int .i64 from_, .list 13 (m.map rtC)], .agg [.int .i64 from_, .list 1 (m.map rtRow)], .bool true]) := by
  have hu : Up0 es := by rw [hes]; exact up_sg ss
  have hud : Up0 ds := by rw [hds]; exact up_gr gs
  have hup : Up0 pl := by rw [hpl]; exact up_pl ps
  have hpll : pl.length = ps.length := by rw [hpl]; simp
  have hnx := hM.tr.nextOk
  have hln := hM.tr.lensOk
  obtain ⟨r0, er0⟩ : ∃ r : List (List AV), r = [rtC [sg]] := ⟨_, rfl⟩
  obtain ⟨q0, eq0⟩ : ∃ r : List (List AV), r = [rtRow [sg]] := ⟨_, rfl⟩
  have hbeg := e_begin sg from_ sg rfl
  have hbeg : PCalls Try.prog 18 [.int .i64 sg, .int .i64 from_] (· = .agg [.int .i64 from_, .list 13 r0]) := by rw [er0]; exact hbeg
  have hur0 : Up0 r0 := by rw [er0]; exact ⟨rfl⟩
  have huq0 : Up0 q0 := by rw [eq0]; exact ⟨rfl⟩
  obtain ⟨ra, era⟩ : ∃ x, x = m.map rtC := ⟨_, rfl⟩
  obtain ⟨rq, erq⟩ : ∃ x, x = m.map rtRow := ⟨_, rfl⟩
  rw [← era, ← erq]
  have hway : ∀ l, l ∈ [[sg]] → WayOk ss l := fun l hl => by
    simp at hl; subst hl
    exact ⟨by simp, fun n hn => by simp at hn; subst hn; exact hM.seg⟩
  have hsame := e_same14 from_ [[sg]] (fun l hl => (hway l hl).len.1) (by simp) r0 q0 er0 eq0
  have hus : ∀ (x y : List (List AV)), Up0 x → Up0 y → uptoL 0 [AV.agg [.int .i64 from_, .list 13 x], .agg [.int .i64 from_, .list 1 y]] = true := fun x y hx hy => by simp only [uptoL, AV.upto, hx.get, hy.get]; rfl
  (refine PCalls.ofY Try.func14 (by kernel_rfl) (by kernel_rfl) fun w hw R hR => ?_); (obtain ⟨wbin, wcmp, wun, wconv, wnot, wbeq, wmm, wscmp, wsadd, wslen, wsat, weqs, wlen, wnlen, wofNat, wtake, wdrop, wapp, wzero, wnat⟩ := w); (have hbin := Z.w1 hw); (have hcmp := Z.w2 hw); (have hun := Z.w3 hw); (have hconv := Z.w4 hw); (have hnot := Z.w5 hw); (have hbeq := Z.w6 hw); (have hmm := Z.w7 hw); (have hscmp := Z.w8 hw); (have hsadd := Z.w9 hw); (have hslen := Z.w10 hw); (have hsat := Z.w11 hw); (have heqs := Z.w12 hw); (have hlen := Z.w13 hw); (have hnlen := Z.w14 hw); (have hofNat := Z.w15 hw); (have htake := Z.w16 hw); (have hdrop := Z.w17 hw); (have happ := Z.w18 hw); (have hzero := Z.w19 hw); (have hnat := Z.w20 hw); (have hz := Z.z hw); (conv => arg 2; cbv); (generalize hP : Try.prog = P); cbv
  have eq1 : q0 = [[.list 1 [[.int .i64 sg]]]] := eq0
  refine Call.stepE (by rw [← hP]; exact hbeg) rfl ?_
  cbv
  rw [← eq1]
  refine Call.stepE (by rw [← hP]; exact hsame) (by exact hus _ _ hur0 huq0) ?_
  cbv
  have n1 : wnot true = false := by rw [hnot]; rfl
  simp only [n1]
  cbv
  (obtain ⟨L, eL, L0, Ln⟩ : ∃ L : Int, wlen pl = L ∧ 0 ≤ L ∧ L.toNat = pl.length := ⟨(pl.length : Int), by rw [hlen], Int.natCast_nonneg _, Int.toNat_natCast _⟩)
  simp only [eL]
  refine Loop.data hw (S := Int × List (List Int) × List (List AV) × List (List AV)) (fun s => fr 89 [(4, .ref 0 2 0 0), (8, .ref 1 2 0 0), (9, .ref 2 2 0 0), (11, .ref 3 2 0 0), (12, .ref 4 2 0 0), (33, .list 2 pl), (34, .int .i64 L), (35, .int .i64 s.1)])
    (fun s => [.live 2 [[.list 3 es, .list 5 ds]], .live 2 [[.int .i64 0, .nils]], .live 2 [[.int .i64 0, .nils]], .live 2 [[.int .i64 from_, .list 13 s.2.2.1]], .live 2 [[.int .i64 from_, .list 1 s.2.2.2]]])
    (fun s => 0 ≤ s.1 ∧ s.1 ≤ L ∧ s.2.1 = (ps.take s.1.toNat).foldl (stepW ss from_) [[sg]] ∧ s.2.2.1 = s.2.1.map rtC ∧ s.2.2.2 = s.2.1.map rtRow ∧ Up0 s.2.2.1 ∧ Up0 s.2.2.2 ∧ (∀ l, l ∈ s.2.1 → WayOk ss l) ∧ s.2.1.length ≤ 16) (fun s => (L - s.1).toNat) (0, [[sg]], r0, q0) (by (refine Wk.eqz (id) (by first | exact fun i _ j _ e => e | (simp only [List.length_cons, List.length_nil]; decide)) ?_; cbv; (repeat' (first | exact trivial | rfl | assumption | apply And.intro | (simp only [hz, Z.a, binStd, cmpStd, unStd, scmpStd, maxI, reduceCtorEq]; first | done | assumption) | exact RowsZ.same (by assumption) (by first | assumption | rfl) | exact FzL.mk rfl rfl rfl (by assumption) (by first | assumption | rfl) (by decide) | (refine RowsZ.one ?_; cbv))))) ⟨Int.le_refl _, L0, rfl, er0, eq0, hur0, huq0, hway, by simp⟩ ?_
  rintro ⟨i, m1, ra1, rq1⟩ hinv Q' hN hE hR'
  have hinv : 0 ≤ i ∧ i ≤ L ∧ m1 = (ps.take i.toNat).foldl (stepW ss from_) [[sg]] ∧ ra1 = m1.map rtC ∧ rq1 = m1.map rtRow ∧ Up0 ra1 ∧ Up0 rq1 ∧ (∀ l, l ∈ m1 → WayOk ss l) ∧ m1.length ≤ 16 := hinv
  cbv
  obtain ⟨hi0, hi1, hmf, hra1, hrq1, hura, hurq, hw1, hl16⟩ := hinv
  (split <;> rename_i hc <;> (try (simp only [hz, Z.a, binStd, cmpStd, unStd, scmpStd, maxI, reduceCtorEq] at hc)) <;> (try cbv))
  rotate_left 1
  · refine hE _ _ _ ?_
    cbv
    have hmm1 : m1 = m := by rw [hm, hmf, List.take_of_length_le (by omega)]
    rw [hmm1] at hra1 hrq1
    have e1 : ra = ra1 := by rw [era, hra1]
    have e2 : rq = rq1 := by rw [erq, hrq1]
    have hfin : ∀ h : AHeap, Ret [.agg [.int .i64 from_, .list 13 ra1], .agg [.int .i64 from_, .list 1 rq1], .bool true] h R := fun h =>
      ⟨_, Vw.same (by simp only [retOne, AV.upto, uptoL, hura.get, hurq.get]; rfl), hR _ (by rw [e1, e2]; rfl)⟩
    repeat' (refine And.intro ?_ ?_)
    all_goals exact hfin _
  obtain ⟨⟨lo, hi⟩, hp⟩ : ∃ p, ps[i.toNat]? = some p := ⟨_, List.getElem?_eq_getElem (show i.toNat < ps.length by omega)⟩
  have hpi : pl[i.toNat]? = some [.int .i64 lo, .int .i64 hi] := by rw [hpl, List.getElem?_map, hp]; rfl
  obtain ⟨i2, ei2⟩ : ∃ z, z = i + 1 := ⟨_, rfl⟩
  have a4 : wbin .add .i64 i 1 = i2 := by rw [hbin, ei2]; show IntKind.i64.wrap (i + 1) = i + 1; rw [IntKind.wrap_i64]; omega
  obtain ⟨v, ev⟩ : ∃ v, v = growA ss lo hi from_ m1 := ⟨_, rfl⟩
  have hstep : (ps.take i2.toNat).foldl (stepW ss from_) [[sg]] = (if v.2 = 0 then v.1.2 else m1) := by
    rw [ei2, take_next hi0 hp, List.foldl_append, ← hmf, ev]; rfl
  have hA := e_grows ss gs es ds hes hds hln hnx lo hi from_ hM.fr m1 hw1 (by omega) ra1 hra1 v ev
  have hB := e_rgrow ss gs es ds hes hds hln hnx lo hi from_ hM.fr m1 hw1 (by omega) rq1 hrq1 v (by rw [ev, growA_eq hnx m1 hw1])
  have hcase := growA_ok hnx m1 hw1 ev
  obtain ⟨⟨v1, v2⟩, v3⟩ := v
  obtain ⟨us, eus⟩ : ∃ x, x = v2.map rtC := ⟨_, rfl⟩
  obtain ⟨ys, eys⟩ : ∃ x, x = v2.map rtRow := ⟨_, rfl⟩
  have hA : PCalls Try.prog 19 [.agg [.int .i64 from_, .list 13 ra1], .agg [.list 3 es, .list 5 ds], .agg [.int .i64 lo, .int .i64 hi]] (· = .tuple [.agg [.int .i64 v1, .list 13 us], .int .i64 v3]) := by rw [eus]; exact hA
  have hB : PCalls Try.prog 37 [.agg [.list 3 es, .list 5 ds], .agg [.int .i64 from_, .list 1 rq1], .int .i64 lo, .int .i64 hi] (· = .tuple [.agg [.int .i64 v1, .list 1 ys], .int .i64 v3]) := by rw [eys]; exact hB
  have hugA : uptoL 0 [AV.agg [.int .i64 from_, .list 13 ra1], .agg [.list 3 es, .list 5 ds], .agg [.int .i64 lo, .int .i64 hi]] = true := by simp only [uptoL, AV.upto, hu.get, hud.get, hura.get]; rfl
  have hugB : uptoL 0 [AV.agg [.list 3 es, .list 5 ds], .agg [.int .i64 from_, .list 1 rq1], .int .i64 lo, .int .i64 hi] = true := by simp only [uptoL, AV.upto, hu.get, hud.get, hurq.get]; rfl
  have hut : uptoL 0 [AV.agg [.list 3 es, .list 5 ds]] = true := Bool.and_eq_true_iff.mpr ⟨Up0.one hu (Up0.one hud rfl), rfl⟩
  have href := e_refsT14 ss gs es ds hes hds (by have := hM.n300; omega) (by have := hM.g500; omega) hM.ps
  refine Idx.mk _ hi0 hpi ?_
  cbv
  refine Call.stepE (by rw [← hP]; exact hA) (by exact hugA) ?_
  cbv
  refine QCal.stepE (by rw [← hP]; exact href) (by exact hut) ?_
  cbv
  refine QCal.stepE (by rw [← hP]; exact hB) (by exact hugB) ?_
  cbv
  have c1 : ∀ x, wcmp .neq x x = false := fun x => by rw [hcmp]; simp [cmpStd]
  have c2 : wconv .i64 v3 = v3 := by
    rw [hconv]; show IntKind.i64.wrap v3 = v3
    have : v3 = 0 ∨ v3 = 13 ∨ v3 = 40 := growA_e ev
    rw [IntKind.wrap_i64]; omega
  simp only [c1, c2]
  cbv
  have huus : Up0 us := by rw [eus]; exact up_map (f := rtC) (fun d => rfl) v2
  have huys : Up0 ys := by rw [eys]; exact up_rt v2
  (split <;> rename_i h5 <;> (try (simp only [hz, Z.a, binStd, cmpStd, unStd, scmpStd, maxI, reduceCtorEq] at h5)) <;> (try cbv))
  · have hv2 : v2 = [] := by
      rcases hcase with h | h
      · exact h.2
      · exact absurd h.1 h5
    (obtain ⟨H, eH, H0, Hn⟩ : ∃ L : Int, wlen us = L ∧ 0 ≤ L ∧ L.toNat = us.length := ⟨(us.length : Int), by rw [hlen], Int.natCast_nonneg _, Int.toNat_natCast _⟩)
    have hH : H = 0 := by
      have : us.length = 0 := by rw [eus, hv2]; rfl
      omega
    have c4 : wcmp .eql v3 0 = false := by rw [hcmp]; simp only [cmpStd]; rw [beq_eq_false_iff_ne]; exact h5
    simp only [eH, hH, c1]
    cbv
    simp only [c4]
    cbv
    simp only [c4]
    cbv
    simp only [a4]
    refine hN (i2, m1, ra1, rq1) _ _ ?hx ?hi ?ht
    case hx => (refine Wk.eqz (id) (by first | exact fun i _ j _ e => e | (simp only [List.length_cons, List.length_nil]; decide)) ?_; cbv; (repeat' (first | exact trivial | rfl | assumption | apply And.intro | (simp only [hz, Z.a, binStd, cmpStd, unStd, scmpStd, maxI, reduceCtorEq]; first | done | assumption) | exact RowsZ.same (by assumption) (by first | assumption | rfl) | exact FzL.mk rfl rfl rfl (by assumption) (by first | assumption | rfl) (by decide) | (refine RowsZ.one ?_; cbv))))
    case hi => exact ⟨by first | omega | (simp only; omega), by first | omega | (simp only; omega), by rw [hstep]; exact (if_neg h5).symm, hra1, hrq1, hura, hurq, hw1, hl16⟩
    case ht => show (L - i2).toNat < (L - i).toNat; omega
  · have hG : v1 = from_ ∧ Grown ss lo hi from_ v2 := by
      rcases hcase with h | h
      · exact absurd h5 h.1
      · exact ⟨h.2.1, h.2.2⟩
    obtain ⟨rfl, hG⟩ := hG
    have hw2 : ∀ l, l ∈ v2 → WayOk ss l := fun l hl => (hG.ways l hl).1
    have hsm := e_same14 v1 v2 (fun l hl => (hw2 l hl).len.1) (by have := hG.few; omega) us ys eus eys
    have c4 : wcmp .eql v3 0 = true := by rw [hcmp]; simp only [cmpStd]; rw [beq_iff_eq]; exact h5
    simp only [c4]
    cbv
    refine Call.stepE (by rw [← hP]; exact hsm) (by exact hus _ _ huus huys) ?_
    cbv
    simp only [n1]
    cbv
    simp only [c4]
    cbv
    repeat' (refine And.intro ?_ ?_)
    all_goals
      simp only [a4]
      refine hN (i2, v2, us, ys) _ _ ?hx ?hi ?ht
      case hx => (refine Wk.eqz (id) (by first | exact fun i _ j _ e => e | (simp only [List.length_cons, List.length_nil]; decide)) ?_; cbv; (repeat' (first | exact trivial | rfl | assumption | apply And.intro | (simp only [hz, Z.a, binStd, cmpStd, unStd, scmpStd, maxI, reduceCtorEq]; first | done | assumption) | exact RowsZ.same (by assumption) (by first | assumption | rfl) | exact FzL.mk rfl rfl rfl (by assumption) (by first | assumption | rfl) (by decide) | (refine RowsZ.one ?_; cbv))))
      case hi => exact ⟨by first | omega | (simp only; omega), by first | omega | (simp only; omega), by rw [hstep]; exact (if_pos h5).symm, eus, eys, huus, huys, hw2, hG.few⟩
      case ht => show (L - i2).toNat < (L - i).toNat; omega
end Go.Proofs.Ytpiocfmdjgbamaa

