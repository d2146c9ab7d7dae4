/- VoteCounts: the walk, by the engine. -/
import Derived.Test.YtkkjdodolnpfmaaUse7
import Derived.Test.YtkkjdodolnpfmaaUse3
import Derived.Test.YtkkjdodolnpfmaaVoteBy
import Derived.Test.YtkkjdodolnpfmaaEng23
import Derived.KernelRfl
set_option linter.unusedVariables false
set_option linter.unusedSimpArgs false
namespace Go.Proofs.Ytkkjdodolnpfmaa
open Go Go.RowKit Go.Eng
set_option maxRecDepth 100000
theorem gtr0 {ps : List (Int × Int)} (hp : 0 < ps.length) : std.2 .gtr (std.13 (spRows ps)) 0 = true := by
  show decide (0 < ((spRows ps).length : Int)) = true
  rw [len_spRows]; simpa using hp
theorem max1 {ps : List (Int × Int)} (hp : 0 < ps.length) : std.7 true (std.13 (spRows ps)) 1 = ps.length := by
  show maxI true ((spRows ps).length : Int) 1 = _
  rw [len_spRows]; simp only [maxI, if_true]; split <;> omega
theorem all_law0 {ps : List (Int × Int)} {lo hi l h m : Int} {f f1 g1 : Bool} (hm : 0 < ps.length → m = ps.length) (ht : CommonIs (aOf ps) (bOf ps) ps.length lo hi f) (h1 : BestIs (LoOk ps m) (aOf ps) (· ≤ ·) ps.length l f1) (h2 : BestIs (HiOk ps m) (bOf ps) (· ≥ ·) ps.length h g1) :
    ((f1 && g1) = false ∧ f = false ∧ lo = 0 ∧ hi = 0) ∨ ((f1 && g1) = true ∧ 0 < ps.length ∧ f = true ∧ lo = l ∧ hi = h) := by
  by_cases hp : 0 < ps.length
  · rcases all_law (hm hp) hp ht h1 h2 with x | ⟨x1, x2⟩
    · exact .inl x
    · exact .inr ⟨x1, hp, x2⟩
  · have hf : f = false := by
      cases f with
      | false => rfl
      | true => obtain ⟨_, ⟨k, hk, _⟩, _⟩ := ht.yes rfl; omega
    have hf1 : f1 = false := by
      cases f1 with
      | false => rfl
      | true => obtain ⟨⟨k, hk, _⟩, _⟩ := h1.yes rfl; omega
    obtain ⟨y1, y2, _⟩ := ht.no hf
    exact .inl ⟨by rw [hf1]; rfl, hf, y1, y2⟩
theorem len_ok {ps : List (Int × Int)} (h : ((spRows ps).length : Int) ≤ 40) : ps.length ≤ 1000 := by rw [len_spRows] at h; omega
theorem walk_law (ps : List (Int × Int)) (es : List (List AV)) (hes : es = spRows ps) : PCalls Try.prog 10 [.list 2 es] (fun r => r = .bool true) := by
  have hu : (AV.list 2 es).upto 0 = true := by subst hes; exact up_spRows ps
  (refine PCalls.ofX Try.func10 (by kernel_rfl) (by kernel_rfl) fun w hw R hR => ?_); (conv => arg 2; cbv); (generalize hP : Try.prog = P); cbv
  refine Call.step (by rw [← hP]; exact e_anchor05) rfl ?_
  rintro r rfl
  cbv
  split <;> rename_i h <;> rw [hw] at h <;> simp only [std, binStd, cmpStd, unStd, scmpStd, maxI, Bool.not_eq_true', Bool.not_eq_false', decide_eq_true_eq, decide_eq_false_iff_not, Int.not_lt, Int.not_le, if_true, if_false, Bool.false_eq_true, beq_iff_eq, bne_iff_ne, ne_eq, Bool.not_eq_eq_eq_not, Bool.not_true, Bool.not_false, beq_eq_false_iff_ne, bne_eq_false_iff_eq, Int.ofNat_eq_natCast] at h
  split <;> rename_i hl <;> rw [hw] at hl <;> simp only [std, binStd, cmpStd, unStd, scmpStd, maxI, Bool.not_eq_true', Bool.not_eq_false', decide_eq_true_eq, decide_eq_false_iff_not, Int.not_lt, Int.not_le, if_true, if_false, Bool.false_eq_true, beq_iff_eq, bne_iff_ne, ne_eq, Bool.not_eq_eq_eq_not, Bool.not_true, Bool.not_false, beq_eq_false_iff_ne, bne_eq_false_iff_eq, Int.ofNat_eq_natCast] at hl
  · exact ⟨_, Vw.same rfl, hR _ rfl⟩
  have hlen : ps.length ≤ 1000 := len_ok (hes ▸ hl)
  refine Call.step (by rw [← hP]; exact e_common ps es hes hlen) (by exact Bool.and_eq_true_iff.mpr ⟨hu, rfl⟩) ?_
  rintro r ⟨lo, hi, f, rfl, hcom⟩
  cbv
  refine Call.step (by rw [← hP]; exact e_two ps es hes hlen) (by exact Bool.and_eq_true_iff.mpr ⟨hu, rfl⟩) ?_
  rintro r ⟨lo2, hi2, f2, rfl, htwo⟩
  cbv
  refine Call.step (by rw [← hP]; exact e_refs ps es hes hlen) (by exact Bool.and_eq_true_iff.mpr ⟨hu, rfl⟩) ?_
  rintro r ⟨fs, rfl, hfs⟩
  have hv : (AV.list 2 fs).upto 0 = true := by subst hfs; exact up_spRows ps
  cbv
  refine Call.step (by rw [← hP]; exact e_By ps fs hfs _ hlen) (by exact Bool.and_eq_true_iff.mpr ⟨hv, rfl⟩) ?_
  rintro r ⟨l1, h1, o1, f1, g1, rfl, hb1, hb2, ho1⟩
  cbv
  refine Call.step (by rw [← hP]; exact e_refs ps es hes hlen) (by exact Bool.and_eq_true_iff.mpr ⟨hu, rfl⟩) ?_
  rintro r ⟨fs2, rfl, hfs2⟩
  have hv2 : (AV.list 2 fs2).upto 0 = true := by subst hfs2; exact up_spRows ps
  cbv
  refine Call.step (by rw [← hP]; exact e_By ps fs2 hfs2 _ hlen) (by exact Bool.and_eq_true_iff.mpr ⟨hv2, rfl⟩) ?_
  rintro r ⟨l2, h2, o2, f3, g3, rfl, hb3, hb4, ho2⟩
  cbv
  have law2 := two_law htwo hb3 hb4
  rw [← ho2] at law2
  have hg : 0 < ps.length → w.2 .gtr (w.13 es) 0 = true := fun hp => by rw [hw, hes]; exact gtr0 hp
  have law1 := all_law0 (fun hp => by rw [hw, hes]; exact max1 hp) hcom hb1 hb2
  rw [← ho1] at law1
  clear hb1 hb2 hb3 hb4 ho1 ho2
  split
  · obtain ⟨x1, x2⟩ | ⟨x1, x2, x3, x4, x5⟩ := law1
    · cases x1
    refine Call.step (by rw [← hP]; exact e_is lo hi l1 h1 f (w.2 .gtr (w.13 es) 0)) rfl ?_
    rintro r ⟨o, rfl, ho⟩
    obtain rfl : o = true := ho.2 (.inr ⟨hg x2, x3, x4, x5⟩)
    cbv
    refine Call.step (by rw [← hP]; exact e_is lo2 hi2 l2 h2 f2 o2) rfl ?_
    rintro r ⟨o, rfl, ho⟩
    obtain rfl : o = true := ho.2 law2
    cbv
    exact ⟨_, Vw.same rfl, hR _ rfl⟩
  · obtain ⟨x1, x2, x3, x4⟩ | ⟨x1, x2⟩ := law1
    · refine Call.step (by rw [← hP]; exact e_is lo hi l1 h1 f false) rfl ?_
      rintro r ⟨o, rfl, ho⟩
      obtain rfl : o = true := ho.2 (.inl ⟨rfl, x2, x3, x4⟩)
      cbv
      refine Call.step (by rw [← hP]; exact e_is lo2 hi2 l2 h2 f2 o2) rfl ?_
      rintro r ⟨o, rfl, ho⟩
      obtain rfl : o = true := ho.2 law2
      cbv
      exact ⟨_, Vw.same rfl, hR _ rfl⟩
    · cases x1
theorem ty_two {P : Program} {m : Nat} {t : TypeId} {xs : List AV} {g : Array Field} (hu : P.underlying t = some (.struct g)) (hm : g.toList.map (fun f => (f.offset, P.cellsOf f.type)) = [(0, 1), (1, 1)]) (hm2 : ∀ f, f ∈ g.toList → P.underlying f.type = some (.int .i64)) (hc : P.cellsOf t = 2) (h : TyL P (m + 2) t xs) : ∃ a b, xs = [.int .i64 a, .int .i64 b] := by
  unfold TyL at h
  rw [hu] at h
  obtain ⟨hl, hf⟩ := h
  rw [hc] at hl
  rcases hg : g.toList with _ | ⟨f0, _ | ⟨f1, _ | ⟨f2, r⟩⟩⟩ <;> rw [hg] at hm <;> simp at hm
  obtain ⟨⟨o0, c0⟩, o1, c1⟩ := hm
  have h0 := hf f0 (by rw [hg]; simp)
  have h1 := hf f1 (by rw [hg]; simp)
  have u0 := hm2 f0 (by rw [hg]; simp)
  have u1 := hm2 f1 (by rw [hg]; simp)
  rw [o0, c0] at h0
  rw [o1, c1] at h1
  unfold TyL at h0 h1
  rw [u0] at h0
  rw [u1] at h1
  obtain ⟨a, ha, _⟩ := h0
  obtain ⟨b, hb, _⟩ := h1
  rcases xs with _ | ⟨x, _ | ⟨y, _ | ⟨z, r⟩⟩⟩ <;> simp at hl
  simp at ha hb
  exact ⟨a, b, by rw [ha, hb]⟩
theorem rows_two {es : List (List AV)} (h : ∀ r, r ∈ es → ∃ a b, r = [AV.int .i64 a, AV.int .i64 b]) : ∃ ps, es = spRows ps := by
  induction es with
  | nil => exact ⟨[], rfl⟩
  | cons r t ih =>
    obtain ⟨ps, rfl⟩ := ih fun r hr => h r (List.mem_cons_of_mem _ hr)
    obtain ⟨a, b, rfl⟩ := h r (List.mem_cons_self ..)
    exact ⟨(a, b) :: ps, rfl⟩
noncomputable def spanFields : Array Field := match Try.prog.underlying 42 with | some (.struct g) => g | _ => #[]
theorem ty_spans (x : AV) (h : TyV Try.prog 8 40 x) : ∃ ps, x = .list 2 (spRows ps) := by
  have e1 : aggOf Try.prog 40 = some false := by kernel_rfl
  have e2 : Try.prog.underlying 40 = some (.slice 42) := by kernel_rfl
  have e3 : Try.prog.underlying 42 = some (.struct spanFields) := by kernel_rfl
  have e4 : spanFields.toList.map (fun f => (f.offset, Try.prog.cellsOf f.type)) = [(0, 1), (1, 1)] := by kernel_rfl
  have e5 : spanFields.toList.map (fun f => Try.prog.underlying f.type) = [some (.int .i64), some (.int .i64)] := by kernel_rfl
  have e6 : Try.prog.cellsOf 42 = 2 := by kernel_rfl
  have e7 : ∀ f, f ∈ spanFields.toList → Try.prog.underlying f.type = some (.int .i64) := by
    intro f hf
    have : Try.prog.underlying f.type ∈ spanFields.toList.map (fun f => Try.prog.underlying f.type) := List.mem_map.2 ⟨f, hf, rfl⟩
    rw [e5] at this
    simpa using this
  unfold TyV at h
  rw [e1] at h
  have h : TyL Try.prog 8 40 [x] := h
  unfold TyL at h
  rw [e2] at h
  obtain ⟨es, hx, _, hr⟩ := h
  obtain ⟨ps, rfl⟩ := rows_two fun r hrr => ty_two e3 e4 e7 e6 (hr r hrr)
  rw [e6] at hx
  exact ⟨ps, by simpa using hx⟩
theorem walk_VoteCounts (x0 : AV) (h : TyV Try.prog 8 40 x0) : PCalls Try.prog 10 [x0] (fun r => r = .bool true) := by
  obtain ⟨ps, rfl⟩ := ty_spans x0 h
  exact walk_law ps _ rfl
end Go.Proofs.Ytkkjdodolnpfmaa
