/- Votes, by the engine: two, common. -/
import Derived.Test.YtfonjmhnokailaaUse4
import Derived.Test.YtfonjmhnokailaaUse1
import Derived.Test.YtfonjmhnokailaaVoteMath
import Derived.Test.YtfonjmhnokailaaEng25
import Derived.KernelRfl
set_option linter.unusedVariables false
set_option linter.unusedSimpArgs false
namespace Go.Proofs.Ytfonjmhnokailaa
open Go Go.RowKit Go.Eng
set_option maxRecDepth 100000
theorem e_right (a b : Int) : PCalls Try.prog 44 [sp2 a b] (fun r => ∃ o : Bool, r = .bool o ∧ (o = true ↔ a ≤ b)) := by
  (refine PCalls.ofX Try.func44 (by kernel_rfl) (by kernel_rfl) fun w hw R hR => ?_); (conv => arg 2; cbv); (generalize hP : Try.prog = P); cbv
  subst hw
  exact ⟨_, Vw.same rfl, hR _ ⟨_, rfl, by simp [std, cmpStd]⟩⟩
theorem e_hull (a b c d : Int) : PCalls Try.prog 40 [sp2 a b, sp2 c d] (fun r => ∃ l h, r = sp2 l h ∧ (a ≤ b → c ≤ d → l = min a c ∧ h = max b d)) := by
  (refine PCalls.ofX Try.func40 (by kernel_rfl) (by kernel_rfl) fun w hw R hR => ?_); (conv => arg 2; cbv); (generalize hP : Try.prog = P); cbv
  refine Call.step (by rw [← hP]; exact e_right _ _) rfl ?_
  rintro r ⟨o, rfl, ho⟩
  cbv
  split <;> rename_i h0 <;> rw [hw] at h0 <;> simp only [std, binStd, cmpStd, unStd, scmpStd, maxI, Bool.not_eq_true', Bool.not_eq_false', decide_eq_true_eq, decide_eq_false_iff_not, Int.not_lt, Int.not_le, if_true, if_false, Bool.false_eq_true, beq_iff_eq, bne_iff_ne, ne_eq, Bool.not_eq_eq_eq_not, Bool.not_true, Bool.not_false, beq_eq_false_iff_ne, bne_eq_false_iff_eq, Int.ofNat_eq_natCast] at h0
  · refine ⟨_, Vw.same rfl, hR _ ⟨_, _, rfl, fun h1 h2 => ?_⟩⟩
    rw [h0] at ho; simp at ho; omega
  · refine Call.step (by rw [← hP]; exact e_right _ _) rfl ?_
    rintro r ⟨o2, rfl, ho2⟩
    cbv
    split <;> rename_i h3 <;> rw [hw] at h3 <;> simp only [std, binStd, cmpStd, unStd, scmpStd, maxI, Bool.not_eq_true', Bool.not_eq_false', decide_eq_true_eq, decide_eq_false_iff_not, Int.not_lt, Int.not_le, if_true, if_false, Bool.false_eq_true, beq_iff_eq, bne_iff_ne, ne_eq, Bool.not_eq_eq_eq_not, Bool.not_true, Bool.not_false, beq_eq_false_iff_ne, bne_eq_false_iff_eq, Int.ofNat_eq_natCast] at h3
    · refine ⟨_, Vw.same rfl, hR _ ⟨_, _, rfl, fun h1 h2 => ?_⟩⟩
      rw [h3] at ho2; simp at ho2; omega
    · subst hw
      refine ⟨_, Vw.same rfl, hR _ ⟨_, _, rfl, fun h1 h2 => ?_⟩⟩
      constructor <;> (simp only [std, binStd, cmpStd, unStd, scmpStd, maxI, Bool.not_eq_true', Bool.not_eq_false', decide_eq_true_eq, decide_eq_false_iff_not, Int.not_lt, Int.not_le, if_true, if_false, Bool.false_eq_true, beq_iff_eq, bne_iff_ne, ne_eq, Bool.not_eq_eq_eq_not, Bool.not_true, Bool.not_false, beq_eq_false_iff_ne, bne_eq_false_iff_eq, Int.ofNat_eq_natCast]; omega)
def aOf (ps : List (Int × Int)) (i : Nat) : Int := (ps.getD i (0, 0)).1
def bOf (ps : List (Int × Int)) (i : Nat) : Int := (ps.getD i (0, 0)).2
theorem ab_at {ps : List (Int × Int)} {l u : Int} {i : Nat} (hp : ps[i]? = some (l, u)) : aOf ps i = l ∧ bOf ps i = u := by simp [aOf, bOf, List.getD, hp]
abbrev sps2 (lo hi : Int) : Slot := .live 2 [[.int .i64 lo, .int .i64 hi]]
theorem len0 {ps : List (Int × Int)} (h : ((spRows ps).length : Int) = 0) : ps.length = 0 := by rw [len_spRows] at h; omega
theorem len0' {ps : List (Int × Int)} (h : ps.length = 0) : ((spRows ps).length : Int) = 0 := by rw [len_spRows]; omega
theorem end_i2 {n : Nat} {i : Int} (h0 : 0 ≤ i) (h1 : i ≤ n) (h2 : (n : Int) ≤ i) : i.toNat = n := by omega
theorem pre_no' {ps : List (Int × Int)} {i l u lo hi : Int} (h0 : 0 ≤ i) (hi1 : i < ps.length) (hp : ps[i.toNat]? = some (l, u)) (h : PreIs (aOf ps) (bOf ps) i.toNat lo hi) (hn : ¬ max lo l ≤ min hi u) : CommonIs (aOf ps) (bOf ps) ps.length 0 0 false := by
  obtain ⟨e1, e2⟩ := ab_at hp
  exact pre_no (by omega) h (by rw [e1, e2]; exact hn)
theorem pre_next' {ps : List (Int × Int)} {i l u lo hi : Int} (h0 : 0 ≤ i) (hp : ps[i.toNat]? = some (l, u)) (h : PreIs (aOf ps) (bOf ps) i.toNat lo hi) (hn : max lo l ≤ min hi u) : PreIs (aOf ps) (bOf ps) (i + 1).toNat (max lo l) (min hi u) := by
  obtain ⟨e1, e2⟩ := ab_at hp
  rw [show (i + 1).toNat = i.toNat + 1 by omega, ← e1, ← e2]
  exact pre_next h (by rw [e1, e2]; exact hn)
theorem e_common (ps : List (Int × Int)) (es : List (List AV)) (hes : es = spRows ps) (hlen : ps.length ≤ 1000) : PCalls Try.prog 32 [.list 2 es] (fun r => ∃ lo hi f, r = .tuple [sp2 lo hi, .bool f] ∧ CommonIs (aOf ps) (bOf ps) ps.length lo hi f) := by
  have hu : (AV.list 2 es).upto 0 = true := by subst hes; exact up_spRows ps
  obtain ⟨N, hN0⟩ : ∃ N : Int, std.13 es = N := ⟨_, rfl⟩
  have hN1 : N = ps.length := by rw [← hN0, hes]; simp [std, spRows]
  (refine PCalls.ofX Try.func32 (by kernel_rfl) (by kernel_rfl) fun w hw R hR => ?_); (conv => arg 2; cbv); (generalize hP : Try.prog = P); cbv
  split <;> rename_i h0 <;> rw [hw] at h0 <;> simp only [std, binStd, cmpStd, unStd, scmpStd, maxI, Bool.not_eq_true', Bool.not_eq_false', decide_eq_true_eq, decide_eq_false_iff_not, Int.not_lt, Int.not_le, if_true, if_false, Bool.false_eq_true, beq_iff_eq, bne_iff_ne, ne_eq, Bool.not_eq_eq_eq_not, Bool.not_true, Bool.not_false, beq_eq_false_iff_ne, bne_eq_false_iff_eq, Int.ofNat_eq_natCast] at h0
  · refine ⟨_, Vw.same rfl, hR _ ⟨_, _, _, rfl, fun h => (by cases h), fun _ => ⟨rfl, rfl, .inl ?_⟩⟩⟩
    exact len0 (hes ▸ h0)
  · have hpos : 0 < ps.length := Nat.pos_of_ne_zero fun e => h0 (by rw [hes]; exact len0' e)
    obtain ⟨l0, u0, hp0, hr0⟩ := get_sp ps 0 (by omega) (by omega)
    refine Idx.mk [.int .i64 l0, .int .i64 u0] (by omega) (by rw [hes]; exact hr0) ?_
    cbv
    have hst : PreIs (aOf ps) (bOf ps) 0 l0 u0 := by
      have := pre_start (aOf ps) (bOf ps)
      rw [(ab_at (i := 0) hp0).1, (ab_at (i := 0) hp0).2] at this
      exact this
    refine Loop.introQ (fun a h => ∃ (lo hi i : Int), a = fr 32 [(2, .ref 0 2 0 0), (4, .ref 1 2 0 0), (15, .list 2 es), (16, .int .i64 N), (17, .int .i64 i)] ∧ h = [sps2 0 0, sps2 lo hi] ∧ 0 ≤ i ∧ i ≤ ps.length ∧ PreIs (aOf ps) (bOf ps) i.toNat lo hi) (fun a _ => ps.length - (iAt a 17).toNat)
      (fr 32 [(2, .ref 0 2 0 0), (4, .ref 1 2 0 0), (15, .list 2 es), (16, .int .i64 N), (17, .int .i64 0)]) [sps2 0 0, sps2 l0 u0] (by rw [← hw] at hN0; (refine Wk.ren id ?_ ?_ (fun i j _ _ e => e); (focus (repeat' (first | exact wkL_nil | exact wkAny | refine wkL_cons ?_ ?_ | exact wk0 rfl rfl | exact wkRef rfl rfl | exact wkSl rfl rfl | exact wkSlR rfl rfl rfl | exact wkSlR rfl rfl (by assumption) | exact wkI (by assumption) | exact wkU (by assumption) | exact wkE (by assumption) (by assumption)))); (repeat' (first | exact wkH_nil | refine wkH_cons rfl rfl rfl ?_ | refine wkH_up rfl (by assumption) ?_)))) ⟨l0, u0, 0, rfl, rfl, by omega, by omega, hst⟩ ?_
    clear h0
    rintro a h ⟨lo, hi, i, rfl, rfl, hi0, hi1, hn⟩ w hw Q' hN hE hR'
    have hi1 : i ≤ ps.length := hi1
    generalize hM : ps.length - (iAt (fr 32 [(2, .ref 0 2 0 0), (4, .ref 1 2 0 0), (15, .list 2 es), (16, .int .i64 N), (17, .int .i64 i)]) 17).toNat = M at hN
    cbv
    split <;> rename_i hc <;> rw [hw] at hc <;> simp only [std, binStd, cmpStd, unStd, scmpStd, maxI, Bool.not_eq_true', Bool.not_eq_false', decide_eq_true_eq, decide_eq_false_iff_not, Int.not_lt, Int.not_le, if_true, if_false, Bool.false_eq_true, beq_iff_eq, bne_iff_ne, ne_eq, Bool.not_eq_eq_eq_not, Bool.not_true, Bool.not_false, beq_eq_false_iff_ne, bne_eq_false_iff_eq, Int.ofNat_eq_natCast] at hc
    · have hc' : i < ps.length := by rw [hN1] at hc; exact hc
      obtain ⟨l, u, hp, hr⟩ := get_sp ps i hi0 hc'
      have ei : w.1 .add .i64 i 1 = i + 1 := by rw [hw]; exact add64 (by omega) (by omega)
      refine Idx.mk [.int .i64 l, .int .i64 u] hi0 (by rw [hes]; exact hr) ?_
      cbv
      refine Call.step (by rw [← hP]; exact e_meet _ _ _ _) rfl ?_
      rintro r ⟨x, y, o, rfl, h1, h2, h3⟩
      cbv
      split <;> rename_i h0 <;> rw [hw] at h0 <;> simp only [std, binStd, cmpStd, unStd, scmpStd, maxI, Bool.not_eq_true', Bool.not_eq_false', decide_eq_true_eq, decide_eq_false_iff_not, Int.not_lt, Int.not_le, if_true, if_false, Bool.false_eq_true, beq_iff_eq, bne_iff_ne, ne_eq, Bool.not_eq_eq_eq_not, Bool.not_true, Bool.not_false, beq_eq_false_iff_ne, bne_eq_false_iff_eq, Int.ofNat_eq_natCast] at h0
      · refine hR' _ _ ?_
        cbv
        refine ⟨_, Vw.same rfl, hR _ ⟨_, _, _, rfl, ?_⟩⟩
        refine pre_no' hi0 hc' hp hn fun hmm => ?_
        have := h1.2 ⟨rfl, rfl, hmm⟩
        rw [h0] at this; cases this
      · obtain ⟨rfl, rfl⟩ := h2 h0
        have hmm := (h1.1 h0).2.2
        have hnx := pre_next' hi0 hp hn hmm
        revert hnx
        generalize max lo l = lo', min hi u = hi'
        intro hnx
        exact hN _ _ (fr 32 [(2, .ref 0 2 0 0), (4, .ref 1 2 0 0), (15, .list 2 es), (16, .int .i64 N), (17, .int .i64 (i + 1))]) [sps2 0 0, sps2 lo' hi'] (by (refine Wk.ren id ?_ ?_ (fun i j _ _ e => e); (focus (repeat' (first | exact wkL_nil | exact wkAny | refine wkL_cons ?_ ?_ | exact wk0 rfl rfl | exact wkRef rfl rfl | exact wkSl rfl rfl | exact wkSlR rfl rfl rfl | exact wkSlR rfl rfl (by assumption) | exact wkI (by assumption) | exact wkU (by assumption) | exact wkE (by assumption) (by assumption)))); (repeat' (first | exact wkH_nil | refine wkH_cons rfl rfl rfl ?_ | refine wkH_up rfl (by assumption) ?_)))) ⟨_, _, _, rfl, rfl, by omega, by omega, hnx⟩ (by rw [← hM]; exact meas hi0 hc')
    · refine hE _ _ _ ?_
      cbv
      have e : i.toNat = ps.length := by rw [hN1] at hc; exact end_i2 hi0 hi1 hc
      rw [e] at hn
      exact ⟨_, Vw.same rfl, hR _ ⟨_, _, _, rfl, pre_all hpos hn⟩⟩
end Go.Proofs.Ytfonjmhnokailaa
