/- Votes, by the engine: two. -/
import Derived.Test.YtfonjmhnokailaaUse5
import Derived.KernelRfl
set_option linter.unusedVariables false
set_option linter.unusedSimpArgs false
namespace Go.Proofs.Ytfonjmhnokailaa
open Go Go.RowKit Go.Eng
set_option maxRecDepth 100000
theorem up_drop (ps : List (Int × Int)) (k : Nat) : uptoLL 0 ((spRows ps).drop k) = true := by
  have e : (spRows ps).drop k = spRows (ps.drop k) := by simp [spRows]
  rw [e]; exact up_spRows _
theorem len_drop {ps : List (Int × Int)} {i : Int} (h0 : 0 ≤ i) (h : i < ps.length) : std.13 (std.17 (spRows ps) (i + 1)) = ps.length - (i + 1) := by
  show (((spRows ps).drop (i + 1).toNat).length : Int) = _
  rw [List.length_drop, len_spRows]; omega
theorem nn_of {x i : Int} (e : x = i + 1) (h : 0 ≤ i) : 0 ≤ x := by omega
theorem le_of {x i n : Int} (e : x = i + 1) (h : i + 1 ≤ n) : x ≤ n := by omega
theorem le_len {ps : List (Int × Int)} {i : Int} (h0 : 0 ≤ i) (h : i < ps.length) : i + 1 ≤ std.13 (spRows ps) := by
  show i + 1 ≤ ((spRows ps).length : Int)
  rw [len_spRows]; omega
theorem get_sp2 (ps : List (Int × Int)) (i m : Int) (h0 : 0 ≤ i) (hm : 0 ≤ m) (h : m < ps.length - (i + 1)) : ∃ l u, ps[i.toNat + (1 + m.toNat)]? = some (l, u) ∧ ((spRows ps).drop (i + 1).toNat)[m.toNat]? = some [.int .i64 l, .int .i64 u] := by
  have h1 : i.toNat + (1 + m.toNat) < ps.length := by omega
  have e : (i + 1).toNat + m.toNat = i.toNat + (1 + m.toNat) := by omega
  refine ⟨ps[i.toNat + (1 + m.toNat)].1, ps[i.toNat + (1 + m.toNat)].2, by simp [h1], ?_⟩
  rw [List.getElem?_drop, e]
  simp [spRows, spRow, h1]
theorem meas2 {N m : Int} (h0 : 0 ≤ m) (h : m < N) : N.toNat - (m + 1).toNat < N.toNat - m.toNat := by omega
theorem i_lt {i : Int} {n : Nat} (h : i < n) (hn : n ≤ 1000) : i < 1000 := by omega
theorem n2_of {N2 i : Int} {n : Nat} (h : N2 = n - (i + 1)) (h0 : 0 ≤ i) (hc : i < n) (hn : n ≤ 1000) : 0 ≤ N2 ∧ N2 < 1000 ∧ ∀ m, m < N2 → m < n - (i + 1) := ⟨by omega, by omega, fun m h => by omega⟩
theorem m_end {N2 i m : Int} {n : Nat} (h : N2 = n - (i + 1)) (h1 : m ≤ N2) (h2 : N2 ≤ m) : m = n - (i + 1) := by omega
section
variable {ps : List (Int × Int)} {i m l u l2 u2 lo hi : Int} {f : Bool}
theorem two_no' (hi0 : 0 ≤ i) (hm0 : 0 ≤ m) (hp : ps[i.toNat]? = some (l, u)) (hp2 : ps[i.toNat + (1 + m.toNat)]? = some (l2, u2)) (hn : TwoIs (aOf ps) (bOf ps) (Pairs ps.length i.toNat m.toNat) lo hi f) (h : ¬ max l l2 ≤ min u u2) : TwoIs (aOf ps) (bOf ps) (Pairs ps.length i.toNat (m + 1).toNat) lo hi f := by
  rw [show (m + 1).toNat = m.toNat + 1 by omega]
  exact two_no _ _ _ _ _ _ _ _ hn (by rw [(ab_at hp).1, (ab_at hp).2, (ab_at hp2).1, (ab_at hp2).2]; exact h)
theorem two_first' (hi0 : 0 ≤ i) (hm0 : 0 ≤ m) (hp : ps[i.toNat]? = some (l, u)) (hp2 : ps[i.toNat + (1 + m.toNat)]? = some (l2, u2)) (hn : TwoIs (aOf ps) (bOf ps) (Pairs ps.length i.toNat m.toNat) lo hi false) (h : max l l2 ≤ min u u2) : TwoIs (aOf ps) (bOf ps) (Pairs ps.length i.toNat (m + 1).toNat) (max l l2) (min u u2) true := by
  rw [show (m + 1).toNat = m.toNat + 1 by omega]
  have := two_first _ _ _ _ _ _ _ hn (by rw [(ab_at hp).1, (ab_at hp).2, (ab_at hp2).1, (ab_at hp2).2]; exact h)
  rw [(ab_at hp).1, (ab_at hp).2, (ab_at hp2).1, (ab_at hp2).2] at this
  exact this
theorem two_more' (hi0 : 0 ≤ i) (hm0 : 0 ≤ m) (hp : ps[i.toNat]? = some (l, u)) (hp2 : ps[i.toNat + (1 + m.toNat)]? = some (l2, u2)) (hn : TwoIs (aOf ps) (bOf ps) (Pairs ps.length i.toNat m.toNat) lo hi true) (h : max l l2 ≤ min u u2) : TwoIs (aOf ps) (bOf ps) (Pairs ps.length i.toNat (m + 1).toNat) (min lo (max l l2)) (max hi (min u u2)) true := by
  rw [show (m + 1).toNat = m.toNat + 1 by omega]
  have := two_more _ _ _ _ _ _ _ hn (by rw [(ab_at hp).1, (ab_at hp).2, (ab_at hp2).1, (ab_at hp2).2]; exact h)
  rw [(ab_at hp).1, (ab_at hp).2, (ab_at hp2).1, (ab_at hp2).2] at this
  exact this
theorem two_next' {N2 : Int} (hi0 : 0 ≤ i) (hc : i < ps.length) (hn : TwoIs (aOf ps) (bOf ps) (Pairs ps.length i.toNat m.toNat) lo hi f) (hm : m = ps.length - (i + 1)) : TwoIs (aOf ps) (bOf ps) (Pairs ps.length (i + 1).toNat 0) lo hi f := by
  rw [show (i + 1).toNat = i.toNat + 1 by omega]
  have e : m.toNat = ps.length - (i.toNat + 1) := by omega
  rw [e] at hn
  exact two_next _ _ _ _ _ _ _ (by omega) hn
end
set_option maxHeartbeats 4000000 in
theorem e_two (ps : List (Int × Int)) (es : List (List AV)) (hes : es = spRows ps) (hlen : ps.length ≤ 1000) : PCalls Try.prog 33 [.list 2 es] (fun r => ∃ lo hi f, r = .tuple [sp2 lo hi, .bool f] ∧ TwoIs (aOf ps) (bOf ps) (Pairs ps.length ps.length 0) lo hi f) := by
  have hu : (AV.list 2 es).upto 0 = true := by subst hes; exact up_spRows ps
  obtain ⟨N, hN0⟩ : ∃ N : Int, std.13 es = N := ⟨_, rfl⟩
  have hN1 : N = ps.length := by rw [← hN0, hes]; simp [std, spRows]
  (refine PCalls.ofX Try.func33 (by kernel_rfl) (by kernel_rfl) fun w hw R hR => ?_); (conv => arg 2; cbv); (generalize hP : Try.prog = P); cbv
  refine Loop.introQ (fun a h => ∃ (lo hi i : Int) (f : Bool), a = fr 49 [(0, .list 2 es), (2, .ref 0 2 0 0), (4, .ref 1 2 0 0), (12, .list 2 es), (13, .int .i64 N), (5, .bool f), (14, .int .i64 i)] ∧ h = [sps2 0 0, sps2 lo hi] ∧ 0 ≤ i ∧ i ≤ ps.length ∧ TwoIs (aOf ps) (bOf ps) (Pairs ps.length i.toNat 0) lo hi f) (fun a _ => ps.length - (iAt a 14).toNat)
    (fr 49 [(0, .list 2 es), (2, .ref 0 2 0 0), (4, .ref 1 2 0 0), (12, .list 2 es), (13, .int .i64 N), (5, .bool false), (14, .int .i64 0)]) [sps2 0 0, sps2 0 0] (by rw [← hw] at hN0; (refine Wk.ren id ?_ ?_ (fun i j _ _ e => e); (focus (repeat' (first | exact wkL_nil | exact wkAny | refine wkL_cons ?_ ?_ | exact wk0 rfl rfl | exact wkRef rfl rfl | exact wkSl rfl rfl | exact wkSlR rfl rfl rfl | exact wkSlR rfl rfl (by assumption) | exact wkI (by assumption) | exact wkU (by assumption) | exact wkE (by assumption) (by assumption)))); (repeat' (first | exact wkH_nil | refine wkH_cons rfl rfl rfl ?_ | refine wkH_up rfl (by assumption) ?_)))) ⟨0, 0, 0, false, rfl, rfl, by omega, by omega, two_start _ _ _⟩ ?_
  rintro a h ⟨lo, hi, i, f, rfl, rfl, hi0, hi1, hn⟩ w hw Q' hN hE hR'
  have hi1 : i ≤ ps.length := hi1
  generalize hM : ps.length - (iAt (fr 49 [(0, .list 2 es), (2, .ref 0 2 0 0), (4, .ref 1 2 0 0), (12, .list 2 es), (13, .int .i64 N), (5, .bool f), (14, .int .i64 i)]) 14).toNat = M at hN
  cbv
  split <;> rename_i hc <;> rw [hw] at hc <;> simp only [std, binStd, cmpStd, unStd, scmpStd, maxI, Bool.not_eq_true', Bool.not_eq_false', decide_eq_true_eq, decide_eq_false_iff_not, Int.not_lt, Int.not_le, if_true, if_false, Bool.false_eq_true, beq_iff_eq, bne_iff_ne, ne_eq, Bool.not_eq_eq_eq_not, Bool.not_true, Bool.not_false, beq_eq_false_iff_ne, bne_eq_false_iff_eq, Int.ofNat_eq_natCast] at hc
  · have hc' : i < ps.length := by rw [hN1] at hc; exact hc
    obtain ⟨l, u, hp, hr⟩ := get_sp ps i hi0 hc'
    refine Idx.mk [.int .i64 l, .int .i64 u] hi0 (by rw [hes]; exact hr) ?_
    cbv
    have hi2 : i < 1000 := i_lt hc' hlen
    have ei : w.1 .add .i64 i 1 = i + 1 := by rw [hw]; exact add64 (by omega) (by omega)
    obtain ⟨es2, hes2⟩ : ∃ es2, es2 = (spRows ps).drop (i + 1).toNat := ⟨_, rfl⟩
    have he2 : AV.list 2 (w.17 es (w.1 .add .i64 i 1)) = .list 2 es2 := by rw [ei, hw, hes2, hes]; rfl
    have hu2 : (AV.list 2 es2).upto 0 = true := by rw [hes2]; exact up_drop _ _
    obtain ⟨N2, hN2⟩ : ∃ N2 : Int, w.13 (w.17 es (w.1 .add .i64 i 1)) = N2 := ⟨_, rfl⟩
    have hN3 : N2 = ps.length - (i + 1) := by rw [← hN2, ei, hw, hes]; exact len_drop hi0 hc'
    obtain ⟨hN4, hN5, hN6⟩ := n2_of hN3 hi0 hc' hlen
    refine Nn.mk (nn_of ei hi0) (Le.mk (le_of ei (by rw [hw, hes]; exact le_len hi0 hc')) ?_)
    refine Loop.introQ (fun a h => ∃ (lo hi m : Int) (f : Bool), a = (fr 49 [(0, .list 2 es), (2, .ref 0 2 0 0), (4, .ref 1 2 0 0), (12, .list 2 es), (13, .int .i64 N), (5, .bool f), (7, .ref 2 2 0 0), (14, .int .i64 i), (22, .list 2 es2), (23, .int .i64 N2), (24, .int .i64 m)]) ∧ h = [sps2 0 0, sps2 lo hi, sps2 l u] ∧ 0 ≤ m ∧ m ≤ N2 ∧ TwoIs (aOf ps) (bOf ps) (Pairs ps.length i.toNat m.toNat) lo hi f) (fun a _ => N2.toNat - (iAt a 24).toNat)
      (fr 49 [(0, .list 2 es), (2, .ref 0 2 0 0), (4, .ref 1 2 0 0), (12, .list 2 es), (13, .int .i64 N), (5, .bool f), (7, .ref 2 2 0 0), (14, .int .i64 i), (22, .list 2 es2), (23, .int .i64 N2), (24, .int .i64 0)]) [sps2 0 0, sps2 lo hi, sps2 l u] (by (refine Wk.ren id ?_ ?_ (fun i j _ _ e => e); (focus (repeat' (first | exact wkL_nil | exact wkAny | refine wkL_cons ?_ ?_ | exact wk0 rfl rfl | exact wkRef rfl rfl | exact wkSl rfl rfl | exact wkSlR rfl rfl rfl | exact wkSlR rfl rfl (by assumption) | exact wkI (by assumption) | exact wkU (by assumption) | exact wkE (by assumption) (by assumption)))); (repeat' (first | exact wkH_nil | refine wkH_cons rfl rfl rfl ?_ | refine wkH_up rfl (by assumption) ?_)))) ⟨lo, hi, 0, f, rfl, rfl, by omega, by omega, hn⟩ ?_
    clear hn hE hR' he2 hN2
    rintro a h ⟨lo, hi, m, f, rfl, rfl, hm0, hm1, hn⟩ w2 hw2 Q2 hN2 hE2 hR2
    generalize hM2 : N2.toNat - (iAt (fr 49 [(0, .list 2 es), (2, .ref 0 2 0 0), (4, .ref 1 2 0 0), (12, .list 2 es), (13, .int .i64 N), (5, .bool f), (7, .ref 2 2 0 0), (14, .int .i64 i), (22, .list 2 es2), (23, .int .i64 N2), (24, .int .i64 m)]) 24).toNat = M2 at hN2
    cbv
    split <;> rename_i hc2 <;> rw [hw2] at hc2 <;> simp only [std, binStd, cmpStd, unStd, scmpStd, maxI, Bool.not_eq_true', Bool.not_eq_false', decide_eq_true_eq, decide_eq_false_iff_not, Int.not_lt, Int.not_le, if_true, if_false, Bool.false_eq_true, beq_iff_eq, bne_iff_ne, ne_eq, Bool.not_eq_eq_eq_not, Bool.not_true, Bool.not_false, beq_eq_false_iff_ne, bne_eq_false_iff_eq, Int.ofNat_eq_natCast] at hc2
    · obtain ⟨l2, u2, hp2, hr2⟩ := get_sp2 ps i m hi0 hm0 (hN6 m hc2)
      have em : w2.1 .add .i64 m 1 = m + 1 := by rw [hw2]; exact add64 (by omega) (by omega)
      refine Idx.mk [.int .i64 l2, .int .i64 u2] hm0 (by rw [hes2]; exact hr2) ?_
      cbv
      refine Call.step (by rw [← hP]; exact e_meet _ _ _ _) rfl ?_
      rintro r ⟨x, y, o, rfl, h1, h2, h3⟩
      cases o with
      | false =>
        have hno : ¬ max l l2 ≤ min u u2 := fun hmm => by have := h1.2 ⟨rfl, rfl, hmm⟩; cases this
        cbv
        exact hN2 _ _ (fr 49 [(0, .list 2 es), (2, .ref 0 2 0 0), (4, .ref 1 2 0 0), (12, .list 2 es), (13, .int .i64 N), (5, .bool f), (7, .ref 2 2 0 0), (14, .int .i64 i), (22, .list 2 es2), (23, .int .i64 N2), (24, .int .i64 (m + 1))]) [sps2 0 0, sps2 lo hi, sps2 l u] (by (refine Wk.ren id ?_ ?_ (fun i j _ _ e => e); (focus (repeat' (first | exact wkL_nil | exact wkAny | refine wkL_cons ?_ ?_ | exact wk0 rfl rfl | exact wkRef rfl rfl | exact wkSl rfl rfl | exact wkSlR rfl rfl rfl | exact wkSlR rfl rfl (by assumption) | exact wkI (by assumption) | exact wkU (by assumption) | exact wkE (by assumption) (by assumption)))); (repeat' (first | exact wkH_nil | refine wkH_cons rfl rfl rfl ?_ | refine wkH_up rfl (by assumption) ?_)))) ⟨_, _, _, _, rfl, rfl, by omega, by omega, two_no' hi0 hm0 hp hp2 hn hno⟩ (by rw [← hM2]; exact meas2 hm0 hc2)
      | true =>
        have hmm := (h1.1 rfl).2.2
        obtain ⟨rfl, rfl⟩ := h2 rfl
        cases f with
        | false =>
          have hnx := two_first' hi0 hm0 hp hp2 hn hmm
          revert hnx
          generalize max l l2 = lo', min u u2 = hi'
          intro hnx
          cbv
          exact hN2 _ _ (fr 49 [(0, .list 2 es), (2, .ref 0 2 0 0), (4, .ref 1 2 0 0), (12, .list 2 es), (13, .int .i64 N), (5, .bool true), (7, .ref 2 2 0 0), (14, .int .i64 i), (22, .list 2 es2), (23, .int .i64 N2), (24, .int .i64 (m + 1))]) [sps2 0 0, sps2 lo' hi', sps2 l u] (by (refine Wk.ren id ?_ ?_ (fun i j _ _ e => e); (focus (repeat' (first | exact wkL_nil | exact wkAny | refine wkL_cons ?_ ?_ | exact wk0 rfl rfl | exact wkRef rfl rfl | exact wkSl rfl rfl | exact wkSlR rfl rfl rfl | exact wkSlR rfl rfl (by assumption) | exact wkI (by assumption) | exact wkU (by assumption) | exact wkE (by assumption) (by assumption)))); (repeat' (first | exact wkH_nil | refine wkH_cons rfl rfl rfl ?_ | refine wkH_up rfl (by assumption) ?_)))) ⟨_, _, _, _, rfl, rfl, by omega, by omega, hnx⟩ (by rw [← hM2]; exact meas2 hm0 hc2)
        | true =>
          have hnx := two_more' hi0 hm0 hp hp2 hn hmm
          have hri := two_right hn
          revert hnx hmm
          generalize max l l2 = lo', min u u2 = hi'
          intro hmm hnx
          cbv
          refine Call.step (by rw [← hP]; exact e_hull _ _ _ _) rfl ?_
          rintro r ⟨x, y, rfl, h4⟩
          obtain ⟨e4, e5⟩ := h4 hri hmm
          rw [← e4, ← e5] at hnx
          cbv
          exact hN2 _ _ (fr 49 [(0, .list 2 es), (2, .ref 0 2 0 0), (4, .ref 1 2 0 0), (12, .list 2 es), (13, .int .i64 N), (5, .bool true), (7, .ref 2 2 0 0), (14, .int .i64 i), (22, .list 2 es2), (23, .int .i64 N2), (24, .int .i64 (m + 1))]) [sps2 0 0, sps2 x y, sps2 l u] (by (refine Wk.ren id ?_ ?_ (fun i j _ _ e => e); (focus (repeat' (first | exact wkL_nil | exact wkAny | refine wkL_cons ?_ ?_ | exact wk0 rfl rfl | exact wkRef rfl rfl | exact wkSl rfl rfl | exact wkSlR rfl rfl rfl | exact wkSlR rfl rfl (by assumption) | exact wkI (by assumption) | exact wkU (by assumption) | exact wkE (by assumption) (by assumption)))); (repeat' (first | exact wkH_nil | refine wkH_cons rfl rfl rfl ?_ | refine wkH_up rfl (by assumption) ?_)))) ⟨_, _, _, _, rfl, rfl, by omega, by omega, hnx⟩ (by rw [← hM2]; exact meas2 hm0 hc2)
    · refine hE2 _ _ _ ?_
      cbv
      have hnx := two_next' (N2 := N2) hi0 hc' hn (m_end hN3 hm1 hc2)
      exact hN _ _ (fr 49 [(0, .list 2 es), (2, .ref 0 2 0 0), (4, .ref 1 2 0 0), (12, .list 2 es), (13, .int .i64 N), (5, .bool f), (14, .int .i64 (i + 1))]) [sps2 0 0, sps2 lo hi] (by (refine Wk.ren id ?_ ?_ (fun i j _ _ e => e); (focus (repeat' (first | exact wkL_nil | exact wkAny | refine wkL_cons ?_ ?_ | exact wk0 rfl rfl | exact wkRef rfl rfl | exact wkSl rfl rfl | exact wkSlR rfl rfl rfl | exact wkSlR rfl rfl (by assumption) | exact wkI (by assumption) | exact wkU (by assumption) | exact wkE (by assumption) (by assumption)))); (repeat' (first | exact wkH_nil | refine wkH_cons rfl rfl rfl ?_ | refine wkH_up rfl (by assumption) ?_)))) ⟨_, _, _, _, rfl, rfl, by omega, by omega, hnx⟩ (by rw [← hM]; exact meas hi0 hc')
  · refine hE _ _ _ ?_
    cbv
    have e : i.toNat = ps.length := by rw [hN1] at hc; exact end_i2 hi0 hi1 hc
    rw [e] at hn
    exact ⟨_, Vw.same rfl, hR _ ⟨_, _, _, rfl, hn⟩⟩
end Go.Proofs.Ytfonjmhnokailaa
