/- The document's count of spans, by the engine. -/
import Derived.Test.YtfonjmhnokailaaEng24
import Derived.KernelRfl
set_option linter.unusedVariables false
set_option linter.unusedSimpArgs false
namespace Go.Proofs.Ytfonjmhnokailaa
open Go Go.RowKit Go.Eng
set_option maxRecDepth 100000
def spRow (p : Int × Int) : List AV := [.int .i64 p.1, .int .i64 p.2]
def spRows (ps : List (Int × Int)) : List (List AV) := ps.map spRow
theorem up_spRows (ps : List (Int × Int)) : uptoLL 0 (spRows ps) = true := by
  induction ps with
  | nil => rfl
  | cons p t ih => exact ih
theorem len_spRows (ps : List (Int × Int)) : (spRows ps).length = ps.length := by simp [spRows]
theorem end_i {ps : List (Int × Int)} {i : Int} (h0 : 0 ≤ i) (h1 : i ≤ ps.length) (h : ((spRows ps).length : Int) ≤ i) : i.toNat = ps.length := by rw [len_spRows] at h; omega
theorem get_spRows (ps : List (Int × Int)) (i : Nat) (h : i < ps.length) : (spRows ps)[i]? = some (spRow ps[i]) := by simp [spRows, h]
theorem get_sp (ps : List (Int × Int)) (i : Int) (h0 : 0 ≤ i) (h : i < ps.length) : ∃ l u, ps[i.toNat]? = some (l, u) ∧ (spRows ps)[i.toNat]? = some [.int .i64 l, .int .i64 u] := by
  have h1 : i.toNat < ps.length := by omega
  exact ⟨ps[i.toNat].1, ps[i.toNat].2, by simp [h1], by simp [spRows, spRow, h1]⟩
def cnt (x : Int) (ps : List (Int × Int)) : Nat := ps.countP fun p => decide (p.1 ≤ x) && decide (x ≤ p.2)
theorem cnt_le (x : Int) (ps : List (Int × Int)) (i : Int) (h : 0 ≤ i) : (cnt x (ps.take i.toNat) : Int) ≤ i := by
  have h1 : cnt x (ps.take i.toNat) ≤ (ps.take i.toNat).length := List.countP_le_length
  have h2 := List.length_take_le i.toNat ps
  omega
theorem cnt_step {x i l u : Int} {ps : List (Int × Int)} (h0 : 0 ≤ i) (hp : ps[i.toNat]? = some (l, u)) : cnt x (ps.take (i + 1).toNat) = cnt x (ps.take i.toNat) + (if l ≤ x ∧ x ≤ u then 1 else 0) := by
  have e : (i + 1).toNat = i.toNat + 1 := by omega
  rw [e, List.take_add_one, hp]
  simp [cnt, List.countP_append, List.countP_cons]
theorem add64 {a b : Int} (h1 : -9223372036854775808 ≤ a + b) (h2 : a + b < 9223372036854775808) : std.1 .add .i64 a b = a + b := by
  show IntKind.i64.wrap (a + b) = a + b
  simp only [IntKind.wrap, IntKind.bits, IntKind.signed]; simp; split <;> omega
def iAt (a : AAct) (k : Nat) : Int := match a.getD k .any with | .int _ i => i | _ => 0
theorem meas {n : Nat} {i : Int} (h0 : 0 ≤ i) (h : i < n) : n - (i + 1).toNat < n - i.toNat := by omega
theorem e_Many (ps : List (Int × Int)) (es : List (List AV)) (hes : es = spRows ps) (x : Int) (hlen : ps.length ≤ 1000) : PCalls Try.prog 36 [.list 2 es, .int .i64 x] (fun r => ∃ n : Int, r = .int .i64 n ∧ n = (cnt x ps : Int)) := by
  have hu : (AV.list 2 es).upto 0 = true := by subst hes; exact up_spRows ps
  (refine PCalls.ofX Try.func36 (by kernel_rfl) (by kernel_rfl) fun w hw R hR => ?_); (conv => arg 2; cbv); (generalize hP : Try.prog = P); cbv
  refine Loop.introQ (fun a h => ∃ n i : Int, a = fr 32 [(0, .list 2 es), (1, .int .i64 x), (5, .int .i64 n), (6, .int .i64 i)] ∧ h = [] ∧ 0 ≤ i ∧ i ≤ ps.length ∧ n = (cnt x (ps.take i.toNat) : Int)) (fun a _ => ps.length - (iAt a 6).toNat)
    (fr 32 [(0, .list 2 es), (1, .int .i64 x), (5, .int .i64 0), (6, .int .i64 0)]) [] (Wk.plain (by (repeat' (first | exact wkL_nil | exact wkAny | refine wkL_cons ?_ ?_ | exact wk0 rfl rfl | exact wkRef rfl rfl | exact wkSl rfl rfl | exact wkSlR rfl rfl rfl | exact wkSlR rfl rfl (by assumption) | exact wkI (by assumption) | exact wkU (by assumption) | exact wkE (by assumption) (by assumption)))) _) ⟨0, 0, rfl, rfl, by omega, by omega, by simp [cnt]⟩ ?_
  rintro a h ⟨n, i, rfl, rfl, hi0, hi1, hn⟩ w hw Q' hN hE hR'
  have hi1 : i ≤ ps.length := hi1
  have hn : n = (cnt x (ps.take i.toNat) : Int) := hn
  generalize hM : ps.length - (iAt (fr 32 [(0, .list 2 es), (1, .int .i64 x), (5, .int .i64 n), (6, .int .i64 i)]) 6).toNat = M at hN
  cbv
  split <;> rename_i hc <;> rw [hw] at hc <;> simp only [std, binStd, cmpStd, unStd, scmpStd, maxI, Bool.not_eq_true', Bool.not_eq_false', decide_eq_true_eq, decide_eq_false_iff_not, Int.not_lt, Int.not_le, if_true, if_false, Bool.false_eq_true, beq_iff_eq, bne_iff_ne, ne_eq, Bool.not_eq_eq_eq_not, Bool.not_true, Bool.not_false, beq_eq_false_iff_ne, bne_eq_false_iff_eq, Int.ofNat_eq_natCast] at hc
  · have hc' : i < ps.length := by rw [hes] at hc; simpa [std, spRows] using hc
    obtain ⟨l, u, hp, hr⟩ := get_sp ps i hi0 hc'
    have ei : w.1 .add .i64 i 1 = i + 1 := by rw [hw]; exact add64 (by omega) (by omega)
    have hcn : n ≤ i := by rw [hn]; exact cnt_le x ps i hi0
    have hcn0 : 0 ≤ n := by rw [hn]; exact Int.natCast_nonneg _
    have en : w.1 .add .i64 n 1 = n + 1 := by rw [hw]; exact add64 (by omega) (by omega)
    refine Idx.mk [.int .i64 l, .int .i64 u] hi0 (by rw [hes]; exact hr) ?_
    cbv
    split <;> rename_i h1 <;> rw [hw] at h1 <;> simp only [std, binStd, cmpStd, unStd, scmpStd, maxI, Bool.not_eq_true', Bool.not_eq_false', decide_eq_true_eq, decide_eq_false_iff_not, Int.not_lt, Int.not_le, if_true, if_false, Bool.false_eq_true, beq_iff_eq, bne_iff_ne, ne_eq, Bool.not_eq_eq_eq_not, Bool.not_true, Bool.not_false, beq_eq_false_iff_ne, bne_eq_false_iff_eq, Int.ofNat_eq_natCast] at h1
    · refine Idx.mk [.int .i64 l, .int .i64 u] hi0 (by rw [hes]; exact hr) ?_
      cbv
      split <;> rename_i h2 <;> rw [hw] at h2 <;> simp only [std, binStd, cmpStd, unStd, scmpStd, maxI, Bool.not_eq_true', Bool.not_eq_false', decide_eq_true_eq, decide_eq_false_iff_not, Int.not_lt, Int.not_le, if_true, if_false, Bool.false_eq_true, beq_iff_eq, bne_iff_ne, ne_eq, Bool.not_eq_eq_eq_not, Bool.not_true, Bool.not_false, beq_eq_false_iff_ne, bne_eq_false_iff_eq, Int.ofNat_eq_natCast] at h2
      · refine hN _ _ (fr 32 [(0, .list 2 es), (1, .int .i64 x), (5, .int .i64 (n + 1)), (6, .int .i64 (i + 1))]) [] (Wk.plain (by (repeat' (first | exact wkL_nil | exact wkAny | refine wkL_cons ?_ ?_ | exact wk0 rfl rfl | exact wkRef rfl rfl | exact wkSl rfl rfl | exact wkSlR rfl rfl rfl | exact wkSlR rfl rfl (by assumption) | exact wkI (by assumption) | exact wkU (by assumption) | exact wkE (by assumption) (by assumption)))) _) ⟨_, _, rfl, rfl, by omega, by omega, ?_⟩ ?_
        · rw [cnt_step hi0 hp, if_pos ⟨h1, h2⟩, hn]; rfl
        · rw [← hM]; exact meas hi0 hc'
      · refine hN _ _ (fr 32 [(0, .list 2 es), (1, .int .i64 x), (5, .int .i64 n), (6, .int .i64 (i + 1))]) [] (Wk.plain (by (repeat' (first | exact wkL_nil | exact wkAny | refine wkL_cons ?_ ?_ | exact wk0 rfl rfl | exact wkRef rfl rfl | exact wkSl rfl rfl | exact wkSlR rfl rfl rfl | exact wkSlR rfl rfl (by assumption) | exact wkI (by assumption) | exact wkU (by assumption) | exact wkE (by assumption) (by assumption)))) _) ⟨_, _, rfl, rfl, by omega, by omega, ?_⟩ ?_
        · rw [cnt_step hi0 hp, if_neg (by omega), hn]; rfl
        · rw [← hM]; exact meas hi0 hc'
    · refine hN _ _ (fr 32 [(0, .list 2 es), (1, .int .i64 x), (5, .int .i64 n), (6, .int .i64 (i + 1))]) [] (Wk.plain (by (repeat' (first | exact wkL_nil | exact wkAny | refine wkL_cons ?_ ?_ | exact wk0 rfl rfl | exact wkRef rfl rfl | exact wkSl rfl rfl | exact wkSlR rfl rfl rfl | exact wkSlR rfl rfl (by assumption) | exact wkI (by assumption) | exact wkU (by assumption) | exact wkE (by assumption) (by assumption)))) _) ⟨_, _, rfl, rfl, by omega, by omega, ?_⟩ ?_
      · rw [cnt_step hi0 hp, if_neg (by omega), hn]; rfl
      · rw [← hM]; exact meas hi0 hc'
  · refine hE _ _ _ ?_
    cbv
    have e : i.toNat = ps.length := by rw [hes] at hc; exact end_i hi0 hi1 hc
    refine ⟨_, Vw.same rfl, hR _ ⟨_, rfl, ?_⟩⟩
    rw [hn, e, List.take_length]
end Go.Proofs.Ytfonjmhnokailaa
