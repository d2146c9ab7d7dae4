/- Votes, by the engine. -/
import Derived.Test.YtkkjdodolnpfmaaUse2
import Derived.KernelRfl
set_option linter.unusedVariables false
set_option linter.unusedSimpArgs false
namespace Go.Proofs.Ytkkjdodolnpfmaa
open Go Go.RowKit Go.Eng
set_option maxRecDepth 100000
theorem cap_ok {n : Nat} {i : Int} {ps : List (Int × Int)} (h0 : 0 ≤ i) (h1 : i ≤ ps.length) (h2 : ps.length ≤ 1000) (h3 : n = i.toNat) : (n + 1) * 16 ≤ 140737488355328 := by omega
theorem take_sp {ps : List (Int × Int)} {i l u : Int} (h0 : 0 ≤ i) (hp : ps[i.toNat]? = some (l, u)) : spRows (ps.take (i + 1).toNat) = spRows (ps.take i.toNat) ++ [[.int .i64 l, .int .i64 u]] := by
  rw [show (i + 1).toNat = i.toNat + 1 by omega, List.take_add_one, hp]
  simp [spRows, spRow]
theorem e_refs (ps : List (Int × Int)) (es : List (List AV)) (hes : es = spRows ps) (hlen : ps.length ≤ 1000) : PCalls Try.prog 31 [.list 2 es] (fun r => ∃ fs, r = .list 2 fs ∧ fs = spRows ps) := by
  have hu : (AV.list 2 es).upto 0 = true := by subst hes; exact up_spRows ps
  obtain ⟨N, hN0⟩ : ∃ N : Int, std.13 es = N := ⟨_, rfl⟩
  (refine PCalls.ofX Try.func31 (by kernel_rfl) (by kernel_rfl) fun w hw R hR => ?_); (conv => arg 2; cbv); (generalize hP : Try.prog = P); cbv
  refine Loop.introQ (fun a h => ∃ (i : Int) (fs : List (List AV)) (n : Nat), 0 ≤ i ∧ i ≤ ps.length ∧ fs = spRows (ps.take i.toNat) ∧ n = i.toNat ∧ ((i = 0 ∧ a = fr 22 [(3, .nils), (6, .list 2 es), (7, .int .i64 N), (8, .int .i64 i)] ∧ h = []) ∨ (0 < i ∧ a = fr 22 [(3, .sl 0 2 0 n), (6, .list 2 es), (7, .int .i64 N), (8, .int .i64 i)] ∧ h = [.live 2 fs]))) (fun a _ => ps.length - (iAt a 8).toNat)
    (fr 22 [(3, .nils), (6, .list 2 es), (7, .int .i64 N), (8, .int .i64 0)]) [] (by rw [← hw] at hN0; (refine Wk.ren id ?_ ?_ (fun i j _ _ e => e); (focus (repeat' (first | exact wkL_nil | exact wkAny | refine wkL_cons ?_ ?_ | exact wk0 rfl rfl | exact wkRef rfl rfl | exact wkSl rfl rfl | exact wkSlR rfl rfl rfl | exact wkSlR rfl rfl (by assumption) | exact wkI (by assumption) | exact wkU (by assumption) | exact wkE (by assumption) (by assumption)))); (repeat' (first | exact wkH_nil | refine wkH_cons rfl rfl rfl ?_ | refine wkH_up rfl (by assumption) ?_)))) ⟨0, [], 0, by omega, by omega, rfl, rfl, .inl ⟨rfl, rfl, rfl⟩⟩ ?_
  rintro a h ⟨i, fs, n, hi0, hi1, hfs, hn, (⟨hiz, rfl, rfl⟩ | ⟨hip, rfl, rfl⟩)⟩ w hw Q' hN hE hR'
  · have hi1 : i ≤ ps.length := hi1
    have hfs2 : i = 0 → spRows (ps.take i.toNat) = [] := by intro e; subst e; rfl
    generalize hM : ps.length - (iAt (fr 22 [(3, .nils), (6, .list 2 es), (7, .int .i64 N), (8, .int .i64 i)]) 8).toNat = M at hN
    cbv
    split <;> rename_i hc <;> rw [hw] at hc <;> simp only [std, binStd, cmpStd, unStd, scmpStd, maxI, Bool.not_eq_true', Bool.not_eq_false', decide_eq_true_eq, decide_eq_false_iff_not, Int.not_lt, Int.not_le, if_true, if_false, Bool.false_eq_true, beq_iff_eq, bne_iff_ne, ne_eq, Bool.not_eq_eq_eq_not, Bool.not_true, Bool.not_false, beq_eq_false_iff_ne, bne_eq_false_iff_eq, Int.ofNat_eq_natCast] at hc
    · have hc' : i < ps.length := by rw [← hN0, hes] at hc; simpa [std, spRows] using hc
      obtain ⟨l, u, hp, hr⟩ := get_sp ps i hi0 hc'
      have ei : w.1 .add .i64 i 1 = i + 1 := by rw [hw]; exact add64 (by omega) (by omega)
      refine Idx.mk [.int .i64 l, .int .i64 u] hi0 (by rw [hes]; exact hr) ?_
      cbv
      refine Ob.mk (by decide) (hN _ _ (fr 22 [(3, .sl 0 2 0 1), (6, .list 2 es), (7, .int .i64 N), (8, .int .i64 (i + 1))]) [.live 2 [[.int .i64 l, .int .i64 u]]] (by (refine Wk.ren (fun _ => 1) ?_ ?_ (by intro i j hi hj _; simp at hi hj; omega); (focus (repeat' (first | exact wkL_nil | exact wkAny | refine wkL_cons ?_ ?_ | exact wk0 rfl rfl | exact wkRef rfl rfl | exact wkSl rfl rfl | exact wkSlR rfl rfl rfl | exact wkSlR rfl rfl (by assumption) | exact wkI (by assumption) | exact wkU (by assumption) | exact wkE (by assumption) (by assumption)))); (repeat' (first | exact wkH_nil | refine wkH_cons rfl rfl rfl ?_ | refine wkH_up rfl (by assumption) ?_)))) ⟨i + 1, [[.int .i64 l, .int .i64 u]], 1, by omega, by omega, ?_, by omega, .inr ⟨by omega, rfl, rfl⟩⟩ (by rw [← hM]; exact meas hi0 hc'))
      rw [take_sp hi0 hp, hfs2 hiz]; rfl
    · refine hE _ _ _ ?_
      cbv
      refine ⟨_, Vw.nil 2, hR _ ⟨[], rfl, ?_⟩⟩
      have e : i.toNat = ps.length := by rw [← hN0, hes] at hc; exact end_i hi0 hi1 hc
      have e2 := hfs2 hiz
      rw [e, List.take_length] at e2
      exact e2.symm
  · have hi1 : i ≤ ps.length := hi1
    have hu2 : uptoLL 0 fs = true := by subst hfs; exact up_spRows _
    have hl2 : fs.length = n := by subst hfs; rw [len_spRows]; simp; omega
    generalize hM : ps.length - (iAt (fr 22 [(3, .sl 0 2 0 n), (6, .list 2 es), (7, .int .i64 N), (8, .int .i64 i)]) 8).toNat = M at hN
    cbv
    split <;> rename_i hc <;> rw [hw] at hc <;> simp only [std, binStd, cmpStd, unStd, scmpStd, maxI, Bool.not_eq_true', Bool.not_eq_false', decide_eq_true_eq, decide_eq_false_iff_not, Int.not_lt, Int.not_le, if_true, if_false, Bool.false_eq_true, beq_iff_eq, bne_iff_ne, ne_eq, Bool.not_eq_eq_eq_not, Bool.not_true, Bool.not_false, beq_eq_false_iff_ne, bne_eq_false_iff_eq, Int.ofNat_eq_natCast] at hc
    · have hc' : i < ps.length := by rw [← hN0, hes] at hc; simpa [std, spRows] using hc
      obtain ⟨l, u, hp, hr⟩ := get_sp ps i hi0 hc'
      have ei : w.1 .add .i64 i 1 = i + 1 := by rw [hw]; exact add64 (by omega) (by omega)
      refine Idx.mk [.int .i64 l, .int .i64 u] hi0 (by rw [hes]; exact hr) ?_
      cbv
      have hcap : (fs.length + 1) * 16 ≤ 140737488355328 := by rw [hl2]; exact cap_ok hi0 hi1 hlen hn
      refine Ob.mk ⟨hl2.symm, by omega, hcap⟩ ?_
      have hg0 : fs ++ [[.int .i64 l, .int .i64 u]] = spRows (ps.take (i + 1).toNat) := by rw [take_sp hi0 hp, ← hfs]
      subst hw
      dsimp only [std]
      obtain ⟨g, gs, hg⟩ : ∃ g gs, fs ++ [[.int .i64 l, .int .i64 u]] = g :: gs := by cases fs <;> exact ⟨_, _, rfl⟩
      have hgl : gs.length + 1 = n + 1 := by have := congrArg List.length hg; simp at this; omega
      have hgu : uptoLL 0 (g :: gs) = true := by rw [← hg, hg0]; exact up_spRows _
      have hgl' : n + 1 = gs.length + 1 := hgl.symm
      simp only [hg]
      refine hN _ _ (fr 22 [(3, .sl 0 2 0 (n + 1)), (6, .list 2 es), (7, .int .i64 N), (8, .int .i64 (i + 1))]) [.live 2 (g :: gs)] (by (refine Wk.ren (fun _ => 2) ?_ ?_ (by intro i j hi hj _; simp at hi hj; omega); (focus (repeat' (first | exact wkL_nil | exact wkAny | refine wkL_cons ?_ ?_ | exact wk0 rfl rfl | exact wkRef rfl rfl | exact wkSl rfl rfl | exact wkSlR rfl rfl rfl | exact wkSlR rfl rfl (by assumption) | exact wkI (by assumption) | exact wkU (by assumption) | exact wkE (by assumption) (by assumption)))); (repeat' (first | exact wkH_nil | refine wkH_cons rfl rfl rfl ?_ | refine wkH_up rfl (by assumption) ?_)))) ⟨i + 1, g :: gs, n + 1, by omega, by omega, by rw [← hg]; exact hg0, by omega, .inr ⟨by omega, rfl, rfl⟩⟩ (by rw [← hM]; exact meas hi0 hc')
    · refine hE _ _ _ ?_
      cbv
      refine ⟨_, Vw.sl rfl hu2 (by omega), hR _ ⟨_, rfl, ?_⟩⟩
      have e : i.toNat = ps.length := by rw [← hN0, hes] at hc; exact end_i hi0 hi1 hc
      rw [List.drop_zero, List.take_of_length_le (by omega), hfs, e, List.take_length]
end Go.Proofs.Ytkkjdodolnpfmaa
