/- The document's check of limits, by the engine. -/
import Derived.Test.YtkkjdodolnpfmaaLim5
import Derived.KernelRfl
set_option linter.unusedVariables false
set_option linter.unusedSimpArgs false
namespace Go.Proofs.Ytkkjdodolnpfmaa
open Go Go.RowKit Go.Eng
set_option maxRecDepth 100000
set_option maxHeartbeats 2000000 in
theorem e_rcheck (ls : List Li) (ss : List Sg) (gs : List Gr) (ls' es ds : List (List AV)) (hls : ls' = ls.map liRow) (hes : es = ss.map sgRow) (hds : ds = gs.map grRow) : PCalls Try.prog 36 [.agg [.list 3 es, .list 5 ds], .list 4 ls'] (fun r => ∃ e i, r = .tuple [.int .i64 e, .int .i64 i] ∧ ChkIs ss ls e i) := by
  have hu : Up0 es := by rw [hes]; exact up_sg ss
  have hud : Up0 ds := by rw [hds]; exact up_gr gs
  have hul : Up0 ls' := by rw [hls]; exact up_map (f := liRow) (fun d => rfl) ls
  have hel : es.length = ss.length := by rw [hes]; simp
  have hll : ls'.length = ls.length := by rw [hls]; simp
  (refine PCalls.ofY Try.func36 (by kernel_rfl) (by kernel_rfl) fun w hw R hR => ?_); (obtain ⟨wbin, wcmp, wun, wconv, wnot, wbeq, wmm, wscmp, wsadd, wslen, wsat, weqs, wlen, wnlen, wofNat, wtake, wdrop, wapp, wzero, wnat⟩ := w); (have hbin : wbin = binStd := congrArg Prims.bin hw); (have hcmp : wcmp = cmpStd := congrArg Prims.cmp hw); (have hun : wun = unStd := congrArg Prims.un hw); (have hconv : wconv = fun k n => k.wrap n := congrArg Prims.conv hw); (have hnot : wnot = fun b => !b := congrArg Prims.not hw); (have hbeq : wbeq = fun a b => a == b := congrArg Prims.beq hw); (have hmm : wmm = maxI := congrArg Prims.mm hw); (have hscmp : wscmp = scmpStd := congrArg Prims.scmp hw); (have hsadd : wsadd = fun x y => x ++ y := congrArg Prims.sadd hw); (have hslen : wslen = fun s => (s.size : Int) := congrArg Prims.slen hw); (have hsat : wsat = std.sat := congrArg Prims.sat hw); (have heqs : weqs = fun a b os => (eqOffs a b os).getD false := congrArg Prims.eqs hw); (have hlen : wlen = fun es => (es.length : Int) := congrArg Prims.len hw); (have hnlen : wnlen = fun es => es.length := congrArg Prims.nlen hw); (have hofNat : wofNat = (fun n : Nat => (n : Int)) := congrArg Prims.ofNat hw); (have htake : wtake = fun es b => es.take b.toNat := congrArg Prims.take hw); (have hdrop : wdrop = fun es a => es.drop a.toNat := congrArg Prims.drop hw); (have happ : wapp = fun a b => a ++ b := congrArg Prims.app hw); (have hzero : wzero = fun n z => List.replicate n.toNat z := congrArg Prims.zero hw); (have hnat : wnat = fun n => n.toNat := congrArg Prims.nat hw); (conv => arg 2; cbv); (generalize hP : Try.prog = P); cbv
  (obtain ⟨L, eL, L0, Ln⟩ : ∃ L : Int, wlen ls' = L ∧ 0 ≤ L ∧ L.toNat = ls'.length := ⟨(ls'.length : Int), by rw [hlen], Int.natCast_nonneg _, Int.toNat_natCast _⟩)
  (obtain ⟨J, eJ, J0, Jn⟩ : ∃ L : Int, wlen es = L ∧ 0 ≤ L ∧ L.toNat = es.length := ⟨(es.length : Int), by rw [hlen], Int.natCast_nonneg _, Int.toNat_natCast _⟩)
  have fin : ∀ e i : Int, ChkIs ss ls e i → R (.tuple [.int .i64 e, .int .i64 i]) := fun e i h => hR _ ⟨_, _, rfl, h⟩
  (split <;> rename_i h1 <;> (try (simp only [eL] at h1)) <;> (try (simp only [hbin, hcmp, hun, hconv, hnot, hbeq, hmm, hscmp, hsadd, hslen, hsat, heqs, hofNat, binStd, cmpStd, unStd, scmpStd, maxI, Bool.not_eq_true', Bool.not_eq_false', decide_eq_true_eq, decide_eq_false_iff_not, Int.not_lt, Int.not_le, if_true, if_false, Bool.false_eq_true, beq_iff_eq, bne_iff_ne, ne_eq, Bool.not_eq_eq_eq_not, Bool.not_true, Bool.not_false, beq_eq_false_iff_ne, bne_eq_false_iff_eq, Int.ofNat_eq_natCast, Bool.not_not, not_true_eq_false, not_false_eq_true, reduceCtorEq] at h1)) <;> (try cbv))
  · exact ⟨_, Vw.same rfl, fin _ _ (.inl ⟨by omega, rfl, rfl⟩)⟩
  have h400 : ls.length ≤ 400 := by omega
  refine Loop.data hw (S := Int) (fun i => fr 102 [(1, .list 4 ls'), (2, .ref 0 2 0 0), (6, .int .i64 i)]) (fun i => [.live 2 [[.list 3 es, .list 5 ds]]]) (fun i => 0 ≤ i ∧ i ≤ L ∧ ∀ j, j < i.toNat → ¬ RB ss ls j ∧ ¬ OB ls j) (fun i => (L - i).toNat) 0 (by (refine Wk.eqz (id) (by first | exact fun i _ j _ e => e | (simp only [List.length_cons, List.length_nil]; decide)) ?_; cbv; (repeat' (first | exact trivial | rfl | assumption | apply And.intro | (simp only [hbin, hcmp, hun, hconv, hnot, hbeq, hmm, hscmp, hsadd, hslen, hsat, heqs, hofNat, binStd, cmpStd, unStd, scmpStd, maxI, Bool.not_eq_true', Bool.not_eq_false', decide_eq_true_eq, decide_eq_false_iff_not, Int.not_lt, Int.not_le, if_true, if_false, Bool.false_eq_true, beq_iff_eq, bne_iff_ne, ne_eq, Bool.not_eq_eq_eq_not, Bool.not_true, Bool.not_false, beq_eq_false_iff_ne, bne_eq_false_iff_eq, Int.ofNat_eq_natCast, Bool.not_not, not_true_eq_false, not_false_eq_true, reduceCtorEq]; first | done | assumption) | exact RowsZ.same (by assumption) (by first | assumption | rfl) | exact FzL.mk rfl rfl rfl (by assumption) (by first | assumption | rfl) (by decide) | (refine RowsZ.one ?_; cbv))))) ⟨Int.le_refl _, L0, fun j hj => (by simp at hj)⟩ ?_
  rintro i hinv Q' hN hE hR'
  have hinv : 0 ≤ i ∧ i ≤ L ∧ ∀ j, j < i.toNat → ¬ RB ss ls j ∧ ¬ OB ls j := hinv
  cbv
  obtain ⟨hi0, hi1, hl⟩ := hinv
  (split <;> rename_i hc <;> (try (simp only [eL] at hc)) <;> (try (simp only [hbin, hcmp, hun, hconv, hnot, hbeq, hmm, hscmp, hsadd, hslen, hsat, heqs, hofNat, binStd, cmpStd, unStd, scmpStd, maxI, Bool.not_eq_true', Bool.not_eq_false', decide_eq_true_eq, decide_eq_false_iff_not, Int.not_lt, Int.not_le, if_true, if_false, Bool.false_eq_true, beq_iff_eq, bne_iff_ne, ne_eq, Bool.not_eq_eq_eq_not, Bool.not_true, Bool.not_false, beq_eq_false_iff_ne, bne_eq_false_iff_eq, Int.ofNat_eq_natCast, Bool.not_not, not_true_eq_false, not_false_eq_true, reduceCtorEq] at hc)) <;> (try cbv))
  · obtain ⟨⟨s, a, b, v⟩, hd, hrow⟩ := get_map (f := liRow) (ds := ls) (i := i) hi0 (by omega)
    have hrow : ls'[i.toNat]? = some [.int .i64 s, .int .i64 a, .int .i64 b, .int .i64 v] := by rw [hls]; exact hrow
    obtain ⟨i', ei'⟩ : ∃ x, i + 1 = x := ⟨_, rfl⟩
    obtain ⟨im, eim⟩ : ∃ x, i - 1 = x := ⟨_, rfl⟩
    have ei : wbin .add .i64 i 1 = i' := by rw [hbin, i_add (by omega) (by omega)]; exact ei'
    have em : wbin .sub .i64 i 1 = im := by rw [hbin, i_sub (by omega) (by omega)]; exact eim
    have hT : (L - i').toNat < (L - i).toNat := by omega
    obtain ⟨s', a', b', v', hp'⟩ : ∃ s' a' b' v', Fct (0 < i → 0 ≤ im ∧ ls[i.toNat - 1]? = some ⟨s', a', b', v'⟩ ∧ ls'[im.toNat]? = some [.int .i64 s', .int .i64 a', .int .i64 b', .int .i64 v']) := by
      by_cases h : 0 < i
      · obtain ⟨⟨s', a', b', v'⟩, k1, k2⟩ := get_map (f := liRow) (ds := ls) (i := im) (by omega) (by omega)
        exact ⟨s', a', b', v', ⟨fun _ => ⟨by omega, by rw [← k1]; congr 1; omega, by rw [hls]; exact k2⟩⟩⟩
      · exact ⟨0, 0, 0, 0, ⟨fun h' => absurd h' h⟩⟩
    have hJ : J.toNat = ss.length ∧ 0 ≤ J := ⟨by omega, J0⟩
    obtain ⟨len, q1, n1, sg, hrs⟩ : ∃ (len : Int) (q1 n1 : List (List AV)) (sg : Sg), Fct (0 ≤ s ∧ s < J → es[s.toNat]? = some [.int .i64 len, .list 2 q1, .list 1 n1] ∧ ss[s.toNat]? = some sg ∧ sg.len = len) := by
      by_cases h : 0 ≤ s ∧ s < J
      · obtain ⟨⟨len, ps, nx⟩, k1, k2⟩ := get_map (f := sgRow) (ds := ss) (i := s) h.1 (by omega)
        exact ⟨len, _, _, _, ⟨fun _ => ⟨by rw [hes]; exact k2, k1, rfl⟩⟩⟩
      · exact ⟨0, [], [], ⟨0, [], []⟩, ⟨fun h' => absurd h' h⟩⟩
    have bad : ¬ (0 ≤ s ∧ s < J ∧ 0 ≤ a ∧ a ≤ b ∧ b ≤ len ∧ 0 ≤ v ∧ v ≤ 16777216) → RB ss ls i.toNat := fun hn => rb_of hd hrs.h hJ hn
    have good : (0 ≤ s ∧ s < J ∧ 0 ≤ a ∧ a ≤ b ∧ b ≤ len ∧ 0 ≤ v ∧ v ≤ 16777216) → ¬ RB ss ls i.toNat := fun hn => not_rb hd hrs.h hJ hn
    have obad : 0 < i → (s < s' ∨ s = s' ∧ a < a') → OB ls i.toNat := fun hp h => ⟨_, _, pos_nat hp, hd, (hp'.h hp).2.1, h⟩
    have ogood : (0 < i → ¬ (s < s' ∨ s = s' ∧ a < a')) → ¬ OB ls i.toNat := fun h => not_ob hd (fun hp => (hp'.h (pos_of hi0 hp)).2.1) (fun hp => h (pos_of hi0 hp))
    have f10 : ¬ (0 ≤ s ∧ s < J ∧ 0 ≤ a ∧ a ≤ b ∧ b ≤ len ∧ 0 ≤ v ∧ v ≤ 16777216) → R (.tuple [.int .i64 10, .int .i64 i]) := fun h => fin _ _ (.inr ⟨h400, .inr ⟨i.toNat, rfl, hi0, hl, .inl ⟨bad h, rfl⟩⟩⟩)
    have f11 : (0 ≤ s ∧ s < J ∧ 0 ≤ a ∧ a ≤ b ∧ b ≤ len ∧ 0 ≤ v ∧ v ≤ 16777216) → 0 < i → (s < s' ∨ s = s' ∧ a < a') → R (.tuple [.int .i64 11, .int .i64 i]) := fun h hp ho => fin _ _ (.inr ⟨h400, .inr ⟨i.toNat, rfl, hi0, hl, .inr ⟨good h, obad hp ho, rfl⟩⟩⟩)
    have next : (0 ≤ s ∧ s < J ∧ 0 ≤ a ∧ a ≤ b ∧ b ≤ len ∧ 0 ≤ v ∧ v ≤ 16777216) → (0 < i → ¬ (s < s' ∨ s = s' ∧ a < a')) → ∀ j, j < i'.toNat → ¬ RB ss ls j ∧ ¬ OB ls j := by
      intro h ho
      rw [← ei']
      exact all_step hi0 hl ⟨good h, ogood ho⟩
    repeat' (first
      | (refine hR' _ _ ⟨_, Vw.same rfl, f10 ?_⟩; clear hN hE hR' hR; omega)
      | (refine hR' _ _ ⟨_, Vw.same rfl, f11 ?_ ?_ ?_⟩ <;> (clear hN hE hR' hR; omega))
      | (refine Idx.mk [.int .i64 s, .int .i64 a, .int .i64 b, .int .i64 v] hi0 hrow ?_; cbv)
      | (refine Idx.mk [.int .i64 len, .list 2 q1, .list 1 n1] (by assumption) (hrs.h ⟨by assumption, by assumption⟩).1 ?_; cbv)
      | (simp only [em]; refine Idx.mk [.int .i64 s', .int .i64 a', .int .i64 b', .int .i64 v'] (hp'.h (by assumption)).1 (hp'.h (by assumption)).2.2 ?_; cbv)
      | (split <;> rename_i h <;> (try (simp only [eJ] at h)) <;> (try (simp only [hbin, hcmp, hun, hconv, hnot, hbeq, hmm, hscmp, hsadd, hslen, hsat, heqs, hofNat, binStd, cmpStd, unStd, scmpStd, maxI, Bool.not_eq_true', Bool.not_eq_false', decide_eq_true_eq, decide_eq_false_iff_not, Int.not_lt, Int.not_le, if_true, if_false, Bool.false_eq_true, beq_iff_eq, bne_iff_ne, ne_eq, Bool.not_eq_eq_eq_not, Bool.not_true, Bool.not_false, beq_eq_false_iff_ne, bne_eq_false_iff_eq, Int.ofNat_eq_natCast, Bool.not_not, not_true_eq_false, not_false_eq_true, reduceCtorEq] at h)) <;> (try cbv)))
    all_goals
      refine hN i' _ _ ?hx ?hi hT
      case hx => (refine Wk.eqz (id) (by first | exact fun i _ j _ e => e | (simp only [List.length_cons, List.length_nil]; decide)) ?_; cbv; (repeat' (first | exact trivial | rfl | assumption | apply And.intro | (simp only [hbin, hcmp, hun, hconv, hnot, hbeq, hmm, hscmp, hsadd, hslen, hsat, heqs, hofNat, binStd, cmpStd, unStd, scmpStd, maxI, Bool.not_eq_true', Bool.not_eq_false', decide_eq_true_eq, decide_eq_false_iff_not, Int.not_lt, Int.not_le, if_true, if_false, Bool.false_eq_true, beq_iff_eq, bne_iff_ne, ne_eq, Bool.not_eq_eq_eq_not, Bool.not_true, Bool.not_false, beq_eq_false_iff_ne, bne_eq_false_iff_eq, Int.ofNat_eq_natCast, Bool.not_not, not_true_eq_false, not_false_eq_true, reduceCtorEq]; first | done | assumption) | exact RowsZ.same (by assumption) (by first | assumption | rfl) | exact FzL.mk rfl rfl rfl (by assumption) (by first | assumption | rfl) (by decide) | (refine RowsZ.one ?_; cbv))))
      case hi => exact ⟨by omega, by omega, next ⟨by omega, by omega, by omega, by omega, by omega, by omega, by omega⟩ (by omega)⟩
  · refine hE _ _ _ ?_
    cbv
    exact ⟨_, Vw.same rfl, fin _ _ (.inr ⟨h400, .inl ⟨fun j hj => hl j (by omega), rfl, rfl⟩⟩)⟩
end Go.Proofs.Ytkkjdodolnpfmaa
