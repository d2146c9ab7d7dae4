/- Texts of the proof, joined by wip/tools/pack3.py. -/
import Derived.Test.YtpiocfmdjgbamaaCoreP0
import Derived.KernelRfl
import Derived.Shelf.SlSortCmp.NoneTotal
/- route.grower.grow at depth 7. Printed by wip/tools/genroute.py. -/
set_option linter.unusedVariables false
set_option linter.unusedSimpArgs false
namespace Go.Proofs.Ytpiocfmdjgbamaa
open Go Go.RowKit Go.Eng
set_option maxRecDepth 100000
set_option maxHeartbeats 2000000 in
theorem e_grow7 (ss : List Sg) (gs : List Gr) (es ds : List (List AV)) (hes : es = ss.map sgRow) (hds : ds = gs.map grRow) (hln : LensOk ss) (hnx : NextOk ss) (lo hi : Int) (x0 x1 x2 x3 x4 x5 x6 : Int) : GrowC ss es ds lo hi 6 [x0, x1, x2, x3, x4, x5, x6] := by
  have hu : Up0 es := by rw [hes]; exact up_sg ss
  have hud : Up0 ds := by rw [hds]; exact up_gr gs
  intro en e m hok he hen hl K hK
  have hlast := hl x6 (by simp)
  obtain ⟨sg0, hd0, hrow0⟩ := get_map (f := sgRow) (ds := ss) (i := x6) hlast.1 hlast.2
  have hnxe : nxAt ss x6 = sg0.nx := by unfold nxAt; rw [hd0]
  have hnx0 : ∀ n, n ∈ sg0.nx → 0 ≤ n ∧ n.toNat < ss.length := fun n hn => nxAt_ok hnx (by rw [hnxe]; exact hn)
  have hnx2 : sg0.nx.length ≤ 2 := by have := nxAt_two hnx x6; rw [hnxe] at this; exact this
  have hF : growF ss lo hi 6 [x0, x1, x2, x3, x4, x5, x6] en (e, m) = (if e ≠ 0 then (e, m) else if hi ≤ en ∨ sg0.nx = [] then (if 16 < (if lo ≤ en then putL m [x0, x1, x2, x3, x4, x5, x6] else m).length then 13 else 0, if lo ≤ en then putL m [x0, x1, x2, x3, x4, x5, x6] else m) else sg0.nx.foldl (fun s n => growF ss lo hi 5 [x0, x1, x2, x3, x4, x5, x6, n] (en + lenAt ss n) s) (e, m)) := by
    rw [← hnxe]; rfl
  rw [hF] at hK
  obtain ⟨len, pcs, nx⟩ := sg0
  obtain ⟨q0, eq0⟩ : ∃ x, pcs.map pcRow = x := ⟨_, rfl⟩
  obtain ⟨ns, ens⟩ : ∃ x, nx.map nxRow = x := ⟨_, rfl⟩
  have huns : Up0 ns := by rw [← ens]; exact up_nx nx
  have hnl : ns.length = nx.length := by rw [← ens]; simp
  have hrow0 : es[x6.toNat]? = some [.int .i64 len, .list 2 q0, .list 1 ns] := by rw [hes, ← eq0, ← ens]; exact hrow0
  have hput := put_ents m [x0, x1, x2, x3, x4, x5, x6] (by simp only [List.length_cons, List.length_nil]; omega) (fun j hj => (hok.all j hj).1)
  obtain ⟨em, eem⟩ : ∃ x, ents m = x := ⟨_, rfl⟩
  obtain ⟨em2, eem2⟩ : ∃ x, ents (putL m [x0, x1, x2, x3, x4, x5, x6]) = x := ⟨_, rfl⟩
  have hum : Up0 em := by rw [← eem]; exact up_ents m
  have htwo : ∀ e, e ∈ em → e.length = 2 := by rw [← eem]; exact ents_two m
  have htwo2 : ∀ e, e ∈ em2 → e.length = 2 := by rw [← eem2]; exact ents_two _
  have heml : em.length = m.length := by rw [← eem]; exact ents_len m
  have heml2 : em2.length = (putL m [x0, x1, x2, x3, x4, x5, x6]).length := by rw [← eem2]; exact ents_len _
  rw [eem, eem2] at hput
  rw [eem]
  have hnxs : ∀ n, n ∈ nx → 0 ≤ n ∧ n.toNat < ss.length := hnx0
  have hnx2 : nx.length ≤ 2 := hnx2
  show ACall Try.prog 55 [.ref 0 6 0 0, .agg [.int .i64 7, .int .i64 x0, .int .i64 x1, .int .i64 x2, .int .i64 x3, .int .i64 x4, .int .i64 x5, .int .i64 x6, .int .i64 0, .int .i64 0, .int .i64 0, .int .i64 0, .int .i64 0], .int .i64 en] [.live 6 [gRow es ds lo hi 1 e], .live 0 em] K
  (refine ACall.ofI Try.func55 (by kernel_rfl) (by kernel_rfl) fun w hw => ?_); (obtain ⟨wbin, wcmp, wun, wconv, wnot, wbeq, wmm, wscmp, wsadd, wslen, wsat, weqs, wlen, wnlen, wofNat, wtake, wdrop, wapp, wzero, wnat⟩ := w); (have hbin := Z.w1 hw); (have hcmp := Z.w2 hw); (have hun := Z.w3 hw); (have hconv := Z.w4 hw); (have hnot := Z.w5 hw); (have hbeq := Z.w6 hw); (have hmm := Z.w7 hw); (have hscmp := Z.w8 hw); (have hsadd := Z.w9 hw); (have hslen := Z.w10 hw); (have hsat := Z.w11 hw); (have heqs := Z.w12 hw); (have hlen := Z.w13 hw); (have hnlen := Z.w14 hw); (have hofNat := Z.w15 hw); (have htake := Z.w16 hw); (have hdrop := Z.w17 hw); (have happ := Z.w18 hw); (have hzero := Z.w19 hw); (have hnat := Z.w20 hw); (conv => arg 2; cbv); (generalize hP : Try.prog = P); cbv
  have s1 : wbin .sub .i64 7 1 = 6 := by rw [hbin]; rfl
  simp only [s1]
  refine InN.mk (by decide) (by decide) ?_
  cbv
  repeat' (first
    | (refine RowOf.mk _ rfl ?_; cbv)
    | (refine Idx.mk _ hlast.1 hrow0 ?_; cbv))
  have hKz : e = 0 → (hi ≤ en ∨ nx = []) → ∀ j, K (.tuple []) (.live 6 [gRow es ds lo hi 1 (if 16 < (if lo ≤ en then putL m [x0, x1, x2, x3, x4, x5, x6] else m).length then 13 else 0)] :: .live 0 (ents (if lo ≤ en then putL m [x0, x1, x2, x3, x4, x5, x6] else m)) :: j) := fun h0 hc j => by
    have := hK j
    rw [if_neg (by simp [h0]), if_pos hc] at this
    exact this
  rcases he with rfl | rfl
  rotate_left 1
  · have c0 : wcmp .neq 13 0 = true := by rw [hcmp]; rfl
    simp only [c0]
    cbv
    have := hK [.live 13 [[.int .i64 7, .int .i64 x0, .int .i64 x1, .int .i64 x2, .int .i64 x3, .int .i64 x4, .int .i64 x5, .int .i64 x6, .int .i64 0, .int .i64 0, .int .i64 0, .int .i64 0, .int .i64 0]]]
    rw [if_pos (by decide), eem] at this
    exact this
  have c0 : wcmp .neq 0 0 = false := by rw [hcmp]; rfl
  simp only [c0]
  cbv
  (obtain ⟨L, eL, L0, Ln⟩ : ∃ L : Int, wlen ns = L ∧ 0 ≤ L ∧ L.toNat = ns.length := ⟨(ns.length : Int), by rw [hlen], Int.natCast_nonneg _, Int.toNat_natCast _⟩)
  have hKz := hKz rfl
  have n0 : nx = [] ↔ L = 0 := by rw [← List.length_eq_zero_iff, ← hnl, ← Ln]; omega
  have blockA : (hi ≤ en ∨ nx = []) → (lo ≤ en → ∀ j, K (.tuple []) (.live 6 [gRow es ds lo hi 1 (if (16 : Int) < em2.length then 13 else 0)] :: .live 0 em2 :: j)) ∧ (en < lo → ∀ j, K (.tuple []) (.live 6 [gRow es ds lo hi 1 0] :: .live 0 em :: j)) := fun hA => by
    refine ⟨fun hlo j => ?_, fun hlo j => ?_⟩
    · have := hKz hA j
      rw [if_pos hlo, eem2] at this
      by_cases hq : 16 < (putL m [x0, x1, x2, x3, x4, x5, x6]).length
      · rw [if_pos hq] at this
        rw [if_pos (by rw [heml2]; omega)]
        exact this
      · rw [if_neg hq] at this
        rw [if_neg (by rw [heml2]; omega)]
        exact this
    · have := hKz hA j
      rw [if_neg (show ¬ lo ≤ en by omega), eem, if_neg (show ¬ 16 < m.length by have := hok.few rfl; simp only at this; omega)] at this
      exact this
  obtain ⟨n1, en1⟩ : ∃ n : Int, n = em.length := ⟨_, rfl⟩
  obtain ⟨n2, en2⟩ : ∃ n : Int, n = em2.length := ⟨_, rfl⟩
  have h16 : n1 ≤ 16 := by have := hok.few rfl; simp only at this; omega
  simp only [← en2] at blockA
  have lm1 : ∀ {K' : AV → AHeap → Prop} {hp : AHeap} {c : Go.Call} {ty t kt et : TypeId} {x : Operand}, hp[1]? = some (.live 0 em) → c.callee = .builtin .len → c.args = #[x] → c.argTypes = #[t] → P.underlying t = some (.map kt et) → K' (.int .i64 n1) hp → Xo P (.call c) ty [.mapr 1] hp K' := fun h1 h2 h3 h4 h5 h6 => Xo.lenm h2 h3 h4 h5 h1 htwo n1 en1 h6
  have lm2 : ∀ {K' : AV → AHeap → Prop} {hp : AHeap} {c : Go.Call} {ty t kt et : TypeId} {x : Operand}, hp[1]? = some (.live 0 em2) → c.callee = .builtin .len → c.args = #[x] → c.argTypes = #[t] → P.underlying t = some (.map kt et) → K' (.int .i64 n2) hp → Xo P (.call c) ty [.mapr 1] hp K' := fun h1 h2 h3 h4 h5 h6 => Xo.lenm h2 h3 h4 h5 h1 htwo2 n2 en2 h6
  (split <;> rename_i h1 <;> (try (simp only [hbin, hcmp, hun, hconv, hnot, hbeq, hmm, hscmp, hsadd, hslen, hsat, heqs, hofNat, binStd, cmpStd, unStd, scmpStd, maxI, Z.z1, Z.z2, Z.z3, Z.z4, Z.z5, Z.z6, if_true, if_false, Z.z7, beq_iff_eq, bne_iff_ne, ne_eq, Z.z8, Z.z9, Z.y1, beq_eq_false_iff_ne, bne_eq_false_iff_eq, Z.y2, Z.y3, Z.y4, Z.y5, reduceCtorEq] at h1)) <;> (try cbv))
  · obtain ⟨hy, hno⟩ := blockA (.inl h1)
    clear blockA hKz
    (split <;> rename_i h3 <;> (try (simp only [hbin, hcmp, hun, hconv, hnot, hbeq, hmm, hscmp, hsadd, hslen, hsat, heqs, hofNat, binStd, cmpStd, unStd, scmpStd, maxI, Z.z1, Z.z2, Z.z3, Z.z4, Z.z5, Z.z6, if_true, if_false, Z.z7, beq_iff_eq, bne_iff_ne, ne_eq, Z.z8, Z.z9, Z.y1, beq_eq_false_iff_ne, bne_eq_false_iff_eq, Z.y2, Z.y3, Z.y4, Z.y5, reduceCtorEq] at h3)) <;> (try cbv))
    · refine Put.mk em2 rfl hput ?_
      cbv
      refine lm2 (kt := 39) (et := 3) rfl rfl rfl rfl (by rw [← hP]; kernel_rfl) ?_
      cbv
      (split <;> rename_i h4 <;> (try (simp only [hbin, hcmp, hun, hconv, hnot, hbeq, hmm, hscmp, hsadd, hslen, hsat, heqs, hofNat, binStd, cmpStd, unStd, scmpStd, maxI, Z.z1, Z.z2, Z.z3, Z.z4, Z.z5, Z.z6, if_true, if_false, Z.z7, beq_iff_eq, bne_iff_ne, ne_eq, Z.z8, Z.z9, Z.y1, beq_eq_false_iff_ne, bne_eq_false_iff_eq, Z.y2, Z.y3, Z.y4, Z.y5, reduceCtorEq] at h4)) <;> (try cbv))
      · have := hy h3 [.live 13 [[.int .i64 7, .int .i64 x0, .int .i64 x1, .int .i64 x2, .int .i64 x3, .int .i64 x4, .int .i64 x5, .int .i64 x6, .int .i64 0, .int .i64 0, .int .i64 0, .int .i64 0, .int .i64 0]]]
        rw [if_pos (by omega)] at this
        exact this
      · have := hy h3 [.live 13 [[.int .i64 7, .int .i64 x0, .int .i64 x1, .int .i64 x2, .int .i64 x3, .int .i64 x4, .int .i64 x5, .int .i64 x6, .int .i64 0, .int .i64 0, .int .i64 0, .int .i64 0, .int .i64 0]]]
        rw [if_neg (by omega)] at this
        exact this
    · refine lm1 (kt := 39) (et := 3) rfl rfl rfl rfl (by rw [← hP]; kernel_rfl) ?_
      cbv
      (split <;> rename_i h4 <;> (try (simp only [hbin, hcmp, hun, hconv, hnot, hbeq, hmm, hscmp, hsadd, hslen, hsat, heqs, hofNat, binStd, cmpStd, unStd, scmpStd, maxI, Z.z1, Z.z2, Z.z3, Z.z4, Z.z5, Z.z6, if_true, if_false, Z.z7, beq_iff_eq, bne_iff_ne, ne_eq, Z.z8, Z.z9, Z.y1, beq_eq_false_iff_ne, bne_eq_false_iff_eq, Z.y2, Z.y3, Z.y4, Z.y5, reduceCtorEq] at h4)) <;> (try cbv))
      · exfalso; omega
      · exact hno h3 [.live 13 [[.int .i64 7, .int .i64 x0, .int .i64 x1, .int .i64 x2, .int .i64 x3, .int .i64 x4, .int .i64 x5, .int .i64 x6, .int .i64 0, .int .i64 0, .int .i64 0, .int .i64 0, .int .i64 0]]]
  · simp only [eL]
    (split <;> rename_i h2 <;> (try (simp only [hbin, hcmp, hun, hconv, hnot, hbeq, hmm, hscmp, hsadd, hslen, hsat, heqs, hofNat, binStd, cmpStd, unStd, scmpStd, maxI, Z.z1, Z.z2, Z.z3, Z.z4, Z.z5, Z.z6, if_true, if_false, Z.z7, beq_iff_eq, bne_iff_ne, ne_eq, Z.z8, Z.z9, Z.y1, beq_eq_false_iff_ne, bne_eq_false_iff_eq, Z.y2, Z.y3, Z.y4, Z.y5, reduceCtorEq] at h2)) <;> (try cbv))
    · obtain ⟨hy, hno⟩ := blockA (.inr (n0.2 h2))
      clear blockA hKz
      (split <;> rename_i h3 <;> (try (simp only [hbin, hcmp, hun, hconv, hnot, hbeq, hmm, hscmp, hsadd, hslen, hsat, heqs, hofNat, binStd, cmpStd, unStd, scmpStd, maxI, Z.z1, Z.z2, Z.z3, Z.z4, Z.z5, Z.z6, if_true, if_false, Z.z7, beq_iff_eq, bne_iff_ne, ne_eq, Z.z8, Z.z9, Z.y1, beq_eq_false_iff_ne, bne_eq_false_iff_eq, Z.y2, Z.y3, Z.y4, Z.y5, reduceCtorEq] at h3)) <;> (try cbv))
      · refine Put.mk em2 rfl hput ?_
        cbv
        refine lm2 (kt := 39) (et := 3) rfl rfl rfl rfl (by rw [← hP]; kernel_rfl) ?_
        cbv
        (split <;> rename_i h4 <;> (try (simp only [hbin, hcmp, hun, hconv, hnot, hbeq, hmm, hscmp, hsadd, hslen, hsat, heqs, hofNat, binStd, cmpStd, unStd, scmpStd, maxI, Z.z1, Z.z2, Z.z3, Z.z4, Z.z5, Z.z6, if_true, if_false, Z.z7, beq_iff_eq, bne_iff_ne, ne_eq, Z.z8, Z.z9, Z.y1, beq_eq_false_iff_ne, bne_eq_false_iff_eq, Z.y2, Z.y3, Z.y4, Z.y5, reduceCtorEq] at h4)) <;> (try cbv))
        · have := hy h3 [.live 13 [[.int .i64 7, .int .i64 x0, .int .i64 x1, .int .i64 x2, .int .i64 x3, .int .i64 x4, .int .i64 x5, .int .i64 x6, .int .i64 0, .int .i64 0, .int .i64 0, .int .i64 0, .int .i64 0]]]
          rw [if_pos (by omega)] at this
          exact this
        · have := hy h3 [.live 13 [[.int .i64 7, .int .i64 x0, .int .i64 x1, .int .i64 x2, .int .i64 x3, .int .i64 x4, .int .i64 x5, .int .i64 x6, .int .i64 0, .int .i64 0, .int .i64 0, .int .i64 0, .int .i64 0]]]
          rw [if_neg (by omega)] at this
          exact this
      · refine lm1 (kt := 39) (et := 3) rfl rfl rfl rfl (by rw [← hP]; kernel_rfl) ?_
        cbv
        (split <;> rename_i h4 <;> (try (simp only [hbin, hcmp, hun, hconv, hnot, hbeq, hmm, hscmp, hsadd, hslen, hsat, heqs, hofNat, binStd, cmpStd, unStd, scmpStd, maxI, Z.z1, Z.z2, Z.z3, Z.z4, Z.z5, Z.z6, if_true, if_false, Z.z7, beq_iff_eq, bne_iff_ne, ne_eq, Z.z8, Z.z9, Z.y1, beq_eq_false_iff_ne, bne_eq_false_iff_eq, Z.y2, Z.y3, Z.y4, Z.y5, reduceCtorEq] at h4)) <;> (try cbv))
        · exfalso; omega
        · exact hno h3 [.live 13 [[.int .i64 7, .int .i64 x0, .int .i64 x1, .int .i64 x2, .int .i64 x3, .int .i64 x4, .int .i64 x5, .int .i64 x6, .int .i64 0, .int .i64 0, .int .i64 0, .int .i64 0, .int .i64 0]]]
    · have hK := hK
      have ck : wcmp .eql 7 12 = false := by rw [hcmp]; rfl
      have a1 : wbin .add .i64 7 1 = 8 := by rw [hbin]; rfl
      have a2 : wbin .sub .i64 8 1 = 7 := by rw [hbin]; rfl
      have hnh : ¬ (hi ≤ en ∨ nx = []) := by rw [n0]; omega
      have hen' : -1099511627776 ≤ en ∧ en ≤ 7 * 1099511627776 := hen
      have hKl : ∀ s', s' = nx.foldl (fun s n => growF ss lo hi 5 [x0, x1, x2, x3, x4, x5, x6, n] (en + lenAt ss n) s) (0, m) → ∀ j, K (.tuple []) (.live 6 [gRow es ds lo hi 1 s'.1] :: .live 0 (ents s'.2) :: j) := fun s' hs' j => by
        have := hK j
        rw [if_neg (by decide), if_neg hnh] at this
        rw [hs']
        exact this
      clear hK blockA hKz lm1 lm2
      simp only [ck]
      cbv
      simp only [a1]
      repeat' (first
        | (refine RowOf.mk _ rfl ?_; cbv)
        | (simp only [a1]; cbv)
        | (refine SetRow.mk _ _ rfl rfl ?_; cbv))
      simp only [eL]
      refine Loop.dataN hw (S := Int × Int × (Int × List (List Int)) × List (List AV)) (fun s => fr 103 [(0, .ref 0 6 0 0), (2, .int .i64 en), (4, .ref 2 13 0 0), (76, .list 1 ns), (77, .int .i64 L), (78, .int .i64 s.1)])
        (fun s => [.live 6 [[.list 3 es, .list 5 ds, .int .i64 lo, .int .i64 hi, .mapr 1, .int .i64 s.2.2.1.1]], .live 0 s.2.2.2, .live 13 [[.int .i64 8, .int .i64 x0, .int .i64 x1, .int .i64 x2, .int .i64 x3, .int .i64 x4, .int .i64 x5, .int .i64 x6, .int .i64 s.2.1, .int .i64 0, .int .i64 0, .int .i64 0, .int .i64 0]]])
        (fun s => 0 ≤ s.1 ∧ s.1 ≤ L ∧ s.2.2.1 = (nx.take s.1.toNat).foldl (fun s n => growF ss lo hi 5 [x0, x1, x2, x3, x4, x5, x6, n] (en + lenAt ss n) s) (0, m) ∧ GOk s.2.2.1 ∧ (s.2.2.1.1 = 0 ∨ s.2.2.1.1 = 13) ∧ s.2.2.2 = ents s.2.2.1.2 ∧ Up0 s.2.2.2) (fun s => (L - s.1).toNat) (0, 0, (0, m), em) (by (refine Wk.eqzN (id) (by intro i hi; first | rfl | (have hh : i = 0 ∨ i = 1 := (by omega); rcases hh with hh | hh <;> subst hh <;> rfl)) (Nat.le_of_ble_eq_true rfl) (by first | exact fun i _ j _ e => e | (simp only [List.length_cons, List.length_nil]; decide)) ?_; cbv; (repeat' (first | exact trivial | rfl | assumption | apply And.intro | (simp only [hbin, hcmp, hun, hconv, hnot, hbeq, hmm, hscmp, hsadd, hslen, hsat, heqs, hofNat, binStd, cmpStd, unStd, scmpStd, maxI, Z.z1, Z.z2, Z.z3, Z.z4, Z.z5, Z.z6, if_true, if_false, Z.z7, beq_iff_eq, bne_iff_ne, ne_eq, Z.z8, Z.z9, Z.y1, beq_eq_false_iff_ne, bne_eq_false_iff_eq, Z.y2, Z.y3, Z.y4, Z.y5, reduceCtorEq]; first | done | assumption) | exact RowsZ.same (by assumption) (by first | assumption | rfl) | exact FzL.mk rfl rfl rfl (by assumption) (by first | assumption | rfl) (by decide) | (refine RowsZ.one ?_; cbv))))) ⟨Int.le_refl _, L0, rfl, hok, .inl rfl, eem.symm, hum⟩ ?_
      rintro ⟨i, y, ⟨e, m'⟩, em'⟩ hinv Q' hN hE hR'
      have hinv : 0 ≤ i ∧ i ≤ L ∧ (e, m') = (nx.take i.toNat).foldl (fun s n => growF ss lo hi 5 [x0, x1, x2, x3, x4, x5, x6, n] (en + lenAt ss n) s) (0, m) ∧ GOk (e, m') ∧ (e = 0 ∨ e = 13) ∧ em' = ents m' ∧ Up0 em' := hinv
      cbv
      obtain ⟨hi0, hi1, hfold, hok', he', hem', hum'⟩ := hinv
      (split <;> rename_i hc <;> (try (simp only [hbin, hcmp, hun, hconv, hnot, hbeq, hmm, hscmp, hsadd, hslen, hsat, heqs, hofNat, binStd, cmpStd, unStd, scmpStd, maxI, Z.z1, Z.z2, Z.z3, Z.z4, Z.z5, Z.z6, if_true, if_false, Z.z7, beq_iff_eq, bne_iff_ne, ne_eq, Z.z8, Z.z9, Z.y1, beq_eq_false_iff_ne, bne_eq_false_iff_eq, Z.y2, Z.y3, Z.y4, Z.y5, reduceCtorEq] at hc)) <;> (try cbv))
      · have hit : i.toNat < nx.length := by omega
        obtain ⟨n, hn⟩ : ∃ n, nx[i.toNat]? = some n := ⟨_, List.getElem?_eq_getElem hit⟩
        have hni : ns[i.toNat]? = some (nxRow n) := by rw [← ens, List.getElem?_map, hn]; rfl
        have hnb := hnxs n (List.mem_of_getElem? hn)
        obtain ⟨sg1, hd1, hrow1⟩ := get_map (f := sgRow) (ds := ss) (i := n) hnb.1 hnb.2
        have hle : lenAt ss n = sg1.len := by unfold lenAt; rw [hd1]
        have hl1 := hln.pos sg1 (List.mem_of_getElem? hd1)
        obtain ⟨len1, pcs1, nx1⟩ := sg1
        have hl1 : 1 ≤ len1 ∧ len1 ≤ 1099511627776 := hl1
        have hle : lenAt ss n = len1 := hle
        obtain ⟨q1, eq1⟩ : ∃ x, pcs1.map pcRow = x := ⟨_, rfl⟩
        obtain ⟨q2, eq2⟩ : ∃ x, nx1.map nxRow = x := ⟨_, rfl⟩
        have hrow1 : es[n.toNat]? = some [.int .i64 len1, .list 2 q1, .list 1 q2] := by rw [hes, ← eq1, ← eq2]; exact hrow1
        have hs2 : (growF ss lo hi 5 [x0, x1, x2, x3, x4, x5, x6, n] (en + len1) (e, m')) = (nx.take (i + 1).toNat).foldl (fun s n => growF ss lo hi 5 [x0, x1, x2, x3, x4, x5, x6, n] (en + lenAt ss n) s) (0, m) := by
          rw [take_next hi0 hn, List.foldl_append, ← hfold, List.foldl_cons, List.foldl_nil, hle]
        have hok2 := growF_ok ss lo hi 5 [x0, x1, x2, x3, x4, x5, x6, n] (en + len1) (e, m') hok' (by simp only [List.length_cons, List.length_nil]; omega)
        have he2 := growF_e ss lo hi 5 [x0, x1, x2, x3, x4, x5, x6, n] (en + len1) (e, m') he'
        have a3 : wbin .add .i64 en len1 = en + len1 := by rw [hbin]; show IntKind.i64.wrap (en + len1) = en + len1; rw [IntKind.wrap_i64]; omega
        obtain ⟨en2, een2⟩ : ∃ z, z = en + len1 := ⟨_, rfl⟩
        rw [← een2] at hs2 hok2 he2 a3
        have hen2 : -1099511627776 ≤ en2 ∧ en2 ≤ lenI [x0, x1, x2, x3, x4, x5, x6, n] * 1099511627776 := by simp only [lenI]; omega
        have hl2 : ∀ x, x ∈ [x0, x1, x2, x3, x4, x5, x6, n] → 0 ≤ x ∧ x.toNat < ss.length := fun x hx => by
          have : x ∈ [x0, x1, x2, x3, x4, x5, x6] ∨ x = n := by simpa [or_assoc] using hx
          rcases this with h | rfl
          · exact hl x h
          · exact hnb
        obtain ⟨⟨e3, m3⟩, es3⟩ : ∃ s', growF ss lo hi 5 [x0, x1, x2, x3, x4, x5, x6, n] en2 (e, m') = s' := ⟨_, rfl⟩
        obtain ⟨em3, eem3⟩ : ∃ x, x = ents m3 := ⟨_, rfl⟩
        have hum3 : Up0 em3 := by rw [eem3]; exact up_ents m3
        rw [es3] at hs2 hok2 he2
        refine Idx.mk _ hi0 hni ?_
        cbv
        repeat' (first
          | (refine RowOf.mk _ rfl ?_; cbv)
          | (simp only [a2]; cbv)
          | (refine InN.mk (by decide) (by decide) ?_; cbv)
          | (refine SetRow.mk _ _ rfl rfl ?_; cbv)
          | (refine Idx.mk _ hnb.1 hrow1 ?_; cbv))
        simp only [a3]
        refine Call.of (GrowC.call hu hud (e_grow8 ss gs es ds hes hds hln hnx lo hi x0 x1 x2 x3 x4 x5 x6 n) hP (sg := 0) (sm := 1) (h := [.live 6 [gRow es ds lo hi 1 e], .live 0 em', .live 13 [[.int .i64 8, .int .i64 x0, .int .i64 x1, .int .i64 x2, .int .i64 x3, .int .i64 x4, .int .i64 x5, .int .i64 x6, .int .i64 n, .int .i64 0, .int .i64 0, .int .i64 0, .int .i64 0]]]) (by decide) rfl (by rw [← hem']; rfl) hok' he' hen2 hl2 ?_)
        rw [es3, ← eem3]
        have a4 : wbin .add .i64 i 1 = i + 1 := by rw [hbin]; show IntKind.i64.wrap (i + 1) = i + 1; rw [IntKind.wrap_i64]; omega
        cbv
        simp only [a4]
        refine hN (i + 1, n, (e3, m3), em3) _ _ (by (refine Wk.eqzN (id) (by intro i hi; first | rfl | (have hh : i = 0 ∨ i = 1 := (by omega); rcases hh with hh | hh <;> subst hh <;> rfl)) (Nat.le_of_ble_eq_true rfl) (by first | exact fun i _ j _ e => e | (simp only [List.length_cons, List.length_nil]; decide)) ?_; cbv; (repeat' (first | exact trivial | rfl | assumption | apply And.intro | (simp only [hbin, hcmp, hun, hconv, hnot, hbeq, hmm, hscmp, hsadd, hslen, hsat, heqs, hofNat, binStd, cmpStd, unStd, scmpStd, maxI, Z.z1, Z.z2, Z.z3, Z.z4, Z.z5, Z.z6, if_true, if_false, Z.z7, beq_iff_eq, bne_iff_ne, ne_eq, Z.z8, Z.z9, Z.y1, beq_eq_false_iff_ne, bne_eq_false_iff_eq, Z.y2, Z.y3, Z.y4, Z.y5, reduceCtorEq]; first | done | assumption) | exact RowsZ.same (by assumption) (by first | assumption | rfl) | exact FzL.mk rfl rfl rfl (by assumption) (by first | assumption | rfl) (by decide) | (refine RowsZ.one ?_; cbv))))) ⟨by simp only; omega, by simp only; omega, hs2, hok2, he2, eem3, hum3⟩ ?_
        simp only
        omega
      · refine hE _ _ _ ?_
        cbv
        have := hKl (e, m') (by rw [hfold, List.take_of_length_le (by omega)]) [.live 13 [[.int .i64 8, .int .i64 x0, .int .i64 x1, .int .i64 x2, .int .i64 x3, .int .i64 x4, .int .i64 x5, .int .i64 x6, .int .i64 y, .int .i64 0, .int .i64 0, .int .i64 0, .int .i64 0]]]
        rw [← hem'] at this
        exact this
end Go.Proofs.Ytpiocfmdjgbamaa

/- route.grower.grow at depth 6. Printed by wip/tools/genroute.py. -/
set_option linter.unusedVariables false
set_option linter.unusedSimpArgs false
namespace Go.Proofs.Ytpiocfmdjgbamaa
open Go Go.RowKit Go.Eng
set_option maxRecDepth 100000
set_option maxHeartbeats 2000000 in
theorem e_grow6 (ss : List Sg) (gs : List Gr) (es ds : List (List AV)) (hes : es = ss.map sgRow) (hds : ds = gs.map grRow) (hln : LensOk ss) (hnx : NextOk ss) (lo hi : Int) (x0 x1 x2 x3 x4 x5 : Int) : GrowC ss es ds lo hi 7 [x0, x1, x2, x3, x4, x5] := by
  have hu : Up0 es := by rw [hes]; exact up_sg ss
  have hud : Up0 ds := by rw [hds]; exact up_gr gs
  intro en e m hok he hen hl K hK
  have hlast := hl x5 (by simp)
  obtain ⟨sg0, hd0, hrow0⟩ := get_map (f := sgRow) (ds := ss) (i := x5) hlast.1 hlast.2
  have hnxe : nxAt ss x5 = sg0.nx := by unfold nxAt; rw [hd0]
  have hnx0 : ∀ n, n ∈ sg0.nx → 0 ≤ n ∧ n.toNat < ss.length := fun n hn => nxAt_ok hnx (by rw [hnxe]; exact hn)
  have hnx2 : sg0.nx.length ≤ 2 := by have := nxAt_two hnx x5; rw [hnxe] at this; exact this
  have hF : growF ss lo hi 7 [x0, x1, x2, x3, x4, x5] en (e, m) = (if e ≠ 0 then (e, m) else if hi ≤ en ∨ sg0.nx = [] then (if 16 < (if lo ≤ en then putL m [x0, x1, x2, x3, x4, x5] else m).length then 13 else 0, if lo ≤ en then putL m [x0, x1, x2, x3, x4, x5] else m) else sg0.nx.foldl (fun s n => growF ss lo hi 6 [x0, x1, x2, x3, x4, x5, n] (en + lenAt ss n) s) (e, m)) := by
    rw [← hnxe]; rfl
  rw [hF] at hK
  obtain ⟨len, pcs, nx⟩ := sg0
  obtain ⟨q0, eq0⟩ : ∃ x, pcs.map pcRow = x := ⟨_, rfl⟩
  obtain ⟨ns, ens⟩ : ∃ x, nx.map nxRow = x := ⟨_, rfl⟩
  have huns : Up0 ns := by rw [← ens]; exact up_nx nx
  have hnl : ns.length = nx.length := by rw [← ens]; simp
  have hrow0 : es[x5.toNat]? = some [.int .i64 len, .list 2 q0, .list 1 ns] := by rw [hes, ← eq0, ← ens]; exact hrow0
  have hput := put_ents m [x0, x1, x2, x3, x4, x5] (by simp only [List.length_cons, List.length_nil]; omega) (fun j hj => (hok.all j hj).1)
  obtain ⟨em, eem⟩ : ∃ x, ents m = x := ⟨_, rfl⟩
  obtain ⟨em2, eem2⟩ : ∃ x, ents (putL m [x0, x1, x2, x3, x4, x5]) = x := ⟨_, rfl⟩
  have hum : Up0 em := by rw [← eem]; exact up_ents m
  have htwo : ∀ e, e ∈ em → e.length = 2 := by rw [← eem]; exact ents_two m
  have htwo2 : ∀ e, e ∈ em2 → e.length = 2 := by rw [← eem2]; exact ents_two _
  have heml : em.length = m.length := by rw [← eem]; exact ents_len m
  have heml2 : em2.length = (putL m [x0, x1, x2, x3, x4, x5]).length := by rw [← eem2]; exact ents_len _
  rw [eem, eem2] at hput
  rw [eem]
  have hnxs : ∀ n, n ∈ nx → 0 ≤ n ∧ n.toNat < ss.length := hnx0
  have hnx2 : nx.length ≤ 2 := hnx2
  show ACall Try.prog 55 [.ref 0 6 0 0, .agg [.int .i64 6, .int .i64 x0, .int .i64 x1, .int .i64 x2, .int .i64 x3, .int .i64 x4, .int .i64 x5, .int .i64 0, .int .i64 0, .int .i64 0, .int .i64 0, .int .i64 0, .int .i64 0], .int .i64 en] [.live 6 [gRow es ds lo hi 1 e], .live 0 em] K
  (refine ACall.ofI Try.func55 (by kernel_rfl) (by kernel_rfl) fun w hw => ?_); (obtain ⟨wbin, wcmp, wun, wconv, wnot, wbeq, wmm, wscmp, wsadd, wslen, wsat, weqs, wlen, wnlen, wofNat, wtake, wdrop, wapp, wzero, wnat⟩ := w); (have hbin := Z.w1 hw); (have hcmp := Z.w2 hw); (have hun := Z.w3 hw); (have hconv := Z.w4 hw); (have hnot := Z.w5 hw); (have hbeq := Z.w6 hw); (have hmm := Z.w7 hw); (have hscmp := Z.w8 hw); (have hsadd := Z.w9 hw); (have hslen := Z.w10 hw); (have hsat := Z.w11 hw); (have heqs := Z.w12 hw); (have hlen := Z.w13 hw); (have hnlen := Z.w14 hw); (have hofNat := Z.w15 hw); (have htake := Z.w16 hw); (have hdrop := Z.w17 hw); (have happ := Z.w18 hw); (have hzero := Z.w19 hw); (have hnat := Z.w20 hw); (conv => arg 2; cbv); (generalize hP : Try.prog = P); cbv
  have s1 : wbin .sub .i64 6 1 = 5 := by rw [hbin]; rfl
  simp only [s1]
  refine InN.mk (by decide) (by decide) ?_
  cbv
  repeat' (first
    | (refine RowOf.mk _ rfl ?_; cbv)
    | (refine Idx.mk _ hlast.1 hrow0 ?_; cbv))
  have hKz : e = 0 → (hi ≤ en ∨ nx = []) → ∀ j, K (.tuple []) (.live 6 [gRow es ds lo hi 1 (if 16 < (if lo ≤ en then putL m [x0, x1, x2, x3, x4, x5] else m).length then 13 else 0)] :: .live 0 (ents (if lo ≤ en then putL m [x0, x1, x2, x3, x4, x5] else m)) :: j) := fun h0 hc j => by
    have := hK j
    rw [if_neg (by simp [h0]), if_pos hc] at this
    exact this
  rcases he with rfl | rfl
  rotate_left 1
  · have c0 : wcmp .neq 13 0 = true := by rw [hcmp]; rfl
    simp only [c0]
    cbv
    have := hK [.live 13 [[.int .i64 6, .int .i64 x0, .int .i64 x1, .int .i64 x2, .int .i64 x3, .int .i64 x4, .int .i64 x5, .int .i64 0, .int .i64 0, .int .i64 0, .int .i64 0, .int .i64 0, .int .i64 0]]]
    rw [if_pos (by decide), eem] at this
    exact this
  have c0 : wcmp .neq 0 0 = false := by rw [hcmp]; rfl
  simp only [c0]
  cbv
  (obtain ⟨L, eL, L0, Ln⟩ : ∃ L : Int, wlen ns = L ∧ 0 ≤ L ∧ L.toNat = ns.length := ⟨(ns.length : Int), by rw [hlen], Int.natCast_nonneg _, Int.toNat_natCast _⟩)
  have hKz := hKz rfl
  have n0 : nx = [] ↔ L = 0 := by rw [← List.length_eq_zero_iff, ← hnl, ← Ln]; omega
  have blockA : (hi ≤ en ∨ nx = []) → (lo ≤ en → ∀ j, K (.tuple []) (.live 6 [gRow es ds lo hi 1 (if (16 : Int) < em2.length then 13 else 0)] :: .live 0 em2 :: j)) ∧ (en < lo → ∀ j, K (.tuple []) (.live 6 [gRow es ds lo hi 1 0] :: .live 0 em :: j)) := fun hA => by
    refine ⟨fun hlo j => ?_, fun hlo j => ?_⟩
    · have := hKz hA j
      rw [if_pos hlo, eem2] at this
      by_cases hq : 16 < (putL m [x0, x1, x2, x3, x4, x5]).length
      · rw [if_pos hq] at this
        rw [if_pos (by rw [heml2]; omega)]
        exact this
      · rw [if_neg hq] at this
        rw [if_neg (by rw [heml2]; omega)]
        exact this
    · have := hKz hA j
      rw [if_neg (show ¬ lo ≤ en by omega), eem, if_neg (show ¬ 16 < m.length by have := hok.few rfl; simp only at this; omega)] at this
      exact this
  obtain ⟨n1, en1⟩ : ∃ n : Int, n = em.length := ⟨_, rfl⟩
  obtain ⟨n2, en2⟩ : ∃ n : Int, n = em2.length := ⟨_, rfl⟩
  have h16 : n1 ≤ 16 := by have := hok.few rfl; simp only at this; omega
  simp only [← en2] at blockA
  have lm1 : ∀ {K' : AV → AHeap → Prop} {hp : AHeap} {c : Go.Call} {ty t kt et : TypeId} {x : Operand}, hp[1]? = some (.live 0 em) → c.callee = .builtin .len → c.args = #[x] → c.argTypes = #[t] → P.underlying t = some (.map kt et) → K' (.int .i64 n1) hp → Xo P (.call c) ty [.mapr 1] hp K' := fun h1 h2 h3 h4 h5 h6 => Xo.lenm h2 h3 h4 h5 h1 htwo n1 en1 h6
  have lm2 : ∀ {K' : AV → AHeap → Prop} {hp : AHeap} {c : Go.Call} {ty t kt et : TypeId} {x : Operand}, hp[1]? = some (.live 0 em2) → c.callee = .builtin .len → c.args = #[x] → c.argTypes = #[t] → P.underlying t = some (.map kt et) → K' (.int .i64 n2) hp → Xo P (.call c) ty [.mapr 1] hp K' := fun h1 h2 h3 h4 h5 h6 => Xo.lenm h2 h3 h4 h5 h1 htwo2 n2 en2 h6
  (split <;> rename_i h1 <;> (try (simp only [hbin, hcmp, hun, hconv, hnot, hbeq, hmm, hscmp, hsadd, hslen, hsat, heqs, hofNat, binStd, cmpStd, unStd, scmpStd, maxI, Z.z1, Z.z2, Z.z3, Z.z4, Z.z5, Z.z6, if_true, if_false, Z.z7, beq_iff_eq, bne_iff_ne, ne_eq, Z.z8, Z.z9, Z.y1, beq_eq_false_iff_ne, bne_eq_false_iff_eq, Z.y2, Z.y3, Z.y4, Z.y5, reduceCtorEq] at h1)) <;> (try cbv))
  · obtain ⟨hy, hno⟩ := blockA (.inl h1)
    clear blockA hKz
    (split <;> rename_i h3 <;> (try (simp only [hbin, hcmp, hun, hconv, hnot, hbeq, hmm, hscmp, hsadd, hslen, hsat, heqs, hofNat, binStd, cmpStd, unStd, scmpStd, maxI, Z.z1, Z.z2, Z.z3, Z.z4, Z.z5, Z.z6, if_true, if_false, Z.z7, beq_iff_eq, bne_iff_ne, ne_eq, Z.z8, Z.z9, Z.y1, beq_eq_false_iff_ne, bne_eq_false_iff_eq, Z.y2, Z.y3, Z.y4, Z.y5, reduceCtorEq] at h3)) <;> (try cbv))
    · refine Put.mk em2 rfl hput ?_
      cbv
      refine lm2 (kt := 39) (et := 3) rfl rfl rfl rfl (by rw [← hP]; kernel_rfl) ?_
      cbv
      (split <;> rename_i h4 <;> (try (simp only [hbin, hcmp, hun, hconv, hnot, hbeq, hmm, hscmp, hsadd, hslen, hsat, heqs, hofNat, binStd, cmpStd, unStd, scmpStd, maxI, Z.z1, Z.z2, Z.z3, Z.z4, Z.z5, Z.z6, if_true, if_false, Z.z7, beq_iff_eq, bne_iff_ne, ne_eq, Z.z8, Z.z9, Z.y1, beq_eq_false_iff_ne, bne_eq_false_iff_eq, Z.y2, Z.y3, Z.y4, Z.y5, reduceCtorEq] at h4)) <;> (try cbv))
      · have := hy h3 [.live 13 [[.int .i64 6, .int .i64 x0, .int .i64 x1, .int .i64 x2, .int .i64 x3, .int .i64 x4, .int .i64 x5, .int .i64 0, .int .i64 0, .int .i64 0, .int .i64 0, .int .i64 0, .int .i64 0]]]
        rw [if_pos (by omega)] at this
        exact this
      · have := hy h3 [.live 13 [[.int .i64 6, .int .i64 x0, .int .i64 x1, .int .i64 x2, .int .i64 x3, .int .i64 x4, .int .i64 x5, .int .i64 0, .int .i64 0, .int .i64 0, .int .i64 0, .int .i64 0, .int .i64 0]]]
        rw [if_neg (by omega)] at this
        exact this
    · refine lm1 (kt := 39) (et := 3) rfl rfl rfl rfl (by rw [← hP]; kernel_rfl) ?_
      cbv
      (split <;> rename_i h4 <;> (try (simp only [hbin, hcmp, hun, hconv, hnot, hbeq, hmm, hscmp, hsadd, hslen, hsat, heqs, hofNat, binStd, cmpStd, unStd, scmpStd, maxI, Z.z1, Z.z2, Z.z3, Z.z4, Z.z5, Z.z6, if_true, if_false, Z.z7, beq_iff_eq, bne_iff_ne, ne_eq, Z.z8, Z.z9, Z.y1, beq_eq_false_iff_ne, bne_eq_false_iff_eq, Z.y2, Z.y3, Z.y4, Z.y5, reduceCtorEq] at h4)) <;> (try cbv))
      · exfalso; omega
      · exact hno h3 [.live 13 [[.int .i64 6, .int .i64 x0, .int .i64 x1, .int .i64 x2, .int .i64 x3, .int .i64 x4, .int .i64 x5, .int .i64 0, .int .i64 0, .int .i64 0, .int .i64 0, .int .i64 0, .int .i64 0]]]
  · simp only [eL]
    (split <;> rename_i h2 <;> (try (simp only [hbin, hcmp, hun, hconv, hnot, hbeq, hmm, hscmp, hsadd, hslen, hsat, heqs, hofNat, binStd, cmpStd, unStd, scmpStd, maxI, Z.z1, Z.z2, Z.z3, Z.z4, Z.z5, Z.z6, if_true, if_false, Z.z7, beq_iff_eq, bne_iff_ne, ne_eq, Z.z8, Z.z9, Z.y1, beq_eq_false_iff_ne, bne_eq_false_iff_eq, Z.y2, Z.y3, Z.y4, Z.y5, reduceCtorEq] at h2)) <;> (try cbv))
    · obtain ⟨hy, hno⟩ := blockA (.inr (n0.2 h2))
      clear blockA hKz
      (split <;> rename_i h3 <;> (try (simp only [hbin, hcmp, hun, hconv, hnot, hbeq, hmm, hscmp, hsadd, hslen, hsat, heqs, hofNat, binStd, cmpStd, unStd, scmpStd, maxI, Z.z1, Z.z2, Z.z3, Z.z4, Z.z5, Z.z6, if_true, if_false, Z.z7, beq_iff_eq, bne_iff_ne, ne_eq, Z.z8, Z.z9, Z.y1, beq_eq_false_iff_ne, bne_eq_false_iff_eq, Z.y2, Z.y3, Z.y4, Z.y5, reduceCtorEq] at h3)) <;> (try cbv))
      · refine Put.mk em2 rfl hput ?_
        cbv
        refine lm2 (kt := 39) (et := 3) rfl rfl rfl rfl (by rw [← hP]; kernel_rfl) ?_
        cbv
        (split <;> rename_i h4 <;> (try (simp only [hbin, hcmp, hun, hconv, hnot, hbeq, hmm, hscmp, hsadd, hslen, hsat, heqs, hofNat, binStd, cmpStd, unStd, scmpStd, maxI, Z.z1, Z.z2, Z.z3, Z.z4, Z.z5, Z.z6, if_true, if_false, Z.z7, beq_iff_eq, bne_iff_ne, ne_eq, Z.z8, Z.z9, Z.y1, beq_eq_false_iff_ne, bne_eq_false_iff_eq, Z.y2, Z.y3, Z.y4, Z.y5, reduceCtorEq] at h4)) <;> (try cbv))
        · have := hy h3 [.live 13 [[.int .i64 6, .int .i64 x0, .int .i64 x1, .int .i64 x2, .int .i64 x3, .int .i64 x4, .int .i64 x5, .int .i64 0, .int .i64 0, .int .i64 0, .int .i64 0, .int .i64 0, .int .i64 0]]]
          rw [if_pos (by omega)] at this
          exact this
        · have := hy h3 [.live 13 [[.int .i64 6, .int .i64 x0, .int .i64 x1, .int .i64 x2, .int .i64 x3, .int .i64 x4, .int .i64 x5, .int .i64 0, .int .i64 0, .int .i64 0, .int .i64 0, .int .i64 0, .int .i64 0]]]
          rw [if_neg (by omega)] at this
          exact this
      · refine lm1 (kt := 39) (et := 3) rfl rfl rfl rfl (by rw [← hP]; kernel_rfl) ?_
        cbv
        (split <;> rename_i h4 <;> (try (simp only [hbin, hcmp, hun, hconv, hnot, hbeq, hmm, hscmp, hsadd, hslen, hsat, heqs, hofNat, binStd, cmpStd, unStd, scmpStd, maxI, Z.z1, Z.z2, Z.z3, Z.z4, Z.z5, Z.z6, if_true, if_false, Z.z7, beq_iff_eq, bne_iff_ne, ne_eq, Z.z8, Z.z9, Z.y1, beq_eq_false_iff_ne, bne_eq_false_iff_eq, Z.y2, Z.y3, Z.y4, Z.y5, reduceCtorEq] at h4)) <;> (try cbv))
        · exfalso; omega
        · exact hno h3 [.live 13 [[.int .i64 6, .int .i64 x0, .int .i64 x1, .int .i64 x2, .int .i64 x3, .int .i64 x4, .int .i64 x5, .int .i64 0, .int .i64 0, .int .i64 0, .int .i64 0, .int .i64 0, .int .i64 0]]]
    · have hK := hK
      have ck : wcmp .eql 6 12 = false := by rw [hcmp]; rfl
      have a1 : wbin .add .i64 6 1 = 7 := by rw [hbin]; rfl
      have a2 : wbin .sub .i64 7 1 = 6 := by rw [hbin]; rfl
      have hnh : ¬ (hi ≤ en ∨ nx = []) := by rw [n0]; omega
      have hen' : -1099511627776 ≤ en ∧ en ≤ 6 * 1099511627776 := hen
      have hKl : ∀ s', s' = nx.foldl (fun s n => growF ss lo hi 6 [x0, x1, x2, x3, x4, x5, n] (en + lenAt ss n) s) (0, m) → ∀ j, K (.tuple []) (.live 6 [gRow es ds lo hi 1 s'.1] :: .live 0 (ents s'.2) :: j) := fun s' hs' j => by
        have := hK j
        rw [if_neg (by decide), if_neg hnh] at this
        rw [hs']
        exact this
      clear hK blockA hKz lm1 lm2
      simp only [ck]
      cbv
      simp only [a1]
      repeat' (first
        | (refine RowOf.mk _ rfl ?_; cbv)
        | (simp only [a1]; cbv)
        | (refine SetRow.mk _ _ rfl rfl ?_; cbv))
      simp only [eL]
      refine Loop.dataN hw (S := Int × Int × (Int × List (List Int)) × List (List AV)) (fun s => fr 103 [(0, .ref 0 6 0 0), (2, .int .i64 en), (4, .ref 2 13 0 0), (76, .list 1 ns), (77, .int .i64 L), (78, .int .i64 s.1)])
        (fun s => [.live 6 [[.list 3 es, .list 5 ds, .int .i64 lo, .int .i64 hi, .mapr 1, .int .i64 s.2.2.1.1]], .live 0 s.2.2.2, .live 13 [[.int .i64 7, .int .i64 x0, .int .i64 x1, .int .i64 x2, .int .i64 x3, .int .i64 x4, .int .i64 x5, .int .i64 s.2.1, .int .i64 0, .int .i64 0, .int .i64 0, .int .i64 0, .int .i64 0]]])
        (fun s => 0 ≤ s.1 ∧ s.1 ≤ L ∧ s.2.2.1 = (nx.take s.1.toNat).foldl (fun s n => growF ss lo hi 6 [x0, x1, x2, x3, x4, x5, n] (en + lenAt ss n) s) (0, m) ∧ GOk s.2.2.1 ∧ (s.2.2.1.1 = 0 ∨ s.2.2.1.1 = 13) ∧ s.2.2.2 = ents s.2.2.1.2 ∧ Up0 s.2.2.2) (fun s => (L - s.1).toNat) (0, 0, (0, m), em) (by (refine Wk.eqzN (id) (by intro i hi; first | rfl | (have hh : i = 0 ∨ i = 1 := (by omega); rcases hh with hh | hh <;> subst hh <;> rfl)) (Nat.le_of_ble_eq_true rfl) (by first | exact fun i _ j _ e => e | (simp only [List.length_cons, List.length_nil]; decide)) ?_; cbv; (repeat' (first | exact trivial | rfl | assumption | apply And.intro | (simp only [hbin, hcmp, hun, hconv, hnot, hbeq, hmm, hscmp, hsadd, hslen, hsat, heqs, hofNat, binStd, cmpStd, unStd, scmpStd, maxI, Z.z1, Z.z2, Z.z3, Z.z4, Z.z5, Z.z6, if_true, if_false, Z.z7, beq_iff_eq, bne_iff_ne, ne_eq, Z.z8, Z.z9, Z.y1, beq_eq_false_iff_ne, bne_eq_false_iff_eq, Z.y2, Z.y3, Z.y4, Z.y5, reduceCtorEq]; first | done | assumption) | exact RowsZ.same (by assumption) (by first | assumption | rfl) | exact FzL.mk rfl rfl rfl (by assumption) (by first | assumption | rfl) (by decide) | (refine RowsZ.one ?_; cbv))))) ⟨Int.le_refl _, L0, rfl, hok, .inl rfl, eem.symm, hum⟩ ?_
      rintro ⟨i, y, ⟨e, m'⟩, em'⟩ hinv Q' hN hE hR'
      have hinv : 0 ≤ i ∧ i ≤ L ∧ (e, m') = (nx.take i.toNat).foldl (fun s n => growF ss lo hi 6 [x0, x1, x2, x3, x4, x5, n] (en + lenAt ss n) s) (0, m) ∧ GOk (e, m') ∧ (e = 0 ∨ e = 13) ∧ em' = ents m' ∧ Up0 em' := hinv
      cbv
      obtain ⟨hi0, hi1, hfold, hok', he', hem', hum'⟩ := hinv
      (split <;> rename_i hc <;> (try (simp only [hbin, hcmp, hun, hconv, hnot, hbeq, hmm, hscmp, hsadd, hslen, hsat, heqs, hofNat, binStd, cmpStd, unStd, scmpStd, maxI, Z.z1, Z.z2, Z.z3, Z.z4, Z.z5, Z.z6, if_true, if_false, Z.z7, beq_iff_eq, bne_iff_ne, ne_eq, Z.z8, Z.z9, Z.y1, beq_eq_false_iff_ne, bne_eq_false_iff_eq, Z.y2, Z.y3, Z.y4, Z.y5, reduceCtorEq] at hc)) <;> (try cbv))
      · have hit : i.toNat < nx.length := by omega
        obtain ⟨n, hn⟩ : ∃ n, nx[i.toNat]? = some n := ⟨_, List.getElem?_eq_getElem hit⟩
        have hni : ns[i.toNat]? = some (nxRow n) := by rw [← ens, List.getElem?_map, hn]; rfl
        have hnb := hnxs n (List.mem_of_getElem? hn)
        obtain ⟨sg1, hd1, hrow1⟩ := get_map (f := sgRow) (ds := ss) (i := n) hnb.1 hnb.2
        have hle : lenAt ss n = sg1.len := by unfold lenAt; rw [hd1]
        have hl1 := hln.pos sg1 (List.mem_of_getElem? hd1)
        obtain ⟨len1, pcs1, nx1⟩ := sg1
        have hl1 : 1 ≤ len1 ∧ len1 ≤ 1099511627776 := hl1
        have hle : lenAt ss n = len1 := hle
        obtain ⟨q1, eq1⟩ : ∃ x, pcs1.map pcRow = x := ⟨_, rfl⟩
        obtain ⟨q2, eq2⟩ : ∃ x, nx1.map nxRow = x := ⟨_, rfl⟩
        have hrow1 : es[n.toNat]? = some [.int .i64 len1, .list 2 q1, .list 1 q2] := by rw [hes, ← eq1, ← eq2]; exact hrow1
        have hs2 : (growF ss lo hi 6 [x0, x1, x2, x3, x4, x5, n] (en + len1) (e, m')) = (nx.take (i + 1).toNat).foldl (fun s n => growF ss lo hi 6 [x0, x1, x2, x3, x4, x5, n] (en + lenAt ss n) s) (0, m) := by
          rw [take_next hi0 hn, List.foldl_append, ← hfold, List.foldl_cons, List.foldl_nil, hle]
        have hok2 := growF_ok ss lo hi 6 [x0, x1, x2, x3, x4, x5, n] (en + len1) (e, m') hok' (by simp only [List.length_cons, List.length_nil]; omega)
        have he2 := growF_e ss lo hi 6 [x0, x1, x2, x3, x4, x5, n] (en + len1) (e, m') he'
        have a3 : wbin .add .i64 en len1 = en + len1 := by rw [hbin]; show IntKind.i64.wrap (en + len1) = en + len1; rw [IntKind.wrap_i64]; omega
        obtain ⟨en2, een2⟩ : ∃ z, z = en + len1 := ⟨_, rfl⟩
        rw [← een2] at hs2 hok2 he2 a3
        have hen2 : -1099511627776 ≤ en2 ∧ en2 ≤ lenI [x0, x1, x2, x3, x4, x5, n] * 1099511627776 := by simp only [lenI]; omega
        have hl2 : ∀ x, x ∈ [x0, x1, x2, x3, x4, x5, n] → 0 ≤ x ∧ x.toNat < ss.length := fun x hx => by
          have : x ∈ [x0, x1, x2, x3, x4, x5] ∨ x = n := by simpa [or_assoc] using hx
          rcases this with h | rfl
          · exact hl x h
          · exact hnb
        obtain ⟨⟨e3, m3⟩, es3⟩ : ∃ s', growF ss lo hi 6 [x0, x1, x2, x3, x4, x5, n] en2 (e, m') = s' := ⟨_, rfl⟩
        obtain ⟨em3, eem3⟩ : ∃ x, x = ents m3 := ⟨_, rfl⟩
        have hum3 : Up0 em3 := by rw [eem3]; exact up_ents m3
        rw [es3] at hs2 hok2 he2
        refine Idx.mk _ hi0 hni ?_
        cbv
        repeat' (first
          | (refine RowOf.mk _ rfl ?_; cbv)
          | (simp only [a2]; cbv)
          | (refine InN.mk (by decide) (by decide) ?_; cbv)
          | (refine SetRow.mk _ _ rfl rfl ?_; cbv)
          | (refine Idx.mk _ hnb.1 hrow1 ?_; cbv))
        simp only [a3]
        refine Call.of (GrowC.call hu hud (e_grow7 ss gs es ds hes hds hln hnx lo hi x0 x1 x2 x3 x4 x5 n) hP (sg := 0) (sm := 1) (h := [.live 6 [gRow es ds lo hi 1 e], .live 0 em', .live 13 [[.int .i64 7, .int .i64 x0, .int .i64 x1, .int .i64 x2, .int .i64 x3, .int .i64 x4, .int .i64 x5, .int .i64 n, .int .i64 0, .int .i64 0, .int .i64 0, .int .i64 0, .int .i64 0]]]) (by decide) rfl (by rw [← hem']; rfl) hok' he' hen2 hl2 ?_)
        rw [es3, ← eem3]
        have a4 : wbin .add .i64 i 1 = i + 1 := by rw [hbin]; show IntKind.i64.wrap (i + 1) = i + 1; rw [IntKind.wrap_i64]; omega
        cbv
        simp only [a4]
        refine hN (i + 1, n, (e3, m3), em3) _ _ (by (refine Wk.eqzN (id) (by intro i hi; first | rfl | (have hh : i = 0 ∨ i = 1 := (by omega); rcases hh with hh | hh <;> subst hh <;> rfl)) (Nat.le_of_ble_eq_true rfl) (by first | exact fun i _ j _ e => e | (simp only [List.length_cons, List.length_nil]; decide)) ?_; cbv; (repeat' (first | exact trivial | rfl | assumption | apply And.intro | (simp only [hbin, hcmp, hun, hconv, hnot, hbeq, hmm, hscmp, hsadd, hslen, hsat, heqs, hofNat, binStd, cmpStd, unStd, scmpStd, maxI, Z.z1, Z.z2, Z.z3, Z.z4, Z.z5, Z.z6, if_true, if_false, Z.z7, beq_iff_eq, bne_iff_ne, ne_eq, Z.z8, Z.z9, Z.y1, beq_eq_false_iff_ne, bne_eq_false_iff_eq, Z.y2, Z.y3, Z.y4, Z.y5, reduceCtorEq]; first | done | assumption) | exact RowsZ.same (by assumption) (by first | assumption | rfl) | exact FzL.mk rfl rfl rfl (by assumption) (by first | assumption | rfl) (by decide) | (refine RowsZ.one ?_; cbv))))) ⟨by simp only; omega, by simp only; omega, hs2, hok2, he2, eem3, hum3⟩ ?_
        simp only
        omega
      · refine hE _ _ _ ?_
        cbv
        have := hKl (e, m') (by rw [hfold, List.take_of_length_le (by omega)]) [.live 13 [[.int .i64 7, .int .i64 x0, .int .i64 x1, .int .i64 x2, .int .i64 x3, .int .i64 x4, .int .i64 x5, .int .i64 y, .int .i64 0, .int .i64 0, .int .i64 0, .int .i64 0, .int .i64 0]]]
        rw [← hem'] at this
        exact this
end Go.Proofs.Ytpiocfmdjgbamaa

/- route.grower.grow at depth 5. Printed by wip/tools/genroute.py. -/
set_option linter.unusedVariables false
set_option linter.unusedSimpArgs false
namespace Go.Proofs.Ytpiocfmdjgbamaa
open Go Go.RowKit Go.Eng
set_option maxRecDepth 100000
set_option maxHeartbeats 2000000 in
theorem e_grow5 (ss : List Sg) (gs : List Gr) (es ds : List (List AV)) (hes : es = ss.map sgRow) (hds : ds = gs.map grRow) (hln : LensOk ss) (hnx : NextOk ss) (lo hi : Int) (x0 x1 x2 x3 x4 : Int) : GrowC ss es ds lo hi 8 [x0, x1, x2, x3, x4] := by
  have hu : Up0 es := by rw [hes]; exact up_sg ss
  have hud : Up0 ds := by rw [hds]; exact up_gr gs
  intro en e m hok he hen hl K hK
  have hlast := hl x4 (by simp)
  obtain ⟨sg0, hd0, hrow0⟩ := get_map (f := sgRow) (ds := ss) (i := x4) hlast.1 hlast.2
  have hnxe : nxAt ss x4 = sg0.nx := by unfold nxAt; rw [hd0]
  have hnx0 : ∀ n, n ∈ sg0.nx → 0 ≤ n ∧ n.toNat < ss.length := fun n hn => nxAt_ok hnx (by rw [hnxe]; exact hn)
  have hnx2 : sg0.nx.length ≤ 2 := by have := nxAt_two hnx x4; rw [hnxe] at this; exact this
  have hF : growF ss lo hi 8 [x0, x1, x2, x3, x4] en (e, m) = (if e ≠ 0 then (e, m) else if hi ≤ en ∨ sg0.nx = [] then (if 16 < (if lo ≤ en then putL m [x0, x1, x2, x3, x4] else m).length then 13 else 0, if lo ≤ en then putL m [x0, x1, x2, x3, x4] else m) else sg0.nx.foldl (fun s n => growF ss lo hi 7 [x0, x1, x2, x3, x4, n] (en + lenAt ss n) s) (e, m)) := by
    rw [← hnxe]; rfl
  rw [hF] at hK
  obtain ⟨len, pcs, nx⟩ := sg0
  obtain ⟨q0, eq0⟩ : ∃ x, pcs.map pcRow = x := ⟨_, rfl⟩
  obtain ⟨ns, ens⟩ : ∃ x, nx.map nxRow = x := ⟨_, rfl⟩
  have huns : Up0 ns := by rw [← ens]; exact up_nx nx
  have hnl : ns.length = nx.length := by rw [← ens]; simp
  have hrow0 : es[x4.toNat]? = some [.int .i64 len, .list 2 q0, .list 1 ns] := by rw [hes, ← eq0, ← ens]; exact hrow0
  have hput := put_ents m [x0, x1, x2, x3, x4] (by simp only [List.length_cons, List.length_nil]; omega) (fun j hj => (hok.all j hj).1)
  obtain ⟨em, eem⟩ : ∃ x, ents m = x := ⟨_, rfl⟩
  obtain ⟨em2, eem2⟩ : ∃ x, ents (putL m [x0, x1, x2, x3, x4]) = x := ⟨_, rfl⟩
  have hum : Up0 em := by rw [← eem]; exact up_ents m
  have htwo : ∀ e, e ∈ em → e.length = 2 := by rw [← eem]; exact ents_two m
  have htwo2 : ∀ e, e ∈ em2 → e.length = 2 := by rw [← eem2]; exact ents_two _
  have heml : em.length = m.length := by rw [← eem]; exact ents_len m
  have heml2 : em2.length = (putL m [x0, x1, x2, x3, x4]).length := by rw [← eem2]; exact ents_len _
  rw [eem, eem2] at hput
  rw [eem]
  have hnxs : ∀ n, n ∈ nx → 0 ≤ n ∧ n.toNat < ss.length := hnx0
  have hnx2 : nx.length ≤ 2 := hnx2
  show ACall Try.prog 55 [.ref 0 6 0 0, .agg [.int .i64 5, .int .i64 x0, .int .i64 x1, .int .i64 x2, .int .i64 x3, .int .i64 x4, .int .i64 0, .int .i64 0, .int .i64 0, .int .i64 0, .int .i64 0, .int .i64 0, .int .i64 0], .int .i64 en] [.live 6 [gRow es ds lo hi 1 e], .live 0 em] K
  (refine ACall.ofI Try.func55 (by kernel_rfl) (by kernel_rfl) fun w hw => ?_); (obtain ⟨wbin, wcmp, wun, wconv, wnot, wbeq, wmm, wscmp, wsadd, wslen, wsat, weqs, wlen, wnlen, wofNat, wtake, wdrop, wapp, wzero, wnat⟩ := w); (have hbin := Z.w1 hw); (have hcmp := Z.w2 hw); (have hun := Z.w3 hw); (have hconv := Z.w4 hw); (have hnot := Z.w5 hw); (have hbeq := Z.w6 hw); (have hmm := Z.w7 hw); (have hscmp := Z.w8 hw); (have hsadd := Z.w9 hw); (have hslen := Z.w10 hw); (have hsat := Z.w11 hw); (have heqs := Z.w12 hw); (have hlen := Z.w13 hw); (have hnlen := Z.w14 hw); (have hofNat := Z.w15 hw); (have htake := Z.w16 hw); (have hdrop := Z.w17 hw); (have happ := Z.w18 hw); (have hzero := Z.w19 hw); (have hnat := Z.w20 hw); (conv => arg 2; cbv); (generalize hP : Try.prog = P); cbv
  have s1 : wbin .sub .i64 5 1 = 4 := by rw [hbin]; rfl
  simp only [s1]
  refine InN.mk (by decide) (by decide) ?_
  cbv
  repeat' (first
    | (refine RowOf.mk _ rfl ?_; cbv)
    | (refine Idx.mk _ hlast.1 hrow0 ?_; cbv))
  have hKz : e = 0 → (hi ≤ en ∨ nx = []) → ∀ j, K (.tuple []) (.live 6 [gRow es ds lo hi 1 (if 16 < (if lo ≤ en then putL m [x0, x1, x2, x3, x4] else m).length then 13 else 0)] :: .live 0 (ents (if lo ≤ en then putL m [x0, x1, x2, x3, x4] else m)) :: j) := fun h0 hc j => by
    have := hK j
    rw [if_neg (by simp [h0]), if_pos hc] at this
    exact this
  rcases he with rfl | rfl
  rotate_left 1
  · have c0 : wcmp .neq 13 0 = true := by rw [hcmp]; rfl
    simp only [c0]
    cbv
    have := hK [.live 13 [[.int .i64 5, .int .i64 x0, .int .i64 x1, .int .i64 x2, .int .i64 x3, .int .i64 x4, .int .i64 0, .int .i64 0, .int .i64 0, .int .i64 0, .int .i64 0, .int .i64 0, .int .i64 0]]]
    rw [if_pos (by decide), eem] at this
    exact this
  have c0 : wcmp .neq 0 0 = false := by rw [hcmp]; rfl
  simp only [c0]
  cbv
  (obtain ⟨L, eL, L0, Ln⟩ : ∃ L : Int, wlen ns = L ∧ 0 ≤ L ∧ L.toNat = ns.length := ⟨(ns.length : Int), by rw [hlen], Int.natCast_nonneg _, Int.toNat_natCast _⟩)
  have hKz := hKz rfl
  have n0 : nx = [] ↔ L = 0 := by rw [← List.length_eq_zero_iff, ← hnl, ← Ln]; omega
  have blockA : (hi ≤ en ∨ nx = []) → (lo ≤ en → ∀ j, K (.tuple []) (.live 6 [gRow es ds lo hi 1 (if (16 : Int) < em2.length then 13 else 0)] :: .live 0 em2 :: j)) ∧ (en < lo → ∀ j, K (.tuple []) (.live 6 [gRow es ds lo hi 1 0] :: .live 0 em :: j)) := fun hA => by
    refine ⟨fun hlo j => ?_, fun hlo j => ?_⟩
    · have := hKz hA j
      rw [if_pos hlo, eem2] at this
      by_cases hq : 16 < (putL m [x0, x1, x2, x3, x4]).length
      · rw [if_pos hq] at this
        rw [if_pos (by rw [heml2]; omega)]
        exact this
      · rw [if_neg hq] at this
        rw [if_neg (by rw [heml2]; omega)]
        exact this
    · have := hKz hA j
      rw [if_neg (show ¬ lo ≤ en by omega), eem, if_neg (show ¬ 16 < m.length by have := hok.few rfl; simp only at this; omega)] at this
      exact this
  obtain ⟨n1, en1⟩ : ∃ n : Int, n = em.length := ⟨_, rfl⟩
  obtain ⟨n2, en2⟩ : ∃ n : Int, n = em2.length := ⟨_, rfl⟩
  have h16 : n1 ≤ 16 := by have := hok.few rfl; simp only at this; omega
  simp only [← en2] at blockA
  have lm1 : ∀ {K' : AV → AHeap → Prop} {hp : AHeap} {c : Go.Call} {ty t kt et : TypeId} {x : Operand}, hp[1]? = some (.live 0 em) → c.callee = .builtin .len → c.args = #[x] → c.argTypes = #[t] → P.underlying t = some (.map kt et) → K' (.int .i64 n1) hp → Xo P (.call c) ty [.mapr 1] hp K' := fun h1 h2 h3 h4 h5 h6 => Xo.lenm h2 h3 h4 h5 h1 htwo n1 en1 h6
  have lm2 : ∀ {K' : AV → AHeap → Prop} {hp : AHeap} {c : Go.Call} {ty t kt et : TypeId} {x : Operand}, hp[1]? = some (.live 0 em2) → c.callee = .builtin .len → c.args = #[x] → c.argTypes = #[t] → P.underlying t = some (.map kt et) → K' (.int .i64 n2) hp → Xo P (.call c) ty [.mapr 1] hp K' := fun h1 h2 h3 h4 h5 h6 => Xo.lenm h2 h3 h4 h5 h1 htwo2 n2 en2 h6
  (split <;> rename_i h1 <;> (try (simp only [hbin, hcmp, hun, hconv, hnot, hbeq, hmm, hscmp, hsadd, hslen, hsat, heqs, hofNat, binStd, cmpStd, unStd, scmpStd, maxI, Z.z1, Z.z2, Z.z3, Z.z4, Z.z5, Z.z6, if_true, if_false, Z.z7, beq_iff_eq, bne_iff_ne, ne_eq, Z.z8, Z.z9, Z.y1, beq_eq_false_iff_ne, bne_eq_false_iff_eq, Z.y2, Z.y3, Z.y4, Z.y5, reduceCtorEq] at h1)) <;> (try cbv))
  · obtain ⟨hy, hno⟩ := blockA (.inl h1)
    clear blockA hKz
    (split <;> rename_i h3 <;> (try (simp only [hbin, hcmp, hun, hconv, hnot, hbeq, hmm, hscmp, hsadd, hslen, hsat, heqs, hofNat, binStd, cmpStd, unStd, scmpStd, maxI, Z.z1, Z.z2, Z.z3, Z.z4, Z.z5, Z.z6, if_true, if_false, Z.z7, beq_iff_eq, bne_iff_ne, ne_eq, Z.z8, Z.z9, Z.y1, beq_eq_false_iff_ne, bne_eq_false_iff_eq, Z.y2, Z.y3, Z.y4, Z.y5, reduceCtorEq] at h3)) <;> (try cbv))
    · refine Put.mk em2 rfl hput ?_
      cbv
      refine lm2 (kt := 39) (et := 3) rfl rfl rfl rfl (by rw [← hP]; kernel_rfl) ?_
      cbv
      (split <;> rename_i h4 <;> (try (simp only [hbin, hcmp, hun, hconv, hnot, hbeq, hmm, hscmp, hsadd, hslen, hsat, heqs, hofNat, binStd, cmpStd, unStd, scmpStd, maxI, Z.z1, Z.z2, Z.z3, Z.z4, Z.z5, Z.z6, if_true, if_false, Z.z7, beq_iff_eq, bne_iff_ne, ne_eq, Z.z8, Z.z9, Z.y1, beq_eq_false_iff_ne, bne_eq_false_iff_eq, Z.y2, Z.y3, Z.y4, Z.y5, reduceCtorEq] at h4)) <;> (try cbv))
      · have := hy h3 [.live 13 [[.int .i64 5, .int .i64 x0, .int .i64 x1, .int .i64 x2, .int .i64 x3, .int .i64 x4, .int .i64 0, .int .i64 0, .int .i64 0, .int .i64 0, .int .i64 0, .int .i64 0, .int .i64 0]]]
        rw [if_pos (by omega)] at this
        exact this
      · have := hy h3 [.live 13 [[.int .i64 5, .int .i64 x0, .int .i64 x1, .int .i64 x2, .int .i64 x3, .int .i64 x4, .int .i64 0, .int .i64 0, .int .i64 0, .int .i64 0, .int .i64 0, .int .i64 0, .int .i64 0]]]
        rw [if_neg (by omega)] at this
        exact this
    · refine lm1 (kt := 39) (et := 3) rfl rfl rfl rfl (by rw [← hP]; kernel_rfl) ?_
      cbv
      (split <;> rename_i h4 <;> (try (simp only [hbin, hcmp, hun, hconv, hnot, hbeq, hmm, hscmp, hsadd, hslen, hsat, heqs, hofNat, binStd, cmpStd, unStd, scmpStd, maxI, Z.z1, Z.z2, Z.z3, Z.z4, Z.z5, Z.z6, if_true, if_false, Z.z7, beq_iff_eq, bne_iff_ne, ne_eq, Z.z8, Z.z9, Z.y1, beq_eq_false_iff_ne, bne_eq_false_iff_eq, Z.y2, Z.y3, Z.y4, Z.y5, reduceCtorEq] at h4)) <;> (try cbv))
      · exfalso; omega
      · exact hno h3 [.live 13 [[.int .i64 5, .int .i64 x0, .int .i64 x1, .int .i64 x2, .int .i64 x3, .int .i64 x4, .int .i64 0, .int .i64 0, .int .i64 0, .int .i64 0, .int .i64 0, .int .i64 0, .int .i64 0]]]
  · simp only [eL]
    (split <;> rename_i h2 <;> (try (simp only [hbin, hcmp, hun, hconv, hnot, hbeq, hmm, hscmp, hsadd, hslen, hsat, heqs, hofNat, binStd, cmpStd, unStd, scmpStd, maxI, Z.z1, Z.z2, Z.z3, Z.z4, Z.z5, Z.z6, if_true, if_false, Z.z7, beq_iff_eq, bne_iff_ne, ne_eq, Z.z8, Z.z9, Z.y1, beq_eq_false_iff_ne, bne_eq_false_iff_eq, Z.y2, Z.y3, Z.y4, Z.y5, reduceCtorEq] at h2)) <;> (try cbv))
    · obtain ⟨hy, hno⟩ := blockA (.inr (n0.2 h2))
      clear blockA hKz
      (split <;> rename_i h3 <;> (try (simp only [hbin, hcmp, hun, hconv, hnot, hbeq, hmm, hscmp, hsadd, hslen, hsat, heqs, hofNat, binStd, cmpStd, unStd, scmpStd, maxI, Z.z1, Z.z2, Z.z3, Z.z4, Z.z5, Z.z6, if_true, if_false, Z.z7, beq_iff_eq, bne_iff_ne, ne_eq, Z.z8, Z.z9, Z.y1, beq_eq_false_iff_ne, bne_eq_false_iff_eq, Z.y2, Z.y3, Z.y4, Z.y5, reduceCtorEq] at h3)) <;> (try cbv))
      · refine Put.mk em2 rfl hput ?_
        cbv
        refine lm2 (kt := 39) (et := 3) rfl rfl rfl rfl (by rw [← hP]; kernel_rfl) ?_
        cbv
        (split <;> rename_i h4 <;> (try (simp only [hbin, hcmp, hun, hconv, hnot, hbeq, hmm, hscmp, hsadd, hslen, hsat, heqs, hofNat, binStd, cmpStd, unStd, scmpStd, maxI, Z.z1, Z.z2, Z.z3, Z.z4, Z.z5, Z.z6, if_true, if_false, Z.z7, beq_iff_eq, bne_iff_ne, ne_eq, Z.z8, Z.z9, Z.y1, beq_eq_false_iff_ne, bne_eq_false_iff_eq, Z.y2, Z.y3, Z.y4, Z.y5, reduceCtorEq] at h4)) <;> (try cbv))
        · have := hy h3 [.live 13 [[.int .i64 5, .int .i64 x0, .int .i64 x1, .int .i64 x2, .int .i64 x3, .int .i64 x4, .int .i64 0, .int .i64 0, .int .i64 0, .int .i64 0, .int .i64 0, .int .i64 0, .int .i64 0]]]
          rw [if_pos (by omega)] at this
          exact this
        · have := hy h3 [.live 13 [[.int .i64 5, .int .i64 x0, .int .i64 x1, .int .i64 x2, .int .i64 x3, .int .i64 x4, .int .i64 0, .int .i64 0, .int .i64 0, .int .i64 0, .int .i64 0, .int .i64 0, .int .i64 0]]]
          rw [if_neg (by omega)] at this
          exact this
      · refine lm1 (kt := 39) (et := 3) rfl rfl rfl rfl (by rw [← hP]; kernel_rfl) ?_
        cbv
        (split <;> rename_i h4 <;> (try (simp only [hbin, hcmp, hun, hconv, hnot, hbeq, hmm, hscmp, hsadd, hslen, hsat, heqs, hofNat, binStd, cmpStd, unStd, scmpStd, maxI, Z.z1, Z.z2, Z.z3, Z.z4, Z.z5, Z.z6, if_true, if_false, Z.z7, beq_iff_eq, bne_iff_ne, ne_eq, Z.z8, Z.z9, Z.y1, beq_eq_false_iff_ne, bne_eq_false_iff_eq, Z.y2, Z.y3, Z.y4, Z.y5, reduceCtorEq] at h4)) <;> (try cbv))
        · exfalso; omega
        · exact hno h3 [.live 13 [[.int .i64 5, .int .i64 x0, .int .i64 x1, .int .i64 x2, .int .i64 x3, .int .i64 x4, .int .i64 0, .int .i64 0, .int .i64 0, .int .i64 0, .int .i64 0, .int .i64 0, .int .i64 0]]]
    · have hK := hK
      have ck : wcmp .eql 5 12 = false := by rw [hcmp]; rfl
      have a1 : wbin .add .i64 5 1 = 6 := by rw [hbin]; rfl
      have a2 : wbin .sub .i64 6 1 = 5 := by rw [hbin]; rfl
      have hnh : ¬ (hi ≤ en ∨ nx = []) := by rw [n0]; omega
      have hen' : -1099511627776 ≤ en ∧ en ≤ 5 * 1099511627776 := hen
      have hKl : ∀ s', s' = nx.foldl (fun s n => growF ss lo hi 7 [x0, x1, x2, x3, x4, n] (en + lenAt ss n) s) (0, m) → ∀ j, K (.tuple []) (.live 6 [gRow es ds lo hi 1 s'.1] :: .live 0 (ents s'.2) :: j) := fun s' hs' j => by
        have := hK j
        rw [if_neg (by decide), if_neg hnh] at this
        rw [hs']
        exact this
      clear hK blockA hKz lm1 lm2
      simp only [ck]
      cbv
      simp only [a1]
      repeat' (first
        | (refine RowOf.mk _ rfl ?_; cbv)
        | (simp only [a1]; cbv)
        | (refine SetRow.mk _ _ rfl rfl ?_; cbv))
      simp only [eL]
      refine Loop.dataN hw (S := Int × Int × (Int × List (List Int)) × List (List AV)) (fun s => fr 103 [(0, .ref 0 6 0 0), (2, .int .i64 en), (4, .ref 2 13 0 0), (76, .list 1 ns), (77, .int .i64 L), (78, .int .i64 s.1)])
        (fun s => [.live 6 [[.list 3 es, .list 5 ds, .int .i64 lo, .int .i64 hi, .mapr 1, .int .i64 s.2.2.1.1]], .live 0 s.2.2.2, .live 13 [[.int .i64 6, .int .i64 x0, .int .i64 x1, .int .i64 x2, .int .i64 x3, .int .i64 x4, .int .i64 s.2.1, .int .i64 0, .int .i64 0, .int .i64 0, .int .i64 0, .int .i64 0, .int .i64 0]]])
        (fun s => 0 ≤ s.1 ∧ s.1 ≤ L ∧ s.2.2.1 = (nx.take s.1.toNat).foldl (fun s n => growF ss lo hi 7 [x0, x1, x2, x3, x4, n] (en + lenAt ss n) s) (0, m) ∧ GOk s.2.2.1 ∧ (s.2.2.1.1 = 0 ∨ s.2.2.1.1 = 13) ∧ s.2.2.2 = ents s.2.2.1.2 ∧ Up0 s.2.2.2) (fun s => (L - s.1).toNat) (0, 0, (0, m), em) (by (refine Wk.eqzN (id) (by intro i hi; first | rfl | (have hh : i = 0 ∨ i = 1 := (by omega); rcases hh with hh | hh <;> subst hh <;> rfl)) (Nat.le_of_ble_eq_true rfl) (by first | exact fun i _ j _ e => e | (simp only [List.length_cons, List.length_nil]; decide)) ?_; cbv; (repeat' (first | exact trivial | rfl | assumption | apply And.intro | (simp only [hbin, hcmp, hun, hconv, hnot, hbeq, hmm, hscmp, hsadd, hslen, hsat, heqs, hofNat, binStd, cmpStd, unStd, scmpStd, maxI, Z.z1, Z.z2, Z.z3, Z.z4, Z.z5, Z.z6, if_true, if_false, Z.z7, beq_iff_eq, bne_iff_ne, ne_eq, Z.z8, Z.z9, Z.y1, beq_eq_false_iff_ne, bne_eq_false_iff_eq, Z.y2, Z.y3, Z.y4, Z.y5, reduceCtorEq]; first | done | assumption) | exact RowsZ.same (by assumption) (by first | assumption | rfl) | exact FzL.mk rfl rfl rfl (by assumption) (by first | assumption | rfl) (by decide) | (refine RowsZ.one ?_; cbv))))) ⟨Int.le_refl _, L0, rfl, hok, .inl rfl, eem.symm, hum⟩ ?_
      rintro ⟨i, y, ⟨e, m'⟩, em'⟩ hinv Q' hN hE hR'
      have hinv : 0 ≤ i ∧ i ≤ L ∧ (e, m') = (nx.take i.toNat).foldl (fun s n => growF ss lo hi 7 [x0, x1, x2, x3, x4, n] (en + lenAt ss n) s) (0, m) ∧ GOk (e, m') ∧ (e = 0 ∨ e = 13) ∧ em' = ents m' ∧ Up0 em' := hinv
      cbv
      obtain ⟨hi0, hi1, hfold, hok', he', hem', hum'⟩ := hinv
      (split <;> rename_i hc <;> (try (simp only [hbin, hcmp, hun, hconv, hnot, hbeq, hmm, hscmp, hsadd, hslen, hsat, heqs, hofNat, binStd, cmpStd, unStd, scmpStd, maxI, Z.z1, Z.z2, Z.z3, Z.z4, Z.z5, Z.z6, if_true, if_false, Z.z7, beq_iff_eq, bne_iff_ne, ne_eq, Z.z8, Z.z9, Z.y1, beq_eq_false_iff_ne, bne_eq_false_iff_eq, Z.y2, Z.y3, Z.y4, Z.y5, reduceCtorEq] at hc)) <;> (try cbv))
      · have hit : i.toNat < nx.length := by omega
        obtain ⟨n, hn⟩ : ∃ n, nx[i.toNat]? = some n := ⟨_, List.getElem?_eq_getElem hit⟩
        have hni : ns[i.toNat]? = some (nxRow n) := by rw [← ens, List.getElem?_map, hn]; rfl
        have hnb := hnxs n (List.mem_of_getElem? hn)
        obtain ⟨sg1, hd1, hrow1⟩ := get_map (f := sgRow) (ds := ss) (i := n) hnb.1 hnb.2
        have hle : lenAt ss n = sg1.len := by unfold lenAt; rw [hd1]
        have hl1 := hln.pos sg1 (List.mem_of_getElem? hd1)
        obtain ⟨len1, pcs1, nx1⟩ := sg1
        have hl1 : 1 ≤ len1 ∧ len1 ≤ 1099511627776 := hl1
        have hle : lenAt ss n = len1 := hle
        obtain ⟨q1, eq1⟩ : ∃ x, pcs1.map pcRow = x := ⟨_, rfl⟩
        obtain ⟨q2, eq2⟩ : ∃ x, nx1.map nxRow = x := ⟨_, rfl⟩
        have hrow1 : es[n.toNat]? = some [.int .i64 len1, .list 2 q1, .list 1 q2] := by rw [hes, ← eq1, ← eq2]; exact hrow1
        have hs2 : (growF ss lo hi 7 [x0, x1, x2, x3, x4, n] (en + len1) (e, m')) = (nx.take (i + 1).toNat).foldl (fun s n => growF ss lo hi 7 [x0, x1, x2, x3, x4, n] (en + lenAt ss n) s) (0, m) := by
          rw [take_next hi0 hn, List.foldl_append, ← hfold, List.foldl_cons, List.foldl_nil, hle]
        have hok2 := growF_ok ss lo hi 7 [x0, x1, x2, x3, x4, n] (en + len1) (e, m') hok' (by simp only [List.length_cons, List.length_nil]; omega)
        have he2 := growF_e ss lo hi 7 [x0, x1, x2, x3, x4, n] (en + len1) (e, m') he'
        have a3 : wbin .add .i64 en len1 = en + len1 := by rw [hbin]; show IntKind.i64.wrap (en + len1) = en + len1; rw [IntKind.wrap_i64]; omega
        obtain ⟨en2, een2⟩ : ∃ z, z = en + len1 := ⟨_, rfl⟩
        rw [← een2] at hs2 hok2 he2 a3
        have hen2 : -1099511627776 ≤ en2 ∧ en2 ≤ lenI [x0, x1, x2, x3, x4, n] * 1099511627776 := by simp only [lenI]; omega
        have hl2 : ∀ x, x ∈ [x0, x1, x2, x3, x4, n] → 0 ≤ x ∧ x.toNat < ss.length := fun x hx => by
          have : x ∈ [x0, x1, x2, x3, x4] ∨ x = n := by simpa [or_assoc] using hx
          rcases this with h | rfl
          · exact hl x h
          · exact hnb
        obtain ⟨⟨e3, m3⟩, es3⟩ : ∃ s', growF ss lo hi 7 [x0, x1, x2, x3, x4, n] en2 (e, m') = s' := ⟨_, rfl⟩
        obtain ⟨em3, eem3⟩ : ∃ x, x = ents m3 := ⟨_, rfl⟩
        have hum3 : Up0 em3 := by rw [eem3]; exact up_ents m3
        rw [es3] at hs2 hok2 he2
        refine Idx.mk _ hi0 hni ?_
        cbv
        repeat' (first
          | (refine RowOf.mk _ rfl ?_; cbv)
          | (simp only [a2]; cbv)
          | (refine InN.mk (by decide) (by decide) ?_; cbv)
          | (refine SetRow.mk _ _ rfl rfl ?_; cbv)
          | (refine Idx.mk _ hnb.1 hrow1 ?_; cbv))
        simp only [a3]
        refine Call.of (GrowC.call hu hud (e_grow6 ss gs es ds hes hds hln hnx lo hi x0 x1 x2 x3 x4 n) hP (sg := 0) (sm := 1) (h := [.live 6 [gRow es ds lo hi 1 e], .live 0 em', .live 13 [[.int .i64 6, .int .i64 x0, .int .i64 x1, .int .i64 x2, .int .i64 x3, .int .i64 x4, .int .i64 n, .int .i64 0, .int .i64 0, .int .i64 0, .int .i64 0, .int .i64 0, .int .i64 0]]]) (by decide) rfl (by rw [← hem']; rfl) hok' he' hen2 hl2 ?_)
        rw [es3, ← eem3]
        have a4 : wbin .add .i64 i 1 = i + 1 := by rw [hbin]; show IntKind.i64.wrap (i + 1) = i + 1; rw [IntKind.wrap_i64]; omega
        cbv
        simp only [a4]
        refine hN (i + 1, n, (e3, m3), em3) _ _ (by (refine Wk.eqzN (id) (by intro i hi; first | rfl | (have hh : i = 0 ∨ i = 1 := (by omega); rcases hh with hh | hh <;> subst hh <;> rfl)) (Nat.le_of_ble_eq_true rfl) (by first | exact fun i _ j _ e => e | (simp only [List.length_cons, List.length_nil]; decide)) ?_; cbv; (repeat' (first | exact trivial | rfl | assumption | apply And.intro | (simp only [hbin, hcmp, hun, hconv, hnot, hbeq, hmm, hscmp, hsadd, hslen, hsat, heqs, hofNat, binStd, cmpStd, unStd, scmpStd, maxI, Z.z1, Z.z2, Z.z3, Z.z4, Z.z5, Z.z6, if_true, if_false, Z.z7, beq_iff_eq, bne_iff_ne, ne_eq, Z.z8, Z.z9, Z.y1, beq_eq_false_iff_ne, bne_eq_false_iff_eq, Z.y2, Z.y3, Z.y4, Z.y5, reduceCtorEq]; first | done | assumption) | exact RowsZ.same (by assumption) (by first | assumption | rfl) | exact FzL.mk rfl rfl rfl (by assumption) (by first | assumption | rfl) (by decide) | (refine RowsZ.one ?_; cbv))))) ⟨by simp only; omega, by simp only; omega, hs2, hok2, he2, eem3, hum3⟩ ?_
        simp only
        omega
      · refine hE _ _ _ ?_
        cbv
        have := hKl (e, m') (by rw [hfold, List.take_of_length_le (by omega)]) [.live 13 [[.int .i64 6, .int .i64 x0, .int .i64 x1, .int .i64 x2, .int .i64 x3, .int .i64 x4, .int .i64 y, .int .i64 0, .int .i64 0, .int .i64 0, .int .i64 0, .int .i64 0, .int .i64 0]]]
        rw [← hem'] at this
        exact this
end Go.Proofs.Ytpiocfmdjgbamaa

/- route.grower.grow at depth 4. Printed by wip/tools/genroute.py. -/
set_option linter.unusedVariables false
set_option linter.unusedSimpArgs false
namespace Go.Proofs.Ytpiocfmdjgbamaa
open Go Go.RowKit Go.Eng
set_option maxRecDepth 100000
set_option maxHeartbeats 2000000 in
theorem e_grow4 (ss : List Sg) (gs : List Gr) (es ds : List (List AV)) (hes : es = ss.map sgRow) (hds : ds = gs.map grRow) (hln : LensOk ss) (hnx : NextOk ss) (lo hi : Int) (x0 x1 x2 x3 : Int) : GrowC ss es ds lo hi 9 [x0, x1, x2, x3] := by
  have hu : Up0 es := by rw [hes]; exact up_sg ss
  have hud : Up0 ds := by rw [hds]; exact up_gr gs
  intro en e m hok he hen hl K hK
  have hlast := hl x3 (by simp)
  obtain ⟨sg0, hd0, hrow0⟩ := get_map (f := sgRow) (ds := ss) (i := x3) hlast.1 hlast.2
  have hnxe : nxAt ss x3 = sg0.nx := by unfold nxAt; rw [hd0]
  have hnx0 : ∀ n, n ∈ sg0.nx → 0 ≤ n ∧ n.toNat < ss.length := fun n hn => nxAt_ok hnx (by rw [hnxe]; exact hn)
  have hnx2 : sg0.nx.length ≤ 2 := by have := nxAt_two hnx x3; rw [hnxe] at this; exact this
  have hF : growF ss lo hi 9 [x0, x1, x2, x3] en (e, m) = (if e ≠ 0 then (e, m) else if hi ≤ en ∨ sg0.nx = [] then (if 16 < (if lo ≤ en then putL m [x0, x1, x2, x3] else m).length then 13 else 0, if lo ≤ en then putL m [x0, x1, x2, x3] else m) else sg0.nx.foldl (fun s n => growF ss lo hi 8 [x0, x1, x2, x3, n] (en + lenAt ss n) s) (e, m)) := by
    rw [← hnxe]; rfl
  rw [hF] at hK
  obtain ⟨len, pcs, nx⟩ := sg0
  obtain ⟨q0, eq0⟩ : ∃ x, pcs.map pcRow = x := ⟨_, rfl⟩
  obtain ⟨ns, ens⟩ : ∃ x, nx.map nxRow = x := ⟨_, rfl⟩
  have huns : Up0 ns := by rw [← ens]; exact up_nx nx
  have hnl : ns.length = nx.length := by rw [← ens]; simp
  have hrow0 : es[x3.toNat]? = some [.int .i64 len, .list 2 q0, .list 1 ns] := by rw [hes, ← eq0, ← ens]; exact hrow0
  have hput := put_ents m [x0, x1, x2, x3] (by simp only [List.length_cons, List.length_nil]; omega) (fun j hj => (hok.all j hj).1)
  obtain ⟨em, eem⟩ : ∃ x, ents m = x := ⟨_, rfl⟩
  obtain ⟨em2, eem2⟩ : ∃ x, ents (putL m [x0, x1, x2, x3]) = x := ⟨_, rfl⟩
  have hum : Up0 em := by rw [← eem]; exact up_ents m
  have htwo : ∀ e, e ∈ em → e.length = 2 := by rw [← eem]; exact ents_two m
  have htwo2 : ∀ e, e ∈ em2 → e.length = 2 := by rw [← eem2]; exact ents_two _
  have heml : em.length = m.length := by rw [← eem]; exact ents_len m
  have heml2 : em2.length = (putL m [x0, x1, x2, x3]).length := by rw [← eem2]; exact ents_len _
  rw [eem, eem2] at hput
  rw [eem]
  have hnxs : ∀ n, n ∈ nx → 0 ≤ n ∧ n.toNat < ss.length := hnx0
  have hnx2 : nx.length ≤ 2 := hnx2
  show ACall Try.prog 55 [.ref 0 6 0 0, .agg [.int .i64 4, .int .i64 x0, .int .i64 x1, .int .i64 x2, .int .i64 x3, .int .i64 0, .int .i64 0, .int .i64 0, .int .i64 0, .int .i64 0, .int .i64 0, .int .i64 0, .int .i64 0], .int .i64 en] [.live 6 [gRow es ds lo hi 1 e], .live 0 em] K
  (refine ACall.ofI Try.func55 (by kernel_rfl) (by kernel_rfl) fun w hw => ?_); (obtain ⟨wbin, wcmp, wun, wconv, wnot, wbeq, wmm, wscmp, wsadd, wslen, wsat, weqs, wlen, wnlen, wofNat, wtake, wdrop, wapp, wzero, wnat⟩ := w); (have hbin := Z.w1 hw); (have hcmp := Z.w2 hw); (have hun := Z.w3 hw); (have hconv := Z.w4 hw); (have hnot := Z.w5 hw); (have hbeq := Z.w6 hw); (have hmm := Z.w7 hw); (have hscmp := Z.w8 hw); (have hsadd := Z.w9 hw); (have hslen := Z.w10 hw); (have hsat := Z.w11 hw); (have heqs := Z.w12 hw); (have hlen := Z.w13 hw); (have hnlen := Z.w14 hw); (have hofNat := Z.w15 hw); (have htake := Z.w16 hw); (have hdrop := Z.w17 hw); (have happ := Z.w18 hw); (have hzero := Z.w19 hw); (have hnat := Z.w20 hw); (conv => arg 2; cbv); (generalize hP : Try.prog = P); cbv
  have s1 : wbin .sub .i64 4 1 = 3 := by rw [hbin]; rfl
  simp only [s1]
  refine InN.mk (by decide) (by decide) ?_
  cbv
  repeat' (first
    | (refine RowOf.mk _ rfl ?_; cbv)
    | (refine Idx.mk _ hlast.1 hrow0 ?_; cbv))
  have hKz : e = 0 → (hi ≤ en ∨ nx = []) → ∀ j, K (.tuple []) (.live 6 [gRow es ds lo hi 1 (if 16 < (if lo ≤ en then putL m [x0, x1, x2, x3] else m).length then 13 else 0)] :: .live 0 (ents (if lo ≤ en then putL m [x0, x1, x2, x3] else m)) :: j) := fun h0 hc j => by
    have := hK j
    rw [if_neg (by simp [h0]), if_pos hc] at this
    exact this
  rcases he with rfl | rfl
  rotate_left 1
  · have c0 : wcmp .neq 13 0 = true := by rw [hcmp]; rfl
    simp only [c0]
    cbv
    have := hK [.live 13 [[.int .i64 4, .int .i64 x0, .int .i64 x1, .int .i64 x2, .int .i64 x3, .int .i64 0, .int .i64 0, .int .i64 0, .int .i64 0, .int .i64 0, .int .i64 0, .int .i64 0, .int .i64 0]]]
    rw [if_pos (by decide), eem] at this
    exact this
  have c0 : wcmp .neq 0 0 = false := by rw [hcmp]; rfl
  simp only [c0]
  cbv
  (obtain ⟨L, eL, L0, Ln⟩ : ∃ L : Int, wlen ns = L ∧ 0 ≤ L ∧ L.toNat = ns.length := ⟨(ns.length : Int), by rw [hlen], Int.natCast_nonneg _, Int.toNat_natCast _⟩)
  have hKz := hKz rfl
  have n0 : nx = [] ↔ L = 0 := by rw [← List.length_eq_zero_iff, ← hnl, ← Ln]; omega
  have blockA : (hi ≤ en ∨ nx = []) → (lo ≤ en → ∀ j, K (.tuple []) (.live 6 [gRow es ds lo hi 1 (if (16 : Int) < em2.length then 13 else 0)] :: .live 0 em2 :: j)) ∧ (en < lo → ∀ j, K (.tuple []) (.live 6 [gRow es ds lo hi 1 0] :: .live 0 em :: j)) := fun hA => by
    refine ⟨fun hlo j => ?_, fun hlo j => ?_⟩
    · have := hKz hA j
      rw [if_pos hlo, eem2] at this
      by_cases hq : 16 < (putL m [x0, x1, x2, x3]).length
      · rw [if_pos hq] at this
        rw [if_pos (by rw [heml2]; omega)]
        exact this
      · rw [if_neg hq] at this
        rw [if_neg (by rw [heml2]; omega)]
        exact this
    · have := hKz hA j
      rw [if_neg (show ¬ lo ≤ en by omega), eem, if_neg (show ¬ 16 < m.length by have := hok.few rfl; simp only at this; omega)] at this
      exact this
  obtain ⟨n1, en1⟩ : ∃ n : Int, n = em.length := ⟨_, rfl⟩
  obtain ⟨n2, en2⟩ : ∃ n : Int, n = em2.length := ⟨_, rfl⟩
  have h16 : n1 ≤ 16 := by have := hok.few rfl; simp only at this; omega
  simp only [← en2] at blockA
  have lm1 : ∀ {K' : AV → AHeap → Prop} {hp : AHeap} {c : Go.Call} {ty t kt et : TypeId} {x : Operand}, hp[1]? = some (.live 0 em) → c.callee = .builtin .len → c.args = #[x] → c.argTypes = #[t] → P.underlying t = some (.map kt et) → K' (.int .i64 n1) hp → Xo P (.call c) ty [.mapr 1] hp K' := fun h1 h2 h3 h4 h5 h6 => Xo.lenm h2 h3 h4 h5 h1 htwo n1 en1 h6
  have lm2 : ∀ {K' : AV → AHeap → Prop} {hp : AHeap} {c : Go.Call} {ty t kt et : TypeId} {x : Operand}, hp[1]? = some (.live 0 em2) → c.callee = .builtin .len → c.args = #[x] → c.argTypes = #[t] → P.underlying t = some (.map kt et) → K' (.int .i64 n2) hp → Xo P (.call c) ty [.mapr 1] hp K' := fun h1 h2 h3 h4 h5 h6 => Xo.lenm h2 h3 h4 h5 h1 htwo2 n2 en2 h6
  (split <;> rename_i h1 <;> (try (simp only [hbin, hcmp, hun, hconv, hnot, hbeq, hmm, hscmp, hsadd, hslen, hsat, heqs, hofNat, binStd, cmpStd, unStd, scmpStd, maxI, Z.z1, Z.z2, Z.z3, Z.z4, Z.z5, Z.z6, if_true, if_false, Z.z7, beq_iff_eq, bne_iff_ne, ne_eq, Z.z8, Z.z9, Z.y1, beq_eq_false_iff_ne, bne_eq_false_iff_eq, Z.y2, Z.y3, Z.y4, Z.y5, reduceCtorEq] at h1)) <;> (try cbv))
  · obtain ⟨hy, hno⟩ := blockA (.inl h1)
    clear blockA hKz
    (split <;> rename_i h3 <;> (try (simp only [hbin, hcmp, hun, hconv, hnot, hbeq, hmm, hscmp, hsadd, hslen, hsat, heqs, hofNat, binStd, cmpStd, unStd, scmpStd, maxI, Z.z1, Z.z2, Z.z3, Z.z4, Z.z5, Z.z6, if_true, if_false, Z.z7, beq_iff_eq, bne_iff_ne, ne_eq, Z.z8, Z.z9, Z.y1, beq_eq_false_iff_ne, bne_eq_false_iff_eq, Z.y2, Z.y3, Z.y4, Z.y5, reduceCtorEq] at h3)) <;> (try cbv))
    · refine Put.mk em2 rfl hput ?_
      cbv
      refine lm2 (kt := 39) (et := 3) rfl rfl rfl rfl (by rw [← hP]; kernel_rfl) ?_
      cbv
      (split <;> rename_i h4 <;> (try (simp only [hbin, hcmp, hun, hconv, hnot, hbeq, hmm, hscmp, hsadd, hslen, hsat, heqs, hofNat, binStd, cmpStd, unStd, scmpStd, maxI, Z.z1, Z.z2, Z.z3, Z.z4, Z.z5, Z.z6, if_true, if_false, Z.z7, beq_iff_eq, bne_iff_ne, ne_eq, Z.z8, Z.z9, Z.y1, beq_eq_false_iff_ne, bne_eq_false_iff_eq, Z.y2, Z.y3, Z.y4, Z.y5, reduceCtorEq] at h4)) <;> (try cbv))
      · have := hy h3 [.live 13 [[.int .i64 4, .int .i64 x0, .int .i64 x1, .int .i64 x2, .int .i64 x3, .int .i64 0, .int .i64 0, .int .i64 0, .int .i64 0, .int .i64 0, .int .i64 0, .int .i64 0, .int .i64 0]]]
        rw [if_pos (by omega)] at this
        exact this
      · have := hy h3 [.live 13 [[.int .i64 4, .int .i64 x0, .int .i64 x1, .int .i64 x2, .int .i64 x3, .int .i64 0, .int .i64 0, .int .i64 0, .int .i64 0, .int .i64 0, .int .i64 0, .int .i64 0, .int .i64 0]]]
        rw [if_neg (by omega)] at this
        exact this
    · refine lm1 (kt := 39) (et := 3) rfl rfl rfl rfl (by rw [← hP]; kernel_rfl) ?_
      cbv
      (split <;> rename_i h4 <;> (try (simp only [hbin, hcmp, hun, hconv, hnot, hbeq, hmm, hscmp, hsadd, hslen, hsat, heqs, hofNat, binStd, cmpStd, unStd, scmpStd, maxI, Z.z1, Z.z2, Z.z3, Z.z4, Z.z5, Z.z6, if_true, if_false, Z.z7, beq_iff_eq, bne_iff_ne, ne_eq, Z.z8, Z.z9, Z.y1, beq_eq_false_iff_ne, bne_eq_false_iff_eq, Z.y2, Z.y3, Z.y4, Z.y5, reduceCtorEq] at h4)) <;> (try cbv))
      · exfalso; omega
      · exact hno h3 [.live 13 [[.int .i64 4, .int .i64 x0, .int .i64 x1, .int .i64 x2, .int .i64 x3, .int .i64 0, .int .i64 0, .int .i64 0, .int .i64 0, .int .i64 0, .int .i64 0, .int .i64 0, .int .i64 0]]]
  · simp only [eL]
    (split <;> rename_i h2 <;> (try (simp only [hbin, hcmp, hun, hconv, hnot, hbeq, hmm, hscmp, hsadd, hslen, hsat, heqs, hofNat, binStd, cmpStd, unStd, scmpStd, maxI, Z.z1, Z.z2, Z.z3, Z.z4, Z.z5, Z.z6, if_true, if_false, Z.z7, beq_iff_eq, bne_iff_ne, ne_eq, Z.z8, Z.z9, Z.y1, beq_eq_false_iff_ne, bne_eq_false_iff_eq, Z.y2, Z.y3, Z.y4, Z.y5, reduceCtorEq] at h2)) <;> (try cbv))
    · obtain ⟨hy, hno⟩ := blockA (.inr (n0.2 h2))
      clear blockA hKz
      (split <;> rename_i h3 <;> (try (simp only [hbin, hcmp, hun, hconv, hnot, hbeq, hmm, hscmp, hsadd, hslen, hsat, heqs, hofNat, binStd, cmpStd, unStd, scmpStd, maxI, Z.z1, Z.z2, Z.z3, Z.z4, Z.z5, Z.z6, if_true, if_false, Z.z7, beq_iff_eq, bne_iff_ne, ne_eq, Z.z8, Z.z9, Z.y1, beq_eq_false_iff_ne, bne_eq_false_iff_eq, Z.y2, Z.y3, Z.y4, Z.y5, reduceCtorEq] at h3)) <;> (try cbv))
      · refine Put.mk em2 rfl hput ?_
        cbv
        refine lm2 (kt := 39) (et := 3) rfl rfl rfl rfl (by rw [← hP]; kernel_rfl) ?_
        cbv
        (split <;> rename_i h4 <;> (try (simp only [hbin, hcmp, hun, hconv, hnot, hbeq, hmm, hscmp, hsadd, hslen, hsat, heqs, hofNat, binStd, cmpStd, unStd, scmpStd, maxI, Z.z1, Z.z2, Z.z3, Z.z4, Z.z5, Z.z6, if_true, if_false, Z.z7, beq_iff_eq, bne_iff_ne, ne_eq, Z.z8, Z.z9, Z.y1, beq_eq_false_iff_ne, bne_eq_false_iff_eq, Z.y2, Z.y3, Z.y4, Z.y5, reduceCtorEq] at h4)) <;> (try cbv))
        · have := hy h3 [.live 13 [[.int .i64 4, .int .i64 x0, .int .i64 x1, .int .i64 x2, .int .i64 x3, .int .i64 0, .int .i64 0, .int .i64 0, .int .i64 0, .int .i64 0, .int .i64 0, .int .i64 0, .int .i64 0]]]
          rw [if_pos (by omega)] at this
          exact this
        · have := hy h3 [.live 13 [[.int .i64 4, .int .i64 x0, .int .i64 x1, .int .i64 x2, .int .i64 x3, .int .i64 0, .int .i64 0, .int .i64 0, .int .i64 0, .int .i64 0, .int .i64 0, .int .i64 0, .int .i64 0]]]
          rw [if_neg (by omega)] at this
          exact this
      · refine lm1 (kt := 39) (et := 3) rfl rfl rfl rfl (by rw [← hP]; kernel_rfl) ?_
        cbv
        (split <;> rename_i h4 <;> (try (simp only [hbin, hcmp, hun, hconv, hnot, hbeq, hmm, hscmp, hsadd, hslen, hsat, heqs, hofNat, binStd, cmpStd, unStd, scmpStd, maxI, Z.z1, Z.z2, Z.z3, Z.z4, Z.z5, Z.z6, if_true, if_false, Z.z7, beq_iff_eq, bne_iff_ne, ne_eq, Z.z8, Z.z9, Z.y1, beq_eq_false_iff_ne, bne_eq_false_iff_eq, Z.y2, Z.y3, Z.y4, Z.y5, reduceCtorEq] at h4)) <;> (try cbv))
        · exfalso; omega
        · exact hno h3 [.live 13 [[.int .i64 4, .int .i64 x0, .int .i64 x1, .int .i64 x2, .int .i64 x3, .int .i64 0, .int .i64 0, .int .i64 0, .int .i64 0, .int .i64 0, .int .i64 0, .int .i64 0, .int .i64 0]]]
    · have hK := hK
      have ck : wcmp .eql 4 12 = false := by rw [hcmp]; rfl
      have a1 : wbin .add .i64 4 1 = 5 := by rw [hbin]; rfl
      have a2 : wbin .sub .i64 5 1 = 4 := by rw [hbin]; rfl
      have hnh : ¬ (hi ≤ en ∨ nx = []) := by rw [n0]; omega
      have hen' : -1099511627776 ≤ en ∧ en ≤ 4 * 1099511627776 := hen
      have hKl : ∀ s', s' = nx.foldl (fun s n => growF ss lo hi 8 [x0, x1, x2, x3, n] (en + lenAt ss n) s) (0, m) → ∀ j, K (.tuple []) (.live 6 [gRow es ds lo hi 1 s'.1] :: .live 0 (ents s'.2) :: j) := fun s' hs' j => by
        have := hK j
        rw [if_neg (by decide), if_neg hnh] at this
        rw [hs']
        exact this
      clear hK blockA hKz lm1 lm2
      simp only [ck]
      cbv
      simp only [a1]
      repeat' (first
        | (refine RowOf.mk _ rfl ?_; cbv)
        | (simp only [a1]; cbv)
        | (refine SetRow.mk _ _ rfl rfl ?_; cbv))
      simp only [eL]
      refine Loop.dataN hw (S := Int × Int × (Int × List (List Int)) × List (List AV)) (fun s => fr 103 [(0, .ref 0 6 0 0), (2, .int .i64 en), (4, .ref 2 13 0 0), (76, .list 1 ns), (77, .int .i64 L), (78, .int .i64 s.1)])
        (fun s => [.live 6 [[.list 3 es, .list 5 ds, .int .i64 lo, .int .i64 hi, .mapr 1, .int .i64 s.2.2.1.1]], .live 0 s.2.2.2, .live 13 [[.int .i64 5, .int .i64 x0, .int .i64 x1, .int .i64 x2, .int .i64 x3, .int .i64 s.2.1, .int .i64 0, .int .i64 0, .int .i64 0, .int .i64 0, .int .i64 0, .int .i64 0, .int .i64 0]]])
        (fun s => 0 ≤ s.1 ∧ s.1 ≤ L ∧ s.2.2.1 = (nx.take s.1.toNat).foldl (fun s n => growF ss lo hi 8 [x0, x1, x2, x3, n] (en + lenAt ss n) s) (0, m) ∧ GOk s.2.2.1 ∧ (s.2.2.1.1 = 0 ∨ s.2.2.1.1 = 13) ∧ s.2.2.2 = ents s.2.2.1.2 ∧ Up0 s.2.2.2) (fun s => (L - s.1).toNat) (0, 0, (0, m), em) (by (refine Wk.eqzN (id) (by intro i hi; first | rfl | (have hh : i = 0 ∨ i = 1 := (by omega); rcases hh with hh | hh <;> subst hh <;> rfl)) (Nat.le_of_ble_eq_true rfl) (by first | exact fun i _ j _ e => e | (simp only [List.length_cons, List.length_nil]; decide)) ?_; cbv; (repeat' (first | exact trivial | rfl | assumption | apply And.intro | (simp only [hbin, hcmp, hun, hconv, hnot, hbeq, hmm, hscmp, hsadd, hslen, hsat, heqs, hofNat, binStd, cmpStd, unStd, scmpStd, maxI, Z.z1, Z.z2, Z.z3, Z.z4, Z.z5, Z.z6, if_true, if_false, Z.z7, beq_iff_eq, bne_iff_ne, ne_eq, Z.z8, Z.z9, Z.y1, beq_eq_false_iff_ne, bne_eq_false_iff_eq, Z.y2, Z.y3, Z.y4, Z.y5, reduceCtorEq]; first | done | assumption) | exact RowsZ.same (by assumption) (by first | assumption | rfl) | exact FzL.mk rfl rfl rfl (by assumption) (by first | assumption | rfl) (by decide) | (refine RowsZ.one ?_; cbv))))) ⟨Int.le_refl _, L0, rfl, hok, .inl rfl, eem.symm, hum⟩ ?_
      rintro ⟨i, y, ⟨e, m'⟩, em'⟩ hinv Q' hN hE hR'
      have hinv : 0 ≤ i ∧ i ≤ L ∧ (e, m') = (nx.take i.toNat).foldl (fun s n => growF ss lo hi 8 [x0, x1, x2, x3, n] (en + lenAt ss n) s) (0, m) ∧ GOk (e, m') ∧ (e = 0 ∨ e = 13) ∧ em' = ents m' ∧ Up0 em' := hinv
      cbv
      obtain ⟨hi0, hi1, hfold, hok', he', hem', hum'⟩ := hinv
      (split <;> rename_i hc <;> (try (simp only [hbin, hcmp, hun, hconv, hnot, hbeq, hmm, hscmp, hsadd, hslen, hsat, heqs, hofNat, binStd, cmpStd, unStd, scmpStd, maxI, Z.z1, Z.z2, Z.z3, Z.z4, Z.z5, Z.z6, if_true, if_false, Z.z7, beq_iff_eq, bne_iff_ne, ne_eq, Z.z8, Z.z9, Z.y1, beq_eq_false_iff_ne, bne_eq_false_iff_eq, Z.y2, Z.y3, Z.y4, Z.y5, reduceCtorEq] at hc)) <;> (try cbv))
      · have hit : i.toNat < nx.length := by omega
        obtain ⟨n, hn⟩ : ∃ n, nx[i.toNat]? = some n := ⟨_, List.getElem?_eq_getElem hit⟩
        have hni : ns[i.toNat]? = some (nxRow n) := by rw [← ens, List.getElem?_map, hn]; rfl
        have hnb := hnxs n (List.mem_of_getElem? hn)
        obtain ⟨sg1, hd1, hrow1⟩ := get_map (f := sgRow) (ds := ss) (i := n) hnb.1 hnb.2
        have hle : lenAt ss n = sg1.len := by unfold lenAt; rw [hd1]
        have hl1 := hln.pos sg1 (List.mem_of_getElem? hd1)
        obtain ⟨len1, pcs1, nx1⟩ := sg1
        have hl1 : 1 ≤ len1 ∧ len1 ≤ 1099511627776 := hl1
        have hle : lenAt ss n = len1 := hle
        obtain ⟨q1, eq1⟩ : ∃ x, pcs1.map pcRow = x := ⟨_, rfl⟩
        obtain ⟨q2, eq2⟩ : ∃ x, nx1.map nxRow = x := ⟨_, rfl⟩
        have hrow1 : es[n.toNat]? = some [.int .i64 len1, .list 2 q1, .list 1 q2] := by rw [hes, ← eq1, ← eq2]; exact hrow1
        have hs2 : (growF ss lo hi 8 [x0, x1, x2, x3, n] (en + len1) (e, m')) = (nx.take (i + 1).toNat).foldl (fun s n => growF ss lo hi 8 [x0, x1, x2, x3, n] (en + lenAt ss n) s) (0, m) := by
          rw [take_next hi0 hn, List.foldl_append, ← hfold, List.foldl_cons, List.foldl_nil, hle]
        have hok2 := growF_ok ss lo hi 8 [x0, x1, x2, x3, n] (en + len1) (e, m') hok' (by simp only [List.length_cons, List.length_nil]; omega)
        have he2 := growF_e ss lo hi 8 [x0, x1, x2, x3, n] (en + len1) (e, m') he'
        have a3 : wbin .add .i64 en len1 = en + len1 := by rw [hbin]; show IntKind.i64.wrap (en + len1) = en + len1; rw [IntKind.wrap_i64]; omega
        obtain ⟨en2, een2⟩ : ∃ z, z = en + len1 := ⟨_, rfl⟩
        rw [← een2] at hs2 hok2 he2 a3
        have hen2 : -1099511627776 ≤ en2 ∧ en2 ≤ lenI [x0, x1, x2, x3, n] * 1099511627776 := by simp only [lenI]; omega
        have hl2 : ∀ x, x ∈ [x0, x1, x2, x3, n] → 0 ≤ x ∧ x.toNat < ss.length := fun x hx => by
          have : x ∈ [x0, x1, x2, x3] ∨ x = n := by simpa [or_assoc] using hx
          rcases this with h | rfl
          · exact hl x h
          · exact hnb
        obtain ⟨⟨e3, m3⟩, es3⟩ : ∃ s', growF ss lo hi 8 [x0, x1, x2, x3, n] en2 (e, m') = s' := ⟨_, rfl⟩
        obtain ⟨em3, eem3⟩ : ∃ x, x = ents m3 := ⟨_, rfl⟩
        have hum3 : Up0 em3 := by rw [eem3]; exact up_ents m3
        rw [es3] at hs2 hok2 he2
        refine Idx.mk _ hi0 hni ?_
        cbv
        repeat' (first
          | (refine RowOf.mk _ rfl ?_; cbv)
          | (simp only [a2]; cbv)
          | (refine InN.mk (by decide) (by decide) ?_; cbv)
          | (refine SetRow.mk _ _ rfl rfl ?_; cbv)
          | (refine Idx.mk _ hnb.1 hrow1 ?_; cbv))
        simp only [a3]
        refine Call.of (GrowC.call hu hud (e_grow5 ss gs es ds hes hds hln hnx lo hi x0 x1 x2 x3 n) hP (sg := 0) (sm := 1) (h := [.live 6 [gRow es ds lo hi 1 e], .live 0 em', .live 13 [[.int .i64 5, .int .i64 x0, .int .i64 x1, .int .i64 x2, .int .i64 x3, .int .i64 n, .int .i64 0, .int .i64 0, .int .i64 0, .int .i64 0, .int .i64 0, .int .i64 0, .int .i64 0]]]) (by decide) rfl (by rw [← hem']; rfl) hok' he' hen2 hl2 ?_)
        rw [es3, ← eem3]
        have a4 : wbin .add .i64 i 1 = i + 1 := by rw [hbin]; show IntKind.i64.wrap (i + 1) = i + 1; rw [IntKind.wrap_i64]; omega
        cbv
        simp only [a4]
        refine hN (i + 1, n, (e3, m3), em3) _ _ (by (refine Wk.eqzN (id) (by intro i hi; first | rfl | (have hh : i = 0 ∨ i = 1 := (by omega); rcases hh with hh | hh <;> subst hh <;> rfl)) (Nat.le_of_ble_eq_true rfl) (by first | exact fun i _ j _ e => e | (simp only [List.length_cons, List.length_nil]; decide)) ?_; cbv; (repeat' (first | exact trivial | rfl | assumption | apply And.intro | (simp only [hbin, hcmp, hun, hconv, hnot, hbeq, hmm, hscmp, hsadd, hslen, hsat, heqs, hofNat, binStd, cmpStd, unStd, scmpStd, maxI, Z.z1, Z.z2, Z.z3, Z.z4, Z.z5, Z.z6, if_true, if_false, Z.z7, beq_iff_eq, bne_iff_ne, ne_eq, Z.z8, Z.z9, Z.y1, beq_eq_false_iff_ne, bne_eq_false_iff_eq, Z.y2, Z.y3, Z.y4, Z.y5, reduceCtorEq]; first | done | assumption) | exact RowsZ.same (by assumption) (by first | assumption | rfl) | exact FzL.mk rfl rfl rfl (by assumption) (by first | assumption | rfl) (by decide) | (refine RowsZ.one ?_; cbv))))) ⟨by simp only; omega, by simp only; omega, hs2, hok2, he2, eem3, hum3⟩ ?_
        simp only
        omega
      · refine hE _ _ _ ?_
        cbv
        have := hKl (e, m') (by rw [hfold, List.take_of_length_le (by omega)]) [.live 13 [[.int .i64 5, .int .i64 x0, .int .i64 x1, .int .i64 x2, .int .i64 x3, .int .i64 y, .int .i64 0, .int .i64 0, .int .i64 0, .int .i64 0, .int .i64 0, .int .i64 0, .int .i64 0]]]
        rw [← hem'] at this
        exact this
end Go.Proofs.Ytpiocfmdjgbamaa

/- route.grower.grow at depth 3. Printed by wip/tools/genroute.py. -/
set_option linter.unusedVariables false
set_option linter.unusedSimpArgs false
namespace Go.Proofs.Ytpiocfmdjgbamaa
open Go Go.RowKit Go.Eng
set_option maxRecDepth 100000
set_option maxHeartbeats 2000000 in
theorem e_grow3 (ss : List Sg) (gs : List Gr) (es ds : List (List AV)) (hes : es = ss.map sgRow) (hds : ds = gs.map grRow) (hln : LensOk ss) (hnx : NextOk ss) (lo hi : Int) (x0 x1 x2 : Int) : GrowC ss es ds lo hi 10 [x0, x1, x2] := by
  have hu : Up0 es := by rw [hes]; exact up_sg ss
  have hud : Up0 ds := by rw [hds]; exact up_gr gs
  intro en e m hok he hen hl K hK
  have hlast := hl x2 (by simp)
  obtain ⟨sg0, hd0, hrow0⟩ := get_map (f := sgRow) (ds := ss) (i := x2) hlast.1 hlast.2
  have hnxe : nxAt ss x2 = sg0.nx := by unfold nxAt; rw [hd0]
  have hnx0 : ∀ n, n ∈ sg0.nx → 0 ≤ n ∧ n.toNat < ss.length := fun n hn => nxAt_ok hnx (by rw [hnxe]; exact hn)
  have hnx2 : sg0.nx.length ≤ 2 := by have := nxAt_two hnx x2; rw [hnxe] at this; exact this
  have hF : growF ss lo hi 10 [x0, x1, x2] en (e, m) = (if e ≠ 0 then (e, m) else if hi ≤ en ∨ sg0.nx = [] then (if 16 < (if lo ≤ en then putL m [x0, x1, x2] else m).length then 13 else 0, if lo ≤ en then putL m [x0, x1, x2] else m) else sg0.nx.foldl (fun s n => growF ss lo hi 9 [x0, x1, x2, n] (en + lenAt ss n) s) (e, m)) := by
    rw [← hnxe]; rfl
  rw [hF] at hK
  obtain ⟨len, pcs, nx⟩ := sg0
  obtain ⟨q0, eq0⟩ : ∃ x, pcs.map pcRow = x := ⟨_, rfl⟩
  obtain ⟨ns, ens⟩ : ∃ x, nx.map nxRow = x := ⟨_, rfl⟩
  have huns : Up0 ns := by rw [← ens]; exact up_nx nx
  have hnl : ns.length = nx.length := by rw [← ens]; simp
  have hrow0 : es[x2.toNat]? = some [.int .i64 len, .list 2 q0, .list 1 ns] := by rw [hes, ← eq0, ← ens]; exact hrow0
  have hput := put_ents m [x0, x1, x2] (by simp only [List.length_cons, List.length_nil]; omega) (fun j hj => (hok.all j hj).1)
  obtain ⟨em, eem⟩ : ∃ x, ents m = x := ⟨_, rfl⟩
  obtain ⟨em2, eem2⟩ : ∃ x, ents (putL m [x0, x1, x2]) = x := ⟨_, rfl⟩
  have hum : Up0 em := by rw [← eem]; exact up_ents m
  have htwo : ∀ e, e ∈ em → e.length = 2 := by rw [← eem]; exact ents_two m
  have htwo2 : ∀ e, e ∈ em2 → e.length = 2 := by rw [← eem2]; exact ents_two _
  have heml : em.length = m.length := by rw [← eem]; exact ents_len m
  have heml2 : em2.length = (putL m [x0, x1, x2]).length := by rw [← eem2]; exact ents_len _
  rw [eem, eem2] at hput
  rw [eem]
  have hnxs : ∀ n, n ∈ nx → 0 ≤ n ∧ n.toNat < ss.length := hnx0
  have hnx2 : nx.length ≤ 2 := hnx2
  show ACall Try.prog 55 [.ref 0 6 0 0, .agg [.int .i64 3, .int .i64 x0, .int .i64 x1, .int .i64 x2, .int .i64 0, .int .i64 0, .int .i64 0, .int .i64 0, .int .i64 0, .int .i64 0, .int .i64 0, .int .i64 0, .int .i64 0], .int .i64 en] [.live 6 [gRow es ds lo hi 1 e], .live 0 em] K
  (refine ACall.ofI Try.func55 (by kernel_rfl) (by kernel_rfl) fun w hw => ?_); (obtain ⟨wbin, wcmp, wun, wconv, wnot, wbeq, wmm, wscmp, wsadd, wslen, wsat, weqs, wlen, wnlen, wofNat, wtake, wdrop, wapp, wzero, wnat⟩ := w); (have hbin := Z.w1 hw); (have hcmp := Z.w2 hw); (have hun := Z.w3 hw); (have hconv := Z.w4 hw); (have hnot := Z.w5 hw); (have hbeq := Z.w6 hw); (have hmm := Z.w7 hw); (have hscmp := Z.w8 hw); (have hsadd := Z.w9 hw); (have hslen := Z.w10 hw); (have hsat := Z.w11 hw); (have heqs := Z.w12 hw); (have hlen := Z.w13 hw); (have hnlen := Z.w14 hw); (have hofNat := Z.w15 hw); (have htake := Z.w16 hw); (have hdrop := Z.w17 hw); (have happ := Z.w18 hw); (have hzero := Z.w19 hw); (have hnat := Z.w20 hw); (conv => arg 2; cbv); (generalize hP : Try.prog = P); cbv
  have s1 : wbin .sub .i64 3 1 = 2 := by rw [hbin]; rfl
  simp only [s1]
  refine InN.mk (by decide) (by decide) ?_
  cbv
  repeat' (first
    | (refine RowOf.mk _ rfl ?_; cbv)
    | (refine Idx.mk _ hlast.1 hrow0 ?_; cbv))
  have hKz : e = 0 → (hi ≤ en ∨ nx = []) → ∀ j, K (.tuple []) (.live 6 [gRow es ds lo hi 1 (if 16 < (if lo ≤ en then putL m [x0, x1, x2] else m).length then 13 else 0)] :: .live 0 (ents (if lo ≤ en then putL m [x0, x1, x2] else m)) :: j) := fun h0 hc j => by
    have := hK j
    rw [if_neg (by simp [h0]), if_pos hc] at this
    exact this
  rcases he with rfl | rfl
  rotate_left 1
  · have c0 : wcmp .neq 13 0 = true := by rw [hcmp]; rfl
    simp only [c0]
    cbv
    have := hK [.live 13 [[.int .i64 3, .int .i64 x0, .int .i64 x1, .int .i64 x2, .int .i64 0, .int .i64 0, .int .i64 0, .int .i64 0, .int .i64 0, .int .i64 0, .int .i64 0, .int .i64 0, .int .i64 0]]]
    rw [if_pos (by decide), eem] at this
    exact this
  have c0 : wcmp .neq 0 0 = false := by rw [hcmp]; rfl
  simp only [c0]
  cbv
  (obtain ⟨L, eL, L0, Ln⟩ : ∃ L : Int, wlen ns = L ∧ 0 ≤ L ∧ L.toNat = ns.length := ⟨(ns.length : Int), by rw [hlen], Int.natCast_nonneg _, Int.toNat_natCast _⟩)
  have hKz := hKz rfl
  have n0 : nx = [] ↔ L = 0 := by rw [← List.length_eq_zero_iff, ← hnl, ← Ln]; omega
  have blockA : (hi ≤ en ∨ nx = []) → (lo ≤ en → ∀ j, K (.tuple []) (.live 6 [gRow es ds lo hi 1 (if (16 : Int) < em2.length then 13 else 0)] :: .live 0 em2 :: j)) ∧ (en < lo → ∀ j, K (.tuple []) (.live 6 [gRow es ds lo hi 1 0] :: .live 0 em :: j)) := fun hA => by
    refine ⟨fun hlo j => ?_, fun hlo j => ?_⟩
    · have := hKz hA j
      rw [if_pos hlo, eem2] at this
      by_cases hq : 16 < (putL m [x0, x1, x2]).length
      · rw [if_pos hq] at this
        rw [if_pos (by rw [heml2]; omega)]
        exact this
      · rw [if_neg hq] at this
        rw [if_neg (by rw [heml2]; omega)]
        exact this
    · have := hKz hA j
      rw [if_neg (show ¬ lo ≤ en by omega), eem, if_neg (show ¬ 16 < m.length by have := hok.few rfl; simp only at this; omega)] at this
      exact this
  obtain ⟨n1, en1⟩ : ∃ n : Int, n = em.length := ⟨_, rfl⟩
  obtain ⟨n2, en2⟩ : ∃ n : Int, n = em2.length := ⟨_, rfl⟩
  have h16 : n1 ≤ 16 := by have := hok.few rfl; simp only at this; omega
  simp only [← en2] at blockA
  have lm1 : ∀ {K' : AV → AHeap → Prop} {hp : AHeap} {c : Go.Call} {ty t kt et : TypeId} {x : Operand}, hp[1]? = some (.live 0 em) → c.callee = .builtin .len → c.args = #[x] → c.argTypes = #[t] → P.underlying t = some (.map kt et) → K' (.int .i64 n1) hp → Xo P (.call c) ty [.mapr 1] hp K' := fun h1 h2 h3 h4 h5 h6 => Xo.lenm h2 h3 h4 h5 h1 htwo n1 en1 h6
  have lm2 : ∀ {K' : AV → AHeap → Prop} {hp : AHeap} {c : Go.Call} {ty t kt et : TypeId} {x : Operand}, hp[1]? = some (.live 0 em2) → c.callee = .builtin .len → c.args = #[x] → c.argTypes = #[t] → P.underlying t = some (.map kt et) → K' (.int .i64 n2) hp → Xo P (.call c) ty [.mapr 1] hp K' := fun h1 h2 h3 h4 h5 h6 => Xo.lenm h2 h3 h4 h5 h1 htwo2 n2 en2 h6
  (split <;> rename_i h1 <;> (try (simp only [hbin, hcmp, hun, hconv, hnot, hbeq, hmm, hscmp, hsadd, hslen, hsat, heqs, hofNat, binStd, cmpStd, unStd, scmpStd, maxI, Z.z1, Z.z2, Z.z3, Z.z4, Z.z5, Z.z6, if_true, if_false, Z.z7, beq_iff_eq, bne_iff_ne, ne_eq, Z.z8, Z.z9, Z.y1, beq_eq_false_iff_ne, bne_eq_false_iff_eq, Z.y2, Z.y3, Z.y4, Z.y5, reduceCtorEq] at h1)) <;> (try cbv))
  · obtain ⟨hy, hno⟩ := blockA (.inl h1)
    clear blockA hKz
    (split <;> rename_i h3 <;> (try (simp only [hbin, hcmp, hun, hconv, hnot, hbeq, hmm, hscmp, hsadd, hslen, hsat, heqs, hofNat, binStd, cmpStd, unStd, scmpStd, maxI, Z.z1, Z.z2, Z.z3, Z.z4, Z.z5, Z.z6, if_true, if_false, Z.z7, beq_iff_eq, bne_iff_ne, ne_eq, Z.z8, Z.z9, Z.y1, beq_eq_false_iff_ne, bne_eq_false_iff_eq, Z.y2, Z.y3, Z.y4, Z.y5, reduceCtorEq] at h3)) <;> (try cbv))
    · refine Put.mk em2 rfl hput ?_
      cbv
      refine lm2 (kt := 39) (et := 3) rfl rfl rfl rfl (by rw [← hP]; kernel_rfl) ?_
      cbv
      (split <;> rename_i h4 <;> (try (simp only [hbin, hcmp, hun, hconv, hnot, hbeq, hmm, hscmp, hsadd, hslen, hsat, heqs, hofNat, binStd, cmpStd, unStd, scmpStd, maxI, Z.z1, Z.z2, Z.z3, Z.z4, Z.z5, Z.z6, if_true, if_false, Z.z7, beq_iff_eq, bne_iff_ne, ne_eq, Z.z8, Z.z9, Z.y1, beq_eq_false_iff_ne, bne_eq_false_iff_eq, Z.y2, Z.y3, Z.y4, Z.y5, reduceCtorEq] at h4)) <;> (try cbv))
      · have := hy h3 [.live 13 [[.int .i64 3, .int .i64 x0, .int .i64 x1, .int .i64 x2, .int .i64 0, .int .i64 0, .int .i64 0, .int .i64 0, .int .i64 0, .int .i64 0, .int .i64 0, .int .i64 0, .int .i64 0]]]
        rw [if_pos (by omega)] at this
        exact this
      · have := hy h3 [.live 13 [[.int .i64 3, .int .i64 x0, .int .i64 x1, .int .i64 x2, .int .i64 0, .int .i64 0, .int .i64 0, .int .i64 0, .int .i64 0, .int .i64 0, .int .i64 0, .int .i64 0, .int .i64 0]]]
        rw [if_neg (by omega)] at this
        exact this
    · refine lm1 (kt := 39) (et := 3) rfl rfl rfl rfl (by rw [← hP]; kernel_rfl) ?_
      cbv
      (split <;> rename_i h4 <;> (try (simp only [hbin, hcmp, hun, hconv, hnot, hbeq, hmm, hscmp, hsadd, hslen, hsat, heqs, hofNat, binStd, cmpStd, unStd, scmpStd, maxI, Z.z1, Z.z2, Z.z3, Z.z4, Z.z5, Z.z6, if_true, if_false, Z.z7, beq_iff_eq, bne_iff_ne, ne_eq, Z.z8, Z.z9, Z.y1, beq_eq_false_iff_ne, bne_eq_false_iff_eq, Z.y2, Z.y3, Z.y4, Z.y5, reduceCtorEq] at h4)) <;> (try cbv))
      · exfalso; omega
      · exact hno h3 [.live 13 [[.int .i64 3, .int .i64 x0, .int .i64 x1, .int .i64 x2, .int .i64 0, .int .i64 0, .int .i64 0, .int .i64 0, .int .i64 0, .int .i64 0, .int .i64 0, .int .i64 0, .int .i64 0]]]
  · simp only [eL]
    (split <;> rename_i h2 <;> (try (simp only [hbin, hcmp, hun, hconv, hnot, hbeq, hmm, hscmp, hsadd, hslen, hsat, heqs, hofNat, binStd, cmpStd, unStd, scmpStd, maxI, Z.z1, Z.z2, Z.z3, Z.z4, Z.z5, Z.z6, if_true, if_false, Z.z7, beq_iff_eq, bne_iff_ne, ne_eq, Z.z8, Z.z9, Z.y1, beq_eq_false_iff_ne, bne_eq_false_iff_eq, Z.y2, Z.y3, Z.y4, Z.y5, reduceCtorEq] at h2)) <;> (try cbv))
    · obtain ⟨hy, hno⟩ := blockA (.inr (n0.2 h2))
      clear blockA hKz
      (split <;> rename_i h3 <;> (try (simp only [hbin, hcmp, hun, hconv, hnot, hbeq, hmm, hscmp, hsadd, hslen, hsat, heqs, hofNat, binStd, cmpStd, unStd, scmpStd, maxI, Z.z1, Z.z2, Z.z3, Z.z4, Z.z5, Z.z6, if_true, if_false, Z.z7, beq_iff_eq, bne_iff_ne, ne_eq, Z.z8, Z.z9, Z.y1, beq_eq_false_iff_ne, bne_eq_false_iff_eq, Z.y2, Z.y3, Z.y4, Z.y5, reduceCtorEq] at h3)) <;> (try cbv))
      · refine Put.mk em2 rfl hput ?_
        cbv
        refine lm2 (kt := 39) (et := 3) rfl rfl rfl rfl (by rw [← hP]; kernel_rfl) ?_
        cbv
        (split <;> rename_i h4 <;> (try (simp only [hbin, hcmp, hun, hconv, hnot, hbeq, hmm, hscmp, hsadd, hslen, hsat, heqs, hofNat, binStd, cmpStd, unStd, scmpStd, maxI, Z.z1, Z.z2, Z.z3, Z.z4, Z.z5, Z.z6, if_true, if_false, Z.z7, beq_iff_eq, bne_iff_ne, ne_eq, Z.z8, Z.z9, Z.y1, beq_eq_false_iff_ne, bne_eq_false_iff_eq, Z.y2, Z.y3, Z.y4, Z.y5, reduceCtorEq] at h4)) <;> (try cbv))
        · have := hy h3 [.live 13 [[.int .i64 3, .int .i64 x0, .int .i64 x1, .int .i64 x2, .int .i64 0, .int .i64 0, .int .i64 0, .int .i64 0, .int .i64 0, .int .i64 0, .int .i64 0, .int .i64 0, .int .i64 0]]]
          rw [if_pos (by omega)] at this
          exact this
        · have := hy h3 [.live 13 [[.int .i64 3, .int .i64 x0, .int .i64 x1, .int .i64 x2, .int .i64 0, .int .i64 0, .int .i64 0, .int .i64 0, .int .i64 0, .int .i64 0, .int .i64 0, .int .i64 0, .int .i64 0]]]
          rw [if_neg (by omega)] at this
          exact this
      · refine lm1 (kt := 39) (et := 3) rfl rfl rfl rfl (by rw [← hP]; kernel_rfl) ?_
        cbv
        (split <;> rename_i h4 <;> (try (simp only [hbin, hcmp, hun, hconv, hnot, hbeq, hmm, hscmp, hsadd, hslen, hsat, heqs, hofNat, binStd, cmpStd, unStd, scmpStd, maxI, Z.z1, Z.z2, Z.z3, Z.z4, Z.z5, Z.z6, if_true, if_false, Z.z7, beq_iff_eq, bne_iff_ne, ne_eq, Z.z8, Z.z9, Z.y1, beq_eq_false_iff_ne, bne_eq_false_iff_eq, Z.y2, Z.y3, Z.y4, Z.y5, reduceCtorEq] at h4)) <;> (try cbv))
        · exfalso; omega
        · exact hno h3 [.live 13 [[.int .i64 3, .int .i64 x0, .int .i64 x1, .int .i64 x2, .int .i64 0, .int .i64 0, .int .i64 0, .int .i64 0, .int .i64 0, .int .i64 0, .int .i64 0, .int .i64 0, .int .i64 0]]]
    · have hK := hK
      have ck : wcmp .eql 3 12 = false := by rw [hcmp]; rfl
      have a1 : wbin .add .i64 3 1 = 4 := by rw [hbin]; rfl
      have a2 : wbin .sub .i64 4 1 = 3 := by rw [hbin]; rfl
      have hnh : ¬ (hi ≤ en ∨ nx = []) := by rw [n0]; omega
      have hen' : -1099511627776 ≤ en ∧ en ≤ 3 * 1099511627776 := hen
      have hKl : ∀ s', s' = nx.foldl (fun s n => growF ss lo hi 9 [x0, x1, x2, n] (en + lenAt ss n) s) (0, m) → ∀ j, K (.tuple []) (.live 6 [gRow es ds lo hi 1 s'.1] :: .live 0 (ents s'.2) :: j) := fun s' hs' j => by
        have := hK j
        rw [if_neg (by decide), if_neg hnh] at this
        rw [hs']
        exact this
      clear hK blockA hKz lm1 lm2
      simp only [ck]
      cbv
      simp only [a1]
      repeat' (first
        | (refine RowOf.mk _ rfl ?_; cbv)
        | (simp only [a1]; cbv)
        | (refine SetRow.mk _ _ rfl rfl ?_; cbv))
      simp only [eL]
      refine Loop.dataN hw (S := Int × Int × (Int × List (List Int)) × List (List AV)) (fun s => fr 103 [(0, .ref 0 6 0 0), (2, .int .i64 en), (4, .ref 2 13 0 0), (76, .list 1 ns), (77, .int .i64 L), (78, .int .i64 s.1)])
        (fun s => [.live 6 [[.list 3 es, .list 5 ds, .int .i64 lo, .int .i64 hi, .mapr 1, .int .i64 s.2.2.1.1]], .live 0 s.2.2.2, .live 13 [[.int .i64 4, .int .i64 x0, .int .i64 x1, .int .i64 x2, .int .i64 s.2.1, .int .i64 0, .int .i64 0, .int .i64 0, .int .i64 0, .int .i64 0, .int .i64 0, .int .i64 0, .int .i64 0]]])
        (fun s => 0 ≤ s.1 ∧ s.1 ≤ L ∧ s.2.2.1 = (nx.take s.1.toNat).foldl (fun s n => growF ss lo hi 9 [x0, x1, x2, n] (en + lenAt ss n) s) (0, m) ∧ GOk s.2.2.1 ∧ (s.2.2.1.1 = 0 ∨ s.2.2.1.1 = 13) ∧ s.2.2.2 = ents s.2.2.1.2 ∧ Up0 s.2.2.2) (fun s => (L - s.1).toNat) (0, 0, (0, m), em) (by (refine Wk.eqzN (id) (by intro i hi; first | rfl | (have hh : i = 0 ∨ i = 1 := (by omega); rcases hh with hh | hh <;> subst hh <;> rfl)) (Nat.le_of_ble_eq_true rfl) (by first | exact fun i _ j _ e => e | (simp only [List.length_cons, List.length_nil]; decide)) ?_; cbv; (repeat' (first | exact trivial | rfl | assumption | apply And.intro | (simp only [hbin, hcmp, hun, hconv, hnot, hbeq, hmm, hscmp, hsadd, hslen, hsat, heqs, hofNat, binStd, cmpStd, unStd, scmpStd, maxI, Z.z1, Z.z2, Z.z3, Z.z4, Z.z5, Z.z6, if_true, if_false, Z.z7, beq_iff_eq, bne_iff_ne, ne_eq, Z.z8, Z.z9, Z.y1, beq_eq_false_iff_ne, bne_eq_false_iff_eq, Z.y2, Z.y3, Z.y4, Z.y5, reduceCtorEq]; first | done | assumption) | exact RowsZ.same (by assumption) (by first | assumption | rfl) | exact FzL.mk rfl rfl rfl (by assumption) (by first | assumption | rfl) (by decide) | (refine RowsZ.one ?_; cbv))))) ⟨Int.le_refl _, L0, rfl, hok, .inl rfl, eem.symm, hum⟩ ?_
      rintro ⟨i, y, ⟨e, m'⟩, em'⟩ hinv Q' hN hE hR'
      have hinv : 0 ≤ i ∧ i ≤ L ∧ (e, m') = (nx.take i.toNat).foldl (fun s n => growF ss lo hi 9 [x0, x1, x2, n] (en + lenAt ss n) s) (0, m) ∧ GOk (e, m') ∧ (e = 0 ∨ e = 13) ∧ em' = ents m' ∧ Up0 em' := hinv
      cbv
      obtain ⟨hi0, hi1, hfold, hok', he', hem', hum'⟩ := hinv
      (split <;> rename_i hc <;> (try (simp only [hbin, hcmp, hun, hconv, hnot, hbeq, hmm, hscmp, hsadd, hslen, hsat, heqs, hofNat, binStd, cmpStd, unStd, scmpStd, maxI, Z.z1, Z.z2, Z.z3, Z.z4, Z.z5, Z.z6, if_true, if_false, Z.z7, beq_iff_eq, bne_iff_ne, ne_eq, Z.z8, Z.z9, Z.y1, beq_eq_false_iff_ne, bne_eq_false_iff_eq, Z.y2, Z.y3, Z.y4, Z.y5, reduceCtorEq] at hc)) <;> (try cbv))
      · have hit : i.toNat < nx.length := by omega
        obtain ⟨n, hn⟩ : ∃ n, nx[i.toNat]? = some n := ⟨_, List.getElem?_eq_getElem hit⟩
        have hni : ns[i.toNat]? = some (nxRow n) := by rw [← ens, List.getElem?_map, hn]; rfl
        have hnb := hnxs n (List.mem_of_getElem? hn)
        obtain ⟨sg1, hd1, hrow1⟩ := get_map (f := sgRow) (ds := ss) (i := n) hnb.1 hnb.2
        have hle : lenAt ss n = sg1.len := by unfold lenAt; rw [hd1]
        have hl1 := hln.pos sg1 (List.mem_of_getElem? hd1)
        obtain ⟨len1, pcs1, nx1⟩ := sg1
        have hl1 : 1 ≤ len1 ∧ len1 ≤ 1099511627776 := hl1
        have hle : lenAt ss n = len1 := hle
        obtain ⟨q1, eq1⟩ : ∃ x, pcs1.map pcRow = x := ⟨_, rfl⟩
        obtain ⟨q2, eq2⟩ : ∃ x, nx1.map nxRow = x := ⟨_, rfl⟩
        have hrow1 : es[n.toNat]? = some [.int .i64 len1, .list 2 q1, .list 1 q2] := by rw [hes, ← eq1, ← eq2]; exact hrow1
        have hs2 : (growF ss lo hi 9 [x0, x1, x2, n] (en + len1) (e, m')) = (nx.take (i + 1).toNat).foldl (fun s n => growF ss lo hi 9 [x0, x1, x2, n] (en + lenAt ss n) s) (0, m) := by
          rw [take_next hi0 hn, List.foldl_append, ← hfold, List.foldl_cons, List.foldl_nil, hle]
        have hok2 := growF_ok ss lo hi 9 [x0, x1, x2, n] (en + len1) (e, m') hok' (by simp only [List.length_cons, List.length_nil]; omega)
        have he2 := growF_e ss lo hi 9 [x0, x1, x2, n] (en + len1) (e, m') he'
        have a3 : wbin .add .i64 en len1 = en + len1 := by rw [hbin]; show IntKind.i64.wrap (en + len1) = en + len1; rw [IntKind.wrap_i64]; omega
        obtain ⟨en2, een2⟩ : ∃ z, z = en + len1 := ⟨_, rfl⟩
        rw [← een2] at hs2 hok2 he2 a3
        have hen2 : -1099511627776 ≤ en2 ∧ en2 ≤ lenI [x0, x1, x2, n] * 1099511627776 := by simp only [lenI]; omega
        have hl2 : ∀ x, x ∈ [x0, x1, x2, n] → 0 ≤ x ∧ x.toNat < ss.length := fun x hx => by
          have : x ∈ [x0, x1, x2] ∨ x = n := by simpa [or_assoc] using hx
          rcases this with h | rfl
          · exact hl x h
          · exact hnb
        obtain ⟨⟨e3, m3⟩, es3⟩ : ∃ s', growF ss lo hi 9 [x0, x1, x2, n] en2 (e, m') = s' := ⟨_, rfl⟩
        obtain ⟨em3, eem3⟩ : ∃ x, x = ents m3 := ⟨_, rfl⟩
        have hum3 : Up0 em3 := by rw [eem3]; exact up_ents m3
        rw [es3] at hs2 hok2 he2
        refine Idx.mk _ hi0 hni ?_
        cbv
        repeat' (first
          | (refine RowOf.mk _ rfl ?_; cbv)
          | (simp only [a2]; cbv)
          | (refine InN.mk (by decide) (by decide) ?_; cbv)
          | (refine SetRow.mk _ _ rfl rfl ?_; cbv)
          | (refine Idx.mk _ hnb.1 hrow1 ?_; cbv))
        simp only [a3]
        refine Call.of (GrowC.call hu hud (e_grow4 ss gs es ds hes hds hln hnx lo hi x0 x1 x2 n) hP (sg := 0) (sm := 1) (h := [.live 6 [gRow es ds lo hi 1 e], .live 0 em', .live 13 [[.int .i64 4, .int .i64 x0, .int .i64 x1, .int .i64 x2, .int .i64 n, .int .i64 0, .int .i64 0, .int .i64 0, .int .i64 0, .int .i64 0, .int .i64 0, .int .i64 0, .int .i64 0]]]) (by decide) rfl (by rw [← hem']; rfl) hok' he' hen2 hl2 ?_)
        rw [es3, ← eem3]
        have a4 : wbin .add .i64 i 1 = i + 1 := by rw [hbin]; show IntKind.i64.wrap (i + 1) = i + 1; rw [IntKind.wrap_i64]; omega
        cbv
        simp only [a4]
        refine hN (i + 1, n, (e3, m3), em3) _ _ (by (refine Wk.eqzN (id) (by intro i hi; first | rfl | (have hh : i = 0 ∨ i = 1 := (by omega); rcases hh with hh | hh <;> subst hh <;> rfl)) (Nat.le_of_ble_eq_true rfl) (by first | exact fun i _ j _ e => e | (simp only [List.length_cons, List.length_nil]; decide)) ?_; cbv; (repeat' (first | exact trivial | rfl | assumption | apply And.intro | (simp only [hbin, hcmp, hun, hconv, hnot, hbeq, hmm, hscmp, hsadd, hslen, hsat, heqs, hofNat, binStd, cmpStd, unStd, scmpStd, maxI, Z.z1, Z.z2, Z.z3, Z.z4, Z.z5, Z.z6, if_true, if_false, Z.z7, beq_iff_eq, bne_iff_ne, ne_eq, Z.z8, Z.z9, Z.y1, beq_eq_false_iff_ne, bne_eq_false_iff_eq, Z.y2, Z.y3, Z.y4, Z.y5, reduceCtorEq]; first | done | assumption) | exact RowsZ.same (by assumption) (by first | assumption | rfl) | exact FzL.mk rfl rfl rfl (by assumption) (by first | assumption | rfl) (by decide) | (refine RowsZ.one ?_; cbv))))) ⟨by simp only; omega, by simp only; omega, hs2, hok2, he2, eem3, hum3⟩ ?_
        simp only
        omega
      · refine hE _ _ _ ?_
        cbv
        have := hKl (e, m') (by rw [hfold, List.take_of_length_le (by omega)]) [.live 13 [[.int .i64 4, .int .i64 x0, .int .i64 x1, .int .i64 x2, .int .i64 y, .int .i64 0, .int .i64 0, .int .i64 0, .int .i64 0, .int .i64 0, .int .i64 0, .int .i64 0, .int .i64 0]]]
        rw [← hem'] at this
        exact this
end Go.Proofs.Ytpiocfmdjgbamaa

/- route.grower.grow at depth 2. Printed by wip/tools/genroute.py. -/
set_option linter.unusedVariables false
set_option linter.unusedSimpArgs false
namespace Go.Proofs.Ytpiocfmdjgbamaa
open Go Go.RowKit Go.Eng
set_option maxRecDepth 100000
set_option maxHeartbeats 2000000 in
theorem e_grow2 (ss : List Sg) (gs : List Gr) (es ds : List (List AV)) (hes : es = ss.map sgRow) (hds : ds = gs.map grRow) (hln : LensOk ss) (hnx : NextOk ss) (lo hi : Int) (x0 x1 : Int) : GrowC ss es ds lo hi 11 [x0, x1] := by
  have hu : Up0 es := by rw [hes]; exact up_sg ss
  have hud : Up0 ds := by rw [hds]; exact up_gr gs
  intro en e m hok he hen hl K hK
  have hlast := hl x1 (by simp)
  obtain ⟨sg0, hd0, hrow0⟩ := get_map (f := sgRow) (ds := ss) (i := x1) hlast.1 hlast.2
  have hnxe : nxAt ss x1 = sg0.nx := by unfold nxAt; rw [hd0]
  have hnx0 : ∀ n, n ∈ sg0.nx → 0 ≤ n ∧ n.toNat < ss.length := fun n hn => nxAt_ok hnx (by rw [hnxe]; exact hn)
  have hnx2 : sg0.nx.length ≤ 2 := by have := nxAt_two hnx x1; rw [hnxe] at this; exact this
  have hF : growF ss lo hi 11 [x0, x1] en (e, m) = (if e ≠ 0 then (e, m) else if hi ≤ en ∨ sg0.nx = [] then (if 16 < (if lo ≤ en then putL m [x0, x1] else m).length then 13 else 0, if lo ≤ en then putL m [x0, x1] else m) else sg0.nx.foldl (fun s n => growF ss lo hi 10 [x0, x1, n] (en + lenAt ss n) s) (e, m)) := by
    rw [← hnxe]; rfl
  rw [hF] at hK
  obtain ⟨len, pcs, nx⟩ := sg0
  obtain ⟨q0, eq0⟩ : ∃ x, pcs.map pcRow = x := ⟨_, rfl⟩
  obtain ⟨ns, ens⟩ : ∃ x, nx.map nxRow = x := ⟨_, rfl⟩
  have huns : Up0 ns := by rw [← ens]; exact up_nx nx
  have hnl : ns.length = nx.length := by rw [← ens]; simp
  have hrow0 : es[x1.toNat]? = some [.int .i64 len, .list 2 q0, .list 1 ns] := by rw [hes, ← eq0, ← ens]; exact hrow0
  have hput := put_ents m [x0, x1] (by simp only [List.length_cons, List.length_nil]; omega) (fun j hj => (hok.all j hj).1)
  obtain ⟨em, eem⟩ : ∃ x, ents m = x := ⟨_, rfl⟩
  obtain ⟨em2, eem2⟩ : ∃ x, ents (putL m [x0, x1]) = x := ⟨_, rfl⟩
  have hum : Up0 em := by rw [← eem]; exact up_ents m
  have htwo : ∀ e, e ∈ em → e.length = 2 := by rw [← eem]; exact ents_two m
  have htwo2 : ∀ e, e ∈ em2 → e.length = 2 := by rw [← eem2]; exact ents_two _
  have heml : em.length = m.length := by rw [← eem]; exact ents_len m
  have heml2 : em2.length = (putL m [x0, x1]).length := by rw [← eem2]; exact ents_len _
  rw [eem, eem2] at hput
  rw [eem]
  have hnxs : ∀ n, n ∈ nx → 0 ≤ n ∧ n.toNat < ss.length := hnx0
  have hnx2 : nx.length ≤ 2 := hnx2
  show ACall Try.prog 55 [.ref 0 6 0 0, .agg [.int .i64 2, .int .i64 x0, .int .i64 x1, .int .i64 0, .int .i64 0, .int .i64 0, .int .i64 0, .int .i64 0, .int .i64 0, .int .i64 0, .int .i64 0, .int .i64 0, .int .i64 0], .int .i64 en] [.live 6 [gRow es ds lo hi 1 e], .live 0 em] K
  (refine ACall.ofI Try.func55 (by kernel_rfl) (by kernel_rfl) fun w hw => ?_); (obtain ⟨wbin, wcmp, wun, wconv, wnot, wbeq, wmm, wscmp, wsadd, wslen, wsat, weqs, wlen, wnlen, wofNat, wtake, wdrop, wapp, wzero, wnat⟩ := w); (have hbin := Z.w1 hw); (have hcmp := Z.w2 hw); (have hun := Z.w3 hw); (have hconv := Z.w4 hw); (have hnot := Z.w5 hw); (have hbeq := Z.w6 hw); (have hmm := Z.w7 hw); (have hscmp := Z.w8 hw); (have hsadd := Z.w9 hw); (have hslen := Z.w10 hw); (have hsat := Z.w11 hw); (have heqs := Z.w12 hw); (have hlen := Z.w13 hw); (have hnlen := Z.w14 hw); (have hofNat := Z.w15 hw); (have htake := Z.w16 hw); (have hdrop := Z.w17 hw); (have happ := Z.w18 hw); (have hzero := Z.w19 hw); (have hnat := Z.w20 hw); (conv => arg 2; cbv); (generalize hP : Try.prog = P); cbv
  have s1 : wbin .sub .i64 2 1 = 1 := by rw [hbin]; rfl
  simp only [s1]
  refine InN.mk (by decide) (by decide) ?_
  cbv
  repeat' (first
    | (refine RowOf.mk _ rfl ?_; cbv)
    | (refine Idx.mk _ hlast.1 hrow0 ?_; cbv))
  have hKz : e = 0 → (hi ≤ en ∨ nx = []) → ∀ j, K (.tuple []) (.live 6 [gRow es ds lo hi 1 (if 16 < (if lo ≤ en then putL m [x0, x1] else m).length then 13 else 0)] :: .live 0 (ents (if lo ≤ en then putL m [x0, x1] else m)) :: j) := fun h0 hc j => by
    have := hK j
    rw [if_neg (by simp [h0]), if_pos hc] at this
    exact this
  rcases he with rfl | rfl
  rotate_left 1
  · have c0 : wcmp .neq 13 0 = true := by rw [hcmp]; rfl
    simp only [c0]
    cbv
    have := hK [.live 13 [[.int .i64 2, .int .i64 x0, .int .i64 x1, .int .i64 0, .int .i64 0, .int .i64 0, .int .i64 0, .int .i64 0, .int .i64 0, .int .i64 0, .int .i64 0, .int .i64 0, .int .i64 0]]]
    rw [if_pos (by decide), eem] at this
    exact this
  have c0 : wcmp .neq 0 0 = false := by rw [hcmp]; rfl
  simp only [c0]
  cbv
  (obtain ⟨L, eL, L0, Ln⟩ : ∃ L : Int, wlen ns = L ∧ 0 ≤ L ∧ L.toNat = ns.length := ⟨(ns.length : Int), by rw [hlen], Int.natCast_nonneg _, Int.toNat_natCast _⟩)
  have hKz := hKz rfl
  have n0 : nx = [] ↔ L = 0 := by rw [← List.length_eq_zero_iff, ← hnl, ← Ln]; omega
  have blockA : (hi ≤ en ∨ nx = []) → (lo ≤ en → ∀ j, K (.tuple []) (.live 6 [gRow es ds lo hi 1 (if (16 : Int) < em2.length then 13 else 0)] :: .live 0 em2 :: j)) ∧ (en < lo → ∀ j, K (.tuple []) (.live 6 [gRow es ds lo hi 1 0] :: .live 0 em :: j)) := fun hA => by
    refine ⟨fun hlo j => ?_, fun hlo j => ?_⟩
    · have := hKz hA j
      rw [if_pos hlo, eem2] at this
      by_cases hq : 16 < (putL m [x0, x1]).length
      · rw [if_pos hq] at this
        rw [if_pos (by rw [heml2]; omega)]
        exact this
      · rw [if_neg hq] at this
        rw [if_neg (by rw [heml2]; omega)]
        exact this
    · have := hKz hA j
      rw [if_neg (show ¬ lo ≤ en by omega), eem, if_neg (show ¬ 16 < m.length by have := hok.few rfl; simp only at this; omega)] at this
      exact this
  obtain ⟨n1, en1⟩ : ∃ n : Int, n = em.length := ⟨_, rfl⟩
  obtain ⟨n2, en2⟩ : ∃ n : Int, n = em2.length := ⟨_, rfl⟩
  have h16 : n1 ≤ 16 := by have := hok.few rfl; simp only at this; omega
  simp only [← en2] at blockA
  have lm1 : ∀ {K' : AV → AHeap → Prop} {hp : AHeap} {c : Go.Call} {ty t kt et : TypeId} {x : Operand}, hp[1]? = some (.live 0 em) → c.callee = .builtin .len → c.args = #[x] → c.argTypes = #[t] → P.underlying t = some (.map kt et) → K' (.int .i64 n1) hp → Xo P (.call c) ty [.mapr 1] hp K' := fun h1 h2 h3 h4 h5 h6 => Xo.lenm h2 h3 h4 h5 h1 htwo n1 en1 h6
  have lm2 : ∀ {K' : AV → AHeap → Prop} {hp : AHeap} {c : Go.Call} {ty t kt et : TypeId} {x : Operand}, hp[1]? = some (.live 0 em2) → c.callee = .builtin .len → c.args = #[x] → c.argTypes = #[t] → P.underlying t = some (.map kt et) → K' (.int .i64 n2) hp → Xo P (.call c) ty [.mapr 1] hp K' := fun h1 h2 h3 h4 h5 h6 => Xo.lenm h2 h3 h4 h5 h1 htwo2 n2 en2 h6
  (split <;> rename_i h1 <;> (try (simp only [hbin, hcmp, hun, hconv, hnot, hbeq, hmm, hscmp, hsadd, hslen, hsat, heqs, hofNat, binStd, cmpStd, unStd, scmpStd, maxI, Z.z1, Z.z2, Z.z3, Z.z4, Z.z5, Z.z6, if_true, if_false, Z.z7, beq_iff_eq, bne_iff_ne, ne_eq, Z.z8, Z.z9, Z.y1, beq_eq_false_iff_ne, bne_eq_false_iff_eq, Z.y2, Z.y3, Z.y4, Z.y5, reduceCtorEq] at h1)) <;> (try cbv))
  · obtain ⟨hy, hno⟩ := blockA (.inl h1)
    clear blockA hKz
    (split <;> rename_i h3 <;> (try (simp only [hbin, hcmp, hun, hconv, hnot, hbeq, hmm, hscmp, hsadd, hslen, hsat, heqs, hofNat, binStd, cmpStd, unStd, scmpStd, maxI, Z.z1, Z.z2, Z.z3, Z.z4, Z.z5, Z.z6, if_true, if_false, Z.z7, beq_iff_eq, bne_iff_ne, ne_eq, Z.z8, Z.z9, Z.y1, beq_eq_false_iff_ne, bne_eq_false_iff_eq, Z.y2, Z.y3, Z.y4, Z.y5, reduceCtorEq] at h3)) <;> (try cbv))
    · refine Put.mk em2 rfl hput ?_
      cbv
      refine lm2 (kt := 39) (et := 3) rfl rfl rfl rfl (by rw [← hP]; kernel_rfl) ?_
      cbv
      (split <;> rename_i h4 <;> (try (simp only [hbin, hcmp, hun, hconv, hnot, hbeq, hmm, hscmp, hsadd, hslen, hsat, heqs, hofNat, binStd, cmpStd, unStd, scmpStd, maxI, Z.z1, Z.z2, Z.z3, Z.z4, Z.z5, Z.z6, if_true, if_false, Z.z7, beq_iff_eq, bne_iff_ne, ne_eq, Z.z8, Z.z9, Z.y1, beq_eq_false_iff_ne, bne_eq_false_iff_eq, Z.y2, Z.y3, Z.y4, Z.y5, reduceCtorEq] at h4)) <;> (try cbv))
      · have := hy h3 [.live 13 [[.int .i64 2, .int .i64 x0, .int .i64 x1, .int .i64 0, .int .i64 0, .int .i64 0, .int .i64 0, .int .i64 0, .int .i64 0, .int .i64 0, .int .i64 0, .int .i64 0, .int .i64 0]]]
        rw [if_pos (by omega)] at this
        exact this
      · have := hy h3 [.live 13 [[.int .i64 2, .int .i64 x0, .int .i64 x1, .int .i64 0, .int .i64 0, .int .i64 0, .int .i64 0, .int .i64 0, .int .i64 0, .int .i64 0, .int .i64 0, .int .i64 0, .int .i64 0]]]
        rw [if_neg (by omega)] at this
        exact this
    · refine lm1 (kt := 39) (et := 3) rfl rfl rfl rfl (by rw [← hP]; kernel_rfl) ?_
      cbv
      (split <;> rename_i h4 <;> (try (simp only [hbin, hcmp, hun, hconv, hnot, hbeq, hmm, hscmp, hsadd, hslen, hsat, heqs, hofNat, binStd, cmpStd, unStd, scmpStd, maxI, Z.z1, Z.z2, Z.z3, Z.z4, Z.z5, Z.z6, if_true, if_false, Z.z7, beq_iff_eq, bne_iff_ne, ne_eq, Z.z8, Z.z9, Z.y1, beq_eq_false_iff_ne, bne_eq_false_iff_eq, Z.y2, Z.y3, Z.y4, Z.y5, reduceCtorEq] at h4)) <;> (try cbv))
      · exfalso; omega
      · exact hno h3 [.live 13 [[.int .i64 2, .int .i64 x0, .int .i64 x1, .int .i64 0, .int .i64 0, .int .i64 0, .int .i64 0, .int .i64 0, .int .i64 0, .int .i64 0, .int .i64 0, .int .i64 0, .int .i64 0]]]
  · simp only [eL]
    (split <;> rename_i h2 <;> (try (simp only [hbin, hcmp, hun, hconv, hnot, hbeq, hmm, hscmp, hsadd, hslen, hsat, heqs, hofNat, binStd, cmpStd, unStd, scmpStd, maxI, Z.z1, Z.z2, Z.z3, Z.z4, Z.z5, Z.z6, if_true, if_false, Z.z7, beq_iff_eq, bne_iff_ne, ne_eq, Z.z8, Z.z9, Z.y1, beq_eq_false_iff_ne, bne_eq_false_iff_eq, Z.y2, Z.y3, Z.y4, Z.y5, reduceCtorEq] at h2)) <;> (try cbv))
    · obtain ⟨hy, hno⟩ := blockA (.inr (n0.2 h2))
      clear blockA hKz
      (split <;> rename_i h3 <;> (try (simp only [hbin, hcmp, hun, hconv, hnot, hbeq, hmm, hscmp, hsadd, hslen, hsat, heqs, hofNat, binStd, cmpStd, unStd, scmpStd, maxI, Z.z1, Z.z2, Z.z3, Z.z4, Z.z5, Z.z6, if_true, if_false, Z.z7, beq_iff_eq, bne_iff_ne, ne_eq, Z.z8, Z.z9, Z.y1, beq_eq_false_iff_ne, bne_eq_false_iff_eq, Z.y2, Z.y3, Z.y4, Z.y5, reduceCtorEq] at h3)) <;> (try cbv))
      · refine Put.mk em2 rfl hput ?_
        cbv
        refine lm2 (kt := 39) (et := 3) rfl rfl rfl rfl (by rw [← hP]; kernel_rfl) ?_
        cbv
        (split <;> rename_i h4 <;> (try (simp only [hbin, hcmp, hun, hconv, hnot, hbeq, hmm, hscmp, hsadd, hslen, hsat, heqs, hofNat, binStd, cmpStd, unStd, scmpStd, maxI, Z.z1, Z.z2, Z.z3, Z.z4, Z.z5, Z.z6, if_true, if_false, Z.z7, beq_iff_eq, bne_iff_ne, ne_eq, Z.z8, Z.z9, Z.y1, beq_eq_false_iff_ne, bne_eq_false_iff_eq, Z.y2, Z.y3, Z.y4, Z.y5, reduceCtorEq] at h4)) <;> (try cbv))
        · have := hy h3 [.live 13 [[.int .i64 2, .int .i64 x0, .int .i64 x1, .int .i64 0, .int .i64 0, .int .i64 0, .int .i64 0, .int .i64 0, .int .i64 0, .int .i64 0, .int .i64 0, .int .i64 0, .int .i64 0]]]
          rw [if_pos (by omega)] at this
          exact this
        · have := hy h3 [.live 13 [[.int .i64 2, .int .i64 x0, .int .i64 x1, .int .i64 0, .int .i64 0, .int .i64 0, .int .i64 0, .int .i64 0, .int .i64 0, .int .i64 0, .int .i64 0, .int .i64 0, .int .i64 0]]]
          rw [if_neg (by omega)] at this
          exact this
      · refine lm1 (kt := 39) (et := 3) rfl rfl rfl rfl (by rw [← hP]; kernel_rfl) ?_
        cbv
        (split <;> rename_i h4 <;> (try (simp only [hbin, hcmp, hun, hconv, hnot, hbeq, hmm, hscmp, hsadd, hslen, hsat, heqs, hofNat, binStd, cmpStd, unStd, scmpStd, maxI, Z.z1, Z.z2, Z.z3, Z.z4, Z.z5, Z.z6, if_true, if_false, Z.z7, beq_iff_eq, bne_iff_ne, ne_eq, Z.z8, Z.z9, Z.y1, beq_eq_false_iff_ne, bne_eq_false_iff_eq, Z.y2, Z.y3, Z.y4, Z.y5, reduceCtorEq] at h4)) <;> (try cbv))
        · exfalso; omega
        · exact hno h3 [.live 13 [[.int .i64 2, .int .i64 x0, .int .i64 x1, .int .i64 0, .int .i64 0, .int .i64 0, .int .i64 0, .int .i64 0, .int .i64 0, .int .i64 0, .int .i64 0, .int .i64 0, .int .i64 0]]]
    · have hK := hK
      have ck : wcmp .eql 2 12 = false := by rw [hcmp]; rfl
      have a1 : wbin .add .i64 2 1 = 3 := by rw [hbin]; rfl
      have a2 : wbin .sub .i64 3 1 = 2 := by rw [hbin]; rfl
      have hnh : ¬ (hi ≤ en ∨ nx = []) := by rw [n0]; omega
      have hen' : -1099511627776 ≤ en ∧ en ≤ 2 * 1099511627776 := hen
      have hKl : ∀ s', s' = nx.foldl (fun s n => growF ss lo hi 10 [x0, x1, n] (en + lenAt ss n) s) (0, m) → ∀ j, K (.tuple []) (.live 6 [gRow es ds lo hi 1 s'.1] :: .live 0 (ents s'.2) :: j) := fun s' hs' j => by
        have := hK j
        rw [if_neg (by decide), if_neg hnh] at this
        rw [hs']
        exact this
      clear hK blockA hKz lm1 lm2
      simp only [ck]
      cbv
      simp only [a1]
      repeat' (first
        | (refine RowOf.mk _ rfl ?_; cbv)
        | (simp only [a1]; cbv)
        | (refine SetRow.mk _ _ rfl rfl ?_; cbv))
      simp only [eL]
      refine Loop.dataN hw (S := Int × Int × (Int × List (List Int)) × List (List AV)) (fun s => fr 103 [(0, .ref 0 6 0 0), (2, .int .i64 en), (4, .ref 2 13 0 0), (76, .list 1 ns), (77, .int .i64 L), (78, .int .i64 s.1)])
        (fun s => [.live 6 [[.list 3 es, .list 5 ds, .int .i64 lo, .int .i64 hi, .mapr 1, .int .i64 s.2.2.1.1]], .live 0 s.2.2.2, .live 13 [[.int .i64 3, .int .i64 x0, .int .i64 x1, .int .i64 s.2.1, .int .i64 0, .int .i64 0, .int .i64 0, .int .i64 0, .int .i64 0, .int .i64 0, .int .i64 0, .int .i64 0, .int .i64 0]]])
        (fun s => 0 ≤ s.1 ∧ s.1 ≤ L ∧ s.2.2.1 = (nx.take s.1.toNat).foldl (fun s n => growF ss lo hi 10 [x0, x1, n] (en + lenAt ss n) s) (0, m) ∧ GOk s.2.2.1 ∧ (s.2.2.1.1 = 0 ∨ s.2.2.1.1 = 13) ∧ s.2.2.2 = ents s.2.2.1.2 ∧ Up0 s.2.2.2) (fun s => (L - s.1).toNat) (0, 0, (0, m), em) (by (refine Wk.eqzN (id) (by intro i hi; first | rfl | (have hh : i = 0 ∨ i = 1 := (by omega); rcases hh with hh | hh <;> subst hh <;> rfl)) (Nat.le_of_ble_eq_true rfl) (by first | exact fun i _ j _ e => e | (simp only [List.length_cons, List.length_nil]; decide)) ?_; cbv; (repeat' (first | exact trivial | rfl | assumption | apply And.intro | (simp only [hbin, hcmp, hun, hconv, hnot, hbeq, hmm, hscmp, hsadd, hslen, hsat, heqs, hofNat, binStd, cmpStd, unStd, scmpStd, maxI, Z.z1, Z.z2, Z.z3, Z.z4, Z.z5, Z.z6, if_true, if_false, Z.z7, beq_iff_eq, bne_iff_ne, ne_eq, Z.z8, Z.z9, Z.y1, beq_eq_false_iff_ne, bne_eq_false_iff_eq, Z.y2, Z.y3, Z.y4, Z.y5, reduceCtorEq]; first | done | assumption) | exact RowsZ.same (by assumption) (by first | assumption | rfl) | exact FzL.mk rfl rfl rfl (by assumption) (by first | assumption | rfl) (by decide) | (refine RowsZ.one ?_; cbv))))) ⟨Int.le_refl _, L0, rfl, hok, .inl rfl, eem.symm, hum⟩ ?_
      rintro ⟨i, y, ⟨e, m'⟩, em'⟩ hinv Q' hN hE hR'
      have hinv : 0 ≤ i ∧ i ≤ L ∧ (e, m') = (nx.take i.toNat).foldl (fun s n => growF ss lo hi 10 [x0, x1, n] (en + lenAt ss n) s) (0, m) ∧ GOk (e, m') ∧ (e = 0 ∨ e = 13) ∧ em' = ents m' ∧ Up0 em' := hinv
      cbv
      obtain ⟨hi0, hi1, hfold, hok', he', hem', hum'⟩ := hinv
      (split <;> rename_i hc <;> (try (simp only [hbin, hcmp, hun, hconv, hnot, hbeq, hmm, hscmp, hsadd, hslen, hsat, heqs, hofNat, binStd, cmpStd, unStd, scmpStd, maxI, Z.z1, Z.z2, Z.z3, Z.z4, Z.z5, Z.z6, if_true, if_false, Z.z7, beq_iff_eq, bne_iff_ne, ne_eq, Z.z8, Z.z9, Z.y1, beq_eq_false_iff_ne, bne_eq_false_iff_eq, Z.y2, Z.y3, Z.y4, Z.y5, reduceCtorEq] at hc)) <;> (try cbv))
      · have hit : i.toNat < nx.length := by omega
        obtain ⟨n, hn⟩ : ∃ n, nx[i.toNat]? = some n := ⟨_, List.getElem?_eq_getElem hit⟩
        have hni : ns[i.toNat]? = some (nxRow n) := by rw [← ens, List.getElem?_map, hn]; rfl
        have hnb := hnxs n (List.mem_of_getElem? hn)
        obtain ⟨sg1, hd1, hrow1⟩ := get_map (f := sgRow) (ds := ss) (i := n) hnb.1 hnb.2
        have hle : lenAt ss n = sg1.len := by unfold lenAt; rw [hd1]
        have hl1 := hln.pos sg1 (List.mem_of_getElem? hd1)
        obtain ⟨len1, pcs1, nx1⟩ := sg1
        have hl1 : 1 ≤ len1 ∧ len1 ≤ 1099511627776 := hl1
        have hle : lenAt ss n = len1 := hle
        obtain ⟨q1, eq1⟩ : ∃ x, pcs1.map pcRow = x := ⟨_, rfl⟩
        obtain ⟨q2, eq2⟩ : ∃ x, nx1.map nxRow = x := ⟨_, rfl⟩
        have hrow1 : es[n.toNat]? = some [.int .i64 len1, .list 2 q1, .list 1 q2] := by rw [hes, ← eq1, ← eq2]; exact hrow1
        have hs2 : (growF ss lo hi 10 [x0, x1, n] (en + len1) (e, m')) = (nx.take (i + 1).toNat).foldl (fun s n => growF ss lo hi 10 [x0, x1, n] (en + lenAt ss n) s) (0, m) := by
          rw [take_next hi0 hn, List.foldl_append, ← hfold, List.foldl_cons, List.foldl_nil, hle]
        have hok2 := growF_ok ss lo hi 10 [x0, x1, n] (en + len1) (e, m') hok' (by simp only [List.length_cons, List.length_nil]; omega)
        have he2 := growF_e ss lo hi 10 [x0, x1, n] (en + len1) (e, m') he'
        have a3 : wbin .add .i64 en len1 = en + len1 := by rw [hbin]; show IntKind.i64.wrap (en + len1) = en + len1; rw [IntKind.wrap_i64]; omega
        obtain ⟨en2, een2⟩ : ∃ z, z = en + len1 := ⟨_, rfl⟩
        rw [← een2] at hs2 hok2 he2 a3
        have hen2 : -1099511627776 ≤ en2 ∧ en2 ≤ lenI [x0, x1, n] * 1099511627776 := by simp only [lenI]; omega
        have hl2 : ∀ x, x ∈ [x0, x1, n] → 0 ≤ x ∧ x.toNat < ss.length := fun x hx => by
          have : x ∈ [x0, x1] ∨ x = n := by simpa [or_assoc] using hx
          rcases this with h | rfl
          · exact hl x h
          · exact hnb
        obtain ⟨⟨e3, m3⟩, es3⟩ : ∃ s', growF ss lo hi 10 [x0, x1, n] en2 (e, m') = s' := ⟨_, rfl⟩
        obtain ⟨em3, eem3⟩ : ∃ x, x = ents m3 := ⟨_, rfl⟩
        have hum3 : Up0 em3 := by rw [eem3]; exact up_ents m3
        rw [es3] at hs2 hok2 he2
        refine Idx.mk _ hi0 hni ?_
        cbv
        repeat' (first
          | (refine RowOf.mk _ rfl ?_; cbv)
          | (simp only [a2]; cbv)
          | (refine InN.mk (by decide) (by decide) ?_; cbv)
          | (refine SetRow.mk _ _ rfl rfl ?_; cbv)
          | (refine Idx.mk _ hnb.1 hrow1 ?_; cbv))
        simp only [a3]
        refine Call.of (GrowC.call hu hud (e_grow3 ss gs es ds hes hds hln hnx lo hi x0 x1 n) hP (sg := 0) (sm := 1) (h := [.live 6 [gRow es ds lo hi 1 e], .live 0 em', .live 13 [[.int .i64 3, .int .i64 x0, .int .i64 x1, .int .i64 n, .int .i64 0, .int .i64 0, .int .i64 0, .int .i64 0, .int .i64 0, .int .i64 0, .int .i64 0, .int .i64 0, .int .i64 0]]]) (by decide) rfl (by rw [← hem']; rfl) hok' he' hen2 hl2 ?_)
        rw [es3, ← eem3]
        have a4 : wbin .add .i64 i 1 = i + 1 := by rw [hbin]; show IntKind.i64.wrap (i + 1) = i + 1; rw [IntKind.wrap_i64]; omega
        cbv
        simp only [a4]
        refine hN (i + 1, n, (e3, m3), em3) _ _ (by (refine Wk.eqzN (id) (by intro i hi; first | rfl | (have hh : i = 0 ∨ i = 1 := (by omega); rcases hh with hh | hh <;> subst hh <;> rfl)) (Nat.le_of_ble_eq_true rfl) (by first | exact fun i _ j _ e => e | (simp only [List.length_cons, List.length_nil]; decide)) ?_; cbv; (repeat' (first | exact trivial | rfl | assumption | apply And.intro | (simp only [hbin, hcmp, hun, hconv, hnot, hbeq, hmm, hscmp, hsadd, hslen, hsat, heqs, hofNat, binStd, cmpStd, unStd, scmpStd, maxI, Z.z1, Z.z2, Z.z3, Z.z4, Z.z5, Z.z6, if_true, if_false, Z.z7, beq_iff_eq, bne_iff_ne, ne_eq, Z.z8, Z.z9, Z.y1, beq_eq_false_iff_ne, bne_eq_false_iff_eq, Z.y2, Z.y3, Z.y4, Z.y5, reduceCtorEq]; first | done | assumption) | exact RowsZ.same (by assumption) (by first | assumption | rfl) | exact FzL.mk rfl rfl rfl (by assumption) (by first | assumption | rfl) (by decide) | (refine RowsZ.one ?_; cbv))))) ⟨by simp only; omega, by simp only; omega, hs2, hok2, he2, eem3, hum3⟩ ?_
        simp only
        omega
      · refine hE _ _ _ ?_
        cbv
        have := hKl (e, m') (by rw [hfold, List.take_of_length_le (by omega)]) [.live 13 [[.int .i64 3, .int .i64 x0, .int .i64 x1, .int .i64 y, .int .i64 0, .int .i64 0, .int .i64 0, .int .i64 0, .int .i64 0, .int .i64 0, .int .i64 0, .int .i64 0, .int .i64 0]]]
        rw [← hem'] at this
        exact this
end Go.Proofs.Ytpiocfmdjgbamaa

/- route.grower.grow at depth 1. Printed by wip/tools/genroute.py. -/
set_option linter.unusedVariables false
set_option linter.unusedSimpArgs false
namespace Go.Proofs.Ytpiocfmdjgbamaa
open Go Go.RowKit Go.Eng
set_option maxRecDepth 100000
set_option maxHeartbeats 2000000 in
theorem e_grow1 (ss : List Sg) (gs : List Gr) (es ds : List (List AV)) (hes : es = ss.map sgRow) (hds : ds = gs.map grRow) (hln : LensOk ss) (hnx : NextOk ss) (lo hi : Int) (x0 : Int) : GrowC ss es ds lo hi 12 [x0] := by
  have hu : Up0 es := by rw [hes]; exact up_sg ss
  have hud : Up0 ds := by rw [hds]; exact up_gr gs
  intro en e m hok he hen hl K hK
  have hlast := hl x0 (by simp)
  obtain ⟨sg0, hd0, hrow0⟩ := get_map (f := sgRow) (ds := ss) (i := x0) hlast.1 hlast.2
  have hnxe : nxAt ss x0 = sg0.nx := by unfold nxAt; rw [hd0]
  have hnx0 : ∀ n, n ∈ sg0.nx → 0 ≤ n ∧ n.toNat < ss.length := fun n hn => nxAt_ok hnx (by rw [hnxe]; exact hn)
  have hnx2 : sg0.nx.length ≤ 2 := by have := nxAt_two hnx x0; rw [hnxe] at this; exact this
  have hF : growF ss lo hi 12 [x0] en (e, m) = (if e ≠ 0 then (e, m) else if hi ≤ en ∨ sg0.nx = [] then (if 16 < (if lo ≤ en then putL m [x0] else m).length then 13 else 0, if lo ≤ en then putL m [x0] else m) else sg0.nx.foldl (fun s n => growF ss lo hi 11 [x0, n] (en + lenAt ss n) s) (e, m)) := by
    rw [← hnxe]; rfl
  rw [hF] at hK
  obtain ⟨len, pcs, nx⟩ := sg0
  obtain ⟨q0, eq0⟩ : ∃ x, pcs.map pcRow = x := ⟨_, rfl⟩
  obtain ⟨ns, ens⟩ : ∃ x, nx.map nxRow = x := ⟨_, rfl⟩
  have huns : Up0 ns := by rw [← ens]; exact up_nx nx
  have hnl : ns.length = nx.length := by rw [← ens]; simp
  have hrow0 : es[x0.toNat]? = some [.int .i64 len, .list 2 q0, .list 1 ns] := by rw [hes, ← eq0, ← ens]; exact hrow0
  have hput := put_ents m [x0] (by simp only [List.length_cons, List.length_nil]; omega) (fun j hj => (hok.all j hj).1)
  obtain ⟨em, eem⟩ : ∃ x, ents m = x := ⟨_, rfl⟩
  obtain ⟨em2, eem2⟩ : ∃ x, ents (putL m [x0]) = x := ⟨_, rfl⟩
  have hum : Up0 em := by rw [← eem]; exact up_ents m
  have htwo : ∀ e, e ∈ em → e.length = 2 := by rw [← eem]; exact ents_two m
  have htwo2 : ∀ e, e ∈ em2 → e.length = 2 := by rw [← eem2]; exact ents_two _
  have heml : em.length = m.length := by rw [← eem]; exact ents_len m
  have heml2 : em2.length = (putL m [x0]).length := by rw [← eem2]; exact ents_len _
  rw [eem, eem2] at hput
  rw [eem]
  have hnxs : ∀ n, n ∈ nx → 0 ≤ n ∧ n.toNat < ss.length := hnx0
  have hnx2 : nx.length ≤ 2 := hnx2
  show ACall Try.prog 55 [.ref 0 6 0 0, .agg [.int .i64 1, .int .i64 x0, .int .i64 0, .int .i64 0, .int .i64 0, .int .i64 0, .int .i64 0, .int .i64 0, .int .i64 0, .int .i64 0, .int .i64 0, .int .i64 0, .int .i64 0], .int .i64 en] [.live 6 [gRow es ds lo hi 1 e], .live 0 em] K
  (refine ACall.ofI Try.func55 (by kernel_rfl) (by kernel_rfl) fun w hw => ?_); (obtain ⟨wbin, wcmp, wun, wconv, wnot, wbeq, wmm, wscmp, wsadd, wslen, wsat, weqs, wlen, wnlen, wofNat, wtake, wdrop, wapp, wzero, wnat⟩ := w); (have hbin := Z.w1 hw); (have hcmp := Z.w2 hw); (have hun := Z.w3 hw); (have hconv := Z.w4 hw); (have hnot := Z.w5 hw); (have hbeq := Z.w6 hw); (have hmm := Z.w7 hw); (have hscmp := Z.w8 hw); (have hsadd := Z.w9 hw); (have hslen := Z.w10 hw); (have hsat := Z.w11 hw); (have heqs := Z.w12 hw); (have hlen := Z.w13 hw); (have hnlen := Z.w14 hw); (have hofNat := Z.w15 hw); (have htake := Z.w16 hw); (have hdrop := Z.w17 hw); (have happ := Z.w18 hw); (have hzero := Z.w19 hw); (have hnat := Z.w20 hw); (conv => arg 2; cbv); (generalize hP : Try.prog = P); cbv
  have s1 : wbin .sub .i64 1 1 = 0 := by rw [hbin]; rfl
  simp only [s1]
  refine InN.mk (by decide) (by decide) ?_
  cbv
  repeat' (first
    | (refine RowOf.mk _ rfl ?_; cbv)
    | (refine Idx.mk _ hlast.1 hrow0 ?_; cbv))
  have hKz : e = 0 → (hi ≤ en ∨ nx = []) → ∀ j, K (.tuple []) (.live 6 [gRow es ds lo hi 1 (if 16 < (if lo ≤ en then putL m [x0] else m).length then 13 else 0)] :: .live 0 (ents (if lo ≤ en then putL m [x0] else m)) :: j) := fun h0 hc j => by
    have := hK j
    rw [if_neg (by simp [h0]), if_pos hc] at this
    exact this
  rcases he with rfl | rfl
  rotate_left 1
  · have c0 : wcmp .neq 13 0 = true := by rw [hcmp]; rfl
    simp only [c0]
    cbv
    have := hK [.live 13 [[.int .i64 1, .int .i64 x0, .int .i64 0, .int .i64 0, .int .i64 0, .int .i64 0, .int .i64 0, .int .i64 0, .int .i64 0, .int .i64 0, .int .i64 0, .int .i64 0, .int .i64 0]]]
    rw [if_pos (by decide), eem] at this
    exact this
  have c0 : wcmp .neq 0 0 = false := by rw [hcmp]; rfl
  simp only [c0]
  cbv
  (obtain ⟨L, eL, L0, Ln⟩ : ∃ L : Int, wlen ns = L ∧ 0 ≤ L ∧ L.toNat = ns.length := ⟨(ns.length : Int), by rw [hlen], Int.natCast_nonneg _, Int.toNat_natCast _⟩)
  have hKz := hKz rfl
  have n0 : nx = [] ↔ L = 0 := by rw [← List.length_eq_zero_iff, ← hnl, ← Ln]; omega
  have blockA : (hi ≤ en ∨ nx = []) → (lo ≤ en → ∀ j, K (.tuple []) (.live 6 [gRow es ds lo hi 1 (if (16 : Int) < em2.length then 13 else 0)] :: .live 0 em2 :: j)) ∧ (en < lo → ∀ j, K (.tuple []) (.live 6 [gRow es ds lo hi 1 0] :: .live 0 em :: j)) := fun hA => by
    refine ⟨fun hlo j => ?_, fun hlo j => ?_⟩
    · have := hKz hA j
      rw [if_pos hlo, eem2] at this
      by_cases hq : 16 < (putL m [x0]).length
      · rw [if_pos hq] at this
        rw [if_pos (by rw [heml2]; omega)]
        exact this
      · rw [if_neg hq] at this
        rw [if_neg (by rw [heml2]; omega)]
        exact this
    · have := hKz hA j
      rw [if_neg (show ¬ lo ≤ en by omega), eem, if_neg (show ¬ 16 < m.length by have := hok.few rfl; simp only at this; omega)] at this
      exact this
  obtain ⟨n1, en1⟩ : ∃ n : Int, n = em.length := ⟨_, rfl⟩
  obtain ⟨n2, en2⟩ : ∃ n : Int, n = em2.length := ⟨_, rfl⟩
  have h16 : n1 ≤ 16 := by have := hok.few rfl; simp only at this; omega
  simp only [← en2] at blockA
  have lm1 : ∀ {K' : AV → AHeap → Prop} {hp : AHeap} {c : Go.Call} {ty t kt et : TypeId} {x : Operand}, hp[1]? = some (.live 0 em) → c.callee = .builtin .len → c.args = #[x] → c.argTypes = #[t] → P.underlying t = some (.map kt et) → K' (.int .i64 n1) hp → Xo P (.call c) ty [.mapr 1] hp K' := fun h1 h2 h3 h4 h5 h6 => Xo.lenm h2 h3 h4 h5 h1 htwo n1 en1 h6
  have lm2 : ∀ {K' : AV → AHeap → Prop} {hp : AHeap} {c : Go.Call} {ty t kt et : TypeId} {x : Operand}, hp[1]? = some (.live 0 em2) → c.callee = .builtin .len → c.args = #[x] → c.argTypes = #[t] → P.underlying t = some (.map kt et) → K' (.int .i64 n2) hp → Xo P (.call c) ty [.mapr 1] hp K' := fun h1 h2 h3 h4 h5 h6 => Xo.lenm h2 h3 h4 h5 h1 htwo2 n2 en2 h6
  (split <;> rename_i h1 <;> (try (simp only [hbin, hcmp, hun, hconv, hnot, hbeq, hmm, hscmp, hsadd, hslen, hsat, heqs, hofNat, binStd, cmpStd, unStd, scmpStd, maxI, Z.z1, Z.z2, Z.z3, Z.z4, Z.z5, Z.z6, if_true, if_false, Z.z7, beq_iff_eq, bne_iff_ne, ne_eq, Z.z8, Z.z9, Z.y1, beq_eq_false_iff_ne, bne_eq_false_iff_eq, Z.y2, Z.y3, Z.y4, Z.y5, reduceCtorEq] at h1)) <;> (try cbv))
  · obtain ⟨hy, hno⟩ := blockA (.inl h1)
    clear blockA hKz
    (split <;> rename_i h3 <;> (try (simp only [hbin, hcmp, hun, hconv, hnot, hbeq, hmm, hscmp, hsadd, hslen, hsat, heqs, hofNat, binStd, cmpStd, unStd, scmpStd, maxI, Z.z1, Z.z2, Z.z3, Z.z4, Z.z5, Z.z6, if_true, if_false, Z.z7, beq_iff_eq, bne_iff_ne, ne_eq, Z.z8, Z.z9, Z.y1, beq_eq_false_iff_ne, bne_eq_false_iff_eq, Z.y2, Z.y3, Z.y4, Z.y5, reduceCtorEq] at h3)) <;> (try cbv))
    · refine Put.mk em2 rfl hput ?_
      cbv
      refine lm2 (kt := 39) (et := 3) rfl rfl rfl rfl (by rw [← hP]; kernel_rfl) ?_
      cbv
      (split <;> rename_i h4 <;> (try (simp only [hbin, hcmp, hun, hconv, hnot, hbeq, hmm, hscmp, hsadd, hslen, hsat, heqs, hofNat, binStd, cmpStd, unStd, scmpStd, maxI, Z.z1, Z.z2, Z.z3, Z.z4, Z.z5, Z.z6, if_true, if_false, Z.z7, beq_iff_eq, bne_iff_ne, ne_eq, Z.z8, Z.z9, Z.y1, beq_eq_false_iff_ne, bne_eq_false_iff_eq, Z.y2, Z.y3, Z.y4, Z.y5, reduceCtorEq] at h4)) <;> (try cbv))
      · have := hy h3 [.live 13 [[.int .i64 1, .int .i64 x0, .int .i64 0, .int .i64 0, .int .i64 0, .int .i64 0, .int .i64 0, .int .i64 0, .int .i64 0, .int .i64 0, .int .i64 0, .int .i64 0, .int .i64 0]]]
        rw [if_pos (by omega)] at this
        exact this
      · have := hy h3 [.live 13 [[.int .i64 1, .int .i64 x0, .int .i64 0, .int .i64 0, .int .i64 0, .int .i64 0, .int .i64 0, .int .i64 0, .int .i64 0, .int .i64 0, .int .i64 0, .int .i64 0, .int .i64 0]]]
        rw [if_neg (by omega)] at this
        exact this
    · refine lm1 (kt := 39) (et := 3) rfl rfl rfl rfl (by rw [← hP]; kernel_rfl) ?_
      cbv
      (split <;> rename_i h4 <;> (try (simp only [hbin, hcmp, hun, hconv, hnot, hbeq, hmm, hscmp, hsadd, hslen, hsat, heqs, hofNat, binStd, cmpStd, unStd, scmpStd, maxI, Z.z1, Z.z2, Z.z3, Z.z4, Z.z5, Z.z6, if_true, if_false, Z.z7, beq_iff_eq, bne_iff_ne, ne_eq, Z.z8, Z.z9, Z.y1, beq_eq_false_iff_ne, bne_eq_false_iff_eq, Z.y2, Z.y3, Z.y4, Z.y5, reduceCtorEq] at h4)) <;> (try cbv))
      · exfalso; omega
      · exact hno h3 [.live 13 [[.int .i64 1, .int .i64 x0, .int .i64 0, .int .i64 0, .int .i64 0, .int .i64 0, .int .i64 0, .int .i64 0, .int .i64 0, .int .i64 0, .int .i64 0, .int .i64 0, .int .i64 0]]]
  · simp only [eL]
    (split <;> rename_i h2 <;> (try (simp only [hbin, hcmp, hun, hconv, hnot, hbeq, hmm, hscmp, hsadd, hslen, hsat, heqs, hofNat, binStd, cmpStd, unStd, scmpStd, maxI, Z.z1, Z.z2, Z.z3, Z.z4, Z.z5, Z.z6, if_true, if_false, Z.z7, beq_iff_eq, bne_iff_ne, ne_eq, Z.z8, Z.z9, Z.y1, beq_eq_false_iff_ne, bne_eq_false_iff_eq, Z.y2, Z.y3, Z.y4, Z.y5, reduceCtorEq] at h2)) <;> (try cbv))
    · obtain ⟨hy, hno⟩ := blockA (.inr (n0.2 h2))
      clear blockA hKz
      (split <;> rename_i h3 <;> (try (simp only [hbin, hcmp, hun, hconv, hnot, hbeq, hmm, hscmp, hsadd, hslen, hsat, heqs, hofNat, binStd, cmpStd, unStd, scmpStd, maxI, Z.z1, Z.z2, Z.z3, Z.z4, Z.z5, Z.z6, if_true, if_false, Z.z7, beq_iff_eq, bne_iff_ne, ne_eq, Z.z8, Z.z9, Z.y1, beq_eq_false_iff_ne, bne_eq_false_iff_eq, Z.y2, Z.y3, Z.y4, Z.y5, reduceCtorEq] at h3)) <;> (try cbv))
      · refine Put.mk em2 rfl hput ?_
        cbv
        refine lm2 (kt := 39) (et := 3) rfl rfl rfl rfl (by rw [← hP]; kernel_rfl) ?_
        cbv
        (split <;> rename_i h4 <;> (try (simp only [hbin, hcmp, hun, hconv, hnot, hbeq, hmm, hscmp, hsadd, hslen, hsat, heqs, hofNat, binStd, cmpStd, unStd, scmpStd, maxI, Z.z1, Z.z2, Z.z3, Z.z4, Z.z5, Z.z6, if_true, if_false, Z.z7, beq_iff_eq, bne_iff_ne, ne_eq, Z.z8, Z.z9, Z.y1, beq_eq_false_iff_ne, bne_eq_false_iff_eq, Z.y2, Z.y3, Z.y4, Z.y5, reduceCtorEq] at h4)) <;> (try cbv))
        · have := hy h3 [.live 13 [[.int .i64 1, .int .i64 x0, .int .i64 0, .int .i64 0, .int .i64 0, .int .i64 0, .int .i64 0, .int .i64 0, .int .i64 0, .int .i64 0, .int .i64 0, .int .i64 0, .int .i64 0]]]
          rw [if_pos (by omega)] at this
          exact this
        · have := hy h3 [.live 13 [[.int .i64 1, .int .i64 x0, .int .i64 0, .int .i64 0, .int .i64 0, .int .i64 0, .int .i64 0, .int .i64 0, .int .i64 0, .int .i64 0, .int .i64 0, .int .i64 0, .int .i64 0]]]
          rw [if_neg (by omega)] at this
          exact this
      · refine lm1 (kt := 39) (et := 3) rfl rfl rfl rfl (by rw [← hP]; kernel_rfl) ?_
        cbv
        (split <;> rename_i h4 <;> (try (simp only [hbin, hcmp, hun, hconv, hnot, hbeq, hmm, hscmp, hsadd, hslen, hsat, heqs, hofNat, binStd, cmpStd, unStd, scmpStd, maxI, Z.z1, Z.z2, Z.z3, Z.z4, Z.z5, Z.z6, if_true, if_false, Z.z7, beq_iff_eq, bne_iff_ne, ne_eq, Z.z8, Z.z9, Z.y1, beq_eq_false_iff_ne, bne_eq_false_iff_eq, Z.y2, Z.y3, Z.y4, Z.y5, reduceCtorEq] at h4)) <;> (try cbv))
        · exfalso; omega
        · exact hno h3 [.live 13 [[.int .i64 1, .int .i64 x0, .int .i64 0, .int .i64 0, .int .i64 0, .int .i64 0, .int .i64 0, .int .i64 0, .int .i64 0, .int .i64 0, .int .i64 0, .int .i64 0, .int .i64 0]]]
    · have hK := hK
      have ck : wcmp .eql 1 12 = false := by rw [hcmp]; rfl
      have a1 : wbin .add .i64 1 1 = 2 := by rw [hbin]; rfl
      have a2 : wbin .sub .i64 2 1 = 1 := by rw [hbin]; rfl
      have hnh : ¬ (hi ≤ en ∨ nx = []) := by rw [n0]; omega
      have hen' : -1099511627776 ≤ en ∧ en ≤ 1 * 1099511627776 := hen
      have hKl : ∀ s', s' = nx.foldl (fun s n => growF ss lo hi 11 [x0, n] (en + lenAt ss n) s) (0, m) → ∀ j, K (.tuple []) (.live 6 [gRow es ds lo hi 1 s'.1] :: .live 0 (ents s'.2) :: j) := fun s' hs' j => by
        have := hK j
        rw [if_neg (by decide), if_neg hnh] at this
        rw [hs']
        exact this
      clear hK blockA hKz lm1 lm2
      simp only [ck]
      cbv
      simp only [a1]
      repeat' (first
        | (refine RowOf.mk _ rfl ?_; cbv)
        | (simp only [a1]; cbv)
        | (refine SetRow.mk _ _ rfl rfl ?_; cbv))
      simp only [eL]
      refine Loop.dataN hw (S := Int × Int × (Int × List (List Int)) × List (List AV)) (fun s => fr 103 [(0, .ref 0 6 0 0), (2, .int .i64 en), (4, .ref 2 13 0 0), (76, .list 1 ns), (77, .int .i64 L), (78, .int .i64 s.1)])
        (fun s => [.live 6 [[.list 3 es, .list 5 ds, .int .i64 lo, .int .i64 hi, .mapr 1, .int .i64 s.2.2.1.1]], .live 0 s.2.2.2, .live 13 [[.int .i64 2, .int .i64 x0, .int .i64 s.2.1, .int .i64 0, .int .i64 0, .int .i64 0, .int .i64 0, .int .i64 0, .int .i64 0, .int .i64 0, .int .i64 0, .int .i64 0, .int .i64 0]]])
        (fun s => 0 ≤ s.1 ∧ s.1 ≤ L ∧ s.2.2.1 = (nx.take s.1.toNat).foldl (fun s n => growF ss lo hi 11 [x0, n] (en + lenAt ss n) s) (0, m) ∧ GOk s.2.2.1 ∧ (s.2.2.1.1 = 0 ∨ s.2.2.1.1 = 13) ∧ s.2.2.2 = ents s.2.2.1.2 ∧ Up0 s.2.2.2) (fun s => (L - s.1).toNat) (0, 0, (0, m), em) (by (refine Wk.eqzN (id) (by intro i hi; first | rfl | (have hh : i = 0 ∨ i = 1 := (by omega); rcases hh with hh | hh <;> subst hh <;> rfl)) (Nat.le_of_ble_eq_true rfl) (by first | exact fun i _ j _ e => e | (simp only [List.length_cons, List.length_nil]; decide)) ?_; cbv; (repeat' (first | exact trivial | rfl | assumption | apply And.intro | (simp only [hbin, hcmp, hun, hconv, hnot, hbeq, hmm, hscmp, hsadd, hslen, hsat, heqs, hofNat, binStd, cmpStd, unStd, scmpStd, maxI, Z.z1, Z.z2, Z.z3, Z.z4, Z.z5, Z.z6, if_true, if_false, Z.z7, beq_iff_eq, bne_iff_ne, ne_eq, Z.z8, Z.z9, Z.y1, beq_eq_false_iff_ne, bne_eq_false_iff_eq, Z.y2, Z.y3, Z.y4, Z.y5, reduceCtorEq]; first | done | assumption) | exact RowsZ.same (by assumption) (by first | assumption | rfl) | exact FzL.mk rfl rfl rfl (by assumption) (by first | assumption | rfl) (by decide) | (refine RowsZ.one ?_; cbv))))) ⟨Int.le_refl _, L0, rfl, hok, .inl rfl, eem.symm, hum⟩ ?_
      rintro ⟨i, y, ⟨e, m'⟩, em'⟩ hinv Q' hN hE hR'
      have hinv : 0 ≤ i ∧ i ≤ L ∧ (e, m') = (nx.take i.toNat).foldl (fun s n => growF ss lo hi 11 [x0, n] (en + lenAt ss n) s) (0, m) ∧ GOk (e, m') ∧ (e = 0 ∨ e = 13) ∧ em' = ents m' ∧ Up0 em' := hinv
      cbv
      obtain ⟨hi0, hi1, hfold, hok', he', hem', hum'⟩ := hinv
      (split <;> rename_i hc <;> (try (simp only [hbin, hcmp, hun, hconv, hnot, hbeq, hmm, hscmp, hsadd, hslen, hsat, heqs, hofNat, binStd, cmpStd, unStd, scmpStd, maxI, Z.z1, Z.z2, Z.z3, Z.z4, Z.z5, Z.z6, if_true, if_false, Z.z7, beq_iff_eq, bne_iff_ne, ne_eq, Z.z8, Z.z9, Z.y1, beq_eq_false_iff_ne, bne_eq_false_iff_eq, Z.y2, Z.y3, Z.y4, Z.y5, reduceCtorEq] at hc)) <;> (try cbv))
      · have hit : i.toNat < nx.length := by omega
        obtain ⟨n, hn⟩ : ∃ n, nx[i.toNat]? = some n := ⟨_, List.getElem?_eq_getElem hit⟩
        have hni : ns[i.toNat]? = some (nxRow n) := by rw [← ens, List.getElem?_map, hn]; rfl
        have hnb := hnxs n (List.mem_of_getElem? hn)
        obtain ⟨sg1, hd1, hrow1⟩ := get_map (f := sgRow) (ds := ss) (i := n) hnb.1 hnb.2
        have hle : lenAt ss n = sg1.len := by unfold lenAt; rw [hd1]
        have hl1 := hln.pos sg1 (List.mem_of_getElem? hd1)
        obtain ⟨len1, pcs1, nx1⟩ := sg1
        have hl1 : 1 ≤ len1 ∧ len1 ≤ 1099511627776 := hl1
        have hle : lenAt ss n = len1 := hle
        obtain ⟨q1, eq1⟩ : ∃ x, pcs1.map pcRow = x := ⟨_, rfl⟩
        obtain ⟨q2, eq2⟩ : ∃ x, nx1.map nxRow = x := ⟨_, rfl⟩
        have hrow1 : es[n.toNat]? = some [.int .i64 len1, .list 2 q1, .list 1 q2] := by rw [hes, ← eq1, ← eq2]; exact hrow1
        have hs2 : (growF ss lo hi 11 [x0, n] (en + len1) (e, m')) = (nx.take (i + 1).toNat).foldl (fun s n => growF ss lo hi 11 [x0, n] (en + lenAt ss n) s) (0, m) := by
          rw [take_next hi0 hn, List.foldl_append, ← hfold, List.foldl_cons, List.foldl_nil, hle]
        have hok2 := growF_ok ss lo hi 11 [x0, n] (en + len1) (e, m') hok' (by simp only [List.length_cons, List.length_nil]; omega)
        have he2 := growF_e ss lo hi 11 [x0, n] (en + len1) (e, m') he'
        have a3 : wbin .add .i64 en len1 = en + len1 := by rw [hbin]; show IntKind.i64.wrap (en + len1) = en + len1; rw [IntKind.wrap_i64]; omega
        obtain ⟨en2, een2⟩ : ∃ z, z = en + len1 := ⟨_, rfl⟩
        rw [← een2] at hs2 hok2 he2 a3
        have hen2 : -1099511627776 ≤ en2 ∧ en2 ≤ lenI [x0, n] * 1099511627776 := by simp only [lenI]; omega
        have hl2 : ∀ x, x ∈ [x0, n] → 0 ≤ x ∧ x.toNat < ss.length := fun x hx => by
          have : x ∈ [x0] ∨ x = n := by simpa [or_assoc] using hx
          rcases this with h | rfl
          · exact hl x h
          · exact hnb
        obtain ⟨⟨e3, m3⟩, es3⟩ : ∃ s', growF ss lo hi 11 [x0, n] en2 (e, m') = s' := ⟨_, rfl⟩
        obtain ⟨em3, eem3⟩ : ∃ x, x = ents m3 := ⟨_, rfl⟩
        have hum3 : Up0 em3 := by rw [eem3]; exact up_ents m3
        rw [es3] at hs2 hok2 he2
        refine Idx.mk _ hi0 hni ?_
        cbv
        repeat' (first
          | (refine RowOf.mk _ rfl ?_; cbv)
          | (simp only [a2]; cbv)
          | (refine InN.mk (by decide) (by decide) ?_; cbv)
          | (refine SetRow.mk _ _ rfl rfl ?_; cbv)
          | (refine Idx.mk _ hnb.1 hrow1 ?_; cbv))
        simp only [a3]
        refine Call.of (GrowC.call hu hud (e_grow2 ss gs es ds hes hds hln hnx lo hi x0 n) hP (sg := 0) (sm := 1) (h := [.live 6 [gRow es ds lo hi 1 e], .live 0 em', .live 13 [[.int .i64 2, .int .i64 x0, .int .i64 n, .int .i64 0, .int .i64 0, .int .i64 0, .int .i64 0, .int .i64 0, .int .i64 0, .int .i64 0, .int .i64 0, .int .i64 0, .int .i64 0]]]) (by decide) rfl (by rw [← hem']; rfl) hok' he' hen2 hl2 ?_)
        rw [es3, ← eem3]
        have a4 : wbin .add .i64 i 1 = i + 1 := by rw [hbin]; show IntKind.i64.wrap (i + 1) = i + 1; rw [IntKind.wrap_i64]; omega
        cbv
        simp only [a4]
        refine hN (i + 1, n, (e3, m3), em3) _ _ (by (refine Wk.eqzN (id) (by intro i hi; first | rfl | (have hh : i = 0 ∨ i = 1 := (by omega); rcases hh with hh | hh <;> subst hh <;> rfl)) (Nat.le_of_ble_eq_true rfl) (by first | exact fun i _ j _ e => e | (simp only [List.length_cons, List.length_nil]; decide)) ?_; cbv; (repeat' (first | exact trivial | rfl | assumption | apply And.intro | (simp only [hbin, hcmp, hun, hconv, hnot, hbeq, hmm, hscmp, hsadd, hslen, hsat, heqs, hofNat, binStd, cmpStd, unStd, scmpStd, maxI, Z.z1, Z.z2, Z.z3, Z.z4, Z.z5, Z.z6, if_true, if_false, Z.z7, beq_iff_eq, bne_iff_ne, ne_eq, Z.z8, Z.z9, Z.y1, beq_eq_false_iff_ne, bne_eq_false_iff_eq, Z.y2, Z.y3, Z.y4, Z.y5, reduceCtorEq]; first | done | assumption) | exact RowsZ.same (by assumption) (by first | assumption | rfl) | exact FzL.mk rfl rfl rfl (by assumption) (by first | assumption | rfl) (by decide) | (refine RowsZ.one ?_; cbv))))) ⟨by simp only; omega, by simp only; omega, hs2, hok2, he2, eem3, hum3⟩ ?_
        simp only
        omega
      · refine hE _ _ _ ?_
        cbv
        have := hKl (e, m') (by rw [hfold, List.take_of_length_le (by omega)]) [.live 13 [[.int .i64 2, .int .i64 x0, .int .i64 y, .int .i64 0, .int .i64 0, .int .i64 0, .int .i64 0, .int .i64 0, .int .i64 0, .int .i64 0, .int .i64 0, .int .i64 0, .int .i64 0]]]
        rw [← hem'] at this
        exact this
end Go.Proofs.Ytpiocfmdjgbamaa

/- route.Set.End: where a way ends. -/
set_option linter.unusedVariables false
set_option linter.unusedSimpArgs false
namespace Go.Proofs.Ytpiocfmdjgbamaa
open Go Go.RowKit Go.Eng
set_option maxRecDepth 100000
def endF (ss : List Sg) (from_ : Int) (l : List Int) : Int := l.foldl (fun e n => e + lenAt ss n) (-from_)
theorem lenAt_le {ss : List Sg} (h : LensOk ss) (n : Int) : 0 ≤ lenAt ss n ∧ lenAt ss n ≤ 1099511627776 := by
  unfold lenAt
  split
  · rename_i s hs; have := h.pos s (List.mem_of_getElem? hs); omega
  · omega
theorem fold_le {ss : List Sg} (h : LensOk ss) : ∀ (l : List Int) (e : Int), e ≤ l.foldl (fun e n => e + lenAt ss n) e ∧ l.foldl (fun e n => e + lenAt ss n) e ≤ e + lenI l * 1099511627776
  | [], e => by simp [lenI]
  | n :: l, e => by
    have h1 := lenAt_le h n
    have h2 := fold_le h l (e + lenAt ss n)
    simp only [List.foldl_cons, lenI]
    omega
theorem endF_le {ss : List Sg} (h : LensOk ss) {from_ : Int} (h0 : 0 ≤ from_ ∧ from_ ≤ 1099511627776) (l : List Int) : -1099511627776 ≤ endF ss from_ l ∧ endF ss from_ l ≤ lenI l * 1099511627776 := by
  have := fold_le h l (-from_)
  unfold endF; omega
theorem path_l : ∀ (l : List Int) (h : l.length ≤ 12), l = [l.getD 0 0, l.getD 1 0, l.getD 2 0, l.getD 3 0, l.getD 4 0, l.getD 5 0, l.getD 6 0, l.getD 7 0, l.getD 8 0, l.getD 9 0, l.getD 10 0, l.getD 11 0].take (min (max (lenI l) 0) 12).toNat
  | [], _ => rfl
  | [_], _ => rfl
  | [_, _], _ => rfl
  | [_, _, _], _ => rfl
  | [_, _, _, _], _ => rfl
  | [_, _, _, _, _], _ => rfl
  | [_, _, _, _, _, _], _ => rfl
  | [_, _, _, _, _, _, _], _ => rfl
  | [_, _, _, _, _, _, _, _], _ => rfl
  | [_, _, _, _, _, _, _, _, _], _ => rfl
  | [_, _, _, _, _, _, _, _, _, _], _ => rfl
  | [_, _, _, _, _, _, _, _, _, _, _], _ => rfl
  | [_, _, _, _, _, _, _, _, _, _, _, _], _ => rfl
  | _ :: _ :: _ :: _ :: _ :: _ :: _ :: _ :: _ :: _ :: _ :: _ :: _ :: _, h => by simp at h
theorem e_pathL (l : List Int) (h : l.length ≤ 12) : PCalls Try.prog 54 [.agg (rtC l)] (· = .list 1 (l.map nxRow)) :=
  e_path (lenI l) _ _ _ _ _ _ _ _ _ _ _ _ l (path_l l h)
set_option maxHeartbeats 1000000 in
theorem e_end (ss : List Sg) (gs : List Gr) (es ds : List (List AV)) (hes : es = ss.map sgRow) (hds : ds = gs.map grRow) (hln : LensOk ss) (from_ : Int) (hf : 0 ≤ from_ ∧ from_ ≤ 1099511627776) (rs : List (List AV)) (hrs : Up0 rs) (l : List Int) (hl : l.length ≤ 12) (hb : ∀ n, n ∈ l → 0 ≤ n ∧ n.toNat < ss.length) :
    PCalls Try.prog 15 [.agg [.int .i64 from_, .list 13 rs], .agg [.list 3 es, .list 5 ds], .agg (rtC l)] (· = .int .i64 (endF ss from_ l)) := by
  have hu : Up0 es := by rw [hes]; exact up_sg ss
  have hud : Up0 ds := by rw [hds]; exact up_gr gs
  obtain ⟨y, ey⟩ : ∃ y, y = endF ss from_ l := ⟨_, rfl⟩
  have hp := e_pathL l hl
  obtain ⟨row, erow⟩ : ∃ row, row = toR l := ⟨_, rfl⟩
  have hp : PCalls Try.prog 54 [.agg row.row] (· = .list 1 (l.map nxRow)) := by rw [erow]; exact hp
  rw [← ey]
  show PCalls Try.prog 15 [.agg [.int .i64 from_, .list 13 rs], .agg [.list 3 es, .list 5 ds], .agg (toR l).row] (· = .int .i64 y)
  rw [← erow]
  clear erow
  obtain ⟨n, s0, s1, s2, s3, s4, s5, s6, s7, s8, s9, s10, s11⟩ := row
  obtain ⟨ns, ens⟩ : ∃ x, l.map nxRow = x := ⟨_, rfl⟩
  have huns : Up0 ns := by rw [← ens]; exact up_nx l
  have hnl : ns.length = l.length := by rw [← ens]; simp
  rw [ens] at hp
  (refine PCalls.ofY Try.func15 (by kernel_rfl) (by kernel_rfl) fun w hw R hR => ?_); (obtain ⟨wbin, wcmp, wun, wconv, wnot, wbeq, wmm, wscmp, wsadd, wslen, wsat, weqs, wlen, wnlen, wofNat, wtake, wdrop, wapp, wzero, wnat⟩ := w); (have hbin := Z.w1 hw); (have hcmp := Z.w2 hw); (have hun := Z.w3 hw); (have hconv := Z.w4 hw); (have hnot := Z.w5 hw); (have hbeq := Z.w6 hw); (have hmm := Z.w7 hw); (have hscmp := Z.w8 hw); (have hsadd := Z.w9 hw); (have hslen := Z.w10 hw); (have hsat := Z.w11 hw); (have heqs := Z.w12 hw); (have hlen := Z.w13 hw); (have hnlen := Z.w14 hw); (have hofNat := Z.w15 hw); (have htake := Z.w16 hw); (have hdrop := Z.w17 hw); (have happ := Z.w18 hw); (have hzero := Z.w19 hw); (have hnat := Z.w20 hw); (conv => arg 2; cbv); (generalize hP : Try.prog = P); cbv
  obtain ⟨a0, ea0⟩ : ∃ a0, a0 = -from_ := ⟨_, rfl⟩
  have c0 : wun .neg .i64 from_ = a0 := by rw [hun, ea0]; simp only [unStd]; rw [IntKind.wrap_i64]; omega
  simp only [c0]
  refine Call.stepE (by rw [← hP]; exact hp) rfl ?_
  cbv
  (obtain ⟨L, eL, L0, Ln⟩ : ∃ L : Int, wlen ns = L ∧ 0 ≤ L ∧ L.toNat = ns.length := ⟨(ns.length : Int), by rw [hlen], Int.natCast_nonneg _, Int.toNat_natCast _⟩)
  simp only [eL]
  refine Loop.data hw (S := Int × Int) (fun s => fr 30 [(4, .ref 1 2 0 0), (7, .int .i64 s.2), (14, .list 1 ns), (15, .int .i64 L), (16, .int .i64 s.1)])
    (fun s => [.live 2 [[.int .i64 from_, .list 13 rs]], .live 2 [[.list 3 es, .list 5 ds]], .live 13 [[.int .i64 n, .int .i64 s0, .int .i64 s1, .int .i64 s2, .int .i64 s3, .int .i64 s4, .int .i64 s5, .int .i64 s6, .int .i64 s7, .int .i64 s8, .int .i64 s9, .int .i64 s10, .int .i64 s11]]])
    (fun s => 0 ≤ s.1 ∧ s.1 ≤ L ∧ s.2 = (l.take s.1.toNat).foldl (fun e n => e + lenAt ss n) a0 ∧ -1099511627776 ≤ s.2 ∧ s.2 ≤ s.1 * 1099511627776) (fun s => (L - s.1).toNat) (0, a0) (by (refine Wk.eqz (id) (by first | exact fun i _ j _ e => e | (simp only [List.length_cons, List.length_nil]; decide)) ?_; cbv; (repeat' (first | exact trivial | rfl | assumption | apply And.intro | (simp only [hbin, hcmp, hun, hconv, hnot, hbeq, hmm, hscmp, hsadd, hslen, hsat, heqs, hofNat, binStd, cmpStd, unStd, scmpStd, maxI, Z.z1, Z.z2, Z.z3, Z.z4, Z.z5, Z.z6, if_true, if_false, Z.z7, beq_iff_eq, bne_iff_ne, ne_eq, Z.z8, Z.z9, Z.y1, beq_eq_false_iff_ne, bne_eq_false_iff_eq, Z.y2, Z.y3, Z.y4, Z.y5, reduceCtorEq]; first | done | assumption) | exact RowsZ.same (by assumption) (by first | assumption | rfl) | exact FzL.mk rfl rfl rfl (by assumption) (by first | assumption | rfl) (by decide) | (refine RowsZ.one ?_; cbv))))) ⟨Int.le_refl _, L0, rfl, by simp only; omega, by simp only; omega⟩ ?_
  rintro ⟨i, e⟩ hinv Q' hN hE hR'
  have hinv : 0 ≤ i ∧ i ≤ L ∧ e = (l.take i.toNat).foldl (fun e n => e + lenAt ss n) a0 ∧ -1099511627776 ≤ e ∧ e ≤ i * 1099511627776 := hinv
  cbv
  obtain ⟨hi0, hi1, hfold, hb1, hb2⟩ := hinv
  (split <;> rename_i hc <;> (try (simp only [hbin, hcmp, hun, hconv, hnot, hbeq, hmm, hscmp, hsadd, hslen, hsat, heqs, hofNat, binStd, cmpStd, unStd, scmpStd, maxI, Z.z1, Z.z2, Z.z3, Z.z4, Z.z5, Z.z6, if_true, if_false, Z.z7, beq_iff_eq, bne_iff_ne, ne_eq, Z.z8, Z.z9, Z.y1, beq_eq_false_iff_ne, bne_eq_false_iff_eq, Z.y2, Z.y3, Z.y4, Z.y5, reduceCtorEq] at hc)) <;> (try cbv))
  · have hit : i.toNat < l.length := by omega
    obtain ⟨q, hq⟩ : ∃ q, l[i.toNat]? = some q := ⟨_, List.getElem?_eq_getElem hit⟩
    have hni : ns[i.toNat]? = some (nxRow q) := by rw [← ens, List.getElem?_map, hq]; rfl
    have hnb := hb q (List.mem_of_getElem? hq)
    obtain ⟨sg1, hd1, hrow1⟩ := get_map (f := sgRow) (ds := ss) (i := q) hnb.1 hnb.2
    have hle : lenAt ss q = sg1.len := by unfold lenAt; rw [hd1]
    have hl1 := hln.pos sg1 (List.mem_of_getElem? hd1)
    obtain ⟨len1, pcs1, nx1⟩ := sg1
    have hl1 : 1 ≤ len1 ∧ len1 ≤ 1099511627776 := hl1
    have hle : lenAt ss q = len1 := hle
    obtain ⟨q1, eq1⟩ : ∃ x, pcs1.map pcRow = x := ⟨_, rfl⟩
    obtain ⟨q2, eq2⟩ : ∃ x, nx1.map nxRow = x := ⟨_, rfl⟩
    have hrow1 : es[q.toNat]? = some [.int .i64 len1, .list 2 q1, .list 1 q2] := by rw [hes, ← eq1, ← eq2]; exact hrow1
    obtain ⟨e2, ee2⟩ : ∃ z, z = e + len1 := ⟨_, rfl⟩
    obtain ⟨i2, ei2⟩ : ∃ z, z = i + 1 := ⟨_, rfl⟩
    have a3 : wbin .add .i64 e len1 = e2 := by rw [hbin, ee2]; show IntKind.i64.wrap (e + len1) = e + len1; rw [IntKind.wrap_i64]; omega
    have a4 : wbin .add .i64 i 1 = i2 := by rw [hbin, ei2]; show IntKind.i64.wrap (i + 1) = i + 1; rw [IntKind.wrap_i64]; omega
    have hf2 : e2 = (l.take i2.toNat).foldl (fun e n => e + lenAt ss n) a0 := by
      rw [ei2, take_next hi0 hq, List.foldl_append, ← hfold, List.foldl_cons, List.foldl_nil, hle, ee2]
    refine Idx.mk _ hi0 hni ?_
    cbv
    refine Idx.mk _ hnb.1 hrow1 ?_
    cbv
    simp only [a3, a4]
    refine hN (i2, e2) _ _ ?hx ?hi ?ht
    case hx => (refine Wk.eqz (id) (by first | exact fun i _ j _ e => e | (simp only [List.length_cons, List.length_nil]; decide)) ?_; cbv; (repeat' (first | exact trivial | rfl | assumption | apply And.intro | (simp only [hbin, hcmp, hun, hconv, hnot, hbeq, hmm, hscmp, hsadd, hslen, hsat, heqs, hofNat, binStd, cmpStd, unStd, scmpStd, maxI, Z.z1, Z.z2, Z.z3, Z.z4, Z.z5, Z.z6, if_true, if_false, Z.z7, beq_iff_eq, bne_iff_ne, ne_eq, Z.z8, Z.z9, Z.y1, beq_eq_false_iff_ne, bne_eq_false_iff_eq, Z.y2, Z.y3, Z.y4, Z.y5, reduceCtorEq]; first | done | assumption) | exact RowsZ.same (by assumption) (by first | assumption | rfl) | exact FzL.mk rfl rfl rfl (by assumption) (by first | assumption | rfl) (by decide) | (refine RowsZ.one ?_; cbv))))
    case hi => exact ⟨by simp only; omega, by simp only; omega, hf2, by simp only; omega, by simp only; omega⟩
    case ht => simp only; omega
  · refine hE _ _ _ ?_
    cbv
    have : e = y := by rw [ey, hfold, List.take_of_length_le (by omega), ea0]; rfl
    exact ⟨_, Vw.same rfl, hR _ (by rw [this]; rfl)⟩
end Go.Proofs.Ytpiocfmdjgbamaa

/- route.Set.Grow: what ways grow to. -/
set_option linter.unusedVariables false
set_option linter.unusedSimpArgs false
namespace Go.Proofs.Ytpiocfmdjgbamaa
open Go Go.RowKit Go.Eng
set_option maxRecDepth 100000
theorem e_growL (ss : List Sg) (gs : List Gr) (es ds : List (List AV)) (hes : es = ss.map sgRow) (hds : ds = gs.map grRow) (hln : LensOk ss) (hnx : NextOk ss) (lo hi : Int) : ∀ l : List Int, l.length ≤ 12 ∧ 1 ≤ l.length → GrowC ss es ds lo hi (13 - l.length) l
  | [], h => absurd h.2 (by decide)
  | [x0], h => e_grow1 ss gs es ds hes hds hln hnx lo hi x0
  | [x0, x1], h => e_grow2 ss gs es ds hes hds hln hnx lo hi x0 x1
  | [x0, x1, x2], h => e_grow3 ss gs es ds hes hds hln hnx lo hi x0 x1 x2
  | [x0, x1, x2, x3], h => e_grow4 ss gs es ds hes hds hln hnx lo hi x0 x1 x2 x3
  | [x0, x1, x2, x3, x4], h => e_grow5 ss gs es ds hes hds hln hnx lo hi x0 x1 x2 x3 x4
  | [x0, x1, x2, x3, x4, x5], h => e_grow6 ss gs es ds hes hds hln hnx lo hi x0 x1 x2 x3 x4 x5
  | [x0, x1, x2, x3, x4, x5, x6], h => e_grow7 ss gs es ds hes hds hln hnx lo hi x0 x1 x2 x3 x4 x5 x6
  | [x0, x1, x2, x3, x4, x5, x6, x7], h => e_grow8 ss gs es ds hes hds hln hnx lo hi x0 x1 x2 x3 x4 x5 x6 x7
  | [x0, x1, x2, x3, x4, x5, x6, x7, x8], h => e_grow9 ss gs es ds hes hds hln hnx lo hi x0 x1 x2 x3 x4 x5 x6 x7 x8
  | [x0, x1, x2, x3, x4, x5, x6, x7, x8, x9], h => e_grow10 ss gs es ds hes hds hln hnx lo hi x0 x1 x2 x3 x4 x5 x6 x7 x8 x9
  | [x0, x1, x2, x3, x4, x5, x6, x7, x8, x9, x10], h => e_grow11 ss gs es ds hes hds hln hnx lo hi x0 x1 x2 x3 x4 x5 x6 x7 x8 x9 x10
  | [x0, x1, x2, x3, x4, x5, x6, x7, x8, x9, x10, x11], h => e_grow12 ss gs es ds hes hds hln hnx lo hi x0 x1 x2 x3 x4 x5 x6 x7 x8 x9 x10 x11
  | _ :: _ :: _ :: _ :: _ :: _ :: _ :: _ :: _ :: _ :: _ :: _ :: _ :: _, h => absurd h.1 (by simp)
instance ltL_dec : ∀ l m : List Int, Decidable (ltL l m)
  | a :: l, b :: m => match ltL_dec l m with
    | .isTrue h => if h1 : a < b then .isTrue (.inl h1) else if h2 : a = b then .isTrue (.inr ⟨h2, h⟩) else .isFalse fun h3 => h3.elim h1 fun h4 => h2 h4.1
    | .isFalse h => if h1 : a < b then .isTrue (.inl h1) else .isFalse fun h3 => h3.elim h1 fun h4 => h h4.2
  | [], _ => .isFalse fun h => h
  | _ :: _, [] => .isFalse fun h => h
def ltR (l m : List Int) : Prop := ltL (toR l).key (toR m).key
instance (l m : List Int) : Decidable (ltR l m) := ltL_dec _ _
/-- A way in its place. -/
def insR (l : List Int) : List (List Int) → List (List Int)
  | [] => [l]
  | k :: m => if ltR k l then k :: insR l m else l :: k :: m
def sortR : List (List Int) → List (List Int)
  | [] => []
  | l :: m => insR l (sortR m)
theorem insR_perm (l : List Int) : ∀ m, (insR l m).Perm (l :: m)
  | [] => .refl _
  | k :: m => by
    unfold insR
    split
    · exact ((insR_perm l m).cons k).trans (.swap l k m)
    · exact .refl _
theorem sortR_perm : ∀ m, (sortR m).Perm m
  | [] => .refl _
  | l :: m => (insR_perm l _).trans ((sortR_perm m).cons l)
theorem ltR_trans {a b c : List Int} : ltR a b → ltR b c → ltR a c := ltL_trans _ _ _
theorem ltR_irrefl (a : List Int) : ¬ ltR a a := ltL_irrefl _
theorem ltR_total (a b : List Int) : ltR a b ∨ toR a = toR b ∨ ltR b a := (ltL_total (toR a).key (toR b).key rfl).imp id fun h => h.imp (fun h => R13.key_inj h) id
/-- Not behind: an order. -/
theorem leR_trans {a b c : List Int} (h1 : ¬ ltR b a) (h2 : ¬ ltR c b) : ¬ ltR c a := fun h => by
  rcases ltR_total a b with h3 | h3 | h3
  · exact h2 (ltR_trans h h3)
  · unfold ltR at h h2; rw [h3] at h; exact h2 h
  · exact h1 h3
theorem insR_sorted (l : List Int) : ∀ m, m.Pairwise (fun x y => ¬ ltR y x) → (insR l m).Pairwise (fun x y => ¬ ltR y x)
  | [], _ => List.pairwise_singleton _ _
  | k :: m, h => by
    obtain ⟨h1, h2⟩ := List.pairwise_cons.1 h
    unfold insR
    split
    · rename_i hk
      refine List.pairwise_cons.2 ⟨fun x hx => ?_, insR_sorted l m h2⟩
      rcases List.mem_cons.1 ((insR_perm l m).mem_iff.1 hx) with rfl | hx
      · exact fun h3 => ltR_irrefl _ (ltR_trans hk h3)
      · exact h1 x hx
    · rename_i hk
      refine List.pairwise_cons.2 ⟨fun x hx => ?_, h⟩
      rcases List.mem_cons.1 hx with rfl | hx
      · exact hk
      · exact leR_trans hk (h1 x hx)
theorem sortR_sorted : ∀ m, (sortR m).Pairwise (fun x y => ¬ ltR y x)
  | [] => List.Pairwise.nil
  | l :: m => insR_sorted l _ (sortR_sorted m)
theorem sorted_unique : ∀ {l m : List R13}, l.Perm m → l.Pairwise (fun x y => ¬ ltL y.key x.key) → m.Pairwise (fun x y => ¬ ltL y.key x.key) → l = m
  | [], m, hp, _, _ => (List.nil_perm.1 hp).symm
  | a :: l, [], hp, _, _ => absurd hp.length_eq (by simp)
  | a :: l, b :: m, hp, h1, h2 => by
    obtain ⟨k1, k2⟩ := List.pairwise_cons.1 h1
    obtain ⟨k3, k4⟩ := List.pairwise_cons.1 h2
    have e : a = b := by
      rcases List.mem_cons.1 (hp.mem_iff.1 (List.mem_cons_self (a := a) (l := l))) with e | ha
      · exact e
      · rcases List.mem_cons.1 (hp.mem_iff.2 (List.mem_cons_self (a := b) (l := m))) with e | hb
        · exact e.symm
        · have h3 := k3 a ha
          have h4 := k1 b hb
          rcases ltL_total a.key b.key rfl with h | h | h
          · exact absurd h h3
          · exact R13.key_inj h
          · exact absurd h h4
    subst e
    rw [sorted_unique (List.Perm.cons_inv hp) k2 k4]
theorem sortR_unique {m : List (List Int)} {rs : List R13} (hp : rs.Perm (m.map toR)) (hs : rs.Pairwise (fun x y => ¬ ltL y.key x.key)) : rs = (sortR m).map toR :=
  sorted_unique (hp.trans ((sortR_perm m).map toR).symm) hs (List.pairwise_map.2 (sortR_sorted m))
/-- The ways that some ways grow to, in a row. -/
def growS (ss : List Sg) (lo hi from_ : Int) (ls : List (List Int)) : Int × List (List Int) := ls.foldl (fun s l => growF ss lo hi (13 - l.length) l (endF ss from_ l) s) (0, [])
/-- What Grow answers. -/
def growA (ss : List Sg) (lo hi from_ : Int) (ls : List (List Int)) : (Int × List (List Int)) × Int :=
  if hi < lo ∨ lo < -from_ then ((0, []), 40)
  else if (growS ss lo hi from_ ls).1 ≠ 0 then ((0, []), (growS ss lo hi from_ ls).1)
  else if (growS ss lo hi from_ ls).2 = [] then ((0, []), 40)
  else ((from_, sortR (growS ss lo hi from_ ls).2), 0)
/-- Ways that may be. -/
structure WayOk (ss : List Sg) (l : List Int) : Prop where
  len : l.length ≤ 12 ∧ 1 ≤ l.length
  seg : ∀ n, n ∈ l → 0 ≤ n ∧ n.toNat < ss.length
theorem up_nats (sn : List Nat) (j : Nat) : Up0 (sn.map (fun k : Nat => [AV.int .i64 (k : Int)]) ++ [[AV.int .i64 (j : Int)]]) := by
  have := up_map (f := fun k : Nat => [AV.int .i64 (k : Int)]) (fun d => rfl) (sn ++ [j])
  rwa [List.map_append] at this
theorem nodup_lt : ∀ (n : Nat) (l : List Nat), l.Nodup → (∀ i, i ∈ l → i < n) → l.length ≤ n
  | 0, l, _, h2 => by
    cases l with
    | nil => simp
    | cons a l => exact absurd (h2 a (by simp)) (by omega)
  | n + 1, l, h, h2 => by
    have := nodup_lt n (l.erase n) (h.erase n) fun i hi => by
      have h3 := (h.mem_erase_iff.1 hi)
      have := h2 i h3.2
      omega
    rw [List.length_erase] at this
    split at this <;> omega
theorem call_sortF0 {P : Program} (hP : Try.prog = P) {h : AHeap} {K : AV → AHeap → Prop} (hK : K (.tuple []) h) :
    ACall P 56 [.nils, .func (.func 57) [] []] h K := by
  subst hP
  refine ⟨⟨_, Try.func56, by kernel_rfl, by kernel_rfl⟩, fun C vs hC RC hv => ?_⟩
  subst hC
  obtain ⟨hvl, hv0⟩ := hv
  have hvs : vs = #[vs.getD 0 undef, vs.getD 1 undef] := by
    have hn : vs.size = 2 := by simpa using hvl
    obtain ⟨l⟩ := vs
    match l, hn with
    | [x, y], _ => rfl
  have e0 := (hv0 0 _ rfl).nils'
  rw [hvs, e0]
  have hcall := AnyF.slices_SortFunc_none (P := Try.prog) Try.sortFL none 0 (vs.getD 1 undef) C.w
  refine hcall.mono ?_
  rintro e w' ⟨rfl, rfl⟩
  exact ⟨_, _, _, rfl, hK, rfl, RC, .tuple [] #[] rfl (fun i x hx => by simp at hx), Ext.refl _ _, Nat.le_refl _⟩
theorem e_rightR (a b : Int) (o : Bool) (h : o = decide (a ≤ b)) : PCalls Try.prog 27 [.agg [.int .i64 a, .int .i64 b]] (· = .bool o) := by
  (refine PCalls.ofX Try.func27 (by kernel_rfl) (by kernel_rfl) fun w hw R hR => ?_); (conv => arg 2; cbv); (generalize hP : Try.prog = P); cbv
  subst hw
  exact ⟨_, Vw.same rfl, hR _ (by rw [h]; rfl)⟩
set_option maxHeartbeats 2000000 in
theorem e_grows (ss : List Sg) (gs : List Gr) (es ds : List (List AV)) (hes : es = ss.map sgRow) (hds : ds = gs.map grRow) (hln : LensOk ss) (hnx : NextOk ss) (lo hi from_ : Int) (hf : 0 ≤ from_ ∧ from_ ≤ 1099511627776) (ls : List (List Int)) (hls : ∀ l, l ∈ ls → WayOk ss l) (hsz1 : ls.length ≤ 1000) (rs : List (List AV)) (hrs : rs = ls.map rtC) (v : (Int × List (List Int)) × Int) (hv : v = growA ss lo hi from_ ls) :
    PCalls Try.prog 19 [.agg [.int .i64 from_, .list 13 rs], .agg [.list 3 es, .list 5 ds], .agg [.int .i64 lo, .int .i64 hi]] (· = .tuple [.agg [.int .i64 v.1.1, .list 13 (v.1.2.map rtC)], .int .i64 v.2]) := by
  have hu : Up0 es := by rw [hes]; exact up_sg ss
  have hud : Up0 ds := by rw [hds]; exact up_gr gs
  have hur : Up0 rs := by rw [hrs]; exact up_map (f := rtC) (fun d => rfl) ls
  obtain ⟨⟨v1, v2⟩, v3⟩ := v
  obtain ⟨vs, evs⟩ : ∃ x, x = v2.map rtC := ⟨_, rfl⟩
  show PCalls Try.prog 19 [.agg [.int .i64 from_, .list 13 rs], .agg [.list 3 es, .list 5 ds], .agg [.int .i64 lo, .int .i64 hi]] (· = .tuple [.agg [.int .i64 v1, .list 13 (v2.map rtC)], .int .i64 v3])
  rw [← evs]
  obtain ⟨o, eo⟩ : ∃ o, o = decide (lo ≤ hi) := ⟨_, rfl⟩
  (refine PCalls.ofY Try.func19 (by kernel_rfl) (by kernel_rfl) fun w hw R hR => ?_); (obtain ⟨wbin, wcmp, wun, wconv, wnot, wbeq, wmm, wscmp, wsadd, wslen, wsat, weqs, wlen, wnlen, wofNat, wtake, wdrop, wapp, wzero, wnat⟩ := w); (have hbin := Z.w1 hw); (have hcmp := Z.w2 hw); (have hun := Z.w3 hw); (have hconv := Z.w4 hw); (have hnot := Z.w5 hw); (have hbeq := Z.w6 hw); (have hmm := Z.w7 hw); (have hscmp := Z.w8 hw); (have hsadd := Z.w9 hw); (have hslen := Z.w10 hw); (have hsat := Z.w11 hw); (have heqs := Z.w12 hw); (have hlen := Z.w13 hw); (have hnlen := Z.w14 hw); (have hofNat := Z.w15 hw); (have htake := Z.w16 hw); (have hdrop := Z.w17 hw); (have happ := Z.w18 hw); (have hzero := Z.w19 hw); (have hnat := Z.w20 hw); (conv => arg 2; cbv); (generalize hP : Try.prog = P); cbv
  refine Call.stepE (by rw [← hP]; exact e_rightR lo hi o eo) rfl ?_
  cbv
  obtain ⟨a0, ea0⟩ : ∃ a0, a0 = -from_ := ⟨_, rfl⟩
  have c0 : wun .neg .i64 from_ = a0 := by rw [hun, ea0]; simp only [unStd]; rw [IntKind.wrap_i64]; omega
  by_cases hr : lo ≤ hi
  rotate_left 1
  · have n1 : wnot o = true := by rw [hnot, eo]; simp [hr]
    simp only [n1]
    cbv
    have hva : (v1, v2, v3) = (0, [], 40) := by
      unfold growA at hv; rw [if_pos (.inl (by omega))] at hv
      simp only [Prod.mk.injEq] at hv ⊢; exact ⟨hv.1.1, hv.1.2, hv.2⟩
    simp only [Prod.mk.injEq] at hva
    obtain ⟨rfl, rfl, rfl⟩ := hva
    subst evs
    exact ⟨_, Vw.tuple (rs := [.agg [.int .i64 0, .list 13 []], .int .i64 40]) ⟨Vw.agg (rs := [.int .i64 0, .list 13 []]) ⟨Vw.same rfl, Vw.nil 13, trivial⟩, Vw.same rfl, trivial⟩, hR _ rfl⟩
  have n1 : wnot o = false := by rw [hnot, eo]; simp [hr]
  simp only [n1]
  cbv
  simp only [c0]
  (split <;> rename_i h1 <;> (try (simp only [hbin, hcmp, hun, hconv, hnot, hbeq, hmm, hscmp, hsadd, hslen, hsat, heqs, hofNat, binStd, cmpStd, unStd, scmpStd, maxI, Z.z1, Z.z2, Z.z3, Z.z4, Z.z5, Z.z6, if_true, if_false, Z.z7, beq_iff_eq, bne_iff_ne, ne_eq, Z.z8, Z.z9, Z.y1, beq_eq_false_iff_ne, bne_eq_false_iff_eq, Z.y2, Z.y3, Z.y4, Z.y5, reduceCtorEq] at h1)) <;> (try cbv))
  · have hva : (v1, v2, v3) = (0, [], 40) := by
      unfold growA at hv; rw [if_pos (.inr (by omega))] at hv
      simp only [Prod.mk.injEq] at hv ⊢; exact ⟨hv.1.1, hv.1.2, hv.2⟩
    simp only [Prod.mk.injEq] at hva
    obtain ⟨rfl, rfl, rfl⟩ := hva
    subst evs
    exact ⟨_, Vw.tuple (rs := [.agg [.int .i64 0, .list 13 []], .int .i64 40]) ⟨Vw.agg (rs := [.int .i64 0, .list 13 []]) ⟨Vw.same rfl, Vw.nil 13, trivial⟩, Vw.same rfl, trivial⟩, hR _ rfl⟩
  (obtain ⟨L, eL, L0, Ln⟩ : ∃ L : Int, wlen rs = L ∧ 0 ≤ L ∧ L.toNat = rs.length := ⟨(rs.length : Int), by rw [hlen], Int.natCast_nonneg _, Int.toNat_natCast _⟩)
  simp only [eL]
  have hemp : Up0 ([] : List (List AV)) := ⟨rfl⟩
  have hrl : rs.length = ls.length := by rw [hrs]; simp
  unfold growA at hv
  rw [if_neg (show ¬ (hi < lo ∨ lo < -from_) by omega)] at hv
  refine Loop.data hw (S := Int × (Int × List (List Int)) × List (List AV)) (fun s => fr 84 [(3, .ref 0 2 0 0), (4, .ref 1 2 0 0), (6, .ref 3 2 0 0), (8, .ref 5 6 0 0), (31, .list 13 rs), (32, .int .i64 L), (33, .int .i64 s.1)])
    (fun s => [.live 2 [[.int .i64 from_, .list 13 rs]], .live 2 [[.list 3 es, .list 5 ds]], .live 2 [[.int .i64 lo, .int .i64 hi]], .live 2 [[.int .i64 0, .nils]], .live 0 s.2.2, .live 6 [[.list 3 es, .list 5 ds, .int .i64 lo, .int .i64 hi, .mapr 4, .int .i64 s.2.1.1]]])
    (fun s => 0 ≤ s.1 ∧ s.1 ≤ L ∧ s.2.1 = growS ss lo hi from_ (ls.take s.1.toNat) ∧ GOk s.2.1 ∧ (s.2.1.1 = 0 ∨ s.2.1.1 = 13) ∧ s.2.2 = ents s.2.1.2 ∧ Up0 s.2.2) (fun s => (L - s.1).toNat) (0, (0, []), []) (by (refine Wk.eqz (id) (by first | exact fun i _ j _ e => e | (simp only [List.length_cons, List.length_nil]; decide)) ?_; cbv; (repeat' (first | exact trivial | rfl | assumption | apply And.intro | (simp only [hbin, hcmp, hun, hconv, hnot, hbeq, hmm, hscmp, hsadd, hslen, hsat, heqs, hofNat, binStd, cmpStd, unStd, scmpStd, maxI, Z.z1, Z.z2, Z.z3, Z.z4, Z.z5, Z.z6, if_true, if_false, Z.z7, beq_iff_eq, bne_iff_ne, ne_eq, Z.z8, Z.z9, Z.y1, beq_eq_false_iff_ne, bne_eq_false_iff_eq, Z.y2, Z.y3, Z.y4, Z.y5, reduceCtorEq]; first | done | assumption) | exact RowsZ.same (by assumption) (by first | assumption | rfl) | exact FzL.mk rfl rfl rfl (by assumption) (by first | assumption | rfl) (by decide) | (refine RowsZ.one ?_; cbv))))) ⟨Int.le_refl _, L0, rfl, ⟨by simp, fun _ => by simp, fun k hk => by simp at hk, List.nodup_nil⟩, .inl rfl, rfl, hemp⟩ ?_
  rintro ⟨i, ⟨e, m⟩, em⟩ hinv Q' hN hE hR'
  have hinv : 0 ≤ i ∧ i ≤ L ∧ (e, m) = growS ss lo hi from_ (ls.take i.toNat) ∧ GOk (e, m) ∧ (e = 0 ∨ e = 13) ∧ em = ents m ∧ Up0 em := hinv
  cbv
  obtain ⟨hi0, hi1, hfold, hok, he, hem, hum⟩ := hinv
  (split <;> rename_i hc <;> (try (simp only [hbin, hcmp, hun, hconv, hnot, hbeq, hmm, hscmp, hsadd, hslen, hsat, heqs, hofNat, binStd, cmpStd, unStd, scmpStd, maxI, Z.z1, Z.z2, Z.z3, Z.z4, Z.z5, Z.z6, if_true, if_false, Z.z7, beq_iff_eq, bne_iff_ne, ne_eq, Z.z8, Z.z9, Z.y1, beq_eq_false_iff_ne, bne_eq_false_iff_eq, Z.y2, Z.y3, Z.y4, Z.y5, reduceCtorEq] at hc)) <;> (try cbv))
  · have hit : i.toNat < ls.length := by omega
    obtain ⟨l, hl⟩ : ∃ l, ls[i.toNat]? = some l := ⟨_, List.getElem?_eq_getElem hit⟩
    have hlo := hls l (List.mem_of_getElem? hl)
    obtain ⟨i2, ei2⟩ : ∃ z, z = i + 1 := ⟨_, rfl⟩
    have a4 : wbin .add .i64 i 1 = i2 := by rw [hbin, ei2]; show IntKind.i64.wrap (i + 1) = i + 1; rw [IntKind.wrap_i64]; omega
    have hri : rs[i.toNat]? = some (toR l).row := by rw [hrs, List.getElem?_map, hl]; rfl
    obtain ⟨y, ey⟩ : ∃ y, y = endF ss from_ l := ⟨_, rfl⟩
    have hend := e_end ss gs es ds hes hds hln from_ hf rs hur l hlo.len.1 hlo.seg
    have hend : PCalls Try.prog 15 [.agg [.int .i64 from_, .list 13 rs], .agg [.list 3 es, .list 5 ds], .agg (toR l).row] (· = .int .i64 y) := by rw [ey]; exact hend
    obtain ⟨⟨e3, m3⟩, es3⟩ : ∃ s', s' = growF ss lo hi (13 - l.length) l y (e, m) := ⟨_, rfl⟩
    have hs2 : (e3, m3) = growS ss lo hi from_ (ls.take i2.toNat) := by
      rw [es3, ei2, take_next hi0 hl]
      unfold growS at hfold ⊢
      rw [List.foldl_append, ← hfold, List.foldl_cons, List.foldl_nil, ey]
    have hok2 := growF_ok ss lo hi (13 - l.length) l y (e, m) hok hlo.len
    have he2 := growF_e ss lo hi (13 - l.length) l y (e, m) he
    rw [← es3] at hok2 he2
    obtain ⟨em3, eem3⟩ : ∃ x, x = ents m3 := ⟨_, rfl⟩
    have hum3 : Up0 em3 := by rw [eem3]; exact up_ents m3
    have hyb := endF_le hln hf l
    rw [← ey] at hyb
    have hgr : ∀ {H : AHeap} {K : AV → AHeap → Prop}, H[5]? = some (.live 6 [[.list 3 es, .list 5 ds, .int .i64 lo, .int .i64 hi, .mapr 4, .int .i64 e]]) → H[4]? = some (.live 0 em) → K (.tuple []) ((H.set 5 (.live 6 [[.list 3 es, .list 5 ds, .int .i64 lo, .int .i64 hi, .mapr 4, .int .i64 e3]])).set 4 (.live 0 em3)) → ACall P 55 [.ref 5 6 0 0, .agg (toR l).row, .int .i64 y] H K := fun h1 h2 hK =>
      GrowC.call hu hud (e_growL ss gs es ds hes hds hln hnx lo hi l hlo.len) hP (by decide) h1 (by rw [← hem]; exact h2) hok he hyb hlo.seg (by rw [← es3, ← eem3]; exact hK)
    obtain ⟨row, erow⟩ : ∃ row, row = toR l := ⟨_, rfl⟩
    rw [← erow] at hri hend hgr
    obtain ⟨n, s0, s1, s2, s3, s4, s5, s6, s7, s8, s9, s10, s11⟩ := row
    refine Idx.mk _ hi0 hri ?_
    cbv
    have hup : ∀ n s0 s1 s2 s3 s4 s5 s6 s7 s8 s9 s10 s11 : Int, uptoL 0 [AV.agg [.int .i64 from_, .list 13 rs], .agg [.list 3 es, .list 5 ds], .agg [.int .i64 n, .int .i64 s0, .int .i64 s1, .int .i64 s2, .int .i64 s3, .int .i64 s4, .int .i64 s5, .int .i64 s6, .int .i64 s7, .int .i64 s8, .int .i64 s9, .int .i64 s10, .int .i64 s11]] = true := fun n s0 s1 s2 s3 s4 s5 s6 s7 s8 s9 s10 s11 => by simp only [uptoL, AV.upto, hu.get, hud.get, hur.get]; rfl
    refine QCal.stepE (by rw [← hP]; exact hend) (hup _ _ _ _ _ _ _ _ _ _ _ _ _) ?_
    cbv
    refine Call.of (hgr rfl rfl ?_)
    cbv
    simp only [a4]
    refine hN (i2, (e3, m3), em3) _ _ ?hx ?hi ?ht
    case hx => (refine Wk.eqz (id) (by first | exact fun i _ j _ e => e | (simp only [List.length_cons, List.length_nil]; decide)) ?_; cbv; (repeat' (first | exact trivial | rfl | assumption | apply And.intro | (simp only [hbin, hcmp, hun, hconv, hnot, hbeq, hmm, hscmp, hsadd, hslen, hsat, heqs, hofNat, binStd, cmpStd, unStd, scmpStd, maxI, Z.z1, Z.z2, Z.z3, Z.z4, Z.z5, Z.z6, if_true, if_false, Z.z7, beq_iff_eq, bne_iff_ne, ne_eq, Z.z8, Z.z9, Z.y1, beq_eq_false_iff_ne, bne_eq_false_iff_eq, Z.y2, Z.y3, Z.y4, Z.y5, reduceCtorEq]; first | done | assumption) | exact RowsZ.same (by assumption) (by first | assumption | rfl) | exact FzL.mk rfl rfl rfl (by assumption) (by first | assumption | rfl) (by decide) | (refine RowsZ.one ?_; cbv))))
    case hi => exact ⟨by simp only; omega, by simp only; omega, hs2, hok2, he2, eem3, hum3⟩
    case ht => simp only; omega
  refine hE _ _ _ ?_
  cbv
  have hsv : (e, m) = growS ss lo hi from_ ls := by rw [hfold, List.take_of_length_le (by omega)]
  rw [← hsv] at hv
  clear hfold
  have htwo : ∀ x, x ∈ em → x.length = 2 := by rw [hem]; exact ents_two m
  obtain ⟨nE, enE⟩ : ∃ n : Int, n = em.length := ⟨_, rfl⟩
  refine Xo.range (kt := 39) (et := 3) (by rw [← hP]; kernel_rfl) rfl htwo nE enE ?_
  cbv
  refine Loop.data hw (S := List Nat × List (List AV) × Option (Nat × List (List AV))) (fun s => fr 84 [(6, .ref 3 2 0 0), (8, .ref 5 6 0 0), (11, .ref 6 2 0 0), (52, .ref 7 0 0 0)])
    (fun s => match s.2.2 with
      | none => [.live 2 [[.int .i64 from_, .list 13 rs]], .live 2 [[.list 3 es, .list 5 ds]], .live 2 [[.int .i64 lo, .int .i64 hi]], .live 2 [[.int .i64 0, .nils]], .live 0 em, .live 6 [[.list 3 es, .list 5 ds, .int .i64 lo, .int .i64 hi, .mapr 4, .int .i64 e]], .live 2 [[.int .i64 from_, .nils]], .live 0 ([.mapr 4, .int .i64 nE, .int .i64 nE] :: s.2.1)]
      | some (k, w) => [.live 2 [[.int .i64 from_, .list 13 rs]], .live 2 [[.list 3 es, .list 5 ds]], .live 2 [[.int .i64 lo, .int .i64 hi]], .live 2 [[.int .i64 0, .nils]], .live 0 em, .live 6 [[.list 3 es, .list 5 ds, .int .i64 lo, .int .i64 hi, .mapr 4, .int .i64 e]], .live 2 [[.int .i64 from_, .sl 8 13 0 k]], .live 0 ([.mapr 4, .int .i64 nE, .int .i64 nE] :: s.2.1), .live 13 w])
    (fun s => s.1.Nodup ∧ (∀ i, i ∈ s.1 → i < m.length) ∧ s.2.1 = s.1.map (fun k : Nat => [AV.int .i64 (k : Int)]) ∧ Up0 s.2.1 ∧ (match s.2.2 with | none => s.1 = [] | some (k, w) => s.1 ≠ [] ∧ k = s.1.length ∧ k = w.length ∧ Up0 w ∧ w = s.1.map (fun i => rtC (m.getD i [])))) (fun s => m.length - s.1.length) ([], [], none) (by (refine Wk.eqz (id) (by first | exact fun i _ j _ e => e | (simp only [List.length_cons, List.length_nil]; decide)) ?_; cbv; (repeat' (first | exact trivial | rfl | assumption | apply And.intro | (simp only [hbin, hcmp, hun, hconv, hnot, hbeq, hmm, hscmp, hsadd, hslen, hsat, heqs, hofNat, binStd, cmpStd, unStd, scmpStd, maxI, Z.z1, Z.z2, Z.z3, Z.z4, Z.z5, Z.z6, if_true, if_false, Z.z7, beq_iff_eq, bne_iff_ne, ne_eq, Z.z8, Z.z9, Z.y1, beq_eq_false_iff_ne, bne_eq_false_iff_eq, Z.y2, Z.y3, Z.y4, Z.y5, reduceCtorEq]; first | done | assumption) | exact RowsZ.same (by assumption) (by first | assumption | rfl) | exact FzL.mk rfl rfl rfl (by assumption) (by first | assumption | rfl) (by decide) | (refine RowsZ.one ?_; cbv))))) ⟨List.nodup_nil, (fun i hi => by simp at hi), rfl, hemp, rfl⟩ ?_
  rintro ⟨sn, sr, acc⟩ hinv Q' hN hE hR'
  cases acc with
  | none =>
    have hinv : sn.Nodup ∧ (∀ i, i ∈ sn → i < m.length) ∧ sr = sn.map (fun k : Nat => [AV.int .i64 (k : Int)]) ∧ Up0 sr ∧ sn = [] := hinv
    obtain ⟨hnd, hin, hsr, husr, hs0⟩ := hinv
    cbv
    refine Xo.next (es := em) (sr := sr) (sn := sn) rfl rfl htwo enE hsr ?_ ?_
    · intro hall
      cbv
      refine hE _ _ _ ?_
      cbv
      have hm0 : m = [] := by
        have : em.length = 0 := by
          by_cases h0 : em.length = 0
          · exact h0
          · have := hall 0 (by omega); rw [hs0] at this; simp at this
        rw [hem, ents_len] at this
        exact List.length_eq_zero_iff.1 this
      rw [hm0] at hv
      refine Call.of (call_sortF0 hP ?_)
      cbv
      (split <;> rename_i he0 <;> (try (simp only [hbin, hcmp, hun, hconv, hnot, hbeq, hmm, hscmp, hsadd, hslen, hsat, heqs, hofNat, binStd, cmpStd, unStd, scmpStd, maxI, Z.z1, Z.z2, Z.z3, Z.z4, Z.z5, Z.z6, if_true, if_false, Z.z7, beq_iff_eq, bne_iff_ne, ne_eq, Z.z8, Z.z9, Z.y1, beq_eq_false_iff_ne, bne_eq_false_iff_eq, Z.y2, Z.y3, Z.y4, Z.y5, reduceCtorEq] at he0)) <;> (try cbv))
      · rw [if_pos (show ¬ (e, ([] : List (List Int))).1 = 0 from he0)] at hv
        simp only [Prod.mk.injEq] at hv
        obtain ⟨⟨rfl, rfl⟩, rfl⟩ := hv
        subst evs
        repeat' (refine And.intro ?_ ?_)
        all_goals exact ⟨_, Vw.tuple (rs := [.agg [.int .i64 0, .list 13 []], .int .i64 v3]) ⟨Vw.agg (rs := [.int .i64 0, .list 13 []]) ⟨Vw.same rfl, Vw.nil 13, trivial⟩, Vw.same rfl, trivial⟩, hR _ rfl⟩
      · have c2 : wofNat 0 = 0 := by rw [hofNat]; rfl
        have c3 : wcmp .eql 0 0 = true := by rw [hcmp]; rfl
        simp only [c2, c3]
        cbv
        rw [if_neg (show ¬ ¬ (e, ([] : List (List Int))).1 = 0 from fun h => h he0), if_pos rfl] at hv
        simp only [Prod.mk.injEq] at hv
        obtain ⟨⟨rfl, rfl⟩, rfl⟩ := hv
        subst evs
        repeat' (refine And.intro ?_ ?_)
        all_goals exact ⟨_, Vw.tuple (rs := [.agg [.int .i64 0, .list 13 []], .int .i64 40]) ⟨Vw.agg (rs := [.int .i64 0, .list 13 []]) ⟨Vw.same rfl, Vw.nil 13, trivial⟩, Vw.same rfl, trivial⟩, hR _ rfl⟩
    · intro j kx vx hj hjs
      obtain ⟨l, hl, rfl, rfl⟩ : ∃ l, m[j]? = some l ∧ kx = .agg (toR l).row ∧ vx = .int .i64 (lenI l) := by
        rw [hem] at hjs
        unfold ents at hjs
        rw [List.getElem?_map] at hjs
        cases hm : m[j]? with
        | none => rw [hm] at hjs; cases hjs
        | some l =>
          rw [hm] at hjs
          simp only [Option.map_some, Option.some.injEq, enR, List.cons.injEq, and_true] at hjs
          exact ⟨l, rfl, hjs.1.symm, hjs.2.symm⟩
      have hjm : j < m.length := (List.getElem?_eq_some_iff.1 hl).1
      have hgl : m.getD j [] = l := by rw [List.getD_eq_getElem?_getD, hl]; rfl
      obtain ⟨sr2, esr2⟩ : ∃ x, x = sr ++ [[AV.int .i64 (j : Int)]] := ⟨_, rfl⟩
      have husr2 : Up0 sr2 := by rw [esr2, hsr]; exact up_nats sn j
      obtain ⟨row, erow⟩ : ∃ row, row = toR l := ⟨_, rfl⟩
      obtain ⟨q, eq⟩ : ∃ q, q = lenI l := ⟨_, rfl⟩
      rw [← erow, ← eq] at hjs
      rw [← erow, ← eq, ← esr2]
      have hsr2 : sr2 = (sn ++ [j]).map fun k : Nat => [AV.int .i64 (k : Int)] := by rw [esr2, hsr]; simp
      have hnd2 : (sn ++ [j]).Nodup := List.nodup_append.2 ⟨hnd, by simp, fun a ha b hb => by simp at hb; subst hb; exact fun e => hj (e ▸ ha)⟩
      have hin2 : ∀ i, i ∈ sn ++ [j] → i < m.length := fun i hi => by
        rcases List.mem_append.1 hi with hi | hi
        · exact hin i hi
        · simp at hi; omega
      have hlt : sn.length < m.length := by
        have := nodup_lt (m.length) (sn ++ [j]) hnd2 hin2
        simp at this; omega
      have erow2 : row.row = rtC l := by rw [erow]; rfl
      obtain ⟨n, s0, s1, s2, s3, s4, s5, s6, s7, s8, s9, s10, s11⟩ := row
      cbv
      refine Xo.entry (es := em) (sr := sr2) (sr0 := sr) (sn := sn) rfl rfl htwo enE hsr esr2 hjs ?_
      cbv
      refine Ob.mk (by decide) ?_
      refine hN (sn ++ [j], sr2, some (1, [[.int .i64 n, .int .i64 s0, .int .i64 s1, .int .i64 s2, .int .i64 s3, .int .i64 s4, .int .i64 s5, .int .i64 s6, .int .i64 s7, .int .i64 s8, .int .i64 s9, .int .i64 s10, .int .i64 s11]])) _ _ ?hx ?hi ?ht
      case hx => (refine Wk.eqz (fun j => [0, 1, 2, 3, 4, 5, 6, 7, 9].getD j 0) (by first | exact fun i _ j _ e => e | (simp only [List.length_cons, List.length_nil]; decide)) ?_; cbv; (repeat' (first | exact trivial | rfl | assumption | (refine RowsZ.hd (es0 := sr2) (by assumption) rfl rfl ?_; cbv) | apply And.intro | (simp only [hbin, hcmp, hun, hconv, hnot, hbeq, hmm, hscmp, hsadd, hslen, hsat, heqs, hofNat, binStd, cmpStd, unStd, scmpStd, maxI, Z.z1, Z.z2, Z.z3, Z.z4, Z.z5, Z.z6, if_true, if_false, Z.z7, beq_iff_eq, bne_iff_ne, ne_eq, Z.z8, Z.z9, Z.y1, beq_eq_false_iff_ne, bne_eq_false_iff_eq, Z.y2, Z.y3, Z.y4, Z.y5, reduceCtorEq]; first | done | assumption) | exact RowsZ.same (by assumption) (by first | assumption | rfl) | exact FzL.mk rfl rfl rfl (by assumption) (by first | assumption | rfl) (by decide) | (refine RowsZ.one ?_; cbv))))
      case hi => exact ⟨hnd2, hin2, hsr2, husr2, by simp, by rw [hs0]; rfl, rfl, ⟨rfl⟩, by rw [hs0]; show [R13.row ⟨n, s0, s1, s2, s3, s4, s5, s6, s7, s8, s9, s10, s11⟩] = [rtC (m.getD j [])]; rw [hgl, ← erow2]⟩
      case ht => simp only [List.length_append, List.length_cons, List.length_nil]; omega
  | some acc =>
    obtain ⟨k, w⟩ := acc
    have hinv : sn.Nodup ∧ (∀ i, i ∈ sn → i < m.length) ∧ sr = sn.map (fun k : Nat => [AV.int .i64 (k : Int)]) ∧ Up0 sr ∧ (sn ≠ [] ∧ k = sn.length ∧ k = w.length ∧ Up0 w ∧ w = sn.map (fun i => rtC (m.getD i []))) := hinv
    obtain ⟨hnd, hin, hsr, husr, hs0, hk, hkw, huw, hw2⟩ := hinv
    cbv
    refine Xo.next (es := em) (sr := sr) (sn := sn) rfl rfl htwo enE hsr ?_ ?_
    · intro hall
      cbv
      refine hE _ _ _ ?_
      cbv
      have hsp : sn.Perm (List.range m.length) := (List.perm_ext_iff_of_nodup hnd List.nodup_range).2 fun i => ⟨fun h => List.mem_range.2 (hin i h), fun h => hall i (by rw [hem, ents_len]; exact List.mem_range.1 h)⟩
      have hperm : (sn.map fun i => toR (m.getD i [])).Perm (m.map toR) := by
        have e1 : (List.range m.length).map (fun i => toR (m.getD i [])) = m.map toR := by
          apply List.ext_getElem
          · simp
          · intro i h1 h2
            simp at h1 h2
            simp [List.getD_eq_getElem?_getD, h2]
        rw [← e1]; exact hsp.map _
      have hmn : m ≠ [] := fun h => by
        rw [h] at hin
        cases sn with
        | nil => exact hs0 rfl
        | cons a l => exact absurd (hin a (by simp)) (by simp)
      refine Call.of (call_sortF hP (s := 8) (n := k) (rs := sn.map fun i => toR (m.getD i [])) rfl (by rw [hw2, List.map_map]; rfl) (by rw [hk, List.length_map]) (by rw [List.length_map]; have := nodup_lt _ _ hnd hin; have : m.length ≤ 17 := hok.len; omega) ?_)
      intro rs' hp1 hp2
      have hrs' := sortR_unique (hp1.trans hperm) hp2
      have hrl' : rs'.length = k := by rw [hp1.length_eq, hk, List.length_map]
      obtain ⟨ws, ews⟩ : ∃ x, x = rs'.map R13.row := ⟨_, rfl⟩
      have hws : ws = (sortR m).map rtC := by rw [ews, hrs', List.map_map]; rfl
      have huws : Up0 ws := by rw [hws]; exact up_map (f := rtC) (fun d => rfl) _
      have hwl : ws.length = k := by rw [ews, List.length_map, hrl']
      rw [← ews]
      clear hw2
      cbv
      (split <;> rename_i he0 <;> (try (simp only [hbin, hcmp, hun, hconv, hnot, hbeq, hmm, hscmp, hsadd, hslen, hsat, heqs, hofNat, binStd, cmpStd, unStd, scmpStd, maxI, Z.z1, Z.z2, Z.z3, Z.z4, Z.z5, Z.z6, if_true, if_false, Z.z7, beq_iff_eq, bne_iff_ne, ne_eq, Z.z8, Z.z9, Z.y1, beq_eq_false_iff_ne, bne_eq_false_iff_eq, Z.y2, Z.y3, Z.y4, Z.y5, reduceCtorEq] at he0)) <;> (try cbv))
      · rw [if_pos (show ¬ (e, m).1 = 0 from he0)] at hv
        simp only [Prod.mk.injEq] at hv
        obtain ⟨⟨rfl, rfl⟩, rfl⟩ := hv
        subst evs
        repeat' (refine And.intro ?_ ?_)
        all_goals exact ⟨_, Vw.tuple (rs := [.agg [.int .i64 0, .list 13 []], .int .i64 v3]) ⟨Vw.agg (rs := [.int .i64 0, .list 13 []]) ⟨Vw.same rfl, Vw.nil 13, trivial⟩, Vw.same rfl, trivial⟩, hR _ rfl⟩
      · have c2 : wcmp .eql (wofNat k) 0 = false := by rw [hcmp, hofNat]; simp only [cmpStd]; rw [beq_eq_false_iff_ne]; have h9 : sn.length ≠ 0 := (fun h => hs0 (List.length_eq_zero_iff.1 h)); show (k : Int) ≠ 0; omega
        simp only [c2]
        cbv
        rw [if_neg (show ¬ ¬ (e, m).1 = 0 from fun h => h he0), if_neg hmn] at hv
        simp only [Prod.mk.injEq] at hv
        obtain ⟨⟨rfl, rfl⟩, rfl⟩ := hv
        have e1 : (ws.drop 0).take k = ws := by rw [List.drop_zero, List.take_of_length_le (by omega)]
        have hvw : ∀ h : AHeap, h[8]? = some (.live 13 ws) → Vw h (.sl 8 13 0 k) (.list 13 ws) := fun h hh => by
          have := Vw.sl hh huws.get (i := 0) (n := k) (by omega)
          rwa [e1] at this
        exact ⟨_, Vw.tuple (rs := [.agg [.int .i64 v1, .list 13 ws], .int .i64 0]) ⟨Vw.agg (rs := [.int .i64 v1, .list 13 ws]) ⟨Vw.same rfl, hvw _ rfl, trivial⟩, Vw.same rfl, trivial⟩, hR _ (by rw [evs, hws])⟩
    · intro j kx vx hj hjs
      obtain ⟨l, hl, rfl, rfl⟩ : ∃ l, m[j]? = some l ∧ kx = .agg (toR l).row ∧ vx = .int .i64 (lenI l) := by
        rw [hem] at hjs
        unfold ents at hjs
        rw [List.getElem?_map] at hjs
        cases hm : m[j]? with
        | none => rw [hm] at hjs; cases hjs
        | some l =>
          rw [hm] at hjs
          simp only [Option.map_some, Option.some.injEq, enR, List.cons.injEq, and_true] at hjs
          exact ⟨l, rfl, hjs.1.symm, hjs.2.symm⟩
      have hjm : j < m.length := (List.getElem?_eq_some_iff.1 hl).1
      have hgl : m.getD j [] = l := by rw [List.getD_eq_getElem?_getD, hl]; rfl
      obtain ⟨sr2, esr2⟩ : ∃ x, x = sr ++ [[AV.int .i64 (j : Int)]] := ⟨_, rfl⟩
      have husr2 : Up0 sr2 := by rw [esr2, hsr]; exact up_nats sn j
      obtain ⟨row, erow⟩ : ∃ row, row = toR l := ⟨_, rfl⟩
      obtain ⟨q, eq⟩ : ∃ q, q = lenI l := ⟨_, rfl⟩
      rw [← erow, ← eq] at hjs
      rw [← erow, ← eq, ← esr2]
      have hsr2 : sr2 = (sn ++ [j]).map fun k : Nat => [AV.int .i64 (k : Int)] := by rw [esr2, hsr]; simp
      have hnd2 : (sn ++ [j]).Nodup := List.nodup_append.2 ⟨hnd, by simp, fun a ha b hb => by simp at hb; subst hb; exact fun e => hj (e ▸ ha)⟩
      have hin2 : ∀ i, i ∈ sn ++ [j] → i < m.length := fun i hi => by
        rcases List.mem_append.1 hi with hi | hi
        · exact hin i hi
        · simp at hi; omega
      have hlt : sn.length < m.length := by
        have := nodup_lt (m.length) (sn ++ [j]) hnd2 hin2
        simp at this; omega
      have erow2 : row.row = rtC l := by rw [erow]; rfl
      obtain ⟨n, s0, s1, s2, s3, s4, s5, s6, s7, s8, s9, s10, s11⟩ := row
      cbv
      refine Xo.entry (es := em) (sr := sr2) (sr0 := sr) (sn := sn) rfl rfl htwo enE hsr esr2 hjs ?_
      cbv
      obtain ⟨w2, ew2⟩ : ∃ x, x = w ++ [[.int .i64 n, .int .i64 s0, .int .i64 s1, .int .i64 s2, .int .i64 s3, .int .i64 s4, .int .i64 s5, .int .i64 s6, .int .i64 s7, .int .i64 s8, .int .i64 s9, .int .i64 s10, .int .i64 s11]] := ⟨_, rfl⟩
      obtain ⟨k2, ek2⟩ : ∃ x, x = k + 1 := ⟨_, rfl⟩
      have hw3 : w2 = (sn ++ [j]).map (fun i => rtC (m.getD i [])) := by rw [ew2, hw2, List.map_append]; show _ ++ [R13.row ⟨n, s0, s1, s2, s3, s4, s5, s6, s7, s8, s9, s10, s11⟩] = _ ++ [rtC (m.getD j [])]; rw [hgl, ← erow2]
      have huw2 : Up0 w2 := by rw [hw3]; exact up_map (f := fun i => rtC (m.getD i [])) (fun d => rfl) (sn ++ [j])
      have hm17 : m.length ≤ 17 := hok.len
      refine App.mk w2 k2 ew2 hkw ek2 (by omega) (by omega) ?_
      cbv
      refine hN (sn ++ [j], sr2, some (k2, w2)) _ _ ?hx ?hi ?ht
      case hx => (refine Wk.eqz (fun j => [0, 1, 2, 3, 4, 5, 6, 7, 10].getD j 0) (by first | exact fun i _ j _ e => e | (simp only [List.length_cons, List.length_nil]; decide)) ?_; cbv; (repeat' (first | exact trivial | rfl | assumption | (refine RowsZ.hd (es0 := sr2) (by assumption) rfl rfl ?_; cbv) | apply And.intro | (simp only [hbin, hcmp, hun, hconv, hnot, hbeq, hmm, hscmp, hsadd, hslen, hsat, heqs, hofNat, binStd, cmpStd, unStd, scmpStd, maxI, Z.z1, Z.z2, Z.z3, Z.z4, Z.z5, Z.z6, if_true, if_false, Z.z7, beq_iff_eq, bne_iff_ne, ne_eq, Z.z8, Z.z9, Z.y1, beq_eq_false_iff_ne, bne_eq_false_iff_eq, Z.y2, Z.y3, Z.y4, Z.y5, reduceCtorEq]; first | done | assumption) | exact RowsZ.same (by assumption) (by first | assumption | rfl) | exact FzL.mk rfl rfl rfl (by assumption) (by first | assumption | rfl) (by decide) | (refine RowsZ.one ?_; cbv))))
      case hi => exact ⟨hnd2, hin2, hsr2, husr2, by simp, by simp; omega, by rw [ew2, ek2]; simp; omega, huw2, hw3⟩
      case ht => simp only [List.length_append, List.length_cons, List.length_nil]; omega
end Go.Proofs.Ytpiocfmdjgbamaa

/- Ways that have grown, plainly. -/
set_option linter.unusedVariables false
set_option linter.unusedSimpArgs false
namespace Go.Proofs.Ytpiocfmdjgbamaa
open Go Go.RowKit Go.Eng
/-- A way that goes on no further. -/
def leafP (ss : List Sg) (lo hi from_ : Int) (l : List Int) : Prop := lo ≤ endF ss from_ l ∧ (hi ≤ endF ss from_ l ∨ nxAt ss (lastI l) = [])
theorem endF_snoc (ss : List Sg) (from_ : Int) (l : List Int) (n : Int) : endF ss from_ (l ++ [n]) = endF ss from_ l + lenAt ss n := by unfold endF; rw [List.foldl_append]; rfl
theorem lastI_snoc : ∀ (l : List Int) (n : Int), lastI (l ++ [n]) = n
  | [], n => rfl
  | [a], n => rfl
  | a :: b :: l, n => lastI_snoc (b :: l) n
theorem WayOk.snoc {ss : List Sg} (hnx : NextOk ss) {l : List Int} (h : WayOk ss l) (h12 : l.length ≠ 12) {n q : Int} (hn : n ∈ nxAt ss q) : WayOk ss (l ++ [n]) := by
  have h1 := h.len
  refine ⟨by simp; omega, fun x hx => ?_⟩
  rcases List.mem_append.1 hx with hx | hx
  · exact h.seg x hx
  · simp at hx; subst hx; exact nxAt_ok hnx hn
theorem growF_all {ss : List Sg} (hnx : NextOk ss) {lo hi from_ : Int} : ∀ (f : Nat) (l : List Int) (s : Int × List (List Int)), WayOk ss l → (∀ k, k ∈ s.2 → WayOk ss k ∧ leafP ss lo hi from_ k) → ∀ k, k ∈ (growF ss lo hi f l (endF ss from_ l) s).2 → WayOk ss k ∧ leafP ss lo hi from_ k
  | 0, l, s, hl, hs => hs
  | f + 1, l, s, hl, hs => by
    unfold growF
    split
    · exact hs
    · split
      · rename_i hc
        intro k hk
        by_cases hlo : lo ≤ endF ss from_ l
        · simp only [if_pos hlo] at hk
          rcases putL_mem.1 hk with hk | rfl
          · exact hs k hk
          · exact ⟨hl, hlo, hc⟩
        · simp only [if_neg hlo] at hk
          exact hs k hk
      · split
        · exact hs
        · rename_i h12
          have step : ∀ (ns : List Int) (s : Int × List (List Int)), (∀ n, n ∈ ns → n ∈ nxAt ss (lastI l)) → (∀ k, k ∈ s.2 → WayOk ss k ∧ leafP ss lo hi from_ k) → ∀ k, k ∈ (ns.foldl (fun s n => growF ss lo hi f (l ++ [n]) (endF ss from_ l + lenAt ss n) s) s).2 → WayOk ss k ∧ leafP ss lo hi from_ k := by
            intro ns
            induction ns with
            | nil => intro s _ h; exact h
            | cons n ns ih =>
              intro s hns h
              refine ih _ (fun x hx => hns x (List.mem_cons_of_mem _ hx)) ?_
              have := growF_all hnx f (l ++ [n]) s (hl.snoc hnx h12 (hns n List.mem_cons_self)) h
              rw [endF_snoc] at this
              exact this
          exact step _ s (fun n hn => hn) hs
theorem fold_ind {α β : Type} {f : β → α → β} {P : β → Prop} : ∀ (l : List α) (s : β), P s → (∀ s a, a ∈ l → P s → P (f s a)) → P (l.foldl f s)
  | [], s, h, _ => h
  | a :: l, s, h, hf => fold_ind l (f s a) (hf s a List.mem_cons_self h) fun s b hb => hf s b (List.mem_cons_of_mem _ hb)
theorem growS_all {ss : List Sg} (hnx : NextOk ss) {lo hi from_ : Int} (ls : List (List Int)) (hl : ∀ l, l ∈ ls → WayOk ss l) : ∀ k, k ∈ (growS ss lo hi from_ ls).2 → WayOk ss k ∧ leafP ss lo hi from_ k :=
  fold_ind (P := fun s : Int × List (List Int) => ∀ k, k ∈ s.2 → WayOk ss k ∧ leafP ss lo hi from_ k) ls _ (fun k hk => by simp at hk) fun s l h hs => growF_all hnx _ l s (hl l h) hs
theorem growS_ok {ss : List Sg} {lo hi from_ : Int} (ls : List (List Int)) (hl : ∀ l, l ∈ ls → WayOk ss l) : GOk (growS ss lo hi from_ ls) :=
  fold_ind (P := GOk) ls _ ⟨by simp, fun _ => by simp, fun k hk => by simp at hk, List.nodup_nil⟩ fun s l h hs => growF_ok ss lo hi _ l _ s hs (hl l h).len
theorem growS_e {ss : List Sg} {lo hi from_ : Int} (ls : List (List Int)) : (growS ss lo hi from_ ls).1 = 0 ∨ (growS ss lo hi from_ ls).1 = 13 :=
  fold_ind (P := fun s : Int × List (List Int) => s.1 = 0 ∨ s.1 = 13) ls _ (.inl rfl) fun s l h hs => growF_e ss lo hi _ l _ s hs
theorem growF_leaf {ss : List Sg} {lo hi from_ : Int} {l : List Int} (h : leafP ss lo hi from_ l) (hl : WayOk ss l) (m : List (List Int)) : growF ss lo hi (13 - l.length) l (endF ss from_ l) (0, m) = (if 16 < (putL m l).length then 13 else 0, putL m l) := by
  obtain ⟨f, hf⟩ : ∃ f, 13 - l.length = f + 1 := ⟨12 - l.length, by have := hl.len; omega⟩
  rw [hf]
  unfold growF
  rw [if_neg (by simp), if_pos h.2]
  simp only [if_pos h.1]
theorem growS_leaves {ss : List Sg} {lo hi from_ : Int} : ∀ (ls m : List (List Int)), (∀ l, l ∈ ls → WayOk ss l ∧ leafP ss lo hi from_ l) → (m ++ ls).Nodup → (m ++ ls).length ≤ 16 → ls.foldl (fun s l => growF ss lo hi (13 - l.length) l (endF ss from_ l) s) (0, m) = (0, m ++ ls)
  | [], m, _, _, _ => by simp
  | l :: ls, m, hl, hn, h16 => by
    have hm : l ∉ m := fun h => by
      have := (List.nodup_append.1 hn).2.2 l h l List.mem_cons_self
      exact this rfl
    have hp : putL m l = m ++ [l] := by unfold putL; rw [if_neg hm]
    rw [List.foldl_cons, growF_leaf (hl l List.mem_cons_self).2 (hl l List.mem_cons_self).1, hp]
    have h1 : ¬ 16 < (m ++ [l]).length := by simp at h16 ⊢; omega
    rw [if_neg h1, growS_leaves ls (m ++ [l]) (fun k hk => hl k (List.mem_cons_of_mem _ hk)) (by simpa using hn) (by simpa using h16)]
    simp
theorem insR_le (l : List Int) : ∀ m, (∀ x, x ∈ m → ¬ ltR x l) → insR l m = l :: m
  | [], _ => rfl
  | k :: m, h => by unfold insR; rw [if_neg (h k List.mem_cons_self)]
theorem sortR_fix : ∀ m : List (List Int), m.Pairwise (fun x y => ¬ ltR y x) → sortR m = m
  | [], _ => rfl
  | l :: m, h => by
    obtain ⟨h1, h2⟩ := List.pairwise_cons.1 h
    show insR l (sortR m) = l :: m
    rw [sortR_fix m h2, insR_le l m h1]
theorem sortR_mem {m : List (List Int)} {l : List Int} : l ∈ sortR m ↔ l ∈ m := (sortR_perm m).mem_iff
/-- What is known of ways that have grown. -/
structure Grown (ss : List Sg) (lo hi from_ : Int) (m : List (List Int)) : Prop where
  le : lo ≤ hi ∧ -from_ ≤ lo
  ways : ∀ l, l ∈ m → WayOk ss l ∧ leafP ss lo hi from_ l
  nd : m.Nodup
  few : m.length ≤ 16
  some : m ≠ []
  sort : m.Pairwise (fun x y => ¬ ltR y x)
theorem growA_ok {ss : List Sg} (hnx : NextOk ss) {lo hi from_ : Int} (ls : List (List Int)) (hl : ∀ l, l ∈ ls → WayOk ss l) {v : (Int × List (List Int)) × Int} (hv : v = growA ss lo hi from_ ls) : (v.2 ≠ 0 ∧ v.1.2 = []) ∨ (v.2 = 0 ∧ v.1.1 = from_ ∧ Grown ss lo hi from_ v.1.2) := by
  unfold growA at hv
  split at hv
  · rw [hv]; exact .inl ⟨by decide, rfl⟩
  · rename_i h1
    split at hv
    · rename_i h2; rw [hv]; exact .inl ⟨h2, rfl⟩
    · rename_i h2
      have h2 : (growS ss lo hi from_ ls).1 = 0 := Classical.not_not.1 h2
      split at hv
      · rw [hv]; exact .inl ⟨by decide, rfl⟩
      · rename_i h3
        rw [hv]
        have hok := growS_ok (lo := lo) (hi := hi) (from_ := from_) ls hl
        exact .inr ⟨rfl, rfl, by omega, fun l h => growS_all hnx ls hl l (sortR_mem.1 h), (sortR_perm _).nodup_iff.2 hok.nd, by rw [(sortR_perm _).length_eq]; exact hok.few h2,
          fun h => h3 (List.length_eq_zero_iff.1 (by rw [← (sortR_perm _).length_eq]; simp only at h; rw [h]; rfl)), sortR_sorted _⟩
theorem Grown.again {ss : List Sg} {lo hi from_ : Int} {m : List (List Int)} (h : Grown ss lo hi from_ m) {hi' : Int} (h1 : lo ≤ hi') (h2 : hi' ≤ hi) : growA ss lo hi' from_ m = ((from_, m), 0) := by
  have hs : growS ss lo hi' from_ m = (0, m) := by
    have := growS_leaves (ss := ss) (lo := lo) (hi := hi') (from_ := from_) m [] (fun l hl => ⟨(h.ways l hl).1, (h.ways l hl).2.1, (h.ways l hl).2.2.imp (fun k => by omega) id⟩) (by simpa using h.nd) (by simpa using h.few)
    simpa [growS] using this
  have h0 := h.le
  unfold growA
  rw [if_neg (by omega), hs, if_neg (by simp), if_neg h.some, sortR_fix m h.sort]
end Go.Proofs.Ytpiocfmdjgbamaa

