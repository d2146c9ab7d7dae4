/- Texts of the proof, joined by wip/tools/pack3.py. -/
import Derived.Test.YtpiocfmdjgbamaaCoreP0
import Derived.KernelRfl
import Derived.Shelf.SlSortCmp.NoneTotal
/- route.grower.grow at depth 6. Printed by wip/tools/genroute.py. -/
set_option linter.unusedVariables false
set_option linter.unusedSimpArgs false
namespace Go.Proofs.Ytpiocfmdjgbamaa
open Go Go.RowKit Go.Eng
set_option maxRecDepth 100000
set_option maxHeartbeats 2000000 in
theorem e_grow6 (ss : List Sg) (gs : List Gr) (es ds : List (List AV)) (hes : es = ss.map sgRow) (hds : ds = gs.map grRow) (hln : LensOk ss) (hnx : NextOk ss) (lo hi : Int) (x0 x1 x2 x3 x4 x5 : Int) : GrowC ss es ds lo hi 7 [x0, x1, x2, x3, x4, x5] := by
  have hu : Up0 es := by rw [hes]; exact up_sg ss
  have hud : Up0 ds := by rw [hds]; exact up_gr gs
  intro en e m hok he hen hl K hK
  have hlast := hl x5 (by simp)
  obtain ⟨sg0, hd0, hrow0⟩ := get_map (f := sgRow) (ds := ss) (i := x5) hlast.1 hlast.2
  have hnxe : nxAt ss x5 = sg0.nx := by unfold nxAt; rw [hd0]
  have hnx0 : ∀ n, n ∈ sg0.nx → 0 ≤ n ∧ n.toNat < ss.length := fun n hn => nxAt_ok hnx (by rw [hnxe]; exact hn)
  have hnx2 : sg0.nx.length ≤ 2 := by have := nxAt_two hnx x5; rw [hnxe] at this; exact this
  have hF : growF ss lo hi 7 [x0, x1, x2, x3, x4, x5] en (e, m) = (if e ≠ 0 then (e, m) else if hi ≤ en ∨ sg0.nx = [] then (if 16 < (if lo ≤ en then putL m [x0, x1, x2, x3, x4, x5] else m).length then 13 else 0, if lo ≤ en then putL m [x0, x1, x2, x3, x4, x5] else m) else sg0.nx.foldl (fun s n => growF ss lo hi 6 [x0, x1, x2, x3, x4, x5, n] (en + lenAt ss n) s) (e, m)) := by
    rw [← hnxe]; rfl
  rw [hF] at hK
  obtain ⟨len, pcs, nx⟩ := sg0
  obtain ⟨q0, eq0⟩ : ∃ x, pcs.map pcRow = x := ⟨_, rfl⟩
  obtain ⟨ns, ens⟩ : ∃ x, nx.map nxRow = x := ⟨_, rfl⟩
  have huns : Up0 ns := by rw [← ens]; exact up_nx nx
  have hnl : ns.length = nx.length := by rw [← ens]; simp
  have hrow0 : es[x5.toNat]? = some [.int .i64 len, .list 2 q0, .list 1 ns] := by rw [hes, ← eq0, ← ens]; exact hrow0
  have hput := put_ents m [x0, x1, x2, x3, x4, x5] (by simp only [List.length_cons, List.length_nil]; omega) (fun j hj => (hok.all j hj).1)
  obtain ⟨em, eem⟩ : ∃ x, ents m = x := ⟨_, rfl⟩
  obtain ⟨em2, eem2⟩ : ∃ x, ents (putL m [x0, x1, x2, x3, x4, x5]) = x := ⟨_, rfl⟩
  have hum : Up0 em := by rw [← eem]; exact up_ents m
  have htwo : ∀ e, e ∈ em → e.length = 2 := by rw [← eem]; exact ents_two m
  have htwo2 : ∀ e, e ∈ em2 → e.length = 2 := by rw [← eem2]; exact ents_two _
  have heml : em.length = m.length := by rw [← eem]; exact ents_len m
  have heml2 : em2.length = (putL m [x0, x1, x2, x3, x4, x5]).length := by rw [← eem2]; exact ents_len _
  rw [eem, eem2] at hput
  rw [eem]
  have hnxs : ∀ n, n ∈ nx → 0 ≤ n ∧ n.toNat < ss.length := hnx0
  have hnx2 : nx.length ≤ 2 := hnx2
  show ACall Try.prog 55 [.ref 0 6 0 0, .agg [.int .i64 6, .int .i64 x0, .int .i64 x1, .int .i64 x2, .int .i64 x3, .int .i64 x4, .int .i64 x5, .int .i64 0, .int .i64 0, .int .i64 0, .int .i64 0, .int .i64 0, .int .i64 0], .int .i64 en] [.live 6 [gRow es ds lo hi 1 e], .live 0 em] K
  (refine ACall.ofI Try.func55 (by kernel_rfl) (by kernel_rfl) fun w hw => ?_); (obtain ⟨wbin, wcmp, wun, wconv, wnot, wbeq, wmm, wscmp, wsadd, wslen, wsat, weqs, wlen, wnlen, wofNat, wtake, wdrop, wapp, wzero, wnat⟩ := w); (have hbin := Z.w1 hw); (have hcmp := Z.w2 hw); (have hun := Z.w3 hw); (have hconv := Z.w4 hw); (have hnot := Z.w5 hw); (have hbeq := Z.w6 hw); (have hmm := Z.w7 hw); (have hscmp := Z.w8 hw); (have hsadd := Z.w9 hw); (have hslen := Z.w10 hw); (have hsat := Z.w11 hw); (have heqs := Z.w12 hw); (have hlen := Z.w13 hw); (have hnlen := Z.w14 hw); (have hofNat := Z.w15 hw); (have htake := Z.w16 hw); (have hdrop := Z.w17 hw); (have happ := Z.w18 hw); (have hzero := Z.w19 hw); (have hnat := Z.w20 hw); (have hz := Z.z hw); (conv => arg 2; cbv); (generalize hP : Try.prog = P); cbv
  have s1 : wbin .sub .i64 6 1 = 5 := by rw [hbin]; rfl
  simp only [s1]
  refine InN.mk (by decide) (by decide) ?_
  cbv
  repeat' (first
    | (refine RowOf.mk _ rfl ?_; cbv)
    | (refine Idx.mk _ hlast.1 hrow0 ?_; cbv))
  have hKz : e = 0 → (hi ≤ en ∨ nx = []) → ∀ j, K (.tuple []) (.live 6 [gRow es ds lo hi 1 (if 16 < (if lo ≤ en then putL m [x0, x1, x2, x3, x4, x5] else m).length then 13 else 0)] :: .live 0 (ents (if lo ≤ en then putL m [x0, x1, x2, x3, x4, x5] else m)) :: j) := fun h0 hc j => by
    have := hK j
    rw [if_neg (by simp [h0]), if_pos hc] at this
    exact this
  rcases he with rfl | rfl
  rotate_left 1
  · have c0 : wcmp .neq 13 0 = true := by rw [hcmp]; rfl
    simp only [c0]
    cbv
    have := hK [.live 13 [[.int .i64 6, .int .i64 x0, .int .i64 x1, .int .i64 x2, .int .i64 x3, .int .i64 x4, .int .i64 x5, .int .i64 0, .int .i64 0, .int .i64 0, .int .i64 0, .int .i64 0, .int .i64 0]]]
    rw [if_pos (by decide), eem] at this
    exact this
  have c0 : wcmp .neq 0 0 = false := by rw [hcmp]; rfl
  simp only [c0]
  cbv
  (obtain ⟨L, eL, L0, Ln⟩ : ∃ L : Int, wlen ns = L ∧ 0 ≤ L ∧ L.toNat = ns.length := ⟨(ns.length : Int), by rw [hlen], Int.natCast_nonneg _, Int.toNat_natCast _⟩)
  have hKz := hKz rfl
  have n0 : nx = [] ↔ L = 0 := by rw [← List.length_eq_zero_iff, ← hnl, ← Ln]; omega
  have blockA : (hi ≤ en ∨ nx = []) → (lo ≤ en → ∀ j, K (.tuple []) (.live 6 [gRow es ds lo hi 1 (if (16 : Int) < em2.length then 13 else 0)] :: .live 0 em2 :: j)) ∧ (en < lo → ∀ j, K (.tuple []) (.live 6 [gRow es ds lo hi 1 0] :: .live 0 em :: j)) := fun hA => by
    refine ⟨fun hlo j => ?_, fun hlo j => ?_⟩
    · have := hKz hA j
      rw [if_pos hlo, eem2] at this
      by_cases hq : 16 < (putL m [x0, x1, x2, x3, x4, x5]).length
      · rw [if_pos hq] at this
        rw [if_pos (by rw [heml2]; omega)]
        exact this
      · rw [if_neg hq] at this
        rw [if_neg (by rw [heml2]; omega)]
        exact this
    · have := hKz hA j
      rw [if_neg (show ¬ lo ≤ en by omega), eem, if_neg (show ¬ 16 < m.length by have := hok.few rfl; simp only at this; omega)] at this
      exact this
  obtain ⟨n1, en1⟩ : ∃ n : Int, n = em.length := ⟨_, rfl⟩
  obtain ⟨n2, en2⟩ : ∃ n : Int, n = em2.length := ⟨_, rfl⟩
  have h16 : n1 ≤ 16 := by have := hok.few rfl; simp only at this; omega
  simp only [← en2] at blockA
  have lm1 : ∀ {K' : AV → AHeap → Prop} {hp : AHeap} {c : Go.Call} {ty t kt et : TypeId} {x : Operand}, hp[1]? = some (.live 0 em) → c.callee = .builtin .len → c.args = #[x] → c.argTypes = #[t] → P.underlying t = some (.map kt et) → K' (.int .i64 n1) hp → Xo P (.call c) ty [.mapr 1] hp K' := fun h1 h2 h3 h4 h5 h6 => Xo.lenm h2 h3 h4 h5 h1 htwo n1 en1 h6
  have lm2 : ∀ {K' : AV → AHeap → Prop} {hp : AHeap} {c : Go.Call} {ty t kt et : TypeId} {x : Operand}, hp[1]? = some (.live 0 em2) → c.callee = .builtin .len → c.args = #[x] → c.argTypes = #[t] → P.underlying t = some (.map kt et) → K' (.int .i64 n2) hp → Xo P (.call c) ty [.mapr 1] hp K' := fun h1 h2 h3 h4 h5 h6 => Xo.lenm h2 h3 h4 h5 h1 htwo2 n2 en2 h6
  (split <;> rename_i h1 <;> (try (simp only [hz, Z.a, binStd, cmpStd, unStd, scmpStd, maxI, reduceCtorEq] at h1)) <;> (try cbv))
  · obtain ⟨hy, hno⟩ := blockA (.inl h1)
    clear blockA hKz
    (split <;> rename_i h3 <;> (try (simp only [hz, Z.a, binStd, cmpStd, unStd, scmpStd, maxI, reduceCtorEq] at h3)) <;> (try cbv))
    · refine Put.mk em2 rfl hput ?_
      cbv
      refine lm2 (kt := 39) (et := 3) rfl rfl rfl rfl (by rw [← hP]; kernel_rfl) ?_
      cbv
      (split <;> rename_i h4 <;> (try (simp only [hz, Z.a, binStd, cmpStd, unStd, scmpStd, maxI, reduceCtorEq] at h4)) <;> (try cbv))
      · have := hy h3 [.live 13 [[.int .i64 6, .int .i64 x0, .int .i64 x1, .int .i64 x2, .int .i64 x3, .int .i64 x4, .int .i64 x5, .int .i64 0, .int .i64 0, .int .i64 0, .int .i64 0, .int .i64 0, .int .i64 0]]]
        rw [if_pos (by omega)] at this
        exact this
      · have := hy h3 [.live 13 [[.int .i64 6, .int .i64 x0, .int .i64 x1, .int .i64 x2, .int .i64 x3, .int .i64 x4, .int .i64 x5, .int .i64 0, .int .i64 0, .int .i64 0, .int .i64 0, .int .i64 0, .int .i64 0]]]
        rw [if_neg (by omega)] at this
        exact this
    · refine lm1 (kt := 39) (et := 3) rfl rfl rfl rfl (by rw [← hP]; kernel_rfl) ?_
      cbv
      (split <;> rename_i h4 <;> (try (simp only [hz, Z.a, binStd, cmpStd, unStd, scmpStd, maxI, reduceCtorEq] at h4)) <;> (try cbv))
      · exfalso; omega
      · exact hno h3 [.live 13 [[.int .i64 6, .int .i64 x0, .int .i64 x1, .int .i64 x2, .int .i64 x3, .int .i64 x4, .int .i64 x5, .int .i64 0, .int .i64 0, .int .i64 0, .int .i64 0, .int .i64 0, .int .i64 0]]]
  · simp only [eL]
    (split <;> rename_i h2 <;> (try (simp only [hz, Z.a, binStd, cmpStd, unStd, scmpStd, maxI, reduceCtorEq] at h2)) <;> (try cbv))
    · obtain ⟨hy, hno⟩ := blockA (.inr (n0.2 h2))
      clear blockA hKz
      (split <;> rename_i h3 <;> (try (simp only [hz, Z.a, binStd, cmpStd, unStd, scmpStd, maxI, reduceCtorEq] at h3)) <;> (try cbv))
      · refine Put.mk em2 rfl hput ?_
        cbv
        refine lm2 (kt := 39) (et := 3) rfl rfl rfl rfl (by rw [← hP]; kernel_rfl) ?_
        cbv
        (split <;> rename_i h4 <;> (try (simp only [hz, Z.a, binStd, cmpStd, unStd, scmpStd, maxI, reduceCtorEq] at h4)) <;> (try cbv))
        · have := hy h3 [.live 13 [[.int .i64 6, .int .i64 x0, .int .i64 x1, .int .i64 x2, .int .i64 x3, .int .i64 x4, .int .i64 x5, .int .i64 0, .int .i64 0, .int .i64 0, .int .i64 0, .int .i64 0, .int .i64 0]]]
          rw [if_pos (by omega)] at this
          exact this
        · have := hy h3 [.live 13 [[.int .i64 6, .int .i64 x0, .int .i64 x1, .int .i64 x2, .int .i64 x3, .int .i64 x4, .int .i64 x5, .int .i64 0, .int .i64 0, .int .i64 0, .int .i64 0, .int .i64 0, .int .i64 0]]]
          rw [if_neg (by omega)] at this
          exact this
      · refine lm1 (kt := 39) (et := 3) rfl rfl rfl rfl (by rw [← hP]; kernel_rfl) ?_
        cbv
        (split <;> rename_i h4 <;> (try (simp only [hz, Z.a, binStd, cmpStd, unStd, scmpStd, maxI, reduceCtorEq] at h4)) <;> (try cbv))
        · exfalso; omega
        · exact hno h3 [.live 13 [[.int .i64 6, .int .i64 x0, .int .i64 x1, .int .i64 x2, .int .i64 x3, .int .i64 x4, .int .i64 x5, .int .i64 0, .int .i64 0, .int .i64 0, .int .i64 0, .int .i64 0, .int .i64 0]]]
    · have hK := hK
      have ck : wcmp .eql 6 12 = false := by rw [hcmp]; rfl
      have a1 : wbin .add .i64 6 1 = 7 := by rw [hbin]; rfl
      have a2 : wbin .sub .i64 7 1 = 6 := by rw [hbin]; rfl
      have hnh : ¬ (hi ≤ en ∨ nx = []) := by rw [n0]; omega
      have hen' : -1099511627776 ≤ en ∧ en ≤ 6 * 1099511627776 := hen
      have hKl : ∀ s', s' = nx.foldl (fun s n => growF ss lo hi 6 [x0, x1, x2, x3, x4, x5, n] (en + lenAt ss n) s) (0, m) → ∀ j, K (.tuple []) (.live 6 [gRow es ds lo hi 1 s'.1] :: .live 0 (ents s'.2) :: j) := fun s' hs' j => by
        have := hK j
        rw [if_neg (by decide), if_neg hnh] at this
        rw [hs']
        exact this
      clear hK blockA hKz lm1 lm2
      simp only [ck]
      cbv
      simp only [a1]
      repeat' (first
        | (refine RowOf.mk _ rfl ?_; cbv)
        | (simp only [a1]; cbv)
        | (refine SetRow.mk _ _ rfl rfl ?_; cbv))
      simp only [eL]
      refine Loop.dataN hw (S := Int × Int × (Int × List (List Int)) × List (List AV)) (fun s => fr 103 [(0, .ref 0 6 0 0), (2, .int .i64 en), (4, .ref 2 13 0 0), (76, .list 1 ns), (77, .int .i64 L), (78, .int .i64 s.1)])
        (fun s => [.live 6 [[.list 3 es, .list 5 ds, .int .i64 lo, .int .i64 hi, .mapr 1, .int .i64 s.2.2.1.1]], .live 0 s.2.2.2, .live 13 [[.int .i64 7, .int .i64 x0, .int .i64 x1, .int .i64 x2, .int .i64 x3, .int .i64 x4, .int .i64 x5, .int .i64 s.2.1, .int .i64 0, .int .i64 0, .int .i64 0, .int .i64 0, .int .i64 0]]])
        (fun s => 0 ≤ s.1 ∧ s.1 ≤ L ∧ s.2.2.1 = (nx.take s.1.toNat).foldl (fun s n => growF ss lo hi 6 [x0, x1, x2, x3, x4, x5, n] (en + lenAt ss n) s) (0, m) ∧ GOk s.2.2.1 ∧ (s.2.2.1.1 = 0 ∨ s.2.2.1.1 = 13) ∧ s.2.2.2 = ents s.2.2.1.2 ∧ Up0 s.2.2.2) (fun s => (L - s.1).toNat) (0, 0, (0, m), em) (by (refine Wk.eqzN (id) (by intro i hi; first | rfl | (have hh : i = 0 ∨ i = 1 := (by omega); rcases hh with hh | hh <;> subst hh <;> rfl)) (Nat.le_of_ble_eq_true rfl) (by first | exact fun i _ j _ e => e | (simp only [List.length_cons, List.length_nil]; decide)) ?_; cbv; (repeat' (first | exact trivial | rfl | assumption | apply And.intro | (simp only [hz, Z.a, binStd, cmpStd, unStd, scmpStd, maxI, reduceCtorEq]; first | done | assumption) | exact RowsZ.same (by assumption) (by first | assumption | rfl) | exact FzL.mk rfl rfl rfl (by assumption) (by first | assumption | rfl) (by decide) | (refine RowsZ.one ?_; cbv))))) ⟨Int.le_refl _, L0, rfl, hok, .inl rfl, eem.symm, hum⟩ ?_
      rintro ⟨i, y, ⟨e, m'⟩, em'⟩ hinv Q' hN hE hR'
      have hinv : 0 ≤ i ∧ i ≤ L ∧ (e, m') = (nx.take i.toNat).foldl (fun s n => growF ss lo hi 6 [x0, x1, x2, x3, x4, x5, n] (en + lenAt ss n) s) (0, m) ∧ GOk (e, m') ∧ (e = 0 ∨ e = 13) ∧ em' = ents m' ∧ Up0 em' := hinv
      cbv
      obtain ⟨hi0, hi1, hfold, hok', he', hem', hum'⟩ := hinv
      (split <;> rename_i hc <;> (try (simp only [hz, Z.a, binStd, cmpStd, unStd, scmpStd, maxI, reduceCtorEq] at hc)) <;> (try cbv))
      · have hit : i.toNat < nx.length := by omega
        obtain ⟨n, hn⟩ : ∃ n, nx[i.toNat]? = some n := ⟨_, List.getElem?_eq_getElem hit⟩
        have hni : ns[i.toNat]? = some (nxRow n) := by rw [← ens, List.getElem?_map, hn]; rfl
        have hnb := hnxs n (List.mem_of_getElem? hn)
        obtain ⟨sg1, hd1, hrow1⟩ := get_map (f := sgRow) (ds := ss) (i := n) hnb.1 hnb.2
        have hle : lenAt ss n = sg1.len := by unfold lenAt; rw [hd1]
        have hl1 := hln.pos sg1 (List.mem_of_getElem? hd1)
        obtain ⟨len1, pcs1, nx1⟩ := sg1
        have hl1 : 1 ≤ len1 ∧ len1 ≤ 1099511627776 := hl1
        have hle : lenAt ss n = len1 := hle
        obtain ⟨q1, eq1⟩ : ∃ x, pcs1.map pcRow = x := ⟨_, rfl⟩
        obtain ⟨q2, eq2⟩ : ∃ x, nx1.map nxRow = x := ⟨_, rfl⟩
        have hrow1 : es[n.toNat]? = some [.int .i64 len1, .list 2 q1, .list 1 q2] := by rw [hes, ← eq1, ← eq2]; exact hrow1
        have hs2 : (growF ss lo hi 6 [x0, x1, x2, x3, x4, x5, n] (en + len1) (e, m')) = (nx.take (i + 1).toNat).foldl (fun s n => growF ss lo hi 6 [x0, x1, x2, x3, x4, x5, n] (en + lenAt ss n) s) (0, m) := by
          rw [take_next hi0 hn, List.foldl_append, ← hfold, List.foldl_cons, List.foldl_nil, hle]
        have hok2 := growF_ok ss lo hi 6 [x0, x1, x2, x3, x4, x5, n] (en + len1) (e, m') hok' (by simp only [List.length_cons, List.length_nil]; omega)
        have he2 := growF_e ss lo hi 6 [x0, x1, x2, x3, x4, x5, n] (en + len1) (e, m') he'
        have a3 : wbin .add .i64 en len1 = en + len1 := by rw [hbin]; show IntKind.i64.wrap (en + len1) = en + len1; rw [IntKind.wrap_i64]; omega
        obtain ⟨en2, een2⟩ : ∃ z, z = en + len1 := ⟨_, rfl⟩
        rw [← een2] at hs2 hok2 he2 a3
        have hen2 : -1099511627776 ≤ en2 ∧ en2 ≤ lenI [x0, x1, x2, x3, x4, x5, n] * 1099511627776 := by simp only [lenI]; omega
        have hl2 : ∀ x, x ∈ [x0, x1, x2, x3, x4, x5, n] → 0 ≤ x ∧ x.toNat < ss.length := fun x hx => by
          have : x ∈ [x0, x1, x2, x3, x4, x5] ∨ x = n := by simpa [or_assoc] using hx
          rcases this with h | rfl
          · exact hl x h
          · exact hnb
        obtain ⟨⟨e3, m3⟩, es3⟩ : ∃ s', growF ss lo hi 6 [x0, x1, x2, x3, x4, x5, n] en2 (e, m') = s' := ⟨_, rfl⟩
        obtain ⟨em3, eem3⟩ : ∃ x, x = ents m3 := ⟨_, rfl⟩
        have hum3 : Up0 em3 := by rw [eem3]; exact up_ents m3
        rw [es3] at hs2 hok2 he2
        refine Idx.mk _ hi0 hni ?_
        cbv
        repeat' (first
          | (refine RowOf.mk _ rfl ?_; cbv)
          | (simp only [a2]; cbv)
          | (refine InN.mk (by decide) (by decide) ?_; cbv)
          | (refine SetRow.mk _ _ rfl rfl ?_; cbv)
          | (refine Idx.mk _ hnb.1 hrow1 ?_; cbv))
        simp only [a3]
        refine Call.of (GrowC.call hu hud (e_grow7 ss gs es ds hes hds hln hnx lo hi x0 x1 x2 x3 x4 x5 n) hP (sg := 0) (sm := 1) (h := [.live 6 [gRow es ds lo hi 1 e], .live 0 em', .live 13 [[.int .i64 7, .int .i64 x0, .int .i64 x1, .int .i64 x2, .int .i64 x3, .int .i64 x4, .int .i64 x5, .int .i64 n, .int .i64 0, .int .i64 0, .int .i64 0, .int .i64 0, .int .i64 0]]]) (by decide) rfl (by rw [← hem']; rfl) hok' he' hen2 hl2 ?_)
        rw [es3, ← eem3]
        have a4 : wbin .add .i64 i 1 = i + 1 := by rw [hbin]; show IntKind.i64.wrap (i + 1) = i + 1; rw [IntKind.wrap_i64]; omega
        cbv
        simp only [a4]
        refine hN (i + 1, n, (e3, m3), em3) _ _ (by (refine Wk.eqzN (id) (by intro i hi; first | rfl | (have hh : i = 0 ∨ i = 1 := (by omega); rcases hh with hh | hh <;> subst hh <;> rfl)) (Nat.le_of_ble_eq_true rfl) (by first | exact fun i _ j _ e => e | (simp only [List.length_cons, List.length_nil]; decide)) ?_; cbv; (repeat' (first | exact trivial | rfl | assumption | apply And.intro | (simp only [hz, Z.a, binStd, cmpStd, unStd, scmpStd, maxI, reduceCtorEq]; first | done | assumption) | exact RowsZ.same (by assumption) (by first | assumption | rfl) | exact FzL.mk rfl rfl rfl (by assumption) (by first | assumption | rfl) (by decide) | (refine RowsZ.one ?_; cbv))))) ⟨by simp only; omega, by simp only; omega, hs2, hok2, he2, eem3, hum3⟩ ?_
        simp only
        omega
      · refine hE _ _ _ ?_
        cbv
        have := hKl (e, m') (by rw [hfold, List.take_of_length_le (by omega)]) [.live 13 [[.int .i64 7, .int .i64 x0, .int .i64 x1, .int .i64 x2, .int .i64 x3, .int .i64 x4, .int .i64 x5, .int .i64 y, .int .i64 0, .int .i64 0, .int .i64 0, .int .i64 0, .int .i64 0]]]
        rw [← hem'] at this
        exact this
end Go.Proofs.Ytpiocfmdjgbamaa

/- route.grower.grow at depth 5. Printed by wip/tools/genroute.py. -/
namespace Go.Proofs.Ytpiocfmdjgbamaa
open Go Go.RowKit Go.Eng
set_option maxRecDepth 100000
set_option maxHeartbeats 2000000 in
theorem e_grow5 (ss : List Sg) (gs : List Gr) (es ds : List (List AV)) (hes : es = ss.map sgRow) (hds : ds = gs.map grRow) (hln : LensOk ss) (hnx : NextOk ss) (lo hi : Int) (x0 x1 x2 x3 x4 : Int) : GrowC ss es ds lo hi 8 [x0, x1, x2, x3, x4] := by
  have hu : Up0 es := by rw [hes]; exact up_sg ss
  have hud : Up0 ds := by rw [hds]; exact up_gr gs
  intro en e m hok he hen hl K hK
  have hlast := hl x4 (by simp)
  obtain ⟨sg0, hd0, hrow0⟩ := get_map (f := sgRow) (ds := ss) (i := x4) hlast.1 hlast.2
  have hnxe : nxAt ss x4 = sg0.nx := by unfold nxAt; rw [hd0]
  have hnx0 : ∀ n, n ∈ sg0.nx → 0 ≤ n ∧ n.toNat < ss.length := fun n hn => nxAt_ok hnx (by rw [hnxe]; exact hn)
  have hnx2 : sg0.nx.length ≤ 2 := by have := nxAt_two hnx x4; rw [hnxe] at this; exact this
  have hF : growF ss lo hi 8 [x0, x1, x2, x3, x4] en (e, m) = (if e ≠ 0 then (e, m) else if hi ≤ en ∨ sg0.nx = [] then (if 16 < (if lo ≤ en then putL m [x0, x1, x2, x3, x4] else m).length then 13 else 0, if lo ≤ en then putL m [x0, x1, x2, x3, x4] else m) else sg0.nx.foldl (fun s n => growF ss lo hi 7 [x0, x1, x2, x3, x4, n] (en + lenAt ss n) s) (e, m)) := by
    rw [← hnxe]; rfl
  rw [hF] at hK
  obtain ⟨len, pcs, nx⟩ := sg0
  obtain ⟨q0, eq0⟩ : ∃ x, pcs.map pcRow = x := ⟨_, rfl⟩
  obtain ⟨ns, ens⟩ : ∃ x, nx.map nxRow = x := ⟨_, rfl⟩
  have huns : Up0 ns := by rw [← ens]; exact up_nx nx
  have hnl : ns.length = nx.length := by rw [← ens]; simp
  have hrow0 : es[x4.toNat]? = some [.int .i64 len, .list 2 q0, .list 1 ns] := by rw [hes, ← eq0, ← ens]; exact hrow0
  have hput := put_ents m [x0, x1, x2, x3, x4] (by simp only [List.length_cons, List.length_nil]; omega) (fun j hj => (hok.all j hj).1)
  obtain ⟨em, eem⟩ : ∃ x, ents m = x := ⟨_, rfl⟩
  obtain ⟨em2, eem2⟩ : ∃ x, ents (putL m [x0, x1, x2, x3, x4]) = x := ⟨_, rfl⟩
  have hum : Up0 em := by rw [← eem]; exact up_ents m
  have htwo : ∀ e, e ∈ em → e.length = 2 := by rw [← eem]; exact ents_two m
  have htwo2 : ∀ e, e ∈ em2 → e.length = 2 := by rw [← eem2]; exact ents_two _
  have heml : em.length = m.length := by rw [← eem]; exact ents_len m
  have heml2 : em2.length = (putL m [x0, x1, x2, x3, x4]).length := by rw [← eem2]; exact ents_len _
  rw [eem, eem2] at hput
  rw [eem]
  have hnxs : ∀ n, n ∈ nx → 0 ≤ n ∧ n.toNat < ss.length := hnx0
  have hnx2 : nx.length ≤ 2 := hnx2
  show ACall Try.prog 55 [.ref 0 6 0 0, .agg [.int .i64 5, .int .i64 x0, .int .i64 x1, .int .i64 x2, .int .i64 x3, .int .i64 x4, .int .i64 0, .int .i64 0, .int .i64 0, .int .i64 0, .int .i64 0, .int .i64 0, .int .i64 0], .int .i64 en] [.live 6 [gRow es ds lo hi 1 e], .live 0 em] K
  (refine ACall.ofI Try.func55 (by kernel_rfl) (by kernel_rfl) fun w hw => ?_); (obtain ⟨wbin, wcmp, wun, wconv, wnot, wbeq, wmm, wscmp, wsadd, wslen, wsat, weqs, wlen, wnlen, wofNat, wtake, wdrop, wapp, wzero, wnat⟩ := w); (have hbin := Z.w1 hw); (have hcmp := Z.w2 hw); (have hun := Z.w3 hw); (have hconv := Z.w4 hw); (have hnot := Z.w5 hw); (have hbeq := Z.w6 hw); (have hmm := Z.w7 hw); (have hscmp := Z.w8 hw); (have hsadd := Z.w9 hw); (have hslen := Z.w10 hw); (have hsat := Z.w11 hw); (have heqs := Z.w12 hw); (have hlen := Z.w13 hw); (have hnlen := Z.w14 hw); (have hofNat := Z.w15 hw); (have htake := Z.w16 hw); (have hdrop := Z.w17 hw); (have happ := Z.w18 hw); (have hzero := Z.w19 hw); (have hnat := Z.w20 hw); (have hz := Z.z hw); (conv => arg 2; cbv); (generalize hP : Try.prog = P); cbv
  have s1 : wbin .sub .i64 5 1 = 4 := by rw [hbin]; rfl
  simp only [s1]
  refine InN.mk (by decide) (by decide) ?_
  cbv
  repeat' (first
    | (refine RowOf.mk _ rfl ?_; cbv)
    | (refine Idx.mk _ hlast.1 hrow0 ?_; cbv))
  have hKz : e = 0 → (hi ≤ en ∨ nx = []) → ∀ j, K (.tuple []) (.live 6 [gRow es ds lo hi 1 (if 16 < (if lo ≤ en then putL m [x0, x1, x2, x3, x4] else m).length then 13 else 0)] :: .live 0 (ents (if lo ≤ en then putL m [x0, x1, x2, x3, x4] else m)) :: j) := fun h0 hc j => by
    have := hK j
    rw [if_neg (by simp [h0]), if_pos hc] at this
    exact this
  rcases he with rfl | rfl
  rotate_left 1
  · have c0 : wcmp .neq 13 0 = true := by rw [hcmp]; rfl
    simp only [c0]
    cbv
    have := hK [.live 13 [[.int .i64 5, .int .i64 x0, .int .i64 x1, .int .i64 x2, .int .i64 x3, .int .i64 x4, .int .i64 0, .int .i64 0, .int .i64 0, .int .i64 0, .int .i64 0, .int .i64 0, .int .i64 0]]]
    rw [if_pos (by decide), eem] at this
    exact this
  have c0 : wcmp .neq 0 0 = false := by rw [hcmp]; rfl
  simp only [c0]
  cbv
  (obtain ⟨L, eL, L0, Ln⟩ : ∃ L : Int, wlen ns = L ∧ 0 ≤ L ∧ L.toNat = ns.length := ⟨(ns.length : Int), by rw [hlen], Int.natCast_nonneg _, Int.toNat_natCast _⟩)
  have hKz := hKz rfl
  have n0 : nx = [] ↔ L = 0 := by rw [← List.length_eq_zero_iff, ← hnl, ← Ln]; omega
  have blockA : (hi ≤ en ∨ nx = []) → (lo ≤ en → ∀ j, K (.tuple []) (.live 6 [gRow es ds lo hi 1 (if (16 : Int) < em2.length then 13 else 0)] :: .live 0 em2 :: j)) ∧ (en < lo → ∀ j, K (.tuple []) (.live 6 [gRow es ds lo hi 1 0] :: .live 0 em :: j)) := fun hA => by
    refine ⟨fun hlo j => ?_, fun hlo j => ?_⟩
    · have := hKz hA j
      rw [if_pos hlo, eem2] at this
      by_cases hq : 16 < (putL m [x0, x1, x2, x3, x4]).length
      · rw [if_pos hq] at this
        rw [if_pos (by rw [heml2]; omega)]
        exact this
      · rw [if_neg hq] at this
        rw [if_neg (by rw [heml2]; omega)]
        exact this
    · have := hKz hA j
      rw [if_neg (show ¬ lo ≤ en by omega), eem, if_neg (show ¬ 16 < m.length by have := hok.few rfl; simp only at this; omega)] at this
      exact this
  obtain ⟨n1, en1⟩ : ∃ n : Int, n = em.length := ⟨_, rfl⟩
  obtain ⟨n2, en2⟩ : ∃ n : Int, n = em2.length := ⟨_, rfl⟩
  have h16 : n1 ≤ 16 := by have := hok.few rfl; simp only at this; omega
  simp only [← en2] at blockA
  have lm1 : ∀ {K' : AV → AHeap → Prop} {hp : AHeap} {c : Go.Call} {ty t kt et : TypeId} {x : Operand}, hp[1]? = some (.live 0 em) → c.callee = .builtin .len → c.args = #[x] → c.argTypes = #[t] → P.underlying t = some (.map kt et) → K' (.int .i64 n1) hp → Xo P (.call c) ty [.mapr 1] hp K' := fun h1 h2 h3 h4 h5 h6 => Xo.lenm h2 h3 h4 h5 h1 htwo n1 en1 h6
  have lm2 : ∀ {K' : AV → AHeap → Prop} {hp : AHeap} {c : Go.Call} {ty t kt et : TypeId} {x : Operand}, hp[1]? = some (.live 0 em2) → c.callee = .builtin .len → c.args = #[x] → c.argTypes = #[t] → P.underlying t = some (.map kt et) → K' (.int .i64 n2) hp → Xo P (.call c) ty [.mapr 1] hp K' := fun h1 h2 h3 h4 h5 h6 => Xo.lenm h2 h3 h4 h5 h1 htwo2 n2 en2 h6
  (split <;> rename_i h1 <;> (try (simp only [hz, Z.a, binStd, cmpStd, unStd, scmpStd, maxI, reduceCtorEq] at h1)) <;> (try cbv))
  · obtain ⟨hy, hno⟩ := blockA (.inl h1)
    clear blockA hKz
    (split <;> rename_i h3 <;> (try (simp only [hz, Z.a, binStd, cmpStd, unStd, scmpStd, maxI, reduceCtorEq] at h3)) <;> (try cbv))
    · refine Put.mk em2 rfl hput ?_
      cbv
      refine lm2 (kt := 39) (et := 3) rfl rfl rfl rfl (by rw [← hP]; kernel_rfl) ?_
      cbv
      (split <;> rename_i h4 <;> (try (simp only [hz, Z.a, binStd, cmpStd, unStd, scmpStd, maxI, reduceCtorEq] at h4)) <;> (try cbv))
      · have := hy h3 [.live 13 [[.int .i64 5, .int .i64 x0, .int .i64 x1, .int .i64 x2, .int .i64 x3, .int .i64 x4, .int .i64 0, .int .i64 0, .int .i64 0, .int .i64 0, .int .i64 0, .int .i64 0, .int .i64 0]]]
        rw [if_pos (by omega)] at this
        exact this
      · have := hy h3 [.live 13 [[.int .i64 5, .int .i64 x0, .int .i64 x1, .int .i64 x2, .int .i64 x3, .int .i64 x4, .int .i64 0, .int .i64 0, .int .i64 0, .int .i64 0, .int .i64 0, .int .i64 0, .int .i64 0]]]
        rw [if_neg (by omega)] at this
        exact this
    · refine lm1 (kt := 39) (et := 3) rfl rfl rfl rfl (by rw [← hP]; kernel_rfl) ?_
      cbv
      (split <;> rename_i h4 <;> (try (simp only [hz, Z.a, binStd, cmpStd, unStd, scmpStd, maxI, reduceCtorEq] at h4)) <;> (try cbv))
      · exfalso; omega
      · exact hno h3 [.live 13 [[.int .i64 5, .int .i64 x0, .int .i64 x1, .int .i64 x2, .int .i64 x3, .int .i64 x4, .int .i64 0, .int .i64 0, .int .i64 0, .int .i64 0, .int .i64 0, .int .i64 0, .int .i64 0]]]
  · simp only [eL]
    (split <;> rename_i h2 <;> (try (simp only [hz, Z.a, binStd, cmpStd, unStd, scmpStd, maxI, reduceCtorEq] at h2)) <;> (try cbv))
    · obtain ⟨hy, hno⟩ := blockA (.inr (n0.2 h2))
      clear blockA hKz
      (split <;> rename_i h3 <;> (try (simp only [hz, Z.a, binStd, cmpStd, unStd, scmpStd, maxI, reduceCtorEq] at h3)) <;> (try cbv))
      · refine Put.mk em2 rfl hput ?_
        cbv
        refine lm2 (kt := 39) (et := 3) rfl rfl rfl rfl (by rw [← hP]; kernel_rfl) ?_
        cbv
        (split <;> rename_i h4 <;> (try (simp only [hz, Z.a, binStd, cmpStd, unStd, scmpStd, maxI, reduceCtorEq] at h4)) <;> (try cbv))
        · have := hy h3 [.live 13 [[.int .i64 5, .int .i64 x0, .int .i64 x1, .int .i64 x2, .int .i64 x3, .int .i64 x4, .int .i64 0, .int .i64 0, .int .i64 0, .int .i64 0, .int .i64 0, .int .i64 0, .int .i64 0]]]
          rw [if_pos (by omega)] at this
          exact this
        · have := hy h3 [.live 13 [[.int .i64 5, .int .i64 x0, .int .i64 x1, .int .i64 x2, .int .i64 x3, .int .i64 x4, .int .i64 0, .int .i64 0, .int .i64 0, .int .i64 0, .int .i64 0, .int .i64 0, .int .i64 0]]]
          rw [if_neg (by omega)] at this
          exact this
      · refine lm1 (kt := 39) (et := 3) rfl rfl rfl rfl (by rw [← hP]; kernel_rfl) ?_
        cbv
        (split <;> rename_i h4 <;> (try (simp only [hz, Z.a, binStd, cmpStd, unStd, scmpStd, maxI, reduceCtorEq] at h4)) <;> (try cbv))
        · exfalso; omega
        · exact hno h3 [.live 13 [[.int .i64 5, .int .i64 x0, .int .i64 x1, .int .i64 x2, .int .i64 x3, .int .i64 x4, .int .i64 0, .int .i64 0, .int .i64 0, .int .i64 0, .int .i64 0, .int .i64 0, .int .i64 0]]]
    · have hK := hK
      have ck : wcmp .eql 5 12 = false := by rw [hcmp]; rfl
      have a1 : wbin .add .i64 5 1 = 6 := by rw [hbin]; rfl
      have a2 : wbin .sub .i64 6 1 = 5 := by rw [hbin]; rfl
      have hnh : ¬ (hi ≤ en ∨ nx = []) := by rw [n0]; omega
      have hen' : -1099511627776 ≤ en ∧ en ≤ 5 * 1099511627776 := hen
      have hKl : ∀ s', s' = nx.foldl (fun s n => growF ss lo hi 7 [x0, x1, x2, x3, x4, n] (en + lenAt ss n) s) (0, m) → ∀ j, K (.tuple []) (.live 6 [gRow es ds lo hi 1 s'.1] :: .live 0 (ents s'.2) :: j) := fun s' hs' j => by
        have := hK j
        rw [if_neg (by decide), if_neg hnh] at this
        rw [hs']
        exact this
      clear hK blockA hKz lm1 lm2
      simp only [ck]
      cbv
      simp only [a1]
      repeat' (first
        | (refine RowOf.mk _ rfl ?_; cbv)
        | (simp only [a1]; cbv)
        | (refine SetRow.mk _ _ rfl rfl ?_; cbv))
      simp only [eL]
      refine Loop.dataN hw (S := Int × Int × (Int × List (List Int)) × List (List AV)) (fun s => fr 103 [(0, .ref 0 6 0 0), (2, .int .i64 en), (4, .ref 2 13 0 0), (76, .list 1 ns), (77, .int .i64 L), (78, .int .i64 s.1)])
        (fun s => [.live 6 [[.list 3 es, .list 5 ds, .int .i64 lo, .int .i64 hi, .mapr 1, .int .i64 s.2.2.1.1]], .live 0 s.2.2.2, .live 13 [[.int .i64 6, .int .i64 x0, .int .i64 x1, .int .i64 x2, .int .i64 x3, .int .i64 x4, .int .i64 s.2.1, .int .i64 0, .int .i64 0, .int .i64 0, .int .i64 0, .int .i64 0, .int .i64 0]]])
        (fun s => 0 ≤ s.1 ∧ s.1 ≤ L ∧ s.2.2.1 = (nx.take s.1.toNat).foldl (fun s n => growF ss lo hi 7 [x0, x1, x2, x3, x4, n] (en + lenAt ss n) s) (0, m) ∧ GOk s.2.2.1 ∧ (s.2.2.1.1 = 0 ∨ s.2.2.1.1 = 13) ∧ s.2.2.2 = ents s.2.2.1.2 ∧ Up0 s.2.2.2) (fun s => (L - s.1).toNat) (0, 0, (0, m), em) (by (refine Wk.eqzN (id) (by intro i hi; first | rfl | (have hh : i = 0 ∨ i = 1 := (by omega); rcases hh with hh | hh <;> subst hh <;> rfl)) (Nat.le_of_ble_eq_true rfl) (by first | exact fun i _ j _ e => e | (simp only [List.length_cons, List.length_nil]; decide)) ?_; cbv; (repeat' (first | exact trivial | rfl | assumption | apply And.intro | (simp only [hz, Z.a, binStd, cmpStd, unStd, scmpStd, maxI, reduceCtorEq]; first | done | assumption) | exact RowsZ.same (by assumption) (by first | assumption | rfl) | exact FzL.mk rfl rfl rfl (by assumption) (by first | assumption | rfl) (by decide) | (refine RowsZ.one ?_; cbv))))) ⟨Int.le_refl _, L0, rfl, hok, .inl rfl, eem.symm, hum⟩ ?_
      rintro ⟨i, y, ⟨e, m'⟩, em'⟩ hinv Q' hN hE hR'
      have hinv : 0 ≤ i ∧ i ≤ L ∧ (e, m') = (nx.take i.toNat).foldl (fun s n => growF ss lo hi 7 [x0, x1, x2, x3, x4, n] (en + lenAt ss n) s) (0, m) ∧ GOk (e, m') ∧ (e = 0 ∨ e = 13) ∧ em' = ents m' ∧ Up0 em' := hinv
      cbv
      obtain ⟨hi0, hi1, hfold, hok', he', hem', hum'⟩ := hinv
      (split <;> rename_i hc <;> (try (simp only [hz, Z.a, binStd, cmpStd, unStd, scmpStd, maxI, reduceCtorEq] at hc)) <;> (try cbv))
      · have hit : i.toNat < nx.length := by omega
        obtain ⟨n, hn⟩ : ∃ n, nx[i.toNat]? = some n := ⟨_, List.getElem?_eq_getElem hit⟩
        have hni : ns[i.toNat]? = some (nxRow n) := by rw [← ens, List.getElem?_map, hn]; rfl
        have hnb := hnxs n (List.mem_of_getElem? hn)
        obtain ⟨sg1, hd1, hrow1⟩ := get_map (f := sgRow) (ds := ss) (i := n) hnb.1 hnb.2
        have hle : lenAt ss n = sg1.len := by unfold lenAt; rw [hd1]
        have hl1 := hln.pos sg1 (List.mem_of_getElem? hd1)
        obtain ⟨len1, pcs1, nx1⟩ := sg1
        have hl1 : 1 ≤ len1 ∧ len1 ≤ 1099511627776 := hl1
        have hle : lenAt ss n = len1 := hle
        obtain ⟨q1, eq1⟩ : ∃ x, pcs1.map pcRow = x := ⟨_, rfl⟩
        obtain ⟨q2, eq2⟩ : ∃ x, nx1.map nxRow = x := ⟨_, rfl⟩
        have hrow1 : es[n.toNat]? = some [.int .i64 len1, .list 2 q1, .list 1 q2] := by rw [hes, ← eq1, ← eq2]; exact hrow1
        have hs2 : (growF ss lo hi 7 [x0, x1, x2, x3, x4, n] (en + len1) (e, m')) = (nx.take (i + 1).toNat).foldl (fun s n => growF ss lo hi 7 [x0, x1, x2, x3, x4, n] (en + lenAt ss n) s) (0, m) := by
          rw [take_next hi0 hn, List.foldl_append, ← hfold, List.foldl_cons, List.foldl_nil, hle]
        have hok2 := growF_ok ss lo hi 7 [x0, x1, x2, x3, x4, n] (en + len1) (e, m') hok' (by simp only [List.length_cons, List.length_nil]; omega)
        have he2 := growF_e ss lo hi 7 [x0, x1, x2, x3, x4, n] (en + len1) (e, m') he'
        have a3 : wbin .add .i64 en len1 = en + len1 := by rw [hbin]; show IntKind.i64.wrap (en + len1) = en + len1; rw [IntKind.wrap_i64]; omega
        obtain ⟨en2, een2⟩ : ∃ z, z = en + len1 := ⟨_, rfl⟩
        rw [← een2] at hs2 hok2 he2 a3
        have hen2 : -1099511627776 ≤ en2 ∧ en2 ≤ lenI [x0, x1, x2, x3, x4, n] * 1099511627776 := by simp only [lenI]; omega
        have hl2 : ∀ x, x ∈ [x0, x1, x2, x3, x4, n] → 0 ≤ x ∧ x.toNat < ss.length := fun x hx => by
          have : x ∈ [x0, x1, x2, x3, x4] ∨ x = n := by simpa [or_assoc] using hx
          rcases this with h | rfl
          · exact hl x h
          · exact hnb
        obtain ⟨⟨e3, m3⟩, es3⟩ : ∃ s', growF ss lo hi 7 [x0, x1, x2, x3, x4, n] en2 (e, m') = s' := ⟨_, rfl⟩
        obtain ⟨em3, eem3⟩ : ∃ x, x = ents m3 := ⟨_, rfl⟩
        have hum3 : Up0 em3 := by rw [eem3]; exact up_ents m3
        rw [es3] at hs2 hok2 he2
        refine Idx.mk _ hi0 hni ?_
        cbv
        repeat' (first
          | (refine RowOf.mk _ rfl ?_; cbv)
          | (simp only [a2]; cbv)
          | (refine InN.mk (by decide) (by decide) ?_; cbv)
          | (refine SetRow.mk _ _ rfl rfl ?_; cbv)
          | (refine Idx.mk _ hnb.1 hrow1 ?_; cbv))
        simp only [a3]
        refine Call.of (GrowC.call hu hud (e_grow6 ss gs es ds hes hds hln hnx lo hi x0 x1 x2 x3 x4 n) hP (sg := 0) (sm := 1) (h := [.live 6 [gRow es ds lo hi 1 e], .live 0 em', .live 13 [[.int .i64 6, .int .i64 x0, .int .i64 x1, .int .i64 x2, .int .i64 x3, .int .i64 x4, .int .i64 n, .int .i64 0, .int .i64 0, .int .i64 0, .int .i64 0, .int .i64 0, .int .i64 0]]]) (by decide) rfl (by rw [← hem']; rfl) hok' he' hen2 hl2 ?_)
        rw [es3, ← eem3]
        have a4 : wbin .add .i64 i 1 = i + 1 := by rw [hbin]; show IntKind.i64.wrap (i + 1) = i + 1; rw [IntKind.wrap_i64]; omega
        cbv
        simp only [a4]
        refine hN (i + 1, n, (e3, m3), em3) _ _ (by (refine Wk.eqzN (id) (by intro i hi; first | rfl | (have hh : i = 0 ∨ i = 1 := (by omega); rcases hh with hh | hh <;> subst hh <;> rfl)) (Nat.le_of_ble_eq_true rfl) (by first | exact fun i _ j _ e => e | (simp only [List.length_cons, List.length_nil]; decide)) ?_; cbv; (repeat' (first | exact trivial | rfl | assumption | apply And.intro | (simp only [hz, Z.a, binStd, cmpStd, unStd, scmpStd, maxI, reduceCtorEq]; first | done | assumption) | exact RowsZ.same (by assumption) (by first | assumption | rfl) | exact FzL.mk rfl rfl rfl (by assumption) (by first | assumption | rfl) (by decide) | (refine RowsZ.one ?_; cbv))))) ⟨by simp only; omega, by simp only; omega, hs2, hok2, he2, eem3, hum3⟩ ?_
        simp only
        omega
      · refine hE _ _ _ ?_
        cbv
        have := hKl (e, m') (by rw [hfold, List.take_of_length_le (by omega)]) [.live 13 [[.int .i64 6, .int .i64 x0, .int .i64 x1, .int .i64 x2, .int .i64 x3, .int .i64 x4, .int .i64 y, .int .i64 0, .int .i64 0, .int .i64 0, .int .i64 0, .int .i64 0, .int .i64 0]]]
        rw [← hem'] at this
        exact this
end Go.Proofs.Ytpiocfmdjgbamaa

/- route.grower.grow at depth 4. Printed by wip/tools/genroute.py. -/
namespace Go.Proofs.Ytpiocfmdjgbamaa
open Go Go.RowKit Go.Eng
set_option maxRecDepth 100000
set_option maxHeartbeats 2000000 in
theorem e_grow4 (ss : List Sg) (gs : List Gr) (es ds : List (List AV)) (hes : es = ss.map sgRow) (hds : ds = gs.map grRow) (hln : LensOk ss) (hnx : NextOk ss) (lo hi : Int) (x0 x1 x2 x3 : Int) : GrowC ss es ds lo hi 9 [x0, x1, x2, x3] := by
  have hu : Up0 es := by rw [hes]; exact up_sg ss
  have hud : Up0 ds := by rw [hds]; exact up_gr gs
  intro en e m hok he hen hl K hK
  have hlast := hl x3 (by simp)
  obtain ⟨sg0, hd0, hrow0⟩ := get_map (f := sgRow) (ds := ss) (i := x3) hlast.1 hlast.2
  have hnxe : nxAt ss x3 = sg0.nx := by unfold nxAt; rw [hd0]
  have hnx0 : ∀ n, n ∈ sg0.nx → 0 ≤ n ∧ n.toNat < ss.length := fun n hn => nxAt_ok hnx (by rw [hnxe]; exact hn)
  have hnx2 : sg0.nx.length ≤ 2 := by have := nxAt_two hnx x3; rw [hnxe] at this; exact this
  have hF : growF ss lo hi 9 [x0, x1, x2, x3] en (e, m) = (if e ≠ 0 then (e, m) else if hi ≤ en ∨ sg0.nx = [] then (if 16 < (if lo ≤ en then putL m [x0, x1, x2, x3] else m).length then 13 else 0, if lo ≤ en then putL m [x0, x1, x2, x3] else m) else sg0.nx.foldl (fun s n => growF ss lo hi 8 [x0, x1, x2, x3, n] (en + lenAt ss n) s) (e, m)) := by
    rw [← hnxe]; rfl
  rw [hF] at hK
  obtain ⟨len, pcs, nx⟩ := sg0
  obtain ⟨q0, eq0⟩ : ∃ x, pcs.map pcRow = x := ⟨_, rfl⟩
  obtain ⟨ns, ens⟩ : ∃ x, nx.map nxRow = x := ⟨_, rfl⟩
  have huns : Up0 ns := by rw [← ens]; exact up_nx nx
  have hnl : ns.length = nx.length := by rw [← ens]; simp
  have hrow0 : es[x3.toNat]? = some [.int .i64 len, .list 2 q0, .list 1 ns] := by rw [hes, ← eq0, ← ens]; exact hrow0
  have hput := put_ents m [x0, x1, x2, x3] (by simp only [List.length_cons, List.length_nil]; omega) (fun j hj => (hok.all j hj).1)
  obtain ⟨em, eem⟩ : ∃ x, ents m = x := ⟨_, rfl⟩
  obtain ⟨em2, eem2⟩ : ∃ x, ents (putL m [x0, x1, x2, x3]) = x := ⟨_, rfl⟩
  have hum : Up0 em := by rw [← eem]; exact up_ents m
  have htwo : ∀ e, e ∈ em → e.length = 2 := by rw [← eem]; exact ents_two m
  have htwo2 : ∀ e, e ∈ em2 → e.length = 2 := by rw [← eem2]; exact ents_two _
  have heml : em.length = m.length := by rw [← eem]; exact ents_len m
  have heml2 : em2.length = (putL m [x0, x1, x2, x3]).length := by rw [← eem2]; exact ents_len _
  rw [eem, eem2] at hput
  rw [eem]
  have hnxs : ∀ n, n ∈ nx → 0 ≤ n ∧ n.toNat < ss.length := hnx0
  have hnx2 : nx.length ≤ 2 := hnx2
  show ACall Try.prog 55 [.ref 0 6 0 0, .agg [.int .i64 4, .int .i64 x0, .int .i64 x1, .int .i64 x2, .int .i64 x3, .int .i64 0, .int .i64 0, .int .i64 0, .int .i64 0, .int .i64 0, .int .i64 0, .int .i64 0, .int .i64 0], .int .i64 en] [.live 6 [gRow es ds lo hi 1 e], .live 0 em] K
  (refine ACall.ofI Try.func55 (by kernel_rfl) (by kernel_rfl) fun w hw => ?_); (obtain ⟨wbin, wcmp, wun, wconv, wnot, wbeq, wmm, wscmp, wsadd, wslen, wsat, weqs, wlen, wnlen, wofNat, wtake, wdrop, wapp, wzero, wnat⟩ := w); (have hbin := Z.w1 hw); (have hcmp := Z.w2 hw); (have hun := Z.w3 hw); (have hconv := Z.w4 hw); (have hnot := Z.w5 hw); (have hbeq := Z.w6 hw); (have hmm := Z.w7 hw); (have hscmp := Z.w8 hw); (have hsadd := Z.w9 hw); (have hslen := Z.w10 hw); (have hsat := Z.w11 hw); (have heqs := Z.w12 hw); (have hlen := Z.w13 hw); (have hnlen := Z.w14 hw); (have hofNat := Z.w15 hw); (have htake := Z.w16 hw); (have hdrop := Z.w17 hw); (have happ := Z.w18 hw); (have hzero := Z.w19 hw); (have hnat := Z.w20 hw); (have hz := Z.z hw); (conv => arg 2; cbv); (generalize hP : Try.prog = P); cbv
  have s1 : wbin .sub .i64 4 1 = 3 := by rw [hbin]; rfl
  simp only [s1]
  refine InN.mk (by decide) (by decide) ?_
  cbv
  repeat' (first
    | (refine RowOf.mk _ rfl ?_; cbv)
    | (refine Idx.mk _ hlast.1 hrow0 ?_; cbv))
  have hKz : e = 0 → (hi ≤ en ∨ nx = []) → ∀ j, K (.tuple []) (.live 6 [gRow es ds lo hi 1 (if 16 < (if lo ≤ en then putL m [x0, x1, x2, x3] else m).length then 13 else 0)] :: .live 0 (ents (if lo ≤ en then putL m [x0, x1, x2, x3] else m)) :: j) := fun h0 hc j => by
    have := hK j
    rw [if_neg (by simp [h0]), if_pos hc] at this
    exact this
  rcases he with rfl | rfl
  rotate_left 1
  · have c0 : wcmp .neq 13 0 = true := by rw [hcmp]; rfl
    simp only [c0]
    cbv
    have := hK [.live 13 [[.int .i64 4, .int .i64 x0, .int .i64 x1, .int .i64 x2, .int .i64 x3, .int .i64 0, .int .i64 0, .int .i64 0, .int .i64 0, .int .i64 0, .int .i64 0, .int .i64 0, .int .i64 0]]]
    rw [if_pos (by decide), eem] at this
    exact this
  have c0 : wcmp .neq 0 0 = false := by rw [hcmp]; rfl
  simp only [c0]
  cbv
  (obtain ⟨L, eL, L0, Ln⟩ : ∃ L : Int, wlen ns = L ∧ 0 ≤ L ∧ L.toNat = ns.length := ⟨(ns.length : Int), by rw [hlen], Int.natCast_nonneg _, Int.toNat_natCast _⟩)
  have hKz := hKz rfl
  have n0 : nx = [] ↔ L = 0 := by rw [← List.length_eq_zero_iff, ← hnl, ← Ln]; omega
  have blockA : (hi ≤ en ∨ nx = []) → (lo ≤ en → ∀ j, K (.tuple []) (.live 6 [gRow es ds lo hi 1 (if (16 : Int) < em2.length then 13 else 0)] :: .live 0 em2 :: j)) ∧ (en < lo → ∀ j, K (.tuple []) (.live 6 [gRow es ds lo hi 1 0] :: .live 0 em :: j)) := fun hA => by
    refine ⟨fun hlo j => ?_, fun hlo j => ?_⟩
    · have := hKz hA j
      rw [if_pos hlo, eem2] at this
      by_cases hq : 16 < (putL m [x0, x1, x2, x3]).length
      · rw [if_pos hq] at this
        rw [if_pos (by rw [heml2]; omega)]
        exact this
      · rw [if_neg hq] at this
        rw [if_neg (by rw [heml2]; omega)]
        exact this
    · have := hKz hA j
      rw [if_neg (show ¬ lo ≤ en by omega), eem, if_neg (show ¬ 16 < m.length by have := hok.few rfl; simp only at this; omega)] at this
      exact this
  obtain ⟨n1, en1⟩ : ∃ n : Int, n = em.length := ⟨_, rfl⟩
  obtain ⟨n2, en2⟩ : ∃ n : Int, n = em2.length := ⟨_, rfl⟩
  have h16 : n1 ≤ 16 := by have := hok.few rfl; simp only at this; omega
  simp only [← en2] at blockA
  have lm1 : ∀ {K' : AV → AHeap → Prop} {hp : AHeap} {c : Go.Call} {ty t kt et : TypeId} {x : Operand}, hp[1]? = some (.live 0 em) → c.callee = .builtin .len → c.args = #[x] → c.argTypes = #[t] → P.underlying t = some (.map kt et) → K' (.int .i64 n1) hp → Xo P (.call c) ty [.mapr 1] hp K' := fun h1 h2 h3 h4 h5 h6 => Xo.lenm h2 h3 h4 h5 h1 htwo n1 en1 h6
  have lm2 : ∀ {K' : AV → AHeap → Prop} {hp : AHeap} {c : Go.Call} {ty t kt et : TypeId} {x : Operand}, hp[1]? = some (.live 0 em2) → c.callee = .builtin .len → c.args = #[x] → c.argTypes = #[t] → P.underlying t = some (.map kt et) → K' (.int .i64 n2) hp → Xo P (.call c) ty [.mapr 1] hp K' := fun h1 h2 h3 h4 h5 h6 => Xo.lenm h2 h3 h4 h5 h1 htwo2 n2 en2 h6
  (split <;> rename_i h1 <;> (try (simp only [hz, Z.a, binStd, cmpStd, unStd, scmpStd, maxI, reduceCtorEq] at h1)) <;> (try cbv))
  · obtain ⟨hy, hno⟩ := blockA (.inl h1)
    clear blockA hKz
    (split <;> rename_i h3 <;> (try (simp only [hz, Z.a, binStd, cmpStd, unStd, scmpStd, maxI, reduceCtorEq] at h3)) <;> (try cbv))
    · refine Put.mk em2 rfl hput ?_
      cbv
      refine lm2 (kt := 39) (et := 3) rfl rfl rfl rfl (by rw [← hP]; kernel_rfl) ?_
      cbv
      (split <;> rename_i h4 <;> (try (simp only [hz, Z.a, binStd, cmpStd, unStd, scmpStd, maxI, reduceCtorEq] at h4)) <;> (try cbv))
      · have := hy h3 [.live 13 [[.int .i64 4, .int .i64 x0, .int .i64 x1, .int .i64 x2, .int .i64 x3, .int .i64 0, .int .i64 0, .int .i64 0, .int .i64 0, .int .i64 0, .int .i64 0, .int .i64 0, .int .i64 0]]]
        rw [if_pos (by omega)] at this
        exact this
      · have := hy h3 [.live 13 [[.int .i64 4, .int .i64 x0, .int .i64 x1, .int .i64 x2, .int .i64 x3, .int .i64 0, .int .i64 0, .int .i64 0, .int .i64 0, .int .i64 0, .int .i64 0, .int .i64 0, .int .i64 0]]]
        rw [if_neg (by omega)] at this
        exact this
    · refine lm1 (kt := 39) (et := 3) rfl rfl rfl rfl (by rw [← hP]; kernel_rfl) ?_
      cbv
      (split <;> rename_i h4 <;> (try (simp only [hz, Z.a, binStd, cmpStd, unStd, scmpStd, maxI, reduceCtorEq] at h4)) <;> (try cbv))
      · exfalso; omega
      · exact hno h3 [.live 13 [[.int .i64 4, .int .i64 x0, .int .i64 x1, .int .i64 x2, .int .i64 x3, .int .i64 0, .int .i64 0, .int .i64 0, .int .i64 0, .int .i64 0, .int .i64 0, .int .i64 0, .int .i64 0]]]
  · simp only [eL]
    (split <;> rename_i h2 <;> (try (simp only [hz, Z.a, binStd, cmpStd, unStd, scmpStd, maxI, reduceCtorEq] at h2)) <;> (try cbv))
    · obtain ⟨hy, hno⟩ := blockA (.inr (n0.2 h2))
      clear blockA hKz
      (split <;> rename_i h3 <;> (try (simp only [hz, Z.a, binStd, cmpStd, unStd, scmpStd, maxI, reduceCtorEq] at h3)) <;> (try cbv))
      · refine Put.mk em2 rfl hput ?_
        cbv
        refine lm2 (kt := 39) (et := 3) rfl rfl rfl rfl (by rw [← hP]; kernel_rfl) ?_
        cbv
        (split <;> rename_i h4 <;> (try (simp only [hz, Z.a, binStd, cmpStd, unStd, scmpStd, maxI, reduceCtorEq] at h4)) <;> (try cbv))
        · have := hy h3 [.live 13 [[.int .i64 4, .int .i64 x0, .int .i64 x1, .int .i64 x2, .int .i64 x3, .int .i64 0, .int .i64 0, .int .i64 0, .int .i64 0, .int .i64 0, .int .i64 0, .int .i64 0, .int .i64 0]]]
          rw [if_pos (by omega)] at this
          exact this
        · have := hy h3 [.live 13 [[.int .i64 4, .int .i64 x0, .int .i64 x1, .int .i64 x2, .int .i64 x3, .int .i64 0, .int .i64 0, .int .i64 0, .int .i64 0, .int .i64 0, .int .i64 0, .int .i64 0, .int .i64 0]]]
          rw [if_neg (by omega)] at this
          exact this
      · refine lm1 (kt := 39) (et := 3) rfl rfl rfl rfl (by rw [← hP]; kernel_rfl) ?_
        cbv
        (split <;> rename_i h4 <;> (try (simp only [hz, Z.a, binStd, cmpStd, unStd, scmpStd, maxI, reduceCtorEq] at h4)) <;> (try cbv))
        · exfalso; omega
        · exact hno h3 [.live 13 [[.int .i64 4, .int .i64 x0, .int .i64 x1, .int .i64 x2, .int .i64 x3, .int .i64 0, .int .i64 0, .int .i64 0, .int .i64 0, .int .i64 0, .int .i64 0, .int .i64 0, .int .i64 0]]]
    · have hK := hK
      have ck : wcmp .eql 4 12 = false := by rw [hcmp]; rfl
      have a1 : wbin .add .i64 4 1 = 5 := by rw [hbin]; rfl
      have a2 : wbin .sub .i64 5 1 = 4 := by rw [hbin]; rfl
      have hnh : ¬ (hi ≤ en ∨ nx = []) := by rw [n0]; omega
      have hen' : -1099511627776 ≤ en ∧ en ≤ 4 * 1099511627776 := hen
      have hKl : ∀ s', s' = nx.foldl (fun s n => growF ss lo hi 8 [x0, x1, x2, x3, n] (en + lenAt ss n) s) (0, m) → ∀ j, K (.tuple []) (.live 6 [gRow es ds lo hi 1 s'.1] :: .live 0 (ents s'.2) :: j) := fun s' hs' j => by
        have := hK j
        rw [if_neg (by decide), if_neg hnh] at this
        rw [hs']
        exact this
      clear hK blockA hKz lm1 lm2
      simp only [ck]
      cbv
      simp only [a1]
      repeat' (first
        | (refine RowOf.mk _ rfl ?_; cbv)
        | (simp only [a1]; cbv)
        | (refine SetRow.mk _ _ rfl rfl ?_; cbv))
      simp only [eL]
      refine Loop.dataN hw (S := Int × Int × (Int × List (List Int)) × List (List AV)) (fun s => fr 103 [(0, .ref 0 6 0 0), (2, .int .i64 en), (4, .ref 2 13 0 0), (76, .list 1 ns), (77, .int .i64 L), (78, .int .i64 s.1)])
        (fun s => [.live 6 [[.list 3 es, .list 5 ds, .int .i64 lo, .int .i64 hi, .mapr 1, .int .i64 s.2.2.1.1]], .live 0 s.2.2.2, .live 13 [[.int .i64 5, .int .i64 x0, .int .i64 x1, .int .i64 x2, .int .i64 x3, .int .i64 s.2.1, .int .i64 0, .int .i64 0, .int .i64 0, .int .i64 0, .int .i64 0, .int .i64 0, .int .i64 0]]])
        (fun s => 0 ≤ s.1 ∧ s.1 ≤ L ∧ s.2.2.1 = (nx.take s.1.toNat).foldl (fun s n => growF ss lo hi 8 [x0, x1, x2, x3, n] (en + lenAt ss n) s) (0, m) ∧ GOk s.2.2.1 ∧ (s.2.2.1.1 = 0 ∨ s.2.2.1.1 = 13) ∧ s.2.2.2 = ents s.2.2.1.2 ∧ Up0 s.2.2.2) (fun s => (L - s.1).toNat) (0, 0, (0, m), em) (by (refine Wk.eqzN (id) (by intro i hi; first | rfl | (have hh : i = 0 ∨ i = 1 := (by omega); rcases hh with hh | hh <;> subst hh <;> rfl)) (Nat.le_of_ble_eq_true rfl) (by first | exact fun i _ j _ e => e | (simp only [List.length_cons, List.length_nil]; decide)) ?_; cbv; (repeat' (first | exact trivial | rfl | assumption | apply And.intro | (simp only [hz, Z.a, binStd, cmpStd, unStd, scmpStd, maxI, reduceCtorEq]; first | done | assumption) | exact RowsZ.same (by assumption) (by first | assumption | rfl) | exact FzL.mk rfl rfl rfl (by assumption) (by first | assumption | rfl) (by decide) | (refine RowsZ.one ?_; cbv))))) ⟨Int.le_refl _, L0, rfl, hok, .inl rfl, eem.symm, hum⟩ ?_
      rintro ⟨i, y, ⟨e, m'⟩, em'⟩ hinv Q' hN hE hR'
      have hinv : 0 ≤ i ∧ i ≤ L ∧ (e, m') = (nx.take i.toNat).foldl (fun s n => growF ss lo hi 8 [x0, x1, x2, x3, n] (en + lenAt ss n) s) (0, m) ∧ GOk (e, m') ∧ (e = 0 ∨ e = 13) ∧ em' = ents m' ∧ Up0 em' := hinv
      cbv
      obtain ⟨hi0, hi1, hfold, hok', he', hem', hum'⟩ := hinv
      (split <;> rename_i hc <;> (try (simp only [hz, Z.a, binStd, cmpStd, unStd, scmpStd, maxI, reduceCtorEq] at hc)) <;> (try cbv))
      · have hit : i.toNat < nx.length := by omega
        obtain ⟨n, hn⟩ : ∃ n, nx[i.toNat]? = some n := ⟨_, List.getElem?_eq_getElem hit⟩
        have hni : ns[i.toNat]? = some (nxRow n) := by rw [← ens, List.getElem?_map, hn]; rfl
        have hnb := hnxs n (List.mem_of_getElem? hn)
        obtain ⟨sg1, hd1, hrow1⟩ := get_map (f := sgRow) (ds := ss) (i := n) hnb.1 hnb.2
        have hle : lenAt ss n = sg1.len := by unfold lenAt; rw [hd1]
        have hl1 := hln.pos sg1 (List.mem_of_getElem? hd1)
        obtain ⟨len1, pcs1, nx1⟩ := sg1
        have hl1 : 1 ≤ len1 ∧ len1 ≤ 1099511627776 := hl1
        have hle : lenAt ss n = len1 := hle
        obtain ⟨q1, eq1⟩ : ∃ x, pcs1.map pcRow = x := ⟨_, rfl⟩
        obtain ⟨q2, eq2⟩ : ∃ x, nx1.map nxRow = x := ⟨_, rfl⟩
        have hrow1 : es[n.toNat]? = some [.int .i64 len1, .list 2 q1, .list 1 q2] := by rw [hes, ← eq1, ← eq2]; exact hrow1
        have hs2 : (growF ss lo hi 8 [x0, x1, x2, x3, n] (en + len1) (e, m')) = (nx.take (i + 1).toNat).foldl (fun s n => growF ss lo hi 8 [x0, x1, x2, x3, n] (en + lenAt ss n) s) (0, m) := by
          rw [take_next hi0 hn, List.foldl_append, ← hfold, List.foldl_cons, List.foldl_nil, hle]
        have hok2 := growF_ok ss lo hi 8 [x0, x1, x2, x3, n] (en + len1) (e, m') hok' (by simp only [List.length_cons, List.length_nil]; omega)
        have he2 := growF_e ss lo hi 8 [x0, x1, x2, x3, n] (en + len1) (e, m') he'
        have a3 : wbin .add .i64 en len1 = en + len1 := by rw [hbin]; show IntKind.i64.wrap (en + len1) = en + len1; rw [IntKind.wrap_i64]; omega
        obtain ⟨en2, een2⟩ : ∃ z, z = en + len1 := ⟨_, rfl⟩
        rw [← een2] at hs2 hok2 he2 a3
        have hen2 : -1099511627776 ≤ en2 ∧ en2 ≤ lenI [x0, x1, x2, x3, n] * 1099511627776 := by simp only [lenI]; omega
        have hl2 : ∀ x, x ∈ [x0, x1, x2, x3, n] → 0 ≤ x ∧ x.toNat < ss.length := fun x hx => by
          have : x ∈ [x0, x1, x2, x3] ∨ x = n := by simpa [or_assoc] using hx
          rcases this with h | rfl
          · exact hl x h
          · exact hnb
        obtain ⟨⟨e3, m3⟩, es3⟩ : ∃ s', growF ss lo hi 8 [x0, x1, x2, x3, n] en2 (e, m') = s' := ⟨_, rfl⟩
        obtain ⟨em3, eem3⟩ : ∃ x, x = ents m3 := ⟨_, rfl⟩
        have hum3 : Up0 em3 := by rw [eem3]; exact up_ents m3
        rw [es3] at hs2 hok2 he2
        refine Idx.mk _ hi0 hni ?_
        cbv
        repeat' (first
          | (refine RowOf.mk _ rfl ?_; cbv)
          | (simp only [a2]; cbv)
          | (refine InN.mk (by decide) (by decide) ?_; cbv)
          | (refine SetRow.mk _ _ rfl rfl ?_; cbv)
          | (refine Idx.mk _ hnb.1 hrow1 ?_; cbv))
        simp only [a3]
        refine Call.of (GrowC.call hu hud (e_grow5 ss gs es ds hes hds hln hnx lo hi x0 x1 x2 x3 n) hP (sg := 0) (sm := 1) (h := [.live 6 [gRow es ds lo hi 1 e], .live 0 em', .live 13 [[.int .i64 5, .int .i64 x0, .int .i64 x1, .int .i64 x2, .int .i64 x3, .int .i64 n, .int .i64 0, .int .i64 0, .int .i64 0, .int .i64 0, .int .i64 0, .int .i64 0, .int .i64 0]]]) (by decide) rfl (by rw [← hem']; rfl) hok' he' hen2 hl2 ?_)
        rw [es3, ← eem3]
        have a4 : wbin .add .i64 i 1 = i + 1 := by rw [hbin]; show IntKind.i64.wrap (i + 1) = i + 1; rw [IntKind.wrap_i64]; omega
        cbv
        simp only [a4]
        refine hN (i + 1, n, (e3, m3), em3) _ _ (by (refine Wk.eqzN (id) (by intro i hi; first | rfl | (have hh : i = 0 ∨ i = 1 := (by omega); rcases hh with hh | hh <;> subst hh <;> rfl)) (Nat.le_of_ble_eq_true rfl) (by first | exact fun i _ j _ e => e | (simp only [List.length_cons, List.length_nil]; decide)) ?_; cbv; (repeat' (first | exact trivial | rfl | assumption | apply And.intro | (simp only [hz, Z.a, binStd, cmpStd, unStd, scmpStd, maxI, reduceCtorEq]; first | done | assumption) | exact RowsZ.same (by assumption) (by first | assumption | rfl) | exact FzL.mk rfl rfl rfl (by assumption) (by first | assumption | rfl) (by decide) | (refine RowsZ.one ?_; cbv))))) ⟨by simp only; omega, by simp only; omega, hs2, hok2, he2, eem3, hum3⟩ ?_
        simp only
        omega
      · refine hE _ _ _ ?_
        cbv
        have := hKl (e, m') (by rw [hfold, List.take_of_length_le (by omega)]) [.live 13 [[.int .i64 5, .int .i64 x0, .int .i64 x1, .int .i64 x2, .int .i64 x3, .int .i64 y, .int .i64 0, .int .i64 0, .int .i64 0, .int .i64 0, .int .i64 0, .int .i64 0, .int .i64 0]]]
        rw [← hem'] at this
        exact this
end Go.Proofs.Ytpiocfmdjgbamaa

/- route.grower.grow at depth 3. Printed by wip/tools/genroute.py. -/
namespace Go.Proofs.Ytpiocfmdjgbamaa
open Go Go.RowKit Go.Eng
set_option maxRecDepth 100000
set_option maxHeartbeats 2000000 in
theorem e_grow3 (ss : List Sg) (gs : List Gr) (es ds : List (List AV)) (hes : es = ss.map sgRow) (hds : ds = gs.map grRow) (hln : LensOk ss) (hnx : NextOk ss) (lo hi : Int) (x0 x1 x2 : Int) : GrowC ss es ds lo hi 10 [x0, x1, x2] := by
  have hu : Up0 es := by rw [hes]; exact up_sg ss
  have hud : Up0 ds := by rw [hds]; exact up_gr gs
  intro en e m hok he hen hl K hK
  have hlast := hl x2 (by simp)
  obtain ⟨sg0, hd0, hrow0⟩ := get_map (f := sgRow) (ds := ss) (i := x2) hlast.1 hlast.2
  have hnxe : nxAt ss x2 = sg0.nx := by unfold nxAt; rw [hd0]
  have hnx0 : ∀ n, n ∈ sg0.nx → 0 ≤ n ∧ n.toNat < ss.length := fun n hn => nxAt_ok hnx (by rw [hnxe]; exact hn)
  have hnx2 : sg0.nx.length ≤ 2 := by have := nxAt_two hnx x2; rw [hnxe] at this; exact this
  have hF : growF ss lo hi 10 [x0, x1, x2] en (e, m) = (if e ≠ 0 then (e, m) else if hi ≤ en ∨ sg0.nx = [] then (if 16 < (if lo ≤ en then putL m [x0, x1, x2] else m).length then 13 else 0, if lo ≤ en then putL m [x0, x1, x2] else m) else sg0.nx.foldl (fun s n => growF ss lo hi 9 [x0, x1, x2, n] (en + lenAt ss n) s) (e, m)) := by
    rw [← hnxe]; rfl
  rw [hF] at hK
  obtain ⟨len, pcs, nx⟩ := sg0
  obtain ⟨q0, eq0⟩ : ∃ x, pcs.map pcRow = x := ⟨_, rfl⟩
  obtain ⟨ns, ens⟩ : ∃ x, nx.map nxRow = x := ⟨_, rfl⟩
  have huns : Up0 ns := by rw [← ens]; exact up_nx nx
  have hnl : ns.length = nx.length := by rw [← ens]; simp
  have hrow0 : es[x2.toNat]? = some [.int .i64 len, .list 2 q0, .list 1 ns] := by rw [hes, ← eq0, ← ens]; exact hrow0
  have hput := put_ents m [x0, x1, x2] (by simp only [List.length_cons, List.length_nil]; omega) (fun j hj => (hok.all j hj).1)
  obtain ⟨em, eem⟩ : ∃ x, ents m = x := ⟨_, rfl⟩
  obtain ⟨em2, eem2⟩ : ∃ x, ents (putL m [x0, x1, x2]) = x := ⟨_, rfl⟩
  have hum : Up0 em := by rw [← eem]; exact up_ents m
  have htwo : ∀ e, e ∈ em → e.length = 2 := by rw [← eem]; exact ents_two m
  have htwo2 : ∀ e, e ∈ em2 → e.length = 2 := by rw [← eem2]; exact ents_two _
  have heml : em.length = m.length := by rw [← eem]; exact ents_len m
  have heml2 : em2.length = (putL m [x0, x1, x2]).length := by rw [← eem2]; exact ents_len _
  rw [eem, eem2] at hput
  rw [eem]
  have hnxs : ∀ n, n ∈ nx → 0 ≤ n ∧ n.toNat < ss.length := hnx0
  have hnx2 : nx.length ≤ 2 := hnx2
  show ACall Try.prog 55 [.ref 0 6 0 0, .agg [.int .i64 3, .int .i64 x0, .int .i64 x1, .int .i64 x2, .int .i64 0, .int .i64 0, .int .i64 0, .int .i64 0, .int .i64 0, .int .i64 0, .int .i64 0, .int .i64 0, .int .i64 0], .int .i64 en] [.live 6 [gRow es ds lo hi 1 e], .live 0 em] K
  (refine ACall.ofI Try.func55 (by kernel_rfl) (by kernel_rfl) fun w hw => ?_); (obtain ⟨wbin, wcmp, wun, wconv, wnot, wbeq, wmm, wscmp, wsadd, wslen, wsat, weqs, wlen, wnlen, wofNat, wtake, wdrop, wapp, wzero, wnat⟩ := w); (have hbin := Z.w1 hw); (have hcmp := Z.w2 hw); (have hun := Z.w3 hw); (have hconv := Z.w4 hw); (have hnot := Z.w5 hw); (have hbeq := Z.w6 hw); (have hmm := Z.w7 hw); (have hscmp := Z.w8 hw); (have hsadd := Z.w9 hw); (have hslen := Z.w10 hw); (have hsat := Z.w11 hw); (have heqs := Z.w12 hw); (have hlen := Z.w13 hw); (have hnlen := Z.w14 hw); (have hofNat := Z.w15 hw); (have htake := Z.w16 hw); (have hdrop := Z.w17 hw); (have happ := Z.w18 hw); (have hzero := Z.w19 hw); (have hnat := Z.w20 hw); (have hz := Z.z hw); (conv => arg 2; cbv); (generalize hP : Try.prog = P); cbv
  have s1 : wbin .sub .i64 3 1 = 2 := by rw [hbin]; rfl
  simp only [s1]
  refine InN.mk (by decide) (by decide) ?_
  cbv
  repeat' (first
    | (refine RowOf.mk _ rfl ?_; cbv)
    | (refine Idx.mk _ hlast.1 hrow0 ?_; cbv))
  have hKz : e = 0 → (hi ≤ en ∨ nx = []) → ∀ j, K (.tuple []) (.live 6 [gRow es ds lo hi 1 (if 16 < (if lo ≤ en then putL m [x0, x1, x2] else m).length then 13 else 0)] :: .live 0 (ents (if lo ≤ en then putL m [x0, x1, x2] else m)) :: j) := fun h0 hc j => by
    have := hK j
    rw [if_neg (by simp [h0]), if_pos hc] at this
    exact this
  rcases he with rfl | rfl
  rotate_left 1
  · have c0 : wcmp .neq 13 0 = true := by rw [hcmp]; rfl
    simp only [c0]
    cbv
    have := hK [.live 13 [[.int .i64 3, .int .i64 x0, .int .i64 x1, .int .i64 x2, .int .i64 0, .int .i64 0, .int .i64 0, .int .i64 0, .int .i64 0, .int .i64 0, .int .i64 0, .int .i64 0, .int .i64 0]]]
    rw [if_pos (by decide), eem] at this
    exact this
  have c0 : wcmp .neq 0 0 = false := by rw [hcmp]; rfl
  simp only [c0]
  cbv
  (obtain ⟨L, eL, L0, Ln⟩ : ∃ L : Int, wlen ns = L ∧ 0 ≤ L ∧ L.toNat = ns.length := ⟨(ns.length : Int), by rw [hlen], Int.natCast_nonneg _, Int.toNat_natCast _⟩)
  have hKz := hKz rfl
  have n0 : nx = [] ↔ L = 0 := by rw [← List.length_eq_zero_iff, ← hnl, ← Ln]; omega
  have blockA : (hi ≤ en ∨ nx = []) → (lo ≤ en → ∀ j, K (.tuple []) (.live 6 [gRow es ds lo hi 1 (if (16 : Int) < em2.length then 13 else 0)] :: .live 0 em2 :: j)) ∧ (en < lo → ∀ j, K (.tuple []) (.live 6 [gRow es ds lo hi 1 0] :: .live 0 em :: j)) := fun hA => by
    refine ⟨fun hlo j => ?_, fun hlo j => ?_⟩
    · have := hKz hA j
      rw [if_pos hlo, eem2] at this
      by_cases hq : 16 < (putL m [x0, x1, x2]).length
      · rw [if_pos hq] at this
        rw [if_pos (by rw [heml2]; omega)]
        exact this
      · rw [if_neg hq] at this
        rw [if_neg (by rw [heml2]; omega)]
        exact this
    · have := hKz hA j
      rw [if_neg (show ¬ lo ≤ en by omega), eem, if_neg (show ¬ 16 < m.length by have := hok.few rfl; simp only at this; omega)] at this
      exact this
  obtain ⟨n1, en1⟩ : ∃ n : Int, n = em.length := ⟨_, rfl⟩
  obtain ⟨n2, en2⟩ : ∃ n : Int, n = em2.length := ⟨_, rfl⟩
  have h16 : n1 ≤ 16 := by have := hok.few rfl; simp only at this; omega
  simp only [← en2] at blockA
  have lm1 : ∀ {K' : AV → AHeap → Prop} {hp : AHeap} {c : Go.Call} {ty t kt et : TypeId} {x : Operand}, hp[1]? = some (.live 0 em) → c.callee = .builtin .len → c.args = #[x] → c.argTypes = #[t] → P.underlying t = some (.map kt et) → K' (.int .i64 n1) hp → Xo P (.call c) ty [.mapr 1] hp K' := fun h1 h2 h3 h4 h5 h6 => Xo.lenm h2 h3 h4 h5 h1 htwo n1 en1 h6
  have lm2 : ∀ {K' : AV → AHeap → Prop} {hp : AHeap} {c : Go.Call} {ty t kt et : TypeId} {x : Operand}, hp[1]? = some (.live 0 em2) → c.callee = .builtin .len → c.args = #[x] → c.argTypes = #[t] → P.underlying t = some (.map kt et) → K' (.int .i64 n2) hp → Xo P (.call c) ty [.mapr 1] hp K' := fun h1 h2 h3 h4 h5 h6 => Xo.lenm h2 h3 h4 h5 h1 htwo2 n2 en2 h6
  (split <;> rename_i h1 <;> (try (simp only [hz, Z.a, binStd, cmpStd, unStd, scmpStd, maxI, reduceCtorEq] at h1)) <;> (try cbv))
  · obtain ⟨hy, hno⟩ := blockA (.inl h1)
    clear blockA hKz
    (split <;> rename_i h3 <;> (try (simp only [hz, Z.a, binStd, cmpStd, unStd, scmpStd, maxI, reduceCtorEq] at h3)) <;> (try cbv))
    · refine Put.mk em2 rfl hput ?_
      cbv
      refine lm2 (kt := 39) (et := 3) rfl rfl rfl rfl (by rw [← hP]; kernel_rfl) ?_
      cbv
      (split <;> rename_i h4 <;> (try (simp only [hz, Z.a, binStd, cmpStd, unStd, scmpStd, maxI, reduceCtorEq] at h4)) <;> (try cbv))
      · have := hy h3 [.live 13 [[.int .i64 3, .int .i64 x0, .int .i64 x1, .int .i64 x2, .int .i64 0, .int .i64 0, .int .i64 0, .int .i64 0, .int .i64 0, .int .i64 0, .int .i64 0, .int .i64 0, .int .i64 0]]]
        rw [if_pos (by omega)] at this
        exact this
      · have := hy h3 [.live 13 [[.int .i64 3, .int .i64 x0, .int .i64 x1, .int .i64 x2, .int .i64 0, .int .i64 0, .int .i64 0, .int .i64 0, .int .i64 0, .int .i64 0, .int .i64 0, .int .i64 0, .int .i64 0]]]
        rw [if_neg (by omega)] at this
        exact this
    · refine lm1 (kt := 39) (et := 3) rfl rfl rfl rfl (by rw [← hP]; kernel_rfl) ?_
      cbv
      (split <;> rename_i h4 <;> (try (simp only [hz, Z.a, binStd, cmpStd, unStd, scmpStd, maxI, reduceCtorEq] at h4)) <;> (try cbv))
      · exfalso; omega
      · exact hno h3 [.live 13 [[.int .i64 3, .int .i64 x0, .int .i64 x1, .int .i64 x2, .int .i64 0, .int .i64 0, .int .i64 0, .int .i64 0, .int .i64 0, .int .i64 0, .int .i64 0, .int .i64 0, .int .i64 0]]]
  · simp only [eL]
    (split <;> rename_i h2 <;> (try (simp only [hz, Z.a, binStd, cmpStd, unStd, scmpStd, maxI, reduceCtorEq] at h2)) <;> (try cbv))
    · obtain ⟨hy, hno⟩ := blockA (.inr (n0.2 h2))
      clear blockA hKz
      (split <;> rename_i h3 <;> (try (simp only [hz, Z.a, binStd, cmpStd, unStd, scmpStd, maxI, reduceCtorEq] at h3)) <;> (try cbv))
      · refine Put.mk em2 rfl hput ?_
        cbv
        refine lm2 (kt := 39) (et := 3) rfl rfl rfl rfl (by rw [← hP]; kernel_rfl) ?_
        cbv
        (split <;> rename_i h4 <;> (try (simp only [hz, Z.a, binStd, cmpStd, unStd, scmpStd, maxI, reduceCtorEq] at h4)) <;> (try cbv))
        · have := hy h3 [.live 13 [[.int .i64 3, .int .i64 x0, .int .i64 x1, .int .i64 x2, .int .i64 0, .int .i64 0, .int .i64 0, .int .i64 0, .int .i64 0, .int .i64 0, .int .i64 0, .int .i64 0, .int .i64 0]]]
          rw [if_pos (by omega)] at this
          exact this
        · have := hy h3 [.live 13 [[.int .i64 3, .int .i64 x0, .int .i64 x1, .int .i64 x2, .int .i64 0, .int .i64 0, .int .i64 0, .int .i64 0, .int .i64 0, .int .i64 0, .int .i64 0, .int .i64 0, .int .i64 0]]]
          rw [if_neg (by omega)] at this
          exact this
      · refine lm1 (kt := 39) (et := 3) rfl rfl rfl rfl (by rw [← hP]; kernel_rfl) ?_
        cbv
        (split <;> rename_i h4 <;> (try (simp only [hz, Z.a, binStd, cmpStd, unStd, scmpStd, maxI, reduceCtorEq] at h4)) <;> (try cbv))
        · exfalso; omega
        · exact hno h3 [.live 13 [[.int .i64 3, .int .i64 x0, .int .i64 x1, .int .i64 x2, .int .i64 0, .int .i64 0, .int .i64 0, .int .i64 0, .int .i64 0, .int .i64 0, .int .i64 0, .int .i64 0, .int .i64 0]]]
    · have hK := hK
      have ck : wcmp .eql 3 12 = false := by rw [hcmp]; rfl
      have a1 : wbin .add .i64 3 1 = 4 := by rw [hbin]; rfl
      have a2 : wbin .sub .i64 4 1 = 3 := by rw [hbin]; rfl
      have hnh : ¬ (hi ≤ en ∨ nx = []) := by rw [n0]; omega
      have hen' : -1099511627776 ≤ en ∧ en ≤ 3 * 1099511627776 := hen
      have hKl : ∀ s', s' = nx.foldl (fun s n => growF ss lo hi 9 [x0, x1, x2, n] (en + lenAt ss n) s) (0, m) → ∀ j, K (.tuple []) (.live 6 [gRow es ds lo hi 1 s'.1] :: .live 0 (ents s'.2) :: j) := fun s' hs' j => by
        have := hK j
        rw [if_neg (by decide), if_neg hnh] at this
        rw [hs']
        exact this
      clear hK blockA hKz lm1 lm2
      simp only [ck]
      cbv
      simp only [a1]
      repeat' (first
        | (refine RowOf.mk _ rfl ?_; cbv)
        | (simp only [a1]; cbv)
        | (refine SetRow.mk _ _ rfl rfl ?_; cbv))
      simp only [eL]
      refine Loop.dataN hw (S := Int × Int × (Int × List (List Int)) × List (List AV)) (fun s => fr 103 [(0, .ref 0 6 0 0), (2, .int .i64 en), (4, .ref 2 13 0 0), (76, .list 1 ns), (77, .int .i64 L), (78, .int .i64 s.1)])
        (fun s => [.live 6 [[.list 3 es, .list 5 ds, .int .i64 lo, .int .i64 hi, .mapr 1, .int .i64 s.2.2.1.1]], .live 0 s.2.2.2, .live 13 [[.int .i64 4, .int .i64 x0, .int .i64 x1, .int .i64 x2, .int .i64 s.2.1, .int .i64 0, .int .i64 0, .int .i64 0, .int .i64 0, .int .i64 0, .int .i64 0, .int .i64 0, .int .i64 0]]])
        (fun s => 0 ≤ s.1 ∧ s.1 ≤ L ∧ s.2.2.1 = (nx.take s.1.toNat).foldl (fun s n => growF ss lo hi 9 [x0, x1, x2, n] (en + lenAt ss n) s) (0, m) ∧ GOk s.2.2.1 ∧ (s.2.2.1.1 = 0 ∨ s.2.2.1.1 = 13) ∧ s.2.2.2 = ents s.2.2.1.2 ∧ Up0 s.2.2.2) (fun s => (L - s.1).toNat) (0, 0, (0, m), em) (by (refine Wk.eqzN (id) (by intro i hi; first | rfl | (have hh : i = 0 ∨ i = 1 := (by omega); rcases hh with hh | hh <;> subst hh <;> rfl)) (Nat.le_of_ble_eq_true rfl) (by first | exact fun i _ j _ e => e | (simp only [List.length_cons, List.length_nil]; decide)) ?_; cbv; (repeat' (first | exact trivial | rfl | assumption | apply And.intro | (simp only [hz, Z.a, binStd, cmpStd, unStd, scmpStd, maxI, reduceCtorEq]; first | done | assumption) | exact RowsZ.same (by assumption) (by first | assumption | rfl) | exact FzL.mk rfl rfl rfl (by assumption) (by first | assumption | rfl) (by decide) | (refine RowsZ.one ?_; cbv))))) ⟨Int.le_refl _, L0, rfl, hok, .inl rfl, eem.symm, hum⟩ ?_
      rintro ⟨i, y, ⟨e, m'⟩, em'⟩ hinv Q' hN hE hR'
      have hinv : 0 ≤ i ∧ i ≤ L ∧ (e, m') = (nx.take i.toNat).foldl (fun s n => growF ss lo hi 9 [x0, x1, x2, n] (en + lenAt ss n) s) (0, m) ∧ GOk (e, m') ∧ (e = 0 ∨ e = 13) ∧ em' = ents m' ∧ Up0 em' := hinv
      cbv
      obtain ⟨hi0, hi1, hfold, hok', he', hem', hum'⟩ := hinv
      (split <;> rename_i hc <;> (try (simp only [hz, Z.a, binStd, cmpStd, unStd, scmpStd, maxI, reduceCtorEq] at hc)) <;> (try cbv))
      · have hit : i.toNat < nx.length := by omega
        obtain ⟨n, hn⟩ : ∃ n, nx[i.toNat]? = some n := ⟨_, List.getElem?_eq_getElem hit⟩
        have hni : ns[i.toNat]? = some (nxRow n) := by rw [← ens, List.getElem?_map, hn]; rfl
        have hnb := hnxs n (List.mem_of_getElem? hn)
        obtain ⟨sg1, hd1, hrow1⟩ := get_map (f := sgRow) (ds := ss) (i := n) hnb.1 hnb.2
        have hle : lenAt ss n = sg1.len := by unfold lenAt; rw [hd1]
        have hl1 := hln.pos sg1 (List.mem_of_getElem? hd1)
        obtain ⟨len1, pcs1, nx1⟩ := sg1
        have hl1 : 1 ≤ len1 ∧ len1 ≤ 1099511627776 := hl1
        have hle : lenAt ss n = len1 := hle
        obtain ⟨q1, eq1⟩ : ∃ x, pcs1.map pcRow = x := ⟨_, rfl⟩
        obtain ⟨q2, eq2⟩ : ∃ x, nx1.map nxRow = x := ⟨_, rfl⟩
        have hrow1 : es[n.toNat]? = some [.int .i64 len1, .list 2 q1, .list 1 q2] := by rw [hes, ← eq1, ← eq2]; exact hrow1
        have hs2 : (growF ss lo hi 9 [x0, x1, x2, n] (en + len1) (e, m')) = (nx.take (i + 1).toNat).foldl (fun s n => growF ss lo hi 9 [x0, x1, x2, n] (en + lenAt ss n) s) (0, m) := by
          rw [take_next hi0 hn, List.foldl_append, ← hfold, List.foldl_cons, List.foldl_nil, hle]
        have hok2 := growF_ok ss lo hi 9 [x0, x1, x2, n] (en + len1) (e, m') hok' (by simp only [List.length_cons, List.length_nil]; omega)
        have he2 := growF_e ss lo hi 9 [x0, x1, x2, n] (en + len1) (e, m') he'
        have a3 : wbin .add .i64 en len1 = en + len1 := by rw [hbin]; show IntKind.i64.wrap (en + len1) = en + len1; rw [IntKind.wrap_i64]; omega
        obtain ⟨en2, een2⟩ : ∃ z, z = en + len1 := ⟨_, rfl⟩
        rw [← een2] at hs2 hok2 he2 a3
        have hen2 : -1099511627776 ≤ en2 ∧ en2 ≤ lenI [x0, x1, x2, n] * 1099511627776 := by simp only [lenI]; omega
        have hl2 : ∀ x, x ∈ [x0, x1, x2, n] → 0 ≤ x ∧ x.toNat < ss.length := fun x hx => by
          have : x ∈ [x0, x1, x2] ∨ x = n := by simpa [or_assoc] using hx
          rcases this with h | rfl
          · exact hl x h
          · exact hnb
        obtain ⟨⟨e3, m3⟩, es3⟩ : ∃ s', growF ss lo hi 9 [x0, x1, x2, n] en2 (e, m') = s' := ⟨_, rfl⟩
        obtain ⟨em3, eem3⟩ : ∃ x, x = ents m3 := ⟨_, rfl⟩
        have hum3 : Up0 em3 := by rw [eem3]; exact up_ents m3
        rw [es3] at hs2 hok2 he2
        refine Idx.mk _ hi0 hni ?_
        cbv
        repeat' (first
          | (refine RowOf.mk _ rfl ?_; cbv)
          | (simp only [a2]; cbv)
          | (refine InN.mk (by decide) (by decide) ?_; cbv)
          | (refine SetRow.mk _ _ rfl rfl ?_; cbv)
          | (refine Idx.mk _ hnb.1 hrow1 ?_; cbv))
        simp only [a3]
        refine Call.of (GrowC.call hu hud (e_grow4 ss gs es ds hes hds hln hnx lo hi x0 x1 x2 n) hP (sg := 0) (sm := 1) (h := [.live 6 [gRow es ds lo hi 1 e], .live 0 em', .live 13 [[.int .i64 4, .int .i64 x0, .int .i64 x1, .int .i64 x2, .int .i64 n, .int .i64 0, .int .i64 0, .int .i64 0, .int .i64 0, .int .i64 0, .int .i64 0, .int .i64 0, .int .i64 0]]]) (by decide) rfl (by rw [← hem']; rfl) hok' he' hen2 hl2 ?_)
        rw [es3, ← eem3]
        have a4 : wbin .add .i64 i 1 = i + 1 := by rw [hbin]; show IntKind.i64.wrap (i + 1) = i + 1; rw [IntKind.wrap_i64]; omega
        cbv
        simp only [a4]
        refine hN (i + 1, n, (e3, m3), em3) _ _ (by (refine Wk.eqzN (id) (by intro i hi; first | rfl | (have hh : i = 0 ∨ i = 1 := (by omega); rcases hh with hh | hh <;> subst hh <;> rfl)) (Nat.le_of_ble_eq_true rfl) (by first | exact fun i _ j _ e => e | (simp only [List.length_cons, List.length_nil]; decide)) ?_; cbv; (repeat' (first | exact trivial | rfl | assumption | apply And.intro | (simp only [hz, Z.a, binStd, cmpStd, unStd, scmpStd, maxI, reduceCtorEq]; first | done | assumption) | exact RowsZ.same (by assumption) (by first | assumption | rfl) | exact FzL.mk rfl rfl rfl (by assumption) (by first | assumption | rfl) (by decide) | (refine RowsZ.one ?_; cbv))))) ⟨by simp only; omega, by simp only; omega, hs2, hok2, he2, eem3, hum3⟩ ?_
        simp only
        omega
      · refine hE _ _ _ ?_
        cbv
        have := hKl (e, m') (by rw [hfold, List.take_of_length_le (by omega)]) [.live 13 [[.int .i64 4, .int .i64 x0, .int .i64 x1, .int .i64 x2, .int .i64 y, .int .i64 0, .int .i64 0, .int .i64 0, .int .i64 0, .int .i64 0, .int .i64 0, .int .i64 0, .int .i64 0]]]
        rw [← hem'] at this
        exact this
end Go.Proofs.Ytpiocfmdjgbamaa

/- route.grower.grow at depth 2. Printed by wip/tools/genroute.py. -/
namespace Go.Proofs.Ytpiocfmdjgbamaa
open Go Go.RowKit Go.Eng
set_option maxRecDepth 100000
set_option maxHeartbeats 2000000 in
theorem e_grow2 (ss : List Sg) (gs : List Gr) (es ds : List (List AV)) (hes : es = ss.map sgRow) (hds : ds = gs.map grRow) (hln : LensOk ss) (hnx : NextOk ss) (lo hi : Int) (x0 x1 : Int) : GrowC ss es ds lo hi 11 [x0, x1] := by
  have hu : Up0 es := by rw [hes]; exact up_sg ss
  have hud : Up0 ds := by rw [hds]; exact up_gr gs
  intro en e m hok he hen hl K hK
  have hlast := hl x1 (by simp)
  obtain ⟨sg0, hd0, hrow0⟩ := get_map (f := sgRow) (ds := ss) (i := x1) hlast.1 hlast.2
  have hnxe : nxAt ss x1 = sg0.nx := by unfold nxAt; rw [hd0]
  have hnx0 : ∀ n, n ∈ sg0.nx → 0 ≤ n ∧ n.toNat < ss.length := fun n hn => nxAt_ok hnx (by rw [hnxe]; exact hn)
  have hnx2 : sg0.nx.length ≤ 2 := by have := nxAt_two hnx x1; rw [hnxe] at this; exact this
  have hF : growF ss lo hi 11 [x0, x1] en (e, m) = (if e ≠ 0 then (e, m) else if hi ≤ en ∨ sg0.nx = [] then (if 16 < (if lo ≤ en then putL m [x0, x1] else m).length then 13 else 0, if lo ≤ en then putL m [x0, x1] else m) else sg0.nx.foldl (fun s n => growF ss lo hi 10 [x0, x1, n] (en + lenAt ss n) s) (e, m)) := by
    rw [← hnxe]; rfl
  rw [hF] at hK
  obtain ⟨len, pcs, nx⟩ := sg0
  obtain ⟨q0, eq0⟩ : ∃ x, pcs.map pcRow = x := ⟨_, rfl⟩
  obtain ⟨ns, ens⟩ : ∃ x, nx.map nxRow = x := ⟨_, rfl⟩
  have huns : Up0 ns := by rw [← ens]; exact up_nx nx
  have hnl : ns.length = nx.length := by rw [← ens]; simp
  have hrow0 : es[x1.toNat]? = some [.int .i64 len, .list 2 q0, .list 1 ns] := by rw [hes, ← eq0, ← ens]; exact hrow0
  have hput := put_ents m [x0, x1] (by simp only [List.length_cons, List.length_nil]; omega) (fun j hj => (hok.all j hj).1)
  obtain ⟨em, eem⟩ : ∃ x, ents m = x := ⟨_, rfl⟩
  obtain ⟨em2, eem2⟩ : ∃ x, ents (putL m [x0, x1]) = x := ⟨_, rfl⟩
  have hum : Up0 em := by rw [← eem]; exact up_ents m
  have htwo : ∀ e, e ∈ em → e.length = 2 := by rw [← eem]; exact ents_two m
  have htwo2 : ∀ e, e ∈ em2 → e.length = 2 := by rw [← eem2]; exact ents_two _
  have heml : em.length = m.length := by rw [← eem]; exact ents_len m
  have heml2 : em2.length = (putL m [x0, x1]).length := by rw [← eem2]; exact ents_len _
  rw [eem, eem2] at hput
  rw [eem]
  have hnxs : ∀ n, n ∈ nx → 0 ≤ n ∧ n.toNat < ss.length := hnx0
  have hnx2 : nx.length ≤ 2 := hnx2
  show ACall Try.prog 55 [.ref 0 6 0 0, .agg [.int .i64 2, .int .i64 x0, .int .i64 x1, .int .i64 0, .int .i64 0, .int .i64 0, .int .i64 0, .int .i64 0, .int .i64 0, .int .i64 0, .int .i64 0, .int .i64 0, .int .i64 0], .int .i64 en] [.live 6 [gRow es ds lo hi 1 e], .live 0 em] K
  (refine ACall.ofI Try.func55 (by kernel_rfl) (by kernel_rfl) fun w hw => ?_); (obtain ⟨wbin, wcmp, wun, wconv, wnot, wbeq, wmm, wscmp, wsadd, wslen, wsat, weqs, wlen, wnlen, wofNat, wtake, wdrop, wapp, wzero, wnat⟩ := w); (have hbin := Z.w1 hw); (have hcmp := Z.w2 hw); (have hun := Z.w3 hw); (have hconv := Z.w4 hw); (have hnot := Z.w5 hw); (have hbeq := Z.w6 hw); (have hmm := Z.w7 hw); (have hscmp := Z.w8 hw); (have hsadd := Z.w9 hw); (have hslen := Z.w10 hw); (have hsat := Z.w11 hw); (have heqs := Z.w12 hw); (have hlen := Z.w13 hw); (have hnlen := Z.w14 hw); (have hofNat := Z.w15 hw); (have htake := Z.w16 hw); (have hdrop := Z.w17 hw); (have happ := Z.w18 hw); (have hzero := Z.w19 hw); (have hnat := Z.w20 hw); (have hz := Z.z hw); (conv => arg 2; cbv); (generalize hP : Try.prog = P); cbv
  have s1 : wbin .sub .i64 2 1 = 1 := by rw [hbin]; rfl
  simp only [s1]
  refine InN.mk (by decide) (by decide) ?_
  cbv
  repeat' (first
    | (refine RowOf.mk _ rfl ?_; cbv)
    | (refine Idx.mk _ hlast.1 hrow0 ?_; cbv))
  have hKz : e = 0 → (hi ≤ en ∨ nx = []) → ∀ j, K (.tuple []) (.live 6 [gRow es ds lo hi 1 (if 16 < (if lo ≤ en then putL m [x0, x1] else m).length then 13 else 0)] :: .live 0 (ents (if lo ≤ en then putL m [x0, x1] else m)) :: j) := fun h0 hc j => by
    have := hK j
    rw [if_neg (by simp [h0]), if_pos hc] at this
    exact this
  rcases he with rfl | rfl
  rotate_left 1
  · have c0 : wcmp .neq 13 0 = true := by rw [hcmp]; rfl
    simp only [c0]
    cbv
    have := hK [.live 13 [[.int .i64 2, .int .i64 x0, .int .i64 x1, .int .i64 0, .int .i64 0, .int .i64 0, .int .i64 0, .int .i64 0, .int .i64 0, .int .i64 0, .int .i64 0, .int .i64 0, .int .i64 0]]]
    rw [if_pos (by decide), eem] at this
    exact this
  have c0 : wcmp .neq 0 0 = false := by rw [hcmp]; rfl
  simp only [c0]
  cbv
  (obtain ⟨L, eL, L0, Ln⟩ : ∃ L : Int, wlen ns = L ∧ 0 ≤ L ∧ L.toNat = ns.length := ⟨(ns.length : Int), by rw [hlen], Int.natCast_nonneg _, Int.toNat_natCast _⟩)
  have hKz := hKz rfl
  have n0 : nx = [] ↔ L = 0 := by rw [← List.length_eq_zero_iff, ← hnl, ← Ln]; omega
  have blockA : (hi ≤ en ∨ nx = []) → (lo ≤ en → ∀ j, K (.tuple []) (.live 6 [gRow es ds lo hi 1 (if (16 : Int) < em2.length then 13 else 0)] :: .live 0 em2 :: j)) ∧ (en < lo → ∀ j, K (.tuple []) (.live 6 [gRow es ds lo hi 1 0] :: .live 0 em :: j)) := fun hA => by
    refine ⟨fun hlo j => ?_, fun hlo j => ?_⟩
    · have := hKz hA j
      rw [if_pos hlo, eem2] at this
      by_cases hq : 16 < (putL m [x0, x1]).length
      · rw [if_pos hq] at this
        rw [if_pos (by rw [heml2]; omega)]
        exact this
      · rw [if_neg hq] at this
        rw [if_neg (by rw [heml2]; omega)]
        exact this
    · have := hKz hA j
      rw [if_neg (show ¬ lo ≤ en by omega), eem, if_neg (show ¬ 16 < m.length by have := hok.few rfl; simp only at this; omega)] at this
      exact this
  obtain ⟨n1, en1⟩ : ∃ n : Int, n = em.length := ⟨_, rfl⟩
  obtain ⟨n2, en2⟩ : ∃ n : Int, n = em2.length := ⟨_, rfl⟩
  have h16 : n1 ≤ 16 := by have := hok.few rfl; simp only at this; omega
  simp only [← en2] at blockA
  have lm1 : ∀ {K' : AV → AHeap → Prop} {hp : AHeap} {c : Go.Call} {ty t kt et : TypeId} {x : Operand}, hp[1]? = some (.live 0 em) → c.callee = .builtin .len → c.args = #[x] → c.argTypes = #[t] → P.underlying t = some (.map kt et) → K' (.int .i64 n1) hp → Xo P (.call c) ty [.mapr 1] hp K' := fun h1 h2 h3 h4 h5 h6 => Xo.lenm h2 h3 h4 h5 h1 htwo n1 en1 h6
  have lm2 : ∀ {K' : AV → AHeap → Prop} {hp : AHeap} {c : Go.Call} {ty t kt et : TypeId} {x : Operand}, hp[1]? = some (.live 0 em2) → c.callee = .builtin .len → c.args = #[x] → c.argTypes = #[t] → P.underlying t = some (.map kt et) → K' (.int .i64 n2) hp → Xo P (.call c) ty [.mapr 1] hp K' := fun h1 h2 h3 h4 h5 h6 => Xo.lenm h2 h3 h4 h5 h1 htwo2 n2 en2 h6
  (split <;> rename_i h1 <;> (try (simp only [hz, Z.a, binStd, cmpStd, unStd, scmpStd, maxI, reduceCtorEq] at h1)) <;> (try cbv))
  · obtain ⟨hy, hno⟩ := blockA (.inl h1)
    clear blockA hKz
    (split <;> rename_i h3 <;> (try (simp only [hz, Z.a, binStd, cmpStd, unStd, scmpStd, maxI, reduceCtorEq] at h3)) <;> (try cbv))
    · refine Put.mk em2 rfl hput ?_
      cbv
      refine lm2 (kt := 39) (et := 3) rfl rfl rfl rfl (by rw [← hP]; kernel_rfl) ?_
      cbv
      (split <;> rename_i h4 <;> (try (simp only [hz, Z.a, binStd, cmpStd, unStd, scmpStd, maxI, reduceCtorEq] at h4)) <;> (try cbv))
      · have := hy h3 [.live 13 [[.int .i64 2, .int .i64 x0, .int .i64 x1, .int .i64 0, .int .i64 0, .int .i64 0, .int .i64 0, .int .i64 0, .int .i64 0, .int .i64 0, .int .i64 0, .int .i64 0, .int .i64 0]]]
        rw [if_pos (by omega)] at this
        exact this
      · have := hy h3 [.live 13 [[.int .i64 2, .int .i64 x0, .int .i64 x1, .int .i64 0, .int .i64 0, .int .i64 0, .int .i64 0, .int .i64 0, .int .i64 0, .int .i64 0, .int .i64 0, .int .i64 0, .int .i64 0]]]
        rw [if_neg (by omega)] at this
        exact this
    · refine lm1 (kt := 39) (et := 3) rfl rfl rfl rfl (by rw [← hP]; kernel_rfl) ?_
      cbv
      (split <;> rename_i h4 <;> (try (simp only [hz, Z.a, binStd, cmpStd, unStd, scmpStd, maxI, reduceCtorEq] at h4)) <;> (try cbv))
      · exfalso; omega
      · exact hno h3 [.live 13 [[.int .i64 2, .int .i64 x0, .int .i64 x1, .int .i64 0, .int .i64 0, .int .i64 0, .int .i64 0, .int .i64 0, .int .i64 0, .int .i64 0, .int .i64 0, .int .i64 0, .int .i64 0]]]
  · simp only [eL]
    (split <;> rename_i h2 <;> (try (simp only [hz, Z.a, binStd, cmpStd, unStd, scmpStd, maxI, reduceCtorEq] at h2)) <;> (try cbv))
    · obtain ⟨hy, hno⟩ := blockA (.inr (n0.2 h2))
      clear blockA hKz
      (split <;> rename_i h3 <;> (try (simp only [hz, Z.a, binStd, cmpStd, unStd, scmpStd, maxI, reduceCtorEq] at h3)) <;> (try cbv))
      · refine Put.mk em2 rfl hput ?_
        cbv
        refine lm2 (kt := 39) (et := 3) rfl rfl rfl rfl (by rw [← hP]; kernel_rfl) ?_
        cbv
        (split <;> rename_i h4 <;> (try (simp only [hz, Z.a, binStd, cmpStd, unStd, scmpStd, maxI, reduceCtorEq] at h4)) <;> (try cbv))
        · have := hy h3 [.live 13 [[.int .i64 2, .int .i64 x0, .int .i64 x1, .int .i64 0, .int .i64 0, .int .i64 0, .int .i64 0, .int .i64 0, .int .i64 0, .int .i64 0, .int .i64 0, .int .i64 0, .int .i64 0]]]
          rw [if_pos (by omega)] at this
          exact this
        · have := hy h3 [.live 13 [[.int .i64 2, .int .i64 x0, .int .i64 x1, .int .i64 0, .int .i64 0, .int .i64 0, .int .i64 0, .int .i64 0, .int .i64 0, .int .i64 0, .int .i64 0, .int .i64 0, .int .i64 0]]]
          rw [if_neg (by omega)] at this
          exact this
      · refine lm1 (kt := 39) (et := 3) rfl rfl rfl rfl (by rw [← hP]; kernel_rfl) ?_
        cbv
        (split <;> rename_i h4 <;> (try (simp only [hz, Z.a, binStd, cmpStd, unStd, scmpStd, maxI, reduceCtorEq] at h4)) <;> (try cbv))
        · exfalso; omega
        · exact hno h3 [.live 13 [[.int .i64 2, .int .i64 x0, .int .i64 x1, .int .i64 0, .int .i64 0, .int .i64 0, .int .i64 0, .int .i64 0, .int .i64 0, .int .i64 0, .int .i64 0, .int .i64 0, .int .i64 0]]]
    · have hK := hK
      have ck : wcmp .eql 2 12 = false := by rw [hcmp]; rfl
      have a1 : wbin .add .i64 2 1 = 3 := by rw [hbin]; rfl
      have a2 : wbin .sub .i64 3 1 = 2 := by rw [hbin]; rfl
      have hnh : ¬ (hi ≤ en ∨ nx = []) := by rw [n0]; omega
      have hen' : -1099511627776 ≤ en ∧ en ≤ 2 * 1099511627776 := hen
      have hKl : ∀ s', s' = nx.foldl (fun s n => growF ss lo hi 10 [x0, x1, n] (en + lenAt ss n) s) (0, m) → ∀ j, K (.tuple []) (.live 6 [gRow es ds lo hi 1 s'.1] :: .live 0 (ents s'.2) :: j) := fun s' hs' j => by
        have := hK j
        rw [if_neg (by decide), if_neg hnh] at this
        rw [hs']
        exact this
      clear hK blockA hKz lm1 lm2
      simp only [ck]
      cbv
      simp only [a1]
      repeat' (first
        | (refine RowOf.mk _ rfl ?_; cbv)
        | (simp only [a1]; cbv)
        | (refine SetRow.mk _ _ rfl rfl ?_; cbv))
      simp only [eL]
      refine Loop.dataN hw (S := Int × Int × (Int × List (List Int)) × List (List AV)) (fun s => fr 103 [(0, .ref 0 6 0 0), (2, .int .i64 en), (4, .ref 2 13 0 0), (76, .list 1 ns), (77, .int .i64 L), (78, .int .i64 s.1)])
        (fun s => [.live 6 [[.list 3 es, .list 5 ds, .int .i64 lo, .int .i64 hi, .mapr 1, .int .i64 s.2.2.1.1]], .live 0 s.2.2.2, .live 13 [[.int .i64 3, .int .i64 x0, .int .i64 x1, .int .i64 s.2.1, .int .i64 0, .int .i64 0, .int .i64 0, .int .i64 0, .int .i64 0, .int .i64 0, .int .i64 0, .int .i64 0, .int .i64 0]]])
        (fun s => 0 ≤ s.1 ∧ s.1 ≤ L ∧ s.2.2.1 = (nx.take s.1.toNat).foldl (fun s n => growF ss lo hi 10 [x0, x1, n] (en + lenAt ss n) s) (0, m) ∧ GOk s.2.2.1 ∧ (s.2.2.1.1 = 0 ∨ s.2.2.1.1 = 13) ∧ s.2.2.2 = ents s.2.2.1.2 ∧ Up0 s.2.2.2) (fun s => (L - s.1).toNat) (0, 0, (0, m), em) (by (refine Wk.eqzN (id) (by intro i hi; first | rfl | (have hh : i = 0 ∨ i = 1 := (by omega); rcases hh with hh | hh <;> subst hh <;> rfl)) (Nat.le_of_ble_eq_true rfl) (by first | exact fun i _ j _ e => e | (simp only [List.length_cons, List.length_nil]; decide)) ?_; cbv; (repeat' (first | exact trivial | rfl | assumption | apply And.intro | (simp only [hz, Z.a, binStd, cmpStd, unStd, scmpStd, maxI, reduceCtorEq]; first | done | assumption) | exact RowsZ.same (by assumption) (by first | assumption | rfl) | exact FzL.mk rfl rfl rfl (by assumption) (by first | assumption | rfl) (by decide) | (refine RowsZ.one ?_; cbv))))) ⟨Int.le_refl _, L0, rfl, hok, .inl rfl, eem.symm, hum⟩ ?_
      rintro ⟨i, y, ⟨e, m'⟩, em'⟩ hinv Q' hN hE hR'
      have hinv : 0 ≤ i ∧ i ≤ L ∧ (e, m') = (nx.take i.toNat).foldl (fun s n => growF ss lo hi 10 [x0, x1, n] (en + lenAt ss n) s) (0, m) ∧ GOk (e, m') ∧ (e = 0 ∨ e = 13) ∧ em' = ents m' ∧ Up0 em' := hinv
      cbv
      obtain ⟨hi0, hi1, hfold, hok', he', hem', hum'⟩ := hinv
      (split <;> rename_i hc <;> (try (simp only [hz, Z.a, binStd, cmpStd, unStd, scmpStd, maxI, reduceCtorEq] at hc)) <;> (try cbv))
      · have hit : i.toNat < nx.length := by omega
        obtain ⟨n, hn⟩ : ∃ n, nx[i.toNat]? = some n := ⟨_, List.getElem?_eq_getElem hit⟩
        have hni : ns[i.toNat]? = some (nxRow n) := by rw [← ens, List.getElem?_map, hn]; rfl
        have hnb := hnxs n (List.mem_of_getElem? hn)
        obtain ⟨sg1, hd1, hrow1⟩ := get_map (f := sgRow) (ds := ss) (i := n) hnb.1 hnb.2
        have hle : lenAt ss n = sg1.len := by unfold lenAt; rw [hd1]
        have hl1 := hln.pos sg1 (List.mem_of_getElem? hd1)
        obtain ⟨len1, pcs1, nx1⟩ := sg1
        have hl1 : 1 ≤ len1 ∧ len1 ≤ 1099511627776 := hl1
        have hle : lenAt ss n = len1 := hle
        obtain ⟨q1, eq1⟩ : ∃ x, pcs1.map pcRow = x := ⟨_, rfl⟩
        obtain ⟨q2, eq2⟩ : ∃ x, nx1.map nxRow = x := ⟨_, rfl⟩
        have hrow1 : es[n.toNat]? = some [.int .i64 len1, .list 2 q1, .list 1 q2] := by rw [hes, ← eq1, ← eq2]; exact hrow1
        have hs2 : (growF ss lo hi 10 [x0, x1, n] (en + len1) (e, m')) = (nx.take (i + 1).toNat).foldl (fun s n => growF ss lo hi 10 [x0, x1, n] (en + lenAt ss n) s) (0, m) := by
          rw [take_next hi0 hn, List.foldl_append, ← hfold, List.foldl_cons, List.foldl_nil, hle]
        have hok2 := growF_ok ss lo hi 10 [x0, x1, n] (en + len1) (e, m') hok' (by simp only [List.length_cons, List.length_nil]; omega)
        have he2 := growF_e ss lo hi 10 [x0, x1, n] (en + len1) (e, m') he'
        have a3 : wbin .add .i64 en len1 = en + len1 := by rw [hbin]; show IntKind.i64.wrap (en + len1) = en + len1; rw [IntKind.wrap_i64]; omega
        obtain ⟨en2, een2⟩ : ∃ z, z = en + len1 := ⟨_, rfl⟩
        rw [← een2] at hs2 hok2 he2 a3
        have hen2 : -1099511627776 ≤ en2 ∧ en2 ≤ lenI [x0, x1, n] * 1099511627776 := by simp only [lenI]; omega
        have hl2 : ∀ x, x ∈ [x0, x1, n] → 0 ≤ x ∧ x.toNat < ss.length := fun x hx => by
          have : x ∈ [x0, x1] ∨ x = n := by simpa [or_assoc] using hx
          rcases this with h | rfl
          · exact hl x h
          · exact hnb
        obtain ⟨⟨e3, m3⟩, es3⟩ : ∃ s', growF ss lo hi 10 [x0, x1, n] en2 (e, m') = s' := ⟨_, rfl⟩
        obtain ⟨em3, eem3⟩ : ∃ x, x = ents m3 := ⟨_, rfl⟩
        have hum3 : Up0 em3 := by rw [eem3]; exact up_ents m3
        rw [es3] at hs2 hok2 he2
        refine Idx.mk _ hi0 hni ?_
        cbv
        repeat' (first
          | (refine RowOf.mk _ rfl ?_; cbv)
          | (simp only [a2]; cbv)
          | (refine InN.mk (by decide) (by decide) ?_; cbv)
          | (refine SetRow.mk _ _ rfl rfl ?_; cbv)
          | (refine Idx.mk _ hnb.1 hrow1 ?_; cbv))
        simp only [a3]
        refine Call.of (GrowC.call hu hud (e_grow3 ss gs es ds hes hds hln hnx lo hi x0 x1 n) hP (sg := 0) (sm := 1) (h := [.live 6 [gRow es ds lo hi 1 e], .live 0 em', .live 13 [[.int .i64 3, .int .i64 x0, .int .i64 x1, .int .i64 n, .int .i64 0, .int .i64 0, .int .i64 0, .int .i64 0, .int .i64 0, .int .i64 0, .int .i64 0, .int .i64 0, .int .i64 0]]]) (by decide) rfl (by rw [← hem']; rfl) hok' he' hen2 hl2 ?_)
        rw [es3, ← eem3]
        have a4 : wbin .add .i64 i 1 = i + 1 := by rw [hbin]; show IntKind.i64.wrap (i + 1) = i + 1; rw [IntKind.wrap_i64]; omega
        cbv
        simp only [a4]
        refine hN (i + 1, n, (e3, m3), em3) _ _ (by (refine Wk.eqzN (id) (by intro i hi; first | rfl | (have hh : i = 0 ∨ i = 1 := (by omega); rcases hh with hh | hh <;> subst hh <;> rfl)) (Nat.le_of_ble_eq_true rfl) (by first | exact fun i _ j _ e => e | (simp only [List.length_cons, List.length_nil]; decide)) ?_; cbv; (repeat' (first | exact trivial | rfl | assumption | apply And.intro | (simp only [hz, Z.a, binStd, cmpStd, unStd, scmpStd, maxI, reduceCtorEq]; first | done | assumption) | exact RowsZ.same (by assumption) (by first | assumption | rfl) | exact FzL.mk rfl rfl rfl (by assumption) (by first | assumption | rfl) (by decide) | (refine RowsZ.one ?_; cbv))))) ⟨by simp only; omega, by simp only; omega, hs2, hok2, he2, eem3, hum3⟩ ?_
        simp only
        omega
      · refine hE _ _ _ ?_
        cbv
        have := hKl (e, m') (by rw [hfold, List.take_of_length_le (by omega)]) [.live 13 [[.int .i64 3, .int .i64 x0, .int .i64 x1, .int .i64 y, .int .i64 0, .int .i64 0, .int .i64 0, .int .i64 0, .int .i64 0, .int .i64 0, .int .i64 0, .int .i64 0, .int .i64 0]]]
        rw [← hem'] at this
        exact this
end Go.Proofs.Ytpiocfmdjgbamaa

/- route.grower.grow at depth 1. Printed by wip/tools/genroute.py. -/
namespace Go.Proofs.Ytpiocfmdjgbamaa
open Go Go.RowKit Go.Eng
set_option maxRecDepth 100000
set_option maxHeartbeats 2000000 in
theorem e_grow1 (ss : List Sg) (gs : List Gr) (es ds : List (List AV)) (hes : es = ss.map sgRow) (hds : ds = gs.map grRow) (hln : LensOk ss) (hnx : NextOk ss) (lo hi : Int) (x0 : Int) : GrowC ss es ds lo hi 12 [x0] := by
  have hu : Up0 es := by rw [hes]; exact up_sg ss
  have hud : Up0 ds := by rw [hds]; exact up_gr gs
  intro en e m hok he hen hl K hK
  have hlast := hl x0 (by simp)
  obtain ⟨sg0, hd0, hrow0⟩ := get_map (f := sgRow) (ds := ss) (i := x0) hlast.1 hlast.2
  have hnxe : nxAt ss x0 = sg0.nx := by unfold nxAt; rw [hd0]
  have hnx0 : ∀ n, n ∈ sg0.nx → 0 ≤ n ∧ n.toNat < ss.length := fun n hn => nxAt_ok hnx (by rw [hnxe]; exact hn)
  have hnx2 : sg0.nx.length ≤ 2 := by have := nxAt_two hnx x0; rw [hnxe] at this; exact this
  have hF : growF ss lo hi 12 [x0] en (e, m) = (if e ≠ 0 then (e, m) else if hi ≤ en ∨ sg0.nx = [] then (if 16 < (if lo ≤ en then putL m [x0] else m).length then 13 else 0, if lo ≤ en then putL m [x0] else m) else sg0.nx.foldl (fun s n => growF ss lo hi 11 [x0, n] (en + lenAt ss n) s) (e, m)) := by
    rw [← hnxe]; rfl
  rw [hF] at hK
  obtain ⟨len, pcs, nx⟩ := sg0
  obtain ⟨q0, eq0⟩ : ∃ x, pcs.map pcRow = x := ⟨_, rfl⟩
  obtain ⟨ns, ens⟩ : ∃ x, nx.map nxRow = x := ⟨_, rfl⟩
  have huns : Up0 ns := by rw [← ens]; exact up_nx nx
  have hnl : ns.length = nx.length := by rw [← ens]; simp
  have hrow0 : es[x0.toNat]? = some [.int .i64 len, .list 2 q0, .list 1 ns] := by rw [hes, ← eq0, ← ens]; exact hrow0
  have hput := put_ents m [x0] (by simp only [List.length_cons, List.length_nil]; omega) (fun j hj => (hok.all j hj).1)
  obtain ⟨em, eem⟩ : ∃ x, ents m = x := ⟨_, rfl⟩
  obtain ⟨em2, eem2⟩ : ∃ x, ents (putL m [x0]) = x := ⟨_, rfl⟩
  have hum : Up0 em := by rw [← eem]; exact up_ents m
  have htwo : ∀ e, e ∈ em → e.length = 2 := by rw [← eem]; exact ents_two m
  have htwo2 : ∀ e, e ∈ em2 → e.length = 2 := by rw [← eem2]; exact ents_two _
  have heml : em.length = m.length := by rw [← eem]; exact ents_len m
  have heml2 : em2.length = (putL m [x0]).length := by rw [← eem2]; exact ents_len _
  rw [eem, eem2] at hput
  rw [eem]
  have hnxs : ∀ n, n ∈ nx → 0 ≤ n ∧ n.toNat < ss.length := hnx0
  have hnx2 : nx.length ≤ 2 := hnx2
  show ACall Try.prog 55 [.ref 0 6 0 0, .agg [.int .i64 1, .int .i64 x0, .int .i64 0, .int .i64 0, .int .i64 0, .int .i64 0, .int .i64 0, .int .i64 0, .int .i64 0, .int .i64 0, .int .i64 0, .int .i64 0, .int .i64 0], .int .i64 en] [.live 6 [gRow es ds lo hi 1 e], .live 0 em] K
  (refine ACall.ofI Try.func55 (by kernel_rfl) (by kernel_rfl) fun w hw => ?_); (obtain ⟨wbin, wcmp, wun, wconv, wnot, wbeq, wmm, wscmp, wsadd, wslen, wsat, weqs, wlen, wnlen, wofNat, wtake, wdrop, wapp, wzero, wnat⟩ := w); (have hbin := Z.w1 hw); (have hcmp := Z.w2 hw); (have hun := Z.w3 hw); (have hconv := Z.w4 hw); (have hnot := Z.w5 hw); (have hbeq := Z.w6 hw); (have hmm := Z.w7 hw); (have hscmp := Z.w8 hw); (have hsadd := Z.w9 hw); (have hslen := Z.w10 hw); (have hsat := Z.w11 hw); (have heqs := Z.w12 hw); (have hlen := Z.w13 hw); (have hnlen := Z.w14 hw); (have hofNat := Z.w15 hw); (have htake := Z.w16 hw); (have hdrop := Z.w17 hw); (have happ := Z.w18 hw); (have hzero := Z.w19 hw); (have hnat := Z.w20 hw); (have hz := Z.z hw); (conv => arg 2; cbv); (generalize hP : Try.prog = P); cbv
  have s1 : wbin .sub .i64 1 1 = 0 := by rw [hbin]; rfl
  simp only [s1]
  refine InN.mk (by decide) (by decide) ?_
  cbv
  repeat' (first
    | (refine RowOf.mk _ rfl ?_; cbv)
    | (refine Idx.mk _ hlast.1 hrow0 ?_; cbv))
  have hKz : e = 0 → (hi ≤ en ∨ nx = []) → ∀ j, K (.tuple []) (.live 6 [gRow es ds lo hi 1 (if 16 < (if lo ≤ en then putL m [x0] else m).length then 13 else 0)] :: .live 0 (ents (if lo ≤ en then putL m [x0] else m)) :: j) := fun h0 hc j => by
    have := hK j
    rw [if_neg (by simp [h0]), if_pos hc] at this
    exact this
  rcases he with rfl | rfl
  rotate_left 1
  · have c0 : wcmp .neq 13 0 = true := by rw [hcmp]; rfl
    simp only [c0]
    cbv
    have := hK [.live 13 [[.int .i64 1, .int .i64 x0, .int .i64 0, .int .i64 0, .int .i64 0, .int .i64 0, .int .i64 0, .int .i64 0, .int .i64 0, .int .i64 0, .int .i64 0, .int .i64 0, .int .i64 0]]]
    rw [if_pos (by decide), eem] at this
    exact this
  have c0 : wcmp .neq 0 0 = false := by rw [hcmp]; rfl
  simp only [c0]
  cbv
  (obtain ⟨L, eL, L0, Ln⟩ : ∃ L : Int, wlen ns = L ∧ 0 ≤ L ∧ L.toNat = ns.length := ⟨(ns.length : Int), by rw [hlen], Int.natCast_nonneg _, Int.toNat_natCast _⟩)
  have hKz := hKz rfl
  have n0 : nx = [] ↔ L = 0 := by rw [← List.length_eq_zero_iff, ← hnl, ← Ln]; omega
  have blockA : (hi ≤ en ∨ nx = []) → (lo ≤ en → ∀ j, K (.tuple []) (.live 6 [gRow es ds lo hi 1 (if (16 : Int) < em2.length then 13 else 0)] :: .live 0 em2 :: j)) ∧ (en < lo → ∀ j, K (.tuple []) (.live 6 [gRow es ds lo hi 1 0] :: .live 0 em :: j)) := fun hA => by
    refine ⟨fun hlo j => ?_, fun hlo j => ?_⟩
    · have := hKz hA j
      rw [if_pos hlo, eem2] at this
      by_cases hq : 16 < (putL m [x0]).length
      · rw [if_pos hq] at this
        rw [if_pos (by rw [heml2]; omega)]
        exact this
      · rw [if_neg hq] at this
        rw [if_neg (by rw [heml2]; omega)]
        exact this
    · have := hKz hA j
      rw [if_neg (show ¬ lo ≤ en by omega), eem, if_neg (show ¬ 16 < m.length by have := hok.few rfl; simp only at this; omega)] at this
      exact this
  obtain ⟨n1, en1⟩ : ∃ n : Int, n = em.length := ⟨_, rfl⟩
  obtain ⟨n2, en2⟩ : ∃ n : Int, n = em2.length := ⟨_, rfl⟩
  have h16 : n1 ≤ 16 := by have := hok.few rfl; simp only at this; omega
  simp only [← en2] at blockA
  have lm1 : ∀ {K' : AV → AHeap → Prop} {hp : AHeap} {c : Go.Call} {ty t kt et : TypeId} {x : Operand}, hp[1]? = some (.live 0 em) → c.callee = .builtin .len → c.args = #[x] → c.argTypes = #[t] → P.underlying t = some (.map kt et) → K' (.int .i64 n1) hp → Xo P (.call c) ty [.mapr 1] hp K' := fun h1 h2 h3 h4 h5 h6 => Xo.lenm h2 h3 h4 h5 h1 htwo n1 en1 h6
  have lm2 : ∀ {K' : AV → AHeap → Prop} {hp : AHeap} {c : Go.Call} {ty t kt et : TypeId} {x : Operand}, hp[1]? = some (.live 0 em2) → c.callee = .builtin .len → c.args = #[x] → c.argTypes = #[t] → P.underlying t = some (.map kt et) → K' (.int .i64 n2) hp → Xo P (.call c) ty [.mapr 1] hp K' := fun h1 h2 h3 h4 h5 h6 => Xo.lenm h2 h3 h4 h5 h1 htwo2 n2 en2 h6
  (split <;> rename_i h1 <;> (try (simp only [hz, Z.a, binStd, cmpStd, unStd, scmpStd, maxI, reduceCtorEq] at h1)) <;> (try cbv))
  · obtain ⟨hy, hno⟩ := blockA (.inl h1)
    clear blockA hKz
    (split <;> rename_i h3 <;> (try (simp only [hz, Z.a, binStd, cmpStd, unStd, scmpStd, maxI, reduceCtorEq] at h3)) <;> (try cbv))
    · refine Put.mk em2 rfl hput ?_
      cbv
      refine lm2 (kt := 39) (et := 3) rfl rfl rfl rfl (by rw [← hP]; kernel_rfl) ?_
      cbv
      (split <;> rename_i h4 <;> (try (simp only [hz, Z.a, binStd, cmpStd, unStd, scmpStd, maxI, reduceCtorEq] at h4)) <;> (try cbv))
      · have := hy h3 [.live 13 [[.int .i64 1, .int .i64 x0, .int .i64 0, .int .i64 0, .int .i64 0, .int .i64 0, .int .i64 0, .int .i64 0, .int .i64 0, .int .i64 0, .int .i64 0, .int .i64 0, .int .i64 0]]]
        rw [if_pos (by omega)] at this
        exact this
      · have := hy h3 [.live 13 [[.int .i64 1, .int .i64 x0, .int .i64 0, .int .i64 0, .int .i64 0, .int .i64 0, .int .i64 0, .int .i64 0, .int .i64 0, .int .i64 0, .int .i64 0, .int .i64 0, .int .i64 0]]]
        rw [if_neg (by omega)] at this
        exact this
    · refine lm1 (kt := 39) (et := 3) rfl rfl rfl rfl (by rw [← hP]; kernel_rfl) ?_
      cbv
      (split <;> rename_i h4 <;> (try (simp only [hz, Z.a, binStd, cmpStd, unStd, scmpStd, maxI, reduceCtorEq] at h4)) <;> (try cbv))
      · exfalso; omega
      · exact hno h3 [.live 13 [[.int .i64 1, .int .i64 x0, .int .i64 0, .int .i64 0, .int .i64 0, .int .i64 0, .int .i64 0, .int .i64 0, .int .i64 0, .int .i64 0, .int .i64 0, .int .i64 0, .int .i64 0]]]
  · simp only [eL]
    (split <;> rename_i h2 <;> (try (simp only [hz, Z.a, binStd, cmpStd, unStd, scmpStd, maxI, reduceCtorEq] at h2)) <;> (try cbv))
    · obtain ⟨hy, hno⟩ := blockA (.inr (n0.2 h2))
      clear blockA hKz
      (split <;> rename_i h3 <;> (try (simp only [hz, Z.a, binStd, cmpStd, unStd, scmpStd, maxI, reduceCtorEq] at h3)) <;> (try cbv))
      · refine Put.mk em2 rfl hput ?_
        cbv
        refine lm2 (kt := 39) (et := 3) rfl rfl rfl rfl (by rw [← hP]; kernel_rfl) ?_
        cbv
        (split <;> rename_i h4 <;> (try (simp only [hz, Z.a, binStd, cmpStd, unStd, scmpStd, maxI, reduceCtorEq] at h4)) <;> (try cbv))
        · have := hy h3 [.live 13 [[.int .i64 1, .int .i64 x0, .int .i64 0, .int .i64 0, .int .i64 0, .int .i64 0, .int .i64 0, .int .i64 0, .int .i64 0, .int .i64 0, .int .i64 0, .int .i64 0, .int .i64 0]]]
          rw [if_pos (by omega)] at this
          exact this
        · have := hy h3 [.live 13 [[.int .i64 1, .int .i64 x0, .int .i64 0, .int .i64 0, .int .i64 0, .int .i64 0, .int .i64 0, .int .i64 0, .int .i64 0, .int .i64 0, .int .i64 0, .int .i64 0, .int .i64 0]]]
          rw [if_neg (by omega)] at this
          exact this
      · refine lm1 (kt := 39) (et := 3) rfl rfl rfl rfl (by rw [← hP]; kernel_rfl) ?_
        cbv
        (split <;> rename_i h4 <;> (try (simp only [hz, Z.a, binStd, cmpStd, unStd, scmpStd, maxI, reduceCtorEq] at h4)) <;> (try cbv))
        · exfalso; omega
        · exact hno h3 [.live 13 [[.int .i64 1, .int .i64 x0, .int .i64 0, .int .i64 0, .int .i64 0, .int .i64 0, .int .i64 0, .int .i64 0, .int .i64 0, .int .i64 0, .int .i64 0, .int .i64 0, .int .i64 0]]]
    · have hK := hK
      have ck : wcmp .eql 1 12 = false := by rw [hcmp]; rfl
      have a1 : wbin .add .i64 1 1 = 2 := by rw [hbin]; rfl
      have a2 : wbin .sub .i64 2 1 = 1 := by rw [hbin]; rfl
      have hnh : ¬ (hi ≤ en ∨ nx = []) := by rw [n0]; omega
      have hen' : -1099511627776 ≤ en ∧ en ≤ 1 * 1099511627776 := hen
      have hKl : ∀ s', s' = nx.foldl (fun s n => growF ss lo hi 11 [x0, n] (en + lenAt ss n) s) (0, m) → ∀ j, K (.tuple []) (.live 6 [gRow es ds lo hi 1 s'.1] :: .live 0 (ents s'.2) :: j) := fun s' hs' j => by
        have := hK j
        rw [if_neg (by decide), if_neg hnh] at this
        rw [hs']
        exact this
      clear hK blockA hKz lm1 lm2
      simp only [ck]
      cbv
      simp only [a1]
      repeat' (first
        | (refine RowOf.mk _ rfl ?_; cbv)
        | (simp only [a1]; cbv)
        | (refine SetRow.mk _ _ rfl rfl ?_; cbv))
      simp only [eL]
      refine Loop.dataN hw (S := Int × Int × (Int × List (List Int)) × List (List AV)) (fun s => fr 103 [(0, .ref 0 6 0 0), (2, .int .i64 en), (4, .ref 2 13 0 0), (76, .list 1 ns), (77, .int .i64 L), (78, .int .i64 s.1)])
        (fun s => [.live 6 [[.list 3 es, .list 5 ds, .int .i64 lo, .int .i64 hi, .mapr 1, .int .i64 s.2.2.1.1]], .live 0 s.2.2.2, .live 13 [[.int .i64 2, .int .i64 x0, .int .i64 s.2.1, .int .i64 0, .int .i64 0, .int .i64 0, .int .i64 0, .int .i64 0, .int .i64 0, .int .i64 0, .int .i64 0, .int .i64 0, .int .i64 0]]])
        (fun s => 0 ≤ s.1 ∧ s.1 ≤ L ∧ s.2.2.1 = (nx.take s.1.toNat).foldl (fun s n => growF ss lo hi 11 [x0, n] (en + lenAt ss n) s) (0, m) ∧ GOk s.2.2.1 ∧ (s.2.2.1.1 = 0 ∨ s.2.2.1.1 = 13) ∧ s.2.2.2 = ents s.2.2.1.2 ∧ Up0 s.2.2.2) (fun s => (L - s.1).toNat) (0, 0, (0, m), em) (by (refine Wk.eqzN (id) (by intro i hi; first | rfl | (have hh : i = 0 ∨ i = 1 := (by omega); rcases hh with hh | hh <;> subst hh <;> rfl)) (Nat.le_of_ble_eq_true rfl) (by first | exact fun i _ j _ e => e | (simp only [List.length_cons, List.length_nil]; decide)) ?_; cbv; (repeat' (first | exact trivial | rfl | assumption | apply And.intro | (simp only [hz, Z.a, binStd, cmpStd, unStd, scmpStd, maxI, reduceCtorEq]; first | done | assumption) | exact RowsZ.same (by assumption) (by first | assumption | rfl) | exact FzL.mk rfl rfl rfl (by assumption) (by first | assumption | rfl) (by decide) | (refine RowsZ.one ?_; cbv))))) ⟨Int.le_refl _, L0, rfl, hok, .inl rfl, eem.symm, hum⟩ ?_
      rintro ⟨i, y, ⟨e, m'⟩, em'⟩ hinv Q' hN hE hR'
      have hinv : 0 ≤ i ∧ i ≤ L ∧ (e, m') = (nx.take i.toNat).foldl (fun s n => growF ss lo hi 11 [x0, n] (en + lenAt ss n) s) (0, m) ∧ GOk (e, m') ∧ (e = 0 ∨ e = 13) ∧ em' = ents m' ∧ Up0 em' := hinv
      cbv
      obtain ⟨hi0, hi1, hfold, hok', he', hem', hum'⟩ := hinv
      (split <;> rename_i hc <;> (try (simp only [hz, Z.a, binStd, cmpStd, unStd, scmpStd, maxI, reduceCtorEq] at hc)) <;> (try cbv))
      · have hit : i.toNat < nx.length := by omega
        obtain ⟨n, hn⟩ : ∃ n, nx[i.toNat]? = some n := ⟨_, List.getElem?_eq_getElem hit⟩
        have hni : ns[i.toNat]? = some (nxRow n) := by rw [← ens, List.getElem?_map, hn]; rfl
        have hnb := hnxs n (List.mem_of_getElem? hn)
        obtain ⟨sg1, hd1, hrow1⟩ := get_map (f := sgRow) (ds := ss) (i := n) hnb.1 hnb.2
        have hle : lenAt ss n = sg1.len := by unfold lenAt; rw [hd1]
        have hl1 := hln.pos sg1 (List.mem_of_getElem? hd1)
        obtain ⟨len1, pcs1, nx1⟩ := sg1
        have hl1 : 1 ≤ len1 ∧ len1 ≤ 1099511627776 := hl1
        have hle : lenAt ss n = len1 := hle
        obtain ⟨q1, eq1⟩ : ∃ x, pcs1.map pcRow = x := ⟨_, rfl⟩
        obtain ⟨q2, eq2⟩ : ∃ x, nx1.map nxRow = x := ⟨_, rfl⟩
        have hrow1 : es[n.toNat]? = some [.int .i64 len1, .list 2 q1, .list 1 q2] := by rw [hes, ← eq1, ← eq2]; exact hrow1
        have hs2 : (growF ss lo hi 11 [x0, n] (en + len1) (e, m')) = (nx.take (i + 1).toNat).foldl (fun s n => growF ss lo hi 11 [x0, n] (en + lenAt ss n) s) (0, m) := by
          rw [take_next hi0 hn, List.foldl_append, ← hfold, List.foldl_cons, List.foldl_nil, hle]
        have hok2 := growF_ok ss lo hi 11 [x0, n] (en + len1) (e, m') hok' (by simp only [List.length_cons, List.length_nil]; omega)
        have he2 := growF_e ss lo hi 11 [x0, n] (en + len1) (e, m') he'
        have a3 : wbin .add .i64 en len1 = en + len1 := by rw [hbin]; show IntKind.i64.wrap (en + len1) = en + len1; rw [IntKind.wrap_i64]; omega
        obtain ⟨en2, een2⟩ : ∃ z, z = en + len1 := ⟨_, rfl⟩
        rw [← een2] at hs2 hok2 he2 a3
        have hen2 : -1099511627776 ≤ en2 ∧ en2 ≤ lenI [x0, n] * 1099511627776 := by simp only [lenI]; omega
        have hl2 : ∀ x, x ∈ [x0, n] → 0 ≤ x ∧ x.toNat < ss.length := fun x hx => by
          have : x ∈ [x0] ∨ x = n := by simpa [or_assoc] using hx
          rcases this with h | rfl
          · exact hl x h
          · exact hnb
        obtain ⟨⟨e3, m3⟩, es3⟩ : ∃ s', growF ss lo hi 11 [x0, n] en2 (e, m') = s' := ⟨_, rfl⟩
        obtain ⟨em3, eem3⟩ : ∃ x, x = ents m3 := ⟨_, rfl⟩
        have hum3 : Up0 em3 := by rw [eem3]; exact up_ents m3
        rw [es3] at hs2 hok2 he2
        refine Idx.mk _ hi0 hni ?_
        cbv
        repeat' (first
          | (refine RowOf.mk _ rfl ?_; cbv)
          | (simp only [a2]; cbv)
          | (refine InN.mk (by decide) (by decide) ?_; cbv)
          | (refine SetRow.mk _ _ rfl rfl ?_; cbv)
          | (refine Idx.mk _ hnb.1 hrow1 ?_; cbv))
        simp only [a3]
        refine Call.of (GrowC.call hu hud (e_grow2 ss gs es ds hes hds hln hnx lo hi x0 n) hP (sg := 0) (sm := 1) (h := [.live 6 [gRow es ds lo hi 1 e], .live 0 em', .live 13 [[.int .i64 2, .int .i64 x0, .int .i64 n, .int .i64 0, .int .i64 0, .int .i64 0, .int .i64 0, .int .i64 0, .int .i64 0, .int .i64 0, .int .i64 0, .int .i64 0, .int .i64 0]]]) (by decide) rfl (by rw [← hem']; rfl) hok' he' hen2 hl2 ?_)
        rw [es3, ← eem3]
        have a4 : wbin .add .i64 i 1 = i + 1 := by rw [hbin]; show IntKind.i64.wrap (i + 1) = i + 1; rw [IntKind.wrap_i64]; omega
        cbv
        simp only [a4]
        refine hN (i + 1, n, (e3, m3), em3) _ _ (by (refine Wk.eqzN (id) (by intro i hi; first | rfl | (have hh : i = 0 ∨ i = 1 := (by omega); rcases hh with hh | hh <;> subst hh <;> rfl)) (Nat.le_of_ble_eq_true rfl) (by first | exact fun i _ j _ e => e | (simp only [List.length_cons, List.length_nil]; decide)) ?_; cbv; (repeat' (first | exact trivial | rfl | assumption | apply And.intro | (simp only [hz, Z.a, binStd, cmpStd, unStd, scmpStd, maxI, reduceCtorEq]; first | done | assumption) | exact RowsZ.same (by assumption) (by first | assumption | rfl) | exact FzL.mk rfl rfl rfl (by assumption) (by first | assumption | rfl) (by decide) | (refine RowsZ.one ?_; cbv))))) ⟨by simp only; omega, by simp only; omega, hs2, hok2, he2, eem3, hum3⟩ ?_
        simp only
        omega
      · refine hE _ _ _ ?_
        cbv
        have := hKl (e, m') (by rw [hfold, List.take_of_length_le (by omega)]) [.live 13 [[.int .i64 2, .int .i64 x0, .int .i64 y, .int .i64 0, .int .i64 0, .int .i64 0, .int .i64 0, .int .i64 0, .int .i64 0, .int .i64 0, .int .i64 0, .int .i64 0, .int .i64 0]]]
        rw [← hem'] at this
        exact this
end Go.Proofs.Ytpiocfmdjgbamaa

/- route.Set.End: where a way ends. -/
namespace Go.Proofs.Ytpiocfmdjgbamaa
open Go Go.RowKit Go.Eng
set_option maxRecDepth 100000
def endF (ss : List Sg) (from_ : Int) (l : List Int) : Int := l.foldl (fun e n => e + lenAt ss n) (-from_)
theorem lenAt_le {ss : List Sg} (h : LensOk ss) (n : Int) : 0 ≤ lenAt ss n ∧ lenAt ss n ≤ 1099511627776 := by
  unfold lenAt
  split
  · rename_i s hs; have := h.pos s (List.mem_of_getElem? hs); omega
  · omega
theorem fold_le {ss : List Sg} (h : LensOk ss) : ∀ (l : List Int) (e : Int), e ≤ l.foldl (fun e n => e + lenAt ss n) e ∧ l.foldl (fun e n => e + lenAt ss n) e ≤ e + lenI l * 1099511627776
  | [], e => by simp [lenI]
  | n :: l, e => by
    have h1 := lenAt_le h n
    have h2 := fold_le h l (e + lenAt ss n)
    simp only [List.foldl_cons, lenI]
    omega
theorem endF_le {ss : List Sg} (h : LensOk ss) {from_ : Int} (h0 : 0 ≤ from_ ∧ from_ ≤ 1099511627776) (l : List Int) : -1099511627776 ≤ endF ss from_ l ∧ endF ss from_ l ≤ lenI l * 1099511627776 := by
  have := fold_le h l (-from_)
  unfold endF; omega
theorem path_l : ∀ (l : List Int) (h : l.length ≤ 12), l = [l.getD 0 0, l.getD 1 0, l.getD 2 0, l.getD 3 0, l.getD 4 0, l.getD 5 0, l.getD 6 0, l.getD 7 0, l.getD 8 0, l.getD 9 0, l.getD 10 0, l.getD 11 0].take (min (max (lenI l) 0) 12).toNat
  | [], _ => rfl
  | [_], _ => rfl
  | [_, _], _ => rfl
  | [_, _, _], _ => rfl
  | [_, _, _, _], _ => rfl
  | [_, _, _, _, _], _ => rfl
  | [_, _, _, _, _, _], _ => rfl
  | [_, _, _, _, _, _, _], _ => rfl
  | [_, _, _, _, _, _, _, _], _ => rfl
  | [_, _, _, _, _, _, _, _, _], _ => rfl
  | [_, _, _, _, _, _, _, _, _, _], _ => rfl
  | [_, _, _, _, _, _, _, _, _, _, _], _ => rfl
  | [_, _, _, _, _, _, _, _, _, _, _, _], _ => rfl
  | _ :: _ :: _ :: _ :: _ :: _ :: _ :: _ :: _ :: _ :: _ :: _ :: _ :: _, h => by simp at h
theorem e_pathL (l : List Int) (h : l.length ≤ 12) : PCalls Try.prog 54 [.agg (rtC l)] (· = .list 1 (l.map nxRow)) :=
  e_path (lenI l) _ _ _ _ _ _ _ _ _ _ _ _ l (path_l l h)
set_option maxHeartbeats 1000000 in
theorem e_end (ss : List Sg) (gs : List Gr) (es ds : List (List AV)) (hes : es = ss.map sgRow) (hds : ds = gs.map grRow) (hln : LensOk ss) (from_ : Int) (hf : 0 ≤ from_ ∧ from_ ≤ 1099511627776) (rs : List (List AV)) (hrs : Up0 rs) (l : List Int) (hl : l.length ≤ 12) (hb : ∀ n, n ∈ l → 0 ≤ n ∧ n.toNat < ss.length) :
    PCalls Try.prog 15 [.agg [.int .i64 from_, .list 13 rs], .agg [.list 3 es, .list 5 ds], .agg (rtC l)] (· = .int .i64 (endF ss from_ l)) := by
  have hu : Up0 es := by rw [hes]; exact up_sg ss
  have hud : Up0 ds := by rw [hds]; exact up_gr gs
  obtain ⟨y, ey⟩ : ∃ y, y = endF ss from_ l := ⟨_, rfl⟩
  have hp := e_pathL l hl
  obtain ⟨row, erow⟩ : ∃ row, row = toR l := ⟨_, rfl⟩
  have hp : PCalls Try.prog 54 [.agg row.row] (· = .list 1 (l.map nxRow)) := by rw [erow]; exact hp
  rw [← ey]
  show PCalls Try.prog 15 [.agg [.int .i64 from_, .list 13 rs], .agg [.list 3 es, .list 5 ds], .agg (toR l).row] (· = .int .i64 y)
  rw [← erow]
  clear erow
  obtain ⟨n, s0, s1, s2, s3, s4, s5, s6, s7, s8, s9, s10, s11⟩ := row
  obtain ⟨ns, ens⟩ : ∃ x, l.map nxRow = x := ⟨_, rfl⟩
  have huns : Up0 ns := by rw [← ens]; exact up_nx l
  have hnl : ns.length = l.length := by rw [← ens]; simp
  rw [ens] at hp
  (refine PCalls.ofY Try.func15 (by kernel_rfl) (by kernel_rfl) fun w hw R hR => ?_); (obtain ⟨wbin, wcmp, wun, wconv, wnot, wbeq, wmm, wscmp, wsadd, wslen, wsat, weqs, wlen, wnlen, wofNat, wtake, wdrop, wapp, wzero, wnat⟩ := w); (have hbin := Z.w1 hw); (have hcmp := Z.w2 hw); (have hun := Z.w3 hw); (have hconv := Z.w4 hw); (have hnot := Z.w5 hw); (have hbeq := Z.w6 hw); (have hmm := Z.w7 hw); (have hscmp := Z.w8 hw); (have hsadd := Z.w9 hw); (have hslen := Z.w10 hw); (have hsat := Z.w11 hw); (have heqs := Z.w12 hw); (have hlen := Z.w13 hw); (have hnlen := Z.w14 hw); (have hofNat := Z.w15 hw); (have htake := Z.w16 hw); (have hdrop := Z.w17 hw); (have happ := Z.w18 hw); (have hzero := Z.w19 hw); (have hnat := Z.w20 hw); (have hz := Z.z hw); (conv => arg 2; cbv); (generalize hP : Try.prog = P); cbv
  obtain ⟨a0, ea0⟩ : ∃ a0, a0 = -from_ := ⟨_, rfl⟩
  have c0 : wun .neg .i64 from_ = a0 := by rw [hun, ea0]; simp only [unStd]; rw [IntKind.wrap_i64]; omega
  simp only [c0]
  refine Call.stepE (by rw [← hP]; exact hp) rfl ?_
  cbv
  (obtain ⟨L, eL, L0, Ln⟩ : ∃ L : Int, wlen ns = L ∧ 0 ≤ L ∧ L.toNat = ns.length := ⟨(ns.length : Int), by rw [hlen], Int.natCast_nonneg _, Int.toNat_natCast _⟩)
  simp only [eL]
  refine Loop.data hw (S := Int × Int) (fun s => fr 30 [(4, .ref 1 2 0 0), (7, .int .i64 s.2), (14, .list 1 ns), (15, .int .i64 L), (16, .int .i64 s.1)])
    (fun s => [.live 2 [[.int .i64 from_, .list 13 rs]], .live 2 [[.list 3 es, .list 5 ds]], .live 13 [[.int .i64 n, .int .i64 s0, .int .i64 s1, .int .i64 s2, .int .i64 s3, .int .i64 s4, .int .i64 s5, .int .i64 s6, .int .i64 s7, .int .i64 s8, .int .i64 s9, .int .i64 s10, .int .i64 s11]]])
    (fun s => 0 ≤ s.1 ∧ s.1 ≤ L ∧ s.2 = (l.take s.1.toNat).foldl (fun e n => e + lenAt ss n) a0 ∧ -1099511627776 ≤ s.2 ∧ s.2 ≤ s.1 * 1099511627776) (fun s => (L - s.1).toNat) (0, a0) (by (refine Wk.eqz (id) (by first | exact fun i _ j _ e => e | (simp only [List.length_cons, List.length_nil]; decide)) ?_; cbv; (repeat' (first | exact trivial | rfl | assumption | apply And.intro | (simp only [hz, Z.a, binStd, cmpStd, unStd, scmpStd, maxI, reduceCtorEq]; first | done | assumption) | exact RowsZ.same (by assumption) (by first | assumption | rfl) | exact FzL.mk rfl rfl rfl (by assumption) (by first | assumption | rfl) (by decide) | (refine RowsZ.one ?_; cbv))))) ⟨Int.le_refl _, L0, rfl, by simp only; omega, by simp only; omega⟩ ?_
  rintro ⟨i, e⟩ hinv Q' hN hE hR'
  have hinv : 0 ≤ i ∧ i ≤ L ∧ e = (l.take i.toNat).foldl (fun e n => e + lenAt ss n) a0 ∧ -1099511627776 ≤ e ∧ e ≤ i * 1099511627776 := hinv
  cbv
  obtain ⟨hi0, hi1, hfold, hb1, hb2⟩ := hinv
  (split <;> rename_i hc <;> (try (simp only [hz, Z.a, binStd, cmpStd, unStd, scmpStd, maxI, reduceCtorEq] at hc)) <;> (try cbv))
  · have hit : i.toNat < l.length := by omega
    obtain ⟨q, hq⟩ : ∃ q, l[i.toNat]? = some q := ⟨_, List.getElem?_eq_getElem hit⟩
    have hni : ns[i.toNat]? = some (nxRow q) := by rw [← ens, List.getElem?_map, hq]; rfl
    have hnb := hb q (List.mem_of_getElem? hq)
    obtain ⟨sg1, hd1, hrow1⟩ := get_map (f := sgRow) (ds := ss) (i := q) hnb.1 hnb.2
    have hle : lenAt ss q = sg1.len := by unfold lenAt; rw [hd1]
    have hl1 := hln.pos sg1 (List.mem_of_getElem? hd1)
    obtain ⟨len1, pcs1, nx1⟩ := sg1
    have hl1 : 1 ≤ len1 ∧ len1 ≤ 1099511627776 := hl1
    have hle : lenAt ss q = len1 := hle
    obtain ⟨q1, eq1⟩ : ∃ x, pcs1.map pcRow = x := ⟨_, rfl⟩
    obtain ⟨q2, eq2⟩ : ∃ x, nx1.map nxRow = x := ⟨_, rfl⟩
    have hrow1 : es[q.toNat]? = some [.int .i64 len1, .list 2 q1, .list 1 q2] := by rw [hes, ← eq1, ← eq2]; exact hrow1
    obtain ⟨e2, ee2⟩ : ∃ z, z = e + len1 := ⟨_, rfl⟩
    obtain ⟨i2, ei2⟩ : ∃ z, z = i + 1 := ⟨_, rfl⟩
    have a3 : wbin .add .i64 e len1 = e2 := by rw [hbin, ee2]; show IntKind.i64.wrap (e + len1) = e + len1; rw [IntKind.wrap_i64]; omega
    have a4 : wbin .add .i64 i 1 = i2 := by rw [hbin, ei2]; show IntKind.i64.wrap (i + 1) = i + 1; rw [IntKind.wrap_i64]; omega
    have hf2 : e2 = (l.take i2.toNat).foldl (fun e n => e + lenAt ss n) a0 := by
      rw [ei2, take_next hi0 hq, List.foldl_append, ← hfold, List.foldl_cons, List.foldl_nil, hle, ee2]
    refine Idx.mk _ hi0 hni ?_
    cbv
    refine Idx.mk _ hnb.1 hrow1 ?_
    cbv
    simp only [a3, a4]
    refine hN (i2, e2) _ _ ?hx ?hi ?ht
    case hx => (refine Wk.eqz (id) (by first | exact fun i _ j _ e => e | (simp only [List.length_cons, List.length_nil]; decide)) ?_; cbv; (repeat' (first | exact trivial | rfl | assumption | apply And.intro | (simp only [hz, Z.a, binStd, cmpStd, unStd, scmpStd, maxI, reduceCtorEq]; first | done | assumption) | exact RowsZ.same (by assumption) (by first | assumption | rfl) | exact FzL.mk rfl rfl rfl (by assumption) (by first | assumption | rfl) (by decide) | (refine RowsZ.one ?_; cbv))))
    case hi => exact ⟨by simp only; omega, by simp only; omega, hf2, by simp only; omega, by simp only; omega⟩
    case ht => simp only; omega
  · refine hE _ _ _ ?_
    cbv
    have : e = y := by rw [ey, hfold, List.take_of_length_le (by omega), ea0]; rfl
    exact ⟨_, Vw.same rfl, hR _ (by rw [this]; rfl)⟩
end Go.Proofs.Ytpiocfmdjgbamaa

/- route.Set.Grow: what ways grow to. -/
namespace Go.Proofs.Ytpiocfmdjgbamaa
open Go Go.RowKit Go.Eng
set_option maxRecDepth 100000
theorem e_growL (ss : List Sg) (gs : List Gr) (es ds : List (List AV)) (hes : es = ss.map sgRow) (hds : ds = gs.map grRow) (hln : LensOk ss) (hnx : NextOk ss) (lo hi : Int) : ∀ l : List Int, l.length ≤ 12 ∧ 1 ≤ l.length → GrowC ss es ds lo hi (13 - l.length) l
  | [], h => absurd h.2 (by decide)
  | [x0], h => e_grow1 ss gs es ds hes hds hln hnx lo hi x0
  | [x0, x1], h => e_grow2 ss gs es ds hes hds hln hnx lo hi x0 x1
  | [x0, x1, x2], h => e_grow3 ss gs es ds hes hds hln hnx lo hi x0 x1 x2
  | [x0, x1, x2, x3], h => e_grow4 ss gs es ds hes hds hln hnx lo hi x0 x1 x2 x3
  | [x0, x1, x2, x3, x4], h => e_grow5 ss gs es ds hes hds hln hnx lo hi x0 x1 x2 x3 x4
  | [x0, x1, x2, x3, x4, x5], h => e_grow6 ss gs es ds hes hds hln hnx lo hi x0 x1 x2 x3 x4 x5
  | [x0, x1, x2, x3, x4, x5, x6], h => e_grow7 ss gs es ds hes hds hln hnx lo hi x0 x1 x2 x3 x4 x5 x6
  | [x0, x1, x2, x3, x4, x5, x6, x7], h => e_grow8 ss gs es ds hes hds hln hnx lo hi x0 x1 x2 x3 x4 x5 x6 x7
  | [x0, x1, x2, x3, x4, x5, x6, x7, x8], h => e_grow9 ss gs es ds hes hds hln hnx lo hi x0 x1 x2 x3 x4 x5 x6 x7 x8
  | [x0, x1, x2, x3, x4, x5, x6, x7, x8, x9], h => e_grow10 ss gs es ds hes hds hln hnx lo hi x0 x1 x2 x3 x4 x5 x6 x7 x8 x9
  | [x0, x1, x2, x3, x4, x5, x6, x7, x8, x9, x10], h => e_grow11 ss gs es ds hes hds hln hnx lo hi x0 x1 x2 x3 x4 x5 x6 x7 x8 x9 x10
  | [x0, x1, x2, x3, x4, x5, x6, x7, x8, x9, x10, x11], h => e_grow12 ss gs es ds hes hds hln hnx lo hi x0 x1 x2 x3 x4 x5 x6 x7 x8 x9 x10 x11
  | _ :: _ :: _ :: _ :: _ :: _ :: _ :: _ :: _ :: _ :: _ :: _ :: _ :: _, h => absurd h.1 (by simp)
instance ltL_dec : ∀ l m : List Int, Decidable (ltL l m)
  | a :: l, b :: m => match ltL_dec l m with
    | .isTrue h => if h1 : a < b then .isTrue (.inl h1) else if h2 : a = b then .isTrue (.inr ⟨h2, h⟩) else .isFalse fun h3 => h3.elim h1 fun h4 => h2 h4.1
    | .isFalse h => if h1 : a < b then .isTrue (.inl h1) else .isFalse fun h3 => h3.elim h1 fun h4 => h h4.2
  | [], _ => .isFalse fun h => h
  | _ :: _, [] => .isFalse fun h => h
def ltR (l m : List Int) : Prop := ltL (toR l).key (toR m).key
instance (l m : List Int) : Decidable (ltR l m) := ltL_dec _ _
def insR (l : List Int) : List (List Int) → List (List Int)
  | [] => [l]
  | k :: m => if ltR k l then k :: insR l m else l :: k :: m
def sortR : List (List Int) → List (List Int)
  | [] => []
  | l :: m => insR l (sortR m)
theorem insR_perm (l : List Int) : ∀ m, (insR l m).Perm (l :: m)
  | [] => .refl _
  | k :: m => by
    unfold insR
    split
    · exact ((insR_perm l m).cons k).trans (.swap l k m)
    · exact .refl _
theorem sortR_perm : ∀ m, (sortR m).Perm m
  | [] => .refl _
  | l :: m => (insR_perm l _).trans ((sortR_perm m).cons l)
theorem ltR_trans {a b c : List Int} : ltR a b → ltR b c → ltR a c := ltL_trans _ _ _
theorem ltR_irrefl (a : List Int) : ¬ ltR a a := ltL_irrefl _
theorem ltR_total (a b : List Int) : ltR a b ∨ toR a = toR b ∨ ltR b a := (ltL_total (toR a).key (toR b).key rfl).imp id fun h => h.imp (fun h => R13.key_inj h) id
theorem leR_trans {a b c : List Int} (h1 : ¬ ltR b a) (h2 : ¬ ltR c b) : ¬ ltR c a := fun h => by
  rcases ltR_total a b with h3 | h3 | h3
  · exact h2 (ltR_trans h h3)
  · unfold ltR at h h2; rw [h3] at h; exact h2 h
  · exact h1 h3
theorem insR_sorted (l : List Int) : ∀ m, m.Pairwise (fun x y => ¬ ltR y x) → (insR l m).Pairwise (fun x y => ¬ ltR y x)
  | [], _ => List.pairwise_singleton _ _
  | k :: m, h => by
    obtain ⟨h1, h2⟩ := List.pairwise_cons.1 h
    unfold insR
    split
    · rename_i hk
      refine List.pairwise_cons.2 ⟨fun x hx => ?_, insR_sorted l m h2⟩
      rcases List.mem_cons.1 ((insR_perm l m).mem_iff.1 hx) with rfl | hx
      · exact fun h3 => ltR_irrefl _ (ltR_trans hk h3)
      · exact h1 x hx
    · rename_i hk
      refine List.pairwise_cons.2 ⟨fun x hx => ?_, h⟩
      rcases List.mem_cons.1 hx with rfl | hx
      · exact hk
      · exact leR_trans hk (h1 x hx)
theorem sortR_sorted : ∀ m, (sortR m).Pairwise (fun x y => ¬ ltR y x)
  | [] => List.Pairwise.nil
  | l :: m => insR_sorted l _ (sortR_sorted m)
theorem sorted_unique : ∀ {l m : List R13}, l.Perm m → l.Pairwise (fun x y => ¬ ltL y.key x.key) → m.Pairwise (fun x y => ¬ ltL y.key x.key) → l = m
  | [], m, hp, _, _ => (List.nil_perm.1 hp).symm
  | a :: l, [], hp, _, _ => absurd hp.length_eq (by simp)
  | a :: l, b :: m, hp, h1, h2 => by
    obtain ⟨k1, k2⟩ := List.pairwise_cons.1 h1
    obtain ⟨k3, k4⟩ := List.pairwise_cons.1 h2
    have e : a = b := by
      rcases List.mem_cons.1 (hp.mem_iff.1 (List.mem_cons_self (a := a) (l := l))) with e | ha
      · exact e
      · rcases List.mem_cons.1 (hp.mem_iff.2 (List.mem_cons_self (a := b) (l := m))) with e | hb
        · exact e.symm
        · have h3 := k3 a ha
          have h4 := k1 b hb
          rcases ltL_total a.key b.key rfl with h | h | h
          · exact absurd h h3
          · exact R13.key_inj h
          · exact absurd h h4
    subst e
    rw [sorted_unique (List.Perm.cons_inv hp) k2 k4]
theorem sortR_unique {m : List (List Int)} {rs : List R13} (hp : rs.Perm (m.map toR)) (hs : rs.Pairwise (fun x y => ¬ ltL y.key x.key)) : rs = (sortR m).map toR :=
  sorted_unique (hp.trans ((sortR_perm m).map toR).symm) hs (List.pairwise_map.2 (sortR_sorted m))
def growS (ss : List Sg) (lo hi from_ : Int) (ls : List (List Int)) : Int × List (List Int) := ls.foldl (fun s l => growF ss lo hi (13 - l.length) l (endF ss from_ l) s) (0, [])
def growA (ss : List Sg) (lo hi from_ : Int) (ls : List (List Int)) : (Int × List (List Int)) × Int :=
  if hi < lo ∨ lo < -from_ then ((0, []), 40)
  else if (growS ss lo hi from_ ls).1 ≠ 0 then ((0, []), (growS ss lo hi from_ ls).1)
  else if (growS ss lo hi from_ ls).2 = [] then ((0, []), 40)
  else ((from_, sortR (growS ss lo hi from_ ls).2), 0)
structure WayOk (ss : List Sg) (l : List Int) : Prop where
  len : l.length ≤ 12 ∧ 1 ≤ l.length
  seg : ∀ n, n ∈ l → 0 ≤ n ∧ n.toNat < ss.length
theorem up_nats (sn : List Nat) (j : Nat) : Up0 (sn.map (fun k : Nat => [AV.int .i64 (k : Int)]) ++ [[AV.int .i64 (j : Int)]]) := by
  have := up_map (f := fun k : Nat => [AV.int .i64 (k : Int)]) (fun d => rfl) (sn ++ [j])
  rwa [List.map_append] at this
theorem nodup_lt : ∀ (n : Nat) (l : List Nat), l.Nodup → (∀ i, i ∈ l → i < n) → l.length ≤ n
  | 0, l, _, h2 => by
    cases l with
    | nil => simp
    | cons a l => exact absurd (h2 a (by simp)) (by omega)
  | n + 1, l, h, h2 => by
    have := nodup_lt n (l.erase n) (h.erase n) fun i hi => by
      have h3 := (h.mem_erase_iff.1 hi)
      have := h2 i h3.2
      omega
    rw [List.length_erase] at this
    split at this <;> omega
theorem call_sortF0 {P : Program} (hP : Try.prog = P) {h : AHeap} {K : AV → AHeap → Prop} (hK : K (.tuple []) h) :
    ACall P 56 [.nils, .func (.func 57) [] []] h K := by
  subst hP
  refine ⟨⟨_, Try.func56, by kernel_rfl, by kernel_rfl⟩, fun C vs hC RC hv => ?_⟩
  subst hC
  obtain ⟨hvl, hv0⟩ := hv
  have hvs : vs = #[vs.getD 0 undef, vs.getD 1 undef] := by
    have hn : vs.size = 2 := by simpa using hvl
    obtain ⟨l⟩ := vs
    match l, hn with
    | [x, y], _ => rfl
  have e0 := (hv0 0 _ rfl).nils'
  rw [hvs, e0]
  have hcall := AnyF.slices_SortFunc_none (P := Try.prog) Try.sortFL none 0 (vs.getD 1 undef) C.w
  refine hcall.mono ?_
  rintro e w' ⟨rfl, rfl⟩
  exact ⟨_, _, _, rfl, hK, rfl, RC, .tuple [] #[] rfl (fun i x hx => by simp at hx), Ext.refl _ _, Nat.le_refl _⟩
theorem e_rightR (a b : Int) (o : Bool) (h : o = decide (a ≤ b)) : PCalls Try.prog 27 [.agg [.int .i64 a, .int .i64 b]] (· = .bool o) := by
  (refine PCalls.ofX Try.func27 (by kernel_rfl) (by kernel_rfl) fun w hw R hR => ?_); (conv => arg 2; cbv); (generalize hP : Try.prog = P); cbv
  subst hw
  exact ⟨_, Vw.same rfl, hR _ (by rw [h]; rfl)⟩
set_option maxHeartbeats 2000000 in
theorem e_grows (ss : List Sg) (gs : List Gr) (es ds : List (List AV)) (hes : es = ss.map sgRow) (hds : ds = gs.map grRow) (hln : LensOk ss) (hnx : NextOk ss) (lo hi from_ : Int) (hf : 0 ≤ from_ ∧ from_ ≤ 1099511627776) (ls : List (List Int)) (hls : ∀ l, l ∈ ls → WayOk ss l) (hsz1 : ls.length ≤ 1000) (rs : List (List AV)) (hrs : rs = ls.map rtC) (v : (Int × List (List Int)) × Int) (hv : v = growA ss lo hi from_ ls) :
    PCalls Try.prog 19 [.agg [.int .i64 from_, .list 13 rs], .agg [.list 3 es, .list 5 ds], .agg [.int .i64 lo, .int .i64 hi]] (· = .tuple [.agg [.int .i64 v.1.1, .list 13 (v.1.2.map rtC)], .int .i64 v.2]) := by
  have hu : Up0 es := by rw [hes]; exact up_sg ss
  have hud : Up0 ds := by rw [hds]; exact up_gr gs
  have hur : Up0 rs := by rw [hrs]; exact up_map (f := rtC) (fun d => rfl) ls
  obtain ⟨⟨v1, v2⟩, v3⟩ := v
  obtain ⟨vs, evs⟩ : ∃ x, x = v2.map rtC := ⟨_, rfl⟩
  show PCalls Try.prog 19 [.agg [.int .i64 from_, .list 13 rs], .agg [.list 3 es, .list 5 ds], .agg [.int .i64 lo, .int .i64 hi]] (· = .tuple [.agg [.int .i64 v1, .list 13 (v2.map rtC)], .int .i64 v3])
  rw [← evs]
  obtain ⟨o, eo⟩ : ∃ o, o = decide (lo ≤ hi) := ⟨_, rfl⟩
  (refine PCalls.ofY Try.func19 (by kernel_rfl) (by kernel_rfl) fun w hw R hR => ?_); (obtain ⟨wbin, wcmp, wun, wconv, wnot, wbeq, wmm, wscmp, wsadd, wslen, wsat, weqs, wlen, wnlen, wofNat, wtake, wdrop, wapp, wzero, wnat⟩ := w); (have hbin := Z.w1 hw); (have hcmp := Z.w2 hw); (have hun := Z.w3 hw); (have hconv := Z.w4 hw); (have hnot := Z.w5 hw); (have hbeq := Z.w6 hw); (have hmm := Z.w7 hw); (have hscmp := Z.w8 hw); (have hsadd := Z.w9 hw); (have hslen := Z.w10 hw); (have hsat := Z.w11 hw); (have heqs := Z.w12 hw); (have hlen := Z.w13 hw); (have hnlen := Z.w14 hw); (have hofNat := Z.w15 hw); (have htake := Z.w16 hw); (have hdrop := Z.w17 hw); (have happ := Z.w18 hw); (have hzero := Z.w19 hw); (have hnat := Z.w20 hw); (have hz := Z.z hw); (conv => arg 2; cbv); (generalize hP : Try.prog = P); cbv
  refine Call.stepE (by rw [← hP]; exact e_rightR lo hi o eo) rfl ?_
  cbv
  obtain ⟨a0, ea0⟩ : ∃ a0, a0 = -from_ := ⟨_, rfl⟩
  have c0 : wun .neg .i64 from_ = a0 := by rw [hun, ea0]; simp only [unStd]; rw [IntKind.wrap_i64]; omega
  by_cases hr : lo ≤ hi
  rotate_left 1
  · have n1 : wnot o = true := by rw [hnot, eo]; simp [hr]
    simp only [n1]
    cbv
    have hva : (v1, v2, v3) = (0, [], 40) := by
      unfold growA at hv; rw [if_pos (.inl (by omega))] at hv
      simp only [Prod.mk.injEq] at hv ⊢; exact ⟨hv.1.1, hv.1.2, hv.2⟩
    simp only [Prod.mk.injEq] at hva
    obtain ⟨rfl, rfl, rfl⟩ := hva
    subst evs
    exact ⟨_, Vw.tuple (rs := [.agg [.int .i64 0, .list 13 []], .int .i64 40]) ⟨Vw.agg (rs := [.int .i64 0, .list 13 []]) ⟨Vw.same rfl, Vw.nil 13, trivial⟩, Vw.same rfl, trivial⟩, hR _ rfl⟩
  have n1 : wnot o = false := by rw [hnot, eo]; simp [hr]
  simp only [n1]
  cbv
  simp only [c0]
  (split <;> rename_i h1 <;> (try (simp only [hz, Z.a, binStd, cmpStd, unStd, scmpStd, maxI, reduceCtorEq] at h1)) <;> (try cbv))
  · have hva : (v1, v2, v3) = (0, [], 40) := by
      unfold growA at hv; rw [if_pos (.inr (by omega))] at hv
      simp only [Prod.mk.injEq] at hv ⊢; exact ⟨hv.1.1, hv.1.2, hv.2⟩
    simp only [Prod.mk.injEq] at hva
    obtain ⟨rfl, rfl, rfl⟩ := hva
    subst evs
    exact ⟨_, Vw.tuple (rs := [.agg [.int .i64 0, .list 13 []], .int .i64 40]) ⟨Vw.agg (rs := [.int .i64 0, .list 13 []]) ⟨Vw.same rfl, Vw.nil 13, trivial⟩, Vw.same rfl, trivial⟩, hR _ rfl⟩
  (obtain ⟨L, eL, L0, Ln⟩ : ∃ L : Int, wlen rs = L ∧ 0 ≤ L ∧ L.toNat = rs.length := ⟨(rs.length : Int), by rw [hlen], Int.natCast_nonneg _, Int.toNat_natCast _⟩)
  simp only [eL]
  have hemp : Up0 ([] : List (List AV)) := ⟨rfl⟩
  have hrl : rs.length = ls.length := by rw [hrs]; simp
  unfold growA at hv
  rw [if_neg (show ¬ (hi < lo ∨ lo < -from_) by omega)] at hv
  refine Loop.data hw (S := Int × (Int × List (List Int)) × List (List AV)) (fun s => fr 84 [(3, .ref 0 2 0 0), (4, .ref 1 2 0 0), (6, .ref 3 2 0 0), (8, .ref 5 6 0 0), (31, .list 13 rs), (32, .int .i64 L), (33, .int .i64 s.1)])
    (fun s => [.live 2 [[.int .i64 from_, .list 13 rs]], .live 2 [[.list 3 es, .list 5 ds]], .live 2 [[.int .i64 lo, .int .i64 hi]], .live 2 [[.int .i64 0, .nils]], .live 0 s.2.2, .live 6 [[.list 3 es, .list 5 ds, .int .i64 lo, .int .i64 hi, .mapr 4, .int .i64 s.2.1.1]]])
    (fun s => 0 ≤ s.1 ∧ s.1 ≤ L ∧ s.2.1 = growS ss lo hi from_ (ls.take s.1.toNat) ∧ GOk s.2.1 ∧ (s.2.1.1 = 0 ∨ s.2.1.1 = 13) ∧ s.2.2 = ents s.2.1.2 ∧ Up0 s.2.2) (fun s => (L - s.1).toNat) (0, (0, []), []) (by (refine Wk.eqz (id) (by first | exact fun i _ j _ e => e | (simp only [List.length_cons, List.length_nil]; decide)) ?_; cbv; (repeat' (first | exact trivial | rfl | assumption | apply And.intro | (simp only [hz, Z.a, binStd, cmpStd, unStd, scmpStd, maxI, reduceCtorEq]; first | done | assumption) | exact RowsZ.same (by assumption) (by first | assumption | rfl) | exact FzL.mk rfl rfl rfl (by assumption) (by first | assumption | rfl) (by decide) | (refine RowsZ.one ?_; cbv))))) ⟨Int.le_refl _, L0, rfl, ⟨by simp, fun _ => by simp, fun k hk => by simp at hk, List.nodup_nil⟩, .inl rfl, rfl, hemp⟩ ?_
  rintro ⟨i, ⟨e, m⟩, em⟩ hinv Q' hN hE hR'
  have hinv : 0 ≤ i ∧ i ≤ L ∧ (e, m) = growS ss lo hi from_ (ls.take i.toNat) ∧ GOk (e, m) ∧ (e = 0 ∨ e = 13) ∧ em = ents m ∧ Up0 em := hinv
  cbv
  obtain ⟨hi0, hi1, hfold, hok, he, hem, hum⟩ := hinv
  (split <;> rename_i hc <;> (try (simp only [hz, Z.a, binStd, cmpStd, unStd, scmpStd, maxI, reduceCtorEq] at hc)) <;> (try cbv))
  · have hit : i.toNat < ls.length := by omega
    obtain ⟨l, hl⟩ : ∃ l, ls[i.toNat]? = some l := ⟨_, List.getElem?_eq_getElem hit⟩
    have hlo := hls l (List.mem_of_getElem? hl)
    obtain ⟨i2, ei2⟩ : ∃ z, z = i + 1 := ⟨_, rfl⟩
    have a4 : wbin .add .i64 i 1 = i2 := by rw [hbin, ei2]; show IntKind.i64.wrap (i + 1) = i + 1; rw [IntKind.wrap_i64]; omega
    have hri : rs[i.toNat]? = some (toR l).row := by rw [hrs, List.getElem?_map, hl]; rfl
    obtain ⟨y, ey⟩ : ∃ y, y = endF ss from_ l := ⟨_, rfl⟩
    have hend := e_end ss gs es ds hes hds hln from_ hf rs hur l hlo.len.1 hlo.seg
    have hend : PCalls Try.prog 15 [.agg [.int .i64 from_, .list 13 rs], .agg [.list 3 es, .list 5 ds], .agg (toR l).row] (· = .int .i64 y) := by rw [ey]; exact hend
    obtain ⟨⟨e3, m3⟩, es3⟩ : ∃ s', s' = growF ss lo hi (13 - l.length) l y (e, m) := ⟨_, rfl⟩
    have hs2 : (e3, m3) = growS ss lo hi from_ (ls.take i2.toNat) := by
      rw [es3, ei2, take_next hi0 hl]
      unfold growS at hfold ⊢
      rw [List.foldl_append, ← hfold, List.foldl_cons, List.foldl_nil, ey]
    have hok2 := growF_ok ss lo hi (13 - l.length) l y (e, m) hok hlo.len
    have he2 := growF_e ss lo hi (13 - l.length) l y (e, m) he
    rw [← es3] at hok2 he2
    obtain ⟨em3, eem3⟩ : ∃ x, x = ents m3 := ⟨_, rfl⟩
    have hum3 : Up0 em3 := by rw [eem3]; exact up_ents m3
    have hyb := endF_le hln hf l
    rw [← ey] at hyb
    have hgr : ∀ {H : AHeap} {K : AV → AHeap → Prop}, H[5]? = some (.live 6 [[.list 3 es, .list 5 ds, .int .i64 lo, .int .i64 hi, .mapr 4, .int .i64 e]]) → H[4]? = some (.live 0 em) → K (.tuple []) ((H.set 5 (.live 6 [[.list 3 es, .list 5 ds, .int .i64 lo, .int .i64 hi, .mapr 4, .int .i64 e3]])).set 4 (.live 0 em3)) → ACall P 55 [.ref 5 6 0 0, .agg (toR l).row, .int .i64 y] H K := fun h1 h2 hK =>
      GrowC.call hu hud (e_growL ss gs es ds hes hds hln hnx lo hi l hlo.len) hP (by decide) h1 (by rw [← hem]; exact h2) hok he hyb hlo.seg (by rw [← es3, ← eem3]; exact hK)
    obtain ⟨row, erow⟩ : ∃ row, row = toR l := ⟨_, rfl⟩
    rw [← erow] at hri hend hgr
    obtain ⟨n, s0, s1, s2, s3, s4, s5, s6, s7, s8, s9, s10, s11⟩ := row
    refine Idx.mk _ hi0 hri ?_
    cbv
    have hup : ∀ n s0 s1 s2 s3 s4 s5 s6 s7 s8 s9 s10 s11 : Int, uptoL 0 [AV.agg [.int .i64 from_, .list 13 rs], .agg [.list 3 es, .list 5 ds], .agg [.int .i64 n, .int .i64 s0, .int .i64 s1, .int .i64 s2, .int .i64 s3, .int .i64 s4, .int .i64 s5, .int .i64 s6, .int .i64 s7, .int .i64 s8, .int .i64 s9, .int .i64 s10, .int .i64 s11]] = true := fun n s0 s1 s2 s3 s4 s5 s6 s7 s8 s9 s10 s11 => by simp only [uptoL, AV.upto, hu.get, hud.get, hur.get]; rfl
    refine QCal.stepE (by rw [← hP]; exact hend) (hup _ _ _ _ _ _ _ _ _ _ _ _ _) ?_
    cbv
    refine Call.of (hgr rfl rfl ?_)
    cbv
    simp only [a4]
    refine hN (i2, (e3, m3), em3) _ _ ?hx ?hi ?ht
    case hx => (refine Wk.eqz (id) (by first | exact fun i _ j _ e => e | (simp only [List.length_cons, List.length_nil]; decide)) ?_; cbv; (repeat' (first | exact trivial | rfl | assumption | apply And.intro | (simp only [hz, Z.a, binStd, cmpStd, unStd, scmpStd, maxI, reduceCtorEq]; first | done | assumption) | exact RowsZ.same (by assumption) (by first | assumption | rfl) | exact FzL.mk rfl rfl rfl (by assumption) (by first | assumption | rfl) (by decide) | (refine RowsZ.one ?_; cbv))))
    case hi => exact ⟨by simp only; omega, by simp only; omega, hs2, hok2, he2, eem3, hum3⟩
    case ht => simp only; omega
  refine hE _ _ _ ?_
  cbv
  have hsv : (e, m) = growS ss lo hi from_ ls := by rw [hfold, List.take_of_length_le (by omega)]
  rw [← hsv] at hv
  clear hfold
  have htwo : ∀ x, x ∈ em → x.length = 2 := by rw [hem]; exact ents_two m
  obtain ⟨nE, enE⟩ : ∃ n : Int, n = em.length := ⟨_, rfl⟩
  refine Xo.range (kt := 39) (et := 3) (by rw [← hP]; kernel_rfl) rfl htwo nE enE ?_
  cbv
  refine Loop.data hw (S := List Nat × List (List AV) × Option (Nat × List (List AV))) (fun s => fr 84 [(6, .ref 3 2 0 0), (8, .ref 5 6 0 0), (11, .ref 6 2 0 0), (52, .ref 7 0 0 0)])
    (fun s => match s.2.2 with
      | none => [.live 2 [[.int .i64 from_, .list 13 rs]], .live 2 [[.list 3 es, .list 5 ds]], .live 2 [[.int .i64 lo, .int .i64 hi]], .live 2 [[.int .i64 0, .nils]], .live 0 em, .live 6 [[.list 3 es, .list 5 ds, .int .i64 lo, .int .i64 hi, .mapr 4, .int .i64 e]], .live 2 [[.int .i64 from_, .nils]], .live 0 ([.mapr 4, .int .i64 nE, .int .i64 nE] :: s.2.1)]
      | some (k, w) => [.live 2 [[.int .i64 from_, .list 13 rs]], .live 2 [[.list 3 es, .list 5 ds]], .live 2 [[.int .i64 lo, .int .i64 hi]], .live 2 [[.int .i64 0, .nils]], .live 0 em, .live 6 [[.list 3 es, .list 5 ds, .int .i64 lo, .int .i64 hi, .mapr 4, .int .i64 e]], .live 2 [[.int .i64 from_, .sl 8 13 0 k]], .live 0 ([.mapr 4, .int .i64 nE, .int .i64 nE] :: s.2.1), .live 13 w])
    (fun s => s.1.Nodup ∧ (∀ i, i ∈ s.1 → i < m.length) ∧ s.2.1 = s.1.map (fun k : Nat => [AV.int .i64 (k : Int)]) ∧ Up0 s.2.1 ∧ (match s.2.2 with | none => s.1 = [] | some (k, w) => s.1 ≠ [] ∧ k = s.1.length ∧ k = w.length ∧ Up0 w ∧ w = s.1.map (fun i => rtC (m.getD i [])))) (fun s => m.length - s.1.length) ([], [], none) (by (refine Wk.eqz (id) (by first | exact fun i _ j _ e => e | (simp only [List.length_cons, List.length_nil]; decide)) ?_; cbv; (repeat' (first | exact trivial | rfl | assumption | apply And.intro | (simp only [hz, Z.a, binStd, cmpStd, unStd, scmpStd, maxI, reduceCtorEq]; first | done | assumption) | exact RowsZ.same (by assumption) (by first | assumption | rfl) | exact FzL.mk rfl rfl rfl (by assumption) (by first | assumption | rfl) (by decide) | (refine RowsZ.one ?_; cbv))))) ⟨List.nodup_nil, (fun i hi => by simp at hi), rfl, hemp, rfl⟩ ?_
  rintro ⟨sn, sr, acc⟩ hinv Q' hN hE hR'
  cases acc with
  | none =>
    have hinv : sn.Nodup ∧ (∀ i, i ∈ sn → i < m.length) ∧ sr = sn.map (fun k : Nat => [AV.int .i64 (k : Int)]) ∧ Up0 sr ∧ sn = [] := hinv
    obtain ⟨hnd, hin, hsr, husr, hs0⟩ := hinv
    cbv
    refine Xo.next (es := em) (sr := sr) (sn := sn) rfl rfl htwo enE hsr ?_ ?_
    · intro hall
      cbv
      refine hE _ _ _ ?_
      cbv
      have hm0 : m = [] := by
        have : em.length = 0 := by
          by_cases h0 : em.length = 0
          · exact h0
          · have := hall 0 (by omega); rw [hs0] at this; simp at this
        rw [hem, ents_len] at this
        exact List.length_eq_zero_iff.1 this
      rw [hm0] at hv
      refine Call.of (call_sortF0 hP ?_)
      cbv
      (split <;> rename_i he0 <;> (try (simp only [hz, Z.a, binStd, cmpStd, unStd, scmpStd, maxI, reduceCtorEq] at he0)) <;> (try cbv))
      · rw [if_pos (show ¬ (e, ([] : List (List Int))).1 = 0 from he0)] at hv
        simp only [Prod.mk.injEq] at hv
        obtain ⟨⟨rfl, rfl⟩, rfl⟩ := hv
        subst evs
        repeat' (refine And.intro ?_ ?_)
        all_goals exact ⟨_, Vw.tuple (rs := [.agg [.int .i64 0, .list 13 []], .int .i64 v3]) ⟨Vw.agg (rs := [.int .i64 0, .list 13 []]) ⟨Vw.same rfl, Vw.nil 13, trivial⟩, Vw.same rfl, trivial⟩, hR _ rfl⟩
      · have c2 : wofNat 0 = 0 := by rw [hofNat]; rfl
        have c3 : wcmp .eql 0 0 = true := by rw [hcmp]; rfl
        simp only [c2, c3]
        cbv
        rw [if_neg (show ¬ ¬ (e, ([] : List (List Int))).1 = 0 from fun h => h he0), if_pos rfl] at hv
        simp only [Prod.mk.injEq] at hv
        obtain ⟨⟨rfl, rfl⟩, rfl⟩ := hv
        subst evs
        repeat' (refine And.intro ?_ ?_)
        all_goals exact ⟨_, Vw.tuple (rs := [.agg [.int .i64 0, .list 13 []], .int .i64 40]) ⟨Vw.agg (rs := [.int .i64 0, .list 13 []]) ⟨Vw.same rfl, Vw.nil 13, trivial⟩, Vw.same rfl, trivial⟩, hR _ rfl⟩
    · intro j kx vx hj hjs
      obtain ⟨l, hl, rfl, rfl⟩ : ∃ l, m[j]? = some l ∧ kx = .agg (toR l).row ∧ vx = .int .i64 (lenI l) := by
        rw [hem] at hjs
        unfold ents at hjs
        rw [List.getElem?_map] at hjs
        cases hm : m[j]? with
        | none => rw [hm] at hjs; cases hjs
        | some l =>
          rw [hm] at hjs
          simp only [Option.map_some, Option.some.injEq, enR, List.cons.injEq, and_true] at hjs
          exact ⟨l, rfl, hjs.1.symm, hjs.2.symm⟩
      have hjm : j < m.length := (List.getElem?_eq_some_iff.1 hl).1
      have hgl : m.getD j [] = l := by rw [List.getD_eq_getElem?_getD, hl]; rfl
      obtain ⟨sr2, esr2⟩ : ∃ x, x = sr ++ [[AV.int .i64 (j : Int)]] := ⟨_, rfl⟩
      have husr2 : Up0 sr2 := by rw [esr2, hsr]; exact up_nats sn j
      obtain ⟨row, erow⟩ : ∃ row, row = toR l := ⟨_, rfl⟩
      obtain ⟨q, eq⟩ : ∃ q, q = lenI l := ⟨_, rfl⟩
      rw [← erow, ← eq] at hjs
      rw [← erow, ← eq, ← esr2]
      have hsr2 : sr2 = (sn ++ [j]).map fun k : Nat => [AV.int .i64 (k : Int)] := by rw [esr2, hsr]; simp
      have hnd2 : (sn ++ [j]).Nodup := List.nodup_append.2 ⟨hnd, by simp, fun a ha b hb => by simp at hb; subst hb; exact fun e => hj (e ▸ ha)⟩
      have hin2 : ∀ i, i ∈ sn ++ [j] → i < m.length := fun i hi => by
        rcases List.mem_append.1 hi with hi | hi
        · exact hin i hi
        · simp at hi; omega
      have hlt : sn.length < m.length := by
        have := nodup_lt (m.length) (sn ++ [j]) hnd2 hin2
        simp at this; omega
      have erow2 : row.row = rtC l := by rw [erow]; rfl
      obtain ⟨n, s0, s1, s2, s3, s4, s5, s6, s7, s8, s9, s10, s11⟩ := row
      cbv
      refine Xo.entry (es := em) (sr := sr2) (sr0 := sr) (sn := sn) rfl rfl htwo enE hsr esr2 hjs ?_
      cbv
      refine Ob.mk (by decide) ?_
      refine hN (sn ++ [j], sr2, some (1, [[.int .i64 n, .int .i64 s0, .int .i64 s1, .int .i64 s2, .int .i64 s3, .int .i64 s4, .int .i64 s5, .int .i64 s6, .int .i64 s7, .int .i64 s8, .int .i64 s9, .int .i64 s10, .int .i64 s11]])) _ _ ?hx ?hi ?ht
      case hx => (refine Wk.eqz (fun j => [0, 1, 2, 3, 4, 5, 6, 7, 9].getD j 0) (by first | exact fun i _ j _ e => e | (simp only [List.length_cons, List.length_nil]; decide)) ?_; cbv; (repeat' (first | exact trivial | rfl | assumption | (refine RowsZ.hd (es0 := sr2) (by assumption) rfl rfl ?_; cbv) | apply And.intro | (simp only [hz, Z.a, binStd, cmpStd, unStd, scmpStd, maxI, reduceCtorEq]; first | done | assumption) | exact RowsZ.same (by assumption) (by first | assumption | rfl) | exact FzL.mk rfl rfl rfl (by assumption) (by first | assumption | rfl) (by decide) | (refine RowsZ.one ?_; cbv))))
      case hi => exact ⟨hnd2, hin2, hsr2, husr2, by simp, by rw [hs0]; rfl, rfl, ⟨rfl⟩, by rw [hs0]; show [R13.row ⟨n, s0, s1, s2, s3, s4, s5, s6, s7, s8, s9, s10, s11⟩] = [rtC (m.getD j [])]; rw [hgl, ← erow2]⟩
      case ht => simp only [List.length_append, List.length_cons, List.length_nil]; omega
  | some acc =>
    obtain ⟨k, w⟩ := acc
    have hinv : sn.Nodup ∧ (∀ i, i ∈ sn → i < m.length) ∧ sr = sn.map (fun k : Nat => [AV.int .i64 (k : Int)]) ∧ Up0 sr ∧ (sn ≠ [] ∧ k = sn.length ∧ k = w.length ∧ Up0 w ∧ w = sn.map (fun i => rtC (m.getD i []))) := hinv
    obtain ⟨hnd, hin, hsr, husr, hs0, hk, hkw, huw, hw2⟩ := hinv
    cbv
    refine Xo.next (es := em) (sr := sr) (sn := sn) rfl rfl htwo enE hsr ?_ ?_
    · intro hall
      cbv
      refine hE _ _ _ ?_
      cbv
      have hsp : sn.Perm (List.range m.length) := (List.perm_ext_iff_of_nodup hnd List.nodup_range).2 fun i => ⟨fun h => List.mem_range.2 (hin i h), fun h => hall i (by rw [hem, ents_len]; exact List.mem_range.1 h)⟩
      have hperm : (sn.map fun i => toR (m.getD i [])).Perm (m.map toR) := by
        have e1 : (List.range m.length).map (fun i => toR (m.getD i [])) = m.map toR := by
          apply List.ext_getElem
          · simp
          · intro i h1 h2
            simp at h1 h2
            simp [List.getD_eq_getElem?_getD, h2]
        rw [← e1]; exact hsp.map _
      have hmn : m ≠ [] := fun h => by
        rw [h] at hin
        cases sn with
        | nil => exact hs0 rfl
        | cons a l => exact absurd (hin a (by simp)) (by simp)
      refine Call.of (call_sortF hP (s := 8) (n := k) (rs := sn.map fun i => toR (m.getD i [])) rfl (by rw [hw2, List.map_map]; rfl) (by rw [hk, List.length_map]) (by rw [List.length_map]; have := nodup_lt _ _ hnd hin; have : m.length ≤ 17 := hok.len; omega) ?_)
      intro rs' hp1 hp2
      have hrs' := sortR_unique (hp1.trans hperm) hp2
      have hrl' : rs'.length = k := by rw [hp1.length_eq, hk, List.length_map]
      obtain ⟨ws, ews⟩ : ∃ x, x = rs'.map R13.row := ⟨_, rfl⟩
      have hws : ws = (sortR m).map rtC := by rw [ews, hrs', List.map_map]; rfl
      have huws : Up0 ws := by rw [hws]; exact up_map (f := rtC) (fun d => rfl) _
      have hwl : ws.length = k := by rw [ews, List.length_map, hrl']
      rw [← ews]
      clear hw2
      cbv
      (split <;> rename_i he0 <;> (try (simp only [hz, Z.a, binStd, cmpStd, unStd, scmpStd, maxI, reduceCtorEq] at he0)) <;> (try cbv))
      · rw [if_pos (show ¬ (e, m).1 = 0 from he0)] at hv
        simp only [Prod.mk.injEq] at hv
        obtain ⟨⟨rfl, rfl⟩, rfl⟩ := hv
        subst evs
        repeat' (refine And.intro ?_ ?_)
        all_goals exact ⟨_, Vw.tuple (rs := [.agg [.int .i64 0, .list 13 []], .int .i64 v3]) ⟨Vw.agg (rs := [.int .i64 0, .list 13 []]) ⟨Vw.same rfl, Vw.nil 13, trivial⟩, Vw.same rfl, trivial⟩, hR _ rfl⟩
      · have c2 : wcmp .eql (wofNat k) 0 = false := by rw [hcmp, hofNat]; simp only [cmpStd]; rw [beq_eq_false_iff_ne]; have h9 : sn.length ≠ 0 := (fun h => hs0 (List.length_eq_zero_iff.1 h)); show (k : Int) ≠ 0; omega
        simp only [c2]
        cbv
        rw [if_neg (show ¬ ¬ (e, m).1 = 0 from fun h => h he0), if_neg hmn] at hv
        simp only [Prod.mk.injEq] at hv
        obtain ⟨⟨rfl, rfl⟩, rfl⟩ := hv
        have e1 : (ws.drop 0).take k = ws := by rw [List.drop_zero, List.take_of_length_le (by omega)]
        have hvw : ∀ h : AHeap, h[8]? = some (.live 13 ws) → Vw h (.sl 8 13 0 k) (.list 13 ws) := fun h hh => by
          have := Vw.sl hh huws.get (i := 0) (n := k) (by omega)
          rwa [e1] at this
        exact ⟨_, Vw.tuple (rs := [.agg [.int .i64 v1, .list 13 ws], .int .i64 0]) ⟨Vw.agg (rs := [.int .i64 v1, .list 13 ws]) ⟨Vw.same rfl, hvw _ rfl, trivial⟩, Vw.same rfl, trivial⟩, hR _ (by rw [evs, hws])⟩
    · intro j kx vx hj hjs
      obtain ⟨l, hl, rfl, rfl⟩ : ∃ l, m[j]? = some l ∧ kx = .agg (toR l).row ∧ vx = .int .i64 (lenI l) := by
        rw [hem] at hjs
        unfold ents at hjs
        rw [List.getElem?_map] at hjs
        cases hm : m[j]? with
        | none => rw [hm] at hjs; cases hjs
        | some l =>
          rw [hm] at hjs
          simp only [Option.map_some, Option.some.injEq, enR, List.cons.injEq, and_true] at hjs
          exact ⟨l, rfl, hjs.1.symm, hjs.2.symm⟩
      have hjm : j < m.length := (List.getElem?_eq_some_iff.1 hl).1
      have hgl : m.getD j [] = l := by rw [List.getD_eq_getElem?_getD, hl]; rfl
      obtain ⟨sr2, esr2⟩ : ∃ x, x = sr ++ [[AV.int .i64 (j : Int)]] := ⟨_, rfl⟩
      have husr2 : Up0 sr2 := by rw [esr2, hsr]; exact up_nats sn j
      obtain ⟨row, erow⟩ : ∃ row, row = toR l := ⟨_, rfl⟩
      obtain ⟨q, eq⟩ : ∃ q, q = lenI l := ⟨_, rfl⟩
      rw [← erow, ← eq] at hjs
      rw [← erow, ← eq, ← esr2]
      have hsr2 : sr2 = (sn ++ [j]).map fun k : Nat => [AV.int .i64 (k : Int)] := by rw [esr2, hsr]; simp
      have hnd2 : (sn ++ [j]).Nodup := List.nodup_append.2 ⟨hnd, by simp, fun a ha b hb => by simp at hb; subst hb; exact fun e => hj (e ▸ ha)⟩
      have hin2 : ∀ i, i ∈ sn ++ [j] → i < m.length := fun i hi => by
        rcases List.mem_append.1 hi with hi | hi
        · exact hin i hi
        · simp at hi; omega
      have hlt : sn.length < m.length := by
        have := nodup_lt (m.length) (sn ++ [j]) hnd2 hin2
        simp at this; omega
      have erow2 : row.row = rtC l := by rw [erow]; rfl
      obtain ⟨n, s0, s1, s2, s3, s4, s5, s6, s7, s8, s9, s10, s11⟩ := row
      cbv
      refine Xo.entry (es := em) (sr := sr2) (sr0 := sr) (sn := sn) rfl rfl htwo enE hsr esr2 hjs ?_
      cbv
      obtain ⟨w2, ew2⟩ : ∃ x, x = w ++ [[.int .i64 n, .int .i64 s0, .int .i64 s1, .int .i64 s2, .int .i64 s3, .int .i64 s4, .int .i64 s5, .int .i64 s6, .int .i64 s7, .int .i64 s8, .int .i64 s9, .int .i64 s10, .int .i64 s11]] := ⟨_, rfl⟩
      obtain ⟨k2, ek2⟩ : ∃ x, x = k + 1 := ⟨_, rfl⟩
      have hw3 : w2 = (sn ++ [j]).map (fun i => rtC (m.getD i [])) := by rw [ew2, hw2, List.map_append]; show _ ++ [R13.row ⟨n, s0, s1, s2, s3, s4, s5, s6, s7, s8, s9, s10, s11⟩] = _ ++ [rtC (m.getD j [])]; rw [hgl, ← erow2]
      have huw2 : Up0 w2 := by rw [hw3]; exact up_map (f := fun i => rtC (m.getD i [])) (fun d => rfl) (sn ++ [j])
      have hm17 : m.length ≤ 17 := hok.len
      refine App.mk w2 k2 ew2 hkw ek2 (by omega) (by omega) ?_
      cbv
      refine hN (sn ++ [j], sr2, some (k2, w2)) _ _ ?hx ?hi ?ht
      case hx => (refine Wk.eqz (fun j => [0, 1, 2, 3, 4, 5, 6, 7, 10].getD j 0) (by first | exact fun i _ j _ e => e | (simp only [List.length_cons, List.length_nil]; decide)) ?_; cbv; (repeat' (first | exact trivial | rfl | assumption | (refine RowsZ.hd (es0 := sr2) (by assumption) rfl rfl ?_; cbv) | apply And.intro | (simp only [hz, Z.a, binStd, cmpStd, unStd, scmpStd, maxI, reduceCtorEq]; first | done | assumption) | exact RowsZ.same (by assumption) (by first | assumption | rfl) | exact FzL.mk rfl rfl rfl (by assumption) (by first | assumption | rfl) (by decide) | (refine RowsZ.one ?_; cbv))))
      case hi => exact ⟨hnd2, hin2, hsr2, husr2, by simp, by simp; omega, by rw [ew2, ek2]; simp; omega, huw2, hw3⟩
      case ht => simp only [List.length_append, List.length_cons, List.length_nil]; omega
end Go.Proofs.Ytpiocfmdjgbamaa

/- Ways that have grown, plainly. -/
namespace Go.Proofs.Ytpiocfmdjgbamaa
open Go Go.RowKit Go.Eng
def leafP (ss : List Sg) (lo hi from_ : Int) (l : List Int) : Prop := lo ≤ endF ss from_ l ∧ (hi ≤ endF ss from_ l ∨ nxAt ss (lastI l) = [])
theorem endF_snoc (ss : List Sg) (from_ : Int) (l : List Int) (n : Int) : endF ss from_ (l ++ [n]) = endF ss from_ l + lenAt ss n := by unfold endF; rw [List.foldl_append]; rfl
theorem lastI_snoc : ∀ (l : List Int) (n : Int), lastI (l ++ [n]) = n
  | [], n => rfl
  | [a], n => rfl
  | a :: b :: l, n => lastI_snoc (b :: l) n
theorem WayOk.snoc {ss : List Sg} (hnx : NextOk ss) {l : List Int} (h : WayOk ss l) (h12 : l.length ≠ 12) {n q : Int} (hn : n ∈ nxAt ss q) : WayOk ss (l ++ [n]) := by
  have h1 := h.len
  refine ⟨by simp; omega, fun x hx => ?_⟩
  rcases List.mem_append.1 hx with hx | hx
  · exact h.seg x hx
  · simp at hx; subst hx; exact nxAt_ok hnx hn
theorem growF_all {ss : List Sg} (hnx : NextOk ss) {lo hi from_ : Int} : ∀ (f : Nat) (l : List Int) (s : Int × List (List Int)), WayOk ss l → (∀ k, k ∈ s.2 → WayOk ss k ∧ leafP ss lo hi from_ k) → ∀ k, k ∈ (growF ss lo hi f l (endF ss from_ l) s).2 → WayOk ss k ∧ leafP ss lo hi from_ k
  | 0, l, s, hl, hs => hs
  | f + 1, l, s, hl, hs => by
    unfold growF
    split
    · exact hs
    · split
      · rename_i hc
        intro k hk
        by_cases hlo : lo ≤ endF ss from_ l
        · simp only [if_pos hlo] at hk
          rcases putL_mem.1 hk with hk | rfl
          · exact hs k hk
          · exact ⟨hl, hlo, hc⟩
        · simp only [if_neg hlo] at hk
          exact hs k hk
      · split
        · exact hs
        · rename_i h12
          have step : ∀ (ns : List Int) (s : Int × List (List Int)), (∀ n, n ∈ ns → n ∈ nxAt ss (lastI l)) → (∀ k, k ∈ s.2 → WayOk ss k ∧ leafP ss lo hi from_ k) → ∀ k, k ∈ (ns.foldl (fun s n => growF ss lo hi f (l ++ [n]) (endF ss from_ l + lenAt ss n) s) s).2 → WayOk ss k ∧ leafP ss lo hi from_ k := by
            intro ns
            induction ns with
            | nil => intro s _ h; exact h
            | cons n ns ih =>
              intro s hns h
              refine ih _ (fun x hx => hns x (List.mem_cons_of_mem _ hx)) ?_
              have := growF_all hnx f (l ++ [n]) s (hl.snoc hnx h12 (hns n List.mem_cons_self)) h
              rw [endF_snoc] at this
              exact this
          exact step _ s (fun n hn => hn) hs
theorem fold_ind {α β : Type} {f : β → α → β} {P : β → Prop} : ∀ (l : List α) (s : β), P s → (∀ s a, a ∈ l → P s → P (f s a)) → P (l.foldl f s)
  | [], s, h, _ => h
  | a :: l, s, h, hf => fold_ind l (f s a) (hf s a List.mem_cons_self h) fun s b hb => hf s b (List.mem_cons_of_mem _ hb)
theorem growS_all {ss : List Sg} (hnx : NextOk ss) {lo hi from_ : Int} (ls : List (List Int)) (hl : ∀ l, l ∈ ls → WayOk ss l) : ∀ k, k ∈ (growS ss lo hi from_ ls).2 → WayOk ss k ∧ leafP ss lo hi from_ k :=
  fold_ind (P := fun s : Int × List (List Int) => ∀ k, k ∈ s.2 → WayOk ss k ∧ leafP ss lo hi from_ k) ls _ (fun k hk => by simp at hk) fun s l h hs => growF_all hnx _ l s (hl l h) hs
theorem growS_ok {ss : List Sg} {lo hi from_ : Int} (ls : List (List Int)) (hl : ∀ l, l ∈ ls → WayOk ss l) : GOk (growS ss lo hi from_ ls) :=
  fold_ind (P := GOk) ls _ ⟨by simp, fun _ => by simp, fun k hk => by simp at hk, List.nodup_nil⟩ fun s l h hs => growF_ok ss lo hi _ l _ s hs (hl l h).len
theorem growS_e {ss : List Sg} {lo hi from_ : Int} (ls : List (List Int)) : (growS ss lo hi from_ ls).1 = 0 ∨ (growS ss lo hi from_ ls).1 = 13 :=
  fold_ind (P := fun s : Int × List (List Int) => s.1 = 0 ∨ s.1 = 13) ls _ (.inl rfl) fun s l h hs => growF_e ss lo hi _ l _ s hs
theorem growF_leaf {ss : List Sg} {lo hi from_ : Int} {l : List Int} (h : leafP ss lo hi from_ l) (hl : WayOk ss l) (m : List (List Int)) : growF ss lo hi (13 - l.length) l (endF ss from_ l) (0, m) = (if 16 < (putL m l).length then 13 else 0, putL m l) := by
  obtain ⟨f, hf⟩ : ∃ f, 13 - l.length = f + 1 := ⟨12 - l.length, by have := hl.len; omega⟩
  rw [hf]
  unfold growF
  rw [if_neg (by simp), if_pos h.2]
  simp only [if_pos h.1]
theorem growS_leaves {ss : List Sg} {lo hi from_ : Int} : ∀ (ls m : List (List Int)), (∀ l, l ∈ ls → WayOk ss l ∧ leafP ss lo hi from_ l) → (m ++ ls).Nodup → (m ++ ls).length ≤ 16 → ls.foldl (fun s l => growF ss lo hi (13 - l.length) l (endF ss from_ l) s) (0, m) = (0, m ++ ls)
  | [], m, _, _, _ => by simp
  | l :: ls, m, hl, hn, h16 => by
    have hm : l ∉ m := fun h => by
      have := (List.nodup_append.1 hn).2.2 l h l List.mem_cons_self
      exact this rfl
    have hp : putL m l = m ++ [l] := by unfold putL; rw [if_neg hm]
    rw [List.foldl_cons, growF_leaf (hl l List.mem_cons_self).2 (hl l List.mem_cons_self).1, hp]
    have h1 : ¬ 16 < (m ++ [l]).length := by simp at h16 ⊢; omega
    rw [if_neg h1, growS_leaves ls (m ++ [l]) (fun k hk => hl k (List.mem_cons_of_mem _ hk)) (by simpa using hn) (by simpa using h16)]
    simp
theorem insR_le (l : List Int) : ∀ m, (∀ x, x ∈ m → ¬ ltR x l) → insR l m = l :: m
  | [], _ => rfl
  | k :: m, h => by unfold insR; rw [if_neg (h k List.mem_cons_self)]
theorem sortR_fix : ∀ m : List (List Int), m.Pairwise (fun x y => ¬ ltR y x) → sortR m = m
  | [], _ => rfl
  | l :: m, h => by
    obtain ⟨h1, h2⟩ := List.pairwise_cons.1 h
    show insR l (sortR m) = l :: m
    rw [sortR_fix m h2, insR_le l m h1]
theorem sortR_mem {m : List (List Int)} {l : List Int} : l ∈ sortR m ↔ l ∈ m := (sortR_perm m).mem_iff
structure Grown (ss : List Sg) (lo hi from_ : Int) (m : List (List Int)) : Prop where
  le : lo ≤ hi ∧ -from_ ≤ lo
  ways : ∀ l, l ∈ m → WayOk ss l ∧ leafP ss lo hi from_ l
  nd : m.Nodup
  few : m.length ≤ 16
  some : m ≠ []
  sort : m.Pairwise (fun x y => ¬ ltR y x)
theorem growA_ok {ss : List Sg} (hnx : NextOk ss) {lo hi from_ : Int} (ls : List (List Int)) (hl : ∀ l, l ∈ ls → WayOk ss l) {v : (Int × List (List Int)) × Int} (hv : v = growA ss lo hi from_ ls) : (v.2 ≠ 0 ∧ v.1.2 = []) ∨ (v.2 = 0 ∧ v.1.1 = from_ ∧ Grown ss lo hi from_ v.1.2) := by
  unfold growA at hv
  split at hv
  · rw [hv]; exact .inl ⟨by decide, rfl⟩
  · rename_i h1
    split at hv
    · rename_i h2; rw [hv]; exact .inl ⟨h2, rfl⟩
    · rename_i h2
      have h2 : (growS ss lo hi from_ ls).1 = 0 := Classical.not_not.1 h2
      split at hv
      · rw [hv]; exact .inl ⟨by decide, rfl⟩
      · rename_i h3
        rw [hv]
        have hok := growS_ok (lo := lo) (hi := hi) (from_ := from_) ls hl
        exact .inr ⟨rfl, rfl, by omega, fun l h => growS_all hnx ls hl l (sortR_mem.1 h), (sortR_perm _).nodup_iff.2 hok.nd, by rw [(sortR_perm _).length_eq]; exact hok.few h2,
          fun h => h3 (List.length_eq_zero_iff.1 (by rw [← (sortR_perm _).length_eq]; simp only at h; rw [h]; rfl)), sortR_sorted _⟩
theorem Grown.again {ss : List Sg} {lo hi from_ : Int} {m : List (List Int)} (h : Grown ss lo hi from_ m) {hi' : Int} (h1 : lo ≤ hi') (h2 : hi' ≤ hi) : growA ss lo hi' from_ m = ((from_, m), 0) := by
  have hs : growS ss lo hi' from_ m = (0, m) := by
    have := growS_leaves (ss := ss) (lo := lo) (hi := hi') (from_ := from_) m [] (fun l hl => ⟨(h.ways l hl).1, (h.ways l hl).2.1, (h.ways l hl).2.2.imp (fun k => by omega) id⟩) (by simpa using h.nd) (by simpa using h.few)
    simpa [growS] using this
  have h0 := h.le
  unfold growA
  rw [if_neg (by omega), hs, if_neg (by simp), if_neg h.some, sortR_fix m h.sort]
end Go.Proofs.Ytpiocfmdjgbamaa

/- odographref14: End, Less, Put. -/
namespace Go.Proofs.Ytpiocfmdjgbamaa
open Go Go.RowKit Go.Eng
set_option maxRecDepth 100000
set_option maxHeartbeats 1000000 in
theorem e_rend (ss : List Sg) (gs : List Gr) (es ds : List (List AV)) (hes : es = ss.map sgRow) (hds : ds = gs.map grRow) (hln : LensOk ss) (from_ : Int) (hf : 0 ≤ from_ ∧ from_ ≤ 1099511627776) (l : List Int) (hl : l.length ≤ 12) (hb : ∀ n, n ∈ l → 0 ≤ n ∧ n.toNat < ss.length) (ns : List (List AV)) (hns : ns = l.map nxRow) (y : Int) (ey : y = endF ss from_ l) :
    PCalls Try.prog 16 [.agg [.list 3 es, .list 5 ds], .int .i64 from_, .list 1 ns] (· = .int .i64 y) := by
  have hu : Up0 es := by rw [hes]; exact up_sg ss
  have hud : Up0 ds := by rw [hds]; exact up_gr gs
  have huns : Up0 ns := by rw [hns]; exact up_nx l
  have hnl : ns.length = l.length := by rw [hns]; simp
  (refine PCalls.ofY Try.func16 (by kernel_rfl) (by kernel_rfl) fun w hw R hR => ?_); (obtain ⟨wbin, wcmp, wun, wconv, wnot, wbeq, wmm, wscmp, wsadd, wslen, wsat, weqs, wlen, wnlen, wofNat, wtake, wdrop, wapp, wzero, wnat⟩ := w); (have hbin := Z.w1 hw); (have hcmp := Z.w2 hw); (have hun := Z.w3 hw); (have hconv := Z.w4 hw); (have hnot := Z.w5 hw); (have hbeq := Z.w6 hw); (have hmm := Z.w7 hw); (have hscmp := Z.w8 hw); (have hsadd := Z.w9 hw); (have hslen := Z.w10 hw); (have hsat := Z.w11 hw); (have heqs := Z.w12 hw); (have hlen := Z.w13 hw); (have hnlen := Z.w14 hw); (have hofNat := Z.w15 hw); (have htake := Z.w16 hw); (have hdrop := Z.w17 hw); (have happ := Z.w18 hw); (have hzero := Z.w19 hw); (have hnat := Z.w20 hw); (have hz := Z.z hw); (conv => arg 2; cbv); (generalize hP : Try.prog = P); cbv
  obtain ⟨a0, ea0⟩ : ∃ a0, a0 = -from_ := ⟨_, rfl⟩
  have c0 : wun .neg .i64 from_ = a0 := by rw [hun, ea0]; simp only [unStd]; rw [IntKind.wrap_i64]; omega
  simp only [c0]
  (obtain ⟨L, eL, L0, Ln⟩ : ∃ L : Int, wlen ns = L ∧ 0 ≤ L ∧ L.toNat = ns.length := ⟨(ns.length : Int), by rw [hlen], Int.natCast_nonneg _, Int.toNat_natCast _⟩)
  refine Loop.data hw (S := Int × Int) (fun s => fr 29 [(2, .list 1 ns), (3, .ref 0 2 0 0), (7, .int .i64 s.2), (8, .int .i64 s.1)])
    (fun s => [.live 2 [[.list 3 es, .list 5 ds]]])
    (fun s => 0 ≤ s.1 ∧ s.1 ≤ L ∧ s.2 = (l.take s.1.toNat).foldl (fun e n => e + lenAt ss n) a0 ∧ -1099511627776 ≤ s.2 ∧ s.2 ≤ s.1 * 1099511627776) (fun s => (L - s.1).toNat) (0, a0) (by (refine Wk.eqz (id) (by first | exact fun i _ j _ e => e | (simp only [List.length_cons, List.length_nil]; decide)) ?_; cbv; (repeat' (first | exact trivial | rfl | assumption | apply And.intro | (simp only [hz, Z.a, binStd, cmpStd, unStd, scmpStd, maxI, reduceCtorEq]; first | done | assumption) | exact RowsZ.same (by assumption) (by first | assumption | rfl) | exact FzL.mk rfl rfl rfl (by assumption) (by first | assumption | rfl) (by decide) | (refine RowsZ.one ?_; cbv))))) ⟨Int.le_refl _, L0, rfl, by simp only; omega, by simp only; omega⟩ ?_
  rintro ⟨i, e⟩ hinv Q' hN hE hR'
  have hinv : 0 ≤ i ∧ i ≤ L ∧ e = (l.take i.toNat).foldl (fun e n => e + lenAt ss n) a0 ∧ -1099511627776 ≤ e ∧ e ≤ i * 1099511627776 := hinv
  cbv
  obtain ⟨hi0, hi1, hfold, hb1, hb2⟩ := hinv
  simp only [eL]
  (split <;> rename_i hc <;> (try (simp only [hz, Z.a, binStd, cmpStd, unStd, scmpStd, maxI, reduceCtorEq] at hc)) <;> (try cbv))
  · have hit : i.toNat < l.length := by omega
    obtain ⟨q, hq⟩ : ∃ q, l[i.toNat]? = some q := ⟨_, List.getElem?_eq_getElem hit⟩
    have hni : ns[i.toNat]? = some (nxRow q) := by rw [hns, List.getElem?_map, hq]; rfl
    have hnb := hb q (List.mem_of_getElem? hq)
    obtain ⟨sg1, hd1, hrow1⟩ := get_map (f := sgRow) (ds := ss) (i := q) hnb.1 hnb.2
    have hle : lenAt ss q = sg1.len := by unfold lenAt; rw [hd1]
    have hl1 := hln.pos sg1 (List.mem_of_getElem? hd1)
    obtain ⟨len1, pcs1, nx1⟩ := sg1
    have hl1 : 1 ≤ len1 ∧ len1 ≤ 1099511627776 := hl1
    have hle : lenAt ss q = len1 := hle
    obtain ⟨q1, eq1⟩ : ∃ x, pcs1.map pcRow = x := ⟨_, rfl⟩
    obtain ⟨q2, eq2⟩ : ∃ x, nx1.map nxRow = x := ⟨_, rfl⟩
    have hrow1 : es[q.toNat]? = some [.int .i64 len1, .list 2 q1, .list 1 q2] := by rw [hes, ← eq1, ← eq2]; exact hrow1
    obtain ⟨e2, ee2⟩ : ∃ z, z = e + len1 := ⟨_, rfl⟩
    obtain ⟨i2, ei2⟩ : ∃ z, z = i + 1 := ⟨_, rfl⟩
    have a3 : wbin .add .i64 e len1 = e2 := by rw [hbin, ee2]; show IntKind.i64.wrap (e + len1) = e + len1; rw [IntKind.wrap_i64]; omega
    have a4 : wbin .add .i64 i 1 = i2 := by rw [hbin, ei2]; show IntKind.i64.wrap (i + 1) = i + 1; rw [IntKind.wrap_i64]; omega
    have hf2 : e2 = (l.take i2.toNat).foldl (fun e n => e + lenAt ss n) a0 := by
      rw [ei2, take_next hi0 hq, List.foldl_append, ← hfold, List.foldl_cons, List.foldl_nil, hle, ee2]
    refine Idx.mk _ hi0 hni ?_
    cbv
    refine Idx.mk _ hnb.1 hrow1 ?_
    cbv
    simp only [a3, a4]
    refine hN (i2, e2) _ _ ?hx ?hi ?ht
    case hx => (refine Wk.eqz (id) (by first | exact fun i _ j _ e => e | (simp only [List.length_cons, List.length_nil]; decide)) ?_; cbv; (repeat' (first | exact trivial | rfl | assumption | apply And.intro | (simp only [hz, Z.a, binStd, cmpStd, unStd, scmpStd, maxI, reduceCtorEq]; first | done | assumption) | exact RowsZ.same (by assumption) (by first | assumption | rfl) | exact FzL.mk rfl rfl rfl (by assumption) (by first | assumption | rfl) (by decide) | (refine RowsZ.one ?_; cbv))))
    case hi => exact ⟨by simp only; omega, by simp only; omega, hf2, by simp only; omega, by simp only; omega⟩
    case ht => simp only; omega
  · refine hE _ _ _ ?_
    cbv
    have : e = y := by rw [ey, hfold, List.take_of_length_le (by omega), ea0]; rfl
    exact ⟨_, Vw.same rfl, hR _ (by rw [this]; rfl)⟩
theorem ltL_at : ∀ (i : Nat) (l m : List Int), l.length = m.length → (∀ j, j < i → l.getD j 0 = m.getD j 0) → i < l.length → l.getD i 0 ≠ m.getD i 0 → (ltL l m ↔ l.getD i 0 < m.getD i 0)
  | _, [], _, _, _, h, _ => absurd h (by simp)
  | _, _ :: _, [], hl, _, _, _ => absurd hl (by simp)
  | 0, a :: l, b :: m, hl, _, _, hne => by
    simp only [List.getD_cons_zero] at hne ⊢
    simp only [ltL]
    exact ⟨fun h => h.elim id fun h => absurd h.1 hne, .inl⟩
  | i + 1, a :: l, b :: m, hl, hj, hi, hne => by
    have h0 := hj 0 (by omega)
    simp only [List.getD_cons_zero] at h0
    simp only [List.getD_cons_succ] at hne ⊢
    have ih := ltL_at i l m (by simpa using hl) (fun j h => by have := hj (j + 1) (by omega); simpa using this) (by simpa using hi) hne
    rw [← ih]
    simp only [ltL]
    exact ⟨fun h => h.elim (fun h => by omega) fun h => h.2, fun h => .inr ⟨h0, h⟩⟩
theorem ltL_all {l m : List Int} (hl : l.length = m.length) (h : ∀ j, j < l.length → l.getD j 0 = m.getD j 0) : ¬ ltL l m := by
  have : l = m := List.ext_getElem hl fun i h1 h2 => by have := h i h1; simpa [List.getD_eq_getElem?_getD, h1, h2] using this
  rw [this]; exact ltL_irrefl m
theorem key_at (l : List Int) (i : Nat) (hi : i < 12) : (toR l).key.getD i 0 = l.getD i 0 := by
  match i, hi with
  | 0, _ => rfl
  | 1, _ => rfl
  | 2, _ => rfl
  | 3, _ => rfl
  | 4, _ => rfl
  | 5, _ => rfl
  | 6, _ => rfl
  | 7, _ => rfl
  | 8, _ => rfl
  | 9, _ => rfl
  | 10, _ => rfl
  | 11, _ => rfl
theorem key_last (l : List Int) : (toR l).key.getD 12 0 = lenI l := rfl
theorem ltR_at {a b : List Int} {i : Nat} (hi : i < 12) (h : ∀ j, j < i → a.getD j 0 = b.getD j 0) (hne : a.getD i 0 ≠ b.getD i 0) : ltR a b ↔ a.getD i 0 < b.getD i 0 := by
  have := ltL_at i (toR a).key (toR b).key rfl (fun j hj => by rw [key_at a j (by omega), key_at b j (by omega)]; exact h j hj) (show i < 13 by omega) (by rw [key_at a i hi, key_at b i hi]; exact hne)
  rw [key_at a i hi, key_at b i hi] at this
  exact this
theorem ltR_len {a b : List Int} (h : ∀ j, j < 12 → a.getD j 0 = b.getD j 0) : ltR a b ↔ a.length < b.length := by
  by_cases hl : a.length = b.length
  · have h1 : ¬ ltR a b := ltL_all rfl fun j hj => by
      have hj : j < 13 := hj
      by_cases h12 : j = 12
      · subst h12; rw [key_last, key_last, lenI_len, lenI_len, hl]
      · rw [key_at a j (by omega), key_at b j (by omega)]; exact h j (by omega)
    exact ⟨fun h => absurd h h1, fun h => by omega⟩
  · have := ltL_at 12 (toR a).key (toR b).key rfl (fun j hj => by rw [key_at a j hj, key_at b j hj]; exact h j hj) (show 12 < 13 by omega) (by rw [key_last, key_last, lenI_len, lenI_len]; omega)
    rw [key_last, key_last, lenI_len, lenI_len] at this
    unfold ltR
    rw [this]; omega
set_option maxHeartbeats 1000000 in
theorem e_less (a b : List Int) (ha : a.length ≤ 12) (hb : b.length ≤ 12) (ra rb : List (List AV)) (has : ra = a.map nxRow) (hbs : rb = b.map nxRow) (o : Bool) (ho : o = decide (ltR a b)) :
    PCalls Try.prog 96 [.list 1 ra, .list 1 rb] (· = .bool o) := by
  have hua : Up0 ra := by rw [has]; exact up_nx a
  have hub : Up0 rb := by rw [hbs]; exact up_nx b
  have hal : ra.length = a.length := by rw [has]; simp
  have hbl : rb.length = b.length := by rw [hbs]; simp
  (refine PCalls.ofY Try.func96 (by kernel_rfl) (by kernel_rfl) fun w hw R hR => ?_); (obtain ⟨wbin, wcmp, wun, wconv, wnot, wbeq, wmm, wscmp, wsadd, wslen, wsat, weqs, wlen, wnlen, wofNat, wtake, wdrop, wapp, wzero, wnat⟩ := w); (have hbin := Z.w1 hw); (have hcmp := Z.w2 hw); (have hun := Z.w3 hw); (have hconv := Z.w4 hw); (have hnot := Z.w5 hw); (have hbeq := Z.w6 hw); (have hmm := Z.w7 hw); (have hscmp := Z.w8 hw); (have hsadd := Z.w9 hw); (have hslen := Z.w10 hw); (have hsat := Z.w11 hw); (have heqs := Z.w12 hw); (have hlen := Z.w13 hw); (have hnlen := Z.w14 hw); (have hofNat := Z.w15 hw); (have htake := Z.w16 hw); (have hdrop := Z.w17 hw); (have happ := Z.w18 hw); (have hzero := Z.w19 hw); (have hnat := Z.w20 hw); (have hz := Z.z hw); (conv => arg 2; cbv); (generalize hP : Try.prog = P); cbv
  (obtain ⟨L, eL, L0, Ln⟩ : ∃ L : Int, wlen ra = L ∧ 0 ≤ L ∧ L.toNat = ra.length := ⟨(ra.length : Int), by rw [hlen], Int.natCast_nonneg _, Int.toNat_natCast _⟩)
  (obtain ⟨M, eM, M0, Mn⟩ : ∃ L : Int, wlen rb = L ∧ 0 ≤ L ∧ L.toNat = rb.length := ⟨(rb.length : Int), by rw [hlen], Int.natCast_nonneg _, Int.toNat_natCast _⟩)
  refine Loop.data hw (S := Int) (fun i => fr 39 [(0, .list 1 ra), (1, .list 1 rb), (5, .int .i64 i)]) (fun s => [])
    (fun i => 0 ≤ i ∧ i ≤ 12 ∧ ∀ j, j < i.toNat → a.getD j 0 = b.getD j 0) (fun i => (12 - i).toNat) 0 (by (refine Wk.eqz (id) (by first | exact fun i _ j _ e => e | (simp only [List.length_cons, List.length_nil]; decide)) ?_; cbv; (repeat' (first | exact trivial | rfl | assumption | apply And.intro | (simp only [hz, Z.a, binStd, cmpStd, unStd, scmpStd, maxI, reduceCtorEq]; first | done | assumption) | exact RowsZ.same (by assumption) (by first | assumption | rfl) | exact FzL.mk rfl rfl rfl (by assumption) (by first | assumption | rfl) (by decide) | (refine RowsZ.one ?_; cbv))))) ⟨Int.le_refl _, by decide, fun j hj => (by simp at hj)⟩ ?_
  rintro i hinv Q' hN hE hR'
  have hinv : 0 ≤ i ∧ i ≤ 12 ∧ ∀ j, j < i.toNat → a.getD j 0 = b.getD j 0 := hinv
  cbv
  obtain ⟨hi0, hi1, hpre⟩ := hinv
  (split <;> rename_i hc <;> (try (simp only [hz, Z.a, binStd, cmpStd, unStd, scmpStd, maxI, reduceCtorEq] at hc)) <;> (try cbv))
  · obtain ⟨x, ex⟩ : ∃ x, x = a.getD i.toNat 0 := ⟨_, rfl⟩
    obtain ⟨y, ey⟩ : ∃ y, y = b.getD i.toNat 0 := ⟨_, rfl⟩
    obtain ⟨i2, ei2⟩ : ∃ z, z = i + 1 := ⟨_, rfl⟩
    have a4 : wbin .add .i64 i 1 = i2 := by rw [hbin, ei2]; show IntKind.i64.wrap (i + 1) = i + 1; rw [IntKind.wrap_i64]; omega
    have hra : i.toNat < a.length → ra[i.toNat]? = some (nxRow x) := fun h => by rw [has, List.getElem?_map, ex, List.getD_eq_getElem?_getD, List.getElem?_eq_getElem h]; rfl
    have hrb : i.toNat < b.length → rb[i.toNat]? = some (nxRow y) := fun h => by rw [hbs, List.getElem?_map, ey, List.getD_eq_getElem?_getD, List.getElem?_eq_getElem h]; rfl
    have hxz : a.length ≤ i.toNat → x = 0 := fun h => by rw [ex, List.getD_eq_getElem?_getD, List.getElem?_eq_none h]; rfl
    have hyz : b.length ≤ i.toNat → y = 0 := fun h => by rw [ey, List.getD_eq_getElem?_getD, List.getElem?_eq_none h]; rfl
    (split <;> rename_i h1 <;> (try (simp only [eL] at h1)) <;> (try (simp only [hz, Z.a, binStd, cmpStd, unStd, scmpStd, maxI, reduceCtorEq] at h1)) <;> (try cbv))
    · refine Idx.mk _ hi0 (hra (by omega)) ?_
      cbv
      (split <;> rename_i h2 <;> (try (simp only [eM] at h2)) <;> (try (simp only [hz, Z.a, binStd, cmpStd, unStd, scmpStd, maxI, reduceCtorEq] at h2)) <;> (try cbv))
      · refine Idx.mk _ hi0 (hrb (by omega)) ?_
        cbv
        (split <;> rename_i h3 <;> (try (simp only [hz, Z.a, binStd, cmpStd, unStd, scmpStd, maxI, reduceCtorEq] at h3)) <;> (try cbv))
        · refine hR' _ _ ⟨_, Vw.same rfl, hR _ ?_⟩
          have := ltR_at (a := a) (b := b) (i := i.toNat) (by omega) hpre (by rw [← ex, ← ey]; exact h3)
          rw [ho, hcmp]
          simp only [cmpStd]
          show AV.bool _ = AV.bool _
          congr 1
          rw [decide_eq_decide, this, ← ex, ← ey]
        · simp only [a4]
          refine hN i2 _ _ ?hx ?hi ?ht
          case hx => (refine Wk.eqz (id) (by first | exact fun i _ j _ e => e | (simp only [List.length_cons, List.length_nil]; decide)) ?_; cbv; (repeat' (first | exact trivial | rfl | assumption | apply And.intro | (simp only [hz, Z.a, binStd, cmpStd, unStd, scmpStd, maxI, reduceCtorEq]; first | done | assumption) | exact RowsZ.same (by assumption) (by first | assumption | rfl) | exact FzL.mk rfl rfl rfl (by assumption) (by first | assumption | rfl) (by decide) | (refine RowsZ.one ?_; cbv))))
          case hi =>
            refine ⟨by omega, by omega, fun j hj => ?_⟩
            by_cases hji : j = i.toNat
            · rw [hji, ← ex, ← ey]; first | exact h3 | rfl
            · exact hpre j (by omega)
          case ht => omega
      · obtain rfl : y = 0 := hyz (by omega)
        (split <;> rename_i h3 <;> (try (simp only [hz, Z.a, binStd, cmpStd, unStd, scmpStd, maxI, reduceCtorEq] at h3)) <;> (try cbv))
        · refine hR' _ _ ⟨_, Vw.same rfl, hR _ ?_⟩
          have := ltR_at (a := a) (b := b) (i := i.toNat) (by omega) hpre (by rw [← ex, ← ey]; exact h3)
          rw [ho, hcmp]
          simp only [cmpStd]
          show AV.bool _ = AV.bool _
          congr 1
          rw [decide_eq_decide, this, ← ex, ← ey]
        · simp only [a4]
          refine hN i2 _ _ ?hx ?hi ?ht
          case hx => (refine Wk.eqz (id) (by first | exact fun i _ j _ e => e | (simp only [List.length_cons, List.length_nil]; decide)) ?_; cbv; (repeat' (first | exact trivial | rfl | assumption | apply And.intro | (simp only [hz, Z.a, binStd, cmpStd, unStd, scmpStd, maxI, reduceCtorEq]; first | done | assumption) | exact RowsZ.same (by assumption) (by first | assumption | rfl) | exact FzL.mk rfl rfl rfl (by assumption) (by first | assumption | rfl) (by decide) | (refine RowsZ.one ?_; cbv))))
          case hi =>
            refine ⟨by omega, by omega, fun j hj => ?_⟩
            by_cases hji : j = i.toNat
            · rw [hji, ← ex, ← ey]; first | exact h3 | rfl
            · exact hpre j (by omega)
          case ht => omega
    · obtain rfl : x = 0 := hxz (by omega)
      (split <;> rename_i h2 <;> (try (simp only [eM] at h2)) <;> (try (simp only [hz, Z.a, binStd, cmpStd, unStd, scmpStd, maxI, reduceCtorEq] at h2)) <;> (try cbv))
      · refine Idx.mk _ hi0 (hrb (by omega)) ?_
        cbv
        (split <;> rename_i h3 <;> (try (simp only [hz, Z.a, binStd, cmpStd, unStd, scmpStd, maxI, reduceCtorEq] at h3)) <;> (try cbv))
        · refine hR' _ _ ⟨_, Vw.same rfl, hR _ ?_⟩
          have := ltR_at (a := a) (b := b) (i := i.toNat) (by omega) hpre (by rw [← ex, ← ey]; exact h3)
          rw [ho, hcmp]
          simp only [cmpStd]
          show AV.bool _ = AV.bool _
          congr 1
          rw [decide_eq_decide, this, ← ex, ← ey]
        · simp only [a4]
          refine hN i2 _ _ ?hx ?hi ?ht
          case hx => (refine Wk.eqz (id) (by first | exact fun i _ j _ e => e | (simp only [List.length_cons, List.length_nil]; decide)) ?_; cbv; (repeat' (first | exact trivial | rfl | assumption | apply And.intro | (simp only [hz, Z.a, binStd, cmpStd, unStd, scmpStd, maxI, reduceCtorEq]; first | done | assumption) | exact RowsZ.same (by assumption) (by first | assumption | rfl) | exact FzL.mk rfl rfl rfl (by assumption) (by first | assumption | rfl) (by decide) | (refine RowsZ.one ?_; cbv))))
          case hi =>
            refine ⟨by omega, by omega, fun j hj => ?_⟩
            by_cases hji : j = i.toNat
            · rw [hji, ← ex, ← ey]; first | exact h3 | rfl
            · exact hpre j (by omega)
          case ht => omega
      · obtain rfl : y = 0 := hyz (by omega)
        have c9 : wcmp .neq 0 0 = false := by rw [hcmp]; rfl
        simp only [c9]
        cbv
        simp only [a4]
        refine hN i2 _ _ ?hx ?hi ?ht
        case hx => (refine Wk.eqz (id) (by first | exact fun i _ j _ e => e | (simp only [List.length_cons, List.length_nil]; decide)) ?_; cbv; (repeat' (first | exact trivial | rfl | assumption | apply And.intro | (simp only [hz, Z.a, binStd, cmpStd, unStd, scmpStd, maxI, reduceCtorEq]; first | done | assumption) | exact RowsZ.same (by assumption) (by first | assumption | rfl) | exact FzL.mk rfl rfl rfl (by assumption) (by first | assumption | rfl) (by decide) | (refine RowsZ.one ?_; cbv))))
        case hi =>
          refine ⟨by omega, by omega, fun j hj => ?_⟩
          by_cases hji : j = i.toNat
          · rw [hji, ← ex, ← ey]
          · exact hpre j (by omega)
        case ht => omega
  · refine hE _ _ _ ?_
    cbv
    simp only [eL, eM]
    refine ⟨_, Vw.same rfl, hR _ ?_⟩
    have := ltR_len (a := a) (b := b) fun j hj => hpre j (by omega)
    rw [ho, hcmp]
    simp only [cmpStd]
    show AV.bool _ = AV.bool _
    congr 1
    rw [decide_eq_decide, this]
    omega
def putQ : List (List Int) → List Int → List (List Int)
  | [], r => [r]
  | k :: l, r => if ltR k r then k :: putQ l r else if ltR r k then r :: k :: l else k :: l
theorem drop_get {α : Type} {l : List α} {i : Nat} {a : α} (h : l[i]? = some a) : l.drop i = a :: l.drop (i + 1) := by
  have h1 := (List.getElem?_eq_some_iff.1 h)
  rw [List.drop_eq_getElem_cons h1.1, h1.2]
theorem putQ_lt {k r : List Int} (h : ltR k r) (l : List (List Int)) : putQ (k :: l) r = k :: putQ l r := by show (if ltR k r then _ else _) = _; rw [if_pos h]
theorem putQ_gt {k r : List Int} (h : ¬ ltR k r) (h2 : ltR r k) (l : List (List Int)) : putQ (k :: l) r = r :: k :: l := by show (if ltR k r then _ else _) = _; rw [if_neg h, if_pos h2]
theorem putQ_eq {k r : List Int} (h : ¬ ltR k r) (h2 : ¬ ltR r k) (l : List (List Int)) : putQ (k :: l) r = k :: l := by show (if ltR k r then _ else _) = _; rw [if_neg h, if_neg h2]
theorem up_one1 {xs : List (List AV)} (h : Up0 xs) : uptoLL 0 [[AV.list 1 xs]] = true := by simp only [uptoLL, uptoL, AV.upto, h.get]; rfl
theorem up_two {xs ys : List (List AV)} (h : Up0 xs) (k : Up0 ys) : uptoL 0 [AV.list 1 xs, .list 1 ys] = true := Up0.one h (Up0.one k rfl)
set_option maxHeartbeats 2000000 in
theorem e_put (l : List (List Int)) (r : List Int) (hl : ∀ k, k ∈ l → k.length ≤ 12) (hl16 : l.length ≤ 1000) (hr : r.length ≤ 12) (ls rs : List (List AV)) (hls : ls = l.map rtRow) (hrs : rs = r.map nxRow) :
    PCalls Try.prog 69 [.list 1 ls, .list 1 rs] (· = .list 1 ((putQ l r).map rtRow)) := by
  have hul : Up0 ls := by rw [hls]; exact up_rt l
  have hur : Up0 rs := by rw [hrs]; exact up_nx r
  have hll : ls.length = l.length := by rw [hls]; simp
  obtain ⟨q, eq⟩ : ∃ q, q = (putQ l r).map rtRow := ⟨_, rfl⟩
  rw [← eq]
  (refine PCalls.ofY Try.func69 (by kernel_rfl) (by kernel_rfl) fun w hw R hR => ?_); (obtain ⟨wbin, wcmp, wun, wconv, wnot, wbeq, wmm, wscmp, wsadd, wslen, wsat, weqs, wlen, wnlen, wofNat, wtake, wdrop, wapp, wzero, wnat⟩ := w); (have hbin := Z.w1 hw); (have hcmp := Z.w2 hw); (have hun := Z.w3 hw); (have hconv := Z.w4 hw); (have hnot := Z.w5 hw); (have hbeq := Z.w6 hw); (have hmm := Z.w7 hw); (have hscmp := Z.w8 hw); (have hsadd := Z.w9 hw); (have hslen := Z.w10 hw); (have hsat := Z.w11 hw); (have heqs := Z.w12 hw); (have hlen := Z.w13 hw); (have hnlen := Z.w14 hw); (have hofNat := Z.w15 hw); (have htake := Z.w16 hw); (have hdrop := Z.w17 hw); (have happ := Z.w18 hw); (have hzero := Z.w19 hw); (have hnat := Z.w20 hw); (have hz := Z.z hw); (conv => arg 2; cbv); (generalize hP : Try.prog = P); cbv
  (obtain ⟨L, eL, L0, Ln⟩ : ∃ L : Int, wlen ls = L ∧ 0 ≤ L ∧ L.toNat = ls.length := ⟨(ls.length : Int), by rw [hlen], Int.natCast_nonneg _, Int.toNat_natCast _⟩)
  refine Loop.data hw (S := Option (Int × Bool × List (List Int) × Nat × List (List AV))) (fun s => match s with
      | none => fr 49 [(0, .list 1 ls), (1, .list 1 rs), (5, .nils), (6, .bool false), (7, .int .i64 0)]
      | some (i, d, out, k, w) => fr 49 [(0, .list 1 ls), (1, .list 1 rs), (5, .sl 0 1 0 k), (6, .bool d), (7, .int .i64 i)])
    (fun s => match s with
      | none => []
      | some (i, d, out, k, w) => [.live 1 w])
    (fun s => match s with
      | none => True
      | some (i, d, out, k, w) => 0 ≤ i ∧ i ≤ L ∧ putQ l r = out ++ (if d then l.drop i.toNat else putQ (l.drop i.toNat) r) ∧ w = out.map rtRow ∧ Up0 w ∧ k = w.length ∧ out.length ≤ 2 * i.toNat) (fun s => match s with | none => L.toNat + 1 | some (i, _) => (L - i).toNat) none (by (refine Wk.eqz (id) (by first | exact fun i _ j _ e => e | (simp only [List.length_cons, List.length_nil]; decide)) ?_; cbv; (repeat' (first | exact trivial | rfl | assumption | apply And.intro | (simp only [hz, Z.a, binStd, cmpStd, unStd, scmpStd, maxI, reduceCtorEq]; first | done | assumption) | exact RowsZ.same (by assumption) (by first | assumption | rfl) | exact FzL.mk rfl rfl rfl (by assumption) (by first | assumption | rfl) (by decide) | (refine RowsZ.one ?_; cbv))))) trivial ?_
  rintro (_ | ⟨i, d, out, k, w⟩) hinv Q' hN hE hR'
  · cbv
    simp only [eL]
    (split <;> rename_i hc <;> (try (simp only [hz, Z.a, binStd, cmpStd, unStd, scmpStd, maxI, reduceCtorEq] at hc)) <;> (try cbv))
    · obtain ⟨k0, hk0⟩ : ∃ k0, l[0]? = some k0 := ⟨_, List.getElem?_eq_getElem (show 0 < l.length by omega)⟩
      obtain ⟨i2, ei2⟩ : ∃ z : Int, z = 0 + 1 := ⟨_, rfl⟩
      have a4 : wbin .add .i64 0 1 = i2 := by rw [hbin, ei2]; show IntKind.i64.wrap (0 + 1) = 0 + 1; rw [IntKind.wrap_i64]; omega
      have hD : l.drop 0 = k0 :: l.drop i2.toNat := by rw [drop_get hk0, show i2.toNat = 0 + 1 by omega]
      obtain ⟨xs, exs⟩ : ∃ x, x = k0.map nxRow := ⟨_, rfl⟩
      have huxs : Up0 xs := by rw [exs]; exact up_nx k0
      have hrow : ls[(0 : Int).toNat]? = some [.list 1 xs] := by rw [hls, List.getElem?_map, show (0 : Int).toNat = 0 from rfl, hk0, exs]; rfl
      have hk12 := hl k0 (List.mem_of_getElem? hk0)
      have n1 : wnot true = false := by rw [hnot]; rfl
      have n2 : wnot false = true := by rw [hnot]; rfl
      have hput : putQ l r = putQ (k0 :: l.drop i2.toNat) r := by rw [← hD, List.drop_zero]
      simp only [n2]
      cbv
      refine Idx.mk _ (by decide) hrow ?_
      cbv
      by_cases hq : ltR k0 r
      · refine Call.stepE (by rw [← hP]; exact e_less k0 r hk12 hr xs rs exs hrs true (by simp [hq])) (by exact up_two huxs hur) ?_
        cbv
        simp only [n1]
        cbv
        refine Idx.mk _ (by decide) hrow ?_
        cbv
        refine Ob.mk (by decide) ?_
        cbv
        have hwf : [[.list 1 xs]] = ([] ++ [k0]).map rtRow := by simp only [List.map_append, List.append_assoc, List.nil_append, List.map_cons, List.map_nil]; simp [rtRow, exs, hrs]
        have huwf : Up0 [[.list 1 xs]] := by rw [hwf]; exact up_rt _
        simp only [a4]
        refine hN (some (i2, false, [] ++ [k0], 1, [[.list 1 xs]])) _ _ ?hx ?hi ?ht
        case hx => (refine Wk.eqz (fun j => [0].getD j 0) (by first | exact fun i _ j _ e => e | (simp only [List.length_cons, List.length_nil]; decide)) ?_; cbv; (repeat' (first | exact trivial | rfl | assumption | apply And.intro | (simp only [hz, Z.a, binStd, cmpStd, unStd, scmpStd, maxI, reduceCtorEq]; first | done | assumption) | exact RowsZ.same (by assumption) (by first | assumption | rfl) | exact FzL.mk rfl rfl rfl (by assumption) (by first | assumption | rfl) (by decide) | (refine RowsZ.one ?_; cbv))))
        case hi => exact ⟨by omega, by omega, by rw [hput]; rw [putQ_lt hq]; simp, hwf, huwf, by first | rfl | omega, by simp only [List.length_append, List.length_cons, List.length_nil]; omega⟩
        case ht => show (L - i2).toNat < L.toNat + 1; omega
      · refine Call.stepE (by rw [← hP]; exact e_less k0 r hk12 hr xs rs exs hrs false (by simp [hq])) (by exact up_two huxs hur) ?_
        cbv
        simp only [n2]
        cbv
        refine Idx.mk _ (by decide) hrow ?_
        cbv
        by_cases hq2 : ltR r k0
        · refine Call.stepE (by rw [← hP]; exact e_less r k0 hr hk12 rs xs hrs exs true (by simp [hq2])) (by exact up_two hur huxs) ?_
          cbv
          refine Ob.mk (by decide) ?_
          cbv
          refine Idx.mk _ (by decide) hrow ?_
          cbv
          obtain ⟨w0, ew0⟩ : ∃ x : List (List AV), x = [[AV.list 1 rs]] ++ [[.list 1 xs]] := ⟨_, rfl⟩
          obtain ⟨k0', ek0'⟩ : ∃ x, x = 1 + 1 := ⟨_, rfl⟩
          have hl0 : w0.length = 2 := by rw [ew0]; simp
          refine App.mk w0 k0' ew0 (by simp) ek0' (by omega) (by omega) ?_
          cbv
          have hwf : w0 = ([] ++ [r, k0]).map rtRow := by simp only [ew0, List.map_append, List.append_assoc, List.nil_append, List.map_cons, List.map_nil]; simp [rtRow, exs, hrs]
          have huwf : Up0 w0 := by rw [hwf]; exact up_rt _
          simp only [a4]
          refine hN (some (i2, true, [] ++ [r, k0], k0', w0)) _ _ ?hx ?hi ?ht
          case hx => (refine Wk.eqz (fun j => [1].getD j 0) (by first | exact fun i _ j _ e => e | (simp only [List.length_cons, List.length_nil]; decide)) ?_; cbv; (repeat' (first | exact trivial | rfl | assumption | apply And.intro | (simp only [hz, Z.a, binStd, cmpStd, unStd, scmpStd, maxI, reduceCtorEq]; first | done | assumption) | exact RowsZ.same (by assumption) (by first | assumption | rfl) | exact FzL.mk rfl rfl rfl (by assumption) (by first | assumption | rfl) (by decide) | (refine RowsZ.one ?_; cbv))))
          case hi => exact ⟨by omega, by omega, by rw [hput]; rw [putQ_gt hq hq2]; simp, hwf, huwf, by first | rfl | omega, by simp only [List.length_append, List.length_cons, List.length_nil]; omega⟩
          case ht => show (L - i2).toNat < L.toNat + 1; omega
        · refine Call.stepE (by rw [← hP]; exact e_less r k0 hr hk12 rs xs hrs exs false (by simp [hq2])) (by exact up_two hur huxs) ?_
          cbv
          refine Idx.mk _ (by decide) hrow ?_
          cbv
          refine Ob.mk (by decide) ?_
          cbv
          have hwf : [[.list 1 xs]] = ([] ++ [k0]).map rtRow := by simp only [List.map_append, List.append_assoc, List.nil_append, List.map_cons, List.map_nil]; simp [rtRow, exs, hrs]
          have huwf : Up0 [[.list 1 xs]] := by rw [hwf]; exact up_rt _
          simp only [a4]
          refine hN (some (i2, true, [] ++ [k0], 1, [[.list 1 xs]])) _ _ ?hx ?hi ?ht
          case hx => (refine Wk.eqz (fun j => [0].getD j 0) (by first | exact fun i _ j _ e => e | (simp only [List.length_cons, List.length_nil]; decide)) ?_; cbv; (repeat' (first | exact trivial | rfl | assumption | apply And.intro | (simp only [hz, Z.a, binStd, cmpStd, unStd, scmpStd, maxI, reduceCtorEq]; first | done | assumption) | exact RowsZ.same (by assumption) (by first | assumption | rfl) | exact FzL.mk rfl rfl rfl (by assumption) (by first | assumption | rfl) (by decide) | (refine RowsZ.one ?_; cbv))))
          case hi => exact ⟨by omega, by omega, by rw [hput]; rw [putQ_eq hq hq2]; simp, hwf, huwf, by first | rfl | omega, by simp only [List.length_append, List.length_cons, List.length_nil]; omega⟩
          case ht => show (L - i2).toNat < L.toNat + 1; omega
    · refine hE _ _ _ ?_
      cbv
      have hl0 : l = [] := List.length_eq_zero_iff.1 (by omega)
      simp only [show wnot false = true by rw [hnot]; rfl]
      cbv
      refine Ob.mk (by decide) ?_
      cbv
      refine ⟨_, Vw.sl (n := 1) (i := 0) rfl (by exact up_one1 hur) (by simp), hR _ ?_⟩
      rw [eq, hl0, hrs]; rfl
  · have hinv : 0 ≤ i ∧ i ≤ L ∧ putQ l r = out ++ (if d then l.drop i.toNat else putQ (l.drop i.toNat) r) ∧ w = out.map rtRow ∧ Up0 w ∧ k = w.length ∧ out.length ≤ 2 * i.toNat := hinv
    cbv
    obtain ⟨hi0, hi1, hput, hw2, huw, hk, hsz⟩ := hinv
    have hwl : w.length = out.length := by rw [hw2]; simp
    simp only [eL]
    (split <;> rename_i hc <;> (try (simp only [hz, Z.a, binStd, cmpStd, unStd, scmpStd, maxI, reduceCtorEq] at hc)) <;> (try cbv))
    · obtain ⟨k0, hk0⟩ : ∃ k0, l[i.toNat]? = some k0 := ⟨_, List.getElem?_eq_getElem (show i.toNat < l.length by omega)⟩
      obtain ⟨i2, ei2⟩ : ∃ z : Int, z = i + 1 := ⟨_, rfl⟩
      have a4 : wbin .add .i64 i 1 = i2 := by rw [hbin, ei2]; show IntKind.i64.wrap (i + 1) = i + 1; rw [IntKind.wrap_i64]; omega
      have hD : l.drop i.toNat = k0 :: l.drop i2.toNat := by rw [drop_get hk0, show i2.toNat = i.toNat + 1 by omega]
      obtain ⟨xs, exs⟩ : ∃ x, x = k0.map nxRow := ⟨_, rfl⟩
      have huxs : Up0 xs := by rw [exs]; exact up_nx k0
      have hrow : ls[(i : Int).toNat]? = some [.list 1 xs] := by rw [hls, List.getElem?_map, show (i : Int).toNat = i.toNat from rfl, hk0, exs]; rfl
      have hk12 := hl k0 (List.mem_of_getElem? hk0)
      have n1 : wnot true = false := by rw [hnot]; rfl
      have n2 : wnot false = true := by rw [hnot]; rfl
      cases d with
      | true =>
        cbv
        simp only [n1]
        cbv
        refine Idx.mk _ hi0 hrow ?_
        cbv
        obtain ⟨w0, ew0⟩ : ∃ x : List (List AV), x = w ++ [[.list 1 xs]] := ⟨_, rfl⟩
        obtain ⟨k0', ek0'⟩ : ∃ x, x = k + 1 := ⟨_, rfl⟩
        have hl0 : w0.length = w.length + 1 := by rw [ew0]; simp
        refine App.mk w0 k0' ew0 hk ek0' (by omega) (by omega) ?_
        cbv
        have hwf : w0 = (out ++ [k0]).map rtRow := by simp only [ew0, hw2, List.map_append, List.append_assoc, List.nil_append, List.map_cons, List.map_nil]; simp [rtRow, exs, hrs]
        have huwf : Up0 w0 := by rw [hwf]; exact up_rt _
        simp only [a4]
        refine hN (some (i2, true, out ++ [k0], k0', w0)) _ _ ?hx ?hi ?ht
        case hx => (refine Wk.eqz (fun j => [1].getD j 0) (by first | exact fun i _ j _ e => e | (simp only [List.length_cons, List.length_nil]; decide)) ?_; cbv; (repeat' (first | exact trivial | rfl | assumption | apply And.intro | (simp only [hz, Z.a, binStd, cmpStd, unStd, scmpStd, maxI, reduceCtorEq]; first | done | assumption) | exact RowsZ.same (by assumption) (by first | assumption | rfl) | exact FzL.mk rfl rfl rfl (by assumption) (by first | assumption | rfl) (by decide) | (refine RowsZ.one ?_; cbv))))
        case hi => exact ⟨by omega, by omega, by rw [hput]; simp only [if_true]; rw [hD]; simp, hwf, huwf, by first | rfl | omega, by simp only [List.length_append, List.length_cons, List.length_nil]; omega⟩
        case ht => show (L - i2).toNat < (L - i).toNat; omega
      | false =>
        cbv
        simp only [n2]
        cbv
        refine Idx.mk _ hi0 hrow ?_
        cbv
        by_cases hq : ltR k0 r
        · refine Call.stepE (by rw [← hP]; exact e_less k0 r hk12 hr xs rs exs hrs true (by simp [hq])) (by exact up_two huxs hur) ?_
          cbv
          simp only [n1]
          cbv
          refine Idx.mk _ hi0 hrow ?_
          cbv
          obtain ⟨w0, ew0⟩ : ∃ x : List (List AV), x = w ++ [[.list 1 xs]] := ⟨_, rfl⟩
          obtain ⟨k0', ek0'⟩ : ∃ x, x = k + 1 := ⟨_, rfl⟩
          have hl0 : w0.length = w.length + 1 := by rw [ew0]; simp
          refine App.mk w0 k0' ew0 hk ek0' (by omega) (by omega) ?_
          cbv
          have hwf : w0 = (out ++ [k0]).map rtRow := by simp only [ew0, hw2, List.map_append, List.append_assoc, List.nil_append, List.map_cons, List.map_nil]; simp [rtRow, exs, hrs]
          have huwf : Up0 w0 := by rw [hwf]; exact up_rt _
          simp only [a4]
          refine hN (some (i2, false, out ++ [k0], k0', w0)) _ _ ?hx ?hi ?ht
          case hx => (refine Wk.eqz (fun j => [1].getD j 0) (by first | exact fun i _ j _ e => e | (simp only [List.length_cons, List.length_nil]; decide)) ?_; cbv; (repeat' (first | exact trivial | rfl | assumption | apply And.intro | (simp only [hz, Z.a, binStd, cmpStd, unStd, scmpStd, maxI, reduceCtorEq]; first | done | assumption) | exact RowsZ.same (by assumption) (by first | assumption | rfl) | exact FzL.mk rfl rfl rfl (by assumption) (by first | assumption | rfl) (by decide) | (refine RowsZ.one ?_; cbv))))
          case hi => exact ⟨by omega, by omega, by rw [hput]; simp only [Bool.false_eq_true, if_false]; rw [hD, putQ_lt hq]; simp, hwf, huwf, by first | rfl | omega, by simp only [List.length_append, List.length_cons, List.length_nil]; omega⟩
          case ht => show (L - i2).toNat < (L - i).toNat; omega
        · refine Call.stepE (by rw [← hP]; exact e_less k0 r hk12 hr xs rs exs hrs false (by simp [hq])) (by exact up_two huxs hur) ?_
          cbv
          simp only [n2]
          cbv
          refine Idx.mk _ hi0 hrow ?_
          cbv
          by_cases hq2 : ltR r k0
          · refine Call.stepE (by rw [← hP]; exact e_less r k0 hr hk12 rs xs hrs exs true (by simp [hq2])) (by exact up_two hur huxs) ?_
            cbv
            obtain ⟨w0, ew0⟩ : ∃ x : List (List AV), x = w ++ [[.list 1 rs]] := ⟨_, rfl⟩
            obtain ⟨k0', ek0'⟩ : ∃ x, x = k + 1 := ⟨_, rfl⟩
            have hl0 : w0.length = w.length + 1 := by rw [ew0]; simp
            refine App.mk w0 k0' ew0 hk ek0' (by omega) (by omega) ?_
            cbv
            refine Idx.mk _ hi0 hrow ?_
            cbv
            obtain ⟨w1, ew1⟩ : ∃ x : List (List AV), x = w0 ++ [[.list 1 xs]] := ⟨_, rfl⟩
            obtain ⟨k1', ek1'⟩ : ∃ x, x = k0' + 1 := ⟨_, rfl⟩
            have hl1 : w1.length = w0.length + 1 := by rw [ew1]; simp
            refine App.mk w1 k1' ew1 (by omega) ek1' (by omega) (by omega) ?_
            cbv
            have hwf : w1 = (out ++ [r, k0]).map rtRow := by simp only [ew0, ew1, hw2, List.map_append, List.append_assoc, List.nil_append, List.map_cons, List.map_nil]; simp [rtRow, exs, hrs]
            have huwf : Up0 w1 := by rw [hwf]; exact up_rt _
            simp only [a4]
            refine hN (some (i2, true, out ++ [r, k0], k1', w1)) _ _ ?hx ?hi ?ht
            case hx => (refine Wk.eqz (fun j => [2].getD j 0) (by first | exact fun i _ j _ e => e | (simp only [List.length_cons, List.length_nil]; decide)) ?_; cbv; (repeat' (first | exact trivial | rfl | assumption | apply And.intro | (simp only [hz, Z.a, binStd, cmpStd, unStd, scmpStd, maxI, reduceCtorEq]; first | done | assumption) | exact RowsZ.same (by assumption) (by first | assumption | rfl) | exact FzL.mk rfl rfl rfl (by assumption) (by first | assumption | rfl) (by decide) | (refine RowsZ.one ?_; cbv))))
            case hi => exact ⟨by omega, by omega, by rw [hput]; simp only [Bool.false_eq_true, if_false, if_true]; rw [hD, putQ_gt hq hq2]; simp, hwf, huwf, by first | rfl | omega, by simp only [List.length_append, List.length_cons, List.length_nil]; omega⟩
            case ht => show (L - i2).toNat < (L - i).toNat; omega
          · refine Call.stepE (by rw [← hP]; exact e_less r k0 hr hk12 rs xs hrs exs false (by simp [hq2])) (by exact up_two hur huxs) ?_
            cbv
            refine Idx.mk _ hi0 hrow ?_
            cbv
            obtain ⟨w0, ew0⟩ : ∃ x : List (List AV), x = w ++ [[.list 1 xs]] := ⟨_, rfl⟩
            obtain ⟨k0', ek0'⟩ : ∃ x, x = k + 1 := ⟨_, rfl⟩
            have hl0 : w0.length = w.length + 1 := by rw [ew0]; simp
            refine App.mk w0 k0' ew0 hk ek0' (by omega) (by omega) ?_
            cbv
            have hwf : w0 = (out ++ [k0]).map rtRow := by simp only [ew0, hw2, List.map_append, List.append_assoc, List.nil_append, List.map_cons, List.map_nil]; simp [rtRow, exs, hrs]
            have huwf : Up0 w0 := by rw [hwf]; exact up_rt _
            simp only [a4]
            refine hN (some (i2, true, out ++ [k0], k0', w0)) _ _ ?hx ?hi ?ht
            case hx => (refine Wk.eqz (fun j => [1].getD j 0) (by first | exact fun i _ j _ e => e | (simp only [List.length_cons, List.length_nil]; decide)) ?_; cbv; (repeat' (first | exact trivial | rfl | assumption | apply And.intro | (simp only [hz, Z.a, binStd, cmpStd, unStd, scmpStd, maxI, reduceCtorEq]; first | done | assumption) | exact RowsZ.same (by assumption) (by first | assumption | rfl) | exact FzL.mk rfl rfl rfl (by assumption) (by first | assumption | rfl) (by decide) | (refine RowsZ.one ?_; cbv))))
            case hi => exact ⟨by omega, by omega, by rw [hput]; simp only [Bool.false_eq_true, if_false, if_true]; rw [hD, putQ_eq hq hq2]; simp, hwf, huwf, by first | rfl | omega, by simp only [List.length_append, List.length_cons, List.length_nil]; omega⟩
            case ht => show (L - i2).toNat < (L - i).toNat; omega
    · refine hE _ _ _ ?_
      cbv
      have hdr : l.drop i.toNat = [] := List.drop_of_length_le (by omega)
      cases d with
      | true =>
        cbv
        simp only [show wnot true = false by rw [hnot]; rfl]
        cbv
        have hq : q = w := by rw [eq, hput, hw2, hdr]; simp
        have e1 : (w.drop 0).take k = w := by rw [List.drop_zero, List.take_of_length_le (by omega)]
        have := Vw.sl (h := [.live 1 w]) (s := 0) (z := 1) rfl huw.get (i := 0) (n := k) (by omega)
        rw [e1] at this
        exact ⟨_, this, hR _ (by rw [hq])⟩
      | false =>
        cbv
        simp only [show wnot false = true by rw [hnot]; rfl]
        cbv
        obtain ⟨w0, ew0⟩ : ∃ x : List (List AV), x = w ++ [[.list 1 rs]] := ⟨_, rfl⟩
        obtain ⟨k0', ek0'⟩ : ∃ x, x = k + 1 := ⟨_, rfl⟩
        have hl0 : w0.length = w.length + 1 := by rw [ew0]; simp
        refine App.mk w0 k0' ew0 hk ek0' (by omega) (by omega) ?_
        cbv
        have hq : q = w0 := by rw [eq, hput, ew0, hw2, hdr, hrs]; simp [putQ, rtRow]
        have huw0 : Up0 w0 := by rw [← hq, eq]; exact up_rt _
        have e1 : (w0.drop 0).take k0' = w0 := by rw [List.drop_zero, List.take_of_length_le (by omega)]
        have := Vw.sl (h := [.dead, .live 1 w0]) (s := 1) (z := 1) rfl huw0.get (i := 0) (n := k0') (by omega)
        rw [e1] at this
        exact ⟨_, this, hR _ (by rw [hq])⟩
end Go.Proofs.Ytpiocfmdjgbamaa

/- The reference's growth, plainly. -/
namespace Go.Proofs.Ytpiocfmdjgbamaa
open Go Go.RowKit Go.Eng
def grow1 (ss : List Sg) (lo hi from_ : Int) (s : Int × List (List Int) × List (List Int)) (r : List Int) : Int × List (List Int) × List (List Int) :=
  if s.1 ≠ 0 then s
  else if hi ≤ endF ss from_ r ∨ nxAt ss (lastI r) = [] then
    (if 16 < (if lo ≤ endF ss from_ r then putQ s.2.1 r else s.2.1).length then 13 else 0, if lo ≤ endF ss from_ r then putQ s.2.1 r else s.2.1, s.2.2)
  else if r.length = 12 then (13, s.2.1, s.2.2)
  else (0, s.2.1, s.2.2 ++ (nxAt ss (lastI r)).map fun n => r ++ [n])
def growQ (ss : List Sg) (lo hi from_ : Int) : Nat → List (List Int) → List (List Int) → Int × List (List Int)
  | 0, out, todo => (0, out)
  | n + 1, out, todo =>
    if (todo.foldl (grow1 ss lo hi from_) (0, out, [])).1 ≠ 0 then (13, [])
    else growQ ss lo hi from_ n (todo.foldl (grow1 ss lo hi from_) (0, out, [])).2.1 (todo.foldl (grow1 ss lo hi from_) (0, out, [])).2.2
theorem fold_err (ss : List Sg) (lo hi from_ : Int) : ∀ (l : List (List Int)) (s : Int × List (List Int) × List (List Int)), s.1 ≠ 0 → l.foldl (grow1 ss lo hi from_) s = s
  | [], _, _ => rfl
  | r :: l, s, h => by
    have : grow1 ss lo hi from_ s r = s := by unfold grow1; rw [if_pos h]
    rw [List.foldl_cons, this, fold_err ss lo hi from_ l s h]
theorem putQ_len : ∀ (l : List (List Int)) (r : List Int), (putQ l r).length ≤ l.length + 1
  | [], _ => by simp [putQ]
  | k :: l, r => by
    unfold putQ
    split
    · have := putQ_len l r; simp; omega
    · split <;> simp
theorem putQ_mem1 : ∀ (l : List (List Int)) (r x : List Int), x ∈ putQ l r → x ∈ l ∨ x = r
  | [], r, x, h => by simp [putQ] at h; exact .inr h
  | k :: l, r, x, h => by
    unfold putQ at h
    split at h
    · rcases List.mem_cons.1 h with rfl | h
      · exact .inl List.mem_cons_self
      · rcases putQ_mem1 l r x h with h | h
        · exact .inl (List.mem_cons_of_mem _ h)
        · exact .inr h
    · split at h
      · rcases List.mem_cons.1 h with rfl | h
        · exact .inr rfl
        · exact .inl h
      · exact .inl h
def growB (ss : List Sg) (lo hi from_ : Int) (ls : List (List Int)) : (Int × List (List Int)) × Int :=
  if hi < lo ∨ lo < -from_ then ((0, []), 40)
  else if (growQ ss lo hi from_ 13 [] ls).1 ≠ 0 then ((0, []), 13)
  else if (growQ ss lo hi from_ 13 [] ls).2 = [] then ((0, []), 40)
  else ((from_, (growQ ss lo hi from_ 13 [] ls).2), 0)
end Go.Proofs.Ytpiocfmdjgbamaa

/- Both ways to grow come to the same. -/
namespace Go.Proofs.Ytpiocfmdjgbamaa
open Go Go.RowKit Go.Eng
theorem nodup_sub : ∀ (l m : List (List Int)), l.Nodup → (∀ k, k ∈ l → k ∈ m) → l.length ≤ m.length
  | [], _, _, _ => Nat.zero_le _
  | a :: l, m, h, hs => by
    obtain ⟨h1, h2⟩ := List.nodup_cons.1 h
    have ha := hs a List.mem_cons_self
    have := nodup_sub l (m.erase a) h2 fun k hk => by
      have hka : k ≠ a := fun e => h1 (e ▸ hk)
      exact (List.mem_erase_of_ne hka).2 (hs k (List.mem_cons_of_mem _ hk))
    rw [List.length_erase_of_mem ha] at this
    have : 0 < m.length := List.length_pos_of_mem ha
    simp only [List.length_cons]; omega
section
variable (ss : List Sg) (lo hi from_ : Int)
def endP (l : List Int) : Prop := hi ≤ endF ss from_ l ∨ nxAt ss (lastI l) = []
instance (l : List Int) : Decidable (endP ss hi from_ l) := inferInstanceAs (Decidable (_ ∨ _))
def overP (l : List Int) : Prop := ¬ endP ss hi from_ l ∧ l.length = 12
inductive Reach : List Int → List Int → Prop
  | refl (l : List Int) : Reach l l
  | step {l k : List Int} {n : Int} (h : ¬ endP ss hi from_ l) (h12 : l.length ≠ 12) (hn : n ∈ nxAt ss (lastI l)) (hk : Reach (l ++ [n]) k) : Reach l k
structure FP (R : List Int → Prop) (s s' : Int × List (List Int)) : Prop where
  stay : s.1 ≠ 0 → s'.1 ≠ 0
  good : s'.1 = 0 → (∀ k, k ∈ s'.2 ↔ k ∈ s.2 ∨ (R k ∧ leafP ss lo hi from_ k)) ∧ (∀ k, R k → ¬ overP ss hi from_ k)
  bad : s.1 = 0 → s'.1 ≠ 0 → (∃ k, R k ∧ overP ss hi from_ k) ∨ (∃ L : List (List Int), L.Nodup ∧ 17 ≤ L.length ∧ ∀ k, k ∈ L → k ∈ s.2 ∨ (R k ∧ leafP ss lo hi from_ k))
end
variable {ss : List Sg} {lo hi from_ : Int}
theorem FP.nil (s : Int × List (List Int)) : FP ss lo hi from_ (fun _ => False) s s :=
  ⟨id, fun _ => ⟨fun k => by simp, fun k h => h.elim⟩, fun h h' => absurd h h'⟩
theorem FP.comp {R1 R2 : List Int → Prop} {s0 s1 s2 : Int × List (List Int)} (h1 : FP ss lo hi from_ R1 s0 s1) (h2 : FP ss lo hi from_ R2 s1 s2) : FP ss lo hi from_ (fun k => R1 k ∨ R2 k) s0 s2 := by
  refine ⟨fun h => h2.stay (h1.stay h), fun h => ?_, fun h h' => ?_⟩
  · have e1 : s1.1 = 0 := Classical.byContradiction fun h3 => h2.stay h3 h
    obtain ⟨a1, a2⟩ := h1.good e1
    obtain ⟨b1, b2⟩ := h2.good h
    refine ⟨fun k => ?_, fun k hk => hk.elim (a2 k) (b2 k)⟩
    rw [b1, a1, or_and_right, or_assoc]
  · by_cases e1 : s1.1 = 0
    · obtain ⟨a1, a2⟩ := h1.good e1
      rcases h2.bad e1 h' with ⟨k, hk, ho⟩ | ⟨L, l1, l2, l3⟩
      · exact .inl ⟨k, .inr hk, ho⟩
      · refine .inr ⟨L, l1, l2, fun k hk => ?_⟩
        rcases l3 k hk with h3 | ⟨h3, h4⟩
        · rcases (a1 k).1 h3 with h5 | ⟨h5, h6⟩
          · exact .inl h5
          · exact .inr ⟨.inl h5, h6⟩
        · exact .inr ⟨.inr h3, h4⟩
    · rcases h1.bad h e1 with ⟨k, hk, ho⟩ | ⟨L, l1, l2, l3⟩
      · exact .inl ⟨k, .inl hk, ho⟩
      · refine .inr ⟨L, l1, l2, fun k hk => ?_⟩
        rcases l3 k hk with h3 | ⟨h3, h4⟩
        · exact .inl h3
        · exact .inr ⟨.inl h3, h4⟩
theorem FP.congr {R R' : List Int → Prop} {s s' : Int × List (List Int)} (h : FP ss lo hi from_ R s s') (h1 : ∀ k, R' k ∧ leafP ss lo hi from_ k ↔ R k ∧ leafP ss lo hi from_ k) (h2 : ∀ k, R' k ∧ overP ss hi from_ k ↔ R k ∧ overP ss hi from_ k) : FP ss lo hi from_ R' s s' := by
  refine ⟨h.stay, fun e => ?_, fun e e' => ?_⟩
  · obtain ⟨a1, a2⟩ := h.good e
    exact ⟨fun k => by rw [a1, h1], fun k hk ho => a2 k ((h2 k).1 ⟨hk, ho⟩).1 ho⟩
  · rcases h.bad e e' with ⟨k, hk, ho⟩ | ⟨L, l1, l2, l3⟩
    · exact .inl ⟨k, (h2 k).2 ⟨hk, ho⟩⟩
    · exact .inr ⟨L, l1, l2, fun k hk => (l3 k hk).imp id (h1 k).2⟩
theorem reach_end {l k : List Int} (h : endP ss hi from_ l) (hk : Reach ss hi from_ l k) : k = l := by
  cases hk with
  | refl => rfl
  | step h' => exact absurd h h'
theorem reach_iff {l k : List Int} (h : ¬ endP ss hi from_ l) (h12 : l.length ≠ 12) : Reach ss hi from_ l k ↔ k = l ∨ ∃ n, n ∈ nxAt ss (lastI l) ∧ Reach ss hi from_ (l ++ [n]) k := by
  constructor
  · intro hk
    cases hk with
    | refl => exact .inl rfl
    | step h' h12' hn hk => exact .inr ⟨_, hn, hk⟩
  · rintro (rfl | ⟨n, hn, hk⟩)
    · exact .refl _
    · exact .step h h12 hn hk
theorem growF_fp : ∀ (f : Nat) (l : List Int) (s : Int × List (List Int)), l.length ≤ 12 ∧ 1 ≤ l.length → 13 ≤ l.length + f → GOk s → FP ss lo hi from_ (Reach ss hi from_ l) s (growF ss lo hi f l (endF ss from_ l) s)
  | 0, l, s, hl, hf, _ => absurd hf (by omega)
  | f + 1, l, s, hl, hf, hok => by
    have hg : growF ss lo hi (f + 1) l (endF ss from_ l) s = (if s.1 ≠ 0 then s else if endP ss hi from_ l then (if 16 < (if lo ≤ endF ss from_ l then putL s.2 l else s.2).length then 13 else 0, if lo ≤ endF ss from_ l then putL s.2 l else s.2) else if l.length = 12 then (13, s.2) else (nxAt ss (lastI l)).foldl (fun s n => growF ss lo hi f (l ++ [n]) (endF ss from_ l + lenAt ss n) s) s) := by
      unfold endP; rfl
    rw [hg]
    by_cases h0 : s.1 = 0
    rotate_left 1
    · rw [if_pos h0]
      exact ⟨fun h => h, fun h => absurd h h0, fun h => absurd h h0⟩
    rw [if_neg (by simp [h0])]
    by_cases he : endP ss hi from_ l
    · rw [if_pos he]
      have hm : ∀ k, k ∈ (if lo ≤ endF ss from_ l then putL s.2 l else s.2) ↔ k ∈ s.2 ∨ (Reach ss hi from_ l k ∧ leafP ss lo hi from_ k) := fun k => by
        by_cases hlo : lo ≤ endF ss from_ l
        · rw [if_pos hlo, putL_mem]
          constructor
          · rintro (h | rfl)
            · exact .inl h
            · exact .inr ⟨.refl _, hlo, he⟩
          · rintro (h | ⟨h, _⟩)
            · exact .inl h
            · exact .inr (reach_end he h)
        · rw [if_neg hlo]
          constructor
          · exact .inl
          · rintro (h | ⟨h, h1, _⟩)
            · exact h
            · rw [reach_end he h] at h1; exact absurd h1 hlo
      refine ⟨fun h => absurd h0 h, fun h => ⟨hm, fun k hk ho => ?_⟩, fun _ h => .inr ?_⟩
      · rw [reach_end he hk] at ho; exact ho.1 he
      · refine ⟨_, ?_, ?_, fun k hk => (hm k).1 hk⟩
        · by_cases hlo : lo ≤ endF ss from_ l
          · rw [if_pos hlo]; exact (hok.put h0 hl).nd
          · rw [if_neg hlo]; exact hok.nd
        · by_cases h16 : 16 < (if lo ≤ endF ss from_ l then putL s.2 l else s.2).length
          · exact h16
          · exact absurd (show (if 16 < (if lo ≤ endF ss from_ l then putL s.2 l else s.2).length then (13 : Int) else 0) = 0 by rw [if_neg h16]) h
    · rw [if_neg he]
      by_cases h12 : l.length = 12
      · rw [if_pos h12]
        exact ⟨fun h => absurd h0 h, fun h => absurd h (show (13 : Int) ≠ 0 by decide), fun _ _ => .inl ⟨l, .refl _, he, h12⟩⟩
      · rw [if_neg h12]
        have key : ∀ (ns : List Int) (s : Int × List (List Int)), GOk s → FP ss lo hi from_ (fun k => ∃ n, n ∈ ns ∧ Reach ss hi from_ (l ++ [n]) k) s (ns.foldl (fun s n => growF ss lo hi f (l ++ [n]) (endF ss from_ l + lenAt ss n) s) s) := by
          intro ns
          induction ns with
          | nil => intro s _; exact (FP.nil s).congr (fun k => by simp) (fun k => by simp)
          | cons n ns ih =>
            intro s hs
            have h1 := growF_fp f (l ++ [n]) s (by simp; omega) (by simp; omega) hs
            rw [endF_snoc] at h1
            have h2 := ih _ (growF_ok ss lo hi f (l ++ [n]) (endF ss from_ l + lenAt ss n) s hs (by simp; omega))
            exact (h1.comp h2).congr (fun k => by simp) (fun k => by simp)
        refine (key _ s hok).congr (fun k => ?_) (fun k => ?_)
        · rw [reach_iff he h12]
          constructor
          · rintro ⟨rfl | h, h1⟩
            · exact absurd h1.2 he
            · exact ⟨h, h1⟩
          · rintro ⟨h, h1⟩; exact ⟨.inr h, h1⟩
        · rw [reach_iff he h12]
          constructor
          · rintro ⟨rfl | h, h1⟩
            · exact absurd h1.2 h12
            · exact ⟨h, h1⟩
          · rintro ⟨h, h1⟩; exact ⟨.inr h, h1⟩
theorem growS_fp (ls : List (List Int)) (hl : ∀ l, l ∈ ls → WayOk ss l) : FP ss lo hi from_ (fun k => ∃ l, l ∈ ls ∧ Reach ss hi from_ l k) (0, []) (growS ss lo hi from_ ls) := by
  have key : ∀ (ls : List (List Int)) (s : Int × List (List Int)), (∀ l, l ∈ ls → WayOk ss l) → GOk s → FP ss lo hi from_ (fun k => ∃ l, l ∈ ls ∧ Reach ss hi from_ l k) s (ls.foldl (fun s l => growF ss lo hi (13 - l.length) l (endF ss from_ l) s) s) := by
    intro ls
    induction ls with
    | nil => intro s _ _; exact (FP.nil s).congr (fun k => by simp) (fun k => by simp)
    | cons l ls ih =>
      intro s hl hs
      have hk := (hl l List.mem_cons_self).len
      have h1 := growF_fp (ss := ss) (lo := lo) (hi := hi) (from_ := from_) (13 - l.length) l s hk (by omega) hs
      have h2 := ih _ (fun x hx => hl x (List.mem_cons_of_mem _ hx)) (growF_ok ss lo hi (13 - l.length) l (endF ss from_ l) s hs hk)
      exact (h1.comp h2).congr (fun k => by simp) (fun k => by simp)
  exact key ls (0, []) hl ⟨by simp, fun _ => by simp, fun k hk => by simp at hk, List.nodup_nil⟩
end Go.Proofs.Ytpiocfmdjgbamaa

/- Both ways to grow come to the same: the reference's side; the two joined. -/
namespace Go.Proofs.Ytpiocfmdjgbamaa
open Go Go.RowKit Go.Eng
variable {ss : List Sg} {lo hi from_ : Int}
theorem ltR_same {a b : List Int} (ha : a.length ≤ 12) (hb : b.length ≤ 12) (h1 : ¬ ltR a b) (h2 : ¬ ltR b a) : a = b := by
  rcases ltR_total a b with h | h | h
  · exact absurd h h1
  · exact toR_inj ha hb h
  · exact absurd h h2
theorem putQ_mem : ∀ (l : List (List Int)) (r : List Int), (∀ k, k ∈ l → k.length ≤ 12) → r.length ≤ 12 → ∀ x, x ∈ putQ l r ↔ x ∈ l ∨ x = r
  | [], r, _, _, x => by simp [putQ]
  | k :: l, r, hl, hr, x => by
    by_cases h1 : ltR k r
    · rw [putQ_lt h1, List.mem_cons, List.mem_cons, putQ_mem l r (fun y hy => hl y (List.mem_cons_of_mem _ hy)) hr, or_assoc]
    · by_cases h2 : ltR r k
      · rw [putQ_gt h1 h2, List.mem_cons, or_comm]
      · have e := ltR_same (hl k List.mem_cons_self) hr h1 h2
        rw [putQ_eq h1 h2, List.mem_cons, e]
        constructor
        · exact .inl
        · rintro (h | h)
          · exact h
          · exact .inl h
theorem putQ_sorted : ∀ (l : List (List Int)) (r : List Int), (∀ k, k ∈ l → k.length ≤ 12) → r.length ≤ 12 → l.Pairwise ltR → (putQ l r).Pairwise ltR
  | [], r, _, _, _ => List.pairwise_singleton _ _
  | k :: l, r, hl, hr, h => by
    obtain ⟨k1, k2⟩ := List.pairwise_cons.1 h
    by_cases h1 : ltR k r
    · rw [putQ_lt h1]
      refine List.pairwise_cons.2 ⟨fun x hx => ?_, putQ_sorted l r (fun y hy => hl y (List.mem_cons_of_mem _ hy)) hr k2⟩
      rcases (putQ_mem l r (fun y hy => hl y (List.mem_cons_of_mem _ hy)) hr x).1 hx with hx | rfl
      · exact k1 x hx
      · exact h1
    · by_cases h2 : ltR r k
      · rw [putQ_gt h1 h2]
        refine List.pairwise_cons.2 ⟨fun x hx => ?_, h⟩
        rcases List.mem_cons.1 hx with rfl | hx
        · exact h2
        · exact ltR_trans h2 (k1 x hx)
      · rw [putQ_eq h1 h2]; exact h
theorem sorted_nodup {l : List (List Int)} (h : l.Pairwise ltR) : l.Nodup := h.imp (S := (· ≠ ·)) fun {a b} h e => ltR_irrefl a (by rw [← e] at h; exact h)
def kids (ss : List Sg) (hi from_ : Int) (t : List Int) : List (List Int) := if endP ss hi from_ t then [] else (nxAt ss (lastI t)).map fun n => t ++ [n]
structure OutOk (out : List (List Int)) : Prop where
  sort : out.Pairwise ltR
  few : out.length ≤ 16
  len : ∀ k, k ∈ out → k.length ≤ 12
structure F1 (ss : List Sg) (lo hi from_ : Int) (T out more : List (List Int)) (s' : Int × List (List Int) × List (List Int)) : Prop where
  good : s'.1 = 0 → (∀ k, k ∈ s'.2.1 ↔ k ∈ out ∨ (k ∈ T ∧ leafP ss lo hi from_ k)) ∧ (∀ t, t ∈ T → ¬ overP ss hi from_ t) ∧ s'.2.2 = more ++ T.flatMap (kids ss hi from_) ∧ OutOk s'.2.1
  bad : s'.1 ≠ 0 → (∃ t, t ∈ T ∧ overP ss hi from_ t) ∨ (∃ L : List (List Int), L.Nodup ∧ 17 ≤ L.length ∧ ∀ k, k ∈ L → k ∈ out ∨ (k ∈ T ∧ leafP ss lo hi from_ k))
theorem fold1 : ∀ (T out more : List (List Int)), (∀ t, t ∈ T → t.length ≤ 12) → OutOk out → F1 ss lo hi from_ T out more (T.foldl (grow1 ss lo hi from_) (0, out, more))
  | [], out, more, _, ho => ⟨fun _ => ⟨fun k => by simp, fun t h => by simp at h, by simp, ho⟩, fun h => absurd rfl h⟩
  | t :: T, out, more, hT, ho => by
    have ht := hT t List.mem_cons_self
    have hT' : ∀ x, x ∈ T → x.length ≤ 12 := fun x hx => hT x (List.mem_cons_of_mem _ hx)
    have hg : grow1 ss lo hi from_ (0, out, more) t = (if endP ss hi from_ t then (if 16 < (if lo ≤ endF ss from_ t then putQ out t else out).length then 13 else 0, if lo ≤ endF ss from_ t then putQ out t else out, more) else if t.length = 12 then (13, out, more) else (0, out, more ++ (nxAt ss (lastI t)).map fun n => t ++ [n])) := by
      unfold endP grow1; rw [if_neg (by simp)]; rfl
    rw [List.foldl_cons, hg]
    clear hg
    by_cases he : endP ss hi from_ t
    · rw [if_pos he]
      have hk0 : kids ss hi from_ t = [] := by unfold kids; rw [if_pos he]
      obtain ⟨out', eo⟩ : ∃ o, o = (if lo ≤ endF ss from_ t then putQ out t else out) := ⟨_, rfl⟩
      rw [← eo]
      have hm : ∀ k, k ∈ out' ↔ k ∈ out ∨ (k = t ∧ leafP ss lo hi from_ k) := fun k => by
        rw [eo]
        by_cases hlo : lo ≤ endF ss from_ t
        · rw [if_pos hlo, putQ_mem out t ho.len ht]
          constructor
          · rintro (h | rfl)
            · exact .inl h
            · exact .inr ⟨rfl, hlo, he⟩
          · rintro (h | ⟨h, _⟩)
            · exact .inl h
            · exact .inr h
        · rw [if_neg hlo]
          constructor
          · exact .inl
          · rintro (h | ⟨rfl, h1, _⟩)
            · exact h
            · exact absurd h1 hlo
      have hs' : out'.Pairwise ltR := by
        rw [eo]; split
        · exact putQ_sorted out t ho.len ht ho.sort
        · exact ho.sort
      have hl' : ∀ k, k ∈ out' → k.length ≤ 12 := fun k hk => by
        rcases (hm k).1 hk with h | ⟨rfl, _⟩
        · exact ho.len k h
        · exact ht
      by_cases h16 : 16 < out'.length
      · rw [if_pos h16, fold_err ss lo hi from_ T _ (by simp)]
        refine ⟨fun h => absurd h (by simp), fun _ => .inr ⟨out', sorted_nodup hs', h16, fun k hk => ?_⟩⟩
        rcases (hm k).1 hk with h | ⟨rfl, h⟩
        · exact .inl h
        · exact .inr ⟨List.mem_cons_self, h⟩
      · rw [if_neg h16]
        have ih := fold1 T out' more hT' ⟨hs', by omega, hl'⟩
        refine ⟨fun h => ?_, fun h => ?_⟩
        · obtain ⟨a1, a2, a3, a4⟩ := ih.good h
          refine ⟨fun k => ?_, fun x hx => ?_, by rw [a3, List.flatMap_cons, hk0, List.nil_append], a4⟩
          · rw [a1, hm, List.mem_cons, or_and_right, or_assoc]
          · rcases List.mem_cons.1 hx with rfl | hx
            · exact fun h => h.1 he
            · exact a2 x hx
        · rcases ih.bad h with ⟨x, hx, h1⟩ | ⟨L, l1, l2, l3⟩
          · exact .inl ⟨x, List.mem_cons_of_mem _ hx, h1⟩
          · refine .inr ⟨L, l1, l2, fun k hk => ?_⟩
            rcases l3 k hk with h3 | ⟨h3, h4⟩
            · rcases (hm k).1 h3 with h5 | ⟨rfl, h5⟩
              · exact .inl h5
              · exact .inr ⟨List.mem_cons_self, h5⟩
            · exact .inr ⟨List.mem_cons_of_mem _ h3, h4⟩
    · rw [if_neg he]
      by_cases h12 : t.length = 12
      · rw [if_pos h12, fold_err ss lo hi from_ T _ (by simp)]
        exact ⟨fun h => absurd h (by simp), fun _ => .inl ⟨t, List.mem_cons_self, he, h12⟩⟩
      · rw [if_neg h12]
        have ih := fold1 T out (more ++ (nxAt ss (lastI t)).map fun n => t ++ [n]) hT' ho
        have hk0 : kids ss hi from_ t = (nxAt ss (lastI t)).map fun n => t ++ [n] := by unfold kids; rw [if_neg he]
        refine ⟨fun h => ?_, fun h => ?_⟩
        · obtain ⟨a1, a2, a3, a4⟩ := ih.good h
          refine ⟨fun k => ?_, fun x hx => ?_, by rw [a3, List.flatMap_cons, hk0, List.append_assoc], a4⟩
          · rw [a1, List.mem_cons, or_and_right]
            constructor
            · rintro (h | h)
              · exact .inl h
              · exact .inr (.inr h)
            · rintro (h7 | ⟨h8, h7⟩ | h7)
              · exact .inl h7
              · rw [h8] at h7; exact absurd h7.2 he
              · exact .inr h7
          · rcases List.mem_cons.1 hx with rfl | hx
            · exact fun h => h12 h.2
            · exact a2 x hx
        · rcases ih.bad h with ⟨x, hx, h1⟩ | ⟨L, l1, l2, l3⟩
          · exact .inl ⟨x, List.mem_cons_of_mem _ hx, h1⟩
          · exact .inr ⟨L, l1, l2, fun k hk => (l3 k hk).imp id fun h => ⟨List.mem_cons_of_mem _ h.1, h.2⟩⟩
structure FQ (ss : List Sg) (lo hi from_ : Int) (R : List Int → Prop) (out : List (List Int)) (s' : Int × List (List Int)) : Prop where
  good : s'.1 = 0 → (∀ k, k ∈ s'.2 ↔ k ∈ out ∨ (R k ∧ leafP ss lo hi from_ k)) ∧ (∀ k, R k → ¬ overP ss hi from_ k) ∧ OutOk s'.2
  bad : s'.1 ≠ 0 → (∃ k, R k ∧ overP ss hi from_ k) ∨ (∃ L : List (List Int), L.Nodup ∧ 17 ≤ L.length ∧ ∀ k, k ∈ L → k ∈ out ∨ (R k ∧ leafP ss lo hi from_ k))
theorem growQ_fq (hnx : NextOk ss) : ∀ (n : Nat) (out todo : List (List Int)), (∀ t, t ∈ todo → WayOk ss t ∧ 13 ≤ t.length + n) → OutOk out → FQ ss lo hi from_ (fun k => ∃ t, t ∈ todo ∧ Reach ss hi from_ t k) out (growQ ss lo hi from_ n out todo)
  | 0, out, todo, ht, ho => by
    have h0 : ∀ t, t ∉ todo := fun t h => by have := ht t h; have := this.1.len; omega
    exact ⟨fun _ => ⟨fun k => ⟨.inl, fun h => h.elim id fun ⟨⟨t, h, _⟩, _⟩ => absurd h (h0 t)⟩, fun k ⟨t, h, _⟩ => absurd h (h0 t), ho⟩, fun h => absurd rfl h⟩
  | n + 1, out, todo, ht, ho => by
    have h1 := fold1 (ss := ss) (lo := lo) (hi := hi) (from_ := from_) todo out [] (fun t h => (ht t h).1.len.1) ho
    unfold growQ
    generalize todo.foldl (grow1 ss lo hi from_) (0, out, []) = s at h1 ⊢
    by_cases h0 : s.1 = 0
    · rw [if_neg (by simp [h0])]
      obtain ⟨a1, a2, a3, a4⟩ := h1.good h0
      rw [List.nil_append] at a3
      have hk : ∀ x, x ∈ s.2.2 ↔ ∃ t, t ∈ todo ∧ ¬ endP ss hi from_ t ∧ ∃ q, q ∈ nxAt ss (lastI t) ∧ x = t ++ [q] := fun x => by
        rw [a3, List.mem_flatMap]
        constructor
        · rintro ⟨t, h, hx⟩
          unfold kids at hx
          by_cases he : endP ss hi from_ t
          · rw [if_pos he] at hx; simp at hx
          · rw [if_neg he] at hx
            obtain ⟨q, hq, rfl⟩ := List.mem_map.1 hx
            exact ⟨t, h, he, q, hq, rfl⟩
        · rintro ⟨t, h, he, q, hq, rfl⟩
          refine ⟨t, h, ?_⟩
          unfold kids
          rw [if_neg he]
          exact List.mem_map.2 ⟨q, hq, rfl⟩
      have h12 : ∀ t, t ∈ todo → ¬ endP ss hi from_ t → t.length ≠ 12 := fun t h he e => a2 t h ⟨he, e⟩
      have ih := growQ_fq hnx n s.2.1 s.2.2 (fun x hx => by
        obtain ⟨t, h, he, q, hq, rfl⟩ := (hk x).1 hx
        refine ⟨(ht t h).1.snoc hnx (h12 t h he) hq, ?_⟩
        have := (ht t h).2
        simp; omega) a4
      have hR : ∀ k, (∃ t, t ∈ todo ∧ Reach ss hi from_ t k) ↔ k ∈ todo ∨ ∃ x, x ∈ s.2.2 ∧ Reach ss hi from_ x k := fun k => by
        constructor
        · rintro ⟨t, h, hr⟩
          by_cases he : endP ss hi from_ t
          · exact .inl (reach_end he hr ▸ h)
          · rcases (reach_iff he (h12 t h he)).1 hr with rfl | ⟨q, hq, hr⟩
            · exact .inl h
            · exact .inr ⟨_, (hk _).2 ⟨t, h, he, q, hq, rfl⟩, hr⟩
        · rintro (h | ⟨x, hx, hr⟩)
          · exact ⟨k, h, .refl _⟩
          · obtain ⟨t, h, he, q, hq, rfl⟩ := (hk x).1 hx
            exact ⟨t, h, .step he (h12 t h he) hq hr⟩
      refine ⟨fun h => ?_, fun h => ?_⟩
      · obtain ⟨b1, b2, b3⟩ := ih.good h
        refine ⟨fun k => ?_, fun k hk1 => ?_, b3⟩
        · rw [b1, a1, hR, or_and_right, or_assoc]
        · rcases (hR k).1 hk1 with h | h
          · exact a2 k h
          · exact b2 k h
      · rcases ih.bad h with ⟨k, hk1, h2⟩ | ⟨L, l1, l2, l3⟩
        · exact .inl ⟨k, (hR k).2 (.inr hk1), h2⟩
        · refine .inr ⟨L, l1, l2, fun k hk1 => ?_⟩
          rcases l3 k hk1 with h3 | ⟨h3, h4⟩
          · rcases (a1 k).1 h3 with h5 | ⟨h5, h6⟩
            · exact .inl h5
            · exact .inr ⟨(hR k).2 (.inl h5), h6⟩
          · exact .inr ⟨(hR k).2 (.inr h3), h4⟩
    · rw [if_pos h0]
      refine ⟨fun h => absurd h (by decide), fun _ => ?_⟩
      rcases h1.bad h0 with ⟨t, h, h2⟩ | ⟨L, l1, l2, l3⟩
      · exact .inl ⟨t, ⟨t, h, .refl _⟩, h2⟩
      · exact .inr ⟨L, l1, l2, fun k hk1 => (l3 k hk1).imp id fun h => ⟨⟨k, h.1, .refl _⟩, h.2⟩⟩
theorem map_toR_inj : ∀ {l m : List (List Int)}, (∀ k, k ∈ l → k.length ≤ 12) → (∀ k, k ∈ m → k.length ≤ 12) → l.map toR = m.map toR → l = m
  | [], [], _, _, _ => rfl
  | [], _ :: _, _, _, h => by simp at h
  | _ :: _, [], _, _, h => by simp at h
  | a :: l, b :: m, h1, h2, h => by
    simp only [List.map_cons, List.cons.injEq] at h
    rw [toR_inj (h1 a List.mem_cons_self) (h2 b List.mem_cons_self) h.1, map_toR_inj (fun k hk => h1 k (List.mem_cons_of_mem _ hk)) (fun k hk => h2 k (List.mem_cons_of_mem _ hk)) h.2]
theorem growA_eq (hnx : NextOk ss) (ls : List (List Int)) (hl : ∀ l, l ∈ ls → WayOk ss l) : growA ss lo hi from_ ls = growB ss lo hi from_ ls := by
  have hA := growS_fp (ss := ss) (lo := lo) (hi := hi) (from_ := from_) ls hl
  have hok := growS_ok (ss := ss) (lo := lo) (hi := hi) (from_ := from_) ls hl
  have heA := growS_e (ss := ss) (lo := lo) (hi := hi) (from_ := from_) ls
  have hB := growQ_fq (ss := ss) (lo := lo) (hi := hi) (from_ := from_) hnx 13 [] ls (fun t h => ⟨hl t h, by omega⟩) ⟨List.Pairwise.nil, by simp, fun k hk => by simp at hk⟩
  unfold growA growB
  generalize growS ss lo hi from_ ls = sA at hA hok heA ⊢
  generalize growQ ss lo hi from_ 13 [] ls = sB at hB ⊢
  by_cases h0 : hi < lo ∨ lo < -from_
  · rw [if_pos h0, if_pos h0]
  · rw [if_neg h0, if_neg h0]
    have iff : sA.1 = 0 ↔ sB.1 = 0 := by
      constructor
      · intro h
        refine Classical.byContradiction fun h' => ?_
        obtain ⟨a1, a2⟩ := hA.good h
        rcases hB.bad h' with ⟨k, hk, ho⟩ | ⟨L, l1, l2, l3⟩
        · exact a2 k hk ho
        · have := nodup_sub L sA.2 l1 fun k hk => (a1 k).2 (by simpa using l3 k hk)
          have := hok.few h
          omega
      · intro h
        refine Classical.byContradiction fun h' => ?_
        obtain ⟨a1, a2, a3⟩ := hB.good h
        rcases hA.bad rfl h' with ⟨k, hk, ho⟩ | ⟨L, l1, l2, l3⟩
        · exact a2 k hk ho
        · have := nodup_sub L sB.2 l1 fun k hk => (a1 k).2 (by simpa using l3 k hk)
          have := a3.few
          omega
    by_cases h1 : sA.1 = 0
    · have h2 := iff.1 h1
      rw [if_neg (show ¬ (sA.1 ≠ 0) from fun h => h h1), if_neg (show ¬ (sB.1 ≠ 0) from fun h => h h2)]
      obtain ⟨a1, _⟩ := hA.good h1
      obtain ⟨b1, _, b3⟩ := hB.good h2
      have hp : sB.2.Perm sA.2 := (List.perm_ext_iff_of_nodup (sorted_nodup b3.sort) hok.nd).2 fun k => by rw [a1, b1]
      have hs : sB.2 = sortR sA.2 := by
        refine map_toR_inj b3.len (fun k hk => (hok.all k (sortR_mem.1 hk)).1) (sortR_unique (hp.map toR) (List.pairwise_map.2 ?_))
        exact b3.sort.imp fun {a b} h h' => ltR_irrefl a (ltR_trans h h')
      by_cases h3 : sA.2 = []
      · rw [if_pos h3, if_pos (by rw [hs, h3]; rfl)]
      · rw [if_neg h3, if_neg (fun h => h3 (by rw [h] at hp; exact List.nil_perm.1 hp)), hs]
    · have h2 : ¬ sB.1 = 0 := fun h => h1 (iff.2 h)
      rw [if_pos h1, if_pos h2]
      rcases heA with h | h
      · exact absurd h h1
      · rw [h]
end Go.Proofs.Ytpiocfmdjgbamaa

