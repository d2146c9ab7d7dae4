/- Texts of the proof, joined by wip/tools/pack3.py. -/
import Derived.Test.YtpiocfmdjgbamaaRoutePlacesP0
import Derived.KernelRfl
/- The example of layer 14, by the engine. -/
set_option linter.unusedVariables false
set_option linter.unusedSimpArgs false
namespace Go.Proofs.Ytpiocfmdjgbamaa
open Go Go.RowKit Go.Eng
set_option maxRecDepth 100000
set_option maxHeartbeats 2000000 in
theorem e_anchor14 : PCalls Try.prog 12 [] (· = .bool true) := by
  have hA : growA [⟨10, [(0, 0)], [1, 2]⟩, ⟨5, [(0, 0)], []⟩, ⟨5, [(0, 0)], []⟩] 7 8 4 [[0]] = ((4, [[0, 1], [0, 2]]), 0) := by decide
  have hg := e_grows [⟨10, [(0, 0)], [1, 2]⟩, ⟨5, [(0, 0)], []⟩, ⟨5, [(0, 0)], []⟩] [] _ _ rfl rfl ⟨by decide⟩ ⟨by decide⟩ 7 8 4 (by decide) [[0]] (fun l hl => by simp at hl; subst hl; exact ⟨by decide, by decide⟩) (by decide) _ rfl ((4, [[0, 1], [0, 2]]), 0) hA.symm
  have hg2 := PCalls.le (args := [.agg [.int .i64 4, .list 13 [[.int .i64 1, .int .i64 0, .int .i64 0, .int .i64 0, .int .i64 0, .int .i64 0, .int .i64 0, .int .i64 0, .int .i64 0, .int .i64 0, .int .i64 0, .int .i64 0, .int .i64 0]]], .agg [.list 3 [[.int .i64 10, .list 2 [[.int .i64 0, .int .i64 0]], .list 1 [[.int .i64 1], [.int .i64 2]]], [.int .i64 5, .list 2 [[.int .i64 0, .int .i64 0]], .nils], [.int .i64 5, .list 2 [[.int .i64 0, .int .i64 0]], .nils]], .nils], .agg [.int .i64 7, .int .i64 8]]) hg rfl
  clear hg
  have hg3 : PCalls Try.prog 19 [.agg [.int .i64 4, .list 13 [[.int .i64 1, .int .i64 0, .int .i64 0, .int .i64 0, .int .i64 0, .int .i64 0, .int .i64 0, .int .i64 0, .int .i64 0, .int .i64 0, .int .i64 0, .int .i64 0, .int .i64 0]]], .agg [.list 3 [[.int .i64 10, .list 2 [[.int .i64 0, .int .i64 0]], .list 1 [[.int .i64 1], [.int .i64 2]]], [.int .i64 5, .list 2 [[.int .i64 0, .int .i64 0]], .nils], [.int .i64 5, .list 2 [[.int .i64 0, .int .i64 0]], .nils]], .nils], .agg [.int .i64 7, .int .i64 8]] (· = .tuple [.agg [.int .i64 4, .list 13 [[.int .i64 2, .int .i64 0, .int .i64 1, .int .i64 0, .int .i64 0, .int .i64 0, .int .i64 0, .int .i64 0, .int .i64 0, .int .i64 0, .int .i64 0, .int .i64 0, .int .i64 0], [.int .i64 2, .int .i64 0, .int .i64 2, .int .i64 0, .int .i64 0, .int .i64 0, .int .i64 0, .int .i64 0, .int .i64 0, .int .i64 0, .int .i64 0, .int .i64 0, .int .i64 0]]], .int .i64 0]) := hg2
  clear hg2
  (refine PCalls.ofY Try.func12 (by kernel_rfl) (by kernel_rfl) fun w hw R hR => ?_); (subst hw); (conv => arg 2; cbv); (generalize hP : Try.prog = P); cbv
  refine QCal.stepE (by rw [← hP]; exact e_begin 0 4 0 rfl) rfl ?_
  cbv
  refine QCal.stepE (by rw [← hP]; exact hg3) rfl ?_
  cbv
  repeat' (first
    | (refine Idx.mk _ (by decide) rfl ?_; cbv)
    | (refine InN.mk (by decide) (by decide) ?_; cbv)
    | (exact ⟨_, Vw.same rfl, hR _ rfl⟩))
end Go.Proofs.Ytpiocfmdjgbamaa

/- RoutePlaces, by the engine. -/
namespace Go.Proofs.Ytpiocfmdjgbamaa
open Go Go.RowKit Go.Eng
set_option maxRecDepth 100000
theorem e_placesNo14 (es ds rs : List (List AV)) (hu : Up0 es) (hud : Up0 ds) (hur : Up0 rs) (from_ g : Int) (hg : g < 0 ∨ ds.length ≤ g.toNat) : PCalls Try.prog 49 [.agg [.int .i64 from_, .list 13 rs], .agg [.list 3 es, .list 5 ds], .int .i64 g] (· = .nils) := by
  (refine PCalls.ofY Try.func49 (by kernel_rfl) (by kernel_rfl) fun w hw R hR => ?_); (obtain ⟨wbin, wcmp, wun, wconv, wnot, wbeq, wmm, wscmp, wsadd, wslen, wsat, weqs, wlen, wnlen, wofNat, wtake, wdrop, wapp, wzero, wnat⟩ := w); (have hbin := Z.w1 hw); (have hcmp := Z.w2 hw); (have hun := Z.w3 hw); (have hconv := Z.w4 hw); (have hnot := Z.w5 hw); (have hbeq := Z.w6 hw); (have hmm := Z.w7 hw); (have hscmp := Z.w8 hw); (have hsadd := Z.w9 hw); (have hslen := Z.w10 hw); (have hsat := Z.w11 hw); (have heqs := Z.w12 hw); (have hlen := Z.w13 hw); (have hnlen := Z.w14 hw); (have hofNat := Z.w15 hw); (have htake := Z.w16 hw); (have hdrop := Z.w17 hw); (have happ := Z.w18 hw); (have hzero := Z.w19 hw); (have hnat := Z.w20 hw); (have hz := Z.z hw); (conv => arg 2; cbv); (generalize hP : Try.prog = P); cbv
  (obtain ⟨J, eJ, J0, Jn⟩ : ∃ L : Int, wlen ds = L ∧ 0 ≤ L ∧ L.toNat = ds.length := ⟨(ds.length : Int), by rw [hlen], Int.natCast_nonneg _, Int.toNat_natCast _⟩)
  repeat' (first | exact ⟨_, Vw.same rfl, hR _ rfl⟩ | (exfalso; omega) | (split <;> rename_i h <;> (try (simp only [eJ] at h)) <;> (try (simp only [hz, Z.a, binStd, cmpStd, unStd, scmpStd, maxI, reduceCtorEq] at h)) <;> (try cbv)))
  all_goals (exfalso; omega)
theorem steps_okP {ss : List Sg} (hnx : NextOk ss) {from_ : Int} (ps : List (Int × Int)) (m : List (List Int)) (hm : (∀ l, l ∈ m → WayOk ss l) ∧ m.length ≤ 16) : (∀ l, l ∈ ps.foldl (stepW ss from_) m → WayOk ss l) ∧ (ps.foldl (stepW ss from_) m).length ≤ 16 :=
  fold_ind (P := fun m : List (List Int) => (∀ l, l ∈ m → WayOk ss l) ∧ m.length ≤ 16) ps m hm fun s p _ hs => by
    unfold stepW
    split
    · rename_i h
      rcases growA_ok (lo := p.1) (hi := p.2) (from_ := from_) hnx s hs.1 rfl with h2 | h2
      · exact absurd h h2.1
      · exact ⟨fun l hl => (h2.2.2.ways l hl).1, h2.2.2.few⟩
    · exact hs
theorem pcs_ok {ss : List Sg} {gs : List Gr} (h : TrackOk ss gs) : ∀ s, s ∈ ss → PcsOk s.ps := fun s hs => by
  obtain ⟨j, hj⟩ := List.mem_iff_getElem?.1 hs
  have hm := (h.seg j (List.getElem?_eq_some_iff.1 hj).1 s hj).may
  refine ⟨hm.zero, hm.ne, hm.le, fun i hi => ?_⟩
  have hp := hm.all i hi
  obtain ⟨p, hp2⟩ : ∃ p, s.ps[i]? = some p := ⟨_, List.getElem?_eq_getElem hi⟩
  have e : (s.ps.getD i (0, 0)) = p := by rw [List.getD_eq_getElem?_getD, hp2]; rfl
  rw [e]
  have := hp p hp2
  omega
theorem grw_no {ss : List Sg} {lo hi : Int} : ∀ (l : List Int) (s : Int × Int × Bool) (a : Int), (grw ss lo hi s a l).2.2 = false → grw ss lo hi s a l = s ∧ s.2.2 = false
  | [], s, a, h => ⟨rfl, h⟩
  | n :: l, s, a, h => by
    simp only [grw] at h ⊢
    obtain ⟨h1, h2⟩ := grw_no l _ _ h
    rw [h1]
    split
    · rename_i hx
      rw [if_pos hx] at h2
      unfold joinG at h2
      split at h2 <;> simp at h2
    · rename_i hx
      rw [if_neg hx] at h2
      exact ⟨rfl, h2⟩
theorem grf_no {ss : List Sg} {lo hi from_ : Int} : ∀ (m : List (List Int)) (s : Int × Int × Bool), (m.foldl (fun s l => grw ss lo hi s (-from_) l) s).2.2 = false → m.foldl (fun s l => grw ss lo hi s (-from_) l) s = s
  | [], s, h => rfl
  | l :: m, s, h => by
    rw [List.foldl_cons] at h ⊢
    have h1 := grf_no m _ h
    rw [h1] at h ⊢
    exact (grw_no l s _ h).1
set_option maxHeartbeats 4000000 in
theorem e_rplacesL (ss : List Sg) (gs : List Gr) (es ds : List (List AV)) (hes : es = ss.map sgRow) (hds : ds = gs.map grRow) (sg from_ : Int) (ps : List (Int × Int)) (pl : List (List AV)) (hpl : pl = ps.map plRow) (g : Int) :
    PCalls Try.prog 11 [.agg [.list 3 es, .list 5 ds], .int .i64 sg, .int .i64 from_, .list 2 pl, .int .i64 g] (· = .bool true) := by
  have hu : Up0 es := by rw [hes]; exact up_sg ss
  have hud : Up0 ds := by rw [hds]; exact up_gr gs
  have hup : Up0 pl := by rw [hpl]; exact up_pl ps
  have hpll : pl.length = ps.length := by rw [hpl]; simp
  have hdl : ds.length = gs.length := by rw [hds]; simp
  have hT : uptoL 0 [AV.agg [.list 3 es, .list 5 ds], .int .i64 sg, .int .i64 from_] = true := Bool.and_eq_true_iff.mpr ⟨Up0.one hu (Up0.one hud rfl), rfl⟩
  have hT2 : uptoL 0 [AV.agg [.list 3 es, .list 5 ds], .int .i64 sg, .int .i64 from_, .list 2 pl] = true := by simp only [uptoL, AV.upto, hu.get, hud.get, hup.get]; rfl
  obtain ⟨m, hm⟩ : ∃ m, m = ps.foldl (stepW ss from_) [[sg]] := ⟨_, rfl⟩
  obtain ⟨ra, era⟩ : ∃ x, x = m.map rtC := ⟨_, rfl⟩
  obtain ⟨rq, erq⟩ : ∃ x, x = m.map rtRow := ⟨_, rfl⟩
  have hura : Up0 ra := by rw [era]; exact up_map (f := rtC) (fun d => rfl) m
  have hurq : Up0 rq := by rw [erq]; exact up_rt m
  (refine PCalls.ofY Try.func11 (by kernel_rfl) (by kernel_rfl) fun w hw R hR => ?_); (obtain ⟨wbin, wcmp, wun, wconv, wnot, wbeq, wmm, wscmp, wsadd, wslen, wsat, weqs, wlen, wnlen, wofNat, wtake, wdrop, wapp, wzero, wnat⟩ := w); (have hbin := Z.w1 hw); (have hcmp := Z.w2 hw); (have hun := Z.w3 hw); (have hconv := Z.w4 hw); (have hnot := Z.w5 hw); (have hbeq := Z.w6 hw); (have hmm := Z.w7 hw); (have hscmp := Z.w8 hw); (have hsadd := Z.w9 hw); (have hslen := Z.w10 hw); (have hsat := Z.w11 hw); (have heqs := Z.w12 hw); (have hlen := Z.w13 hw); (have hnlen := Z.w14 hw); (have hofNat := Z.w15 hw); (have htake := Z.w16 hw); (have hdrop := Z.w17 hw); (have happ := Z.w18 hw); (have hzero := Z.w19 hw); (have hnat := Z.w20 hw); (have hz := Z.z hw); (conv => arg 2; cbv); (generalize hP : Try.prog = P); cbv
  have hW : ∀ h : AHeap, Ret [.bool true] h R := fun h => ⟨_, Vw.same rfl, hR _ rfl⟩
  have n1 : wnot true = false := by rw [hnot]; rfl
  (obtain ⟨M, eM, M0, Mn⟩ : ∃ L : Int, wlen pl = L ∧ 0 ≤ L ∧ L.toNat = pl.length := ⟨(pl.length : Int), by rw [hlen], Int.natCast_nonneg _, Int.toNat_natCast _⟩)
  (obtain ⟨J, eJ, J0, Jn⟩ : ∃ L : Int, wlen ds = L ∧ 0 ≤ L ∧ L.toNat = ds.length := ⟨(ds.length : Int), by rw [hlen], Int.natCast_nonneg _, Int.toNat_natCast _⟩)
  refine Call.stepE (by rw [← hP]; exact e_anchor14) rfl ?_
  cbv
  simp only [n1]
  cbv
  refine Call.step (by rw [← hP]; exact e_may14 ss gs es ds hes hds sg from_) (by exact hT) ?_
  rintro r ⟨o, rfl, ho⟩
  cbv
  (split <;> rename_i h1 <;> (try (simp only [hz, Z.a, binStd, cmpStd, unStd, scmpStd, maxI, reduceCtorEq] at h1)) <;> (try cbv))
  · exact hW _
  simp only [eM]
  (split <;> rename_i h2 <;> (try (simp only [hz, Z.a, binStd, cmpStd, unStd, scmpStd, maxI, reduceCtorEq] at h2)) <;> (try cbv))
  · exact hW _
  (try simp only [eM])
  (split <;> rename_i h3 <;> (try (simp only [eM] at h3)) <;> (try (simp only [hz, Z.a, binStd, cmpStd, unStd, scmpStd, maxI, reduceCtorEq] at h3)) <;> (try cbv))
  · exact hW _
  have hM := ho h1
  have hnx := hM.tr.nextOk
  have hln := hM.tr.lensOk
  have hfr := hM.fr
  have hway : ∀ l, l ∈ [[sg]] → WayOk ss l := fun l hl => by
    simp at hl; subst hl
    exact ⟨by simp, fun n hn => by simp at hn; subst hn; exact hM.seg⟩
  have hmok := steps_okP (from_ := from_) hnx ps [[sg]] ⟨hway, by simp⟩
  rw [← hm] at hmok
  obtain ⟨hmw, hm16⟩ := hmok
  have hst := e_steps ss gs es ds hes hds sg from_ hM ps (by omega) pl hpl m hm
  rw [← era, ← erq] at hst
  refine Call.stepE (by rw [← hP]; exact hst) (by exact hT2) ?_
  cbv
  simp only [n1]
  cbv
  have cne : ∀ x, wcmp .neq x x = false := fun x => by rw [hcmp]; simp [cmpStd]
  by_cases hgn : g < 0 ∨ ds.length ≤ g.toNat
  · refine Call.stepE (by rw [← hP]; exact e_placesNo14 es ds ra hu hud hura from_ g hgn) (by simp only [uptoL, AV.upto, hu.get, hud.get, hura.get]; rfl) ?_
    cbv
    repeat' (first | (exfalso; omega) | (split <;> rename_i h <;> (try (simp only [eJ] at h)) <;> (try (simp only [hz, Z.a, binStd, cmpStd, unStd, scmpStd, maxI, reduceCtorEq] at h)) <;> (try cbv)))
    all_goals (try (exfalso; omega))
    all_goals
      (try simp only [show wofNat 0 = 0 by rw [hofNat]; rfl])
      (try simp only [show wcmp .eql 0 0 = true by rw [hcmp]; rfl])
      exact hW _
  obtain ⟨G, hG0⟩ : ∃ G, gs[g.toNat]? = some G := ⟨_, List.getElem?_eq_getElem (show g.toNat < gs.length by omega)⟩
  have hGo := hM.tr.grp g.toNat (by omega) G hG0
  obtain ⟨_, _, hq1, hq2, hq3, hq4, hq5, hq6, hq7, hq8, _⟩ := hGo
  have hoff : 0 ≤ G.off ∧ G.off ≤ 1099511627776 := by
    obtain ⟨s, hs⟩ : ∃ s, ss[G.seg.toNat]? = some s := ⟨_, List.getElem?_eq_getElem hq2⟩
    have h1 := hq4 s hs
    have h2 := (hM.tr.seg G.seg.toNat hq2 s hs).le
    omega
  have hpla := e_places ss gs es ds hes hds hln from_ hfr m (fun l hl => ⟨(hmw l hl).len.1, (hmw l hl).seg⟩) (by omega) ra era g (by omega) G hG0 hoff
  have hrpl := e_rplaces ss gs es ds hes hds hln from_ hfr m hmw (by omega) rq erq g (by omega) G hG0 hoff
  obtain ⟨ys, eys⟩ : ∃ x, x = plcR ss G.seg G.off from_ m := ⟨_, rfl⟩
  obtain ⟨yr, eyr⟩ : ∃ x, x = ys.map nxRow := ⟨_, rfl⟩
  rw [← eys, ← eyr] at hpla hrpl
  have huyr : Up0 yr := by rw [eyr]; exact up_nx ys
  have hyl : yr.length = ys.length := by rw [eyr]; simp
  have hysl : ys.length ≤ 12 * m.length := by
    have h1 := (adds_sorted (plcs ss G.seg G.off from_ m) [] List.Pairwise.nil).2.2
    have h2 := plcs_len ss G.seg G.off from_ m fun l hl => (hmw l hl).len.1
    have h3 : ys.length = (plcR ss G.seg G.off from_ m).length := by rw [eys]
    unfold plcR at h3
    simp only [List.length_nil] at h1
    omega
  have href := e_refsT14 ss gs es ds hes hds (by have := hM.n300; omega) (by have := hM.g500; omega) hM.ps
  have hut2 : uptoL 0 [AV.agg [.list 3 es, .list 5 ds]] = true := Bool.and_eq_true_iff.mpr ⟨Up0.one hu (Up0.one hud rfl), rfl⟩
  refine Call.stepE (by rw [← hP]; exact hpla) (by simp only [uptoL, AV.upto, hu.get, hud.get, hura.get]; rfl) ?_
  cbv
  repeat' (first | (exfalso; omega) | (split <;> rename_i h <;> (try (simp only [eJ] at h)) <;> (try (simp only [hz, Z.a, binStd, cmpStd, unStd, scmpStd, maxI, reduceCtorEq] at h)) <;> (try cbv)))
  all_goals (try (exfalso; omega))
  refine QCal.stepE (by rw [← hP]; exact href) (by exact hut2) ?_
  cbv
  (first | (refine Call.stepE (v := ?_) ?_ ?_ ?_; rotate_left 1; (focus (rw [← hP]; exact hrpl)); (focus (exact (by simp only [uptoL, AV.upto, hu.get, hud.get, hurq.get]; rfl))); cbv) | (refine QCal.stepE (v := ?_) ?_ ?_ ?_; rotate_left 1; (focus (rw [← hP]; exact hrpl)); (focus (exact (by simp only [uptoL, AV.upto, hu.get, hud.get, hurq.get]; rfl))); cbv))
  (obtain ⟨L, eL, L0, Ln⟩ : ∃ L : Int, wlen yr = L ∧ 0 ≤ L ∧ L.toNat = yr.length := ⟨(yr.length : Int), by rw [hlen], Int.natCast_nonneg _, Int.toNat_natCast _⟩)
  simp only [eL, cne]
  cbv
  (try simp only [eL])
  refine Loop.data hw (S := Int) (fun i => fr 141 [(3, .list 2 pl), (5, .ref 0 2 0 0), (11, .ref 1 2 0 0), (12, .ref 2 2 0 0), (14, .list 1 yr), (15, .list 1 yr), (78, .int .i64 L), (79, .int .i64 i)])
    (fun _ => [.live 2 [[.list 3 es, .list 5 ds]], .live 2 [[.int .i64 from_, .list 13 ra]], .live 2 [[.int .i64 from_, .list 1 rq]]]) (fun i => 0 ≤ i ∧ i ≤ L) (fun i => (L - i).toNat) 0 (by (refine Wk.eqz (id) (by first | exact fun i _ j _ e => e | (simp only [List.length_cons, List.length_nil]; decide)) ?_; cbv; (repeat' (first | exact trivial | rfl | assumption | apply And.intro | (simp only [hz, Z.a, binStd, cmpStd, unStd, scmpStd, maxI, reduceCtorEq]; first | done | assumption) | exact RowsZ.same (by assumption) (by first | assumption | rfl) | exact FzL.mk rfl rfl rfl (by assumption) (by first | assumption | rfl) (by decide) | (refine RowsZ.one ?_; cbv))))) ⟨Int.le_refl _, L0⟩ ?_
  rintro i hinv Q' hN hE hR'
  have hinv : 0 ≤ i ∧ i ≤ L := hinv
  cbv
  obtain ⟨hi0, hi1⟩ := hinv
  (split <;> rename_i hc <;> (try (simp only [hz, Z.a, binStd, cmpStd, unStd, scmpStd, maxI, reduceCtorEq] at hc)) <;> (try cbv))
  · obtain ⟨x, hx⟩ : ∃ x, ys[i.toNat]? = some x := ⟨_, List.getElem?_eq_getElem (show i.toNat < ys.length by omega)⟩
    have hxr : yr[i.toNat]? = some [.int .i64 x] := by rw [eyr, List.getElem?_map, hx]; rfl
    obtain ⟨i2, ei2⟩ : ∃ z, z = i + 1 := ⟨_, rfl⟩
    have a4 : wbin .add .i64 i 1 = i2 := by rw [hbin, ei2]; show IntKind.i64.wrap (i + 1) = i + 1; rw [IntKind.wrap_i64]; omega
    repeat' (first
      | (refine Idx.mk _ hi0 hxr ?_; cbv)
      | (simp only [cne]; cbv))
    simp only [a4]
    refine hN i2 _ _ ?hx ?hI ?ht
    case hx => (refine Wk.eqz (id) (by first | exact fun i _ j _ e => e | (simp only [List.length_cons, List.length_nil]; decide)) ?_; cbv; (repeat' (first | exact trivial | rfl | assumption | apply And.intro | (simp only [hz, Z.a, binStd, cmpStd, unStd, scmpStd, maxI, reduceCtorEq]; first | done | assumption) | exact RowsZ.same (by assumption) (by first | assumption | rfl) | exact FzL.mk rfl rfl rfl (by assumption) (by first | assumption | rfl) (by decide) | (refine RowsZ.one ?_; cbv))))
    case hI => exact ⟨by omega, by omega⟩
    case ht => omega
  refine hE _ _ _ ?_
  cbv
  obtain ⟨⟨lo, hi⟩, hp0⟩ : ∃ p, ps[0]? = some p := ⟨_, List.getElem?_eq_getElem (show 0 < ps.length by omega)⟩
  have hpi : pl[(0 : Int).toNat]? = some [.int .i64 lo, .int .i64 hi] := by rw [hpl, List.getElem?_map, show (0 : Int).toNat = 0 from rfl, hp0]; rfl
  obtain ⟨v, ev⟩ : ∃ v, v = m.foldl (fun s l => grw ss lo hi s (-from_) l) (0, 0, false) := ⟨_, rfl⟩
  have hpcs := pcs_ok hM.tr
  have k1 := e_grades ss gs es ds hes hds hln hpcs from_ hfr m (fun l hl => ⟨(hmw l hl).len.1, (hmw l hl).seg⟩) (by omega) ra era lo hi v ev
  have k2 := e_rgrades ss gs es ds hes hds hln hpcs from_ hfr m hmw (by omega) rq erq lo hi v ev
  have hno : v.2.2 = false → v = (0, 0, false) := fun h => by rw [ev] at h ⊢; exact grf_no m _ h
  obtain ⟨v1, v2, v3⟩ := v
  have k1 : PCalls Try.prog 50 [.agg [.int .i64 from_, .list 13 ra], .agg [.list 3 es, .list 5 ds], .agg [.int .i64 lo, .int .i64 hi]] (· = .tuple [.agg [.int .i64 v1, .int .i64 v2], .bool v3]) := k1
  have k2 : PCalls Try.prog 51 [.agg [.list 3 es, .list 5 ds], .agg [.int .i64 from_, .list 1 rq], .int .i64 lo, .int .i64 hi] (· = .tuple [.int .i64 v1, .int .i64 v2, .bool v3]) := k2
  clear ev
  refine Idx.mk _ (by decide) hpi ?_
  cbv
  (first | (refine Call.stepE (v := ?_) ?_ ?_ ?_; rotate_left 1; (focus (rw [← hP]; exact k1)); (focus (exact (by simp only [uptoL, AV.upto, hu.get, hud.get, hura.get]; rfl))); cbv) | (refine QCal.stepE (v := ?_) ?_ ?_ ?_; rotate_left 1; (focus (rw [← hP]; exact k1)); (focus (exact (by simp only [uptoL, AV.upto, hu.get, hud.get, hura.get]; rfl))); cbv))
  refine QCal.stepE (by rw [← hP]; exact href) (by exact hut2) ?_
  cbv
  (first | (refine Call.stepE (v := ?_) ?_ ?_ ?_; rotate_left 1; (focus (rw [← hP]; exact k2)); (focus (exact (by simp only [uptoL, AV.upto, hu.get, hud.get, hurq.get]; rfl))); cbv) | (refine QCal.stepE (v := ?_) ?_ ?_ ?_; rotate_left 1; (focus (rw [← hP]; exact k2)); (focus (exact (by simp only [uptoL, AV.upto, hu.get, hud.get, hurq.get]; rfl))); cbv))
  have hbb : wbeq v3 v3 = true := by rw [hbeq]; simp
  have ceq : ∀ x, wcmp .eql x x = true := fun x => by rw [hcmp]; simp [cmpStd]
  have zw : weqs [.int .i64 0, .int .i64 0] [.int .i64 0, .int .i64 0] [(0, 1), (1, 1)] = true := by rw [heqs]; simp [eqOffs, eqA]
  have n2 : wnot false = true := by rw [hnot]; rfl
  simp only [hbb]
  cbv
  cases v3 with
  | true =>
    cbv
    simp only [ceq]
    cbv
    (try (simp only [ceq]; cbv))
    repeat' (first | exact hW _ | (refine And.intro ?_ ?_) | (simp only [ceq, n1]; cbv))
  | false =>
    have e := hno rfl
    simp only [Prod.mk.injEq] at e
    rw [e.1, e.2.1]
    cbv
    repeat' (first | exact hW _ | (refine And.intro ?_ ?_) | (simp only [ceq, n2, zw]; cbv) | (simp only [ceq, n2, zw]))
end Go.Proofs.Ytpiocfmdjgbamaa

/- RoutePlaces, joined. -/
set_option maxRecDepth 100000
namespace Go.Proofs.Ytpiocfmdjgbamaa
open Go Go.RowKit Go.Eng
theorem ty_placesR (x : AV) (h : TyV Try.prog 8 26 x) : ∃ ps : List (Int × Int), x = .list 2 (ps.map plRow) := by
  have h := h.one (by kernel_rfl) (show shOf Try.prog 8 26 = some [.list 2 [.int .i64, .int .i64]] from by kernel_rfl)
  unfold Sh.Ok at h
  obtain ⟨es, rfl, _, hr⟩ := h
  obtain ⟨ps, rfl⟩ := rows_of (f := plRow) (es := es) fun r hrr => by
    have k0 := hr r hrr
    clear hr hrr
    obtain ⟨a, _, rfl, _, k1⟩ := ok_int k0
    obtain ⟨b, _, rfl, _, k2⟩ := ok_int k1
    obtain rfl := ok_nil k2
    exact ⟨(a, b), rfl⟩
  exact ⟨ps, rfl⟩
theorem walk_RoutePlaces (x0 x1 x2 x3 x4 : AV) (h0 : TyV Try.prog 8 25 x0) (h1 : TyV Try.prog 8 3 x1) (h2 : TyV Try.prog 8 2 x2) (h3 : TyV Try.prog 8 26 x3) (h4 : TyV Try.prog 8 3 x4) : PCalls Try.prog 11 [x0, x1, x2, x3, x4] (fun r => r = .bool true) := by
  obtain ⟨ss, gs, rfl⟩ := ty_track x0 h0
  obtain ⟨sg, rfl⟩ := ty_intS x1 h1
  obtain ⟨f, rfl, _, _⟩ := ty_i64 x2 h2
  obtain ⟨ps, rfl⟩ := ty_placesR x3 h3
  obtain ⟨g, rfl⟩ := ty_intS x4 h4
  exact e_rplacesL ss gs _ _ rfl rfl sg f ps _ rfl g
end Go.Proofs.Ytpiocfmdjgbamaa

