/- Texts of the proof, joined by wip/tools/pack3.py. -/
import Derived.Test.YtpiocfmdjgbamaaCoreP1
import Derived.KernelRfl
import Derived.Test.YtpiocfmdjgbamaaEng33
import Derived.Handy
import Derived.IntWalk
import Derived.Test.YtpiocfmdjgbamaaEng28
/- odographref14.Grow. -/
set_option linter.unusedVariables false
set_option linter.unusedSimpArgs false
namespace Go.Proofs.Ytpiocfmdjgbamaa
open Go Go.RowKit Go.Eng
set_option maxRecDepth 100000
theorem lastI_get : ∀ l : List Int, 1 ≤ l.length → l[l.length - 1]? = some (lastI l)
  | [], h => absurd h (by decide)
  | [a], _ => rfl
  | a :: b :: l, _ => by
    have := lastI_get (b :: l) (by simp)
    simpa [lastI] using this
def capR (n : Nat) : Nat := 1000 * 2 ^ n
theorem capR_succ (n : Nat) : capR (n + 1) = 2 * capR n := by unfold capR; rw [Nat.pow_succ]; omega
theorem capR_le {n : Nat} (h : n ≤ 13) : capR n ≤ 8192000 := by
  unfold capR
  have : 2 ^ n ≤ 2 ^ 13 := Nat.pow_le_pow_right (by decide) h
  omega
set_option maxHeartbeats 4000000 in
theorem e_rgrow (ss : List Sg) (gs : List Gr) (es ds : List (List AV)) (hes : es = ss.map sgRow) (hds : ds = gs.map grRow) (hln : LensOk ss) (hnx : NextOk ss) (lo hi from_ : Int) (hf : 0 ≤ from_ ∧ from_ ≤ 1099511627776) (ls : List (List Int)) (hls : ∀ l, l ∈ ls → WayOk ss l) (hsz : ls.length ≤ 1000) (rs : List (List AV)) (hrs : rs = ls.map rtRow) (v : (Int × List (List Int)) × Int) (hv : v = growB ss lo hi from_ ls) :
    PCalls Try.prog 37 [.agg [.list 3 es, .list 5 ds], .agg [.int .i64 from_, .list 1 rs], .int .i64 lo, .int .i64 hi] (· = .tuple [.agg [.int .i64 v.1.1, .list 1 (v.1.2.map rtRow)], .int .i64 v.2]) := by
  have hu : Up0 es := by rw [hes]; exact up_sg ss
  have hud : Up0 ds := by rw [hds]; exact up_gr gs
  have hur : Up0 rs := by rw [hrs]; exact up_rt ls
  obtain ⟨⟨v1, v2⟩, v3⟩ := v
  obtain ⟨vs, evs⟩ : ∃ x, x = v2.map rtRow := ⟨_, rfl⟩
  show PCalls Try.prog 37 [.agg [.list 3 es, .list 5 ds], .agg [.int .i64 from_, .list 1 rs], .int .i64 lo, .int .i64 hi] (· = .tuple [.agg [.int .i64 v1, .list 1 (v2.map rtRow)], .int .i64 v3])
  rw [← evs]
  obtain ⟨a0, ea0⟩ : ∃ a0, a0 = -from_ := ⟨_, rfl⟩
  (refine PCalls.ofY Try.func37 (by kernel_rfl) (by kernel_rfl) fun w hw R hR => ?_); (obtain ⟨wbin, wcmp, wun, wconv, wnot, wbeq, wmm, wscmp, wsadd, wslen, wsat, weqs, wlen, wnlen, wofNat, wtake, wdrop, wapp, wzero, wnat⟩ := w); (have hbin := Z.w1 hw); (have hcmp := Z.w2 hw); (have hun := Z.w3 hw); (have hconv := Z.w4 hw); (have hnot := Z.w5 hw); (have hbeq := Z.w6 hw); (have hmm := Z.w7 hw); (have hscmp := Z.w8 hw); (have hsadd := Z.w9 hw); (have hslen := Z.w10 hw); (have hsat := Z.w11 hw); (have heqs := Z.w12 hw); (have hlen := Z.w13 hw); (have hnlen := Z.w14 hw); (have hofNat := Z.w15 hw); (have htake := Z.w16 hw); (have hdrop := Z.w17 hw); (have happ := Z.w18 hw); (have hzero := Z.w19 hw); (have hnat := Z.w20 hw); (have hz := Z.z hw); (conv => arg 2; cbv); (generalize hP : Try.prog = P); cbv
  have c0 : wun .neg .i64 from_ = a0 := by rw [hun, ea0]; simp only [unStd]; rw [IntKind.wrap_i64]; omega
  have hbad : v1 = 0 → v2 = [] → ∀ h : AHeap, Ret [.agg [.int .i64 0, .nils], .int .i64 v3] h R := fun h1 h2 h => by
    subst h1 h2 evs
    exact ⟨_, Vw.tuple (rs := [.agg [.int .i64 0, .list 1 []], .int .i64 v3]) ⟨Vw.agg (rs := [.int .i64 0, .list 1 []]) ⟨Vw.same rfl, Vw.nil 1, trivial⟩, Vw.same rfl, trivial⟩, hR _ rfl⟩
  have hsplit : (hi < lo ∨ lo < -from_) → v1 = 0 ∧ v2 = [] ∧ v3 = 40 := fun h => by
    unfold growB at hv; rw [if_pos h] at hv
    simp only [Prod.mk.injEq] at hv; exact ⟨hv.1.1, hv.1.2, hv.2⟩
  (split <;> rename_i h1 <;> (try (simp only [hz, Z.a, binStd, cmpStd, unStd, scmpStd, maxI, reduceCtorEq] at h1)) <;> (try cbv))
  · obtain ⟨k1, k2, k3⟩ := hsplit (.inl h1)
    subst k3
    exact hbad k1 k2 _
  simp only [c0]
  (split <;> rename_i h2 <;> (try (simp only [hz, Z.a, binStd, cmpStd, unStd, scmpStd, maxI, reduceCtorEq] at h2)) <;> (try cbv))
  · obtain ⟨k1, k2, k3⟩ := hsplit (.inr (by omega))
    subst k3
    exact hbad k1 k2 _
  unfold growB at hv
  rw [if_neg (show ¬ (hi < lo ∨ lo < -from_) by omega)] at hv
  have h0 : growQ ss lo hi from_ 13 [] ls = growQ ss lo hi from_ (13 - (0 : Int).toNat) [] ls := rfl
  refine Loop.data hw (S := Int × List (List Int) × List (List AV) × List (List Int) × List (List AV)) (fun s => fr 117 [(2, .int .i64 lo), (3, .int .i64 hi), (4, .ref 0 2 0 0), (5, .ref 1 2 0 0), (8, .ref 2 2 0 0), (10, .ref 3 2 0 0), (11, .list 1 s.2.2.2.2), (12, .int .i64 s.1)])
    (fun s => [.live 2 [[.list 3 es, .list 5 ds]], .live 2 [[.int .i64 from_, .list 1 rs]], .live 2 [[.int .i64 0, .nils]], .live 2 [[.int .i64 from_, .list 1 s.2.2.1]]])
    (fun s => 0 ≤ s.1 ∧ s.1 ≤ 13 ∧ growQ ss lo hi from_ 13 [] ls = growQ ss lo hi from_ (13 - s.1.toNat) s.2.1 s.2.2.2.1 ∧ s.2.2.1 = s.2.1.map rtRow ∧ Up0 s.2.2.1 ∧ s.2.2.2.2 = s.2.2.2.1.map rtRow ∧ Up0 s.2.2.2.2 ∧ s.2.1.length ≤ 16 ∧ (∀ k, k ∈ s.2.1 → k.length ≤ 12) ∧ (∀ l, l ∈ s.2.2.2.1 → WayOk ss l) ∧ s.2.2.2.1.length ≤ capR s.1.toNat) (fun s => (13 - s.1).toNat) (0, [], [], ls, rs) (by (refine Wk.eqz (id) (by first | exact fun i _ j _ e => e | (simp only [List.length_cons, List.length_nil]; decide)) ?_; cbv; (repeat' (first | exact trivial | rfl | assumption | apply And.intro | (simp only [hz, Z.a, binStd, cmpStd, unStd, scmpStd, maxI, reduceCtorEq]; first | done | assumption) | exact RowsZ.same (by assumption) (by first | assumption | rfl) | exact FzL.mk rfl rfl rfl (by assumption) (by first | assumption | rfl) (by decide) | (refine RowsZ.one ?_; cbv))))) ⟨Int.le_refl _, (show (0 : Int) ≤ 13 by decide), h0, rfl, ⟨rfl⟩, hrs, hur, by simp, fun k hk => by simp at hk, hls, hsz⟩ ?_
  rintro ⟨n, out, ow, todo, tw⟩ hinv Q' hN hE hR'
  have hinv : 0 ≤ n ∧ n ≤ 13 ∧ growQ ss lo hi from_ 13 [] ls = growQ ss lo hi from_ (13 - n.toNat) out todo ∧ ow = out.map rtRow ∧ Up0 ow ∧ tw = todo.map rtRow ∧ Up0 tw ∧ out.length ≤ 16 ∧ (∀ k, k ∈ out → k.length ≤ 12) ∧ (∀ l, l ∈ todo → WayOk ss l) ∧ todo.length ≤ capR n.toNat := hinv
  cbv
  obtain ⟨hn0, hn1, hgq, hwo, huo, hwt, hut, ho16, ho12, htodo, hcap⟩ := hinv
  have hcap2 := capR_le (n := n.toNat) (by omega)
  (split <;> rename_i hc <;> (try (simp only [hz, Z.a, binStd, cmpStd, unStd, scmpStd, maxI, reduceCtorEq] at hc)) <;> (try cbv))
  · have htl : tw.length = todo.length := by rw [hwt]; simp
    (obtain ⟨L, eL, L0, Ln⟩ : ∃ L : Int, wlen tw = L ∧ 0 ≤ L ∧ L.toNat = tw.length := ⟨(tw.length : Int), by rw [hlen], Int.natCast_nonneg _, Int.toNat_natCast _⟩)
    have hret : ∀ (j : Nat) (s : Int × List (List Int) × List (List Int)), (todo.take j).foldl (grow1 ss lo hi from_) (0, out, []) = s → s.1 ≠ 0 → v1 = 0 ∧ v2 = [] ∧ v3 = 13 := fun j s hs he => by
      have hf : todo.foldl (grow1 ss lo hi from_) (0, out, []) = s := by
        conv => lhs; rw [← List.take_append_drop j todo]
        rw [List.foldl_append, hs, fold_err ss lo hi from_ _ s he]
      have hq : growQ ss lo hi from_ (13 - n.toNat) out todo = (13, []) := by
        obtain ⟨m, hm⟩ : ∃ m, 13 - n.toNat = m + 1 := ⟨12 - n.toNat, by omega⟩
        rw [hm]; unfold growQ; rw [hf, if_pos he]
      rw [hgq, hq, if_pos (by decide)] at hv
      simp only [Prod.mk.injEq] at hv
      exact ⟨hv.1.1, hv.1.2, hv.2⟩
    refine Loop.data hw (S := Int × List (List Int) × List (List AV) × List (List Int) × Option (Nat × List (List AV))) (fun s => match s.2.2.2.2 with
        | none => fr 117 [(2, .int .i64 lo), (3, .int .i64 hi), (4, .ref 0 2 0 0), (5, .ref 1 2 0 0), (8, .ref 2 2 0 0), (10, .ref 3 2 0 0), (11, .list 1 tw), (12, .int .i64 n), (13, .nils), (14, .int .i64 s.1)]
        | some (k, w) => fr 117 [(2, .int .i64 lo), (3, .int .i64 hi), (4, .ref 0 2 0 0), (5, .ref 1 2 0 0), (8, .ref 2 2 0 0), (10, .ref 3 2 0 0), (11, .list 1 tw), (12, .int .i64 n), (13, .sl 4 1 0 k), (14, .int .i64 s.1)])
      (fun s => match s.2.2.2.2 with
        | none => [.live 2 [[.list 3 es, .list 5 ds]], .live 2 [[.int .i64 from_, .list 1 rs]], .live 2 [[.int .i64 0, .nils]], .live 2 [[.int .i64 from_, .list 1 s.2.2.1]]]
        | some (k, w) => [.live 2 [[.list 3 es, .list 5 ds]], .live 2 [[.int .i64 from_, .list 1 rs]], .live 2 [[.int .i64 0, .nils]], .live 2 [[.int .i64 from_, .list 1 s.2.2.1]], .live 1 w])
      (fun s => 0 ≤ s.1 ∧ s.1 ≤ L ∧ (todo.take s.1.toNat).foldl (grow1 ss lo hi from_) (0, out, []) = (0, s.2.1, s.2.2.2.1) ∧ s.2.2.1 = s.2.1.map rtRow ∧ Up0 s.2.2.1 ∧ s.2.1.length ≤ 16 ∧ (∀ k, k ∈ s.2.1 → k.length ≤ 12) ∧ s.2.2.2.1.length ≤ 2 * s.1.toNat ∧ (∀ l, l ∈ s.2.2.2.1 → WayOk ss l) ∧ (match s.2.2.2.2 with | none => s.2.2.2.1 = [] | some (k, w) => k = w.length ∧ w = s.2.2.2.1.map rtRow ∧ Up0 w)) (fun s => (L - s.1).toNat) (0, out, ow, [], none) (by (refine Wk.eqz (id) (by first | exact fun i _ j _ e => e | (simp only [List.length_cons, List.length_nil]; decide)) ?_; cbv; (repeat' (first | exact trivial | rfl | assumption | apply And.intro | (simp only [hz, Z.a, binStd, cmpStd, unStd, scmpStd, maxI, reduceCtorEq]; first | done | assumption) | exact RowsZ.same (by assumption) (by first | assumption | rfl) | exact FzL.mk rfl rfl rfl (by assumption) (by first | assumption | rfl) (by decide) | (refine RowsZ.one ?_; cbv))))) ⟨Int.le_refl _, L0, rfl, hwo, huo, ho16, ho12, by simp, fun l hl => by simp at hl, rfl⟩ ?_
    rintro ⟨i, out1, ow1, more, _ | ⟨k, w⟩⟩ hinv1 Q1 hN1 hE1 hR1
    · cbv
      simp only [eL]
      have hinv2 : 0 ≤ i ∧ i ≤ L ∧ (todo.take i.toNat).foldl (grow1 ss lo hi from_) (0, out, []) = (0, out1, more) ∧ ow1 = out1.map rtRow ∧ Up0 ow1 ∧ out1.length ≤ 16 ∧ (∀ k, k ∈ out1 → k.length ≤ 12) ∧ more.length ≤ 2 * i.toNat ∧ (∀ l, l ∈ more → WayOk ss l) := ⟨hinv1.1, hinv1.2.1, hinv1.2.2.1, hinv1.2.2.2.1, hinv1.2.2.2.2.1, hinv1.2.2.2.2.2.1, hinv1.2.2.2.2.2.2.1, hinv1.2.2.2.2.2.2.2.1, hinv1.2.2.2.2.2.2.2.2.1⟩
      have hms : more = [] := hinv1.2.2.2.2.2.2.2.2.2
      obtain ⟨hi0, hi1, hfold, hwo1, huo1, ho161, ho121, hml, hmo⟩ := hinv2
      (split <;> rename_i hc1 <;> (try (simp only [hz, Z.a, binStd, cmpStd, unStd, scmpStd, maxI, reduceCtorEq] at hc1)) <;> (try cbv))
      · skip
        obtain ⟨r, hr⟩ : ∃ r, todo[i.toNat]? = some r := ⟨_, List.getElem?_eq_getElem (show i.toNat < todo.length by omega)⟩
        have hrok := htodo r (List.mem_of_getElem? hr)
        have hrl := hrok.len
        obtain ⟨xs, exs⟩ : ∃ x, x = r.map nxRow := ⟨_, rfl⟩
        have huxs : Up0 xs := by rw [exs]; exact up_nx r
        have hxl : xs.length = r.length := by rw [exs]; simp
        have hrow : tw[i.toNat]? = some [.list 1 xs] := by rw [hwt, List.getElem?_map, hr, exs]; rfl
        obtain ⟨i2, ei2⟩ : ∃ z, z = i + 1 := ⟨_, rfl⟩
        have a4 : wbin .add .i64 i 1 = i2 := by rw [hbin, ei2]; show IntKind.i64.wrap (i + 1) = i + 1; rw [IntKind.wrap_i64]; omega
        obtain ⟨q, eq⟩ : ∃ q, q = lastI r := ⟨_, rfl⟩
        have hq1 := lastI_get r hrl.2
        have hqb := hrok.seg q (by rw [eq]; exact List.mem_of_getElem? hq1)
        obtain ⟨sg0, hd0, hrow0⟩ := get_map (f := sgRow) (ds := ss) (i := q) hqb.1 hqb.2
        have hnxe : nxAt ss (lastI r) = sg0.nx := by rw [← eq]; unfold nxAt; rw [hd0]
        have hnxs : ∀ x, x ∈ sg0.nx → x ∈ nxAt ss (lastI r) := fun x hx => by rw [hnxe]; exact hx
        have hnx2 : sg0.nx.length ≤ 2 := by have := nxAt_two hnx (lastI r); rw [hnxe] at this; exact this
        obtain ⟨y, ey⟩ : ∃ y, y = endF ss from_ r := ⟨_, rfl⟩
        have hyb := endF_le hln hf r
        rw [← ey] at hyb
        have hend := e_rend ss gs es ds hes hds hln from_ hf r hrl.1 hrok.seg xs exs y ey
        have hstep : (todo.take i2.toNat).foldl (grow1 ss lo hi from_) (0, out, []) = grow1 ss lo hi from_ (0, out1, more) r := by
          rw [ei2, take_next hi0 hr, List.foldl_append, hfold]; rfl
        have hg : grow1 ss lo hi from_ (0, out1, more) r = (if hi ≤ y ∨ sg0.nx = [] then (if 16 < (if lo ≤ y then putQ out1 r else out1).length then 13 else 0, if lo ≤ y then putQ out1 r else out1, more) else if r.length = 12 then (13, out1, more) else (0, out1, more ++ sg0.nx.map fun n => r ++ [n])) := by
          unfold grow1; rw [if_neg (by simp), ← ey, hnxe]
        rw [hg] at hstep
        clear hg
        obtain ⟨len, pcs, nx⟩ := sg0
        obtain ⟨q0, eq0⟩ : ∃ x, pcs.map pcRow = x := ⟨_, rfl⟩
        obtain ⟨ns, ens⟩ : ∃ x, nx.map nxRow = x := ⟨_, rfl⟩
        have huns : Up0 ns := by rw [← ens]; exact up_nx nx
        have hnl : ns.length = nx.length := by rw [← ens]; simp
        have hrow0 : es[q.toNat]? = some [.int .i64 len, .list 2 q0, .list 1 ns] := by rw [hes, ← eq0, ← ens]; exact hrow0
        have hnx2 : nx.length ≤ 2 := hnx2
        have hnxs : ∀ x, x ∈ nx → x ∈ nxAt ss (lastI r) := hnxs
        have hT1 : (L - i2).toNat < (L - i).toNat := by omega
        have hup : ∀ x : List (List AV), Up0 x → uptoL 0 [AV.agg [.list 3 es, .list 5 ds], .int .i64 from_, .list 1 x] = true := fun x hx => by simp only [uptoL, AV.upto, hu.get, hud.get, hx.get]; rfl
        refine Idx.mk _ hi0 hrow ?_
        cbv
        (obtain ⟨K, eK, K0, Kn⟩ : ∃ L : Int, wlen xs = L ∧ 0 ≤ L ∧ L.toNat = xs.length := ⟨(xs.length : Int), by rw [hlen], Int.natCast_nonneg _, Int.toNat_natCast _⟩)
        obtain ⟨K1, eK1⟩ : ∃ z, z = K - 1 := ⟨_, rfl⟩
        have s1 : wbin .sub .i64 K 1 = K1 := by rw [hbin, eK1]; show IntKind.i64.wrap (K - 1) = K - 1; rw [IntKind.wrap_i64]; omega
        have hxq : xs[K1.toNat]? = some (nxRow q) := by rw [exs, List.getElem?_map, show K1.toNat = r.length - 1 by omega, hq1, eq]; rfl
        simp only [eK, s1]
        refine Idx.mk _ (show 0 ≤ K1 by omega) hxq ?_
        cbv
        refine Idx.mk _ hqb.1 hrow0 ?_
        cbv
        refine Call.stepE (by rw [← hP]; exact hend) (by exact hup _ huxs) ?_
        cbv
        (obtain ⟨J, eJ, J0, Jn⟩ : ∃ L : Int, wlen ns = L ∧ 0 ≤ L ∧ L.toNat = ns.length := ⟨(ns.length : Int), by rw [hlen], Int.natCast_nonneg _, Int.toNat_natCast _⟩)
        (split <;> rename_i h3 <;> (try (simp only [hz, Z.a, binStd, cmpStd, unStd, scmpStd, maxI, reduceCtorEq] at h3)) <;> (try cbv))
        · skip
          have hE1' : hi ≤ y ∨ nx = [] := .inl h3
          rw [if_pos hE1'] at hstep
          (split <;> rename_i h5 <;> (try (simp only [hz, Z.a, binStd, cmpStd, unStd, scmpStd, maxI, reduceCtorEq] at h5)) <;> (try cbv))
          · rw [if_pos h5] at hstep
            obtain ⟨o2, eo2⟩ : ∃ z, z = putQ out1 r := ⟨_, rfl⟩
            obtain ⟨po, epo⟩ : ∃ z, z = (putQ out1 r).map rtRow := ⟨_, rfl⟩
            have hpq := e_put out1 r ho121 (by omega) hrl.1 ow1 xs hwo1 exs
            rw [← epo] at hpq
            rw [← eo2] at epo hstep
            have hupo : Up0 po := by rw [epo]; exact up_rt o2
            have hpl : po.length = o2.length := by rw [epo]; simp
            have hol : o2.length ≤ 17 := by rw [eo2]; have := putQ_len out1 r; omega
            have ho2 : ∀ k, k ∈ o2 → k.length ≤ 12 := fun k hk => by
              rw [eo2] at hk
              rcases putQ_mem1 out1 r k hk with h | rfl
              · exact ho121 k h
              · exact hrl.1
            refine Call.stepE (by rw [← hP]; exact hpq) (by exact up_two huo1 huxs) ?_
            cbv
            (obtain ⟨H, eH, H0, Hn⟩ : ∃ L : Int, wlen po = L ∧ 0 ≤ L ∧ L.toNat = po.length := ⟨(po.length : Int), by rw [hlen], Int.natCast_nonneg _, Int.toNat_natCast _⟩)
            (split <;> rename_i h6 <;> (try (simp only [eH] at h6)) <;> (try (simp only [hz, Z.a, binStd, cmpStd, unStd, scmpStd, maxI, reduceCtorEq] at h6)) <;> (try cbv))
            · obtain ⟨k1, k2, k3⟩ := hret _ _ hstep (by rw [if_pos (by omega)]; exact (show (13 : Int) ≠ 0 by decide))
              subst k3
              exact hR1 _ _ (hR' _ _ (hbad k1 k2 _))
            · rw [if_neg (show ¬ 16 < o2.length by omega)] at hstep
              simp only [a4]
              refine hN1 (i2, o2, po, more, none) _ _ ?hx ?hi ?ht
              case hx => (refine Wk.eqz (id) (by first | exact fun i _ j _ e => e | (simp only [List.length_cons, List.length_nil]; decide)) ?_; cbv; (repeat' (first | exact trivial | rfl | assumption | apply And.intro | (simp only [hz, Z.a, binStd, cmpStd, unStd, scmpStd, maxI, reduceCtorEq]; first | done | assumption) | exact RowsZ.same (by assumption) (by first | assumption | rfl) | exact FzL.mk rfl rfl rfl (by assumption) (by first | assumption | rfl) (by decide) | (refine RowsZ.one ?_; cbv))))
              case hi => exact ⟨by first | omega | (simp only; omega), by first | omega | (simp only; omega), hstep, epo, hupo, (by first | omega | (simp only; omega)), ho2, by first | omega | (simp only; omega), hmo, hms⟩
              case ht => exact hT1
          · rw [if_neg (show ¬ lo ≤ y by omega), if_neg (show ¬ 16 < out1.length by omega)] at hstep
            (obtain ⟨H, eH, H0, Hn⟩ : ∃ L : Int, wlen ow1 = L ∧ 0 ≤ L ∧ L.toNat = ow1.length := ⟨(ow1.length : Int), by rw [hlen], Int.natCast_nonneg _, Int.toNat_natCast _⟩)
            have hol : ow1.length = out1.length := by rw [hwo1]; simp
            (split <;> rename_i h6 <;> (try (simp only [eH] at h6)) <;> (try (simp only [hz, Z.a, binStd, cmpStd, unStd, scmpStd, maxI, reduceCtorEq] at h6)) <;> (try cbv))
            · exfalso; omega
            · simp only [a4]
              refine hN1 (i2, out1, ow1, more, none) _ _ ?hx ?hi ?ht
              case hx => (refine Wk.eqz (id) (by first | exact fun i _ j _ e => e | (simp only [List.length_cons, List.length_nil]; decide)) ?_; cbv; (repeat' (first | exact trivial | rfl | assumption | apply And.intro | (simp only [hz, Z.a, binStd, cmpStd, unStd, scmpStd, maxI, reduceCtorEq]; first | done | assumption) | exact RowsZ.same (by assumption) (by first | assumption | rfl) | exact FzL.mk rfl rfl rfl (by assumption) (by first | assumption | rfl) (by decide) | (refine RowsZ.one ?_; cbv))))
              case hi => exact ⟨by first | omega | (simp only; omega), by first | omega | (simp only; omega), hstep, hwo1, huo1, ho161, ho121, by first | omega | (simp only; omega), hmo, hms⟩
              case ht => exact hT1
        simp only [eJ]
        (split <;> rename_i h4 <;> (try (simp only [hz, Z.a, binStd, cmpStd, unStd, scmpStd, maxI, reduceCtorEq] at h4)) <;> (try cbv))
        · skip
          have hE1' : hi ≤ y ∨ nx = [] := .inr (List.length_eq_zero_iff.1 (by omega))
          rw [if_pos hE1'] at hstep
          (split <;> rename_i h5 <;> (try (simp only [hz, Z.a, binStd, cmpStd, unStd, scmpStd, maxI, reduceCtorEq] at h5)) <;> (try cbv))
          · rw [if_pos h5] at hstep
            obtain ⟨o2, eo2⟩ : ∃ z, z = putQ out1 r := ⟨_, rfl⟩
            obtain ⟨po, epo⟩ : ∃ z, z = (putQ out1 r).map rtRow := ⟨_, rfl⟩
            have hpq := e_put out1 r ho121 (by omega) hrl.1 ow1 xs hwo1 exs
            rw [← epo] at hpq
            rw [← eo2] at epo hstep
            have hupo : Up0 po := by rw [epo]; exact up_rt o2
            have hpl : po.length = o2.length := by rw [epo]; simp
            have hol : o2.length ≤ 17 := by rw [eo2]; have := putQ_len out1 r; omega
            have ho2 : ∀ k, k ∈ o2 → k.length ≤ 12 := fun k hk => by
              rw [eo2] at hk
              rcases putQ_mem1 out1 r k hk with h | rfl
              · exact ho121 k h
              · exact hrl.1
            refine Call.stepE (by rw [← hP]; exact hpq) (by exact up_two huo1 huxs) ?_
            cbv
            (obtain ⟨H, eH, H0, Hn⟩ : ∃ L : Int, wlen po = L ∧ 0 ≤ L ∧ L.toNat = po.length := ⟨(po.length : Int), by rw [hlen], Int.natCast_nonneg _, Int.toNat_natCast _⟩)
            (split <;> rename_i h6 <;> (try (simp only [eH] at h6)) <;> (try (simp only [hz, Z.a, binStd, cmpStd, unStd, scmpStd, maxI, reduceCtorEq] at h6)) <;> (try cbv))
            · obtain ⟨k1, k2, k3⟩ := hret _ _ hstep (by rw [if_pos (by omega)]; exact (show (13 : Int) ≠ 0 by decide))
              subst k3
              exact hR1 _ _ (hR' _ _ (hbad k1 k2 _))
            · rw [if_neg (show ¬ 16 < o2.length by omega)] at hstep
              simp only [a4]
              refine hN1 (i2, o2, po, more, none) _ _ ?hx ?hi ?ht
              case hx => (refine Wk.eqz (id) (by first | exact fun i _ j _ e => e | (simp only [List.length_cons, List.length_nil]; decide)) ?_; cbv; (repeat' (first | exact trivial | rfl | assumption | apply And.intro | (simp only [hz, Z.a, binStd, cmpStd, unStd, scmpStd, maxI, reduceCtorEq]; first | done | assumption) | exact RowsZ.same (by assumption) (by first | assumption | rfl) | exact FzL.mk rfl rfl rfl (by assumption) (by first | assumption | rfl) (by decide) | (refine RowsZ.one ?_; cbv))))
              case hi => exact ⟨by first | omega | (simp only; omega), by first | omega | (simp only; omega), hstep, epo, hupo, (by first | omega | (simp only; omega)), ho2, by first | omega | (simp only; omega), hmo, hms⟩
              case ht => exact hT1
          · rw [if_neg (show ¬ lo ≤ y by omega), if_neg (show ¬ 16 < out1.length by omega)] at hstep
            (obtain ⟨H, eH, H0, Hn⟩ : ∃ L : Int, wlen ow1 = L ∧ 0 ≤ L ∧ L.toNat = ow1.length := ⟨(ow1.length : Int), by rw [hlen], Int.natCast_nonneg _, Int.toNat_natCast _⟩)
            have hol : ow1.length = out1.length := by rw [hwo1]; simp
            (split <;> rename_i h6 <;> (try (simp only [eH] at h6)) <;> (try (simp only [hz, Z.a, binStd, cmpStd, unStd, scmpStd, maxI, reduceCtorEq] at h6)) <;> (try cbv))
            · exfalso; omega
            · simp only [a4]
              refine hN1 (i2, out1, ow1, more, none) _ _ ?hx ?hi ?ht
              case hx => (refine Wk.eqz (id) (by first | exact fun i _ j _ e => e | (simp only [List.length_cons, List.length_nil]; decide)) ?_; cbv; (repeat' (first | exact trivial | rfl | assumption | apply And.intro | (simp only [hz, Z.a, binStd, cmpStd, unStd, scmpStd, maxI, reduceCtorEq]; first | done | assumption) | exact RowsZ.same (by assumption) (by first | assumption | rfl) | exact FzL.mk rfl rfl rfl (by assumption) (by first | assumption | rfl) (by decide) | (refine RowsZ.one ?_; cbv))))
              case hi => exact ⟨by first | omega | (simp only; omega), by first | omega | (simp only; omega), hstep, hwo1, huo1, ho161, ho121, by first | omega | (simp only; omega), hmo, hms⟩
              case ht => exact hT1
        have hE1' : ¬ (hi ≤ y ∨ nx = []) := by
          rintro (h | h)
          · omega
          · rw [h, List.length_nil] at hnl; omega
        rw [if_neg hE1'] at hstep
        simp only [eK]
        (split <;> rename_i h5 <;> (try (simp only [hz, Z.a, binStd, cmpStd, unStd, scmpStd, maxI, reduceCtorEq] at h5)) <;> (try cbv))
        · rw [if_pos (show r.length = 12 by omega)] at hstep
          obtain ⟨k1, k2, k3⟩ := hret _ _ hstep (show (13 : Int) ≠ 0 by decide)
          subst k3
          exact hR1 _ _ (hR' _ _ (hbad k1 k2 _))
        rw [if_neg (show ¬ r.length = 12 by omega)] at hstep
        have h12 : r.length ≠ 12 := by omega
        have hnl0 : more ++ (nx.take (0 : Int).toNat).map (fun n => r ++ [n]) = more := by simp
        refine Loop.data hw (S := Int × List (List Int) × Option (Nat × List (List AV))) (fun s => match s.2.2 with
            | none => fr 117 [(2, .int .i64 lo), (3, .int .i64 hi), (4, .ref 0 2 0 0), (5, .ref 1 2 0 0), (8, .ref 2 2 0 0), (10, .ref 3 2 0 0), (11, .list 1 tw), (12, .int .i64 n), (13, .nils), (14, .int .i64 i), (15, .list 1 xs), (16, .list 1 ns), (18, .int .i64 s.1)]
            | some (k, w) => fr 117 [(2, .int .i64 lo), (3, .int .i64 hi), (4, .ref 0 2 0 0), (5, .ref 1 2 0 0), (8, .ref 2 2 0 0), (10, .ref 3 2 0 0), (11, .list 1 tw), (12, .int .i64 n), (13, .sl 4 1 0 k), (14, .int .i64 i), (15, .list 1 xs), (16, .list 1 ns), (18, .int .i64 s.1)])
          (fun s => match s.2.2 with
            | none => [.live 2 [[.list 3 es, .list 5 ds]], .live 2 [[.int .i64 from_, .list 1 rs]], .live 2 [[.int .i64 0, .nils]], .live 2 [[.int .i64 from_, .list 1 ow1]]]
            | some (k, w) => [.live 2 [[.list 3 es, .list 5 ds]], .live 2 [[.int .i64 from_, .list 1 rs]], .live 2 [[.int .i64 0, .nils]], .live 2 [[.int .i64 from_, .list 1 ow1]], .live 1 w])
          (fun s => 0 ≤ s.1 ∧ s.1 ≤ J ∧ s.2.1 = more ++ (nx.take s.1.toNat).map (fun n => r ++ [n]) ∧ (match s.2.2 with | none => s.2.1 = [] | some (k, w) => k = w.length ∧ w = s.2.1.map rtRow ∧ Up0 w)) (fun s => (J - s.1).toNat) (0, more, none) (by (refine Wk.eqz (id) (by first | exact fun i _ j _ e => e | (simp only [List.length_cons, List.length_nil]; decide)) ?_; cbv; (repeat' (first | exact trivial | rfl | assumption | apply And.intro | (simp only [hz, Z.a, binStd, cmpStd, unStd, scmpStd, maxI, reduceCtorEq]; first | done | assumption) | exact RowsZ.same (by assumption) (by first | assumption | rfl) | exact FzL.mk rfl rfl rfl (by assumption) (by first | assumption | rfl) (by decide) | (refine RowsZ.one ?_; cbv))))) ⟨Int.le_refl _, J0, hnl0.symm, hms⟩ ?_
        rintro ⟨j, mo, _ | ⟨k2, w2⟩⟩ hinv3 Q2 hN2 hE2 hR2
        · cbv
          simp only [eJ]
          have hinv4 : 0 ≤ j ∧ j ≤ J ∧ mo = more ++ (nx.take j.toNat).map (fun n => r ++ [n]) := ⟨hinv3.1, hinv3.2.1, hinv3.2.2.1⟩
          have hms2 : mo = [] := hinv3.2.2.2
          obtain ⟨hj0, hj1, hmoe⟩ := hinv4
          have hmol : mo.length ≤ more.length + 2 := by rw [hmoe]; simp only [List.length_append, List.length_map, List.length_take]; omega
          (split <;> rename_i hc3 <;> (try (simp only [hz, Z.a, binStd, cmpStd, unStd, scmpStd, maxI, reduceCtorEq] at hc3)) <;> (try cbv))
          · skip
            obtain ⟨nn, hnn⟩ : ∃ nn, nx[j.toNat]? = some nn := ⟨_, List.getElem?_eq_getElem (show j.toNat < nx.length by omega)⟩
            have hnn2 : ns[j.toNat]? = some (nxRow nn) := by rw [← ens, List.getElem?_map, hnn]; rfl
            obtain ⟨j2, ej2⟩ : ∃ z, z = j + 1 := ⟨_, rfl⟩
            have a5 : wbin .add .i64 j 1 = j2 := by rw [hbin, ej2]; show IntKind.i64.wrap (j + 1) = j + 1; rw [IntKind.wrap_i64]; omega
            have hmo2 : mo ++ [r ++ [nn]] = more ++ (nx.take j2.toNat).map (fun n => r ++ [n]) := by rw [ej2, take_next hj0 hnn, hmoe]; simp
            have hxne : xs ≠ [] := fun h => by rw [h] at hxl; simp at hxl; omega
            rcases xs with _ | ⟨x0, _ | ⟨x1, xt⟩⟩
            · exact absurd rfl hxne
            all_goals
              obtain ⟨xl, exl⟩ : ∃ m : Nat, m = r.length := ⟨_, rfl⟩
              obtain ⟨lx, elx⟩ : ∃ x : List (List AV), x = (r ++ [nn]).map nxRow := ⟨_, rfl⟩
              have hlx : lx.length = r.length + 1 := by rw [elx]; simp
              have hulx : Up0 lx := by rw [elx]; exact up_nx _
              obtain ⟨lk, elk⟩ : ∃ k, k = lx.length := ⟨_, rfl⟩
              cbv
              first
                | refine Ob.mk (by decide) ?_
                | (refine Fb.mk ⟨fun h => absurd h (by simp), fun _ => ⟨⟨rfl, by simp only [List.length_cons] at hxl ⊢; omega, by simp only [List.length_cons] at hxl ⊢; omega⟩, ?_⟩⟩; rw [hxl, ← exl])
              cbv
              refine Idx.mk _ hj0 hnn2 ?_
              cbv
              refine App.mk lx lk (by rw [elx, List.map_append, ← exs]; rfl) (by first | rfl | rw [hxl, exl]) (by simp only [List.length_cons, List.length_nil] at hxl; omega) (by simp only [List.length_cons, List.length_nil] at hxl; omega) (by simp only [List.length_cons, List.length_nil] at hxl; omega) ?_
              cbv
              refine Ob.mk (by decide) ?_
              cbv
              simp only [a5]
              refine hN2 (j2, mo ++ [r ++ [nn]], some (1, [[.list 1 lx]])) _ _ ?hx ?hi ?ht
              case hx => (refine Wk.eqz (fun j => [0, 1, 2, 3, 6].getD j 0) (by first | exact fun i _ j _ e => e | (simp only [List.length_cons, List.length_nil]; decide)) ?_; cbv; (repeat' (first | exact trivial | rfl | assumption | apply And.intro | (simp only [hz, Z.a, binStd, cmpStd, unStd, scmpStd, maxI, reduceCtorEq]; first | done | assumption) | exact RowsZ.same (by assumption) (by first | assumption | rfl) | exact FzL.mk rfl rfl rfl (by assumption) (by first | assumption | rfl) (by decide) | (refine RowsZ.one ?_; cbv))))
              case hi => exact ⟨by first | omega | (simp only; omega), by first | omega | (simp only; omega), hmo2, rfl, by rw [hms2, elx]; rfl, ⟨by simp only [uptoLL, uptoL, AV.upto, hulx.get]; rfl⟩⟩
              case ht => show (J - j2).toNat < (J - j).toNat; omega
          · skip
            have hmoF : mo = more ++ nx.map (fun n => r ++ [n]) := by rw [hmoe, List.take_of_length_le (by omega)]
            rw [← hmoF] at hstep
            have hmok : ∀ l, l ∈ mo → WayOk ss l := fun l hl => by
              rw [hmoF] at hl
              rcases List.mem_append.1 hl with hl | hl
              · exact hmo l hl
              · obtain ⟨q, hq, rfl⟩ := List.mem_map.1 hl
                exact hrok.snoc hnx h12 (hnxs q hq)
            refine hE2 _ _ _ ?_
            cbv
            simp only [a4]
            refine hN1 (i2, out1, ow1, mo, none) _ _ ?hx ?hi ?ht
            case hx => (refine Wk.eqz (id) (by first | exact fun i _ j _ e => e | (simp only [List.length_cons, List.length_nil]; decide)) ?_; cbv; (repeat' (first | exact trivial | rfl | assumption | apply And.intro | (simp only [hz, Z.a, binStd, cmpStd, unStd, scmpStd, maxI, reduceCtorEq]; first | done | assumption) | exact RowsZ.same (by assumption) (by first | assumption | rfl) | exact FzL.mk rfl rfl rfl (by assumption) (by first | assumption | rfl) (by decide) | (refine RowsZ.one ?_; cbv))))
            case hi => exact ⟨by first | omega | (simp only; omega), by first | omega | (simp only; omega), hstep, hwo1, huo1, ho161, ho121, by first | omega | (simp only; omega), hmok, hms2⟩
            case ht => exact hT1
        · cbv
          simp only [eJ]
          have hinv4 : 0 ≤ j ∧ j ≤ J ∧ mo = more ++ (nx.take j.toNat).map (fun n => r ++ [n]) := ⟨hinv3.1, hinv3.2.1, hinv3.2.2.1⟩
          have hms2 : k2 = w2.length ∧ w2 = mo.map rtRow ∧ Up0 w2 := hinv3.2.2.2
          obtain ⟨hj0, hj1, hmoe⟩ := hinv4
          have hmol : mo.length ≤ more.length + 2 := by rw [hmoe]; simp only [List.length_append, List.length_map, List.length_take]; omega
          obtain ⟨hk2, hw22, huw22⟩ := hms2
          (split <;> rename_i hc3 <;> (try (simp only [hz, Z.a, binStd, cmpStd, unStd, scmpStd, maxI, reduceCtorEq] at hc3)) <;> (try cbv))
          · skip
            obtain ⟨nn, hnn⟩ : ∃ nn, nx[j.toNat]? = some nn := ⟨_, List.getElem?_eq_getElem (show j.toNat < nx.length by omega)⟩
            have hnn2 : ns[j.toNat]? = some (nxRow nn) := by rw [← ens, List.getElem?_map, hnn]; rfl
            obtain ⟨j2, ej2⟩ : ∃ z, z = j + 1 := ⟨_, rfl⟩
            have a5 : wbin .add .i64 j 1 = j2 := by rw [hbin, ej2]; show IntKind.i64.wrap (j + 1) = j + 1; rw [IntKind.wrap_i64]; omega
            have hmo2 : mo ++ [r ++ [nn]] = more ++ (nx.take j2.toNat).map (fun n => r ++ [n]) := by rw [ej2, take_next hj0 hnn, hmoe]; simp
            have hxne : xs ≠ [] := fun h => by rw [h] at hxl; simp at hxl; omega
            rcases xs with _ | ⟨x0, _ | ⟨x1, xt⟩⟩
            · exact absurd rfl hxne
            all_goals
              obtain ⟨xl, exl⟩ : ∃ m : Nat, m = r.length := ⟨_, rfl⟩
              obtain ⟨lx, elx⟩ : ∃ x : List (List AV), x = (r ++ [nn]).map nxRow := ⟨_, rfl⟩
              have hlx : lx.length = r.length + 1 := by rw [elx]; simp
              have hulx : Up0 lx := by rw [elx]; exact up_nx _
              obtain ⟨lk, elk⟩ : ∃ k, k = lx.length := ⟨_, rfl⟩
              cbv
              first
                | refine Ob.mk (by decide) ?_
                | (refine Fb.mk ⟨fun h => absurd h (by simp), fun _ => ⟨⟨rfl, by simp only [List.length_cons] at hxl ⊢; omega, by simp only [List.length_cons] at hxl ⊢; omega⟩, ?_⟩⟩; rw [hxl, ← exl])
              cbv
              refine Idx.mk _ hj0 hnn2 ?_
              cbv
              refine App.mk lx lk (by rw [elx, List.map_append, ← exs]; rfl) (by first | rfl | rw [hxl, exl]) (by simp only [List.length_cons, List.length_nil] at hxl; omega) (by simp only [List.length_cons, List.length_nil] at hxl; omega) (by simp only [List.length_cons, List.length_nil] at hxl; omega) ?_
              cbv
              obtain ⟨w3, ew3⟩ : ∃ x : List (List AV), x = w2 ++ [[.sl 6 1 0 lk]] := ⟨_, rfl⟩
              obtain ⟨w4, ew4⟩ : ∃ x : List (List AV), x = w2 ++ [[.list 1 lx]] := ⟨_, rfl⟩
              obtain ⟨k3, ek3⟩ : ∃ x, x = k2 + 1 := ⟨_, rfl⟩
              have hw3l : k3 = w4.length := by rw [ek3, ew4]; simp; omega
              have hw4 : w4 = (mo ++ [r ++ [nn]]).map rtRow := by rw [ew4, hw22, elx]; simp [rtRow]
              have huw4 : Up0 w4 := by rw [hw4]; exact up_rt _
              have hkml : k2 = mo.length := by rw [hk2, hw22]; simp
              refine App.mk w3 k3 ew3 hk2 ek3 (by omega) (by omega) ?_
              cbv
              simp only [a5]
              refine hN2 (j2, mo ++ [r ++ [nn]], some (k3, w4)) _ _ ?hx ?hi ?ht
              case hx => (refine Wk.eqz (fun j => [0, 1, 2, 3, 7].getD j 0) (by first | exact fun i _ j _ e => e | (simp only [List.length_cons, List.length_nil]; decide)) ?_; cbv; (repeat' (first | exact trivial | rfl | assumption | (refine RowsZ.app huw22 ew3 ew4 ?_; cbv) | apply And.intro | (simp only [hz, Z.a, binStd, cmpStd, unStd, scmpStd, maxI, reduceCtorEq]; first | done | assumption) | exact RowsZ.same (by assumption) (by first | assumption | rfl) | exact FzL.mk rfl rfl rfl (by assumption) (by first | assumption | rfl) (by decide) | (refine RowsZ.one ?_; cbv))))
              case hi => exact ⟨by first | omega | (simp only; omega), by first | omega | (simp only; omega), hmo2, hw3l, hw4, huw4⟩
              case ht => show (J - j2).toNat < (J - j).toNat; omega
          · skip
            have hmoF : mo = more ++ nx.map (fun n => r ++ [n]) := by rw [hmoe, List.take_of_length_le (by omega)]
            rw [← hmoF] at hstep
            have hmok : ∀ l, l ∈ mo → WayOk ss l := fun l hl => by
              rw [hmoF] at hl
              rcases List.mem_append.1 hl with hl | hl
              · exact hmo l hl
              · obtain ⟨q, hq, rfl⟩ := List.mem_map.1 hl
                exact hrok.snoc hnx h12 (hnxs q hq)
            refine hE2 _ _ _ ?_
            cbv
            simp only [a4]
            refine hN1 (i2, out1, ow1, mo, some (k2, w2)) _ _ ?hx ?hi ?ht
            case hx => (refine Wk.eqz (id) (by first | exact fun i _ j _ e => e | (simp only [List.length_cons, List.length_nil]; decide)) ?_; cbv; (repeat' (first | exact trivial | rfl | assumption | apply And.intro | (simp only [hz, Z.a, binStd, cmpStd, unStd, scmpStd, maxI, reduceCtorEq]; first | done | assumption) | exact RowsZ.same (by assumption) (by first | assumption | rfl) | exact FzL.mk rfl rfl rfl (by assumption) (by first | assumption | rfl) (by decide) | (refine RowsZ.one ?_; cbv))))
            case hi => exact ⟨by first | omega | (simp only; omega), by first | omega | (simp only; omega), hstep, hwo1, huo1, ho161, ho121, by first | omega | (simp only; omega), hmok, hk2, hw22, huw22⟩
            case ht => exact hT1
      · have hiL : todo.take i.toNat = todo := List.take_of_length_le (by omega)
        rw [hiL] at hfold
        obtain ⟨n2, en2⟩ : ∃ z, z = n + 1 := ⟨_, rfl⟩
        have a6 : wbin .add .i64 n 1 = n2 := by rw [hbin, en2]; show IntKind.i64.wrap (n + 1) = n + 1; rw [IntKind.wrap_i64]; omega
        have hgq2 : growQ ss lo hi from_ 13 [] ls = growQ ss lo hi from_ (13 - n2.toNat) out1 more := by
          rw [hgq, show 13 - n.toNat = (13 - n2.toNat) + 1 by omega]
          conv => lhs; unfold growQ
          rw [hfold, if_neg (by simp)]
        have hcap3 : more.length ≤ capR n2.toNat := by rw [show n2.toNat = n.toNat + 1 by omega, capR_succ]; omega
        refine hE1 _ _ _ ?_
        cbv
        simp only [a6]
        refine hN (n2, out1, ow1, more, []) _ _ ?hx ?hi ?ht
        case hx => (refine Wk.eqz (id) (by first | exact fun i _ j _ e => e | (simp only [List.length_cons, List.length_nil]; decide)) ?_; cbv; (repeat' (first | exact trivial | rfl | assumption | apply And.intro | (simp only [hz, Z.a, binStd, cmpStd, unStd, scmpStd, maxI, reduceCtorEq]; first | done | assumption) | exact RowsZ.same (by assumption) (by first | assumption | rfl) | exact FzL.mk rfl rfl rfl (by assumption) (by first | assumption | rfl) (by decide) | (refine RowsZ.one ?_; cbv))))
        case hi => exact ⟨by first | omega | (simp only; omega), by first | omega | (simp only; omega), hgq2, hwo1, huo1, by rw [hms]; rfl, ⟨rfl⟩, ho161, ho121, hmo, hcap3⟩
        case ht => show (13 - n2).toNat < (13 - n).toNat; omega
    · cbv
      simp only [eL]
      have hinv2 : 0 ≤ i ∧ i ≤ L ∧ (todo.take i.toNat).foldl (grow1 ss lo hi from_) (0, out, []) = (0, out1, more) ∧ ow1 = out1.map rtRow ∧ Up0 ow1 ∧ out1.length ≤ 16 ∧ (∀ k, k ∈ out1 → k.length ≤ 12) ∧ more.length ≤ 2 * i.toNat ∧ (∀ l, l ∈ more → WayOk ss l) := ⟨hinv1.1, hinv1.2.1, hinv1.2.2.1, hinv1.2.2.2.1, hinv1.2.2.2.2.1, hinv1.2.2.2.2.2.1, hinv1.2.2.2.2.2.2.1, hinv1.2.2.2.2.2.2.2.1, hinv1.2.2.2.2.2.2.2.2.1⟩
      have hms : k = w.length ∧ w = more.map rtRow ∧ Up0 w := hinv1.2.2.2.2.2.2.2.2.2
      obtain ⟨hi0, hi1, hfold, hwo1, huo1, ho161, ho121, hml, hmo⟩ := hinv2
      (split <;> rename_i hc1 <;> (try (simp only [hz, Z.a, binStd, cmpStd, unStd, scmpStd, maxI, reduceCtorEq] at hc1)) <;> (try cbv))
      · skip
        obtain ⟨r, hr⟩ : ∃ r, todo[i.toNat]? = some r := ⟨_, List.getElem?_eq_getElem (show i.toNat < todo.length by omega)⟩
        have hrok := htodo r (List.mem_of_getElem? hr)
        have hrl := hrok.len
        obtain ⟨xs, exs⟩ : ∃ x, x = r.map nxRow := ⟨_, rfl⟩
        have huxs : Up0 xs := by rw [exs]; exact up_nx r
        have hxl : xs.length = r.length := by rw [exs]; simp
        have hrow : tw[i.toNat]? = some [.list 1 xs] := by rw [hwt, List.getElem?_map, hr, exs]; rfl
        obtain ⟨i2, ei2⟩ : ∃ z, z = i + 1 := ⟨_, rfl⟩
        have a4 : wbin .add .i64 i 1 = i2 := by rw [hbin, ei2]; show IntKind.i64.wrap (i + 1) = i + 1; rw [IntKind.wrap_i64]; omega
        obtain ⟨q, eq⟩ : ∃ q, q = lastI r := ⟨_, rfl⟩
        have hq1 := lastI_get r hrl.2
        have hqb := hrok.seg q (by rw [eq]; exact List.mem_of_getElem? hq1)
        obtain ⟨sg0, hd0, hrow0⟩ := get_map (f := sgRow) (ds := ss) (i := q) hqb.1 hqb.2
        have hnxe : nxAt ss (lastI r) = sg0.nx := by rw [← eq]; unfold nxAt; rw [hd0]
        have hnxs : ∀ x, x ∈ sg0.nx → x ∈ nxAt ss (lastI r) := fun x hx => by rw [hnxe]; exact hx
        have hnx2 : sg0.nx.length ≤ 2 := by have := nxAt_two hnx (lastI r); rw [hnxe] at this; exact this
        obtain ⟨y, ey⟩ : ∃ y, y = endF ss from_ r := ⟨_, rfl⟩
        have hyb := endF_le hln hf r
        rw [← ey] at hyb
        have hend := e_rend ss gs es ds hes hds hln from_ hf r hrl.1 hrok.seg xs exs y ey
        have hstep : (todo.take i2.toNat).foldl (grow1 ss lo hi from_) (0, out, []) = grow1 ss lo hi from_ (0, out1, more) r := by
          rw [ei2, take_next hi0 hr, List.foldl_append, hfold]; rfl
        have hg : grow1 ss lo hi from_ (0, out1, more) r = (if hi ≤ y ∨ sg0.nx = [] then (if 16 < (if lo ≤ y then putQ out1 r else out1).length then 13 else 0, if lo ≤ y then putQ out1 r else out1, more) else if r.length = 12 then (13, out1, more) else (0, out1, more ++ sg0.nx.map fun n => r ++ [n])) := by
          unfold grow1; rw [if_neg (by simp), ← ey, hnxe]
        rw [hg] at hstep
        clear hg
        obtain ⟨len, pcs, nx⟩ := sg0
        obtain ⟨q0, eq0⟩ : ∃ x, pcs.map pcRow = x := ⟨_, rfl⟩
        obtain ⟨ns, ens⟩ : ∃ x, nx.map nxRow = x := ⟨_, rfl⟩
        have huns : Up0 ns := by rw [← ens]; exact up_nx nx
        have hnl : ns.length = nx.length := by rw [← ens]; simp
        have hrow0 : es[q.toNat]? = some [.int .i64 len, .list 2 q0, .list 1 ns] := by rw [hes, ← eq0, ← ens]; exact hrow0
        have hnx2 : nx.length ≤ 2 := hnx2
        have hnxs : ∀ x, x ∈ nx → x ∈ nxAt ss (lastI r) := hnxs
        have hT1 : (L - i2).toNat < (L - i).toNat := by omega
        have hup : ∀ x : List (List AV), Up0 x → uptoL 0 [AV.agg [.list 3 es, .list 5 ds], .int .i64 from_, .list 1 x] = true := fun x hx => by simp only [uptoL, AV.upto, hu.get, hud.get, hx.get]; rfl
        obtain ⟨hk, hw2, huw⟩ := hms
        refine Idx.mk _ hi0 hrow ?_
        cbv
        (obtain ⟨K, eK, K0, Kn⟩ : ∃ L : Int, wlen xs = L ∧ 0 ≤ L ∧ L.toNat = xs.length := ⟨(xs.length : Int), by rw [hlen], Int.natCast_nonneg _, Int.toNat_natCast _⟩)
        obtain ⟨K1, eK1⟩ : ∃ z, z = K - 1 := ⟨_, rfl⟩
        have s1 : wbin .sub .i64 K 1 = K1 := by rw [hbin, eK1]; show IntKind.i64.wrap (K - 1) = K - 1; rw [IntKind.wrap_i64]; omega
        have hxq : xs[K1.toNat]? = some (nxRow q) := by rw [exs, List.getElem?_map, show K1.toNat = r.length - 1 by omega, hq1, eq]; rfl
        simp only [eK, s1]
        refine Idx.mk _ (show 0 ≤ K1 by omega) hxq ?_
        cbv
        refine Idx.mk _ hqb.1 hrow0 ?_
        cbv
        refine Call.stepE (by rw [← hP]; exact hend) (by exact hup _ huxs) ?_
        cbv
        (obtain ⟨J, eJ, J0, Jn⟩ : ∃ L : Int, wlen ns = L ∧ 0 ≤ L ∧ L.toNat = ns.length := ⟨(ns.length : Int), by rw [hlen], Int.natCast_nonneg _, Int.toNat_natCast _⟩)
        (split <;> rename_i h3 <;> (try (simp only [hz, Z.a, binStd, cmpStd, unStd, scmpStd, maxI, reduceCtorEq] at h3)) <;> (try cbv))
        · skip
          have hE1' : hi ≤ y ∨ nx = [] := .inl h3
          rw [if_pos hE1'] at hstep
          (split <;> rename_i h5 <;> (try (simp only [hz, Z.a, binStd, cmpStd, unStd, scmpStd, maxI, reduceCtorEq] at h5)) <;> (try cbv))
          · rw [if_pos h5] at hstep
            obtain ⟨o2, eo2⟩ : ∃ z, z = putQ out1 r := ⟨_, rfl⟩
            obtain ⟨po, epo⟩ : ∃ z, z = (putQ out1 r).map rtRow := ⟨_, rfl⟩
            have hpq := e_put out1 r ho121 (by omega) hrl.1 ow1 xs hwo1 exs
            rw [← epo] at hpq
            rw [← eo2] at epo hstep
            have hupo : Up0 po := by rw [epo]; exact up_rt o2
            have hpl : po.length = o2.length := by rw [epo]; simp
            have hol : o2.length ≤ 17 := by rw [eo2]; have := putQ_len out1 r; omega
            have ho2 : ∀ k, k ∈ o2 → k.length ≤ 12 := fun k hk => by
              rw [eo2] at hk
              rcases putQ_mem1 out1 r k hk with h | rfl
              · exact ho121 k h
              · exact hrl.1
            refine Call.stepE (by rw [← hP]; exact hpq) (by exact up_two huo1 huxs) ?_
            cbv
            (obtain ⟨H, eH, H0, Hn⟩ : ∃ L : Int, wlen po = L ∧ 0 ≤ L ∧ L.toNat = po.length := ⟨(po.length : Int), by rw [hlen], Int.natCast_nonneg _, Int.toNat_natCast _⟩)
            (split <;> rename_i h6 <;> (try (simp only [eH] at h6)) <;> (try (simp only [hz, Z.a, binStd, cmpStd, unStd, scmpStd, maxI, reduceCtorEq] at h6)) <;> (try cbv))
            · obtain ⟨k1, k2, k3⟩ := hret _ _ hstep (by rw [if_pos (by omega)]; exact (show (13 : Int) ≠ 0 by decide))
              subst k3
              exact hR1 _ _ (hR' _ _ (hbad k1 k2 _))
            · rw [if_neg (show ¬ 16 < o2.length by omega)] at hstep
              simp only [a4]
              refine hN1 (i2, o2, po, more, some (k, w)) _ _ ?hx ?hi ?ht
              case hx => (refine Wk.eqz (id) (by first | exact fun i _ j _ e => e | (simp only [List.length_cons, List.length_nil]; decide)) ?_; cbv; (repeat' (first | exact trivial | rfl | assumption | apply And.intro | (simp only [hz, Z.a, binStd, cmpStd, unStd, scmpStd, maxI, reduceCtorEq]; first | done | assumption) | exact RowsZ.same (by assumption) (by first | assumption | rfl) | exact FzL.mk rfl rfl rfl (by assumption) (by first | assumption | rfl) (by decide) | (refine RowsZ.one ?_; cbv))))
              case hi => exact ⟨by first | omega | (simp only; omega), by first | omega | (simp only; omega), hstep, epo, hupo, (by first | omega | (simp only; omega)), ho2, by first | omega | (simp only; omega), hmo, ⟨hk, hw2, huw⟩⟩
              case ht => exact hT1
          · rw [if_neg (show ¬ lo ≤ y by omega), if_neg (show ¬ 16 < out1.length by omega)] at hstep
            (obtain ⟨H, eH, H0, Hn⟩ : ∃ L : Int, wlen ow1 = L ∧ 0 ≤ L ∧ L.toNat = ow1.length := ⟨(ow1.length : Int), by rw [hlen], Int.natCast_nonneg _, Int.toNat_natCast _⟩)
            have hol : ow1.length = out1.length := by rw [hwo1]; simp
            (split <;> rename_i h6 <;> (try (simp only [eH] at h6)) <;> (try (simp only [hz, Z.a, binStd, cmpStd, unStd, scmpStd, maxI, reduceCtorEq] at h6)) <;> (try cbv))
            · exfalso; omega
            · simp only [a4]
              refine hN1 (i2, out1, ow1, more, some (k, w)) _ _ ?hx ?hi ?ht
              case hx => (refine Wk.eqz (id) (by first | exact fun i _ j _ e => e | (simp only [List.length_cons, List.length_nil]; decide)) ?_; cbv; (repeat' (first | exact trivial | rfl | assumption | apply And.intro | (simp only [hz, Z.a, binStd, cmpStd, unStd, scmpStd, maxI, reduceCtorEq]; first | done | assumption) | exact RowsZ.same (by assumption) (by first | assumption | rfl) | exact FzL.mk rfl rfl rfl (by assumption) (by first | assumption | rfl) (by decide) | (refine RowsZ.one ?_; cbv))))
              case hi => exact ⟨by first | omega | (simp only; omega), by first | omega | (simp only; omega), hstep, hwo1, huo1, ho161, ho121, by first | omega | (simp only; omega), hmo, ⟨hk, hw2, huw⟩⟩
              case ht => exact hT1
        simp only [eJ]
        (split <;> rename_i h4 <;> (try (simp only [hz, Z.a, binStd, cmpStd, unStd, scmpStd, maxI, reduceCtorEq] at h4)) <;> (try cbv))
        · skip
          have hE1' : hi ≤ y ∨ nx = [] := .inr (List.length_eq_zero_iff.1 (by omega))
          rw [if_pos hE1'] at hstep
          (split <;> rename_i h5 <;> (try (simp only [hz, Z.a, binStd, cmpStd, unStd, scmpStd, maxI, reduceCtorEq] at h5)) <;> (try cbv))
          · rw [if_pos h5] at hstep
            obtain ⟨o2, eo2⟩ : ∃ z, z = putQ out1 r := ⟨_, rfl⟩
            obtain ⟨po, epo⟩ : ∃ z, z = (putQ out1 r).map rtRow := ⟨_, rfl⟩
            have hpq := e_put out1 r ho121 (by omega) hrl.1 ow1 xs hwo1 exs
            rw [← epo] at hpq
            rw [← eo2] at epo hstep
            have hupo : Up0 po := by rw [epo]; exact up_rt o2
            have hpl : po.length = o2.length := by rw [epo]; simp
            have hol : o2.length ≤ 17 := by rw [eo2]; have := putQ_len out1 r; omega
            have ho2 : ∀ k, k ∈ o2 → k.length ≤ 12 := fun k hk => by
              rw [eo2] at hk
              rcases putQ_mem1 out1 r k hk with h | rfl
              · exact ho121 k h
              · exact hrl.1
            refine Call.stepE (by rw [← hP]; exact hpq) (by exact up_two huo1 huxs) ?_
            cbv
            (obtain ⟨H, eH, H0, Hn⟩ : ∃ L : Int, wlen po = L ∧ 0 ≤ L ∧ L.toNat = po.length := ⟨(po.length : Int), by rw [hlen], Int.natCast_nonneg _, Int.toNat_natCast _⟩)
            (split <;> rename_i h6 <;> (try (simp only [eH] at h6)) <;> (try (simp only [hz, Z.a, binStd, cmpStd, unStd, scmpStd, maxI, reduceCtorEq] at h6)) <;> (try cbv))
            · obtain ⟨k1, k2, k3⟩ := hret _ _ hstep (by rw [if_pos (by omega)]; exact (show (13 : Int) ≠ 0 by decide))
              subst k3
              exact hR1 _ _ (hR' _ _ (hbad k1 k2 _))
            · rw [if_neg (show ¬ 16 < o2.length by omega)] at hstep
              simp only [a4]
              refine hN1 (i2, o2, po, more, some (k, w)) _ _ ?hx ?hi ?ht
              case hx => (refine Wk.eqz (id) (by first | exact fun i _ j _ e => e | (simp only [List.length_cons, List.length_nil]; decide)) ?_; cbv; (repeat' (first | exact trivial | rfl | assumption | apply And.intro | (simp only [hz, Z.a, binStd, cmpStd, unStd, scmpStd, maxI, reduceCtorEq]; first | done | assumption) | exact RowsZ.same (by assumption) (by first | assumption | rfl) | exact FzL.mk rfl rfl rfl (by assumption) (by first | assumption | rfl) (by decide) | (refine RowsZ.one ?_; cbv))))
              case hi => exact ⟨by first | omega | (simp only; omega), by first | omega | (simp only; omega), hstep, epo, hupo, (by first | omega | (simp only; omega)), ho2, by first | omega | (simp only; omega), hmo, ⟨hk, hw2, huw⟩⟩
              case ht => exact hT1
          · rw [if_neg (show ¬ lo ≤ y by omega), if_neg (show ¬ 16 < out1.length by omega)] at hstep
            (obtain ⟨H, eH, H0, Hn⟩ : ∃ L : Int, wlen ow1 = L ∧ 0 ≤ L ∧ L.toNat = ow1.length := ⟨(ow1.length : Int), by rw [hlen], Int.natCast_nonneg _, Int.toNat_natCast _⟩)
            have hol : ow1.length = out1.length := by rw [hwo1]; simp
            (split <;> rename_i h6 <;> (try (simp only [eH] at h6)) <;> (try (simp only [hz, Z.a, binStd, cmpStd, unStd, scmpStd, maxI, reduceCtorEq] at h6)) <;> (try cbv))
            · exfalso; omega
            · simp only [a4]
              refine hN1 (i2, out1, ow1, more, some (k, w)) _ _ ?hx ?hi ?ht
              case hx => (refine Wk.eqz (id) (by first | exact fun i _ j _ e => e | (simp only [List.length_cons, List.length_nil]; decide)) ?_; cbv; (repeat' (first | exact trivial | rfl | assumption | apply And.intro | (simp only [hz, Z.a, binStd, cmpStd, unStd, scmpStd, maxI, reduceCtorEq]; first | done | assumption) | exact RowsZ.same (by assumption) (by first | assumption | rfl) | exact FzL.mk rfl rfl rfl (by assumption) (by first | assumption | rfl) (by decide) | (refine RowsZ.one ?_; cbv))))
              case hi => exact ⟨by first | omega | (simp only; omega), by first | omega | (simp only; omega), hstep, hwo1, huo1, ho161, ho121, by first | omega | (simp only; omega), hmo, ⟨hk, hw2, huw⟩⟩
              case ht => exact hT1
        have hE1' : ¬ (hi ≤ y ∨ nx = []) := by
          rintro (h | h)
          · omega
          · rw [h, List.length_nil] at hnl; omega
        rw [if_neg hE1'] at hstep
        simp only [eK]
        (split <;> rename_i h5 <;> (try (simp only [hz, Z.a, binStd, cmpStd, unStd, scmpStd, maxI, reduceCtorEq] at h5)) <;> (try cbv))
        · rw [if_pos (show r.length = 12 by omega)] at hstep
          obtain ⟨k1, k2, k3⟩ := hret _ _ hstep (show (13 : Int) ≠ 0 by decide)
          subst k3
          exact hR1 _ _ (hR' _ _ (hbad k1 k2 _))
        rw [if_neg (show ¬ r.length = 12 by omega)] at hstep
        have h12 : r.length ≠ 12 := by omega
        have hnl0 : more ++ (nx.take (0 : Int).toNat).map (fun n => r ++ [n]) = more := by simp
        refine Loop.data hw (S := Int × List (List Int) × Option (Nat × List (List AV))) (fun s => match s.2.2 with
            | none => fr 117 [(2, .int .i64 lo), (3, .int .i64 hi), (4, .ref 0 2 0 0), (5, .ref 1 2 0 0), (8, .ref 2 2 0 0), (10, .ref 3 2 0 0), (11, .list 1 tw), (12, .int .i64 n), (13, .nils), (14, .int .i64 i), (15, .list 1 xs), (16, .list 1 ns), (18, .int .i64 s.1)]
            | some (k, w) => fr 117 [(2, .int .i64 lo), (3, .int .i64 hi), (4, .ref 0 2 0 0), (5, .ref 1 2 0 0), (8, .ref 2 2 0 0), (10, .ref 3 2 0 0), (11, .list 1 tw), (12, .int .i64 n), (13, .sl 4 1 0 k), (14, .int .i64 i), (15, .list 1 xs), (16, .list 1 ns), (18, .int .i64 s.1)])
          (fun s => match s.2.2 with
            | none => [.live 2 [[.list 3 es, .list 5 ds]], .live 2 [[.int .i64 from_, .list 1 rs]], .live 2 [[.int .i64 0, .nils]], .live 2 [[.int .i64 from_, .list 1 ow1]]]
            | some (k, w) => [.live 2 [[.list 3 es, .list 5 ds]], .live 2 [[.int .i64 from_, .list 1 rs]], .live 2 [[.int .i64 0, .nils]], .live 2 [[.int .i64 from_, .list 1 ow1]], .live 1 w])
          (fun s => 0 ≤ s.1 ∧ s.1 ≤ J ∧ s.2.1 = more ++ (nx.take s.1.toNat).map (fun n => r ++ [n]) ∧ (match s.2.2 with | none => s.2.1 = [] | some (k, w) => k = w.length ∧ w = s.2.1.map rtRow ∧ Up0 w)) (fun s => (J - s.1).toNat) (0, more, some (k, w)) (by (refine Wk.eqz (id) (by first | exact fun i _ j _ e => e | (simp only [List.length_cons, List.length_nil]; decide)) ?_; cbv; (repeat' (first | exact trivial | rfl | assumption | apply And.intro | (simp only [hz, Z.a, binStd, cmpStd, unStd, scmpStd, maxI, reduceCtorEq]; first | done | assumption) | exact RowsZ.same (by assumption) (by first | assumption | rfl) | exact FzL.mk rfl rfl rfl (by assumption) (by first | assumption | rfl) (by decide) | (refine RowsZ.one ?_; cbv))))) ⟨Int.le_refl _, J0, hnl0.symm, ⟨hk, hw2, huw⟩⟩ ?_
        rintro ⟨j, mo, _ | ⟨k2, w2⟩⟩ hinv3 Q2 hN2 hE2 hR2
        · cbv
          simp only [eJ]
          have hinv4 : 0 ≤ j ∧ j ≤ J ∧ mo = more ++ (nx.take j.toNat).map (fun n => r ++ [n]) := ⟨hinv3.1, hinv3.2.1, hinv3.2.2.1⟩
          have hms2 : mo = [] := hinv3.2.2.2
          obtain ⟨hj0, hj1, hmoe⟩ := hinv4
          have hmol : mo.length ≤ more.length + 2 := by rw [hmoe]; simp only [List.length_append, List.length_map, List.length_take]; omega
          (split <;> rename_i hc3 <;> (try (simp only [hz, Z.a, binStd, cmpStd, unStd, scmpStd, maxI, reduceCtorEq] at hc3)) <;> (try cbv))
          · skip
            obtain ⟨nn, hnn⟩ : ∃ nn, nx[j.toNat]? = some nn := ⟨_, List.getElem?_eq_getElem (show j.toNat < nx.length by omega)⟩
            have hnn2 : ns[j.toNat]? = some (nxRow nn) := by rw [← ens, List.getElem?_map, hnn]; rfl
            obtain ⟨j2, ej2⟩ : ∃ z, z = j + 1 := ⟨_, rfl⟩
            have a5 : wbin .add .i64 j 1 = j2 := by rw [hbin, ej2]; show IntKind.i64.wrap (j + 1) = j + 1; rw [IntKind.wrap_i64]; omega
            have hmo2 : mo ++ [r ++ [nn]] = more ++ (nx.take j2.toNat).map (fun n => r ++ [n]) := by rw [ej2, take_next hj0 hnn, hmoe]; simp
            have hxne : xs ≠ [] := fun h => by rw [h] at hxl; simp at hxl; omega
            rcases xs with _ | ⟨x0, _ | ⟨x1, xt⟩⟩
            · exact absurd rfl hxne
            all_goals
              obtain ⟨xl, exl⟩ : ∃ m : Nat, m = r.length := ⟨_, rfl⟩
              obtain ⟨lx, elx⟩ : ∃ x : List (List AV), x = (r ++ [nn]).map nxRow := ⟨_, rfl⟩
              have hlx : lx.length = r.length + 1 := by rw [elx]; simp
              have hulx : Up0 lx := by rw [elx]; exact up_nx _
              obtain ⟨lk, elk⟩ : ∃ k, k = lx.length := ⟨_, rfl⟩
              cbv
              first
                | refine Ob.mk (by decide) ?_
                | (refine Fb.mk ⟨fun h => absurd h (by simp), fun _ => ⟨⟨rfl, by simp only [List.length_cons] at hxl ⊢; omega, by simp only [List.length_cons] at hxl ⊢; omega⟩, ?_⟩⟩; rw [hxl, ← exl])
              cbv
              refine Idx.mk _ hj0 hnn2 ?_
              cbv
              refine App.mk lx lk (by rw [elx, List.map_append, ← exs]; rfl) (by first | rfl | rw [hxl, exl]) (by simp only [List.length_cons, List.length_nil] at hxl; omega) (by simp only [List.length_cons, List.length_nil] at hxl; omega) (by simp only [List.length_cons, List.length_nil] at hxl; omega) ?_
              cbv
              refine Ob.mk (by decide) ?_
              cbv
              simp only [a5]
              refine hN2 (j2, mo ++ [r ++ [nn]], some (1, [[.list 1 lx]])) _ _ ?hx ?hi ?ht
              case hx => (refine Wk.eqz (fun j => [0, 1, 2, 3, 6].getD j 0) (by first | exact fun i _ j _ e => e | (simp only [List.length_cons, List.length_nil]; decide)) ?_; cbv; (repeat' (first | exact trivial | rfl | assumption | apply And.intro | (simp only [hz, Z.a, binStd, cmpStd, unStd, scmpStd, maxI, reduceCtorEq]; first | done | assumption) | exact RowsZ.same (by assumption) (by first | assumption | rfl) | exact FzL.mk rfl rfl rfl (by assumption) (by first | assumption | rfl) (by decide) | (refine RowsZ.one ?_; cbv))))
              case hi => exact ⟨by first | omega | (simp only; omega), by first | omega | (simp only; omega), hmo2, rfl, by rw [hms2, elx]; rfl, ⟨by simp only [uptoLL, uptoL, AV.upto, hulx.get]; rfl⟩⟩
              case ht => show (J - j2).toNat < (J - j).toNat; omega
          · skip
            have hmoF : mo = more ++ nx.map (fun n => r ++ [n]) := by rw [hmoe, List.take_of_length_le (by omega)]
            rw [← hmoF] at hstep
            have hmok : ∀ l, l ∈ mo → WayOk ss l := fun l hl => by
              rw [hmoF] at hl
              rcases List.mem_append.1 hl with hl | hl
              · exact hmo l hl
              · obtain ⟨q, hq, rfl⟩ := List.mem_map.1 hl
                exact hrok.snoc hnx h12 (hnxs q hq)
            refine hE2 _ _ _ ?_
            cbv
            simp only [a4]
            refine hN1 (i2, out1, ow1, mo, none) _ _ ?hx ?hi ?ht
            case hx => (refine Wk.eqz (id) (by first | exact fun i _ j _ e => e | (simp only [List.length_cons, List.length_nil]; decide)) ?_; cbv; (repeat' (first | exact trivial | rfl | assumption | apply And.intro | (simp only [hz, Z.a, binStd, cmpStd, unStd, scmpStd, maxI, reduceCtorEq]; first | done | assumption) | exact RowsZ.same (by assumption) (by first | assumption | rfl) | exact FzL.mk rfl rfl rfl (by assumption) (by first | assumption | rfl) (by decide) | (refine RowsZ.one ?_; cbv))))
            case hi => exact ⟨by first | omega | (simp only; omega), by first | omega | (simp only; omega), hstep, hwo1, huo1, ho161, ho121, by first | omega | (simp only; omega), hmok, hms2⟩
            case ht => exact hT1
        · cbv
          simp only [eJ]
          have hinv4 : 0 ≤ j ∧ j ≤ J ∧ mo = more ++ (nx.take j.toNat).map (fun n => r ++ [n]) := ⟨hinv3.1, hinv3.2.1, hinv3.2.2.1⟩
          have hms2 : k2 = w2.length ∧ w2 = mo.map rtRow ∧ Up0 w2 := hinv3.2.2.2
          obtain ⟨hj0, hj1, hmoe⟩ := hinv4
          have hmol : mo.length ≤ more.length + 2 := by rw [hmoe]; simp only [List.length_append, List.length_map, List.length_take]; omega
          obtain ⟨hk2, hw22, huw22⟩ := hms2
          (split <;> rename_i hc3 <;> (try (simp only [hz, Z.a, binStd, cmpStd, unStd, scmpStd, maxI, reduceCtorEq] at hc3)) <;> (try cbv))
          · skip
            obtain ⟨nn, hnn⟩ : ∃ nn, nx[j.toNat]? = some nn := ⟨_, List.getElem?_eq_getElem (show j.toNat < nx.length by omega)⟩
            have hnn2 : ns[j.toNat]? = some (nxRow nn) := by rw [← ens, List.getElem?_map, hnn]; rfl
            obtain ⟨j2, ej2⟩ : ∃ z, z = j + 1 := ⟨_, rfl⟩
            have a5 : wbin .add .i64 j 1 = j2 := by rw [hbin, ej2]; show IntKind.i64.wrap (j + 1) = j + 1; rw [IntKind.wrap_i64]; omega
            have hmo2 : mo ++ [r ++ [nn]] = more ++ (nx.take j2.toNat).map (fun n => r ++ [n]) := by rw [ej2, take_next hj0 hnn, hmoe]; simp
            have hxne : xs ≠ [] := fun h => by rw [h] at hxl; simp at hxl; omega
            rcases xs with _ | ⟨x0, _ | ⟨x1, xt⟩⟩
            · exact absurd rfl hxne
            all_goals
              obtain ⟨xl, exl⟩ : ∃ m : Nat, m = r.length := ⟨_, rfl⟩
              obtain ⟨lx, elx⟩ : ∃ x : List (List AV), x = (r ++ [nn]).map nxRow := ⟨_, rfl⟩
              have hlx : lx.length = r.length + 1 := by rw [elx]; simp
              have hulx : Up0 lx := by rw [elx]; exact up_nx _
              obtain ⟨lk, elk⟩ : ∃ k, k = lx.length := ⟨_, rfl⟩
              cbv
              first
                | refine Ob.mk (by decide) ?_
                | (refine Fb.mk ⟨fun h => absurd h (by simp), fun _ => ⟨⟨rfl, by simp only [List.length_cons] at hxl ⊢; omega, by simp only [List.length_cons] at hxl ⊢; omega⟩, ?_⟩⟩; rw [hxl, ← exl])
              cbv
              refine Idx.mk _ hj0 hnn2 ?_
              cbv
              refine App.mk lx lk (by rw [elx, List.map_append, ← exs]; rfl) (by first | rfl | rw [hxl, exl]) (by simp only [List.length_cons, List.length_nil] at hxl; omega) (by simp only [List.length_cons, List.length_nil] at hxl; omega) (by simp only [List.length_cons, List.length_nil] at hxl; omega) ?_
              cbv
              obtain ⟨w3, ew3⟩ : ∃ x : List (List AV), x = w2 ++ [[.sl 6 1 0 lk]] := ⟨_, rfl⟩
              obtain ⟨w4, ew4⟩ : ∃ x : List (List AV), x = w2 ++ [[.list 1 lx]] := ⟨_, rfl⟩
              obtain ⟨k3, ek3⟩ : ∃ x, x = k2 + 1 := ⟨_, rfl⟩
              have hw3l : k3 = w4.length := by rw [ek3, ew4]; simp; omega
              have hw4 : w4 = (mo ++ [r ++ [nn]]).map rtRow := by rw [ew4, hw22, elx]; simp [rtRow]
              have huw4 : Up0 w4 := by rw [hw4]; exact up_rt _
              have hkml : k2 = mo.length := by rw [hk2, hw22]; simp
              refine App.mk w3 k3 ew3 hk2 ek3 (by omega) (by omega) ?_
              cbv
              simp only [a5]
              refine hN2 (j2, mo ++ [r ++ [nn]], some (k3, w4)) _ _ ?hx ?hi ?ht
              case hx => (refine Wk.eqz (fun j => [0, 1, 2, 3, 7].getD j 0) (by first | exact fun i _ j _ e => e | (simp only [List.length_cons, List.length_nil]; decide)) ?_; cbv; (repeat' (first | exact trivial | rfl | assumption | (refine RowsZ.app huw22 ew3 ew4 ?_; cbv) | apply And.intro | (simp only [hz, Z.a, binStd, cmpStd, unStd, scmpStd, maxI, reduceCtorEq]; first | done | assumption) | exact RowsZ.same (by assumption) (by first | assumption | rfl) | exact FzL.mk rfl rfl rfl (by assumption) (by first | assumption | rfl) (by decide) | (refine RowsZ.one ?_; cbv))))
              case hi => exact ⟨by first | omega | (simp only; omega), by first | omega | (simp only; omega), hmo2, hw3l, hw4, huw4⟩
              case ht => show (J - j2).toNat < (J - j).toNat; omega
          · skip
            have hmoF : mo = more ++ nx.map (fun n => r ++ [n]) := by rw [hmoe, List.take_of_length_le (by omega)]
            rw [← hmoF] at hstep
            have hmok : ∀ l, l ∈ mo → WayOk ss l := fun l hl => by
              rw [hmoF] at hl
              rcases List.mem_append.1 hl with hl | hl
              · exact hmo l hl
              · obtain ⟨q, hq, rfl⟩ := List.mem_map.1 hl
                exact hrok.snoc hnx h12 (hnxs q hq)
            refine hE2 _ _ _ ?_
            cbv
            simp only [a4]
            refine hN1 (i2, out1, ow1, mo, some (k2, w2)) _ _ ?hx ?hi ?ht
            case hx => (refine Wk.eqz (id) (by first | exact fun i _ j _ e => e | (simp only [List.length_cons, List.length_nil]; decide)) ?_; cbv; (repeat' (first | exact trivial | rfl | assumption | apply And.intro | (simp only [hz, Z.a, binStd, cmpStd, unStd, scmpStd, maxI, reduceCtorEq]; first | done | assumption) | exact RowsZ.same (by assumption) (by first | assumption | rfl) | exact FzL.mk rfl rfl rfl (by assumption) (by first | assumption | rfl) (by decide) | (refine RowsZ.one ?_; cbv))))
            case hi => exact ⟨by first | omega | (simp only; omega), by first | omega | (simp only; omega), hstep, hwo1, huo1, ho161, ho121, by first | omega | (simp only; omega), hmok, hk2, hw22, huw22⟩
            case ht => exact hT1
      · have hiL : todo.take i.toNat = todo := List.take_of_length_le (by omega)
        obtain ⟨hk, hw2, huw⟩ := hms
        rw [hiL] at hfold
        obtain ⟨n2, en2⟩ : ∃ z, z = n + 1 := ⟨_, rfl⟩
        have a6 : wbin .add .i64 n 1 = n2 := by rw [hbin, en2]; show IntKind.i64.wrap (n + 1) = n + 1; rw [IntKind.wrap_i64]; omega
        have hgq2 : growQ ss lo hi from_ 13 [] ls = growQ ss lo hi from_ (13 - n2.toNat) out1 more := by
          rw [hgq, show 13 - n.toNat = (13 - n2.toNat) + 1 by omega]
          conv => lhs; unfold growQ
          rw [hfold, if_neg (by simp)]
        have hcap3 : more.length ≤ capR n2.toNat := by rw [show n2.toNat = n.toNat + 1 by omega, capR_succ]; omega
        refine hE1 _ _ _ ?_
        cbv
        simp only [a6]
        refine hN (n2, out1, ow1, more, w) _ _ ?hx ?hi ?ht
        case hx => (refine Wk.eqz (id) (by first | exact fun i _ j _ e => e | (simp only [List.length_cons, List.length_nil]; decide)) ?_; cbv; (repeat' (first | exact trivial | rfl | assumption | apply And.intro | (simp only [hz, Z.a, binStd, cmpStd, unStd, scmpStd, maxI, reduceCtorEq]; first | done | assumption) | exact RowsZ.same (by assumption) (by first | assumption | rfl) | exact FzL.mk rfl rfl rfl (by assumption) (by first | assumption | rfl) (by decide) | (refine RowsZ.one ?_; cbv))))
        case hi => exact ⟨by first | omega | (simp only; omega), by first | omega | (simp only; omega), hgq2, hwo1, huo1, hw2, huw, ho161, ho121, hmo, hcap3⟩
        case ht => show (13 - n2).toNat < (13 - n).toNat; omega
  · refine hE _ _ _ ?_
    cbv
    have hn13 : 13 - n.toNat = 0 := by omega
    rw [hn13] at hgq
    have hgq2 : growQ ss lo hi from_ 13 [] ls = (0, out) := hgq
    rw [hgq2, if_neg (show ¬ ((0 : Int), out).1 ≠ 0 from fun h => h rfl)] at hv
    have hol : ow.length = out.length := by rw [hwo]; simp
    (obtain ⟨L, eL, L0, Ln⟩ : ∃ L : Int, wlen ow = L ∧ 0 ≤ L ∧ L.toNat = ow.length := ⟨(ow.length : Int), by rw [hlen], Int.natCast_nonneg _, Int.toNat_natCast _⟩)
    (split <;> rename_i h9 <;> (try (simp only [eL] at h9)) <;> (try (simp only [hz, Z.a, binStd, cmpStd, unStd, scmpStd, maxI, reduceCtorEq] at h9)) <;> (try cbv))
    · rw [if_pos (show ((0 : Int), out).2 = [] from List.length_eq_zero_iff.1 (show out.length = 0 by omega))] at hv
      simp only [Prod.mk.injEq] at hv
      obtain ⟨⟨k1, k2⟩, k3⟩ := hv
      subst k3
      exact hbad k1 k2 _
    · rw [if_neg (show ¬ ((0 : Int), out).2 = [] from fun h => by have : out.length = 0 := List.length_eq_zero_iff.2 h; omega)] at hv
      simp only [Prod.mk.injEq] at hv
      obtain ⟨⟨rfl, rfl⟩, rfl⟩ := hv
      have e1 : vs = ow := by rw [evs, hwo]
      subst e1
      exact ⟨_, Vw.same (by simp only [retOne, AV.upto, uptoL, huo.get]; rfl), hR _ rfl⟩
end Go.Proofs.Ytpiocfmdjgbamaa

/- route.Begin. -/
namespace Go.Proofs.Ytpiocfmdjgbamaa
open Go Go.RowKit Go.Eng
set_option maxRecDepth 100000
theorem e_begin (a b v : Int) (hv : v = a) : PCalls Try.prog 18 [.int .i64 a, .int .i64 b] (· = .agg [.int .i64 b, .list 13 [[.int .i64 1, .int .i64 v, .int .i64 0, .int .i64 0, .int .i64 0, .int .i64 0, .int .i64 0, .int .i64 0, .int .i64 0, .int .i64 0, .int .i64 0, .int .i64 0, .int .i64 0]]]) := by
  subst hv
  (refine PCalls.ofY Try.func18 (by kernel_rfl) (by kernel_rfl) fun w hw R hR => ?_); (obtain ⟨wbin, wcmp, wun, wconv, wnot, wbeq, wmm, wscmp, wsadd, wslen, wsat, weqs, wlen, wnlen, wofNat, wtake, wdrop, wapp, wzero, wnat⟩ := w); (have hbin := Z.w1 hw); (have hcmp := Z.w2 hw); (have hun := Z.w3 hw); (have hconv := Z.w4 hw); (have hnot := Z.w5 hw); (have hbeq := Z.w6 hw); (have hmm := Z.w7 hw); (have hscmp := Z.w8 hw); (have hsadd := Z.w9 hw); (have hslen := Z.w10 hw); (have hsat := Z.w11 hw); (have heqs := Z.w12 hw); (have hlen := Z.w13 hw); (have hnlen := Z.w14 hw); (have hofNat := Z.w15 hw); (have htake := Z.w16 hw); (have hdrop := Z.w17 hw); (have happ := Z.w18 hw); (have hzero := Z.w19 hw); (have hnat := Z.w20 hw); (have hz := Z.z hw); (conv => arg 2; cbv); (generalize hP : Try.prog = P); cbv
  refine InN.mk (by decide) (by decide) ?_
  exact ⟨_, Vw.same rfl, hR _ rfl⟩
end Go.Proofs.Ytpiocfmdjgbamaa

/- Arguments that say less: a nil slice is a list of none. -/
namespace Go.Eng
open Go Go.RowKit
mutual
def leB : AV → AV → Bool
  | .int k a, y => (match y with | .int k' b => decide (k = k') && decide (a = b) | _ => false)
  | .bool a, y => (match y with | .bool b => a == b | _ => false)
  | .nils, y => (match y with | .nils => true | .list _ es => es.isEmpty | _ => false)
  | .nilp, y => (match y with | .nilp => true | _ => false)
  | .agg cs, y => (match y with | .agg ds => leL cs ds | _ => false)
  | .list z es, y => (match y with | .list z' fs => Nat.beq z z' && leLL es fs | _ => false)
  | _, _ => false
def leL : List AV → List AV → Bool
  | [], y => (match y with | [] => true | _ => false)
  | c :: cs, y => (match y with | d :: ds => leB c d && leL cs ds | _ => false)
def leLL : List (List AV) → List (List AV) → Bool
  | [], y => (match y with | [] => true | _ => false)
  | c :: cs, y => (match y with | d :: ds => leL c d && leLL cs ds | _ => false)
end
def VLe (x y : AV) : Prop := ∀ C v, VR C x v → VR C y v
mutual
theorem leB_ok : ∀ (x y : AV), leB x y = true → VLe x y
  | .int k a, y, h => by
    unfold leB at h
    split at h
    · simp only [Bool.and_eq_true, decide_eq_true_eq] at h
      obtain ⟨rfl, rfl⟩ := h
      exact fun C v h => h
    · cases h
  | .bool a, y, h => by
    unfold leB at h
    split at h
    · simp only [beq_iff_eq] at h
      subst h
      exact fun C v h => h
    · cases h
  | .nils, y, h => by
    unfold leB at h
    split at h
    · exact fun C v h => h
    · rename_i z es
      have : es = [] := List.isEmpty_iff.1 h
      subst this
      intro C v hv
      rw [hv.nils']
      exact .listNil _ _ _
    · cases h
  | .nilp, y, h => by
    unfold leB at h
    split at h
    · exact fun C v h => h
    · cases h
  | .agg cs, y, h => by
    unfold leB at h
    split at h
    · rename_i ds
      intro C v hv
      obtain ⟨vs, rfl, hl, hx⟩ := hv.agg'
      obtain ⟨h1, h2⟩ := leL_ok cs ds h
      refine .agg _ _ (by rw [hl, h1]) fun i y hy => ?_
      obtain ⟨x, hx', hle⟩ := h2 i y hy
      exact hle C _ (hx i x hx')
    · cases h
  | .list z es, y, h => by
    unfold leB at h
    split at h
    · rename_i z' fs
      simp only [Bool.and_eq_true] at h
      have := Nat.eq_of_beq_eq_true h.1
      subst this
      obtain ⟨h1, h2⟩ := leLL_ok es fs h.2
      intro C v hv
      rcases hv.lists with ⟨⟨a, cap, rfl⟩, rfl⟩ | ⟨a, cap, f, rfl, hcap, hsp, hz, hcell, hown, hv⟩
      · have : fs = [] := List.length_eq_zero_iff.1 h1.symm
        subst this
        exact .listNil _ _ _
      · refine .list z fs a es.length cap f h1.symm hcap hsp (fun e he => ?_) hcell hown fun i e he j x hx => ?_
        · obtain ⟨i, hi⟩ := List.mem_iff_getElem?.1 he
          obtain ⟨r, hr, hl, _⟩ := h2 i e hi
          rw [← hl]; exact hz r (List.mem_of_getElem? hr)
        · obtain ⟨r, hr, hl, hle⟩ := h2 i e he
          obtain ⟨x', hx', hle'⟩ := hle j x hx
          exact hle' C _ (hv i r hr j x' hx')
    · cases h
  | .any, y, h => by unfold leB at h; cases h
  | .str _, y, h => by unfold leB at h; cases h
  | .nilFunc, y, h => by unfold leB at h; cases h
  | .nilIface, y, h => by unfold leB at h; cases h
  | .tuple _, y, h => by unfold leB at h; cases h
  | .sl _ _ _ _, y, h => by unfold leB at h; cases h
  | .ref _ _ _ _, y, h => by unfold leB at h; cases h
  | .cref _, y, h => by unfold leB at h; cases h
  | .mapr _, y, h => by unfold leB at h; cases h
  | .func _ _ _, y, h => by unfold leB at h; cases h
  | .iface _ _, y, h => by unfold leB at h; cases h
theorem leL_ok : ∀ (xs ys : List AV), leL xs ys = true → xs.length = ys.length ∧ ∀ (i : Nat) (y : AV), ys[i]? = some y → ∃ x, xs[i]? = some x ∧ VLe x y
  | [], y, h => by
    unfold leL at h
    split at h
    · exact ⟨rfl, fun i y hy => by simp at hy⟩
    · cases h
  | c :: cs, y, h => by
    unfold leL at h
    split at h
    · rename_i d ds
      simp only [Bool.and_eq_true] at h
      obtain ⟨h1, h2⟩ := leL_ok cs ds h.2
      refine ⟨by simp [h1], fun i y hy => ?_⟩
      cases i with
      | zero => simp at hy; subst hy; exact ⟨c, rfl, leB_ok c d h.1⟩
      | succ i => simpa using h2 i y (by simpa using hy)
    · cases h
theorem leLL_ok : ∀ (xs ys : List (List AV)), leLL xs ys = true → xs.length = ys.length ∧ ∀ (i : Nat) (y : List AV), ys[i]? = some y → ∃ x, xs[i]? = some x ∧ x.length = y.length ∧ ∀ (j : Nat) (b : AV), y[j]? = some b → ∃ a, x[j]? = some a ∧ VLe a b
  | [], y, h => by
    unfold leLL at h
    split at h
    · exact ⟨rfl, fun i y hy => by simp at hy⟩
    · cases h
  | c :: cs, y, h => by
    unfold leLL at h
    split at h
    · rename_i d ds
      simp only [Bool.and_eq_true] at h
      obtain ⟨h1, h2⟩ := leLL_ok cs ds h.2
      obtain ⟨k1, k2⟩ := leL_ok c d h.1
      refine ⟨by simp [h1], fun i y hy => ?_⟩
      cases i with
      | zero => simp at hy; subst hy; exact ⟨c, rfl, k1, k2⟩
      | succ i => simpa using h2 i y (by simpa using hy)
    · cases h
end
theorem PCalls.le {P : Program} {g : FuncId} {args args' : List AV} {R : AV → Prop} (H : PCalls P g args' R) (hl : leL args args' = true) : PCalls P g args R := by
  obtain ⟨h1, h2⟩ := leL_ok args args' hl
  refine ⟨H.1, fun C vs hC RC hv => H.2 C vs hC RC ⟨by rw [hv.1, h1], fun i y hy => ?_⟩⟩
  obtain ⟨x, hx, hle⟩ := h2 i y hy
  exact hle C _ (hv.2 i x hx)
end Go.Eng

/- Half of a sum of numbers of 64 bits. -/
set_option maxRecDepth 100000
namespace Go.Proofs.Ytpiocfmdjgbamaa
open Go Go.RowKit Go.Eng
def I64 (a : Int) : Prop := -9223372036854775808 ≤ a ∧ a ≤ 9223372036854775807
theorem and_xor (x y : Nat) : 2 * (x &&& y) + (x ^^^ y) = x + y := by
  induction x using Nat.strongRecOn generalizing y with
  | ind x ih =>
    by_cases hx : x = 0
    · subst hx; simp
    · have h := ih (x / 2) (by omega) (y / 2)
      have h1 : (x &&& y) / 2 = x / 2 &&& y / 2 := Nat.and_div_two
      have h2 : (x ^^^ y) / 2 = x / 2 ^^^ y / 2 := Nat.xor_div_two
      have h3 := Nat.and_mod_two_eq_one (a := x) (b := y)
      have h4 := Nat.xor_mod_two_eq_one (a := x) (b := y)
      omega
theorem div63 (x : Nat) (hx : x < 18446744073709551616) : (x < 9223372036854775808 ∧ x / 2 ^ 63 = 0) ∨ (9223372036854775808 ≤ x ∧ x / 2 ^ 63 = 1) := by
  have e : (2 : Nat) ^ 63 = 9223372036854775808 := by decide
  rw [e]; omega
theorem and_top (x y : Nat) (hx : x < 18446744073709551616) (hy : y < 18446744073709551616) (hu : x &&& y < 18446744073709551616) :
    (9223372036854775808 ≤ x &&& y ↔ 9223372036854775808 ≤ x ∧ 9223372036854775808 ≤ y) := by
  have h : (x &&& y) / 2 ^ 63 = x / 2 ^ 63 &&& y / 2 ^ 63 := Nat.and_div_two_pow
  rcases div63 x hx with ⟨l1, a1⟩ | ⟨l1, a1⟩ <;> rcases div63 y hy with ⟨l2, a2⟩ | ⟨l2, a2⟩ <;> rcases div63 _ hu with ⟨l3, a3⟩ | ⟨l3, a3⟩ <;> rw [a1, a2, a3] at h <;> first | (exfalso; revert h; decide) | omega
theorem xor_top (x y : Nat) (hx : x < 18446744073709551616) (hy : y < 18446744073709551616) (hu : x ^^^ y < 18446744073709551616) :
    (9223372036854775808 ≤ x ^^^ y ↔ ¬ (9223372036854775808 ≤ x ↔ 9223372036854775808 ≤ y)) := by
  have h : (x ^^^ y) / 2 ^ 63 = x / 2 ^ 63 ^^^ y / 2 ^ 63 := Nat.xor_div_two_pow
  rcases div63 x hx with ⟨l1, a1⟩ | ⟨l1, a1⟩ <;> rcases div63 y hy with ⟨l2, a2⟩ | ⟨l2, a2⟩ <;> rcases div63 _ hu with ⟨l3, a3⟩ | ⟨l3, a3⟩ <;> rw [a1, a2, a3] at h <;> first | (exfalso; revert h; decide) | omega
theorem bits_and_i64 (a b : Int) : bits .and .i64 a b = wrap64 (((a % 18446744073709551616).toNat &&& (b % 18446744073709551616).toNat : Nat) : Int) := by
  show IntKind.i64.wrap ((BitVec.ofInt 64 a &&& BitVec.ofInt 64 b).toNat : Int) = _
  rw [BitVec.toNat_and, BitVec.toNat_ofInt, BitVec.toNat_ofInt, IntWalk.i64_left]
  rfl
theorem bits_xor_i64 (a b : Int) : bits .xor .i64 a b = wrap64 (((a % 18446744073709551616).toNat ^^^ (b % 18446744073709551616).toNat : Nat) : Int) := by
  show IntKind.i64.wrap ((BitVec.ofInt 64 a ^^^ BitVec.ofInt 64 b).toNat : Int) = _
  rw [BitVec.toNat_xor, BitVec.toNat_ofInt, BitVec.toNat_ofInt, IntWalk.i64_left]
  rfl
theorem xor_lt64 (x y : Nat) (hx : x < 18446744073709551616) (hy : y < 18446744073709551616) : x ^^^ y < 18446744073709551616 := by
  have e : (2 : Nat) ^ 64 = 18446744073709551616 := by decide
  rw [← e] at hx hy ⊢
  exact Nat.xor_lt_two_pow hx hy
theorem wrap_nat (u : Nat) (h : u < 18446744073709551616) : wrap64 (u : Int) = if 9223372036854775808 ≤ u then (u : Int) - 18446744073709551616 else u := by
  unfold wrap64; split <;> omega
theorem mid_core (a b : Int) (x y u v : Nat) (ha : I64 a) (hb : I64 b) (ex : (x : Int) = a ∨ (x : Int) = a + 18446744073709551616) (ey : (y : Int) = b ∨ (y : Int) = b + 18446744073709551616)
    (hx : x < 18446744073709551616) (hy : y < 18446744073709551616) (hu : u < 18446744073709551616) (hv : v < 18446744073709551616) (h1 : 2 * u + v = x + y)
    (h2 : 9223372036854775808 ≤ u ↔ 9223372036854775808 ≤ x ∧ 9223372036854775808 ≤ y) (h3 : 9223372036854775808 ≤ v ↔ ¬ (9223372036854775808 ≤ x ↔ 9223372036854775808 ≤ y)) :
    wrap64 (wrap64 (u : Int) + wrap64 (v : Int) / 2) = (a + b) / 2 := by
  unfold I64 at ha hb
  rw [wrap_nat u hu, wrap_nat v hv]
  have key : 2 * (if 9223372036854775808 ≤ u then (u : Int) - 18446744073709551616 else u) + (if 9223372036854775808 ≤ v then (v : Int) - 18446744073709551616 else v) = a + b := by
    split <;> split <;> omega
  generalize (if 9223372036854775808 ≤ u then (u : Int) - 18446744073709551616 else u) = p at *
  generalize (if 9223372036854775808 ≤ v then (v : Int) - 18446744073709551616 else v) = q at *
  have e : p + q / 2 = (a + b) / 2 := by omega
  rw [e, IntWalk.wrap64_in _ (by omega)]
theorem mid_eq (a b : Int) (ha : I64 a) (hb : I64 b) : wrap64 (bits .and .i64 a b + bits .xor .i64 a b / 2) = (a + b) / 2 := by
  rw [bits_and_i64, bits_xor_i64]
  have hx : (a % 18446744073709551616).toNat < 18446744073709551616 := by omega
  have hy : (b % 18446744073709551616).toNat < 18446744073709551616 := by omega
  have hu := Nat.lt_of_le_of_lt (Nat.and_le_left (n := (a % 18446744073709551616).toNat) (m := (b % 18446744073709551616).toNat)) hx
  have hv := xor_lt64 _ _ hx hy
  exact mid_core a b _ _ _ _ ha hb (by unfold I64 at ha; omega) (by unfold I64 at hb; omega) hx hy hu hv (and_xor _ _) (and_top _ _ hx hy hu) (xor_top _ _ hx hy hv)
theorem e_nmid (a b : Int) (ha : I64 a) (hb : I64 b) : PCalls Try.prog 93 [.int .i64 a, .int .i64 b] (· = .int .i64 ((a + b) / 2)) := by
  (refine PCalls.ofY Try.func93 (by kernel_rfl) (by kernel_rfl) fun w hw R hR => ?_); (obtain ⟨wbin, wcmp, wun, wconv, wnot, wbeq, wmm, wscmp, wsadd, wslen, wsat, weqs, wlen, wnlen, wofNat, wtake, wdrop, wapp, wzero, wnat⟩ := w); (have hbin := Z.w1 hw); (have hcmp := Z.w2 hw); (have hun := Z.w3 hw); (have hconv := Z.w4 hw); (have hnot := Z.w5 hw); (have hbeq := Z.w6 hw); (have hmm := Z.w7 hw); (have hscmp := Z.w8 hw); (have hsadd := Z.w9 hw); (have hslen := Z.w10 hw); (have hsat := Z.w11 hw); (have heqs := Z.w12 hw); (have hlen := Z.w13 hw); (have hnlen := Z.w14 hw); (have hofNat := Z.w15 hw); (have htake := Z.w16 hw); (have hdrop := Z.w17 hw); (have happ := Z.w18 hw); (have hzero := Z.w19 hw); (have hnat := Z.w20 hw); (have hz := Z.z hw); (conv => arg 2; cbv); (generalize hP : Try.prog = P); cbv
  refine Nn.mk (by decide) ?_
  refine ⟨_, Vw.same rfl, hR _ (congrArg (AV.int .i64) ?_)⟩
  rw [hbin]
  have e1 : binStd .shr .i64 (binStd .xor .i64 a b) 1 = bits .xor .i64 a b / 2 := by
    show (bits .xor .i64 a b).fdiv (2 ^ (min (1 : Int).toNat 64)) = _
    rw [show (2 : Int) ^ (min (1 : Int).toNat 64) = 2 by decide, Int.fdiv_eq_ediv_of_nonneg _ (by decide)]
  rw [e1]
  show IntKind.i64.wrap (bits .and .i64 a b + bits .xor .i64 a b / 2) = _
  rw [IntWalk.i64_left]
  exact mid_eq a b ha hb
end Go.Proofs.Ytpiocfmdjgbamaa

/- Sums, and spans, of numbers that are not too great, by the engine. -/
namespace Go.Proofs.Ytpiocfmdjgbamaa
open Go Go.RowKit Go.Eng
set_option maxRecDepth 100000
def I62 (a : Int) : Prop := -4611686018427387904 ≤ a ∧ a ≤ 4611686018427387903
theorem e_xadd {a b d : Int} (h : a + b = d) (ha : I62 a) (hb : I62 b) : PCalls Try.prog 90 [.int .i64 a, .int .i64 b] (· = .tuple [.int .i64 d, .bool true]) := by
  unfold I62 at ha hb
  (refine PCalls.ofY Try.func90 (by kernel_rfl) (by kernel_rfl) fun w hw R hR => ?_); (obtain ⟨wbin, wcmp, wun, wconv, wnot, wbeq, wmm, wscmp, wsadd, wslen, wsat, weqs, wlen, wnlen, wofNat, wtake, wdrop, wapp, wzero, wnat⟩ := w); (have hbin := Z.w1 hw); (have hcmp := Z.w2 hw); (have hun := Z.w3 hw); (have hconv := Z.w4 hw); (have hnot := Z.w5 hw); (have hbeq := Z.w6 hw); (have hmm := Z.w7 hw); (have hscmp := Z.w8 hw); (have hsadd := Z.w9 hw); (have hslen := Z.w10 hw); (have hsat := Z.w11 hw); (have heqs := Z.w12 hw); (have hlen := Z.w13 hw); (have hnlen := Z.w14 hw); (have hofNat := Z.w15 hw); (have htake := Z.w16 hw); (have hdrop := Z.w17 hw); (have happ := Z.w18 hw); (have hzero := Z.w19 hw); (have hnat := Z.w20 hw); (have hz := Z.z hw); (conv => arg 2; cbv); (generalize hP : Try.prog = P); cbv
  have ed : wbin .add .i64 a b = d := by rw [hbin, i_add (by omega) (by omega)]; exact h
  simp only [ed]
  have hb1 : wbeq (wcmp .geq a 0) (wcmp .geq b 0) = false ∨ wbeq (wcmp .geq d 0) (wcmp .geq a 0) = true := by
    rw [hbeq, hcmp]
    simp only [cmpStd, beq_iff_eq, beq_eq_false_iff_ne, ne_eq, decide_eq_decide]
    omega
  repeat' (split <;> rename_i h1 <;> (try (simp only [hz, Z.a, binStd, cmpStd, unStd, scmpStd, maxI, reduceCtorEq] at h1)) <;> (try cbv))
  all_goals first
    | exact ⟨_, Vw.same rfl, hR _ rfl⟩
    | (exfalso; simp only [hbeq, hcmp, cmpStd, beq_iff_eq, beq_eq_false_iff_ne, ne_eq, decide_eq_decide] at *; omega)
theorem e_xsub {a b d : Int} (h : a - b = d) (ha : I62 a) (hb : I62 b) : PCalls Try.prog 97 [.int .i64 a, .int .i64 b] (· = .tuple [.int .i64 d, .bool true]) := by
  unfold I62 at ha hb
  (refine PCalls.ofY Try.func97 (by kernel_rfl) (by kernel_rfl) fun w hw R hR => ?_); (obtain ⟨wbin, wcmp, wun, wconv, wnot, wbeq, wmm, wscmp, wsadd, wslen, wsat, weqs, wlen, wnlen, wofNat, wtake, wdrop, wapp, wzero, wnat⟩ := w); (have hbin := Z.w1 hw); (have hcmp := Z.w2 hw); (have hun := Z.w3 hw); (have hconv := Z.w4 hw); (have hnot := Z.w5 hw); (have hbeq := Z.w6 hw); (have hmm := Z.w7 hw); (have hscmp := Z.w8 hw); (have hsadd := Z.w9 hw); (have hslen := Z.w10 hw); (have hsat := Z.w11 hw); (have heqs := Z.w12 hw); (have hlen := Z.w13 hw); (have hnlen := Z.w14 hw); (have hofNat := Z.w15 hw); (have htake := Z.w16 hw); (have hdrop := Z.w17 hw); (have happ := Z.w18 hw); (have hzero := Z.w19 hw); (have hnat := Z.w20 hw); (have hz := Z.z hw); (conv => arg 2; cbv); (generalize hP : Try.prog = P); cbv
  have ed : wbin .sub .i64 a b = d := by rw [hbin, i_sub (by omega) (by omega)]; exact h
  simp only [ed]
  have hb1 : wbeq (wcmp .geq a 0) (wcmp .geq b 0) = true ∨ wbeq (wcmp .geq d 0) (wcmp .geq a 0) = true := by
    rw [hbeq, hcmp]
    simp only [cmpStd, beq_iff_eq, decide_eq_decide]
    omega
  repeat' (split <;> rename_i h1 <;> (try (simp only [hz, Z.a, binStd, cmpStd, unStd, scmpStd, maxI, reduceCtorEq] at h1)) <;> (try cbv))
  all_goals first
    | exact ⟨_, Vw.same rfl, hR _ rfl⟩
    | (exfalso; simp only [hbeq, hcmp, cmpStd, beq_iff_eq, decide_eq_decide] at *; omega)
theorem e_xnear (d : Int) (b : Bool) : PCalls Try.prog 94 [.int .i64 d, .bool true, .bool b] (· = .int .i64 d) := by
  (refine PCalls.ofY Try.func94 (by kernel_rfl) (by kernel_rfl) fun w hw R hR => ?_); (obtain ⟨wbin, wcmp, wun, wconv, wnot, wbeq, wmm, wscmp, wsadd, wslen, wsat, weqs, wlen, wnlen, wofNat, wtake, wdrop, wapp, wzero, wnat⟩ := w); (have hbin := Z.w1 hw); (have hcmp := Z.w2 hw); (have hun := Z.w3 hw); (have hconv := Z.w4 hw); (have hnot := Z.w5 hw); (have hbeq := Z.w6 hw); (have hmm := Z.w7 hw); (have hscmp := Z.w8 hw); (have hsadd := Z.w9 hw); (have hslen := Z.w10 hw); (have hsat := Z.w11 hw); (have heqs := Z.w12 hw); (have hlen := Z.w13 hw); (have hnlen := Z.w14 hw); (have hofNat := Z.w15 hw); (have htake := Z.w16 hw); (have hdrop := Z.w17 hw); (have happ := Z.w18 hw); (have hzero := Z.w19 hw); (have hnat := Z.w20 hw); (have hz := Z.z hw); (conv => arg 2; cbv); (generalize hP : Try.prog = P); cbv
  exact ⟨_, Vw.same rfl, hR _ rfl⟩
theorem e_xaddSat {a b d : Int} (h : a + b = d) (ha : I62 a) (hb : I62 b) : PCalls Try.prog 66 [.int .i64 a, .int .i64 b] (· = .int .i64 d) := by
  (refine PCalls.ofY Try.func66 (by kernel_rfl) (by kernel_rfl) fun w hw R hR => ?_); (obtain ⟨wbin, wcmp, wun, wconv, wnot, wbeq, wmm, wscmp, wsadd, wslen, wsat, weqs, wlen, wnlen, wofNat, wtake, wdrop, wapp, wzero, wnat⟩ := w); (have hbin := Z.w1 hw); (have hcmp := Z.w2 hw); (have hun := Z.w3 hw); (have hconv := Z.w4 hw); (have hnot := Z.w5 hw); (have hbeq := Z.w6 hw); (have hmm := Z.w7 hw); (have hscmp := Z.w8 hw); (have hsadd := Z.w9 hw); (have hslen := Z.w10 hw); (have hsat := Z.w11 hw); (have heqs := Z.w12 hw); (have hlen := Z.w13 hw); (have hnlen := Z.w14 hw); (have hofNat := Z.w15 hw); (have htake := Z.w16 hw); (have hdrop := Z.w17 hw); (have happ := Z.w18 hw); (have hzero := Z.w19 hw); (have hnat := Z.w20 hw); (have hz := Z.z hw); (conv => arg 2; cbv); (generalize hP : Try.prog = P); cbv
  refine Call.stepE (by rw [← hP]; exact e_xadd h ha hb) rfl ?_
  cbv
  obtain ⟨o, eo⟩ : ∃ o, wcmp .lss a 0 = o := ⟨_, rfl⟩
  simp only [eo]
  refine Call.stepE (by rw [← hP]; exact e_xnear d o) rfl ?_
  cbv
  exact ⟨_, Vw.same rfl, hR _ rfl⟩
theorem mmT' (a b : Int) : maxI true a b = max a b := by simp only [maxI, if_true]; split <;> omega
theorem mmF' (a b : Int) : maxI false a b = min a b := by simp only [maxI, Bool.false_eq_true, if_false]; split <;> omega
theorem e_xclamp {x lo hi v : Int} (h : max lo (min x hi) = v) : PCalls Try.prog 65 [.int .i64 x, .int .i64 lo, .int .i64 hi] (· = .int .i64 v) := by
  (refine PCalls.ofY Try.func65 (by kernel_rfl) (by kernel_rfl) fun w hw R hR => ?_); (obtain ⟨wbin, wcmp, wun, wconv, wnot, wbeq, wmm, wscmp, wsadd, wslen, wsat, weqs, wlen, wnlen, wofNat, wtake, wdrop, wapp, wzero, wnat⟩ := w); (have hbin := Z.w1 hw); (have hcmp := Z.w2 hw); (have hun := Z.w3 hw); (have hconv := Z.w4 hw); (have hnot := Z.w5 hw); (have hbeq := Z.w6 hw); (have hmm := Z.w7 hw); (have hscmp := Z.w8 hw); (have hsadd := Z.w9 hw); (have hslen := Z.w10 hw); (have hsat := Z.w11 hw); (have heqs := Z.w12 hw); (have hlen := Z.w13 hw); (have hnlen := Z.w14 hw); (have hofNat := Z.w15 hw); (have htake := Z.w16 hw); (have hdrop := Z.w17 hw); (have happ := Z.w18 hw); (have hzero := Z.w19 hw); (have hnat := Z.w20 hw); (have hz := Z.z hw); (conv => arg 2; cbv); (generalize hP : Try.prog = P); cbv
  obtain ⟨m, em⟩ : ∃ m, min x hi = m := ⟨_, rfl⟩
  have e1 : wmm false x hi = m := by rw [hmm, mmF', em]
  have e2 : wmm true lo m = v := by rw [hmm, mmT', ← h, em]
  simp only [e1, e2]
  exact ⟨_, Vw.same rfl, hR _ rfl⟩
theorem e_xboth {lo hi : Int} (h : lo ≤ hi) : PCalls Try.prog 91 [.int .i64 lo, .bool true, .int .i64 hi, .bool true] (· = .tuple [.agg [.int .i64 lo, .int .i64 hi], .bool true]) := by
  (refine PCalls.ofY Try.func91 (by kernel_rfl) (by kernel_rfl) fun w hw R hR => ?_); (obtain ⟨wbin, wcmp, wun, wconv, wnot, wbeq, wmm, wscmp, wsadd, wslen, wsat, weqs, wlen, wnlen, wofNat, wtake, wdrop, wapp, wzero, wnat⟩ := w); (have hbin := Z.w1 hw); (have hcmp := Z.w2 hw); (have hun := Z.w3 hw); (have hconv := Z.w4 hw); (have hnot := Z.w5 hw); (have hbeq := Z.w6 hw); (have hmm := Z.w7 hw); (have hscmp := Z.w8 hw); (have hsadd := Z.w9 hw); (have hslen := Z.w10 hw); (have hsat := Z.w11 hw); (have heqs := Z.w12 hw); (have hlen := Z.w13 hw); (have hnlen := Z.w14 hw); (have hofNat := Z.w15 hw); (have htake := Z.w16 hw); (have hdrop := Z.w17 hw); (have happ := Z.w18 hw); (have hzero := Z.w19 hw); (have hnat := Z.w20 hw); (have hz := Z.z hw); (conv => arg 2; cbv); (generalize hP : Try.prog = P); cbv
  repeat' (split <;> rename_i h1 <;> (try (simp only [hz, Z.a, binStd, cmpStd, unStd, scmpStd, maxI, reduceCtorEq] at h1)) <;> (try cbv))
  all_goals first
    | (exfalso; omega)
    | exact ⟨_, Vw.same rfl, hR _ rfl⟩
theorem e_xbothNo {lo hi : Int} (h : hi < lo) : PCalls Try.prog 91 [.int .i64 lo, .bool true, .int .i64 hi, .bool true] (· = .tuple [.agg [.int .i64 0, .int .i64 0], .bool false]) := by
  (refine PCalls.ofY Try.func91 (by kernel_rfl) (by kernel_rfl) fun w hw R hR => ?_); (obtain ⟨wbin, wcmp, wun, wconv, wnot, wbeq, wmm, wscmp, wsadd, wslen, wsat, weqs, wlen, wnlen, wofNat, wtake, wdrop, wapp, wzero, wnat⟩ := w); (have hbin := Z.w1 hw); (have hcmp := Z.w2 hw); (have hun := Z.w3 hw); (have hconv := Z.w4 hw); (have hnot := Z.w5 hw); (have hbeq := Z.w6 hw); (have hmm := Z.w7 hw); (have hscmp := Z.w8 hw); (have hsadd := Z.w9 hw); (have hslen := Z.w10 hw); (have hsat := Z.w11 hw); (have heqs := Z.w12 hw); (have hlen := Z.w13 hw); (have hnlen := Z.w14 hw); (have hofNat := Z.w15 hw); (have htake := Z.w16 hw); (have hdrop := Z.w17 hw); (have happ := Z.w18 hw); (have hzero := Z.w19 hw); (have hnat := Z.w20 hw); (have hz := Z.z hw); (conv => arg 2; cbv); (generalize hP : Try.prog = P); cbv
  repeat' (split <;> rename_i h1 <;> (try (simp only [hz, Z.a, binStd, cmpStd, unStd, scmpStd, maxI, reduceCtorEq] at h1)) <;> (try cbv))
  all_goals first
    | (exfalso; omega)
    | exact ⟨_, Vw.same rfl, hR _ rfl⟩
theorem e_xright {a b : Int} (o : Bool) (ho : decide (a ≤ b) = o) : PCalls Try.prog 27 [.agg [.int .i64 a, .int .i64 b]] (· = .bool o) := by
  (refine PCalls.ofY Try.func27 (by kernel_rfl) (by kernel_rfl) fun w hw R hR => ?_); (obtain ⟨wbin, wcmp, wun, wconv, wnot, wbeq, wmm, wscmp, wsadd, wslen, wsat, weqs, wlen, wnlen, wofNat, wtake, wdrop, wapp, wzero, wnat⟩ := w); (have hbin := Z.w1 hw); (have hcmp := Z.w2 hw); (have hun := Z.w3 hw); (have hconv := Z.w4 hw); (have hnot := Z.w5 hw); (have hbeq := Z.w6 hw); (have hmm := Z.w7 hw); (have hscmp := Z.w8 hw); (have hsadd := Z.w9 hw); (have hslen := Z.w10 hw); (have hsat := Z.w11 hw); (have heqs := Z.w12 hw); (have hlen := Z.w13 hw); (have hnlen := Z.w14 hw); (have hofNat := Z.w15 hw); (have htake := Z.w16 hw); (have hdrop := Z.w17 hw); (have happ := Z.w18 hw); (have hzero := Z.w19 hw); (have hnat := Z.w20 hw); (have hz := Z.z hw); (conv => arg 2; cbv); (generalize hP : Try.prog = P); cbv
  refine ⟨_, Vw.same rfl, hR _ ?_⟩
  rw [hcmp, ← ho]; rfl
theorem e_xin {a b c d : Int} (o : Bool) (ho : decide (a ≤ b → c ≤ a ∧ b ≤ d) = o) : PCalls Try.prog 28 [.agg [.int .i64 a, .int .i64 b], .agg [.int .i64 c, .int .i64 d]] (· = .bool o) := by
  obtain ⟨u, eu⟩ : ∃ u, decide (a ≤ b) = u := ⟨_, rfl⟩
  have hr := e_xright (a := a) (b := b) u eu
  (refine PCalls.ofY Try.func28 (by kernel_rfl) (by kernel_rfl) fun w hw R hR => ?_); (obtain ⟨wbin, wcmp, wun, wconv, wnot, wbeq, wmm, wscmp, wsadd, wslen, wsat, weqs, wlen, wnlen, wofNat, wtake, wdrop, wapp, wzero, wnat⟩ := w); (have hbin := Z.w1 hw); (have hcmp := Z.w2 hw); (have hun := Z.w3 hw); (have hconv := Z.w4 hw); (have hnot := Z.w5 hw); (have hbeq := Z.w6 hw); (have hmm := Z.w7 hw); (have hscmp := Z.w8 hw); (have hsadd := Z.w9 hw); (have hslen := Z.w10 hw); (have hsat := Z.w11 hw); (have heqs := Z.w12 hw); (have hlen := Z.w13 hw); (have hnlen := Z.w14 hw); (have hofNat := Z.w15 hw); (have htake := Z.w16 hw); (have hdrop := Z.w17 hw); (have happ := Z.w18 hw); (have hzero := Z.w19 hw); (have hnat := Z.w20 hw); (have hz := Z.z hw); (conv => arg 2; cbv); (generalize hP : Try.prog = P); cbv
  refine Call.stepE (by rw [← hP]; exact hr) rfl ?_
  cbv
  have hn : wnot u = !u := by rw [hnot]
  have hF : ∀ (o' : Bool) (h : AHeap), (o' = true ↔ (a ≤ b → c ≤ a ∧ b ≤ d)) → Ret [.bool o'] h R := fun o' h k => ⟨_, Vw.same rfl, hR _ (congrArg AV.bool (by rw [← ho, Bool.eq_iff_iff, k, decide_eq_true_iff]))⟩
  cases u with
  | false =>
    have n1 : wnot false = true := by rw [hnot]; rfl
    simp only [n1]
    cbv
    exact hF true _ (by simp at eu ⊢; omega)
  | true =>
    have n1 : wnot true = false := by rw [hnot]; rfl
    simp only [n1]
    cbv
    have eu' : a ≤ b := by simpa using eu
    (split <;> rename_i h1 <;> (try (simp only [hz, Z.a, binStd, cmpStd, unStd, scmpStd, maxI, reduceCtorEq] at h1)) <;> (try cbv))
    · refine hF _ _ ?_
      rw [hcmp]
      simp only [cmpStd, decide_eq_true_iff]
      omega
    · exact hF false _ (by simp; omega)
theorem e_xhas {a b x : Int} (o : Bool) (ho : decide (a ≤ x ∧ x ≤ b) = o) : PCalls Try.prog 23 [.agg [.int .i64 a, .int .i64 b], .int .i64 x] (· = .bool o) := by
  (refine PCalls.ofY Try.func23 (by kernel_rfl) (by kernel_rfl) fun w hw R hR => ?_); (obtain ⟨wbin, wcmp, wun, wconv, wnot, wbeq, wmm, wscmp, wsadd, wslen, wsat, weqs, wlen, wnlen, wofNat, wtake, wdrop, wapp, wzero, wnat⟩ := w); (have hbin := Z.w1 hw); (have hcmp := Z.w2 hw); (have hun := Z.w3 hw); (have hconv := Z.w4 hw); (have hnot := Z.w5 hw); (have hbeq := Z.w6 hw); (have hmm := Z.w7 hw); (have hscmp := Z.w8 hw); (have hsadd := Z.w9 hw); (have hslen := Z.w10 hw); (have hsat := Z.w11 hw); (have heqs := Z.w12 hw); (have hlen := Z.w13 hw); (have hnlen := Z.w14 hw); (have hofNat := Z.w15 hw); (have htake := Z.w16 hw); (have hdrop := Z.w17 hw); (have happ := Z.w18 hw); (have hzero := Z.w19 hw); (have hnat := Z.w20 hw); (have hz := Z.z hw); (conv => arg 2; cbv); (generalize hP : Try.prog = P); cbv
  have hF : ∀ (o' : Bool) (h : AHeap), (o' = true ↔ (a ≤ x ∧ x ≤ b)) → Ret [.bool o'] h R := fun o' h k => ⟨_, Vw.same rfl, hR _ (congrArg AV.bool (by rw [← ho, Bool.eq_iff_iff, k, decide_eq_true_iff]))⟩
  (split <;> rename_i h1 <;> (try (simp only [hz, Z.a, binStd, cmpStd, unStd, scmpStd, maxI, reduceCtorEq] at h1)) <;> (try cbv))
  · refine hF _ _ ?_
    rw [hcmp]
    simp only [cmpStd, decide_eq_true_iff]
    omega
  · exact hF false _ (by simp; omega)
theorem e_xsadd {a b c d l h : Int} (h1 : a ≤ b) (h2 : c ≤ d) (hl : a + c = l) (hh : b + d = h) (ha : I62 a) (hb : I62 b) (hc : I62 c) (hd : I62 d) : PCalls Try.prog 59 [.agg [.int .i64 a, .int .i64 b], .agg [.int .i64 c, .int .i64 d]] (· = .tuple [.agg [.int .i64 l, .int .i64 h], .bool true]) := by
  have r1 := e_xright (a := a) (b := b) true (by simp [h1])
  have r2 := e_xright (a := c) (b := d) true (by simp [h2])
  have a1 := e_xadd hl ha hc
  have a2 := e_xadd hh hb hd
  have b1 := e_xboth (lo := l) (hi := h) (by omega)
  (refine PCalls.ofY Try.func59 (by kernel_rfl) (by kernel_rfl) fun w hw R hR => ?_); (obtain ⟨wbin, wcmp, wun, wconv, wnot, wbeq, wmm, wscmp, wsadd, wslen, wsat, weqs, wlen, wnlen, wofNat, wtake, wdrop, wapp, wzero, wnat⟩ := w); (have hbin := Z.w1 hw); (have hcmp := Z.w2 hw); (have hun := Z.w3 hw); (have hconv := Z.w4 hw); (have hnot := Z.w5 hw); (have hbeq := Z.w6 hw); (have hmm := Z.w7 hw); (have hscmp := Z.w8 hw); (have hsadd := Z.w9 hw); (have hslen := Z.w10 hw); (have hsat := Z.w11 hw); (have heqs := Z.w12 hw); (have hlen := Z.w13 hw); (have hnlen := Z.w14 hw); (have hofNat := Z.w15 hw); (have htake := Z.w16 hw); (have hdrop := Z.w17 hw); (have happ := Z.w18 hw); (have hzero := Z.w19 hw); (have hnat := Z.w20 hw); (have hz := Z.z hw); (conv => arg 2; cbv); (generalize hP : Try.prog = P); cbv
  have n1 : wnot true = false := by rw [hnot]; rfl
  repeat' (first
    | (refine Call.stepE (by rw [← hP]; exact r1) rfl ?_; cbv; simp only [n1]; cbv)
    | (refine Call.stepE (by rw [← hP]; exact r2) rfl ?_; cbv; simp only [n1]; cbv)
    | (refine Call.stepE (by rw [← hP]; exact a1) rfl ?_; cbv)
    | (refine Call.stepE (by rw [← hP]; exact a2) rfl ?_; cbv)
    | (refine Call.stepE (by rw [← hP]; exact b1) rfl ?_; cbv))
  exact ⟨_, Vw.same rfl, hR _ rfl⟩
theorem e_xmid {a b m : Int} (h : (a + b) / 2 = m) (ha : I64 a) (hb : I64 b) : PCalls Try.prog 63 [.agg [.int .i64 a, .int .i64 b]] (· = .int .i64 m) := by
  (refine PCalls.ofY Try.func63 (by kernel_rfl) (by kernel_rfl) fun w hw R hR => ?_); (obtain ⟨wbin, wcmp, wun, wconv, wnot, wbeq, wmm, wscmp, wsadd, wslen, wsat, weqs, wlen, wnlen, wofNat, wtake, wdrop, wapp, wzero, wnat⟩ := w); (have hbin := Z.w1 hw); (have hcmp := Z.w2 hw); (have hun := Z.w3 hw); (have hconv := Z.w4 hw); (have hnot := Z.w5 hw); (have hbeq := Z.w6 hw); (have hmm := Z.w7 hw); (have hscmp := Z.w8 hw); (have hsadd := Z.w9 hw); (have hslen := Z.w10 hw); (have hsat := Z.w11 hw); (have heqs := Z.w12 hw); (have hlen := Z.w13 hw); (have hnlen := Z.w14 hw); (have hofNat := Z.w15 hw); (have htake := Z.w16 hw); (have hdrop := Z.w17 hw); (have happ := Z.w18 hw); (have hzero := Z.w19 hw); (have hnat := Z.w20 hw); (have hz := Z.z hw); (conv => arg 2; cbv); (generalize hP : Try.prog = P); cbv
  refine Call.stepE (by rw [← hP]; exact (e_nmid a b ha hb).mono fun r hr => by rw [hr, h]) rfl ?_
  cbv
  exact ⟨_, Vw.same rfl, hR _ rfl⟩
theorem e_xmeet {a b c d x y : Int} (hx : max a c = x) (hy : min b d = y) (h : x ≤ y) : PCalls Try.prog 73 [.agg [.int .i64 a, .int .i64 b], .agg [.int .i64 c, .int .i64 d]] (· = .tuple [.agg [.int .i64 x, .int .i64 y], .bool true]) := by
  have b1 := e_xboth h
  (refine PCalls.ofY Try.func73 (by kernel_rfl) (by kernel_rfl) fun w hw R hR => ?_); (obtain ⟨wbin, wcmp, wun, wconv, wnot, wbeq, wmm, wscmp, wsadd, wslen, wsat, weqs, wlen, wnlen, wofNat, wtake, wdrop, wapp, wzero, wnat⟩ := w); (have hbin := Z.w1 hw); (have hcmp := Z.w2 hw); (have hun := Z.w3 hw); (have hconv := Z.w4 hw); (have hnot := Z.w5 hw); (have hbeq := Z.w6 hw); (have hmm := Z.w7 hw); (have hscmp := Z.w8 hw); (have hsadd := Z.w9 hw); (have hslen := Z.w10 hw); (have hsat := Z.w11 hw); (have heqs := Z.w12 hw); (have hlen := Z.w13 hw); (have hnlen := Z.w14 hw); (have hofNat := Z.w15 hw); (have htake := Z.w16 hw); (have hdrop := Z.w17 hw); (have happ := Z.w18 hw); (have hzero := Z.w19 hw); (have hnat := Z.w20 hw); (have hz := Z.z hw); (conv => arg 2; cbv); (generalize hP : Try.prog = P); cbv
  have e1 : wmm true a c = x := by rw [hmm, mmT', hx]
  have e2 : wmm false b d = y := by rw [hmm, mmF', hy]
  simp only [e1, e2]
  refine Call.stepE (by rw [← hP]; exact b1) rfl ?_
  cbv
  exact ⟨_, Vw.same rfl, hR _ rfl⟩
theorem e_xmeetNo {a b c d x y : Int} (hx : max a c = x) (hy : min b d = y) (h : y < x) : PCalls Try.prog 73 [.agg [.int .i64 a, .int .i64 b], .agg [.int .i64 c, .int .i64 d]] (· = .tuple [.agg [.int .i64 0, .int .i64 0], .bool false]) := by
  have b1 := e_xbothNo h
  (refine PCalls.ofY Try.func73 (by kernel_rfl) (by kernel_rfl) fun w hw R hR => ?_); (obtain ⟨wbin, wcmp, wun, wconv, wnot, wbeq, wmm, wscmp, wsadd, wslen, wsat, weqs, wlen, wnlen, wofNat, wtake, wdrop, wapp, wzero, wnat⟩ := w); (have hbin := Z.w1 hw); (have hcmp := Z.w2 hw); (have hun := Z.w3 hw); (have hconv := Z.w4 hw); (have hnot := Z.w5 hw); (have hbeq := Z.w6 hw); (have hmm := Z.w7 hw); (have hscmp := Z.w8 hw); (have hsadd := Z.w9 hw); (have hslen := Z.w10 hw); (have hsat := Z.w11 hw); (have heqs := Z.w12 hw); (have hlen := Z.w13 hw); (have hnlen := Z.w14 hw); (have hofNat := Z.w15 hw); (have htake := Z.w16 hw); (have hdrop := Z.w17 hw); (have happ := Z.w18 hw); (have hzero := Z.w19 hw); (have hnat := Z.w20 hw); (have hz := Z.z hw); (conv => arg 2; cbv); (generalize hP : Try.prog = P); cbv
  have e1 : wmm true a c = x := by rw [hmm, mmT', hx]
  have e2 : wmm false b d = y := by rw [hmm, mmF', hy]
  simp only [e1, e2]
  refine Call.stepE (by rw [← hP]; exact b1) rfl ?_
  cbv
  exact ⟨_, Vw.same rfl, hR _ rfl⟩
end Go.Proofs.Ytpiocfmdjgbamaa

/- What a configuration is. -/
namespace Go.Proofs.Ytpiocfmdjgbamaa
open Go Go.RowKit Go.Eng
set_option maxRecDepth 100000
theorem ok_int {k : IntKind} {l : List Sh} {xs : List AV} (h : OkL (.int k :: l) xs) : ∃ n y, xs = .int k n :: y ∧ (Lit.int k n).wf = true ∧ OkL l y := by
  unfold OkL at h
  obtain ⟨x, y, rfl, h1, h2⟩ := h
  unfold Sh.Ok at h1
  obtain ⟨n, rfl, hn⟩ := h1
  exact ⟨n, y, rfl, hn, h2⟩
theorem ok_bool {l : List Sh} {xs : List AV} (h : OkL (.bool :: l) xs) : ∃ b y, xs = .bool b :: y ∧ OkL l y := by
  unfold OkL at h
  obtain ⟨x, y, rfl, h1, h2⟩ := h
  unfold Sh.Ok at h1
  obtain ⟨n, rfl⟩ := h1
  exact ⟨n, y, rfl, h2⟩
theorem ok_list {z : Nat} {row l : List Sh} {xs : List AV} (h : OkL (.list z row :: l) xs) : ∃ es y, xs = .list z es :: y ∧ es.length ≤ maxLen ∧ (∀ r, r ∈ es → OkL row r) ∧ OkL l y := by
  unfold OkL at h
  obtain ⟨x, y, rfl, h1, h2⟩ := h
  unfold Sh.Ok at h1
  obtain ⟨n, rfl, h3, h4⟩ := h1
  exact ⟨n, y, rfl, h3, h4, h2⟩
theorem ok_nil {xs : List AV} (h : OkL [] xs) : xs = [] := by unfold OkL at h; exact h
theorem wf64 {n : Int} (h : (Lit.int .i64 n).wf = true) : -9223372036854775808 ≤ n ∧ n ≤ 9223372036854775807 := by
  simp [Lit.wf, IntKind.min, IntKind.max, IntKind.signed, IntKind.bits] at h
  omega
theorem ty_conf (x : AV) (h : TyV Try.prog 8 68 x) : ∃ c0 c1 c2 c3 c4 c5 c6 c7 c8 c9 c10 c11 c12 c13 : Int, x = .agg [.int .i64 c0, .int .i64 c1, .int .i64 c2, .int .i64 c3, .int .i64 c4, .int .i64 c5, .int .i64 c6, .int .i64 c7, .int .i64 c8, .int .i64 c9, .int .i64 c10, .int .i64 c11, .int .i64 c12, .int .i64 c13] := by
  obtain ⟨cs, rfl, hx⟩ := h.agg (by kernel_rfl) (show shOf Try.prog 8 68 = some [.int .i64, .int .i64, .int .i64, .int .i64, .int .i64, .int .i64, .int .i64, .int .i64, .int .i64, .int .i64, .int .i64, .int .i64, .int .i64, .int .i64] from by kernel_rfl)
  obtain ⟨c0, _, rfl, _, hx⟩ := ok_int hx
  obtain ⟨c1, _, rfl, _, hx⟩ := ok_int hx
  obtain ⟨c2, _, rfl, _, hx⟩ := ok_int hx
  obtain ⟨c3, _, rfl, _, hx⟩ := ok_int hx
  obtain ⟨c4, _, rfl, _, hx⟩ := ok_int hx
  obtain ⟨c5, _, rfl, _, hx⟩ := ok_int hx
  obtain ⟨c6, _, rfl, _, hx⟩ := ok_int hx
  obtain ⟨c7, _, rfl, _, hx⟩ := ok_int hx
  obtain ⟨c8, _, rfl, _, hx⟩ := ok_int hx
  obtain ⟨c9, _, rfl, _, hx⟩ := ok_int hx
  obtain ⟨c10, _, rfl, _, hx⟩ := ok_int hx
  obtain ⟨c11, _, rfl, _, hx⟩ := ok_int hx
  obtain ⟨c12, _, rfl, _, hx⟩ := ok_int hx
  obtain ⟨c13, _, rfl, _, hx⟩ := ok_int hx
  obtain rfl := ok_nil hx
  exact ⟨c0, c1, c2, c3, c4, c5, c6, c7, c8, c9, c10, c11, c12, c13, rfl⟩
end Go.Proofs.Ytpiocfmdjgbamaa

/- What an int64 is. -/
set_option maxRecDepth 100000
namespace Go.Proofs.Ytpiocfmdjgbamaa
open Go Go.RowKit Go.Eng
theorem ty_i64 (x : AV) (h : TyV Try.prog 8 2 x) : ∃ n, x = .int .i64 n ∧ -9223372036854775808 ≤ n ∧ n ≤ 9223372036854775807 := by
  have h := h.one (by kernel_rfl) (show shOf Try.prog 8 2 = some [.int .i64] from by kernel_rfl)
  unfold Sh.Ok at h
  obtain ⟨n, rfl, hn⟩ := h
  exact ⟨n, rfl, wf64 hn⟩
end Go.Proofs.Ytpiocfmdjgbamaa

/- What a track is. -/
set_option maxRecDepth 100000
namespace Go.Proofs.Ytpiocfmdjgbamaa
open Go Go.RowKit Go.Eng
theorem ty_track (x : AV) (h : TyV Try.prog 8 25 x) : ∃ (ss : List Sg) (gs : List Gr), x = .agg [.list 3 (ss.map sgRow), .list 5 (gs.map grRow)] := by
  obtain ⟨cs, rfl, k0⟩ := h.agg (by kernel_rfl) (show shOf Try.prog 8 25 = some [.list 3 [.int .i64, .list 2 [.int .i64, .int .i64], .list 1 [.int .i64]], .list 5 [.int .i64, .int .i64, .int .i64, .int .i64, .int .i64]] from by kernel_rfl)
  clear h
  obtain ⟨es, _, rfl, _, hr, k1⟩ := ok_list k0
  obtain ⟨ds, _, rfl, _, hs, k2⟩ := ok_list k1
  obtain rfl := ok_nil k2
  clear k0 k1 k2
  obtain ⟨ss, rfl⟩ := rows_of (f := sgRow) (es := es) fun r hrr => by
    have k0 := hr r hrr
    clear hr hrr
    obtain ⟨len, _, rfl, _, k1⟩ := ok_int k0
    obtain ⟨ps, _, rfl, _, hp, k2⟩ := ok_list k1
    obtain ⟨ns, _, rfl, _, hn, k3⟩ := ok_list k2
    obtain rfl := ok_nil k3
    clear k0 k1 k2 k3
    obtain ⟨qs, rfl⟩ := rows_of (f := pcRow) (es := ps) fun r hrr => by
      have k0 := hp r hrr
      clear hp hrr
      obtain ⟨a, _, rfl, _, k1⟩ := ok_int k0
      obtain ⟨b, _, rfl, _, k2⟩ := ok_int k1
      obtain rfl := ok_nil k2
      exact ⟨(a, b), rfl⟩
    obtain ⟨ms, rfl⟩ := rows_of (f := nxRow) (es := ns) fun r hrr => by
      have k0 := hn r hrr
      clear hn hrr
      obtain ⟨a, _, rfl, _, k1⟩ := ok_int k0
      obtain rfl := ok_nil k1
      exact ⟨a, rfl⟩
    exact ⟨⟨len, qs, ms⟩, rfl⟩
  obtain ⟨gs, rfl⟩ := rows_of (f := grRow) (es := ds) fun r hrr => by
    have k0 := hs r hrr
    clear hr hs hrr
    obtain ⟨a, _, rfl, _, k1⟩ := ok_int k0
    obtain ⟨b, _, rfl, _, k2⟩ := ok_int k1
    obtain ⟨c, _, rfl, _, k3⟩ := ok_int k2
    obtain ⟨d, _, rfl, _, k4⟩ := ok_int k3
    obtain ⟨e, _, rfl, _, k5⟩ := ok_int k4
    obtain rfl := ok_nil k5
    exact ⟨⟨a, b, c, d, e⟩, rfl⟩
  exact ⟨ss, gs, rfl⟩
end Go.Proofs.Ytpiocfmdjgbamaa

/- What the arguments' types tell: numbers, spans, ways. -/
namespace Go.Proofs.Ytpiocfmdjgbamaa
open Go Go.RowKit Go.Eng
set_option maxRecDepth 100000
theorem ty_intS (x : AV) (h : TyV Try.prog 8 3 x) : ∃ n, x = .int .i64 n := by
  have h := h.one (by kernel_rfl) (show shOf Try.prog 8 3 = some [.int .i64] from by kernel_rfl)
  unfold Sh.Ok at h
  obtain ⟨n, rfl, hn⟩ := h
  exact ⟨n, rfl⟩
theorem ty_span (x : AV) (h : TyV Try.prog 8 50 x) : ∃ a b, x = .agg [.int .i64 a, .int .i64 b] := by
  obtain ⟨cs, rfl, k0⟩ := h.agg (by kernel_rfl) (show shOf Try.prog 8 50 = some [.int .i64, .int .i64] from by kernel_rfl)
  obtain ⟨a, _, rfl, _, k1⟩ := ok_int k0
  obtain ⟨b, _, rfl, _, k2⟩ := ok_int k1
  obtain rfl := ok_nil k2
  exact ⟨a, b, rfl⟩
end Go.Proofs.Ytpiocfmdjgbamaa

