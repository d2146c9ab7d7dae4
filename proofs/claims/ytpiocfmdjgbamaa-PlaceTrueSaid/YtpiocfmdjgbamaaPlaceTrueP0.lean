/- Texts of the proof, joined by wip/tools/pack3.py. -/
import Derived.Test.YtpiocfmdjgbamaaCoreP2
import Derived.KernelRfl
import Derived.Test.YtpiocfmdjgbamaaEng26
import Derived.Test.YtpiocfmdjgbamaaEngL
import Derived.Test.YtpiocfmdjgbamaaEngV
/- A place, where it begins, by the engine. -/
set_option linter.unusedVariables false
set_option linter.unusedSimpArgs false
namespace Go.Proofs.Ytpiocfmdjgbamaa
open Go Go.RowKit Go.Eng
set_option maxRecDepth 100000
theorem e_xmid17 (a b m : Int) (ha : I62 a) (hb : I62 b) (hm : (a + b) / 2 = m) : PCalls Try.prog 64 [.int .i64 a, .int .i64 b] (· = .int .i64 m) := by
  unfold I62 at ha hb
  (refine PCalls.ofY Try.func64 (by kernel_rfl) (by kernel_rfl) fun w hw R hR => ?_); (obtain ⟨wbin, wcmp, wun, wconv, wnot, wbeq, wmm, wscmp, wsadd, wslen, wsat, weqs, wlen, wnlen, wofNat, wtake, wdrop, wapp, wzero, wnat⟩ := w); (have hbin := Z.w1 hw); (have hcmp := Z.w2 hw); (have hun := Z.w3 hw); (have hconv := Z.w4 hw); (have hnot := Z.w5 hw); (have hbeq := Z.w6 hw); (have hmm := Z.w7 hw); (have hscmp := Z.w8 hw); (have hsadd := Z.w9 hw); (have hslen := Z.w10 hw); (have hsat := Z.w11 hw); (have heqs := Z.w12 hw); (have hlen := Z.w13 hw); (have hnlen := Z.w14 hw); (have hofNat := Z.w15 hw); (have htake := Z.w16 hw); (have hdrop := Z.w17 hw); (have happ := Z.w18 hw); (have hzero := Z.w19 hw); (have hnat := Z.w20 hw); (have hz := Z.z hw); (conv => arg 2; cbv); (generalize hP : Try.prog = P); cbv
  obtain ⟨s, es⟩ : ∃ x, a + b = x := ⟨_, rfl⟩
  have e1 : wbin .add .i64 a b = s := by rw [hbin, ← es]; exact i_add (by omega) (by omega)
  obtain ⟨q, eq⟩ : ∃ x, s.tdiv 2 = x := ⟨_, rfl⟩
  obtain ⟨t, et⟩ : ∃ x, s.tmod 2 = x := ⟨_, rfl⟩
  have hq : q = s / 2 + (if 0 ≤ s ∨ (2 : Int) ∣ s then 0 else 1) := by rw [← eq, Int.tdiv_eq_ediv]; rfl
  have ht : t = s % 2 - (if 0 ≤ s ∨ (2 : Int) ∣ s then 0 else 2) := by rw [← et, Int.tmod_eq_emod]; congr 1; split <;> rfl
  have hq2 : q = s / 2 + (if 0 ≤ s ∨ s % 2 = 0 then 0 else 1) := by rw [hq]; congr 1; split <;> split <;> omega
  have ht2 : t = s % 2 - (if 0 ≤ s ∨ s % 2 = 0 then 0 else 2) := by rw [ht]; congr 1; split <;> split <;> omega
  clear hq ht
  have e2 : wbin .quo .i64 s 2 = q := by
    rw [hbin]
    show IntKind.i64.wrap (s.tdiv 2) = q
    rw [eq, IntKind.wrap_i64]; split at hq2 <;> omega
  have e3 : wbin .rem .i64 s 2 = t := by
    rw [hbin]
    exact et
  simp only [e1, e2, e3]
  refine Nz.mk (by decide) ?_
  refine Nz.mk (by decide) ?_
  (split <;> rename_i h <;> (try (simp only [hz, Z.a, binStd, cmpStd, unStd, scmpStd, maxI, reduceCtorEq] at h)) <;> (try cbv))
  · refine ⟨_, Vw.same rfl, hR _ (congrArg (AV.int .i64) (?_ : _ = m))⟩
    rw [← hm, hbin, i_sub (by split at hq2 <;> omega) (by split at hq2 <;> omega)]
    (try rw [← hm])
    split at hq2 <;> split at ht2 <;> omega
  · refine ⟨_, Vw.same rfl, hR _ (congrArg (AV.int .i64) (?_ : _ = m))⟩
    (try rw [← hm])
    split at hq2 <;> split at ht2 <;> omega
set_option maxHeartbeats 2000000 in
theorem e_reset (es ds : List (List AV)) (hu : Up0 es) (hud : Up0 ds) (g : Int) (hg : 0 ≤ g) (G : Gr) (hG : ds[g.toNat]? = some (grRow G)) (c0 c1 c2 c3 c4 c5 c6 c7 c8 c9 c10 c11 c12 c13 : Int) (hc : 0 ≤ c8 ∧ c8 ≤ 1048576) (hacc : 0 ≤ G.acc ∧ G.acc ≤ 1048576) (a b lo hi est : Int) (ha : I62 a) (hb : -4611686018427387904 ≤ b ∧ b ≤ 4611686018423193599) (hlo : -(G.acc + c8) + min 0 a = lo) (hhi : G.acc + c8 + max 0 b = hi) (hest : (lo + hi) / 2 = est) (r0 : List (List AV)) (er0 : r0 = [rtC [G.seg]]) :
    PCalls Try.prog 29 [.agg [.int .i64 c0, .int .i64 c1, .int .i64 c2, .int .i64 c3, .int .i64 c4, .int .i64 c5, .int .i64 c6, .int .i64 c7, .int .i64 c8, .int .i64 c9, .int .i64 c10, .int .i64 c11, .int .i64 c12, .int .i64 c13], .agg [.list 3 es, .list 5 ds], .int .i64 g, .agg [.int .i64 a, .int .i64 b]] (· = .agg [.bool true, .int .i64 g, .int .i64 lo, .int .i64 hi, .int .i64 est, .int .i64 G.off, .list 13 r0]) := by
  obtain ⟨gid, gseg, goff, gacc, gsl⟩ := G
  have hbeg := e_begin gseg goff gseg rfl
  have hbeg : PCalls Try.prog 18 [.int .i64 gseg, .int .i64 goff] (· = .agg [.int .i64 goff, .list 13 r0]) := by rw [er0]; exact hbeg
  have hG : ds[g.toNat]? = some [.int .i64 gid, .int .i64 gseg, .int .i64 goff, .int .i64 gacc, .int .i64 gsl] := hG
  have er0' := er0
  clear er0
  unfold I62 at ha
  simp only at hacc hlo hhi
  have hmid := e_xmid hest ⟨by omega, by omega⟩ ⟨by omega, by omega⟩
  (refine PCalls.ofY Try.func29 (by kernel_rfl) (by kernel_rfl) fun w hw R hR => ?_); (obtain ⟨wbin, wcmp, wun, wconv, wnot, wbeq, wmm, wscmp, wsadd, wslen, wsat, weqs, wlen, wnlen, wofNat, wtake, wdrop, wapp, wzero, wnat⟩ := w); (have hbin := Z.w1 hw); (have hcmp := Z.w2 hw); (have hun := Z.w3 hw); (have hconv := Z.w4 hw); (have hnot := Z.w5 hw); (have hbeq := Z.w6 hw); (have hmm := Z.w7 hw); (have hscmp := Z.w8 hw); (have hsadd := Z.w9 hw); (have hslen := Z.w10 hw); (have hsat := Z.w11 hw); (have heqs := Z.w12 hw); (have hlen := Z.w13 hw); (have hnlen := Z.w14 hw); (have hofNat := Z.w15 hw); (have htake := Z.w16 hw); (have hdrop := Z.w17 hw); (have happ := Z.w18 hw); (have hzero := Z.w19 hw); (have hnat := Z.w20 hw); (have hz := Z.z hw); (conv => arg 2; cbv); (generalize hP : Try.prog = P); cbv
  refine Idx.mk _ hg hG ?_
  cbv
  obtain ⟨fa, efa⟩ : ∃ z, gacc + c8 = z := ⟨_, rfl⟩
  obtain ⟨nf, enf⟩ : ∃ z, -fa = z := ⟨_, rfl⟩
  obtain ⟨x, ex⟩ : ∃ z, min 0 a = z := ⟨_, rfl⟩
  obtain ⟨y, ey⟩ : ∃ z, max 0 b = z := ⟨_, rfl⟩
  have b1 : wbin .add .i64 gacc c8 = fa := by rw [hbin, i_add (by omega) (by omega)]; exact efa
  have b2 : wun .neg .i64 fa = nf := by rw [hun, i_neg (by omega) (by omega)]; exact enf
  have b3 : wmm false 0 a = x := by rw [hmm, mmF', ex]
  have b4 : wmm true 0 b = y := by rw [hmm, mmT', ey]
  have b5 : wbin .add .i64 nf x = lo := by rw [hbin, i_add (by omega) (by omega)]; omega
  have b6 : wbin .add .i64 fa y = hi := by rw [hbin, i_add (by omega) (by omega)]; omega
  simp only [b1, b2, b3, b4, b5, b6]
  repeat' (first
    | (refine QCal.stepE (by rw [← hP]; exact hmid) rfl ?_; cbv)
    | (refine Call.stepE (by rw [← hP]; exact hmid) rfl ?_; cbv)
    | (refine QCal.stepE (by rw [← hP]; exact hbeg) rfl ?_; cbv)
    | (refine Call.stepE (by rw [← hP]; exact hbeg) rfl ?_; cbv)
    | (refine And.intro ?_ ?_))
  all_goals
    have hur0 : Up0 r0 := by rw [er0']; exact ⟨rfl⟩
    exact ⟨_, Vw.same (by simp only [retOne, AV.upto, uptoL, hur0.get]; rfl), hR _ rfl⟩
set_option maxHeartbeats 2000000 in
theorem e_rreset (es ds : List (List AV)) (hu : Up0 es) (hud : Up0 ds) (g : Int) (hg : 0 ≤ g) (G : Gr) (hG : ds[g.toNat]? = some (grRow G)) (c0 c1 c2 c3 c4 c5 c6 c7 c8 c9 c10 c11 c12 c13 : Int) (hc : 0 ≤ c8 ∧ c8 ≤ 1048576) (hacc : 0 ≤ G.acc ∧ G.acc ≤ 1048576) (a b lo hi est : Int) (ha : -1073741824 ≤ a ∧ a ≤ 1073741824) (hb : -1073741824 ≤ b ∧ b ≤ 1073741824) (hlo : -(G.acc + c8) + min 0 a = lo) (hhi : G.acc + c8 + max 0 b = hi) (hest : (lo + hi) / 2 = est) (q0 : List (List AV)) (eq0 : q0 = [rtRow [G.seg]]) :
    PCalls Try.prog 30 [.agg [.int .i64 c0, .int .i64 c1, .int .i64 c2, .int .i64 c3, .int .i64 c4, .int .i64 c5, .int .i64 c6, .int .i64 c7, .int .i64 c8, .int .i64 c9, .int .i64 c10, .int .i64 c11, .int .i64 c12, .int .i64 c13], .agg [.list 3 es, .list 5 ds], .int .i64 g, .int .i64 a, .int .i64 b] (· = .agg [.int .i64 1, .int .i64 g, .int .i64 lo, .int .i64 hi, .int .i64 est, .int .i64 G.off, .list 1 q0]) := by
  obtain ⟨gid, gseg, goff, gacc, gsl⟩ := G
  have hG : ds[g.toNat]? = some [.int .i64 gid, .int .i64 gseg, .int .i64 goff, .int .i64 gacc, .int .i64 gsl] := hG
  simp only at hacc hlo hhi
  have hmid := e_xmid17 lo hi est ⟨by omega, by omega⟩ ⟨by omega, by omega⟩ hest
  (refine PCalls.ofY Try.func30 (by kernel_rfl) (by kernel_rfl) fun w hw R hR => ?_); (obtain ⟨wbin, wcmp, wun, wconv, wnot, wbeq, wmm, wscmp, wsadd, wslen, wsat, weqs, wlen, wnlen, wofNat, wtake, wdrop, wapp, wzero, wnat⟩ := w); (have hbin := Z.w1 hw); (have hcmp := Z.w2 hw); (have hun := Z.w3 hw); (have hconv := Z.w4 hw); (have hnot := Z.w5 hw); (have hbeq := Z.w6 hw); (have hmm := Z.w7 hw); (have hscmp := Z.w8 hw); (have hsadd := Z.w9 hw); (have hslen := Z.w10 hw); (have hsat := Z.w11 hw); (have heqs := Z.w12 hw); (have hlen := Z.w13 hw); (have hnlen := Z.w14 hw); (have hofNat := Z.w15 hw); (have htake := Z.w16 hw); (have hdrop := Z.w17 hw); (have happ := Z.w18 hw); (have hzero := Z.w19 hw); (have hnat := Z.w20 hw); (have hz := Z.z hw); (conv => arg 2; cbv); (generalize hP : Try.prog = P); cbv
  refine Idx.mk _ hg hG ?_
  cbv
  obtain ⟨fa, efa⟩ : ∃ z, gacc + c8 = z := ⟨_, rfl⟩
  obtain ⟨nf, enf⟩ : ∃ z, -fa = z := ⟨_, rfl⟩
  have b1 : wbin .add .i64 gacc c8 = fa := by rw [hbin, i_add (by omega) (by omega)]; exact efa
  have b2 : wun .neg .i64 fa = nf := by rw [hun, i_neg (by omega) (by omega)]; exact enf
  obtain ⟨x, ex⟩ : ∃ z, nf + a = z := ⟨_, rfl⟩
  obtain ⟨y, ey⟩ : ∃ z, fa + b = z := ⟨_, rfl⟩
  have b3 : wbin .add .i64 nf a = x := by rw [hbin, i_add (by omega) (by omega)]; exact ex
  have b4 : wbin .add .i64 fa b = y := by rw [hbin, i_add (by omega) (by omega)]; exact ey
  have huq0 : Up0 q0 := by rw [eq0]; exact ⟨rfl⟩
  have eq1 : q0 = [[.list 1 [[.int .i64 gseg]]]] := eq0
  simp only [b1, b2]
  cbv
  repeat' (split <;> rename_i h <;> (try (simp only [b1, b2, b3, b4] at h)) <;> (try (simp only [hz, Z.a, binStd, cmpStd, unStd, scmpStd, maxI, reduceCtorEq] at h)) <;> (try cbv))
  all_goals
    (try simp only [b1, b2, b3, b4])
    (try rw [show (x : Int) = lo by omega])
    (try rw [show (nf : Int) = lo by omega])
    (try rw [show (y : Int) = hi by omega])
    (try rw [show (fa : Int) = hi by omega])
    refine Call.stepE (by rw [← hP]; exact hmid) rfl ?_
    cbv
    rw [← eq1]
    exact ⟨_, Vw.same (by simp only [retOne, AV.upto, uptoL, huq0.get]; rfl), hR _ rfl⟩
end Go.Proofs.Ytpiocfmdjgbamaa

/- What a growth may tell; places as rows. -/
namespace Go.Proofs.Ytpiocfmdjgbamaa
open Go Go.RowKit Go.Eng
set_option maxRecDepth 100000
def plRow (p : Int × Int) : List AV := [.int .i64 p.1, .int .i64 p.2]
theorem up_pl (ps : List (Int × Int)) : Up0 (ps.map plRow) := up_map (f := plRow) (fun d => rfl) ps
theorem growA_e {ss : List Sg} {lo hi from_ : Int} {ls : List (List Int)} {v1 v3 : Int} {v2 : List (List Int)} (h : ((v1, v2), v3) = growA ss lo hi from_ ls) : v3 = 0 ∨ v3 = 13 ∨ v3 = 40 := by
  have he := growS_e (ss := ss) (lo := lo) (hi := hi) (from_ := from_) ls
  unfold growA at h
  split at h
  · simp only [Prod.mk.injEq] at h; exact .inr (.inr h.2)
  · split at h
    · simp only [Prod.mk.injEq] at h; rw [h.2]; exact he.imp id .inl
    · split at h
      · simp only [Prod.mk.injEq] at h; exact .inr (.inr h.2)
      · simp only [Prod.mk.injEq] at h; exact .inl h.2
end Go.Proofs.Ytpiocfmdjgbamaa

/- A place moves, by the engine. -/
namespace Go.Proofs.Ytpiocfmdjgbamaa
open Go Go.RowKit Go.Eng
set_option maxRecDepth 100000
structure PlT where
  lo : Int
  hi : Int
  est : Int
  m : List (List Int)
structure PlOk (ss : List Sg) (p : PlT) : Prop where
  lo : -17592186044416 ≤ p.lo
  hi : p.hi ≤ 17592186044416
  le : p.lo ≤ p.est ∧ p.est ≤ p.hi
  way : ∀ l, l ∈ p.m → WayOk ss l
  few : p.m.length ≤ 16
def moveV (ss : List Sg) (from_ : Int) (p : PlT) (a b : Int) : PlT × Int :=
  if p.lo + a < -17592186044416 ∨ 17592186044416 < p.hi + b then (p, 20)
  else (⟨p.lo + a, p.hi + b, max (p.lo + a) (min (p.est + (a + b) / 2) (p.hi + b)), (growA ss (p.lo + a) (p.hi + b) from_ p.m).1.2⟩, (growA ss (p.lo + a) (p.hi + b) from_ p.m).2)
theorem moveV_ok {ss : List Sg} (hnx : NextOk ss) {from_ : Int} {p : PlT} (hp : PlOk ss p) {a b : Int} (hab : a ≤ b) {q : PlT} {e : Int} (hv : (q, e) = moveV ss from_ p a b) : (e = 0 ∧ PlOk ss q) ∨ e = 13 ∨ e = 20 ∨ e = 40 := by
  have h1 := hp.lo
  have h2 := hp.hi
  have h3 := hp.le
  unfold moveV at hv
  split at hv
  · simp only [Prod.mk.injEq] at hv; exact .inr (.inr (.inl hv.2))
  · rename_i hn
    simp only [Prod.mk.injEq] at hv
    have hc := growA_ok (lo := p.lo + a) (hi := p.hi + b) (from_ := from_) hnx p.m hp.way rfl
    have he : e = 0 ∨ e = 13 ∨ e = 40 := growA_e (ss := ss) (lo := p.lo + a) (hi := p.hi + b) (from_ := from_) (ls := p.m) (v1 := (growA ss (p.lo + a) (p.hi + b) from_ p.m).1.1) (v2 := (growA ss (p.lo + a) (p.hi + b) from_ p.m).1.2) (by rw [hv.2])
    rcases he with he | he | he
    · refine .inl ⟨he, ?_⟩
      rcases hc with hc | hc
      · exact absurd (hv.2.symm.trans he) hc.1
      · rw [hv.1]
        exact ⟨by simp only; omega, by simp only; omega, by simp only; omega, fun l hl => (hc.2.2.ways l hl).1, hc.2.2.few⟩
    · exact .inr (.inl he)
    · exact .inr (.inr (.inr he))
set_option maxHeartbeats 2000000 in
theorem e_move (ss : List Sg) (gs : List Gr) (es ds : List (List AV)) (hes : es = ss.map sgRow) (hds : ds = gs.map grRow) (hln : LensOk ss) (hnx : NextOk ss) (g from_ : Int) (hf : 0 ≤ from_ ∧ from_ ≤ 1099511627776) (p : PlT) (hp : PlOk ss p) (rs : List (List AV)) (hrs : rs = p.m.map rtC) (a b : Int) (hab : a ≤ b) (ha : -1099511627776 ≤ a) (hb : b ≤ 1099511627776) (q : PlT) (e : Int) (hv : (q, e) = moveV ss from_ p a b) (us : List (List AV)) (hus : us = q.m.map rtC) :
    PCalls Try.prog 33 [.agg [.bool true, .int .i64 g, .int .i64 p.lo, .int .i64 p.hi, .int .i64 p.est, .int .i64 from_, .list 13 rs], .agg [.list 3 es, .list 5 ds], .agg [.int .i64 a, .int .i64 b]] (fun r => (e = 0 ∧ r = .tuple [.agg [.bool true, .int .i64 g, .int .i64 q.lo, .int .i64 q.hi, .int .i64 q.est, .int .i64 from_, .list 13 us], .int .i64 0]) ∨ (e ≠ 0 ∧ r = .tuple [.agg [.bool false, .int .i64 0, .int .i64 0, .int .i64 0, .int .i64 0, .int .i64 0, .nils], .int .i64 e])) := by
  have hu : Up0 es := by rw [hes]; exact up_sg ss
  have hud : Up0 ds := by rw [hds]; exact up_gr gs
  have hur : Up0 rs := by rw [hrs]; exact up_map (f := rtC) (fun d => rfl) p.m
  have huu : Up0 us := by rw [hus]; exact up_map (f := rtC) (fun d => rfl) q.m
  have hlo := hp.lo
  have hhi := hp.hi
  have hle := hp.le
  have hfew := hp.few
  obtain ⟨v, ev⟩ : ∃ v, v = growA ss (p.lo + a) (p.hi + b) from_ p.m := ⟨_, rfl⟩
  have hA := e_grows ss gs es ds hes hds hln hnx (p.lo + a) (p.hi + b) from_ hf p.m hp.way (by omega) rs hrs v ev
  have hok := growA_ok hnx p.m hp.way ev
  unfold moveV at hv
  rw [← ev] at hv
  have hem := growA_e (show ((v.1.1, v.1.2), v.2) = _ from ev)
  obtain ⟨⟨v1, v2⟩, v3⟩ := v
  obtain ⟨lo, hi, est, m⟩ := p
  simp only at hlo hhi hle hA hv hrs hfew hem hok
  obtain ⟨l', el'⟩ : ∃ x, lo + a = x := ⟨_, rfl⟩
  obtain ⟨h', eh'⟩ : ∃ x, hi + b = x := ⟨_, rfl⟩
  obtain ⟨md, emd⟩ : ∃ x, (a + b) / 2 = x := ⟨_, rfl⟩
  obtain ⟨s', es'⟩ : ∃ x, est + md = x := ⟨_, rfl⟩
  obtain ⟨t', et'⟩ : ∃ x, max l' (min s' h') = x := ⟨_, rfl⟩
  obtain ⟨u', eu'⟩ : ∃ x, v2.map rtC = x := ⟨_, rfl⟩
  rw [el', eh', emd, es', et'] at hv
  rw [el', eh'] at hA
  have hA : PCalls Try.prog 19 [.agg [.int .i64 from_, .list 13 rs], .agg [.list 3 es, .list 5 ds], .agg [.int .i64 l', .int .i64 h']] (· = .tuple [.agg [.int .i64 v1, .list 13 u'], .int .i64 v3]) := by rw [← eu']; exact hA
  have hugA : uptoL 0 [AV.agg [.int .i64 from_, .list 13 rs], .agg [.list 3 es, .list 5 ds], .agg [.int .i64 l', .int .i64 h']] = true := by simp only [uptoL, AV.upto, hu.get, hud.get, hur.get]; rfl
  have s1 := e_xsadd (by omega) hab el' eh' ⟨by omega, by omega⟩ ⟨by omega, by omega⟩ ⟨by omega, by omega⟩ ⟨by omega, by omega⟩
  have s3 := e_xmid emd ⟨by omega, by omega⟩ ⟨by omega, by omega⟩
  have s4 := e_xaddSat es' ⟨by omega, by omega⟩ ⟨by omega, by omega⟩
  have s5 := e_xclamp et'
  obtain ⟨o, eo⟩ : ∃ o, decide (l' ≤ h' → -17592186044416 ≤ l' ∧ h' ≤ 17592186044416) = o := ⟨_, rfl⟩
  have s2 := e_xin o eo
  show PCalls Try.prog 33 [.agg [.bool true, .int .i64 g, .int .i64 lo, .int .i64 hi, .int .i64 est, .int .i64 from_, .list 13 rs], .agg [.list 3 es, .list 5 ds], .agg [.int .i64 a, .int .i64 b]] _
  (refine PCalls.ofY Try.func33 (by kernel_rfl) (by kernel_rfl) fun w hw R hR => ?_); (obtain ⟨wbin, wcmp, wun, wconv, wnot, wbeq, wmm, wscmp, wsadd, wslen, wsat, weqs, wlen, wnlen, wofNat, wtake, wdrop, wapp, wzero, wnat⟩ := w); (have hbin := Z.w1 hw); (have hcmp := Z.w2 hw); (have hun := Z.w3 hw); (have hconv := Z.w4 hw); (have hnot := Z.w5 hw); (have hbeq := Z.w6 hw); (have hmm := Z.w7 hw); (have hscmp := Z.w8 hw); (have hsadd := Z.w9 hw); (have hslen := Z.w10 hw); (have hsat := Z.w11 hw); (have heqs := Z.w12 hw); (have hlen := Z.w13 hw); (have hnlen := Z.w14 hw); (have hofNat := Z.w15 hw); (have htake := Z.w16 hw); (have hdrop := Z.w17 hw); (have happ := Z.w18 hw); (have hzero := Z.w19 hw); (have hnat := Z.w20 hw); (have hz := Z.z hw); (conv => arg 2; cbv); (generalize hP : Try.prog = P); cbv
  have n1 : wnot true = false := by rw [hnot]; rfl
  have n2 : wnot false = true := by rw [hnot]; rfl
  simp only [n1]
  cbv
  refine Call.stepE (by rw [← hP]; exact s1) rfl ?_
  cbv
  simp only [n1]
  cbv
  refine Call.stepE (by rw [← hP]; exact s2) rfl ?_
  have hRR : ∀ r, ((e = 0 ∧ r = .tuple [.agg [.bool true, .int .i64 g, .int .i64 q.lo, .int .i64 q.hi, .int .i64 q.est, .int .i64 from_, .list 13 us], .int .i64 0]) ∨ (e ≠ 0 ∧ r = .tuple [.agg [.bool false, .int .i64 0, .int .i64 0, .int .i64 0, .int .i64 0, .int .i64 0, .nils], .int .i64 e])) → R r := hR
  have hZ2 : ∀ (x : Int) (h : AHeap), e ≠ 0 → x = e → Ret [.agg [.bool false, .int .i64 0, .int .i64 0, .int .i64 0, .int .i64 0, .int .i64 0, .nils], .int .i64 x] h R := fun x h h0 hx => ⟨_, Vw.same rfl, hR _ (.inr ⟨h0, by rw [← hx]; rfl⟩)⟩
  have hY : ∀ h : AHeap, e = 0 → q = ⟨l', h', t', v2⟩ → Ret [.agg [.bool true, .int .i64 g, .int .i64 l', .int .i64 h', .int .i64 t', .int .i64 from_, .list 13 u'], .int .i64 0] h R := fun h h0 hq => by
    have huu' : Up0 u' := by rw [← eu']; exact up_map (f := rtC) (fun d => rfl) v2
    refine ⟨_, Vw.same (by simp only [retOne, AV.upto, uptoL, huu'.get]; rfl), hR _ (.inl ⟨h0, ?_⟩)⟩
    rw [hq] at hus ⊢
    rw [hus, ← eu']; rfl
  by_cases hov : l' < -17592186044416 ∨ 17592186044416 < h'
  · rw [if_pos hov] at hv
    simp only [Prod.mk.injEq] at hv
    have ho : o = false := by rw [← eo]; simp; omega
    rw [ho]
    cbv
    simp only [n2]
    cbv
    exact hZ2 20 _ (by omega) hv.2.symm
  · rw [if_neg hov] at hv
    simp only [Prod.mk.injEq] at hv
    have ho : o = true := by rw [← eo]; simp; omega
    rw [ho]
    cbv
    simp only [n1]
    cbv
    refine Call.stepE (by rw [← hP]; exact hA) (by exact hugA) ?_
    cbv
    (split <;> rename_i h5 <;> (try (simp only [hz, Z.a, binStd, cmpStd, unStd, scmpStd, maxI, reduceCtorEq] at h5)) <;> (try cbv))
    · exact hZ2 v3 _ (by omega) hv.2.symm
    have hv1 : v1 = from_ := by
      rcases hok with h | h
      · exact absurd h5 h.1
      · exact h.2.1
    subst hv1
    repeat' (first
      | (refine Call.stepE (by rw [← hP]; exact s3) rfl ?_; cbv)
      | (refine QCal.stepE (by rw [← hP]; exact s3) rfl ?_; cbv)
      | (refine Call.stepE (by rw [← hP]; exact s4) rfl ?_; cbv)
      | (refine QCal.stepE (by rw [← hP]; exact s4) rfl ?_; cbv)
      | (refine Call.stepE (by rw [← hP]; exact s5) rfl ?_; cbv)
      | (refine QCal.stepE (by rw [← hP]; exact s5) rfl ?_; cbv)
      | (refine And.intro ?_ ?_))
    all_goals exact hY _ (by omega) hv.1
end Go.Proofs.Ytpiocfmdjgbamaa

/- A track as the document has it, by the engine. Printed by wip/tools/genrefs.py. -/
namespace Go.Proofs.Ytpiocfmdjgbamaa
open Go Go.RowKit Go.Eng
set_option maxRecDepth 100000
set_option maxHeartbeats 4000000 in
theorem e_refsT21 (ss : List Sg) (gs : List Gr) (es ds : List (List AV)) (hes : es = ss.map sgRow) (hds : ds = gs.map grRow) (hm1 : ss.length ≤ 1000) (hm2 : gs.length ≤ 1000) (hm3 : ∀ s, s ∈ ss → s.ps.length ≤ 1000) : PCalls Try.prog 31 [.agg [.list 3 es, .list 5 ds]] (· = .agg [.list 3 es, .list 5 ds]) := by
  have hu : Up0 es := by rw [hes]; exact up_sg ss
  have hud : Up0 ds := by rw [hds]; exact up_gr gs
  have hel : es.length = ss.length := by rw [hes]; simp
  have hdl : ds.length = gs.length := by rw [hds]; simp
  (refine PCalls.ofY Try.func31 (by kernel_rfl) (by kernel_rfl) fun w hw R hR => ?_); (obtain ⟨wbin, wcmp, wun, wconv, wnot, wbeq, wmm, wscmp, wsadd, wslen, wsat, weqs, wlen, wnlen, wofNat, wtake, wdrop, wapp, wzero, wnat⟩ := w); (have hbin := Z.w1 hw); (have hcmp := Z.w2 hw); (have hun := Z.w3 hw); (have hconv := Z.w4 hw); (have hnot := Z.w5 hw); (have hbeq := Z.w6 hw); (have hmm := Z.w7 hw); (have hscmp := Z.w8 hw); (have hsadd := Z.w9 hw); (have hslen := Z.w10 hw); (have hsat := Z.w11 hw); (have heqs := Z.w12 hw); (have hlen := Z.w13 hw); (have hnlen := Z.w14 hw); (have hofNat := Z.w15 hw); (have htake := Z.w16 hw); (have hdrop := Z.w17 hw); (have happ := Z.w18 hw); (have hzero := Z.w19 hw); (have hnat := Z.w20 hw); (have hz := Z.z hw); (conv => arg 2; cbv); (generalize hP : Try.prog = P); cbv
  (obtain ⟨L, eL, L0, Ln⟩ : ∃ L : Int, wlen es = L ∧ 0 ≤ L ∧ L.toNat = es.length := ⟨(es.length : Int), by rw [hlen], Int.natCast_nonneg _, Int.toNat_natCast _⟩)
  refine Loop.data hw (S := Bd) (fun s => match s with | .start => fr 63 [(1, .ref 0 2 0 0), (2, .ref 1 2 0 0), (3, .ref 2 2 0 0), (12, .list 3 es), (13, .int .i64 L), (14, .int .i64 0)] | .more i n fs => fr 63 [(1, .ref 0 2 0 0), (2, .ref 1 2 0 0), (3, .ref 2 2 0 0), (12, .list 3 es), (13, .int .i64 L), (14, .int .i64 i)])
    (fun s => match s with | .start => [.live 2 [[.list 3 es, .list 5 ds]], .live 2 [[.nils, .nils]], .live 2 [[.nils, .nils]]] | .more i n fs => [.live 2 [[.list 3 es, .list 5 ds]], .live 2 [[.nils, .nils]], .live 2 [[.sl 3 3 0 n, .nils]], .live 3 fs]) (Bd.Ok es) (Bd.left es) .start (by (refine Wk.eqz (id) (by first | exact fun i _ j _ e => e | (simp only [List.length_cons, List.length_nil]; decide)) ?_; cbv; (repeat' (first | exact trivial | rfl | assumption | apply And.intro | (simp only [hz, Z.a, binStd, cmpStd, unStd, scmpStd, maxI, reduceCtorEq]; first | done | assumption) | exact RowsZ.same (by assumption) (by first | assumption | rfl) | exact FzL.mk rfl rfl rfl (by assumption) (by first | assumption | rfl) (by decide) | (refine RowsZ.one ?_; cbv))))) trivial ?_
  rintro (_ | ⟨i, n, fs⟩) hinv Q' hN hE hR'
  · cbv
    (split <;> rename_i hc <;> (try (simp only [hz, Z.a, binStd, cmpStd, unStd, scmpStd, maxI, reduceCtorEq] at hc)) <;> (try cbv))
    · obtain ⟨⟨len, ps, nx⟩, hd, hrow⟩ := get_map (f := sgRow) (ds := ss) (i := 0) (Int.le_refl 0) (by omega)
      obtain ⟨q1, eq1⟩ : ∃ x, ps.map pcRow = x := ⟨_, rfl⟩
      obtain ⟨n1, en1⟩ : ∃ x, nx.map nxRow = x := ⟨_, rfl⟩
      have hrow : es[(0 : Int).toNat]? = some [.int .i64 len, .list 2 q1, .list 1 n1] := by rw [hes, ← eq1, ← en1]; exact hrow
      have hql : q1.length = ps.length := by rw [← eq1]; simp
      have hpl : ps.length ≤ 1000 := hm3 ⟨len, ps, nx⟩ (List.mem_of_getElem? hd)
      have huq : Up0 q1 := by rw [← eq1]; exact up_pc ps
      have hun : Up0 n1 := by rw [← en1]; exact up_nx nx
      refine Idx.mk [.int .i64 len, .list 2 q1, .list 1 n1] (by decide) hrow ?_
      cbv
      have ei : wbin .add .i64 0 1 = 1 := by rw [hbin]; rfl
      have hT1 : Bd.left es (.more 1 1 [[.int .i64 len, .list 2 q1, .list 1 n1]]) < Bd.left es .start := by simp only [Bd.left]; omega
      have hI1 : Bd.Ok es (.more 1 1 [[.int .i64 len, .list 2 q1, .list 1 n1]]) := ⟨by decide, by omega, (take_row (Int.le_refl 0) hrow).symm, rfl, up_seg huq hun⟩
      (obtain ⟨K, eK, K0, Kn⟩ : ∃ L : Int, wlen q1 = L ∧ 0 ≤ L ∧ L.toNat = q1.length := ⟨(q1.length : Int), by rw [hlen], Int.natCast_nonneg _, Int.toNat_natCast _⟩)
      refine Loop.data hw (S := Bd) (fun s => match s with | .start => fr 63 [(1, .ref 0 2 0 0), (2, .ref 1 2 0 0), (3, .ref 2 2 0 0), (12, .list 3 es), (13, .int .i64 L), (14, .int .i64 0), (5, .ref 3 3 0 0), (6, .ref 4 3 0 0), (24, .list 2 q1), (25, .int .i64 K), (26, .int .i64 0)] | .more k m fp => fr 63 [(1, .ref 0 2 0 0), (2, .ref 1 2 0 0), (3, .ref 2 2 0 0), (12, .list 3 es), (13, .int .i64 L), (14, .int .i64 0), (5, .ref 3 3 0 0), (6, .ref 4 3 0 0), (24, .list 2 q1), (25, .int .i64 K), (26, .int .i64 k)])
        (fun s => match s with | .start => [.live 2 [[.list 3 es, .list 5 ds]], .live 2 [[.nils, .nils]], .live 2 [[.nils, .nils]], .live 3 [[.int .i64 len, .list 2 q1, .list 1 n1]], .live 3 [[.int .i64 len, .nils, .list 1 n1]]] | .more k m fp => [.live 2 [[.list 3 es, .list 5 ds]], .live 2 [[.nils, .nils]], .live 2 [[.nils, .nils]], .live 3 [[.int .i64 len, .list 2 q1, .list 1 n1]], .live 3 [[.int .i64 len, .sl 5 2 0 m, .list 1 n1]], .live 2 fp]) (Bd.Ok q1) (Bd.left q1) .start (by (refine Wk.eqz (id) (by first | exact fun i _ j _ e => e | (simp only [List.length_cons, List.length_nil]; decide)) ?_; cbv; (repeat' (first | exact trivial | rfl | assumption | apply And.intro | (simp only [hz, Z.a, binStd, cmpStd, unStd, scmpStd, maxI, reduceCtorEq]; first | done | assumption) | exact RowsZ.same (by assumption) (by first | assumption | rfl) | exact FzL.mk rfl rfl rfl (by assumption) (by first | assumption | rfl) (by decide) | (refine RowsZ.one ?_; cbv))))) trivial ?_
      rintro (_ | ⟨k, m, fp⟩) hinv2 Q2 hN2 hE2 hR2
      · cbv
        (split <;> rename_i hc2 <;> (try (simp only [hz, Z.a, binStd, cmpStd, unStd, scmpStd, maxI, reduceCtorEq] at hc2)) <;> (try cbv))
        · obtain ⟨⟨a, b⟩, hd2, hrow2⟩ := get_map (f := pcRow) (ds := ps) (i := 0) (Int.le_refl 0) (by omega)
          have hrow2 : q1[(0 : Int).toNat]? = some [.int .i64 a, .int .i64 b] := by rw [← eq1]; exact hrow2
          refine Idx.mk [.int .i64 a, .int .i64 b] (by decide) hrow2 ?_
          cbv
          refine Ob.mk (by decide) ?_
          cbv
          have hU2 : Up0 [[AV.int .i64 a, .int .i64 b]] := ⟨rfl⟩
          have ei2 : wbin .add .i64 0 1 = 1 := by rw [hbin]; rfl
          refine hN2 (Bd.more 1 1 [[.int .i64 a, .int .i64 b]]) _ _ ?hx ?hi ?ht
          case hx => (refine Wk.eqz (fun j => [0, 1, 2, 3, 4, 6].getD j 0) (by first | exact fun i _ j _ e => e | (simp only [List.length_cons, List.length_nil]; decide)) ?_; cbv; (repeat' (first | exact trivial | rfl | assumption | apply And.intro | (simp only [hz, Z.a, binStd, cmpStd, unStd, scmpStd, maxI, reduceCtorEq]; first | done | assumption) | exact RowsZ.same (by assumption) (by first | assumption | rfl) | exact FzL.mk rfl rfl rfl (by assumption) (by first | assumption | rfl) (by decide) | (refine RowsZ.one ?_; cbv))))
          case hi => exact ⟨by decide, by omega, (take_row (Int.le_refl 0) hrow2).symm, rfl, hU2⟩
          case ht => simp only [Bd.left]; omega
        · refine hE2 _ _ _ ?_
          cbv
          have hq0 : q1 = [] := List.length_eq_zero_iff.1 (by omega)
          refine Ob.mk (by decide) ?_
          cbv
          refine hN (Bd.more 1 1 [[.int .i64 len, .list 2 q1, .list 1 n1]]) _ _ ?hx ?hi ?ht
          case hx => (refine Wk.eqz (fun j => [0, 1, 2, 5].getD j 0) (by first | exact fun i _ j _ e => e | (simp only [List.length_cons, List.length_nil]; decide)) ?_; cbv; (repeat' (first | exact trivial | rfl | assumption | exact Eq.symm (by assumption) | apply And.intro | (simp only [hz, Z.a, binStd, cmpStd, unStd, scmpStd, maxI, reduceCtorEq]; first | done | assumption) | exact RowsZ.same (by assumption) (by first | assumption | rfl) | exact FzL.mk rfl rfl rfl (by assumption) (by first | assumption | rfl) (by decide) | (refine RowsZ.one ?_; cbv))))
          case hi => exact hI1
          case ht => exact hT1
      · cbv
        obtain ⟨hk0, hk1, hfp, hmf, hup⟩ : 0 < k ∧ k.toNat ≤ q1.length ∧ fp = q1.take k.toNat ∧ m = fp.length ∧ Up0 fp := hinv2
        (split <;> rename_i hc2 <;> (try (simp only [hz, Z.a, binStd, cmpStd, unStd, scmpStd, maxI, reduceCtorEq] at hc2)) <;> (try cbv))
        · obtain ⟨⟨a, b⟩, hd2, hrow2⟩ := get_map (f := pcRow) (ds := ps) (i := k) (by omega) (by omega)
          have hrow2 : q1[k.toNat]? = some [.int .i64 a, .int .i64 b] := by rw [← eq1]; exact hrow2
          refine Idx.mk [.int .i64 a, .int .i64 b] (by omega) hrow2 ?_
          cbv
          obtain ⟨k', ek'⟩ : ∃ x, k + 1 = x := ⟨_, rfl⟩
          have ek : wbin .add .i64 k 1 = k' := by rw [hbin, i_add (by omega) (by omega)]; exact ek'
          obtain ⟨fp', efp⟩ : ∃ x, fp ++ [[AV.int .i64 a, .int .i64 b]] = x := ⟨_, rfl⟩
          have hfl2 : fp'.length = m + 1 := by rw [← efp, hmf]; simp
          have hft2 : fp' = q1.take k'.toNat := by rw [← efp, ← ek', take_row (by omega) hrow2, hfp]
          have hup' : Up0 fp' := by rw [hft2]; exact up_take huq _
          obtain ⟨m', em'⟩ : ∃ x, m + 1 = x := ⟨_, rfl⟩
          have hml : m = k.toNat := by rw [hmf, hfp, List.length_take]; omega
          refine App.mk fp' m' efp.symm hmf em'.symm (by omega) (by omega) ?_
          cbv
          refine hN2 (Bd.more k' m' fp') _ _ ?hx ?hi ?ht
          case hx => (refine Wk.eqz (fun j => [0, 1, 2, 3, 4, 7].getD j 0) (by first | exact fun i _ j _ e => e | (simp only [List.length_cons, List.length_nil]; decide)) ?_; cbv; (repeat' (first | exact trivial | rfl | assumption | apply And.intro | (simp only [hz, Z.a, binStd, cmpStd, unStd, scmpStd, maxI, reduceCtorEq]; first | done | assumption) | exact RowsZ.same (by assumption) (by first | assumption | rfl) | exact FzL.mk rfl rfl rfl (by assumption) (by first | assumption | rfl) (by decide) | (refine RowsZ.one ?_; cbv))))
          case hi => exact ⟨by omega, by omega, hft2, by omega, hup'⟩
          case ht => simp only [Bd.left]; omega
        · refine hE2 _ _ _ ?_
          cbv
          have hq : fp = q1 := by rw [hfp, List.take_of_length_le (by omega)]
          have hmq : m = q1.length := by rw [hmf, hq]
          clear hfp
          subst fp
          refine Ob.mk (by decide) ?_
          cbv
          refine hN (Bd.more 1 1 [[.int .i64 len, .list 2 q1, .list 1 n1]]) _ _ ?hx ?hi ?ht
          case hx => (refine Wk.eqz (fun j => [0, 1, 2, 6].getD j 0) (by first | exact fun i _ j _ e => e | (simp only [List.length_cons, List.length_nil]; decide)) ?_; cbv; (repeat' (first | exact trivial | rfl | assumption | exact Eq.symm (by assumption) | apply And.intro | (simp only [hz, Z.a, binStd, cmpStd, unStd, scmpStd, maxI, reduceCtorEq]; first | done | assumption) | exact RowsZ.same (by assumption) (by first | assumption | rfl) | exact FzL.mk rfl rfl rfl (by assumption) (by first | assumption | rfl) (by decide) | (refine RowsZ.one ?_; cbv))))
          case hi => exact hI1
          case ht => exact hT1
    · refine hE _ _ _ ?_
      cbv
      have he0 : es = [] := List.length_eq_zero_iff.1 (by omega)
      (obtain ⟨J, eJ, J0, Jn⟩ : ∃ L : Int, wlen ds = L ∧ 0 ≤ L ∧ L.toNat = ds.length := ⟨(ds.length : Int), by rw [hlen], Int.natCast_nonneg _, Int.toNat_natCast _⟩)
      refine Loop.data hw (S := Bd) (fun s => match s with | .start => fr 63 [(2, .ref 1 2 0 0), (3, .ref 2 2 0 0), (49, .list 5 ds), (50, .int .i64 J), (51, .int .i64 0)] | .more k m fp => fr 63 [(2, .ref 1 2 0 0), (3, .ref 2 2 0 0), (49, .list 5 ds), (50, .int .i64 J), (51, .int .i64 k)])
        (fun s => match s with | .start => [.live 2 [[.list 3 es, .list 5 ds]], .live 2 [[.nils, .nils]], .live 2 [[.list 3 es, .nils]]] | .more k m fp => [.live 2 [[.list 3 es, .list 5 ds]], .live 2 [[.nils, .nils]], .live 2 [[.list 3 es, .sl 3 5 0 m]], .live 5 fp]) (Bd.Ok ds) (Bd.left ds) .start (by (refine Wk.eqz (id) (by first | exact fun i _ j _ e => e | (simp only [List.length_cons, List.length_nil]; decide)) ?_; cbv; (repeat' (first | exact trivial | rfl | assumption | apply And.intro | (simp only [hz, Z.a, binStd, cmpStd, unStd, scmpStd, maxI, reduceCtorEq]; first | done | assumption) | exact RowsZ.same (by assumption) (by first | assumption | rfl) | exact FzL.mk rfl rfl rfl (by assumption) (by first | assumption | rfl) (by decide) | (refine RowsZ.one ?_; cbv))))) trivial ?_
      rintro (_ | ⟨k, m, fp⟩) hinv2 Q2 hN2 hE2 hR2
      · cbv
        (split <;> rename_i hc2 <;> (try (simp only [hz, Z.a, binStd, cmpStd, unStd, scmpStd, maxI, reduceCtorEq] at hc2)) <;> (try cbv))
        · obtain ⟨⟨a1, a2, a3, a4, a5⟩, hd2, hrow2⟩ := get_map (f := grRow) (ds := gs) (i := 0) (Int.le_refl 0) (by omega)
          have hrow2 : ds[(0 : Int).toNat]? = some [.int .i64 a1, .int .i64 a2, .int .i64 a3, .int .i64 a4, .int .i64 a5] := by rw [hds]; exact hrow2
          refine Idx.mk [.int .i64 a1, .int .i64 a2, .int .i64 a3, .int .i64 a4, .int .i64 a5] (by decide) hrow2 ?_
          cbv
          refine Ob.mk (by decide) ?_
          cbv
          have hU2 : Up0 [[AV.int .i64 a1, .int .i64 a2, .int .i64 a3, .int .i64 a4, .int .i64 a5]] := ⟨rfl⟩
          have ei2 : wbin .add .i64 0 1 = 1 := by rw [hbin]; rfl
          refine hN2 (Bd.more 1 1 [[.int .i64 a1, .int .i64 a2, .int .i64 a3, .int .i64 a4, .int .i64 a5]]) _ _ ?hx ?hi ?ht
          case hx => (refine Wk.eqz (fun j => [0, 1, 2, 4].getD j 0) (by first | exact fun i _ j _ e => e | (simp only [List.length_cons, List.length_nil]; decide)) ?_; cbv; (repeat' (first | exact trivial | rfl | assumption | apply And.intro | (simp only [hz, Z.a, binStd, cmpStd, unStd, scmpStd, maxI, reduceCtorEq]; first | done | assumption) | exact RowsZ.same (by assumption) (by first | assumption | rfl) | exact FzL.mk rfl rfl rfl (by assumption) (by first | assumption | rfl) (by decide) | (refine RowsZ.one ?_; cbv))))
          case hi => exact ⟨by decide, by omega, (take_row (Int.le_refl 0) hrow2).symm, rfl, hU2⟩
          case ht => simp only [Bd.left]; omega
        · refine hE2 _ _ _ ?_
          cbv
          have hd0 : ds = [] := List.length_eq_zero_iff.1 (by omega)
          exact ⟨_, Vw.agg (rs := [.list 3 es, .list 5 []]) ⟨Vw.same hu.list, Vw.nil 5, trivial⟩, hR _ (by rw [hd0])⟩
      · cbv
        obtain ⟨hk0, hk1, hfp, hmf, hup⟩ : 0 < k ∧ k.toNat ≤ ds.length ∧ fp = ds.take k.toNat ∧ m = fp.length ∧ Up0 fp := hinv2
        (split <;> rename_i hc2 <;> (try (simp only [hz, Z.a, binStd, cmpStd, unStd, scmpStd, maxI, reduceCtorEq] at hc2)) <;> (try cbv))
        · obtain ⟨⟨a1, a2, a3, a4, a5⟩, hd2, hrow2⟩ := get_map (f := grRow) (ds := gs) (i := k) (by omega) (by omega)
          have hrow2 : ds[k.toNat]? = some [.int .i64 a1, .int .i64 a2, .int .i64 a3, .int .i64 a4, .int .i64 a5] := by rw [hds]; exact hrow2
          refine Idx.mk [.int .i64 a1, .int .i64 a2, .int .i64 a3, .int .i64 a4, .int .i64 a5] (by omega) hrow2 ?_
          cbv
          obtain ⟨k', ek'⟩ : ∃ x, k + 1 = x := ⟨_, rfl⟩
          have ek : wbin .add .i64 k 1 = k' := by rw [hbin, i_add (by omega) (by omega)]; exact ek'
          obtain ⟨fp', efp⟩ : ∃ x, fp ++ [[AV.int .i64 a1, .int .i64 a2, .int .i64 a3, .int .i64 a4, .int .i64 a5]] = x := ⟨_, rfl⟩
          have hfl2 : fp'.length = m + 1 := by rw [← efp, hmf]; simp
          have hft2 : fp' = ds.take k'.toNat := by rw [← efp, ← ek', take_row (by omega) hrow2, hfp]
          have hup' : Up0 fp' := by rw [hft2]; exact up_take hud _
          obtain ⟨m', em'⟩ : ∃ x, m + 1 = x := ⟨_, rfl⟩
          have hml : m = k.toNat := by rw [hmf, hfp, List.length_take]; omega
          refine App.mk fp' m' efp.symm hmf em'.symm (by omega) (by omega) ?_
          cbv
          refine hN2 (Bd.more k' m' fp') _ _ ?hx ?hi ?ht
          case hx => (refine Wk.eqz (fun j => [0, 1, 2, 5].getD j 0) (by first | exact fun i _ j _ e => e | (simp only [List.length_cons, List.length_nil]; decide)) ?_; cbv; (repeat' (first | exact trivial | rfl | assumption | apply And.intro | (simp only [hz, Z.a, binStd, cmpStd, unStd, scmpStd, maxI, reduceCtorEq]; first | done | assumption) | exact RowsZ.same (by assumption) (by first | assumption | rfl) | exact FzL.mk rfl rfl rfl (by assumption) (by first | assumption | rfl) (by decide) | (refine RowsZ.one ?_; cbv))))
          case hi => exact ⟨by omega, by omega, hft2, by omega, hup'⟩
          case ht => simp only [Bd.left]; omega
        · refine hE2 _ _ _ ?_
          cbv
          have hq : fp = ds := by rw [hfp, List.take_of_length_le (by omega)]
          refine ⟨_, Vw.agg (rs := [.list 3 es, .list 5 _]) ⟨Vw.same hu.list, Vw.sl rfl hup.get (by omega), trivial⟩, hR _ ?_⟩
          rw [List.drop_zero, List.take_of_length_le (by omega), hq]
  · cbv
    obtain ⟨hi0, hi1, hfs, hnf, huf⟩ : 0 < i ∧ i.toNat ≤ es.length ∧ fs = es.take i.toNat ∧ n = fs.length ∧ Up0 fs := hinv
    (split <;> rename_i hc <;> (try (simp only [hz, Z.a, binStd, cmpStd, unStd, scmpStd, maxI, reduceCtorEq] at hc)) <;> (try cbv))
    · obtain ⟨⟨len, ps, nx⟩, hd, hrow⟩ := get_map (f := sgRow) (ds := ss) (i := i) (by omega) (by omega)
      obtain ⟨q1, eq1⟩ : ∃ x, ps.map pcRow = x := ⟨_, rfl⟩
      obtain ⟨n1, en1⟩ : ∃ x, nx.map nxRow = x := ⟨_, rfl⟩
      have hrow : es[i.toNat]? = some [.int .i64 len, .list 2 q1, .list 1 n1] := by rw [hes, ← eq1, ← en1]; exact hrow
      have hql : q1.length = ps.length := by rw [← eq1]; simp
      have hpl : ps.length ≤ 1000 := hm3 ⟨len, ps, nx⟩ (List.mem_of_getElem? hd)
      have huq : Up0 q1 := by rw [← eq1]; exact up_pc ps
      have hun : Up0 n1 := by rw [← en1]; exact up_nx nx
      refine Idx.mk [.int .i64 len, .list 2 q1, .list 1 n1] (by omega) hrow ?_
      cbv
      obtain ⟨i', ei'⟩ : ∃ x, i + 1 = x := ⟨_, rfl⟩
      have ei : wbin .add .i64 i 1 = i' := by rw [hbin, i_add (by omega) (by omega)]; exact ei'
      obtain ⟨fw, efw⟩ : ∃ x, fs ++ [[AV.int .i64 len, .list 2 q1, .list 1 n1]] = x := ⟨_, rfl⟩
      have hfl : fw.length = n + 1 := by rw [← efw, hnf]; simp
      have hft : fw = es.take i'.toNat := by rw [← efw, ← ei', take_row (by omega) hrow, hfs]
      have hufw : Up0 fw := by rw [hft]; exact up_take hu _
      obtain ⟨n', en'⟩ : ∃ x, n + 1 = x := ⟨_, rfl⟩
      have hnl : n = i.toNat := by rw [hnf, hfs, List.length_take]; omega
      have hT1 : Bd.left es (.more i' n' fw) < Bd.left es (.more i n fs) := by simp only [Bd.left]; omega
      have hI1 : Bd.Ok es (.more i' n' fw) := ⟨by omega, by omega, hft, by omega, hufw⟩
      (obtain ⟨K, eK, K0, Kn⟩ : ∃ L : Int, wlen q1 = L ∧ 0 ≤ L ∧ L.toNat = q1.length := ⟨(q1.length : Int), by rw [hlen], Int.natCast_nonneg _, Int.toNat_natCast _⟩)
      refine Loop.data hw (S := Bd) (fun s => match s with | .start => fr 63 [(1, .ref 0 2 0 0), (2, .ref 1 2 0 0), (3, .ref 2 2 0 0), (12, .list 3 es), (13, .int .i64 L), (14, .int .i64 i), (5, .ref 4 3 0 0), (6, .ref 5 3 0 0), (24, .list 2 q1), (25, .int .i64 K), (26, .int .i64 0)] | .more k m fp => fr 63 [(1, .ref 0 2 0 0), (2, .ref 1 2 0 0), (3, .ref 2 2 0 0), (12, .list 3 es), (13, .int .i64 L), (14, .int .i64 i), (5, .ref 4 3 0 0), (6, .ref 5 3 0 0), (24, .list 2 q1), (25, .int .i64 K), (26, .int .i64 k)])
        (fun s => match s with | .start => [.live 2 [[.list 3 es, .list 5 ds]], .live 2 [[.nils, .nils]], .live 2 [[.sl 3 3 0 n, .nils]], .live 3 fs, .live 3 [[.int .i64 len, .list 2 q1, .list 1 n1]], .live 3 [[.int .i64 len, .nils, .list 1 n1]]] | .more k m fp => [.live 2 [[.list 3 es, .list 5 ds]], .live 2 [[.nils, .nils]], .live 2 [[.sl 3 3 0 n, .nils]], .live 3 fs, .live 3 [[.int .i64 len, .list 2 q1, .list 1 n1]], .live 3 [[.int .i64 len, .sl 6 2 0 m, .list 1 n1]], .live 2 fp]) (Bd.Ok q1) (Bd.left q1) .start (by (refine Wk.eqz (id) (by first | exact fun i _ j _ e => e | (simp only [List.length_cons, List.length_nil]; decide)) ?_; cbv; (repeat' (first | exact trivial | rfl | assumption | apply And.intro | (simp only [hz, Z.a, binStd, cmpStd, unStd, scmpStd, maxI, reduceCtorEq]; first | done | assumption) | exact RowsZ.same (by assumption) (by first | assumption | rfl) | exact FzL.mk rfl rfl rfl (by assumption) (by first | assumption | rfl) (by decide) | (refine RowsZ.one ?_; cbv))))) trivial ?_
      rintro (_ | ⟨k, m, fp⟩) hinv2 Q2 hN2 hE2 hR2
      · cbv
        (split <;> rename_i hc2 <;> (try (simp only [hz, Z.a, binStd, cmpStd, unStd, scmpStd, maxI, reduceCtorEq] at hc2)) <;> (try cbv))
        · obtain ⟨⟨a, b⟩, hd2, hrow2⟩ := get_map (f := pcRow) (ds := ps) (i := 0) (Int.le_refl 0) (by omega)
          have hrow2 : q1[(0 : Int).toNat]? = some [.int .i64 a, .int .i64 b] := by rw [← eq1]; exact hrow2
          refine Idx.mk [.int .i64 a, .int .i64 b] (by decide) hrow2 ?_
          cbv
          refine Ob.mk (by decide) ?_
          cbv
          have hU2 : Up0 [[AV.int .i64 a, .int .i64 b]] := ⟨rfl⟩
          have ei2 : wbin .add .i64 0 1 = 1 := by rw [hbin]; rfl
          refine hN2 (Bd.more 1 1 [[.int .i64 a, .int .i64 b]]) _ _ ?hx ?hi ?ht
          case hx => (refine Wk.eqz (fun j => [0, 1, 2, 3, 4, 5, 7].getD j 0) (by first | exact fun i _ j _ e => e | (simp only [List.length_cons, List.length_nil]; decide)) ?_; cbv; (repeat' (first | exact trivial | rfl | assumption | apply And.intro | (simp only [hz, Z.a, binStd, cmpStd, unStd, scmpStd, maxI, reduceCtorEq]; first | done | assumption) | exact RowsZ.same (by assumption) (by first | assumption | rfl) | exact FzL.mk rfl rfl rfl (by assumption) (by first | assumption | rfl) (by decide) | (refine RowsZ.one ?_; cbv))))
          case hi => exact ⟨by decide, by omega, (take_row (Int.le_refl 0) hrow2).symm, rfl, hU2⟩
          case ht => simp only [Bd.left]; omega
        · refine hE2 _ _ _ ?_
          cbv
          have hq0 : q1 = [] := List.length_eq_zero_iff.1 (by omega)
          obtain ⟨fx, efx⟩ : ∃ x, fs ++ [[AV.int .i64 len, .nils, .list 1 n1]] = x := ⟨_, rfl⟩
          refine App.mk fx n' efx.symm hnf en'.symm (by omega) (by omega) ?_
          cbv
          refine hN (Bd.more i' n' fw) _ _ ?hx ?hi ?ht
          case hx => (refine Wk.eqz (fun j => [0, 1, 2, 6].getD j 0) (by first | exact fun i _ j _ e => e | (simp only [List.length_cons, List.length_nil]; decide)) ?_; cbv; (repeat' (first | exact trivial | rfl | assumption | (refine RowsZ.app huf efx.symm efw.symm ?_; cbv) | apply And.intro | (simp only [hz, Z.a, binStd, cmpStd, unStd, scmpStd, maxI, reduceCtorEq]; first | done | assumption) | exact RowsZ.same (by assumption) (by first | assumption | rfl) | exact FzL.mk rfl rfl rfl (by assumption) (by first | assumption | rfl) (by decide) | (refine RowsZ.one ?_; cbv))))
          case hi => exact hI1
          case ht => exact hT1
      · cbv
        obtain ⟨hk0, hk1, hfp, hmf, hup⟩ : 0 < k ∧ k.toNat ≤ q1.length ∧ fp = q1.take k.toNat ∧ m = fp.length ∧ Up0 fp := hinv2
        (split <;> rename_i hc2 <;> (try (simp only [hz, Z.a, binStd, cmpStd, unStd, scmpStd, maxI, reduceCtorEq] at hc2)) <;> (try cbv))
        · obtain ⟨⟨a, b⟩, hd2, hrow2⟩ := get_map (f := pcRow) (ds := ps) (i := k) (by omega) (by omega)
          have hrow2 : q1[k.toNat]? = some [.int .i64 a, .int .i64 b] := by rw [← eq1]; exact hrow2
          refine Idx.mk [.int .i64 a, .int .i64 b] (by omega) hrow2 ?_
          cbv
          obtain ⟨k', ek'⟩ : ∃ x, k + 1 = x := ⟨_, rfl⟩
          have ek : wbin .add .i64 k 1 = k' := by rw [hbin, i_add (by omega) (by omega)]; exact ek'
          obtain ⟨fp', efp⟩ : ∃ x, fp ++ [[AV.int .i64 a, .int .i64 b]] = x := ⟨_, rfl⟩
          have hfl2 : fp'.length = m + 1 := by rw [← efp, hmf]; simp
          have hft2 : fp' = q1.take k'.toNat := by rw [← efp, ← ek', take_row (by omega) hrow2, hfp]
          have hup' : Up0 fp' := by rw [hft2]; exact up_take huq _
          obtain ⟨m', em'⟩ : ∃ x, m + 1 = x := ⟨_, rfl⟩
          have hml : m = k.toNat := by rw [hmf, hfp, List.length_take]; omega
          refine App.mk fp' m' efp.symm hmf em'.symm (by omega) (by omega) ?_
          cbv
          refine hN2 (Bd.more k' m' fp') _ _ ?hx ?hi ?ht
          case hx => (refine Wk.eqz (fun j => [0, 1, 2, 3, 4, 5, 8].getD j 0) (by first | exact fun i _ j _ e => e | (simp only [List.length_cons, List.length_nil]; decide)) ?_; cbv; (repeat' (first | exact trivial | rfl | assumption | apply And.intro | (simp only [hz, Z.a, binStd, cmpStd, unStd, scmpStd, maxI, reduceCtorEq]; first | done | assumption) | exact RowsZ.same (by assumption) (by first | assumption | rfl) | exact FzL.mk rfl rfl rfl (by assumption) (by first | assumption | rfl) (by decide) | (refine RowsZ.one ?_; cbv))))
          case hi => exact ⟨by omega, by omega, hft2, by omega, hup'⟩
          case ht => simp only [Bd.left]; omega
        · refine hE2 _ _ _ ?_
          cbv
          have hq : fp = q1 := by rw [hfp, List.take_of_length_le (by omega)]
          have hmq : m = q1.length := by rw [hmf, hq]
          clear hfp
          subst fp
          obtain ⟨fx, efx⟩ : ∃ x, fs ++ [[AV.int .i64 len, .sl 6 2 0 m, .list 1 n1]] = x := ⟨_, rfl⟩
          refine App.mk fx n' efx.symm hnf en'.symm (by omega) (by omega) ?_
          cbv
          refine hN (Bd.more i' n' fw) _ _ ?hx ?hi ?ht
          case hx => (refine Wk.eqz (fun j => [0, 1, 2, 7].getD j 0) (by first | exact fun i _ j _ e => e | (simp only [List.length_cons, List.length_nil]; decide)) ?_; cbv; (repeat' (first | exact trivial | rfl | assumption | (refine RowsZ.app huf efx.symm efw.symm ?_; cbv) | apply And.intro | (simp only [hz, Z.a, binStd, cmpStd, unStd, scmpStd, maxI, reduceCtorEq]; first | done | assumption) | exact RowsZ.same (by assumption) (by first | assumption | rfl) | exact FzL.mk rfl rfl rfl (by assumption) (by first | assumption | rfl) (by decide) | (refine RowsZ.one ?_; cbv))))
          case hi => exact hI1
          case ht => exact hT1
    · refine hE _ _ _ ?_
      cbv
      have hfe : fs = es := by rw [hfs, List.take_of_length_le (by omega)]
      have hne : n = es.length := by rw [hnf, hfe]
      subst hfe
      (obtain ⟨J, eJ, J0, Jn⟩ : ∃ L : Int, wlen ds = L ∧ 0 ≤ L ∧ L.toNat = ds.length := ⟨(ds.length : Int), by rw [hlen], Int.natCast_nonneg _, Int.toNat_natCast _⟩)
      refine Loop.data hw (S := Bd) (fun s => match s with | .start => fr 63 [(2, .ref 1 2 0 0), (3, .ref 2 2 0 0), (49, .list 5 ds), (50, .int .i64 J), (51, .int .i64 0)] | .more k m fp => fr 63 [(2, .ref 1 2 0 0), (3, .ref 2 2 0 0), (49, .list 5 ds), (50, .int .i64 J), (51, .int .i64 k)])
        (fun s => match s with | .start => [.live 2 [[.list 3 fs, .list 5 ds]], .live 2 [[.nils, .nils]], .live 2 [[.list 3 fs, .nils]]] | .more k m fp => [.live 2 [[.list 3 fs, .list 5 ds]], .live 2 [[.nils, .nils]], .live 2 [[.list 3 fs, .sl 3 5 0 m]], .live 5 fp]) (Bd.Ok ds) (Bd.left ds) .start (by (refine Wk.eqz (id) (by first | exact fun i _ j _ e => e | (simp only [List.length_cons, List.length_nil]; decide)) ?_; cbv; (repeat' (first | exact trivial | rfl | assumption | apply And.intro | (simp only [hz, Z.a, binStd, cmpStd, unStd, scmpStd, maxI, reduceCtorEq]; first | done | assumption) | exact RowsZ.same (by assumption) (by first | assumption | rfl) | exact FzL.mk rfl rfl rfl (by assumption) (by first | assumption | rfl) (by decide) | (refine RowsZ.one ?_; cbv))))) trivial ?_
      rintro (_ | ⟨k, m, fp⟩) hinv2 Q2 hN2 hE2 hR2
      · cbv
        (split <;> rename_i hc2 <;> (try (simp only [hz, Z.a, binStd, cmpStd, unStd, scmpStd, maxI, reduceCtorEq] at hc2)) <;> (try cbv))
        · obtain ⟨⟨a1, a2, a3, a4, a5⟩, hd2, hrow2⟩ := get_map (f := grRow) (ds := gs) (i := 0) (Int.le_refl 0) (by omega)
          have hrow2 : ds[(0 : Int).toNat]? = some [.int .i64 a1, .int .i64 a2, .int .i64 a3, .int .i64 a4, .int .i64 a5] := by rw [hds]; exact hrow2
          refine Idx.mk [.int .i64 a1, .int .i64 a2, .int .i64 a3, .int .i64 a4, .int .i64 a5] (by decide) hrow2 ?_
          cbv
          refine Ob.mk (by decide) ?_
          cbv
          have hU2 : Up0 [[AV.int .i64 a1, .int .i64 a2, .int .i64 a3, .int .i64 a4, .int .i64 a5]] := ⟨rfl⟩
          have ei2 : wbin .add .i64 0 1 = 1 := by rw [hbin]; rfl
          refine hN2 (Bd.more 1 1 [[.int .i64 a1, .int .i64 a2, .int .i64 a3, .int .i64 a4, .int .i64 a5]]) _ _ ?hx ?hi ?ht
          case hx => (refine Wk.eqz (fun j => [0, 1, 2, 4].getD j 0) (by first | exact fun i _ j _ e => e | (simp only [List.length_cons, List.length_nil]; decide)) ?_; cbv; (repeat' (first | exact trivial | rfl | assumption | apply And.intro | (simp only [hz, Z.a, binStd, cmpStd, unStd, scmpStd, maxI, reduceCtorEq]; first | done | assumption) | exact RowsZ.same (by assumption) (by first | assumption | rfl) | exact FzL.mk rfl rfl rfl (by assumption) (by first | assumption | rfl) (by decide) | (refine RowsZ.one ?_; cbv))))
          case hi => exact ⟨by decide, by omega, (take_row (Int.le_refl 0) hrow2).symm, rfl, hU2⟩
          case ht => simp only [Bd.left]; omega
        · refine hE2 _ _ _ ?_
          cbv
          have hd0 : ds = [] := List.length_eq_zero_iff.1 (by omega)
          exact ⟨_, Vw.agg (rs := [.list 3 fs, .list 5 []]) ⟨Vw.same hu.list, Vw.nil 5, trivial⟩, hR _ (by rw [hd0])⟩
      · cbv
        obtain ⟨hk0, hk1, hfp, hmf, hup⟩ : 0 < k ∧ k.toNat ≤ ds.length ∧ fp = ds.take k.toNat ∧ m = fp.length ∧ Up0 fp := hinv2
        (split <;> rename_i hc2 <;> (try (simp only [hz, Z.a, binStd, cmpStd, unStd, scmpStd, maxI, reduceCtorEq] at hc2)) <;> (try cbv))
        · obtain ⟨⟨a1, a2, a3, a4, a5⟩, hd2, hrow2⟩ := get_map (f := grRow) (ds := gs) (i := k) (by omega) (by omega)
          have hrow2 : ds[k.toNat]? = some [.int .i64 a1, .int .i64 a2, .int .i64 a3, .int .i64 a4, .int .i64 a5] := by rw [hds]; exact hrow2
          refine Idx.mk [.int .i64 a1, .int .i64 a2, .int .i64 a3, .int .i64 a4, .int .i64 a5] (by omega) hrow2 ?_
          cbv
          obtain ⟨k', ek'⟩ : ∃ x, k + 1 = x := ⟨_, rfl⟩
          have ek : wbin .add .i64 k 1 = k' := by rw [hbin, i_add (by omega) (by omega)]; exact ek'
          obtain ⟨fp', efp⟩ : ∃ x, fp ++ [[AV.int .i64 a1, .int .i64 a2, .int .i64 a3, .int .i64 a4, .int .i64 a5]] = x := ⟨_, rfl⟩
          have hfl2 : fp'.length = m + 1 := by rw [← efp, hmf]; simp
          have hft2 : fp' = ds.take k'.toNat := by rw [← efp, ← ek', take_row (by omega) hrow2, hfp]
          have hup' : Up0 fp' := by rw [hft2]; exact up_take hud _
          obtain ⟨m', em'⟩ : ∃ x, m + 1 = x := ⟨_, rfl⟩
          have hml : m = k.toNat := by rw [hmf, hfp, List.length_take]; omega
          refine App.mk fp' m' efp.symm hmf em'.symm (by omega) (by omega) ?_
          cbv
          refine hN2 (Bd.more k' m' fp') _ _ ?hx ?hi ?ht
          case hx => (refine Wk.eqz (fun j => [0, 1, 2, 5].getD j 0) (by first | exact fun i _ j _ e => e | (simp only [List.length_cons, List.length_nil]; decide)) ?_; cbv; (repeat' (first | exact trivial | rfl | assumption | apply And.intro | (simp only [hz, Z.a, binStd, cmpStd, unStd, scmpStd, maxI, reduceCtorEq]; first | done | assumption) | exact RowsZ.same (by assumption) (by first | assumption | rfl) | exact FzL.mk rfl rfl rfl (by assumption) (by first | assumption | rfl) (by decide) | (refine RowsZ.one ?_; cbv))))
          case hi => exact ⟨by omega, by omega, hft2, by omega, hup'⟩
          case ht => simp only [Bd.left]; omega
        · refine hE2 _ _ _ ?_
          cbv
          have hq : fp = ds := by rw [hfp, List.take_of_length_le (by omega)]
          refine ⟨_, Vw.agg (rs := [.list 3 fs, .list 5 _]) ⟨Vw.same hu.list, Vw.sl rfl hup.get (by omega), trivial⟩, hR _ ?_⟩
          rw [List.drop_zero, List.take_of_length_le (by omega), hq]
end Go.Proofs.Ytpiocfmdjgbamaa

/- A configuration that may be, by the engine. -/
namespace Go.Proofs.Ytpiocfmdjgbamaa
open Go Go.RowKit Go.Eng
set_option maxRecDepth 100000
theorem e_up13 (a b : Int) (h1 : 1 ≤ a) (h2 : a ≤ 8388608) (h3 : 1 ≤ b) (h4 : b ≤ 1024) : PCalls Try.prog 71 [.int .i64 a, .int .i64 b] (· = .int .i64 ((a + b - 1) / b)) := by
  (refine PCalls.ofY Try.func71 (by kernel_rfl) (by kernel_rfl) fun w hw R hR => ?_); (conv => arg 2; cbv); (generalize hP : Try.prog = P); cbv
  subst hw
  have e1 : IntKind.i64.wrap (IntKind.i64.wrap (a + b) - 1) = a + b - 1 := by rw [IntKind.wrap_i64, IntKind.wrap_i64]; omega
  refine Nz.mk (by omega) ?_
  refine ⟨_, Vw.same rfl, hR _ (congrArg (AV.int .i64) ?_)⟩
  show IntKind.i64.wrap ((IntKind.i64.wrap (IntKind.i64.wrap (a + b) - 1)).tdiv b) = _
  rw [e1]
  have h5 : (a + b - 1).tdiv b = (a + b - 1) / b := Int.tdiv_eq_ediv_of_nonneg (by omega)
  have h6 : (a + b - 1) / b ≤ a + b - 1 := Int.ediv_le_self _ (by omega)
  have h7 : 0 ≤ (a + b - 1) / b := Int.ediv_nonneg (by omega) (by omega)
  rw [h5, IntKind.wrap_i64]; omega
def ConfOk (c0 c1 c2 c3 c4 c5 c6 c7 c8 c9 c10 c11 c12 c13 : Int) : Prop :=
  (1 ≤ c0 ∧ c0 ≤ 1024) ∧ (131072 ≤ c1 ∧ c1 ≤ 8388608 ∧ c1 ≤ c2 ∧ c2 ≤ 8388608) ∧ (c2 - c1) * 16 ≤ c1 ∧ (0 ≤ c3 ∧ c3 ≤ 1048576 ∧ 0 ≤ c4 ∧ c4 ≤ 65536) ∧ (0 ≤ c5 ∧ c5 ≤ 1048576) ∧ (1 ≤ c6 ∧ c6 ≤ 16777216 ∧ 1 ≤ c7 ∧ c7 ≤ 1048576) ∧ c6 * c0 ≤ 32000 * c1 ∧ (0 ≤ c8 ∧ c8 ≤ 1048576) ∧ (1 ≤ c9 ∧ c9 ≤ 1000 ∧ 1 ≤ c12 ∧ c12 ≤ 1000) ∧ ((c2 + c0 - 1) / c0 ≤ c10 ∧ 3 * c3 ≤ c10 ∧ c10 ≤ 16777216) ∧ (0 ≤ c11 ∧ c11 ≤ 1073741824) ∧ (1 ≤ c13 ∧ c13 ≤ 1048576)
def wrongV (c0 c1 c2 c3 c4 c5 c6 c7 c8 c9 c10 c11 c12 c13 : Int) : Int :=
  if c0 < 1 ∨ 1024 < c0 then 1 else
  if c1 < 131072 ∨ 8388608 < c1 ∨ c2 < c1 ∨ 8388608 < c2 then 2 else
  if c1 < IntKind.i64.wrap (IntKind.i64.wrap (c2 - c1) * 16) then 3 else
  if c3 < 0 ∨ 1048576 < c3 ∨ c4 < 0 ∨ 65536 < c4 then 4 else
  if c5 < 0 ∨ 1048576 < c5 then 5 else
  if c6 < 1 ∨ 16777216 < c6 ∨ c7 < 1 ∨ 1048576 < c7 then 6 else
  if IntKind.i64.wrap (32000 * c1) < IntKind.i64.wrap (c6 * c0) then 7 else
  if c8 < 0 ∨ 1048576 < c8 then 8 else
  if c9 < 1 ∨ 1000 < c9 ∨ c12 < 1 ∨ 1000 < c12 then 9 else
  if c10 < (c2 + c0 - 1) / c0 ∨ c10 < IntKind.i64.wrap (3 * c3) ∨ 16777216 < c10 then 10 else
  if c11 < 0 ∨ 1073741824 < c11 then 11 else
  if c13 < 1 ∨ 1048576 < c13 then 12 else 0
theorem ite_zero {p : Prop} [Decidable p] {a b : Int} (h : (if p then a else b) = 0) (ha : a ≠ 0) : ¬ p ∧ b = 0 := by
  by_cases hp : p
  · rw [if_pos hp] at h; exact absurd h ha
  · rw [if_neg hp] at h; exact ⟨hp, h⟩
theorem wrong_ok {c0 c1 c2 c3 c4 c5 c6 c7 c8 c9 c10 c11 c12 c13 : Int} (h : wrongV c0 c1 c2 c3 c4 c5 c6 c7 c8 c9 c10 c11 c12 c13 = 0) : ConfOk c0 c1 c2 c3 c4 c5 c6 c7 c8 c9 c10 c11 c12 c13 := by
  unfold wrongV at h
  replace h := ite_zero h (by decide); have k1 := h.1; replace h := h.2
  replace h := ite_zero h (by decide); have k2 := h.1; replace h := h.2
  replace h := ite_zero h (by decide); have k3 := h.1; replace h := h.2
  replace h := ite_zero h (by decide); have k4 := h.1; replace h := h.2
  replace h := ite_zero h (by decide); have k5 := h.1; replace h := h.2
  replace h := ite_zero h (by decide); have k6 := h.1; replace h := h.2
  replace h := ite_zero h (by decide); have k7 := h.1; replace h := h.2
  replace h := ite_zero h (by decide); have k8 := h.1; replace h := h.2
  replace h := ite_zero h (by decide); have k9 := h.1; replace h := h.2
  replace h := ite_zero h (by decide); have k10 := h.1; replace h := h.2
  replace h := ite_zero h (by decide); have k11 := h.1; replace h := h.2
  replace h := ite_zero h (by decide); have k12 := h.1; replace h := h.2
  clear h
  have b1 : IntKind.i64.wrap (IntKind.i64.wrap (c2 - c1) * 16) = (c2 - c1) * 16 := by rw [IntKind.wrap_i64, IntKind.wrap_i64]; omega
  have b2 : c6 * c0 ≤ 16777216 * 1024 := Int.mul_le_mul (by omega) (by omega) (by omega) (by omega)
  have b3 : 0 ≤ c6 * c0 := Int.mul_nonneg (by omega) (by omega)
  have b4 : IntKind.i64.wrap (c6 * c0) = c6 * c0 := by rw [IntKind.wrap_i64]; omega
  have b5 : IntKind.i64.wrap (32000 * c1) = 32000 * c1 := by rw [IntKind.wrap_i64]; omega
  have b6 : IntKind.i64.wrap (3 * c3) = 3 * c3 := by rw [IntKind.wrap_i64]; omega
  unfold ConfOk
  rw [b1] at k3
  rw [b4, b5] at k7
  rw [b6] at k10
  clear b1 b2 b3 b4 b5 b6
  and_intros <;> omega
set_option maxHeartbeats 4000000 in
theorem e_wrong (c0 c1 c2 c3 c4 c5 c6 c7 c8 c9 c10 c11 c12 c13 : Int) : PCalls Try.prog 43 [.agg [.int .i64 c0, .int .i64 c1, .int .i64 c2, .int .i64 c3, .int .i64 c4, .int .i64 c5, .int .i64 c6, .int .i64 c7, .int .i64 c8, .int .i64 c9, .int .i64 c10, .int .i64 c11, .int .i64 c12, .int .i64 c13]] (· = .int .i64 (wrongV c0 c1 c2 c3 c4 c5 c6 c7 c8 c9 c10 c11 c12 c13)) := by
  (refine PCalls.ofY Try.func43 (by kernel_rfl) (by kernel_rfl) fun w hw R hR => ?_); (conv => arg 2; cbv); (generalize hP : Try.prog = P); cbv
  have hR' : ∀ n, n = wrongV c0 c1 c2 c3 c4 c5 c6 c7 c8 c9 c10 c11 c12 c13 → R (.int .i64 n) := fun n h => hR _ (by rw [h])
  clear hR
  repeat' (first | (refine ⟨_, Vw.same rfl, hR' _ ?_⟩; unfold wrongV; (repeat rw [if_neg (by omega)]); rw [if_pos (by omega)]; done) | (split <;> rename_i hb <;> (try (rw [hw] at hb)) <;> (try (simp only [std, binStd, cmpStd, unStd, scmpStd, maxI, Bool.not_eq_true', Bool.not_eq_false', decide_eq_true_eq, decide_eq_false_iff_not, Int.not_lt, Int.not_le, if_true, if_false, Bool.false_eq_true, beq_iff_eq, bne_iff_ne, ne_eq, Bool.not_eq_eq_eq_not, Bool.not_true, Bool.not_false, beq_eq_false_iff_ne, bne_eq_false_iff_eq, Int.ofNat_eq_natCast] at hb)) <;> (try cbv)))
  refine QCal.stepE (by rw [← hP]; exact e_up13 c2 c0 (by omega) (by omega) (by omega) (by omega)) rfl ?_
  generalize hu : (c2 + c0 - 1) / c0 = u at *
  cbv
  repeat' (first | (refine ⟨_, Vw.same rfl, hR' _ ?_⟩; unfold wrongV; rw [hu]; (repeat rw [if_neg (by omega)]); (first | done | (rw [if_pos (by omega)]; done))) | (split <;> rename_i hb <;> (try (rw [hw] at hb)) <;> (try (simp only [std, binStd, cmpStd, unStd, scmpStd, maxI, Bool.not_eq_true', Bool.not_eq_false', decide_eq_true_eq, decide_eq_false_iff_not, Int.not_lt, Int.not_le, if_true, if_false, Bool.false_eq_true, beq_iff_eq, bne_iff_ne, ne_eq, Bool.not_eq_eq_eq_not, Bool.not_true, Bool.not_false, beq_eq_false_iff_ne, bne_eq_false_iff_eq, Int.ofNat_eq_natCast] at hb)) <;> (try cbv)))
end Go.Proofs.Ytpiocfmdjgbamaa

/- What the statements of layer 21 ask first, by the engine. -/
namespace Go.Proofs.Ytpiocfmdjgbamaa
open Go Go.RowKit Go.Eng
set_option maxRecDepth 100000
structure MayT (ss : List Sg) (gs : List Gr) : Prop where
  tr : TrackOk ss gs
  ps : ∀ s, s ∈ ss → s.ps.length ≤ 1000
  n300 : ss.length ≤ 300
  g500 : gs.length ≤ 500
set_option maxHeartbeats 2000000 in
theorem e_may21 (c0 c1 c2 c3 c4 c5 c6 c7 c8 c9 c10 c11 c12 c13 : Int) (ss : List Sg) (gs : List Gr) (es ds : List (List AV)) (hes : es = ss.map sgRow) (hds : ds = gs.map grRow) (g : Int) :
    PCalls Try.prog 26 [.agg [.int .i64 c0, .int .i64 c1, .int .i64 c2, .int .i64 c3, .int .i64 c4, .int .i64 c5, .int .i64 c6, .int .i64 c7, .int .i64 c8, .int .i64 c9, .int .i64 c10, .int .i64 c11, .int .i64 c12, .int .i64 c13], .agg [.list 3 es, .list 5 ds], .int .i64 g] (fun r => ∃ o : Bool, r = .bool o ∧ (o = true → ConfOk c0 c1 c2 c3 c4 c5 c6 c7 c8 c9 c10 c11 c12 c13 ∧ MayT ss gs ∧ 0 ≤ g ∧ g.toNat < gs.length)) := by
  have hu : Up0 es := by rw [hes]; exact up_sg ss
  have hud : Up0 ds := by rw [hds]; exact up_gr gs
  have hel : es.length = ss.length := by rw [hes]; simp
  have hdl : ds.length = gs.length := by rw [hds]; simp
  have hut : uptoL 0 [.agg [.list 3 es, .list 5 ds]] = true := Bool.and_eq_true_iff.mpr ⟨Up0.one hu (Up0.one hud rfl), rfl⟩
  obtain ⟨w0, ew0⟩ : ∃ w, wrongV c0 c1 c2 c3 c4 c5 c6 c7 c8 c9 c10 c11 c12 c13 = w := ⟨_, rfl⟩
  have hwr := e_wrong c0 c1 c2 c3 c4 c5 c6 c7 c8 c9 c10 c11 c12 c13
  rw [ew0] at hwr
  (refine PCalls.ofY Try.func26 (by kernel_rfl) (by kernel_rfl) fun w hw R hR => ?_); (obtain ⟨wbin, wcmp, wun, wconv, wnot, wbeq, wmm, wscmp, wsadd, wslen, wsat, weqs, wlen, wnlen, wofNat, wtake, wdrop, wapp, wzero, wnat⟩ := w); (have hbin := Z.w1 hw); (have hcmp := Z.w2 hw); (have hun := Z.w3 hw); (have hconv := Z.w4 hw); (have hnot := Z.w5 hw); (have hbeq := Z.w6 hw); (have hmm := Z.w7 hw); (have hscmp := Z.w8 hw); (have hsadd := Z.w9 hw); (have hslen := Z.w10 hw); (have hsat := Z.w11 hw); (have heqs := Z.w12 hw); (have hlen := Z.w13 hw); (have hnlen := Z.w14 hw); (have hofNat := Z.w15 hw); (have htake := Z.w16 hw); (have hdrop := Z.w17 hw); (have happ := Z.w18 hw); (have hzero := Z.w19 hw); (have hnat := Z.w20 hw); (have hz := Z.z hw); (conv => arg 2; cbv); (generalize hP : Try.prog = P); cbv
  refine Call.stepE (by rw [← hP]; exact hwr) rfl ?_
  cbv
  (obtain ⟨L, eL, L0, Ln⟩ : ∃ L : Int, wlen es = L ∧ 0 ≤ L ∧ L.toNat = es.length := ⟨(es.length : Int), by rw [hlen], Int.natCast_nonneg _, Int.toNat_natCast _⟩)
  (obtain ⟨J, eJ, J0, Jn⟩ : ∃ L : Int, wlen ds = L ∧ 0 ≤ L ∧ L.toNat = ds.length := ⟨(ds.length : Int), by rw [hlen], Int.natCast_nonneg _, Int.toNat_natCast _⟩)
  have hF : R (.bool false) := hR _ ⟨_, rfl, fun h => (by cases h)⟩
  repeat' (first | exact ⟨_, Vw.same rfl, hF⟩ | (split <;> rename_i h <;> (try (simp only [eL, eJ] at h)) <;> (try (simp only [hz, Z.a, binStd, cmpStd, unStd, scmpStd, maxI, reduceCtorEq] at h)) <;> (try cbv)))
  have hb : ss.length ≤ 300 ∧ gs.length ≤ 500 := by omega
  obtain ⟨b1, b2⟩ := hb
  simp only [eL]
  refine Loop.data hw (S := Int) (fun i => fr 63 [(2, .int .i64 g), (4, .ref 1 2 0 0), (27, .list 3 es), (28, .int .i64 L), (29, .int .i64 i)]) (fun i => [.live 14 [[.int .i64 c0, .int .i64 c1, .int .i64 c2, .int .i64 c3, .int .i64 c4, .int .i64 c5, .int .i64 c6, .int .i64 c7, .int .i64 c8, .int .i64 c9, .int .i64 c10, .int .i64 c11, .int .i64 c12, .int .i64 c13]], .live 2 [[.list 3 es, .list 5 ds]]]) (fun i => 0 ≤ i ∧ i ≤ L ∧ ∀ j, j < i.toNat → ∀ s, ss[j]? = some s → s.ps.length ≤ 100) (fun i => (L - i).toNat) 0 (by (refine Wk.eqz (id) (by first | exact fun i _ j _ e => e | (simp only [List.length_cons, List.length_nil]; decide)) ?_; cbv; (repeat' (first | exact trivial | rfl | assumption | apply And.intro | (simp only [hz, Z.a, binStd, cmpStd, unStd, scmpStd, maxI, reduceCtorEq]; first | done | assumption) | exact RowsZ.same (by assumption) (by first | assumption | rfl) | exact FzL.mk rfl rfl rfl (by assumption) (by first | assumption | rfl) (by decide) | (refine RowsZ.one ?_; cbv))))) ⟨Int.le_refl _, L0, fun j hj => (by simp at hj)⟩ ?_
  rintro i hinv Q' hN hE hR'
  have hinv : 0 ≤ i ∧ i ≤ L ∧ ∀ j, j < i.toNat → ∀ s, ss[j]? = some s → s.ps.length ≤ 100 := hinv
  cbv
  obtain ⟨hi0, hi1, hl⟩ := hinv
  (split <;> rename_i hc <;> (try (simp only [hz, Z.a, binStd, cmpStd, unStd, scmpStd, maxI, reduceCtorEq] at hc)) <;> (try cbv))
  · obtain ⟨⟨len, ps, nx⟩, hd, hrow⟩ := get_map (f := sgRow) (ds := ss) (i := i) hi0 (by omega)
    obtain ⟨q1, eq1⟩ : ∃ x, ps.map pcRow = x := ⟨_, rfl⟩
    obtain ⟨n1, en1⟩ : ∃ x, nx.map nxRow = x := ⟨_, rfl⟩
    have hrow : es[i.toNat]? = some [.int .i64 len, .list 2 q1, .list 1 n1] := by rw [hes, ← eq1, ← en1]; exact hrow
    have hql : q1.length = ps.length := by rw [← eq1]; simp
    (obtain ⟨K, eK, K0, Kn⟩ : ∃ L : Int, wlen q1 = L ∧ 0 ≤ L ∧ L.toNat = q1.length := ⟨(q1.length : Int), by rw [hlen], Int.natCast_nonneg _, Int.toNat_natCast _⟩)
    obtain ⟨i', ei'⟩ : ∃ x, i + 1 = x := ⟨_, rfl⟩
    have ei : wbin .add .i64 i 1 = i' := by rw [hbin, i_add (by omega) (by omega)]; exact ei'
    have hT : (L - i').toNat < (L - i).toNat := by omega
    refine Idx.mk [.int .i64 len, .list 2 q1, .list 1 n1] hi0 hrow ?_
    cbv
    repeat' (first | exact hR' _ _ ⟨_, Vw.same rfl, hF⟩ | (split <;> rename_i h <;> (try (simp only [eK] at h)) <;> (try (simp only [hz, Z.a, binStd, cmpStd, unStd, scmpStd, maxI, reduceCtorEq] at h)) <;> (try cbv)))
    refine hN i' _ _ ?hx ?hI hT
    case hx => (refine Wk.eqz (id) (by first | exact fun i _ j _ e => e | (simp only [List.length_cons, List.length_nil]; decide)) ?_; cbv; (repeat' (first | exact trivial | rfl | assumption | apply And.intro | (simp only [hz, Z.a, binStd, cmpStd, unStd, scmpStd, maxI, reduceCtorEq]; first | done | assumption) | exact RowsZ.same (by assumption) (by first | assumption | rfl) | exact FzL.mk rfl rfl rfl (by assumption) (by first | assumption | rfl) (by decide) | (refine RowsZ.one ?_; cbv))))
    case hI =>
      refine ⟨by omega, by omega, ?_⟩
      rw [← ei']
      refine all_step hi0 hl fun m hm => ?_
      rw [hd] at hm
      obtain rfl : (⟨len, ps, nx⟩ : Sg) = m := by simpa using hm
      simp only; omega
  refine hE _ _ _ ?_
  cbv
  have hps : ∀ s, s ∈ ss → s.ps.length ≤ 1000 := fun s hs => by
    obtain ⟨j, hj⟩ := List.mem_iff_getElem?.1 hs
    have := hl j (by have := (List.getElem?_eq_some_iff.1 hj).1; omega) s hj
    omega
  refine Call.stepE (by rw [← hP]; exact e_refsT21 ss gs es ds hes hds (by omega) (by omega) hps) (by exact hut) ?_
  cbv
  refine Call.step (by rw [← hP]; exact e_check11 ss gs es ds hes hds) (by exact hut) ?_
  rintro r ⟨e, i, rfl, hok⟩
  cbv
  (split <;> rename_i h1 <;> (try (simp only [hz, Z.a, binStd, cmpStd, unStd, scmpStd, maxI, reduceCtorEq] at h1)) <;> (try cbv))
  rotate_left 1
  · exact ⟨_, Vw.same rfl, hF⟩
  have hT := hok h1
  (split <;> rename_i h2 <;> (try (simp only [eL] at h2)) <;> (try (simp only [hz, Z.a, binStd, cmpStd, unStd, scmpStd, maxI, reduceCtorEq] at h2)) <;> (try cbv))
  rotate_left 1
  · exact ⟨_, Vw.same rfl, hF⟩
  refine ⟨_, Vw.same rfl, hR _ ⟨_, rfl, fun ho => ?_⟩⟩
  rw [hcmp] at ho
  simp only [eJ] at ho
  have h3 : g < J := by simpa [cmpStd] using ho
  exact ⟨wrong_ok (by omega), ⟨hT, hps, b1, b2⟩, h2, by omega⟩
end Go.Proofs.Ytpiocfmdjgbamaa

/- The document's place moves; places compared; by the engine. -/
namespace Go.Proofs.Ytpiocfmdjgbamaa
open Go Go.RowKit Go.Eng
set_option maxRecDepth 100000
set_option maxHeartbeats 2000000 in
theorem e_rmove (ss : List Sg) (gs : List Gr) (es ds : List (List AV)) (hes : es = ss.map sgRow) (hds : ds = gs.map grRow) (hln : LensOk ss) (hnx : NextOk ss) (g from_ : Int) (hf : 0 ≤ from_ ∧ from_ ≤ 1099511627776) (p : PlT) (hp : PlOk ss p) (rs : List (List AV)) (hrs : rs = p.m.map rtRow) (a b : Int) (hab : a ≤ b) (ha : -1099511627776 ≤ a) (hb : b ≤ 1099511627776) (q : PlT) (e : Int) (hv : (q, e) = moveV ss from_ p a b) (us : List (List AV)) (hus : us = q.m.map rtRow) :
    PCalls Try.prog 34 [.agg [.list 3 es, .list 5 ds], .agg [.int .i64 1, .int .i64 g, .int .i64 p.lo, .int .i64 p.hi, .int .i64 p.est, .int .i64 from_, .list 1 rs], .int .i64 a, .int .i64 b] (fun r => (e = 0 ∧ r = .tuple [.agg [.int .i64 1, .int .i64 g, .int .i64 q.lo, .int .i64 q.hi, .int .i64 q.est, .int .i64 from_, .list 1 us], .int .i64 0]) ∨ (e ≠ 0 ∧ r = .tuple [.agg [.int .i64 0, .int .i64 0, .int .i64 0, .int .i64 0, .int .i64 0, .int .i64 0, .nils], .int .i64 e])) := by
  have hu : Up0 es := by rw [hes]; exact up_sg ss
  have hud : Up0 ds := by rw [hds]; exact up_gr gs
  have hur : Up0 rs := by rw [hrs]; exact up_rt p.m
  have huu : Up0 us := by rw [hus]; exact up_rt q.m
  have hlo := hp.lo
  have hhi := hp.hi
  have hle := hp.le
  have hfew := hp.few
  obtain ⟨v, ev⟩ : ∃ v, v = growA ss (p.lo + a) (p.hi + b) from_ p.m := ⟨_, rfl⟩
  have hA := e_rgrow ss gs es ds hes hds hln hnx (p.lo + a) (p.hi + b) from_ hf p.m hp.way (by omega) rs hrs v (by rw [ev, growA_eq hnx p.m hp.way])
  have hok := growA_ok hnx p.m hp.way ev
  unfold moveV at hv
  rw [← ev] at hv
  have hem := growA_e (show ((v.1.1, v.1.2), v.2) = _ from ev)
  obtain ⟨⟨v1, v2⟩, v3⟩ := v
  obtain ⟨lo, hi, est, m⟩ := p
  simp only at hlo hhi hle hA hv hrs hfew hem hok
  obtain ⟨l', el'⟩ : ∃ x, lo + a = x := ⟨_, rfl⟩
  obtain ⟨h', eh'⟩ : ∃ x, hi + b = x := ⟨_, rfl⟩
  obtain ⟨md, emd⟩ : ∃ x, (a + b) / 2 = x := ⟨_, rfl⟩
  obtain ⟨s', es'⟩ : ∃ x, est + md = x := ⟨_, rfl⟩
  obtain ⟨t', et'⟩ : ∃ x, max l' (min s' h') = x := ⟨_, rfl⟩
  obtain ⟨u', eu'⟩ : ∃ x, v2.map rtRow = x := ⟨_, rfl⟩
  rw [el', eh', emd, es', et'] at hv
  rw [el', eh'] at hA
  have hA : PCalls Try.prog 37 [.agg [.list 3 es, .list 5 ds], .agg [.int .i64 from_, .list 1 rs], .int .i64 l', .int .i64 h'] (· = .tuple [.agg [.int .i64 v1, .list 1 u'], .int .i64 v3]) := by rw [← eu']; exact hA
  have hugA : uptoL 0 [AV.agg [.list 3 es, .list 5 ds], .agg [.int .i64 from_, .list 1 rs], .int .i64 l', .int .i64 h'] = true := by simp only [uptoL, AV.upto, hu.get, hud.get, hur.get]; rfl
  have s3 := e_xmid17 a b md ⟨by omega, by omega⟩ ⟨by omega, by omega⟩ emd
  have hZ : ∀ (x : Int) (h : AHeap), e ≠ 0 → x = e → Ret [.agg [.int .i64 0, .int .i64 0, .int .i64 0, .int .i64 0, .int .i64 0, .int .i64 0, .nils], .int .i64 x] h (fun r => (e = 0 ∧ r = .tuple [.agg [.int .i64 1, .int .i64 g, .int .i64 q.lo, .int .i64 q.hi, .int .i64 q.est, .int .i64 from_, .list 1 us], .int .i64 0]) ∨ (e ≠ 0 ∧ r = .tuple [.agg [.int .i64 0, .int .i64 0, .int .i64 0, .int .i64 0, .int .i64 0, .int .i64 0, .nils], .int .i64 e])) := fun x h h0 hx => ⟨_, Vw.same rfl, .inr ⟨h0, by rw [← hx]; rfl⟩⟩
  show PCalls Try.prog 34 [.agg [.list 3 es, .list 5 ds], .agg [.int .i64 1, .int .i64 g, .int .i64 lo, .int .i64 hi, .int .i64 est, .int .i64 from_, .list 1 rs], .int .i64 a, .int .i64 b] _
  (refine PCalls.ofY Try.func34 (by kernel_rfl) (by kernel_rfl) fun w hw R hR => ?_); (obtain ⟨wbin, wcmp, wun, wconv, wnot, wbeq, wmm, wscmp, wsadd, wslen, wsat, weqs, wlen, wnlen, wofNat, wtake, wdrop, wapp, wzero, wnat⟩ := w); (have hbin := Z.w1 hw); (have hcmp := Z.w2 hw); (have hun := Z.w3 hw); (have hconv := Z.w4 hw); (have hnot := Z.w5 hw); (have hbeq := Z.w6 hw); (have hmm := Z.w7 hw); (have hscmp := Z.w8 hw); (have hsadd := Z.w9 hw); (have hslen := Z.w10 hw); (have hsat := Z.w11 hw); (have heqs := Z.w12 hw); (have hlen := Z.w13 hw); (have hnlen := Z.w14 hw); (have hofNat := Z.w15 hw); (have htake := Z.w16 hw); (have hdrop := Z.w17 hw); (have happ := Z.w18 hw); (have hzero := Z.w19 hw); (have hnat := Z.w20 hw); (have hz := Z.z hw); (conv => arg 2; cbv); (generalize hP : Try.prog = P); cbv
  have hZ2 : ∀ (x : Int) (h : AHeap), e ≠ 0 → x = e → Ret [.agg [.int .i64 0, .int .i64 0, .int .i64 0, .int .i64 0, .int .i64 0, .int .i64 0, .nils], .int .i64 x] h R := fun x h h0 hx => ⟨_, Vw.same rfl, hR _ (.inr ⟨h0, by rw [← hx]; rfl⟩)⟩
  have hY : ∀ (h : AHeap) (t0 : Int), e = 0 → q = ⟨l', h', t', v2⟩ → t0 = t' → Ret [.agg [.int .i64 1, .int .i64 g, .int .i64 l', .int .i64 h', .int .i64 t0, .int .i64 from_, .list 1 u'], .int .i64 0] h R := fun h t0 h0 hq ht => by
    subst ht
    have huu' : Up0 u' := by rw [← eu']; exact up_rt v2
    refine ⟨_, Vw.same (by simp only [retOne, AV.upto, uptoL, huu'.get]; rfl), hR _ (.inl ⟨h0, ?_⟩)⟩
    rw [hq] at hus ⊢
    rw [hus, ← eu']; rfl
  have z1 : wcmp .eql 1 0 = false := by rw [hcmp]; rfl
  have b1 : wbin .add .i64 lo a = l' := by rw [hbin, i_add (by omega) (by omega)]; exact el'
  have b2 : wbin .add .i64 hi b = h' := by rw [hbin, i_add (by omega) (by omega)]; exact eh'
  have b3 : wbin .add .i64 est md = s' := by rw [hbin, i_add (by omega) (by omega)]; exact es'
  simp only [z1]
  cbv
  simp only [b1, b2]
  by_cases hov : l' < -17592186044416 ∨ 17592186044416 < h'
  · rw [if_pos hov] at hv
    simp only [Prod.mk.injEq] at hv
    have he20 : e ≠ 0 := by omega
    repeat' (first | exact hZ2 20 _ he20 hv.2.symm | (exfalso; omega) | (split <;> rename_i h6 <;> (try (simp only [b1, b2] at h6)) <;> (try (simp only [hz, Z.a, binStd, cmpStd, unStd, scmpStd, maxI, reduceCtorEq] at h6)) <;> (try cbv)))
  · rw [if_neg hov] at hv
    simp only [Prod.mk.injEq] at hv
    repeat' (first | (exfalso; omega) | (split <;> rename_i h6 <;> (try (simp only [b1, b2] at h6)) <;> (try (simp only [hz, Z.a, binStd, cmpStd, unStd, scmpStd, maxI, reduceCtorEq] at h6)) <;> (try cbv)))
    refine Call.stepE (by rw [← hP]; exact hA) (by exact hugA) ?_
    cbv
    (split <;> rename_i h5 <;> (try (simp only [hz, Z.a, binStd, cmpStd, unStd, scmpStd, maxI, reduceCtorEq] at h5)) <;> (try cbv))
    · exact hZ2 v3 _ (by omega) hv.2.symm
    have hv1 : v1 = from_ := by
      rcases hok with h | h
      · exact absurd h5 h.1
      · exact h.2.1
    subst hv1
    first
      | (refine Call.stepE (by rw [← hP]; exact s3) rfl ?_; cbv)
      | (refine QCal.stepE (by rw [← hP]; exact s3) rfl ?_; cbv)
    (try simp only [b3])
    repeat' (split <;> rename_i h7 <;> (try (simp only [b3] at h7)) <;> (try (simp only [hz, Z.a, binStd, cmpStd, unStd, scmpStd, maxI, reduceCtorEq] at h7)) <;> (try cbv))
    all_goals (try simp only [b3])
    all_goals (repeat' (refine And.intro ?_ ?_))
    all_goals exact hY _ _ (by omega) hv.1 (by omega)
set_option maxHeartbeats 2000000 in
theorem e_same21 (g from_ lo hi est : Int) (m : List (List Int)) (hm : ∀ l, l ∈ m → l.length ≤ 12) (hm16 : m.length ≤ 1000) (rs qs : List (List AV)) (hrs : rs = m.map rtC) (hqs : qs = m.map rtRow) :
    PCalls Try.prog 32 [.agg [.bool true, .int .i64 g, .int .i64 lo, .int .i64 hi, .int .i64 est, .int .i64 from_, .list 13 rs], .agg [.int .i64 1, .int .i64 g, .int .i64 lo, .int .i64 hi, .int .i64 est, .int .i64 from_, .list 1 qs]] (· = .bool true) := by
  have hur : Up0 rs := by rw [hrs]; exact up_map (f := rtC) (fun d => rfl) m
  have huq : Up0 qs := by rw [hqs]; exact up_rt m
  have hrl : rs.length = m.length := by rw [hrs]; simp
  have hql : qs.length = m.length := by rw [hqs]; simp
  (refine PCalls.ofY Try.func32 (by kernel_rfl) (by kernel_rfl) fun w hw R hR => ?_); (obtain ⟨wbin, wcmp, wun, wconv, wnot, wbeq, wmm, wscmp, wsadd, wslen, wsat, weqs, wlen, wnlen, wofNat, wtake, wdrop, wapp, wzero, wnat⟩ := w); (have hbin := Z.w1 hw); (have hcmp := Z.w2 hw); (have hun := Z.w3 hw); (have hconv := Z.w4 hw); (have hnot := Z.w5 hw); (have hbeq := Z.w6 hw); (have hmm := Z.w7 hw); (have hscmp := Z.w8 hw); (have hsadd := Z.w9 hw); (have hslen := Z.w10 hw); (have hsat := Z.w11 hw); (have heqs := Z.w12 hw); (have hlen := Z.w13 hw); (have hnlen := Z.w14 hw); (have hofNat := Z.w15 hw); (have htake := Z.w16 hw); (have hdrop := Z.w17 hw); (have happ := Z.w18 hw); (have hzero := Z.w19 hw); (have hnat := Z.w20 hw); (have hz := Z.z hw); (conv => arg 2; cbv); (generalize hP : Try.prog = P); cbv
  have c1 : ∀ x, wcmp .neq x x = false := fun x => by rw [hcmp]; simp [cmpStd]
  have z1 : wcmp .eql 1 1 = true := by rw [hcmp]; rfl
  have z2 : wbeq true true = true := by rw [hbeq]; rfl
  have z3 : wnot true = false := by rw [hnot]; rfl
  (obtain ⟨L, eL, L0, Ln⟩ : ∃ L : Int, wlen rs = L ∧ 0 ≤ L ∧ L.toNat = rs.length := ⟨(rs.length : Int), by rw [hlen], Int.natCast_nonneg _, Int.toNat_natCast _⟩)
  have eM : wlen qs = L := by
    have e := eL
    rw [hlen] at e ⊢
    show ((qs.length : Nat) : Int) = L
    rw [hql, ← hrl]; exact e
  repeat' (first | (simp only [z1, z2, z3, c1]; cbv) | (simp only [eL, eM, c1]; cbv))
  refine Loop.data hw (S := Int) (fun i => fr 107 [(3, .ref 1 7 0 0), (67, .list 13 rs), (68, .int .i64 L), (69, .int .i64 i)])
    (fun _ => [.live 7 [[.bool true, .int .i64 g, .int .i64 lo, .int .i64 hi, .int .i64 est, .int .i64 from_, .list 13 rs]], .live 7 [[.int .i64 1, .int .i64 g, .int .i64 lo, .int .i64 hi, .int .i64 est, .int .i64 from_, .list 1 qs]]]) (fun i => 0 ≤ i ∧ i ≤ L) (fun i => (L - i).toNat) 0 (by (refine Wk.eqz (id) (by first | exact fun i _ j _ e => e | (simp only [List.length_cons, List.length_nil]; decide)) ?_; cbv; (repeat' (first | exact trivial | rfl | assumption | apply And.intro | (simp only [hz, Z.a, binStd, cmpStd, unStd, scmpStd, maxI, reduceCtorEq]; first | done | assumption) | exact RowsZ.same (by assumption) (by first | assumption | rfl) | exact FzL.mk rfl rfl rfl (by assumption) (by first | assumption | rfl) (by decide) | (refine RowsZ.one ?_; cbv))))) ⟨Int.le_refl _, L0⟩ ?_
  rintro i hinv Q' hN hE hR'
  have hinv : 0 ≤ i ∧ i ≤ L := hinv
  cbv
  obtain ⟨hi0, hi1⟩ := hinv
  (split <;> rename_i hc <;> (try (simp only [hz, Z.a, binStd, cmpStd, unStd, scmpStd, maxI, reduceCtorEq] at hc)) <;> (try cbv))
  rotate_left 1
  · refine hE _ _ _ ?_
    cbv
    exact ⟨_, Vw.same rfl, hR _ rfl⟩
  obtain ⟨l, hl⟩ : ∃ l, m[i.toNat]? = some l := ⟨_, List.getElem?_eq_getElem (show i.toNat < m.length by omega)⟩
  have hl12 := hm l (List.mem_of_getElem? hl)
  have hri : rs[i.toNat]? = some (toR l).row := by rw [hrs, List.getElem?_map, hl]; rfl
  obtain ⟨xs, exs⟩ : ∃ x, x = l.map nxRow := ⟨_, rfl⟩
  have huxs : Up0 xs := by rw [exs]; exact up_nx l
  have hxl : xs.length = l.length := by rw [exs]; simp
  have hqi : qs[i.toNat]? = some [.list 1 xs] := by rw [hqs, List.getElem?_map, hl, exs]; rfl
  obtain ⟨i2, ei2⟩ : ∃ z, z = i + 1 := ⟨_, rfl⟩
  have a4 : wbin .add .i64 i 1 = i2 := by rw [hbin, ei2]; show IntKind.i64.wrap (i + 1) = i + 1; rw [IntKind.wrap_i64]; omega
  have hT2 : (L - i2).toNat < (L - i).toNat := by omega
  have hp := e_pathL l hl12
  obtain ⟨row, erow⟩ : ∃ row, row = toR l := ⟨_, rfl⟩
  have hp : PCalls Try.prog 54 [.agg row.row] (· = .list 1 xs) := by rw [erow, exs]; exact hp
  rw [← erow] at hri
  (obtain ⟨K, eK, K0, Kn⟩ : ∃ L : Int, wlen xs = L ∧ 0 ≤ L ∧ L.toNat = xs.length := ⟨(xs.length : Int), by rw [hlen], Int.natCast_nonneg _, Int.toNat_natCast _⟩)
  obtain ⟨n, s0, s1, s2, s3, s4, s5, s6, s7, s8, s9, s10, s11⟩ := row
  refine Idx.mk _ hi0 hri ?_
  cbv
  refine Call.stepE (by rw [← hP]; exact hp) rfl ?_
  cbv
  refine Idx.mk _ hi0 hqi ?_
  cbv
  simp only [eK, c1]
  cbv
  simp only [eK]
  refine Loop.data hw (S := Int) (fun k => fr 107 [(3, .ref 1 7 0 0), (5, .int .i64 i), (7, .list 1 xs), (67, .list 13 rs), (68, .int .i64 L), (69, .int .i64 i), (87, .int .i64 K), (88, .int .i64 k)])
    (fun _ => [.live 7 [[.bool true, .int .i64 g, .int .i64 lo, .int .i64 hi, .int .i64 est, .int .i64 from_, .list 13 rs]], .live 7 [[.int .i64 1, .int .i64 g, .int .i64 lo, .int .i64 hi, .int .i64 est, .int .i64 from_, .list 1 qs]]]) (fun k => 0 ≤ k ∧ k ≤ K) (fun k => (K - k).toNat) 0 (by (refine Wk.eqz (id) (by first | exact fun i _ j _ e => e | (simp only [List.length_cons, List.length_nil]; decide)) ?_; cbv; (repeat' (first | exact trivial | rfl | assumption | apply And.intro | (simp only [hz, Z.a, binStd, cmpStd, unStd, scmpStd, maxI, reduceCtorEq]; first | done | assumption) | exact RowsZ.same (by assumption) (by first | assumption | rfl) | exact FzL.mk rfl rfl rfl (by assumption) (by first | assumption | rfl) (by decide) | (refine RowsZ.one ?_; cbv))))) ⟨Int.le_refl _, K0⟩ ?_
  rintro k hinv2 Q2 hN2 hE2 hR2
  have hinv2 : 0 ≤ k ∧ k ≤ K := hinv2
  cbv
  obtain ⟨hk0, hk1⟩ := hinv2
  (split <;> rename_i hd <;> (try (simp only [hz, Z.a, binStd, cmpStd, unStd, scmpStd, maxI, reduceCtorEq] at hd)) <;> (try cbv))
  rotate_left 1
  · refine hE2 _ _ _ ?_
    cbv
    simp only [a4]
    refine hN i2 _ _ ?hx ?hI hT2
    case hx => (refine Wk.eqz (id) (by first | exact fun i _ j _ e => e | (simp only [List.length_cons, List.length_nil]; decide)) ?_; cbv; (repeat' (first | exact trivial | rfl | assumption | apply And.intro | (simp only [hz, Z.a, binStd, cmpStd, unStd, scmpStd, maxI, reduceCtorEq]; first | done | assumption) | exact RowsZ.same (by assumption) (by first | assumption | rfl) | exact FzL.mk rfl rfl rfl (by assumption) (by first | assumption | rfl) (by decide) | (refine RowsZ.one ?_; cbv))))
    case hI => exact ⟨by omega, by omega⟩
  obtain ⟨c, hcj⟩ : ∃ c, l[k.toNat]? = some c := ⟨_, List.getElem?_eq_getElem (show k.toNat < l.length by omega)⟩
  have hxj : xs[k.toNat]? = some [.int .i64 c] := by rw [exs, List.getElem?_map, hcj]; rfl
  obtain ⟨k2, ek2⟩ : ∃ z, z = k + 1 := ⟨_, rfl⟩
  have a5 : wbin .add .i64 k 1 = k2 := by rw [hbin, ek2]; show IntKind.i64.wrap (k + 1) = k + 1; rw [IntKind.wrap_i64]; omega
  repeat' (first
    | (refine Idx.mk _ hk0 hxj ?_; cbv)
    | (refine Idx.mk _ hi0 hqi ?_; cbv)
    | (simp only [c1]; cbv))
  simp only [a5]
  refine hN2 k2 _ _ ?hx ?hI ?ht
  case hx => (refine Wk.eqz (id) (by first | exact fun i _ j _ e => e | (simp only [List.length_cons, List.length_nil]; decide)) ?_; cbv; (repeat' (first | exact trivial | rfl | assumption | apply And.intro | (simp only [hz, Z.a, binStd, cmpStd, unStd, scmpStd, maxI, reduceCtorEq]; first | done | assumption) | exact RowsZ.same (by assumption) (by first | assumption | rfl) | exact FzL.mk rfl rfl rfl (by assumption) (by first | assumption | rfl) (by decide) | (refine RowsZ.one ?_; cbv))))
  case hI => exact ⟨by omega, by omega⟩
  case ht => omega
theorem e_same21Z : PCalls Try.prog 32 [.agg [.bool false, .int .i64 0, .int .i64 0, .int .i64 0, .int .i64 0, .int .i64 0, .nils], .agg [.int .i64 0, .int .i64 0, .int .i64 0, .int .i64 0, .int .i64 0, .int .i64 0, .nils]] (· = .bool true) := by
  (refine PCalls.ofY Try.func32 (by kernel_rfl) (by kernel_rfl) fun w hw R hR => ?_); (subst hw); (conv => arg 2; cbv); (generalize hP : Try.prog = P); cbv
  (refine Loop.rounds rfl 1 ?_; cbv)
  exact ⟨_, Vw.same rfl, hR _ rfl⟩
theorem e_anchor21 : PCalls Try.prog 25 [] (· = .bool true) := by
  have h1 := e_reset ([⟨900, [(0, 0)], []⟩].map sgRow) ([⟨1, 0, 125, 2, 0⟩].map grRow) (up_sg _) (up_gr _) 0 (by decide) ⟨1, 0, 125, 2, 0⟩ rfl 1024 131072 131072 0 0 0 1000 100 3 1 128 0 5 1 (by decide) (by decide) 10 20 (-5) 25 10 ⟨by decide, by decide⟩ (by decide) (by decide) (by decide) (by decide) _ rfl
  have h1 : PCalls Try.prog 29 [.agg [.int .i64 1024, .int .i64 131072, .int .i64 131072, .int .i64 0, .int .i64 0, .int .i64 0, .int .i64 1000, .int .i64 100, .int .i64 3, .int .i64 1, .int .i64 128, .int .i64 0, .int .i64 5, .int .i64 1], .agg [.list 3 [[.int .i64 900, .list 2 [[.int .i64 0, .int .i64 0]], .nils]], .list 5 [[.int .i64 1, .int .i64 0, .int .i64 125, .int .i64 2, .int .i64 0]]], .int .i64 0, .agg [.int .i64 10, .int .i64 20]] (· = .agg [.bool true, .int .i64 0, .int .i64 (-5), .int .i64 25, .int .i64 10, .int .i64 125, .list 13 [[.int .i64 1, .int .i64 0, .int .i64 0, .int .i64 0, .int .i64 0, .int .i64 0, .int .i64 0, .int .i64 0, .int .i64 0, .int .i64 0, .int .i64 0, .int .i64 0, .int .i64 0]]]) := PCalls.le h1 rfl
  (refine PCalls.ofY Try.func25 (by kernel_rfl) (by kernel_rfl) fun w hw R hR => ?_); (subst hw); (conv => arg 2; cbv); (generalize hP : Try.prog = P); cbv
  refine Call.stepE (by rw [← hP]; exact h1) rfl ?_
  cbv
  exact ⟨_, Vw.same rfl, hR _ rfl⟩
end Go.Proofs.Ytpiocfmdjgbamaa

/- A way within the places stays one of the ways, plainly. -/
namespace Go.Proofs.Ytpiocfmdjgbamaa
open Go Go.RowKit Go.Eng
variable {ss : List Sg} {lo hi from_ : Int}
def chainP (ss : List Sg) (P : List Int) : Prop := ∀ (c : List Int) (n : Int) (rest : List Int), P = c ++ n :: rest → c ≠ [] → n ∈ nxAt ss (lastI c)
theorem reach_down (hln : LensOk ss) : ∀ (f : Nat) (c : List Int), c.length ≤ 12 → 13 ≤ c.length + f → (∀ k, Reach ss hi from_ c k → ¬ overP ss hi from_ k) → ∃ k, Reach ss hi from_ c k ∧ endP ss hi from_ k ∧ c <+: k ∧ endF ss from_ c ≤ endF ss from_ k
  | 0, c, hc, hf, _ => absurd hf (by omega)
  | f + 1, c, hc, hf, ho => by
    by_cases he : endP ss hi from_ c
    · exact ⟨c, .refl _, he, List.prefix_refl _, Int.le_refl _⟩
    · have h12 : c.length ≠ 12 := fun h => ho c (.refl _) ⟨he, h⟩
      obtain ⟨n, hn⟩ : ∃ n, n ∈ nxAt ss (lastI c) := by
        cases h : nxAt ss (lastI c) with
        | nil => exact absurd (.inr h) he
        | cons n l => exact ⟨n, List.mem_cons_self⟩
      obtain ⟨k, h1, h2, h3, h4⟩ := reach_down hln f (c ++ [n]) (by simp; omega) (by simp; omega) fun k hk => ho k (.step he h12 hn hk)
      rw [endF_snoc] at h4
      have := (lenAt_le hln n).1
      exact ⟨k, .step he h12 hn h1, h2, (List.prefix_append c [n]).trans h3, by omega⟩
theorem reach_follow (hln : LensOk ss) {P : List Int} (hP : chainP ss P) (h12 : P.length ≤ 12) (hlo : lo ≤ hi) (hend : lo ≤ endF ss from_ P) : ∀ (rest c : List Int), P = c ++ rest → c ≠ [] → (∀ k, Reach ss hi from_ c k → ¬ overP ss hi from_ k) → ∃ k, Reach ss hi from_ c k ∧ leafP ss lo hi from_ k ∧ (k <+: P ∨ P <+: k)
  | [], c, hc, h0, ho => by
    rw [List.append_nil] at hc
    subst hc
    obtain ⟨k, h1, h2, h3, h4⟩ := reach_down hln 13 P h12 (by omega) ho
    exact ⟨k, h1, ⟨by omega, h2⟩, .inr h3⟩
  | n :: rest, c, hc, h0, ho => by
    have hn := hP c n rest hc h0
    by_cases he : endP ss hi from_ c
    · refine ⟨c, .refl _, ⟨?_, he⟩, .inl ⟨n :: rest, hc.symm⟩⟩
      rcases he with h | h
      · omega
      · rw [h] at hn; simp at hn
    · have hc12 : c.length ≠ 12 := fun h => ho c (.refl _) ⟨he, h⟩
      obtain ⟨k, h1, h2, h3⟩ := reach_follow hln hP h12 hlo hend rest (c ++ [n]) (by rw [hc]; simp) (by simp) fun k hk => ho k (.step he hc12 hn hk)
      exact ⟨k, .step he hc12 hn h1, h2, h3⟩
theorem keeps (hln : LensOk ss) {P : List Int} (hP : chainP ss P) (h12 : P.length ≤ 12) (ls : List (List Int)) (hl : ∀ l, l ∈ ls → WayOk ss l) (hc : ∃ r, r ∈ ls ∧ (r <+: P ∨ P <+: r)) (h1 : lo ≤ endF ss from_ P) (h2 : -from_ ≤ lo) (h3 : lo ≤ hi) {v : (Int × List (List Int)) × Int} (hv : v = growA ss lo hi from_ ls) : v.2 = 13 ∨ (v.2 = 0 ∧ ∃ k, k ∈ v.1.2 ∧ (k <+: P ∨ P <+: k)) := by
  have hA := growS_fp (ss := ss) (lo := lo) (hi := hi) (from_ := from_) ls hl
  have he := growS_e (ss := ss) (lo := lo) (hi := hi) (from_ := from_) ls
  unfold growA at hv
  rw [if_neg (by omega)] at hv
  by_cases h0 : (growS ss lo hi from_ ls).1 = 0
  · rw [if_neg (by simp [h0])] at hv
    obtain ⟨a1, a2⟩ := hA.good h0
    obtain ⟨r, hr, hrp⟩ := hc
    have hro := (hl r hr).len
    have ho : ∀ k, Reach ss hi from_ r k → ¬ overP ss hi from_ k := fun k hk => a2 k ⟨r, hr, hk⟩
    have hex : ∃ k, Reach ss hi from_ r k ∧ leafP ss lo hi from_ k ∧ (k <+: P ∨ P <+: k) := by
      rcases hrp with ⟨rest, hrest⟩ | hrp
      · exact reach_follow hln hP h12 h3 h1 rest r hrest.symm (fun h => by rw [h] at hro; simp at hro) ho
      · obtain ⟨k, k1, k2, k3, k4⟩ := reach_down hln 13 r hro.1 (by omega) ho
        have : endF ss from_ P ≤ endF ss from_ r := by
          obtain ⟨rest, rfl⟩ := hrp
          unfold endF; rw [List.foldl_append]
          exact (fold_le hln rest _).1
        exact ⟨k, k1, ⟨by omega, k2⟩, .inr (hrp.trans k3)⟩
    obtain ⟨k, k1, k2, k3⟩ := hex
    have hk := (a1 k).2 (.inr ⟨⟨r, hr, k1⟩, k2⟩)
    rw [if_neg (fun h => by rw [h] at hk; simp at hk)] at hv
    exact .inr ⟨by rw [hv], k, by rw [hv]; exact sortR_mem.2 hk, k3⟩
  · rw [if_pos h0] at hv
    exact .inl (by rw [hv]; exact he.resolve_left h0)
end Go.Proofs.Ytpiocfmdjgbamaa

/- Ways whose segments follow one another, plainly. -/
namespace Go.Proofs.Ytpiocfmdjgbamaa
open Go Go.RowKit Go.Eng
variable {ss : List Sg}
theorem chain_one (n : Int) : chainP ss [n] := fun c k rest h hc => by
  have : ([n] : List Int).length = (c ++ k :: rest).length := by rw [h]
  simp at this
  exact absurd (List.length_eq_zero_iff.1 (by omega)) hc
theorem chain_snoc {P : List Int} {n : Int} (hP : chainP ss P) (hn : n ∈ nxAt ss (lastI P)) : chainP ss (P ++ [n]) := fun c k rest h hc => by
  rcases List.eq_nil_or_concat rest with rfl | ⟨r, x, rfl⟩
  · obtain ⟨h1, h2⟩ := List.append_inj' h rfl
    simp at h2
    rw [← h1, ← h2]; exact hn
  · have h' : P ++ [n] = (c ++ k :: r) ++ [x] := by rw [h]; simp
    obtain ⟨h1, _⟩ := List.append_inj' h' rfl
    exact hP c k r h1 hc
structure RideOk (ss : List Sg) (sg : Int) (P : List Int) : Prop where
  ch : chainP ss P
  way : WayOk ss P
  hd : ∃ r, P = sg :: r
theorem ride_one {sg : Int} (hs : 0 ≤ sg ∧ sg.toNat < ss.length) : RideOk ss sg [sg] := ⟨chain_one sg, ⟨by simp, fun n hn => by simp at hn; rw [hn]; exact hs⟩, [], rfl⟩
theorem ride_snoc {sg n : Int} {P : List Int} (h : RideOk ss sg P) (hn : n ∈ nxAt ss (lastI P)) (hns : 0 ≤ n ∧ n.toNat < ss.length) (hl : P.length ≤ 11) : RideOk ss sg (P ++ [n]) := by
  refine ⟨chain_snoc h.ch hn, ⟨by simp; omega, fun k hk => ?_⟩, ?_⟩
  · rcases List.mem_append.1 hk with hk | hk
    · exact h.way.seg k hk
    · simp at hk; rw [hk]; exact hns
  · obtain ⟨r, rfl⟩ := h.hd
    exact ⟨r ++ [n], by simp⟩
theorem ride_pre {sg : Int} {P : List Int} (h : RideOk ss sg P) : ∃ r, r ∈ [[sg]] ∧ (r <+: P ∨ P <+: r) := by
  obtain ⟨r, rfl⟩ := h.hd
  exact ⟨[sg], by simp, .inl ⟨r, rfl⟩⟩
theorem last_get : ∀ (P : List Int), P ≠ [] → P[P.length - 1]? = some (lastI P)
  | [], h => absurd rfl h
  | [a], _ => rfl
  | a :: b :: l, _ => by
    have := last_get (b :: l) (by simp)
    simpa [lastI] using this
end Go.Proofs.Ytpiocfmdjgbamaa

/- route.Set.Has, by the engine. -/
namespace Go.Proofs.Ytpiocfmdjgbamaa
open Go Go.RowKit Go.Eng
set_option maxRecDepth 100000
def meetP (l p : List Int) : Bool := decide (l.take (min l.length p.length) = p.take (min l.length p.length))
theorem meetP_iff {l p : List Int} : meetP l p = true ↔ (l <+: p ∨ p <+: l) := by
  unfold meetP
  rw [decide_eq_true_iff]
  rcases Nat.le_total l.length p.length with h | h
  · rw [Nat.min_eq_left h, List.take_of_length_le (Nat.le_refl _)]
    constructor
    · intro e; exact .inl (by rw [e]; exact List.take_prefix _ _)
    · rintro (⟨r, rfl⟩ | ⟨r, rfl⟩)
      · simp
      · have : r = [] := List.length_eq_zero_iff.1 (by simp at h; omega)
        subst this; simp
  · rw [Nat.min_eq_right h, List.take_of_length_le (l := p) (Nat.le_refl _)]
    constructor
    · intro e; exact .inr (by rw [← e]; exact List.take_prefix _ _)
    · rintro (⟨r, rfl⟩ | ⟨r, rfl⟩)
      · have : r = [] := List.length_eq_zero_iff.1 (by simp at h; omega)
        subst this; simp
      · simp
theorem nx_inj {l p : List Int} (h : l.map nxRow = p.map nxRow) : l = p := List.map_inj_right (f := nxRow) (fun x y h => by simp [nxRow] at h; exact h) |>.1 h
set_option maxHeartbeats 2000000 in
theorem e_equal (l p : List Int) (hn : l.length = p.length) (h12 : l.length ≤ 1000) : PCalls Try.prog 62 [.list 1 (l.map nxRow), .list 1 (p.map nxRow)] (· = .bool (decide (l = p))) := by
  obtain ⟨es, ees⟩ : ∃ x, l.map nxRow = x := ⟨_, rfl⟩
  obtain ⟨ds, eds⟩ : ∃ x, p.map nxRow = x := ⟨_, rfl⟩
  have hel : es.length = l.length := by rw [← ees]; simp
  have hdl : ds.length = l.length := by rw [← eds]; simp [hn]
  have hue : Up0 es := by rw [← ees]; exact up_nx l
  have hud : Up0 ds := by rw [← eds]; exact up_nx p
  obtain ⟨o, eo⟩ : ∃ o, decide (l = p) = o := ⟨_, rfl⟩
  rw [ees, eds, eo]
  (refine PCalls.ofY Try.func62 (by kernel_rfl) (by kernel_rfl) fun w hw R hR => ?_); (obtain ⟨wbin, wcmp, wun, wconv, wnot, wbeq, wmm, wscmp, wsadd, wslen, wsat, weqs, wlen, wnlen, wofNat, wtake, wdrop, wapp, wzero, wnat⟩ := w); (have hbin := Z.w1 hw); (have hcmp := Z.w2 hw); (have hun := Z.w3 hw); (have hconv := Z.w4 hw); (have hnot := Z.w5 hw); (have hbeq := Z.w6 hw); (have hmm := Z.w7 hw); (have hscmp := Z.w8 hw); (have hsadd := Z.w9 hw); (have hslen := Z.w10 hw); (have hsat := Z.w11 hw); (have heqs := Z.w12 hw); (have hlen := Z.w13 hw); (have hnlen := Z.w14 hw); (have hofNat := Z.w15 hw); (have htake := Z.w16 hw); (have hdrop := Z.w17 hw); (have happ := Z.w18 hw); (have hzero := Z.w19 hw); (have hnat := Z.w20 hw); (have hz := Z.z hw); (conv => arg 2; cbv); (generalize hP : Try.prog = P); cbv
  (obtain ⟨L, eL, L0, Ln⟩ : ∃ L : Int, wlen es = L ∧ 0 ≤ L ∧ L.toNat = es.length := ⟨(es.length : Int), by rw [hlen], Int.natCast_nonneg _, Int.toNat_natCast _⟩)
  (obtain ⟨M, eM, M0, Mn⟩ : ∃ L : Int, wlen ds = L ∧ 0 ≤ L ∧ L.toNat = ds.length := ⟨(ds.length : Int), by rw [hlen], Int.natCast_nonneg _, Int.toNat_natCast _⟩)
  have hLM : L = M := by omega
  have c1 : ∀ x, wcmp .neq x x = false := fun x => by rw [hcmp]; simp [cmpStd]
  simp only [eL, eM, ← hLM, c1]
  cbv
  simp only [eL]
  refine Loop.data hw (S := Int) (fun i => fr 26 [(0, .list 1 es), (1, .list 1 ds), (12, .int .i64 L), (13, .int .i64 i)]) (fun _ => []) (fun i => 0 ≤ i ∧ i ≤ L ∧ l.take i.toNat = p.take i.toNat) (fun i => (L - i).toNat) 0 (by (refine Wk.eqz (id) (by first | exact fun i _ j _ e => e | (simp only [List.length_cons, List.length_nil]; decide)) ?_; cbv; (repeat' (first | exact trivial | rfl | assumption | apply And.intro | (simp only [hz, Z.a, binStd, cmpStd, unStd, scmpStd, maxI, reduceCtorEq]; first | done | assumption) | exact RowsZ.same (by assumption) (by first | assumption | rfl) | exact FzL.mk rfl rfl rfl (by assumption) (by first | assumption | rfl) (by decide) | (refine RowsZ.one ?_; cbv))))) ⟨Int.le_refl _, L0, by simp⟩ ?_
  rintro i hinv Q' hN hE hR'
  have hinv : 0 ≤ i ∧ i ≤ L ∧ l.take i.toNat = p.take i.toNat := hinv
  cbv
  obtain ⟨hi0, hi1, hl⟩ := hinv
  (split <;> rename_i hc <;> (try (simp only [hz, Z.a, binStd, cmpStd, unStd, scmpStd, maxI, reduceCtorEq] at hc)) <;> (try cbv))
  rotate_left 1
  · refine hE _ _ _ ?_
    cbv
    have e : l = p := by rwa [List.take_of_length_le (by omega), List.take_of_length_le (by omega)] at hl
    exact ⟨_, Vw.same rfl, hR _ (congrArg AV.bool (by rw [← eo]; simp [e]))⟩
  obtain ⟨x, hx⟩ : ∃ x, l[i.toNat]? = some x := ⟨_, List.getElem?_eq_getElem (show i.toNat < l.length by omega)⟩
  obtain ⟨y, hy⟩ : ∃ x, p[i.toNat]? = some x := ⟨_, List.getElem?_eq_getElem (show i.toNat < p.length by omega)⟩
  have hxr : es[i.toNat]? = some [.int .i64 x] := by rw [← ees, List.getElem?_map, hx]; rfl
  have hyr : ds[i.toNat]? = some [.int .i64 y] := by rw [← eds, List.getElem?_map, hy]; rfl
  obtain ⟨i2, ei2⟩ : ∃ z, z = i + 1 := ⟨_, rfl⟩
  have a4 : wbin .add .i64 i 1 = i2 := by rw [hbin, ei2]; show IntKind.i64.wrap (i + 1) = i + 1; rw [IntKind.wrap_i64]; omega
  repeat' (first
    | (refine Idx.mk _ hi0 hxr ?_; cbv)
    | (refine Idx.mk _ hi0 hyr ?_; cbv))
  (split <;> rename_i he <;> (try (simp only [hz, Z.a, binStd, cmpStd, unStd, scmpStd, maxI, reduceCtorEq] at he)) <;> (try cbv))
  · refine hR' _ _ ⟨_, Vw.same rfl, hR _ (congrArg AV.bool ?_)⟩
    rw [← eo]
    have : ¬ l = p := fun h => by rw [h, hy] at hx; cases hx; exact he rfl
    simp [this]
  · simp only [a4]
    refine hN i2 _ _ ?hx ?hI ?ht
    case hx => (refine Wk.eqz (id) (by first | exact fun i _ j _ e => e | (simp only [List.length_cons, List.length_nil]; decide)) ?_; cbv; (repeat' (first | exact trivial | rfl | assumption | apply And.intro | (simp only [hz, Z.a, binStd, cmpStd, unStd, scmpStd, maxI, reduceCtorEq]; first | done | assumption) | exact RowsZ.same (by assumption) (by first | assumption | rfl) | exact FzL.mk rfl rfl rfl (by assumption) (by first | assumption | rfl) (by decide) | (refine RowsZ.one ?_; cbv))))
    case hI => exact ⟨by omega, by omega, by rw [ei2, take_next hi0 hx, take_next hi0 hy, hl, he]⟩
    case ht => omega
set_option maxHeartbeats 2000000 in
theorem e_has1 (l p : List Int) (hl : l.length ≤ 12) (hp : p.length ≤ 12) (ps : List (List AV)) (hps : ps = p.map nxRow) :
    PCalls Try.prog 61 [.agg (rtC l), .cref [.list 1 ps]] (· = .bool (meetP l p)) := by
  have hup : Up0 ps := by rw [hps]; exact up_nx p
  have hpa := e_pathL l hl
  have hq := e_equal (l.take (min l.length p.length)) (p.take (min l.length p.length)) (by rw [List.length_take, List.length_take]; omega) (by rw [List.length_take]; omega)
  obtain ⟨o, eo⟩ : ∃ o, meetP l p = o := ⟨_, rfl⟩
  obtain ⟨row, erow⟩ : ∃ row, row = toR l := ⟨_, rfl⟩
  show PCalls Try.prog 61 [.agg (toR l).row, .cref [.list 1 ps]] (· = .bool (meetP l p))
  rw [← erow]
  obtain ⟨n, s0, s1, s2, s3, s4, s5, s6, s7, s8, s9, s10, s11⟩ := row
  obtain ⟨xs, exs⟩ : ∃ x, x = l.map nxRow := ⟨_, rfl⟩
  have huxs : Up0 xs := by rw [exs]; exact up_nx l
  have hxl : xs.length = l.length := by rw [exs]; simp
  have hpl : ps.length = p.length := by rw [hps]; simp
  have hpa : PCalls Try.prog 54 [.agg [.int .i64 n, .int .i64 s0, .int .i64 s1, .int .i64 s2, .int .i64 s3, .int .i64 s4, .int .i64 s5, .int .i64 s6, .int .i64 s7, .int .i64 s8, .int .i64 s9, .int .i64 s10, .int .i64 s11]] (· = .list 1 xs) := by rw [exs]; rw [show rtC l = (toR l).row from rfl, ← erow] at hpa; exact hpa
  (refine PCalls.ofY Try.func61 (by kernel_rfl) (by kernel_rfl) fun w hw R hR => ?_); (obtain ⟨wbin, wcmp, wun, wconv, wnot, wbeq, wmm, wscmp, wsadd, wslen, wsat, weqs, wlen, wnlen, wofNat, wtake, wdrop, wapp, wzero, wnat⟩ := w); (have hbin := Z.w1 hw); (have hcmp := Z.w2 hw); (have hun := Z.w3 hw); (have hconv := Z.w4 hw); (have hnot := Z.w5 hw); (have hbeq := Z.w6 hw); (have hmm := Z.w7 hw); (have hscmp := Z.w8 hw); (have hsadd := Z.w9 hw); (have hslen := Z.w10 hw); (have hsat := Z.w11 hw); (have heqs := Z.w12 hw); (have hlen := Z.w13 hw); (have hnlen := Z.w14 hw); (have hofNat := Z.w15 hw); (have htake := Z.w16 hw); (have hdrop := Z.w17 hw); (have happ := Z.w18 hw); (have hzero := Z.w19 hw); (have hnat := Z.w20 hw); (have hz := Z.z hw); (conv => arg 2; cbv); (generalize hP : Try.prog = P); cbv
  (obtain ⟨L, eL, L0, Ln⟩ : ∃ L : Int, wlen xs = L ∧ 0 ≤ L ∧ L.toNat = xs.length := ⟨(xs.length : Int), by rw [hlen], Int.natCast_nonneg _, Int.toNat_natCast _⟩)
  (obtain ⟨M, eM, M0, Mn⟩ : ∃ L : Int, wlen ps = L ∧ 0 ≤ L ∧ L.toNat = ps.length := ⟨(ps.length : Int), by rw [hlen], Int.natCast_nonneg _, Int.toNat_natCast _⟩)
  refine Call.stepE (by rw [← hP]; exact hpa) rfl ?_
  cbv
  simp only [eL, eM]
  obtain ⟨k, ek⟩ : ∃ k, min L M = k := ⟨_, rfl⟩
  have e1 : wmm false L M = k := by rw [hmm]; simp only [maxI, Bool.false_eq_true, if_false]; split <;> omega
  simp only [e1]
  have hk0 : 0 ≤ k ∧ k ≤ L ∧ k ≤ M := by omega
  obtain ⟨x1, ex1⟩ : ∃ x1, x1 = (l.take (min l.length p.length)).map nxRow := ⟨_, rfl⟩
  obtain ⟨x2, ex2⟩ : ∃ x1, x1 = (p.take (min l.length p.length)).map nxRow := ⟨_, rfl⟩
  have et1 : wtake xs k = x1 := by rw [htake]; show xs.take k.toNat = x1; rw [ex1, exs, List.map_take, show k.toNat = min l.length p.length by omega]
  have et2 : wtake ps k = x2 := by rw [htake]; show ps.take k.toNat = x2; rw [ex2, hps, List.map_take, show k.toNat = min l.length p.length by omega]
  have hu1 : Up0 x1 := by rw [ex1]; exact up_nx _
  have hu2 : Up0 x2 := by rw [ex2]; exact up_nx _
  rw [← ex1, ← ex2, show decide (l.take (min l.length p.length) = p.take (min l.length p.length)) = o from eo] at hq
  simp only [et1, et2]
  refine Nn.mk (by omega) ?_
  refine Le.mk (by omega) ?_
  refine Nn.mk (by omega) ?_
  refine Le.mk (by omega) ?_
  refine QCal.stepE (by rw [← hP]; exact hq) (by simp only [uptoL, AV.upto, hu1.get, hu2.get]; rfl) ?_
  cbv
  exact ⟨_, Vw.same rfl, hR _ (congrArg AV.bool eo.symm)⟩
set_option maxHeartbeats 2000000 in
theorem e_hasI (ls : List (List Int)) (hls : ∀ l, l ∈ ls → l.length ≤ 12) (hmax : ls.length ≤ 1000) (p : List Int) (hp : p.length ≤ 12) (rs ps : List (List AV)) (hrs : rs = ls.map rtC) (hps : ps = p.map nxRow) :
    PCalls Try.prog 92 [.list 13 rs, .func (.func 61) [] [.cref [.list 1 ps]]] (fun r => ∃ n : Int, r = .int .i64 n ∧ (0 ≤ n ↔ ∃ x, x ∈ ls ∧ meetP x p = true)) := by
  have hu : Up0 rs := by rw [hrs]; exact up_map (f := rtC) (fun d => rfl) ls
  have hup : Up0 ps := by rw [hps]; exact up_nx p
  have hel : rs.length = ls.length := by rw [hrs]; simp
  (refine PCalls.ofY Try.func92 (by kernel_rfl) (by kernel_rfl) fun w hw R hR => ?_); (obtain ⟨wbin, wcmp, wun, wconv, wnot, wbeq, wmm, wscmp, wsadd, wslen, wsat, weqs, wlen, wnlen, wofNat, wtake, wdrop, wapp, wzero, wnat⟩ := w); (have hbin := Z.w1 hw); (have hcmp := Z.w2 hw); (have hun := Z.w3 hw); (have hconv := Z.w4 hw); (have hnot := Z.w5 hw); (have hbeq := Z.w6 hw); (have hmm := Z.w7 hw); (have hscmp := Z.w8 hw); (have hsadd := Z.w9 hw); (have hslen := Z.w10 hw); (have hsat := Z.w11 hw); (have heqs := Z.w12 hw); (have hlen := Z.w13 hw); (have hnlen := Z.w14 hw); (have hofNat := Z.w15 hw); (have htake := Z.w16 hw); (have hdrop := Z.w17 hw); (have happ := Z.w18 hw); (have hzero := Z.w19 hw); (have hnat := Z.w20 hw); (have hz := Z.z hw); (conv => arg 2; cbv); (generalize hP : Try.prog = P); cbv
  (obtain ⟨L, eL, L0, Ln⟩ : ∃ L : Int, wlen rs = L ∧ 0 ≤ L ∧ L.toNat = rs.length := ⟨(rs.length : Int), by rw [hlen], Int.natCast_nonneg _, Int.toNat_natCast _⟩)
  refine Loop.data hw (S := Int) (fun i => fr 19 [(0, .list 13 rs), (1, .func (.func 61) [] [.cref [.list 1 ps]]), (6, .list 13 rs), (7, .int .i64 L), (8, .int .i64 i)]) (fun i => []) (fun i => 0 ≤ i ∧ i ≤ L ∧ ∀ x, x ∈ ls.take i.toNat → meetP x p = false) (fun i => (L - i).toNat) 0 (by (refine Wk.eqz (id) (by first | exact fun i _ j _ e => e | (simp only [List.length_cons, List.length_nil]; decide)) ?_; cbv; (repeat' (first | exact trivial | rfl | assumption | apply And.intro | (simp only [hz, Z.a, binStd, cmpStd, unStd, scmpStd, maxI, reduceCtorEq]; first | done | assumption) | exact RowsZ.same (by assumption) (by first | assumption | rfl) | exact FzL.mk rfl rfl rfl (by assumption) (by first | assumption | rfl) (by decide) | (refine RowsZ.one ?_; cbv))))) ⟨Int.le_refl _, L0, fun x hx => (by simp at hx)⟩ ?_
  rintro i hinv Q' hN hE hR'
  have hinv : 0 ≤ i ∧ i ≤ L ∧ ∀ x, x ∈ ls.take i.toNat → meetP x p = false := hinv
  cbv
  obtain ⟨hi0, hi1, hl⟩ := hinv
  (split <;> rename_i hc <;> (try (simp only [hz, Z.a, binStd, cmpStd, unStd, scmpStd, maxI, reduceCtorEq] at hc)) <;> (try cbv))
  · obtain ⟨l, hd⟩ : ∃ l, ls[i.toNat]? = some l := ⟨_, List.getElem?_eq_getElem (show i.toNat < ls.length by omega)⟩
    have hrow : rs[i.toNat]? = some (toR l).row := by rw [hrs, List.getElem?_map, hd]; rfl
    have h1 := e_has1 l p (hls l (List.mem_of_getElem? hd)) hp ps hps
    obtain ⟨o, eo⟩ : ∃ o, meetP l p = o := ⟨_, rfl⟩
    rw [eo] at h1
    have h1 : PCalls Try.prog 61 [.agg (toR l).row, .cref [.list 1 ps]] (· = .bool o) := h1
    obtain ⟨row, erow⟩ : ∃ row, row = toR l := ⟨_, rfl⟩
    rw [← erow] at hrow h1
    obtain ⟨n, s0, s1, s2, s3, s4, s5, s6, s7, s8, s9, s10, s11⟩ := row
    refine Idx.mk _ hi0 hrow ?_
    cbv
    refine Call.stepE (by rw [← hP]; exact h1) (by exact Bool.and_eq_true_iff.mpr ⟨rfl, Bool.and_eq_true_iff.mpr ⟨Up0.one hup rfl, rfl⟩⟩) ?_
    obtain ⟨i', ei'⟩ : ∃ x, i + 1 = x := ⟨_, rfl⟩
    have hL2 : L < 9223372036854775807 := by omega
    have ei : wbin .add .i64 i 1 = i' := by rw [hbin, i_add (by omega) (by omega)]; exact ei'
    have hT : (L - i').toNat < (L - i).toNat := by omega
    have ht : ls.take i'.toNat = ls.take i.toNat ++ [l] := by rw [← ei', show (i + 1).toNat = i.toNat + 1 by omega, List.take_add_one, hd]; rfl
    cbv
    (split <;> rename_i h <;> (try (simp only [hz, Z.a, binStd, cmpStd, unStd, scmpStd, maxI, reduceCtorEq] at h)) <;> (try cbv))
    · exact hR' _ _ ⟨_, Vw.same rfl, hR _ ⟨_, rfl, fun _ => ⟨_, List.mem_of_getElem? hd, eo⟩, fun _ => hi0⟩⟩
    · refine hN i' _ _ ?hx ?hi hT
      case hx => (refine Wk.eqz (id) (by first | exact fun i _ j _ e => e | (simp only [List.length_cons, List.length_nil]; decide)) ?_; cbv; (repeat' (first | exact trivial | rfl | assumption | apply And.intro | (simp only [hz, Z.a, binStd, cmpStd, unStd, scmpStd, maxI, reduceCtorEq]; first | done | assumption) | exact RowsZ.same (by assumption) (by first | assumption | rfl) | exact FzL.mk rfl rfl rfl (by assumption) (by first | assumption | rfl) (by decide) | (refine RowsZ.one ?_; cbv))))
      case hi =>
        refine ⟨by omega, by omega, fun x hx => ?_⟩
        rw [ht] at hx
        rcases List.mem_append.1 hx with hx | hx
        · exact hl x hx
        · simp at hx; subst hx; exact eo
  · refine hE _ _ _ ?_
    cbv
    rw [List.take_of_length_le (by omega)] at hl
    refine ⟨_, Vw.same rfl, hR _ ⟨_, rfl, fun h => absurd h (by decide), fun ⟨x, hx, hp⟩ => ?_⟩⟩
    rw [hl x hx] at hp; cases hp
theorem e_hasC (ls : List (List Int)) (hls : ∀ l, l ∈ ls → l.length ≤ 12) (hmax : ls.length ≤ 1000) (p : List Int) (hp : p.length ≤ 12) (rs ps : List (List AV)) (hrs : rs = ls.map rtC) (hps : ps = p.map nxRow) :
    PCalls Try.prog 60 [.list 13 rs, .func (.func 61) [] [.cref [.list 1 ps]]] (· = .bool (ls.any (meetP · p))) := by
  have hu : Up0 rs := by rw [hrs]; exact up_map (f := rtC) (fun d => rfl) ls
  have hup : Up0 ps := by rw [hps]; exact up_nx p
  (refine PCalls.ofY Try.func60 (by kernel_rfl) (by kernel_rfl) fun w hw R hR => ?_); (obtain ⟨wbin, wcmp, wun, wconv, wnot, wbeq, wmm, wscmp, wsadd, wslen, wsat, weqs, wlen, wnlen, wofNat, wtake, wdrop, wapp, wzero, wnat⟩ := w); (have hbin := Z.w1 hw); (have hcmp := Z.w2 hw); (have hun := Z.w3 hw); (have hconv := Z.w4 hw); (have hnot := Z.w5 hw); (have hbeq := Z.w6 hw); (have hmm := Z.w7 hw); (have hscmp := Z.w8 hw); (have hsadd := Z.w9 hw); (have hslen := Z.w10 hw); (have hsat := Z.w11 hw); (have heqs := Z.w12 hw); (have hlen := Z.w13 hw); (have hnlen := Z.w14 hw); (have hofNat := Z.w15 hw); (have htake := Z.w16 hw); (have hdrop := Z.w17 hw); (have happ := Z.w18 hw); (have hzero := Z.w19 hw); (have hnat := Z.w20 hw); (have hz := Z.z hw); (conv => arg 2; cbv); (generalize hP : Try.prog = P); cbv
  refine Call.step (by rw [← hP]; exact e_hasI ls hls hmax p hp rs ps hrs hps) (by simp only [uptoL, AV.upto, hu.get, hup.get]; rfl) ?_
  rintro r ⟨n, rfl, hn⟩
  cbv
  refine ⟨_, Vw.same rfl, hR _ (congrArg AV.bool ?_)⟩
  rw [Bool.eq_iff_iff, List.any_eq_true, ← hn, hcmp]
  simp [cmpStd]
theorem e_has (ls : List (List Int)) (hls : ∀ l, l ∈ ls → l.length ≤ 12) (hmax : ls.length ≤ 1000) (p : List Int) (hp : p.length ≤ 12) (rs ps : List (List AV)) (hrs : rs = ls.map rtC) (hps : ps = p.map nxRow) (from_ : Int) :
    PCalls Try.prog 24 [.agg [.int .i64 from_, .list 13 rs], .list 1 ps] (· = .bool (ls.any (meetP · p))) := by
  have hu : Up0 rs := by rw [hrs]; exact up_map (f := rtC) (fun d => rfl) ls
  have hup : Up0 ps := by rw [hps]; exact up_nx p
  (refine PCalls.ofY Try.func24 (by kernel_rfl) (by kernel_rfl) fun w hw R hR => ?_); (obtain ⟨wbin, wcmp, wun, wconv, wnot, wbeq, wmm, wscmp, wsadd, wslen, wsat, weqs, wlen, wnlen, wofNat, wtake, wdrop, wapp, wzero, wnat⟩ := w); (have hbin := Z.w1 hw); (have hcmp := Z.w2 hw); (have hun := Z.w3 hw); (have hconv := Z.w4 hw); (have hnot := Z.w5 hw); (have hbeq := Z.w6 hw); (have hmm := Z.w7 hw); (have hscmp := Z.w8 hw); (have hsadd := Z.w9 hw); (have hslen := Z.w10 hw); (have hsat := Z.w11 hw); (have heqs := Z.w12 hw); (have hlen := Z.w13 hw); (have hnlen := Z.w14 hw); (have hofNat := Z.w15 hw); (have htake := Z.w16 hw); (have hdrop := Z.w17 hw); (have happ := Z.w18 hw); (have hzero := Z.w19 hw); (have hnat := Z.w20 hw); (have hz := Z.z hw); (conv => arg 2; cbv); (generalize hP : Try.prog = P); cbv
  refine Call.view (args' := [.list 13 rs, .func (.func 61) [] [.cref [.list 1 ps]]]) (by rw [← hP]; exact e_hasC ls hls hmax p hp rs ps hrs hps) ⟨Vw.same hu.list, Vw.func trivial ⟨Vw.ref (row := [.list 1 ps]) rfl rfl (Up0.one hup rfl) (Nat.zero_le _), trivial⟩, trivial⟩ ?_
  rintro r rfl
  refine ⟨rfl, ?_⟩
  generalize ls.any (meetP · p) = o at *
  cbv
  exact ⟨_, Vw.same rfl, hR _ rfl⟩
theorem has_iff {ls : List (List Int)} {p : List Int} : ls.any (meetP · p) = true ↔ ∃ r, r ∈ ls ∧ (r <+: p ∨ p <+: r) := by
  rw [List.any_eq_true]
  exact ⟨fun ⟨x, h1, h2⟩ => ⟨x, h1, meetP_iff.1 h2⟩, fun ⟨x, h1, h2⟩ => ⟨x, h1, meetP_iff.2 h2⟩⟩
end Go.Proofs.Ytpiocfmdjgbamaa

/- PlaceTrue, by the engine. -/
namespace Go.Proofs.Ytpiocfmdjgbamaa
open Go Go.RowKit Go.Eng
set_option maxRecDepth 100000
def tnRow (b : Bool) : List AV := [.bool b]
theorem up_tn (ts : List Bool) : Up0 (ts.map tnRow) := up_map (f := tnRow) (fun d => rfl) ts
def rdRow (p : Int × Int × Int) : List AV := [.int .i64 p.1, .int .i64 p.2.1, .int .i64 p.2.2]
theorem up_rd (ps : List (Int × Int × Int)) : Up0 (ps.map rdRow) := up_map (f := rdRow) (fun d => rfl) ps
set_option maxHeartbeats 8000000 in
theorem e_ptrue (c0 c1 c2 c3 c4 c5 c6 c7 c8 c9 c10 c11 c12 c13 : Int) (ss : List Sg) (gs : List Gr) (es ds : List (List AV)) (hes : es = ss.map sgRow) (hds : ds = gs.map grRow) (g at_ a0 b0 : Int) (rd : List (Int × Int × Int)) (rl : List (List AV)) (hrl : rl = rd.map rdRow) (ts : List Bool) (tl : List (List AV)) (htl : tl = ts.map tnRow) :
    PCalls Try.prog 9 [.agg [.int .i64 c0, .int .i64 c1, .int .i64 c2, .int .i64 c3, .int .i64 c4, .int .i64 c5, .int .i64 c6, .int .i64 c7, .int .i64 c8, .int .i64 c9, .int .i64 c10, .int .i64 c11, .int .i64 c12, .int .i64 c13], .agg [.list 3 es, .list 5 ds], .int .i64 g, .int .i64 at_, .agg [.int .i64 a0, .int .i64 b0], .list 3 rl, .list 1 tl] (· = .bool true) := by
  have hu : Up0 es := by rw [hes]; exact up_sg ss
  have hud : Up0 ds := by rw [hds]; exact up_gr gs
  have hurl : Up0 rl := by rw [hrl]; exact up_rd rd
  have hut : Up0 tl := by rw [htl]; exact up_tn ts
  have hrll : rl.length = rd.length := by rw [hrl]; simp
  have htll : tl.length = ts.length := by rw [htl]; simp
  have hT : uptoL 0 [.agg [.int .i64 c0, .int .i64 c1, .int .i64 c2, .int .i64 c3, .int .i64 c4, .int .i64 c5, .int .i64 c6, .int .i64 c7, .int .i64 c8, .int .i64 c9, .int .i64 c10, .int .i64 c11, .int .i64 c12, .int .i64 c13], .agg [.list 3 es, .list 5 ds], .int .i64 g] = true := by simp only [uptoL, AV.upto, hu.get, hud.get]; rfl
  (refine PCalls.ofL Try.func9 (by kernel_rfl) (by kernel_rfl) fun w hw R hR => ?_); (obtain ⟨wbin, wcmp, wun, wconv, wnot, wbeq, wmm, wscmp, wsadd, wslen, wsat, weqs, wlen, wnlen, wofNat, wtake, wdrop, wapp, wzero, wnat⟩ := w); (have hbin := Z.w1 hw); (have hcmp := Z.w2 hw); (have hun := Z.w3 hw); (have hconv := Z.w4 hw); (have hnot := Z.w5 hw); (have hbeq := Z.w6 hw); (have hmm := Z.w7 hw); (have hscmp := Z.w8 hw); (have hsadd := Z.w9 hw); (have hslen := Z.w10 hw); (have hsat := Z.w11 hw); (have heqs := Z.w12 hw); (have hlen := Z.w13 hw); (have hnlen := Z.w14 hw); (have hofNat := Z.w15 hw); (have htake := Z.w16 hw); (have hdrop := Z.w17 hw); (have happ := Z.w18 hw); (have hzero := Z.w19 hw); (have hnat := Z.w20 hw); (have hz := Z.z hw); (conv => arg 2; cbv); (generalize hP : Try.prog = P); cbv
  have hW : ∀ h : AHeap, Ret [.bool true] h R := fun h => ⟨_, Vw.same rfl, hR _ rfl⟩
  have n1 : wnot true = false := by rw [hnot]; rfl
  have n2 : wnot false = true := by rw [hnot]; rfl
  (obtain ⟨L, eL, L0, Ln⟩ : ∃ L : Int, wlen rl = L ∧ 0 ≤ L ∧ L.toNat = rl.length := ⟨(rl.length : Int), by rw [hlen], Int.natCast_nonneg _, Int.toNat_natCast _⟩)
  (obtain ⟨M, eM, M0, Mn⟩ : ∃ L : Int, wlen tl = L ∧ 0 ≤ L ∧ L.toNat = tl.length := ⟨(tl.length : Int), by rw [hlen], Int.natCast_nonneg _, Int.toNat_natCast _⟩)
  refine Call.stepE (by rw [← hP]; exact e_anchor21) rfl ?_
  cbv
  simp only [n1]
  cbv
  refine Call.step (by rw [← hP]; exact e_may21 c0 c1 c2 c3 c4 c5 c6 c7 c8 c9 c10 c11 c12 c13 ss gs es ds hes hds g) (by exact hT) ?_
  rintro r ⟨o, rfl, ho⟩
  cbv
  (split <;> rename_i h1 <;> (try (simp only [hz, Z.a, binStd, cmpStd, unStd, scmpStd, maxI, reduceCtorEq] at h1)) <;> (try cbv))
  · exact hW _
  obtain ⟨hC, hM, hg0, hg1⟩ := ho h1
  (try simp only [eL])
  (split <;> rename_i h2 <;> (try (simp only [eL] at h2)) <;> (try (simp only [hz, Z.a, binStd, cmpStd, unStd, scmpStd, maxI, reduceCtorEq] at h2)) <;> (try cbv))
  · exact hW _
  (try simp only [eM])
  (split <;> rename_i h3 <;> (try (simp only [eM] at h3)) <;> (try (simp only [hz, Z.a, binStd, cmpStd, unStd, scmpStd, maxI, reduceCtorEq] at h3)) <;> (try cbv))
  · exact hW _
  obtain ⟨u1, eu1⟩ : ∃ o, decide (a0 ≤ b0) = o := ⟨_, rfl⟩
  have s1 := e_xright u1 eu1
  obtain ⟨nm, enm⟩ : ∃ z, -c6 = z := ⟨_, rfl⟩
  obtain ⟨u2, eu2⟩ : ∃ o, decide (a0 ≤ b0 → nm ≤ a0 ∧ b0 ≤ c6) = o := ⟨_, rfl⟩
  have s2 := e_xin u2 eu2
  have hCC := hC
  unfold ConfOk at hCC
  have hC6 : 1 ≤ c6 ∧ c6 ≤ 16777216 := by omega
  have hC8 : 0 ≤ c8 ∧ c8 ≤ 1048576 := by omega
  clear hCC
  have b1 : wun .neg .i64 c6 = nm := by rw [hun, i_neg (by omega) (by omega)]; exact enm
  (first | (refine Call.stepE (v := ?_) ?_ ?_ ?_; rotate_left 1; (focus (rw [← hP]; exact s1)); (focus (exact rfl)); cbv) | (refine QCal.stepE (v := ?_) ?_ ?_ ?_; rotate_left 1; (focus (rw [← hP]; exact s1)); (focus (exact rfl)); cbv))
  (split <;> rename_i h4 <;> (try (simp only [hz, Z.a, binStd, cmpStd, unStd, scmpStd, maxI, reduceCtorEq] at h4)) <;> (try cbv))
  · exact hW _
  simp only [b1]
  (first | (refine Call.stepE (v := ?_) ?_ ?_ ?_; rotate_left 1; (focus (rw [← hP]; exact s2)); (focus (exact rfl)); cbv) | (refine QCal.stepE (v := ?_) ?_ ?_ ?_; rotate_left 1; (focus (rw [← hP]; exact s2)); (focus (exact rfl)); cbv))
  (split <;> rename_i h5 <;> (try (simp only [hz, Z.a, binStd, cmpStd, unStd, scmpStd, maxI, reduceCtorEq] at h5)) <;> (try cbv))
  · exact hW _
  rw [h4] at eu1
  rw [h5] at eu2
  have k1 : a0 ≤ b0 := of_decide_eq_true eu1
  have k2 : nm ≤ a0 ∧ b0 ≤ c6 := of_decide_eq_true eu2 k1
  obtain ⟨G, hG0⟩ : ∃ G, gs[g.toNat]? = some G := ⟨_, List.getElem?_eq_getElem hg1⟩
  have hGo := hM.tr.grp g.toNat hg1 G hG0
  obtain ⟨_, _, hq1, hq2, hq3, hq4, hq5, hq6, hq7, hq8, _⟩ := hGo
  have hoff : 0 ≤ G.off ∧ G.off ≤ 1099511627776 := by
    obtain ⟨s, hs⟩ : ∃ s, ss[G.seg.toNat]? = some s := ⟨_, List.getElem?_eq_getElem hq2⟩
    have h1 := hq4 s hs
    have h2 := (hM.tr.seg G.seg.toNat hq2 s hs).le
    omega
  have hGd : ds[g.toNat]? = some (grRow G) := by rw [hds, List.getElem?_map, hG0]; rfl
  obtain ⟨from_, efr⟩ : ∃ x, x = G.off := ⟨_, rfl⟩
  obtain ⟨lo, elo⟩ : ∃ z, -(G.acc + c8) + min 0 a0 = z := ⟨_, rfl⟩
  obtain ⟨hi, ehi⟩ : ∃ z, G.acc + c8 + max 0 b0 = z := ⟨_, rfl⟩
  obtain ⟨est, eest⟩ : ∃ z, (lo + hi) / 2 = z := ⟨_, rfl⟩
  obtain ⟨r0, er0⟩ : ∃ r : List (List AV), r = [[G.seg]].map rtC := ⟨_, rfl⟩
  obtain ⟨q0, eq0⟩ : ∃ r : List (List AV), r = [[G.seg]].map rtRow := ⟨_, rfl⟩
  have m1 := e_reset es ds hu hud g hg0 G hGd c0 c1 c2 c3 c4 c5 c6 c7 c8 c9 c10 c11 c12 c13 hC8 ⟨hq5, hq6⟩ a0 b0 lo hi est ⟨by omega, by omega⟩ ⟨by omega, by omega⟩ elo ehi eest r0 er0
  have hnx := hM.tr.nextOk
  have hln := hM.tr.lensOk
  have href := e_refsT21 ss gs es ds hes hds (by have := hM.n300; omega) (by have := hM.g500; omega) hM.ps
  have hut2 : uptoL 0 [AV.agg [.list 3 es, .list 5 ds]] = true := Bool.and_eq_true_iff.mpr ⟨Up0.one hu (Up0.one hud rfl), rfl⟩
  obtain ⟨gid, gseg, goff, gacc, gsl⟩ := G
  simp only at hq1 hq2 hq3 hq5 hq6 hq7 hq8 elo ehi m1 er0 efr hoff
  obtain rfl : goff = from_ := efr.symm
  have hur0 : Up0 r0 := by rw [er0]; exact ⟨rfl⟩
  have hp0 : PlOk ss ⟨lo, hi, est, [[gseg]]⟩ := by
    refine ⟨by simp only; omega, by simp only; omega, by simp only; omega, fun l hl => ?_, by simp⟩
    simp at hl; subst hl
    exact ⟨by simp, fun n hn => by simp at hn; subst hn; exact ⟨hq1, hq2⟩⟩
  have hGd : ds[g.toNat]? = some [.int .i64 gid, .int .i64 gseg, .int .i64 goff, .int .i64 gacc, .int .i64 gsl] := hGd
  refine Idx.mk _ hg0 hGd ?_
  cbv
  simp only [eM]
  obtain ⟨w0, ew0⟩ : ∃ x : List (List AV), x = [[.int .i64 gseg]] := ⟨_, rfl⟩
  have huw0 : Up0 w0 := by rw [ew0]; exact ⟨rfl⟩
  rw [← ew0]
  refine Loop.data hw (S := Int × List Int × List (List AV) × Nat) (fun s => fr 224 [(2, .int .i64 g), (3, .int .i64 at_), (5, .list 3 rl), (7, .ref 0 14 0 0), (8, .ref 1 2 0 0), (11, .ref 2 2 0 0), (15, .ref 3 5 0 0), (16, .sl 4 1 0 s.2.2.2), (68, .list 1 tl), (69, .int .i64 M), (70, .int .i64 s.1)])
    (fun s => [.live 14 [[.int .i64 c0, .int .i64 c1, .int .i64 c2, .int .i64 c3, .int .i64 c4, .int .i64 c5, .int .i64 c6, .int .i64 c7, .int .i64 c8, .int .i64 c9, .int .i64 c10, .int .i64 c11, .int .i64 c12, .int .i64 c13]], .live 2 [[.list 3 es, .list 5 ds]], .live 2 [[.int .i64 a0, .int .i64 b0]], .live 5 [[.int .i64 gid, .int .i64 gseg, .int .i64 goff, .int .i64 gacc, .int .i64 gsl]], .live 1 s.2.2.1])
    (fun s => 0 ≤ s.1 ∧ s.1 ≤ M ∧ RideOk ss gseg s.2.1 ∧ s.2.2.1 = s.2.1.map nxRow ∧ Up0 s.2.2.1 ∧ s.2.1.length ≤ s.1.toNat + 1 ∧ s.2.2.2 = s.2.2.1.length) (fun s => (M - s.1).toNat) (0, [gseg], w0, 1) (by (refine Wk.eqz (id) (by first | exact fun i _ j _ e => e | (simp only [List.length_cons, List.length_nil]; decide)) ?_; cbv; (repeat' (first | exact trivial | rfl | assumption | apply And.intro | (simp only [hz, Z.a, binStd, cmpStd, unStd, scmpStd, maxI, reduceCtorEq]; first | done | assumption) | exact RowsZ.same (by assumption) (by first | assumption | rfl) | exact FzL.mk rfl rfl rfl (by assumption) (by first | assumption | rfl) (by decide) | (refine RowsZ.one ?_; cbv))))) ⟨Int.le_refl _, M0, ride_one ⟨hq1, hq2⟩, ew0, huw0, by simp, by rw [ew0]; rfl⟩ ?_
  rintro ⟨i, pa, w, kk⟩ hinv Q' hN hE hR'
  have hinv : 0 ≤ i ∧ i ≤ M ∧ RideOk ss gseg pa ∧ w = pa.map nxRow ∧ Up0 w ∧ pa.length ≤ i.toNat + 1 ∧ kk = w.length := hinv
  cbv
  obtain ⟨hi0, hi1, hride, hwp, huw, hpl1, hkk⟩ := hinv
  have hwl : w.length = pa.length := by rw [hwp]; simp
  obtain ⟨W, eW, W0, Wn⟩ : ∃ W : Int, wofNat kk = W ∧ 0 ≤ W ∧ W.toNat = kk := ⟨(kk : Int), by rw [hofNat], Int.natCast_nonneg _, Int.toNat_natCast _⟩
  (split <;> rename_i hc <;> (try (simp only [hz, Z.a, binStd, cmpStd, unStd, scmpStd, maxI, reduceCtorEq] at hc)) <;> (try cbv))
  rotate_left 1
  · refine hE _ _ _ ?_
    cbv
    have hr12 := hride.way.len.1
    have hend := e_rend ss gs es ds hes hds hln goff hoff pa hr12 hride.way.seg w hwp _ rfl
    obtain ⟨en, een⟩ : ∃ x, endF ss goff pa = x := ⟨_, rfl⟩
    rw [een] at hend
    have hvwS : ∀ h, HSub [.live 14 [[.int .i64 c0, .int .i64 c1, .int .i64 c2, .int .i64 c3, .int .i64 c4, .int .i64 c5, .int .i64 c6, .int .i64 c7, .int .i64 c8, .int .i64 c9, .int .i64 c10, .int .i64 c11, .int .i64 c12, .int .i64 c13]], .live 2 [[.list 3 es, .list 5 ds]], .live 2 [[.int .i64 a0, .int .i64 b0]], .live 5 [[.int .i64 gid, .int .i64 gseg, .int .i64 goff, .int .i64 gacc, .int .i64 gsl]], .live 1 w] h → Vw h (.sl 4 1 0 kk) (.list 1 w) := fun h hs => by
      have := Vw.sl (h := h) (s := 4) (z := 1) (hs 4 _ _ rfl) huw.get (i := 0) (n := kk) (by omega)
      rwa [List.drop_zero, List.take_of_length_le (by omega)] at this
    refine QCal.stepE (by rw [← hP]; exact href) (by exact hut2) ?_
    cbv
    refine QCal.view (args' := [.agg [.list 3 es, .list 5 ds], .int .i64 goff, .list 1 w]) (by rw [← hP]; exact hend) (fun h hs => ⟨Vw.same (Up0.one hu (Up0.one hud rfl)), Vw.same rfl, hvwS h hs, trivial⟩) rfl ?_
    cbv
    (first | (refine Call.stepE (v := ?_) ?_ ?_ ?_; rotate_left 1; (focus (rw [← hP]; exact m1)); (focus (exact (by simp only [uptoL, AV.upto, hu.get, hud.get]; rfl))); cbv) | (refine QCal.stepE (v := ?_) ?_ ?_ ?_; rotate_left 1; (focus (rw [← hP]; exact m1)); (focus (exact (by simp only [uptoL, AV.upto, hu.get, hud.get]; rfl))); cbv))
    obtain ⟨u3, eu3⟩ : ∃ o, decide (lo ≤ at_ ∧ at_ ≤ hi) = o := ⟨_, rfl⟩
    have s3 := e_xhas u3 eu3
    (first | (refine Call.stepE (v := ?_) ?_ ?_ ?_; rotate_left 1; (focus (rw [← hP]; exact s3)); (focus (exact rfl)); cbv) | (refine QCal.stepE (v := ?_) ?_ ?_ ?_; rotate_left 1; (focus (rw [← hP]; exact s3)); (focus (exact rfl)); cbv))
    cases u3 with
    | false =>
      cbv
      simp only [n2]
      cbv
      (first | (refine Call.stepE (v := ?_) ?_ ?_ ?_; rotate_left 1; (focus (rw [← hP]; exact s3)); (focus (exact rfl)); cbv) | (refine QCal.stepE (v := ?_) ?_ ?_ ?_; rotate_left 1; (focus (rw [← hP]; exact s3)); (focus (exact rfl)); cbv))
      simp only [n2]
      exact hW _
    | true =>
      cbv
      simp only [n1]
      cbv
      have hat0 : lo ≤ at_ ∧ at_ ≤ hi := of_decide_eq_true eu3
      have hrows : ∀ (m : List (List Int)) (rr : List (List AV)), rr = m.map rtC → (∀ l, l ∈ m → WayOk ss l) → m.length ≤ 16 → (∃ r, r ∈ m ∧ (r <+: pa ∨ pa <+: r)) → PCalls Try.prog 24 [.agg [.int .i64 goff, .list 13 rr], .list 1 w] (· = .bool true) := fun m rr h1 h2 h3 h4 => by
        have := e_has m (fun l hl => (h2 l hl).len.1) (by omega) pa hr12 rr w h1 hwp goff
        rwa [has_iff.2 h4] at this
      have hh0 := hrows [[gseg]] r0 er0 hp0.way (by simp) (ride_pre hride)
      refine Call.view (args' := [.agg [.int .i64 goff, .list 13 r0], .list 1 w]) (by rw [← hP]; exact hh0) ⟨Vw.same (by simp only [AV.upto, uptoL, hur0.get]; rfl), hvwS _ (fun s z es h => by
        match s, h with
        | 0, h => exact h
        | 1, h => exact h
        | 2, h => exact h
        | 3, h => exact h
        | 4, h => exact h
        | s + 5, h => simp at h), trivial⟩ ?_
      rintro r rfl
      refine ⟨rfl, ?_⟩
      cbv
      simp only [n1]
      cbv
      simp only [eL]
      refine Loop.data hw (S := Int × Int × PlT × List (List AV)) (fun s => fr 224 [(3, .int .i64 s.2.1), (8, .ref 1 2 0 0), (15, .ref 3 5 0 0), (16, .list 1 w), (21, .int .i64 en), (22, .ref 4 7 0 0), (130, .list 3 rl), (131, .int .i64 L), (132, .int .i64 s.1)])
        (fun s => [.live 14 [[.int .i64 c0, .int .i64 c1, .int .i64 c2, .int .i64 c3, .int .i64 c4, .int .i64 c5, .int .i64 c6, .int .i64 c7, .int .i64 c8, .int .i64 c9, .int .i64 c10, .int .i64 c11, .int .i64 c12, .int .i64 c13]], .live 2 [[.list 3 es, .list 5 ds]], .live 2 [[.int .i64 a0, .int .i64 b0]], .live 5 [[.int .i64 gid, .int .i64 gseg, .int .i64 goff, .int .i64 gacc, .int .i64 gsl]], .live 7 [[.bool true, .int .i64 g, .int .i64 s.2.2.1.lo, .int .i64 s.2.2.1.hi, .int .i64 s.2.2.1.est, .int .i64 goff, .list 13 s.2.2.2]]])
        (fun s => 0 ≤ s.1 ∧ s.1 ≤ L ∧ PlOk ss s.2.2.1 ∧ (s.2.2.1.lo ≤ s.2.1 ∧ s.2.1 ≤ s.2.2.1.hi) ∧ s.2.2.2 = s.2.2.1.m.map rtC ∧ Up0 s.2.2.2 ∧ ∃ r, r ∈ s.2.2.1.m ∧ (r <+: pa ∨ pa <+: r)) (fun s => (L - s.1).toNat) (0, at_, ⟨lo, hi, est, [[gseg]]⟩, r0) (by (refine Wk.eqz (fun j => [0, 1, 2, 3, 5].getD j 0) (by first | exact fun i _ j _ e => e | (simp only [List.length_cons, List.length_nil]; decide)) ?_; cbv; (repeat' (first | exact trivial | rfl | assumption | apply And.intro | (simp only [hz, Z.a, binStd, cmpStd, unStd, scmpStd, maxI, reduceCtorEq]; first | done | assumption) | exact RowsZ.same (by assumption) (by first | assumption | rfl) | exact FzL.mk rfl rfl rfl (by assumption) (by first | assumption | rfl) (by decide) | (refine RowsZ.one ?_; cbv))))) ⟨Int.le_refl _, L0, hp0, hat0, er0, hur0, ride_pre hride⟩ ?_
      rintro ⟨j, at1, ⟨plo, phi, pest, pm⟩, rs1⟩ hinv2 Q2 hN2 hE2 hR2
      have hinv2 : 0 ≤ j ∧ j ≤ L ∧ PlOk ss ⟨plo, phi, pest, pm⟩ ∧ (plo ≤ at1 ∧ at1 ≤ phi) ∧ rs1 = pm.map rtC ∧ Up0 rs1 ∧ ∃ r, r ∈ pm ∧ (r <+: pa ∨ pa <+: r) := hinv2
      cbv
      obtain ⟨hj0, hj1, hpo, hat1, hrs1, hurs1, hcp⟩ := hinv2
      (split <;> rename_i hd <;> (try (simp only [hz, Z.a, binStd, cmpStd, unStd, scmpStd, maxI, reduceCtorEq] at hd)) <;> (try cbv))
      rotate_left 1
      · refine hE2 _ _ _ ?_
        cbv
        exact hW _
      have hplo := hpo.lo
      have hphi := hpo.hi
      simp only at hplo hphi
      obtain ⟨⟨a, b, vv⟩, hrj⟩ : ∃ p, rd[j.toNat]? = some p := ⟨_, List.getElem?_eq_getElem (show j.toNat < rd.length by omega)⟩
      have hdj : rl[j.toNat]? = some [.int .i64 a, .int .i64 b, .int .i64 vv] := by rw [hrl, List.getElem?_map, hrj]; rfl
      obtain ⟨j2, ej2⟩ : ∃ z, z = j + 1 := ⟨_, rfl⟩
      have b4 : wbin .add .i64 j 1 = j2 := by rw [hbin, ej2]; show IntKind.i64.wrap (j + 1) = j + 1; rw [IntKind.wrap_i64]; omega
      have hT3 : (L - j2).toNat < (L - j).toNat := by omega
      obtain ⟨u4, eu4⟩ : ∃ o, decide (a ≤ vv ∧ vv ≤ b) = o := ⟨_, rfl⟩
      have s4 := e_xhas u4 eu4
      refine Idx.mk _ hj0 hdj ?_
      cbv
      repeat' (first
        | exact hR2 _ _ (hW _)
        | (refine Call.stepE (by rw [← hP]; exact s4) rfl ?_; cbv)
        | (refine QCal.stepE (by rw [← hP]; exact s4) rfl ?_; cbv)
        | (split <;> rename_i h6 <;> (try (simp only [hz, Z.a, binStd, cmpStd, unStd, scmpStd, maxI, reduceCtorEq] at h6)) <;> (try cbv)))
      have h46 : u4 = true := by assumption
      rw [h46] at eu4
      have hv : a ≤ vv ∧ vv ≤ b := of_decide_eq_true eu4
      have hab : a ≤ b := by omega
      obtain ⟨at2, eat2⟩ : ∃ z, z = at1 + vv := ⟨_, rfl⟩
      have b6 : wbin .add .i64 at1 vv = at2 := by rw [hbin, i_add (by omega) (by omega)]; exact eat2.symm
      obtain ⟨ng, eng⟩ : ∃ z, -goff = z := ⟨_, rfl⟩
      have b7 : wun .neg .i64 goff = ng := by rw [hun, i_neg (by omega) (by omega)]; exact eng
      obtain ⟨pl2, epl2⟩ : ∃ z, plo + a = z := ⟨_, rfl⟩
      have b8 : wbin .add .i64 plo a = pl2 := by rw [hbin, i_add (by omega) (by omega)]; exact epl2
      (try simp only [b6])
      obtain ⟨⟨q, e⟩, ev⟩ : ∃ v, v = moveV ss goff ⟨plo, phi, pest, pm⟩ a b := ⟨_, rfl⟩
      obtain ⟨us, eus⟩ : ∃ x, x = q.m.map rtC := ⟨_, rfl⟩
      have huus : Up0 us := by rw [eus]; exact up_map (f := rtC) (fun d => rfl) q.m
      have hm1 := e_move ss gs es ds hes hds hln hnx g goff hoff ⟨plo, phi, pest, pm⟩ hpo rs1 hrs1 a b hab (by omega) (by omega) q e ev us eus
      have hok := moveV_ok hnx hpo hab ev
      have u1 : uptoL 0 [AV.agg [.bool true, .int .i64 g, .int .i64 plo, .int .i64 phi, .int .i64 pest, .int .i64 goff, .list 13 rs1], .agg [.list 3 es, .list 5 ds], .agg [.int .i64 a, .int .i64 b]] = true := by simp only [uptoL, AV.upto, hu.get, hud.get, hurs1.get]; rfl
      have hplain : (e = 0 → (q.lo ≤ at2 ∧ at2 ≤ q.hi) ∧ (at2 ≤ en → ∃ r, r ∈ q.m ∧ (r <+: pa ∨ pa <+: r))) ∧ (e = 40 → at2 ≤ en → pl2 < ng) := by
        have hev := ev
        unfold moveV at hev
        simp only at hev
        split at hev
        · simp only [Prod.mk.injEq] at hev
          exact ⟨fun h => by omega, fun h => by omega⟩
        · simp only [Prod.mk.injEq] at hev
          obtain ⟨hq, he⟩ := hev
          have hk := fun (h2 : -goff ≤ plo + a) (h1 : at2 ≤ en) => keeps (lo := plo + a) (hi := phi + b) (from_ := goff) hln hride.ch hr12 pm hpo.way hcp (by rw [een]; omega) h2 (by omega) rfl
          refine ⟨fun h0 => ⟨by rw [hq]; simp only; omega, fun h1 => ?_⟩, fun h0 h1 => ?_⟩
          · have h2 : -goff ≤ plo + a := by
              apply Classical.byContradiction
              intro hlt
              unfold growA at he
              rw [if_pos (by omega)] at he
              simp only at he
              omega
            rcases hk h2 h1 with h3 | h3
            · omega
            · rw [hq]; exact h3.2
          · apply Classical.byContradiction
            intro hge
            rcases hk (by omega) h1 with h3 | h3
            · omega
            · have := h3.1; omega
      obtain ⟨hp0', hp40⟩ := hplain
      by_cases he : e = 0
      · have hm1 : PCalls Try.prog 33 [.agg [.bool true, .int .i64 g, .int .i64 plo, .int .i64 phi, .int .i64 pest, .int .i64 goff, .list 13 rs1], .agg [.list 3 es, .list 5 ds], .agg [.int .i64 a, .int .i64 b]] (· = .tuple [.agg [.bool true, .int .i64 g, .int .i64 q.lo, .int .i64 q.hi, .int .i64 q.est, .int .i64 goff, .list 13 us], .int .i64 0]) := hm1.mono fun r h => h.elim (·.2) fun h => absurd he h.1
        have hq : PlOk ss q := by
          rcases hok with h | h
          · exact h.2
          · omega
        obtain ⟨hin, hcp2⟩ := hp0' he
        have hhas := fun (h : at2 ≤ en) => hrows q.m us eus hq.way hq.few (hcp2 h)
        obtain ⟨qlo, qhi, qest, qm⟩ := q
        simp only at hm1 hin eus hhas hcp2
        have s5 := e_xhas (a := qlo) (b := qhi) (x := at2) true (by simp [hin.1, hin.2])
        have z13 : wcmp .eql 0 13 = false := by rw [hcmp]; rfl
        have z20 : wcmp .eql 0 20 = false := by rw [hcmp]; rfl
        have z40 : wcmp .eql 0 40 = false := by rw [hcmp]; rfl
        have z00 : wcmp .neq 0 0 = false := by rw [hcmp]; rfl
        (first | (refine Call.stepE (v := ?_) ?_ ?_ ?_; rotate_left 1; (focus (rw [← hP]; exact hm1)); (focus (exact u1)); cbv) | (refine QCal.stepE (v := ?_) ?_ ?_ ?_; rotate_left 1; (focus (rw [← hP]; exact hm1)); (focus (exact u1)); cbv))
        simp only [z13, z20]
        cbv
        repeat' (first
          | exact hR2 _ _ (hW _)
          | (simp only [z13, z20, z40, z00, n1]; cbv)
          | (refine Call.stepE (by rw [← hP]; exact s5) rfl ?_; cbv)
          | (refine QCal.stepE (by rw [← hP]; exact s5) rfl ?_; cbv)
          | (split <;> rename_i h7 <;> (try (simp only [b7, b6] at h7)) <;> (try (simp only [hz, Z.a, binStd, cmpStd, unStd, scmpStd, maxI, reduceCtorEq] at h7)) <;> (try cbv)))
        refine Call.stepE (by rw [← hP]; exact hhas (by omega)) (by simp only [uptoL, AV.upto, huus.get, huw.get]; rfl) ?_
        cbv
        simp only [n1]
        cbv
        (try simp only [b4])
        repeat' (refine And.intro ?_ ?_)
        all_goals
          (try simp only [b4])
          refine hN2 (j2, at2, ⟨qlo, qhi, qest, qm⟩, us) _ _ ?hx ?hI hT3
          case hx => (refine Wk.eqz (id) (by first | exact fun i _ j _ e => e | (simp only [List.length_cons, List.length_nil]; decide)) ?_; cbv; (repeat' (first | exact trivial | rfl | assumption | apply And.intro | (simp only [hz, Z.a, binStd, cmpStd, unStd, scmpStd, maxI, reduceCtorEq]; first | done | assumption) | exact RowsZ.same (by assumption) (by first | assumption | rfl) | exact FzL.mk rfl rfl rfl (by assumption) (by first | assumption | rfl) (by decide) | (refine RowsZ.one ?_; cbv))))
          case hI => exact ⟨by simp only; omega, by simp only; omega, hq, hin, eus, huus, hcp2 (by omega)⟩
      · have hm1 : PCalls Try.prog 33 [.agg [.bool true, .int .i64 g, .int .i64 plo, .int .i64 phi, .int .i64 pest, .int .i64 goff, .list 13 rs1], .agg [.list 3 es, .list 5 ds], .agg [.int .i64 a, .int .i64 b]] (· = .tuple [.agg [.bool false, .int .i64 0, .int .i64 0, .int .i64 0, .int .i64 0, .int .i64 0, .nils], .int .i64 e]) := hm1.mono fun r h => h.elim (fun h => absurd h.1 he) (·.2)
        have he3 : e = 13 ∨ e = 20 ∨ e = 40 := by
          rcases hok with h | h
          · exact absurd h.1 he
          · exact h
        (first | (refine Call.stepE (v := ?_) ?_ ?_ ?_; rotate_left 1; (focus (rw [← hP]; exact hm1)); (focus (exact u1)); cbv) | (refine QCal.stepE (v := ?_) ?_ ?_ ?_; rotate_left 1; (focus (rw [← hP]; exact hm1)); (focus (exact u1)); cbv))
        rcases he3 with rfl | rfl | rfl
        · have z1 : wcmp .eql 13 13 = true := by rw [hcmp]; rfl
          simp only [z1]
          cbv
          exact hR2 _ _ (hW _)
        · have z1 : wcmp .eql 20 13 = false := by rw [hcmp]; rfl
          have z2 : wcmp .eql 20 20 = true := by rw [hcmp]; rfl
          simp only [z1]
          cbv
          simp only [z2]
          cbv
          exact hR2 _ _ (hW _)
        · have z1 : wcmp .eql 40 13 = false := by rw [hcmp]; rfl
          have z2 : wcmp .eql 40 20 = false := by rw [hcmp]; rfl
          have z3 : wcmp .eql 40 40 = true := by rw [hcmp]; rfl
          simp only [z1]
          cbv
          simp only [z2]
          cbv
          repeat' (first
            | exact hR2 _ _ (hW _)
            | (simp only [z1, z2, z3]; cbv)
            | (split <;> rename_i h7 <;> (try (simp only [b7, b6] at h7)) <;> (try (simp only [hz, Z.a, binStd, cmpStd, unStd, scmpStd, maxI, reduceCtorEq] at h7)) <;> (try cbv)))
          all_goals
            have z4 : wcmp .lss pl2 ng = true := by
              have := hp40 rfl (by omega)
              rw [hcmp]; simp [cmpStd]; omega
            (try simp only [b8, b7, z4])
            (try cbv)
            exact hR2 _ _ (hW _)
  obtain ⟨b, hb⟩ : ∃ b, ts[i.toNat]? = some b := ⟨_, List.getElem?_eq_getElem (show i.toNat < ts.length by omega)⟩
  have hbi : tl[i.toNat]? = some [.bool b] := by rw [htl, List.getElem?_map, hb]; rfl
  obtain ⟨i2, ei2⟩ : ∃ z, z = i + 1 := ⟨_, rfl⟩
  have a4 : wbin .add .i64 i 1 = i2 := by rw [hbin, ei2]; show IntKind.i64.wrap (i + 1) = i + 1; rw [IntKind.wrap_i64]; omega
  have hT2 : (M - i2).toNat < (M - i).toNat := by omega
  have hne : pa ≠ [] := by obtain ⟨r, hr⟩ := hride.hd; rw [hr]; simp
  have hp1 := hride.way.len.2
  obtain ⟨q, eq⟩ : ∃ q, q = W - 1 := ⟨_, rfl⟩
  have a5 : wbin .sub .i64 W 1 = q := by rw [hbin, i_sub (by omega) (by omega)]; exact eq.symm
  have hq0 : 0 ≤ q := by omega
  obtain ⟨la, ela⟩ : ∃ x, x = lastI pa := ⟨_, rfl⟩
  have hlq : pa[q.toNat]? = some la := by rw [ela, show q.toNat = pa.length - 1 by omega]; exact last_get pa hne
  have hwq : w[q.toNat]? = some [.int .i64 la] := by rw [hwp, List.getElem?_map, hlq]; rfl
  obtain ⟨hls0, hls1⟩ := hride.way.seg la (List.mem_of_getElem? hlq)
  obtain ⟨⟨len, pps, nx⟩, hdc, hrow⟩ := get_map (f := sgRow) (ds := ss) (i := la) hls0 hls1
  obtain ⟨hnx2, hnxs⟩ := hnx.all ⟨len, pps, nx⟩ (List.mem_of_getElem? hdc)
  simp only at hnx2 hnxs
  have hnxa : nxAt ss (lastI pa) = nx := by rw [← ela]; unfold nxAt; rw [hdc]
  obtain ⟨pq, epq⟩ : ∃ x, pps.map pcRow = x := ⟨_, rfl⟩
  obtain ⟨xn, exn⟩ : ∃ x, nx.map nxRow = x := ⟨_, rfl⟩
  have hrow : es[la.toNat]? = some [.int .i64 len, .list 2 pq, .list 1 xn] := by rw [hes, ← epq, ← exn]; exact hrow
  have hxl : xn.length = nx.length := by rw [← exn]; simp
  (obtain ⟨X, eX, X0, Xn⟩ : ∃ L : Int, wlen xn = L ∧ 0 ≤ L ∧ L.toNat = xn.length := ⟨(xn.length : Int), by rw [hlen], Int.natCast_nonneg _, Int.toNat_natCast _⟩)
  refine Idx.mk _ hi0 hbi ?_
  cbv
  simp only [eW, a5]
  refine At.mk q.toNat hq0 (by omega) (by omega) ?_
  cbv
  refine RowOf.mk _ hwq ?_
  cbv
  refine Idx.mk _ hls0 hrow ?_
  cbv
  simp only [eX]
  (split <;> rename_i h4 <;> (try (simp only [hz, Z.a, binStd, cmpStd, unStd, scmpStd, maxI, reduceCtorEq] at h4)) <;> (try cbv))
  · refine hE _ _ _ ?_
    cbv
    have hr12 := hride.way.len.1
    have hend := e_rend ss gs es ds hes hds hln goff hoff pa hr12 hride.way.seg w hwp _ rfl
    obtain ⟨en, een⟩ : ∃ x, endF ss goff pa = x := ⟨_, rfl⟩
    rw [een] at hend
    have hvwS : ∀ h, HSub [.live 14 [[.int .i64 c0, .int .i64 c1, .int .i64 c2, .int .i64 c3, .int .i64 c4, .int .i64 c5, .int .i64 c6, .int .i64 c7, .int .i64 c8, .int .i64 c9, .int .i64 c10, .int .i64 c11, .int .i64 c12, .int .i64 c13]], .live 2 [[.list 3 es, .list 5 ds]], .live 2 [[.int .i64 a0, .int .i64 b0]], .live 5 [[.int .i64 gid, .int .i64 gseg, .int .i64 goff, .int .i64 gacc, .int .i64 gsl]], .live 1 w] h → Vw h (.sl 4 1 0 kk) (.list 1 w) := fun h hs => by
      have := Vw.sl (h := h) (s := 4) (z := 1) (hs 4 _ _ rfl) huw.get (i := 0) (n := kk) (by omega)
      rwa [List.drop_zero, List.take_of_length_le (by omega)] at this
    refine QCal.stepE (by rw [← hP]; exact href) (by exact hut2) ?_
    cbv
    refine QCal.view (args' := [.agg [.list 3 es, .list 5 ds], .int .i64 goff, .list 1 w]) (by rw [← hP]; exact hend) (fun h hs => ⟨Vw.same (Up0.one hu (Up0.one hud rfl)), Vw.same rfl, hvwS h hs, trivial⟩) rfl ?_
    cbv
    (first | (refine Call.stepE (v := ?_) ?_ ?_ ?_; rotate_left 1; (focus (rw [← hP]; exact m1)); (focus (exact (by simp only [uptoL, AV.upto, hu.get, hud.get]; rfl))); cbv) | (refine QCal.stepE (v := ?_) ?_ ?_ ?_; rotate_left 1; (focus (rw [← hP]; exact m1)); (focus (exact (by simp only [uptoL, AV.upto, hu.get, hud.get]; rfl))); cbv))
    obtain ⟨u3, eu3⟩ : ∃ o, decide (lo ≤ at_ ∧ at_ ≤ hi) = o := ⟨_, rfl⟩
    have s3 := e_xhas u3 eu3
    (first | (refine Call.stepE (v := ?_) ?_ ?_ ?_; rotate_left 1; (focus (rw [← hP]; exact s3)); (focus (exact rfl)); cbv) | (refine QCal.stepE (v := ?_) ?_ ?_ ?_; rotate_left 1; (focus (rw [← hP]; exact s3)); (focus (exact rfl)); cbv))
    cases u3 with
    | false =>
      cbv
      simp only [n2]
      cbv
      (first | (refine Call.stepE (v := ?_) ?_ ?_ ?_; rotate_left 1; (focus (rw [← hP]; exact s3)); (focus (exact rfl)); cbv) | (refine QCal.stepE (v := ?_) ?_ ?_ ?_; rotate_left 1; (focus (rw [← hP]; exact s3)); (focus (exact rfl)); cbv))
      simp only [n2]
      exact hW _
    | true =>
      cbv
      simp only [n1]
      cbv
      have hat0 : lo ≤ at_ ∧ at_ ≤ hi := of_decide_eq_true eu3
      have hrows : ∀ (m : List (List Int)) (rr : List (List AV)), rr = m.map rtC → (∀ l, l ∈ m → WayOk ss l) → m.length ≤ 16 → (∃ r, r ∈ m ∧ (r <+: pa ∨ pa <+: r)) → PCalls Try.prog 24 [.agg [.int .i64 goff, .list 13 rr], .list 1 w] (· = .bool true) := fun m rr h1 h2 h3 h4 => by
        have := e_has m (fun l hl => (h2 l hl).len.1) (by omega) pa hr12 rr w h1 hwp goff
        rwa [has_iff.2 h4] at this
      have hh0 := hrows [[gseg]] r0 er0 hp0.way (by simp) (ride_pre hride)
      refine Call.view (args' := [.agg [.int .i64 goff, .list 13 r0], .list 1 w]) (by rw [← hP]; exact hh0) ⟨Vw.same (by simp only [AV.upto, uptoL, hur0.get]; rfl), hvwS _ (fun s z es h => by
        match s, h with
        | 0, h => exact h
        | 1, h => exact h
        | 2, h => exact h
        | 3, h => exact h
        | 4, h => exact h
        | s + 5, h => simp at h), trivial⟩ ?_
      rintro r rfl
      refine ⟨rfl, ?_⟩
      cbv
      simp only [n1]
      cbv
      simp only [eL]
      refine Loop.data hw (S := Int × Int × PlT × List (List AV)) (fun s => fr 224 [(3, .int .i64 s.2.1), (8, .ref 1 2 0 0), (15, .ref 3 5 0 0), (16, .list 1 w), (21, .int .i64 en), (22, .ref 4 7 0 0), (130, .list 3 rl), (131, .int .i64 L), (132, .int .i64 s.1)])
        (fun s => [.live 14 [[.int .i64 c0, .int .i64 c1, .int .i64 c2, .int .i64 c3, .int .i64 c4, .int .i64 c5, .int .i64 c6, .int .i64 c7, .int .i64 c8, .int .i64 c9, .int .i64 c10, .int .i64 c11, .int .i64 c12, .int .i64 c13]], .live 2 [[.list 3 es, .list 5 ds]], .live 2 [[.int .i64 a0, .int .i64 b0]], .live 5 [[.int .i64 gid, .int .i64 gseg, .int .i64 goff, .int .i64 gacc, .int .i64 gsl]], .live 7 [[.bool true, .int .i64 g, .int .i64 s.2.2.1.lo, .int .i64 s.2.2.1.hi, .int .i64 s.2.2.1.est, .int .i64 goff, .list 13 s.2.2.2]]])
        (fun s => 0 ≤ s.1 ∧ s.1 ≤ L ∧ PlOk ss s.2.2.1 ∧ (s.2.2.1.lo ≤ s.2.1 ∧ s.2.1 ≤ s.2.2.1.hi) ∧ s.2.2.2 = s.2.2.1.m.map rtC ∧ Up0 s.2.2.2 ∧ ∃ r, r ∈ s.2.2.1.m ∧ (r <+: pa ∨ pa <+: r)) (fun s => (L - s.1).toNat) (0, at_, ⟨lo, hi, est, [[gseg]]⟩, r0) (by (refine Wk.eqz (fun j => [0, 1, 2, 3, 5].getD j 0) (by first | exact fun i _ j _ e => e | (simp only [List.length_cons, List.length_nil]; decide)) ?_; cbv; (repeat' (first | exact trivial | rfl | assumption | apply And.intro | (simp only [hz, Z.a, binStd, cmpStd, unStd, scmpStd, maxI, reduceCtorEq]; first | done | assumption) | exact RowsZ.same (by assumption) (by first | assumption | rfl) | exact FzL.mk rfl rfl rfl (by assumption) (by first | assumption | rfl) (by decide) | (refine RowsZ.one ?_; cbv))))) ⟨Int.le_refl _, L0, hp0, hat0, er0, hur0, ride_pre hride⟩ ?_
      rintro ⟨j, at1, ⟨plo, phi, pest, pm⟩, rs1⟩ hinv2 Q2 hN2 hE2 hR2
      have hinv2 : 0 ≤ j ∧ j ≤ L ∧ PlOk ss ⟨plo, phi, pest, pm⟩ ∧ (plo ≤ at1 ∧ at1 ≤ phi) ∧ rs1 = pm.map rtC ∧ Up0 rs1 ∧ ∃ r, r ∈ pm ∧ (r <+: pa ∨ pa <+: r) := hinv2
      cbv
      obtain ⟨hj0, hj1, hpo, hat1, hrs1, hurs1, hcp⟩ := hinv2
      (split <;> rename_i hd <;> (try (simp only [hz, Z.a, binStd, cmpStd, unStd, scmpStd, maxI, reduceCtorEq] at hd)) <;> (try cbv))
      rotate_left 1
      · refine hE2 _ _ _ ?_
        cbv
        exact hW _
      have hplo := hpo.lo
      have hphi := hpo.hi
      simp only at hplo hphi
      obtain ⟨⟨a, b, vv⟩, hrj⟩ : ∃ p, rd[j.toNat]? = some p := ⟨_, List.getElem?_eq_getElem (show j.toNat < rd.length by omega)⟩
      have hdj : rl[j.toNat]? = some [.int .i64 a, .int .i64 b, .int .i64 vv] := by rw [hrl, List.getElem?_map, hrj]; rfl
      obtain ⟨j2, ej2⟩ : ∃ z, z = j + 1 := ⟨_, rfl⟩
      have b4 : wbin .add .i64 j 1 = j2 := by rw [hbin, ej2]; show IntKind.i64.wrap (j + 1) = j + 1; rw [IntKind.wrap_i64]; omega
      have hT3 : (L - j2).toNat < (L - j).toNat := by omega
      obtain ⟨u4, eu4⟩ : ∃ o, decide (a ≤ vv ∧ vv ≤ b) = o := ⟨_, rfl⟩
      have s4 := e_xhas u4 eu4
      refine Idx.mk _ hj0 hdj ?_
      cbv
      repeat' (first
        | exact hR2 _ _ (hW _)
        | (refine Call.stepE (by rw [← hP]; exact s4) rfl ?_; cbv)
        | (refine QCal.stepE (by rw [← hP]; exact s4) rfl ?_; cbv)
        | (split <;> rename_i h6 <;> (try (simp only [hz, Z.a, binStd, cmpStd, unStd, scmpStd, maxI, reduceCtorEq] at h6)) <;> (try cbv)))
      have h46 : u4 = true := by assumption
      rw [h46] at eu4
      have hv : a ≤ vv ∧ vv ≤ b := of_decide_eq_true eu4
      have hab : a ≤ b := by omega
      obtain ⟨at2, eat2⟩ : ∃ z, z = at1 + vv := ⟨_, rfl⟩
      have b6 : wbin .add .i64 at1 vv = at2 := by rw [hbin, i_add (by omega) (by omega)]; exact eat2.symm
      obtain ⟨ng, eng⟩ : ∃ z, -goff = z := ⟨_, rfl⟩
      have b7 : wun .neg .i64 goff = ng := by rw [hun, i_neg (by omega) (by omega)]; exact eng
      obtain ⟨pl2, epl2⟩ : ∃ z, plo + a = z := ⟨_, rfl⟩
      have b8 : wbin .add .i64 plo a = pl2 := by rw [hbin, i_add (by omega) (by omega)]; exact epl2
      (try simp only [b6])
      obtain ⟨⟨q, e⟩, ev⟩ : ∃ v, v = moveV ss goff ⟨plo, phi, pest, pm⟩ a b := ⟨_, rfl⟩
      obtain ⟨us, eus⟩ : ∃ x, x = q.m.map rtC := ⟨_, rfl⟩
      have huus : Up0 us := by rw [eus]; exact up_map (f := rtC) (fun d => rfl) q.m
      have hm1 := e_move ss gs es ds hes hds hln hnx g goff hoff ⟨plo, phi, pest, pm⟩ hpo rs1 hrs1 a b hab (by omega) (by omega) q e ev us eus
      have hok := moveV_ok hnx hpo hab ev
      have u1 : uptoL 0 [AV.agg [.bool true, .int .i64 g, .int .i64 plo, .int .i64 phi, .int .i64 pest, .int .i64 goff, .list 13 rs1], .agg [.list 3 es, .list 5 ds], .agg [.int .i64 a, .int .i64 b]] = true := by simp only [uptoL, AV.upto, hu.get, hud.get, hurs1.get]; rfl
      have hplain : (e = 0 → (q.lo ≤ at2 ∧ at2 ≤ q.hi) ∧ (at2 ≤ en → ∃ r, r ∈ q.m ∧ (r <+: pa ∨ pa <+: r))) ∧ (e = 40 → at2 ≤ en → pl2 < ng) := by
        have hev := ev
        unfold moveV at hev
        simp only at hev
        split at hev
        · simp only [Prod.mk.injEq] at hev
          exact ⟨fun h => by omega, fun h => by omega⟩
        · simp only [Prod.mk.injEq] at hev
          obtain ⟨hq, he⟩ := hev
          have hk := fun (h2 : -goff ≤ plo + a) (h1 : at2 ≤ en) => keeps (lo := plo + a) (hi := phi + b) (from_ := goff) hln hride.ch hr12 pm hpo.way hcp (by rw [een]; omega) h2 (by omega) rfl
          refine ⟨fun h0 => ⟨by rw [hq]; simp only; omega, fun h1 => ?_⟩, fun h0 h1 => ?_⟩
          · have h2 : -goff ≤ plo + a := by
              apply Classical.byContradiction
              intro hlt
              unfold growA at he
              rw [if_pos (by omega)] at he
              simp only at he
              omega
            rcases hk h2 h1 with h3 | h3
            · omega
            · rw [hq]; exact h3.2
          · apply Classical.byContradiction
            intro hge
            rcases hk (by omega) h1 with h3 | h3
            · omega
            · have := h3.1; omega
      obtain ⟨hp0', hp40⟩ := hplain
      by_cases he : e = 0
      · have hm1 : PCalls Try.prog 33 [.agg [.bool true, .int .i64 g, .int .i64 plo, .int .i64 phi, .int .i64 pest, .int .i64 goff, .list 13 rs1], .agg [.list 3 es, .list 5 ds], .agg [.int .i64 a, .int .i64 b]] (· = .tuple [.agg [.bool true, .int .i64 g, .int .i64 q.lo, .int .i64 q.hi, .int .i64 q.est, .int .i64 goff, .list 13 us], .int .i64 0]) := hm1.mono fun r h => h.elim (·.2) fun h => absurd he h.1
        have hq : PlOk ss q := by
          rcases hok with h | h
          · exact h.2
          · omega
        obtain ⟨hin, hcp2⟩ := hp0' he
        have hhas := fun (h : at2 ≤ en) => hrows q.m us eus hq.way hq.few (hcp2 h)
        obtain ⟨qlo, qhi, qest, qm⟩ := q
        simp only at hm1 hin eus hhas hcp2
        have s5 := e_xhas (a := qlo) (b := qhi) (x := at2) true (by simp [hin.1, hin.2])
        have z13 : wcmp .eql 0 13 = false := by rw [hcmp]; rfl
        have z20 : wcmp .eql 0 20 = false := by rw [hcmp]; rfl
        have z40 : wcmp .eql 0 40 = false := by rw [hcmp]; rfl
        have z00 : wcmp .neq 0 0 = false := by rw [hcmp]; rfl
        (first | (refine Call.stepE (v := ?_) ?_ ?_ ?_; rotate_left 1; (focus (rw [← hP]; exact hm1)); (focus (exact u1)); cbv) | (refine QCal.stepE (v := ?_) ?_ ?_ ?_; rotate_left 1; (focus (rw [← hP]; exact hm1)); (focus (exact u1)); cbv))
        simp only [z13, z20]
        cbv
        repeat' (first
          | exact hR2 _ _ (hW _)
          | (simp only [z13, z20, z40, z00, n1]; cbv)
          | (refine Call.stepE (by rw [← hP]; exact s5) rfl ?_; cbv)
          | (refine QCal.stepE (by rw [← hP]; exact s5) rfl ?_; cbv)
          | (split <;> rename_i h7 <;> (try (simp only [b7, b6] at h7)) <;> (try (simp only [hz, Z.a, binStd, cmpStd, unStd, scmpStd, maxI, reduceCtorEq] at h7)) <;> (try cbv)))
        refine Call.stepE (by rw [← hP]; exact hhas (by omega)) (by simp only [uptoL, AV.upto, huus.get, huw.get]; rfl) ?_
        cbv
        simp only [n1]
        cbv
        (try simp only [b4])
        repeat' (refine And.intro ?_ ?_)
        all_goals
          (try simp only [b4])
          refine hN2 (j2, at2, ⟨qlo, qhi, qest, qm⟩, us) _ _ ?hx ?hI hT3
          case hx => (refine Wk.eqz (id) (by first | exact fun i _ j _ e => e | (simp only [List.length_cons, List.length_nil]; decide)) ?_; cbv; (repeat' (first | exact trivial | rfl | assumption | apply And.intro | (simp only [hz, Z.a, binStd, cmpStd, unStd, scmpStd, maxI, reduceCtorEq]; first | done | assumption) | exact RowsZ.same (by assumption) (by first | assumption | rfl) | exact FzL.mk rfl rfl rfl (by assumption) (by first | assumption | rfl) (by decide) | (refine RowsZ.one ?_; cbv))))
          case hI => exact ⟨by simp only; omega, by simp only; omega, hq, hin, eus, huus, hcp2 (by omega)⟩
      · have hm1 : PCalls Try.prog 33 [.agg [.bool true, .int .i64 g, .int .i64 plo, .int .i64 phi, .int .i64 pest, .int .i64 goff, .list 13 rs1], .agg [.list 3 es, .list 5 ds], .agg [.int .i64 a, .int .i64 b]] (· = .tuple [.agg [.bool false, .int .i64 0, .int .i64 0, .int .i64 0, .int .i64 0, .int .i64 0, .nils], .int .i64 e]) := hm1.mono fun r h => h.elim (fun h => absurd h.1 he) (·.2)
        have he3 : e = 13 ∨ e = 20 ∨ e = 40 := by
          rcases hok with h | h
          · exact absurd h.1 he
          · exact h
        (first | (refine Call.stepE (v := ?_) ?_ ?_ ?_; rotate_left 1; (focus (rw [← hP]; exact hm1)); (focus (exact u1)); cbv) | (refine QCal.stepE (v := ?_) ?_ ?_ ?_; rotate_left 1; (focus (rw [← hP]; exact hm1)); (focus (exact u1)); cbv))
        rcases he3 with rfl | rfl | rfl
        · have z1 : wcmp .eql 13 13 = true := by rw [hcmp]; rfl
          simp only [z1]
          cbv
          exact hR2 _ _ (hW _)
        · have z1 : wcmp .eql 20 13 = false := by rw [hcmp]; rfl
          have z2 : wcmp .eql 20 20 = true := by rw [hcmp]; rfl
          simp only [z1]
          cbv
          simp only [z2]
          cbv
          exact hR2 _ _ (hW _)
        · have z1 : wcmp .eql 40 13 = false := by rw [hcmp]; rfl
          have z2 : wcmp .eql 40 20 = false := by rw [hcmp]; rfl
          have z3 : wcmp .eql 40 40 = true := by rw [hcmp]; rfl
          simp only [z1]
          cbv
          simp only [z2]
          cbv
          repeat' (first
            | exact hR2 _ _ (hW _)
            | (simp only [z1, z2, z3]; cbv)
            | (split <;> rename_i h7 <;> (try (simp only [b7, b6] at h7)) <;> (try (simp only [hz, Z.a, binStd, cmpStd, unStd, scmpStd, maxI, reduceCtorEq] at h7)) <;> (try cbv)))
          all_goals
            have z4 : wcmp .lss pl2 ng = true := by
              have := hp40 rfl (by omega)
              rw [hcmp]; simp [cmpStd]; omega
            (try simp only [b8, b7, z4])
            (try cbv)
            exact hR2 _ _ (hW _)
  have hgo : ∀ (c : Int) (k : Int), 0 ≤ k → nx[k.toNat]? = some c → RideOk ss gseg (pa ++ [c]) ∧ (pa ++ [c]).length ≤ i2.toNat + 1 := fun c k hk hc => by
    have hm := List.mem_of_getElem? hc
    exact ⟨ride_snoc hride (by rw [hnxa]; exact hm) (hnxs c hm) (by omega), by simp; omega⟩
  obtain ⟨c0', hc0'⟩ : ∃ c, nx[(0 : Int).toNat]? = some c := ⟨_, List.getElem?_eq_getElem (show (0 : Int).toNat < nx.length by show 0 < nx.length; omega)⟩
  have hx0 : xn[(0 : Int).toNat]? = some [.int .i64 c0'] := by rw [← exn, List.getElem?_map, hc0']; rfl
  have hleaf : ∀ (c k : Int), 0 ≤ k → nx[k.toNat]? = some c → ∃ w' : List (List AV), w ++ [[.int .i64 c]] = w' ∧ w' = (pa ++ [c]).map nxRow ∧ Up0 w' := fun c k h1 h2 => ⟨_, rfl, by rw [hwp]; simp [nxRow], by rw [hwp]; have := up_nx (pa ++ [c]); simpa [nxRow] using this⟩
  repeat' (first
    | (split <;> rename_i h5 <;> (try (simp only [eX] at h5)) <;> (try (simp only [hz, Z.a, binStd, cmpStd, unStd, scmpStd, maxI, reduceCtorEq] at h5)) <;> (try cbv))
    | (simp only [eX]; cbv))
  all_goals first
    | (obtain ⟨g1, g2⟩ := hgo c0' 0 (by decide) hc0'
       obtain ⟨w', ew', hw', huw'⟩ := hleaf c0' 0 (by decide) hc0'
       obtain ⟨k', ek'⟩ : ∃ x, x = kk + 1 := ⟨_, rfl⟩
       have hwl' : w'.length = w.length + 1 := by rw [← ew']; simp
       refine Idx.mk _ (by decide) hx0 ?_
       cbv
       refine App.mk w' k' ew'.symm hkk ek' (by omega) (by omega) ?_
       cbv
       simp only [a4]
       refine hN (i2, pa ++ [c0'], w', k') _ _ ?hx ?hI hT2
       (case hx => (refine Wk.eqz (fun j => [0, 1, 2, 3, 5].getD j 0) (by first | exact fun i _ j _ e => e | (simp only [List.length_cons, List.length_nil]; decide)) ?_; cbv; (repeat' (first | exact trivial | rfl | assumption | apply And.intro | (simp only [hz, Z.a, binStd, cmpStd, unStd, scmpStd, maxI, reduceCtorEq]; first | done | assumption) | exact RowsZ.same (by assumption) (by first | assumption | rfl) | exact FzL.mk rfl rfl rfl (by assumption) (by first | assumption | rfl) (by decide) | (refine RowsZ.one ?_; cbv)))))
       (case hI => exact ⟨by simp only; omega, by simp only; omega, g1, hw', huw', g2, by simp only; omega⟩))
    | (obtain ⟨c1', hc1'⟩ : ∃ c, nx[(1 : Int).toNat]? = some c := ⟨_, List.getElem?_eq_getElem (show (1 : Int).toNat < nx.length by show 1 < nx.length; omega)⟩
       have hx1 : xn[(1 : Int).toNat]? = some [.int .i64 c1'] := by rw [← exn, List.getElem?_map, hc1']; rfl
       obtain ⟨g1, g2⟩ := hgo c1' 1 (by decide) hc1'
       obtain ⟨w', ew', hw', huw'⟩ := hleaf c1' 1 (by decide) hc1'
       obtain ⟨k', ek'⟩ : ∃ x, x = kk + 1 := ⟨_, rfl⟩
       have hwl' : w'.length = w.length + 1 := by rw [← ew']; simp
       refine Idx.mk _ (by decide) hx1 ?_
       cbv
       refine App.mk w' k' ew'.symm hkk ek' (by omega) (by omega) ?_
       cbv
       simp only [a4]
       refine hN (i2, pa ++ [c1'], w', k') _ _ ?hx ?hI hT2
       (case hx => (refine Wk.eqz (fun j => [0, 1, 2, 3, 5].getD j 0) (by first | exact fun i _ j _ e => e | (simp only [List.length_cons, List.length_nil]; decide)) ?_; cbv; (repeat' (first | exact trivial | rfl | assumption | apply And.intro | (simp only [hz, Z.a, binStd, cmpStd, unStd, scmpStd, maxI, reduceCtorEq]; first | done | assumption) | exact RowsZ.same (by assumption) (by first | assumption | rfl) | exact FzL.mk rfl rfl rfl (by assumption) (by first | assumption | rfl) (by decide) | (refine RowsZ.one ?_; cbv)))))
       (case hI => exact ⟨by simp only; omega, by simp only; omega, g1, hw', huw', g2, by simp only; omega⟩))
end Go.Proofs.Ytpiocfmdjgbamaa

/- PlaceTrue, joined. -/
set_option maxRecDepth 100000
namespace Go.Proofs.Ytpiocfmdjgbamaa
open Go Go.RowKit Go.Eng
theorem ty_rides (x : AV) (h : TyV Try.prog 8 93 x) : ∃ ps : List (Int × Int × Int), x = .list 3 (ps.map rdRow) := by
  have h := h.one (by kernel_rfl) (show shOf Try.prog 8 93 = some [.list 3 [.int .i64, .int .i64, .int .i64]] from by kernel_rfl)
  unfold Sh.Ok at h
  obtain ⟨es, rfl, _, hr⟩ := h
  obtain ⟨ps, rfl⟩ := rows_of (f := rdRow) (es := es) fun r hrr => by
    have k0 := hr r hrr
    clear hr hrr
    obtain ⟨a, _, rfl, _, k1⟩ := ok_int k0
    obtain ⟨b, _, rfl, _, k2⟩ := ok_int k1
    obtain ⟨c, _, rfl, _, k3⟩ := ok_int k2
    obtain rfl := ok_nil k3
    exact ⟨(a, b, c), rfl⟩
  exact ⟨ps, rfl⟩
theorem ty_turnsP (x : AV) (h : TyV Try.prog 8 61 x) : ∃ ts : List Bool, x = .list 1 (ts.map tnRow) := by
  have h := h.one (by kernel_rfl) (show shOf Try.prog 8 61 = some [.list 1 [.bool]] from by kernel_rfl)
  unfold Sh.Ok at h
  obtain ⟨es, rfl, _, hr⟩ := h
  obtain ⟨ts, rfl⟩ := rows_of (f := tnRow) (es := es) fun r hrr => by
    have k0 := hr r hrr
    clear hr hrr
    obtain ⟨a, _, rfl, k1⟩ := ok_bool k0
    obtain rfl := ok_nil k1
    exact ⟨a, rfl⟩
  exact ⟨ts, rfl⟩
theorem walk_PlaceTrue (x0 x1 x2 x3 x4 x5 x6 : AV) (h0 : TyV Try.prog 8 68 x0) (h1 : TyV Try.prog 8 25 x1) (h2 : TyV Try.prog 8 3 x2) (h3 : TyV Try.prog 8 2 x3) (h4 : TyV Try.prog 8 50 x4) (h5 : TyV Try.prog 8 93 x5) (h6 : TyV Try.prog 8 61 x6) : PCalls Try.prog 9 [x0, x1, x2, x3, x4, x5, x6] (fun r => r = .bool true) := by
  obtain ⟨c0, c1, c2, c3, c4, c5, c6, c7, c8, c9, c10, c11, c12, c13, rfl⟩ := ty_conf x0 h0
  obtain ⟨ss, gs, rfl⟩ := ty_track x1 h1
  obtain ⟨g, rfl⟩ := ty_intS x2 h2
  obtain ⟨at_, rfl, _, _⟩ := ty_i64 x3 h3
  obtain ⟨a, b, rfl⟩ := ty_span x4 h4
  obtain ⟨rd, rfl⟩ := ty_rides x5 h5
  obtain ⟨ts, rfl⟩ := ty_turnsP x6 h6
  exact e_ptrue c0 c1 c2 c3 c4 c5 c6 c7 c8 c9 c10 c11 c12 c13 ss gs _ _ rfl rfl g at_ a b rd _ rfl ts _ rfl
end Go.Proofs.Ytpiocfmdjgbamaa

