/- Texts of the proof of RouteKeeps, joined by wip/tools/pack.py. -/
import Derived.Test.YtpiocfmdjgbamaaRouteGrowsP2
import Derived.Test.YtpiocfmdjgbamaaEng26
import Derived.KernelRfl
import Derived.Test.YtpiocfmdjgbamaaEng33
import Derived.Test.YtpiocfmdjgbamaaEngL
import Derived.Test.YtpiocfmdjgbamaaEng28
/- A way within the places stays one of the ways, plainly. -/
set_option linter.unusedVariables false
set_option linter.unusedSimpArgs false
namespace Go.Proofs.Ytpiocfmdjgbamaa
open Go Go.RowKit Go.Eng
variable {ss : List Sg} {lo hi from_ : Int}
/-- Each segment of a way is behind the one ahead of it. -/
def chainP (ss : List Sg) (P : List Int) : Prop := ∀ (c : List Int) (n : Int) (rest : List Int), P = c ++ n :: rest → c ≠ [] → n ∈ nxAt ss (lastI c)
theorem reach_down (hln : LensOk ss) : ∀ (f : Nat) (c : List Int), c.length ≤ 12 → 13 ≤ c.length + f → (∀ k, Reach ss hi from_ c k → ¬ overP ss hi from_ k) → ∃ k, Reach ss hi from_ c k ∧ endP ss hi from_ k ∧ c <+: k ∧ endF ss from_ c ≤ endF ss from_ k
  | 0, c, hc, hf, _ => absurd hf (by omega)
  | f + 1, c, hc, hf, ho => by
    by_cases he : endP ss hi from_ c
    · exact ⟨c, .refl _, he, List.prefix_refl _, Int.le_refl _⟩
    · have h12 : c.length ≠ 12 := fun h => ho c (.refl _) ⟨he, h⟩
      obtain ⟨n, hn⟩ : ∃ n, n ∈ nxAt ss (lastI c) := by
        cases h : nxAt ss (lastI c) with
        | nil => exact absurd (.inr h) he
        | cons n l => exact ⟨n, List.mem_cons_self⟩
      obtain ⟨k, h1, h2, h3, h4⟩ := reach_down hln f (c ++ [n]) (by simp; omega) (by simp; omega) fun k hk => ho k (.step he h12 hn hk)
      rw [endF_snoc] at h4
      have := (lenAt_le hln n).1
      exact ⟨k, .step he h12 hn h1, h2, (List.prefix_append c [n]).trans h3, by omega⟩
theorem reach_follow (hln : LensOk ss) {P : List Int} (hP : chainP ss P) (h12 : P.length ≤ 12) (hlo : lo ≤ hi) (hend : lo ≤ endF ss from_ P) : ∀ (rest c : List Int), P = c ++ rest → c ≠ [] → (∀ k, Reach ss hi from_ c k → ¬ overP ss hi from_ k) → ∃ k, Reach ss hi from_ c k ∧ leafP ss lo hi from_ k ∧ (k <+: P ∨ P <+: k)
  | [], c, hc, h0, ho => by
    rw [List.append_nil] at hc
    subst hc
    obtain ⟨k, h1, h2, h3, h4⟩ := reach_down hln 13 P h12 (by omega) ho
    exact ⟨k, h1, ⟨by omega, h2⟩, .inr h3⟩
  | n :: rest, c, hc, h0, ho => by
    have hn := hP c n rest hc h0
    by_cases he : endP ss hi from_ c
    · refine ⟨c, .refl _, ⟨?_, he⟩, .inl ⟨n :: rest, hc.symm⟩⟩
      rcases he with h | h
      · omega
      · rw [h] at hn; simp at hn
    · have hc12 : c.length ≠ 12 := fun h => ho c (.refl _) ⟨he, h⟩
      obtain ⟨k, h1, h2, h3⟩ := reach_follow hln hP h12 hlo hend rest (c ++ [n]) (by rw [hc]; simp) (by simp) fun k hk => ho k (.step he hc12 hn hk)
      exact ⟨k, .step he hc12 hn h1, h2, h3⟩
theorem keeps (hln : LensOk ss) {P : List Int} (hP : chainP ss P) (h12 : P.length ≤ 12) (ls : List (List Int)) (hl : ∀ l, l ∈ ls → WayOk ss l) (hc : ∃ r, r ∈ ls ∧ (r <+: P ∨ P <+: r)) (h1 : lo ≤ endF ss from_ P) (h2 : -from_ ≤ lo) (h3 : lo ≤ hi) {v : (Int × List (List Int)) × Int} (hv : v = growA ss lo hi from_ ls) : v.2 = 13 ∨ (v.2 = 0 ∧ ∃ k, k ∈ v.1.2 ∧ (k <+: P ∨ P <+: k)) := by
  have hA := growS_fp (ss := ss) (lo := lo) (hi := hi) (from_ := from_) ls hl
  have he := growS_e (ss := ss) (lo := lo) (hi := hi) (from_ := from_) ls
  unfold growA at hv
  rw [if_neg (by omega)] at hv
  by_cases h0 : (growS ss lo hi from_ ls).1 = 0
  · rw [if_neg (by simp [h0])] at hv
    obtain ⟨a1, a2⟩ := hA.good h0
    obtain ⟨r, hr, hrp⟩ := hc
    have hro := (hl r hr).len
    have ho : ∀ k, Reach ss hi from_ r k → ¬ overP ss hi from_ k := fun k hk => a2 k ⟨r, hr, hk⟩
    have hex : ∃ k, Reach ss hi from_ r k ∧ leafP ss lo hi from_ k ∧ (k <+: P ∨ P <+: k) := by
      rcases hrp with ⟨rest, hrest⟩ | hrp
      · exact reach_follow hln hP h12 h3 h1 rest r hrest.symm (fun h => by rw [h] at hro; simp at hro) ho
      · obtain ⟨k, k1, k2, k3, k4⟩ := reach_down hln 13 r hro.1 (by omega) ho
        have : endF ss from_ P ≤ endF ss from_ r := by
          obtain ⟨rest, rfl⟩ := hrp
          unfold endF; rw [List.foldl_append]
          exact (fold_le hln rest _).1
        exact ⟨k, k1, ⟨by omega, k2⟩, .inr (hrp.trans k3)⟩
    obtain ⟨k, k1, k2, k3⟩ := hex
    have hk := (a1 k).2 (.inr ⟨⟨r, hr, k1⟩, k2⟩)
    rw [if_neg (fun h => by rw [h] at hk; simp at hk)] at hv
    exact .inr ⟨by rw [hv], k, by rw [hv]; exact sortR_mem.2 hk, k3⟩
  · rw [if_pos h0] at hv
    exact .inl (by rw [hv]; exact he.resolve_left h0)
end Go.Proofs.Ytpiocfmdjgbamaa

/- Ways whose segments follow one another, plainly. -/
set_option linter.unusedVariables false
set_option linter.unusedSimpArgs false
namespace Go.Proofs.Ytpiocfmdjgbamaa
open Go Go.RowKit Go.Eng
variable {ss : List Sg}
theorem chain_one (n : Int) : chainP ss [n] := fun c k rest h hc => by
  have : ([n] : List Int).length = (c ++ k :: rest).length := by rw [h]
  simp at this
  exact absurd (List.length_eq_zero_iff.1 (by omega)) hc
theorem chain_snoc {P : List Int} {n : Int} (hP : chainP ss P) (hn : n ∈ nxAt ss (lastI P)) : chainP ss (P ++ [n]) := fun c k rest h hc => by
  rcases List.eq_nil_or_concat rest with rfl | ⟨r, x, rfl⟩
  · obtain ⟨h1, h2⟩ := List.append_inj' h rfl
    simp at h2
    rw [← h1, ← h2]; exact hn
  · have h' : P ++ [n] = (c ++ k :: r) ++ [x] := by rw [h]; simp
    obtain ⟨h1, _⟩ := List.append_inj' h' rfl
    exact hP c k r h1 hc
/-- A way from a segment on. -/
structure RideOk (ss : List Sg) (sg : Int) (P : List Int) : Prop where
  ch : chainP ss P
  way : WayOk ss P
  hd : ∃ r, P = sg :: r
theorem ride_one {sg : Int} (hs : 0 ≤ sg ∧ sg.toNat < ss.length) : RideOk ss sg [sg] := ⟨chain_one sg, ⟨by simp, fun n hn => by simp at hn; rw [hn]; exact hs⟩, [], rfl⟩
theorem ride_snoc {sg n : Int} {P : List Int} (h : RideOk ss sg P) (hn : n ∈ nxAt ss (lastI P)) (hns : 0 ≤ n ∧ n.toNat < ss.length) (hl : P.length ≤ 11) : RideOk ss sg (P ++ [n]) := by
  refine ⟨chain_snoc h.ch hn, ⟨by simp; omega, fun k hk => ?_⟩, ?_⟩
  · rcases List.mem_append.1 hk with hk | hk
    · exact h.way.seg k hk
    · simp at hk; rw [hk]; exact hns
  · obtain ⟨r, rfl⟩ := h.hd
    exact ⟨r ++ [n], by simp⟩
theorem ride_pre {sg : Int} {P : List Int} (h : RideOk ss sg P) : ∃ r, r ∈ [[sg]] ∧ (r <+: P ∨ P <+: r) := by
  obtain ⟨r, rfl⟩ := h.hd
  exact ⟨[sg], by simp, .inl ⟨r, rfl⟩⟩
theorem last_get : ∀ (P : List Int), P ≠ [] → P[P.length - 1]? = some (lastI P)
  | [], h => absurd rfl h
  | [a], _ => rfl
  | a :: b :: l, _ => by
    have := last_get (b :: l) (by simp)
    simpa [lastI] using this
end Go.Proofs.Ytpiocfmdjgbamaa

/- route.Set.Has, by the engine. -/
set_option linter.unusedVariables false
set_option linter.unusedSimpArgs false
namespace Go.Proofs.Ytpiocfmdjgbamaa
open Go Go.RowKit Go.Eng
set_option maxRecDepth 100000
/-- Two lists of numbers that go the same way as far as both go. -/
def meetP (l p : List Int) : Bool := decide (l.take (min l.length p.length) = p.take (min l.length p.length))
theorem meetP_iff {l p : List Int} : meetP l p = true ↔ (l <+: p ∨ p <+: l) := by
  unfold meetP
  rw [decide_eq_true_iff]
  rcases Nat.le_total l.length p.length with h | h
  · rw [Nat.min_eq_left h, List.take_of_length_le (Nat.le_refl _)]
    constructor
    · intro e; exact .inl (by rw [e]; exact List.take_prefix _ _)
    · rintro (⟨r, rfl⟩ | ⟨r, rfl⟩)
      · simp
      · have : r = [] := List.length_eq_zero_iff.1 (by simp at h; omega)
        subst this; simp
  · rw [Nat.min_eq_right h, List.take_of_length_le (l := p) (Nat.le_refl _)]
    constructor
    · intro e; exact .inr (by rw [← e]; exact List.take_prefix _ _)
    · rintro (⟨r, rfl⟩ | ⟨r, rfl⟩)
      · have : r = [] := List.length_eq_zero_iff.1 (by simp at h; omega)
        subst this; simp
      · simp
theorem nx_inj {l p : List Int} (h : l.map nxRow = p.map nxRow) : l = p := List.map_inj_right (f := nxRow) (fun x y h => by simp [nxRow] at h; exact h) |>.1 h
set_option maxHeartbeats 2000000 in
theorem e_equal (l p : List Int) (hn : l.length = p.length) (h12 : l.length ≤ 1000) : PCalls Try.prog 62 [.list 1 (l.map nxRow), .list 1 (p.map nxRow)] (· = .bool (decide (l = p))) := by
  obtain ⟨es, ees⟩ : ∃ x, l.map nxRow = x := ⟨_, rfl⟩
  obtain ⟨ds, eds⟩ : ∃ x, p.map nxRow = x := ⟨_, rfl⟩
  have hel : es.length = l.length := by rw [← ees]; simp
  have hdl : ds.length = l.length := by rw [← eds]; simp [hn]
  have hue : Up0 es := by rw [← ees]; exact up_nx l
  have hud : Up0 ds := by rw [← eds]; exact up_nx p
  obtain ⟨o, eo⟩ : ∃ o, decide (l = p) = o := ⟨_, rfl⟩
  rw [ees, eds, eo]
  (refine PCalls.ofY Try.func62 (by kernel_rfl) (by kernel_rfl) fun w hw R hR => ?_); (obtain ⟨wbin, wcmp, wun, wconv, wnot, wbeq, wmm, wscmp, wsadd, wslen, wsat, weqs, wlen, wnlen, wofNat, wtake, wdrop, wapp, wzero, wnat⟩ := w); (have hbin : wbin = binStd := congrArg Prims.bin hw); (have hcmp : wcmp = cmpStd := congrArg Prims.cmp hw); (have hun : wun = unStd := congrArg Prims.un hw); (have hconv : wconv = fun k n => k.wrap n := congrArg Prims.conv hw); (have hnot : wnot = fun b => !b := congrArg Prims.not hw); (have hbeq : wbeq = fun a b => a == b := congrArg Prims.beq hw); (have hmm : wmm = maxI := congrArg Prims.mm hw); (have hscmp : wscmp = scmpStd := congrArg Prims.scmp hw); (have hsadd : wsadd = fun x y => x ++ y := congrArg Prims.sadd hw); (have hslen : wslen = fun s => (s.size : Int) := congrArg Prims.slen hw); (have hsat : wsat = std.sat := congrArg Prims.sat hw); (have heqs : weqs = fun a b os => (eqOffs a b os).getD false := congrArg Prims.eqs hw); (have hlen : wlen = fun es => (es.length : Int) := congrArg Prims.len hw); (have hnlen : wnlen = fun es => es.length := congrArg Prims.nlen hw); (have hofNat : wofNat = (fun n : Nat => (n : Int)) := congrArg Prims.ofNat hw); (have htake : wtake = fun es b => es.take b.toNat := congrArg Prims.take hw); (have hdrop : wdrop = fun es a => es.drop a.toNat := congrArg Prims.drop hw); (have happ : wapp = fun a b => a ++ b := congrArg Prims.app hw); (have hzero : wzero = fun n z => List.replicate n.toNat z := congrArg Prims.zero hw); (have hnat : wnat = fun n => n.toNat := congrArg Prims.nat hw); (conv => arg 2; cbv); (generalize hP : Try.prog = P); cbv
  (obtain ⟨L, eL, L0, Ln⟩ : ∃ L : Int, wlen es = L ∧ 0 ≤ L ∧ L.toNat = es.length := ⟨(es.length : Int), by rw [hlen], Int.natCast_nonneg _, Int.toNat_natCast _⟩)
  (obtain ⟨M, eM, M0, Mn⟩ : ∃ L : Int, wlen ds = L ∧ 0 ≤ L ∧ L.toNat = ds.length := ⟨(ds.length : Int), by rw [hlen], Int.natCast_nonneg _, Int.toNat_natCast _⟩)
  have hLM : L = M := by omega
  have c1 : ∀ x, wcmp .neq x x = false := fun x => by rw [hcmp]; simp [cmpStd]
  simp only [eL, eM, ← hLM, c1]
  cbv
  simp only [eL]
  refine Loop.data hw (S := Int) (fun i => fr 26 [(0, .list 1 es), (1, .list 1 ds), (12, .int .i64 L), (13, .int .i64 i)]) (fun _ => []) (fun i => 0 ≤ i ∧ i ≤ L ∧ l.take i.toNat = p.take i.toNat) (fun i => (L - i).toNat) 0 (by (refine Wk.eqz (id) (by first | exact fun i _ j _ e => e | (simp only [List.length_cons, List.length_nil]; decide)) ?_; cbv; (repeat' (first | exact trivial | rfl | assumption | apply And.intro | (simp only [hbin, hcmp, hun, hconv, hnot, hbeq, hmm, hscmp, hsadd, hslen, hsat, heqs, hofNat, binStd, cmpStd, unStd, scmpStd, maxI, Bool.not_eq_true', Bool.not_eq_false', decide_eq_true_eq, decide_eq_false_iff_not, Int.not_lt, Int.not_le, if_true, if_false, Bool.false_eq_true, beq_iff_eq, bne_iff_ne, ne_eq, Bool.not_eq_eq_eq_not, Bool.not_true, Bool.not_false, beq_eq_false_iff_ne, bne_eq_false_iff_eq, Int.ofNat_eq_natCast, Bool.not_not, not_true_eq_false, not_false_eq_true, reduceCtorEq]; first | done | assumption) | exact RowsZ.same (by assumption) (by first | assumption | rfl) | exact FzL.mk rfl rfl rfl (by assumption) (by first | assumption | rfl) (by decide) | (refine RowsZ.one ?_; cbv))))) ⟨Int.le_refl _, L0, by simp⟩ ?_
  rintro i hinv Q' hN hE hR'
  have hinv : 0 ≤ i ∧ i ≤ L ∧ l.take i.toNat = p.take i.toNat := hinv
  cbv
  obtain ⟨hi0, hi1, hl⟩ := hinv
  (split <;> rename_i hc <;> (try (simp only [hbin, hcmp, hun, hconv, hnot, hbeq, hmm, hscmp, hsadd, hslen, hsat, heqs, hofNat, binStd, cmpStd, unStd, scmpStd, maxI, Bool.not_eq_true', Bool.not_eq_false', decide_eq_true_eq, decide_eq_false_iff_not, Int.not_lt, Int.not_le, if_true, if_false, Bool.false_eq_true, beq_iff_eq, bne_iff_ne, ne_eq, Bool.not_eq_eq_eq_not, Bool.not_true, Bool.not_false, beq_eq_false_iff_ne, bne_eq_false_iff_eq, Int.ofNat_eq_natCast, Bool.not_not, not_true_eq_false, not_false_eq_true, reduceCtorEq] at hc)) <;> (try cbv))
  rotate_left 1
  · refine hE _ _ _ ?_
    cbv
    have e : l = p := by rwa [List.take_of_length_le (by omega), List.take_of_length_le (by omega)] at hl
    exact ⟨_, Vw.same rfl, hR _ (congrArg AV.bool (by rw [← eo]; simp [e]))⟩
  obtain ⟨x, hx⟩ : ∃ x, l[i.toNat]? = some x := ⟨_, List.getElem?_eq_getElem (show i.toNat < l.length by omega)⟩
  obtain ⟨y, hy⟩ : ∃ x, p[i.toNat]? = some x := ⟨_, List.getElem?_eq_getElem (show i.toNat < p.length by omega)⟩
  have hxr : es[i.toNat]? = some [.int .i64 x] := by rw [← ees, List.getElem?_map, hx]; rfl
  have hyr : ds[i.toNat]? = some [.int .i64 y] := by rw [← eds, List.getElem?_map, hy]; rfl
  obtain ⟨i2, ei2⟩ : ∃ z, z = i + 1 := ⟨_, rfl⟩
  have a4 : wbin .add .i64 i 1 = i2 := by rw [hbin, ei2]; show IntKind.i64.wrap (i + 1) = i + 1; rw [IntKind.wrap_i64]; omega
  repeat' (first
    | (refine Idx.mk _ hi0 hxr ?_; cbv)
    | (refine Idx.mk _ hi0 hyr ?_; cbv))
  (split <;> rename_i he <;> (try (simp only [hbin, hcmp, hun, hconv, hnot, hbeq, hmm, hscmp, hsadd, hslen, hsat, heqs, hofNat, binStd, cmpStd, unStd, scmpStd, maxI, Bool.not_eq_true', Bool.not_eq_false', decide_eq_true_eq, decide_eq_false_iff_not, Int.not_lt, Int.not_le, if_true, if_false, Bool.false_eq_true, beq_iff_eq, bne_iff_ne, ne_eq, Bool.not_eq_eq_eq_not, Bool.not_true, Bool.not_false, beq_eq_false_iff_ne, bne_eq_false_iff_eq, Int.ofNat_eq_natCast, Bool.not_not, not_true_eq_false, not_false_eq_true, reduceCtorEq] at he)) <;> (try cbv))
  · refine hR' _ _ ⟨_, Vw.same rfl, hR _ (congrArg AV.bool ?_)⟩
    rw [← eo]
    have : ¬ l = p := fun h => by rw [h, hy] at hx; cases hx; exact he rfl
    simp [this]
  · simp only [a4]
    refine hN i2 _ _ ?hx ?hI ?ht
    case hx => (refine Wk.eqz (id) (by first | exact fun i _ j _ e => e | (simp only [List.length_cons, List.length_nil]; decide)) ?_; cbv; (repeat' (first | exact trivial | rfl | assumption | apply And.intro | (simp only [hbin, hcmp, hun, hconv, hnot, hbeq, hmm, hscmp, hsadd, hslen, hsat, heqs, hofNat, binStd, cmpStd, unStd, scmpStd, maxI, Bool.not_eq_true', Bool.not_eq_false', decide_eq_true_eq, decide_eq_false_iff_not, Int.not_lt, Int.not_le, if_true, if_false, Bool.false_eq_true, beq_iff_eq, bne_iff_ne, ne_eq, Bool.not_eq_eq_eq_not, Bool.not_true, Bool.not_false, beq_eq_false_iff_ne, bne_eq_false_iff_eq, Int.ofNat_eq_natCast, Bool.not_not, not_true_eq_false, not_false_eq_true, reduceCtorEq]; first | done | assumption) | exact RowsZ.same (by assumption) (by first | assumption | rfl) | exact FzL.mk rfl rfl rfl (by assumption) (by first | assumption | rfl) (by decide) | (refine RowsZ.one ?_; cbv))))
    case hI => exact ⟨by omega, by omega, by rw [ei2, take_next hi0 hx, take_next hi0 hy, hl, he]⟩
    case ht => omega
set_option maxHeartbeats 2000000 in
theorem e_has1 (l p : List Int) (hl : l.length ≤ 12) (hp : p.length ≤ 12) (ps : List (List AV)) (hps : ps = p.map nxRow) :
    PCalls Try.prog 61 [.agg (rtC l), .cref [.list 1 ps]] (· = .bool (meetP l p)) := by
  have hup : Up0 ps := by rw [hps]; exact up_nx p
  have hpa := e_pathL l hl
  have hq := e_equal (l.take (min l.length p.length)) (p.take (min l.length p.length)) (by rw [List.length_take, List.length_take]; omega) (by rw [List.length_take]; omega)
  obtain ⟨o, eo⟩ : ∃ o, meetP l p = o := ⟨_, rfl⟩
  obtain ⟨row, erow⟩ : ∃ row, row = toR l := ⟨_, rfl⟩
  show PCalls Try.prog 61 [.agg (toR l).row, .cref [.list 1 ps]] (· = .bool (meetP l p))
  rw [← erow]
  obtain ⟨n, s0, s1, s2, s3, s4, s5, s6, s7, s8, s9, s10, s11⟩ := row
  obtain ⟨xs, exs⟩ : ∃ x, x = l.map nxRow := ⟨_, rfl⟩
  have huxs : Up0 xs := by rw [exs]; exact up_nx l
  have hxl : xs.length = l.length := by rw [exs]; simp
  have hpl : ps.length = p.length := by rw [hps]; simp
  have hpa : PCalls Try.prog 54 [.agg [.int .i64 n, .int .i64 s0, .int .i64 s1, .int .i64 s2, .int .i64 s3, .int .i64 s4, .int .i64 s5, .int .i64 s6, .int .i64 s7, .int .i64 s8, .int .i64 s9, .int .i64 s10, .int .i64 s11]] (· = .list 1 xs) := by rw [exs]; rw [show rtC l = (toR l).row from rfl, ← erow] at hpa; exact hpa
  (refine PCalls.ofY Try.func61 (by kernel_rfl) (by kernel_rfl) fun w hw R hR => ?_); (obtain ⟨wbin, wcmp, wun, wconv, wnot, wbeq, wmm, wscmp, wsadd, wslen, wsat, weqs, wlen, wnlen, wofNat, wtake, wdrop, wapp, wzero, wnat⟩ := w); (have hbin : wbin = binStd := congrArg Prims.bin hw); (have hcmp : wcmp = cmpStd := congrArg Prims.cmp hw); (have hun : wun = unStd := congrArg Prims.un hw); (have hconv : wconv = fun k n => k.wrap n := congrArg Prims.conv hw); (have hnot : wnot = fun b => !b := congrArg Prims.not hw); (have hbeq : wbeq = fun a b => a == b := congrArg Prims.beq hw); (have hmm : wmm = maxI := congrArg Prims.mm hw); (have hscmp : wscmp = scmpStd := congrArg Prims.scmp hw); (have hsadd : wsadd = fun x y => x ++ y := congrArg Prims.sadd hw); (have hslen : wslen = fun s => (s.size : Int) := congrArg Prims.slen hw); (have hsat : wsat = std.sat := congrArg Prims.sat hw); (have heqs : weqs = fun a b os => (eqOffs a b os).getD false := congrArg Prims.eqs hw); (have hlen : wlen = fun es => (es.length : Int) := congrArg Prims.len hw); (have hnlen : wnlen = fun es => es.length := congrArg Prims.nlen hw); (have hofNat : wofNat = (fun n : Nat => (n : Int)) := congrArg Prims.ofNat hw); (have htake : wtake = fun es b => es.take b.toNat := congrArg Prims.take hw); (have hdrop : wdrop = fun es a => es.drop a.toNat := congrArg Prims.drop hw); (have happ : wapp = fun a b => a ++ b := congrArg Prims.app hw); (have hzero : wzero = fun n z => List.replicate n.toNat z := congrArg Prims.zero hw); (have hnat : wnat = fun n => n.toNat := congrArg Prims.nat hw); (conv => arg 2; cbv); (generalize hP : Try.prog = P); cbv
  (obtain ⟨L, eL, L0, Ln⟩ : ∃ L : Int, wlen xs = L ∧ 0 ≤ L ∧ L.toNat = xs.length := ⟨(xs.length : Int), by rw [hlen], Int.natCast_nonneg _, Int.toNat_natCast _⟩)
  (obtain ⟨M, eM, M0, Mn⟩ : ∃ L : Int, wlen ps = L ∧ 0 ≤ L ∧ L.toNat = ps.length := ⟨(ps.length : Int), by rw [hlen], Int.natCast_nonneg _, Int.toNat_natCast _⟩)
  refine Call.stepE (by rw [← hP]; exact hpa) rfl ?_
  cbv
  simp only [eL, eM]
  obtain ⟨k, ek⟩ : ∃ k, min L M = k := ⟨_, rfl⟩
  have e1 : wmm false L M = k := by rw [hmm]; simp only [maxI, Bool.false_eq_true, if_false]; split <;> omega
  simp only [e1]
  have hk0 : 0 ≤ k ∧ k ≤ L ∧ k ≤ M := by omega
  obtain ⟨x1, ex1⟩ : ∃ x1, x1 = (l.take (min l.length p.length)).map nxRow := ⟨_, rfl⟩
  obtain ⟨x2, ex2⟩ : ∃ x1, x1 = (p.take (min l.length p.length)).map nxRow := ⟨_, rfl⟩
  have et1 : wtake xs k = x1 := by rw [htake]; show xs.take k.toNat = x1; rw [ex1, exs, List.map_take, show k.toNat = min l.length p.length by omega]
  have et2 : wtake ps k = x2 := by rw [htake]; show ps.take k.toNat = x2; rw [ex2, hps, List.map_take, show k.toNat = min l.length p.length by omega]
  have hu1 : Up0 x1 := by rw [ex1]; exact up_nx _
  have hu2 : Up0 x2 := by rw [ex2]; exact up_nx _
  rw [← ex1, ← ex2, show decide (l.take (min l.length p.length) = p.take (min l.length p.length)) = o from eo] at hq
  simp only [et1, et2]
  refine Nn.mk (by omega) ?_
  refine Le.mk (by omega) ?_
  refine Nn.mk (by omega) ?_
  refine Le.mk (by omega) ?_
  refine QCal.stepE (by rw [← hP]; exact hq) (by simp only [uptoL, AV.upto, hu1.get, hu2.get]; rfl) ?_
  cbv
  exact ⟨_, Vw.same rfl, hR _ (congrArg AV.bool eo.symm)⟩
set_option maxHeartbeats 2000000 in
theorem e_hasI (ls : List (List Int)) (hls : ∀ l, l ∈ ls → l.length ≤ 12) (hmax : ls.length ≤ 1000) (p : List Int) (hp : p.length ≤ 12) (rs ps : List (List AV)) (hrs : rs = ls.map rtC) (hps : ps = p.map nxRow) :
    PCalls Try.prog 92 [.list 13 rs, .func (.func 61) [] [.cref [.list 1 ps]]] (fun r => ∃ n : Int, r = .int .i64 n ∧ (0 ≤ n ↔ ∃ x, x ∈ ls ∧ meetP x p = true)) := by
  have hu : Up0 rs := by rw [hrs]; exact up_map (f := rtC) (fun d => rfl) ls
  have hup : Up0 ps := by rw [hps]; exact up_nx p
  have hel : rs.length = ls.length := by rw [hrs]; simp
  (refine PCalls.ofY Try.func92 (by kernel_rfl) (by kernel_rfl) fun w hw R hR => ?_); (obtain ⟨wbin, wcmp, wun, wconv, wnot, wbeq, wmm, wscmp, wsadd, wslen, wsat, weqs, wlen, wnlen, wofNat, wtake, wdrop, wapp, wzero, wnat⟩ := w); (have hbin : wbin = binStd := congrArg Prims.bin hw); (have hcmp : wcmp = cmpStd := congrArg Prims.cmp hw); (have hun : wun = unStd := congrArg Prims.un hw); (have hconv : wconv = fun k n => k.wrap n := congrArg Prims.conv hw); (have hnot : wnot = fun b => !b := congrArg Prims.not hw); (have hbeq : wbeq = fun a b => a == b := congrArg Prims.beq hw); (have hmm : wmm = maxI := congrArg Prims.mm hw); (have hscmp : wscmp = scmpStd := congrArg Prims.scmp hw); (have hsadd : wsadd = fun x y => x ++ y := congrArg Prims.sadd hw); (have hslen : wslen = fun s => (s.size : Int) := congrArg Prims.slen hw); (have hsat : wsat = std.sat := congrArg Prims.sat hw); (have heqs : weqs = fun a b os => (eqOffs a b os).getD false := congrArg Prims.eqs hw); (have hlen : wlen = fun es => (es.length : Int) := congrArg Prims.len hw); (have hnlen : wnlen = fun es => es.length := congrArg Prims.nlen hw); (have hofNat : wofNat = (fun n : Nat => (n : Int)) := congrArg Prims.ofNat hw); (have htake : wtake = fun es b => es.take b.toNat := congrArg Prims.take hw); (have hdrop : wdrop = fun es a => es.drop a.toNat := congrArg Prims.drop hw); (have happ : wapp = fun a b => a ++ b := congrArg Prims.app hw); (have hzero : wzero = fun n z => List.replicate n.toNat z := congrArg Prims.zero hw); (have hnat : wnat = fun n => n.toNat := congrArg Prims.nat hw); (conv => arg 2; cbv); (generalize hP : Try.prog = P); cbv
  (obtain ⟨L, eL, L0, Ln⟩ : ∃ L : Int, wlen rs = L ∧ 0 ≤ L ∧ L.toNat = rs.length := ⟨(rs.length : Int), by rw [hlen], Int.natCast_nonneg _, Int.toNat_natCast _⟩)
  refine Loop.data hw (S := Int) (fun i => fr 19 [(0, .list 13 rs), (1, .func (.func 61) [] [.cref [.list 1 ps]]), (6, .list 13 rs), (7, .int .i64 L), (8, .int .i64 i)]) (fun i => []) (fun i => 0 ≤ i ∧ i ≤ L ∧ ∀ x, x ∈ ls.take i.toNat → meetP x p = false) (fun i => (L - i).toNat) 0 (by (refine Wk.eqz (id) (by first | exact fun i _ j _ e => e | (simp only [List.length_cons, List.length_nil]; decide)) ?_; cbv; (repeat' (first | exact trivial | rfl | assumption | apply And.intro | (simp only [hbin, hcmp, hun, hconv, hnot, hbeq, hmm, hscmp, hsadd, hslen, hsat, heqs, hofNat, binStd, cmpStd, unStd, scmpStd, maxI, Bool.not_eq_true', Bool.not_eq_false', decide_eq_true_eq, decide_eq_false_iff_not, Int.not_lt, Int.not_le, if_true, if_false, Bool.false_eq_true, beq_iff_eq, bne_iff_ne, ne_eq, Bool.not_eq_eq_eq_not, Bool.not_true, Bool.not_false, beq_eq_false_iff_ne, bne_eq_false_iff_eq, Int.ofNat_eq_natCast, Bool.not_not, not_true_eq_false, not_false_eq_true, reduceCtorEq]; first | done | assumption) | exact RowsZ.same (by assumption) (by first | assumption | rfl) | exact FzL.mk rfl rfl rfl (by assumption) (by first | assumption | rfl) (by decide) | (refine RowsZ.one ?_; cbv))))) ⟨Int.le_refl _, L0, fun x hx => (by simp at hx)⟩ ?_
  rintro i hinv Q' hN hE hR'
  have hinv : 0 ≤ i ∧ i ≤ L ∧ ∀ x, x ∈ ls.take i.toNat → meetP x p = false := hinv
  cbv
  obtain ⟨hi0, hi1, hl⟩ := hinv
  (split <;> rename_i hc <;> (try (simp only [hbin, hcmp, hun, hconv, hnot, hbeq, hmm, hscmp, hsadd, hslen, hsat, heqs, hofNat, binStd, cmpStd, unStd, scmpStd, maxI, Bool.not_eq_true', Bool.not_eq_false', decide_eq_true_eq, decide_eq_false_iff_not, Int.not_lt, Int.not_le, if_true, if_false, Bool.false_eq_true, beq_iff_eq, bne_iff_ne, ne_eq, Bool.not_eq_eq_eq_not, Bool.not_true, Bool.not_false, beq_eq_false_iff_ne, bne_eq_false_iff_eq, Int.ofNat_eq_natCast, Bool.not_not, not_true_eq_false, not_false_eq_true, reduceCtorEq] at hc)) <;> (try cbv))
  · obtain ⟨l, hd⟩ : ∃ l, ls[i.toNat]? = some l := ⟨_, List.getElem?_eq_getElem (show i.toNat < ls.length by omega)⟩
    have hrow : rs[i.toNat]? = some (toR l).row := by rw [hrs, List.getElem?_map, hd]; rfl
    have h1 := e_has1 l p (hls l (List.mem_of_getElem? hd)) hp ps hps
    obtain ⟨o, eo⟩ : ∃ o, meetP l p = o := ⟨_, rfl⟩
    rw [eo] at h1
    have h1 : PCalls Try.prog 61 [.agg (toR l).row, .cref [.list 1 ps]] (· = .bool o) := h1
    obtain ⟨row, erow⟩ : ∃ row, row = toR l := ⟨_, rfl⟩
    rw [← erow] at hrow h1
    obtain ⟨n, s0, s1, s2, s3, s4, s5, s6, s7, s8, s9, s10, s11⟩ := row
    refine Idx.mk _ hi0 hrow ?_
    cbv
    refine Call.stepE (by rw [← hP]; exact h1) (by exact Bool.and_eq_true_iff.mpr ⟨rfl, Bool.and_eq_true_iff.mpr ⟨Up0.one hup rfl, rfl⟩⟩) ?_
    obtain ⟨i', ei'⟩ : ∃ x, i + 1 = x := ⟨_, rfl⟩
    have hL2 : L < 9223372036854775807 := by omega
    have ei : wbin .add .i64 i 1 = i' := by rw [hbin, i_add (by omega) (by omega)]; exact ei'
    have hT : (L - i').toNat < (L - i).toNat := by omega
    have ht : ls.take i'.toNat = ls.take i.toNat ++ [l] := by rw [← ei', show (i + 1).toNat = i.toNat + 1 by omega, List.take_add_one, hd]; rfl
    cbv
    (split <;> rename_i h <;> (try (simp only [hbin, hcmp, hun, hconv, hnot, hbeq, hmm, hscmp, hsadd, hslen, hsat, heqs, hofNat, binStd, cmpStd, unStd, scmpStd, maxI, Bool.not_eq_true', Bool.not_eq_false', decide_eq_true_eq, decide_eq_false_iff_not, Int.not_lt, Int.not_le, if_true, if_false, Bool.false_eq_true, beq_iff_eq, bne_iff_ne, ne_eq, Bool.not_eq_eq_eq_not, Bool.not_true, Bool.not_false, beq_eq_false_iff_ne, bne_eq_false_iff_eq, Int.ofNat_eq_natCast, Bool.not_not, not_true_eq_false, not_false_eq_true, reduceCtorEq] at h)) <;> (try cbv))
    · exact hR' _ _ ⟨_, Vw.same rfl, hR _ ⟨_, rfl, fun _ => ⟨_, List.mem_of_getElem? hd, eo⟩, fun _ => hi0⟩⟩
    · refine hN i' _ _ ?hx ?hi hT
      case hx => (refine Wk.eqz (id) (by first | exact fun i _ j _ e => e | (simp only [List.length_cons, List.length_nil]; decide)) ?_; cbv; (repeat' (first | exact trivial | rfl | assumption | apply And.intro | (simp only [hbin, hcmp, hun, hconv, hnot, hbeq, hmm, hscmp, hsadd, hslen, hsat, heqs, hofNat, binStd, cmpStd, unStd, scmpStd, maxI, Bool.not_eq_true', Bool.not_eq_false', decide_eq_true_eq, decide_eq_false_iff_not, Int.not_lt, Int.not_le, if_true, if_false, Bool.false_eq_true, beq_iff_eq, bne_iff_ne, ne_eq, Bool.not_eq_eq_eq_not, Bool.not_true, Bool.not_false, beq_eq_false_iff_ne, bne_eq_false_iff_eq, Int.ofNat_eq_natCast, Bool.not_not, not_true_eq_false, not_false_eq_true, reduceCtorEq]; first | done | assumption) | exact RowsZ.same (by assumption) (by first | assumption | rfl) | exact FzL.mk rfl rfl rfl (by assumption) (by first | assumption | rfl) (by decide) | (refine RowsZ.one ?_; cbv))))
      case hi =>
        refine ⟨by omega, by omega, fun x hx => ?_⟩
        rw [ht] at hx
        rcases List.mem_append.1 hx with hx | hx
        · exact hl x hx
        · simp at hx; subst hx; exact eo
  · refine hE _ _ _ ?_
    cbv
    rw [List.take_of_length_le (by omega)] at hl
    refine ⟨_, Vw.same rfl, hR _ ⟨_, rfl, fun h => absurd h (by decide), fun ⟨x, hx, hp⟩ => ?_⟩⟩
    rw [hl x hx] at hp; cases hp
theorem e_hasC (ls : List (List Int)) (hls : ∀ l, l ∈ ls → l.length ≤ 12) (hmax : ls.length ≤ 1000) (p : List Int) (hp : p.length ≤ 12) (rs ps : List (List AV)) (hrs : rs = ls.map rtC) (hps : ps = p.map nxRow) :
    PCalls Try.prog 60 [.list 13 rs, .func (.func 61) [] [.cref [.list 1 ps]]] (· = .bool (ls.any (meetP · p))) := by
  have hu : Up0 rs := by rw [hrs]; exact up_map (f := rtC) (fun d => rfl) ls
  have hup : Up0 ps := by rw [hps]; exact up_nx p
  (refine PCalls.ofY Try.func60 (by kernel_rfl) (by kernel_rfl) fun w hw R hR => ?_); (obtain ⟨wbin, wcmp, wun, wconv, wnot, wbeq, wmm, wscmp, wsadd, wslen, wsat, weqs, wlen, wnlen, wofNat, wtake, wdrop, wapp, wzero, wnat⟩ := w); (have hbin : wbin = binStd := congrArg Prims.bin hw); (have hcmp : wcmp = cmpStd := congrArg Prims.cmp hw); (have hun : wun = unStd := congrArg Prims.un hw); (have hconv : wconv = fun k n => k.wrap n := congrArg Prims.conv hw); (have hnot : wnot = fun b => !b := congrArg Prims.not hw); (have hbeq : wbeq = fun a b => a == b := congrArg Prims.beq hw); (have hmm : wmm = maxI := congrArg Prims.mm hw); (have hscmp : wscmp = scmpStd := congrArg Prims.scmp hw); (have hsadd : wsadd = fun x y => x ++ y := congrArg Prims.sadd hw); (have hslen : wslen = fun s => (s.size : Int) := congrArg Prims.slen hw); (have hsat : wsat = std.sat := congrArg Prims.sat hw); (have heqs : weqs = fun a b os => (eqOffs a b os).getD false := congrArg Prims.eqs hw); (have hlen : wlen = fun es => (es.length : Int) := congrArg Prims.len hw); (have hnlen : wnlen = fun es => es.length := congrArg Prims.nlen hw); (have hofNat : wofNat = (fun n : Nat => (n : Int)) := congrArg Prims.ofNat hw); (have htake : wtake = fun es b => es.take b.toNat := congrArg Prims.take hw); (have hdrop : wdrop = fun es a => es.drop a.toNat := congrArg Prims.drop hw); (have happ : wapp = fun a b => a ++ b := congrArg Prims.app hw); (have hzero : wzero = fun n z => List.replicate n.toNat z := congrArg Prims.zero hw); (have hnat : wnat = fun n => n.toNat := congrArg Prims.nat hw); (conv => arg 2; cbv); (generalize hP : Try.prog = P); cbv
  refine Call.step (by rw [← hP]; exact e_hasI ls hls hmax p hp rs ps hrs hps) (by simp only [uptoL, AV.upto, hu.get, hup.get]; rfl) ?_
  rintro r ⟨n, rfl, hn⟩
  cbv
  refine ⟨_, Vw.same rfl, hR _ (congrArg AV.bool ?_)⟩
  rw [Bool.eq_iff_iff, List.any_eq_true, ← hn, hcmp]
  simp [cmpStd]
theorem e_has (ls : List (List Int)) (hls : ∀ l, l ∈ ls → l.length ≤ 12) (hmax : ls.length ≤ 1000) (p : List Int) (hp : p.length ≤ 12) (rs ps : List (List AV)) (hrs : rs = ls.map rtC) (hps : ps = p.map nxRow) (from_ : Int) :
    PCalls Try.prog 24 [.agg [.int .i64 from_, .list 13 rs], .list 1 ps] (· = .bool (ls.any (meetP · p))) := by
  have hu : Up0 rs := by rw [hrs]; exact up_map (f := rtC) (fun d => rfl) ls
  have hup : Up0 ps := by rw [hps]; exact up_nx p
  (refine PCalls.ofY Try.func24 (by kernel_rfl) (by kernel_rfl) fun w hw R hR => ?_); (obtain ⟨wbin, wcmp, wun, wconv, wnot, wbeq, wmm, wscmp, wsadd, wslen, wsat, weqs, wlen, wnlen, wofNat, wtake, wdrop, wapp, wzero, wnat⟩ := w); (have hbin : wbin = binStd := congrArg Prims.bin hw); (have hcmp : wcmp = cmpStd := congrArg Prims.cmp hw); (have hun : wun = unStd := congrArg Prims.un hw); (have hconv : wconv = fun k n => k.wrap n := congrArg Prims.conv hw); (have hnot : wnot = fun b => !b := congrArg Prims.not hw); (have hbeq : wbeq = fun a b => a == b := congrArg Prims.beq hw); (have hmm : wmm = maxI := congrArg Prims.mm hw); (have hscmp : wscmp = scmpStd := congrArg Prims.scmp hw); (have hsadd : wsadd = fun x y => x ++ y := congrArg Prims.sadd hw); (have hslen : wslen = fun s => (s.size : Int) := congrArg Prims.slen hw); (have hsat : wsat = std.sat := congrArg Prims.sat hw); (have heqs : weqs = fun a b os => (eqOffs a b os).getD false := congrArg Prims.eqs hw); (have hlen : wlen = fun es => (es.length : Int) := congrArg Prims.len hw); (have hnlen : wnlen = fun es => es.length := congrArg Prims.nlen hw); (have hofNat : wofNat = (fun n : Nat => (n : Int)) := congrArg Prims.ofNat hw); (have htake : wtake = fun es b => es.take b.toNat := congrArg Prims.take hw); (have hdrop : wdrop = fun es a => es.drop a.toNat := congrArg Prims.drop hw); (have happ : wapp = fun a b => a ++ b := congrArg Prims.app hw); (have hzero : wzero = fun n z => List.replicate n.toNat z := congrArg Prims.zero hw); (have hnat : wnat = fun n => n.toNat := congrArg Prims.nat hw); (conv => arg 2; cbv); (generalize hP : Try.prog = P); cbv
  refine Call.view (args' := [.list 13 rs, .func (.func 61) [] [.cref [.list 1 ps]]]) (by rw [← hP]; exact e_hasC ls hls hmax p hp rs ps hrs hps) ⟨Vw.same hu.list, Vw.func trivial ⟨Vw.ref (row := [.list 1 ps]) rfl rfl (Up0.one hup rfl) (Nat.zero_le _), trivial⟩, trivial⟩ ?_
  rintro r rfl
  refine ⟨rfl, ?_⟩
  generalize ls.any (meetP · p) = o at *
  cbv
  exact ⟨_, Vw.same rfl, hR _ rfl⟩
theorem has_iff {ls : List (List Int)} {p : List Int} : ls.any (meetP · p) = true ↔ ∃ r, r ∈ ls ∧ (r <+: p ∨ p <+: r) := by
  rw [List.any_eq_true]
  exact ⟨fun ⟨x, h1, h2⟩ => ⟨x, h1, meetP_iff.1 h2⟩, fun ⟨x, h1, h2⟩ => ⟨x, h1, meetP_iff.2 h2⟩⟩
end Go.Proofs.Ytpiocfmdjgbamaa

/- Arguments that say less: a nil slice is a list of none. -/
set_option linter.unusedVariables false
namespace Go.Eng
open Go Go.RowKit
mutual
def leB : AV → AV → Bool
  | .int k a, y => (match y with | .int k' b => decide (k = k') && decide (a = b) | _ => false)
  | .bool a, y => (match y with | .bool b => a == b | _ => false)
  | .nils, y => (match y with | .nils => true | .list _ es => es.isEmpty | _ => false)
  | .nilp, y => (match y with | .nilp => true | _ => false)
  | .agg cs, y => (match y with | .agg ds => leL cs ds | _ => false)
  | .list z es, y => (match y with | .list z' fs => Nat.beq z z' && leLL es fs | _ => false)
  | _, _ => false
def leL : List AV → List AV → Bool
  | [], y => (match y with | [] => true | _ => false)
  | c :: cs, y => (match y with | d :: ds => leB c d && leL cs ds | _ => false)
def leLL : List (List AV) → List (List AV) → Bool
  | [], y => (match y with | [] => true | _ => false)
  | c :: cs, y => (match y with | d :: ds => leL c d && leLL cs ds | _ => false)
end
def VLe (x y : AV) : Prop := ∀ C v, VR C x v → VR C y v
mutual
theorem leB_ok : ∀ (x y : AV), leB x y = true → VLe x y
  | .int k a, y, h => by
    unfold leB at h
    split at h
    · simp only [Bool.and_eq_true, decide_eq_true_eq] at h
      obtain ⟨rfl, rfl⟩ := h
      exact fun C v h => h
    · cases h
  | .bool a, y, h => by
    unfold leB at h
    split at h
    · simp only [beq_iff_eq] at h
      subst h
      exact fun C v h => h
    · cases h
  | .nils, y, h => by
    unfold leB at h
    split at h
    · exact fun C v h => h
    · rename_i z es
      have : es = [] := List.isEmpty_iff.1 h
      subst this
      intro C v hv
      rw [hv.nils']
      exact .listNil _ _ _
    · cases h
  | .nilp, y, h => by
    unfold leB at h
    split at h
    · exact fun C v h => h
    · cases h
  | .agg cs, y, h => by
    unfold leB at h
    split at h
    · rename_i ds
      intro C v hv
      obtain ⟨vs, rfl, hl, hx⟩ := hv.agg'
      obtain ⟨h1, h2⟩ := leL_ok cs ds h
      refine .agg _ _ (by rw [hl, h1]) fun i y hy => ?_
      obtain ⟨x, hx', hle⟩ := h2 i y hy
      exact hle C _ (hx i x hx')
    · cases h
  | .list z es, y, h => by
    unfold leB at h
    split at h
    · rename_i z' fs
      simp only [Bool.and_eq_true] at h
      have := Nat.eq_of_beq_eq_true h.1
      subst this
      obtain ⟨h1, h2⟩ := leLL_ok es fs h.2
      intro C v hv
      rcases hv.lists with ⟨⟨a, cap, rfl⟩, rfl⟩ | ⟨a, cap, f, rfl, hcap, hsp, hz, hcell, hown, hv⟩
      · have : fs = [] := List.length_eq_zero_iff.1 h1.symm
        subst this
        exact .listNil _ _ _
      · refine .list z fs a es.length cap f h1.symm hcap hsp (fun e he => ?_) hcell hown fun i e he j x hx => ?_
        · obtain ⟨i, hi⟩ := List.mem_iff_getElem?.1 he
          obtain ⟨r, hr, hl, _⟩ := h2 i e hi
          rw [← hl]; exact hz r (List.mem_of_getElem? hr)
        · obtain ⟨r, hr, hl, hle⟩ := h2 i e he
          obtain ⟨x', hx', hle'⟩ := hle j x hx
          exact hle' C _ (hv i r hr j x' hx')
    · cases h
  | .any, y, h => by unfold leB at h; cases h
  | .str _, y, h => by unfold leB at h; cases h
  | .nilFunc, y, h => by unfold leB at h; cases h
  | .nilIface, y, h => by unfold leB at h; cases h
  | .tuple _, y, h => by unfold leB at h; cases h
  | .sl _ _ _ _, y, h => by unfold leB at h; cases h
  | .ref _ _ _ _, y, h => by unfold leB at h; cases h
  | .cref _, y, h => by unfold leB at h; cases h
  | .mapr _, y, h => by unfold leB at h; cases h
  | .func _ _ _, y, h => by unfold leB at h; cases h
  | .iface _ _, y, h => by unfold leB at h; cases h
theorem leL_ok : ∀ (xs ys : List AV), leL xs ys = true → xs.length = ys.length ∧ ∀ (i : Nat) (y : AV), ys[i]? = some y → ∃ x, xs[i]? = some x ∧ VLe x y
  | [], y, h => by
    unfold leL at h
    split at h
    · exact ⟨rfl, fun i y hy => by simp at hy⟩
    · cases h
  | c :: cs, y, h => by
    unfold leL at h
    split at h
    · rename_i d ds
      simp only [Bool.and_eq_true] at h
      obtain ⟨h1, h2⟩ := leL_ok cs ds h.2
      refine ⟨by simp [h1], fun i y hy => ?_⟩
      cases i with
      | zero => simp at hy; subst hy; exact ⟨c, rfl, leB_ok c d h.1⟩
      | succ i => simpa using h2 i y (by simpa using hy)
    · cases h
theorem leLL_ok : ∀ (xs ys : List (List AV)), leLL xs ys = true → xs.length = ys.length ∧ ∀ (i : Nat) (y : List AV), ys[i]? = some y → ∃ x, xs[i]? = some x ∧ x.length = y.length ∧ ∀ (j : Nat) (b : AV), y[j]? = some b → ∃ a, x[j]? = some a ∧ VLe a b
  | [], y, h => by
    unfold leLL at h
    split at h
    · exact ⟨rfl, fun i y hy => by simp at hy⟩
    · cases h
  | c :: cs, y, h => by
    unfold leLL at h
    split at h
    · rename_i d ds
      simp only [Bool.and_eq_true] at h
      obtain ⟨h1, h2⟩ := leLL_ok cs ds h.2
      obtain ⟨k1, k2⟩ := leL_ok c d h.1
      refine ⟨by simp [h1], fun i y hy => ?_⟩
      cases i with
      | zero => simp at hy; subst hy; exact ⟨c, rfl, k1, k2⟩
      | succ i => simpa using h2 i y (by simpa using hy)
    · cases h
end
theorem PCalls.le {P : Program} {g : FuncId} {args args' : List AV} {R : AV → Prop} (H : PCalls P g args' R) (hl : leL args args' = true) : PCalls P g args R := by
  obtain ⟨h1, h2⟩ := leL_ok args args' hl
  refine ⟨H.1, fun C vs hC RC hv => H.2 C vs hC RC ⟨by rw [hv.1, h1], fun i y hy => ?_⟩⟩
  obtain ⟨x, hx, hle⟩ := h2 i y hy
  exact hle C _ (hv.2 i x hx)
end Go.Eng

/- The example of layer 14, by the engine. -/
set_option linter.unusedVariables false
set_option linter.unusedSimpArgs false
namespace Go.Proofs.Ytpiocfmdjgbamaa
open Go Go.RowKit Go.Eng
set_option maxRecDepth 100000
set_option maxHeartbeats 2000000 in
theorem e_anchor14 : PCalls Try.prog 12 [] (· = .bool true) := by
  have hA : growA [⟨10, [(0, 0)], [1, 2]⟩, ⟨5, [(0, 0)], []⟩, ⟨5, [(0, 0)], []⟩] 7 8 4 [[0]] = ((4, [[0, 1], [0, 2]]), 0) := by decide
  have hg := e_grows [⟨10, [(0, 0)], [1, 2]⟩, ⟨5, [(0, 0)], []⟩, ⟨5, [(0, 0)], []⟩] [] _ _ rfl rfl ⟨by decide⟩ ⟨by decide⟩ 7 8 4 (by decide) [[0]] (fun l hl => by simp at hl; subst hl; exact ⟨by decide, by decide⟩) (by decide) _ rfl ((4, [[0, 1], [0, 2]]), 0) hA.symm
  have hg2 := PCalls.le (args := [.agg [.int .i64 4, .list 13 [[.int .i64 1, .int .i64 0, .int .i64 0, .int .i64 0, .int .i64 0, .int .i64 0, .int .i64 0, .int .i64 0, .int .i64 0, .int .i64 0, .int .i64 0, .int .i64 0, .int .i64 0]]], .agg [.list 3 [[.int .i64 10, .list 2 [[.int .i64 0, .int .i64 0]], .list 1 [[.int .i64 1], [.int .i64 2]]], [.int .i64 5, .list 2 [[.int .i64 0, .int .i64 0]], .nils], [.int .i64 5, .list 2 [[.int .i64 0, .int .i64 0]], .nils]], .nils], .agg [.int .i64 7, .int .i64 8]]) hg rfl
  clear hg
  have hg3 : PCalls Try.prog 19 [.agg [.int .i64 4, .list 13 [[.int .i64 1, .int .i64 0, .int .i64 0, .int .i64 0, .int .i64 0, .int .i64 0, .int .i64 0, .int .i64 0, .int .i64 0, .int .i64 0, .int .i64 0, .int .i64 0, .int .i64 0]]], .agg [.list 3 [[.int .i64 10, .list 2 [[.int .i64 0, .int .i64 0]], .list 1 [[.int .i64 1], [.int .i64 2]]], [.int .i64 5, .list 2 [[.int .i64 0, .int .i64 0]], .nils], [.int .i64 5, .list 2 [[.int .i64 0, .int .i64 0]], .nils]], .nils], .agg [.int .i64 7, .int .i64 8]] (· = .tuple [.agg [.int .i64 4, .list 13 [[.int .i64 2, .int .i64 0, .int .i64 1, .int .i64 0, .int .i64 0, .int .i64 0, .int .i64 0, .int .i64 0, .int .i64 0, .int .i64 0, .int .i64 0, .int .i64 0, .int .i64 0], [.int .i64 2, .int .i64 0, .int .i64 2, .int .i64 0, .int .i64 0, .int .i64 0, .int .i64 0, .int .i64 0, .int .i64 0, .int .i64 0, .int .i64 0, .int .i64 0, .int .i64 0]]], .int .i64 0]) := hg2
  clear hg2
  (refine PCalls.ofY Try.func12 (by kernel_rfl) (by kernel_rfl) fun w hw R hR => ?_); (subst hw); (conv => arg 2; cbv); (generalize hP : Try.prog = P); cbv
  refine QCal.stepE (by rw [← hP]; exact e_begin 0 4 0 rfl) rfl ?_
  cbv
  refine QCal.stepE (by rw [← hP]; exact hg3) rfl ?_
  cbv
  repeat' (first
    | (refine Idx.mk _ (by decide) rfl ?_; cbv)
    | (refine InN.mk (by decide) (by decide) ?_; cbv)
    | (exact ⟨_, Vw.same rfl, hR _ rfl⟩))
end Go.Proofs.Ytpiocfmdjgbamaa

/- What a growth may tell; places as rows. -/
set_option linter.unusedVariables false
set_option linter.unusedSimpArgs false
namespace Go.Proofs.Ytpiocfmdjgbamaa
open Go Go.RowKit Go.Eng
set_option maxRecDepth 100000
def plRow (p : Int × Int) : List AV := [.int .i64 p.1, .int .i64 p.2]
theorem up_pl (ps : List (Int × Int)) : Up0 (ps.map plRow) := up_map (f := plRow) (fun d => rfl) ps
theorem growA_e {ss : List Sg} {lo hi from_ : Int} {ls : List (List Int)} {v1 v3 : Int} {v2 : List (List Int)} (h : ((v1, v2), v3) = growA ss lo hi from_ ls) : v3 = 0 ∨ v3 = 13 ∨ v3 = 40 := by
  have he := growS_e (ss := ss) (lo := lo) (hi := hi) (from_ := from_) ls
  unfold growA at h
  split at h
  · simp only [Prod.mk.injEq] at h; exact .inr (.inr h.2)
  · split at h
    · simp only [Prod.mk.injEq] at h; rw [h.2]; exact he.imp id .inl
    · split at h
      · simp only [Prod.mk.injEq] at h; exact .inr (.inr h.2)
      · simp only [Prod.mk.injEq] at h; exact .inl h.2
end Go.Proofs.Ytpiocfmdjgbamaa

/- RouteKeeps, by the engine. -/
set_option linter.unusedVariables false
set_option linter.unusedSimpArgs false
namespace Go.Proofs.Ytpiocfmdjgbamaa
open Go Go.RowKit Go.Eng
set_option maxRecDepth 100000
def tnRow (b : Bool) : List AV := [.bool b]
theorem up_tn (ts : List Bool) : Up0 (ts.map tnRow) := up_map (f := tnRow) (fun d => rfl) ts
set_option maxHeartbeats 2000000 in
theorem e_rkeeps (ss : List Sg) (gs : List Gr) (es ds : List (List AV)) (hes : es = ss.map sgRow) (hds : ds = gs.map grRow) (sg from_ : Int) (ts : List Bool) (tl : List (List AV)) (htl : tl = ts.map tnRow) (ps : List (Int × Int)) (pl : List (List AV)) (hpl : pl = ps.map plRow) :
    PCalls Try.prog 6 [.agg [.list 3 es, .list 5 ds], .int .i64 sg, .int .i64 from_, .list 1 tl, .list 2 pl] (· = .bool true) := by
  have hu : Up0 es := by rw [hes]; exact up_sg ss
  have hud : Up0 ds := by rw [hds]; exact up_gr gs
  have hup : Up0 pl := by rw [hpl]; exact up_pl ps
  have hut : Up0 tl := by rw [htl]; exact up_tn ts
  have hpll : pl.length = ps.length := by rw [hpl]; simp
  have htll : tl.length = ts.length := by rw [htl]; simp
  have hel : es.length = ss.length := by rw [hes]; simp
  have hT : uptoL 0 [AV.agg [.list 3 es, .list 5 ds], .int .i64 sg, .int .i64 from_] = true := Bool.and_eq_true_iff.mpr ⟨Up0.one hu (Up0.one hud rfl), rfl⟩
  (refine PCalls.ofL Try.func6 (by kernel_rfl) (by kernel_rfl) fun w hw R hR => ?_); (obtain ⟨wbin, wcmp, wun, wconv, wnot, wbeq, wmm, wscmp, wsadd, wslen, wsat, weqs, wlen, wnlen, wofNat, wtake, wdrop, wapp, wzero, wnat⟩ := w); (have hbin : wbin = binStd := congrArg Prims.bin hw); (have hcmp : wcmp = cmpStd := congrArg Prims.cmp hw); (have hun : wun = unStd := congrArg Prims.un hw); (have hconv : wconv = fun k n => k.wrap n := congrArg Prims.conv hw); (have hnot : wnot = fun b => !b := congrArg Prims.not hw); (have hbeq : wbeq = fun a b => a == b := congrArg Prims.beq hw); (have hmm : wmm = maxI := congrArg Prims.mm hw); (have hscmp : wscmp = scmpStd := congrArg Prims.scmp hw); (have hsadd : wsadd = fun x y => x ++ y := congrArg Prims.sadd hw); (have hslen : wslen = fun s => (s.size : Int) := congrArg Prims.slen hw); (have hsat : wsat = std.sat := congrArg Prims.sat hw); (have heqs : weqs = fun a b os => (eqOffs a b os).getD false := congrArg Prims.eqs hw); (have hlen : wlen = fun es => (es.length : Int) := congrArg Prims.len hw); (have hnlen : wnlen = fun es => es.length := congrArg Prims.nlen hw); (have hofNat : wofNat = (fun n : Nat => (n : Int)) := congrArg Prims.ofNat hw); (have htake : wtake = fun es b => es.take b.toNat := congrArg Prims.take hw); (have hdrop : wdrop = fun es a => es.drop a.toNat := congrArg Prims.drop hw); (have happ : wapp = fun a b => a ++ b := congrArg Prims.app hw); (have hzero : wzero = fun n z => List.replicate n.toNat z := congrArg Prims.zero hw); (have hnat : wnat = fun n => n.toNat := congrArg Prims.nat hw); (conv => arg 2; cbv); (generalize hP : Try.prog = P); cbv
  have hW : ∀ h : AHeap, Ret [.bool true] h R := fun h => ⟨_, Vw.same rfl, hR _ rfl⟩
  refine Call.stepE (by rw [← hP]; exact e_anchor14) rfl ?_
  cbv
  have n1 : wnot true = false := by rw [hnot]; rfl
  simp only [n1]
  cbv
  refine Call.step (by rw [← hP]; exact e_may14 ss gs es ds hes hds sg from_) (by exact hT) ?_
  rintro r ⟨o, rfl, ho⟩
  cbv
  (obtain ⟨M, eM, M0, Mn⟩ : ∃ L : Int, wlen tl = L ∧ 0 ≤ L ∧ L.toNat = tl.length := ⟨(tl.length : Int), by rw [hlen], Int.natCast_nonneg _, Int.toNat_natCast _⟩)
  (obtain ⟨L, eL, L0, Ln⟩ : ∃ L : Int, wlen pl = L ∧ 0 ≤ L ∧ L.toNat = pl.length := ⟨(pl.length : Int), by rw [hlen], Int.natCast_nonneg _, Int.toNat_natCast _⟩)
  (split <;> rename_i h1 <;> (try (simp only [hbin, hcmp, hun, hconv, hnot, hbeq, hmm, hscmp, hsadd, hslen, hsat, heqs, hofNat, binStd, cmpStd, unStd, scmpStd, maxI, Bool.not_eq_true', Bool.not_eq_false', decide_eq_true_eq, decide_eq_false_iff_not, Int.not_lt, Int.not_le, if_true, if_false, Bool.false_eq_true, beq_iff_eq, bne_iff_ne, ne_eq, Bool.not_eq_eq_eq_not, Bool.not_true, Bool.not_false, beq_eq_false_iff_ne, bne_eq_false_iff_eq, Int.ofNat_eq_natCast, Bool.not_not, not_true_eq_false, not_false_eq_true, reduceCtorEq] at h1)) <;> (try cbv))
  · exact hW _
  simp only [eM]
  (split <;> rename_i h2 <;> (try (simp only [hbin, hcmp, hun, hconv, hnot, hbeq, hmm, hscmp, hsadd, hslen, hsat, heqs, hofNat, binStd, cmpStd, unStd, scmpStd, maxI, Bool.not_eq_true', Bool.not_eq_false', decide_eq_true_eq, decide_eq_false_iff_not, Int.not_lt, Int.not_le, if_true, if_false, Bool.false_eq_true, beq_iff_eq, bne_iff_ne, ne_eq, Bool.not_eq_eq_eq_not, Bool.not_true, Bool.not_false, beq_eq_false_iff_ne, bne_eq_false_iff_eq, Int.ofNat_eq_natCast, Bool.not_not, not_true_eq_false, not_false_eq_true, reduceCtorEq] at h2)) <;> (try cbv))
  · exact hW _
  simp only [eL]
  (split <;> rename_i h3 <;> (try (simp only [hbin, hcmp, hun, hconv, hnot, hbeq, hmm, hscmp, hsadd, hslen, hsat, heqs, hofNat, binStd, cmpStd, unStd, scmpStd, maxI, Bool.not_eq_true', Bool.not_eq_false', decide_eq_true_eq, decide_eq_false_iff_not, Int.not_lt, Int.not_le, if_true, if_false, Bool.false_eq_true, beq_iff_eq, bne_iff_ne, ne_eq, Bool.not_eq_eq_eq_not, Bool.not_true, Bool.not_false, beq_eq_false_iff_ne, bne_eq_false_iff_eq, Int.ofNat_eq_natCast, Bool.not_not, not_true_eq_false, not_false_eq_true, reduceCtorEq] at h3)) <;> (try cbv))
  · exact hW _
  have hM := ho h1
  have hnx := hM.tr.nextOk
  have hln := hM.tr.lensOk
  obtain ⟨r0, er0⟩ : ∃ r : List (List AV), r = [[sg]].map rtC := ⟨_, rfl⟩
  have hbeg := e_begin sg from_ sg rfl
  have hbeg : PCalls Try.prog 18 [.int .i64 sg, .int .i64 from_] (· = .agg [.int .i64 from_, .list 13 r0]) := by rw [er0]; exact hbeg
  have hur0 : Up0 r0 := by rw [er0]; exact ⟨rfl⟩
  have hway : ∀ l, l ∈ [[sg]] → WayOk ss l := fun l hl => by
    simp at hl; subst hl
    exact ⟨by simp, fun n hn => by simp at hn; subst hn; exact hM.seg⟩
  have href := e_refsT14 ss gs es ds hes hds (by have := hM.n300; omega) (by have := hM.g500; omega) hM.ps
  have hut2 : uptoL 0 [AV.agg [.list 3 es, .list 5 ds]] = true := Bool.and_eq_true_iff.mpr ⟨Up0.one hu (Up0.one hud rfl), rfl⟩
  have hfr := hM.fr
  obtain ⟨a0, ea0⟩ : ∃ a0, a0 = -from_ := ⟨_, rfl⟩
  have c0 : wun .neg .i64 from_ = a0 := by rw [hun, ea0]; simp only [unStd]; rw [IntKind.wrap_i64]; omega
  simp only [eM]
  obtain ⟨w0, ew0⟩ : ∃ x : List (List AV), x = [[.int .i64 sg]] := ⟨_, rfl⟩
  have huw0 : Up0 w0 := by rw [ew0]; exact ⟨rfl⟩
  rw [← ew0]
  refine Loop.data hw (S := Int × List Int × List (List AV) × Nat) (fun s => fr 129 [(1, .int .i64 sg), (2, .int .i64 from_), (4, .list 2 pl), (5, .ref 0 2 0 0), (11, .sl 1 1 0 s.2.2.2), (41, .list 1 tl), (42, .int .i64 M), (43, .int .i64 s.1)])
    (fun s => [.live 2 [[.list 3 es, .list 5 ds]], .live 1 s.2.2.1])
    (fun s => 0 ≤ s.1 ∧ s.1 ≤ M ∧ RideOk ss sg s.2.1 ∧ s.2.2.1 = s.2.1.map nxRow ∧ Up0 s.2.2.1 ∧ s.2.1.length ≤ s.1.toNat + 1 ∧ s.2.2.2 = s.2.2.1.length) (fun s => (M - s.1).toNat) (0, [sg], w0, 1) (by (refine Wk.eqz (id) (by first | exact fun i _ j _ e => e | (simp only [List.length_cons, List.length_nil]; decide)) ?_; cbv; (repeat' (first | exact trivial | rfl | assumption | apply And.intro | (simp only [hbin, hcmp, hun, hconv, hnot, hbeq, hmm, hscmp, hsadd, hslen, hsat, heqs, hofNat, binStd, cmpStd, unStd, scmpStd, maxI, Bool.not_eq_true', Bool.not_eq_false', decide_eq_true_eq, decide_eq_false_iff_not, Int.not_lt, Int.not_le, if_true, if_false, Bool.false_eq_true, beq_iff_eq, bne_iff_ne, ne_eq, Bool.not_eq_eq_eq_not, Bool.not_true, Bool.not_false, beq_eq_false_iff_ne, bne_eq_false_iff_eq, Int.ofNat_eq_natCast, Bool.not_not, not_true_eq_false, not_false_eq_true, reduceCtorEq]; first | done | assumption) | exact RowsZ.same (by assumption) (by first | assumption | rfl) | exact FzL.mk rfl rfl rfl (by assumption) (by first | assumption | rfl) (by decide) | (refine RowsZ.one ?_; cbv))))) ⟨Int.le_refl _, M0, ride_one hM.seg, ew0, huw0, by simp, by rw [ew0]; rfl⟩ ?_
  rintro ⟨i, pa, w, kk⟩ hinv Q' hN hE hR'
  have hinv : 0 ≤ i ∧ i ≤ M ∧ RideOk ss sg pa ∧ w = pa.map nxRow ∧ Up0 w ∧ pa.length ≤ i.toNat + 1 ∧ kk = w.length := hinv
  cbv
  obtain ⟨hi0, hi1, hride, hwp, huw, hpl1, hkk⟩ := hinv
  have hwl : w.length = pa.length := by rw [hwp]; simp
  obtain ⟨W, eW, W0, Wn⟩ : ∃ W : Int, wofNat kk = W ∧ 0 ≤ W ∧ W.toNat = kk := ⟨(kk : Int), by rw [hofNat], Int.natCast_nonneg _, Int.toNat_natCast _⟩
  (split <;> rename_i hc <;> (try (simp only [hbin, hcmp, hun, hconv, hnot, hbeq, hmm, hscmp, hsadd, hslen, hsat, heqs, hofNat, binStd, cmpStd, unStd, scmpStd, maxI, Bool.not_eq_true', Bool.not_eq_false', decide_eq_true_eq, decide_eq_false_iff_not, Int.not_lt, Int.not_le, if_true, if_false, Bool.false_eq_true, beq_iff_eq, bne_iff_ne, ne_eq, Bool.not_eq_eq_eq_not, Bool.not_true, Bool.not_false, beq_eq_false_iff_ne, bne_eq_false_iff_eq, Int.ofNat_eq_natCast, Bool.not_not, not_true_eq_false, not_false_eq_true, reduceCtorEq] at hc)) <;> (try cbv))
  rotate_left 1
  · refine hE _ _ _ ?_
    cbv
    have hr12 := hride.way.len.1
    have hend := e_rend ss gs es ds hes hds hln from_ hM.fr pa hr12 hride.way.seg w hwp _ rfl
    obtain ⟨en, een⟩ : ∃ x, endF ss from_ pa = x := ⟨_, rfl⟩
    rw [een] at hend
    have hur : uptoL 0 [AV.agg [.list 3 es, .list 5 ds], .int .i64 from_, .list 1 w] = true := by simp only [uptoL, AV.upto, hu.get, hud.get, huw.get]; rfl
    have hvw : Vw [.live 2 [[.list 3 es, .list 5 ds]], .live 1 w] (.sl 1 1 0 kk) (.list 1 w) := by
      have := Vw.sl (h := [.live 2 [[.list 3 es, .list 5 ds]], .live 1 w]) (s := 1) (z := 1) rfl huw.get (i := 0) (n := kk) (by omega)
      rwa [List.drop_zero, List.take_of_length_le (by omega)] at this
    refine Call.stepE (by rw [← hP]; exact href) (by exact hut2) ?_
    cbv
    refine Call.view (args' := [.agg [.list 3 es, .list 5 ds], .int .i64 from_, .list 1 w]) (by rw [← hP]; exact hend) ⟨Vw.same (Up0.one hu (Up0.one hud rfl)), Vw.same rfl, hvw, trivial⟩ ?_
    rintro r rfl
    refine ⟨rfl, ?_⟩
    cbv
    refine Call.stepE (by rw [← hP]; exact hbeg) rfl ?_
    cbv
    simp only [eL]
    refine Loop.data hw (S := Int × List (List Int) × List (List AV)) (fun s => fr 129 [(2, .int .i64 from_), (5, .ref 0 2 0 0), (11, .list 1 w), (16, .int .i64 en), (17, .ref 1 2 0 0), (83, .list 2 pl), (84, .int .i64 L), (85, .int .i64 s.1)])
      (fun s => [.live 2 [[.list 3 es, .list 5 ds]], .live 2 [[.int .i64 from_, .list 13 s.2.2]]])
      (fun s => 0 ≤ s.1 ∧ s.1 ≤ L ∧ s.2.2 = s.2.1.map rtC ∧ Up0 s.2.2 ∧ (∀ l, l ∈ s.2.1 → WayOk ss l) ∧ s.2.1.length ≤ 16 ∧ ∃ r, r ∈ s.2.1 ∧ (r <+: pa ∨ pa <+: r)) (fun s => (L - s.1).toNat) (0, [[sg]], r0) (by (refine Wk.eqz (fun j => [0, 2].getD j 0) (by first | exact fun i _ j _ e => e | (simp only [List.length_cons, List.length_nil]; decide)) ?_; cbv; (repeat' (first | exact trivial | rfl | assumption | apply And.intro | (simp only [hbin, hcmp, hun, hconv, hnot, hbeq, hmm, hscmp, hsadd, hslen, hsat, heqs, hofNat, binStd, cmpStd, unStd, scmpStd, maxI, Bool.not_eq_true', Bool.not_eq_false', decide_eq_true_eq, decide_eq_false_iff_not, Int.not_lt, Int.not_le, if_true, if_false, Bool.false_eq_true, beq_iff_eq, bne_iff_ne, ne_eq, Bool.not_eq_eq_eq_not, Bool.not_true, Bool.not_false, beq_eq_false_iff_ne, bne_eq_false_iff_eq, Int.ofNat_eq_natCast, Bool.not_not, not_true_eq_false, not_false_eq_true, reduceCtorEq]; first | done | assumption) | exact RowsZ.same (by assumption) (by first | assumption | rfl) | exact FzL.mk rfl rfl rfl (by assumption) (by first | assumption | rfl) (by decide) | (refine RowsZ.one ?_; cbv))))) ⟨Int.le_refl _, L0, er0, hur0, hway, by simp, ride_pre hride⟩ ?_
    rintro ⟨j, m1, ra1⟩ hinv2 Q2 hN2 hE2 hR2
    have hinv2 : 0 ≤ j ∧ j ≤ L ∧ ra1 = m1.map rtC ∧ Up0 ra1 ∧ (∀ l, l ∈ m1 → WayOk ss l) ∧ m1.length ≤ 16 ∧ ∃ r, r ∈ m1 ∧ (r <+: pa ∨ pa <+: r) := hinv2
    cbv
    obtain ⟨hj0, hj1, hra1, hura, hw1, hl16, hcp⟩ := hinv2
    have hrows : ∀ (m : List (List Int)) (rr : List (List AV)), rr = m.map rtC → (∀ l, l ∈ m → WayOk ss l) → m.length ≤ 16 → (∃ r, r ∈ m ∧ (r <+: pa ∨ pa <+: r)) → PCalls Try.prog 24 [.agg [.int .i64 from_, .list 13 rr], .list 1 w] (· = .bool true) := fun m rr h1 h2 h3 h4 => by
      have := e_has m (fun l hl => (h2 l hl).len.1) (by omega) pa hr12 rr w h1 hwp from_
      rwa [has_iff.2 h4] at this
    (split <;> rename_i hd <;> (try (simp only [hbin, hcmp, hun, hconv, hnot, hbeq, hmm, hscmp, hsadd, hslen, hsat, heqs, hofNat, binStd, cmpStd, unStd, scmpStd, maxI, Bool.not_eq_true', Bool.not_eq_false', decide_eq_true_eq, decide_eq_false_iff_not, Int.not_lt, Int.not_le, if_true, if_false, Bool.false_eq_true, beq_iff_eq, bne_iff_ne, ne_eq, Bool.not_eq_eq_eq_not, Bool.not_true, Bool.not_false, beq_eq_false_iff_ne, bne_eq_false_iff_eq, Int.ofNat_eq_natCast, Bool.not_not, not_true_eq_false, not_false_eq_true, reduceCtorEq] at hd)) <;> (try cbv))
    rotate_left 1
    · refine hE2 _ _ _ ?_
      cbv
      refine Call.stepE (by rw [← hP]; exact hrows m1 ra1 hra1 hw1 hl16 hcp) (by simp only [uptoL, AV.upto, hura.get, huw.get]; rfl) ?_
      cbv
      exact hW _
    obtain ⟨⟨lo, hi⟩, hp⟩ : ∃ p, ps[j.toNat]? = some p := ⟨_, List.getElem?_eq_getElem (show j.toNat < ps.length by omega)⟩
    have hpi : pl[j.toNat]? = some [.int .i64 lo, .int .i64 hi] := by rw [hpl, List.getElem?_map, hp]; rfl
    obtain ⟨j2, ej2⟩ : ∃ z, z = j + 1 := ⟨_, rfl⟩
    have b4 : wbin .add .i64 j 1 = j2 := by rw [hbin, ej2]; show IntKind.i64.wrap (j + 1) = j + 1; rw [IntKind.wrap_i64]; omega
    have hT3 : (L - j2).toNat < (L - j).toNat := by omega
    have hsame : 0 ≤ j2 ∧ j2 ≤ L := by omega
    refine Idx.mk _ hj0 hpi ?_
    cbv
    repeat' (first
      | (simp only [b4]; refine hN2 (j2, m1, ra1) _ _ ?hx ?hI hT3; (case hx => (refine Wk.eqz (id) (by first | exact fun i _ j _ e => e | (simp only [List.length_cons, List.length_nil]; decide)) ?_; cbv; (repeat' (first | exact trivial | rfl | assumption | apply And.intro | (simp only [hbin, hcmp, hun, hconv, hnot, hbeq, hmm, hscmp, hsadd, hslen, hsat, heqs, hofNat, binStd, cmpStd, unStd, scmpStd, maxI, Bool.not_eq_true', Bool.not_eq_false', decide_eq_true_eq, decide_eq_false_iff_not, Int.not_lt, Int.not_le, if_true, if_false, Bool.false_eq_true, beq_iff_eq, bne_iff_ne, ne_eq, Bool.not_eq_eq_eq_not, Bool.not_true, Bool.not_false, beq_eq_false_iff_ne, bne_eq_false_iff_eq, Int.ofNat_eq_natCast, Bool.not_not, not_true_eq_false, not_false_eq_true, reduceCtorEq]; first | done | assumption) | exact RowsZ.same (by assumption) (by first | assumption | rfl) | exact FzL.mk rfl rfl rfl (by assumption) (by first | assumption | rfl) (by decide) | (refine RowsZ.one ?_; cbv))))); (case hI => exact ⟨hsame.1, hsame.2, hra1, hura, hw1, hl16, hcp⟩))
      | (split <;> rename_i h6 <;> (try (simp only [c0] at h6)) <;> (try (simp only [hbin, hcmp, hun, hconv, hnot, hbeq, hmm, hscmp, hsadd, hslen, hsat, heqs, hofNat, binStd, cmpStd, unStd, scmpStd, maxI, Bool.not_eq_true', Bool.not_eq_false', decide_eq_true_eq, decide_eq_false_iff_not, Int.not_lt, Int.not_le, if_true, if_false, Bool.false_eq_true, beq_iff_eq, bne_iff_ne, ne_eq, Bool.not_eq_eq_eq_not, Bool.not_true, Bool.not_false, beq_eq_false_iff_ne, bne_eq_false_iff_eq, Int.ofNat_eq_natCast, Bool.not_not, not_true_eq_false, not_false_eq_true, reduceCtorEq] at h6)) <;> (try cbv)))
    obtain ⟨v, ev⟩ : ∃ v, v = growA ss lo hi from_ m1 := ⟨_, rfl⟩
    have hA := e_grows ss gs es ds hes hds hln hnx lo hi from_ hM.fr m1 hw1 (by omega) ra1 hra1 v ev
    have hkp := keeps hln hride.ch hr12 m1 hw1 hcp (by rw [een]; omega) (show -from_ ≤ lo by omega) (show lo ≤ hi by omega) ev
    have hcase := growA_ok hnx m1 hw1 ev
    obtain ⟨⟨v1, v2⟩, v3⟩ := v
    obtain ⟨us, eus⟩ : ∃ x, x = v2.map rtC := ⟨_, rfl⟩
    have hA : PCalls Try.prog 19 [.agg [.int .i64 from_, .list 13 ra1], .agg [.list 3 es, .list 5 ds], .agg [.int .i64 lo, .int .i64 hi]] (· = .tuple [.agg [.int .i64 v1, .list 13 us], .int .i64 v3]) := by rw [eus]; exact hA
    refine Call.stepE (by rw [← hP]; exact hA) (by simp only [uptoL, AV.upto, hu.get, hud.get, hura.get]; rfl) ?_
    cbv
    have huus : Up0 us := by rw [eus]; exact up_map (f := rtC) (fun d => rfl) v2
    (split <;> rename_i h7 <;> (try (simp only [hbin, hcmp, hun, hconv, hnot, hbeq, hmm, hscmp, hsadd, hslen, hsat, heqs, hofNat, binStd, cmpStd, unStd, scmpStd, maxI, Bool.not_eq_true', Bool.not_eq_false', decide_eq_true_eq, decide_eq_false_iff_not, Int.not_lt, Int.not_le, if_true, if_false, Bool.false_eq_true, beq_iff_eq, bne_iff_ne, ne_eq, Bool.not_eq_eq_eq_not, Bool.not_true, Bool.not_false, beq_eq_false_iff_ne, bne_eq_false_iff_eq, Int.ofNat_eq_natCast, Bool.not_not, not_true_eq_false, not_false_eq_true, reduceCtorEq] at h7)) <;> (try cbv))
    · exact hR2 _ _ (hW _)
    have hk2 : v3 = 0 ∧ ∃ k, k ∈ v2 ∧ (k <+: pa ∨ pa <+: k) := by
      rcases hkp with h | h
      · exact absurd h h7
      · exact h
    obtain ⟨hv3, hcp2⟩ := hk2
    (split <;> rename_i h8 <;> (try (simp only [hbin, hcmp, hun, hconv, hnot, hbeq, hmm, hscmp, hsadd, hslen, hsat, heqs, hofNat, binStd, cmpStd, unStd, scmpStd, maxI, Bool.not_eq_true', Bool.not_eq_false', decide_eq_true_eq, decide_eq_false_iff_not, Int.not_lt, Int.not_le, if_true, if_false, Bool.false_eq_true, beq_iff_eq, bne_iff_ne, ne_eq, Bool.not_eq_eq_eq_not, Bool.not_true, Bool.not_false, beq_eq_false_iff_ne, bne_eq_false_iff_eq, Int.ofNat_eq_natCast, Bool.not_not, not_true_eq_false, not_false_eq_true, reduceCtorEq] at h8)) <;> (try cbv))
    · exact absurd hv3 h8
    have hgr : v1 = from_ ∧ Grown ss lo hi from_ v2 := by
      rcases hcase with h | h
      · exact absurd hv3 h.1
      · exact h.2
    obtain ⟨hv1, hG⟩ := hgr
    subst hv1
    refine Call.stepE (by rw [← hP]; exact hrows v2 us eus (fun l hl => (hG.ways l hl).1) hG.few hcp2) (by simp only [uptoL, AV.upto, huus.get, huw.get]; rfl) ?_
    cbv
    simp only [n1]
    cbv
    simp only [b4]
    refine hN2 (j2, v2, us) _ _ ?hx ?hI hT3
    case hx => (refine Wk.eqz (id) (by first | exact fun i _ j _ e => e | (simp only [List.length_cons, List.length_nil]; decide)) ?_; cbv; (repeat' (first | exact trivial | rfl | assumption | apply And.intro | (simp only [hbin, hcmp, hun, hconv, hnot, hbeq, hmm, hscmp, hsadd, hslen, hsat, heqs, hofNat, binStd, cmpStd, unStd, scmpStd, maxI, Bool.not_eq_true', Bool.not_eq_false', decide_eq_true_eq, decide_eq_false_iff_not, Int.not_lt, Int.not_le, if_true, if_false, Bool.false_eq_true, beq_iff_eq, bne_iff_ne, ne_eq, Bool.not_eq_eq_eq_not, Bool.not_true, Bool.not_false, beq_eq_false_iff_ne, bne_eq_false_iff_eq, Int.ofNat_eq_natCast, Bool.not_not, not_true_eq_false, not_false_eq_true, reduceCtorEq]; first | done | assumption) | exact RowsZ.same (by assumption) (by first | assumption | rfl) | exact FzL.mk rfl rfl rfl (by assumption) (by first | assumption | rfl) (by decide) | (refine RowsZ.one ?_; cbv))))
    case hI => exact ⟨hsame.1, hsame.2, eus, huus, fun l hl => (hG.ways l hl).1, hG.few, hcp2⟩
  obtain ⟨b, hb⟩ : ∃ b, ts[i.toNat]? = some b := ⟨_, List.getElem?_eq_getElem (show i.toNat < ts.length by omega)⟩
  have hbi : tl[i.toNat]? = some [.bool b] := by rw [htl, List.getElem?_map, hb]; rfl
  obtain ⟨i2, ei2⟩ : ∃ z, z = i + 1 := ⟨_, rfl⟩
  have a4 : wbin .add .i64 i 1 = i2 := by rw [hbin, ei2]; show IntKind.i64.wrap (i + 1) = i + 1; rw [IntKind.wrap_i64]; omega
  have hT2 : (M - i2).toNat < (M - i).toNat := by omega
  have hne : pa ≠ [] := by obtain ⟨r, hr⟩ := hride.hd; rw [hr]; simp
  have hp1 := hride.way.len.2
  obtain ⟨q, eq⟩ : ∃ q, q = W - 1 := ⟨_, rfl⟩
  have a5 : wbin .sub .i64 W 1 = q := by rw [hbin, i_sub (by omega) (by omega)]; exact eq.symm
  have hq0 : 0 ≤ q := by omega
  obtain ⟨la, ela⟩ : ∃ x, x = lastI pa := ⟨_, rfl⟩
  have hlq : pa[q.toNat]? = some la := by rw [ela, show q.toNat = pa.length - 1 by omega]; exact last_get pa hne
  have hwq : w[q.toNat]? = some [.int .i64 la] := by rw [hwp, List.getElem?_map, hlq]; rfl
  obtain ⟨hls0, hls1⟩ := hride.way.seg la (List.mem_of_getElem? hlq)
  obtain ⟨⟨len, pps, nx⟩, hdc, hrow⟩ := get_map (f := sgRow) (ds := ss) (i := la) hls0 hls1
  obtain ⟨hnx2, hnxs⟩ := hnx.all ⟨len, pps, nx⟩ (List.mem_of_getElem? hdc)
  simp only at hnx2 hnxs
  have hnxa : nxAt ss (lastI pa) = nx := by rw [← ela]; unfold nxAt; rw [hdc]
  obtain ⟨pq, epq⟩ : ∃ x, pps.map pcRow = x := ⟨_, rfl⟩
  obtain ⟨xn, exn⟩ : ∃ x, nx.map nxRow = x := ⟨_, rfl⟩
  have hrow : es[la.toNat]? = some [.int .i64 len, .list 2 pq, .list 1 xn] := by rw [hes, ← epq, ← exn]; exact hrow
  have hxl : xn.length = nx.length := by rw [← exn]; simp
  (obtain ⟨X, eX, X0, Xn⟩ : ∃ L : Int, wlen xn = L ∧ 0 ≤ L ∧ L.toNat = xn.length := ⟨(xn.length : Int), by rw [hlen], Int.natCast_nonneg _, Int.toNat_natCast _⟩)
  refine Idx.mk _ hi0 hbi ?_
  cbv
  simp only [eW, a5]
  refine At.mk q.toNat hq0 (by omega) (by omega) ?_
  cbv
  refine RowOf.mk _ hwq ?_
  cbv
  refine Idx.mk _ hls0 hrow ?_
  cbv
  simp only [eX]
  (split <;> rename_i h4 <;> (try (simp only [hbin, hcmp, hun, hconv, hnot, hbeq, hmm, hscmp, hsadd, hslen, hsat, heqs, hofNat, binStd, cmpStd, unStd, scmpStd, maxI, Bool.not_eq_true', Bool.not_eq_false', decide_eq_true_eq, decide_eq_false_iff_not, Int.not_lt, Int.not_le, if_true, if_false, Bool.false_eq_true, beq_iff_eq, bne_iff_ne, ne_eq, Bool.not_eq_eq_eq_not, Bool.not_true, Bool.not_false, beq_eq_false_iff_ne, bne_eq_false_iff_eq, Int.ofNat_eq_natCast, Bool.not_not, not_true_eq_false, not_false_eq_true, reduceCtorEq] at h4)) <;> (try cbv))
  · refine hE _ _ _ ?_
    cbv
    have hr12 := hride.way.len.1
    have hend := e_rend ss gs es ds hes hds hln from_ hM.fr pa hr12 hride.way.seg w hwp _ rfl
    obtain ⟨en, een⟩ : ∃ x, endF ss from_ pa = x := ⟨_, rfl⟩
    rw [een] at hend
    have hur : uptoL 0 [AV.agg [.list 3 es, .list 5 ds], .int .i64 from_, .list 1 w] = true := by simp only [uptoL, AV.upto, hu.get, hud.get, huw.get]; rfl
    have hvw : Vw [.live 2 [[.list 3 es, .list 5 ds]], .live 1 w] (.sl 1 1 0 kk) (.list 1 w) := by
      have := Vw.sl (h := [.live 2 [[.list 3 es, .list 5 ds]], .live 1 w]) (s := 1) (z := 1) rfl huw.get (i := 0) (n := kk) (by omega)
      rwa [List.drop_zero, List.take_of_length_le (by omega)] at this
    refine Call.stepE (by rw [← hP]; exact href) (by exact hut2) ?_
    cbv
    refine Call.view (args' := [.agg [.list 3 es, .list 5 ds], .int .i64 from_, .list 1 w]) (by rw [← hP]; exact hend) ⟨Vw.same (Up0.one hu (Up0.one hud rfl)), Vw.same rfl, hvw, trivial⟩ ?_
    rintro r rfl
    refine ⟨rfl, ?_⟩
    cbv
    refine Call.stepE (by rw [← hP]; exact hbeg) rfl ?_
    cbv
    simp only [eL]
    refine Loop.data hw (S := Int × List (List Int) × List (List AV)) (fun s => fr 129 [(2, .int .i64 from_), (5, .ref 0 2 0 0), (11, .list 1 w), (16, .int .i64 en), (17, .ref 1 2 0 0), (83, .list 2 pl), (84, .int .i64 L), (85, .int .i64 s.1)])
      (fun s => [.live 2 [[.list 3 es, .list 5 ds]], .live 2 [[.int .i64 from_, .list 13 s.2.2]]])
      (fun s => 0 ≤ s.1 ∧ s.1 ≤ L ∧ s.2.2 = s.2.1.map rtC ∧ Up0 s.2.2 ∧ (∀ l, l ∈ s.2.1 → WayOk ss l) ∧ s.2.1.length ≤ 16 ∧ ∃ r, r ∈ s.2.1 ∧ (r <+: pa ∨ pa <+: r)) (fun s => (L - s.1).toNat) (0, [[sg]], r0) (by (refine Wk.eqz (fun j => [0, 2].getD j 0) (by first | exact fun i _ j _ e => e | (simp only [List.length_cons, List.length_nil]; decide)) ?_; cbv; (repeat' (first | exact trivial | rfl | assumption | apply And.intro | (simp only [hbin, hcmp, hun, hconv, hnot, hbeq, hmm, hscmp, hsadd, hslen, hsat, heqs, hofNat, binStd, cmpStd, unStd, scmpStd, maxI, Bool.not_eq_true', Bool.not_eq_false', decide_eq_true_eq, decide_eq_false_iff_not, Int.not_lt, Int.not_le, if_true, if_false, Bool.false_eq_true, beq_iff_eq, bne_iff_ne, ne_eq, Bool.not_eq_eq_eq_not, Bool.not_true, Bool.not_false, beq_eq_false_iff_ne, bne_eq_false_iff_eq, Int.ofNat_eq_natCast, Bool.not_not, not_true_eq_false, not_false_eq_true, reduceCtorEq]; first | done | assumption) | exact RowsZ.same (by assumption) (by first | assumption | rfl) | exact FzL.mk rfl rfl rfl (by assumption) (by first | assumption | rfl) (by decide) | (refine RowsZ.one ?_; cbv))))) ⟨Int.le_refl _, L0, er0, hur0, hway, by simp, ride_pre hride⟩ ?_
    rintro ⟨j, m1, ra1⟩ hinv2 Q2 hN2 hE2 hR2
    have hinv2 : 0 ≤ j ∧ j ≤ L ∧ ra1 = m1.map rtC ∧ Up0 ra1 ∧ (∀ l, l ∈ m1 → WayOk ss l) ∧ m1.length ≤ 16 ∧ ∃ r, r ∈ m1 ∧ (r <+: pa ∨ pa <+: r) := hinv2
    cbv
    obtain ⟨hj0, hj1, hra1, hura, hw1, hl16, hcp⟩ := hinv2
    have hrows : ∀ (m : List (List Int)) (rr : List (List AV)), rr = m.map rtC → (∀ l, l ∈ m → WayOk ss l) → m.length ≤ 16 → (∃ r, r ∈ m ∧ (r <+: pa ∨ pa <+: r)) → PCalls Try.prog 24 [.agg [.int .i64 from_, .list 13 rr], .list 1 w] (· = .bool true) := fun m rr h1 h2 h3 h4 => by
      have := e_has m (fun l hl => (h2 l hl).len.1) (by omega) pa hr12 rr w h1 hwp from_
      rwa [has_iff.2 h4] at this
    (split <;> rename_i hd <;> (try (simp only [hbin, hcmp, hun, hconv, hnot, hbeq, hmm, hscmp, hsadd, hslen, hsat, heqs, hofNat, binStd, cmpStd, unStd, scmpStd, maxI, Bool.not_eq_true', Bool.not_eq_false', decide_eq_true_eq, decide_eq_false_iff_not, Int.not_lt, Int.not_le, if_true, if_false, Bool.false_eq_true, beq_iff_eq, bne_iff_ne, ne_eq, Bool.not_eq_eq_eq_not, Bool.not_true, Bool.not_false, beq_eq_false_iff_ne, bne_eq_false_iff_eq, Int.ofNat_eq_natCast, Bool.not_not, not_true_eq_false, not_false_eq_true, reduceCtorEq] at hd)) <;> (try cbv))
    rotate_left 1
    · refine hE2 _ _ _ ?_
      cbv
      refine Call.stepE (by rw [← hP]; exact hrows m1 ra1 hra1 hw1 hl16 hcp) (by simp only [uptoL, AV.upto, hura.get, huw.get]; rfl) ?_
      cbv
      exact hW _
    obtain ⟨⟨lo, hi⟩, hp⟩ : ∃ p, ps[j.toNat]? = some p := ⟨_, List.getElem?_eq_getElem (show j.toNat < ps.length by omega)⟩
    have hpi : pl[j.toNat]? = some [.int .i64 lo, .int .i64 hi] := by rw [hpl, List.getElem?_map, hp]; rfl
    obtain ⟨j2, ej2⟩ : ∃ z, z = j + 1 := ⟨_, rfl⟩
    have b4 : wbin .add .i64 j 1 = j2 := by rw [hbin, ej2]; show IntKind.i64.wrap (j + 1) = j + 1; rw [IntKind.wrap_i64]; omega
    have hT3 : (L - j2).toNat < (L - j).toNat := by omega
    have hsame : 0 ≤ j2 ∧ j2 ≤ L := by omega
    refine Idx.mk _ hj0 hpi ?_
    cbv
    repeat' (first
      | (simp only [b4]; refine hN2 (j2, m1, ra1) _ _ ?hx ?hI hT3; (case hx => (refine Wk.eqz (id) (by first | exact fun i _ j _ e => e | (simp only [List.length_cons, List.length_nil]; decide)) ?_; cbv; (repeat' (first | exact trivial | rfl | assumption | apply And.intro | (simp only [hbin, hcmp, hun, hconv, hnot, hbeq, hmm, hscmp, hsadd, hslen, hsat, heqs, hofNat, binStd, cmpStd, unStd, scmpStd, maxI, Bool.not_eq_true', Bool.not_eq_false', decide_eq_true_eq, decide_eq_false_iff_not, Int.not_lt, Int.not_le, if_true, if_false, Bool.false_eq_true, beq_iff_eq, bne_iff_ne, ne_eq, Bool.not_eq_eq_eq_not, Bool.not_true, Bool.not_false, beq_eq_false_iff_ne, bne_eq_false_iff_eq, Int.ofNat_eq_natCast, Bool.not_not, not_true_eq_false, not_false_eq_true, reduceCtorEq]; first | done | assumption) | exact RowsZ.same (by assumption) (by first | assumption | rfl) | exact FzL.mk rfl rfl rfl (by assumption) (by first | assumption | rfl) (by decide) | (refine RowsZ.one ?_; cbv))))); (case hI => exact ⟨hsame.1, hsame.2, hra1, hura, hw1, hl16, hcp⟩))
      | (split <;> rename_i h6 <;> (try (simp only [c0] at h6)) <;> (try (simp only [hbin, hcmp, hun, hconv, hnot, hbeq, hmm, hscmp, hsadd, hslen, hsat, heqs, hofNat, binStd, cmpStd, unStd, scmpStd, maxI, Bool.not_eq_true', Bool.not_eq_false', decide_eq_true_eq, decide_eq_false_iff_not, Int.not_lt, Int.not_le, if_true, if_false, Bool.false_eq_true, beq_iff_eq, bne_iff_ne, ne_eq, Bool.not_eq_eq_eq_not, Bool.not_true, Bool.not_false, beq_eq_false_iff_ne, bne_eq_false_iff_eq, Int.ofNat_eq_natCast, Bool.not_not, not_true_eq_false, not_false_eq_true, reduceCtorEq] at h6)) <;> (try cbv)))
    obtain ⟨v, ev⟩ : ∃ v, v = growA ss lo hi from_ m1 := ⟨_, rfl⟩
    have hA := e_grows ss gs es ds hes hds hln hnx lo hi from_ hM.fr m1 hw1 (by omega) ra1 hra1 v ev
    have hkp := keeps hln hride.ch hr12 m1 hw1 hcp (by rw [een]; omega) (show -from_ ≤ lo by omega) (show lo ≤ hi by omega) ev
    have hcase := growA_ok hnx m1 hw1 ev
    obtain ⟨⟨v1, v2⟩, v3⟩ := v
    obtain ⟨us, eus⟩ : ∃ x, x = v2.map rtC := ⟨_, rfl⟩
    have hA : PCalls Try.prog 19 [.agg [.int .i64 from_, .list 13 ra1], .agg [.list 3 es, .list 5 ds], .agg [.int .i64 lo, .int .i64 hi]] (· = .tuple [.agg [.int .i64 v1, .list 13 us], .int .i64 v3]) := by rw [eus]; exact hA
    refine Call.stepE (by rw [← hP]; exact hA) (by simp only [uptoL, AV.upto, hu.get, hud.get, hura.get]; rfl) ?_
    cbv
    have huus : Up0 us := by rw [eus]; exact up_map (f := rtC) (fun d => rfl) v2
    (split <;> rename_i h7 <;> (try (simp only [hbin, hcmp, hun, hconv, hnot, hbeq, hmm, hscmp, hsadd, hslen, hsat, heqs, hofNat, binStd, cmpStd, unStd, scmpStd, maxI, Bool.not_eq_true', Bool.not_eq_false', decide_eq_true_eq, decide_eq_false_iff_not, Int.not_lt, Int.not_le, if_true, if_false, Bool.false_eq_true, beq_iff_eq, bne_iff_ne, ne_eq, Bool.not_eq_eq_eq_not, Bool.not_true, Bool.not_false, beq_eq_false_iff_ne, bne_eq_false_iff_eq, Int.ofNat_eq_natCast, Bool.not_not, not_true_eq_false, not_false_eq_true, reduceCtorEq] at h7)) <;> (try cbv))
    · exact hR2 _ _ (hW _)
    have hk2 : v3 = 0 ∧ ∃ k, k ∈ v2 ∧ (k <+: pa ∨ pa <+: k) := by
      rcases hkp with h | h
      · exact absurd h h7
      · exact h
    obtain ⟨hv3, hcp2⟩ := hk2
    (split <;> rename_i h8 <;> (try (simp only [hbin, hcmp, hun, hconv, hnot, hbeq, hmm, hscmp, hsadd, hslen, hsat, heqs, hofNat, binStd, cmpStd, unStd, scmpStd, maxI, Bool.not_eq_true', Bool.not_eq_false', decide_eq_true_eq, decide_eq_false_iff_not, Int.not_lt, Int.not_le, if_true, if_false, Bool.false_eq_true, beq_iff_eq, bne_iff_ne, ne_eq, Bool.not_eq_eq_eq_not, Bool.not_true, Bool.not_false, beq_eq_false_iff_ne, bne_eq_false_iff_eq, Int.ofNat_eq_natCast, Bool.not_not, not_true_eq_false, not_false_eq_true, reduceCtorEq] at h8)) <;> (try cbv))
    · exact absurd hv3 h8
    have hgr : v1 = from_ ∧ Grown ss lo hi from_ v2 := by
      rcases hcase with h | h
      · exact absurd hv3 h.1
      · exact h.2
    obtain ⟨hv1, hG⟩ := hgr
    subst hv1
    refine Call.stepE (by rw [← hP]; exact hrows v2 us eus (fun l hl => (hG.ways l hl).1) hG.few hcp2) (by simp only [uptoL, AV.upto, huus.get, huw.get]; rfl) ?_
    cbv
    simp only [n1]
    cbv
    simp only [b4]
    refine hN2 (j2, v2, us) _ _ ?hx ?hI hT3
    case hx => (refine Wk.eqz (id) (by first | exact fun i _ j _ e => e | (simp only [List.length_cons, List.length_nil]; decide)) ?_; cbv; (repeat' (first | exact trivial | rfl | assumption | apply And.intro | (simp only [hbin, hcmp, hun, hconv, hnot, hbeq, hmm, hscmp, hsadd, hslen, hsat, heqs, hofNat, binStd, cmpStd, unStd, scmpStd, maxI, Bool.not_eq_true', Bool.not_eq_false', decide_eq_true_eq, decide_eq_false_iff_not, Int.not_lt, Int.not_le, if_true, if_false, Bool.false_eq_true, beq_iff_eq, bne_iff_ne, ne_eq, Bool.not_eq_eq_eq_not, Bool.not_true, Bool.not_false, beq_eq_false_iff_ne, bne_eq_false_iff_eq, Int.ofNat_eq_natCast, Bool.not_not, not_true_eq_false, not_false_eq_true, reduceCtorEq]; first | done | assumption) | exact RowsZ.same (by assumption) (by first | assumption | rfl) | exact FzL.mk rfl rfl rfl (by assumption) (by first | assumption | rfl) (by decide) | (refine RowsZ.one ?_; cbv))))
    case hI => exact ⟨hsame.1, hsame.2, eus, huus, fun l hl => (hG.ways l hl).1, hG.few, hcp2⟩
  have hgo : ∀ (c : Int) (k : Int), 0 ≤ k → nx[k.toNat]? = some c → RideOk ss sg (pa ++ [c]) ∧ (pa ++ [c]).length ≤ i2.toNat + 1 := fun c k hk hc => by
    have hm := List.mem_of_getElem? hc
    exact ⟨ride_snoc hride (by rw [hnxa]; exact hm) (hnxs c hm) (by omega), by simp; omega⟩
  obtain ⟨c0', hc0'⟩ : ∃ c, nx[(0 : Int).toNat]? = some c := ⟨_, List.getElem?_eq_getElem (show (0 : Int).toNat < nx.length by show 0 < nx.length; omega)⟩
  have hx0 : xn[(0 : Int).toNat]? = some [.int .i64 c0'] := by rw [← exn, List.getElem?_map, hc0']; rfl
  have hleaf : ∀ (c k : Int), 0 ≤ k → nx[k.toNat]? = some c → ∃ w' : List (List AV), w ++ [[.int .i64 c]] = w' ∧ w' = (pa ++ [c]).map nxRow ∧ Up0 w' := fun c k h1 h2 => ⟨_, rfl, by rw [hwp]; simp [nxRow], by rw [hwp]; have := up_nx (pa ++ [c]); simpa [nxRow] using this⟩
  repeat' (first
    | (split <;> rename_i h5 <;> (try (simp only [eX] at h5)) <;> (try (simp only [hbin, hcmp, hun, hconv, hnot, hbeq, hmm, hscmp, hsadd, hslen, hsat, heqs, hofNat, binStd, cmpStd, unStd, scmpStd, maxI, Bool.not_eq_true', Bool.not_eq_false', decide_eq_true_eq, decide_eq_false_iff_not, Int.not_lt, Int.not_le, if_true, if_false, Bool.false_eq_true, beq_iff_eq, bne_iff_ne, ne_eq, Bool.not_eq_eq_eq_not, Bool.not_true, Bool.not_false, beq_eq_false_iff_ne, bne_eq_false_iff_eq, Int.ofNat_eq_natCast, Bool.not_not, not_true_eq_false, not_false_eq_true, reduceCtorEq] at h5)) <;> (try cbv))
    | (simp only [eX]; cbv))
  all_goals first
    | (obtain ⟨g1, g2⟩ := hgo c0' 0 (by decide) hc0'
       obtain ⟨w', ew', hw', huw'⟩ := hleaf c0' 0 (by decide) hc0'
       obtain ⟨k', ek'⟩ : ∃ x, x = kk + 1 := ⟨_, rfl⟩
       have hwl' : w'.length = w.length + 1 := by rw [← ew']; simp
       refine Idx.mk _ (by decide) hx0 ?_
       cbv
       refine App.mk w' k' ew'.symm hkk ek' (by omega) (by omega) ?_
       cbv
       simp only [a4]
       refine hN (i2, pa ++ [c0'], w', k') _ _ ?hx ?hI hT2
       (case hx => (refine Wk.eqz (fun j => [0, 2].getD j 0) (by first | exact fun i _ j _ e => e | (simp only [List.length_cons, List.length_nil]; decide)) ?_; cbv; (repeat' (first | exact trivial | rfl | assumption | apply And.intro | (simp only [hbin, hcmp, hun, hconv, hnot, hbeq, hmm, hscmp, hsadd, hslen, hsat, heqs, hofNat, binStd, cmpStd, unStd, scmpStd, maxI, Bool.not_eq_true', Bool.not_eq_false', decide_eq_true_eq, decide_eq_false_iff_not, Int.not_lt, Int.not_le, if_true, if_false, Bool.false_eq_true, beq_iff_eq, bne_iff_ne, ne_eq, Bool.not_eq_eq_eq_not, Bool.not_true, Bool.not_false, beq_eq_false_iff_ne, bne_eq_false_iff_eq, Int.ofNat_eq_natCast, Bool.not_not, not_true_eq_false, not_false_eq_true, reduceCtorEq]; first | done | assumption) | exact RowsZ.same (by assumption) (by first | assumption | rfl) | exact FzL.mk rfl rfl rfl (by assumption) (by first | assumption | rfl) (by decide) | (refine RowsZ.one ?_; cbv)))))
       (case hI => exact ⟨by simp only; omega, by simp only; omega, g1, hw', huw', g2, by simp only; omega⟩))
    | (obtain ⟨c1', hc1'⟩ : ∃ c, nx[(1 : Int).toNat]? = some c := ⟨_, List.getElem?_eq_getElem (show (1 : Int).toNat < nx.length by show 1 < nx.length; omega)⟩
       have hx1 : xn[(1 : Int).toNat]? = some [.int .i64 c1'] := by rw [← exn, List.getElem?_map, hc1']; rfl
       obtain ⟨g1, g2⟩ := hgo c1' 1 (by decide) hc1'
       obtain ⟨w', ew', hw', huw'⟩ := hleaf c1' 1 (by decide) hc1'
       obtain ⟨k', ek'⟩ : ∃ x, x = kk + 1 := ⟨_, rfl⟩
       have hwl' : w'.length = w.length + 1 := by rw [← ew']; simp
       refine Idx.mk _ (by decide) hx1 ?_
       cbv
       refine App.mk w' k' ew'.symm hkk ek' (by omega) (by omega) ?_
       cbv
       simp only [a4]
       refine hN (i2, pa ++ [c1'], w', k') _ _ ?hx ?hI hT2
       (case hx => (refine Wk.eqz (fun j => [0, 2].getD j 0) (by first | exact fun i _ j _ e => e | (simp only [List.length_cons, List.length_nil]; decide)) ?_; cbv; (repeat' (first | exact trivial | rfl | assumption | apply And.intro | (simp only [hbin, hcmp, hun, hconv, hnot, hbeq, hmm, hscmp, hsadd, hslen, hsat, heqs, hofNat, binStd, cmpStd, unStd, scmpStd, maxI, Bool.not_eq_true', Bool.not_eq_false', decide_eq_true_eq, decide_eq_false_iff_not, Int.not_lt, Int.not_le, if_true, if_false, Bool.false_eq_true, beq_iff_eq, bne_iff_ne, ne_eq, Bool.not_eq_eq_eq_not, Bool.not_true, Bool.not_false, beq_eq_false_iff_ne, bne_eq_false_iff_eq, Int.ofNat_eq_natCast, Bool.not_not, not_true_eq_false, not_false_eq_true, reduceCtorEq]; first | done | assumption) | exact RowsZ.same (by assumption) (by first | assumption | rfl) | exact FzL.mk rfl rfl rfl (by assumption) (by first | assumption | rfl) (by decide) | (refine RowsZ.one ?_; cbv)))))
       (case hI => exact ⟨by simp only; omega, by simp only; omega, g1, hw', huw', g2, by simp only; omega⟩))
end Go.Proofs.Ytpiocfmdjgbamaa

/- What a configuration is. -/
set_option linter.unusedVariables false
set_option linter.unusedSimpArgs false
namespace Go.Proofs.Ytpiocfmdjgbamaa
open Go Go.RowKit Go.Eng
set_option maxRecDepth 100000
theorem ok_int {k : IntKind} {l : List Sh} {xs : List AV} (h : OkL (.int k :: l) xs) : ∃ n y, xs = .int k n :: y ∧ (Lit.int k n).wf = true ∧ OkL l y := by
  unfold OkL at h
  obtain ⟨x, y, rfl, h1, h2⟩ := h
  unfold Sh.Ok at h1
  obtain ⟨n, rfl, hn⟩ := h1
  exact ⟨n, y, rfl, hn, h2⟩
theorem ok_bool {l : List Sh} {xs : List AV} (h : OkL (.bool :: l) xs) : ∃ b y, xs = .bool b :: y ∧ OkL l y := by
  unfold OkL at h
  obtain ⟨x, y, rfl, h1, h2⟩ := h
  unfold Sh.Ok at h1
  obtain ⟨n, rfl⟩ := h1
  exact ⟨n, y, rfl, h2⟩
theorem ok_list {z : Nat} {row l : List Sh} {xs : List AV} (h : OkL (.list z row :: l) xs) : ∃ es y, xs = .list z es :: y ∧ es.length ≤ maxLen ∧ (∀ r, r ∈ es → OkL row r) ∧ OkL l y := by
  unfold OkL at h
  obtain ⟨x, y, rfl, h1, h2⟩ := h
  unfold Sh.Ok at h1
  obtain ⟨n, rfl, h3, h4⟩ := h1
  exact ⟨n, y, rfl, h3, h4, h2⟩
theorem ok_nil {xs : List AV} (h : OkL [] xs) : xs = [] := by unfold OkL at h; exact h
theorem wf64 {n : Int} (h : (Lit.int .i64 n).wf = true) : -9223372036854775808 ≤ n ∧ n ≤ 9223372036854775807 := by
  simp [Lit.wf, IntKind.min, IntKind.max, IntKind.signed, IntKind.bits] at h
  omega
theorem ty_conf (x : AV) (h : TyV Try.prog 8 68 x) : ∃ c0 c1 c2 c3 c4 c5 c6 c7 c8 c9 c10 c11 c12 c13 : Int, x = .agg [.int .i64 c0, .int .i64 c1, .int .i64 c2, .int .i64 c3, .int .i64 c4, .int .i64 c5, .int .i64 c6, .int .i64 c7, .int .i64 c8, .int .i64 c9, .int .i64 c10, .int .i64 c11, .int .i64 c12, .int .i64 c13] := by
  obtain ⟨cs, rfl, hx⟩ := h.agg (by kernel_rfl) (show shOf Try.prog 8 68 = some [.int .i64, .int .i64, .int .i64, .int .i64, .int .i64, .int .i64, .int .i64, .int .i64, .int .i64, .int .i64, .int .i64, .int .i64, .int .i64, .int .i64] from by kernel_rfl)
  obtain ⟨c0, _, rfl, _, hx⟩ := ok_int hx
  obtain ⟨c1, _, rfl, _, hx⟩ := ok_int hx
  obtain ⟨c2, _, rfl, _, hx⟩ := ok_int hx
  obtain ⟨c3, _, rfl, _, hx⟩ := ok_int hx
  obtain ⟨c4, _, rfl, _, hx⟩ := ok_int hx
  obtain ⟨c5, _, rfl, _, hx⟩ := ok_int hx
  obtain ⟨c6, _, rfl, _, hx⟩ := ok_int hx
  obtain ⟨c7, _, rfl, _, hx⟩ := ok_int hx
  obtain ⟨c8, _, rfl, _, hx⟩ := ok_int hx
  obtain ⟨c9, _, rfl, _, hx⟩ := ok_int hx
  obtain ⟨c10, _, rfl, _, hx⟩ := ok_int hx
  obtain ⟨c11, _, rfl, _, hx⟩ := ok_int hx
  obtain ⟨c12, _, rfl, _, hx⟩ := ok_int hx
  obtain ⟨c13, _, rfl, _, hx⟩ := ok_int hx
  obtain rfl := ok_nil hx
  exact ⟨c0, c1, c2, c3, c4, c5, c6, c7, c8, c9, c10, c11, c12, c13, rfl⟩
end Go.Proofs.Ytpiocfmdjgbamaa

/- What an int64 is. -/
set_option linter.unusedVariables false
set_option maxRecDepth 100000
namespace Go.Proofs.Ytpiocfmdjgbamaa
open Go Go.RowKit Go.Eng
theorem ty_i64 (x : AV) (h : TyV Try.prog 8 2 x) : ∃ n, x = .int .i64 n ∧ -9223372036854775808 ≤ n ∧ n ≤ 9223372036854775807 := by
  have h := h.one (by kernel_rfl) (show shOf Try.prog 8 2 = some [.int .i64] from by kernel_rfl)
  unfold Sh.Ok at h
  obtain ⟨n, rfl, hn⟩ := h
  exact ⟨n, rfl, wf64 hn⟩
end Go.Proofs.Ytpiocfmdjgbamaa

/- What a track is. -/
set_option linter.unusedVariables false
set_option maxRecDepth 100000
namespace Go.Proofs.Ytpiocfmdjgbamaa
open Go Go.RowKit Go.Eng
theorem ty_track (x : AV) (h : TyV Try.prog 8 25 x) : ∃ (ss : List Sg) (gs : List Gr), x = .agg [.list 3 (ss.map sgRow), .list 5 (gs.map grRow)] := by
  obtain ⟨cs, rfl, k0⟩ := h.agg (by kernel_rfl) (show shOf Try.prog 8 25 = some [.list 3 [.int .i64, .list 2 [.int .i64, .int .i64], .list 1 [.int .i64]], .list 5 [.int .i64, .int .i64, .int .i64, .int .i64, .int .i64]] from by kernel_rfl)
  clear h
  obtain ⟨es, _, rfl, _, hr, k1⟩ := ok_list k0
  obtain ⟨ds, _, rfl, _, hs, k2⟩ := ok_list k1
  obtain rfl := ok_nil k2
  clear k0 k1 k2
  obtain ⟨ss, rfl⟩ := rows_of (f := sgRow) (es := es) fun r hrr => by
    have k0 := hr r hrr
    clear hr hrr
    obtain ⟨len, _, rfl, _, k1⟩ := ok_int k0
    obtain ⟨ps, _, rfl, _, hp, k2⟩ := ok_list k1
    obtain ⟨ns, _, rfl, _, hn, k3⟩ := ok_list k2
    obtain rfl := ok_nil k3
    clear k0 k1 k2 k3
    obtain ⟨qs, rfl⟩ := rows_of (f := pcRow) (es := ps) fun r hrr => by
      have k0 := hp r hrr
      clear hp hrr
      obtain ⟨a, _, rfl, _, k1⟩ := ok_int k0
      obtain ⟨b, _, rfl, _, k2⟩ := ok_int k1
      obtain rfl := ok_nil k2
      exact ⟨(a, b), rfl⟩
    obtain ⟨ms, rfl⟩ := rows_of (f := nxRow) (es := ns) fun r hrr => by
      have k0 := hn r hrr
      clear hn hrr
      obtain ⟨a, _, rfl, _, k1⟩ := ok_int k0
      obtain rfl := ok_nil k1
      exact ⟨a, rfl⟩
    exact ⟨⟨len, qs, ms⟩, rfl⟩
  obtain ⟨gs, rfl⟩ := rows_of (f := grRow) (es := ds) fun r hrr => by
    have k0 := hs r hrr
    clear hr hs hrr
    obtain ⟨a, _, rfl, _, k1⟩ := ok_int k0
    obtain ⟨b, _, rfl, _, k2⟩ := ok_int k1
    obtain ⟨c, _, rfl, _, k3⟩ := ok_int k2
    obtain ⟨d, _, rfl, _, k4⟩ := ok_int k3
    obtain ⟨e, _, rfl, _, k5⟩ := ok_int k4
    obtain rfl := ok_nil k5
    exact ⟨⟨a, b, c, d, e⟩, rfl⟩
  exact ⟨ss, gs, rfl⟩
end Go.Proofs.Ytpiocfmdjgbamaa

/- What the arguments' types tell: numbers, spans, ways. -/
set_option linter.unusedVariables false
set_option linter.unusedSimpArgs false
namespace Go.Proofs.Ytpiocfmdjgbamaa
open Go Go.RowKit Go.Eng
set_option maxRecDepth 100000
theorem ty_intS (x : AV) (h : TyV Try.prog 8 3 x) : ∃ n, x = .int .i64 n := by
  have h := h.one (by kernel_rfl) (show shOf Try.prog 8 3 = some [.int .i64] from by kernel_rfl)
  unfold Sh.Ok at h
  obtain ⟨n, rfl, hn⟩ := h
  exact ⟨n, rfl⟩
theorem ty_span (x : AV) (h : TyV Try.prog 8 50 x) : ∃ a b, x = .agg [.int .i64 a, .int .i64 b] := by
  obtain ⟨cs, rfl, k0⟩ := h.agg (by kernel_rfl) (show shOf Try.prog 8 50 = some [.int .i64, .int .i64] from by kernel_rfl)
  obtain ⟨a, _, rfl, _, k1⟩ := ok_int k0
  obtain ⟨b, _, rfl, _, k2⟩ := ok_int k1
  obtain rfl := ok_nil k2
  exact ⟨a, b, rfl⟩
end Go.Proofs.Ytpiocfmdjgbamaa

/- RouteKeeps, joined. -/
set_option linter.unusedVariables false
set_option maxRecDepth 100000
namespace Go.Proofs.Ytpiocfmdjgbamaa
open Go Go.RowKit Go.Eng
theorem ty_placesK (x : AV) (h : TyV Try.prog 8 26 x) : ∃ ps : List (Int × Int), x = .list 2 (ps.map plRow) := by
  have h := h.one (by kernel_rfl) (show shOf Try.prog 8 26 = some [.list 2 [.int .i64, .int .i64]] from by kernel_rfl)
  unfold Sh.Ok at h
  obtain ⟨es, rfl, _, hr⟩ := h
  obtain ⟨ps, rfl⟩ := rows_of (f := plRow) (es := es) fun r hrr => by
    have k0 := hr r hrr
    clear hr hrr
    obtain ⟨a, _, rfl, _, k1⟩ := ok_int k0
    obtain ⟨b, _, rfl, _, k2⟩ := ok_int k1
    obtain rfl := ok_nil k2
    exact ⟨(a, b), rfl⟩
  exact ⟨ps, rfl⟩
theorem ty_turns (x : AV) (h : TyV Try.prog 8 61 x) : ∃ ts : List Bool, x = .list 1 (ts.map tnRow) := by
  have h := h.one (by kernel_rfl) (show shOf Try.prog 8 61 = some [.list 1 [.bool]] from by kernel_rfl)
  unfold Sh.Ok at h
  obtain ⟨es, rfl, _, hr⟩ := h
  obtain ⟨ts, rfl⟩ := rows_of (f := tnRow) (es := es) fun r hrr => by
    have k0 := hr r hrr
    clear hr hrr
    obtain ⟨a, _, rfl, k1⟩ := ok_bool k0
    obtain rfl := ok_nil k1
    exact ⟨a, rfl⟩
  exact ⟨ts, rfl⟩
theorem walk_RouteKeeps (x0 x1 x2 x3 x4 : AV) (h0 : TyV Try.prog 8 25 x0) (h1 : TyV Try.prog 8 3 x1) (h2 : TyV Try.prog 8 2 x2) (h3 : TyV Try.prog 8 61 x3) (h4 : TyV Try.prog 8 26 x4) : PCalls Try.prog 6 [x0, x1, x2, x3, x4] (fun r => r = .bool true) := by
  obtain ⟨ss, gs, rfl⟩ := ty_track x0 h0
  obtain ⟨sg, rfl⟩ := ty_intS x1 h1
  obtain ⟨f, rfl, _, _⟩ := ty_i64 x2 h2
  obtain ⟨ts, rfl⟩ := ty_turns x3 h3
  obtain ⟨ps, rfl⟩ := ty_placesK x4 h4
  exact e_rkeeps ss gs _ _ rfl rfl sg f ts _ rfl ps _ rfl
end Go.Proofs.Ytpiocfmdjgbamaa

