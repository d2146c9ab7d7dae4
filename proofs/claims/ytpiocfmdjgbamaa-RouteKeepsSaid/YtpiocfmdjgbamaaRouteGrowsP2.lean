/- Texts of the proof of RouteGrows, joined by wip/tools/pack.py. -/
import Derived.Test.YtpiocfmdjgbamaaRouteGrowsP1
import Derived.KernelRfl
import Derived.Test.YtpiocfmdjgbamaaEng33
/- Ways that have grown, plainly. -/
set_option linter.unusedVariables false
set_option linter.unusedSimpArgs false
namespace Go.Proofs.Ytpiocfmdjgbamaa
open Go Go.RowKit Go.Eng
/-- A way that goes on no further. -/
def leafP (ss : List Sg) (lo hi from_ : Int) (l : List Int) : Prop := lo ≤ endF ss from_ l ∧ (hi ≤ endF ss from_ l ∨ nxAt ss (lastI l) = [])
theorem endF_snoc (ss : List Sg) (from_ : Int) (l : List Int) (n : Int) : endF ss from_ (l ++ [n]) = endF ss from_ l + lenAt ss n := by unfold endF; rw [List.foldl_append]; rfl
theorem lastI_snoc : ∀ (l : List Int) (n : Int), lastI (l ++ [n]) = n
  | [], n => rfl
  | [a], n => rfl
  | a :: b :: l, n => lastI_snoc (b :: l) n
theorem WayOk.snoc {ss : List Sg} (hnx : NextOk ss) {l : List Int} (h : WayOk ss l) (h12 : l.length ≠ 12) {n q : Int} (hn : n ∈ nxAt ss q) : WayOk ss (l ++ [n]) := by
  have h1 := h.len
  refine ⟨by simp; omega, fun x hx => ?_⟩
  rcases List.mem_append.1 hx with hx | hx
  · exact h.seg x hx
  · simp at hx; subst hx; exact nxAt_ok hnx hn
theorem growF_all {ss : List Sg} (hnx : NextOk ss) {lo hi from_ : Int} : ∀ (f : Nat) (l : List Int) (s : Int × List (List Int)), WayOk ss l → (∀ k, k ∈ s.2 → WayOk ss k ∧ leafP ss lo hi from_ k) → ∀ k, k ∈ (growF ss lo hi f l (endF ss from_ l) s).2 → WayOk ss k ∧ leafP ss lo hi from_ k
  | 0, l, s, hl, hs => hs
  | f + 1, l, s, hl, hs => by
    unfold growF
    split
    · exact hs
    · split
      · rename_i hc
        intro k hk
        by_cases hlo : lo ≤ endF ss from_ l
        · simp only [if_pos hlo] at hk
          rcases putL_mem.1 hk with hk | rfl
          · exact hs k hk
          · exact ⟨hl, hlo, hc⟩
        · simp only [if_neg hlo] at hk
          exact hs k hk
      · split
        · exact hs
        · rename_i h12
          have step : ∀ (ns : List Int) (s : Int × List (List Int)), (∀ n, n ∈ ns → n ∈ nxAt ss (lastI l)) → (∀ k, k ∈ s.2 → WayOk ss k ∧ leafP ss lo hi from_ k) → ∀ k, k ∈ (ns.foldl (fun s n => growF ss lo hi f (l ++ [n]) (endF ss from_ l + lenAt ss n) s) s).2 → WayOk ss k ∧ leafP ss lo hi from_ k := by
            intro ns
            induction ns with
            | nil => intro s _ h; exact h
            | cons n ns ih =>
              intro s hns h
              refine ih _ (fun x hx => hns x (List.mem_cons_of_mem _ hx)) ?_
              have := growF_all hnx f (l ++ [n]) s (hl.snoc hnx h12 (hns n List.mem_cons_self)) h
              rw [endF_snoc] at this
              exact this
          exact step _ s (fun n hn => hn) hs
theorem fold_ind {α β : Type} {f : β → α → β} {P : β → Prop} : ∀ (l : List α) (s : β), P s → (∀ s a, a ∈ l → P s → P (f s a)) → P (l.foldl f s)
  | [], s, h, _ => h
  | a :: l, s, h, hf => fold_ind l (f s a) (hf s a List.mem_cons_self h) fun s b hb => hf s b (List.mem_cons_of_mem _ hb)
theorem growS_all {ss : List Sg} (hnx : NextOk ss) {lo hi from_ : Int} (ls : List (List Int)) (hl : ∀ l, l ∈ ls → WayOk ss l) : ∀ k, k ∈ (growS ss lo hi from_ ls).2 → WayOk ss k ∧ leafP ss lo hi from_ k :=
  fold_ind (P := fun s : Int × List (List Int) => ∀ k, k ∈ s.2 → WayOk ss k ∧ leafP ss lo hi from_ k) ls _ (fun k hk => by simp at hk) fun s l h hs => growF_all hnx _ l s (hl l h) hs
theorem growS_ok {ss : List Sg} {lo hi from_ : Int} (ls : List (List Int)) (hl : ∀ l, l ∈ ls → WayOk ss l) : GOk (growS ss lo hi from_ ls) :=
  fold_ind (P := GOk) ls _ ⟨by simp, fun _ => by simp, fun k hk => by simp at hk, List.nodup_nil⟩ fun s l h hs => growF_ok ss lo hi _ l _ s hs (hl l h).len
theorem growS_e {ss : List Sg} {lo hi from_ : Int} (ls : List (List Int)) : (growS ss lo hi from_ ls).1 = 0 ∨ (growS ss lo hi from_ ls).1 = 13 :=
  fold_ind (P := fun s : Int × List (List Int) => s.1 = 0 ∨ s.1 = 13) ls _ (.inl rfl) fun s l h hs => growF_e ss lo hi _ l _ s hs
theorem growF_leaf {ss : List Sg} {lo hi from_ : Int} {l : List Int} (h : leafP ss lo hi from_ l) (hl : WayOk ss l) (m : List (List Int)) : growF ss lo hi (13 - l.length) l (endF ss from_ l) (0, m) = (if 16 < (putL m l).length then 13 else 0, putL m l) := by
  obtain ⟨f, hf⟩ : ∃ f, 13 - l.length = f + 1 := ⟨12 - l.length, by have := hl.len; omega⟩
  rw [hf]
  unfold growF
  rw [if_neg (by simp), if_pos h.2]
  simp only [if_pos h.1]
theorem growS_leaves {ss : List Sg} {lo hi from_ : Int} : ∀ (ls m : List (List Int)), (∀ l, l ∈ ls → WayOk ss l ∧ leafP ss lo hi from_ l) → (m ++ ls).Nodup → (m ++ ls).length ≤ 16 → ls.foldl (fun s l => growF ss lo hi (13 - l.length) l (endF ss from_ l) s) (0, m) = (0, m ++ ls)
  | [], m, _, _, _ => by simp
  | l :: ls, m, hl, hn, h16 => by
    have hm : l ∉ m := fun h => by
      have := (List.nodup_append.1 hn).2.2 l h l List.mem_cons_self
      exact this rfl
    have hp : putL m l = m ++ [l] := by unfold putL; rw [if_neg hm]
    rw [List.foldl_cons, growF_leaf (hl l List.mem_cons_self).2 (hl l List.mem_cons_self).1, hp]
    have h1 : ¬ 16 < (m ++ [l]).length := by simp at h16 ⊢; omega
    rw [if_neg h1, growS_leaves ls (m ++ [l]) (fun k hk => hl k (List.mem_cons_of_mem _ hk)) (by simpa using hn) (by simpa using h16)]
    simp
theorem insR_le (l : List Int) : ∀ m, (∀ x, x ∈ m → ¬ ltR x l) → insR l m = l :: m
  | [], _ => rfl
  | k :: m, h => by unfold insR; rw [if_neg (h k List.mem_cons_self)]
theorem sortR_fix : ∀ m : List (List Int), m.Pairwise (fun x y => ¬ ltR y x) → sortR m = m
  | [], _ => rfl
  | l :: m, h => by
    obtain ⟨h1, h2⟩ := List.pairwise_cons.1 h
    show insR l (sortR m) = l :: m
    rw [sortR_fix m h2, insR_le l m h1]
theorem sortR_mem {m : List (List Int)} {l : List Int} : l ∈ sortR m ↔ l ∈ m := (sortR_perm m).mem_iff
/-- What is known of ways that have grown. -/
structure Grown (ss : List Sg) (lo hi from_ : Int) (m : List (List Int)) : Prop where
  le : lo ≤ hi ∧ -from_ ≤ lo
  ways : ∀ l, l ∈ m → WayOk ss l ∧ leafP ss lo hi from_ l
  nd : m.Nodup
  few : m.length ≤ 16
  some : m ≠ []
  sort : m.Pairwise (fun x y => ¬ ltR y x)
theorem growA_ok {ss : List Sg} (hnx : NextOk ss) {lo hi from_ : Int} (ls : List (List Int)) (hl : ∀ l, l ∈ ls → WayOk ss l) {v : (Int × List (List Int)) × Int} (hv : v = growA ss lo hi from_ ls) : (v.2 ≠ 0 ∧ v.1.2 = []) ∨ (v.2 = 0 ∧ v.1.1 = from_ ∧ Grown ss lo hi from_ v.1.2) := by
  unfold growA at hv
  split at hv
  · rw [hv]; exact .inl ⟨by decide, rfl⟩
  · rename_i h1
    split at hv
    · rename_i h2; rw [hv]; exact .inl ⟨h2, rfl⟩
    · rename_i h2
      have h2 : (growS ss lo hi from_ ls).1 = 0 := Classical.not_not.1 h2
      split at hv
      · rw [hv]; exact .inl ⟨by decide, rfl⟩
      · rename_i h3
        rw [hv]
        have hok := growS_ok (lo := lo) (hi := hi) (from_ := from_) ls hl
        exact .inr ⟨rfl, rfl, by omega, fun l h => growS_all hnx ls hl l (sortR_mem.1 h), (sortR_perm _).nodup_iff.2 hok.nd, by rw [(sortR_perm _).length_eq]; exact hok.few h2,
          fun h => h3 (List.length_eq_zero_iff.1 (by rw [← (sortR_perm _).length_eq]; simp only at h; rw [h]; rfl)), sortR_sorted _⟩
theorem Grown.again {ss : List Sg} {lo hi from_ : Int} {m : List (List Int)} (h : Grown ss lo hi from_ m) {hi' : Int} (h1 : lo ≤ hi') (h2 : hi' ≤ hi) : growA ss lo hi' from_ m = ((from_, m), 0) := by
  have hs : growS ss lo hi' from_ m = (0, m) := by
    have := growS_leaves (ss := ss) (lo := lo) (hi := hi') (from_ := from_) m [] (fun l hl => ⟨(h.ways l hl).1, (h.ways l hl).2.1, (h.ways l hl).2.2.imp (fun k => by omega) id⟩) (by simpa using h.nd) (by simpa using h.few)
    simpa [growS] using this
  have h0 := h.le
  unfold growA
  rw [if_neg (by omega), hs, if_neg (by simp), if_neg h.some, sortR_fix m h.sort]
end Go.Proofs.Ytpiocfmdjgbamaa

/- odographref14: End, Less, Put. -/
set_option linter.unusedVariables false
set_option linter.unusedSimpArgs false
namespace Go.Proofs.Ytpiocfmdjgbamaa
open Go Go.RowKit Go.Eng
set_option maxRecDepth 100000
set_option maxHeartbeats 1000000 in
theorem e_rend (ss : List Sg) (gs : List Gr) (es ds : List (List AV)) (hes : es = ss.map sgRow) (hds : ds = gs.map grRow) (hln : LensOk ss) (from_ : Int) (hf : 0 ≤ from_ ∧ from_ ≤ 1099511627776) (l : List Int) (hl : l.length ≤ 12) (hb : ∀ n, n ∈ l → 0 ≤ n ∧ n.toNat < ss.length) (ns : List (List AV)) (hns : ns = l.map nxRow) (y : Int) (ey : y = endF ss from_ l) :
    PCalls Try.prog 16 [.agg [.list 3 es, .list 5 ds], .int .i64 from_, .list 1 ns] (· = .int .i64 y) := by
  have hu : Up0 es := by rw [hes]; exact up_sg ss
  have hud : Up0 ds := by rw [hds]; exact up_gr gs
  have huns : Up0 ns := by rw [hns]; exact up_nx l
  have hnl : ns.length = l.length := by rw [hns]; simp
  (refine PCalls.ofY Try.func16 (by kernel_rfl) (by kernel_rfl) fun w hw R hR => ?_); (obtain ⟨wbin, wcmp, wun, wconv, wnot, wbeq, wmm, wscmp, wsadd, wslen, wsat, weqs, wlen, wnlen, wofNat, wtake, wdrop, wapp, wzero, wnat⟩ := w); (have hbin : wbin = binStd := congrArg Prims.bin hw); (have hcmp : wcmp = cmpStd := congrArg Prims.cmp hw); (have hun : wun = unStd := congrArg Prims.un hw); (have hconv : wconv = fun k n => k.wrap n := congrArg Prims.conv hw); (have hnot : wnot = fun b => !b := congrArg Prims.not hw); (have hbeq : wbeq = fun a b => a == b := congrArg Prims.beq hw); (have hmm : wmm = maxI := congrArg Prims.mm hw); (have hscmp : wscmp = scmpStd := congrArg Prims.scmp hw); (have hsadd : wsadd = fun x y => x ++ y := congrArg Prims.sadd hw); (have hslen : wslen = fun s => (s.size : Int) := congrArg Prims.slen hw); (have hsat : wsat = std.sat := congrArg Prims.sat hw); (have heqs : weqs = fun a b os => (eqOffs a b os).getD false := congrArg Prims.eqs hw); (have hlen : wlen = fun es => (es.length : Int) := congrArg Prims.len hw); (have hnlen : wnlen = fun es => es.length := congrArg Prims.nlen hw); (have hofNat : wofNat = (fun n : Nat => (n : Int)) := congrArg Prims.ofNat hw); (have htake : wtake = fun es b => es.take b.toNat := congrArg Prims.take hw); (have hdrop : wdrop = fun es a => es.drop a.toNat := congrArg Prims.drop hw); (have happ : wapp = fun a b => a ++ b := congrArg Prims.app hw); (have hzero : wzero = fun n z => List.replicate n.toNat z := congrArg Prims.zero hw); (have hnat : wnat = fun n => n.toNat := congrArg Prims.nat hw); (conv => arg 2; cbv); (generalize hP : Try.prog = P); cbv
  obtain ⟨a0, ea0⟩ : ∃ a0, a0 = -from_ := ⟨_, rfl⟩
  have c0 : wun .neg .i64 from_ = a0 := by rw [hun, ea0]; simp only [unStd]; rw [IntKind.wrap_i64]; omega
  simp only [c0]
  (obtain ⟨L, eL, L0, Ln⟩ : ∃ L : Int, wlen ns = L ∧ 0 ≤ L ∧ L.toNat = ns.length := ⟨(ns.length : Int), by rw [hlen], Int.natCast_nonneg _, Int.toNat_natCast _⟩)
  refine Loop.data hw (S := Int × Int) (fun s => fr 29 [(2, .list 1 ns), (3, .ref 0 2 0 0), (7, .int .i64 s.2), (8, .int .i64 s.1)])
    (fun s => [.live 2 [[.list 3 es, .list 5 ds]]])
    (fun s => 0 ≤ s.1 ∧ s.1 ≤ L ∧ s.2 = (l.take s.1.toNat).foldl (fun e n => e + lenAt ss n) a0 ∧ -1099511627776 ≤ s.2 ∧ s.2 ≤ s.1 * 1099511627776) (fun s => (L - s.1).toNat) (0, a0) (by (refine Wk.eqz (id) (by first | exact fun i _ j _ e => e | (simp only [List.length_cons, List.length_nil]; decide)) ?_; cbv; (repeat' (first | exact trivial | rfl | assumption | apply And.intro | (simp only [hbin, hcmp, hun, hconv, hnot, hbeq, hmm, hscmp, hsadd, hslen, hsat, heqs, hofNat, binStd, cmpStd, unStd, scmpStd, maxI, Bool.not_eq_true', Bool.not_eq_false', decide_eq_true_eq, decide_eq_false_iff_not, Int.not_lt, Int.not_le, if_true, if_false, Bool.false_eq_true, beq_iff_eq, bne_iff_ne, ne_eq, Bool.not_eq_eq_eq_not, Bool.not_true, Bool.not_false, beq_eq_false_iff_ne, bne_eq_false_iff_eq, Int.ofNat_eq_natCast, Bool.not_not, not_true_eq_false, not_false_eq_true, reduceCtorEq]; first | done | assumption) | exact RowsZ.same (by assumption) (by first | assumption | rfl) | exact FzL.mk rfl rfl rfl (by assumption) (by first | assumption | rfl) (by decide) | (refine RowsZ.one ?_; cbv))))) ⟨Int.le_refl _, L0, rfl, by simp only; omega, by simp only; omega⟩ ?_
  rintro ⟨i, e⟩ hinv Q' hN hE hR'
  have hinv : 0 ≤ i ∧ i ≤ L ∧ e = (l.take i.toNat).foldl (fun e n => e + lenAt ss n) a0 ∧ -1099511627776 ≤ e ∧ e ≤ i * 1099511627776 := hinv
  cbv
  obtain ⟨hi0, hi1, hfold, hb1, hb2⟩ := hinv
  simp only [eL]
  (split <;> rename_i hc <;> (try (simp only [hbin, hcmp, hun, hconv, hnot, hbeq, hmm, hscmp, hsadd, hslen, hsat, heqs, hofNat, binStd, cmpStd, unStd, scmpStd, maxI, Bool.not_eq_true', Bool.not_eq_false', decide_eq_true_eq, decide_eq_false_iff_not, Int.not_lt, Int.not_le, if_true, if_false, Bool.false_eq_true, beq_iff_eq, bne_iff_ne, ne_eq, Bool.not_eq_eq_eq_not, Bool.not_true, Bool.not_false, beq_eq_false_iff_ne, bne_eq_false_iff_eq, Int.ofNat_eq_natCast, Bool.not_not, not_true_eq_false, not_false_eq_true, reduceCtorEq] at hc)) <;> (try cbv))
  · have hit : i.toNat < l.length := by omega
    obtain ⟨q, hq⟩ : ∃ q, l[i.toNat]? = some q := ⟨_, List.getElem?_eq_getElem hit⟩
    have hni : ns[i.toNat]? = some (nxRow q) := by rw [hns, List.getElem?_map, hq]; rfl
    have hnb := hb q (List.mem_of_getElem? hq)
    obtain ⟨sg1, hd1, hrow1⟩ := get_map (f := sgRow) (ds := ss) (i := q) hnb.1 hnb.2
    have hle : lenAt ss q = sg1.len := by unfold lenAt; rw [hd1]
    have hl1 := hln.pos sg1 (List.mem_of_getElem? hd1)
    obtain ⟨len1, pcs1, nx1⟩ := sg1
    have hl1 : 1 ≤ len1 ∧ len1 ≤ 1099511627776 := hl1
    have hle : lenAt ss q = len1 := hle
    obtain ⟨q1, eq1⟩ : ∃ x, pcs1.map pcRow = x := ⟨_, rfl⟩
    obtain ⟨q2, eq2⟩ : ∃ x, nx1.map nxRow = x := ⟨_, rfl⟩
    have hrow1 : es[q.toNat]? = some [.int .i64 len1, .list 2 q1, .list 1 q2] := by rw [hes, ← eq1, ← eq2]; exact hrow1
    obtain ⟨e2, ee2⟩ : ∃ z, z = e + len1 := ⟨_, rfl⟩
    obtain ⟨i2, ei2⟩ : ∃ z, z = i + 1 := ⟨_, rfl⟩
    have a3 : wbin .add .i64 e len1 = e2 := by rw [hbin, ee2]; show IntKind.i64.wrap (e + len1) = e + len1; rw [IntKind.wrap_i64]; omega
    have a4 : wbin .add .i64 i 1 = i2 := by rw [hbin, ei2]; show IntKind.i64.wrap (i + 1) = i + 1; rw [IntKind.wrap_i64]; omega
    have hf2 : e2 = (l.take i2.toNat).foldl (fun e n => e + lenAt ss n) a0 := by
      rw [ei2, take_next hi0 hq, List.foldl_append, ← hfold, List.foldl_cons, List.foldl_nil, hle, ee2]
    refine Idx.mk _ hi0 hni ?_
    cbv
    refine Idx.mk _ hnb.1 hrow1 ?_
    cbv
    simp only [a3, a4]
    refine hN (i2, e2) _ _ ?hx ?hi ?ht
    case hx => (refine Wk.eqz (id) (by first | exact fun i _ j _ e => e | (simp only [List.length_cons, List.length_nil]; decide)) ?_; cbv; (repeat' (first | exact trivial | rfl | assumption | apply And.intro | (simp only [hbin, hcmp, hun, hconv, hnot, hbeq, hmm, hscmp, hsadd, hslen, hsat, heqs, hofNat, binStd, cmpStd, unStd, scmpStd, maxI, Bool.not_eq_true', Bool.not_eq_false', decide_eq_true_eq, decide_eq_false_iff_not, Int.not_lt, Int.not_le, if_true, if_false, Bool.false_eq_true, beq_iff_eq, bne_iff_ne, ne_eq, Bool.not_eq_eq_eq_not, Bool.not_true, Bool.not_false, beq_eq_false_iff_ne, bne_eq_false_iff_eq, Int.ofNat_eq_natCast, Bool.not_not, not_true_eq_false, not_false_eq_true, reduceCtorEq]; first | done | assumption) | exact RowsZ.same (by assumption) (by first | assumption | rfl) | exact FzL.mk rfl rfl rfl (by assumption) (by first | assumption | rfl) (by decide) | (refine RowsZ.one ?_; cbv))))
    case hi => exact ⟨by simp only; omega, by simp only; omega, hf2, by simp only; omega, by simp only; omega⟩
    case ht => simp only; omega
  · refine hE _ _ _ ?_
    cbv
    have : e = y := by rw [ey, hfold, List.take_of_length_le (by omega), ea0]; rfl
    exact ⟨_, Vw.same rfl, hR _ (by rw [this]; rfl)⟩
theorem ltL_at : ∀ (i : Nat) (l m : List Int), l.length = m.length → (∀ j, j < i → l.getD j 0 = m.getD j 0) → i < l.length → l.getD i 0 ≠ m.getD i 0 → (ltL l m ↔ l.getD i 0 < m.getD i 0)
  | _, [], _, _, _, h, _ => absurd h (by simp)
  | _, _ :: _, [], hl, _, _, _ => absurd hl (by simp)
  | 0, a :: l, b :: m, hl, _, _, hne => by
    simp only [List.getD_cons_zero] at hne ⊢
    simp only [ltL]
    exact ⟨fun h => h.elim id fun h => absurd h.1 hne, .inl⟩
  | i + 1, a :: l, b :: m, hl, hj, hi, hne => by
    have h0 := hj 0 (by omega)
    simp only [List.getD_cons_zero] at h0
    simp only [List.getD_cons_succ] at hne ⊢
    have ih := ltL_at i l m (by simpa using hl) (fun j h => by have := hj (j + 1) (by omega); simpa using this) (by simpa using hi) hne
    rw [← ih]
    simp only [ltL]
    exact ⟨fun h => h.elim (fun h => by omega) fun h => h.2, fun h => .inr ⟨h0, h⟩⟩
theorem ltL_all {l m : List Int} (hl : l.length = m.length) (h : ∀ j, j < l.length → l.getD j 0 = m.getD j 0) : ¬ ltL l m := by
  have : l = m := List.ext_getElem hl fun i h1 h2 => by have := h i h1; simpa [List.getD_eq_getElem?_getD, h1, h2] using this
  rw [this]; exact ltL_irrefl m
theorem key_at (l : List Int) (i : Nat) (hi : i < 12) : (toR l).key.getD i 0 = l.getD i 0 := by
  match i, hi with
  | 0, _ => rfl
  | 1, _ => rfl
  | 2, _ => rfl
  | 3, _ => rfl
  | 4, _ => rfl
  | 5, _ => rfl
  | 6, _ => rfl
  | 7, _ => rfl
  | 8, _ => rfl
  | 9, _ => rfl
  | 10, _ => rfl
  | 11, _ => rfl
theorem key_last (l : List Int) : (toR l).key.getD 12 0 = lenI l := rfl
/-- The first places alike, then two that differ. -/
theorem ltR_at {a b : List Int} {i : Nat} (hi : i < 12) (h : ∀ j, j < i → a.getD j 0 = b.getD j 0) (hne : a.getD i 0 ≠ b.getD i 0) : ltR a b ↔ a.getD i 0 < b.getD i 0 := by
  have := ltL_at i (toR a).key (toR b).key rfl (fun j hj => by rw [key_at a j (by omega), key_at b j (by omega)]; exact h j hj) (show i < 13 by omega) (by rw [key_at a i hi, key_at b i hi]; exact hne)
  rw [key_at a i hi, key_at b i hi] at this
  exact this
theorem ltR_len {a b : List Int} (h : ∀ j, j < 12 → a.getD j 0 = b.getD j 0) : ltR a b ↔ a.length < b.length := by
  by_cases hl : a.length = b.length
  · have h1 : ¬ ltR a b := ltL_all rfl fun j hj => by
      have hj : j < 13 := hj
      by_cases h12 : j = 12
      · subst h12; rw [key_last, key_last, lenI_len, lenI_len, hl]
      · rw [key_at a j (by omega), key_at b j (by omega)]; exact h j (by omega)
    exact ⟨fun h => absurd h h1, fun h => by omega⟩
  · have := ltL_at 12 (toR a).key (toR b).key rfl (fun j hj => by rw [key_at a j hj, key_at b j hj]; exact h j hj) (show 12 < 13 by omega) (by rw [key_last, key_last, lenI_len, lenI_len]; omega)
    rw [key_last, key_last, lenI_len, lenI_len] at this
    unfold ltR
    rw [this]; omega
set_option maxHeartbeats 1000000 in
theorem e_less (a b : List Int) (ha : a.length ≤ 12) (hb : b.length ≤ 12) (ra rb : List (List AV)) (has : ra = a.map nxRow) (hbs : rb = b.map nxRow) (o : Bool) (ho : o = decide (ltR a b)) :
    PCalls Try.prog 96 [.list 1 ra, .list 1 rb] (· = .bool o) := by
  have hua : Up0 ra := by rw [has]; exact up_nx a
  have hub : Up0 rb := by rw [hbs]; exact up_nx b
  have hal : ra.length = a.length := by rw [has]; simp
  have hbl : rb.length = b.length := by rw [hbs]; simp
  (refine PCalls.ofY Try.func96 (by kernel_rfl) (by kernel_rfl) fun w hw R hR => ?_); (obtain ⟨wbin, wcmp, wun, wconv, wnot, wbeq, wmm, wscmp, wsadd, wslen, wsat, weqs, wlen, wnlen, wofNat, wtake, wdrop, wapp, wzero, wnat⟩ := w); (have hbin : wbin = binStd := congrArg Prims.bin hw); (have hcmp : wcmp = cmpStd := congrArg Prims.cmp hw); (have hun : wun = unStd := congrArg Prims.un hw); (have hconv : wconv = fun k n => k.wrap n := congrArg Prims.conv hw); (have hnot : wnot = fun b => !b := congrArg Prims.not hw); (have hbeq : wbeq = fun a b => a == b := congrArg Prims.beq hw); (have hmm : wmm = maxI := congrArg Prims.mm hw); (have hscmp : wscmp = scmpStd := congrArg Prims.scmp hw); (have hsadd : wsadd = fun x y => x ++ y := congrArg Prims.sadd hw); (have hslen : wslen = fun s => (s.size : Int) := congrArg Prims.slen hw); (have hsat : wsat = std.sat := congrArg Prims.sat hw); (have heqs : weqs = fun a b os => (eqOffs a b os).getD false := congrArg Prims.eqs hw); (have hlen : wlen = fun es => (es.length : Int) := congrArg Prims.len hw); (have hnlen : wnlen = fun es => es.length := congrArg Prims.nlen hw); (have hofNat : wofNat = (fun n : Nat => (n : Int)) := congrArg Prims.ofNat hw); (have htake : wtake = fun es b => es.take b.toNat := congrArg Prims.take hw); (have hdrop : wdrop = fun es a => es.drop a.toNat := congrArg Prims.drop hw); (have happ : wapp = fun a b => a ++ b := congrArg Prims.app hw); (have hzero : wzero = fun n z => List.replicate n.toNat z := congrArg Prims.zero hw); (have hnat : wnat = fun n => n.toNat := congrArg Prims.nat hw); (conv => arg 2; cbv); (generalize hP : Try.prog = P); cbv
  (obtain ⟨L, eL, L0, Ln⟩ : ∃ L : Int, wlen ra = L ∧ 0 ≤ L ∧ L.toNat = ra.length := ⟨(ra.length : Int), by rw [hlen], Int.natCast_nonneg _, Int.toNat_natCast _⟩)
  (obtain ⟨M, eM, M0, Mn⟩ : ∃ L : Int, wlen rb = L ∧ 0 ≤ L ∧ L.toNat = rb.length := ⟨(rb.length : Int), by rw [hlen], Int.natCast_nonneg _, Int.toNat_natCast _⟩)
  refine Loop.data hw (S := Int) (fun i => fr 39 [(0, .list 1 ra), (1, .list 1 rb), (5, .int .i64 i)]) (fun s => [])
    (fun i => 0 ≤ i ∧ i ≤ 12 ∧ ∀ j, j < i.toNat → a.getD j 0 = b.getD j 0) (fun i => (12 - i).toNat) 0 (by (refine Wk.eqz (id) (by first | exact fun i _ j _ e => e | (simp only [List.length_cons, List.length_nil]; decide)) ?_; cbv; (repeat' (first | exact trivial | rfl | assumption | apply And.intro | (simp only [hbin, hcmp, hun, hconv, hnot, hbeq, hmm, hscmp, hsadd, hslen, hsat, heqs, hofNat, binStd, cmpStd, unStd, scmpStd, maxI, Bool.not_eq_true', Bool.not_eq_false', decide_eq_true_eq, decide_eq_false_iff_not, Int.not_lt, Int.not_le, if_true, if_false, Bool.false_eq_true, beq_iff_eq, bne_iff_ne, ne_eq, Bool.not_eq_eq_eq_not, Bool.not_true, Bool.not_false, beq_eq_false_iff_ne, bne_eq_false_iff_eq, Int.ofNat_eq_natCast, Bool.not_not, not_true_eq_false, not_false_eq_true, reduceCtorEq]; first | done | assumption) | exact RowsZ.same (by assumption) (by first | assumption | rfl) | exact FzL.mk rfl rfl rfl (by assumption) (by first | assumption | rfl) (by decide) | (refine RowsZ.one ?_; cbv))))) ⟨Int.le_refl _, by decide, fun j hj => (by simp at hj)⟩ ?_
  rintro i hinv Q' hN hE hR'
  have hinv : 0 ≤ i ∧ i ≤ 12 ∧ ∀ j, j < i.toNat → a.getD j 0 = b.getD j 0 := hinv
  cbv
  obtain ⟨hi0, hi1, hpre⟩ := hinv
  (split <;> rename_i hc <;> (try (simp only [hbin, hcmp, hun, hconv, hnot, hbeq, hmm, hscmp, hsadd, hslen, hsat, heqs, hofNat, binStd, cmpStd, unStd, scmpStd, maxI, Bool.not_eq_true', Bool.not_eq_false', decide_eq_true_eq, decide_eq_false_iff_not, Int.not_lt, Int.not_le, if_true, if_false, Bool.false_eq_true, beq_iff_eq, bne_iff_ne, ne_eq, Bool.not_eq_eq_eq_not, Bool.not_true, Bool.not_false, beq_eq_false_iff_ne, bne_eq_false_iff_eq, Int.ofNat_eq_natCast, Bool.not_not, not_true_eq_false, not_false_eq_true, reduceCtorEq] at hc)) <;> (try cbv))
  · obtain ⟨x, ex⟩ : ∃ x, x = a.getD i.toNat 0 := ⟨_, rfl⟩
    obtain ⟨y, ey⟩ : ∃ y, y = b.getD i.toNat 0 := ⟨_, rfl⟩
    obtain ⟨i2, ei2⟩ : ∃ z, z = i + 1 := ⟨_, rfl⟩
    have a4 : wbin .add .i64 i 1 = i2 := by rw [hbin, ei2]; show IntKind.i64.wrap (i + 1) = i + 1; rw [IntKind.wrap_i64]; omega
    have hra : i.toNat < a.length → ra[i.toNat]? = some (nxRow x) := fun h => by rw [has, List.getElem?_map, ex, List.getD_eq_getElem?_getD, List.getElem?_eq_getElem h]; rfl
    have hrb : i.toNat < b.length → rb[i.toNat]? = some (nxRow y) := fun h => by rw [hbs, List.getElem?_map, ey, List.getD_eq_getElem?_getD, List.getElem?_eq_getElem h]; rfl
    have hxz : a.length ≤ i.toNat → x = 0 := fun h => by rw [ex, List.getD_eq_getElem?_getD, List.getElem?_eq_none h]; rfl
    have hyz : b.length ≤ i.toNat → y = 0 := fun h => by rw [ey, List.getD_eq_getElem?_getD, List.getElem?_eq_none h]; rfl
    (split <;> rename_i h1 <;> (try (simp only [eL] at h1)) <;> (try (simp only [hbin, hcmp, hun, hconv, hnot, hbeq, hmm, hscmp, hsadd, hslen, hsat, heqs, hofNat, binStd, cmpStd, unStd, scmpStd, maxI, Bool.not_eq_true', Bool.not_eq_false', decide_eq_true_eq, decide_eq_false_iff_not, Int.not_lt, Int.not_le, if_true, if_false, Bool.false_eq_true, beq_iff_eq, bne_iff_ne, ne_eq, Bool.not_eq_eq_eq_not, Bool.not_true, Bool.not_false, beq_eq_false_iff_ne, bne_eq_false_iff_eq, Int.ofNat_eq_natCast, Bool.not_not, not_true_eq_false, not_false_eq_true, reduceCtorEq] at h1)) <;> (try cbv))
    · refine Idx.mk _ hi0 (hra (by omega)) ?_
      cbv
      (split <;> rename_i h2 <;> (try (simp only [eM] at h2)) <;> (try (simp only [hbin, hcmp, hun, hconv, hnot, hbeq, hmm, hscmp, hsadd, hslen, hsat, heqs, hofNat, binStd, cmpStd, unStd, scmpStd, maxI, Bool.not_eq_true', Bool.not_eq_false', decide_eq_true_eq, decide_eq_false_iff_not, Int.not_lt, Int.not_le, if_true, if_false, Bool.false_eq_true, beq_iff_eq, bne_iff_ne, ne_eq, Bool.not_eq_eq_eq_not, Bool.not_true, Bool.not_false, beq_eq_false_iff_ne, bne_eq_false_iff_eq, Int.ofNat_eq_natCast, Bool.not_not, not_true_eq_false, not_false_eq_true, reduceCtorEq] at h2)) <;> (try cbv))
      · refine Idx.mk _ hi0 (hrb (by omega)) ?_
        cbv
        (split <;> rename_i h3 <;> (try (simp only [hbin, hcmp, hun, hconv, hnot, hbeq, hmm, hscmp, hsadd, hslen, hsat, heqs, hofNat, binStd, cmpStd, unStd, scmpStd, maxI, Bool.not_eq_true', Bool.not_eq_false', decide_eq_true_eq, decide_eq_false_iff_not, Int.not_lt, Int.not_le, if_true, if_false, Bool.false_eq_true, beq_iff_eq, bne_iff_ne, ne_eq, Bool.not_eq_eq_eq_not, Bool.not_true, Bool.not_false, beq_eq_false_iff_ne, bne_eq_false_iff_eq, Int.ofNat_eq_natCast, Bool.not_not, not_true_eq_false, not_false_eq_true, reduceCtorEq] at h3)) <;> (try cbv))
        · refine hR' _ _ ⟨_, Vw.same rfl, hR _ ?_⟩
          have := ltR_at (a := a) (b := b) (i := i.toNat) (by omega) hpre (by rw [← ex, ← ey]; exact h3)
          rw [ho, hcmp]
          simp only [cmpStd]
          show AV.bool _ = AV.bool _
          congr 1
          rw [decide_eq_decide, this, ← ex, ← ey]
        · simp only [a4]
          refine hN i2 _ _ ?hx ?hi ?ht
          case hx => (refine Wk.eqz (id) (by first | exact fun i _ j _ e => e | (simp only [List.length_cons, List.length_nil]; decide)) ?_; cbv; (repeat' (first | exact trivial | rfl | assumption | apply And.intro | (simp only [hbin, hcmp, hun, hconv, hnot, hbeq, hmm, hscmp, hsadd, hslen, hsat, heqs, hofNat, binStd, cmpStd, unStd, scmpStd, maxI, Bool.not_eq_true', Bool.not_eq_false', decide_eq_true_eq, decide_eq_false_iff_not, Int.not_lt, Int.not_le, if_true, if_false, Bool.false_eq_true, beq_iff_eq, bne_iff_ne, ne_eq, Bool.not_eq_eq_eq_not, Bool.not_true, Bool.not_false, beq_eq_false_iff_ne, bne_eq_false_iff_eq, Int.ofNat_eq_natCast, Bool.not_not, not_true_eq_false, not_false_eq_true, reduceCtorEq]; first | done | assumption) | exact RowsZ.same (by assumption) (by first | assumption | rfl) | exact FzL.mk rfl rfl rfl (by assumption) (by first | assumption | rfl) (by decide) | (refine RowsZ.one ?_; cbv))))
          case hi =>
            refine ⟨by omega, by omega, fun j hj => ?_⟩
            by_cases hji : j = i.toNat
            · rw [hji, ← ex, ← ey]; first | exact h3 | rfl
            · exact hpre j (by omega)
          case ht => omega
      · obtain rfl : y = 0 := hyz (by omega)
        (split <;> rename_i h3 <;> (try (simp only [hbin, hcmp, hun, hconv, hnot, hbeq, hmm, hscmp, hsadd, hslen, hsat, heqs, hofNat, binStd, cmpStd, unStd, scmpStd, maxI, Bool.not_eq_true', Bool.not_eq_false', decide_eq_true_eq, decide_eq_false_iff_not, Int.not_lt, Int.not_le, if_true, if_false, Bool.false_eq_true, beq_iff_eq, bne_iff_ne, ne_eq, Bool.not_eq_eq_eq_not, Bool.not_true, Bool.not_false, beq_eq_false_iff_ne, bne_eq_false_iff_eq, Int.ofNat_eq_natCast, Bool.not_not, not_true_eq_false, not_false_eq_true, reduceCtorEq] at h3)) <;> (try cbv))
        · refine hR' _ _ ⟨_, Vw.same rfl, hR _ ?_⟩
          have := ltR_at (a := a) (b := b) (i := i.toNat) (by omega) hpre (by rw [← ex, ← ey]; exact h3)
          rw [ho, hcmp]
          simp only [cmpStd]
          show AV.bool _ = AV.bool _
          congr 1
          rw [decide_eq_decide, this, ← ex, ← ey]
        · simp only [a4]
          refine hN i2 _ _ ?hx ?hi ?ht
          case hx => (refine Wk.eqz (id) (by first | exact fun i _ j _ e => e | (simp only [List.length_cons, List.length_nil]; decide)) ?_; cbv; (repeat' (first | exact trivial | rfl | assumption | apply And.intro | (simp only [hbin, hcmp, hun, hconv, hnot, hbeq, hmm, hscmp, hsadd, hslen, hsat, heqs, hofNat, binStd, cmpStd, unStd, scmpStd, maxI, Bool.not_eq_true', Bool.not_eq_false', decide_eq_true_eq, decide_eq_false_iff_not, Int.not_lt, Int.not_le, if_true, if_false, Bool.false_eq_true, beq_iff_eq, bne_iff_ne, ne_eq, Bool.not_eq_eq_eq_not, Bool.not_true, Bool.not_false, beq_eq_false_iff_ne, bne_eq_false_iff_eq, Int.ofNat_eq_natCast, Bool.not_not, not_true_eq_false, not_false_eq_true, reduceCtorEq]; first | done | assumption) | exact RowsZ.same (by assumption) (by first | assumption | rfl) | exact FzL.mk rfl rfl rfl (by assumption) (by first | assumption | rfl) (by decide) | (refine RowsZ.one ?_; cbv))))
          case hi =>
            refine ⟨by omega, by omega, fun j hj => ?_⟩
            by_cases hji : j = i.toNat
            · rw [hji, ← ex, ← ey]; first | exact h3 | rfl
            · exact hpre j (by omega)
          case ht => omega
    · obtain rfl : x = 0 := hxz (by omega)
      (split <;> rename_i h2 <;> (try (simp only [eM] at h2)) <;> (try (simp only [hbin, hcmp, hun, hconv, hnot, hbeq, hmm, hscmp, hsadd, hslen, hsat, heqs, hofNat, binStd, cmpStd, unStd, scmpStd, maxI, Bool.not_eq_true', Bool.not_eq_false', decide_eq_true_eq, decide_eq_false_iff_not, Int.not_lt, Int.not_le, if_true, if_false, Bool.false_eq_true, beq_iff_eq, bne_iff_ne, ne_eq, Bool.not_eq_eq_eq_not, Bool.not_true, Bool.not_false, beq_eq_false_iff_ne, bne_eq_false_iff_eq, Int.ofNat_eq_natCast, Bool.not_not, not_true_eq_false, not_false_eq_true, reduceCtorEq] at h2)) <;> (try cbv))
      · refine Idx.mk _ hi0 (hrb (by omega)) ?_
        cbv
        (split <;> rename_i h3 <;> (try (simp only [hbin, hcmp, hun, hconv, hnot, hbeq, hmm, hscmp, hsadd, hslen, hsat, heqs, hofNat, binStd, cmpStd, unStd, scmpStd, maxI, Bool.not_eq_true', Bool.not_eq_false', decide_eq_true_eq, decide_eq_false_iff_not, Int.not_lt, Int.not_le, if_true, if_false, Bool.false_eq_true, beq_iff_eq, bne_iff_ne, ne_eq, Bool.not_eq_eq_eq_not, Bool.not_true, Bool.not_false, beq_eq_false_iff_ne, bne_eq_false_iff_eq, Int.ofNat_eq_natCast, Bool.not_not, not_true_eq_false, not_false_eq_true, reduceCtorEq] at h3)) <;> (try cbv))
        · refine hR' _ _ ⟨_, Vw.same rfl, hR _ ?_⟩
          have := ltR_at (a := a) (b := b) (i := i.toNat) (by omega) hpre (by rw [← ex, ← ey]; exact h3)
          rw [ho, hcmp]
          simp only [cmpStd]
          show AV.bool _ = AV.bool _
          congr 1
          rw [decide_eq_decide, this, ← ex, ← ey]
        · simp only [a4]
          refine hN i2 _ _ ?hx ?hi ?ht
          case hx => (refine Wk.eqz (id) (by first | exact fun i _ j _ e => e | (simp only [List.length_cons, List.length_nil]; decide)) ?_; cbv; (repeat' (first | exact trivial | rfl | assumption | apply And.intro | (simp only [hbin, hcmp, hun, hconv, hnot, hbeq, hmm, hscmp, hsadd, hslen, hsat, heqs, hofNat, binStd, cmpStd, unStd, scmpStd, maxI, Bool.not_eq_true', Bool.not_eq_false', decide_eq_true_eq, decide_eq_false_iff_not, Int.not_lt, Int.not_le, if_true, if_false, Bool.false_eq_true, beq_iff_eq, bne_iff_ne, ne_eq, Bool.not_eq_eq_eq_not, Bool.not_true, Bool.not_false, beq_eq_false_iff_ne, bne_eq_false_iff_eq, Int.ofNat_eq_natCast, Bool.not_not, not_true_eq_false, not_false_eq_true, reduceCtorEq]; first | done | assumption) | exact RowsZ.same (by assumption) (by first | assumption | rfl) | exact FzL.mk rfl rfl rfl (by assumption) (by first | assumption | rfl) (by decide) | (refine RowsZ.one ?_; cbv))))
          case hi =>
            refine ⟨by omega, by omega, fun j hj => ?_⟩
            by_cases hji : j = i.toNat
            · rw [hji, ← ex, ← ey]; first | exact h3 | rfl
            · exact hpre j (by omega)
          case ht => omega
      · obtain rfl : y = 0 := hyz (by omega)
        have c9 : wcmp .neq 0 0 = false := by rw [hcmp]; rfl
        simp only [c9]
        cbv
        simp only [a4]
        refine hN i2 _ _ ?hx ?hi ?ht
        case hx => (refine Wk.eqz (id) (by first | exact fun i _ j _ e => e | (simp only [List.length_cons, List.length_nil]; decide)) ?_; cbv; (repeat' (first | exact trivial | rfl | assumption | apply And.intro | (simp only [hbin, hcmp, hun, hconv, hnot, hbeq, hmm, hscmp, hsadd, hslen, hsat, heqs, hofNat, binStd, cmpStd, unStd, scmpStd, maxI, Bool.not_eq_true', Bool.not_eq_false', decide_eq_true_eq, decide_eq_false_iff_not, Int.not_lt, Int.not_le, if_true, if_false, Bool.false_eq_true, beq_iff_eq, bne_iff_ne, ne_eq, Bool.not_eq_eq_eq_not, Bool.not_true, Bool.not_false, beq_eq_false_iff_ne, bne_eq_false_iff_eq, Int.ofNat_eq_natCast, Bool.not_not, not_true_eq_false, not_false_eq_true, reduceCtorEq]; first | done | assumption) | exact RowsZ.same (by assumption) (by first | assumption | rfl) | exact FzL.mk rfl rfl rfl (by assumption) (by first | assumption | rfl) (by decide) | (refine RowsZ.one ?_; cbv))))
        case hi =>
          refine ⟨by omega, by omega, fun j hj => ?_⟩
          by_cases hji : j = i.toNat
          · rw [hji, ← ex, ← ey]
          · exact hpre j (by omega)
        case ht => omega
  · refine hE _ _ _ ?_
    cbv
    simp only [eL, eM]
    refine ⟨_, Vw.same rfl, hR _ ?_⟩
    have := ltR_len (a := a) (b := b) fun j hj => hpre j (by omega)
    rw [ho, hcmp]
    simp only [cmpStd]
    show AV.bool _ = AV.bool _
    congr 1
    rw [decide_eq_decide, this]
    omega
/-- A way in its place, if it isn't there. -/
def putQ : List (List Int) → List Int → List (List Int)
  | [], r => [r]
  | k :: l, r => if ltR k r then k :: putQ l r else if ltR r k then r :: k :: l else k :: l
theorem drop_get {α : Type} {l : List α} {i : Nat} {a : α} (h : l[i]? = some a) : l.drop i = a :: l.drop (i + 1) := by
  have h1 := (List.getElem?_eq_some_iff.1 h)
  rw [List.drop_eq_getElem_cons h1.1, h1.2]
theorem putQ_lt {k r : List Int} (h : ltR k r) (l : List (List Int)) : putQ (k :: l) r = k :: putQ l r := by show (if ltR k r then _ else _) = _; rw [if_pos h]
theorem putQ_gt {k r : List Int} (h : ¬ ltR k r) (h2 : ltR r k) (l : List (List Int)) : putQ (k :: l) r = r :: k :: l := by show (if ltR k r then _ else _) = _; rw [if_neg h, if_pos h2]
theorem putQ_eq {k r : List Int} (h : ¬ ltR k r) (h2 : ¬ ltR r k) (l : List (List Int)) : putQ (k :: l) r = k :: l := by show (if ltR k r then _ else _) = _; rw [if_neg h, if_neg h2]
theorem up_one1 {xs : List (List AV)} (h : Up0 xs) : uptoLL 0 [[AV.list 1 xs]] = true := by simp only [uptoLL, uptoL, AV.upto, h.get]; rfl
theorem up_two {xs ys : List (List AV)} (h : Up0 xs) (k : Up0 ys) : uptoL 0 [AV.list 1 xs, .list 1 ys] = true := Up0.one h (Up0.one k rfl)
set_option maxHeartbeats 2000000 in
theorem e_put (l : List (List Int)) (r : List Int) (hl : ∀ k, k ∈ l → k.length ≤ 12) (hl16 : l.length ≤ 1000) (hr : r.length ≤ 12) (ls rs : List (List AV)) (hls : ls = l.map rtRow) (hrs : rs = r.map nxRow) :
    PCalls Try.prog 69 [.list 1 ls, .list 1 rs] (· = .list 1 ((putQ l r).map rtRow)) := by
  have hul : Up0 ls := by rw [hls]; exact up_rt l
  have hur : Up0 rs := by rw [hrs]; exact up_nx r
  have hll : ls.length = l.length := by rw [hls]; simp
  obtain ⟨q, eq⟩ : ∃ q, q = (putQ l r).map rtRow := ⟨_, rfl⟩
  rw [← eq]
  (refine PCalls.ofY Try.func69 (by kernel_rfl) (by kernel_rfl) fun w hw R hR => ?_); (obtain ⟨wbin, wcmp, wun, wconv, wnot, wbeq, wmm, wscmp, wsadd, wslen, wsat, weqs, wlen, wnlen, wofNat, wtake, wdrop, wapp, wzero, wnat⟩ := w); (have hbin : wbin = binStd := congrArg Prims.bin hw); (have hcmp : wcmp = cmpStd := congrArg Prims.cmp hw); (have hun : wun = unStd := congrArg Prims.un hw); (have hconv : wconv = fun k n => k.wrap n := congrArg Prims.conv hw); (have hnot : wnot = fun b => !b := congrArg Prims.not hw); (have hbeq : wbeq = fun a b => a == b := congrArg Prims.beq hw); (have hmm : wmm = maxI := congrArg Prims.mm hw); (have hscmp : wscmp = scmpStd := congrArg Prims.scmp hw); (have hsadd : wsadd = fun x y => x ++ y := congrArg Prims.sadd hw); (have hslen : wslen = fun s => (s.size : Int) := congrArg Prims.slen hw); (have hsat : wsat = std.sat := congrArg Prims.sat hw); (have heqs : weqs = fun a b os => (eqOffs a b os).getD false := congrArg Prims.eqs hw); (have hlen : wlen = fun es => (es.length : Int) := congrArg Prims.len hw); (have hnlen : wnlen = fun es => es.length := congrArg Prims.nlen hw); (have hofNat : wofNat = (fun n : Nat => (n : Int)) := congrArg Prims.ofNat hw); (have htake : wtake = fun es b => es.take b.toNat := congrArg Prims.take hw); (have hdrop : wdrop = fun es a => es.drop a.toNat := congrArg Prims.drop hw); (have happ : wapp = fun a b => a ++ b := congrArg Prims.app hw); (have hzero : wzero = fun n z => List.replicate n.toNat z := congrArg Prims.zero hw); (have hnat : wnat = fun n => n.toNat := congrArg Prims.nat hw); (conv => arg 2; cbv); (generalize hP : Try.prog = P); cbv
  (obtain ⟨L, eL, L0, Ln⟩ : ∃ L : Int, wlen ls = L ∧ 0 ≤ L ∧ L.toNat = ls.length := ⟨(ls.length : Int), by rw [hlen], Int.natCast_nonneg _, Int.toNat_natCast _⟩)
  refine Loop.data hw (S := Option (Int × Bool × List (List Int) × Nat × List (List AV))) (fun s => match s with
      | none => fr 49 [(0, .list 1 ls), (1, .list 1 rs), (5, .nils), (6, .bool false), (7, .int .i64 0)]
      | some (i, d, out, k, w) => fr 49 [(0, .list 1 ls), (1, .list 1 rs), (5, .sl 0 1 0 k), (6, .bool d), (7, .int .i64 i)])
    (fun s => match s with
      | none => []
      | some (i, d, out, k, w) => [.live 1 w])
    (fun s => match s with
      | none => True
      | some (i, d, out, k, w) => 0 ≤ i ∧ i ≤ L ∧ putQ l r = out ++ (if d then l.drop i.toNat else putQ (l.drop i.toNat) r) ∧ w = out.map rtRow ∧ Up0 w ∧ k = w.length ∧ out.length ≤ 2 * i.toNat) (fun s => match s with | none => L.toNat + 1 | some (i, _) => (L - i).toNat) none (by (refine Wk.eqz (id) (by first | exact fun i _ j _ e => e | (simp only [List.length_cons, List.length_nil]; decide)) ?_; cbv; (repeat' (first | exact trivial | rfl | assumption | apply And.intro | (simp only [hbin, hcmp, hun, hconv, hnot, hbeq, hmm, hscmp, hsadd, hslen, hsat, heqs, hofNat, binStd, cmpStd, unStd, scmpStd, maxI, Bool.not_eq_true', Bool.not_eq_false', decide_eq_true_eq, decide_eq_false_iff_not, Int.not_lt, Int.not_le, if_true, if_false, Bool.false_eq_true, beq_iff_eq, bne_iff_ne, ne_eq, Bool.not_eq_eq_eq_not, Bool.not_true, Bool.not_false, beq_eq_false_iff_ne, bne_eq_false_iff_eq, Int.ofNat_eq_natCast, Bool.not_not, not_true_eq_false, not_false_eq_true, reduceCtorEq]; first | done | assumption) | exact RowsZ.same (by assumption) (by first | assumption | rfl) | exact FzL.mk rfl rfl rfl (by assumption) (by first | assumption | rfl) (by decide) | (refine RowsZ.one ?_; cbv))))) trivial ?_
  rintro (_ | ⟨i, d, out, k, w⟩) hinv Q' hN hE hR'
  · cbv
    simp only [eL]
    (split <;> rename_i hc <;> (try (simp only [hbin, hcmp, hun, hconv, hnot, hbeq, hmm, hscmp, hsadd, hslen, hsat, heqs, hofNat, binStd, cmpStd, unStd, scmpStd, maxI, Bool.not_eq_true', Bool.not_eq_false', decide_eq_true_eq, decide_eq_false_iff_not, Int.not_lt, Int.not_le, if_true, if_false, Bool.false_eq_true, beq_iff_eq, bne_iff_ne, ne_eq, Bool.not_eq_eq_eq_not, Bool.not_true, Bool.not_false, beq_eq_false_iff_ne, bne_eq_false_iff_eq, Int.ofNat_eq_natCast, Bool.not_not, not_true_eq_false, not_false_eq_true, reduceCtorEq] at hc)) <;> (try cbv))
    · obtain ⟨k0, hk0⟩ : ∃ k0, l[0]? = some k0 := ⟨_, List.getElem?_eq_getElem (show 0 < l.length by omega)⟩
      obtain ⟨i2, ei2⟩ : ∃ z : Int, z = 0 + 1 := ⟨_, rfl⟩
      have a4 : wbin .add .i64 0 1 = i2 := by rw [hbin, ei2]; show IntKind.i64.wrap (0 + 1) = 0 + 1; rw [IntKind.wrap_i64]; omega
      have hD : l.drop 0 = k0 :: l.drop i2.toNat := by rw [drop_get hk0, show i2.toNat = 0 + 1 by omega]
      obtain ⟨xs, exs⟩ : ∃ x, x = k0.map nxRow := ⟨_, rfl⟩
      have huxs : Up0 xs := by rw [exs]; exact up_nx k0
      have hrow : ls[(0 : Int).toNat]? = some [.list 1 xs] := by rw [hls, List.getElem?_map, show (0 : Int).toNat = 0 from rfl, hk0, exs]; rfl
      have hk12 := hl k0 (List.mem_of_getElem? hk0)
      have n1 : wnot true = false := by rw [hnot]; rfl
      have n2 : wnot false = true := by rw [hnot]; rfl
      have hput : putQ l r = putQ (k0 :: l.drop i2.toNat) r := by rw [← hD, List.drop_zero]
      simp only [n2]
      cbv
      refine Idx.mk _ (by decide) hrow ?_
      cbv
      by_cases hq : ltR k0 r
      · refine Call.stepE (by rw [← hP]; exact e_less k0 r hk12 hr xs rs exs hrs true (by simp [hq])) (by exact up_two huxs hur) ?_
        cbv
        simp only [n1]
        cbv
        refine Idx.mk _ (by decide) hrow ?_
        cbv
        refine Ob.mk (by decide) ?_
        cbv
        have hwf : [[.list 1 xs]] = ([] ++ [k0]).map rtRow := by simp only [List.map_append, List.append_assoc, List.nil_append, List.map_cons, List.map_nil]; simp [rtRow, exs, hrs]
        have huwf : Up0 [[.list 1 xs]] := by rw [hwf]; exact up_rt _
        simp only [a4]
        refine hN (some (i2, false, [] ++ [k0], 1, [[.list 1 xs]])) _ _ ?hx ?hi ?ht
        case hx => (refine Wk.eqz (fun j => [0].getD j 0) (by first | exact fun i _ j _ e => e | (simp only [List.length_cons, List.length_nil]; decide)) ?_; cbv; (repeat' (first | exact trivial | rfl | assumption | apply And.intro | (simp only [hbin, hcmp, hun, hconv, hnot, hbeq, hmm, hscmp, hsadd, hslen, hsat, heqs, hofNat, binStd, cmpStd, unStd, scmpStd, maxI, Bool.not_eq_true', Bool.not_eq_false', decide_eq_true_eq, decide_eq_false_iff_not, Int.not_lt, Int.not_le, if_true, if_false, Bool.false_eq_true, beq_iff_eq, bne_iff_ne, ne_eq, Bool.not_eq_eq_eq_not, Bool.not_true, Bool.not_false, beq_eq_false_iff_ne, bne_eq_false_iff_eq, Int.ofNat_eq_natCast, Bool.not_not, not_true_eq_false, not_false_eq_true, reduceCtorEq]; first | done | assumption) | exact RowsZ.same (by assumption) (by first | assumption | rfl) | exact FzL.mk rfl rfl rfl (by assumption) (by first | assumption | rfl) (by decide) | (refine RowsZ.one ?_; cbv))))
        case hi => exact ⟨by omega, by omega, by rw [hput]; rw [putQ_lt hq]; simp, hwf, huwf, by first | rfl | omega, by simp only [List.length_append, List.length_cons, List.length_nil]; omega⟩
        case ht => show (L - i2).toNat < L.toNat + 1; omega
      · refine Call.stepE (by rw [← hP]; exact e_less k0 r hk12 hr xs rs exs hrs false (by simp [hq])) (by exact up_two huxs hur) ?_
        cbv
        simp only [n2]
        cbv
        refine Idx.mk _ (by decide) hrow ?_
        cbv
        by_cases hq2 : ltR r k0
        · refine Call.stepE (by rw [← hP]; exact e_less r k0 hr hk12 rs xs hrs exs true (by simp [hq2])) (by exact up_two hur huxs) ?_
          cbv
          refine Ob.mk (by decide) ?_
          cbv
          refine Idx.mk _ (by decide) hrow ?_
          cbv
          obtain ⟨w0, ew0⟩ : ∃ x : List (List AV), x = [[AV.list 1 rs]] ++ [[.list 1 xs]] := ⟨_, rfl⟩
          obtain ⟨k0', ek0'⟩ : ∃ x, x = 1 + 1 := ⟨_, rfl⟩
          have hl0 : w0.length = 2 := by rw [ew0]; simp
          refine App.mk w0 k0' ew0 (by simp) ek0' (by omega) (by omega) ?_
          cbv
          have hwf : w0 = ([] ++ [r, k0]).map rtRow := by simp only [ew0, List.map_append, List.append_assoc, List.nil_append, List.map_cons, List.map_nil]; simp [rtRow, exs, hrs]
          have huwf : Up0 w0 := by rw [hwf]; exact up_rt _
          simp only [a4]
          refine hN (some (i2, true, [] ++ [r, k0], k0', w0)) _ _ ?hx ?hi ?ht
          case hx => (refine Wk.eqz (fun j => [1].getD j 0) (by first | exact fun i _ j _ e => e | (simp only [List.length_cons, List.length_nil]; decide)) ?_; cbv; (repeat' (first | exact trivial | rfl | assumption | apply And.intro | (simp only [hbin, hcmp, hun, hconv, hnot, hbeq, hmm, hscmp, hsadd, hslen, hsat, heqs, hofNat, binStd, cmpStd, unStd, scmpStd, maxI, Bool.not_eq_true', Bool.not_eq_false', decide_eq_true_eq, decide_eq_false_iff_not, Int.not_lt, Int.not_le, if_true, if_false, Bool.false_eq_true, beq_iff_eq, bne_iff_ne, ne_eq, Bool.not_eq_eq_eq_not, Bool.not_true, Bool.not_false, beq_eq_false_iff_ne, bne_eq_false_iff_eq, Int.ofNat_eq_natCast, Bool.not_not, not_true_eq_false, not_false_eq_true, reduceCtorEq]; first | done | assumption) | exact RowsZ.same (by assumption) (by first | assumption | rfl) | exact FzL.mk rfl rfl rfl (by assumption) (by first | assumption | rfl) (by decide) | (refine RowsZ.one ?_; cbv))))
          case hi => exact ⟨by omega, by omega, by rw [hput]; rw [putQ_gt hq hq2]; simp, hwf, huwf, by first | rfl | omega, by simp only [List.length_append, List.length_cons, List.length_nil]; omega⟩
          case ht => show (L - i2).toNat < L.toNat + 1; omega
        · refine Call.stepE (by rw [← hP]; exact e_less r k0 hr hk12 rs xs hrs exs false (by simp [hq2])) (by exact up_two hur huxs) ?_
          cbv
          refine Idx.mk _ (by decide) hrow ?_
          cbv
          refine Ob.mk (by decide) ?_
          cbv
          have hwf : [[.list 1 xs]] = ([] ++ [k0]).map rtRow := by simp only [List.map_append, List.append_assoc, List.nil_append, List.map_cons, List.map_nil]; simp [rtRow, exs, hrs]
          have huwf : Up0 [[.list 1 xs]] := by rw [hwf]; exact up_rt _
          simp only [a4]
          refine hN (some (i2, true, [] ++ [k0], 1, [[.list 1 xs]])) _ _ ?hx ?hi ?ht
          case hx => (refine Wk.eqz (fun j => [0].getD j 0) (by first | exact fun i _ j _ e => e | (simp only [List.length_cons, List.length_nil]; decide)) ?_; cbv; (repeat' (first | exact trivial | rfl | assumption | apply And.intro | (simp only [hbin, hcmp, hun, hconv, hnot, hbeq, hmm, hscmp, hsadd, hslen, hsat, heqs, hofNat, binStd, cmpStd, unStd, scmpStd, maxI, Bool.not_eq_true', Bool.not_eq_false', decide_eq_true_eq, decide_eq_false_iff_not, Int.not_lt, Int.not_le, if_true, if_false, Bool.false_eq_true, beq_iff_eq, bne_iff_ne, ne_eq, Bool.not_eq_eq_eq_not, Bool.not_true, Bool.not_false, beq_eq_false_iff_ne, bne_eq_false_iff_eq, Int.ofNat_eq_natCast, Bool.not_not, not_true_eq_false, not_false_eq_true, reduceCtorEq]; first | done | assumption) | exact RowsZ.same (by assumption) (by first | assumption | rfl) | exact FzL.mk rfl rfl rfl (by assumption) (by first | assumption | rfl) (by decide) | (refine RowsZ.one ?_; cbv))))
          case hi => exact ⟨by omega, by omega, by rw [hput]; rw [putQ_eq hq hq2]; simp, hwf, huwf, by first | rfl | omega, by simp only [List.length_append, List.length_cons, List.length_nil]; omega⟩
          case ht => show (L - i2).toNat < L.toNat + 1; omega
    · refine hE _ _ _ ?_
      cbv
      have hl0 : l = [] := List.length_eq_zero_iff.1 (by omega)
      simp only [show wnot false = true by rw [hnot]; rfl]
      cbv
      refine Ob.mk (by decide) ?_
      cbv
      refine ⟨_, Vw.sl (n := 1) (i := 0) rfl (by exact up_one1 hur) (by simp), hR _ ?_⟩
      rw [eq, hl0, hrs]; rfl
  · have hinv : 0 ≤ i ∧ i ≤ L ∧ putQ l r = out ++ (if d then l.drop i.toNat else putQ (l.drop i.toNat) r) ∧ w = out.map rtRow ∧ Up0 w ∧ k = w.length ∧ out.length ≤ 2 * i.toNat := hinv
    cbv
    obtain ⟨hi0, hi1, hput, hw2, huw, hk, hsz⟩ := hinv
    have hwl : w.length = out.length := by rw [hw2]; simp
    simp only [eL]
    (split <;> rename_i hc <;> (try (simp only [hbin, hcmp, hun, hconv, hnot, hbeq, hmm, hscmp, hsadd, hslen, hsat, heqs, hofNat, binStd, cmpStd, unStd, scmpStd, maxI, Bool.not_eq_true', Bool.not_eq_false', decide_eq_true_eq, decide_eq_false_iff_not, Int.not_lt, Int.not_le, if_true, if_false, Bool.false_eq_true, beq_iff_eq, bne_iff_ne, ne_eq, Bool.not_eq_eq_eq_not, Bool.not_true, Bool.not_false, beq_eq_false_iff_ne, bne_eq_false_iff_eq, Int.ofNat_eq_natCast, Bool.not_not, not_true_eq_false, not_false_eq_true, reduceCtorEq] at hc)) <;> (try cbv))
    · obtain ⟨k0, hk0⟩ : ∃ k0, l[i.toNat]? = some k0 := ⟨_, List.getElem?_eq_getElem (show i.toNat < l.length by omega)⟩
      obtain ⟨i2, ei2⟩ : ∃ z : Int, z = i + 1 := ⟨_, rfl⟩
      have a4 : wbin .add .i64 i 1 = i2 := by rw [hbin, ei2]; show IntKind.i64.wrap (i + 1) = i + 1; rw [IntKind.wrap_i64]; omega
      have hD : l.drop i.toNat = k0 :: l.drop i2.toNat := by rw [drop_get hk0, show i2.toNat = i.toNat + 1 by omega]
      obtain ⟨xs, exs⟩ : ∃ x, x = k0.map nxRow := ⟨_, rfl⟩
      have huxs : Up0 xs := by rw [exs]; exact up_nx k0
      have hrow : ls[(i : Int).toNat]? = some [.list 1 xs] := by rw [hls, List.getElem?_map, show (i : Int).toNat = i.toNat from rfl, hk0, exs]; rfl
      have hk12 := hl k0 (List.mem_of_getElem? hk0)
      have n1 : wnot true = false := by rw [hnot]; rfl
      have n2 : wnot false = true := by rw [hnot]; rfl
      cases d with
      | true =>
        cbv
        simp only [n1]
        cbv
        refine Idx.mk _ hi0 hrow ?_
        cbv
        obtain ⟨w0, ew0⟩ : ∃ x : List (List AV), x = w ++ [[.list 1 xs]] := ⟨_, rfl⟩
        obtain ⟨k0', ek0'⟩ : ∃ x, x = k + 1 := ⟨_, rfl⟩
        have hl0 : w0.length = w.length + 1 := by rw [ew0]; simp
        refine App.mk w0 k0' ew0 hk ek0' (by omega) (by omega) ?_
        cbv
        have hwf : w0 = (out ++ [k0]).map rtRow := by simp only [ew0, hw2, List.map_append, List.append_assoc, List.nil_append, List.map_cons, List.map_nil]; simp [rtRow, exs, hrs]
        have huwf : Up0 w0 := by rw [hwf]; exact up_rt _
        simp only [a4]
        refine hN (some (i2, true, out ++ [k0], k0', w0)) _ _ ?hx ?hi ?ht
        case hx => (refine Wk.eqz (fun j => [1].getD j 0) (by first | exact fun i _ j _ e => e | (simp only [List.length_cons, List.length_nil]; decide)) ?_; cbv; (repeat' (first | exact trivial | rfl | assumption | apply And.intro | (simp only [hbin, hcmp, hun, hconv, hnot, hbeq, hmm, hscmp, hsadd, hslen, hsat, heqs, hofNat, binStd, cmpStd, unStd, scmpStd, maxI, Bool.not_eq_true', Bool.not_eq_false', decide_eq_true_eq, decide_eq_false_iff_not, Int.not_lt, Int.not_le, if_true, if_false, Bool.false_eq_true, beq_iff_eq, bne_iff_ne, ne_eq, Bool.not_eq_eq_eq_not, Bool.not_true, Bool.not_false, beq_eq_false_iff_ne, bne_eq_false_iff_eq, Int.ofNat_eq_natCast, Bool.not_not, not_true_eq_false, not_false_eq_true, reduceCtorEq]; first | done | assumption) | exact RowsZ.same (by assumption) (by first | assumption | rfl) | exact FzL.mk rfl rfl rfl (by assumption) (by first | assumption | rfl) (by decide) | (refine RowsZ.one ?_; cbv))))
        case hi => exact ⟨by omega, by omega, by rw [hput]; simp only [if_true]; rw [hD]; simp, hwf, huwf, by first | rfl | omega, by simp only [List.length_append, List.length_cons, List.length_nil]; omega⟩
        case ht => show (L - i2).toNat < (L - i).toNat; omega
      | false =>
        cbv
        simp only [n2]
        cbv
        refine Idx.mk _ hi0 hrow ?_
        cbv
        by_cases hq : ltR k0 r
        · refine Call.stepE (by rw [← hP]; exact e_less k0 r hk12 hr xs rs exs hrs true (by simp [hq])) (by exact up_two huxs hur) ?_
          cbv
          simp only [n1]
          cbv
          refine Idx.mk _ hi0 hrow ?_
          cbv
          obtain ⟨w0, ew0⟩ : ∃ x : List (List AV), x = w ++ [[.list 1 xs]] := ⟨_, rfl⟩
          obtain ⟨k0', ek0'⟩ : ∃ x, x = k + 1 := ⟨_, rfl⟩
          have hl0 : w0.length = w.length + 1 := by rw [ew0]; simp
          refine App.mk w0 k0' ew0 hk ek0' (by omega) (by omega) ?_
          cbv
          have hwf : w0 = (out ++ [k0]).map rtRow := by simp only [ew0, hw2, List.map_append, List.append_assoc, List.nil_append, List.map_cons, List.map_nil]; simp [rtRow, exs, hrs]
          have huwf : Up0 w0 := by rw [hwf]; exact up_rt _
          simp only [a4]
          refine hN (some (i2, false, out ++ [k0], k0', w0)) _ _ ?hx ?hi ?ht
          case hx => (refine Wk.eqz (fun j => [1].getD j 0) (by first | exact fun i _ j _ e => e | (simp only [List.length_cons, List.length_nil]; decide)) ?_; cbv; (repeat' (first | exact trivial | rfl | assumption | apply And.intro | (simp only [hbin, hcmp, hun, hconv, hnot, hbeq, hmm, hscmp, hsadd, hslen, hsat, heqs, hofNat, binStd, cmpStd, unStd, scmpStd, maxI, Bool.not_eq_true', Bool.not_eq_false', decide_eq_true_eq, decide_eq_false_iff_not, Int.not_lt, Int.not_le, if_true, if_false, Bool.false_eq_true, beq_iff_eq, bne_iff_ne, ne_eq, Bool.not_eq_eq_eq_not, Bool.not_true, Bool.not_false, beq_eq_false_iff_ne, bne_eq_false_iff_eq, Int.ofNat_eq_natCast, Bool.not_not, not_true_eq_false, not_false_eq_true, reduceCtorEq]; first | done | assumption) | exact RowsZ.same (by assumption) (by first | assumption | rfl) | exact FzL.mk rfl rfl rfl (by assumption) (by first | assumption | rfl) (by decide) | (refine RowsZ.one ?_; cbv))))
          case hi => exact ⟨by omega, by omega, by rw [hput]; simp only [Bool.false_eq_true, if_false]; rw [hD, putQ_lt hq]; simp, hwf, huwf, by first | rfl | omega, by simp only [List.length_append, List.length_cons, List.length_nil]; omega⟩
          case ht => show (L - i2).toNat < (L - i).toNat; omega
        · refine Call.stepE (by rw [← hP]; exact e_less k0 r hk12 hr xs rs exs hrs false (by simp [hq])) (by exact up_two huxs hur) ?_
          cbv
          simp only [n2]
          cbv
          refine Idx.mk _ hi0 hrow ?_
          cbv
          by_cases hq2 : ltR r k0
          · refine Call.stepE (by rw [← hP]; exact e_less r k0 hr hk12 rs xs hrs exs true (by simp [hq2])) (by exact up_two hur huxs) ?_
            cbv
            obtain ⟨w0, ew0⟩ : ∃ x : List (List AV), x = w ++ [[.list 1 rs]] := ⟨_, rfl⟩
            obtain ⟨k0', ek0'⟩ : ∃ x, x = k + 1 := ⟨_, rfl⟩
            have hl0 : w0.length = w.length + 1 := by rw [ew0]; simp
            refine App.mk w0 k0' ew0 hk ek0' (by omega) (by omega) ?_
            cbv
            refine Idx.mk _ hi0 hrow ?_
            cbv
            obtain ⟨w1, ew1⟩ : ∃ x : List (List AV), x = w0 ++ [[.list 1 xs]] := ⟨_, rfl⟩
            obtain ⟨k1', ek1'⟩ : ∃ x, x = k0' + 1 := ⟨_, rfl⟩
            have hl1 : w1.length = w0.length + 1 := by rw [ew1]; simp
            refine App.mk w1 k1' ew1 (by omega) ek1' (by omega) (by omega) ?_
            cbv
            have hwf : w1 = (out ++ [r, k0]).map rtRow := by simp only [ew0, ew1, hw2, List.map_append, List.append_assoc, List.nil_append, List.map_cons, List.map_nil]; simp [rtRow, exs, hrs]
            have huwf : Up0 w1 := by rw [hwf]; exact up_rt _
            simp only [a4]
            refine hN (some (i2, true, out ++ [r, k0], k1', w1)) _ _ ?hx ?hi ?ht
            case hx => (refine Wk.eqz (fun j => [2].getD j 0) (by first | exact fun i _ j _ e => e | (simp only [List.length_cons, List.length_nil]; decide)) ?_; cbv; (repeat' (first | exact trivial | rfl | assumption | apply And.intro | (simp only [hbin, hcmp, hun, hconv, hnot, hbeq, hmm, hscmp, hsadd, hslen, hsat, heqs, hofNat, binStd, cmpStd, unStd, scmpStd, maxI, Bool.not_eq_true', Bool.not_eq_false', decide_eq_true_eq, decide_eq_false_iff_not, Int.not_lt, Int.not_le, if_true, if_false, Bool.false_eq_true, beq_iff_eq, bne_iff_ne, ne_eq, Bool.not_eq_eq_eq_not, Bool.not_true, Bool.not_false, beq_eq_false_iff_ne, bne_eq_false_iff_eq, Int.ofNat_eq_natCast, Bool.not_not, not_true_eq_false, not_false_eq_true, reduceCtorEq]; first | done | assumption) | exact RowsZ.same (by assumption) (by first | assumption | rfl) | exact FzL.mk rfl rfl rfl (by assumption) (by first | assumption | rfl) (by decide) | (refine RowsZ.one ?_; cbv))))
            case hi => exact ⟨by omega, by omega, by rw [hput]; simp only [Bool.false_eq_true, if_false, if_true]; rw [hD, putQ_gt hq hq2]; simp, hwf, huwf, by first | rfl | omega, by simp only [List.length_append, List.length_cons, List.length_nil]; omega⟩
            case ht => show (L - i2).toNat < (L - i).toNat; omega
          · refine Call.stepE (by rw [← hP]; exact e_less r k0 hr hk12 rs xs hrs exs false (by simp [hq2])) (by exact up_two hur huxs) ?_
            cbv
            refine Idx.mk _ hi0 hrow ?_
            cbv
            obtain ⟨w0, ew0⟩ : ∃ x : List (List AV), x = w ++ [[.list 1 xs]] := ⟨_, rfl⟩
            obtain ⟨k0', ek0'⟩ : ∃ x, x = k + 1 := ⟨_, rfl⟩
            have hl0 : w0.length = w.length + 1 := by rw [ew0]; simp
            refine App.mk w0 k0' ew0 hk ek0' (by omega) (by omega) ?_
            cbv
            have hwf : w0 = (out ++ [k0]).map rtRow := by simp only [ew0, hw2, List.map_append, List.append_assoc, List.nil_append, List.map_cons, List.map_nil]; simp [rtRow, exs, hrs]
            have huwf : Up0 w0 := by rw [hwf]; exact up_rt _
            simp only [a4]
            refine hN (some (i2, true, out ++ [k0], k0', w0)) _ _ ?hx ?hi ?ht
            case hx => (refine Wk.eqz (fun j => [1].getD j 0) (by first | exact fun i _ j _ e => e | (simp only [List.length_cons, List.length_nil]; decide)) ?_; cbv; (repeat' (first | exact trivial | rfl | assumption | apply And.intro | (simp only [hbin, hcmp, hun, hconv, hnot, hbeq, hmm, hscmp, hsadd, hslen, hsat, heqs, hofNat, binStd, cmpStd, unStd, scmpStd, maxI, Bool.not_eq_true', Bool.not_eq_false', decide_eq_true_eq, decide_eq_false_iff_not, Int.not_lt, Int.not_le, if_true, if_false, Bool.false_eq_true, beq_iff_eq, bne_iff_ne, ne_eq, Bool.not_eq_eq_eq_not, Bool.not_true, Bool.not_false, beq_eq_false_iff_ne, bne_eq_false_iff_eq, Int.ofNat_eq_natCast, Bool.not_not, not_true_eq_false, not_false_eq_true, reduceCtorEq]; first | done | assumption) | exact RowsZ.same (by assumption) (by first | assumption | rfl) | exact FzL.mk rfl rfl rfl (by assumption) (by first | assumption | rfl) (by decide) | (refine RowsZ.one ?_; cbv))))
            case hi => exact ⟨by omega, by omega, by rw [hput]; simp only [Bool.false_eq_true, if_false, if_true]; rw [hD, putQ_eq hq hq2]; simp, hwf, huwf, by first | rfl | omega, by simp only [List.length_append, List.length_cons, List.length_nil]; omega⟩
            case ht => show (L - i2).toNat < (L - i).toNat; omega
    · refine hE _ _ _ ?_
      cbv
      have hdr : l.drop i.toNat = [] := List.drop_of_length_le (by omega)
      cases d with
      | true =>
        cbv
        simp only [show wnot true = false by rw [hnot]; rfl]
        cbv
        have hq : q = w := by rw [eq, hput, hw2, hdr]; simp
        have e1 : (w.drop 0).take k = w := by rw [List.drop_zero, List.take_of_length_le (by omega)]
        have := Vw.sl (h := [.live 1 w]) (s := 0) (z := 1) rfl huw.get (i := 0) (n := k) (by omega)
        rw [e1] at this
        exact ⟨_, this, hR _ (by rw [hq])⟩
      | false =>
        cbv
        simp only [show wnot false = true by rw [hnot]; rfl]
        cbv
        obtain ⟨w0, ew0⟩ : ∃ x : List (List AV), x = w ++ [[.list 1 rs]] := ⟨_, rfl⟩
        obtain ⟨k0', ek0'⟩ : ∃ x, x = k + 1 := ⟨_, rfl⟩
        have hl0 : w0.length = w.length + 1 := by rw [ew0]; simp
        refine App.mk w0 k0' ew0 hk ek0' (by omega) (by omega) ?_
        cbv
        have hq : q = w0 := by rw [eq, hput, ew0, hw2, hdr, hrs]; simp [putQ, rtRow]
        have huw0 : Up0 w0 := by rw [← hq, eq]; exact up_rt _
        have e1 : (w0.drop 0).take k0' = w0 := by rw [List.drop_zero, List.take_of_length_le (by omega)]
        have := Vw.sl (h := [.dead, .live 1 w0]) (s := 1) (z := 1) rfl huw0.get (i := 0) (n := k0') (by omega)
        rw [e1] at this
        exact ⟨_, this, hR _ (by rw [hq])⟩
end Go.Proofs.Ytpiocfmdjgbamaa

/- The reference's growth, plainly. -/
set_option linter.unusedVariables false
set_option linter.unusedSimpArgs false
namespace Go.Proofs.Ytpiocfmdjgbamaa
open Go Go.RowKit Go.Eng
/-- One way of a round: the error, the ways that are gathered, the longer ones. -/
def grow1 (ss : List Sg) (lo hi from_ : Int) (s : Int × List (List Int) × List (List Int)) (r : List Int) : Int × List (List Int) × List (List Int) :=
  if s.1 ≠ 0 then s
  else if hi ≤ endF ss from_ r ∨ nxAt ss (lastI r) = [] then
    (if 16 < (if lo ≤ endF ss from_ r then putQ s.2.1 r else s.2.1).length then 13 else 0, if lo ≤ endF ss from_ r then putQ s.2.1 r else s.2.1, s.2.2)
  else if r.length = 12 then (13, s.2.1, s.2.2)
  else (0, s.2.1, s.2.2 ++ (nxAt ss (lastI r)).map fun n => r ++ [n])
def growQ (ss : List Sg) (lo hi from_ : Int) : Nat → List (List Int) → List (List Int) → Int × List (List Int)
  | 0, out, todo => (0, out)
  | n + 1, out, todo =>
    if (todo.foldl (grow1 ss lo hi from_) (0, out, [])).1 ≠ 0 then (13, [])
    else growQ ss lo hi from_ n (todo.foldl (grow1 ss lo hi from_) (0, out, [])).2.1 (todo.foldl (grow1 ss lo hi from_) (0, out, [])).2.2
theorem fold_err (ss : List Sg) (lo hi from_ : Int) : ∀ (l : List (List Int)) (s : Int × List (List Int) × List (List Int)), s.1 ≠ 0 → l.foldl (grow1 ss lo hi from_) s = s
  | [], _, _ => rfl
  | r :: l, s, h => by
    have : grow1 ss lo hi from_ s r = s := by unfold grow1; rw [if_pos h]
    rw [List.foldl_cons, this, fold_err ss lo hi from_ l s h]
theorem putQ_len : ∀ (l : List (List Int)) (r : List Int), (putQ l r).length ≤ l.length + 1
  | [], _ => by simp [putQ]
  | k :: l, r => by
    unfold putQ
    split
    · have := putQ_len l r; simp; omega
    · split <;> simp
theorem putQ_mem1 : ∀ (l : List (List Int)) (r x : List Int), x ∈ putQ l r → x ∈ l ∨ x = r
  | [], r, x, h => by simp [putQ] at h; exact .inr h
  | k :: l, r, x, h => by
    unfold putQ at h
    split at h
    · rcases List.mem_cons.1 h with rfl | h
      · exact .inl List.mem_cons_self
      · rcases putQ_mem1 l r x h with h | h
        · exact .inl (List.mem_cons_of_mem _ h)
        · exact .inr h
    · split at h
      · rcases List.mem_cons.1 h with rfl | h
        · exact .inr rfl
        · exact .inl h
      · exact .inl h
def growB (ss : List Sg) (lo hi from_ : Int) (ls : List (List Int)) : (Int × List (List Int)) × Int :=
  if hi < lo ∨ lo < -from_ then ((0, []), 40)
  else if (growQ ss lo hi from_ 13 [] ls).1 ≠ 0 then ((0, []), 13)
  else if (growQ ss lo hi from_ 13 [] ls).2 = [] then ((0, []), 40)
  else ((from_, (growQ ss lo hi from_ 13 [] ls).2), 0)
end Go.Proofs.Ytpiocfmdjgbamaa

/- Both ways to grow come to the same. -/
set_option linter.unusedVariables false
set_option linter.unusedSimpArgs false
namespace Go.Proofs.Ytpiocfmdjgbamaa
open Go Go.RowKit Go.Eng
theorem nodup_sub : ∀ (l m : List (List Int)), l.Nodup → (∀ k, k ∈ l → k ∈ m) → l.length ≤ m.length
  | [], _, _, _ => Nat.zero_le _
  | a :: l, m, h, hs => by
    obtain ⟨h1, h2⟩ := List.nodup_cons.1 h
    have ha := hs a List.mem_cons_self
    have := nodup_sub l (m.erase a) h2 fun k hk => by
      have hka : k ≠ a := fun e => h1 (e ▸ hk)
      exact (List.mem_erase_of_ne hka).2 (hs k (List.mem_cons_of_mem _ hk))
    rw [List.length_erase_of_mem ha] at this
    have : 0 < m.length := List.length_pos_of_mem ha
    simp only [List.length_cons]; omega
section
variable (ss : List Sg) (lo hi from_ : Int)
def endP (l : List Int) : Prop := hi ≤ endF ss from_ l ∨ nxAt ss (lastI l) = []
instance (l : List Int) : Decidable (endP ss hi from_ l) := inferInstanceAs (Decidable (_ ∨ _))
def overP (l : List Int) : Prop := ¬ endP ss hi from_ l ∧ l.length = 12
/-- A way, and one that it goes on to. -/
inductive Reach : List Int → List Int → Prop
  | refl (l : List Int) : Reach l l
  | step {l k : List Int} {n : Int} (h : ¬ endP ss hi from_ l) (h12 : l.length ≠ 12) (hn : n ∈ nxAt ss (lastI l)) (hk : Reach (l ++ [n]) k) : Reach l k
/-- What some ways' growth comes to. -/
structure FP (R : List Int → Prop) (s s' : Int × List (List Int)) : Prop where
  stay : s.1 ≠ 0 → s'.1 ≠ 0
  good : s'.1 = 0 → (∀ k, k ∈ s'.2 ↔ k ∈ s.2 ∨ (R k ∧ leafP ss lo hi from_ k)) ∧ (∀ k, R k → ¬ overP ss hi from_ k)
  bad : s.1 = 0 → s'.1 ≠ 0 → (∃ k, R k ∧ overP ss hi from_ k) ∨ (∃ L : List (List Int), L.Nodup ∧ 17 ≤ L.length ∧ ∀ k, k ∈ L → k ∈ s.2 ∨ (R k ∧ leafP ss lo hi from_ k))
end
variable {ss : List Sg} {lo hi from_ : Int}
theorem FP.nil (s : Int × List (List Int)) : FP ss lo hi from_ (fun _ => False) s s :=
  ⟨id, fun _ => ⟨fun k => by simp, fun k h => h.elim⟩, fun h h' => absurd h h'⟩
theorem FP.comp {R1 R2 : List Int → Prop} {s0 s1 s2 : Int × List (List Int)} (h1 : FP ss lo hi from_ R1 s0 s1) (h2 : FP ss lo hi from_ R2 s1 s2) : FP ss lo hi from_ (fun k => R1 k ∨ R2 k) s0 s2 := by
  refine ⟨fun h => h2.stay (h1.stay h), fun h => ?_, fun h h' => ?_⟩
  · have e1 : s1.1 = 0 := Classical.byContradiction fun h3 => h2.stay h3 h
    obtain ⟨a1, a2⟩ := h1.good e1
    obtain ⟨b1, b2⟩ := h2.good h
    refine ⟨fun k => ?_, fun k hk => hk.elim (a2 k) (b2 k)⟩
    rw [b1, a1, or_and_right, or_assoc]
  · by_cases e1 : s1.1 = 0
    · obtain ⟨a1, a2⟩ := h1.good e1
      rcases h2.bad e1 h' with ⟨k, hk, ho⟩ | ⟨L, l1, l2, l3⟩
      · exact .inl ⟨k, .inr hk, ho⟩
      · refine .inr ⟨L, l1, l2, fun k hk => ?_⟩
        rcases l3 k hk with h3 | ⟨h3, h4⟩
        · rcases (a1 k).1 h3 with h5 | ⟨h5, h6⟩
          · exact .inl h5
          · exact .inr ⟨.inl h5, h6⟩
        · exact .inr ⟨.inr h3, h4⟩
    · rcases h1.bad h e1 with ⟨k, hk, ho⟩ | ⟨L, l1, l2, l3⟩
      · exact .inl ⟨k, .inl hk, ho⟩
      · refine .inr ⟨L, l1, l2, fun k hk => ?_⟩
        rcases l3 k hk with h3 | ⟨h3, h4⟩
        · exact .inl h3
        · exact .inr ⟨.inl h3, h4⟩
theorem FP.congr {R R' : List Int → Prop} {s s' : Int × List (List Int)} (h : FP ss lo hi from_ R s s') (h1 : ∀ k, R' k ∧ leafP ss lo hi from_ k ↔ R k ∧ leafP ss lo hi from_ k) (h2 : ∀ k, R' k ∧ overP ss hi from_ k ↔ R k ∧ overP ss hi from_ k) : FP ss lo hi from_ R' s s' := by
  refine ⟨h.stay, fun e => ?_, fun e e' => ?_⟩
  · obtain ⟨a1, a2⟩ := h.good e
    exact ⟨fun k => by rw [a1, h1], fun k hk ho => a2 k ((h2 k).1 ⟨hk, ho⟩).1 ho⟩
  · rcases h.bad e e' with ⟨k, hk, ho⟩ | ⟨L, l1, l2, l3⟩
    · exact .inl ⟨k, (h2 k).2 ⟨hk, ho⟩⟩
    · exact .inr ⟨L, l1, l2, fun k hk => (l3 k hk).imp id (h1 k).2⟩
theorem reach_end {l k : List Int} (h : endP ss hi from_ l) (hk : Reach ss hi from_ l k) : k = l := by
  cases hk with
  | refl => rfl
  | step h' => exact absurd h h'
theorem reach_iff {l k : List Int} (h : ¬ endP ss hi from_ l) (h12 : l.length ≠ 12) : Reach ss hi from_ l k ↔ k = l ∨ ∃ n, n ∈ nxAt ss (lastI l) ∧ Reach ss hi from_ (l ++ [n]) k := by
  constructor
  · intro hk
    cases hk with
    | refl => exact .inl rfl
    | step h' h12' hn hk => exact .inr ⟨_, hn, hk⟩
  · rintro (rfl | ⟨n, hn, hk⟩)
    · exact .refl _
    · exact .step h h12 hn hk
theorem growF_fp : ∀ (f : Nat) (l : List Int) (s : Int × List (List Int)), l.length ≤ 12 ∧ 1 ≤ l.length → 13 ≤ l.length + f → GOk s → FP ss lo hi from_ (Reach ss hi from_ l) s (growF ss lo hi f l (endF ss from_ l) s)
  | 0, l, s, hl, hf, _ => absurd hf (by omega)
  | f + 1, l, s, hl, hf, hok => by
    have hg : growF ss lo hi (f + 1) l (endF ss from_ l) s = (if s.1 ≠ 0 then s else if endP ss hi from_ l then (if 16 < (if lo ≤ endF ss from_ l then putL s.2 l else s.2).length then 13 else 0, if lo ≤ endF ss from_ l then putL s.2 l else s.2) else if l.length = 12 then (13, s.2) else (nxAt ss (lastI l)).foldl (fun s n => growF ss lo hi f (l ++ [n]) (endF ss from_ l + lenAt ss n) s) s) := by
      unfold endP; rfl
    rw [hg]
    by_cases h0 : s.1 = 0
    rotate_left 1
    · rw [if_pos h0]
      exact ⟨fun h => h, fun h => absurd h h0, fun h => absurd h h0⟩
    rw [if_neg (by simp [h0])]
    by_cases he : endP ss hi from_ l
    · rw [if_pos he]
      have hm : ∀ k, k ∈ (if lo ≤ endF ss from_ l then putL s.2 l else s.2) ↔ k ∈ s.2 ∨ (Reach ss hi from_ l k ∧ leafP ss lo hi from_ k) := fun k => by
        by_cases hlo : lo ≤ endF ss from_ l
        · rw [if_pos hlo, putL_mem]
          constructor
          · rintro (h | rfl)
            · exact .inl h
            · exact .inr ⟨.refl _, hlo, he⟩
          · rintro (h | ⟨h, _⟩)
            · exact .inl h
            · exact .inr (reach_end he h)
        · rw [if_neg hlo]
          constructor
          · exact .inl
          · rintro (h | ⟨h, h1, _⟩)
            · exact h
            · rw [reach_end he h] at h1; exact absurd h1 hlo
      refine ⟨fun h => absurd h0 h, fun h => ⟨hm, fun k hk ho => ?_⟩, fun _ h => .inr ?_⟩
      · rw [reach_end he hk] at ho; exact ho.1 he
      · refine ⟨_, ?_, ?_, fun k hk => (hm k).1 hk⟩
        · by_cases hlo : lo ≤ endF ss from_ l
          · rw [if_pos hlo]; exact (hok.put h0 hl).nd
          · rw [if_neg hlo]; exact hok.nd
        · by_cases h16 : 16 < (if lo ≤ endF ss from_ l then putL s.2 l else s.2).length
          · exact h16
          · exact absurd (show (if 16 < (if lo ≤ endF ss from_ l then putL s.2 l else s.2).length then (13 : Int) else 0) = 0 by rw [if_neg h16]) h
    · rw [if_neg he]
      by_cases h12 : l.length = 12
      · rw [if_pos h12]
        exact ⟨fun h => absurd h0 h, fun h => absurd h (show (13 : Int) ≠ 0 by decide), fun _ _ => .inl ⟨l, .refl _, he, h12⟩⟩
      · rw [if_neg h12]
        have key : ∀ (ns : List Int) (s : Int × List (List Int)), GOk s → FP ss lo hi from_ (fun k => ∃ n, n ∈ ns ∧ Reach ss hi from_ (l ++ [n]) k) s (ns.foldl (fun s n => growF ss lo hi f (l ++ [n]) (endF ss from_ l + lenAt ss n) s) s) := by
          intro ns
          induction ns with
          | nil => intro s _; exact (FP.nil s).congr (fun k => by simp) (fun k => by simp)
          | cons n ns ih =>
            intro s hs
            have h1 := growF_fp f (l ++ [n]) s (by simp; omega) (by simp; omega) hs
            rw [endF_snoc] at h1
            have h2 := ih _ (growF_ok ss lo hi f (l ++ [n]) (endF ss from_ l + lenAt ss n) s hs (by simp; omega))
            exact (h1.comp h2).congr (fun k => by simp) (fun k => by simp)
        refine (key _ s hok).congr (fun k => ?_) (fun k => ?_)
        · rw [reach_iff he h12]
          constructor
          · rintro ⟨rfl | h, h1⟩
            · exact absurd h1.2 he
            · exact ⟨h, h1⟩
          · rintro ⟨h, h1⟩; exact ⟨.inr h, h1⟩
        · rw [reach_iff he h12]
          constructor
          · rintro ⟨rfl | h, h1⟩
            · exact absurd h1.2 h12
            · exact ⟨h, h1⟩
          · rintro ⟨h, h1⟩; exact ⟨.inr h, h1⟩
theorem growS_fp (ls : List (List Int)) (hl : ∀ l, l ∈ ls → WayOk ss l) : FP ss lo hi from_ (fun k => ∃ l, l ∈ ls ∧ Reach ss hi from_ l k) (0, []) (growS ss lo hi from_ ls) := by
  have key : ∀ (ls : List (List Int)) (s : Int × List (List Int)), (∀ l, l ∈ ls → WayOk ss l) → GOk s → FP ss lo hi from_ (fun k => ∃ l, l ∈ ls ∧ Reach ss hi from_ l k) s (ls.foldl (fun s l => growF ss lo hi (13 - l.length) l (endF ss from_ l) s) s) := by
    intro ls
    induction ls with
    | nil => intro s _ _; exact (FP.nil s).congr (fun k => by simp) (fun k => by simp)
    | cons l ls ih =>
      intro s hl hs
      have hk := (hl l List.mem_cons_self).len
      have h1 := growF_fp (ss := ss) (lo := lo) (hi := hi) (from_ := from_) (13 - l.length) l s hk (by omega) hs
      have h2 := ih _ (fun x hx => hl x (List.mem_cons_of_mem _ hx)) (growF_ok ss lo hi (13 - l.length) l (endF ss from_ l) s hs hk)
      exact (h1.comp h2).congr (fun k => by simp) (fun k => by simp)
  exact key ls (0, []) hl ⟨by simp, fun _ => by simp, fun k hk => by simp at hk, List.nodup_nil⟩
end Go.Proofs.Ytpiocfmdjgbamaa

/- Both ways to grow come to the same: the reference's side; the two joined. -/
set_option linter.unusedVariables false
set_option linter.unusedSimpArgs false
namespace Go.Proofs.Ytpiocfmdjgbamaa
open Go Go.RowKit Go.Eng
variable {ss : List Sg} {lo hi from_ : Int}
theorem ltR_same {a b : List Int} (ha : a.length ≤ 12) (hb : b.length ≤ 12) (h1 : ¬ ltR a b) (h2 : ¬ ltR b a) : a = b := by
  rcases ltR_total a b with h | h | h
  · exact absurd h h1
  · exact toR_inj ha hb h
  · exact absurd h h2
theorem putQ_mem : ∀ (l : List (List Int)) (r : List Int), (∀ k, k ∈ l → k.length ≤ 12) → r.length ≤ 12 → ∀ x, x ∈ putQ l r ↔ x ∈ l ∨ x = r
  | [], r, _, _, x => by simp [putQ]
  | k :: l, r, hl, hr, x => by
    by_cases h1 : ltR k r
    · rw [putQ_lt h1, List.mem_cons, List.mem_cons, putQ_mem l r (fun y hy => hl y (List.mem_cons_of_mem _ hy)) hr, or_assoc]
    · by_cases h2 : ltR r k
      · rw [putQ_gt h1 h2, List.mem_cons, or_comm]
      · have e := ltR_same (hl k List.mem_cons_self) hr h1 h2
        rw [putQ_eq h1 h2, List.mem_cons, e]
        constructor
        · exact .inl
        · rintro (h | h)
          · exact h
          · exact .inl h
theorem putQ_sorted : ∀ (l : List (List Int)) (r : List Int), (∀ k, k ∈ l → k.length ≤ 12) → r.length ≤ 12 → l.Pairwise ltR → (putQ l r).Pairwise ltR
  | [], r, _, _, _ => List.pairwise_singleton _ _
  | k :: l, r, hl, hr, h => by
    obtain ⟨k1, k2⟩ := List.pairwise_cons.1 h
    by_cases h1 : ltR k r
    · rw [putQ_lt h1]
      refine List.pairwise_cons.2 ⟨fun x hx => ?_, putQ_sorted l r (fun y hy => hl y (List.mem_cons_of_mem _ hy)) hr k2⟩
      rcases (putQ_mem l r (fun y hy => hl y (List.mem_cons_of_mem _ hy)) hr x).1 hx with hx | rfl
      · exact k1 x hx
      · exact h1
    · by_cases h2 : ltR r k
      · rw [putQ_gt h1 h2]
        refine List.pairwise_cons.2 ⟨fun x hx => ?_, h⟩
        rcases List.mem_cons.1 hx with rfl | hx
        · exact h2
        · exact ltR_trans h2 (k1 x hx)
      · rw [putQ_eq h1 h2]; exact h
theorem sorted_nodup {l : List (List Int)} (h : l.Pairwise ltR) : l.Nodup := h.imp (S := (· ≠ ·)) fun {a b} h e => ltR_irrefl a (by rw [← e] at h; exact h)
/-- What goes on from a way. -/
def kids (ss : List Sg) (hi from_ : Int) (t : List Int) : List (List Int) := if endP ss hi from_ t then [] else (nxAt ss (lastI t)).map fun n => t ++ [n]
structure OutOk (out : List (List Int)) : Prop where
  sort : out.Pairwise ltR
  few : out.length ≤ 16
  len : ∀ k, k ∈ out → k.length ≤ 12
structure F1 (ss : List Sg) (lo hi from_ : Int) (T out more : List (List Int)) (s' : Int × List (List Int) × List (List Int)) : Prop where
  good : s'.1 = 0 → (∀ k, k ∈ s'.2.1 ↔ k ∈ out ∨ (k ∈ T ∧ leafP ss lo hi from_ k)) ∧ (∀ t, t ∈ T → ¬ overP ss hi from_ t) ∧ s'.2.2 = more ++ T.flatMap (kids ss hi from_) ∧ OutOk s'.2.1
  bad : s'.1 ≠ 0 → (∃ t, t ∈ T ∧ overP ss hi from_ t) ∨ (∃ L : List (List Int), L.Nodup ∧ 17 ≤ L.length ∧ ∀ k, k ∈ L → k ∈ out ∨ (k ∈ T ∧ leafP ss lo hi from_ k))
theorem fold1 : ∀ (T out more : List (List Int)), (∀ t, t ∈ T → t.length ≤ 12) → OutOk out → F1 ss lo hi from_ T out more (T.foldl (grow1 ss lo hi from_) (0, out, more))
  | [], out, more, _, ho => ⟨fun _ => ⟨fun k => by simp, fun t h => by simp at h, by simp, ho⟩, fun h => absurd rfl h⟩
  | t :: T, out, more, hT, ho => by
    have ht := hT t List.mem_cons_self
    have hT' : ∀ x, x ∈ T → x.length ≤ 12 := fun x hx => hT x (List.mem_cons_of_mem _ hx)
    have hg : grow1 ss lo hi from_ (0, out, more) t = (if endP ss hi from_ t then (if 16 < (if lo ≤ endF ss from_ t then putQ out t else out).length then 13 else 0, if lo ≤ endF ss from_ t then putQ out t else out, more) else if t.length = 12 then (13, out, more) else (0, out, more ++ (nxAt ss (lastI t)).map fun n => t ++ [n])) := by
      unfold endP grow1; rw [if_neg (by simp)]; rfl
    rw [List.foldl_cons, hg]
    clear hg
    by_cases he : endP ss hi from_ t
    · rw [if_pos he]
      have hk0 : kids ss hi from_ t = [] := by unfold kids; rw [if_pos he]
      obtain ⟨out', eo⟩ : ∃ o, o = (if lo ≤ endF ss from_ t then putQ out t else out) := ⟨_, rfl⟩
      rw [← eo]
      have hm : ∀ k, k ∈ out' ↔ k ∈ out ∨ (k = t ∧ leafP ss lo hi from_ k) := fun k => by
        rw [eo]
        by_cases hlo : lo ≤ endF ss from_ t
        · rw [if_pos hlo, putQ_mem out t ho.len ht]
          constructor
          · rintro (h | rfl)
            · exact .inl h
            · exact .inr ⟨rfl, hlo, he⟩
          · rintro (h | ⟨h, _⟩)
            · exact .inl h
            · exact .inr h
        · rw [if_neg hlo]
          constructor
          · exact .inl
          · rintro (h | ⟨rfl, h1, _⟩)
            · exact h
            · exact absurd h1 hlo
      have hs' : out'.Pairwise ltR := by
        rw [eo]; split
        · exact putQ_sorted out t ho.len ht ho.sort
        · exact ho.sort
      have hl' : ∀ k, k ∈ out' → k.length ≤ 12 := fun k hk => by
        rcases (hm k).1 hk with h | ⟨rfl, _⟩
        · exact ho.len k h
        · exact ht
      by_cases h16 : 16 < out'.length
      · rw [if_pos h16, fold_err ss lo hi from_ T _ (by simp)]
        refine ⟨fun h => absurd h (by simp), fun _ => .inr ⟨out', sorted_nodup hs', h16, fun k hk => ?_⟩⟩
        rcases (hm k).1 hk with h | ⟨rfl, h⟩
        · exact .inl h
        · exact .inr ⟨List.mem_cons_self, h⟩
      · rw [if_neg h16]
        have ih := fold1 T out' more hT' ⟨hs', by omega, hl'⟩
        refine ⟨fun h => ?_, fun h => ?_⟩
        · obtain ⟨a1, a2, a3, a4⟩ := ih.good h
          refine ⟨fun k => ?_, fun x hx => ?_, by rw [a3, List.flatMap_cons, hk0, List.nil_append], a4⟩
          · rw [a1, hm, List.mem_cons, or_and_right, or_assoc]
          · rcases List.mem_cons.1 hx with rfl | hx
            · exact fun h => h.1 he
            · exact a2 x hx
        · rcases ih.bad h with ⟨x, hx, h1⟩ | ⟨L, l1, l2, l3⟩
          · exact .inl ⟨x, List.mem_cons_of_mem _ hx, h1⟩
          · refine .inr ⟨L, l1, l2, fun k hk => ?_⟩
            rcases l3 k hk with h3 | ⟨h3, h4⟩
            · rcases (hm k).1 h3 with h5 | ⟨rfl, h5⟩
              · exact .inl h5
              · exact .inr ⟨List.mem_cons_self, h5⟩
            · exact .inr ⟨List.mem_cons_of_mem _ h3, h4⟩
    · rw [if_neg he]
      by_cases h12 : t.length = 12
      · rw [if_pos h12, fold_err ss lo hi from_ T _ (by simp)]
        exact ⟨fun h => absurd h (by simp), fun _ => .inl ⟨t, List.mem_cons_self, he, h12⟩⟩
      · rw [if_neg h12]
        have ih := fold1 T out (more ++ (nxAt ss (lastI t)).map fun n => t ++ [n]) hT' ho
        have hk0 : kids ss hi from_ t = (nxAt ss (lastI t)).map fun n => t ++ [n] := by unfold kids; rw [if_neg he]
        refine ⟨fun h => ?_, fun h => ?_⟩
        · obtain ⟨a1, a2, a3, a4⟩ := ih.good h
          refine ⟨fun k => ?_, fun x hx => ?_, by rw [a3, List.flatMap_cons, hk0, List.append_assoc], a4⟩
          · rw [a1, List.mem_cons, or_and_right]
            constructor
            · rintro (h | h)
              · exact .inl h
              · exact .inr (.inr h)
            · rintro (h7 | ⟨h8, h7⟩ | h7)
              · exact .inl h7
              · rw [h8] at h7; exact absurd h7.2 he
              · exact .inr h7
          · rcases List.mem_cons.1 hx with rfl | hx
            · exact fun h => h12 h.2
            · exact a2 x hx
        · rcases ih.bad h with ⟨x, hx, h1⟩ | ⟨L, l1, l2, l3⟩
          · exact .inl ⟨x, List.mem_cons_of_mem _ hx, h1⟩
          · exact .inr ⟨L, l1, l2, fun k hk => (l3 k hk).imp id fun h => ⟨List.mem_cons_of_mem _ h.1, h.2⟩⟩
/-- What the reference's growth comes to. -/
structure FQ (ss : List Sg) (lo hi from_ : Int) (R : List Int → Prop) (out : List (List Int)) (s' : Int × List (List Int)) : Prop where
  good : s'.1 = 0 → (∀ k, k ∈ s'.2 ↔ k ∈ out ∨ (R k ∧ leafP ss lo hi from_ k)) ∧ (∀ k, R k → ¬ overP ss hi from_ k) ∧ OutOk s'.2
  bad : s'.1 ≠ 0 → (∃ k, R k ∧ overP ss hi from_ k) ∨ (∃ L : List (List Int), L.Nodup ∧ 17 ≤ L.length ∧ ∀ k, k ∈ L → k ∈ out ∨ (R k ∧ leafP ss lo hi from_ k))
theorem growQ_fq (hnx : NextOk ss) : ∀ (n : Nat) (out todo : List (List Int)), (∀ t, t ∈ todo → WayOk ss t ∧ 13 ≤ t.length + n) → OutOk out → FQ ss lo hi from_ (fun k => ∃ t, t ∈ todo ∧ Reach ss hi from_ t k) out (growQ ss lo hi from_ n out todo)
  | 0, out, todo, ht, ho => by
    have h0 : ∀ t, t ∉ todo := fun t h => by have := ht t h; have := this.1.len; omega
    exact ⟨fun _ => ⟨fun k => ⟨.inl, fun h => h.elim id fun ⟨⟨t, h, _⟩, _⟩ => absurd h (h0 t)⟩, fun k ⟨t, h, _⟩ => absurd h (h0 t), ho⟩, fun h => absurd rfl h⟩
  | n + 1, out, todo, ht, ho => by
    have h1 := fold1 (ss := ss) (lo := lo) (hi := hi) (from_ := from_) todo out [] (fun t h => (ht t h).1.len.1) ho
    unfold growQ
    generalize todo.foldl (grow1 ss lo hi from_) (0, out, []) = s at h1 ⊢
    by_cases h0 : s.1 = 0
    · rw [if_neg (by simp [h0])]
      obtain ⟨a1, a2, a3, a4⟩ := h1.good h0
      rw [List.nil_append] at a3
      have hk : ∀ x, x ∈ s.2.2 ↔ ∃ t, t ∈ todo ∧ ¬ endP ss hi from_ t ∧ ∃ q, q ∈ nxAt ss (lastI t) ∧ x = t ++ [q] := fun x => by
        rw [a3, List.mem_flatMap]
        constructor
        · rintro ⟨t, h, hx⟩
          unfold kids at hx
          by_cases he : endP ss hi from_ t
          · rw [if_pos he] at hx; simp at hx
          · rw [if_neg he] at hx
            obtain ⟨q, hq, rfl⟩ := List.mem_map.1 hx
            exact ⟨t, h, he, q, hq, rfl⟩
        · rintro ⟨t, h, he, q, hq, rfl⟩
          refine ⟨t, h, ?_⟩
          unfold kids
          rw [if_neg he]
          exact List.mem_map.2 ⟨q, hq, rfl⟩
      have h12 : ∀ t, t ∈ todo → ¬ endP ss hi from_ t → t.length ≠ 12 := fun t h he e => a2 t h ⟨he, e⟩
      have ih := growQ_fq hnx n s.2.1 s.2.2 (fun x hx => by
        obtain ⟨t, h, he, q, hq, rfl⟩ := (hk x).1 hx
        refine ⟨(ht t h).1.snoc hnx (h12 t h he) hq, ?_⟩
        have := (ht t h).2
        simp; omega) a4
      have hR : ∀ k, (∃ t, t ∈ todo ∧ Reach ss hi from_ t k) ↔ k ∈ todo ∨ ∃ x, x ∈ s.2.2 ∧ Reach ss hi from_ x k := fun k => by
        constructor
        · rintro ⟨t, h, hr⟩
          by_cases he : endP ss hi from_ t
          · exact .inl (reach_end he hr ▸ h)
          · rcases (reach_iff he (h12 t h he)).1 hr with rfl | ⟨q, hq, hr⟩
            · exact .inl h
            · exact .inr ⟨_, (hk _).2 ⟨t, h, he, q, hq, rfl⟩, hr⟩
        · rintro (h | ⟨x, hx, hr⟩)
          · exact ⟨k, h, .refl _⟩
          · obtain ⟨t, h, he, q, hq, rfl⟩ := (hk x).1 hx
            exact ⟨t, h, .step he (h12 t h he) hq hr⟩
      refine ⟨fun h => ?_, fun h => ?_⟩
      · obtain ⟨b1, b2, b3⟩ := ih.good h
        refine ⟨fun k => ?_, fun k hk1 => ?_, b3⟩
        · rw [b1, a1, hR, or_and_right, or_assoc]
        · rcases (hR k).1 hk1 with h | h
          · exact a2 k h
          · exact b2 k h
      · rcases ih.bad h with ⟨k, hk1, h2⟩ | ⟨L, l1, l2, l3⟩
        · exact .inl ⟨k, (hR k).2 (.inr hk1), h2⟩
        · refine .inr ⟨L, l1, l2, fun k hk1 => ?_⟩
          rcases l3 k hk1 with h3 | ⟨h3, h4⟩
          · rcases (a1 k).1 h3 with h5 | ⟨h5, h6⟩
            · exact .inl h5
            · exact .inr ⟨(hR k).2 (.inl h5), h6⟩
          · exact .inr ⟨(hR k).2 (.inr h3), h4⟩
    · rw [if_pos h0]
      refine ⟨fun h => absurd h (by decide), fun _ => ?_⟩
      rcases h1.bad h0 with ⟨t, h, h2⟩ | ⟨L, l1, l2, l3⟩
      · exact .inl ⟨t, ⟨t, h, .refl _⟩, h2⟩
      · exact .inr ⟨L, l1, l2, fun k hk1 => (l3 k hk1).imp id fun h => ⟨⟨k, h.1, .refl _⟩, h.2⟩⟩
theorem map_toR_inj : ∀ {l m : List (List Int)}, (∀ k, k ∈ l → k.length ≤ 12) → (∀ k, k ∈ m → k.length ≤ 12) → l.map toR = m.map toR → l = m
  | [], [], _, _, _ => rfl
  | [], _ :: _, _, _, h => by simp at h
  | _ :: _, [], _, _, h => by simp at h
  | a :: l, b :: m, h1, h2, h => by
    simp only [List.map_cons, List.cons.injEq] at h
    rw [toR_inj (h1 a List.mem_cons_self) (h2 b List.mem_cons_self) h.1, map_toR_inj (fun k hk => h1 k (List.mem_cons_of_mem _ hk)) (fun k hk => h2 k (List.mem_cons_of_mem _ hk)) h.2]
/-- Both answers are one. -/
theorem growA_eq (hnx : NextOk ss) (ls : List (List Int)) (hl : ∀ l, l ∈ ls → WayOk ss l) : growA ss lo hi from_ ls = growB ss lo hi from_ ls := by
  have hA := growS_fp (ss := ss) (lo := lo) (hi := hi) (from_ := from_) ls hl
  have hok := growS_ok (ss := ss) (lo := lo) (hi := hi) (from_ := from_) ls hl
  have heA := growS_e (ss := ss) (lo := lo) (hi := hi) (from_ := from_) ls
  have hB := growQ_fq (ss := ss) (lo := lo) (hi := hi) (from_ := from_) hnx 13 [] ls (fun t h => ⟨hl t h, by omega⟩) ⟨List.Pairwise.nil, by simp, fun k hk => by simp at hk⟩
  unfold growA growB
  generalize growS ss lo hi from_ ls = sA at hA hok heA ⊢
  generalize growQ ss lo hi from_ 13 [] ls = sB at hB ⊢
  by_cases h0 : hi < lo ∨ lo < -from_
  · rw [if_pos h0, if_pos h0]
  · rw [if_neg h0, if_neg h0]
    have iff : sA.1 = 0 ↔ sB.1 = 0 := by
      constructor
      · intro h
        refine Classical.byContradiction fun h' => ?_
        obtain ⟨a1, a2⟩ := hA.good h
        rcases hB.bad h' with ⟨k, hk, ho⟩ | ⟨L, l1, l2, l3⟩
        · exact a2 k hk ho
        · have := nodup_sub L sA.2 l1 fun k hk => (a1 k).2 (by simpa using l3 k hk)
          have := hok.few h
          omega
      · intro h
        refine Classical.byContradiction fun h' => ?_
        obtain ⟨a1, a2, a3⟩ := hB.good h
        rcases hA.bad rfl h' with ⟨k, hk, ho⟩ | ⟨L, l1, l2, l3⟩
        · exact a2 k hk ho
        · have := nodup_sub L sB.2 l1 fun k hk => (a1 k).2 (by simpa using l3 k hk)
          have := a3.few
          omega
    by_cases h1 : sA.1 = 0
    · have h2 := iff.1 h1
      rw [if_neg (show ¬ (sA.1 ≠ 0) from fun h => h h1), if_neg (show ¬ (sB.1 ≠ 0) from fun h => h h2)]
      obtain ⟨a1, _⟩ := hA.good h1
      obtain ⟨b1, _, b3⟩ := hB.good h2
      have hp : sB.2.Perm sA.2 := (List.perm_ext_iff_of_nodup (sorted_nodup b3.sort) hok.nd).2 fun k => by rw [a1, b1]
      have hs : sB.2 = sortR sA.2 := by
        refine map_toR_inj b3.len (fun k hk => (hok.all k (sortR_mem.1 hk)).1) (sortR_unique (hp.map toR) (List.pairwise_map.2 ?_))
        exact b3.sort.imp fun {a b} h h' => ltR_irrefl a (ltR_trans h h')
      by_cases h3 : sA.2 = []
      · rw [if_pos h3, if_pos (by rw [hs, h3]; rfl)]
      · rw [if_neg h3, if_neg (fun h => h3 (by rw [h] at hp; exact List.nil_perm.1 hp)), hs]
    · have h2 : ¬ sB.1 = 0 := fun h => h1 (iff.2 h)
      rw [if_pos h1, if_pos h2]
      rcases heA with h | h
      · exact absurd h h1
      · rw [h]
end Go.Proofs.Ytpiocfmdjgbamaa

/- odographref14.Grow. -/
set_option linter.unusedVariables false
set_option linter.unusedSimpArgs false
namespace Go.Proofs.Ytpiocfmdjgbamaa
open Go Go.RowKit Go.Eng
set_option maxRecDepth 100000
theorem lastI_get : ∀ l : List Int, 1 ≤ l.length → l[l.length - 1]? = some (lastI l)
  | [], h => absurd h (by decide)
  | [a], _ => rfl
  | a :: b :: l, _ => by
    have := lastI_get (b :: l) (by simp)
    simpa [lastI] using this
/-- How many ways there may be. -/
def capR (n : Nat) : Nat := 1000 * 2 ^ n
theorem capR_succ (n : Nat) : capR (n + 1) = 2 * capR n := by unfold capR; rw [Nat.pow_succ]; omega
theorem capR_le {n : Nat} (h : n ≤ 13) : capR n ≤ 8192000 := by
  unfold capR
  have : 2 ^ n ≤ 2 ^ 13 := Nat.pow_le_pow_right (by decide) h
  omega
set_option maxHeartbeats 4000000 in
theorem e_rgrow (ss : List Sg) (gs : List Gr) (es ds : List (List AV)) (hes : es = ss.map sgRow) (hds : ds = gs.map grRow) (hln : LensOk ss) (hnx : NextOk ss) (lo hi from_ : Int) (hf : 0 ≤ from_ ∧ from_ ≤ 1099511627776) (ls : List (List Int)) (hls : ∀ l, l ∈ ls → WayOk ss l) (hsz : ls.length ≤ 1000) (rs : List (List AV)) (hrs : rs = ls.map rtRow) (v : (Int × List (List Int)) × Int) (hv : v = growB ss lo hi from_ ls) :
    PCalls Try.prog 37 [.agg [.list 3 es, .list 5 ds], .agg [.int .i64 from_, .list 1 rs], .int .i64 lo, .int .i64 hi] (· = .tuple [.agg [.int .i64 v.1.1, .list 1 (v.1.2.map rtRow)], .int .i64 v.2]) := by
  have hu : Up0 es := by rw [hes]; exact up_sg ss
  have hud : Up0 ds := by rw [hds]; exact up_gr gs
  have hur : Up0 rs := by rw [hrs]; exact up_rt ls
  obtain ⟨⟨v1, v2⟩, v3⟩ := v
  obtain ⟨vs, evs⟩ : ∃ x, x = v2.map rtRow := ⟨_, rfl⟩
  show PCalls Try.prog 37 [.agg [.list 3 es, .list 5 ds], .agg [.int .i64 from_, .list 1 rs], .int .i64 lo, .int .i64 hi] (· = .tuple [.agg [.int .i64 v1, .list 1 (v2.map rtRow)], .int .i64 v3])
  rw [← evs]
  obtain ⟨a0, ea0⟩ : ∃ a0, a0 = -from_ := ⟨_, rfl⟩
  (refine PCalls.ofY Try.func37 (by kernel_rfl) (by kernel_rfl) fun w hw R hR => ?_); (obtain ⟨wbin, wcmp, wun, wconv, wnot, wbeq, wmm, wscmp, wsadd, wslen, wsat, weqs, wlen, wnlen, wofNat, wtake, wdrop, wapp, wzero, wnat⟩ := w); (have hbin : wbin = binStd := congrArg Prims.bin hw); (have hcmp : wcmp = cmpStd := congrArg Prims.cmp hw); (have hun : wun = unStd := congrArg Prims.un hw); (have hconv : wconv = fun k n => k.wrap n := congrArg Prims.conv hw); (have hnot : wnot = fun b => !b := congrArg Prims.not hw); (have hbeq : wbeq = fun a b => a == b := congrArg Prims.beq hw); (have hmm : wmm = maxI := congrArg Prims.mm hw); (have hscmp : wscmp = scmpStd := congrArg Prims.scmp hw); (have hsadd : wsadd = fun x y => x ++ y := congrArg Prims.sadd hw); (have hslen : wslen = fun s => (s.size : Int) := congrArg Prims.slen hw); (have hsat : wsat = std.sat := congrArg Prims.sat hw); (have heqs : weqs = fun a b os => (eqOffs a b os).getD false := congrArg Prims.eqs hw); (have hlen : wlen = fun es => (es.length : Int) := congrArg Prims.len hw); (have hnlen : wnlen = fun es => es.length := congrArg Prims.nlen hw); (have hofNat : wofNat = (fun n : Nat => (n : Int)) := congrArg Prims.ofNat hw); (have htake : wtake = fun es b => es.take b.toNat := congrArg Prims.take hw); (have hdrop : wdrop = fun es a => es.drop a.toNat := congrArg Prims.drop hw); (have happ : wapp = fun a b => a ++ b := congrArg Prims.app hw); (have hzero : wzero = fun n z => List.replicate n.toNat z := congrArg Prims.zero hw); (have hnat : wnat = fun n => n.toNat := congrArg Prims.nat hw); (conv => arg 2; cbv); (generalize hP : Try.prog = P); cbv
  have c0 : wun .neg .i64 from_ = a0 := by rw [hun, ea0]; simp only [unStd]; rw [IntKind.wrap_i64]; omega
  have hbad : v1 = 0 → v2 = [] → ∀ h : AHeap, Ret [.agg [.int .i64 0, .nils], .int .i64 v3] h R := fun h1 h2 h => by
    subst h1 h2 evs
    exact ⟨_, Vw.tuple (rs := [.agg [.int .i64 0, .list 1 []], .int .i64 v3]) ⟨Vw.agg (rs := [.int .i64 0, .list 1 []]) ⟨Vw.same rfl, Vw.nil 1, trivial⟩, Vw.same rfl, trivial⟩, hR _ rfl⟩
  have hsplit : (hi < lo ∨ lo < -from_) → v1 = 0 ∧ v2 = [] ∧ v3 = 40 := fun h => by
    unfold growB at hv; rw [if_pos h] at hv
    simp only [Prod.mk.injEq] at hv; exact ⟨hv.1.1, hv.1.2, hv.2⟩
  (split <;> rename_i h1 <;> (try (simp only [hbin, hcmp, hun, hconv, hnot, hbeq, hmm, hscmp, hsadd, hslen, hsat, heqs, hofNat, binStd, cmpStd, unStd, scmpStd, maxI, Bool.not_eq_true', Bool.not_eq_false', decide_eq_true_eq, decide_eq_false_iff_not, Int.not_lt, Int.not_le, if_true, if_false, Bool.false_eq_true, beq_iff_eq, bne_iff_ne, ne_eq, Bool.not_eq_eq_eq_not, Bool.not_true, Bool.not_false, beq_eq_false_iff_ne, bne_eq_false_iff_eq, Int.ofNat_eq_natCast, Bool.not_not, not_true_eq_false, not_false_eq_true, reduceCtorEq] at h1)) <;> (try cbv))
  · obtain ⟨k1, k2, k3⟩ := hsplit (.inl h1)
    subst k3
    exact hbad k1 k2 _
  simp only [c0]
  (split <;> rename_i h2 <;> (try (simp only [hbin, hcmp, hun, hconv, hnot, hbeq, hmm, hscmp, hsadd, hslen, hsat, heqs, hofNat, binStd, cmpStd, unStd, scmpStd, maxI, Bool.not_eq_true', Bool.not_eq_false', decide_eq_true_eq, decide_eq_false_iff_not, Int.not_lt, Int.not_le, if_true, if_false, Bool.false_eq_true, beq_iff_eq, bne_iff_ne, ne_eq, Bool.not_eq_eq_eq_not, Bool.not_true, Bool.not_false, beq_eq_false_iff_ne, bne_eq_false_iff_eq, Int.ofNat_eq_natCast, Bool.not_not, not_true_eq_false, not_false_eq_true, reduceCtorEq] at h2)) <;> (try cbv))
  · obtain ⟨k1, k2, k3⟩ := hsplit (.inr (by omega))
    subst k3
    exact hbad k1 k2 _
  unfold growB at hv
  rw [if_neg (show ¬ (hi < lo ∨ lo < -from_) by omega)] at hv
  have h0 : growQ ss lo hi from_ 13 [] ls = growQ ss lo hi from_ (13 - (0 : Int).toNat) [] ls := rfl
  refine Loop.data hw (S := Int × List (List Int) × List (List AV) × List (List Int) × List (List AV)) (fun s => fr 117 [(2, .int .i64 lo), (3, .int .i64 hi), (4, .ref 0 2 0 0), (5, .ref 1 2 0 0), (8, .ref 2 2 0 0), (10, .ref 3 2 0 0), (11, .list 1 s.2.2.2.2), (12, .int .i64 s.1)])
    (fun s => [.live 2 [[.list 3 es, .list 5 ds]], .live 2 [[.int .i64 from_, .list 1 rs]], .live 2 [[.int .i64 0, .nils]], .live 2 [[.int .i64 from_, .list 1 s.2.2.1]]])
    (fun s => 0 ≤ s.1 ∧ s.1 ≤ 13 ∧ growQ ss lo hi from_ 13 [] ls = growQ ss lo hi from_ (13 - s.1.toNat) s.2.1 s.2.2.2.1 ∧ s.2.2.1 = s.2.1.map rtRow ∧ Up0 s.2.2.1 ∧ s.2.2.2.2 = s.2.2.2.1.map rtRow ∧ Up0 s.2.2.2.2 ∧ s.2.1.length ≤ 16 ∧ (∀ k, k ∈ s.2.1 → k.length ≤ 12) ∧ (∀ l, l ∈ s.2.2.2.1 → WayOk ss l) ∧ s.2.2.2.1.length ≤ capR s.1.toNat) (fun s => (13 - s.1).toNat) (0, [], [], ls, rs) (by (refine Wk.eqz (id) (by first | exact fun i _ j _ e => e | (simp only [List.length_cons, List.length_nil]; decide)) ?_; cbv; (repeat' (first | exact trivial | rfl | assumption | apply And.intro | (simp only [hbin, hcmp, hun, hconv, hnot, hbeq, hmm, hscmp, hsadd, hslen, hsat, heqs, hofNat, binStd, cmpStd, unStd, scmpStd, maxI, Bool.not_eq_true', Bool.not_eq_false', decide_eq_true_eq, decide_eq_false_iff_not, Int.not_lt, Int.not_le, if_true, if_false, Bool.false_eq_true, beq_iff_eq, bne_iff_ne, ne_eq, Bool.not_eq_eq_eq_not, Bool.not_true, Bool.not_false, beq_eq_false_iff_ne, bne_eq_false_iff_eq, Int.ofNat_eq_natCast, Bool.not_not, not_true_eq_false, not_false_eq_true, reduceCtorEq]; first | done | assumption) | exact RowsZ.same (by assumption) (by first | assumption | rfl) | exact FzL.mk rfl rfl rfl (by assumption) (by first | assumption | rfl) (by decide) | (refine RowsZ.one ?_; cbv))))) ⟨Int.le_refl _, (show (0 : Int) ≤ 13 by decide), h0, rfl, ⟨rfl⟩, hrs, hur, by simp, fun k hk => by simp at hk, hls, hsz⟩ ?_
  rintro ⟨n, out, ow, todo, tw⟩ hinv Q' hN hE hR'
  have hinv : 0 ≤ n ∧ n ≤ 13 ∧ growQ ss lo hi from_ 13 [] ls = growQ ss lo hi from_ (13 - n.toNat) out todo ∧ ow = out.map rtRow ∧ Up0 ow ∧ tw = todo.map rtRow ∧ Up0 tw ∧ out.length ≤ 16 ∧ (∀ k, k ∈ out → k.length ≤ 12) ∧ (∀ l, l ∈ todo → WayOk ss l) ∧ todo.length ≤ capR n.toNat := hinv
  cbv
  obtain ⟨hn0, hn1, hgq, hwo, huo, hwt, hut, ho16, ho12, htodo, hcap⟩ := hinv
  have hcap2 := capR_le (n := n.toNat) (by omega)
  (split <;> rename_i hc <;> (try (simp only [hbin, hcmp, hun, hconv, hnot, hbeq, hmm, hscmp, hsadd, hslen, hsat, heqs, hofNat, binStd, cmpStd, unStd, scmpStd, maxI, Bool.not_eq_true', Bool.not_eq_false', decide_eq_true_eq, decide_eq_false_iff_not, Int.not_lt, Int.not_le, if_true, if_false, Bool.false_eq_true, beq_iff_eq, bne_iff_ne, ne_eq, Bool.not_eq_eq_eq_not, Bool.not_true, Bool.not_false, beq_eq_false_iff_ne, bne_eq_false_iff_eq, Int.ofNat_eq_natCast, Bool.not_not, not_true_eq_false, not_false_eq_true, reduceCtorEq] at hc)) <;> (try cbv))
  · have htl : tw.length = todo.length := by rw [hwt]; simp
    (obtain ⟨L, eL, L0, Ln⟩ : ∃ L : Int, wlen tw = L ∧ 0 ≤ L ∧ L.toNat = tw.length := ⟨(tw.length : Int), by rw [hlen], Int.natCast_nonneg _, Int.toNat_natCast _⟩)
    have hret : ∀ (j : Nat) (s : Int × List (List Int) × List (List Int)), (todo.take j).foldl (grow1 ss lo hi from_) (0, out, []) = s → s.1 ≠ 0 → v1 = 0 ∧ v2 = [] ∧ v3 = 13 := fun j s hs he => by
      have hf : todo.foldl (grow1 ss lo hi from_) (0, out, []) = s := by
        conv => lhs; rw [← List.take_append_drop j todo]
        rw [List.foldl_append, hs, fold_err ss lo hi from_ _ s he]
      have hq : growQ ss lo hi from_ (13 - n.toNat) out todo = (13, []) := by
        obtain ⟨m, hm⟩ : ∃ m, 13 - n.toNat = m + 1 := ⟨12 - n.toNat, by omega⟩
        rw [hm]; unfold growQ; rw [hf, if_pos he]
      rw [hgq, hq, if_pos (by decide)] at hv
      simp only [Prod.mk.injEq] at hv
      exact ⟨hv.1.1, hv.1.2, hv.2⟩
    refine Loop.data hw (S := Int × List (List Int) × List (List AV) × List (List Int) × Option (Nat × List (List AV))) (fun s => match s.2.2.2.2 with
        | none => fr 117 [(2, .int .i64 lo), (3, .int .i64 hi), (4, .ref 0 2 0 0), (5, .ref 1 2 0 0), (8, .ref 2 2 0 0), (10, .ref 3 2 0 0), (11, .list 1 tw), (12, .int .i64 n), (13, .nils), (14, .int .i64 s.1)]
        | some (k, w) => fr 117 [(2, .int .i64 lo), (3, .int .i64 hi), (4, .ref 0 2 0 0), (5, .ref 1 2 0 0), (8, .ref 2 2 0 0), (10, .ref 3 2 0 0), (11, .list 1 tw), (12, .int .i64 n), (13, .sl 4 1 0 k), (14, .int .i64 s.1)])
      (fun s => match s.2.2.2.2 with
        | none => [.live 2 [[.list 3 es, .list 5 ds]], .live 2 [[.int .i64 from_, .list 1 rs]], .live 2 [[.int .i64 0, .nils]], .live 2 [[.int .i64 from_, .list 1 s.2.2.1]]]
        | some (k, w) => [.live 2 [[.list 3 es, .list 5 ds]], .live 2 [[.int .i64 from_, .list 1 rs]], .live 2 [[.int .i64 0, .nils]], .live 2 [[.int .i64 from_, .list 1 s.2.2.1]], .live 1 w])
      (fun s => 0 ≤ s.1 ∧ s.1 ≤ L ∧ (todo.take s.1.toNat).foldl (grow1 ss lo hi from_) (0, out, []) = (0, s.2.1, s.2.2.2.1) ∧ s.2.2.1 = s.2.1.map rtRow ∧ Up0 s.2.2.1 ∧ s.2.1.length ≤ 16 ∧ (∀ k, k ∈ s.2.1 → k.length ≤ 12) ∧ s.2.2.2.1.length ≤ 2 * s.1.toNat ∧ (∀ l, l ∈ s.2.2.2.1 → WayOk ss l) ∧ (match s.2.2.2.2 with | none => s.2.2.2.1 = [] | some (k, w) => k = w.length ∧ w = s.2.2.2.1.map rtRow ∧ Up0 w)) (fun s => (L - s.1).toNat) (0, out, ow, [], none) (by (refine Wk.eqz (id) (by first | exact fun i _ j _ e => e | (simp only [List.length_cons, List.length_nil]; decide)) ?_; cbv; (repeat' (first | exact trivial | rfl | assumption | apply And.intro | (simp only [hbin, hcmp, hun, hconv, hnot, hbeq, hmm, hscmp, hsadd, hslen, hsat, heqs, hofNat, binStd, cmpStd, unStd, scmpStd, maxI, Bool.not_eq_true', Bool.not_eq_false', decide_eq_true_eq, decide_eq_false_iff_not, Int.not_lt, Int.not_le, if_true, if_false, Bool.false_eq_true, beq_iff_eq, bne_iff_ne, ne_eq, Bool.not_eq_eq_eq_not, Bool.not_true, Bool.not_false, beq_eq_false_iff_ne, bne_eq_false_iff_eq, Int.ofNat_eq_natCast, Bool.not_not, not_true_eq_false, not_false_eq_true, reduceCtorEq]; first | done | assumption) | exact RowsZ.same (by assumption) (by first | assumption | rfl) | exact FzL.mk rfl rfl rfl (by assumption) (by first | assumption | rfl) (by decide) | (refine RowsZ.one ?_; cbv))))) ⟨Int.le_refl _, L0, rfl, hwo, huo, ho16, ho12, by simp, fun l hl => by simp at hl, rfl⟩ ?_
    rintro ⟨i, out1, ow1, more, _ | ⟨k, w⟩⟩ hinv1 Q1 hN1 hE1 hR1
    · cbv
      simp only [eL]
      have hinv2 : 0 ≤ i ∧ i ≤ L ∧ (todo.take i.toNat).foldl (grow1 ss lo hi from_) (0, out, []) = (0, out1, more) ∧ ow1 = out1.map rtRow ∧ Up0 ow1 ∧ out1.length ≤ 16 ∧ (∀ k, k ∈ out1 → k.length ≤ 12) ∧ more.length ≤ 2 * i.toNat ∧ (∀ l, l ∈ more → WayOk ss l) := ⟨hinv1.1, hinv1.2.1, hinv1.2.2.1, hinv1.2.2.2.1, hinv1.2.2.2.2.1, hinv1.2.2.2.2.2.1, hinv1.2.2.2.2.2.2.1, hinv1.2.2.2.2.2.2.2.1, hinv1.2.2.2.2.2.2.2.2.1⟩
      have hms : more = [] := hinv1.2.2.2.2.2.2.2.2.2
      obtain ⟨hi0, hi1, hfold, hwo1, huo1, ho161, ho121, hml, hmo⟩ := hinv2
      (split <;> rename_i hc1 <;> (try (simp only [hbin, hcmp, hun, hconv, hnot, hbeq, hmm, hscmp, hsadd, hslen, hsat, heqs, hofNat, binStd, cmpStd, unStd, scmpStd, maxI, Bool.not_eq_true', Bool.not_eq_false', decide_eq_true_eq, decide_eq_false_iff_not, Int.not_lt, Int.not_le, if_true, if_false, Bool.false_eq_true, beq_iff_eq, bne_iff_ne, ne_eq, Bool.not_eq_eq_eq_not, Bool.not_true, Bool.not_false, beq_eq_false_iff_ne, bne_eq_false_iff_eq, Int.ofNat_eq_natCast, Bool.not_not, not_true_eq_false, not_false_eq_true, reduceCtorEq] at hc1)) <;> (try cbv))
      · skip
        obtain ⟨r, hr⟩ : ∃ r, todo[i.toNat]? = some r := ⟨_, List.getElem?_eq_getElem (show i.toNat < todo.length by omega)⟩
        have hrok := htodo r (List.mem_of_getElem? hr)
        have hrl := hrok.len
        obtain ⟨xs, exs⟩ : ∃ x, x = r.map nxRow := ⟨_, rfl⟩
        have huxs : Up0 xs := by rw [exs]; exact up_nx r
        have hxl : xs.length = r.length := by rw [exs]; simp
        have hrow : tw[i.toNat]? = some [.list 1 xs] := by rw [hwt, List.getElem?_map, hr, exs]; rfl
        obtain ⟨i2, ei2⟩ : ∃ z, z = i + 1 := ⟨_, rfl⟩
        have a4 : wbin .add .i64 i 1 = i2 := by rw [hbin, ei2]; show IntKind.i64.wrap (i + 1) = i + 1; rw [IntKind.wrap_i64]; omega
        obtain ⟨q, eq⟩ : ∃ q, q = lastI r := ⟨_, rfl⟩
        have hq1 := lastI_get r hrl.2
        have hqb := hrok.seg q (by rw [eq]; exact List.mem_of_getElem? hq1)
        obtain ⟨sg0, hd0, hrow0⟩ := get_map (f := sgRow) (ds := ss) (i := q) hqb.1 hqb.2
        have hnxe : nxAt ss (lastI r) = sg0.nx := by rw [← eq]; unfold nxAt; rw [hd0]
        have hnxs : ∀ x, x ∈ sg0.nx → x ∈ nxAt ss (lastI r) := fun x hx => by rw [hnxe]; exact hx
        have hnx2 : sg0.nx.length ≤ 2 := by have := nxAt_two hnx (lastI r); rw [hnxe] at this; exact this
        obtain ⟨y, ey⟩ : ∃ y, y = endF ss from_ r := ⟨_, rfl⟩
        have hyb := endF_le hln hf r
        rw [← ey] at hyb
        have hend := e_rend ss gs es ds hes hds hln from_ hf r hrl.1 hrok.seg xs exs y ey
        have hstep : (todo.take i2.toNat).foldl (grow1 ss lo hi from_) (0, out, []) = grow1 ss lo hi from_ (0, out1, more) r := by
          rw [ei2, take_next hi0 hr, List.foldl_append, hfold]; rfl
        have hg : grow1 ss lo hi from_ (0, out1, more) r = (if hi ≤ y ∨ sg0.nx = [] then (if 16 < (if lo ≤ y then putQ out1 r else out1).length then 13 else 0, if lo ≤ y then putQ out1 r else out1, more) else if r.length = 12 then (13, out1, more) else (0, out1, more ++ sg0.nx.map fun n => r ++ [n])) := by
          unfold grow1; rw [if_neg (by simp), ← ey, hnxe]
        rw [hg] at hstep
        clear hg
        obtain ⟨len, pcs, nx⟩ := sg0
        obtain ⟨q0, eq0⟩ : ∃ x, pcs.map pcRow = x := ⟨_, rfl⟩
        obtain ⟨ns, ens⟩ : ∃ x, nx.map nxRow = x := ⟨_, rfl⟩
        have huns : Up0 ns := by rw [← ens]; exact up_nx nx
        have hnl : ns.length = nx.length := by rw [← ens]; simp
        have hrow0 : es[q.toNat]? = some [.int .i64 len, .list 2 q0, .list 1 ns] := by rw [hes, ← eq0, ← ens]; exact hrow0
        have hnx2 : nx.length ≤ 2 := hnx2
        have hnxs : ∀ x, x ∈ nx → x ∈ nxAt ss (lastI r) := hnxs
        have hT1 : (L - i2).toNat < (L - i).toNat := by omega
        have hup : ∀ x : List (List AV), Up0 x → uptoL 0 [AV.agg [.list 3 es, .list 5 ds], .int .i64 from_, .list 1 x] = true := fun x hx => by simp only [uptoL, AV.upto, hu.get, hud.get, hx.get]; rfl
        refine Idx.mk _ hi0 hrow ?_
        cbv
        (obtain ⟨K, eK, K0, Kn⟩ : ∃ L : Int, wlen xs = L ∧ 0 ≤ L ∧ L.toNat = xs.length := ⟨(xs.length : Int), by rw [hlen], Int.natCast_nonneg _, Int.toNat_natCast _⟩)
        obtain ⟨K1, eK1⟩ : ∃ z, z = K - 1 := ⟨_, rfl⟩
        have s1 : wbin .sub .i64 K 1 = K1 := by rw [hbin, eK1]; show IntKind.i64.wrap (K - 1) = K - 1; rw [IntKind.wrap_i64]; omega
        have hxq : xs[K1.toNat]? = some (nxRow q) := by rw [exs, List.getElem?_map, show K1.toNat = r.length - 1 by omega, hq1, eq]; rfl
        simp only [eK, s1]
        refine Idx.mk _ (show 0 ≤ K1 by omega) hxq ?_
        cbv
        refine Idx.mk _ hqb.1 hrow0 ?_
        cbv
        refine Call.stepE (by rw [← hP]; exact hend) (by exact hup _ huxs) ?_
        cbv
        (obtain ⟨J, eJ, J0, Jn⟩ : ∃ L : Int, wlen ns = L ∧ 0 ≤ L ∧ L.toNat = ns.length := ⟨(ns.length : Int), by rw [hlen], Int.natCast_nonneg _, Int.toNat_natCast _⟩)
        (split <;> rename_i h3 <;> (try (simp only [hbin, hcmp, hun, hconv, hnot, hbeq, hmm, hscmp, hsadd, hslen, hsat, heqs, hofNat, binStd, cmpStd, unStd, scmpStd, maxI, Bool.not_eq_true', Bool.not_eq_false', decide_eq_true_eq, decide_eq_false_iff_not, Int.not_lt, Int.not_le, if_true, if_false, Bool.false_eq_true, beq_iff_eq, bne_iff_ne, ne_eq, Bool.not_eq_eq_eq_not, Bool.not_true, Bool.not_false, beq_eq_false_iff_ne, bne_eq_false_iff_eq, Int.ofNat_eq_natCast, Bool.not_not, not_true_eq_false, not_false_eq_true, reduceCtorEq] at h3)) <;> (try cbv))
        · skip
          have hE1' : hi ≤ y ∨ nx = [] := .inl h3
          rw [if_pos hE1'] at hstep
          (split <;> rename_i h5 <;> (try (simp only [hbin, hcmp, hun, hconv, hnot, hbeq, hmm, hscmp, hsadd, hslen, hsat, heqs, hofNat, binStd, cmpStd, unStd, scmpStd, maxI, Bool.not_eq_true', Bool.not_eq_false', decide_eq_true_eq, decide_eq_false_iff_not, Int.not_lt, Int.not_le, if_true, if_false, Bool.false_eq_true, beq_iff_eq, bne_iff_ne, ne_eq, Bool.not_eq_eq_eq_not, Bool.not_true, Bool.not_false, beq_eq_false_iff_ne, bne_eq_false_iff_eq, Int.ofNat_eq_natCast, Bool.not_not, not_true_eq_false, not_false_eq_true, reduceCtorEq] at h5)) <;> (try cbv))
          · rw [if_pos h5] at hstep
            obtain ⟨o2, eo2⟩ : ∃ z, z = putQ out1 r := ⟨_, rfl⟩
            obtain ⟨po, epo⟩ : ∃ z, z = (putQ out1 r).map rtRow := ⟨_, rfl⟩
            have hpq := e_put out1 r ho121 (by omega) hrl.1 ow1 xs hwo1 exs
            rw [← epo] at hpq
            rw [← eo2] at epo hstep
            have hupo : Up0 po := by rw [epo]; exact up_rt o2
            have hpl : po.length = o2.length := by rw [epo]; simp
            have hol : o2.length ≤ 17 := by rw [eo2]; have := putQ_len out1 r; omega
            have ho2 : ∀ k, k ∈ o2 → k.length ≤ 12 := fun k hk => by
              rw [eo2] at hk
              rcases putQ_mem1 out1 r k hk with h | rfl
              · exact ho121 k h
              · exact hrl.1
            refine Call.stepE (by rw [← hP]; exact hpq) (by exact up_two huo1 huxs) ?_
            cbv
            (obtain ⟨H, eH, H0, Hn⟩ : ∃ L : Int, wlen po = L ∧ 0 ≤ L ∧ L.toNat = po.length := ⟨(po.length : Int), by rw [hlen], Int.natCast_nonneg _, Int.toNat_natCast _⟩)
            (split <;> rename_i h6 <;> (try (simp only [eH] at h6)) <;> (try (simp only [hbin, hcmp, hun, hconv, hnot, hbeq, hmm, hscmp, hsadd, hslen, hsat, heqs, hofNat, binStd, cmpStd, unStd, scmpStd, maxI, Bool.not_eq_true', Bool.not_eq_false', decide_eq_true_eq, decide_eq_false_iff_not, Int.not_lt, Int.not_le, if_true, if_false, Bool.false_eq_true, beq_iff_eq, bne_iff_ne, ne_eq, Bool.not_eq_eq_eq_not, Bool.not_true, Bool.not_false, beq_eq_false_iff_ne, bne_eq_false_iff_eq, Int.ofNat_eq_natCast, Bool.not_not, not_true_eq_false, not_false_eq_true, reduceCtorEq] at h6)) <;> (try cbv))
            · obtain ⟨k1, k2, k3⟩ := hret _ _ hstep (by rw [if_pos (by omega)]; exact (show (13 : Int) ≠ 0 by decide))
              subst k3
              exact hR1 _ _ (hR' _ _ (hbad k1 k2 _))
            · rw [if_neg (show ¬ 16 < o2.length by omega)] at hstep
              simp only [a4]
              refine hN1 (i2, o2, po, more, none) _ _ ?hx ?hi ?ht
              case hx => (refine Wk.eqz (id) (by first | exact fun i _ j _ e => e | (simp only [List.length_cons, List.length_nil]; decide)) ?_; cbv; (repeat' (first | exact trivial | rfl | assumption | apply And.intro | (simp only [hbin, hcmp, hun, hconv, hnot, hbeq, hmm, hscmp, hsadd, hslen, hsat, heqs, hofNat, binStd, cmpStd, unStd, scmpStd, maxI, Bool.not_eq_true', Bool.not_eq_false', decide_eq_true_eq, decide_eq_false_iff_not, Int.not_lt, Int.not_le, if_true, if_false, Bool.false_eq_true, beq_iff_eq, bne_iff_ne, ne_eq, Bool.not_eq_eq_eq_not, Bool.not_true, Bool.not_false, beq_eq_false_iff_ne, bne_eq_false_iff_eq, Int.ofNat_eq_natCast, Bool.not_not, not_true_eq_false, not_false_eq_true, reduceCtorEq]; first | done | assumption) | exact RowsZ.same (by assumption) (by first | assumption | rfl) | exact FzL.mk rfl rfl rfl (by assumption) (by first | assumption | rfl) (by decide) | (refine RowsZ.one ?_; cbv))))
              case hi => exact ⟨by first | omega | (simp only; omega), by first | omega | (simp only; omega), hstep, epo, hupo, (by first | omega | (simp only; omega)), ho2, by first | omega | (simp only; omega), hmo, hms⟩
              case ht => exact hT1
          · rw [if_neg (show ¬ lo ≤ y by omega), if_neg (show ¬ 16 < out1.length by omega)] at hstep
            (obtain ⟨H, eH, H0, Hn⟩ : ∃ L : Int, wlen ow1 = L ∧ 0 ≤ L ∧ L.toNat = ow1.length := ⟨(ow1.length : Int), by rw [hlen], Int.natCast_nonneg _, Int.toNat_natCast _⟩)
            have hol : ow1.length = out1.length := by rw [hwo1]; simp
            (split <;> rename_i h6 <;> (try (simp only [eH] at h6)) <;> (try (simp only [hbin, hcmp, hun, hconv, hnot, hbeq, hmm, hscmp, hsadd, hslen, hsat, heqs, hofNat, binStd, cmpStd, unStd, scmpStd, maxI, Bool.not_eq_true', Bool.not_eq_false', decide_eq_true_eq, decide_eq_false_iff_not, Int.not_lt, Int.not_le, if_true, if_false, Bool.false_eq_true, beq_iff_eq, bne_iff_ne, ne_eq, Bool.not_eq_eq_eq_not, Bool.not_true, Bool.not_false, beq_eq_false_iff_ne, bne_eq_false_iff_eq, Int.ofNat_eq_natCast, Bool.not_not, not_true_eq_false, not_false_eq_true, reduceCtorEq] at h6)) <;> (try cbv))
            · exfalso; omega
            · simp only [a4]
              refine hN1 (i2, out1, ow1, more, none) _ _ ?hx ?hi ?ht
              case hx => (refine Wk.eqz (id) (by first | exact fun i _ j _ e => e | (simp only [List.length_cons, List.length_nil]; decide)) ?_; cbv; (repeat' (first | exact trivial | rfl | assumption | apply And.intro | (simp only [hbin, hcmp, hun, hconv, hnot, hbeq, hmm, hscmp, hsadd, hslen, hsat, heqs, hofNat, binStd, cmpStd, unStd, scmpStd, maxI, Bool.not_eq_true', Bool.not_eq_false', decide_eq_true_eq, decide_eq_false_iff_not, Int.not_lt, Int.not_le, if_true, if_false, Bool.false_eq_true, beq_iff_eq, bne_iff_ne, ne_eq, Bool.not_eq_eq_eq_not, Bool.not_true, Bool.not_false, beq_eq_false_iff_ne, bne_eq_false_iff_eq, Int.ofNat_eq_natCast, Bool.not_not, not_true_eq_false, not_false_eq_true, reduceCtorEq]; first | done | assumption) | exact RowsZ.same (by assumption) (by first | assumption | rfl) | exact FzL.mk rfl rfl rfl (by assumption) (by first | assumption | rfl) (by decide) | (refine RowsZ.one ?_; cbv))))
              case hi => exact ⟨by first | omega | (simp only; omega), by first | omega | (simp only; omega), hstep, hwo1, huo1, ho161, ho121, by first | omega | (simp only; omega), hmo, hms⟩
              case ht => exact hT1
        simp only [eJ]
        (split <;> rename_i h4 <;> (try (simp only [hbin, hcmp, hun, hconv, hnot, hbeq, hmm, hscmp, hsadd, hslen, hsat, heqs, hofNat, binStd, cmpStd, unStd, scmpStd, maxI, Bool.not_eq_true', Bool.not_eq_false', decide_eq_true_eq, decide_eq_false_iff_not, Int.not_lt, Int.not_le, if_true, if_false, Bool.false_eq_true, beq_iff_eq, bne_iff_ne, ne_eq, Bool.not_eq_eq_eq_not, Bool.not_true, Bool.not_false, beq_eq_false_iff_ne, bne_eq_false_iff_eq, Int.ofNat_eq_natCast, Bool.not_not, not_true_eq_false, not_false_eq_true, reduceCtorEq] at h4)) <;> (try cbv))
        · skip
          have hE1' : hi ≤ y ∨ nx = [] := .inr (List.length_eq_zero_iff.1 (by omega))
          rw [if_pos hE1'] at hstep
          (split <;> rename_i h5 <;> (try (simp only [hbin, hcmp, hun, hconv, hnot, hbeq, hmm, hscmp, hsadd, hslen, hsat, heqs, hofNat, binStd, cmpStd, unStd, scmpStd, maxI, Bool.not_eq_true', Bool.not_eq_false', decide_eq_true_eq, decide_eq_false_iff_not, Int.not_lt, Int.not_le, if_true, if_false, Bool.false_eq_true, beq_iff_eq, bne_iff_ne, ne_eq, Bool.not_eq_eq_eq_not, Bool.not_true, Bool.not_false, beq_eq_false_iff_ne, bne_eq_false_iff_eq, Int.ofNat_eq_natCast, Bool.not_not, not_true_eq_false, not_false_eq_true, reduceCtorEq] at h5)) <;> (try cbv))
          · rw [if_pos h5] at hstep
            obtain ⟨o2, eo2⟩ : ∃ z, z = putQ out1 r := ⟨_, rfl⟩
            obtain ⟨po, epo⟩ : ∃ z, z = (putQ out1 r).map rtRow := ⟨_, rfl⟩
            have hpq := e_put out1 r ho121 (by omega) hrl.1 ow1 xs hwo1 exs
            rw [← epo] at hpq
            rw [← eo2] at epo hstep
            have hupo : Up0 po := by rw [epo]; exact up_rt o2
            have hpl : po.length = o2.length := by rw [epo]; simp
            have hol : o2.length ≤ 17 := by rw [eo2]; have := putQ_len out1 r; omega
            have ho2 : ∀ k, k ∈ o2 → k.length ≤ 12 := fun k hk => by
              rw [eo2] at hk
              rcases putQ_mem1 out1 r k hk with h | rfl
              · exact ho121 k h
              · exact hrl.1
            refine Call.stepE (by rw [← hP]; exact hpq) (by exact up_two huo1 huxs) ?_
            cbv
            (obtain ⟨H, eH, H0, Hn⟩ : ∃ L : Int, wlen po = L ∧ 0 ≤ L ∧ L.toNat = po.length := ⟨(po.length : Int), by rw [hlen], Int.natCast_nonneg _, Int.toNat_natCast _⟩)
            (split <;> rename_i h6 <;> (try (simp only [eH] at h6)) <;> (try (simp only [hbin, hcmp, hun, hconv, hnot, hbeq, hmm, hscmp, hsadd, hslen, hsat, heqs, hofNat, binStd, cmpStd, unStd, scmpStd, maxI, Bool.not_eq_true', Bool.not_eq_false', decide_eq_true_eq, decide_eq_false_iff_not, Int.not_lt, Int.not_le, if_true, if_false, Bool.false_eq_true, beq_iff_eq, bne_iff_ne, ne_eq, Bool.not_eq_eq_eq_not, Bool.not_true, Bool.not_false, beq_eq_false_iff_ne, bne_eq_false_iff_eq, Int.ofNat_eq_natCast, Bool.not_not, not_true_eq_false, not_false_eq_true, reduceCtorEq] at h6)) <;> (try cbv))
            · obtain ⟨k1, k2, k3⟩ := hret _ _ hstep (by rw [if_pos (by omega)]; exact (show (13 : Int) ≠ 0 by decide))
              subst k3
              exact hR1 _ _ (hR' _ _ (hbad k1 k2 _))
            · rw [if_neg (show ¬ 16 < o2.length by omega)] at hstep
              simp only [a4]
              refine hN1 (i2, o2, po, more, none) _ _ ?hx ?hi ?ht
              case hx => (refine Wk.eqz (id) (by first | exact fun i _ j _ e => e | (simp only [List.length_cons, List.length_nil]; decide)) ?_; cbv; (repeat' (first | exact trivial | rfl | assumption | apply And.intro | (simp only [hbin, hcmp, hun, hconv, hnot, hbeq, hmm, hscmp, hsadd, hslen, hsat, heqs, hofNat, binStd, cmpStd, unStd, scmpStd, maxI, Bool.not_eq_true', Bool.not_eq_false', decide_eq_true_eq, decide_eq_false_iff_not, Int.not_lt, Int.not_le, if_true, if_false, Bool.false_eq_true, beq_iff_eq, bne_iff_ne, ne_eq, Bool.not_eq_eq_eq_not, Bool.not_true, Bool.not_false, beq_eq_false_iff_ne, bne_eq_false_iff_eq, Int.ofNat_eq_natCast, Bool.not_not, not_true_eq_false, not_false_eq_true, reduceCtorEq]; first | done | assumption) | exact RowsZ.same (by assumption) (by first | assumption | rfl) | exact FzL.mk rfl rfl rfl (by assumption) (by first | assumption | rfl) (by decide) | (refine RowsZ.one ?_; cbv))))
              case hi => exact ⟨by first | omega | (simp only; omega), by first | omega | (simp only; omega), hstep, epo, hupo, (by first | omega | (simp only; omega)), ho2, by first | omega | (simp only; omega), hmo, hms⟩
              case ht => exact hT1
          · rw [if_neg (show ¬ lo ≤ y by omega), if_neg (show ¬ 16 < out1.length by omega)] at hstep
            (obtain ⟨H, eH, H0, Hn⟩ : ∃ L : Int, wlen ow1 = L ∧ 0 ≤ L ∧ L.toNat = ow1.length := ⟨(ow1.length : Int), by rw [hlen], Int.natCast_nonneg _, Int.toNat_natCast _⟩)
            have hol : ow1.length = out1.length := by rw [hwo1]; simp
            (split <;> rename_i h6 <;> (try (simp only [eH] at h6)) <;> (try (simp only [hbin, hcmp, hun, hconv, hnot, hbeq, hmm, hscmp, hsadd, hslen, hsat, heqs, hofNat, binStd, cmpStd, unStd, scmpStd, maxI, Bool.not_eq_true', Bool.not_eq_false', decide_eq_true_eq, decide_eq_false_iff_not, Int.not_lt, Int.not_le, if_true, if_false, Bool.false_eq_true, beq_iff_eq, bne_iff_ne, ne_eq, Bool.not_eq_eq_eq_not, Bool.not_true, Bool.not_false, beq_eq_false_iff_ne, bne_eq_false_iff_eq, Int.ofNat_eq_natCast, Bool.not_not, not_true_eq_false, not_false_eq_true, reduceCtorEq] at h6)) <;> (try cbv))
            · exfalso; omega
            · simp only [a4]
              refine hN1 (i2, out1, ow1, more, none) _ _ ?hx ?hi ?ht
              case hx => (refine Wk.eqz (id) (by first | exact fun i _ j _ e => e | (simp only [List.length_cons, List.length_nil]; decide)) ?_; cbv; (repeat' (first | exact trivial | rfl | assumption | apply And.intro | (simp only [hbin, hcmp, hun, hconv, hnot, hbeq, hmm, hscmp, hsadd, hslen, hsat, heqs, hofNat, binStd, cmpStd, unStd, scmpStd, maxI, Bool.not_eq_true', Bool.not_eq_false', decide_eq_true_eq, decide_eq_false_iff_not, Int.not_lt, Int.not_le, if_true, if_false, Bool.false_eq_true, beq_iff_eq, bne_iff_ne, ne_eq, Bool.not_eq_eq_eq_not, Bool.not_true, Bool.not_false, beq_eq_false_iff_ne, bne_eq_false_iff_eq, Int.ofNat_eq_natCast, Bool.not_not, not_true_eq_false, not_false_eq_true, reduceCtorEq]; first | done | assumption) | exact RowsZ.same (by assumption) (by first | assumption | rfl) | exact FzL.mk rfl rfl rfl (by assumption) (by first | assumption | rfl) (by decide) | (refine RowsZ.one ?_; cbv))))
              case hi => exact ⟨by first | omega | (simp only; omega), by first | omega | (simp only; omega), hstep, hwo1, huo1, ho161, ho121, by first | omega | (simp only; omega), hmo, hms⟩
              case ht => exact hT1
        have hE1' : ¬ (hi ≤ y ∨ nx = []) := by
          rintro (h | h)
          · omega
          · rw [h, List.length_nil] at hnl; omega
        rw [if_neg hE1'] at hstep
        simp only [eK]
        (split <;> rename_i h5 <;> (try (simp only [hbin, hcmp, hun, hconv, hnot, hbeq, hmm, hscmp, hsadd, hslen, hsat, heqs, hofNat, binStd, cmpStd, unStd, scmpStd, maxI, Bool.not_eq_true', Bool.not_eq_false', decide_eq_true_eq, decide_eq_false_iff_not, Int.not_lt, Int.not_le, if_true, if_false, Bool.false_eq_true, beq_iff_eq, bne_iff_ne, ne_eq, Bool.not_eq_eq_eq_not, Bool.not_true, Bool.not_false, beq_eq_false_iff_ne, bne_eq_false_iff_eq, Int.ofNat_eq_natCast, Bool.not_not, not_true_eq_false, not_false_eq_true, reduceCtorEq] at h5)) <;> (try cbv))
        · rw [if_pos (show r.length = 12 by omega)] at hstep
          obtain ⟨k1, k2, k3⟩ := hret _ _ hstep (show (13 : Int) ≠ 0 by decide)
          subst k3
          exact hR1 _ _ (hR' _ _ (hbad k1 k2 _))
        rw [if_neg (show ¬ r.length = 12 by omega)] at hstep
        have h12 : r.length ≠ 12 := by omega
        have hnl0 : more ++ (nx.take (0 : Int).toNat).map (fun n => r ++ [n]) = more := by simp
        refine Loop.data hw (S := Int × List (List Int) × Option (Nat × List (List AV))) (fun s => match s.2.2 with
            | none => fr 117 [(2, .int .i64 lo), (3, .int .i64 hi), (4, .ref 0 2 0 0), (5, .ref 1 2 0 0), (8, .ref 2 2 0 0), (10, .ref 3 2 0 0), (11, .list 1 tw), (12, .int .i64 n), (13, .nils), (14, .int .i64 i), (15, .list 1 xs), (16, .list 1 ns), (18, .int .i64 s.1)]
            | some (k, w) => fr 117 [(2, .int .i64 lo), (3, .int .i64 hi), (4, .ref 0 2 0 0), (5, .ref 1 2 0 0), (8, .ref 2 2 0 0), (10, .ref 3 2 0 0), (11, .list 1 tw), (12, .int .i64 n), (13, .sl 4 1 0 k), (14, .int .i64 i), (15, .list 1 xs), (16, .list 1 ns), (18, .int .i64 s.1)])
          (fun s => match s.2.2 with
            | none => [.live 2 [[.list 3 es, .list 5 ds]], .live 2 [[.int .i64 from_, .list 1 rs]], .live 2 [[.int .i64 0, .nils]], .live 2 [[.int .i64 from_, .list 1 ow1]]]
            | some (k, w) => [.live 2 [[.list 3 es, .list 5 ds]], .live 2 [[.int .i64 from_, .list 1 rs]], .live 2 [[.int .i64 0, .nils]], .live 2 [[.int .i64 from_, .list 1 ow1]], .live 1 w])
          (fun s => 0 ≤ s.1 ∧ s.1 ≤ J ∧ s.2.1 = more ++ (nx.take s.1.toNat).map (fun n => r ++ [n]) ∧ (match s.2.2 with | none => s.2.1 = [] | some (k, w) => k = w.length ∧ w = s.2.1.map rtRow ∧ Up0 w)) (fun s => (J - s.1).toNat) (0, more, none) (by (refine Wk.eqz (id) (by first | exact fun i _ j _ e => e | (simp only [List.length_cons, List.length_nil]; decide)) ?_; cbv; (repeat' (first | exact trivial | rfl | assumption | apply And.intro | (simp only [hbin, hcmp, hun, hconv, hnot, hbeq, hmm, hscmp, hsadd, hslen, hsat, heqs, hofNat, binStd, cmpStd, unStd, scmpStd, maxI, Bool.not_eq_true', Bool.not_eq_false', decide_eq_true_eq, decide_eq_false_iff_not, Int.not_lt, Int.not_le, if_true, if_false, Bool.false_eq_true, beq_iff_eq, bne_iff_ne, ne_eq, Bool.not_eq_eq_eq_not, Bool.not_true, Bool.not_false, beq_eq_false_iff_ne, bne_eq_false_iff_eq, Int.ofNat_eq_natCast, Bool.not_not, not_true_eq_false, not_false_eq_true, reduceCtorEq]; first | done | assumption) | exact RowsZ.same (by assumption) (by first | assumption | rfl) | exact FzL.mk rfl rfl rfl (by assumption) (by first | assumption | rfl) (by decide) | (refine RowsZ.one ?_; cbv))))) ⟨Int.le_refl _, J0, hnl0.symm, hms⟩ ?_
        rintro ⟨j, mo, _ | ⟨k2, w2⟩⟩ hinv3 Q2 hN2 hE2 hR2
        · cbv
          simp only [eJ]
          have hinv4 : 0 ≤ j ∧ j ≤ J ∧ mo = more ++ (nx.take j.toNat).map (fun n => r ++ [n]) := ⟨hinv3.1, hinv3.2.1, hinv3.2.2.1⟩
          have hms2 : mo = [] := hinv3.2.2.2
          obtain ⟨hj0, hj1, hmoe⟩ := hinv4
          have hmol : mo.length ≤ more.length + 2 := by rw [hmoe]; simp only [List.length_append, List.length_map, List.length_take]; omega
          (split <;> rename_i hc3 <;> (try (simp only [hbin, hcmp, hun, hconv, hnot, hbeq, hmm, hscmp, hsadd, hslen, hsat, heqs, hofNat, binStd, cmpStd, unStd, scmpStd, maxI, Bool.not_eq_true', Bool.not_eq_false', decide_eq_true_eq, decide_eq_false_iff_not, Int.not_lt, Int.not_le, if_true, if_false, Bool.false_eq_true, beq_iff_eq, bne_iff_ne, ne_eq, Bool.not_eq_eq_eq_not, Bool.not_true, Bool.not_false, beq_eq_false_iff_ne, bne_eq_false_iff_eq, Int.ofNat_eq_natCast, Bool.not_not, not_true_eq_false, not_false_eq_true, reduceCtorEq] at hc3)) <;> (try cbv))
          · skip
            obtain ⟨nn, hnn⟩ : ∃ nn, nx[j.toNat]? = some nn := ⟨_, List.getElem?_eq_getElem (show j.toNat < nx.length by omega)⟩
            have hnn2 : ns[j.toNat]? = some (nxRow nn) := by rw [← ens, List.getElem?_map, hnn]; rfl
            obtain ⟨j2, ej2⟩ : ∃ z, z = j + 1 := ⟨_, rfl⟩
            have a5 : wbin .add .i64 j 1 = j2 := by rw [hbin, ej2]; show IntKind.i64.wrap (j + 1) = j + 1; rw [IntKind.wrap_i64]; omega
            have hmo2 : mo ++ [r ++ [nn]] = more ++ (nx.take j2.toNat).map (fun n => r ++ [n]) := by rw [ej2, take_next hj0 hnn, hmoe]; simp
            have hxne : xs ≠ [] := fun h => by rw [h] at hxl; simp at hxl; omega
            rcases xs with _ | ⟨x0, _ | ⟨x1, xt⟩⟩
            · exact absurd rfl hxne
            all_goals
              obtain ⟨xl, exl⟩ : ∃ m : Nat, m = r.length := ⟨_, rfl⟩
              obtain ⟨lx, elx⟩ : ∃ x : List (List AV), x = (r ++ [nn]).map nxRow := ⟨_, rfl⟩
              have hlx : lx.length = r.length + 1 := by rw [elx]; simp
              have hulx : Up0 lx := by rw [elx]; exact up_nx _
              obtain ⟨lk, elk⟩ : ∃ k, k = lx.length := ⟨_, rfl⟩
              cbv
              first
                | refine Ob.mk (by decide) ?_
                | (refine Fb.mk ⟨fun h => absurd h (by simp), fun _ => ⟨⟨rfl, by simp only [List.length_cons] at hxl ⊢; omega, by simp only [List.length_cons] at hxl ⊢; omega⟩, ?_⟩⟩; rw [hxl, ← exl])
              cbv
              refine Idx.mk _ hj0 hnn2 ?_
              cbv
              refine App.mk lx lk (by rw [elx, List.map_append, ← exs]; rfl) (by first | rfl | rw [hxl, exl]) (by simp only [List.length_cons, List.length_nil] at hxl; omega) (by simp only [List.length_cons, List.length_nil] at hxl; omega) (by simp only [List.length_cons, List.length_nil] at hxl; omega) ?_
              cbv
              refine Ob.mk (by decide) ?_
              cbv
              simp only [a5]
              refine hN2 (j2, mo ++ [r ++ [nn]], some (1, [[.list 1 lx]])) _ _ ?hx ?hi ?ht
              case hx => (refine Wk.eqz (fun j => [0, 1, 2, 3, 6].getD j 0) (by first | exact fun i _ j _ e => e | (simp only [List.length_cons, List.length_nil]; decide)) ?_; cbv; (repeat' (first | exact trivial | rfl | assumption | apply And.intro | (simp only [hbin, hcmp, hun, hconv, hnot, hbeq, hmm, hscmp, hsadd, hslen, hsat, heqs, hofNat, binStd, cmpStd, unStd, scmpStd, maxI, Bool.not_eq_true', Bool.not_eq_false', decide_eq_true_eq, decide_eq_false_iff_not, Int.not_lt, Int.not_le, if_true, if_false, Bool.false_eq_true, beq_iff_eq, bne_iff_ne, ne_eq, Bool.not_eq_eq_eq_not, Bool.not_true, Bool.not_false, beq_eq_false_iff_ne, bne_eq_false_iff_eq, Int.ofNat_eq_natCast, Bool.not_not, not_true_eq_false, not_false_eq_true, reduceCtorEq]; first | done | assumption) | exact RowsZ.same (by assumption) (by first | assumption | rfl) | exact FzL.mk rfl rfl rfl (by assumption) (by first | assumption | rfl) (by decide) | (refine RowsZ.one ?_; cbv))))
              case hi => exact ⟨by first | omega | (simp only; omega), by first | omega | (simp only; omega), hmo2, rfl, by rw [hms2, elx]; rfl, ⟨by simp only [uptoLL, uptoL, AV.upto, hulx.get]; rfl⟩⟩
              case ht => show (J - j2).toNat < (J - j).toNat; omega
          · skip
            have hmoF : mo = more ++ nx.map (fun n => r ++ [n]) := by rw [hmoe, List.take_of_length_le (by omega)]
            rw [← hmoF] at hstep
            have hmok : ∀ l, l ∈ mo → WayOk ss l := fun l hl => by
              rw [hmoF] at hl
              rcases List.mem_append.1 hl with hl | hl
              · exact hmo l hl
              · obtain ⟨q, hq, rfl⟩ := List.mem_map.1 hl
                exact hrok.snoc hnx h12 (hnxs q hq)
            refine hE2 _ _ _ ?_
            cbv
            simp only [a4]
            refine hN1 (i2, out1, ow1, mo, none) _ _ ?hx ?hi ?ht
            case hx => (refine Wk.eqz (id) (by first | exact fun i _ j _ e => e | (simp only [List.length_cons, List.length_nil]; decide)) ?_; cbv; (repeat' (first | exact trivial | rfl | assumption | apply And.intro | (simp only [hbin, hcmp, hun, hconv, hnot, hbeq, hmm, hscmp, hsadd, hslen, hsat, heqs, hofNat, binStd, cmpStd, unStd, scmpStd, maxI, Bool.not_eq_true', Bool.not_eq_false', decide_eq_true_eq, decide_eq_false_iff_not, Int.not_lt, Int.not_le, if_true, if_false, Bool.false_eq_true, beq_iff_eq, bne_iff_ne, ne_eq, Bool.not_eq_eq_eq_not, Bool.not_true, Bool.not_false, beq_eq_false_iff_ne, bne_eq_false_iff_eq, Int.ofNat_eq_natCast, Bool.not_not, not_true_eq_false, not_false_eq_true, reduceCtorEq]; first | done | assumption) | exact RowsZ.same (by assumption) (by first | assumption | rfl) | exact FzL.mk rfl rfl rfl (by assumption) (by first | assumption | rfl) (by decide) | (refine RowsZ.one ?_; cbv))))
            case hi => exact ⟨by first | omega | (simp only; omega), by first | omega | (simp only; omega), hstep, hwo1, huo1, ho161, ho121, by first | omega | (simp only; omega), hmok, hms2⟩
            case ht => exact hT1
        · cbv
          simp only [eJ]
          have hinv4 : 0 ≤ j ∧ j ≤ J ∧ mo = more ++ (nx.take j.toNat).map (fun n => r ++ [n]) := ⟨hinv3.1, hinv3.2.1, hinv3.2.2.1⟩
          have hms2 : k2 = w2.length ∧ w2 = mo.map rtRow ∧ Up0 w2 := hinv3.2.2.2
          obtain ⟨hj0, hj1, hmoe⟩ := hinv4
          have hmol : mo.length ≤ more.length + 2 := by rw [hmoe]; simp only [List.length_append, List.length_map, List.length_take]; omega
          obtain ⟨hk2, hw22, huw22⟩ := hms2
          (split <;> rename_i hc3 <;> (try (simp only [hbin, hcmp, hun, hconv, hnot, hbeq, hmm, hscmp, hsadd, hslen, hsat, heqs, hofNat, binStd, cmpStd, unStd, scmpStd, maxI, Bool.not_eq_true', Bool.not_eq_false', decide_eq_true_eq, decide_eq_false_iff_not, Int.not_lt, Int.not_le, if_true, if_false, Bool.false_eq_true, beq_iff_eq, bne_iff_ne, ne_eq, Bool.not_eq_eq_eq_not, Bool.not_true, Bool.not_false, beq_eq_false_iff_ne, bne_eq_false_iff_eq, Int.ofNat_eq_natCast, Bool.not_not, not_true_eq_false, not_false_eq_true, reduceCtorEq] at hc3)) <;> (try cbv))
          · skip
            obtain ⟨nn, hnn⟩ : ∃ nn, nx[j.toNat]? = some nn := ⟨_, List.getElem?_eq_getElem (show j.toNat < nx.length by omega)⟩
            have hnn2 : ns[j.toNat]? = some (nxRow nn) := by rw [← ens, List.getElem?_map, hnn]; rfl
            obtain ⟨j2, ej2⟩ : ∃ z, z = j + 1 := ⟨_, rfl⟩
            have a5 : wbin .add .i64 j 1 = j2 := by rw [hbin, ej2]; show IntKind.i64.wrap (j + 1) = j + 1; rw [IntKind.wrap_i64]; omega
            have hmo2 : mo ++ [r ++ [nn]] = more ++ (nx.take j2.toNat).map (fun n => r ++ [n]) := by rw [ej2, take_next hj0 hnn, hmoe]; simp
            have hxne : xs ≠ [] := fun h => by rw [h] at hxl; simp at hxl; omega
            rcases xs with _ | ⟨x0, _ | ⟨x1, xt⟩⟩
            · exact absurd rfl hxne
            all_goals
              obtain ⟨xl, exl⟩ : ∃ m : Nat, m = r.length := ⟨_, rfl⟩
              obtain ⟨lx, elx⟩ : ∃ x : List (List AV), x = (r ++ [nn]).map nxRow := ⟨_, rfl⟩
              have hlx : lx.length = r.length + 1 := by rw [elx]; simp
              have hulx : Up0 lx := by rw [elx]; exact up_nx _
              obtain ⟨lk, elk⟩ : ∃ k, k = lx.length := ⟨_, rfl⟩
              cbv
              first
                | refine Ob.mk (by decide) ?_
                | (refine Fb.mk ⟨fun h => absurd h (by simp), fun _ => ⟨⟨rfl, by simp only [List.length_cons] at hxl ⊢; omega, by simp only [List.length_cons] at hxl ⊢; omega⟩, ?_⟩⟩; rw [hxl, ← exl])
              cbv
              refine Idx.mk _ hj0 hnn2 ?_
              cbv
              refine App.mk lx lk (by rw [elx, List.map_append, ← exs]; rfl) (by first | rfl | rw [hxl, exl]) (by simp only [List.length_cons, List.length_nil] at hxl; omega) (by simp only [List.length_cons, List.length_nil] at hxl; omega) (by simp only [List.length_cons, List.length_nil] at hxl; omega) ?_
              cbv
              obtain ⟨w3, ew3⟩ : ∃ x : List (List AV), x = w2 ++ [[.sl 6 1 0 lk]] := ⟨_, rfl⟩
              obtain ⟨w4, ew4⟩ : ∃ x : List (List AV), x = w2 ++ [[.list 1 lx]] := ⟨_, rfl⟩
              obtain ⟨k3, ek3⟩ : ∃ x, x = k2 + 1 := ⟨_, rfl⟩
              have hw3l : k3 = w4.length := by rw [ek3, ew4]; simp; omega
              have hw4 : w4 = (mo ++ [r ++ [nn]]).map rtRow := by rw [ew4, hw22, elx]; simp [rtRow]
              have huw4 : Up0 w4 := by rw [hw4]; exact up_rt _
              have hkml : k2 = mo.length := by rw [hk2, hw22]; simp
              refine App.mk w3 k3 ew3 hk2 ek3 (by omega) (by omega) ?_
              cbv
              simp only [a5]
              refine hN2 (j2, mo ++ [r ++ [nn]], some (k3, w4)) _ _ ?hx ?hi ?ht
              case hx => (refine Wk.eqz (fun j => [0, 1, 2, 3, 7].getD j 0) (by first | exact fun i _ j _ e => e | (simp only [List.length_cons, List.length_nil]; decide)) ?_; cbv; (repeat' (first | exact trivial | rfl | assumption | (refine RowsZ.app huw22 ew3 ew4 ?_; cbv) | apply And.intro | (simp only [hbin, hcmp, hun, hconv, hnot, hbeq, hmm, hscmp, hsadd, hslen, hsat, heqs, hofNat, binStd, cmpStd, unStd, scmpStd, maxI, Bool.not_eq_true', Bool.not_eq_false', decide_eq_true_eq, decide_eq_false_iff_not, Int.not_lt, Int.not_le, if_true, if_false, Bool.false_eq_true, beq_iff_eq, bne_iff_ne, ne_eq, Bool.not_eq_eq_eq_not, Bool.not_true, Bool.not_false, beq_eq_false_iff_ne, bne_eq_false_iff_eq, Int.ofNat_eq_natCast, Bool.not_not, not_true_eq_false, not_false_eq_true, reduceCtorEq]; first | done | assumption) | exact RowsZ.same (by assumption) (by first | assumption | rfl) | exact FzL.mk rfl rfl rfl (by assumption) (by first | assumption | rfl) (by decide) | (refine RowsZ.one ?_; cbv))))
              case hi => exact ⟨by first | omega | (simp only; omega), by first | omega | (simp only; omega), hmo2, hw3l, hw4, huw4⟩
              case ht => show (J - j2).toNat < (J - j).toNat; omega
          · skip
            have hmoF : mo = more ++ nx.map (fun n => r ++ [n]) := by rw [hmoe, List.take_of_length_le (by omega)]
            rw [← hmoF] at hstep
            have hmok : ∀ l, l ∈ mo → WayOk ss l := fun l hl => by
              rw [hmoF] at hl
              rcases List.mem_append.1 hl with hl | hl
              · exact hmo l hl
              · obtain ⟨q, hq, rfl⟩ := List.mem_map.1 hl
                exact hrok.snoc hnx h12 (hnxs q hq)
            refine hE2 _ _ _ ?_
            cbv
            simp only [a4]
            refine hN1 (i2, out1, ow1, mo, some (k2, w2)) _ _ ?hx ?hi ?ht
            case hx => (refine Wk.eqz (id) (by first | exact fun i _ j _ e => e | (simp only [List.length_cons, List.length_nil]; decide)) ?_; cbv; (repeat' (first | exact trivial | rfl | assumption | apply And.intro | (simp only [hbin, hcmp, hun, hconv, hnot, hbeq, hmm, hscmp, hsadd, hslen, hsat, heqs, hofNat, binStd, cmpStd, unStd, scmpStd, maxI, Bool.not_eq_true', Bool.not_eq_false', decide_eq_true_eq, decide_eq_false_iff_not, Int.not_lt, Int.not_le, if_true, if_false, Bool.false_eq_true, beq_iff_eq, bne_iff_ne, ne_eq, Bool.not_eq_eq_eq_not, Bool.not_true, Bool.not_false, beq_eq_false_iff_ne, bne_eq_false_iff_eq, Int.ofNat_eq_natCast, Bool.not_not, not_true_eq_false, not_false_eq_true, reduceCtorEq]; first | done | assumption) | exact RowsZ.same (by assumption) (by first | assumption | rfl) | exact FzL.mk rfl rfl rfl (by assumption) (by first | assumption | rfl) (by decide) | (refine RowsZ.one ?_; cbv))))
            case hi => exact ⟨by first | omega | (simp only; omega), by first | omega | (simp only; omega), hstep, hwo1, huo1, ho161, ho121, by first | omega | (simp only; omega), hmok, hk2, hw22, huw22⟩
            case ht => exact hT1
      · have hiL : todo.take i.toNat = todo := List.take_of_length_le (by omega)
        rw [hiL] at hfold
        obtain ⟨n2, en2⟩ : ∃ z, z = n + 1 := ⟨_, rfl⟩
        have a6 : wbin .add .i64 n 1 = n2 := by rw [hbin, en2]; show IntKind.i64.wrap (n + 1) = n + 1; rw [IntKind.wrap_i64]; omega
        have hgq2 : growQ ss lo hi from_ 13 [] ls = growQ ss lo hi from_ (13 - n2.toNat) out1 more := by
          rw [hgq, show 13 - n.toNat = (13 - n2.toNat) + 1 by omega]
          conv => lhs; unfold growQ
          rw [hfold, if_neg (by simp)]
        have hcap3 : more.length ≤ capR n2.toNat := by rw [show n2.toNat = n.toNat + 1 by omega, capR_succ]; omega
        refine hE1 _ _ _ ?_
        cbv
        simp only [a6]
        refine hN (n2, out1, ow1, more, []) _ _ ?hx ?hi ?ht
        case hx => (refine Wk.eqz (id) (by first | exact fun i _ j _ e => e | (simp only [List.length_cons, List.length_nil]; decide)) ?_; cbv; (repeat' (first | exact trivial | rfl | assumption | apply And.intro | (simp only [hbin, hcmp, hun, hconv, hnot, hbeq, hmm, hscmp, hsadd, hslen, hsat, heqs, hofNat, binStd, cmpStd, unStd, scmpStd, maxI, Bool.not_eq_true', Bool.not_eq_false', decide_eq_true_eq, decide_eq_false_iff_not, Int.not_lt, Int.not_le, if_true, if_false, Bool.false_eq_true, beq_iff_eq, bne_iff_ne, ne_eq, Bool.not_eq_eq_eq_not, Bool.not_true, Bool.not_false, beq_eq_false_iff_ne, bne_eq_false_iff_eq, Int.ofNat_eq_natCast, Bool.not_not, not_true_eq_false, not_false_eq_true, reduceCtorEq]; first | done | assumption) | exact RowsZ.same (by assumption) (by first | assumption | rfl) | exact FzL.mk rfl rfl rfl (by assumption) (by first | assumption | rfl) (by decide) | (refine RowsZ.one ?_; cbv))))
        case hi => exact ⟨by first | omega | (simp only; omega), by first | omega | (simp only; omega), hgq2, hwo1, huo1, by rw [hms]; rfl, ⟨rfl⟩, ho161, ho121, hmo, hcap3⟩
        case ht => show (13 - n2).toNat < (13 - n).toNat; omega
    · cbv
      simp only [eL]
      have hinv2 : 0 ≤ i ∧ i ≤ L ∧ (todo.take i.toNat).foldl (grow1 ss lo hi from_) (0, out, []) = (0, out1, more) ∧ ow1 = out1.map rtRow ∧ Up0 ow1 ∧ out1.length ≤ 16 ∧ (∀ k, k ∈ out1 → k.length ≤ 12) ∧ more.length ≤ 2 * i.toNat ∧ (∀ l, l ∈ more → WayOk ss l) := ⟨hinv1.1, hinv1.2.1, hinv1.2.2.1, hinv1.2.2.2.1, hinv1.2.2.2.2.1, hinv1.2.2.2.2.2.1, hinv1.2.2.2.2.2.2.1, hinv1.2.2.2.2.2.2.2.1, hinv1.2.2.2.2.2.2.2.2.1⟩
      have hms : k = w.length ∧ w = more.map rtRow ∧ Up0 w := hinv1.2.2.2.2.2.2.2.2.2
      obtain ⟨hi0, hi1, hfold, hwo1, huo1, ho161, ho121, hml, hmo⟩ := hinv2
      (split <;> rename_i hc1 <;> (try (simp only [hbin, hcmp, hun, hconv, hnot, hbeq, hmm, hscmp, hsadd, hslen, hsat, heqs, hofNat, binStd, cmpStd, unStd, scmpStd, maxI, Bool.not_eq_true', Bool.not_eq_false', decide_eq_true_eq, decide_eq_false_iff_not, Int.not_lt, Int.not_le, if_true, if_false, Bool.false_eq_true, beq_iff_eq, bne_iff_ne, ne_eq, Bool.not_eq_eq_eq_not, Bool.not_true, Bool.not_false, beq_eq_false_iff_ne, bne_eq_false_iff_eq, Int.ofNat_eq_natCast, Bool.not_not, not_true_eq_false, not_false_eq_true, reduceCtorEq] at hc1)) <;> (try cbv))
      · skip
        obtain ⟨r, hr⟩ : ∃ r, todo[i.toNat]? = some r := ⟨_, List.getElem?_eq_getElem (show i.toNat < todo.length by omega)⟩
        have hrok := htodo r (List.mem_of_getElem? hr)
        have hrl := hrok.len
        obtain ⟨xs, exs⟩ : ∃ x, x = r.map nxRow := ⟨_, rfl⟩
        have huxs : Up0 xs := by rw [exs]; exact up_nx r
        have hxl : xs.length = r.length := by rw [exs]; simp
        have hrow : tw[i.toNat]? = some [.list 1 xs] := by rw [hwt, List.getElem?_map, hr, exs]; rfl
        obtain ⟨i2, ei2⟩ : ∃ z, z = i + 1 := ⟨_, rfl⟩
        have a4 : wbin .add .i64 i 1 = i2 := by rw [hbin, ei2]; show IntKind.i64.wrap (i + 1) = i + 1; rw [IntKind.wrap_i64]; omega
        obtain ⟨q, eq⟩ : ∃ q, q = lastI r := ⟨_, rfl⟩
        have hq1 := lastI_get r hrl.2
        have hqb := hrok.seg q (by rw [eq]; exact List.mem_of_getElem? hq1)
        obtain ⟨sg0, hd0, hrow0⟩ := get_map (f := sgRow) (ds := ss) (i := q) hqb.1 hqb.2
        have hnxe : nxAt ss (lastI r) = sg0.nx := by rw [← eq]; unfold nxAt; rw [hd0]
        have hnxs : ∀ x, x ∈ sg0.nx → x ∈ nxAt ss (lastI r) := fun x hx => by rw [hnxe]; exact hx
        have hnx2 : sg0.nx.length ≤ 2 := by have := nxAt_two hnx (lastI r); rw [hnxe] at this; exact this
        obtain ⟨y, ey⟩ : ∃ y, y = endF ss from_ r := ⟨_, rfl⟩
        have hyb := endF_le hln hf r
        rw [← ey] at hyb
        have hend := e_rend ss gs es ds hes hds hln from_ hf r hrl.1 hrok.seg xs exs y ey
        have hstep : (todo.take i2.toNat).foldl (grow1 ss lo hi from_) (0, out, []) = grow1 ss lo hi from_ (0, out1, more) r := by
          rw [ei2, take_next hi0 hr, List.foldl_append, hfold]; rfl
        have hg : grow1 ss lo hi from_ (0, out1, more) r = (if hi ≤ y ∨ sg0.nx = [] then (if 16 < (if lo ≤ y then putQ out1 r else out1).length then 13 else 0, if lo ≤ y then putQ out1 r else out1, more) else if r.length = 12 then (13, out1, more) else (0, out1, more ++ sg0.nx.map fun n => r ++ [n])) := by
          unfold grow1; rw [if_neg (by simp), ← ey, hnxe]
        rw [hg] at hstep
        clear hg
        obtain ⟨len, pcs, nx⟩ := sg0
        obtain ⟨q0, eq0⟩ : ∃ x, pcs.map pcRow = x := ⟨_, rfl⟩
        obtain ⟨ns, ens⟩ : ∃ x, nx.map nxRow = x := ⟨_, rfl⟩
        have huns : Up0 ns := by rw [← ens]; exact up_nx nx
        have hnl : ns.length = nx.length := by rw [← ens]; simp
        have hrow0 : es[q.toNat]? = some [.int .i64 len, .list 2 q0, .list 1 ns] := by rw [hes, ← eq0, ← ens]; exact hrow0
        have hnx2 : nx.length ≤ 2 := hnx2
        have hnxs : ∀ x, x ∈ nx → x ∈ nxAt ss (lastI r) := hnxs
        have hT1 : (L - i2).toNat < (L - i).toNat := by omega
        have hup : ∀ x : List (List AV), Up0 x → uptoL 0 [AV.agg [.list 3 es, .list 5 ds], .int .i64 from_, .list 1 x] = true := fun x hx => by simp only [uptoL, AV.upto, hu.get, hud.get, hx.get]; rfl
        obtain ⟨hk, hw2, huw⟩ := hms
        refine Idx.mk _ hi0 hrow ?_
        cbv
        (obtain ⟨K, eK, K0, Kn⟩ : ∃ L : Int, wlen xs = L ∧ 0 ≤ L ∧ L.toNat = xs.length := ⟨(xs.length : Int), by rw [hlen], Int.natCast_nonneg _, Int.toNat_natCast _⟩)
        obtain ⟨K1, eK1⟩ : ∃ z, z = K - 1 := ⟨_, rfl⟩
        have s1 : wbin .sub .i64 K 1 = K1 := by rw [hbin, eK1]; show IntKind.i64.wrap (K - 1) = K - 1; rw [IntKind.wrap_i64]; omega
        have hxq : xs[K1.toNat]? = some (nxRow q) := by rw [exs, List.getElem?_map, show K1.toNat = r.length - 1 by omega, hq1, eq]; rfl
        simp only [eK, s1]
        refine Idx.mk _ (show 0 ≤ K1 by omega) hxq ?_
        cbv
        refine Idx.mk _ hqb.1 hrow0 ?_
        cbv
        refine Call.stepE (by rw [← hP]; exact hend) (by exact hup _ huxs) ?_
        cbv
        (obtain ⟨J, eJ, J0, Jn⟩ : ∃ L : Int, wlen ns = L ∧ 0 ≤ L ∧ L.toNat = ns.length := ⟨(ns.length : Int), by rw [hlen], Int.natCast_nonneg _, Int.toNat_natCast _⟩)
        (split <;> rename_i h3 <;> (try (simp only [hbin, hcmp, hun, hconv, hnot, hbeq, hmm, hscmp, hsadd, hslen, hsat, heqs, hofNat, binStd, cmpStd, unStd, scmpStd, maxI, Bool.not_eq_true', Bool.not_eq_false', decide_eq_true_eq, decide_eq_false_iff_not, Int.not_lt, Int.not_le, if_true, if_false, Bool.false_eq_true, beq_iff_eq, bne_iff_ne, ne_eq, Bool.not_eq_eq_eq_not, Bool.not_true, Bool.not_false, beq_eq_false_iff_ne, bne_eq_false_iff_eq, Int.ofNat_eq_natCast, Bool.not_not, not_true_eq_false, not_false_eq_true, reduceCtorEq] at h3)) <;> (try cbv))
        · skip
          have hE1' : hi ≤ y ∨ nx = [] := .inl h3
          rw [if_pos hE1'] at hstep
          (split <;> rename_i h5 <;> (try (simp only [hbin, hcmp, hun, hconv, hnot, hbeq, hmm, hscmp, hsadd, hslen, hsat, heqs, hofNat, binStd, cmpStd, unStd, scmpStd, maxI, Bool.not_eq_true', Bool.not_eq_false', decide_eq_true_eq, decide_eq_false_iff_not, Int.not_lt, Int.not_le, if_true, if_false, Bool.false_eq_true, beq_iff_eq, bne_iff_ne, ne_eq, Bool.not_eq_eq_eq_not, Bool.not_true, Bool.not_false, beq_eq_false_iff_ne, bne_eq_false_iff_eq, Int.ofNat_eq_natCast, Bool.not_not, not_true_eq_false, not_false_eq_true, reduceCtorEq] at h5)) <;> (try cbv))
          · rw [if_pos h5] at hstep
            obtain ⟨o2, eo2⟩ : ∃ z, z = putQ out1 r := ⟨_, rfl⟩
            obtain ⟨po, epo⟩ : ∃ z, z = (putQ out1 r).map rtRow := ⟨_, rfl⟩
            have hpq := e_put out1 r ho121 (by omega) hrl.1 ow1 xs hwo1 exs
            rw [← epo] at hpq
            rw [← eo2] at epo hstep
            have hupo : Up0 po := by rw [epo]; exact up_rt o2
            have hpl : po.length = o2.length := by rw [epo]; simp
            have hol : o2.length ≤ 17 := by rw [eo2]; have := putQ_len out1 r; omega
            have ho2 : ∀ k, k ∈ o2 → k.length ≤ 12 := fun k hk => by
              rw [eo2] at hk
              rcases putQ_mem1 out1 r k hk with h | rfl
              · exact ho121 k h
              · exact hrl.1
            refine Call.stepE (by rw [← hP]; exact hpq) (by exact up_two huo1 huxs) ?_
            cbv
            (obtain ⟨H, eH, H0, Hn⟩ : ∃ L : Int, wlen po = L ∧ 0 ≤ L ∧ L.toNat = po.length := ⟨(po.length : Int), by rw [hlen], Int.natCast_nonneg _, Int.toNat_natCast _⟩)
            (split <;> rename_i h6 <;> (try (simp only [eH] at h6)) <;> (try (simp only [hbin, hcmp, hun, hconv, hnot, hbeq, hmm, hscmp, hsadd, hslen, hsat, heqs, hofNat, binStd, cmpStd, unStd, scmpStd, maxI, Bool.not_eq_true', Bool.not_eq_false', decide_eq_true_eq, decide_eq_false_iff_not, Int.not_lt, Int.not_le, if_true, if_false, Bool.false_eq_true, beq_iff_eq, bne_iff_ne, ne_eq, Bool.not_eq_eq_eq_not, Bool.not_true, Bool.not_false, beq_eq_false_iff_ne, bne_eq_false_iff_eq, Int.ofNat_eq_natCast, Bool.not_not, not_true_eq_false, not_false_eq_true, reduceCtorEq] at h6)) <;> (try cbv))
            · obtain ⟨k1, k2, k3⟩ := hret _ _ hstep (by rw [if_pos (by omega)]; exact (show (13 : Int) ≠ 0 by decide))
              subst k3
              exact hR1 _ _ (hR' _ _ (hbad k1 k2 _))
            · rw [if_neg (show ¬ 16 < o2.length by omega)] at hstep
              simp only [a4]
              refine hN1 (i2, o2, po, more, some (k, w)) _ _ ?hx ?hi ?ht
              case hx => (refine Wk.eqz (id) (by first | exact fun i _ j _ e => e | (simp only [List.length_cons, List.length_nil]; decide)) ?_; cbv; (repeat' (first | exact trivial | rfl | assumption | apply And.intro | (simp only [hbin, hcmp, hun, hconv, hnot, hbeq, hmm, hscmp, hsadd, hslen, hsat, heqs, hofNat, binStd, cmpStd, unStd, scmpStd, maxI, Bool.not_eq_true', Bool.not_eq_false', decide_eq_true_eq, decide_eq_false_iff_not, Int.not_lt, Int.not_le, if_true, if_false, Bool.false_eq_true, beq_iff_eq, bne_iff_ne, ne_eq, Bool.not_eq_eq_eq_not, Bool.not_true, Bool.not_false, beq_eq_false_iff_ne, bne_eq_false_iff_eq, Int.ofNat_eq_natCast, Bool.not_not, not_true_eq_false, not_false_eq_true, reduceCtorEq]; first | done | assumption) | exact RowsZ.same (by assumption) (by first | assumption | rfl) | exact FzL.mk rfl rfl rfl (by assumption) (by first | assumption | rfl) (by decide) | (refine RowsZ.one ?_; cbv))))
              case hi => exact ⟨by first | omega | (simp only; omega), by first | omega | (simp only; omega), hstep, epo, hupo, (by first | omega | (simp only; omega)), ho2, by first | omega | (simp only; omega), hmo, ⟨hk, hw2, huw⟩⟩
              case ht => exact hT1
          · rw [if_neg (show ¬ lo ≤ y by omega), if_neg (show ¬ 16 < out1.length by omega)] at hstep
            (obtain ⟨H, eH, H0, Hn⟩ : ∃ L : Int, wlen ow1 = L ∧ 0 ≤ L ∧ L.toNat = ow1.length := ⟨(ow1.length : Int), by rw [hlen], Int.natCast_nonneg _, Int.toNat_natCast _⟩)
            have hol : ow1.length = out1.length := by rw [hwo1]; simp
            (split <;> rename_i h6 <;> (try (simp only [eH] at h6)) <;> (try (simp only [hbin, hcmp, hun, hconv, hnot, hbeq, hmm, hscmp, hsadd, hslen, hsat, heqs, hofNat, binStd, cmpStd, unStd, scmpStd, maxI, Bool.not_eq_true', Bool.not_eq_false', decide_eq_true_eq, decide_eq_false_iff_not, Int.not_lt, Int.not_le, if_true, if_false, Bool.false_eq_true, beq_iff_eq, bne_iff_ne, ne_eq, Bool.not_eq_eq_eq_not, Bool.not_true, Bool.not_false, beq_eq_false_iff_ne, bne_eq_false_iff_eq, Int.ofNat_eq_natCast, Bool.not_not, not_true_eq_false, not_false_eq_true, reduceCtorEq] at h6)) <;> (try cbv))
            · exfalso; omega
            · simp only [a4]
              refine hN1 (i2, out1, ow1, more, some (k, w)) _ _ ?hx ?hi ?ht
              case hx => (refine Wk.eqz (id) (by first | exact fun i _ j _ e => e | (simp only [List.length_cons, List.length_nil]; decide)) ?_; cbv; (repeat' (first | exact trivial | rfl | assumption | apply And.intro | (simp only [hbin, hcmp, hun, hconv, hnot, hbeq, hmm, hscmp, hsadd, hslen, hsat, heqs, hofNat, binStd, cmpStd, unStd, scmpStd, maxI, Bool.not_eq_true', Bool.not_eq_false', decide_eq_true_eq, decide_eq_false_iff_not, Int.not_lt, Int.not_le, if_true, if_false, Bool.false_eq_true, beq_iff_eq, bne_iff_ne, ne_eq, Bool.not_eq_eq_eq_not, Bool.not_true, Bool.not_false, beq_eq_false_iff_ne, bne_eq_false_iff_eq, Int.ofNat_eq_natCast, Bool.not_not, not_true_eq_false, not_false_eq_true, reduceCtorEq]; first | done | assumption) | exact RowsZ.same (by assumption) (by first | assumption | rfl) | exact FzL.mk rfl rfl rfl (by assumption) (by first | assumption | rfl) (by decide) | (refine RowsZ.one ?_; cbv))))
              case hi => exact ⟨by first | omega | (simp only; omega), by first | omega | (simp only; omega), hstep, hwo1, huo1, ho161, ho121, by first | omega | (simp only; omega), hmo, ⟨hk, hw2, huw⟩⟩
              case ht => exact hT1
        simp only [eJ]
        (split <;> rename_i h4 <;> (try (simp only [hbin, hcmp, hun, hconv, hnot, hbeq, hmm, hscmp, hsadd, hslen, hsat, heqs, hofNat, binStd, cmpStd, unStd, scmpStd, maxI, Bool.not_eq_true', Bool.not_eq_false', decide_eq_true_eq, decide_eq_false_iff_not, Int.not_lt, Int.not_le, if_true, if_false, Bool.false_eq_true, beq_iff_eq, bne_iff_ne, ne_eq, Bool.not_eq_eq_eq_not, Bool.not_true, Bool.not_false, beq_eq_false_iff_ne, bne_eq_false_iff_eq, Int.ofNat_eq_natCast, Bool.not_not, not_true_eq_false, not_false_eq_true, reduceCtorEq] at h4)) <;> (try cbv))
        · skip
          have hE1' : hi ≤ y ∨ nx = [] := .inr (List.length_eq_zero_iff.1 (by omega))
          rw [if_pos hE1'] at hstep
          (split <;> rename_i h5 <;> (try (simp only [hbin, hcmp, hun, hconv, hnot, hbeq, hmm, hscmp, hsadd, hslen, hsat, heqs, hofNat, binStd, cmpStd, unStd, scmpStd, maxI, Bool.not_eq_true', Bool.not_eq_false', decide_eq_true_eq, decide_eq_false_iff_not, Int.not_lt, Int.not_le, if_true, if_false, Bool.false_eq_true, beq_iff_eq, bne_iff_ne, ne_eq, Bool.not_eq_eq_eq_not, Bool.not_true, Bool.not_false, beq_eq_false_iff_ne, bne_eq_false_iff_eq, Int.ofNat_eq_natCast, Bool.not_not, not_true_eq_false, not_false_eq_true, reduceCtorEq] at h5)) <;> (try cbv))
          · rw [if_pos h5] at hstep
            obtain ⟨o2, eo2⟩ : ∃ z, z = putQ out1 r := ⟨_, rfl⟩
            obtain ⟨po, epo⟩ : ∃ z, z = (putQ out1 r).map rtRow := ⟨_, rfl⟩
            have hpq := e_put out1 r ho121 (by omega) hrl.1 ow1 xs hwo1 exs
            rw [← epo] at hpq
            rw [← eo2] at epo hstep
            have hupo : Up0 po := by rw [epo]; exact up_rt o2
            have hpl : po.length = o2.length := by rw [epo]; simp
            have hol : o2.length ≤ 17 := by rw [eo2]; have := putQ_len out1 r; omega
            have ho2 : ∀ k, k ∈ o2 → k.length ≤ 12 := fun k hk => by
              rw [eo2] at hk
              rcases putQ_mem1 out1 r k hk with h | rfl
              · exact ho121 k h
              · exact hrl.1
            refine Call.stepE (by rw [← hP]; exact hpq) (by exact up_two huo1 huxs) ?_
            cbv
            (obtain ⟨H, eH, H0, Hn⟩ : ∃ L : Int, wlen po = L ∧ 0 ≤ L ∧ L.toNat = po.length := ⟨(po.length : Int), by rw [hlen], Int.natCast_nonneg _, Int.toNat_natCast _⟩)
            (split <;> rename_i h6 <;> (try (simp only [eH] at h6)) <;> (try (simp only [hbin, hcmp, hun, hconv, hnot, hbeq, hmm, hscmp, hsadd, hslen, hsat, heqs, hofNat, binStd, cmpStd, unStd, scmpStd, maxI, Bool.not_eq_true', Bool.not_eq_false', decide_eq_true_eq, decide_eq_false_iff_not, Int.not_lt, Int.not_le, if_true, if_false, Bool.false_eq_true, beq_iff_eq, bne_iff_ne, ne_eq, Bool.not_eq_eq_eq_not, Bool.not_true, Bool.not_false, beq_eq_false_iff_ne, bne_eq_false_iff_eq, Int.ofNat_eq_natCast, Bool.not_not, not_true_eq_false, not_false_eq_true, reduceCtorEq] at h6)) <;> (try cbv))
            · obtain ⟨k1, k2, k3⟩ := hret _ _ hstep (by rw [if_pos (by omega)]; exact (show (13 : Int) ≠ 0 by decide))
              subst k3
              exact hR1 _ _ (hR' _ _ (hbad k1 k2 _))
            · rw [if_neg (show ¬ 16 < o2.length by omega)] at hstep
              simp only [a4]
              refine hN1 (i2, o2, po, more, some (k, w)) _ _ ?hx ?hi ?ht
              case hx => (refine Wk.eqz (id) (by first | exact fun i _ j _ e => e | (simp only [List.length_cons, List.length_nil]; decide)) ?_; cbv; (repeat' (first | exact trivial | rfl | assumption | apply And.intro | (simp only [hbin, hcmp, hun, hconv, hnot, hbeq, hmm, hscmp, hsadd, hslen, hsat, heqs, hofNat, binStd, cmpStd, unStd, scmpStd, maxI, Bool.not_eq_true', Bool.not_eq_false', decide_eq_true_eq, decide_eq_false_iff_not, Int.not_lt, Int.not_le, if_true, if_false, Bool.false_eq_true, beq_iff_eq, bne_iff_ne, ne_eq, Bool.not_eq_eq_eq_not, Bool.not_true, Bool.not_false, beq_eq_false_iff_ne, bne_eq_false_iff_eq, Int.ofNat_eq_natCast, Bool.not_not, not_true_eq_false, not_false_eq_true, reduceCtorEq]; first | done | assumption) | exact RowsZ.same (by assumption) (by first | assumption | rfl) | exact FzL.mk rfl rfl rfl (by assumption) (by first | assumption | rfl) (by decide) | (refine RowsZ.one ?_; cbv))))
              case hi => exact ⟨by first | omega | (simp only; omega), by first | omega | (simp only; omega), hstep, epo, hupo, (by first | omega | (simp only; omega)), ho2, by first | omega | (simp only; omega), hmo, ⟨hk, hw2, huw⟩⟩
              case ht => exact hT1
          · rw [if_neg (show ¬ lo ≤ y by omega), if_neg (show ¬ 16 < out1.length by omega)] at hstep
            (obtain ⟨H, eH, H0, Hn⟩ : ∃ L : Int, wlen ow1 = L ∧ 0 ≤ L ∧ L.toNat = ow1.length := ⟨(ow1.length : Int), by rw [hlen], Int.natCast_nonneg _, Int.toNat_natCast _⟩)
            have hol : ow1.length = out1.length := by rw [hwo1]; simp
            (split <;> rename_i h6 <;> (try (simp only [eH] at h6)) <;> (try (simp only [hbin, hcmp, hun, hconv, hnot, hbeq, hmm, hscmp, hsadd, hslen, hsat, heqs, hofNat, binStd, cmpStd, unStd, scmpStd, maxI, Bool.not_eq_true', Bool.not_eq_false', decide_eq_true_eq, decide_eq_false_iff_not, Int.not_lt, Int.not_le, if_true, if_false, Bool.false_eq_true, beq_iff_eq, bne_iff_ne, ne_eq, Bool.not_eq_eq_eq_not, Bool.not_true, Bool.not_false, beq_eq_false_iff_ne, bne_eq_false_iff_eq, Int.ofNat_eq_natCast, Bool.not_not, not_true_eq_false, not_false_eq_true, reduceCtorEq] at h6)) <;> (try cbv))
            · exfalso; omega
            · simp only [a4]
              refine hN1 (i2, out1, ow1, more, some (k, w)) _ _ ?hx ?hi ?ht
              case hx => (refine Wk.eqz (id) (by first | exact fun i _ j _ e => e | (simp only [List.length_cons, List.length_nil]; decide)) ?_; cbv; (repeat' (first | exact trivial | rfl | assumption | apply And.intro | (simp only [hbin, hcmp, hun, hconv, hnot, hbeq, hmm, hscmp, hsadd, hslen, hsat, heqs, hofNat, binStd, cmpStd, unStd, scmpStd, maxI, Bool.not_eq_true', Bool.not_eq_false', decide_eq_true_eq, decide_eq_false_iff_not, Int.not_lt, Int.not_le, if_true, if_false, Bool.false_eq_true, beq_iff_eq, bne_iff_ne, ne_eq, Bool.not_eq_eq_eq_not, Bool.not_true, Bool.not_false, beq_eq_false_iff_ne, bne_eq_false_iff_eq, Int.ofNat_eq_natCast, Bool.not_not, not_true_eq_false, not_false_eq_true, reduceCtorEq]; first | done | assumption) | exact RowsZ.same (by assumption) (by first | assumption | rfl) | exact FzL.mk rfl rfl rfl (by assumption) (by first | assumption | rfl) (by decide) | (refine RowsZ.one ?_; cbv))))
              case hi => exact ⟨by first | omega | (simp only; omega), by first | omega | (simp only; omega), hstep, hwo1, huo1, ho161, ho121, by first | omega | (simp only; omega), hmo, ⟨hk, hw2, huw⟩⟩
              case ht => exact hT1
        have hE1' : ¬ (hi ≤ y ∨ nx = []) := by
          rintro (h | h)
          · omega
          · rw [h, List.length_nil] at hnl; omega
        rw [if_neg hE1'] at hstep
        simp only [eK]
        (split <;> rename_i h5 <;> (try (simp only [hbin, hcmp, hun, hconv, hnot, hbeq, hmm, hscmp, hsadd, hslen, hsat, heqs, hofNat, binStd, cmpStd, unStd, scmpStd, maxI, Bool.not_eq_true', Bool.not_eq_false', decide_eq_true_eq, decide_eq_false_iff_not, Int.not_lt, Int.not_le, if_true, if_false, Bool.false_eq_true, beq_iff_eq, bne_iff_ne, ne_eq, Bool.not_eq_eq_eq_not, Bool.not_true, Bool.not_false, beq_eq_false_iff_ne, bne_eq_false_iff_eq, Int.ofNat_eq_natCast, Bool.not_not, not_true_eq_false, not_false_eq_true, reduceCtorEq] at h5)) <;> (try cbv))
        · rw [if_pos (show r.length = 12 by omega)] at hstep
          obtain ⟨k1, k2, k3⟩ := hret _ _ hstep (show (13 : Int) ≠ 0 by decide)
          subst k3
          exact hR1 _ _ (hR' _ _ (hbad k1 k2 _))
        rw [if_neg (show ¬ r.length = 12 by omega)] at hstep
        have h12 : r.length ≠ 12 := by omega
        have hnl0 : more ++ (nx.take (0 : Int).toNat).map (fun n => r ++ [n]) = more := by simp
        refine Loop.data hw (S := Int × List (List Int) × Option (Nat × List (List AV))) (fun s => match s.2.2 with
            | none => fr 117 [(2, .int .i64 lo), (3, .int .i64 hi), (4, .ref 0 2 0 0), (5, .ref 1 2 0 0), (8, .ref 2 2 0 0), (10, .ref 3 2 0 0), (11, .list 1 tw), (12, .int .i64 n), (13, .nils), (14, .int .i64 i), (15, .list 1 xs), (16, .list 1 ns), (18, .int .i64 s.1)]
            | some (k, w) => fr 117 [(2, .int .i64 lo), (3, .int .i64 hi), (4, .ref 0 2 0 0), (5, .ref 1 2 0 0), (8, .ref 2 2 0 0), (10, .ref 3 2 0 0), (11, .list 1 tw), (12, .int .i64 n), (13, .sl 4 1 0 k), (14, .int .i64 i), (15, .list 1 xs), (16, .list 1 ns), (18, .int .i64 s.1)])
          (fun s => match s.2.2 with
            | none => [.live 2 [[.list 3 es, .list 5 ds]], .live 2 [[.int .i64 from_, .list 1 rs]], .live 2 [[.int .i64 0, .nils]], .live 2 [[.int .i64 from_, .list 1 ow1]]]
            | some (k, w) => [.live 2 [[.list 3 es, .list 5 ds]], .live 2 [[.int .i64 from_, .list 1 rs]], .live 2 [[.int .i64 0, .nils]], .live 2 [[.int .i64 from_, .list 1 ow1]], .live 1 w])
          (fun s => 0 ≤ s.1 ∧ s.1 ≤ J ∧ s.2.1 = more ++ (nx.take s.1.toNat).map (fun n => r ++ [n]) ∧ (match s.2.2 with | none => s.2.1 = [] | some (k, w) => k = w.length ∧ w = s.2.1.map rtRow ∧ Up0 w)) (fun s => (J - s.1).toNat) (0, more, some (k, w)) (by (refine Wk.eqz (id) (by first | exact fun i _ j _ e => e | (simp only [List.length_cons, List.length_nil]; decide)) ?_; cbv; (repeat' (first | exact trivial | rfl | assumption | apply And.intro | (simp only [hbin, hcmp, hun, hconv, hnot, hbeq, hmm, hscmp, hsadd, hslen, hsat, heqs, hofNat, binStd, cmpStd, unStd, scmpStd, maxI, Bool.not_eq_true', Bool.not_eq_false', decide_eq_true_eq, decide_eq_false_iff_not, Int.not_lt, Int.not_le, if_true, if_false, Bool.false_eq_true, beq_iff_eq, bne_iff_ne, ne_eq, Bool.not_eq_eq_eq_not, Bool.not_true, Bool.not_false, beq_eq_false_iff_ne, bne_eq_false_iff_eq, Int.ofNat_eq_natCast, Bool.not_not, not_true_eq_false, not_false_eq_true, reduceCtorEq]; first | done | assumption) | exact RowsZ.same (by assumption) (by first | assumption | rfl) | exact FzL.mk rfl rfl rfl (by assumption) (by first | assumption | rfl) (by decide) | (refine RowsZ.one ?_; cbv))))) ⟨Int.le_refl _, J0, hnl0.symm, ⟨hk, hw2, huw⟩⟩ ?_
        rintro ⟨j, mo, _ | ⟨k2, w2⟩⟩ hinv3 Q2 hN2 hE2 hR2
        · cbv
          simp only [eJ]
          have hinv4 : 0 ≤ j ∧ j ≤ J ∧ mo = more ++ (nx.take j.toNat).map (fun n => r ++ [n]) := ⟨hinv3.1, hinv3.2.1, hinv3.2.2.1⟩
          have hms2 : mo = [] := hinv3.2.2.2
          obtain ⟨hj0, hj1, hmoe⟩ := hinv4
          have hmol : mo.length ≤ more.length + 2 := by rw [hmoe]; simp only [List.length_append, List.length_map, List.length_take]; omega
          (split <;> rename_i hc3 <;> (try (simp only [hbin, hcmp, hun, hconv, hnot, hbeq, hmm, hscmp, hsadd, hslen, hsat, heqs, hofNat, binStd, cmpStd, unStd, scmpStd, maxI, Bool.not_eq_true', Bool.not_eq_false', decide_eq_true_eq, decide_eq_false_iff_not, Int.not_lt, Int.not_le, if_true, if_false, Bool.false_eq_true, beq_iff_eq, bne_iff_ne, ne_eq, Bool.not_eq_eq_eq_not, Bool.not_true, Bool.not_false, beq_eq_false_iff_ne, bne_eq_false_iff_eq, Int.ofNat_eq_natCast, Bool.not_not, not_true_eq_false, not_false_eq_true, reduceCtorEq] at hc3)) <;> (try cbv))
          · skip
            obtain ⟨nn, hnn⟩ : ∃ nn, nx[j.toNat]? = some nn := ⟨_, List.getElem?_eq_getElem (show j.toNat < nx.length by omega)⟩
            have hnn2 : ns[j.toNat]? = some (nxRow nn) := by rw [← ens, List.getElem?_map, hnn]; rfl
            obtain ⟨j2, ej2⟩ : ∃ z, z = j + 1 := ⟨_, rfl⟩
            have a5 : wbin .add .i64 j 1 = j2 := by rw [hbin, ej2]; show IntKind.i64.wrap (j + 1) = j + 1; rw [IntKind.wrap_i64]; omega
            have hmo2 : mo ++ [r ++ [nn]] = more ++ (nx.take j2.toNat).map (fun n => r ++ [n]) := by rw [ej2, take_next hj0 hnn, hmoe]; simp
            have hxne : xs ≠ [] := fun h => by rw [h] at hxl; simp at hxl; omega
            rcases xs with _ | ⟨x0, _ | ⟨x1, xt⟩⟩
            · exact absurd rfl hxne
            all_goals
              obtain ⟨xl, exl⟩ : ∃ m : Nat, m = r.length := ⟨_, rfl⟩
              obtain ⟨lx, elx⟩ : ∃ x : List (List AV), x = (r ++ [nn]).map nxRow := ⟨_, rfl⟩
              have hlx : lx.length = r.length + 1 := by rw [elx]; simp
              have hulx : Up0 lx := by rw [elx]; exact up_nx _
              obtain ⟨lk, elk⟩ : ∃ k, k = lx.length := ⟨_, rfl⟩
              cbv
              first
                | refine Ob.mk (by decide) ?_
                | (refine Fb.mk ⟨fun h => absurd h (by simp), fun _ => ⟨⟨rfl, by simp only [List.length_cons] at hxl ⊢; omega, by simp only [List.length_cons] at hxl ⊢; omega⟩, ?_⟩⟩; rw [hxl, ← exl])
              cbv
              refine Idx.mk _ hj0 hnn2 ?_
              cbv
              refine App.mk lx lk (by rw [elx, List.map_append, ← exs]; rfl) (by first | rfl | rw [hxl, exl]) (by simp only [List.length_cons, List.length_nil] at hxl; omega) (by simp only [List.length_cons, List.length_nil] at hxl; omega) (by simp only [List.length_cons, List.length_nil] at hxl; omega) ?_
              cbv
              refine Ob.mk (by decide) ?_
              cbv
              simp only [a5]
              refine hN2 (j2, mo ++ [r ++ [nn]], some (1, [[.list 1 lx]])) _ _ ?hx ?hi ?ht
              case hx => (refine Wk.eqz (fun j => [0, 1, 2, 3, 6].getD j 0) (by first | exact fun i _ j _ e => e | (simp only [List.length_cons, List.length_nil]; decide)) ?_; cbv; (repeat' (first | exact trivial | rfl | assumption | apply And.intro | (simp only [hbin, hcmp, hun, hconv, hnot, hbeq, hmm, hscmp, hsadd, hslen, hsat, heqs, hofNat, binStd, cmpStd, unStd, scmpStd, maxI, Bool.not_eq_true', Bool.not_eq_false', decide_eq_true_eq, decide_eq_false_iff_not, Int.not_lt, Int.not_le, if_true, if_false, Bool.false_eq_true, beq_iff_eq, bne_iff_ne, ne_eq, Bool.not_eq_eq_eq_not, Bool.not_true, Bool.not_false, beq_eq_false_iff_ne, bne_eq_false_iff_eq, Int.ofNat_eq_natCast, Bool.not_not, not_true_eq_false, not_false_eq_true, reduceCtorEq]; first | done | assumption) | exact RowsZ.same (by assumption) (by first | assumption | rfl) | exact FzL.mk rfl rfl rfl (by assumption) (by first | assumption | rfl) (by decide) | (refine RowsZ.one ?_; cbv))))
              case hi => exact ⟨by first | omega | (simp only; omega), by first | omega | (simp only; omega), hmo2, rfl, by rw [hms2, elx]; rfl, ⟨by simp only [uptoLL, uptoL, AV.upto, hulx.get]; rfl⟩⟩
              case ht => show (J - j2).toNat < (J - j).toNat; omega
          · skip
            have hmoF : mo = more ++ nx.map (fun n => r ++ [n]) := by rw [hmoe, List.take_of_length_le (by omega)]
            rw [← hmoF] at hstep
            have hmok : ∀ l, l ∈ mo → WayOk ss l := fun l hl => by
              rw [hmoF] at hl
              rcases List.mem_append.1 hl with hl | hl
              · exact hmo l hl
              · obtain ⟨q, hq, rfl⟩ := List.mem_map.1 hl
                exact hrok.snoc hnx h12 (hnxs q hq)
            refine hE2 _ _ _ ?_
            cbv
            simp only [a4]
            refine hN1 (i2, out1, ow1, mo, none) _ _ ?hx ?hi ?ht
            case hx => (refine Wk.eqz (id) (by first | exact fun i _ j _ e => e | (simp only [List.length_cons, List.length_nil]; decide)) ?_; cbv; (repeat' (first | exact trivial | rfl | assumption | apply And.intro | (simp only [hbin, hcmp, hun, hconv, hnot, hbeq, hmm, hscmp, hsadd, hslen, hsat, heqs, hofNat, binStd, cmpStd, unStd, scmpStd, maxI, Bool.not_eq_true', Bool.not_eq_false', decide_eq_true_eq, decide_eq_false_iff_not, Int.not_lt, Int.not_le, if_true, if_false, Bool.false_eq_true, beq_iff_eq, bne_iff_ne, ne_eq, Bool.not_eq_eq_eq_not, Bool.not_true, Bool.not_false, beq_eq_false_iff_ne, bne_eq_false_iff_eq, Int.ofNat_eq_natCast, Bool.not_not, not_true_eq_false, not_false_eq_true, reduceCtorEq]; first | done | assumption) | exact RowsZ.same (by assumption) (by first | assumption | rfl) | exact FzL.mk rfl rfl rfl (by assumption) (by first | assumption | rfl) (by decide) | (refine RowsZ.one ?_; cbv))))
            case hi => exact ⟨by first | omega | (simp only; omega), by first | omega | (simp only; omega), hstep, hwo1, huo1, ho161, ho121, by first | omega | (simp only; omega), hmok, hms2⟩
            case ht => exact hT1
        · cbv
          simp only [eJ]
          have hinv4 : 0 ≤ j ∧ j ≤ J ∧ mo = more ++ (nx.take j.toNat).map (fun n => r ++ [n]) := ⟨hinv3.1, hinv3.2.1, hinv3.2.2.1⟩
          have hms2 : k2 = w2.length ∧ w2 = mo.map rtRow ∧ Up0 w2 := hinv3.2.2.2
          obtain ⟨hj0, hj1, hmoe⟩ := hinv4
          have hmol : mo.length ≤ more.length + 2 := by rw [hmoe]; simp only [List.length_append, List.length_map, List.length_take]; omega
          obtain ⟨hk2, hw22, huw22⟩ := hms2
          (split <;> rename_i hc3 <;> (try (simp only [hbin, hcmp, hun, hconv, hnot, hbeq, hmm, hscmp, hsadd, hslen, hsat, heqs, hofNat, binStd, cmpStd, unStd, scmpStd, maxI, Bool.not_eq_true', Bool.not_eq_false', decide_eq_true_eq, decide_eq_false_iff_not, Int.not_lt, Int.not_le, if_true, if_false, Bool.false_eq_true, beq_iff_eq, bne_iff_ne, ne_eq, Bool.not_eq_eq_eq_not, Bool.not_true, Bool.not_false, beq_eq_false_iff_ne, bne_eq_false_iff_eq, Int.ofNat_eq_natCast, Bool.not_not, not_true_eq_false, not_false_eq_true, reduceCtorEq] at hc3)) <;> (try cbv))
          · skip
            obtain ⟨nn, hnn⟩ : ∃ nn, nx[j.toNat]? = some nn := ⟨_, List.getElem?_eq_getElem (show j.toNat < nx.length by omega)⟩
            have hnn2 : ns[j.toNat]? = some (nxRow nn) := by rw [← ens, List.getElem?_map, hnn]; rfl
            obtain ⟨j2, ej2⟩ : ∃ z, z = j + 1 := ⟨_, rfl⟩
            have a5 : wbin .add .i64 j 1 = j2 := by rw [hbin, ej2]; show IntKind.i64.wrap (j + 1) = j + 1; rw [IntKind.wrap_i64]; omega
            have hmo2 : mo ++ [r ++ [nn]] = more ++ (nx.take j2.toNat).map (fun n => r ++ [n]) := by rw [ej2, take_next hj0 hnn, hmoe]; simp
            have hxne : xs ≠ [] := fun h => by rw [h] at hxl; simp at hxl; omega
            rcases xs with _ | ⟨x0, _ | ⟨x1, xt⟩⟩
            · exact absurd rfl hxne
            all_goals
              obtain ⟨xl, exl⟩ : ∃ m : Nat, m = r.length := ⟨_, rfl⟩
              obtain ⟨lx, elx⟩ : ∃ x : List (List AV), x = (r ++ [nn]).map nxRow := ⟨_, rfl⟩
              have hlx : lx.length = r.length + 1 := by rw [elx]; simp
              have hulx : Up0 lx := by rw [elx]; exact up_nx _
              obtain ⟨lk, elk⟩ : ∃ k, k = lx.length := ⟨_, rfl⟩
              cbv
              first
                | refine Ob.mk (by decide) ?_
                | (refine Fb.mk ⟨fun h => absurd h (by simp), fun _ => ⟨⟨rfl, by simp only [List.length_cons] at hxl ⊢; omega, by simp only [List.length_cons] at hxl ⊢; omega⟩, ?_⟩⟩; rw [hxl, ← exl])
              cbv
              refine Idx.mk _ hj0 hnn2 ?_
              cbv
              refine App.mk lx lk (by rw [elx, List.map_append, ← exs]; rfl) (by first | rfl | rw [hxl, exl]) (by simp only [List.length_cons, List.length_nil] at hxl; omega) (by simp only [List.length_cons, List.length_nil] at hxl; omega) (by simp only [List.length_cons, List.length_nil] at hxl; omega) ?_
              cbv
              obtain ⟨w3, ew3⟩ : ∃ x : List (List AV), x = w2 ++ [[.sl 6 1 0 lk]] := ⟨_, rfl⟩
              obtain ⟨w4, ew4⟩ : ∃ x : List (List AV), x = w2 ++ [[.list 1 lx]] := ⟨_, rfl⟩
              obtain ⟨k3, ek3⟩ : ∃ x, x = k2 + 1 := ⟨_, rfl⟩
              have hw3l : k3 = w4.length := by rw [ek3, ew4]; simp; omega
              have hw4 : w4 = (mo ++ [r ++ [nn]]).map rtRow := by rw [ew4, hw22, elx]; simp [rtRow]
              have huw4 : Up0 w4 := by rw [hw4]; exact up_rt _
              have hkml : k2 = mo.length := by rw [hk2, hw22]; simp
              refine App.mk w3 k3 ew3 hk2 ek3 (by omega) (by omega) ?_
              cbv
              simp only [a5]
              refine hN2 (j2, mo ++ [r ++ [nn]], some (k3, w4)) _ _ ?hx ?hi ?ht
              case hx => (refine Wk.eqz (fun j => [0, 1, 2, 3, 7].getD j 0) (by first | exact fun i _ j _ e => e | (simp only [List.length_cons, List.length_nil]; decide)) ?_; cbv; (repeat' (first | exact trivial | rfl | assumption | (refine RowsZ.app huw22 ew3 ew4 ?_; cbv) | apply And.intro | (simp only [hbin, hcmp, hun, hconv, hnot, hbeq, hmm, hscmp, hsadd, hslen, hsat, heqs, hofNat, binStd, cmpStd, unStd, scmpStd, maxI, Bool.not_eq_true', Bool.not_eq_false', decide_eq_true_eq, decide_eq_false_iff_not, Int.not_lt, Int.not_le, if_true, if_false, Bool.false_eq_true, beq_iff_eq, bne_iff_ne, ne_eq, Bool.not_eq_eq_eq_not, Bool.not_true, Bool.not_false, beq_eq_false_iff_ne, bne_eq_false_iff_eq, Int.ofNat_eq_natCast, Bool.not_not, not_true_eq_false, not_false_eq_true, reduceCtorEq]; first | done | assumption) | exact RowsZ.same (by assumption) (by first | assumption | rfl) | exact FzL.mk rfl rfl rfl (by assumption) (by first | assumption | rfl) (by decide) | (refine RowsZ.one ?_; cbv))))
              case hi => exact ⟨by first | omega | (simp only; omega), by first | omega | (simp only; omega), hmo2, hw3l, hw4, huw4⟩
              case ht => show (J - j2).toNat < (J - j).toNat; omega
          · skip
            have hmoF : mo = more ++ nx.map (fun n => r ++ [n]) := by rw [hmoe, List.take_of_length_le (by omega)]
            rw [← hmoF] at hstep
            have hmok : ∀ l, l ∈ mo → WayOk ss l := fun l hl => by
              rw [hmoF] at hl
              rcases List.mem_append.1 hl with hl | hl
              · exact hmo l hl
              · obtain ⟨q, hq, rfl⟩ := List.mem_map.1 hl
                exact hrok.snoc hnx h12 (hnxs q hq)
            refine hE2 _ _ _ ?_
            cbv
            simp only [a4]
            refine hN1 (i2, out1, ow1, mo, some (k2, w2)) _ _ ?hx ?hi ?ht
            case hx => (refine Wk.eqz (id) (by first | exact fun i _ j _ e => e | (simp only [List.length_cons, List.length_nil]; decide)) ?_; cbv; (repeat' (first | exact trivial | rfl | assumption | apply And.intro | (simp only [hbin, hcmp, hun, hconv, hnot, hbeq, hmm, hscmp, hsadd, hslen, hsat, heqs, hofNat, binStd, cmpStd, unStd, scmpStd, maxI, Bool.not_eq_true', Bool.not_eq_false', decide_eq_true_eq, decide_eq_false_iff_not, Int.not_lt, Int.not_le, if_true, if_false, Bool.false_eq_true, beq_iff_eq, bne_iff_ne, ne_eq, Bool.not_eq_eq_eq_not, Bool.not_true, Bool.not_false, beq_eq_false_iff_ne, bne_eq_false_iff_eq, Int.ofNat_eq_natCast, Bool.not_not, not_true_eq_false, not_false_eq_true, reduceCtorEq]; first | done | assumption) | exact RowsZ.same (by assumption) (by first | assumption | rfl) | exact FzL.mk rfl rfl rfl (by assumption) (by first | assumption | rfl) (by decide) | (refine RowsZ.one ?_; cbv))))
            case hi => exact ⟨by first | omega | (simp only; omega), by first | omega | (simp only; omega), hstep, hwo1, huo1, ho161, ho121, by first | omega | (simp only; omega), hmok, hk2, hw22, huw22⟩
            case ht => exact hT1
      · have hiL : todo.take i.toNat = todo := List.take_of_length_le (by omega)
        obtain ⟨hk, hw2, huw⟩ := hms
        rw [hiL] at hfold
        obtain ⟨n2, en2⟩ : ∃ z, z = n + 1 := ⟨_, rfl⟩
        have a6 : wbin .add .i64 n 1 = n2 := by rw [hbin, en2]; show IntKind.i64.wrap (n + 1) = n + 1; rw [IntKind.wrap_i64]; omega
        have hgq2 : growQ ss lo hi from_ 13 [] ls = growQ ss lo hi from_ (13 - n2.toNat) out1 more := by
          rw [hgq, show 13 - n.toNat = (13 - n2.toNat) + 1 by omega]
          conv => lhs; unfold growQ
          rw [hfold, if_neg (by simp)]
        have hcap3 : more.length ≤ capR n2.toNat := by rw [show n2.toNat = n.toNat + 1 by omega, capR_succ]; omega
        refine hE1 _ _ _ ?_
        cbv
        simp only [a6]
        refine hN (n2, out1, ow1, more, w) _ _ ?hx ?hi ?ht
        case hx => (refine Wk.eqz (id) (by first | exact fun i _ j _ e => e | (simp only [List.length_cons, List.length_nil]; decide)) ?_; cbv; (repeat' (first | exact trivial | rfl | assumption | apply And.intro | (simp only [hbin, hcmp, hun, hconv, hnot, hbeq, hmm, hscmp, hsadd, hslen, hsat, heqs, hofNat, binStd, cmpStd, unStd, scmpStd, maxI, Bool.not_eq_true', Bool.not_eq_false', decide_eq_true_eq, decide_eq_false_iff_not, Int.not_lt, Int.not_le, if_true, if_false, Bool.false_eq_true, beq_iff_eq, bne_iff_ne, ne_eq, Bool.not_eq_eq_eq_not, Bool.not_true, Bool.not_false, beq_eq_false_iff_ne, bne_eq_false_iff_eq, Int.ofNat_eq_natCast, Bool.not_not, not_true_eq_false, not_false_eq_true, reduceCtorEq]; first | done | assumption) | exact RowsZ.same (by assumption) (by first | assumption | rfl) | exact FzL.mk rfl rfl rfl (by assumption) (by first | assumption | rfl) (by decide) | (refine RowsZ.one ?_; cbv))))
        case hi => exact ⟨by first | omega | (simp only; omega), by first | omega | (simp only; omega), hgq2, hwo1, huo1, hw2, huw, ho161, ho121, hmo, hcap3⟩
        case ht => show (13 - n2).toNat < (13 - n).toNat; omega
  · refine hE _ _ _ ?_
    cbv
    have hn13 : 13 - n.toNat = 0 := by omega
    rw [hn13] at hgq
    have hgq2 : growQ ss lo hi from_ 13 [] ls = (0, out) := hgq
    rw [hgq2, if_neg (show ¬ ((0 : Int), out).1 ≠ 0 from fun h => h rfl)] at hv
    have hol : ow.length = out.length := by rw [hwo]; simp
    (obtain ⟨L, eL, L0, Ln⟩ : ∃ L : Int, wlen ow = L ∧ 0 ≤ L ∧ L.toNat = ow.length := ⟨(ow.length : Int), by rw [hlen], Int.natCast_nonneg _, Int.toNat_natCast _⟩)
    (split <;> rename_i h9 <;> (try (simp only [eL] at h9)) <;> (try (simp only [hbin, hcmp, hun, hconv, hnot, hbeq, hmm, hscmp, hsadd, hslen, hsat, heqs, hofNat, binStd, cmpStd, unStd, scmpStd, maxI, Bool.not_eq_true', Bool.not_eq_false', decide_eq_true_eq, decide_eq_false_iff_not, Int.not_lt, Int.not_le, if_true, if_false, Bool.false_eq_true, beq_iff_eq, bne_iff_ne, ne_eq, Bool.not_eq_eq_eq_not, Bool.not_true, Bool.not_false, beq_eq_false_iff_ne, bne_eq_false_iff_eq, Int.ofNat_eq_natCast, Bool.not_not, not_true_eq_false, not_false_eq_true, reduceCtorEq] at h9)) <;> (try cbv))
    · rw [if_pos (show ((0 : Int), out).2 = [] from List.length_eq_zero_iff.1 (show out.length = 0 by omega))] at hv
      simp only [Prod.mk.injEq] at hv
      obtain ⟨⟨k1, k2⟩, k3⟩ := hv
      subst k3
      exact hbad k1 k2 _
    · rw [if_neg (show ¬ ((0 : Int), out).2 = [] from fun h => by have : out.length = 0 := List.length_eq_zero_iff.2 h; omega)] at hv
      simp only [Prod.mk.injEq] at hv
      obtain ⟨⟨rfl, rfl⟩, rfl⟩ := hv
      have e1 : vs = ow := by rw [evs, hwo]
      subst e1
      exact ⟨_, Vw.same (by simp only [retOne, AV.upto, uptoL, huo.get]; rfl), hR _ rfl⟩
end Go.Proofs.Ytpiocfmdjgbamaa

/- A track as the document has it, by the engine. Printed by wip/tools/genrefs.py. -/
set_option linter.unusedVariables false
set_option linter.unusedSimpArgs false
namespace Go.Proofs.Ytpiocfmdjgbamaa
open Go Go.RowKit Go.Eng
set_option maxRecDepth 100000
set_option maxHeartbeats 4000000 in
theorem e_refsT14 (ss : List Sg) (gs : List Gr) (es ds : List (List AV)) (hes : es = ss.map sgRow) (hds : ds = gs.map grRow) (hm1 : ss.length ≤ 1000) (hm2 : gs.length ≤ 1000) (hm3 : ∀ s, s ∈ ss → s.ps.length ≤ 1000) : PCalls Try.prog 17 [.agg [.list 3 es, .list 5 ds]] (· = .agg [.list 3 es, .list 5 ds]) := by
  have hu : Up0 es := by rw [hes]; exact up_sg ss
  have hud : Up0 ds := by rw [hds]; exact up_gr gs
  have hel : es.length = ss.length := by rw [hes]; simp
  have hdl : ds.length = gs.length := by rw [hds]; simp
  (refine PCalls.ofY Try.func17 (by kernel_rfl) (by kernel_rfl) fun w hw R hR => ?_); (obtain ⟨wbin, wcmp, wun, wconv, wnot, wbeq, wmm, wscmp, wsadd, wslen, wsat, weqs, wlen, wnlen, wofNat, wtake, wdrop, wapp, wzero, wnat⟩ := w); (have hbin : wbin = binStd := congrArg Prims.bin hw); (have hcmp : wcmp = cmpStd := congrArg Prims.cmp hw); (have hun : wun = unStd := congrArg Prims.un hw); (have hconv : wconv = fun k n => k.wrap n := congrArg Prims.conv hw); (have hnot : wnot = fun b => !b := congrArg Prims.not hw); (have hbeq : wbeq = fun a b => a == b := congrArg Prims.beq hw); (have hmm : wmm = maxI := congrArg Prims.mm hw); (have hscmp : wscmp = scmpStd := congrArg Prims.scmp hw); (have hsadd : wsadd = fun x y => x ++ y := congrArg Prims.sadd hw); (have hslen : wslen = fun s => (s.size : Int) := congrArg Prims.slen hw); (have hsat : wsat = std.sat := congrArg Prims.sat hw); (have heqs : weqs = fun a b os => (eqOffs a b os).getD false := congrArg Prims.eqs hw); (have hlen : wlen = fun es => (es.length : Int) := congrArg Prims.len hw); (have hnlen : wnlen = fun es => es.length := congrArg Prims.nlen hw); (have hofNat : wofNat = (fun n : Nat => (n : Int)) := congrArg Prims.ofNat hw); (have htake : wtake = fun es b => es.take b.toNat := congrArg Prims.take hw); (have hdrop : wdrop = fun es a => es.drop a.toNat := congrArg Prims.drop hw); (have happ : wapp = fun a b => a ++ b := congrArg Prims.app hw); (have hzero : wzero = fun n z => List.replicate n.toNat z := congrArg Prims.zero hw); (have hnat : wnat = fun n => n.toNat := congrArg Prims.nat hw); (conv => arg 2; cbv); (generalize hP : Try.prog = P); cbv
  (obtain ⟨L, eL, L0, Ln⟩ : ∃ L : Int, wlen es = L ∧ 0 ≤ L ∧ L.toNat = es.length := ⟨(es.length : Int), by rw [hlen], Int.natCast_nonneg _, Int.toNat_natCast _⟩)
  refine Loop.data hw (S := Bd) (fun s => match s with | .start => fr 63 [(1, .ref 0 2 0 0), (2, .ref 1 2 0 0), (3, .ref 2 2 0 0), (12, .list 3 es), (13, .int .i64 L), (14, .int .i64 0)] | .more i n fs => fr 63 [(1, .ref 0 2 0 0), (2, .ref 1 2 0 0), (3, .ref 2 2 0 0), (12, .list 3 es), (13, .int .i64 L), (14, .int .i64 i)])
    (fun s => match s with | .start => [.live 2 [[.list 3 es, .list 5 ds]], .live 2 [[.nils, .nils]], .live 2 [[.nils, .nils]]] | .more i n fs => [.live 2 [[.list 3 es, .list 5 ds]], .live 2 [[.nils, .nils]], .live 2 [[.sl 3 3 0 n, .nils]], .live 3 fs]) (Bd.Ok es) (Bd.left es) .start (by (refine Wk.eqz (id) (by first | exact fun i _ j _ e => e | (simp only [List.length_cons, List.length_nil]; decide)) ?_; cbv; (repeat' (first | exact trivial | rfl | assumption | apply And.intro | (simp only [hbin, hcmp, hun, hconv, hnot, hbeq, hmm, hscmp, hsadd, hslen, hsat, heqs, hofNat, binStd, cmpStd, unStd, scmpStd, maxI, Bool.not_eq_true', Bool.not_eq_false', decide_eq_true_eq, decide_eq_false_iff_not, Int.not_lt, Int.not_le, if_true, if_false, Bool.false_eq_true, beq_iff_eq, bne_iff_ne, ne_eq, Bool.not_eq_eq_eq_not, Bool.not_true, Bool.not_false, beq_eq_false_iff_ne, bne_eq_false_iff_eq, Int.ofNat_eq_natCast, Bool.not_not, not_true_eq_false, not_false_eq_true, reduceCtorEq]; first | done | assumption) | exact RowsZ.same (by assumption) (by first | assumption | rfl) | exact FzL.mk rfl rfl rfl (by assumption) (by first | assumption | rfl) (by decide) | (refine RowsZ.one ?_; cbv))))) trivial ?_
  rintro (_ | ⟨i, n, fs⟩) hinv Q' hN hE hR'
  · cbv
    (split <;> rename_i hc <;> (try (simp only [hbin, hcmp, hun, hconv, hnot, hbeq, hmm, hscmp, hsadd, hslen, hsat, heqs, hofNat, binStd, cmpStd, unStd, scmpStd, maxI, Bool.not_eq_true', Bool.not_eq_false', decide_eq_true_eq, decide_eq_false_iff_not, Int.not_lt, Int.not_le, if_true, if_false, Bool.false_eq_true, beq_iff_eq, bne_iff_ne, ne_eq, Bool.not_eq_eq_eq_not, Bool.not_true, Bool.not_false, beq_eq_false_iff_ne, bne_eq_false_iff_eq, Int.ofNat_eq_natCast, Bool.not_not, not_true_eq_false, not_false_eq_true, reduceCtorEq] at hc)) <;> (try cbv))
    · obtain ⟨⟨len, ps, nx⟩, hd, hrow⟩ := get_map (f := sgRow) (ds := ss) (i := 0) (Int.le_refl 0) (by omega)
      obtain ⟨q1, eq1⟩ : ∃ x, ps.map pcRow = x := ⟨_, rfl⟩
      obtain ⟨n1, en1⟩ : ∃ x, nx.map nxRow = x := ⟨_, rfl⟩
      have hrow : es[(0 : Int).toNat]? = some [.int .i64 len, .list 2 q1, .list 1 n1] := by rw [hes, ← eq1, ← en1]; exact hrow
      have hql : q1.length = ps.length := by rw [← eq1]; simp
      have hpl : ps.length ≤ 1000 := hm3 ⟨len, ps, nx⟩ (List.mem_of_getElem? hd)
      have huq : Up0 q1 := by rw [← eq1]; exact up_pc ps
      have hun : Up0 n1 := by rw [← en1]; exact up_nx nx
      refine Idx.mk [.int .i64 len, .list 2 q1, .list 1 n1] (by decide) hrow ?_
      cbv
      have ei : wbin .add .i64 0 1 = 1 := by rw [hbin]; rfl
      have hT1 : Bd.left es (.more 1 1 [[.int .i64 len, .list 2 q1, .list 1 n1]]) < Bd.left es .start := by simp only [Bd.left]; omega
      have hI1 : Bd.Ok es (.more 1 1 [[.int .i64 len, .list 2 q1, .list 1 n1]]) := ⟨by decide, by omega, (take_row (Int.le_refl 0) hrow).symm, rfl, up_seg huq hun⟩
      (obtain ⟨K, eK, K0, Kn⟩ : ∃ L : Int, wlen q1 = L ∧ 0 ≤ L ∧ L.toNat = q1.length := ⟨(q1.length : Int), by rw [hlen], Int.natCast_nonneg _, Int.toNat_natCast _⟩)
      refine Loop.data hw (S := Bd) (fun s => match s with | .start => fr 63 [(1, .ref 0 2 0 0), (2, .ref 1 2 0 0), (3, .ref 2 2 0 0), (12, .list 3 es), (13, .int .i64 L), (14, .int .i64 0), (5, .ref 3 3 0 0), (6, .ref 4 3 0 0), (24, .list 2 q1), (25, .int .i64 K), (26, .int .i64 0)] | .more k m fp => fr 63 [(1, .ref 0 2 0 0), (2, .ref 1 2 0 0), (3, .ref 2 2 0 0), (12, .list 3 es), (13, .int .i64 L), (14, .int .i64 0), (5, .ref 3 3 0 0), (6, .ref 4 3 0 0), (24, .list 2 q1), (25, .int .i64 K), (26, .int .i64 k)])
        (fun s => match s with | .start => [.live 2 [[.list 3 es, .list 5 ds]], .live 2 [[.nils, .nils]], .live 2 [[.nils, .nils]], .live 3 [[.int .i64 len, .list 2 q1, .list 1 n1]], .live 3 [[.int .i64 len, .nils, .list 1 n1]]] | .more k m fp => [.live 2 [[.list 3 es, .list 5 ds]], .live 2 [[.nils, .nils]], .live 2 [[.nils, .nils]], .live 3 [[.int .i64 len, .list 2 q1, .list 1 n1]], .live 3 [[.int .i64 len, .sl 5 2 0 m, .list 1 n1]], .live 2 fp]) (Bd.Ok q1) (Bd.left q1) .start (by (refine Wk.eqz (id) (by first | exact fun i _ j _ e => e | (simp only [List.length_cons, List.length_nil]; decide)) ?_; cbv; (repeat' (first | exact trivial | rfl | assumption | apply And.intro | (simp only [hbin, hcmp, hun, hconv, hnot, hbeq, hmm, hscmp, hsadd, hslen, hsat, heqs, hofNat, binStd, cmpStd, unStd, scmpStd, maxI, Bool.not_eq_true', Bool.not_eq_false', decide_eq_true_eq, decide_eq_false_iff_not, Int.not_lt, Int.not_le, if_true, if_false, Bool.false_eq_true, beq_iff_eq, bne_iff_ne, ne_eq, Bool.not_eq_eq_eq_not, Bool.not_true, Bool.not_false, beq_eq_false_iff_ne, bne_eq_false_iff_eq, Int.ofNat_eq_natCast, Bool.not_not, not_true_eq_false, not_false_eq_true, reduceCtorEq]; first | done | assumption) | exact RowsZ.same (by assumption) (by first | assumption | rfl) | exact FzL.mk rfl rfl rfl (by assumption) (by first | assumption | rfl) (by decide) | (refine RowsZ.one ?_; cbv))))) trivial ?_
      rintro (_ | ⟨k, m, fp⟩) hinv2 Q2 hN2 hE2 hR2
      · cbv
        (split <;> rename_i hc2 <;> (try (simp only [hbin, hcmp, hun, hconv, hnot, hbeq, hmm, hscmp, hsadd, hslen, hsat, heqs, hofNat, binStd, cmpStd, unStd, scmpStd, maxI, Bool.not_eq_true', Bool.not_eq_false', decide_eq_true_eq, decide_eq_false_iff_not, Int.not_lt, Int.not_le, if_true, if_false, Bool.false_eq_true, beq_iff_eq, bne_iff_ne, ne_eq, Bool.not_eq_eq_eq_not, Bool.not_true, Bool.not_false, beq_eq_false_iff_ne, bne_eq_false_iff_eq, Int.ofNat_eq_natCast, Bool.not_not, not_true_eq_false, not_false_eq_true, reduceCtorEq] at hc2)) <;> (try cbv))
        · obtain ⟨⟨a, b⟩, hd2, hrow2⟩ := get_map (f := pcRow) (ds := ps) (i := 0) (Int.le_refl 0) (by omega)
          have hrow2 : q1[(0 : Int).toNat]? = some [.int .i64 a, .int .i64 b] := by rw [← eq1]; exact hrow2
          refine Idx.mk [.int .i64 a, .int .i64 b] (by decide) hrow2 ?_
          cbv
          refine Ob.mk (by decide) ?_
          cbv
          have hU2 : Up0 [[AV.int .i64 a, .int .i64 b]] := ⟨rfl⟩
          have ei2 : wbin .add .i64 0 1 = 1 := by rw [hbin]; rfl
          refine hN2 (Bd.more 1 1 [[.int .i64 a, .int .i64 b]]) _ _ ?hx ?hi ?ht
          case hx => (refine Wk.eqz (fun j => [0, 1, 2, 3, 4, 6].getD j 0) (by first | exact fun i _ j _ e => e | (simp only [List.length_cons, List.length_nil]; decide)) ?_; cbv; (repeat' (first | exact trivial | rfl | assumption | apply And.intro | (simp only [hbin, hcmp, hun, hconv, hnot, hbeq, hmm, hscmp, hsadd, hslen, hsat, heqs, hofNat, binStd, cmpStd, unStd, scmpStd, maxI, Bool.not_eq_true', Bool.not_eq_false', decide_eq_true_eq, decide_eq_false_iff_not, Int.not_lt, Int.not_le, if_true, if_false, Bool.false_eq_true, beq_iff_eq, bne_iff_ne, ne_eq, Bool.not_eq_eq_eq_not, Bool.not_true, Bool.not_false, beq_eq_false_iff_ne, bne_eq_false_iff_eq, Int.ofNat_eq_natCast, Bool.not_not, not_true_eq_false, not_false_eq_true, reduceCtorEq]; first | done | assumption) | exact RowsZ.same (by assumption) (by first | assumption | rfl) | exact FzL.mk rfl rfl rfl (by assumption) (by first | assumption | rfl) (by decide) | (refine RowsZ.one ?_; cbv))))
          case hi => exact ⟨by decide, by omega, (take_row (Int.le_refl 0) hrow2).symm, rfl, hU2⟩
          case ht => simp only [Bd.left]; omega
        · refine hE2 _ _ _ ?_
          cbv
          have hq0 : q1 = [] := List.length_eq_zero_iff.1 (by omega)
          refine Ob.mk (by decide) ?_
          cbv
          refine hN (Bd.more 1 1 [[.int .i64 len, .list 2 q1, .list 1 n1]]) _ _ ?hx ?hi ?ht
          case hx => (refine Wk.eqz (fun j => [0, 1, 2, 5].getD j 0) (by first | exact fun i _ j _ e => e | (simp only [List.length_cons, List.length_nil]; decide)) ?_; cbv; (repeat' (first | exact trivial | rfl | assumption | exact Eq.symm (by assumption) | apply And.intro | (simp only [hbin, hcmp, hun, hconv, hnot, hbeq, hmm, hscmp, hsadd, hslen, hsat, heqs, hofNat, binStd, cmpStd, unStd, scmpStd, maxI, Bool.not_eq_true', Bool.not_eq_false', decide_eq_true_eq, decide_eq_false_iff_not, Int.not_lt, Int.not_le, if_true, if_false, Bool.false_eq_true, beq_iff_eq, bne_iff_ne, ne_eq, Bool.not_eq_eq_eq_not, Bool.not_true, Bool.not_false, beq_eq_false_iff_ne, bne_eq_false_iff_eq, Int.ofNat_eq_natCast, Bool.not_not, not_true_eq_false, not_false_eq_true, reduceCtorEq]; first | done | assumption) | exact RowsZ.same (by assumption) (by first | assumption | rfl) | exact FzL.mk rfl rfl rfl (by assumption) (by first | assumption | rfl) (by decide) | (refine RowsZ.one ?_; cbv))))
          case hi => exact hI1
          case ht => exact hT1
      · cbv
        obtain ⟨hk0, hk1, hfp, hmf, hup⟩ : 0 < k ∧ k.toNat ≤ q1.length ∧ fp = q1.take k.toNat ∧ m = fp.length ∧ Up0 fp := hinv2
        (split <;> rename_i hc2 <;> (try (simp only [hbin, hcmp, hun, hconv, hnot, hbeq, hmm, hscmp, hsadd, hslen, hsat, heqs, hofNat, binStd, cmpStd, unStd, scmpStd, maxI, Bool.not_eq_true', Bool.not_eq_false', decide_eq_true_eq, decide_eq_false_iff_not, Int.not_lt, Int.not_le, if_true, if_false, Bool.false_eq_true, beq_iff_eq, bne_iff_ne, ne_eq, Bool.not_eq_eq_eq_not, Bool.not_true, Bool.not_false, beq_eq_false_iff_ne, bne_eq_false_iff_eq, Int.ofNat_eq_natCast, Bool.not_not, not_true_eq_false, not_false_eq_true, reduceCtorEq] at hc2)) <;> (try cbv))
        · obtain ⟨⟨a, b⟩, hd2, hrow2⟩ := get_map (f := pcRow) (ds := ps) (i := k) (by omega) (by omega)
          have hrow2 : q1[k.toNat]? = some [.int .i64 a, .int .i64 b] := by rw [← eq1]; exact hrow2
          refine Idx.mk [.int .i64 a, .int .i64 b] (by omega) hrow2 ?_
          cbv
          obtain ⟨k', ek'⟩ : ∃ x, k + 1 = x := ⟨_, rfl⟩
          have ek : wbin .add .i64 k 1 = k' := by rw [hbin, i_add (by omega) (by omega)]; exact ek'
          obtain ⟨fp', efp⟩ : ∃ x, fp ++ [[AV.int .i64 a, .int .i64 b]] = x := ⟨_, rfl⟩
          have hfl2 : fp'.length = m + 1 := by rw [← efp, hmf]; simp
          have hft2 : fp' = q1.take k'.toNat := by rw [← efp, ← ek', take_row (by omega) hrow2, hfp]
          have hup' : Up0 fp' := by rw [hft2]; exact up_take huq _
          obtain ⟨m', em'⟩ : ∃ x, m + 1 = x := ⟨_, rfl⟩
          have hml : m = k.toNat := by rw [hmf, hfp, List.length_take]; omega
          refine App.mk fp' m' efp.symm hmf em'.symm (by omega) (by omega) ?_
          cbv
          refine hN2 (Bd.more k' m' fp') _ _ ?hx ?hi ?ht
          case hx => (refine Wk.eqz (fun j => [0, 1, 2, 3, 4, 7].getD j 0) (by first | exact fun i _ j _ e => e | (simp only [List.length_cons, List.length_nil]; decide)) ?_; cbv; (repeat' (first | exact trivial | rfl | assumption | apply And.intro | (simp only [hbin, hcmp, hun, hconv, hnot, hbeq, hmm, hscmp, hsadd, hslen, hsat, heqs, hofNat, binStd, cmpStd, unStd, scmpStd, maxI, Bool.not_eq_true', Bool.not_eq_false', decide_eq_true_eq, decide_eq_false_iff_not, Int.not_lt, Int.not_le, if_true, if_false, Bool.false_eq_true, beq_iff_eq, bne_iff_ne, ne_eq, Bool.not_eq_eq_eq_not, Bool.not_true, Bool.not_false, beq_eq_false_iff_ne, bne_eq_false_iff_eq, Int.ofNat_eq_natCast, Bool.not_not, not_true_eq_false, not_false_eq_true, reduceCtorEq]; first | done | assumption) | exact RowsZ.same (by assumption) (by first | assumption | rfl) | exact FzL.mk rfl rfl rfl (by assumption) (by first | assumption | rfl) (by decide) | (refine RowsZ.one ?_; cbv))))
          case hi => exact ⟨by omega, by omega, hft2, by omega, hup'⟩
          case ht => simp only [Bd.left]; omega
        · refine hE2 _ _ _ ?_
          cbv
          have hq : fp = q1 := by rw [hfp, List.take_of_length_le (by omega)]
          have hmq : m = q1.length := by rw [hmf, hq]
          clear hfp
          subst fp
          refine Ob.mk (by decide) ?_
          cbv
          refine hN (Bd.more 1 1 [[.int .i64 len, .list 2 q1, .list 1 n1]]) _ _ ?hx ?hi ?ht
          case hx => (refine Wk.eqz (fun j => [0, 1, 2, 6].getD j 0) (by first | exact fun i _ j _ e => e | (simp only [List.length_cons, List.length_nil]; decide)) ?_; cbv; (repeat' (first | exact trivial | rfl | assumption | exact Eq.symm (by assumption) | apply And.intro | (simp only [hbin, hcmp, hun, hconv, hnot, hbeq, hmm, hscmp, hsadd, hslen, hsat, heqs, hofNat, binStd, cmpStd, unStd, scmpStd, maxI, Bool.not_eq_true', Bool.not_eq_false', decide_eq_true_eq, decide_eq_false_iff_not, Int.not_lt, Int.not_le, if_true, if_false, Bool.false_eq_true, beq_iff_eq, bne_iff_ne, ne_eq, Bool.not_eq_eq_eq_not, Bool.not_true, Bool.not_false, beq_eq_false_iff_ne, bne_eq_false_iff_eq, Int.ofNat_eq_natCast, Bool.not_not, not_true_eq_false, not_false_eq_true, reduceCtorEq]; first | done | assumption) | exact RowsZ.same (by assumption) (by first | assumption | rfl) | exact FzL.mk rfl rfl rfl (by assumption) (by first | assumption | rfl) (by decide) | (refine RowsZ.one ?_; cbv))))
          case hi => exact hI1
          case ht => exact hT1
    · refine hE _ _ _ ?_
      cbv
      have he0 : es = [] := List.length_eq_zero_iff.1 (by omega)
      (obtain ⟨J, eJ, J0, Jn⟩ : ∃ L : Int, wlen ds = L ∧ 0 ≤ L ∧ L.toNat = ds.length := ⟨(ds.length : Int), by rw [hlen], Int.natCast_nonneg _, Int.toNat_natCast _⟩)
      refine Loop.data hw (S := Bd) (fun s => match s with | .start => fr 63 [(2, .ref 1 2 0 0), (3, .ref 2 2 0 0), (49, .list 5 ds), (50, .int .i64 J), (51, .int .i64 0)] | .more k m fp => fr 63 [(2, .ref 1 2 0 0), (3, .ref 2 2 0 0), (49, .list 5 ds), (50, .int .i64 J), (51, .int .i64 k)])
        (fun s => match s with | .start => [.live 2 [[.list 3 es, .list 5 ds]], .live 2 [[.nils, .nils]], .live 2 [[.list 3 es, .nils]]] | .more k m fp => [.live 2 [[.list 3 es, .list 5 ds]], .live 2 [[.nils, .nils]], .live 2 [[.list 3 es, .sl 3 5 0 m]], .live 5 fp]) (Bd.Ok ds) (Bd.left ds) .start (by (refine Wk.eqz (id) (by first | exact fun i _ j _ e => e | (simp only [List.length_cons, List.length_nil]; decide)) ?_; cbv; (repeat' (first | exact trivial | rfl | assumption | apply And.intro | (simp only [hbin, hcmp, hun, hconv, hnot, hbeq, hmm, hscmp, hsadd, hslen, hsat, heqs, hofNat, binStd, cmpStd, unStd, scmpStd, maxI, Bool.not_eq_true', Bool.not_eq_false', decide_eq_true_eq, decide_eq_false_iff_not, Int.not_lt, Int.not_le, if_true, if_false, Bool.false_eq_true, beq_iff_eq, bne_iff_ne, ne_eq, Bool.not_eq_eq_eq_not, Bool.not_true, Bool.not_false, beq_eq_false_iff_ne, bne_eq_false_iff_eq, Int.ofNat_eq_natCast, Bool.not_not, not_true_eq_false, not_false_eq_true, reduceCtorEq]; first | done | assumption) | exact RowsZ.same (by assumption) (by first | assumption | rfl) | exact FzL.mk rfl rfl rfl (by assumption) (by first | assumption | rfl) (by decide) | (refine RowsZ.one ?_; cbv))))) trivial ?_
      rintro (_ | ⟨k, m, fp⟩) hinv2 Q2 hN2 hE2 hR2
      · cbv
        (split <;> rename_i hc2 <;> (try (simp only [hbin, hcmp, hun, hconv, hnot, hbeq, hmm, hscmp, hsadd, hslen, hsat, heqs, hofNat, binStd, cmpStd, unStd, scmpStd, maxI, Bool.not_eq_true', Bool.not_eq_false', decide_eq_true_eq, decide_eq_false_iff_not, Int.not_lt, Int.not_le, if_true, if_false, Bool.false_eq_true, beq_iff_eq, bne_iff_ne, ne_eq, Bool.not_eq_eq_eq_not, Bool.not_true, Bool.not_false, beq_eq_false_iff_ne, bne_eq_false_iff_eq, Int.ofNat_eq_natCast, Bool.not_not, not_true_eq_false, not_false_eq_true, reduceCtorEq] at hc2)) <;> (try cbv))
        · obtain ⟨⟨a1, a2, a3, a4, a5⟩, hd2, hrow2⟩ := get_map (f := grRow) (ds := gs) (i := 0) (Int.le_refl 0) (by omega)
          have hrow2 : ds[(0 : Int).toNat]? = some [.int .i64 a1, .int .i64 a2, .int .i64 a3, .int .i64 a4, .int .i64 a5] := by rw [hds]; exact hrow2
          refine Idx.mk [.int .i64 a1, .int .i64 a2, .int .i64 a3, .int .i64 a4, .int .i64 a5] (by decide) hrow2 ?_
          cbv
          refine Ob.mk (by decide) ?_
          cbv
          have hU2 : Up0 [[AV.int .i64 a1, .int .i64 a2, .int .i64 a3, .int .i64 a4, .int .i64 a5]] := ⟨rfl⟩
          have ei2 : wbin .add .i64 0 1 = 1 := by rw [hbin]; rfl
          refine hN2 (Bd.more 1 1 [[.int .i64 a1, .int .i64 a2, .int .i64 a3, .int .i64 a4, .int .i64 a5]]) _ _ ?hx ?hi ?ht
          case hx => (refine Wk.eqz (fun j => [0, 1, 2, 4].getD j 0) (by first | exact fun i _ j _ e => e | (simp only [List.length_cons, List.length_nil]; decide)) ?_; cbv; (repeat' (first | exact trivial | rfl | assumption | apply And.intro | (simp only [hbin, hcmp, hun, hconv, hnot, hbeq, hmm, hscmp, hsadd, hslen, hsat, heqs, hofNat, binStd, cmpStd, unStd, scmpStd, maxI, Bool.not_eq_true', Bool.not_eq_false', decide_eq_true_eq, decide_eq_false_iff_not, Int.not_lt, Int.not_le, if_true, if_false, Bool.false_eq_true, beq_iff_eq, bne_iff_ne, ne_eq, Bool.not_eq_eq_eq_not, Bool.not_true, Bool.not_false, beq_eq_false_iff_ne, bne_eq_false_iff_eq, Int.ofNat_eq_natCast, Bool.not_not, not_true_eq_false, not_false_eq_true, reduceCtorEq]; first | done | assumption) | exact RowsZ.same (by assumption) (by first | assumption | rfl) | exact FzL.mk rfl rfl rfl (by assumption) (by first | assumption | rfl) (by decide) | (refine RowsZ.one ?_; cbv))))
          case hi => exact ⟨by decide, by omega, (take_row (Int.le_refl 0) hrow2).symm, rfl, hU2⟩
          case ht => simp only [Bd.left]; omega
        · refine hE2 _ _ _ ?_
          cbv
          have hd0 : ds = [] := List.length_eq_zero_iff.1 (by omega)
          exact ⟨_, Vw.agg (rs := [.list 3 es, .list 5 []]) ⟨Vw.same hu.list, Vw.nil 5, trivial⟩, hR _ (by rw [hd0])⟩
      · cbv
        obtain ⟨hk0, hk1, hfp, hmf, hup⟩ : 0 < k ∧ k.toNat ≤ ds.length ∧ fp = ds.take k.toNat ∧ m = fp.length ∧ Up0 fp := hinv2
        (split <;> rename_i hc2 <;> (try (simp only [hbin, hcmp, hun, hconv, hnot, hbeq, hmm, hscmp, hsadd, hslen, hsat, heqs, hofNat, binStd, cmpStd, unStd, scmpStd, maxI, Bool.not_eq_true', Bool.not_eq_false', decide_eq_true_eq, decide_eq_false_iff_not, Int.not_lt, Int.not_le, if_true, if_false, Bool.false_eq_true, beq_iff_eq, bne_iff_ne, ne_eq, Bool.not_eq_eq_eq_not, Bool.not_true, Bool.not_false, beq_eq_false_iff_ne, bne_eq_false_iff_eq, Int.ofNat_eq_natCast, Bool.not_not, not_true_eq_false, not_false_eq_true, reduceCtorEq] at hc2)) <;> (try cbv))
        · obtain ⟨⟨a1, a2, a3, a4, a5⟩, hd2, hrow2⟩ := get_map (f := grRow) (ds := gs) (i := k) (by omega) (by omega)
          have hrow2 : ds[k.toNat]? = some [.int .i64 a1, .int .i64 a2, .int .i64 a3, .int .i64 a4, .int .i64 a5] := by rw [hds]; exact hrow2
          refine Idx.mk [.int .i64 a1, .int .i64 a2, .int .i64 a3, .int .i64 a4, .int .i64 a5] (by omega) hrow2 ?_
          cbv
          obtain ⟨k', ek'⟩ : ∃ x, k + 1 = x := ⟨_, rfl⟩
          have ek : wbin .add .i64 k 1 = k' := by rw [hbin, i_add (by omega) (by omega)]; exact ek'
          obtain ⟨fp', efp⟩ : ∃ x, fp ++ [[AV.int .i64 a1, .int .i64 a2, .int .i64 a3, .int .i64 a4, .int .i64 a5]] = x := ⟨_, rfl⟩
          have hfl2 : fp'.length = m + 1 := by rw [← efp, hmf]; simp
          have hft2 : fp' = ds.take k'.toNat := by rw [← efp, ← ek', take_row (by omega) hrow2, hfp]
          have hup' : Up0 fp' := by rw [hft2]; exact up_take hud _
          obtain ⟨m', em'⟩ : ∃ x, m + 1 = x := ⟨_, rfl⟩
          have hml : m = k.toNat := by rw [hmf, hfp, List.length_take]; omega
          refine App.mk fp' m' efp.symm hmf em'.symm (by omega) (by omega) ?_
          cbv
          refine hN2 (Bd.more k' m' fp') _ _ ?hx ?hi ?ht
          case hx => (refine Wk.eqz (fun j => [0, 1, 2, 5].getD j 0) (by first | exact fun i _ j _ e => e | (simp only [List.length_cons, List.length_nil]; decide)) ?_; cbv; (repeat' (first | exact trivial | rfl | assumption | apply And.intro | (simp only [hbin, hcmp, hun, hconv, hnot, hbeq, hmm, hscmp, hsadd, hslen, hsat, heqs, hofNat, binStd, cmpStd, unStd, scmpStd, maxI, Bool.not_eq_true', Bool.not_eq_false', decide_eq_true_eq, decide_eq_false_iff_not, Int.not_lt, Int.not_le, if_true, if_false, Bool.false_eq_true, beq_iff_eq, bne_iff_ne, ne_eq, Bool.not_eq_eq_eq_not, Bool.not_true, Bool.not_false, beq_eq_false_iff_ne, bne_eq_false_iff_eq, Int.ofNat_eq_natCast, Bool.not_not, not_true_eq_false, not_false_eq_true, reduceCtorEq]; first | done | assumption) | exact RowsZ.same (by assumption) (by first | assumption | rfl) | exact FzL.mk rfl rfl rfl (by assumption) (by first | assumption | rfl) (by decide) | (refine RowsZ.one ?_; cbv))))
          case hi => exact ⟨by omega, by omega, hft2, by omega, hup'⟩
          case ht => simp only [Bd.left]; omega
        · refine hE2 _ _ _ ?_
          cbv
          have hq : fp = ds := by rw [hfp, List.take_of_length_le (by omega)]
          refine ⟨_, Vw.agg (rs := [.list 3 es, .list 5 _]) ⟨Vw.same hu.list, Vw.sl rfl hup.get (by omega), trivial⟩, hR _ ?_⟩
          rw [List.drop_zero, List.take_of_length_le (by omega), hq]
  · cbv
    obtain ⟨hi0, hi1, hfs, hnf, huf⟩ : 0 < i ∧ i.toNat ≤ es.length ∧ fs = es.take i.toNat ∧ n = fs.length ∧ Up0 fs := hinv
    (split <;> rename_i hc <;> (try (simp only [hbin, hcmp, hun, hconv, hnot, hbeq, hmm, hscmp, hsadd, hslen, hsat, heqs, hofNat, binStd, cmpStd, unStd, scmpStd, maxI, Bool.not_eq_true', Bool.not_eq_false', decide_eq_true_eq, decide_eq_false_iff_not, Int.not_lt, Int.not_le, if_true, if_false, Bool.false_eq_true, beq_iff_eq, bne_iff_ne, ne_eq, Bool.not_eq_eq_eq_not, Bool.not_true, Bool.not_false, beq_eq_false_iff_ne, bne_eq_false_iff_eq, Int.ofNat_eq_natCast, Bool.not_not, not_true_eq_false, not_false_eq_true, reduceCtorEq] at hc)) <;> (try cbv))
    · obtain ⟨⟨len, ps, nx⟩, hd, hrow⟩ := get_map (f := sgRow) (ds := ss) (i := i) (by omega) (by omega)
      obtain ⟨q1, eq1⟩ : ∃ x, ps.map pcRow = x := ⟨_, rfl⟩
      obtain ⟨n1, en1⟩ : ∃ x, nx.map nxRow = x := ⟨_, rfl⟩
      have hrow : es[i.toNat]? = some [.int .i64 len, .list 2 q1, .list 1 n1] := by rw [hes, ← eq1, ← en1]; exact hrow
      have hql : q1.length = ps.length := by rw [← eq1]; simp
      have hpl : ps.length ≤ 1000 := hm3 ⟨len, ps, nx⟩ (List.mem_of_getElem? hd)
      have huq : Up0 q1 := by rw [← eq1]; exact up_pc ps
      have hun : Up0 n1 := by rw [← en1]; exact up_nx nx
      refine Idx.mk [.int .i64 len, .list 2 q1, .list 1 n1] (by omega) hrow ?_
      cbv
      obtain ⟨i', ei'⟩ : ∃ x, i + 1 = x := ⟨_, rfl⟩
      have ei : wbin .add .i64 i 1 = i' := by rw [hbin, i_add (by omega) (by omega)]; exact ei'
      obtain ⟨fw, efw⟩ : ∃ x, fs ++ [[AV.int .i64 len, .list 2 q1, .list 1 n1]] = x := ⟨_, rfl⟩
      have hfl : fw.length = n + 1 := by rw [← efw, hnf]; simp
      have hft : fw = es.take i'.toNat := by rw [← efw, ← ei', take_row (by omega) hrow, hfs]
      have hufw : Up0 fw := by rw [hft]; exact up_take hu _
      obtain ⟨n', en'⟩ : ∃ x, n + 1 = x := ⟨_, rfl⟩
      have hnl : n = i.toNat := by rw [hnf, hfs, List.length_take]; omega
      have hT1 : Bd.left es (.more i' n' fw) < Bd.left es (.more i n fs) := by simp only [Bd.left]; omega
      have hI1 : Bd.Ok es (.more i' n' fw) := ⟨by omega, by omega, hft, by omega, hufw⟩
      (obtain ⟨K, eK, K0, Kn⟩ : ∃ L : Int, wlen q1 = L ∧ 0 ≤ L ∧ L.toNat = q1.length := ⟨(q1.length : Int), by rw [hlen], Int.natCast_nonneg _, Int.toNat_natCast _⟩)
      refine Loop.data hw (S := Bd) (fun s => match s with | .start => fr 63 [(1, .ref 0 2 0 0), (2, .ref 1 2 0 0), (3, .ref 2 2 0 0), (12, .list 3 es), (13, .int .i64 L), (14, .int .i64 i), (5, .ref 4 3 0 0), (6, .ref 5 3 0 0), (24, .list 2 q1), (25, .int .i64 K), (26, .int .i64 0)] | .more k m fp => fr 63 [(1, .ref 0 2 0 0), (2, .ref 1 2 0 0), (3, .ref 2 2 0 0), (12, .list 3 es), (13, .int .i64 L), (14, .int .i64 i), (5, .ref 4 3 0 0), (6, .ref 5 3 0 0), (24, .list 2 q1), (25, .int .i64 K), (26, .int .i64 k)])
        (fun s => match s with | .start => [.live 2 [[.list 3 es, .list 5 ds]], .live 2 [[.nils, .nils]], .live 2 [[.sl 3 3 0 n, .nils]], .live 3 fs, .live 3 [[.int .i64 len, .list 2 q1, .list 1 n1]], .live 3 [[.int .i64 len, .nils, .list 1 n1]]] | .more k m fp => [.live 2 [[.list 3 es, .list 5 ds]], .live 2 [[.nils, .nils]], .live 2 [[.sl 3 3 0 n, .nils]], .live 3 fs, .live 3 [[.int .i64 len, .list 2 q1, .list 1 n1]], .live 3 [[.int .i64 len, .sl 6 2 0 m, .list 1 n1]], .live 2 fp]) (Bd.Ok q1) (Bd.left q1) .start (by (refine Wk.eqz (id) (by first | exact fun i _ j _ e => e | (simp only [List.length_cons, List.length_nil]; decide)) ?_; cbv; (repeat' (first | exact trivial | rfl | assumption | apply And.intro | (simp only [hbin, hcmp, hun, hconv, hnot, hbeq, hmm, hscmp, hsadd, hslen, hsat, heqs, hofNat, binStd, cmpStd, unStd, scmpStd, maxI, Bool.not_eq_true', Bool.not_eq_false', decide_eq_true_eq, decide_eq_false_iff_not, Int.not_lt, Int.not_le, if_true, if_false, Bool.false_eq_true, beq_iff_eq, bne_iff_ne, ne_eq, Bool.not_eq_eq_eq_not, Bool.not_true, Bool.not_false, beq_eq_false_iff_ne, bne_eq_false_iff_eq, Int.ofNat_eq_natCast, Bool.not_not, not_true_eq_false, not_false_eq_true, reduceCtorEq]; first | done | assumption) | exact RowsZ.same (by assumption) (by first | assumption | rfl) | exact FzL.mk rfl rfl rfl (by assumption) (by first | assumption | rfl) (by decide) | (refine RowsZ.one ?_; cbv))))) trivial ?_
      rintro (_ | ⟨k, m, fp⟩) hinv2 Q2 hN2 hE2 hR2
      · cbv
        (split <;> rename_i hc2 <;> (try (simp only [hbin, hcmp, hun, hconv, hnot, hbeq, hmm, hscmp, hsadd, hslen, hsat, heqs, hofNat, binStd, cmpStd, unStd, scmpStd, maxI, Bool.not_eq_true', Bool.not_eq_false', decide_eq_true_eq, decide_eq_false_iff_not, Int.not_lt, Int.not_le, if_true, if_false, Bool.false_eq_true, beq_iff_eq, bne_iff_ne, ne_eq, Bool.not_eq_eq_eq_not, Bool.not_true, Bool.not_false, beq_eq_false_iff_ne, bne_eq_false_iff_eq, Int.ofNat_eq_natCast, Bool.not_not, not_true_eq_false, not_false_eq_true, reduceCtorEq] at hc2)) <;> (try cbv))
        · obtain ⟨⟨a, b⟩, hd2, hrow2⟩ := get_map (f := pcRow) (ds := ps) (i := 0) (Int.le_refl 0) (by omega)
          have hrow2 : q1[(0 : Int).toNat]? = some [.int .i64 a, .int .i64 b] := by rw [← eq1]; exact hrow2
          refine Idx.mk [.int .i64 a, .int .i64 b] (by decide) hrow2 ?_
          cbv
          refine Ob.mk (by decide) ?_
          cbv
          have hU2 : Up0 [[AV.int .i64 a, .int .i64 b]] := ⟨rfl⟩
          have ei2 : wbin .add .i64 0 1 = 1 := by rw [hbin]; rfl
          refine hN2 (Bd.more 1 1 [[.int .i64 a, .int .i64 b]]) _ _ ?hx ?hi ?ht
          case hx => (refine Wk.eqz (fun j => [0, 1, 2, 3, 4, 5, 7].getD j 0) (by first | exact fun i _ j _ e => e | (simp only [List.length_cons, List.length_nil]; decide)) ?_; cbv; (repeat' (first | exact trivial | rfl | assumption | apply And.intro | (simp only [hbin, hcmp, hun, hconv, hnot, hbeq, hmm, hscmp, hsadd, hslen, hsat, heqs, hofNat, binStd, cmpStd, unStd, scmpStd, maxI, Bool.not_eq_true', Bool.not_eq_false', decide_eq_true_eq, decide_eq_false_iff_not, Int.not_lt, Int.not_le, if_true, if_false, Bool.false_eq_true, beq_iff_eq, bne_iff_ne, ne_eq, Bool.not_eq_eq_eq_not, Bool.not_true, Bool.not_false, beq_eq_false_iff_ne, bne_eq_false_iff_eq, Int.ofNat_eq_natCast, Bool.not_not, not_true_eq_false, not_false_eq_true, reduceCtorEq]; first | done | assumption) | exact RowsZ.same (by assumption) (by first | assumption | rfl) | exact FzL.mk rfl rfl rfl (by assumption) (by first | assumption | rfl) (by decide) | (refine RowsZ.one ?_; cbv))))
          case hi => exact ⟨by decide, by omega, (take_row (Int.le_refl 0) hrow2).symm, rfl, hU2⟩
          case ht => simp only [Bd.left]; omega
        · refine hE2 _ _ _ ?_
          cbv
          have hq0 : q1 = [] := List.length_eq_zero_iff.1 (by omega)
          obtain ⟨fx, efx⟩ : ∃ x, fs ++ [[AV.int .i64 len, .nils, .list 1 n1]] = x := ⟨_, rfl⟩
          refine App.mk fx n' efx.symm hnf en'.symm (by omega) (by omega) ?_
          cbv
          refine hN (Bd.more i' n' fw) _ _ ?hx ?hi ?ht
          case hx => (refine Wk.eqz (fun j => [0, 1, 2, 6].getD j 0) (by first | exact fun i _ j _ e => e | (simp only [List.length_cons, List.length_nil]; decide)) ?_; cbv; (repeat' (first | exact trivial | rfl | assumption | (refine RowsZ.app huf efx.symm efw.symm ?_; cbv) | apply And.intro | (simp only [hbin, hcmp, hun, hconv, hnot, hbeq, hmm, hscmp, hsadd, hslen, hsat, heqs, hofNat, binStd, cmpStd, unStd, scmpStd, maxI, Bool.not_eq_true', Bool.not_eq_false', decide_eq_true_eq, decide_eq_false_iff_not, Int.not_lt, Int.not_le, if_true, if_false, Bool.false_eq_true, beq_iff_eq, bne_iff_ne, ne_eq, Bool.not_eq_eq_eq_not, Bool.not_true, Bool.not_false, beq_eq_false_iff_ne, bne_eq_false_iff_eq, Int.ofNat_eq_natCast, Bool.not_not, not_true_eq_false, not_false_eq_true, reduceCtorEq]; first | done | assumption) | exact RowsZ.same (by assumption) (by first | assumption | rfl) | exact FzL.mk rfl rfl rfl (by assumption) (by first | assumption | rfl) (by decide) | (refine RowsZ.one ?_; cbv))))
          case hi => exact hI1
          case ht => exact hT1
      · cbv
        obtain ⟨hk0, hk1, hfp, hmf, hup⟩ : 0 < k ∧ k.toNat ≤ q1.length ∧ fp = q1.take k.toNat ∧ m = fp.length ∧ Up0 fp := hinv2
        (split <;> rename_i hc2 <;> (try (simp only [hbin, hcmp, hun, hconv, hnot, hbeq, hmm, hscmp, hsadd, hslen, hsat, heqs, hofNat, binStd, cmpStd, unStd, scmpStd, maxI, Bool.not_eq_true', Bool.not_eq_false', decide_eq_true_eq, decide_eq_false_iff_not, Int.not_lt, Int.not_le, if_true, if_false, Bool.false_eq_true, beq_iff_eq, bne_iff_ne, ne_eq, Bool.not_eq_eq_eq_not, Bool.not_true, Bool.not_false, beq_eq_false_iff_ne, bne_eq_false_iff_eq, Int.ofNat_eq_natCast, Bool.not_not, not_true_eq_false, not_false_eq_true, reduceCtorEq] at hc2)) <;> (try cbv))
        · obtain ⟨⟨a, b⟩, hd2, hrow2⟩ := get_map (f := pcRow) (ds := ps) (i := k) (by omega) (by omega)
          have hrow2 : q1[k.toNat]? = some [.int .i64 a, .int .i64 b] := by rw [← eq1]; exact hrow2
          refine Idx.mk [.int .i64 a, .int .i64 b] (by omega) hrow2 ?_
          cbv
          obtain ⟨k', ek'⟩ : ∃ x, k + 1 = x := ⟨_, rfl⟩
          have ek : wbin .add .i64 k 1 = k' := by rw [hbin, i_add (by omega) (by omega)]; exact ek'
          obtain ⟨fp', efp⟩ : ∃ x, fp ++ [[AV.int .i64 a, .int .i64 b]] = x := ⟨_, rfl⟩
          have hfl2 : fp'.length = m + 1 := by rw [← efp, hmf]; simp
          have hft2 : fp' = q1.take k'.toNat := by rw [← efp, ← ek', take_row (by omega) hrow2, hfp]
          have hup' : Up0 fp' := by rw [hft2]; exact up_take huq _
          obtain ⟨m', em'⟩ : ∃ x, m + 1 = x := ⟨_, rfl⟩
          have hml : m = k.toNat := by rw [hmf, hfp, List.length_take]; omega
          refine App.mk fp' m' efp.symm hmf em'.symm (by omega) (by omega) ?_
          cbv
          refine hN2 (Bd.more k' m' fp') _ _ ?hx ?hi ?ht
          case hx => (refine Wk.eqz (fun j => [0, 1, 2, 3, 4, 5, 8].getD j 0) (by first | exact fun i _ j _ e => e | (simp only [List.length_cons, List.length_nil]; decide)) ?_; cbv; (repeat' (first | exact trivial | rfl | assumption | apply And.intro | (simp only [hbin, hcmp, hun, hconv, hnot, hbeq, hmm, hscmp, hsadd, hslen, hsat, heqs, hofNat, binStd, cmpStd, unStd, scmpStd, maxI, Bool.not_eq_true', Bool.not_eq_false', decide_eq_true_eq, decide_eq_false_iff_not, Int.not_lt, Int.not_le, if_true, if_false, Bool.false_eq_true, beq_iff_eq, bne_iff_ne, ne_eq, Bool.not_eq_eq_eq_not, Bool.not_true, Bool.not_false, beq_eq_false_iff_ne, bne_eq_false_iff_eq, Int.ofNat_eq_natCast, Bool.not_not, not_true_eq_false, not_false_eq_true, reduceCtorEq]; first | done | assumption) | exact RowsZ.same (by assumption) (by first | assumption | rfl) | exact FzL.mk rfl rfl rfl (by assumption) (by first | assumption | rfl) (by decide) | (refine RowsZ.one ?_; cbv))))
          case hi => exact ⟨by omega, by omega, hft2, by omega, hup'⟩
          case ht => simp only [Bd.left]; omega
        · refine hE2 _ _ _ ?_
          cbv
          have hq : fp = q1 := by rw [hfp, List.take_of_length_le (by omega)]
          have hmq : m = q1.length := by rw [hmf, hq]
          clear hfp
          subst fp
          obtain ⟨fx, efx⟩ : ∃ x, fs ++ [[AV.int .i64 len, .sl 6 2 0 m, .list 1 n1]] = x := ⟨_, rfl⟩
          refine App.mk fx n' efx.symm hnf en'.symm (by omega) (by omega) ?_
          cbv
          refine hN (Bd.more i' n' fw) _ _ ?hx ?hi ?ht
          case hx => (refine Wk.eqz (fun j => [0, 1, 2, 7].getD j 0) (by first | exact fun i _ j _ e => e | (simp only [List.length_cons, List.length_nil]; decide)) ?_; cbv; (repeat' (first | exact trivial | rfl | assumption | (refine RowsZ.app huf efx.symm efw.symm ?_; cbv) | apply And.intro | (simp only [hbin, hcmp, hun, hconv, hnot, hbeq, hmm, hscmp, hsadd, hslen, hsat, heqs, hofNat, binStd, cmpStd, unStd, scmpStd, maxI, Bool.not_eq_true', Bool.not_eq_false', decide_eq_true_eq, decide_eq_false_iff_not, Int.not_lt, Int.not_le, if_true, if_false, Bool.false_eq_true, beq_iff_eq, bne_iff_ne, ne_eq, Bool.not_eq_eq_eq_not, Bool.not_true, Bool.not_false, beq_eq_false_iff_ne, bne_eq_false_iff_eq, Int.ofNat_eq_natCast, Bool.not_not, not_true_eq_false, not_false_eq_true, reduceCtorEq]; first | done | assumption) | exact RowsZ.same (by assumption) (by first | assumption | rfl) | exact FzL.mk rfl rfl rfl (by assumption) (by first | assumption | rfl) (by decide) | (refine RowsZ.one ?_; cbv))))
          case hi => exact hI1
          case ht => exact hT1
    · refine hE _ _ _ ?_
      cbv
      have hfe : fs = es := by rw [hfs, List.take_of_length_le (by omega)]
      have hne : n = es.length := by rw [hnf, hfe]
      subst hfe
      (obtain ⟨J, eJ, J0, Jn⟩ : ∃ L : Int, wlen ds = L ∧ 0 ≤ L ∧ L.toNat = ds.length := ⟨(ds.length : Int), by rw [hlen], Int.natCast_nonneg _, Int.toNat_natCast _⟩)
      refine Loop.data hw (S := Bd) (fun s => match s with | .start => fr 63 [(2, .ref 1 2 0 0), (3, .ref 2 2 0 0), (49, .list 5 ds), (50, .int .i64 J), (51, .int .i64 0)] | .more k m fp => fr 63 [(2, .ref 1 2 0 0), (3, .ref 2 2 0 0), (49, .list 5 ds), (50, .int .i64 J), (51, .int .i64 k)])
        (fun s => match s with | .start => [.live 2 [[.list 3 fs, .list 5 ds]], .live 2 [[.nils, .nils]], .live 2 [[.list 3 fs, .nils]]] | .more k m fp => [.live 2 [[.list 3 fs, .list 5 ds]], .live 2 [[.nils, .nils]], .live 2 [[.list 3 fs, .sl 3 5 0 m]], .live 5 fp]) (Bd.Ok ds) (Bd.left ds) .start (by (refine Wk.eqz (id) (by first | exact fun i _ j _ e => e | (simp only [List.length_cons, List.length_nil]; decide)) ?_; cbv; (repeat' (first | exact trivial | rfl | assumption | apply And.intro | (simp only [hbin, hcmp, hun, hconv, hnot, hbeq, hmm, hscmp, hsadd, hslen, hsat, heqs, hofNat, binStd, cmpStd, unStd, scmpStd, maxI, Bool.not_eq_true', Bool.not_eq_false', decide_eq_true_eq, decide_eq_false_iff_not, Int.not_lt, Int.not_le, if_true, if_false, Bool.false_eq_true, beq_iff_eq, bne_iff_ne, ne_eq, Bool.not_eq_eq_eq_not, Bool.not_true, Bool.not_false, beq_eq_false_iff_ne, bne_eq_false_iff_eq, Int.ofNat_eq_natCast, Bool.not_not, not_true_eq_false, not_false_eq_true, reduceCtorEq]; first | done | assumption) | exact RowsZ.same (by assumption) (by first | assumption | rfl) | exact FzL.mk rfl rfl rfl (by assumption) (by first | assumption | rfl) (by decide) | (refine RowsZ.one ?_; cbv))))) trivial ?_
      rintro (_ | ⟨k, m, fp⟩) hinv2 Q2 hN2 hE2 hR2
      · cbv
        (split <;> rename_i hc2 <;> (try (simp only [hbin, hcmp, hun, hconv, hnot, hbeq, hmm, hscmp, hsadd, hslen, hsat, heqs, hofNat, binStd, cmpStd, unStd, scmpStd, maxI, Bool.not_eq_true', Bool.not_eq_false', decide_eq_true_eq, decide_eq_false_iff_not, Int.not_lt, Int.not_le, if_true, if_false, Bool.false_eq_true, beq_iff_eq, bne_iff_ne, ne_eq, Bool.not_eq_eq_eq_not, Bool.not_true, Bool.not_false, beq_eq_false_iff_ne, bne_eq_false_iff_eq, Int.ofNat_eq_natCast, Bool.not_not, not_true_eq_false, not_false_eq_true, reduceCtorEq] at hc2)) <;> (try cbv))
        · obtain ⟨⟨a1, a2, a3, a4, a5⟩, hd2, hrow2⟩ := get_map (f := grRow) (ds := gs) (i := 0) (Int.le_refl 0) (by omega)
          have hrow2 : ds[(0 : Int).toNat]? = some [.int .i64 a1, .int .i64 a2, .int .i64 a3, .int .i64 a4, .int .i64 a5] := by rw [hds]; exact hrow2
          refine Idx.mk [.int .i64 a1, .int .i64 a2, .int .i64 a3, .int .i64 a4, .int .i64 a5] (by decide) hrow2 ?_
          cbv
          refine Ob.mk (by decide) ?_
          cbv
          have hU2 : Up0 [[AV.int .i64 a1, .int .i64 a2, .int .i64 a3, .int .i64 a4, .int .i64 a5]] := ⟨rfl⟩
          have ei2 : wbin .add .i64 0 1 = 1 := by rw [hbin]; rfl
          refine hN2 (Bd.more 1 1 [[.int .i64 a1, .int .i64 a2, .int .i64 a3, .int .i64 a4, .int .i64 a5]]) _ _ ?hx ?hi ?ht
          case hx => (refine Wk.eqz (fun j => [0, 1, 2, 4].getD j 0) (by first | exact fun i _ j _ e => e | (simp only [List.length_cons, List.length_nil]; decide)) ?_; cbv; (repeat' (first | exact trivial | rfl | assumption | apply And.intro | (simp only [hbin, hcmp, hun, hconv, hnot, hbeq, hmm, hscmp, hsadd, hslen, hsat, heqs, hofNat, binStd, cmpStd, unStd, scmpStd, maxI, Bool.not_eq_true', Bool.not_eq_false', decide_eq_true_eq, decide_eq_false_iff_not, Int.not_lt, Int.not_le, if_true, if_false, Bool.false_eq_true, beq_iff_eq, bne_iff_ne, ne_eq, Bool.not_eq_eq_eq_not, Bool.not_true, Bool.not_false, beq_eq_false_iff_ne, bne_eq_false_iff_eq, Int.ofNat_eq_natCast, Bool.not_not, not_true_eq_false, not_false_eq_true, reduceCtorEq]; first | done | assumption) | exact RowsZ.same (by assumption) (by first | assumption | rfl) | exact FzL.mk rfl rfl rfl (by assumption) (by first | assumption | rfl) (by decide) | (refine RowsZ.one ?_; cbv))))
          case hi => exact ⟨by decide, by omega, (take_row (Int.le_refl 0) hrow2).symm, rfl, hU2⟩
          case ht => simp only [Bd.left]; omega
        · refine hE2 _ _ _ ?_
          cbv
          have hd0 : ds = [] := List.length_eq_zero_iff.1 (by omega)
          exact ⟨_, Vw.agg (rs := [.list 3 fs, .list 5 []]) ⟨Vw.same hu.list, Vw.nil 5, trivial⟩, hR _ (by rw [hd0])⟩
      · cbv
        obtain ⟨hk0, hk1, hfp, hmf, hup⟩ : 0 < k ∧ k.toNat ≤ ds.length ∧ fp = ds.take k.toNat ∧ m = fp.length ∧ Up0 fp := hinv2
        (split <;> rename_i hc2 <;> (try (simp only [hbin, hcmp, hun, hconv, hnot, hbeq, hmm, hscmp, hsadd, hslen, hsat, heqs, hofNat, binStd, cmpStd, unStd, scmpStd, maxI, Bool.not_eq_true', Bool.not_eq_false', decide_eq_true_eq, decide_eq_false_iff_not, Int.not_lt, Int.not_le, if_true, if_false, Bool.false_eq_true, beq_iff_eq, bne_iff_ne, ne_eq, Bool.not_eq_eq_eq_not, Bool.not_true, Bool.not_false, beq_eq_false_iff_ne, bne_eq_false_iff_eq, Int.ofNat_eq_natCast, Bool.not_not, not_true_eq_false, not_false_eq_true, reduceCtorEq] at hc2)) <;> (try cbv))
        · obtain ⟨⟨a1, a2, a3, a4, a5⟩, hd2, hrow2⟩ := get_map (f := grRow) (ds := gs) (i := k) (by omega) (by omega)
          have hrow2 : ds[k.toNat]? = some [.int .i64 a1, .int .i64 a2, .int .i64 a3, .int .i64 a4, .int .i64 a5] := by rw [hds]; exact hrow2
          refine Idx.mk [.int .i64 a1, .int .i64 a2, .int .i64 a3, .int .i64 a4, .int .i64 a5] (by omega) hrow2 ?_
          cbv
          obtain ⟨k', ek'⟩ : ∃ x, k + 1 = x := ⟨_, rfl⟩
          have ek : wbin .add .i64 k 1 = k' := by rw [hbin, i_add (by omega) (by omega)]; exact ek'
          obtain ⟨fp', efp⟩ : ∃ x, fp ++ [[AV.int .i64 a1, .int .i64 a2, .int .i64 a3, .int .i64 a4, .int .i64 a5]] = x := ⟨_, rfl⟩
          have hfl2 : fp'.length = m + 1 := by rw [← efp, hmf]; simp
          have hft2 : fp' = ds.take k'.toNat := by rw [← efp, ← ek', take_row (by omega) hrow2, hfp]
          have hup' : Up0 fp' := by rw [hft2]; exact up_take hud _
          obtain ⟨m', em'⟩ : ∃ x, m + 1 = x := ⟨_, rfl⟩
          have hml : m = k.toNat := by rw [hmf, hfp, List.length_take]; omega
          refine App.mk fp' m' efp.symm hmf em'.symm (by omega) (by omega) ?_
          cbv
          refine hN2 (Bd.more k' m' fp') _ _ ?hx ?hi ?ht
          case hx => (refine Wk.eqz (fun j => [0, 1, 2, 5].getD j 0) (by first | exact fun i _ j _ e => e | (simp only [List.length_cons, List.length_nil]; decide)) ?_; cbv; (repeat' (first | exact trivial | rfl | assumption | apply And.intro | (simp only [hbin, hcmp, hun, hconv, hnot, hbeq, hmm, hscmp, hsadd, hslen, hsat, heqs, hofNat, binStd, cmpStd, unStd, scmpStd, maxI, Bool.not_eq_true', Bool.not_eq_false', decide_eq_true_eq, decide_eq_false_iff_not, Int.not_lt, Int.not_le, if_true, if_false, Bool.false_eq_true, beq_iff_eq, bne_iff_ne, ne_eq, Bool.not_eq_eq_eq_not, Bool.not_true, Bool.not_false, beq_eq_false_iff_ne, bne_eq_false_iff_eq, Int.ofNat_eq_natCast, Bool.not_not, not_true_eq_false, not_false_eq_true, reduceCtorEq]; first | done | assumption) | exact RowsZ.same (by assumption) (by first | assumption | rfl) | exact FzL.mk rfl rfl rfl (by assumption) (by first | assumption | rfl) (by decide) | (refine RowsZ.one ?_; cbv))))
          case hi => exact ⟨by omega, by omega, hft2, by omega, hup'⟩
          case ht => simp only [Bd.left]; omega
        · refine hE2 _ _ _ ?_
          cbv
          have hq : fp = ds := by rw [hfp, List.take_of_length_le (by omega)]
          refine ⟨_, Vw.agg (rs := [.list 3 fs, .list 5 _]) ⟨Vw.same hu.list, Vw.sl rfl hup.get (by omega), trivial⟩, hR _ ?_⟩
          rw [List.drop_zero, List.take_of_length_le (by omega), hq]
end Go.Proofs.Ytpiocfmdjgbamaa

/- What the statements of layer 14 ask first, by the engine. -/
set_option linter.unusedVariables false
set_option linter.unusedSimpArgs false
namespace Go.Proofs.Ytpiocfmdjgbamaa
open Go Go.RowKit Go.Eng
set_option maxRecDepth 100000
structure May14 (ss : List Sg) (gs : List Gr) (segment from_ : Int) : Prop where
  tr : TrackOk ss gs
  ps : ∀ s, s ∈ ss → s.ps.length ≤ 1000
  n300 : ss.length ≤ 300
  g500 : gs.length ≤ 500
  seg : 0 ≤ segment ∧ segment.toNat < ss.length
  fr : 0 ≤ from_ ∧ from_ ≤ 1099511627776
set_option maxHeartbeats 2000000 in
theorem e_may14 (ss : List Sg) (gs : List Gr) (es ds : List (List AV)) (hes : es = ss.map sgRow) (hds : ds = gs.map grRow) (segment from_ : Int) :
    PCalls Try.prog 13 [.agg [.list 3 es, .list 5 ds], .int .i64 segment, .int .i64 from_] (fun r => ∃ o : Bool, r = .bool o ∧ (o = true → May14 ss gs segment from_)) := by
  have hu : Up0 es := by rw [hes]; exact up_sg ss
  have hud : Up0 ds := by rw [hds]; exact up_gr gs
  have hel : es.length = ss.length := by rw [hes]; simp
  have hdl : ds.length = gs.length := by rw [hds]; simp
  have hut : uptoL 0 [.agg [.list 3 es, .list 5 ds]] = true := Bool.and_eq_true_iff.mpr ⟨Up0.one hu (Up0.one hud rfl), rfl⟩
  (refine PCalls.ofY Try.func13 (by kernel_rfl) (by kernel_rfl) fun w hw R hR => ?_); (obtain ⟨wbin, wcmp, wun, wconv, wnot, wbeq, wmm, wscmp, wsadd, wslen, wsat, weqs, wlen, wnlen, wofNat, wtake, wdrop, wapp, wzero, wnat⟩ := w); (have hbin : wbin = binStd := congrArg Prims.bin hw); (have hcmp : wcmp = cmpStd := congrArg Prims.cmp hw); (have hun : wun = unStd := congrArg Prims.un hw); (have hconv : wconv = fun k n => k.wrap n := congrArg Prims.conv hw); (have hnot : wnot = fun b => !b := congrArg Prims.not hw); (have hbeq : wbeq = fun a b => a == b := congrArg Prims.beq hw); (have hmm : wmm = maxI := congrArg Prims.mm hw); (have hscmp : wscmp = scmpStd := congrArg Prims.scmp hw); (have hsadd : wsadd = fun x y => x ++ y := congrArg Prims.sadd hw); (have hslen : wslen = fun s => (s.size : Int) := congrArg Prims.slen hw); (have hsat : wsat = std.sat := congrArg Prims.sat hw); (have heqs : weqs = fun a b os => (eqOffs a b os).getD false := congrArg Prims.eqs hw); (have hlen : wlen = fun es => (es.length : Int) := congrArg Prims.len hw); (have hnlen : wnlen = fun es => es.length := congrArg Prims.nlen hw); (have hofNat : wofNat = (fun n : Nat => (n : Int)) := congrArg Prims.ofNat hw); (have htake : wtake = fun es b => es.take b.toNat := congrArg Prims.take hw); (have hdrop : wdrop = fun es a => es.drop a.toNat := congrArg Prims.drop hw); (have happ : wapp = fun a b => a ++ b := congrArg Prims.app hw); (have hzero : wzero = fun n z => List.replicate n.toNat z := congrArg Prims.zero hw); (have hnat : wnat = fun n => n.toNat := congrArg Prims.nat hw); (conv => arg 2; cbv); (generalize hP : Try.prog = P); cbv
  (obtain ⟨L, eL, L0, Ln⟩ : ∃ L : Int, wlen es = L ∧ 0 ≤ L ∧ L.toNat = es.length := ⟨(es.length : Int), by rw [hlen], Int.natCast_nonneg _, Int.toNat_natCast _⟩)
  (obtain ⟨J, eJ, J0, Jn⟩ : ∃ L : Int, wlen ds = L ∧ 0 ≤ L ∧ L.toNat = ds.length := ⟨(ds.length : Int), by rw [hlen], Int.natCast_nonneg _, Int.toNat_natCast _⟩)
  have hF : R (.bool false) := hR _ ⟨_, rfl, fun h => (by cases h)⟩
  repeat' (first | exact ⟨_, Vw.same rfl, hF⟩ | (split <;> rename_i h <;> (try (simp only [eL, eJ] at h)) <;> (try (simp only [hbin, hcmp, hun, hconv, hnot, hbeq, hmm, hscmp, hsadd, hslen, hsat, heqs, hofNat, binStd, cmpStd, unStd, scmpStd, maxI, Bool.not_eq_true', Bool.not_eq_false', decide_eq_true_eq, decide_eq_false_iff_not, Int.not_lt, Int.not_le, if_true, if_false, Bool.false_eq_true, beq_iff_eq, bne_iff_ne, ne_eq, Bool.not_eq_eq_eq_not, Bool.not_true, Bool.not_false, beq_eq_false_iff_ne, bne_eq_false_iff_eq, Int.ofNat_eq_natCast, Bool.not_not, not_true_eq_false, not_false_eq_true, reduceCtorEq] at h)) <;> (try cbv)))
  have hb : ss.length ≤ 300 ∧ gs.length ≤ 500 := by omega
  obtain ⟨b1, b2⟩ := hb
  simp only [eL]
  refine Loop.data hw (S := Int) (fun i => fr 72 [(1, .int .i64 segment), (2, .int .i64 from_), (3, .ref 0 2 0 0), (22, .list 3 es), (23, .int .i64 L), (24, .int .i64 i)]) (fun i => [.live 2 [[.list 3 es, .list 5 ds]]]) (fun i => 0 ≤ i ∧ i ≤ L ∧ ∀ j, j < i.toNat → ∀ s, ss[j]? = some s → s.ps.length ≤ 100) (fun i => (L - i).toNat) 0 (by (refine Wk.eqz (id) (by first | exact fun i _ j _ e => e | (simp only [List.length_cons, List.length_nil]; decide)) ?_; cbv; (repeat' (first | exact trivial | rfl | assumption | apply And.intro | (simp only [hbin, hcmp, hun, hconv, hnot, hbeq, hmm, hscmp, hsadd, hslen, hsat, heqs, hofNat, binStd, cmpStd, unStd, scmpStd, maxI, Bool.not_eq_true', Bool.not_eq_false', decide_eq_true_eq, decide_eq_false_iff_not, Int.not_lt, Int.not_le, if_true, if_false, Bool.false_eq_true, beq_iff_eq, bne_iff_ne, ne_eq, Bool.not_eq_eq_eq_not, Bool.not_true, Bool.not_false, beq_eq_false_iff_ne, bne_eq_false_iff_eq, Int.ofNat_eq_natCast, Bool.not_not, not_true_eq_false, not_false_eq_true, reduceCtorEq]; first | done | assumption) | exact RowsZ.same (by assumption) (by first | assumption | rfl) | exact FzL.mk rfl rfl rfl (by assumption) (by first | assumption | rfl) (by decide) | (refine RowsZ.one ?_; cbv))))) ⟨Int.le_refl _, L0, fun j hj => (by simp at hj)⟩ ?_
  rintro i hinv Q' hN hE hR'
  have hinv : 0 ≤ i ∧ i ≤ L ∧ ∀ j, j < i.toNat → ∀ s, ss[j]? = some s → s.ps.length ≤ 100 := hinv
  cbv
  obtain ⟨hi0, hi1, hl⟩ := hinv
  (split <;> rename_i hc <;> (try (simp only [hbin, hcmp, hun, hconv, hnot, hbeq, hmm, hscmp, hsadd, hslen, hsat, heqs, hofNat, binStd, cmpStd, unStd, scmpStd, maxI, Bool.not_eq_true', Bool.not_eq_false', decide_eq_true_eq, decide_eq_false_iff_not, Int.not_lt, Int.not_le, if_true, if_false, Bool.false_eq_true, beq_iff_eq, bne_iff_ne, ne_eq, Bool.not_eq_eq_eq_not, Bool.not_true, Bool.not_false, beq_eq_false_iff_ne, bne_eq_false_iff_eq, Int.ofNat_eq_natCast, Bool.not_not, not_true_eq_false, not_false_eq_true, reduceCtorEq] at hc)) <;> (try cbv))
  · obtain ⟨⟨len, ps, nx⟩, hd, hrow⟩ := get_map (f := sgRow) (ds := ss) (i := i) hi0 (by omega)
    obtain ⟨q1, eq1⟩ : ∃ x, ps.map pcRow = x := ⟨_, rfl⟩
    obtain ⟨n1, en1⟩ : ∃ x, nx.map nxRow = x := ⟨_, rfl⟩
    have hrow : es[i.toNat]? = some [.int .i64 len, .list 2 q1, .list 1 n1] := by rw [hes, ← eq1, ← en1]; exact hrow
    have hql : q1.length = ps.length := by rw [← eq1]; simp
    (obtain ⟨K, eK, K0, Kn⟩ : ∃ L : Int, wlen q1 = L ∧ 0 ≤ L ∧ L.toNat = q1.length := ⟨(q1.length : Int), by rw [hlen], Int.natCast_nonneg _, Int.toNat_natCast _⟩)
    obtain ⟨i', ei'⟩ : ∃ x, i + 1 = x := ⟨_, rfl⟩
    have ei : wbin .add .i64 i 1 = i' := by rw [hbin, i_add (by omega) (by omega)]; exact ei'
    have hT : (L - i').toNat < (L - i).toNat := by omega
    refine Idx.mk [.int .i64 len, .list 2 q1, .list 1 n1] hi0 hrow ?_
    cbv
    repeat' (first | exact hR' _ _ ⟨_, Vw.same rfl, hF⟩ | (split <;> rename_i h <;> (try (simp only [eK] at h)) <;> (try (simp only [hbin, hcmp, hun, hconv, hnot, hbeq, hmm, hscmp, hsadd, hslen, hsat, heqs, hofNat, binStd, cmpStd, unStd, scmpStd, maxI, Bool.not_eq_true', Bool.not_eq_false', decide_eq_true_eq, decide_eq_false_iff_not, Int.not_lt, Int.not_le, if_true, if_false, Bool.false_eq_true, beq_iff_eq, bne_iff_ne, ne_eq, Bool.not_eq_eq_eq_not, Bool.not_true, Bool.not_false, beq_eq_false_iff_ne, bne_eq_false_iff_eq, Int.ofNat_eq_natCast, Bool.not_not, not_true_eq_false, not_false_eq_true, reduceCtorEq] at h)) <;> (try cbv)))
    refine hN i' _ _ ?hx ?hI hT
    case hx => (refine Wk.eqz (id) (by first | exact fun i _ j _ e => e | (simp only [List.length_cons, List.length_nil]; decide)) ?_; cbv; (repeat' (first | exact trivial | rfl | assumption | apply And.intro | (simp only [hbin, hcmp, hun, hconv, hnot, hbeq, hmm, hscmp, hsadd, hslen, hsat, heqs, hofNat, binStd, cmpStd, unStd, scmpStd, maxI, Bool.not_eq_true', Bool.not_eq_false', decide_eq_true_eq, decide_eq_false_iff_not, Int.not_lt, Int.not_le, if_true, if_false, Bool.false_eq_true, beq_iff_eq, bne_iff_ne, ne_eq, Bool.not_eq_eq_eq_not, Bool.not_true, Bool.not_false, beq_eq_false_iff_ne, bne_eq_false_iff_eq, Int.ofNat_eq_natCast, Bool.not_not, not_true_eq_false, not_false_eq_true, reduceCtorEq]; first | done | assumption) | exact RowsZ.same (by assumption) (by first | assumption | rfl) | exact FzL.mk rfl rfl rfl (by assumption) (by first | assumption | rfl) (by decide) | (refine RowsZ.one ?_; cbv))))
    case hI =>
      refine ⟨by omega, by omega, ?_⟩
      rw [← ei']
      refine all_step hi0 hl fun m hm => ?_
      rw [hd] at hm
      obtain rfl : (⟨len, ps, nx⟩ : Sg) = m := by simpa using hm
      simp only; omega
  refine hE _ _ _ ?_
  cbv
  have hps : ∀ s, s ∈ ss → s.ps.length ≤ 1000 := fun s hs => by
    obtain ⟨j, hj⟩ := List.mem_iff_getElem?.1 hs
    have := hl j (by have := (List.getElem?_eq_some_iff.1 hj).1; omega) s hj
    omega
  refine Call.stepE (by rw [← hP]; exact e_refsT14 ss gs es ds hes hds (by omega) (by omega) hps) (by exact hut) ?_
  cbv
  refine Call.step (by rw [← hP]; exact e_check11 ss gs es ds hes hds) (by exact hut) ?_
  rintro r ⟨e, i, rfl, hok⟩
  cbv
  (split <;> rename_i h1 <;> (try (simp only [hbin, hcmp, hun, hconv, hnot, hbeq, hmm, hscmp, hsadd, hslen, hsat, heqs, hofNat, binStd, cmpStd, unStd, scmpStd, maxI, Bool.not_eq_true', Bool.not_eq_false', decide_eq_true_eq, decide_eq_false_iff_not, Int.not_lt, Int.not_le, if_true, if_false, Bool.false_eq_true, beq_iff_eq, bne_iff_ne, ne_eq, Bool.not_eq_eq_eq_not, Bool.not_true, Bool.not_false, beq_eq_false_iff_ne, bne_eq_false_iff_eq, Int.ofNat_eq_natCast, Bool.not_not, not_true_eq_false, not_false_eq_true, reduceCtorEq] at h1)) <;> (try cbv))
  rotate_left 1
  · exact ⟨_, Vw.same rfl, hF⟩
  have hT := hok h1
  (split <;> rename_i h2 <;> (try (simp only [eL] at h2)) <;> (try (simp only [hbin, hcmp, hun, hconv, hnot, hbeq, hmm, hscmp, hsadd, hslen, hsat, heqs, hofNat, binStd, cmpStd, unStd, scmpStd, maxI, Bool.not_eq_true', Bool.not_eq_false', decide_eq_true_eq, decide_eq_false_iff_not, Int.not_lt, Int.not_le, if_true, if_false, Bool.false_eq_true, beq_iff_eq, bne_iff_ne, ne_eq, Bool.not_eq_eq_eq_not, Bool.not_true, Bool.not_false, beq_eq_false_iff_ne, bne_eq_false_iff_eq, Int.ofNat_eq_natCast, Bool.not_not, not_true_eq_false, not_false_eq_true, reduceCtorEq] at h2)) <;> (try cbv))
  rotate_left 1
  · exact ⟨_, Vw.same rfl, hF⟩
  (split <;> rename_i h3 <;> (try (simp only [eL] at h3)) <;> (try (simp only [hbin, hcmp, hun, hconv, hnot, hbeq, hmm, hscmp, hsadd, hslen, hsat, heqs, hofNat, binStd, cmpStd, unStd, scmpStd, maxI, Bool.not_eq_true', Bool.not_eq_false', decide_eq_true_eq, decide_eq_false_iff_not, Int.not_lt, Int.not_le, if_true, if_false, Bool.false_eq_true, beq_iff_eq, bne_iff_ne, ne_eq, Bool.not_eq_eq_eq_not, Bool.not_true, Bool.not_false, beq_eq_false_iff_ne, bne_eq_false_iff_eq, Int.ofNat_eq_natCast, Bool.not_not, not_true_eq_false, not_false_eq_true, reduceCtorEq] at h3)) <;> (try cbv))
  rotate_left 1
  · exact ⟨_, Vw.same rfl, hF⟩
  (split <;> rename_i h4 <;> (try (simp only [eL] at h4)) <;> (try (simp only [hbin, hcmp, hun, hconv, hnot, hbeq, hmm, hscmp, hsadd, hslen, hsat, heqs, hofNat, binStd, cmpStd, unStd, scmpStd, maxI, Bool.not_eq_true', Bool.not_eq_false', decide_eq_true_eq, decide_eq_false_iff_not, Int.not_lt, Int.not_le, if_true, if_false, Bool.false_eq_true, beq_iff_eq, bne_iff_ne, ne_eq, Bool.not_eq_eq_eq_not, Bool.not_true, Bool.not_false, beq_eq_false_iff_ne, bne_eq_false_iff_eq, Int.ofNat_eq_natCast, Bool.not_not, not_true_eq_false, not_false_eq_true, reduceCtorEq] at h4)) <;> (try cbv))
  rotate_left 1
  · exact ⟨_, Vw.same rfl, hF⟩
  obtain ⟨sg, hd, hrow⟩ := get_map (f := sgRow) (ds := ss) (i := segment) h2 (by omega)
  have hsg := hT.seg segment.toNat (by omega) sg hd
  obtain ⟨len, ps, nx⟩ := sg
  have hle : len ≤ 1099511627776 := hsg.le
  obtain ⟨q1, eq1⟩ : ∃ x, ps.map pcRow = x := ⟨_, rfl⟩
  obtain ⟨n1, en1⟩ : ∃ x, nx.map nxRow = x := ⟨_, rfl⟩
  have hrow : es[segment.toNat]? = some [.int .i64 len, .list 2 q1, .list 1 n1] := by rw [hes, ← eq1, ← en1]; exact hrow
  refine Idx.mk [.int .i64 len, .list 2 q1, .list 1 n1] h2 hrow ?_
  cbv
  refine ⟨_, Vw.same rfl, hR _ ⟨_, rfl, fun ho => ⟨hT, hps, b1, b2, ⟨h2, by omega⟩, ?_⟩⟩⟩
  rw [hcmp] at ho
  have : from_ ≤ len := by simpa [cmpStd] using ho
  omega
end Go.Proofs.Ytpiocfmdjgbamaa

/- route.Begin. -/
set_option linter.unusedVariables false
set_option linter.unusedSimpArgs false
namespace Go.Proofs.Ytpiocfmdjgbamaa
open Go Go.RowKit Go.Eng
set_option maxRecDepth 100000
theorem e_begin (a b v : Int) (hv : v = a) : PCalls Try.prog 18 [.int .i64 a, .int .i64 b] (· = .agg [.int .i64 b, .list 13 [[.int .i64 1, .int .i64 v, .int .i64 0, .int .i64 0, .int .i64 0, .int .i64 0, .int .i64 0, .int .i64 0, .int .i64 0, .int .i64 0, .int .i64 0, .int .i64 0, .int .i64 0]]]) := by
  subst hv
  (refine PCalls.ofY Try.func18 (by kernel_rfl) (by kernel_rfl) fun w hw R hR => ?_); (obtain ⟨wbin, wcmp, wun, wconv, wnot, wbeq, wmm, wscmp, wsadd, wslen, wsat, weqs, wlen, wnlen, wofNat, wtake, wdrop, wapp, wzero, wnat⟩ := w); (have hbin : wbin = binStd := congrArg Prims.bin hw); (have hcmp : wcmp = cmpStd := congrArg Prims.cmp hw); (have hun : wun = unStd := congrArg Prims.un hw); (have hconv : wconv = fun k n => k.wrap n := congrArg Prims.conv hw); (have hnot : wnot = fun b => !b := congrArg Prims.not hw); (have hbeq : wbeq = fun a b => a == b := congrArg Prims.beq hw); (have hmm : wmm = maxI := congrArg Prims.mm hw); (have hscmp : wscmp = scmpStd := congrArg Prims.scmp hw); (have hsadd : wsadd = fun x y => x ++ y := congrArg Prims.sadd hw); (have hslen : wslen = fun s => (s.size : Int) := congrArg Prims.slen hw); (have hsat : wsat = std.sat := congrArg Prims.sat hw); (have heqs : weqs = fun a b os => (eqOffs a b os).getD false := congrArg Prims.eqs hw); (have hlen : wlen = fun es => (es.length : Int) := congrArg Prims.len hw); (have hnlen : wnlen = fun es => es.length := congrArg Prims.nlen hw); (have hofNat : wofNat = (fun n : Nat => (n : Int)) := congrArg Prims.ofNat hw); (have htake : wtake = fun es b => es.take b.toNat := congrArg Prims.take hw); (have hdrop : wdrop = fun es a => es.drop a.toNat := congrArg Prims.drop hw); (have happ : wapp = fun a b => a ++ b := congrArg Prims.app hw); (have hzero : wzero = fun n z => List.replicate n.toNat z := congrArg Prims.zero hw); (have hnat : wnat = fun n => n.toNat := congrArg Prims.nat hw); (conv => arg 2; cbv); (generalize hP : Try.prog = P); cbv
  refine InN.mk (by decide) (by decide) ?_
  exact ⟨_, Vw.same rfl, hR _ rfl⟩
end Go.Proofs.Ytpiocfmdjgbamaa

