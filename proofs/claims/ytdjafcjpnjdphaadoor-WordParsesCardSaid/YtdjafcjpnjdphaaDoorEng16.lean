/- The engine, part 16: a statement whose order is open, as a whole. -/
import Derived.Test.YtdjafcjpnjdphaaDoorEng15
set_option linter.unusedVariables false
set_option linter.unusedSimpArgs false
namespace Go.Eng
open Go Go.RowKit
variable {P : Program} {h0 : AHeap}

theorem headB_spec {ops : List Oper} {al : List AOper} (h : headB ops al = true) :
    (∀ i, i < al.length → ∃ o, ops[i]? = some o ∧ ∀ e, e ∈ o.after → Region.binds .any e = true → e.on < i) ∧
    (∀ i j, i < j → j < al.length → clash al i j = true → Region.waitsFor .any ops.toArray j i = true) ∧
    (al.length = ops.length ∨ (al.length < ops.length ∧ sinkL ops.toArray al.length = true ∧ Region.chainB .any ops.toArray al.length = true)) ∧
    Region.seqB .any ops.toArray (ops.length - al.length) al.length (listedN al.length ops.length) = true := by
  simp only [headB, Bool.and_eq_true, Bool.or_eq_true, decide_eq_true_eq] at h
  obtain ⟨⟨h1, h2⟩, h3⟩ := h
  rw [List.all_eq_true] at h1
  refine ⟨fun i hi => ?_, fun i j hij hj hc => ?_, ?_, h3⟩
  · have := h1 i (List.mem_range.2 hi)
    simp only [Bool.and_eq_true] at this
    obtain ⟨k1, _⟩ := this
    split at k1
    · rename_i o ho
      refine ⟨o, ho, fun e he hb => ?_⟩
      have := Array.all_eq_true_iff_forall_mem.1 k1 e he
      simpa [hb] using this
    · cases k1
  · have := h1 i (List.mem_range.2 (by omega))
    simp only [Bool.and_eq_true] at this
    have := List.all_eq_true.1 this.2 j (List.mem_range.2 hj)
    simpa [hij, hc] using this
  · rcases h2 with h2 | ⟨⟨h2, h3⟩, h4⟩
    · exact .inl h2
    · exact .inr ⟨h2, h3, h4⟩

/-- What a late operation does: it yields, whatever the world. -/
theorem late_wp {o : Oper} {a : Act} {w : World} {K : Act → World → Prop} {Q : Exit → Act → World → Prop} (ho : (match o.op with | .extract _ _ => true | _ => false) = true) (h : o.wp P a w K Q) : ∃ v, (∀ w, (execOp a.eval o).run P w = .ok (.value v) w) ∧ K (a.put o.dst v) w := by
  split at ho
  · rename_i x i hop
    cases hx : a.eval x with
    | tuple vs =>
      cases hi : vs[i]? with
      | some v =>
        have e : ∀ w, (execOp a.eval o).run P w = .ok (.value v) w := fun w => by simp [execOp, hop, hx, Instr.extract, hi]; try rfl
        refine ⟨v, e, ?_⟩
        unfold Oper.wp at h
        rw [e] at h
        exact h
      | none =>
        unfold Oper.wp at h
        simp [execOp, hop, hx, Instr.extract, hi, Oper.upon, stuck] at h
    | _ =>
      unfold Oper.wp at h
      simp [execOp, hop, hx, Instr.extract, Oper.upon, stuck] at h
  · cases ho
theorem late_spec {ops : Array Oper} {n j : Nat} (h : lateB ops n j = true) : ∃ o, ops[j]? = some o ∧ (match o.op with | .extract _ _ => true | _ => false) = true ∧ o.guard = none ∧ Region.noSelect ops = true ∧
    (∀ i oi, ops[i]? = some oi → i ≠ j → Region.waitsFor .any ops j i = false → Region.waitsFor .any ops i j = false → o.apart ops oi = true) ∧ ∀ e, e ∈ o.after → Region.binds .any e = true → Region.waitsFor .any ops n e.on = true := by
  unfold lateB at h
  split at h
  · rename_i o ho
    simp only [Bool.and_eq_true] at h
    obtain ⟨⟨⟨⟨h1, h2⟩, h3⟩, h4⟩, h5⟩ := h
    refine ⟨o, ho, h1, by simpa using h2, h3, fun i oi hi hne hw1 hw2 => ?_, fun e he hb => ?_⟩
    · have := List.all_eq_true.1 h4 i (List.mem_range.2 (Array.getElem?_eq_some_iff.1 hi).1)
      simpa [hne, hw1, hw2, hi] using this
    · have := Array.all_eq_true_iff_forall_mem.1 h5 e he
      simpa [hb] using this
  · cases h
theorem waits_of {ops : Array Oper} {j i : Nat} {oj : Oper} (hj : ops[j]? = some oj) {e : Edge} (he : e ∈ oj.after) (hb : Region.binds .any e = true) (hon : e.on = i) : Region.waitsFor .any ops j i = true := by
  unfold Region.waitsFor
  rw [hj]
  exact Array.any_eq_true'.2 ⟨e, he, by simp [hb, hon]⟩
/-- While a head's operation is not listed, and none of the late ones may come, the tail waits. -/
theorem tail_late {ops : Array Oper} {n : Nat} {listed : Array Bool} (hs : sinkL ops n = true) (hc : Region.chainB .any ops n = true) (hn : n < ops.size) (inv : HeadInv .any ops n listed)
    (hl : ∀ j, j < n → lateB ops n j = true → j ∉ Region.ready .any ops listed) : ∀ (d i : Nat), n - i = d → i < n → listed.getD i true = false → ∀ t, n ≤ t → t ∉ Region.ready .any ops listed := by
  intro d
  induction d using Nat.strongRecOn with
  | _ d ih =>
    intro i hd hi hun t ht hr
    obtain ⟨_, ot, hot, hall⟩ := mem_ready.1 hr
    have htlt : t < ops.size := (Array.getElem?_eq_some_iff.1 hot).1
    by_cases htn : t = n
    · subst htn
      have h1 := List.all_eq_true.1 hs i (List.mem_range.2 hi)
      rw [Bool.or_eq_true] at h1
      rcases h1 with h1 | h1
      · obtain ⟨j, hj, hj2⟩ := List.any_eq_true.1 h1
        simp only [Bool.and_eq_true, decide_eq_true_eq] at hj2
        obtain ⟨oj, hoj, e, he, hb, hon⟩ := Region.waitsFor_spec hj2.2
        have hjle : j ≤ t := by have := List.mem_range.1 hj; omega
        by_cases hjt : j = t
        · subst hjt
          have : oj = ot := Option.some.inj (hoj.symm.trans hot)
          subst this
          have h2 := hall e he hb
          rw [hon, getD_both hun] at h2
          cases h2
        · cases hl' : listed.getD j false with
          | true =>
            have h2 := inv.closed j oj hoj hl' e he hb
            rw [hon, getD_both hun] at h2
            cases h2
          | false =>
            have hjs : j < listed.size := by rw [inv.size]; omega
            exact ih (t - j) (by omega) j rfl (by omega) (getD_in hjs hl') t (Nat.le_refl _) hr
      · refine hl i hi h1 ?_
        obtain ⟨o, ho, _, _, _, _, h5⟩ := late_spec h1
        refine mem_ready.2 ⟨hun, o, ho, fun e he hb => ?_⟩
        obtain ⟨ot', hot', e', he', hb', hon'⟩ := Region.waitsFor_spec (h5 e he hb)
        have : ot' = ot := Option.some.inj (hot'.symm.trans hot)
        subst this
        have := hall e' he' hb'
        rwa [hon'] at this
    · have h1 := List.all_eq_true.1 hc t (List.mem_range.2 htlt)
      simp only [Bool.or_eq_true, decide_eq_true_eq] at h1
      rcases h1 with h1 | h1
      · omega
      · obtain ⟨o', ho', e, he, hb, hon⟩ := Region.waitsFor_spec h1
        have : o' = ot := Option.some.inj (ho'.symm.trans hot)
        subst this
        have h2 := hall e he hb
        rw [hon, getD_both (inv.tail (t - 1) (by omega) (by omega))] at h2
        cases h2

def cntU (S : Nat → Bool) : Nat → Nat
  | 0 => 0
  | m + 1 => cntU S m + (if S m = true then 0 else 1)
theorem cntU_add {S : Nat → Bool} {j : Nat} (hj : S j = false) : ∀ m, cntU S m = cntU (addS S j) m + (if j < m then 1 else 0)
  | 0 => by simp [cntU]
  | m + 1 => by
    have ih := cntU_add hj m
    simp only [cntU]
    by_cases h : m = j
    · subst h
      rw [ih]
      simp [addS, hj]
    · have : addS S j m = S m := by simp [addS, h]
      rw [this, ih]
      by_cases h2 : j < m
      · have h3 : j < m + 1 := by omega
        simp only [h2, h3, if_true]; omega
      · have h3 : ¬ j < m + 1 := by omega
        simp only [h2, h3, if_false]; omega
theorem cntU_zero {S : Nat → Bool} : ∀ {m : Nat}, cntU S m = 0 → ∀ i, i < m → S i = true
  | 0, _, i, hi => by omega
  | m + 1, h, i, hi => by
    simp only [cntU] at h
    by_cases him : i = m
    · subst him
      by_cases hs : S i = true
      · exact hs
      · rw [if_neg hs] at h; omega
    · exact cntU_zero (m := m) (by omega) i (by omega)

structure HInv (h0 : AHeap) (al : List AOper) (rs : List (AV × List Slot)) (a : AAct) (S : Nat → Bool) (C : Cfg) (act : Act) : Prop where
  rel : Rel C
  nodef : act.defers = []
  size : act.tmps.size = a.length
  len : C.h.length = h0.length + (rs.map (·.2)).flatten.length
  old : ∀ k, k < h0.length → C.h[k]? = h0[k]?
  new : ∀ i x, slotsOf rs i = [x] → C.h[h0.length + posOf rs i]? = some (if S i = true then x else .free)
  vrs : ∀ t, t < a.length → VR C (cur (dstOf al) (valOf rs) S (fun u => a.getD u .any) al.length t) (act.tmps.getD t undef)

theorem head_any {l0 : List Oper} {l : List Oper} {al : List AOper} {a : AAct} {rs : List (AV × List Slot)} {a' : AAct} {news' : AHeap} (hch : Chain P h0 l0 l al a [] rs a' news') (hl : ∀ i, i < al.length → l[i]? = l0[i]?) (hB : headB l0 al = true)
    {Q : Exit → Act → World → Prop} (hQp : ∀ c a w, ¬ Q (.panic c) a w) (C0 : Cfg) (hN : h0.length ≤ C0.h.length)
    (Hfin : ∀ C act, HInv h0 al rs a (fun _ => true) C act → Ext C0.h.length C0 C → wpList P l0.toArray Q (l0.drop al.length) act C.w) :
    ∀ (k : Nat) (listed : Array Bool) (C : Cfg) (act : Act), cntU (fun i => listed.getD i false) al.length = k → HeadInv .any l0.toArray al.length listed → HInv h0 al rs a (fun i => listed.getD i false) C act → Ext C0.h.length C0 C →
      C.h.length = C0.h.length → wpAny P .any l0.toArray Q (k + (l0.length - al.length)) listed act C.w := by
  obtain ⟨b1, b2, b3, b4⟩ := headB_spec hB
  obtain ⟨c1, c2, c3, c4, c5, c6⟩ := hch.at
  have hle : al.length ≤ l0.length := by rcases b3 with h | h <;> omega
  intro k
  induction k with
  | zero =>
    intro listed C act hk inv I E hlen
    have hall := cntU_zero hk
    have hl2 : listed = listedN al.length l0.length := by
      apply Array.ext_getElem?
      intro i
      unfold listedN
      rw [Array.getElem?_append]
      simp only [Array.size_replicate, Array.getElem?_replicate]
      by_cases hi : i < al.length
      · rw [if_pos hi, if_pos hi]
        have := hall i hi
        simp only [Array.getD_eq_getD_getElem?] at this
        cases hx : listed[i]? with
        | none => rw [hx] at this; simp at this
        | some b => rw [hx] at this; simp at this; rw [this]
      · rw [if_neg hi]
        by_cases hi2 : i < l0.length
        · rw [if_pos (by omega)]
          have := inv.tail i (by omega) (by simpa using hi2)
          simp only [Array.getD_eq_getD_getElem?] at this
          cases hx : listed[i]? with
          | none => rw [hx] at this; simp at this
          | some b => rw [hx] at this; simp at this; rw [this]
        · rw [if_neg (by omega)]
          exact Array.getElem?_eq_none (by rw [inv.size]; simpa using hi2)
    have hfin := Hfin C act ⟨I.rel, I.nodef, I.size, I.len, I.old, fun i x hx => by
      rw [I.new i x hx]
      have hil : i < al.length := by
        rcases Nat.lt_or_ge i al.length with h | h
        · exact h
        · simp only [slotsOf] at hx
          rw [List.getElem?_eq_none (by omega)] at hx
          cases hx
      simp only [hall i hil, if_true], fun t ht => by rw [← cur_all (S := fun i => listed.getD i false) hall]; exact I.vrs t ht⟩ E
    rw [Nat.zero_add]
    have := wpAny_of_seq (md := .any) (ops := l0.toArray) (Q' := Q) (l0.drop al.length) al.length listed act C.w (fun j => by simp [List.getElem?_drop]) (by rw [hl2]; simpa using b4) hfin
    simpa using this
  | succ k ih =>
    intro listed C act hk inv I E hlen
    have hsz : listed.size = l0.length := by simpa using inv.size
    -- the first that is not listed is ready
    have hex : ∃ i, i < al.length ∧ listed.getD i false = false := by
      by_cases h : ∃ i, i < al.length ∧ listed.getD i false = false
      · exact h
      · exfalso
        have : ∀ m, m ≤ al.length → cntU (fun i => listed.getD i false) m = 0 := by
          intro m
          induction m with
          | zero => intro _; rfl
          | succ m ihm =>
            intro hm
            simp only [cntU]
            rw [ihm (by omega)]
            have : listed.getD m false = true := by
              cases hx : listed.getD m false with
              | true => rfl
              | false => exact absurd ⟨m, by omega, hx⟩ h
            simp [this]
        rw [this _ (Nat.le_refl _)] at hk
        cases hk
    obtain ⟨i0, ⟨hi0, hu0⟩, hmin⟩ := least (p := fun i => i < al.length ∧ listed.getD i false = false) hex
    have hr0 : i0 ∈ Region.ready .any l0.toArray listed := by
      obtain ⟨o, ho, hdep⟩ := b1 i0 hi0
      refine mem_ready.2 ⟨getD_in (by omega) hu0, o, by simpa using ho, fun e he hb => ?_⟩
      have := hdep e he hb
      cases hx : listed.getD e.on false with
      | true => rfl
      | false => have := hmin e.on ⟨by omega, hx⟩; omega
    rw [show k + 1 + (l0.length - al.length) = (k + (l0.length - al.length)) + 1 by omega]
    -- what an operation of the head does that is ready
    have step : ∀ j, j ∈ Region.ready .any l0.toArray listed → j < al.length → ∃ oj, l0.toArray[j]? = some oj ∧ (if Region.wanted oj (yielded l0.toArray act.tmps) then oj.wp P act C.w (wpAny P .any l0.toArray Q (k + (l0.length - al.length)) (listed.setIfInBounds j true)) Q else wpAny P .any l0.toArray Q (k + (l0.length - al.length)) (listed.setIfInBounds j true) (act.put oj.dst undef) C.w) := by
      intro j hj hjn
      obtain ⟨hun, oj, hoj, hall⟩ := mem_ready.1 hj
      have hunf : listed.getD j false = false := getD_both hun
      obtain ⟨o, ao, aj, k1, k2, k3, k4, k5, k6, k7⟩ := c6 j hjn
      have hoo : oj = o := by
        have := hl j hjn
        rw [k1] at this
        have h2 : l0[j]? = some oj := by simpa using hoj
        rw [h2] at this
        exact (Option.some.inj this).symm
      subst hoo
      have hdj : dstOf al j = oj.dst := by simp [dstOf, k2, k3]
      have hlj : looksOf al j = ao.looks := by simp [looksOf, k2]
      -- what is known of those that are listed
      have closed : ∀ i, i < al.length → listed.getD i false = true → Region.waitsFor .any l0.toArray i j = true → False := by
        intro i hi hli hw
        obtain ⟨oi, hoi, e, he, hb, hon⟩ := Region.waitsFor_spec hw
        have := inv.closed i oi hoi hli e he hb
        rw [hon, hunf] at this
        cases this
      have needs : ∀ i, i < j → Region.waitsFor .any l0.toArray j i = true → listed.getD i false = true := by
        intro i hi hw
        obtain ⟨oi, hoi, e, he, hb, hon⟩ := Region.waitsFor_spec hw
        have : oi = oj := Option.some.inj (hoi.symm.trans hoj)
        subst this
        have := hall e he hb
        rwa [hon] at this
      have reads : ∀ u, u ∈ ao.looks → cur (dstOf al) (valOf rs) (fun i => listed.getD i false) (fun u => a.getD u .any) al.length u = cur (dstOf al) (valOf rs) (fun _ => true) (fun u => a.getD u .any) j u := by
        intro u hu
        refine cur_reads (by omega) (fun i hi hd => ?_) (fun i h1 h2 hS hd => ?_)
        · refine needs i hi (b2 i j hi hjn ?_)
          simp [clash, hd, hlj, hu]
        · by_cases hij : i = j
          · subst hij; rw [hunf] at hS; cases hS
          · refine closed i h2 hS (b2 j i (by omega) h2 ?_)
            simp [clash, hd, hlj, hu]
      have hsub : HSub h0 C.h := fun s z es hs => by
        have hlt := (List.getElem?_eq_some_iff.1 hs).1
        rw [I.old s hlt]; exact hs
      have hpos : ∀ x, slotsOf rs j = [x] → C.h[h0.length + ([] : AHeap).length + posOf rs j]? = some .free := by
        intro x hx
        have := I.new j x hx
        simpa [hunf] using this
      have hfree : slotsOf rs j ≠ [] → C.h[h0.length + ([] : AHeap).length + posOf rs j]? = some .free := by
        intro hne
        have h1 := List.length_pos_iff.2 hne
        obtain ⟨x, hx⟩ := List.length_eq_one_iff.1 (show (slotsOf rs j).length = 1 by omega)
        exact hpos x hx
      have hy := k7.run C act Q (wpAny P .any l0.toArray Q (k + (l0.length - al.length)) (listed.setIfInBounds j true)) hsub I.rel (fun u hu => by
        by_cases hul : u < a.length
        · rw [k6 u hul, ← reads u hu]; exact I.vrs u hul
        · rw [List.getD_eq_getElem?_getD, List.getElem?_eq_none (by omega)]; exact .any _) hfree (fun cv D d1 d2 d3 d4 => ?_)
      · exact ⟨oj, hoj, hy⟩
      · have hjs : j < listed.size := by omega
        have hS' : (fun i => (listed.setIfInBounds j true).getD i false) = addS (fun i => listed.getD i false) j := by
          funext i
          by_cases hij : i = j
          · subst hij; simp [addS, hjs]
          · simp only [addS, hij, if_false]
            exact getD_set_ne false (Ne.symm hij)
        have hcnt := cntU_add (S := fun i => listed.getD i false) (j := j) hunf al.length
        rw [if_pos hjn, hk] at hcnt
        have hDlen : D.h.length = C.h.length := by
          rw [d1]; split <;> simp
        refine ih (listed.setIfInBounds j true) D (act.put oj.dst cv) (by rw [hS']; omega) (inv.set hj hjn) ?_ (E.trans (hlen ▸ d4)) (by omega)
        rw [hS']
        refine ⟨d2, ?_, ?_, by rw [hDlen]; exact I.len, fun q hq => ?_, fun i x hx => ?_, fun t ht => ?_⟩
        · cases oj.dst <;> simpa [Act.put] using I.nodef
        · cases oj.dst <;> simpa [Act.put] using I.size
        · rw [d1]
          split
          · rw [List.getElem?_set_ne (by simp; omega)]; exact I.old q hq
          · exact I.old q hq
        · by_cases hij : i = j
          · subst hij
            rw [d1, hx]
            have hf := hpos x hx
            have hlt := (List.getElem?_eq_some_iff.1 hf).1
            simp only [List.length_nil, Nat.add_zero] at hlt ⊢
            rw [List.getElem?_set_self hlt]
            simp [addS]
          · have hold := I.new i x hx
            have e1 : addS (fun i => listed.getD i false) j i = listed.getD i false := by simp [addS, hij]
            rw [e1, ← hold, d1]
            split
            · rename_i y hy'
              have := posOf_ne (rs := rs) hij (by rw [hx]; simp) (by rw [hy']; simp)
              rw [List.getElem?_set_ne (by simp; omega)]
            · rfl
        · by_cases hd : oj.dst = some t
          · have hcur := cur_hit (dst := dstOf al) (val := valOf rs) (S := fun i => listed.getD i false) (g := fun u => a.getD u .any) hjn (by rw [hdj]; exact hd) (fun i h1 h2 hS hd' => by
              refine closed i h2 hS (b2 j i h1 h2 ?_)
              simp [clash, hdj, hd, hd'])
            rw [hcur, hd]
            have hts : t < act.tmps.size := by rw [I.size]; exact ht
            have : (act.put (some t) cv).tmps.getD t undef = cv := by simp [Act.put, Array.getD_eq_getD_getElem?, hts]
            rw [this]
            exact d3
          · rw [cur_miss (by rw [hdj]; exact hd)]
            have : (act.put oj.dst cv).tmps.getD t undef = act.tmps.getD t undef := by
              cases hdd : oj.dst with
              | none => rfl
              | some d =>
                have : d ≠ t := fun e => hd (by rw [hdd, e])
                simp [Act.put, Array.getD_eq_getD_getElem?, Array.getElem?_setIfInBounds_ne this]
            rw [this]
            exact d4.vr' (I.vrs t ht)
    by_cases hlate : ∃ j, j < al.length ∧ lateB l0.toArray al.length j = true ∧ j ∈ Region.ready .any l0.toArray listed
    · -- one that may come late comes at once
      obtain ⟨j, hjn, hlj, hj⟩ := hlate
      obtain ⟨oj, hoj, hst⟩ := step j hj hjn
      obtain ⟨o, ho, m1, m2, m3, m4, m5⟩ := late_spec hlj
      have : o = oj := Option.some.inj (ho.symm.trans hoj)
      subst this
      have hwant : Region.wanted o (yielded l0.toArray act.tmps) = true := by simp [Region.wanted, m2]
      rw [if_pos hwant] at hst
      obtain ⟨v, hv, hK⟩ := late_wp m1 hst
      refine wpAny_first ho (Region.noSelect_spec m3) (fun c a w h => absurd h (hQp c _ w)) _ listed act C.w (fun i oi hi hne hun hno => ?_) hj (.inl ⟨hwant, hv⟩) hK
      refine m4 i oi hi hne ?_ ?_
      · cases hw : Region.waitsFor .any l0.toArray j i with
        | false => rfl
        | true =>
          obtain ⟨oj', hoj', e, he, hb, hon⟩ := Region.waitsFor_spec hw
          have : oj' = o := Option.some.inj (hoj'.symm.trans ho)
          subst this
          obtain ⟨_, oj2, hoj2, hall⟩ := mem_ready.1 hj
          have : oj2 = oj' := Option.some.inj (hoj2.symm.trans ho)
          subst this
          have := hall e he hb
          rw [hon, getD_both hun] at this
          cases this
      · cases hw : Region.waitsFor .any l0.toArray i j with
        | false => rfl
        | true =>
          obtain ⟨oi', hoi', e, he, hb, hon⟩ := Region.waitsFor_spec hw
          have : oi' = oi := Option.some.inj (hoi'.symm.trans hi)
          subst this
          exact absurd hon (hno e he hb)
    · refine ⟨fun h => (by rw [h] at hr0; cases hr0), fun j hj => ?_⟩
      obtain ⟨hun, oj, hoj, hall⟩ := mem_ready.1 hj
      have hjlt : j < l0.length := by
        have := (Array.getElem?_eq_some_iff.1 hoj).1
        simpa using this
      have hjn : j < al.length := by
        rcases b3 with h | ⟨h1, h2, h3⟩
        · omega
        · rcases Nat.lt_or_ge j al.length with h | h
          · exact h
          · exact absurd hj (tail_late h2 h3 (by simpa using h1) inv (fun i hi hl hr => hlate ⟨i, hi, hl, hr⟩) _ i0 rfl hi0 (getD_in (by omega) hu0) j h)
      obtain ⟨oj', hoj', hy⟩ := step j hj hjn
      have : oj' = oj := Option.some.inj (hoj'.symm.trans hoj)
      subst this
      unfold wpOp
      rw [hoj]
      simp only
      split
      · rename_i hw; rw [if_pos hw] at hy; exact .inl hy
      · rename_i hw; rw [if_neg hw] at hy; exact hy
end Go.Eng
