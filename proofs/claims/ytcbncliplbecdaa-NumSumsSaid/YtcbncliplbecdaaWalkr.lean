/- A statement that leaves its order open: values that are determined (walked once, in the order of the text), new variables (made at any time), and a tail that waits for all of them. -/
import Derived.Test.YtcbncliplbecdaaLocal
set_option linter.unusedVariables false
set_option linter.unusedSimpArgs false
namespace Go
open Go.RowKit
section
variable {P : Program} {ops : Array Oper}

theorem quiet_keeps {C : World → Prop} {af : Act} : ∀ (l : List Oper) (a : Act), wpQuiet P ops C (fun a' => a' = af) l a →
    af.tmps.size = a.tmps.size ∧ af.defers = a.defers ∧ ∀ t, (∀ o ∈ l, o.dst ≠ some t) → af.tmps.getD t undef = a.tmps.getD t undef
  | [], a, h => by
    have h' : a = af := h
    subst h'
    exact ⟨rfl, rfl, fun _ _ => rfl⟩
  | o :: l, a, h => by
    have key : ∀ v, wpQuiet P ops C (fun a' => a' = af) l (a.put o.dst v) → af.tmps.size = a.tmps.size ∧ af.defers = a.defers ∧ ∀ t, (∀ o' ∈ o :: l, o'.dst ≠ some t) → af.tmps.getD t undef = a.tmps.getD t undef := by
      intro v hv
      obtain ⟨h1, h2, h3⟩ := quiet_keeps l _ hv
      refine ⟨by rw [h1]; cases o.dst <;> simp [Act.put], by rw [h2]; cases o.dst <;> simp [Act.put], fun t ht => ?_⟩
      rw [h3 t (fun o' ho' => ht o' (List.mem_cons_of_mem _ ho'))]
      cases hd : o.dst with
      | none => rfl
      | some d => exact getD_put_ne a d t v fun e => ht o (by simp) (by rw [hd, e])
    unfold wpQuiet at h
    split at h
    · obtain ⟨v, _, hv⟩ := h
      exact key v hv
    · exact key undef h

theorem quiet_at {C : World → Prop} {af : Act} (o : Oper) (post : List Oper) : ∀ (pre : List Oper) (a : Act),
    (∀ o' ∈ pre ++ o :: post, o'.guard = none) → (∀ o' ∈ pre ++ o :: post, ∃ d, o'.dst = some d ∧ d < a.tmps.size) → (pre ++ o :: post).Pairwise (fun x y => x.dst ≠ y.dst) →
    wpQuiet P ops C (fun a' => a' = af) (pre ++ o :: post) a →
    ∃ a2 : Act, (∀ t, (∀ o' ∈ pre, o'.dst ≠ some t) → a2.tmps.getD t undef = a.tmps.getD t undef) ∧ (∀ o' ∈ pre, ∀ t, o'.dst = some t → a2.tmps.getD t undef = af.tmps.getD t undef) ∧
      ∀ w, C w → o.quietAt P a2 C w (leftBy o af)
  | [], a, hg, hd, hp, h => by
    refine ⟨a, fun _ _ => rfl, fun o' ho' => (by cases ho'), fun w hw => ?_⟩
    simp only [List.nil_append] at h hg hd hp
    unfold wpQuiet at h
    rw [if_pos (by simp [Region.wanted, hg o (by simp)])] at h
    obtain ⟨v, h1, h2⟩ := h
    obtain ⟨d, hd1, hd2⟩ := hd o (by simp)
    obtain ⟨_, _, h3⟩ := quiet_keeps post _ h2
    have e : leftBy o af = v := by
      unfold leftBy
      rw [hd1]
      simp only
      rw [h3 d (fun o' ho' e => (List.pairwise_cons.1 hp).1 o' ho' (by rw [hd1, e])), hd1]
      exact getD_put_eq a d v hd2
    rw [e]
    exact h1 w hw
  | p :: pre, a, hg, hd, hp, h => by
    simp only [List.cons_append] at h hg hd hp
    unfold wpQuiet at h
    rw [if_pos (by simp [Region.wanted, hg p (by simp)])] at h
    obtain ⟨v, h1, h2⟩ := h
    obtain ⟨d, hd1, hd2⟩ := hd p (by simp)
    obtain ⟨_, _, h3⟩ := quiet_keeps _ _ h2
    have hpd : af.tmps.getD d undef = v := by
      rw [h3 d (fun o' ho' e => (List.pairwise_cons.1 hp).1 o' ho' (by rw [hd1, e])), hd1]
      exact getD_put_eq a d v hd2
    obtain ⟨a2, g1, g2, g3⟩ := quiet_at o post pre (a.put p.dst v) (fun o' ho' => hg o' (List.mem_cons_of_mem _ ho'))
      (fun o' ho' => by obtain ⟨x, hx1, hx2⟩ := hd o' (List.mem_cons_of_mem _ ho'); exact ⟨x, hx1, by rw [hd1]; simpa [Act.put] using hx2⟩) (List.pairwise_cons.1 hp).2 h2
    refine ⟨a2, fun t ht => ?_, fun o' ho' t ht => ?_, g3⟩
    · rw [g1 t (fun o' ho' => ht o' (List.mem_cons_of_mem _ ho')), hd1]
      exact getD_put_ne a d t v fun e => ht p (by simp) (by rw [hd1, e])
    · rcases List.mem_cons.1 ho' with rfl | ho'
      · rw [hd1] at ht
        obtain rfl : d = t := by simpa using ht
        by_cases hx : ∃ o'' ∈ pre, o''.dst = some d
        · obtain ⟨o'', h4, h5⟩ := hx
          exact absurd (by rw [hd1, h5]) ((List.pairwise_cons.1 hp).1 o'' (by simp [h4]))
        · rw [g1 d (fun o'' h4 h5 => hx ⟨o'', h4, h5⟩), hpd, hd1]
          exact getD_put_eq a d v hd2
      · exact g2 o' ho' t ht

theorem grow_self (w : World) : w = w.grow ⟨#[], w.drawn⟩ := by simp [World.grow]

/-- Whoever reads a temporary that one of the first m operations writes, waits for that one. -/
def readsB (ops : Array Oper) (n m : Nat) : Bool := (List.range n).all fun i => match ops[i]? with
  | some o => (List.range m).all fun j => match (ops[j]?).bind (·.dst) with
    | some d => (o.op.operands.toList.all fun x => match x with | .tmp t => t != d | _ => true) || o.after.any fun e => Region.binds .any e && e.on == j
    | none => true
  | none => false

def allocsPut : List Oper → (Nat → Nat) → Nat → Act → Act
  | [], _, _, a => a
  | o :: l, b, i, a => allocsPut l b (i + 1) (a.put o.dst (.pointer (some ⟨b i, 0, none⟩)))

theorem allocsPut_size : ∀ (l : List Oper) (b : Nat → Nat) (i : Nat) (a : Act), (allocsPut l b i a).tmps.size = a.tmps.size ∧ (allocsPut l b i a).defers = a.defers
  | [], _, _, _ => ⟨rfl, rfl⟩
  | o :: l, b, i, a => by
    obtain ⟨h1, h2⟩ := allocsPut_size l b (i + 1) (a.put o.dst (.pointer (some ⟨b i, 0, none⟩)))
    unfold allocsPut
    rw [h1, h2]
    cases o.dst <;> simp [Act.put]
theorem allocsPut_ne : ∀ (l : List Oper) (b : Nat → Nat) (i : Nat) (a : Act) (t : Tmp), (∀ o ∈ l, o.dst ≠ some t) → (allocsPut l b i a).tmps.getD t undef = a.tmps.getD t undef
  | [], _, _, _, _, _ => rfl
  | o :: l, b, i, a, t, h => by
    unfold allocsPut
    rw [allocsPut_ne l b (i + 1) _ t (fun o' ho' => h o' (List.mem_cons_of_mem _ ho'))]
    cases hd : o.dst with
    | none => rfl
    | some d => exact getD_put_ne a d t _ fun e => h o (by simp) (by rw [hd, e])
theorem allocsPut_eq : ∀ (l : List Oper) (b : Nat → Nat) (i : Nat) (a : Act), l.Pairwise (fun x y => x.dst ≠ y.dst) → ∀ (j : Nat) (o : Oper) (d : Tmp), l[j]? = some o → o.dst = some d → d < a.tmps.size →
    (allocsPut l b i a).tmps.getD d undef = .pointer (some ⟨b (i + j), 0, none⟩)
  | [], _, _, _, _, j, o, d, h, _, _ => by simp at h
  | p :: l, b, i, a, hp, 0, o, d, h, hd, hs => by
    obtain rfl : p = o := by simpa using h
    unfold allocsPut
    rw [allocsPut_ne l b (i + 1) _ d (fun o' ho' e => (List.pairwise_cons.1 hp).1 o' ho' (by rw [hd, e])), hd]
    exact getD_put_eq a d _ hs
  | p :: l, b, i, a, hp, j + 1, o, d, h, hd, hs => by
    unfold allocsPut
    rw [allocsPut_eq l b (i + 1) _ (List.pairwise_cons.1 hp).2 j o d (by simpa using h) hd (by cases p.dst <;> simpa [Act.put] using hs)]
    rw [show i + 1 + j = i + (j + 1) by omega]


theorem take_split {α : Type} (l : List α) (o : α) (i n : Nat) (h : i < n) (ho : l[i]? = some o) : l.take n = l.take i ++ o :: (l.drop (i + 1)).take (n - (i + 1)) := by
  obtain ⟨hi, rfl⟩ := List.getElem?_eq_some_iff.1 ho
  have h1 : l.take n = (l.take n).take i ++ (l.take n).drop i := (List.take_append_drop i _).symm
  rw [h1, List.take_take, Nat.min_eq_left (by omega), List.drop_take, List.drop_eq_getElem_cons hi]
  congr 1
  obtain ⟨m, hm⟩ : ∃ m, n - i = m + 1 := ⟨n - i - 1, by omega⟩
  rw [hm, List.take_succ_cons, show n - (i + 1) = m by omega]

theorem wp_region_walk {id : Nat} {Q : Exit → Act → World → Prop} {a0 : Act} {w0 : World} {l : List Oper} (n k : Nat) (os : Nat → Obj) (af : Act)
    (hm : P.follows .mixedOrders = true)
    (hB : (ordB l.toArray (n + k) && dstB l.toArray (n + k) && (decide (n + k = l.length) || (decide (n + k < l.length) && Region.sinkB .any l.toArray (n + k) && Region.chainB .any l.toArray (n + k)))
      && Region.seqB .any l.toArray (l.length - (n + k)) (n + k) (List.replicate (n + k) true ++ List.replicate (l.length - (n + k)) false).toArray && (l.take (n + k)).all fun o => o.dst.all fun d => decide (d < a0.tmps.size)) = true)
    (hR : (readsB l.toArray n (n + k) && Region.noSelect l.toArray) = true)
    (H : ∀ y : Ext, wpQuiet P l.toArray (fun w' => ∃ x, w' = (w0.grow y).grow x) (fun a' => a' = af) (l.take n) a0)
    (hal : ∀ j o, j < k → l.toArray[n + j]? = some o → ∀ (a : Act) (w : World) (K : Act → World → Prop), K (a.put o.dst (.pointer (some ⟨w.heap.size, 0, none⟩))) (w.alloc (os j)) → o.wp P a w K Q)
    (hend : ∀ (b : Nat → Nat) (y : Ext), (∀ j, j < k → w0.heap.size ≤ b (n + j) ∧ (w0.grow y).heap[b (n + j)]? = some (os j)) → (∀ i j, i < k → j < k → i ≠ j → b (n + i) ≠ b (n + j)) →
      wpList P l.toArray Q (l.drop (n + k)) (allocsPut ((l.drop n).take k) b n af) (w0.grow y)) :
    (Code.region id l.toArray true).wp P Q a0 w0 := by
  simp only [Bool.and_eq_true] at hR
  obtain ⟨hreads, hsel⟩ := hR
  have hB' := hB
  simp only [Bool.and_eq_true] at hB'
  obtain ⟨⟨⟨⟨hord, hdst⟩, htl⟩, _⟩, hin⟩ := hB'
  have hnk : n + k ≤ l.length := by
    simp only [Bool.or_eq_true, Bool.and_eq_true, decide_eq_true_eq] at htl
    omega
  have at_ : ∀ i, i < l.length → l.toArray[i]? = some (l.getD i default) := by
    intro i hi
    simp [List.getD_eq_getElem?_getD, hi]
  have ordF : ∀ i o, i < n + k → l.toArray[i]? = some o → (o.guard = none ∧ o.dst.isSome = true) ∧ ∀ e ∈ o.after, Region.binds .any e = true → e.on < i := by
    intro i o hi ho
    have h := List.all_eq_true.1 hord i (List.mem_range.2 hi)
    rw [ho] at h
    simp only [Bool.and_eq_true, Option.isNone_iff_eq_none] at h
    refine ⟨h.1, fun e he hb => ?_⟩
    have h2 := Array.all_eq_true'.1 h.2 e he
    simpa [hb] using h2
  have dstF : ∀ i j oi oj d, i < n + k → j < n + k → i ≠ j → l.toArray[i]? = some oi → l.toArray[j]? = some oj → oi.dst = some d → oj.dst ≠ some d := by
    intro i j oi oj d hi hj hij hoi hoj hd hd'
    have h := List.all_eq_true.1 (List.all_eq_true.1 hdst i (List.mem_range.2 hi)) j (List.mem_range.2 hj)
    rw [hoi, hoj] at h
    simp [hd, hd', hij] at h
  have inF : ∀ i o d, i < n + k → l.toArray[i]? = some o → o.dst = some d → d < a0.tmps.size := by
    intro i o d hi ho hd
    have hmem : o ∈ l.take (n + k) := by
      have : (l.take (n + k))[i]? = some o := by rw [List.getElem?_take, if_pos hi]; simpa using ho
      exact List.mem_of_getElem? this
    have h := List.all_eq_true.1 hin o hmem
    simpa [hd] using h
  have pw : ∀ (lo hi : Nat), lo ≤ hi → hi ≤ n + k → ((l.drop lo).take (hi - lo)).Pairwise (fun x y => x.dst ≠ y.dst) := by
    intro lo hi hlh hhi
    rw [List.pairwise_iff_getElem]
    intro i j hi' hj' hij
    simp only [List.length_take, List.length_drop] at hi' hj'
    have e1 : l.toArray[lo + i]? = some (((l.drop lo).take (hi - lo))[i]'(by simp; omega)) := by simp
    have e2 : l.toArray[lo + j]? = some (((l.drop lo).take (hi - lo))[j]'(by simp; omega)) := by simp
    intro e
    obtain ⟨d, hd⟩ := Option.isSome_iff_exists.1 ((ordF _ _ (by omega) e1).1.2)
    exact dstF _ _ _ _ d (by omega) (by omega) (by omega) e1 e2 hd (by rw [← e, hd])
  have hy : ∀ w, Below w0.heap.size w0 w → ∃ y, w = w0.grow y := fun w hb => grow_of_below hb
  obtain ⟨fs, fd, fk⟩ := quiet_keeps _ _ (H ⟨#[], w0.drawn⟩)
  refine wp_region_local (n + k) (fun i => n ≤ i) (fun i v w => if i < n then v = leftBy (l.getD i default) af else ∃ b, v = .pointer (some ⟨b, 0, none⟩) ∧ w0.heap.size ≤ b ∧ w.heap[b]? = some (os (i - n))) hm hB ?_ ?_ ?_
  · intro i v w w' hv hb
    by_cases hi : i < n
    · rw [if_pos hi] at hv ⊢; exact hv
    · rw [if_neg hi] at hv ⊢
      obtain ⟨b, h1, h2, h3⟩ := hv
      refine ⟨b, h1, h2, ?_⟩
      rw [hb.block b (by
        refine Classical.byContradiction fun h => ?_
        rw [Array.getElem?_eq_none (by omega)] at h3
        cases h3)]
      exact h3
  · intro i o hi ho a w hb hsz hfr hdep K hK
    by_cases hin : i < n
    · obtain ⟨y, rfl⟩ := hy w hb
      have hsplit := take_split l o i n hin (by simpa using ho)
      have Hy := H y
      have pn := pw 0 n (Nat.zero_le _) (by omega)
      simp only [List.drop_zero, Nat.sub_zero] at pn
      have hmemO : ∀ o' ∈ l.take n, ∃ j, j < n ∧ l.toArray[j]? = some o' := by
        intro o' ho'
        obtain ⟨j, hj, rfl⟩ := List.mem_iff_getElem.1 ho'
        simp only [List.length_take] at hj
        exact ⟨j, by omega, by simp⟩
      rw [hsplit] at Hy pn hmemO
      obtain ⟨a2, g1, g2, g3⟩ := quiet_at o _ _ a0 (fun o' ho' => by obtain ⟨j, hj, hjo⟩ := hmemO o' ho'; exact (ordF j o' (by omega) hjo).1.1)
        (fun o' ho' => by
          obtain ⟨j, hj, hjo⟩ := hmemO o' ho'
          obtain ⟨d, hd⟩ := Option.isSome_iff_exists.1 (ordF j o' (by omega) hjo).1.2
          exact ⟨d, hd, inF j o' d (by omega) hjo hd⟩) pn Hy
      have hq := g3 (w0.grow y) ⟨_, grow_self _⟩
      -- the operands read alike
      have hop : ∀ x ∈ o.op.operands, a2.eval x = a.eval x := by
        intro x hx
        cases x with
        | tmp t =>
          simp only [Act.eval]
          by_cases hw : ∃ j oj, j < n + k ∧ l.toArray[j]? = some oj ∧ oj.dst = some t
          · obtain ⟨j, oj, hj, hoj, hjd⟩ := hw
            have hr := List.all_eq_true.1 hreads i (List.mem_range.2 hin)
            rw [ho] at hr
            have hr2 := List.all_eq_true.1 hr j (List.mem_range.2 hj)
            rw [hoj] at hr2
            simp only [Option.bind_some, hjd, Bool.or_eq_true] at hr2
            rcases hr2 with hr2 | hr2
            · have := List.all_eq_true.1 hr2 (.tmp t) (by simpa using hx)
              simp at this
            · obtain ⟨e, he, he2⟩ := Array.any_eq_true'.1 hr2
              simp only [Bool.and_eq_true, beq_iff_eq] at he2
              obtain ⟨heb, heo⟩ := he2
              have hji : j < i := by have := (ordF i o hi ho).2 e he heb; omega
              have hv := hdep e he heb oj (by rw [heo]; exact hoj)
              rw [heo, if_pos (by omega)] at hv
              have hmem : oj ∈ l.take i := by
                have : (l.take i)[j]? = some oj := by rw [List.getElem?_take, if_pos hji]; simpa using hoj
                exact List.mem_of_getElem? this
              rw [g2 oj hmem t hjd]
              have hgd : l.getD j default = oj := by
                have := at_ j (by omega)
                rw [hoj] at this
                exact (Option.some.inj this).symm
              rw [hgd] at hv
              unfold leftBy at hv
              rw [hjd] at hv
              exact hv.symm
          · rw [g1 t (fun o' ho' e => by
              obtain ⟨j, hj, rfl⟩ := List.mem_iff_getElem.1 ho'
              simp only [List.length_take] at hj
              exact hw ⟨j, _, by omega, (by simp : l.toArray[j]? = some ((l.take i)[j])), e⟩)]
            exact (hfr t fun j oj hj hoj e => hw ⟨j, oj, hj, hoj, e⟩).symm
        | const v => rfl
        | global g => rfl
        | func f => rfl
      have hex : execOp a2.eval o = execOp a.eval o := execOp_congr o (fun cs b => Region.noSelect_spec hsel i o cs b ho) hop
      have hval : ∀ w', Below (w0.grow y).heap.size (w0.grow y) w' → K (a.put o.dst (leftBy o af)) w' := fun w' hbw => hK _ _ hbw (by
        have hgd : l.getD i default = o := by
          have := at_ i (by omega)
          rw [ho] at this
          exact (Option.some.inj this).symm
        rw [if_pos hin, hgd]) (fun h => by omega)
      unfold Oper.quietAt at hq
      rw [hex] at hq
      unfold Oper.wp
      generalize (execOp a.eval o).run P (w0.grow y) = r at *
      cases r with
      | ok nx w' =>
        cases nx <;> simp only [Oper.quietUpon] at hq <;> simp only [Oper.upon]
        case value u =>
          obtain ⟨rfl, rfl⟩ := hq
          exact hval _ (Below.refl _ _)
        case skip =>
          obtain ⟨rfl, e2⟩ := hq
          rw [← e2]
          exact hval _ (Below.refl _ _)
        case enter f args =>
          obtain ⟨rfl, hc⟩ := hq
          refine hc.mono fun e w'' ⟨he, x, hx⟩ => ?_
          subst he hx
          exact hval _ (below_grow _ _)
      | halt x w' => simp only [Oper.quietUpon] at hq
    · obtain ⟨j, rfl⟩ : ∃ j, i = n + j := ⟨i - n, by omega⟩
      refine hal j o (by omega) ho a w K (hK _ _ (Below.alloc (Below.refl _ _) (Nat.le_refl _) _) ?_ fun _ => ⟨_, rfl, Nat.le_refl _, by simp⟩)
      rw [if_neg (by omega), show n + j - n = j by omega]
      exact ⟨_, rfl, hb.size, by show (w.heap.push _)[w.heap.size]? = _; simp⟩
  · intro a w hb hsz hdf hfr hspec hap
    obtain ⟨y, rfl⟩ := hy w hb
    -- the addresses of the new variables
    have hex : ∀ i, ∃ b, n ≤ i → i < n + k → leftBy (l.getD i default) a = .pointer (some ⟨b, 0, none⟩) ∧ w0.heap.size ≤ b ∧ (w0.grow y).heap[b]? = some (os (i - n)) := by
      intro i
      by_cases h : n ≤ i ∧ i < n + k
      · have h1 := hspec i _ h.2 (at_ i (by omega))
        rw [if_neg (by omega)] at h1
        obtain ⟨b, hb⟩ := h1
        exact ⟨b, fun _ _ => hb⟩
      · exact ⟨0, fun h1 h2 => absurd ⟨h1, h2⟩ h⟩
    obtain ⟨b, hbf⟩ := Classical.axiomOfChoice hex
    have hact : a = allocsPut ((l.drop n).take k) b n af := by
      obtain ⟨s1, s2⟩ := allocsPut_size ((l.drop n).take k) b n af
      have ht : ∀ t, a.tmps.getD t undef = (allocsPut ((l.drop n).take k) b n af).tmps.getD t undef := by
        intro t
        by_cases hw : ∃ j oj, j < n + k ∧ l.toArray[j]? = some oj ∧ oj.dst = some t
        · obtain ⟨j, oj, hj, hoj, hjd⟩ := hw
          have hgd : l.getD j default = oj := by
            have := at_ j (by omega)
            rw [hoj] at this
            exact (Option.some.inj this).symm
          by_cases hjn : j < n
          · have h1 := hspec j oj hj hoj
            rw [if_pos hjn, hgd] at h1
            unfold leftBy at h1
            rw [hjd] at h1
            rw [allocsPut_ne _ _ _ _ t (fun o' ho' e => by
              obtain ⟨m, hm', rfl⟩ := List.mem_iff_getElem.1 ho'
              simp only [List.length_take, List.length_drop] at hm'
              exact dstF j (n + m) oj _ t hj (by omega) (by omega) hoj (by simp) hjd e)]
            exact h1
          · obtain ⟨m, rfl⟩ : ∃ m, j = n + m := ⟨j - n, by omega⟩
            have h1 := (hbf (n + m) (by omega) hj).1
            rw [hgd] at h1
            unfold leftBy at h1
            rw [hjd] at h1
            simp only at h1
            rw [h1]
            have p2 := pw n (n + k) (by omega) (Nat.le_refl _)
            rw [show n + k - n = k by omega] at p2
            rw [allocsPut_eq _ b n af p2 m oj t (by rw [List.getElem?_take, if_pos (by omega), List.getElem?_drop]; simpa using hoj) hjd (by rw [fs]; exact inF _ _ _ hj hoj hjd)]
        · rw [hfr t (fun j oj hj hoj e => hw ⟨j, oj, hj, hoj, e⟩), allocsPut_ne _ _ _ _ t (fun o' ho' e => by
            obtain ⟨m, hm', rfl⟩ := List.mem_iff_getElem.1 ho'
            simp only [List.length_take, List.length_drop] at hm'
            exact hw ⟨n + m, _, by omega, (by simp : l.toArray[n + m]? = some (((l.drop n).take k)[m])), e⟩)]
          refine (fk t fun o' ho' e => ?_).symm
          obtain ⟨m, hm', rfl⟩ := List.mem_iff_getElem.1 ho'
          simp only [List.length_take] at hm'
          exact hw ⟨m, _, by omega, (by simp : l.toArray[m]? = some ((l.take n)[m])), e⟩
      have hts : a.tmps = (allocsPut ((l.drop n).take k) b n af).tmps := by
        apply Array.ext
        · rw [hsz, s1, fs]
        · intro i h1 h2
          have := ht i
          simp [h1, h2] at this
          exact this
      have hds : a.defers = (allocsPut ((l.drop n).take k) b n af).defers := by rw [hdf, s2, fd]
      cases a
      cases hA : allocsPut ((l.drop n).take k) b n af
      rw [hA] at hts hds
      simp only at hts hds
      rw [hts, hds]
    rw [hact]
    refine hend b y (fun j hj => ?_) (fun i j hi hj hij e => ?_)
    · obtain ⟨_, h2, h3⟩ := hbf (n + j) (by omega) (by omega)
      rw [show n + j - n = j by omega] at h3
      exact ⟨h2, h3⟩
    · have h1 := (hbf (n + i) (by omega) (by omega)).1
      have h2 := (hbf (n + j) (by omega) (by omega)).1
      exact hap (n + i) (n + j) _ _ (by omega) (by omega) (by omega) (at_ _ (by omega)) (at_ _ (by omega)) (by omega) (by omega) (by rw [h1, h2, e])

theorem cell_of_block {w : World} {b : Nat} {cs : Array Value} {t : TypeId} {fr : Nat × Nat} (h : w.heap[b]? = some (.cells cs t fr)) (i : Nat) : w.cell? ⟨b, i, none⟩ = cs[i]? := by
  unfold World.cell?
  simp [h]
theorem frozen_of_block {w : World} {b : Nat} {cs : Array Value} {t : TypeId} (h : w.heap[b]? = some (.cells cs t (0, 0))) (i : Nat) : w.frozen? ⟨b, i, none⟩ = false := by
  unfold World.frozen?
  simp [h]

/-- The rule with the blocks named whose cells are read; one new variable at the most. -/
theorem wp_region_walk1 {id : Nat} {Q : Exit → Act → World → Prop} {a0 : Act} {w0 : World} {l : List Oper} (n : Nat) (cs : Array Value) (T : TypeId) (bs : List Nat) (d : Tmp) (af : Act)
    (hm : P.follows .mixedOrders = true)
    (hB : (ordB l.toArray (n + 1) && dstB l.toArray (n + 1) && (decide (n + 1 = l.length) || (decide (n + 1 < l.length) && Region.sinkB .any l.toArray (n + 1) && Region.chainB .any l.toArray (n + 1)))
      && Region.seqB .any l.toArray (l.length - (n + 1)) (n + 1) (List.replicate (n + 1) true ++ List.replicate (l.length - (n + 1)) false).toArray && (l.take (n + 1)).all fun o => o.dst.all fun d => decide (d < a0.tmps.size)) = true)
    (hR : (readsB l.toArray n (n + 1) && Region.noSelect l.toArray) = true)
    (hbs : AllLt w0.heap.size bs) (hd : (l[n]?).bind (·.dst) = some d)
    (H : AllKept w0 bs → ∀ y : Ext, AllKept (w0.grow y) bs → wpQuiet P l.toArray (fun w' => ∃ x, w' = (w0.grow y).grow x) (fun a' => a' = af) (l.take n) a0)
    (hal : ∀ o, l[n]? = some o → ∀ (a : Act) (w : World) (K : Act → World → Prop), K (a.put o.dst (.pointer (some ⟨w.heap.size, 0, none⟩))) (w.alloc (.cells cs T)) → o.wp P a w K Q)
    (hend : AllKept w0 bs → ∀ (b : Nat) (y : Ext), w0.heap.size ≤ b → b < (w0.grow y).heap.size → (∀ i, (w0.grow y).cell? ⟨b, i, none⟩ = cs[i]?) → (∀ i, (w0.grow y).frozen? ⟨b, i, none⟩ = false) →
      wpList P l.toArray Q (l.drop (n + 1)) (af.put (some d) (.pointer (some ⟨b, 0, none⟩))) (w0.grow y)) :
    (Code.region id l.toArray true).wp P Q a0 w0 := by
  refine wp_region_walk n 1 (fun _ => .cells cs T) af hm hB hR (fun y => H (allKept hbs) y (allKept ?_)) ?_ ?_
  · have : ∀ (m m' : Nat) (bs : List Nat), m ≤ m' → AllLt m bs → AllLt m' bs := by
      intro m m' bs hmm
      induction bs with
      | nil => exact fun h => h
      | cons b bs ih => exact fun h => ⟨Nat.lt_of_lt_of_le h.1 hmm, ih h.2⟩
    exact this _ _ _ (by simp) hbs
  · intro j o hj ho a w K hK
    obtain rfl : j = 0 := by omega
    exact hal o (by simpa using ho) a w K hK
  · intro b y hb _
    obtain ⟨h1, h2⟩ := hb 0 (by omega)
    have hl : ∃ o, l[n]? = some o ∧ o.dst = some d := by
      cases h : l[n]? with
      | none => rw [h] at hd; cases hd
      | some o => rw [h] at hd; exact ⟨o, rfl, hd⟩
    obtain ⟨o, ho1, ho2⟩ := hl
    have e : (l.drop n).take 1 = [o] := by
      obtain ⟨hi, rfl⟩ := List.getElem?_eq_some_iff.1 ho1
      rw [List.drop_eq_getElem_cons hi]
      rfl
    have hlt : b (n + 0) < (w0.grow y).heap.size := by
      refine Classical.byContradiction fun h => ?_
      rw [Array.getElem?_eq_none (by omega)] at h2
      cases h2
    have := hend (allKept hbs) (b n) y h1 hlt (cell_of_block h2) (frozen_of_block h2)
    rw [e]
    unfold allocsPut allocsPut
    rw [ho2]
    exact this
end
end Go
