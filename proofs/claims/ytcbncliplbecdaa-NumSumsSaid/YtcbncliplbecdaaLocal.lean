/- A statement that leaves its order open, operation by operation: what each leaves is told by a predicate that later growth of the world keeps; then it holds of all of them behind the statement, in whatever order they were carried out. -/
import Derived.Test.YtcbncliplbecdaaGrow
set_option linter.unusedVariables false
set_option linter.unusedSimpArgs false
namespace Go
open Go.RowKit
section
variable {P : Program} {ops : Array Oper}

def leftBy (o : Oper) (a : Act) : Value := match o.dst with | some d => a.tmps.getD d undef | none => undef
/-- Each of the first n operations waits for earlier ones only, and bears no guard. -/
def ordB (ops : Array Oper) (n : Nat) : Bool := (List.range n).all fun i => match ops[i]? with | some o => o.guard.isNone && o.dst.isSome && o.after.all fun e => !Region.binds .any e || decide (e.on < i) | none => false
/-- No two of the first n operations write one temporary. -/
def dstB (ops : Array Oper) (n : Nat) : Bool := (List.range n).all fun i => (List.range n).all fun j => i == j || (((ops[i]?).bind (·.dst)).isNone || ((ops[i]?).bind (·.dst)) != ((ops[j]?).bind (·.dst)))

structure LInv (ops : Array Oper) (n : Nat) (D : Nat → Prop) (V : Nat → Value → World → Prop) (a0 : Act) (w0 : World) (listed : Array Bool) (a : Act) (w : World) : Prop where
  head : HeadInv .any ops n listed
  ext : Below w0.heap.size w0 w
  spec : ∀ i o, i < n → ops[i]? = some o → listed.getD i false = true → V i (leftBy o a) w
  frame : ∀ t, (∀ i o, i < n → ops[i]? = some o → o.dst ≠ some t) → a.tmps.getD t undef = a0.tmps.getD t undef
  size : a.tmps.size = a0.tmps.size
  defers : a.defers = a0.defers
  ptr : ∀ i o, i < n → ops[i]? = some o → D i → listed.getD i false = true → ∃ b, leftBy o a = .pointer (some ⟨b, 0, none⟩) ∧ b < w.heap.size
  apart : ∀ i j oi oj, i < n → j < n → i ≠ j → ops[i]? = some oi → ops[j]? = some oj → D i → D j → listed.getD i false = true → listed.getD j false = true → leftBy oi a ≠ leftBy oj a

theorem getD_put_ne (a : Act) (d t : Tmp) (v : Value) (h : d ≠ t) : (a.put (some d) v).tmps.getD t undef = a.tmps.getD t undef := by
  simp only [Act.put]
  rw [Array.getD_eq_getD_getElem?, Array.getD_eq_getD_getElem?, Array.getElem?_setIfInBounds, if_neg (fun e => h e)]
theorem getD_put_eq (a : Act) (d : Tmp) (v : Value) (h : d < a.tmps.size) : (a.put (some d) v).tmps.getD d undef = v := by
  simp only [Act.put]
  rw [Array.getD_eq_getD_getElem?, Array.getElem?_setIfInBounds, if_pos rfl, if_pos h]
  rfl

theorem wp_region_local {id : Nat} {Q : Exit → Act → World → Prop} {a0 : Act} {w0 : World} {l : List Oper} (n : Nat) (D : Nat → Prop) (V : Nat → Value → World → Prop)
    (hm : P.follows .mixedOrders = true)
    (hB : (ordB l.toArray n && dstB l.toArray n && (decide (n = l.length) || (decide (n < l.length) && Region.sinkB .any l.toArray n && Region.chainB .any l.toArray n))
      && Region.seqB .any l.toArray (l.length - n) n (List.replicate n true ++ List.replicate (l.length - n) false).toArray && (l.take n).all fun o => o.dst.all fun d => decide (d < a0.tmps.size)) = true)
    (hV : ∀ i v w w', V i v w → Below w.heap.size w w' → V i v w')
    (hop : ∀ i o, i < n → l.toArray[i]? = some o → ∀ a w, Below w0.heap.size w0 w → a.tmps.size = a0.tmps.size → (∀ t, (∀ i o, i < n → l.toArray[i]? = some o → o.dst ≠ some t) → a.tmps.getD t undef = a0.tmps.getD t undef) →
      (∀ e ∈ o.after, Region.binds .any e = true → ∀ oe, l.toArray[e.on]? = some oe → V e.on (leftBy oe a) w) →
      ∀ K : Act → World → Prop, (∀ v w', Below w.heap.size w w' → V i v w' → (D i → ∃ b, v = .pointer (some ⟨b, 0, none⟩) ∧ w.heap.size ≤ b ∧ b < w'.heap.size) → K (a.put o.dst v) w') → o.wp P a w K Q)
    (hend : ∀ a w, Below w0.heap.size w0 w → a.tmps.size = a0.tmps.size → a.defers = a0.defers → (∀ t, (∀ i o, i < n → l.toArray[i]? = some o → o.dst ≠ some t) → a.tmps.getD t undef = a0.tmps.getD t undef) →
      (∀ i o, i < n → l.toArray[i]? = some o → V i (leftBy o a) w) → (∀ i j oi oj, i < n → j < n → i ≠ j → l.toArray[i]? = some oi → l.toArray[j]? = some oj → D i → D j → leftBy oi a ≠ leftBy oj a) → wpList P l.toArray Q (l.drop n) a w) :
    (Code.region id l.toArray true).wp P Q a0 w0 := by
  simp only [Bool.and_eq_true] at hB
  obtain ⟨⟨⟨⟨hord, hdst⟩, htl⟩, hseq⟩, hin⟩ := hB
  have hnl : n ≤ l.length := by
    simp only [Bool.or_eq_true, Bool.and_eq_true, decide_eq_true_eq] at htl
    omega
  have ord : ∀ i o, i < n → l.toArray[i]? = some o → (o.guard = none ∧ o.dst.isSome = true) ∧ ∀ e ∈ o.after, Region.binds .any e = true → e.on < i := by
    intro i o hi ho
    have h := List.all_eq_true.1 hord i (List.mem_range.2 hi)
    rw [ho] at h
    simp only [Bool.and_eq_true, Option.isNone_iff_eq_none] at h
    refine ⟨h.1, fun e he hb => ?_⟩
    have h2 := Array.all_eq_true'.1 h.2 e he
    simpa [hb] using h2
  have dst : ∀ i j oi oj d, i < n → j < n → i ≠ j → l.toArray[i]? = some oi → l.toArray[j]? = some oj → oi.dst = some d → oj.dst ≠ some d := by
    intro i j oi oj d hi hj hij hoi hoj hd hd'
    have h := List.all_eq_true.1 (List.all_eq_true.1 hdst i (List.mem_range.2 hi)) j (List.mem_range.2 hj)
    rw [hoi, hoj] at h
    simp [hd, hd', hij] at h
  have hin' : ∀ i o d, i < n → l.toArray[i]? = some o → o.dst = some d → d < a0.tmps.size := by
    intro i o d hi ho hd
    have hmem : o ∈ l.take n := by
      have : (l.take n)[i]? = some o := by rw [List.getElem?_take, if_pos hi]; simpa using ho
      exact List.mem_of_getElem? this
    have h := List.all_eq_true.1 hin o hmem
    simpa [hd] using h
  have waits : ∀ listed, HeadInv .any l.toArray n listed → ∀ i, i < n → listed.getD i true = false → ∀ t, n ≤ t → t ∉ Region.ready .any l.toArray listed := by
    intro listed inv i hi hun t ht hr
    simp only [Bool.or_eq_true, Bool.and_eq_true, decide_eq_true_eq] at htl
    rcases htl with h | ⟨⟨h1, h2⟩, h3⟩
    · obtain ⟨_, o, ho, _⟩ := mem_ready.1 hr
      have := (Array.getElem?_eq_some_iff.1 ho).1
      simp at this
      omega
    · exact tail_waits h2 h3 (by simpa using h1) inv _ i rfl hi hun t ht hr
  have main : ∀ (f : Nat) (listed : Array Bool) (a : Act) (w : World), listed.toList.count false = f → LInv l.toArray n D V a0 w0 listed a w → wpAny P .any l.toArray Q f listed a w := by
    intro f
    induction f with
    | zero =>
      intro listed a w hc inv
      have hall : ∀ i, i < l.length → listed.getD i false = true := by
        intro i hi
        have hs : i < listed.size := by rw [inv.head.size]; simpa using hi
        have h0 := List.count_eq_zero.1 hc
        cases h : listed[i] with
        | true => simp [hs, h]
        | false => exact absurd (by rw [← h]; simp) h0
      have hn : n = l.length := by
        refine Classical.byContradiction fun hne => ?_
        have h1 := inv.head.tail n (Nat.le_refl _) (by simp; omega)
        have h2 := hall n (by omega)
        have hs : n < listed.size := by rw [inv.head.size]; simp; omega
        simp [hs] at h1 h2
        rw [h1] at h2
        cases h2
      have hw := hend a w inv.ext inv.size inv.defers inv.frame (fun i o hi ho => inv.spec i o hi ho (hall i (by omega))) (fun i j oi oj hi hj hij hoi hoj h1 h2 => inv.apart i j oi oj hi hj hij hoi hoj h1 h2 (hall i (by omega)) (hall j (by omega)))
      refine ⟨?_, ?_⟩
      · refine List.eq_nil_iff_forall_not_mem.2 fun j hj => ?_
        obtain ⟨h1, o, ho, _⟩ := mem_ready.1 hj
        have hj' : j < l.length := by have := (Array.getElem?_eq_some_iff.1 ho).1; simpa using this
        have h2 := hall j hj'
        have hs : j < listed.size := by rw [inv.head.size]; simpa using hj'
        simp [hs] at h1 h2
        rw [h1] at h2
        cases h2
      · rw [hn, List.drop_length] at hw
        exact hw
    | succ f ih =>
      intro listed a w hc inv
      by_cases hex : ∃ i, i < n ∧ listed.getD i false = false
      · have key : ∀ j ∈ Region.ready .any l.toArray listed, wpOp P l.toArray Q j (wpAny P .any l.toArray Q f (listed.setIfInBounds j true)) a w := by
          intro j hj
          obtain ⟨i, hi, hiu⟩ := hex
          have his : i < listed.size := by rw [inv.head.size]; simp; omega
          have hjn : j < n := Nat.lt_of_not_le fun h => waits listed inv.head i hi (getD_in his hiu) j h hj
          obtain ⟨hju, o, ho, hall⟩ := mem_ready.1 hj
          have hjs : j < listed.size := by rw [inv.head.size]; simp; omega
          obtain ⟨⟨hg, hdsome⟩, hlt⟩ := ord j o hjn ho
          refine wpOp_step ho fun K' hK => ?_
          rw [if_pos (by simp [Region.wanted, hg])]
          refine hop j o hjn ho a w inv.ext inv.size inv.frame (fun e he hb oe hoe => inv.spec e.on oe (Nat.lt_trans (hlt e he hb) hjn) hoe (hall e he hb)) K' fun v w' hbw hv hp => hK _ _ (ih _ _ _ ?_ ?_)
          · have hf : listed.toList[j]'(by simpa using hjs) = false := by simp [hjs] at hju; simpa using hju
            have h1 := List.count_set (a := true) (b := false) (l := listed.toList) (i := j) (by simpa using hjs)
            rw [hf, hc] at h1
            rw [Array.toList_setIfInBounds, h1]
            rfl
          · have keepL : ∀ k ok, k < n → l.toArray[k]? = some ok → k ≠ j → leftBy ok (a.put o.dst v) = leftBy ok a := by
              intro k ok hk hok hkj
              unfold leftBy
              cases hd : ok.dst with
              | none => rfl
              | some d =>
                simp only
                cases hd2 : o.dst with
                | none => rfl
                | some d2 =>
                  refine getD_put_ne a d2 d v fun e => ?_
                  subst e
                  exact dst j k o ok d2 hjn hk (fun e => hkj e.symm) ho hok hd2 hd
            have newL : leftBy o (a.put o.dst v) = v := by
              unfold leftBy
              cases hd : o.dst with
              | none => rw [hd] at hdsome; cases hdsome
              | some d =>
                simp only
                exact getD_put_eq a d v (by rw [inv.size]; exact hin' j o d hjn ho hd)
            refine ⟨inv.head.set hj hjn, inv.ext.trans (hbw.mono inv.ext.size), ?_, ?_, ?_, ?_, ?_, ?_⟩
            · intro k ok hk hok hkl
              by_cases hkj : k = j
              · subst hkj
                have : ok = o := Option.some.inj (hok.symm.trans ho)
                subst this
                rw [newL]
                exact hv
              · have hkl' : listed.getD k false = true := by rwa [getD_set_ne false (fun e => hkj e.symm)] at hkl
                rw [keepL k ok hk hok hkj]
                exact hV k _ w w' (inv.spec k ok hk hok hkl') hbw
            · intro t ht
              rw [← inv.frame t ht]
              cases hd : o.dst with
              | none => rfl
              | some d => exact getD_put_ne a d t v fun e => ht j o hjn ho (by rw [hd, e])
            · rw [← inv.size]
              cases o.dst <;> simp [Act.put]
            · rw [← inv.defers]
              cases o.dst <;> simp [Act.put]
            · intro k ok hk hok hD hkl
              by_cases hkj : k = j
              · subst hkj
                have : ok = o := Option.some.inj (hok.symm.trans ho)
                subst this
                rw [newL]
                obtain ⟨b, h1, _, h3⟩ := hp hD
                exact ⟨b, h1, h3⟩
              · have hkl' : listed.getD k false = true := by rwa [getD_set_ne false (fun e => hkj e.symm)] at hkl
                rw [keepL k ok hk hok hkj]
                obtain ⟨b, h1, h2⟩ := inv.ptr k ok hk hok hD hkl'
                exact ⟨b, h1, Nat.lt_of_lt_of_le h2 hbw.size⟩
            · intro k m ok om hk hm hkm hok hom hDk hDm hkl hml
              have old : ∀ k ok, k < n → l.toArray[k]? = some ok → D k → k ≠ j → (listed.setIfInBounds j true).getD k false = true → ∃ b, leftBy ok (a.put o.dst v) = .pointer (some ⟨b, 0, none⟩) ∧ b < w.heap.size := by
                intro k ok hk hok hD hkj hkl
                have hkl' : listed.getD k false = true := by rwa [getD_set_ne false (fun e => hkj e.symm)] at hkl
                rw [keepL k ok hk hok hkj]
                exact inv.ptr k ok hk hok hD hkl'
              by_cases hkj : k = j
              · subst hkj
                have : ok = o := Option.some.inj (hok.symm.trans ho)
                subst this
                obtain ⟨b, h1, h2, h3⟩ := hp hDk
                obtain ⟨b', h1', h2'⟩ := old m om hm hom hDm (fun e => hkm e.symm) hml
                rw [newL, h1', h1]
                intro e
                cases e
                omega
              · by_cases hmj : m = j
                · subst hmj
                  have : om = o := Option.some.inj (hom.symm.trans ho)
                  subst this
                  obtain ⟨b, h1, h2, h3⟩ := hp hDm
                  obtain ⟨b', h1', h2'⟩ := old k ok hk hok hDk hkm hkl
                  rw [newL, h1', h1]
                  intro e
                  cases e
                  omega
                · have hkl' : listed.getD k false = true := by rwa [getD_set_ne false (fun e => hkj e.symm)] at hkl
                  have hml' : listed.getD m false = true := by rwa [getD_set_ne false (fun e => hmj e.symm)] at hml
                  rw [keepL k ok hk hok hkj, keepL m om hm hom hmj]
                  exact inv.apart k m ok om hk hm hkm hok hom hDk hDm hkl' hml'
        refine ⟨fun h0 => ?_, key⟩
        -- something of the head may come up
        exfalso
        obtain ⟨i, hi, hiu⟩ := hex
        have hmin : ∀ d i, i ≤ d → i < n → listed.getD i false = false → ∃ j, j ∈ Region.ready .any l.toArray listed := by
          intro d
          induction d using Nat.strongRecOn with
          | _ d ihd =>
            intro i hid hin hun
            have his : i < listed.size := by rw [inv.head.size]; simp; omega
            have ho : l.toArray[i]? = some l[i] := by simp
            by_cases hr : ∀ e ∈ (l[i]).after, Region.binds .any e = true → listed.getD e.on false = true
            · exact ⟨i, mem_ready.2 ⟨getD_in his hun, _, ho, hr⟩⟩
            · obtain ⟨e, he⟩ := Classical.not_forall.1 hr
              obtain ⟨he1, he2⟩ := Classical.not_forall.1 he
              obtain ⟨hb, hl⟩ := Classical.not_forall.1 he2
              have hlt := (ord i _ hin ho).2 e he1 hb
              have hl' : listed.getD e.on false = false := by simpa using hl
              exact ihd e.on (by omega) e.on (Nat.le_refl _) (by omega) hl'
        obtain ⟨j, hj⟩ := hmin i i (Nat.le_refl _) hi hiu
        rw [h0] at hj
        cases hj
      · have hall : ∀ i, i < n → listed.getD i false = true := by
          intro i hi
          cases h : listed.getD i false with
          | true => rfl
          | false => exact absurd ⟨i, hi, h⟩ hex
        have hlisted : listed.toList = List.replicate n true ++ List.replicate (l.length - n) false := by
          apply List.ext_getElem
          · have := inv.head.size; simp at this ⊢; omega
          · intro i h1 h2
            have h1' : i < l.length := by have := inv.head.size; simp at this h1; omega
            by_cases hi : i < n
            · have := hall i hi
              simp at h1
              simp [h1] at this
              simp [this, hi, List.getElem_append]
            · have := inv.head.tail i (by omega) (by simpa using h1')
              simp at h1
              simp [h1] at this
              simp [this, hi, List.getElem_append]
        have hw := hend a w inv.ext inv.size inv.defers inv.frame (fun i o hi ho => inv.spec i o hi ho (hall i hi)) (fun i j oi oj hi hj hij hoi hoj h1 h2 => inv.apart i j oi oj hi hj hij hoi hoj h1 h2 (hall i hi) (hall j hj))
        have h := wpAny_of_seq (md := .any) (Q' := Q) (P := P) (ops := l.toArray) (l.drop n) n listed a w (fun j => by simp [List.getElem?_drop]) (by rw [show listed = (List.replicate n true ++ List.replicate (l.length - n) false).toArray by rw [← hlisted]]; simpa using hseq) hw
        have hlen : (l.drop n).length = f + 1 := by
          rw [← hc, hlisted, List.count_append, List.count_replicate, List.count_replicate]
          simp
        rw [hlen] at h
        exact h
  refine wp_region_any hm (main _ _ _ _ ?_ ?_)
  · simp
  · refine ⟨⟨by simp, fun j oj _ hl => (by rw [getD_replicate_false] at hl; cases hl), fun t _ ht => getD_in (by simpa using ht) (getD_replicate_false _ _)⟩, ?_, fun i o _ _ hl => (by rw [getD_replicate_false] at hl; cases hl), fun _ _ => rfl, rfl, rfl, fun i o _ _ _ hl => (by rw [getD_replicate_false] at hl; cases hl), fun i j _ _ _ _ _ _ _ _ _ hl => (by rw [getD_replicate_false] at hl; cases hl)⟩
    exact ⟨rfl, rfl, rfl, Nat.le_refl _, fun _ _ => rfl⟩
end
end Go
