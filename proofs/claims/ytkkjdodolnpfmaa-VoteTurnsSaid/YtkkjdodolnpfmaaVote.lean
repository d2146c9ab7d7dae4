/- Layer 5, vote: what 'Two' computes. -/
import Derived.Test.YtkkjdodolnpfmaaSpan
import Derived.Test.YtkkjdodolnpfmaaSlices
set_option linter.unusedVariables false
set_option linter.unusedSimpArgs false
namespace Go.Proofs.Ytkkjdodolnpfmaa
open Go.RowKit
/-- Spans as a list: where each begins, and ends. -/
def spx (a b : Nat → Int) (i j : Nat) : Value := if j = 0 then .int .i64 (a i) else .int .i64 (b i)
/-- What is in two of the pairs S: the least span with all of it, if there is anything. -/
structure TwoIs (a b : Nat → Int) (S : Nat → Nat → Prop) (lo hi : Int) (f : Bool) : Prop where
  some_ : f = true → ∃ i j, S i j ∧ max (a i) (a j) ≤ min (b i) (b j)
  none_ : f = false → lo = 0 ∧ hi = 0 ∧ ∀ i j, S i j → ¬ max (a i) (a j) ≤ min (b i) (b j)
  lo_ : f = true → (∃ i j, S i j ∧ max (a i) (a j) ≤ min (b i) (b j) ∧ lo = max (a i) (a j)) ∧ ∀ i j, S i j → max (a i) (a j) ≤ min (b i) (b j) → lo ≤ max (a i) (a j)
  hi_ : f = true → (∃ i j, S i j ∧ max (a i) (a j) ≤ min (b i) (b j) ∧ hi = min (b i) (b j)) ∧ ∀ i j, S i j → max (a i) (a j) ≤ min (b i) (b j) → min (b i) (b j) ≤ hi
/-- The pairs of the first k with a later one, and of k with the m behind it. -/
def Pairs (n k m : Nat) (i j : Nat) : Prop := (i < k ∧ i < j ∧ j < n) ∨ (i = k ∧ k < j ∧ j < k + (1 + m))
theorem two_start (a b : Nat → Int) (n : Nat) : TwoIs a b (Pairs n 0 0) 0 0 false :=
  ⟨fun h => (by cases h), fun _ => ⟨rfl, rfl, fun i j h => (by unfold Pairs at h; omega)⟩, fun h => (by cases h), fun h => (by cases h)⟩
theorem two_congr {a b : Nat → Int} {S S' : Nat → Nat → Prop} {lo hi : Int} {f : Bool} (h : TwoIs a b S lo hi f) (e : ∀ i j, S i j ↔ S' i j) : TwoIs a b S' lo hi f := by
  have : S = S' := by funext i j; exact propext (e i j)
  rw [← this]; exact h
theorem two_next (a b : Nat → Int) (n k : Nat) (lo hi : Int) (f : Bool) (hk : k < n) (h : TwoIs a b (Pairs n k (n - (k + 1))) lo hi f) : TwoIs a b (Pairs n (k + 1) 0) lo hi f :=
  two_congr h fun i j => by unfold Pairs; omega
/-- A pair that has nothing in common. -/
theorem two_no (a b : Nat → Int) (n k m : Nat) (lo hi : Int) (f : Bool) (h : TwoIs a b (Pairs n k m) lo hi f) (hn : ¬ max (a k) (a (k + (1 + m))) ≤ min (b k) (b (k + (1 + m)))) : TwoIs a b (Pairs n k (m + 1)) lo hi f := by
  have key : ∀ i j, Pairs n k (m + 1) i j → Pairs n k m i j ∨ (i = k ∧ j = k + (1 + m)) := by intro i j; unfold Pairs; omega
  have key2 : ∀ i j, Pairs n k m i j → Pairs n k (m + 1) i j := by intro i j; unfold Pairs; omega
  refine ⟨fun hf => ?_, fun hf => ?_, fun hf => ?_, fun hf => ?_⟩
  · obtain ⟨i, j, h1, h2⟩ := h.some_ hf; exact ⟨i, j, key2 _ _ h1, h2⟩
  · obtain ⟨h1, h2, h3⟩ := h.none_ hf
    refine ⟨h1, h2, fun i j hp => ?_⟩
    rcases key i j hp with hp | ⟨rfl, rfl⟩
    · exact h3 i j hp
    · exact hn
  · obtain ⟨⟨i, j, h1, h2, h3⟩, h4⟩ := h.lo_ hf
    refine ⟨⟨i, j, key2 _ _ h1, h2, h3⟩, fun i j hp hq => ?_⟩
    rcases key i j hp with hp | ⟨rfl, rfl⟩
    · exact h4 i j hp hq
    · exact absurd hq hn
  · obtain ⟨⟨i, j, h1, h2, h3⟩, h4⟩ := h.hi_ hf
    refine ⟨⟨i, j, key2 _ _ h1, h2, h3⟩, fun i j hp hq => ?_⟩
    rcases key i j hp with hp | ⟨rfl, rfl⟩
    · exact h4 i j hp hq
    · exact absurd hq hn
/-- The first pair that has something in common. -/
theorem two_first (a b : Nat → Int) (n k m : Nat) (lo hi : Int) (h : TwoIs a b (Pairs n k m) lo hi false) (hp : max (a k) (a (k + (1 + m))) ≤ min (b k) (b (k + (1 + m)))) :
    TwoIs a b (Pairs n k (m + 1)) (max (a k) (a (k + (1 + m)))) (min (b k) (b (k + (1 + m)))) true := by
  have key : ∀ i j, Pairs n k (m + 1) i j → Pairs n k m i j ∨ (i = k ∧ j = k + (1 + m)) := by intro i j; unfold Pairs; omega
  have own : Pairs n k (m + 1) k (k + (1 + m)) := by unfold Pairs; omega
  obtain ⟨_, _, h3⟩ := h.none_ rfl
  refine ⟨fun _ => ⟨_, _, own, hp⟩, fun hf => (by cases hf), fun _ => ⟨⟨_, _, own, hp, rfl⟩, fun i j hq hr => ?_⟩, fun _ => ⟨⟨_, _, own, hp, rfl⟩, fun i j hq hr => ?_⟩⟩
  · rcases key i j hq with hq | ⟨rfl, rfl⟩
    · exact absurd hr (h3 i j hq)
    · exact Int.le_refl _
  · rcases key i j hq with hq | ⟨rfl, rfl⟩
    · exact absurd hr (h3 i j hq)
    · exact Int.le_refl _
/-- A later pair that has something in common. -/
theorem two_more (a b : Nat → Int) (n k m : Nat) (lo hi : Int) (h : TwoIs a b (Pairs n k m) lo hi true) (hp : max (a k) (a (k + (1 + m))) ≤ min (b k) (b (k + (1 + m)))) :
    TwoIs a b (Pairs n k (m + 1)) (min lo (max (a k) (a (k + (1 + m))))) (max hi (min (b k) (b (k + (1 + m))))) true := by
  have key : ∀ i j, Pairs n k (m + 1) i j → Pairs n k m i j ∨ (i = k ∧ j = k + (1 + m)) := by intro i j; unfold Pairs; omega
  have key2 : ∀ i j, Pairs n k m i j → Pairs n k (m + 1) i j := by intro i j; unfold Pairs; omega
  have own : Pairs n k (m + 1) k (k + (1 + m)) := by unfold Pairs; omega
  obtain ⟨⟨i1, j1, l1, l2, l3⟩, l4⟩ := h.lo_ rfl
  obtain ⟨⟨i2, j2, g1, g2, g3⟩, g4⟩ := h.hi_ rfl
  refine ⟨fun _ => ⟨_, _, own, hp⟩, fun hf => (by cases hf), fun _ => ⟨?_, fun i j hq hr => ?_⟩, fun _ => ⟨?_, fun i j hq hr => ?_⟩⟩
  · by_cases hc : lo ≤ max (a k) (a (k + (1 + m)))
    · exact ⟨i1, j1, key2 _ _ l1, l2, by rw [← l3]; omega⟩
    · exact ⟨_, _, own, hp, by omega⟩
  · rcases key i j hq with hq | ⟨rfl, rfl⟩
    · have := l4 i j hq hr; omega
    · omega
  · by_cases hc : min (b k) (b (k + (1 + m))) ≤ hi
    · exact ⟨i2, j2, key2 _ _ g1, g2, by rw [← g3]; omega⟩
    · exact ⟨_, _, own, hp, by omega⟩
  · rcases key i j hq with hq | ⟨rfl, rfl⟩
    · have := g4 i j hq hr; omega
    · omega
/-- It is the only such span. -/
theorem two_unique {a b : Nat → Int} {S : Nat → Nat → Prop} {lo hi lo' hi' : Int} {f f' : Bool} (h : TwoIs a b S lo hi f) (h' : TwoIs a b S lo' hi' f') : lo = lo' ∧ hi = hi' ∧ f = f' := by
  have hf : f = f' := by
    cases f <;> cases f' <;> try rfl
    · obtain ⟨i, j, h1, h2⟩ := h'.some_ rfl
      exact absurd h2 ((h.none_ rfl).2.2 i j h1)
    · obtain ⟨i, j, h1, h2⟩ := h.some_ rfl
      exact absurd h2 ((h'.none_ rfl).2.2 i j h1)
  subst hf
  cases f with
  | false => exact ⟨by rw [(h.none_ rfl).1, (h'.none_ rfl).1], by rw [(h.none_ rfl).2.1, (h'.none_ rfl).2.1], rfl⟩
  | true =>
    obtain ⟨⟨i1, j1, l1, l2, l3⟩, l4⟩ := h.lo_ rfl
    obtain ⟨⟨i2, j2, g1, g2, g3⟩, g4⟩ := h.hi_ rfl
    obtain ⟨⟨i1', j1', l1', l2', l3'⟩, l4'⟩ := h'.lo_ rfl
    obtain ⟨⟨i2', j2', g1', g2', g3'⟩, g4'⟩ := h'.hi_ rfl
    have e1 := l4 _ _ l1' l2'
    have e2 := l4' _ _ l1 l2
    have e3 := g4 _ _ g1' g2'
    have e4 := g4' _ _ g1 g2
    exact ⟨by omega, by omega, rfl⟩
theorem hull_right (lo hi c d : Int) (h1 : lo ≤ hi) (h2 : c ≤ d) : hl lo hi c d = min lo c ∧ hh lo hi c d = max hi d := by
  unfold hl hh
  rw [if_neg (by omega), if_neg (by omega), if_neg (by omega), if_neg (by omega)]
  exact ⟨rfl, rfl⟩
theorem two_right {a b : Nat → Int} {S : Nat → Nat → Prop} {lo hi : Int} (h : TwoIs a b S lo hi true) : lo ≤ hi := by
  obtain ⟨i, j, h1, h2⟩ := h.some_ rfl
  have := (h.lo_ rfl).2 i j h1 h2
  have := (h.hi_ rfl).2 i j h1 h2
  omega
end Go.Proofs.Ytkkjdodolnpfmaa
