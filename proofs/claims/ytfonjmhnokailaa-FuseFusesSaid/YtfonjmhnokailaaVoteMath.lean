/- Votes, the plain law: what two of some spans have, what all have. -/
import Derived.Test.YtfonjmhnokailaaBase
set_option linter.unusedVariables false
namespace Go.Proofs.Ytfonjmhnokailaa
structure TwoIs (a b : Nat → Int) (S : Nat → Nat → Prop) (lo hi : Int) (f : Bool) : Prop where
  some_ : f = true → ∃ i j, S i j ∧ max (a i) (a j) ≤ min (b i) (b j)
  none_ : f = false → lo = 0 ∧ hi = 0 ∧ ∀ i j, S i j → ¬ max (a i) (a j) ≤ min (b i) (b j)
  lo_ : f = true → (∃ i j, S i j ∧ max (a i) (a j) ≤ min (b i) (b j) ∧ lo = max (a i) (a j)) ∧ ∀ i j, S i j → max (a i) (a j) ≤ min (b i) (b j) → lo ≤ max (a i) (a j)
  hi_ : f = true → (∃ i j, S i j ∧ max (a i) (a j) ≤ min (b i) (b j) ∧ hi = min (b i) (b j)) ∧ ∀ i j, S i j → max (a i) (a j) ≤ min (b i) (b j) → min (b i) (b j) ≤ hi
/-- The pairs of the first k with a later one, and of k with the m behind it. -/
def Pairs (n k m : Nat) (i j : Nat) : Prop := (i < k ∧ i < j ∧ j < n) ∨ (i = k ∧ k < j ∧ j < k + (1 + m))
theorem two_start (a b : Nat → Int) (n : Nat) : TwoIs a b (Pairs n 0 0) 0 0 false :=
  ⟨fun h => (by cases h), fun _ => ⟨rfl, rfl, fun i j h => (by unfold Pairs at h; omega)⟩, fun h => (by cases h), fun h => (by cases h)⟩
theorem two_congr {a b : Nat → Int} {S S' : Nat → Nat → Prop} {lo hi : Int} {f : Bool} (h : TwoIs a b S lo hi f) (e : ∀ i j, S i j ↔ S' i j) : TwoIs a b S' lo hi f := by
  have : S = S' := by funext i j; exact propext (e i j)
  rw [← this]; exact h
theorem two_next (a b : Nat → Int) (n k : Nat) (lo hi : Int) (f : Bool) (hk : k < n) (h : TwoIs a b (Pairs n k (n - (k + 1))) lo hi f) : TwoIs a b (Pairs n (k + 1) 0) lo hi f :=
  two_congr h fun i j => by unfold Pairs; omega
/-- A pair that has nothing in common. -/
theorem two_no (a b : Nat → Int) (n k m : Nat) (lo hi : Int) (f : Bool) (h : TwoIs a b (Pairs n k m) lo hi f) (hn : ¬ max (a k) (a (k + (1 + m))) ≤ min (b k) (b (k + (1 + m)))) : TwoIs a b (Pairs n k (m + 1)) lo hi f := by
  have key : ∀ i j, Pairs n k (m + 1) i j → Pairs n k m i j ∨ (i = k ∧ j = k + (1 + m)) := by intro i j; unfold Pairs; omega
  have key2 : ∀ i j, Pairs n k m i j → Pairs n k (m + 1) i j := by intro i j; unfold Pairs; omega
  refine ⟨fun hf => ?_, fun hf => ?_, fun hf => ?_, fun hf => ?_⟩
  · obtain ⟨i, j, h1, h2⟩ := h.some_ hf; exact ⟨i, j, key2 _ _ h1, h2⟩
  · obtain ⟨h1, h2, h3⟩ := h.none_ hf
    refine ⟨h1, h2, fun i j hp => ?_⟩
    rcases key i j hp with hp | ⟨rfl, rfl⟩
    · exact h3 i j hp
    · exact hn
  · obtain ⟨⟨i, j, h1, h2, h3⟩, h4⟩ := h.lo_ hf
    refine ⟨⟨i, j, key2 _ _ h1, h2, h3⟩, fun i j hp hq => ?_⟩
    rcases key i j hp with hp | ⟨rfl, rfl⟩
    · exact h4 i j hp hq
    · exact absurd hq hn
  · obtain ⟨⟨i, j, h1, h2, h3⟩, h4⟩ := h.hi_ hf
    refine ⟨⟨i, j, key2 _ _ h1, h2, h3⟩, fun i j hp hq => ?_⟩
    rcases key i j hp with hp | ⟨rfl, rfl⟩
    · exact h4 i j hp hq
    · exact absurd hq hn
/-- The first pair that has something in common. -/
theorem two_first (a b : Nat → Int) (n k m : Nat) (lo hi : Int) (h : TwoIs a b (Pairs n k m) lo hi false) (hp : max (a k) (a (k + (1 + m))) ≤ min (b k) (b (k + (1 + m)))) :
    TwoIs a b (Pairs n k (m + 1)) (max (a k) (a (k + (1 + m)))) (min (b k) (b (k + (1 + m)))) true := by
  have key : ∀ i j, Pairs n k (m + 1) i j → Pairs n k m i j ∨ (i = k ∧ j = k + (1 + m)) := by intro i j; unfold Pairs; omega
  have own : Pairs n k (m + 1) k (k + (1 + m)) := by unfold Pairs; omega
  obtain ⟨_, _, h3⟩ := h.none_ rfl
  refine ⟨fun _ => ⟨_, _, own, hp⟩, fun hf => (by cases hf), fun _ => ⟨⟨_, _, own, hp, rfl⟩, fun i j hq hr => ?_⟩, fun _ => ⟨⟨_, _, own, hp, rfl⟩, fun i j hq hr => ?_⟩⟩
  · rcases key i j hq with hq | ⟨rfl, rfl⟩
    · exact absurd hr (h3 i j hq)
    · exact Int.le_refl _
  · rcases key i j hq with hq | ⟨rfl, rfl⟩
    · exact absurd hr (h3 i j hq)
    · exact Int.le_refl _
/-- A later pair that has something in common. -/
theorem two_more (a b : Nat → Int) (n k m : Nat) (lo hi : Int) (h : TwoIs a b (Pairs n k m) lo hi true) (hp : max (a k) (a (k + (1 + m))) ≤ min (b k) (b (k + (1 + m)))) :
    TwoIs a b (Pairs n k (m + 1)) (min lo (max (a k) (a (k + (1 + m))))) (max hi (min (b k) (b (k + (1 + m))))) true := by
  have key : ∀ i j, Pairs n k (m + 1) i j → Pairs n k m i j ∨ (i = k ∧ j = k + (1 + m)) := by intro i j; unfold Pairs; omega
  have key2 : ∀ i j, Pairs n k m i j → Pairs n k (m + 1) i j := by intro i j; unfold Pairs; omega
  have own : Pairs n k (m + 1) k (k + (1 + m)) := by unfold Pairs; omega
  obtain ⟨⟨i1, j1, l1, l2, l3⟩, l4⟩ := h.lo_ rfl
  obtain ⟨⟨i2, j2, g1, g2, g3⟩, g4⟩ := h.hi_ rfl
  refine ⟨fun _ => ⟨_, _, own, hp⟩, fun hf => (by cases hf), fun _ => ⟨?_, fun i j hq hr => ?_⟩, fun _ => ⟨?_, fun i j hq hr => ?_⟩⟩
  · by_cases hc : lo ≤ max (a k) (a (k + (1 + m)))
    · exact ⟨i1, j1, key2 _ _ l1, l2, by rw [← l3]; omega⟩
    · exact ⟨_, _, own, hp, by omega⟩
  · rcases key i j hq with hq | ⟨rfl, rfl⟩
    · have := l4 i j hq hr; omega
    · omega
  · by_cases hc : min (b k) (b (k + (1 + m))) ≤ hi
    · exact ⟨i2, j2, key2 _ _ g1, g2, by rw [← g3]; omega⟩
    · exact ⟨_, _, own, hp, by omega⟩
  · rcases key i j hq with hq | ⟨rfl, rfl⟩
    · have := g4 i j hq hr; omega
    · omega
/-- It is the only such span. -/
theorem two_unique {a b : Nat → Int} {S : Nat → Nat → Prop} {lo hi lo' hi' : Int} {f f' : Bool} (h : TwoIs a b S lo hi f) (h' : TwoIs a b S lo' hi' f') : lo = lo' ∧ hi = hi' ∧ f = f' := by
  have hf : f = f' := by
    cases f <;> cases f' <;> try rfl
    · obtain ⟨i, j, h1, h2⟩ := h'.some_ rfl
      exact absurd h2 ((h.none_ rfl).2.2 i j h1)
    · obtain ⟨i, j, h1, h2⟩ := h.some_ rfl
      exact absurd h2 ((h'.none_ rfl).2.2 i j h1)
  subst hf
  cases f with
  | false => exact ⟨by rw [(h.none_ rfl).1, (h'.none_ rfl).1], by rw [(h.none_ rfl).2.1, (h'.none_ rfl).2.1], rfl⟩
  | true =>
    obtain ⟨⟨i1, j1, l1, l2, l3⟩, l4⟩ := h.lo_ rfl
    obtain ⟨⟨i2, j2, g1, g2, g3⟩, g4⟩ := h.hi_ rfl
    obtain ⟨⟨i1', j1', l1', l2', l3'⟩, l4'⟩ := h'.lo_ rfl
    obtain ⟨⟨i2', j2', g1', g2', g3'⟩, g4'⟩ := h'.hi_ rfl
    have e1 := l4 _ _ l1' l2'
    have e2 := l4' _ _ l1 l2
    have e3 := g4 _ _ g1' g2'
    have e4 := g4' _ _ g1 g2
    exact ⟨by omega, by omega, rfl⟩
theorem two_right {a b : Nat → Int} {S : Nat → Nat → Prop} {lo hi : Int} (h : TwoIs a b S lo hi true) : lo ≤ hi := by
  obtain ⟨i, j, h1, h2⟩ := h.some_ rfl
  have := (h.lo_ rfl).2 i j h1 h2
  have := (h.hi_ rfl).2 i j h1 h2
  omega
structure CommonIs (a b : Nat → Int) (n : Nat) (lo hi : Int) (f : Bool) : Prop where
  yes : f = true → lo ≤ hi ∧ (∃ i, i < n ∧ lo = a i) ∧ (∀ i, i < n → a i ≤ lo) ∧ (∃ i, i < n ∧ hi = b i) ∧ ∀ i, i < n → hi ≤ b i
  no : f = false → lo = 0 ∧ hi = 0 ∧ (n = 0 ∨ ∃ i j, i < n ∧ j < n ∧ b j < a i)
theorem common_unique {a b : Nat → Int} {n : Nat} {lo hi lo' hi' : Int} {f f' : Bool} (h : CommonIs a b n lo hi f) (h' : CommonIs a b n lo' hi' f') : lo = lo' ∧ hi = hi' ∧ f = f' := by
  have key : ∀ {lo hi lo' hi' : Int}, CommonIs a b n lo hi true → CommonIs a b n lo' hi' false → False := by
    intro lo hi lo' hi' h h'
    obtain ⟨h0, ⟨i0, e0, _⟩, h1, _, h2⟩ := h.yes rfl
    obtain ⟨_, _, h3 | ⟨i, j, hi, hj, hb⟩⟩ := h'.no rfl
    · omega
    · have := h1 i hi; have := h2 j hj; omega
  cases f with
  | true =>
    cases f' with
    | true =>
      obtain ⟨h0, ⟨i0, e0, l0⟩, h1, ⟨j0, f0, m0⟩, h2⟩ := h.yes rfl
      obtain ⟨g0, ⟨i1, e1, l1⟩, g1, ⟨j1, f1, m1⟩, g2⟩ := h'.yes rfl
      have := h1 i1 e1; have := g1 i0 e0; have := h2 j1 f1; have := g2 j0 f0
      exact ⟨by omega, by omega, rfl⟩
    | false => exact (key h h').elim
  | false =>
    cases f' with
    | true => exact (key h' h).elim
    | false =>
      obtain ⟨h0, h1, _⟩ := h.no rfl
      obtain ⟨g0, g1, _⟩ := h'.no rfl
      exact ⟨by omega, by omega, rfl⟩
/-- What is in the first, and in the first k. -/
structure PreIs (a b : Nat → Int) (k : Nat) (lo hi : Int) : Prop where
  l1 : ∃ i, (i < k ∨ i = 0) ∧ lo = a i
  l2 : ∀ i, (i < k ∨ i = 0) → a i ≤ lo
  h1 : ∃ i, (i < k ∨ i = 0) ∧ hi = b i
  h2 : ∀ i, (i < k ∨ i = 0) → hi ≤ b i
  le : 0 < k → lo ≤ hi
theorem pre_start (a b : Nat → Int) : PreIs a b 0 (a 0) (b 0) := by
  refine ⟨⟨0, Or.inr rfl, rfl⟩, fun i h => ?_, ⟨0, Or.inr rfl, rfl⟩, fun i h => ?_, fun h => absurd h (by omega)⟩
  · have : i = 0 := by omega
    subst this; exact Int.le_refl _
  · have : i = 0 := by omega
    subst this; exact Int.le_refl _
theorem pre_next {a b : Nat → Int} {k : Nat} {lo hi : Int} (h : PreIs a b k lo hi) (hok : max lo (a k) ≤ min hi (b k)) : PreIs a b (k + 1) (max lo (a k)) (min hi (b k)) := by
  obtain ⟨⟨i1, q1, e1⟩, l2, ⟨i2, q2, e2⟩, h2, _⟩ := h
  refine ⟨?_, fun i hi => ?_, ?_, fun i hi => ?_, fun _ => hok⟩
  · by_cases hc : a k ≤ lo
    · exact ⟨i1, by omega, by omega⟩
    · exact ⟨k, by omega, by omega⟩
  · by_cases hik : i = k
    · subst hik; omega
    · have := l2 i (by omega); omega
  · by_cases hc : hi ≤ b k
    · exact ⟨i2, by omega, by omega⟩
    · exact ⟨k, by omega, by omega⟩
  · by_cases hik : i = k
    · subst hik; omega
    · have := h2 i (by omega); omega
theorem pre_no {a b : Nat → Int} {n k : Nat} {lo hi : Int} (hk : k < n) (h : PreIs a b k lo hi) (hno : ¬ max lo (a k) ≤ min hi (b k)) : CommonIs a b n 0 0 false := by
  obtain ⟨⟨i1, q1, e1⟩, l2, ⟨i2, q2, e2⟩, h2, _⟩ := h
  refine ⟨fun h => (by cases h), fun _ => ⟨rfl, rfl, Or.inr ?_⟩⟩
  by_cases c1 : lo ≤ a k
  · by_cases c2 : hi ≤ b k
    · exact ⟨k, i2, hk, by omega, by omega⟩
    · exact ⟨k, k, hk, hk, by omega⟩
  · by_cases c2 : hi ≤ b k
    · exact ⟨i1, i2, by omega, by omega, by omega⟩
    · exact ⟨i1, k, by omega, by omega, by omega⟩
theorem pre_all {a b : Nat → Int} {n : Nat} {lo hi : Int} (hn : 0 < n) (h : PreIs a b n lo hi) : CommonIs a b n lo hi true := by
  obtain ⟨⟨i1, q1, e1⟩, l2, ⟨i2, q2, e2⟩, h2, hle⟩ := h
  exact ⟨fun _ => ⟨hle hn, ⟨i1, by omega, e1⟩, fun i hi => l2 i (Or.inl hi), ⟨i2, by omega, e2⟩, fun i hi => h2 i (Or.inl hi)⟩, fun h => (by cases h)⟩
end Go.Proofs.Ytfonjmhnokailaa
