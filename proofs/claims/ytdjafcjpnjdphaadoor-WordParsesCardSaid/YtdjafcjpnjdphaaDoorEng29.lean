/- The engine, part 29: loops whose states are drawn from data. -/
import Derived.Test.YtdjafcjpnjdphaaDoorEng27
set_option linter.unusedVariables false
set_option linter.unusedSimpArgs false
namespace Go.Eng
open Go Go.RowKit
theorem ex_least {p : Nat → Prop} (h : ∃ n, p n) : ∃ n, p n ∧ ∀ k, p k → n ≤ k := by
  obtain ⟨n, hn⟩ := h
  induction n using Nat.strongRecOn with
  | _ n ih =>
    by_cases h : ∃ k, k < n ∧ p k
    · obtain ⟨k, h1, h2⟩ := h; exact ih k h1 h2
    · exact ⟨n, hn, fun k hk => Nat.le_of_not_lt fun hl => h ⟨k, hl, hk⟩⟩
open Classical in
/-- The least measure of any data that make a state. -/
noncomputable def leastM {S : Type} (st : S → AAct) (hp : S → AHeap) (inv : S → Prop) (m : S → Nat) (a : AAct) (h : AHeap) : Nat :=
  if e : ∃ n s, st s = a ∧ hp s = h ∧ inv s ∧ m s = n then (ex_least e).choose else 0
theorem leastM_le {S : Type} {st : S → AAct} {hp : S → AHeap} {inv : S → Prop} {m : S → Nat} {s : S} (hi : inv s) : leastM st hp inv m (st s) (hp s) ≤ m s := by
  have e : ∃ n s', st s' = st s ∧ hp s' = hp s ∧ inv s' ∧ m s' = n := ⟨m s, s, rfl, rfl, hi, rfl⟩
  unfold leastM
  rw [dif_pos e]
  exact (ex_least e).choose_spec.2 _ ⟨s, rfl, rfl, hi, rfl⟩
theorem leastM_get {S : Type} {st : S → AAct} {hp : S → AHeap} {inv : S → Prop} {m : S → Nat} {a : AAct} {h : AHeap} (e : ∃ s, st s = a ∧ hp s = h ∧ inv s) : ∃ s, st s = a ∧ hp s = h ∧ inv s ∧ m s = leastM st hp inv m a h := by
  have e : ∃ n s, st s = a ∧ hp s = h ∧ inv s ∧ m s = n := by obtain ⟨s, h1, h2, h3⟩ := e; exact ⟨m s, s, h1, h2, h3, rfl⟩
  unfold leastM
  rw [dif_pos e]
  exact (ex_least e).choose_spec.1
theorem Loop.data {P : Program} {w : Prims} (hw : w = std) {c : ACode} {Q : APost} {a : AAct} {h : AHeap} {S : Type} (st : S → AAct) (hp : S → AHeap) (inv : S → Prop) (m : S → Nat) (s0 : S) (hwk : Wk 0 a h (st s0) (hp s0)) (h0 : inv s0)
    (round : ∀ s, inv s → ∀ Q' : APost, (∀ s' a1 h1, Wk 0 a1 h1 (st s') (hp s') → inv s' → m s' < m s → Q' .normal a1 h1) → (∀ k a1 h1, Q (.exit k) a1 h1 → Q' (.exit k) a1 h1) → (∀ a1 h1, Q .ret a1 h1 → Q' .ret a1 h1) → vcCodeY w P (elems [] c) 0 c Q' (st s) (hp s)) : Loop P 0 c Q a h :=
  Loop.introY (fun a h => ∃ s, st s = a ∧ hp s = h ∧ inv s) (leastM st hp inv m) (st s0) (hp s0) hwk ⟨s0, rfl, rfl, h0⟩ (by
    intro a h hI w' hw' Q' hN hE hR
    obtain rfl : w' = w := hw'.trans hw.symm
    obtain ⟨s, rfl, rfl, h1, h2⟩ := leastM_get (m := m) hI
    refine round s h1 Q' (fun s' a1 h1 k1 k2 k3 => hN _ _ _ _ k1 ⟨s', rfl, rfl, k2⟩ ?_) hE hR
    rw [← h2]
    exact Nat.lt_of_le_of_lt (leastM_le k2) k3)
end Go.Eng
