/- VoteTurns. -/
import Derived.Test.YtkkjdodolnpfmaaVoteCommon
import Derived.Test.YtkkjdodolnpfmaaVoteSafe
import Derived.Test.YtkkjdodolnpfmaaOwn
set_option linter.unusedVariables false
set_option linter.unusedSimpArgs false
namespace Go.Proofs.Ytkkjdodolnpfmaa
open Go.RowKit
def rev (n : Nat) (a : Nat → Int) (i : Nat) : Int := a (n - 1 - i)
theorem rev_rev (n : Nat) (a : Nat → Int) (i : Nat) (h : i < n) : rev n a (n - 1 - i) = a i := by
  unfold rev; congr 1; omega
theorem common_rev {a b : Nat → Int} {n : Nat} {lo hi : Int} {f : Bool} (h : CommonIs (rev n a) (rev n b) n lo hi f) : CommonIs a b n lo hi f := by
  refine ⟨fun hf => ?_, fun hf => ?_⟩
  · obtain ⟨h0, ⟨i, hi1, hi2⟩, h1, ⟨j, hj1, hj2⟩, h2⟩ := h.yes hf
    refine ⟨h0, ⟨n - 1 - i, by omega, hi2⟩, fun q hq => ?_, ⟨n - 1 - j, by omega, hj2⟩, fun q hq => ?_⟩
    · have := h1 (n - 1 - q) (by omega); rw [rev_rev n a q hq] at this; exact this
    · have := h2 (n - 1 - q) (by omega); rw [rev_rev n b q hq] at this; exact this
  · obtain ⟨h0, h1, h2 | ⟨i, j, hi, hj, hb⟩⟩ := h.no hf
    · exact ⟨h0, h1, Or.inl h2⟩
    · exact ⟨h0, h1, Or.inr ⟨n - 1 - i, n - 1 - j, by omega, by omega, hb⟩⟩
theorem two_rev {a b : Nat → Int} {n : Nat} {lo hi : Int} {f : Bool} (h : TwoIs (rev n a) (rev n b) (Pairs n n 0) lo hi f) : TwoIs a b (Pairs n n 0) lo hi f := by
  have fw : ∀ i j, Pairs n n 0 i j → Pairs n n 0 (n - 1 - j) (n - 1 - i) := by intro i j; unfold Pairs; omega
  have bd : ∀ i j, Pairs n n 0 i j → i < n ∧ j < n := by intro i j; unfold Pairs; omega
  refine ⟨fun hf => ?_, fun hf => ?_, fun hf => ?_, fun hf => ?_⟩
  · obtain ⟨i, j, hp, hq⟩ := h.some_ hf
    refine ⟨_, _, fw i j hp, ?_⟩
    unfold rev at hq
    omega
  · obtain ⟨h0, h1, h2⟩ := h.none_ hf
    refine ⟨h0, h1, fun i j hp hq => h2 _ _ (fw i j hp) ?_⟩
    rw [rev_rev n a i (bd i j hp).1, rev_rev n a j (bd i j hp).2, rev_rev n b i (bd i j hp).1, rev_rev n b j (bd i j hp).2]
    omega
  · obtain ⟨⟨i, j, hp, hq, he⟩, h2⟩ := h.lo_ hf
    unfold rev at hq he
    refine ⟨⟨_, _, fw i j hp, by omega, by omega⟩, fun i j hp hq => ?_⟩
    have := h2 _ _ (fw i j hp)
    rw [rev_rev n a i (bd i j hp).1, rev_rev n a j (bd i j hp).2, rev_rev n b i (bd i j hp).1, rev_rev n b j (bd i j hp).2] at this
    have := this (by omega)
    omega
  · obtain ⟨⟨i, j, hp, hq, he⟩, h2⟩ := h.hi_ hf
    unfold rev at hq he
    refine ⟨⟨_, _, fw i j hp, by omega, by omega⟩, fun i j hp hq => ?_⟩
    have := h2 _ _ (fw i j hp)
    rw [rev_rev n a i (bd i j hp).1, rev_rev n a j (bd i j hp).2, rev_rev n b i (bd i j hp).1, rev_rev n b j (bd i j hp).2] at this
    have := this (by omega)
    omega
/-- What all have lies in what two have. -/
theorem common_two {a b : Nat → Int} {n : Nat} {lo hi lo' hi' : Int} {f : Bool} (hn : 2 ≤ n) (h : CommonIs a b n lo hi true) (h' : TwoIs a b (Pairs n n 0) lo' hi' f) : f = true ∧ lo' ≤ lo ∧ hi ≤ hi' := by
  obtain ⟨h0, ⟨i, hi1, hi2⟩, h1, ⟨j, hj1, hj2⟩, h2⟩ := h.yes rfl
  have p : Pairs n n 0 0 1 := by unfold Pairs; omega
  have a0 := h1 0 (by omega); have a1 := h1 1 (by omega); have b0 := h2 0 (by omega); have b1 := h2 1 (by omega)
  have hq : max (a 0) (a 1) ≤ min (b 0) (b 1) := by omega
  have hf : f = true := by
    cases f with
    | true => rfl
    | false => exact absurd hq ((h'.none_ rfl).2.2 0 1 p)
  have e1 := (h'.lo_ hf).2 0 1 p hq
  have e2 := (h'.hi_ hf).2 0 1 p hq
  exact ⟨hf, by omega, by omega⟩
end Go.Proofs.Ytkkjdodolnpfmaa
