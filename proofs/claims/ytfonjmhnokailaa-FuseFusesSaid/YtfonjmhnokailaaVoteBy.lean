/- Votes, the plain law: what all, and what two, have, by counts. -/
import Derived.Test.YtfonjmhnokailaaUse6
import Derived.Test.YtfonjmhnokailaaUse3
set_option linter.unusedVariables false
namespace Go.Proofs.Ytfonjmhnokailaa
open Go Go.RowKit Go.Eng
def Has (ps : List (Int × Int)) (x : Int) (i : Nat) : Prop := aOf ps i ≤ x ∧ x ≤ bOf ps i
theorem has_succ (p : Int × Int) (t : List (Int × Int)) (x : Int) (i : Nat) : Has (p :: t) x (i + 1) ↔ Has t x i := by simp [Has, aOf, bOf, List.getD]
theorem has_zero (p : Int × Int) (t : List (Int × Int)) (x : Int) : Has (p :: t) x 0 ↔ p.1 ≤ x ∧ x ≤ p.2 := by simp [Has, aOf, bOf, List.getD]
theorem cnt_cons (p : Int × Int) (t : List (Int × Int)) (x : Int) : cnt x (p :: t) = cnt x t + (if p.1 ≤ x ∧ x ≤ p.2 then 1 else 0) := by simp [cnt, List.countP_cons]
theorem cnt_all (x : Int) : ∀ ps : List (Int × Int), ps.length ≤ cnt x ps ↔ ∀ i, i < ps.length → Has ps x i
  | [] => by simp
  | p :: t => by
    have ih := cnt_all x t
    have hle : cnt x t ≤ t.length := List.countP_le_length
    rw [cnt_cons, List.length_cons]
    constructor
    · intro h i hi
      split at h
      · rename_i h1
        cases i with
        | zero => exact (has_zero p t x).2 h1
        | succ i => exact (has_succ p t x i).2 (ih.1 (by omega) i (by omega))
      · omega
    · intro h
      have h1 := (has_zero p t x).1 (h 0 (by omega))
      rw [if_pos h1]
      have := ih.2 fun i hi => (has_succ p t x i).1 (h (i + 1) (by omega))
      omega
theorem cnt_one (x : Int) : ∀ ps : List (Int × Int), 1 ≤ cnt x ps ↔ ∃ i, i < ps.length ∧ Has ps x i
  | [] => by simp [cnt]
  | p :: t => by
    have ih := cnt_one x t
    rw [cnt_cons, List.length_cons]
    constructor
    · intro h
      split at h
      · rename_i h1
        exact ⟨0, by omega, (has_zero p t x).2 h1⟩
      · obtain ⟨i, hi, hh⟩ := ih.1 (by omega)
        exact ⟨i + 1, by omega, (has_succ p t x i).2 hh⟩
    · rintro ⟨i, hi, hh⟩
      cases i with
      | zero => rw [if_pos ((has_zero p t x).1 hh)]; omega
      | succ i =>
        have := ih.2 ⟨i, by omega, (has_succ p t x i).1 hh⟩
        omega
theorem cnt_two (x : Int) : ∀ ps : List (Int × Int), 2 ≤ cnt x ps ↔ ∃ i j, i < j ∧ j < ps.length ∧ Has ps x i ∧ Has ps x j
  | [] => by simp [cnt]
  | p :: t => by
    have ih := cnt_two x t
    have ih1 := cnt_one x t
    rw [cnt_cons, List.length_cons]
    constructor
    · intro h
      split at h
      · rename_i h1
        obtain ⟨i, hi, hh⟩ := ih1.1 (by omega)
        exact ⟨0, i + 1, by omega, by omega, (has_zero p t x).2 h1, (has_succ p t x i).2 hh⟩
      · obtain ⟨i, j, h1, h2, h3, h4⟩ := ih.1 (by omega)
        exact ⟨i + 1, j + 1, by omega, by omega, (has_succ p t x i).2 h3, (has_succ p t x j).2 h4⟩
    · rintro ⟨i, j, h1, h2, h3, h4⟩
      cases j with
      | zero => omega
      | succ j =>
        cases i with
        | zero =>
          rw [if_pos ((has_zero p t x).1 h3)]
          have := ih1.2 ⟨j, by omega, (has_succ p t x j).1 h4⟩
          omega
        | succ i =>
          have := ih.2 ⟨i, j, by omega, by omega, (has_succ p t x i).1 h3, (has_succ p t x j).1 h4⟩
          omega
theorem lo_two {ps : List (Int × Int)} {i : Nat} : LoOk ps 2 i ↔ ∃ p q, p < q ∧ q < ps.length ∧ Has ps (aOf ps i) p ∧ Has ps (aOf ps i) q := by
  rw [← cnt_two]; show (2 : Int) ≤ (cnt (aOf ps i) ps : Int) ↔ _; omega
theorem hi_two {ps : List (Int × Int)} {i : Nat} : HiOk ps 2 i ↔ ∃ p q, p < q ∧ q < ps.length ∧ Has ps (bOf ps i) p ∧ Has ps (bOf ps i) q := by
  rw [← cnt_two]; show (2 : Int) ≤ (cnt (bOf ps i) ps : Int) ↔ _; omega
theorem lo_all {ps : List (Int × Int)} {m : Int} (hm : m = ps.length) {i : Nat} : LoOk ps m i ↔ ∀ p, p < ps.length → Has ps (aOf ps i) p := by
  rw [← cnt_all]; subst hm; show ((ps.length : Nat) : Int) ≤ (cnt (aOf ps i) ps : Int) ↔ _; omega
theorem hi_all {ps : List (Int × Int)} {m : Int} (hm : m = ps.length) {i : Nat} : HiOk ps m i ↔ ∀ p, p < ps.length → Has ps (bOf ps i) p := by
  rw [← cnt_all]; subst hm; show ((ps.length : Nat) : Int) ≤ (cnt (bOf ps i) ps : Int) ↔ _; omega
theorem two_law {ps : List (Int × Int)} {lo hi l h : Int} {f f1 g1 : Bool} (ht : TwoIs (aOf ps) (bOf ps) (Pairs ps.length ps.length 0) lo hi f) (h1 : BestIs (LoOk ps 2) (aOf ps) (· ≤ ·) ps.length l f1) (h2 : BestIs (HiOk ps 2) (bOf ps) (· ≥ ·) ps.length h g1) :
    ((f1 && g1) = false ∧ f = false ∧ lo = 0 ∧ hi = 0) ∨ ((f1 && g1) = true ∧ f = true ∧ lo = l ∧ hi = h) := by
  have pr : ∀ i j, Pairs ps.length ps.length 0 i j ↔ i < j ∧ j < ps.length := by intro i j; unfold Pairs; omega
  cases f with
  | false =>
    obtain ⟨e1, e2, e3⟩ := ht.none_ rfl
    have : f1 = false := by
      cases f1 with
      | false => rfl
      | true =>
        obtain ⟨⟨i, hi, ho, _⟩, _⟩ := h1.yes rfl
        obtain ⟨p, q, hpq, hq, ⟨a1, a2⟩, ⟨b1, b2⟩⟩ := lo_two.1 ho
        exact absurd (by omega) (e3 p q ((pr p q).2 ⟨hpq, hq⟩))
    exact .inl ⟨by rw [this]; rfl, rfl, e1, e2⟩
  | true =>
    obtain ⟨⟨p, q, hp, hq, he⟩, hmin⟩ := ht.lo_ rfl
    obtain ⟨⟨p', q', hp', hq', he'⟩, hmax⟩ := ht.hi_ rfl
    obtain ⟨c1, c2⟩ := (pr p q).1 hp
    obtain ⟨d1, d2⟩ := (pr p' q').1 hp'
    have k1 : ∃ k, k < ps.length ∧ LoOk ps 2 k ∧ lo = aOf ps k := by
      by_cases hc : aOf ps p ≤ aOf ps q
      · exact ⟨q, c2, lo_two.2 ⟨p, q, c1, c2, ⟨by omega, by omega⟩, ⟨by omega, by omega⟩⟩, by omega⟩
      · exact ⟨p, by omega, lo_two.2 ⟨p, q, c1, c2, ⟨by omega, by omega⟩, ⟨by omega, by omega⟩⟩, by omega⟩
    have k2 : ∃ k, k < ps.length ∧ HiOk ps 2 k ∧ hi = bOf ps k := by
      by_cases hc : bOf ps p' ≤ bOf ps q'
      · exact ⟨p', by omega, hi_two.2 ⟨p', q', d1, d2, ⟨by omega, by omega⟩, ⟨by omega, by omega⟩⟩, by omega⟩
      · exact ⟨q', d2, hi_two.2 ⟨p', q', d1, d2, ⟨by omega, by omega⟩, ⟨by omega, by omega⟩⟩, by omega⟩
    obtain ⟨k, hk1, hk2, hk3⟩ := k1
    obtain ⟨k', hk1', hk2', hk3'⟩ := k2
    have f1t : f1 = true := by
      cases f1 with
      | true => rfl
      | false => exact absurd hk2 ((h1.no rfl).2 k hk1)
    have g1t : g1 = true := by
      cases g1 with
      | true => rfl
      | false => exact absurd hk2' ((h2.no rfl).2 k' hk1')
    subst f1t g1t
    obtain ⟨⟨i, hi0, ho, hv⟩, hb⟩ := h1.yes rfl
    obtain ⟨⟨i', hi0', ho', hv'⟩, hb'⟩ := h2.yes rfl
    obtain ⟨r, s, hrs, hs, ⟨a1, a2⟩, ⟨b1, b2⟩⟩ := lo_two.1 ho
    obtain ⟨r', s', hrs', hs', ⟨a1', a2'⟩, ⟨b1', b2'⟩⟩ := hi_two.1 ho'
    have m1 := hmin r s ((pr r s).2 ⟨hrs, hs⟩) (by omega)
    have m2 := hmax r' s' ((pr r' s').2 ⟨hrs', hs'⟩) (by omega)
    have m3 := hb k hk1 hk2
    have m4 := hb' k' hk1' hk2'
    exact .inr ⟨rfl, rfl, by omega, by omega⟩
theorem all_law {ps : List (Int × Int)} {lo hi l h m : Int} {f f1 g1 : Bool} (hm : m = ps.length) (hpos : 0 < ps.length) (ht : CommonIs (aOf ps) (bOf ps) ps.length lo hi f) (h1 : BestIs (LoOk ps m) (aOf ps) (· ≤ ·) ps.length l f1) (h2 : BestIs (HiOk ps m) (bOf ps) (· ≥ ·) ps.length h g1) :
    ((f1 && g1) = false ∧ f = false ∧ lo = 0 ∧ hi = 0) ∨ ((f1 && g1) = true ∧ f = true ∧ lo = l ∧ hi = h) := by
  cases f with
  | false =>
    obtain ⟨e1, e2, e3⟩ := ht.no rfl
    have : f1 = false := by
      cases f1 with
      | false => rfl
      | true =>
        obtain ⟨⟨i, hi, ho, _⟩, _⟩ := h1.yes rfl
        have ho := (lo_all hm).1 ho
        rcases e3 with e3 | ⟨p, q, hp, hq, hh⟩
        · omega
        · have x1 := ho p hp; have x2 := ho q hq; unfold Has at x1 x2; omega
    exact .inl ⟨by rw [this]; rfl, rfl, e1, e2⟩
  | true =>
    obtain ⟨e0, ⟨k, hk1, hk3⟩, e1, ⟨k', hk1', hk3'⟩, e2⟩ := ht.yes rfl
    have hk2 : LoOk ps m k := (lo_all hm).2 fun p hp => ⟨by have := e1 p hp; omega, by have := e2 p hp; omega⟩
    have hk2' : HiOk ps m k' := (hi_all hm).2 fun p hp => ⟨by have := e1 p hp; omega, by have := e2 p hp; omega⟩
    have f1t : f1 = true := by
      cases f1 with
      | true => rfl
      | false => exact absurd hk2 ((h1.no rfl).2 k hk1)
    have g1t : g1 = true := by
      cases g1 with
      | true => rfl
      | false => exact absurd hk2' ((h2.no rfl).2 k' hk1')
    subst f1t g1t
    obtain ⟨⟨i, hi0, ho, hv⟩, hb⟩ := h1.yes rfl
    obtain ⟨⟨i', hi0', ho', hv'⟩, hb'⟩ := h2.yes rfl
    have x1 := ((lo_all hm).1 ho k hk1).1
    have x2 := ((hi_all hm).1 ho' k' hk1').2
    have m3 := hb k hk1 hk2
    have m4 := hb' k' hk1' hk2'
    exact .inr ⟨rfl, rfl, by omega, by omega⟩
end Go.Proofs.Ytfonjmhnokailaa
