/- What sensors say together, plain: as a function of what they say. -/
import Derived.Test.YtfonjmhnokailaaFuseV
set_option linter.unusedVariables false
set_option linter.unusedSimpArgs false
namespace Go.Proofs.Ytfonjmhnokailaa
open Go Go.RowKit Go.Eng
def stepV (s : Int × Int × Bool) (a b c d : Int) : Int × Int × Bool :=
  if max a c ≤ min b d then (if s.2.2 = true then (min s.1 (max a c), max s.2.1 (min b d), true) else (max a c, min b d, true)) else s
def twoV (p q r : Int × Int) : Int × Int × Bool := stepV (stepV (stepV (0, 0, false) p.1 p.2 q.1 q.2) p.1 p.2 r.1 r.2) q.1 q.2 r.1 r.2
def togV : List (Int × Int) → Int × Int × Bool × Bool
  | [] => (0, 0, false, false)
  | [p] => if p.1 ≤ p.2 then (p.1, p.2, true, true) else (0, 0, false, false)
  | [p, q] => if max p.1 q.1 ≤ min p.2 q.2 then (max p.1 q.1, min p.2 q.2, true, true) else (0, 0, false, false)
  | [p, q, r] => if max (max p.1 q.1) r.1 ≤ min (min p.2 q.2) r.2 then (max (max p.1 q.1) r.1, min (min p.2 q.2) r.2, true, true) else ((twoV p q r).1, (twoV p q r).2.1, (twoV p q r).2.2, false)
  | _ => (0, 0, false, false)
theorem two_step (a b : Nat → Int) (n k m : Nat) (s : Int × Int × Bool) (h : TwoIs a b (Pairs n k m) s.1 s.2.1 s.2.2) :
    TwoIs a b (Pairs n k (m + 1)) (stepV s (a k) (b k) (a (k + (1 + m))) (b (k + (1 + m)))).1 (stepV s (a k) (b k) (a (k + (1 + m))) (b (k + (1 + m)))).2.1 (stepV s (a k) (b k) (a (k + (1 + m))) (b (k + (1 + m)))).2.2 := by
  unfold stepV
  split
  · rename_i hc
    split
    · rename_i hf
      rw [hf] at h
      exact two_more a b n k m _ _ h hc
    · rename_i hf
      have hf : s.2.2 = false := by simpa using hf
      rw [hf] at h
      exact two_first a b n k m _ _ h hc
  · rename_i hc
    exact two_no a b n k m _ _ _ h hc
theorem two3 (p q r : Int × Int) : TwoIs (aOf [p, q, r]) (bOf [p, q, r]) (Pairs 3 3 0) (twoV p q r).1 (twoV p q r).2.1 (twoV p q r).2.2 := by
  have h0 := two_start (aOf [p, q, r]) (bOf [p, q, r]) 3
  have h1 := two_step _ _ 3 0 0 (0, 0, false) h0
  have h2 := two_step _ _ 3 0 1 _ h1
  have h3 := two_next _ _ 3 0 _ _ _ (by omega) h2
  have h4 := two_step _ _ 3 1 0 _ h3
  have h5 := two_next _ _ 3 1 _ _ _ (by omega) h4
  exact two_next _ _ 3 2 _ _ _ (by omega) h5
theorem togV1 (p : Int × Int) : togV [p] = if p.1 ≤ p.2 then (p.1, p.2, true, true) else (0, 0, false, false) := rfl
theorem togV2 (p q : Int × Int) : togV [p, q] = if max p.1 q.1 ≤ min p.2 q.2 then (max p.1 q.1, min p.2 q.2, true, true) else (0, 0, false, false) := rfl
theorem togV3 (p q r : Int × Int) : togV [p, q, r] = if max (max p.1 q.1) r.1 ≤ min (min p.2 q.2) r.2 then (max (max p.1 q.1) r.1, min (min p.2 q.2) r.2, true, true) else ((twoV p q r).1, (twoV p q r).2.1, (twoV p q r).2.2, false) := rfl
theorem lt1 {i : Nat} (h : i < 1) : i = 0 := by omega
theorem lt3 {i : Nat} (h : i < 3) : i = 0 ∨ i = 1 ∨ i = 2 := by omega
theorem lt2 {i : Nat} (h : i < 2) : i = 0 ∨ i = 1 := by omega
theorem tog_togV (ps : List (Int × Int)) (hl : ps.length ≤ 3) : TogIs ps (togV ps).1 (togV ps).2.1 (togV ps).2.2.1 (togV ps).2.2.2 := by
  rcases ps with _ | ⟨p, _ | ⟨q, _ | ⟨r, _ | ⟨s, t⟩⟩⟩⟩
  · exact ⟨.inr ⟨0, 0, ⟨fun h => (by cases h), fun _ => ⟨rfl, rfl, .inl rfl⟩⟩, rfl, .inl ⟨by simp, rfl, rfl, rfl⟩⟩⟩
  · rw [togV1]
    split
    · rename_i h
      refine ⟨.inl ⟨⟨fun _ => ⟨h, ⟨0, by simp, rfl⟩, fun i hi => ?_, ⟨0, by simp, rfl⟩, fun i hi => ?_⟩, fun h => (by cases h)⟩, rfl, rfl⟩⟩
      · obtain rfl := lt1 hi; exact Int.le_refl _
      · obtain rfl := lt1 hi; exact Int.le_refl _
    · rename_i h
      exact ⟨.inr ⟨0, 0, ⟨fun h => (by cases h), fun _ => ⟨rfl, rfl, .inr ⟨0, 0, by simp, by simp, by simp [aOf, bOf]; omega⟩⟩⟩, rfl, .inl ⟨by simp, rfl, rfl, rfl⟩⟩⟩
  · rw [togV2]
    split
    · rename_i h
      refine ⟨.inl ⟨⟨fun _ => ⟨h, ?_, fun i hi => ?_, ?_, fun i hi => ?_⟩, fun h => (by cases h)⟩, rfl, rfl⟩⟩
      · by_cases c : p.1 ≤ q.1
        · exact ⟨1, by simp, by simp [aOf]; omega⟩
        · exact ⟨0, by simp, by simp [aOf]; omega⟩
      · rcases lt2 hi with rfl | rfl <;> simp [aOf] <;> omega
      · by_cases c : p.2 ≤ q.2
        · exact ⟨0, by simp, by simp [bOf]; omega⟩
        · exact ⟨1, by simp, by simp [bOf]; omega⟩
      · rcases lt2 hi with rfl | rfl <;> simp [bOf] <;> omega
    · rename_i h
      refine ⟨.inr ⟨0, 0, ⟨fun h => (by cases h), fun _ => ⟨rfl, rfl, .inr ?_⟩⟩, rfl, .inl ⟨by simp, rfl, rfl, rfl⟩⟩⟩
      by_cases c1 : p.1 ≤ q.1 <;> by_cases c2 : p.2 ≤ q.2
      · exact ⟨1, 0, by simp, by simp, by simp [aOf, bOf]; omega⟩
      · exact ⟨1, 1, by simp, by simp, by simp [aOf, bOf]; omega⟩
      · exact ⟨0, 0, by simp, by simp, by simp [aOf, bOf]; omega⟩
      · exact ⟨0, 1, by simp, by simp, by simp [aOf, bOf]; omega⟩
  · rw [togV3]
    have t3 := two3 p q r
    split
    · rename_i h
      refine ⟨.inl ⟨⟨fun _ => ⟨h, ?_, fun i hi => ?_, ?_, fun i hi => ?_⟩, fun h => (by cases h)⟩, rfl, rfl⟩⟩
      · by_cases c : p.1 ≤ q.1
        · by_cases c' : q.1 ≤ r.1
          · exact ⟨2, by simp, by simp [aOf]; omega⟩
          · exact ⟨1, by simp, by simp [aOf]; omega⟩
        · by_cases c' : p.1 ≤ r.1
          · exact ⟨2, by simp, by simp [aOf]; omega⟩
          · exact ⟨0, by simp, by simp [aOf]; omega⟩
      · rcases lt3 hi with rfl | rfl | rfl <;> simp [aOf] <;> omega
      · by_cases c : p.2 ≤ q.2
        · by_cases c' : p.2 ≤ r.2
          · exact ⟨0, by simp, by simp [bOf]; omega⟩
          · exact ⟨2, by simp, by simp [bOf]; omega⟩
        · by_cases c' : q.2 ≤ r.2
          · exact ⟨1, by simp, by simp [bOf]; omega⟩
          · exact ⟨2, by simp, by simp [bOf]; omega⟩
      · rcases lt3 hi with rfl | rfl | rfl <;> simp [bOf] <;> omega
    · rename_i h
      refine ⟨.inr ⟨0, 0, ⟨fun h => (by cases h), fun _ => ⟨rfl, rfl, .inr ?_⟩⟩, rfl, .inr ⟨by simp, t3⟩⟩⟩
      have key : ∃ i j, i < 3 ∧ j < 3 ∧ bOf [p, q, r] j < aOf [p, q, r] i := by
        have e0 : aOf [p, q, r] 0 = p.1 := rfl
        have e1 : aOf [p, q, r] 1 = q.1 := rfl
        have e2 : aOf [p, q, r] 2 = r.1 := rfl
        have f0 : bOf [p, q, r] 0 = p.2 := rfl
        have f1 : bOf [p, q, r] 1 = q.2 := rfl
        have f2 : bOf [p, q, r] 2 = r.2 := rfl
        refine Classical.byContradiction fun hn => h ?_
        have k := fun i j hi hj => Int.not_lt.1 fun hh => hn ⟨i, j, hi, hj, hh⟩
        have k00 := k 0 0 (by omega) (by omega); have k01 := k 0 1 (by omega) (by omega); have k02 := k 0 2 (by omega) (by omega)
        have k10 := k 1 0 (by omega) (by omega); have k11 := k 1 1 (by omega) (by omega); have k12 := k 1 2 (by omega) (by omega)
        have k20 := k 2 0 (by omega) (by omega); have k21 := k 2 1 (by omega) (by omega); have k22 := k 2 2 (by omega) (by omega)
        rw [e0, f0] at k00; rw [e0, f1] at k01; rw [e0, f2] at k02
        rw [e1, f0] at k10; rw [e1, f1] at k11; rw [e1, f2] at k12
        rw [e2, f0] at k20; rw [e2, f1] at k21; rw [e2, f2] at k22
        omega
      exact key
  · exact absurd hl (by simp)
theorem tog_unique {ps : List (Int × Int)} {tl th tl' th' : Int} {ok ag ok' ag' : Bool} (h : TogIs ps tl th ok ag) (h' : TogIs ps tl' th' ok' ag') : tl = tl' ∧ th = th' ∧ ok = ok' ∧ ag = ag' := by
  rcases h.it with ⟨c1, rfl, rfl⟩ | ⟨l, u, c1, rfl, c2⟩ <;> rcases h'.it with ⟨d1, rfl, rfl⟩ | ⟨l', u', d1, rfl, d2⟩
  · obtain ⟨e1, e2, _⟩ := common_unique c1 d1
    exact ⟨e1, e2, rfl, rfl⟩
  · have := (common_unique c1 d1).2.2; cases this
  · have := (common_unique c1 d1).2.2; cases this
  · rcases c2 with ⟨x1, rfl, rfl, rfl⟩ | ⟨x1, x2⟩ <;> rcases d2 with ⟨y1, rfl, rfl, rfl⟩ | ⟨y1, y2⟩
    · exact ⟨rfl, rfl, rfl, rfl⟩
    · omega
    · omega
    · obtain ⟨e1, e2, e3⟩ := two_unique x2 y2
      exact ⟨e1, e2, e3, rfl⟩
/-- The sensors that are fit. -/
def fitV (f0 f1 f2 : Bool) (a0 b0 a1 b1 a2 b2 : Int) : List (Int × Int) := fitRow f0 a0 b0 ++ fitRow f1 a1 b1 ++ fitRow f2 a2 b2
theorem fit_len (f0 f1 f2 : Bool) (a0 b0 a1 b1 a2 b2 : Int) : (fitV f0 f1 f2 a0 b0 a1 b1 a2 b2).length ≤ 3 := by cases f0 <;> cases f1 <;> cases f2 <;> simp [fitV, fitRow]
/-- What is fused: speed, conflict. -/
structure FuseIs (p0 p1 : Int) (f0 f1 f2 f3 : Bool) (a0 b0 a1 b1 a2 b2 a3 b3 : Int) (tl th : Int) (ok ag : Bool) (lo hi n : Int) (cl cf : Bool) (s0 s1 : Int) : Prop where
  tog : togV (fitV f0 f1 f2 a0 b0 a1 b1 a2 b2) = (tl, th, ok, ag)
  len : n = (fitV f0 f1 f2 a0 b0 a1 b1 a2 b2).length
  cl : cl = (ag && decide (n = 3))
  nar : (lo, hi, cf) = nar2 f3 a3 b3 (nar1 ok tl th n p0 p1)
  sl0 : s0 = slip1 ok ag tl th a0 b0
  sl1 : s1 = slip1 ok ag tl th a1 b1
end Go.Proofs.Ytfonjmhnokailaa
