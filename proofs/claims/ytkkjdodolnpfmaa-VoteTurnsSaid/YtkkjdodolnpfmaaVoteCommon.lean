/- Layer 5, vote: the walk of 'Common'. -/
import Derived.Test.YtkkjdodolnpfmaaVoteTwo
set_option linter.unusedVariables false
set_option linter.unusedSimpArgs false
namespace Go.Proofs.Ytkkjdodolnpfmaa
open Go.RowKit
/-- What is in all of n spans. -/
structure CommonIs (a b : Nat → Int) (n : Nat) (lo hi : Int) (f : Bool) : Prop where
  yes : f = true → lo ≤ hi ∧ (∃ i, i < n ∧ lo = a i) ∧ (∀ i, i < n → a i ≤ lo) ∧ (∃ i, i < n ∧ hi = b i) ∧ ∀ i, i < n → hi ≤ b i
  no : f = false → lo = 0 ∧ hi = 0 ∧ (n = 0 ∨ ∃ i j, i < n ∧ j < n ∧ b j < a i)
theorem common_unique {a b : Nat → Int} {n : Nat} {lo hi lo' hi' : Int} {f f' : Bool} (h : CommonIs a b n lo hi f) (h' : CommonIs a b n lo' hi' f') : lo = lo' ∧ hi = hi' ∧ f = f' := by
  have key : ∀ {lo hi lo' hi' : Int}, CommonIs a b n lo hi true → CommonIs a b n lo' hi' false → False := by
    intro lo hi lo' hi' h h'
    obtain ⟨h0, ⟨i0, e0, _⟩, h1, _, h2⟩ := h.yes rfl
    obtain ⟨_, _, h3 | ⟨i, j, hi, hj, hb⟩⟩ := h'.no rfl
    · omega
    · have := h1 i hi; have := h2 j hj; omega
  cases f with
  | true =>
    cases f' with
    | true =>
      obtain ⟨h0, ⟨i0, e0, l0⟩, h1, ⟨j0, f0, m0⟩, h2⟩ := h.yes rfl
      obtain ⟨g0, ⟨i1, e1, l1⟩, g1, ⟨j1, f1, m1⟩, g2⟩ := h'.yes rfl
      have := h1 i1 e1; have := g1 i0 e0; have := h2 j1 f1; have := g2 j0 f0
      exact ⟨by omega, by omega, rfl⟩
    | false => exact (key h h').elim
  | false =>
    cases f' with
    | true => exact (key h' h).elim
    | false =>
      obtain ⟨h0, h1, _⟩ := h.no rfl
      obtain ⟨g0, g1, _⟩ := h'.no rfl
      exact ⟨by omega, by omega, rfl⟩
/-- What is in the first, and in the first k. -/
structure PreIs (a b : Nat → Int) (k : Nat) (lo hi : Int) : Prop where
  l1 : ∃ i, (i < k ∨ i = 0) ∧ lo = a i
  l2 : ∀ i, (i < k ∨ i = 0) → a i ≤ lo
  h1 : ∃ i, (i < k ∨ i = 0) ∧ hi = b i
  h2 : ∀ i, (i < k ∨ i = 0) → hi ≤ b i
  le : 0 < k → lo ≤ hi
theorem pre_start (a b : Nat → Int) : PreIs a b 0 (a 0) (b 0) := by
  refine ⟨⟨0, Or.inr rfl, rfl⟩, fun i h => ?_, ⟨0, Or.inr rfl, rfl⟩, fun i h => ?_, fun h => absurd h (by omega)⟩
  · have : i = 0 := by omega
    subst this; exact Int.le_refl _
  · have : i = 0 := by omega
    subst this; exact Int.le_refl _
theorem pre_next {a b : Nat → Int} {k : Nat} {lo hi : Int} (h : PreIs a b k lo hi) (hok : max lo (a k) ≤ min hi (b k)) : PreIs a b (k + 1) (max lo (a k)) (min hi (b k)) := by
  obtain ⟨⟨i1, q1, e1⟩, l2, ⟨i2, q2, e2⟩, h2, _⟩ := h
  refine ⟨?_, fun i hi => ?_, ?_, fun i hi => ?_, fun _ => hok⟩
  · by_cases hc : a k ≤ lo
    · exact ⟨i1, by omega, by omega⟩
    · exact ⟨k, by omega, by omega⟩
  · by_cases hik : i = k
    · subst hik; omega
    · have := l2 i (by omega); omega
  · by_cases hc : hi ≤ b k
    · exact ⟨i2, by omega, by omega⟩
    · exact ⟨k, by omega, by omega⟩
  · by_cases hik : i = k
    · subst hik; omega
    · have := h2 i (by omega); omega
theorem pre_no {a b : Nat → Int} {n k : Nat} {lo hi : Int} (hk : k < n) (h : PreIs a b k lo hi) (hno : ¬ max lo (a k) ≤ min hi (b k)) : CommonIs a b n 0 0 false := by
  obtain ⟨⟨i1, q1, e1⟩, l2, ⟨i2, q2, e2⟩, h2, _⟩ := h
  refine ⟨fun h => (by cases h), fun _ => ⟨rfl, rfl, Or.inr ?_⟩⟩
  by_cases c1 : lo ≤ a k
  · by_cases c2 : hi ≤ b k
    · exact ⟨k, i2, hk, by omega, by omega⟩
    · exact ⟨k, k, hk, hk, by omega⟩
  · by_cases c2 : hi ≤ b k
    · exact ⟨i1, i2, by omega, by omega, by omega⟩
    · exact ⟨i1, k, by omega, by omega, by omega⟩
theorem pre_all {a b : Nat → Int} {n : Nat} {lo hi : Int} (hn : 0 < n) (h : PreIs a b n lo hi) : CommonIs a b n lo hi true := by
  obtain ⟨⟨i1, q1, e1⟩, l2, ⟨i2, q2, e2⟩, h2, hle⟩ := h
  exact ⟨fun _ => ⟨hle hn, ⟨i1, by omega, e1⟩, fun i hi => l2 i (Or.inl hi), ⟨i2, by omega, e2⟩, fun i hi => h2 i (Or.inl hi)⟩, fun h => (by cases h)⟩
structure CLInv (n : Nat) (a b : Nat → Int) (w : World) (i : Value) (wr : World) : Prop where
  ex : ∃ (k : Nat) (lo hi : Int), k ≤ n ∧ i = .int .i64 k ∧ PreIs a b k lo hi ∧ Cell2 wr (w.heap.size + 1) lo hi
  res : Cell2 wr w.heap.size 0 0
  bel : Below w.heap.size w wr
def CommonPost (n : Nat) (a b : Nat → Int) (w : World) (e : Ending) (w' : World) : Prop :=
  ∃ lo hi f, e = .returned (.tuple #[sp lo hi, .bool f]) ∧ CommonIs a b n lo hi f ∧ Below w.heap.size w w'
theorem vote_common0 (v : Value) (a b : Nat → Int) (w : World) (h : Sl w w.heap.size 2 0 v (spx a b)) : Calls Try.prog 29 #[v] w (CommonPost 0 a b w) := by
  obtain ⟨A, c, rfl, hc1, hc2, hcell⟩ := h
  unfold maxLen at hc2
  clear hcell
  go_enter Try.func29, Try.ntmps29
  (have hasc := Nat.add_assoc; have hpos := nat_pos_or; have hlit := nat_lt_lit)
  go_wp2_with (fail)
  (refine bodyPost_ret (by simp [results, go_sem, Try.results29, hasc, hpos, hlit]; try rfl) rfl ?_)
  exact ⟨0, 0, false, by simp [go_sem, sp], ⟨fun h => (by cases h), fun _ => ⟨rfl, rfl, Or.inl rfl⟩⟩, by (repeat' (first | (with_reducible exact Below.refl _ _) | (with_reducible assumption) | (with_reducible refine below_drewN ?_ _) | (with_reducible refine below_grown ?_ ?_ _) | (with_reducible refine Below.alloc ?_ ?_ _) | (with_reducible refine Below.drew ?_) | (with_reducible refine Below.setCell ?_ ?_ _) | (first | (with_reducible exact Nat.le_refl _) | (with_reducible assumption) | omega | (simp only [World.size_alloc, World.size_setCell, World.size_drew, size_drewN', size_grow]; omega) | (simp; omega) | (simp; done)) | (with_reducible refine Below.trans ?_ (Below.mono (by with_reducible assumption) ?_))))⟩
set_option maxHeartbeats 2000000 in
theorem vote_common (n : Nat) (v : Value) (a b : Nat → Int) (w : World) (hn0 : 0 < n) (h : Sl w w.heap.size 2 n v (spx a b)) : Calls Try.prog 29 #[v] w (CommonPost n a b w) := by
  obtain ⟨A, c, rfl, hc1, hc2, hcell⟩ := h
  unfold maxLen at hc2
  obtain ⟨bb, off, rfl, hbb, hcc⟩ := hcell hn0
  have hz0 : w.cell? ⟨bb, off, none⟩ = some (.int .i64 (a 0)) := by simpa [spx] using hcc 0 hn0 0 (by omega)
  have hz1 : w.cell? ⟨bb, off + 1, none⟩ = some (.int .i64 (b 0)) := by simpa [spx] using hcc 0 hn0 1 (by omega)
  have HC := hid hcc
  clear hcc hcell
  have e0 : ((n : Int) == 0) = false := beq_no (by omega)
  have e1 : decide ((n : Int) = 0) = false := by simpa using (show ¬ (n : Int) = 0 by omega)
  go_enter Try.func29, Try.ntmps29
  (have hasc := Nat.add_assoc; have hpos := nat_pos_or; have hlit := nat_lt_lit)
  go_wp2_with (fail)
  go_loopw [17] (fun i wr => CLInv n a b w i wr) (fun i _ => n - (intOf i).toNat)
  case atStart =>
    refine ⟨⟨0, a 0, b 0, Nat.zero_le _, rfl, pre_start a b, ?_⟩, ?_, by (repeat' (first | (with_reducible exact Below.refl _ _) | (with_reducible assumption) | (with_reducible refine below_drewN ?_ _) | (with_reducible refine below_grown ?_ ?_ _) | (with_reducible refine Below.alloc ?_ ?_ _) | (with_reducible refine Below.drew ?_) | (with_reducible refine Below.setCell ?_ ?_ _) | (first | (with_reducible exact Nat.le_refl _) | (with_reducible assumption) | omega | (simp only [World.size_alloc, World.size_setCell, World.size_drew, size_drewN', size_grow]; omega) | (simp; omega) | (simp; done)) | (with_reducible refine Below.trans ?_ (Below.mono (by with_reducible assumption) ?_))))⟩
    · constructor <;> simp [go_sem]
    · constructor <;> simp [go_sem]
  case round =>
    obtain ⟨⟨k, lo, hi, hk, rfl, hpre, hout⟩, hres, hbel⟩ := hrel
    have HP := hid hpre
    clear hpre
    have ho0 := hout.c0
    have ho1 := hout.c1
    have ho2 := hout.f0
    have ho3 := hout.f1
    have hr0 := hres.c0
    have hr1 := hres.c1
    have hr2 := hres.f0
    have hr3 := hres.f1
    have hwlt : w.heap.size + 1 < wr.heap.size := World.block_lt_of_cell? wr _ ho0
    have hl0 : w.heap.size < wr.heap.size := by omega
    by_cases hlt : k < n
    · have hx0 : wr.cell? ⟨bb, off + k * 2, none⟩ = some (.int .i64 (a k)) := by
        simpa [spx] using (hbel.cell (p := ⟨bb, off + (k * 2 + 0), none⟩) hbb).trans (HC.out k hlt 0 (by omega))
      have hx1 : wr.cell? ⟨bb, off + (k * 2 + 1), none⟩ = some (.int .i64 (b k)) := by
        simpa [spx] using (hbel.cell (p := ⟨bb, off + (k * 2 + 1), none⟩) hbb).trans (HC.out k hlt 1 (by omega))
      have c1 := fun w => span_meet lo hi (a k) (b k) w
      by_cases hok : max lo (a k) ≤ min hi (b k)
      · have e1 : bl (max lo (a k)) (min hi (b k)) = max lo (a k) := by unfold bl; rw [if_pos hok]
        have e2 : bh (max lo (a k)) (min hi (b k)) = min hi (b k) := by unfold bh; rw [if_pos hok]
        have e3 : decide (max lo (a k) ≤ min hi (b k)) = true := by simpa using hok
        rw [e1, e2, e3] at c1
        have HN := hid (pre_next HP.out hok)
        clear e1 e2 e3 hok
        generalize max lo (a k) = ml at *
        generalize min hi (b k) = mh at *
        unfold sp at c1
        have C1 := hid c1
        clear c1
        go_wp2_with (go_at_call 45; ((with_reducible refine (Calls.to_kept [w.heap.size, w.heap.size + 1] (C1.out _) ?lt).mono ?_); (case lt => (first | (exact trivial) | (simp only [AllLt, World.size_alloc, World.size_setCell, World.size_drew, size_drewN', size_grow, and_true, true_and]; omega))); rintro e w' ⟨rfl, g1, rfl, kg1⟩; simp only [AllKept, and_true] at kg1))
        refine ⟨⟨⟨k + 1, ml, mh, by omega, by simp, HN.out, ?_⟩, ?_, by (repeat' (first | (with_reducible exact Below.refl _ _) | (with_reducible assumption) | (with_reducible refine below_drewN ?_ _) | (with_reducible refine below_grown ?_ ?_ _) | (with_reducible refine Below.alloc ?_ ?_ _) | (with_reducible refine Below.drew ?_) | (with_reducible refine Below.setCell ?_ ?_ _) | (first | (with_reducible exact Nat.le_refl _) | (with_reducible assumption) | omega | (simp only [World.size_alloc, World.size_setCell, World.size_drew, size_drewN', size_grow]; omega) | (simp; omega) | (simp; done)) | (with_reducible refine Below.trans ?_ (Below.mono (by with_reducible assumption) ?_))))⟩, by simp [intOf]; omega⟩
        · constructor <;> simp [go_sem, hasc, hpos, hlit, kg1, ho0, ho1, ho2, ho3, hwlt, Nat.ne_of_lt hwlt]
        · constructor <;> simp [go_sem, hasc, hpos, hlit, kg1, hr0, hr1, hr2, hr3, hl0, Nat.ne_of_lt hl0]
      · have HN := hid (pre_no hlt HP.out hok)
        have e3 : decide (max lo (a k) ≤ min hi (b k)) = false := by simpa using hok
        rw [e3] at c1
        clear e3 hok
        generalize bl (max lo (a k)) (min hi (b k)) = ml at *
        generalize bh (max lo (a k)) (min hi (b k)) = mh at *
        unfold sp at c1
        have C1 := hid c1
        clear c1
        go_wp2_with (go_at_call 45; ((with_reducible refine (Calls.to_kept [w.heap.size, w.heap.size + 1] (C1.out _) ?lt).mono ?_); (case lt => (first | (exact trivial) | (simp only [AllLt, World.size_alloc, World.size_setCell, World.size_drew, size_drewN', size_grow, and_true, true_and]; omega))); rintro e w' ⟨rfl, g1, rfl, kg1⟩; simp only [AllKept, and_true] at kg1))
        (refine bodyPost_ret (by simp [results, go_sem, Try.results29, ho0, ho1, ho2, ho3, hr0, hr1, hr2, hr3, kg1, hwlt, Nat.ne_of_lt hwlt, hl0, Nat.ne_of_lt hl0, hasc, hpos, hlit]; try rfl) rfl ?_)
        exact ⟨0, 0, false, by simp [go_sem, sp], HN.out, by (repeat' (first | (with_reducible exact Below.refl _ _) | (with_reducible assumption) | (with_reducible refine below_drewN ?_ _) | (with_reducible refine below_grown ?_ ?_ _) | (with_reducible refine Below.alloc ?_ ?_ _) | (with_reducible refine Below.drew ?_) | (with_reducible refine Below.setCell ?_ ?_ _) | (first | (with_reducible exact Nat.le_refl _) | (with_reducible assumption) | omega | (simp only [World.size_alloc, World.size_setCell, World.size_drew, size_drewN', size_grow]; omega) | (simp; omega) | (simp; done)) | (with_reducible refine Below.trans ?_ (Below.mono (by with_reducible assumption) ?_))))⟩
    · have hkn : k = n := by omega
      subst hkn
      go_wp2_with (fail)
      (refine bodyPost_ret (by simp [results, go_sem, Try.results29, ho0, ho1, ho2, ho3, hr0, hr1, hr2, hr3, hasc, hpos, hlit]; try rfl) rfl ?_)
      exact ⟨lo, hi, true, rfl, pre_all hn0 HP.out, by (repeat' (first | (with_reducible exact Below.refl _ _) | (with_reducible assumption) | (with_reducible refine below_drewN ?_ _) | (with_reducible refine below_grown ?_ ?_ _) | (with_reducible refine Below.alloc ?_ ?_ _) | (with_reducible refine Below.drew ?_) | (with_reducible refine Below.setCell ?_ ?_ _) | (first | (with_reducible exact Nat.le_refl _) | (with_reducible assumption) | omega | (simp only [World.size_alloc, World.size_setCell, World.size_drew, size_drewN', size_grow]; omega) | (simp; omega) | (simp; done)) | (with_reducible refine Below.trans ?_ (Below.mono (by with_reducible assumption) ?_))))⟩
theorem vote_common_all (n : Nat) (v : Value) (a b : Nat → Int) (w : World) (h : Sl w w.heap.size 2 n v (spx a b)) : Calls Try.prog 29 #[v] w (CommonPost n a b w) := by
  rcases Nat.eq_zero_or_pos n with rfl | hn
  · exact vote_common0 v a b w h
  · exact vote_common n v a b w hn h
end Go.Proofs.Ytkkjdodolnpfmaa
