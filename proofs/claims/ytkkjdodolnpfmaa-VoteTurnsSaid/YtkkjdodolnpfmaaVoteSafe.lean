/- Layer 5, the law's anchor, and VoteSafe. -/
import Derived.Test.YtkkjdodolnpfmaaVoteTwo
set_option linter.unusedVariables false
set_option linter.unusedSimpArgs false
namespace Go.Proofs.Ytkkjdodolnpfmaa
open Go.RowKit
def an (i : Nat) : Int := if i = 0 then 1 else if i = 1 then 2 else 8
def bn (i : Nat) : Int := if i = 0 then 3 else if i = 1 then 9 else 8
theorem two_anchor : TwoIs an bn (Pairs 3 3 0) 2 8 true := by
  have key : ∀ i j, Pairs 3 3 0 i j → (i = 0 ∧ j = 1) ∨ (i = 0 ∧ j = 2) ∨ (i = 1 ∧ j = 2) := by intro i j; unfold Pairs; omega
  refine ⟨fun _ => ⟨0, 1, by unfold Pairs; omega, by decide⟩, fun h => (by cases h), fun _ => ⟨⟨0, 1, by unfold Pairs; omega, by decide, by decide⟩, fun i j h => ?_⟩, fun _ => ⟨⟨1, 2, by unfold Pairs; omega, by decide, by decide⟩, fun i j h => ?_⟩⟩
  · rcases key i j h with ⟨rfl, rfl⟩ | ⟨rfl, rfl⟩ | ⟨rfl, rfl⟩ <;> decide
  · rcases key i j h with ⟨rfl, rfl⟩ | ⟨rfl, rfl⟩ | ⟨rfl, rfl⟩ <;> decide
theorem vote_two_is {n : Nat} {v : Value} {a b : Nat → Int} {w : World} {lo hi : Int} {f : Bool} (hn40 : n ≤ 1000) (h : Sl w w.heap.size 2 n v (spx a b)) (ht : TwoIs a b (Pairs n n 0) lo hi f) :
    Calls Try.prog 22 #[v] w fun e w' => e = .returned (.tuple #[sp lo hi, .bool f]) ∧ Below w.heap.size w w' := by
  refine (vote_two n v a b w hn40 h).mono ?_
  rintro e w' ⟨lo', hi', f', rfl, ht', hb⟩
  obtain ⟨rfl, rfl, rfl⟩ := two_unique ht' ht
  exact ⟨rfl, hb⟩
theorem anchor_sl (w : World) (t B : Nat) (hB : B = w.heap.size) : Sl (w.alloc (Obj.cells #[.int .i64 1, .int .i64 3, .int .i64 2, .int .i64 9, .int .i64 8, .int .i64 8] t)) (w.alloc (Obj.cells #[.int .i64 1, .int .i64 3, .int .i64 2, .int .i64 9, .int .i64 8, .int .i64 8] t)).heap.size 2 3 (.slice (some ⟨B, 0, none⟩) 3 3) (spx an bn) := by
  subst hB
  refine ⟨_, _, rfl, Nat.le_refl _, by unfold maxLen; omega, fun _ => ⟨_, _, rfl, by simp, fun i hi j hj => ?_⟩⟩
  have : (i = 0 ∨ i = 1 ∨ i = 2) ∧ (j = 0 ∨ j = 1) := by omega
  rcases this with ⟨rfl | rfl | rfl, rfl | rfl⟩ <;> simp [go_sem, spx, an, bn]
theorem anchor05 (w : World) : Calls Try.prog 20 #[] w fun e w' => e = .returned (.bool true) ∧ Below w.heap.size w w' := by
  have C1 := hid (fun w => span_at 8 w)
  unfold sp at C1
  go_enter Try.func20, Try.ntmps20
  (have hasc := Nat.add_assoc; have hpos := nat_pos_or; have hlit := nat_lt_lit)
  go_wp2_with (go_at_call 44; ((with_reducible refine (Calls.to_kept [] (C1.out _) ?lt).mono ?_); (case lt => (first | (exact trivial) | (simp only [AllLt, World.size_alloc, World.size_setCell, World.size_drew, size_drewN', size_grow, and_true, true_and]; omega))); rintro e w' ⟨rfl, g1, rfl, kg1⟩; simp only [AllKept, and_true] at kg1))
  ((with_reducible refine (Calls.to_kept [] (vote_two_is (by omega) (anchor_sl _ _ _ (by simp)) two_anchor) ?lt).mono ?_); (case lt => (first | (exact trivial) | (simp only [AllLt, World.size_alloc, World.size_setCell, World.size_drew, size_drewN', size_grow, and_true, true_and]; omega))); rintro e w' ⟨rfl, g2, rfl, kg2⟩; simp only [AllKept, and_true] at kg2)
  unfold sp
  go_wp2_with (fail)
  (refine bodyPost_ret (by simp [results, go_sem, Try.results20, hasc, hpos, hlit]; try rfl) rfl ?_)
  exact ⟨rfl, by (repeat' (first | (with_reducible exact Below.refl _ _) | (with_reducible assumption) | (with_reducible refine below_drewN ?_ _) | (with_reducible refine below_grown ?_ ?_ _) | (with_reducible refine Below.alloc ?_ ?_ _) | (with_reducible refine Below.drew ?_) | (with_reducible refine Below.setCell ?_ ?_ _) | (first | (with_reducible exact Nat.le_refl _) | (with_reducible assumption) | omega | (simp only [World.size_alloc, World.size_setCell, World.size_drew, size_drewN', size_grow]; omega) | (simp; omega) | (simp; done)) | (with_reducible refine Below.trans ?_ (Below.mono (by with_reducible assumption) ?_))))⟩
theorem safe_law {a b : Nat → Int} {n q : Nat} {x l h lo hi : Int} {f : Bool} (hn : 3 ≤ n) (hin : ∀ j, j < n → j ≠ q → a j ≤ x ∧ x ≤ b j) (hl : ∀ j, j < n → j ≠ q → l ≤ a j ∧ b j ≤ h)
    (ht : TwoIs a b (Pairs n n 0) lo hi f) : f = true ∧ lo ≤ x ∧ x ≤ hi ∧ l ≤ lo ∧ hi ≤ h := by
  obtain ⟨i0, j0, h1, h2, h3, h4⟩ : ∃ i0 j0, i0 < j0 ∧ j0 < n ∧ i0 ≠ q ∧ j0 ≠ q := by
    by_cases h0 : q = 0
    · exact ⟨1, 2, by omega, by omega, by omega, by omega⟩
    · by_cases h1 : q = 1
      · exact ⟨0, 2, by omega, by omega, by omega, by omega⟩
      · exact ⟨0, 1, by omega, by omega, by omega, by omega⟩
  have p0 : Pairs n n 0 i0 j0 := by unfold Pairs; omega
  have hi0 := hin i0 (by omega) h3
  have hj0 := hin j0 h2 h4
  have hf : f = true := by
    cases f with
    | true => rfl
    | false => exact absurd (by omega) ((ht.none_ rfl).2.2 i0 j0 p0)
  obtain ⟨⟨i1, j1, p1, l2, l3⟩, l4⟩ := ht.lo_ hf
  obtain ⟨⟨i2, j2, p2, g2, g3⟩, g4⟩ := ht.hi_ hf
  have e1 := l4 i0 j0 p0 (by omega)
  have e2 := g4 i0 j0 p0 (by omega)
  have q1 : i1 < n ∧ j1 < n ∧ (i1 ≠ q ∨ j1 ≠ q) := by unfold Pairs at p1; omega
  have q2 : i2 < n ∧ j2 < n ∧ (i2 ≠ q ∨ j2 ≠ q) := by unfold Pairs at p2; omega
  refine ⟨hf, by omega, by omega, ?_, ?_⟩
  · rcases q1 with ⟨s1, s2, s3 | s3⟩
    · have := hl i1 s1 s3; omega
    · have := hl j1 s2 s3; omega
  · rcases q2 with ⟨s1, s2, s3 | s3⟩
    · have := hl i2 s1 s3; omega
    · have := hl j2 s2 s3; omega
structure VS1 (n q : Nat) (a b : Nat → Int) (x : Int) (w : World) (i : Value) (wr : World) : Prop where
  ex : ∃ k : Nat, k ≤ n ∧ i = .int .i64 k ∧ ∀ j, j < k → j ≠ q → a j ≤ x ∧ x ≤ b j
  bel : Below w.heap.size w wr
structure VS2 (n q : Nat) (a b : Nat → Int) (w : World) (lo hi f i : Value) (wr : World) : Prop where
  ex : ∃ (k : Nat) (l h : Int) (fb : Bool), k ≤ n ∧ i = .int .i64 k ∧ lo = .int .i64 l ∧ hi = .int .i64 h ∧ f = .bool fb ∧ (fb = false → ∀ j, j < k → j ≠ q → l ≤ a j ∧ b j ≤ h) ∧ (fb = true → ∀ j, j < k → j = q)
  bel : Below w.heap.size w wr
set_option maxHeartbeats 4000000 in
theorem walk_VoteSafe (n : Nat) (v : Value) (a b : Nat → Int) (m x : Int) (w : World) (h : Sl w w.heap.size 2 n v (spx a b)) (hm0 : (Lit.int .i64 m).wf = true) (hx0 : (Lit.int .i64 x).wf = true) :
    Calls Try.prog 5 #[v, .int .i64 m, .int .i64 x] w fun e w' => e = .returned (.bool true) ∧ Below w.heap.size w w' := by
  have hm := bd_i64 hm0
  have hx := bd_i64 hx0
  clear hm0 hx0
  have CA := hid (fun w => anchor05 w)
  have H0 := hid h
  obtain ⟨A, c, rfl, hc1, hc2, hcell⟩ := h
  unfold maxLen at hc2
  have H1 := hid hcell
  clear hcell
  by_cases hn3 : n < 3
  · have e1 : decide ((n : Int) < 3) = true := by simpa using (show (n : Int) < 3 by omega)
    go_enter Try.func5, Try.ntmps5
    (have hasc := Nat.add_assoc; have hpos := nat_pos_or; have hlit := nat_lt_lit)
    go_wp2_with (go_at_call 20; ((with_reducible refine (Calls.to_kept [] (CA.out _) ?lt).mono ?_); (case lt => (first | (exact trivial) | (simp only [AllLt, World.size_alloc, World.size_setCell, World.size_drew, size_drewN', size_grow, and_true, true_and]; omega))); rintro e w' ⟨rfl, g1, rfl, kg1⟩; simp only [AllKept, and_true] at kg1))
    go_returns
    exact ⟨rfl, by (repeat' (first | (with_reducible exact Below.refl _ _) | (with_reducible assumption) | (with_reducible refine below_drewN ?_ _) | (with_reducible refine below_grown ?_ ?_ _) | (with_reducible refine Below.alloc ?_ ?_ _) | (with_reducible refine Below.drew ?_) | (with_reducible refine Below.setCell ?_ ?_ _) | (first | (with_reducible exact Nat.le_refl _) | (with_reducible assumption) | omega | (simp only [World.size_alloc, World.size_setCell, World.size_drew, size_drewN', size_grow]; omega) | (simp; omega) | (simp; done)) | (with_reducible refine Below.trans ?_ (Below.mono (by with_reducible assumption) ?_))))⟩
  by_cases hn40 : 40 < n
  · go_enter Try.func5, Try.ntmps5
    (have hasc := Nat.add_assoc; have hpos := nat_pos_or; have hlit := nat_lt_lit)
    go_wp2_with (go_at_call 20; ((with_reducible refine (Calls.to_kept [] (CA.out _) ?lt).mono ?_); (case lt => (first | (exact trivial) | (simp only [AllLt, World.size_alloc, World.size_setCell, World.size_drew, size_drewN', size_grow, and_true, true_and]; omega))); rintro e w' ⟨rfl, g1, rfl, kg1⟩; simp only [AllKept, and_true] at kg1))
    go_returns
    exact ⟨rfl, by (repeat' (first | (with_reducible exact Below.refl _ _) | (with_reducible assumption) | (with_reducible refine below_drewN ?_ _) | (with_reducible refine below_grown ?_ ?_ _) | (with_reducible refine Below.alloc ?_ ?_ _) | (with_reducible refine Below.drew ?_) | (with_reducible refine Below.setCell ?_ ?_ _) | (first | (with_reducible exact Nat.le_refl _) | (with_reducible assumption) | omega | (simp only [World.size_alloc, World.size_setCell, World.size_drew, size_drewN', size_grow]; omega) | (simp; omega) | (simp; done)) | (with_reducible refine Below.trans ?_ (Below.mono (by with_reducible assumption) ?_))))⟩
  by_cases hm0 : m < 0
  · go_enter Try.func5, Try.ntmps5
    (have hasc := Nat.add_assoc; have hpos := nat_pos_or; have hlit := nat_lt_lit)
    go_wp2_with (go_at_call 20; ((with_reducible refine (Calls.to_kept [] (CA.out _) ?lt).mono ?_); (case lt => (first | (exact trivial) | (simp only [AllLt, World.size_alloc, World.size_setCell, World.size_drew, size_drewN', size_grow, and_true, true_and]; omega))); rintro e w' ⟨rfl, g1, rfl, kg1⟩; simp only [AllKept, and_true] at kg1))
    go_returns
    exact ⟨rfl, by (repeat' (first | (with_reducible exact Below.refl _ _) | (with_reducible assumption) | (with_reducible refine below_drewN ?_ _) | (with_reducible refine below_grown ?_ ?_ _) | (with_reducible refine Below.alloc ?_ ?_ _) | (with_reducible refine Below.drew ?_) | (with_reducible refine Below.setCell ?_ ?_ _) | (first | (with_reducible exact Nat.le_refl _) | (with_reducible assumption) | omega | (simp only [World.size_alloc, World.size_setCell, World.size_drew, size_drewN', size_grow]; omega) | (simp; omega) | (simp; done)) | (with_reducible refine Below.trans ?_ (Below.mono (by with_reducible assumption) ?_))))⟩
  by_cases hmn : (n : Int) ≤ m
  · go_enter Try.func5, Try.ntmps5
    (have hasc := Nat.add_assoc; have hpos := nat_pos_or; have hlit := nat_lt_lit)
    go_wp2_with (go_at_call 20; ((with_reducible refine (Calls.to_kept [] (CA.out _) ?lt).mono ?_); (case lt => (first | (exact trivial) | (simp only [AllLt, World.size_alloc, World.size_setCell, World.size_drew, size_drewN', size_grow, and_true, true_and]; omega))); rintro e w' ⟨rfl, g1, rfl, kg1⟩; simp only [AllKept, and_true] at kg1))
    go_returns
    exact ⟨rfl, by (repeat' (first | (with_reducible exact Below.refl _ _) | (with_reducible assumption) | (with_reducible refine below_drewN ?_ _) | (with_reducible refine below_grown ?_ ?_ _) | (with_reducible refine Below.alloc ?_ ?_ _) | (with_reducible refine Below.drew ?_) | (with_reducible refine Below.setCell ?_ ?_ _) | (first | (with_reducible exact Nat.le_refl _) | (with_reducible assumption) | omega | (simp only [World.size_alloc, World.size_setCell, World.size_drew, size_drewN', size_grow]; omega) | (simp; omega) | (simp; done)) | (with_reducible refine Below.trans ?_ (Below.mono (by with_reducible assumption) ?_))))⟩
  obtain ⟨q, rfl⟩ : ∃ q : Nat, m = q := ⟨m.toNat, by omega⟩
  have e5 : decide (n ≤ q) = false := by simpa using (show ¬ n ≤ q by omega)
  go_enter Try.func5, Try.ntmps5
  (have hasc := Nat.add_assoc; have hpos := nat_pos_or; have hlit := nat_lt_lit)
  go_wp2_with (go_at_call 20; ((with_reducible refine (Calls.to_kept [] (CA.out _) ?lt).mono ?_); (case lt => (first | (exact trivial) | (simp only [AllLt, World.size_alloc, World.size_setCell, World.size_drew, size_drewN', size_grow, and_true, true_and]; omega))); rintro e w' ⟨rfl, g1, rfl, kg1⟩; simp only [AllKept, and_true] at kg1))
  go_loopw [38] (fun i wr => VS1 n q a b x w i wr) (fun i _ => n - (intOf i).toNat)
  case atStart => exact ⟨⟨0, Nat.zero_le _, rfl, fun j hj => absurd hj (by omega)⟩, by (repeat' (first | (with_reducible exact Below.refl _ _) | (with_reducible assumption) | (with_reducible refine below_drewN ?_ _) | (with_reducible refine below_grown ?_ ?_ _) | (with_reducible refine Below.alloc ?_ ?_ _) | (with_reducible refine Below.drew ?_) | (with_reducible refine Below.setCell ?_ ?_ _) | (first | (with_reducible exact Nat.le_refl _) | (with_reducible assumption) | omega | (simp only [World.size_alloc, World.size_setCell, World.size_drew, size_drewN', size_grow]; omega) | (simp; omega) | (simp; done)) | (with_reducible refine Below.trans ?_ (Below.mono (by with_reducible assumption) ?_))))⟩
  case round =>
    obtain ⟨⟨k, hk, rfl, hin⟩, hbel⟩ := hrel
    have HI := hid hin
    clear hin
    have hsz := hbel.size
    by_cases hlt : k < n
    · obtain ⟨bb, off, hA, hbb, hcc⟩ := H1.out (by omega)
      subst hA
      have hx0 : wr.cell? ⟨bb, off + k * 2, none⟩ = some (.int .i64 (a k)) := by
        simpa [spx] using (hbel.cell (p := ⟨bb, off + (k * 2 + 0), none⟩) hbb).trans (hcc k hlt 0 (by omega))
      have hx1 : wr.cell? ⟨bb, off + (k * 2 + 1), none⟩ = some (.int .i64 (b k)) := by
        simpa [spx] using (hbel.cell (p := ⟨bb, off + (k * 2 + 1), none⟩) hbb).trans (hcc k hlt 1 (by omega))
      have HC := hid hcc
      clear hcc
      have C1 := hid (fun w => span_has (a k) (b k) x w)
      unfold sp at C1
      by_cases hq : k = q
      · subst hq
        go_wp2_with (fail)
        exact ⟨⟨⟨k + 1, by omega, by simp, fun j hj hjq => HI.out j (by omega) hjq⟩, by (repeat' (first | (with_reducible exact Below.refl _ _) | (with_reducible assumption) | (with_reducible refine below_drewN ?_ _) | (with_reducible refine below_grown ?_ ?_ _) | (with_reducible refine Below.alloc ?_ ?_ _) | (with_reducible refine Below.drew ?_) | (with_reducible refine Below.setCell ?_ ?_ _) | (first | (with_reducible exact Nat.le_refl _) | (with_reducible assumption) | omega | (simp only [World.size_alloc, World.size_setCell, World.size_drew, size_drewN', size_grow]; omega) | (simp; omega) | (simp; done)) | (with_reducible refine Below.trans ?_ (Below.mono (by with_reducible assumption) ?_))))⟩, by simp [intOf]; omega⟩
      · by_cases hhas : a k ≤ x ∧ x ≤ b k
        · have e1 : (decide (a k ≤ x) && decide (x ≤ b k)) = true := by simp [hhas]
          rw [e1] at C1
          go_wp2_with (go_at_call 21; ((with_reducible refine (Calls.to_kept [] (C1.out _) ?lt).mono ?_); (case lt => (first | (exact trivial) | (simp only [AllLt, World.size_alloc, World.size_setCell, World.size_drew, size_drewN', size_grow, and_true, true_and]; omega))); rintro e w' ⟨rfl, g2, rfl, kg2⟩; simp only [AllKept, and_true] at kg2))
          refine ⟨⟨⟨k + 1, by omega, by simp, fun j hj hjq => ?_⟩, by (repeat' (first | (with_reducible exact Below.refl _ _) | (with_reducible assumption) | (with_reducible refine below_drewN ?_ _) | (with_reducible refine below_grown ?_ ?_ _) | (with_reducible refine Below.alloc ?_ ?_ _) | (with_reducible refine Below.drew ?_) | (with_reducible refine Below.setCell ?_ ?_ _) | (first | (with_reducible exact Nat.le_refl _) | (with_reducible assumption) | omega | (simp only [World.size_alloc, World.size_setCell, World.size_drew, size_drewN', size_grow]; omega) | (simp; omega) | (simp; done)) | (with_reducible refine Below.trans ?_ (Below.mono (by with_reducible assumption) ?_))))⟩, by simp [intOf]; omega⟩
          by_cases hjk : j = k
          · subst hjk; exact hhas
          · exact HI.out j (by omega) hjq
        · have e1 : (decide (a k ≤ x) && decide (x ≤ b k)) = false := by
            by_cases h1 : a k ≤ x
            · have h2 : ¬ x ≤ b k := fun h2 => hhas ⟨h1, h2⟩
              simp [h2]
            · simp [h1]
          rw [e1] at C1
          go_wp2_with (go_at_call 21; ((with_reducible refine (Calls.to_kept [] (C1.out _) ?lt).mono ?_); (case lt => (first | (exact trivial) | (simp only [AllLt, World.size_alloc, World.size_setCell, World.size_drew, size_drewN', size_grow, and_true, true_and]; omega))); rintro e w' ⟨rfl, g2, rfl, kg2⟩; simp only [AllKept, and_true] at kg2))
          go_returns
          exact ⟨rfl, by (repeat' (first | (with_reducible exact Below.refl _ _) | (with_reducible assumption) | (with_reducible refine below_drewN ?_ _) | (with_reducible refine below_grown ?_ ?_ _) | (with_reducible refine Below.alloc ?_ ?_ _) | (with_reducible refine Below.drew ?_) | (with_reducible refine Below.setCell ?_ ?_ _) | (first | (with_reducible exact Nat.le_refl _) | (with_reducible assumption) | omega | (simp only [World.size_alloc, World.size_setCell, World.size_drew, size_drewN', size_grow]; omega) | (simp; omega) | (simp; done)) | (with_reducible refine Below.trans ?_ (Below.mono (by with_reducible assumption) ?_))))⟩
    · have hkn : k = n := by omega
      subst hkn
      go_wp2_with (fail)
      obtain ⟨wo, rfl⟩ : ∃ wo : World, wo = wr := ⟨_, rfl⟩
      go_loopw [7, 8, 11, 55] (fun lo hi f i wr => VS2 k q a b w lo hi f i wr) (fun _ _ _ i _ => k - (intOf i).toNat)
      case atStart => exact ⟨⟨0, 0, 0, true, Nat.zero_le _, rfl, rfl, rfl, rfl, fun h => (by cases h), fun _ j hj => absurd hj (by omega)⟩, by (repeat' (first | (with_reducible exact Below.refl _ _) | (with_reducible assumption) | (with_reducible refine below_drewN ?_ _) | (with_reducible refine below_grown ?_ ?_ _) | (with_reducible refine Below.alloc ?_ ?_ _) | (with_reducible refine Below.drew ?_) | (with_reducible refine Below.setCell ?_ ?_ _) | (first | (with_reducible exact Nat.le_refl _) | (with_reducible assumption) | omega | (simp only [World.size_alloc, World.size_setCell, World.size_drew, size_drewN', size_grow]; omega) | (simp; omega) | (simp; done)) | (with_reducible refine Below.trans ?_ (Below.mono (by with_reducible assumption) ?_))))⟩
      case round =>
        obtain ⟨⟨g, lo, hi, fb, hk, rfl, rfl, rfl, rfl, hin1, hin2⟩, hbel2⟩ := hrel
        have HI1 := hid hin1
        have HI2 := hid hin2
        clear hin1 hin2
        have hsz2 := hbel2.size
        by_cases hlt : g < k
        · obtain ⟨bb, off, hA, hbb, hcc⟩ := H1.out (by omega)
          subst hA
          have hx0 : wr.cell? ⟨bb, off + g * 2, none⟩ = some (.int .i64 (a g)) := by
            simpa [spx] using (hbel2.cell (p := ⟨bb, off + (g * 2 + 0), none⟩) hbb).trans (hcc g hlt 0 (by omega))
          have hx1 : wr.cell? ⟨bb, off + (g * 2 + 1), none⟩ = some (.int .i64 (b g)) := by
            simpa [spx] using (hbel2.cell (p := ⟨bb, off + (g * 2 + 1), none⟩) hbb).trans (hcc g hlt 1 (by omega))
          have HC := hid hcc
          clear hcc
          by_cases hq : g = q
          · subst hq
            go_wp2_with (fail)
            refine ⟨⟨⟨g + 1, lo, hi, fb, by omega, by simp, rfl, rfl, rfl, fun hf j hj hjq => HI1.out hf j (by omega) hjq, fun hf j hj => ?_⟩, by (repeat' (first | (with_reducible exact Below.refl _ _) | (with_reducible assumption) | (with_reducible refine below_drewN ?_ _) | (with_reducible refine below_grown ?_ ?_ _) | (with_reducible refine Below.alloc ?_ ?_ _) | (with_reducible refine Below.drew ?_) | (with_reducible refine Below.setCell ?_ ?_ _) | (first | (with_reducible exact Nat.le_refl _) | (with_reducible assumption) | omega | (simp only [World.size_alloc, World.size_setCell, World.size_drew, size_drewN', size_grow]; omega) | (simp; omega) | (simp; done)) | (with_reducible refine Below.trans ?_ (Below.mono (by with_reducible assumption) ?_))))⟩, by simp [intOf]; omega⟩
            by_cases hjg : j = g
            · exact hjg
            · exact HI2.out hf j (by omega)
          · cases fb with
            | true =>
              go_wp2_with (first | (with_reducible refine rounds_mk ?_) | ((with_reducible refine wp_region_quiet_lit (by kernel_rfl) (by kernel_rfl) ?_); (repeat (go_big_quiet_step (fail))); (refine wpQuiet_nil ?_; intro _ hw'; obtain ⟨nq, hw''⟩ := hw'; subst hw'')))
              refine ⟨⟨⟨g + 1, a g, b g, false, by omega, by simp, rfl, rfl, rfl, fun _ j hj hjq => ?_, fun hf => (by cases hf)⟩, by (repeat' (first | (with_reducible exact Below.refl _ _) | (with_reducible assumption) | (with_reducible refine below_drewN ?_ _) | (with_reducible refine below_grown ?_ ?_ _) | (with_reducible refine Below.alloc ?_ ?_ _) | (with_reducible refine Below.drew ?_) | (with_reducible refine Below.setCell ?_ ?_ _) | (first | (with_reducible exact Nat.le_refl _) | (with_reducible assumption) | omega | (simp only [World.size_alloc, World.size_setCell, World.size_drew, size_drewN', size_grow]; omega) | (simp; omega) | (simp; done)) | (with_reducible refine Below.trans ?_ (Below.mono (by with_reducible assumption) ?_))))⟩, by simp [intOf]; omega⟩
              by_cases hjg : j = g
              · subst hjg; exact ⟨Int.le_refl _, Int.le_refl _⟩
              · exact absurd (HI2.out rfl j (by omega)) hjq
            | false =>
              go_wp2_with (first | (with_reducible refine rounds_mk ?_) | ((with_reducible refine wp_region_quiet_lit (by kernel_rfl) (by kernel_rfl) ?_); (repeat (go_big_quiet_step (fail))); (refine wpQuiet_nil ?_; intro _ hw'; obtain ⟨nq, hw''⟩ := hw'; subst hw'')))
              refine ⟨⟨⟨g + 1, _, _, false, by omega, by simp, rfl, rfl, rfl, fun _ j hj hjq => ?_, fun hf => (by cases hf)⟩, by (repeat' (first | (with_reducible exact Below.refl _ _) | (with_reducible assumption) | (with_reducible refine below_drewN ?_ _) | (with_reducible refine below_grown ?_ ?_ _) | (with_reducible refine Below.alloc ?_ ?_ _) | (with_reducible refine Below.drew ?_) | (with_reducible refine Below.setCell ?_ ?_ _) | (first | (with_reducible exact Nat.le_refl _) | (with_reducible assumption) | omega | (simp only [World.size_alloc, World.size_setCell, World.size_drew, size_drewN', size_grow]; omega) | (simp; omega) | (simp; done)) | (with_reducible refine Below.trans ?_ (Below.mono (by with_reducible assumption) ?_))))⟩, by simp [intOf]; omega⟩
              by_cases hjg : j = g
              · subst hjg; constructor <;> split <;> omega
              · have := HI1.out rfl j (by omega) hjq
                constructor <;> split <;> omega
        · have hgk : g = k := by omega
          subst hgk
          have hfb : fb = false := by
            cases fb with
            | false => rfl
            | true => exact absurd ((HI2.out rfl 0 (by omega)).trans (HI2.out rfl 1 (by omega)).symm) (by omega)
          subst hfb
          have CT := hid (vote_two g (.slice A g c) a b wr (by omega) ((H0.out.below hbel2).mono_block hsz2))
          go_wp2_with (fail)
          refine (CT.out).mono ?_
          rintro e w' ⟨tl, th, f, rfl, ht, hb⟩
          obtain ⟨rfl, h1, h2, h3, h4⟩ := safe_law (by omega) HI.out (fun j hj hjq => HI1.out (by trivial) j hj hjq) ht
          obtain ⟨g3, rfl⟩ := grow_of_below hb
          have C1 := hid (fun w => span_has tl th x w)
          have e7 : (decide (tl ≤ x) && decide (x ≤ th)) = true := by simp [h1, h2]
          rw [e7] at C1
          have e8 : decide (lo ≤ tl) = true := by simpa using h3
          have e9 : decide (th ≤ hi) = true := by simpa using h4
          clear HI HI1 HI2 CT h1 h2 h3 h4 ht hb
          unfold sp at C1 ⊢
          go_wp2_with (go_at_call 21; ((with_reducible refine (Calls.to_kept [wr.heap.size + g3.objs.size] (C1.out _) ?lt).mono ?_); (case lt => (first | (exact trivial) | (simp only [AllLt, World.size_alloc, World.size_setCell, World.size_drew, size_drewN', size_grow, and_true, true_and]; omega))); rintro e w' ⟨rfl, g4, rfl, kg4⟩; simp only [AllKept, and_true] at kg4))
          go_returns
          exact ⟨rfl, by (repeat' (first | (with_reducible exact Below.refl _ _) | (with_reducible assumption) | (with_reducible refine below_drewN ?_ _) | (with_reducible refine below_grown ?_ ?_ _) | (with_reducible refine Below.alloc ?_ ?_ _) | (with_reducible refine Below.drew ?_) | (with_reducible refine Below.setCell ?_ ?_ _) | (first | (with_reducible exact Nat.le_refl _) | (with_reducible assumption) | omega | (simp only [World.size_alloc, World.size_setCell, World.size_drew, size_drewN', size_grow]; omega) | (simp; omega) | (simp; done)) | (with_reducible refine Below.trans ?_ (Below.mono (by with_reducible assumption) ?_))))⟩
end Go.Proofs.Ytkkjdodolnpfmaa
