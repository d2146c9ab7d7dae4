/- VoteStrays: the walk of the law. -/
import Derived.Test.YtkkjdodolnpfmaaVoteStrays
set_option linter.unusedVariables false
set_option linter.unusedSimpArgs false
namespace Go.Proofs.Ytkkjdodolnpfmaa
open Go.RowKit
theorem strays_prefix (fl fh : Int) (a b : Nat → Int) (k : Nat) : ∀ m, ∃ t, strays fl fh a b (k + m) = strays fl fh a b k ++ t
  | 0 => ⟨[], by simp⟩
  | m + 1 => by
    obtain ⟨t, ht⟩ := strays_prefix fl fh a b k m
    rw [← Nat.add_assoc]
    by_cases h : max fl (a (k + m)) ≤ min fh (b (k + m))
    · exact ⟨t, by rw [strays_yes _ _ _ _ _ h, ht]⟩
    · exact ⟨t ++ [k + m], by rw [strays_no _ _ _ _ _ h, ht, List.append_assoc]⟩
theorem strays_at (fl fh : Int) (a b : Nat → Int) (n k : Nat) (hk : k < n) (h : ¬ max fl (a k) ≤ min fh (b k)) :
    (strays fl fh a b k).length < (strays fl fh a b n).length ∧ (ints (strays fl fh a b n)).getD (strays fl fh a b k).length undef = .int .i64 k := by
  obtain ⟨t, ht⟩ := strays_prefix fl fh a b (k + 1) (n - (k + 1))
  rw [show k + 1 + (n - (k + 1)) = n by omega, strays_no _ _ _ _ _ h] at ht
  rw [ht]
  refine ⟨by simp, by simp [ints, List.getD_eq_getElem?_getD]⟩
structure LSInv (fl fh : Int) (n : Nat) (a b : Nat → Int) (W : World) (q i : Value) (wr : World) : Prop where
  ex : ∃ k : Nat, k ≤ n ∧ i = .int .i64 k ∧ q = .int .i64 (strays fl fh a b k).length
  bel : Below W.heap.size W wr
set_option maxHeartbeats 4000000 in
set_option maxRecDepth 20000 in
theorem walk_VoteStrays (fl fh : Int) (n : Nat) (v : Value) (a b : Nat → Int) (w : World) (h : Sl w w.heap.size 2 n v (spx a b)) :
    Calls Try.prog 9 #[sp fl fh, v] w fun e w' => e = .returned (.bool true) ∧ Below w.heap.size w w' := by
  have CA := hid (fun w => anchor05 w)
  have H0 := hid h
  obtain ⟨A, c, rfl, hc1, hc2, hcell⟩ := h
  unfold maxLen at hc2
  have H1 := hid hcell
  clear hcell
  by_cases hn40 : 40 < n
  · unfold sp
    go_enter Try.func9, Try.ntmps9
    (have hasc := Nat.add_assoc; have hpos := nat_pos_or; have hlit := nat_lt_lit)
    go_wp2_with (go_at_call 20; ((with_reducible refine (Calls.to_kept [] (CA.out _) ?lt).mono ?_); (case lt => (first | (exact trivial) | (simp only [AllLt, World.size_alloc, World.size_setCell, World.size_drew, size_drewN', size_grow, and_true, true_and]; omega))); rintro e w' ⟨rfl, g1, rfl, kg1⟩; simp only [AllKept, and_true] at kg1))
    go_returns
    exact ⟨rfl, by (repeat' (first | (with_reducible exact Below.refl _ _) | (with_reducible assumption) | (with_reducible refine below_drewN ?_ _) | (with_reducible refine below_grown ?_ ?_ _) | (with_reducible refine Below.alloc ?_ ?_ _) | (with_reducible refine Below.drew ?_) | (with_reducible refine Below.setCell ?_ ?_ _) | (first | (with_reducible exact Nat.le_refl _) | (with_reducible assumption) | omega | (simp only [World.size_alloc, World.size_setCell, World.size_drew, size_drewN', size_grow]; omega) | (simp; omega) | (simp; done)) | (with_reducible refine Below.trans ?_ (Below.mono (by with_reducible assumption) ?_))))⟩
  unfold sp
  go_enter Try.func9, Try.ntmps9
  (have hasc := Nat.add_assoc; have hpos := nat_pos_or; have hlit := nat_lt_lit)
  go_wp2_with (go_at_call 20; ((with_reducible refine (Calls.to_kept [w.heap.size] (CA.out _) ?lt).mono ?_); (case lt => (first | (exact trivial) | (simp only [AllLt, World.size_alloc, World.size_setCell, World.size_drew, size_drewN', size_grow, and_true, true_and]; omega))); rintro e w' ⟨rfl, g1, rfl, kg1⟩; simp only [AllKept, and_true] at kg1))
  have hb1 : Below w.heap.size w ((w.alloc (Obj.cells #[Value.int IntKind.i64 fl, Value.int IntKind.i64 fh] 42)).grow g1) := by (repeat' (first | (with_reducible exact Below.refl _ _) | (with_reducible assumption) | (with_reducible refine below_drewN ?_ _) | (with_reducible refine below_grown ?_ ?_ _) | (with_reducible refine Below.alloc ?_ ?_ _) | (with_reducible refine Below.drew ?_) | (with_reducible refine Below.setCell ?_ ?_ _) | (first | (with_reducible exact Nat.le_refl _) | (with_reducible assumption) | omega | (simp only [World.size_alloc, World.size_setCell, World.size_drew, size_drewN', size_grow]; omega) | (simp; omega) | (simp; done)) | (with_reducible refine Below.trans ?_ (Below.mono (by with_reducible assumption) ?_))))
  have CS := vote_strays fl fh n (.slice A n c) a b _ (by omega) ((H0.out.below hb1).mono_block hb1.size)
  unfold sp at CS
  refine CS.mono ?_
  rintro e w2 ⟨v2, rfl, hown, hb2⟩
  clear CS
  have hb3 : Below w.heap.size w w2 := hb1.trans (hb2.mono hb1.size)
  have d0 : w2.cell? ⟨w.heap.size, 0, none⟩ = some (.int .i64 fl) := (hb2.cell (p := ⟨w.heap.size, 0, none⟩) (by simp; omega)).trans (by simp [go_sem, kg1])
  have d1 : w2.cell? ⟨w.heap.size, 1, none⟩ = some (.int .i64 fh) := (hb2.cell (p := ⟨w.heap.size, 1, none⟩) (by simp; omega)).trans (by simp [go_sem, kg1])
  have hl2 : w.heap.size < w2.heap.size := World.block_lt_of_cell? w2 _ d0
  obtain ⟨A2, c2, rfl, hq1, hq2, hq3⟩ := sl_of_owns hown
  unfold maxLen at hq2
  have H3 := hid hq3
  have HL := hid (strays_len fl fh a b n)
  clear hq3 hown hb1 hb2 kg1
  go_wp2_with (fail)
  go_loopw [6, 20] (fun q i wr => LSInv fl fh n a b w2 q i wr) (fun _ i _ => n - (intOf i).toNat)
  case atStart => exact ⟨⟨0, Nat.zero_le _, rfl, by simp [strays]⟩, by (repeat' (first | (with_reducible exact Below.refl _ _) | (with_reducible assumption) | (with_reducible refine below_drewN ?_ _) | (with_reducible refine below_grown ?_ ?_ _) | (with_reducible refine Below.alloc ?_ ?_ _) | (with_reducible refine Below.drew ?_) | (with_reducible refine Below.setCell ?_ ?_ _) | (first | (with_reducible exact Nat.le_refl _) | (with_reducible assumption) | omega | (simp only [World.size_alloc, World.size_setCell, World.size_drew, size_drewN', size_grow]; omega) | (simp; omega) | (simp; done)) | (with_reducible refine Below.trans ?_ (Below.mono (by with_reducible assumption) ?_))))⟩
  case round =>
    obtain ⟨⟨k, hk, rfl, rfl⟩, hbel⟩ := hrel
    have e0 : wr.cell? ⟨w.heap.size, 0, none⟩ = some (.int .i64 fl) := (hbel.cell (p := ⟨w.heap.size, 0, none⟩) hl2).trans d0
    have e1 : wr.cell? ⟨w.heap.size, 1, none⟩ = some (.int .i64 fh) := (hbel.cell (p := ⟨w.heap.size, 1, none⟩) hl2).trans d1
    have hsz := hbel.size
    have hbw : Below w.heap.size w wr := hb3.trans (hbel.mono hb3.size)
    have hl0 : w.heap.size < wr.heap.size := by omega
    by_cases hlt : k < n
    · obtain ⟨bb, off, hA, hbb, hcc⟩ := H1.out (by omega)
      subst hA
      have hx0 : wr.cell? ⟨bb, off + k * 2, none⟩ = some (.int .i64 (a k)) := by
        simpa [spx] using (hbw.cell (p := ⟨bb, off + (k * 2 + 0), none⟩) hbb).trans (hcc k hlt 0 (by omega))
      have hx1 : wr.cell? ⟨bb, off + (k * 2 + 1), none⟩ = some (.int .i64 (b k)) := by
        simpa [spx] using (hbw.cell (p := ⟨bb, off + (k * 2 + 1), none⟩) hbb).trans (hcc k hlt 1 (by omega))
      have HC := hid hcc
      clear hcc
      have hm1 : (if a k < fl then fl else a k) = max fl (a k) := by split <;> omega
      have hm2 : (if fh < b k then fh else b k) = min fh (b k) := by split <;> omega
      by_cases hok : max fl (a k) ≤ min fh (b k)
      · have HS := hid (strays_yes fl fh a b k hok)
        go_wp2_with (first | (with_reducible refine rounds_mk ?_) | ((with_reducible refine wp_region_quiet_lit (by kernel_rfl) (by kernel_rfl) ?_); (repeat (go_big_quiet_step (fail))); (refine wpQuiet_nil ?_; intro _ hw'; obtain ⟨nq, hw''⟩ := hw'; subst hw'')))
        exact ⟨⟨⟨k + 1, by omega, by simp, by rw [HS.out]⟩, by (repeat' (first | (with_reducible exact Below.refl _ _) | (with_reducible assumption) | (with_reducible refine below_drewN ?_ _) | (with_reducible refine below_grown ?_ ?_ _) | (with_reducible refine Below.alloc ?_ ?_ _) | (with_reducible refine Below.drew ?_) | (with_reducible refine Below.setCell ?_ ?_ _) | (first | (with_reducible exact Nat.le_refl _) | (with_reducible assumption) | omega | (simp only [World.size_alloc, World.size_setCell, World.size_drew, size_drewN', size_grow]; omega) | (simp; omega) | (simp; done)) | (with_reducible refine Below.trans ?_ (Below.mono (by with_reducible assumption) ?_))))⟩, by simp [intOf]; omega⟩
      · have HS := hid (strays_no fl fh a b k hok)
        obtain ⟨ha1, ha2⟩ := strays_at fl fh a b n k hlt hok
        obtain ⟨bg, og, hAg, hbg, hcg⟩ := H3.out (by omega)
        subst hAg
        have hg0 : wr.cell? ⟨bg, og + (strays fl fh a b k).length, none⟩ = some (.int .i64 k) := by
          have := (hbel.cell (p := ⟨bg, og + ((strays fl fh a b k).length * 1 + 0), none⟩) hbg).trans (hcg _ ha1 0 (by omega))
          rw [Nat.mul_one, Nat.add_zero, ha2] at this
          exact this
        clear hcg ha2
        have hgl : bg < wr.heap.size := by omega
        have e5 : decide ((strays fl fh a b n).length ≤ (strays fl fh a b k).length) = false := by simpa using ha1
        have hln := strays_len fl fh a b n
        go_wp2_with (first | (with_reducible refine rounds_mk ?_) | ((with_reducible refine wp_region_quiet_lit (by kernel_rfl) (by kernel_rfl) ?_); (repeat (go_big_quiet_step (fail))); (refine wpQuiet_nil ?_; intro _ hw'; obtain ⟨nq, hw''⟩ := hw'; subst hw'')))
        exact ⟨⟨⟨k + 1, by omega, by simp, by rw [HS.out]; simp⟩, by (repeat' (first | (with_reducible exact Below.refl _ _) | (with_reducible assumption) | (with_reducible refine below_drewN ?_ _) | (with_reducible refine below_grown ?_ ?_ _) | (with_reducible refine Below.alloc ?_ ?_ _) | (with_reducible refine Below.drew ?_) | (with_reducible refine Below.setCell ?_ ?_ _) | (first | (with_reducible exact Nat.le_refl _) | (with_reducible assumption) | omega | (simp only [World.size_alloc, World.size_setCell, World.size_drew, size_drewN', size_grow]; omega) | (simp; omega) | (simp; done)) | (with_reducible refine Below.trans ?_ (Below.mono (by with_reducible assumption) ?_))))⟩, by simp [intOf]; omega⟩
    · have hkn : k = n := by omega
      subst hkn
      go_wp2_with (fail)
      go_returns
      exact ⟨rfl, hbw⟩
end Go.Proofs.Ytkkjdodolnpfmaa
