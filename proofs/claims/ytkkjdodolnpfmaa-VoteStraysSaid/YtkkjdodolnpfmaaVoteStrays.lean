/- Layer 5, vote: the walk of 'Strays'. -/
import Derived.Test.YtkkjdodolnpfmaaVoteSafe
import Derived.Test.YtkkjdodolnpfmaaOpenSpans
import Derived.Test.YtkkjdodolnpfmaaOwn
set_option linter.unusedVariables false
set_option linter.unusedSimpArgs false
namespace Go.Proofs.Ytkkjdodolnpfmaa
open Go.RowKit
theorem info_int : (Try.prog.info? 3).map (fun i => (i.zero, i.size, i.bytes)) = some (some (.int .i64 0), 1, 8) := by kernel_rfl
/-- Those of the first k that stray. -/
def strays (fl fh : Int) (a b : Nat → Int) (k : Nat) : List Nat := (List.range k).filter fun i => !decide (max fl (a i) ≤ min fh (b i))
theorem strays_yes (fl fh : Int) (a b : Nat → Int) (k : Nat) (h : max fl (a k) ≤ min fh (b k)) : strays fl fh a b (k + 1) = strays fl fh a b k := by
  unfold strays
  rw [List.range_succ, List.filter_append]
  simp [h]
theorem strays_no (fl fh : Int) (a b : Nat → Int) (k : Nat) (h : ¬ max fl (a k) ≤ min fh (b k)) : strays fl fh a b (k + 1) = strays fl fh a b k ++ [k] := by
  unfold strays
  rw [List.range_succ, List.filter_append]
  simp [h]
theorem strays_len (fl fh : Int) (a b : Nat → Int) (k : Nat) : (strays fl fh a b k).length ≤ k := by
  unfold strays
  exact Nat.le_trans (List.length_filter_le _ _) (by simp)
def ints (l : List Nat) : List Value := l.map fun i : Nat => Value.int .i64 (i : Int)
structure StInv (fl fh : Int) (n : Nat) (a b : Nat → Int) (w : World) (v i : Value) (wr : World) : Prop where
  ex : ∃ k : Nat, k ≤ n ∧ i = .int .i64 k ∧ wr.ownsRow (w.heap.size + 1) 3 1 v (strays fl fh a b k).length (ints (strays fl fh a b k))
  own : Cell2 wr w.heap.size fl fh
  bel : Below w.heap.size w wr
def StPost (fl fh : Int) (n : Nat) (a b : Nat → Int) (w : World) (e : Ending) (w' : World) : Prop :=
  ∃ v, e = .returned v ∧ w'.ownsRow (w.heap.size + 1) 3 1 v (strays fl fh a b n).length (ints (strays fl fh a b n)) ∧ Below w.heap.size w w'
set_option maxHeartbeats 2000000 in
set_option maxRecDepth 20000 in
theorem vote_strays (fl fh : Int) (n : Nat) (v : Value) (a b : Nat → Int) (w : World) (hn40 : n ≤ 1000) (h : Sl w w.heap.size 2 n v (spx a b)) : Calls Try.prog 28 #[sp fl fh, v] w (StPost fl fh n a b w) := by
  obtain ⟨A, c, rfl, hc1, hc2, hcell⟩ := h
  unfold maxLen at hc2
  have H1 := hid hcell
  clear hcell
  obtain ⟨i0, hi, hz0, hz1, hz2⟩ := info_parts info_int
  have HI := hid (And.intro hi (And.intro hz0 (And.intro hz1 hz2)))
  clear hi hz0 hz1 hz2
  unfold sp
  go_enter Try.func28, Try.ntmps28
  (have hasc := Nat.add_assoc; have hpos := nat_pos_or; have hlit := nat_lt_lit)
  go_wp2_with (fail)
  go_loopw [5, 12] (fun v i wr => StInv fl fh n a b w v i wr) (fun _ i _ => n - (intOf i).toNat)
  case atStart =>
    refine ⟨⟨0, Nat.zero_le _, rfl, by have := World.ownsRow_nil (w.alloc (Obj.cells #[Value.int IntKind.i64 fl, Value.int IntKind.i64 fh] 42)) (w.heap.size + 1) 3 1; simpa [strays, ints] using this⟩, ?_, by (repeat' (first | (with_reducible exact Below.refl _ _) | (with_reducible assumption) | (with_reducible refine below_drewN ?_ _) | (with_reducible refine below_grown ?_ ?_ _) | (with_reducible refine Below.alloc ?_ ?_ _) | (with_reducible refine Below.drew ?_) | (with_reducible refine Below.setCell ?_ ?_ _) | (first | (with_reducible exact Nat.le_refl _) | (with_reducible assumption) | omega | (simp only [World.size_alloc, World.size_setCell, World.size_drew, size_drewN', size_grow]; omega) | (simp; omega) | (simp; done)) | (with_reducible refine Below.trans ?_ (Below.mono (by with_reducible assumption) ?_))))⟩
    constructor <;> simp [go_sem]
  case round =>
    obtain ⟨⟨k, hk, rfl, hown⟩, hbox, hbel⟩ := hrel
    have HO := hid hown
    clear hown
    have ho0 := hbox.c0
    have ho1 := hbox.c1
    have ho2 := hbox.f0
    have ho3 := hbox.f1
    have hl0 : w.heap.size < wr.heap.size := World.block_lt_of_cell? wr _ ho0
    by_cases hlt : k < n
    · obtain ⟨bb, off, hA, hbb, hcc⟩ := H1.out (by omega)
      subst hA
      have hx0 : wr.cell? ⟨bb, off + k * 2, none⟩ = some (.int .i64 (a k)) := by
        simpa [spx] using (hbel.cell (p := ⟨bb, off + (k * 2 + 0), none⟩) hbb).trans (hcc k hlt 0 (by omega))
      have hx1 : wr.cell? ⟨bb, off + (k * 2 + 1), none⟩ = some (.int .i64 (b k)) := by
        simpa [spx] using (hbel.cell (p := ⟨bb, off + (k * 2 + 1), none⟩) hbb).trans (hcc k hlt 1 (by omega))
      have HC := hid hcc
      clear hcc
      have c1 := fun w => span_meet fl fh (a k) (b k) w
      by_cases hok : max fl (a k) ≤ min fh (b k)
      · have e3 : decide (max fl (a k) ≤ min fh (b k)) = true := by simpa using hok
        rw [e3] at c1
        have HS := hid (strays_yes fl fh a b k hok)
        clear e3 hok
        generalize bl (max fl (a k)) (min fh (b k)) = ml at *
        generalize bh (max fl (a k)) (min fh (b k)) = mh at *
        unfold sp at c1
        have C1 := hid c1
        clear c1
        go_wp2_with (go_at_call 45; ((with_reducible refine (Calls.to_kept [w.heap.size] (C1.out _) ?lt).mono ?_); (case lt => (first | (exact trivial) | (simp only [AllLt, World.size_alloc, World.size_setCell, World.size_drew, size_drewN', size_grow, and_true, true_and]; omega))); rintro e w' ⟨rfl, g1, rfl, kg1⟩; simp only [AllKept, and_true] at kg1))
        refine ⟨⟨⟨k + 1, by omega, by simp, by rw [HS.out]; exact ownsRow_below HO.out (by (repeat' (first | (with_reducible exact Below.refl _ _) | (with_reducible assumption) | (with_reducible refine below_drewN ?_ _) | (with_reducible refine below_grown ?_ ?_ _) | (with_reducible refine Below.alloc ?_ ?_ _) | (with_reducible refine Below.drew ?_) | (with_reducible refine Below.setCell ?_ ?_ _) | (first | (with_reducible exact Nat.le_refl _) | (with_reducible assumption) | omega | (simp only [World.size_alloc, World.size_setCell, World.size_drew, size_drewN', size_grow]; omega) | (simp; omega) | (simp; done)) | (with_reducible refine Below.trans ?_ (Below.mono (by with_reducible assumption) ?_))))) (Nat.le_refl _)⟩, ?_, by (repeat' (first | (with_reducible exact Below.refl _ _) | (with_reducible assumption) | (with_reducible refine below_drewN ?_ _) | (with_reducible refine below_grown ?_ ?_ _) | (with_reducible refine Below.alloc ?_ ?_ _) | (with_reducible refine Below.drew ?_) | (with_reducible refine Below.setCell ?_ ?_ _) | (first | (with_reducible exact Nat.le_refl _) | (with_reducible assumption) | omega | (simp only [World.size_alloc, World.size_setCell, World.size_drew, size_drewN', size_grow]; omega) | (simp; omega) | (simp; done)) | (with_reducible refine Below.trans ?_ (Below.mono (by with_reducible assumption) ?_))))⟩, by simp [intOf]; omega⟩
        constructor <;> simp [go_sem, hasc, hpos, hlit, kg1, ho0, ho1, ho2, ho3, hl0, Nat.ne_of_lt hl0]
      · have e3 : decide (max fl (a k) ≤ min fh (b k)) = false := by simpa using hok
        rw [e3] at c1
        have HS := hid (strays_no fl fh a b k hok)
        clear e3 hok
        generalize bl (max fl (a k)) (min fh (b k)) = ml at *
        generalize bh (max fl (a k)) (min fh (b k)) = mh at *
        unfold sp at c1
        have C1 := hid c1
        clear c1
        have hln := strays_len fl fh a b k
        go_wp2_with (first | (go_at_call 45; ((with_reducible refine (Calls.to_kept [w.heap.size] (C1.out _) ?lt).mono ?_); (case lt => (first | (exact trivial) | (simp only [AllLt, World.size_alloc, World.size_setCell, World.size_drew, size_drewN', size_grow, and_true, true_and]; omega))); rintro e w' ⟨rfl, g1, rfl, kg1⟩; simp only [AllKept, and_true] at kg1)) | (at_builtin; refine wpList_append_own _ rfl _ _ 61 rfl (w.heap.size + 1) 3 i0 (.int .i64 0) 1 8 Try.underlying61 HI.out.1 HI.out.2.1 HI.out.2.2.1 HI.out.2.2.2 rfl (by decide) _ _ _ rfl (ownsRow_below (B := wr.heap.size) HO.out (by (repeat' (first | (with_reducible exact Below.refl _ _) | (with_reducible assumption) | (with_reducible refine below_drewN ?_ _) | (with_reducible refine below_grown ?_ ?_ _) | (with_reducible refine Below.alloc ?_ ?_ _) | (with_reducible refine Below.drew ?_) | (with_reducible refine Below.setCell ?_ ?_ _) | (first | (with_reducible exact Nat.le_refl _) | (with_reducible assumption) | omega | (simp only [World.size_alloc, World.size_setCell, World.size_drew, size_drewN', size_grow]; omega) | (simp; omega) | (simp; done)) | (with_reducible refine Below.trans ?_ (Below.mono (by with_reducible assumption) ?_))))) (Nat.le_refl _)) _ 1 1 [.int .i64 k] rfl rfl ?c1 ?c2 ?c3 ?c4 ?c5 ?_))
        case c1 =>
          intro j u hj
          match j, hj with
          | 0, hj => simp at hj; subst hj; simp [Addr.add, go_sem, hasc, hpos, hlit]
        case c2 => intro u hu; simp at hu; subst hu; rfl
        case c3 => unfold maxLen; omega
        case c4 => omega
        case c5 => simp; omega
        intro v' w1 hown' hgrow hnil
        have hne : some w.heap.size ≠ u5.ownBlock := fun e => by have := HO.out.lt _ e.symm; omega
        have hap : ints (strays fl fh a b k ++ [k]) = ints (strays fl fh a b k) ++ [.int .i64 k] := by simp [ints]
        have d0 := hgrow.cell (a := ⟨w.heap.size, 0, none⟩) (v := .int .i64 fl) (by simp [go_sem, hasc, hpos, hlit, kg1, ho0, ho1, ho2, ho3, hl0, Nat.ne_of_lt hl0]) hne
        have d1 := hgrow.cell (a := ⟨w.heap.size, 1, none⟩) (v := .int .i64 fh) (by simp [go_sem, hasc, hpos, hlit, kg1, ho0, ho1, ho2, ho3, hl0, Nat.ne_of_lt hl0]) hne
        have hb2 := hgrow.block w.heap.size (by simp; omega) hne
        have d2 := World.frozen?_of_block (a := ⟨w.heap.size, 0, none⟩) hb2
        have d3 := World.frozen?_of_block (a := ⟨w.heap.size, 1, none⟩) hb2
        simp [go_sem, hasc, hpos, hlit, kg1, ho0, ho1, ho2, ho3, hl0, Nat.ne_of_lt hl0] at d2 d3
        have hnx : Below w.heap.size w w1 := Below.grown (by (repeat' (first | (with_reducible exact Below.refl _ _) | (with_reducible assumption) | (with_reducible refine below_drewN ?_ _) | (with_reducible refine below_grown ?_ ?_ _) | (with_reducible refine Below.alloc ?_ ?_ _) | (with_reducible refine Below.drew ?_) | (with_reducible refine Below.setCell ?_ ?_ _) | (first | (with_reducible exact Nat.le_refl _) | (with_reducible assumption) | omega | (simp only [World.size_alloc, World.size_setCell, World.size_drew, size_drewN', size_grow]; omega) | (simp; omega) | (simp; done)) | (with_reducible refine Below.trans ?_ (Below.mono (by with_reducible assumption) ?_))))) hgrow (by simp; omega) (fun j hj => by have := HO.out.lt j hj; omega)
        rw [← hap] at hown'
        have HW := hid hown'
        clear hown' hgrow hap hb2 hnil kg1
        go_wp2_with (fail)
        refine ⟨⟨⟨k + 1, by omega, by simp, by rw [HS.out, List.length_append]; exact HW.out⟩, ⟨d0, d1, d2, d3⟩, hnx⟩, by simp [intOf]; omega⟩
    · have hkn : k = n := by omega
      subst hkn
      go_wp2_with (fail)
      go_returns
      exact ⟨u5, rfl, HO.out, hbel⟩
end Go.Proofs.Ytkkjdodolnpfmaa
