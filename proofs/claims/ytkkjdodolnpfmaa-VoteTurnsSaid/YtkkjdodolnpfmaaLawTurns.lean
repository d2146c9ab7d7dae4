/- VoteTurns: the walk of the law. -/
import Derived.Test.YtkkjdodolnpfmaaVoteTurns
import Derived.Test.YtkkjdodolnpfmaaSpanIn
set_option linter.unusedVariables false
set_option linter.unusedSimpArgs false
namespace Go.Proofs.Ytkkjdodolnpfmaa
open Go.RowKit
theorem info_span : (Try.prog.info? 42).map (fun i => (i.zero, i.size, i.bytes)) = some (some (sp 0 0), 2, 16) := by kernel_rfl
/-- The cells of the first k spans. -/
def spcells (a b : Nat → Int) : Nat → List Value
  | 0 => []
  | k + 1 => spcells a b k ++ [.int .i64 (a k), .int .i64 (b k)]
theorem spcells_len (a b : Nat → Int) : ∀ k, (spcells a b k).length = k * 2
  | 0 => rfl
  | k + 1 => by simp only [spcells, List.length_append, spcells_len a b k, List.length_cons, List.length_nil]; omega
theorem spcells_at (a b : Nat → Int) : ∀ k i j, i < k → j < 2 → (spcells a b k).getD (i * 2 + j) undef = spx a b i j
  | 0, i, j, h, _ => absurd h (by omega)
  | k + 1, i, j, h, hj => by
    have hl := spcells_len a b k
    by_cases hi : i < k
    · have := spcells_at a b k i j hi hj
      simp only [spcells, List.getD_eq_getElem?_getD] at this ⊢
      rw [List.getElem?_append_left (by omega)]
      exact this
    · have hik : i = k := by omega
      subst hik
      simp only [spcells, List.getD_eq_getElem?_getD]
      rw [List.getElem?_append_right (by omega), hl]
      have : j = 0 ∨ j = 1 := by omega
      rcases this with rfl | rfl <;> simp [spx]
structure BkInv (n : Nat) (a b : Nat → Int) (w : World) (v i : Value) (wr : World) : Prop where
  ex : ∃ k : Nat, k ≤ n ∧ i = .int .i64 k ∧ wr.ownsRow w.heap.size 42 2 v k (spcells (rev n a) (rev n b) k)
  bel : Below w.heap.size w wr
set_option maxHeartbeats 4000000 in
set_option maxRecDepth 20000 in
theorem walk_VoteTurns (n : Nat) (v : Value) (a b : Nat → Int) (w : World) (h : Sl w w.heap.size 2 n v (spx a b)) :
    Calls Try.prog 11 #[v] w fun e w' => e = .returned (.bool true) ∧ Below w.heap.size w w' := by
  have CA := hid (fun w => anchor05 w)
  have H0 := hid h
  obtain ⟨A, c, rfl, hc1, hc2, hcell⟩ := h
  unfold maxLen at hc2
  have H1 := hid hcell
  clear hcell
  by_cases hn40 : 40 < n
  · go_enter Try.func11, Try.ntmps11
    (have hasc := Nat.add_assoc; have hpos := nat_pos_or; have hlit := nat_lt_lit)
    go_wp2_with (go_at_call 20; ((with_reducible refine (Calls.to_kept [] (CA.out _) ?lt).mono ?_); (case lt => (first | (exact trivial) | (simp only [AllLt, World.size_alloc, World.size_setCell, World.size_drew, size_drewN', size_grow, and_true, true_and]; omega))); rintro e w' ⟨rfl, g1, rfl, kg1⟩; simp only [AllKept, and_true] at kg1))
    go_returns
    exact ⟨rfl, by (repeat' (first | (with_reducible exact Below.refl _ _) | (with_reducible assumption) | (with_reducible refine below_drewN ?_ _) | (with_reducible refine below_grown ?_ ?_ _) | (with_reducible refine Below.alloc ?_ ?_ _) | (with_reducible refine Below.drew ?_) | (with_reducible refine Below.setCell ?_ ?_ _) | (first | (with_reducible exact Nat.le_refl _) | (with_reducible assumption) | omega | (simp only [World.size_alloc, World.size_setCell, World.size_drew, size_drewN', size_grow]; omega) | (simp; omega) | (simp; done)) | (with_reducible refine Below.trans ?_ (Below.mono (by with_reducible assumption) ?_))))⟩
  obtain ⟨i0, hi, hz0, hz1, hz2⟩ := info_parts info_span
  have HI := hid (And.intro hi (And.intro hz0 (And.intro hz1 hz2)))
  clear hi hz0 hz1 hz2
  go_enter Try.func11, Try.ntmps11
  (have hasc := Nat.add_assoc; have hpos := nat_pos_or; have hlit := nat_lt_lit)
  go_wp2_with (go_at_call 20; ((with_reducible refine (Calls.to_kept [] (CA.out _) ?lt).mono ?_); (case lt => (first | (exact trivial) | (simp only [AllLt, World.size_alloc, World.size_setCell, World.size_drew, size_drewN', size_grow, and_true, true_and]; omega))); rintro e w' ⟨rfl, g1, rfl, kg1⟩; simp only [AllKept, and_true] at kg1))
  go_loopw [3, 20] (fun v i wr => BkInv n a b w v i wr) (fun _ i _ => n - (intOf i).toNat)
  case atStart => exact ⟨⟨0, Nat.zero_le _, rfl, World.ownsRow_nil _ _ _ _⟩, by (repeat' (first | (with_reducible exact Below.refl _ _) | (with_reducible assumption) | (with_reducible refine below_drewN ?_ _) | (with_reducible refine below_grown ?_ ?_ _) | (with_reducible refine Below.alloc ?_ ?_ _) | (with_reducible refine Below.drew ?_) | (with_reducible refine Below.setCell ?_ ?_ _) | (first | (with_reducible exact Nat.le_refl _) | (with_reducible assumption) | omega | (simp only [World.size_alloc, World.size_setCell, World.size_drew, size_drewN', size_grow]; omega) | (simp; omega) | (simp; done)) | (with_reducible refine Below.trans ?_ (Below.mono (by with_reducible assumption) ?_))))⟩
  case round =>
    obtain ⟨⟨k, hk, rfl, hown⟩, hbel⟩ := hrel
    have HO := hid hown
    clear hown
    have hsz := hbel.size
    by_cases hlt : k < n
    · obtain ⟨bb, off, hA, hbb, hcc⟩ := H1.out (by omega)
      subst hA
      obtain ⟨q, hq⟩ : ∃ q : Nat, q = n - 1 - k := ⟨_, rfl⟩
      have hqn : q < n := by omega
      have hqi : (n : Int) - 1 - (k : Int) = (q : Int) := by omega
      have hx0 : wr.cell? ⟨bb, off + q * 2, none⟩ = some (.int .i64 (a q)) := by
        simpa [spx] using (hbel.cell (p := ⟨bb, off + (q * 2 + 0), none⟩) hbb).trans (hcc q hqn 0 (by omega))
      have hx1 : wr.cell? ⟨bb, off + (q * 2 + 1), none⟩ = some (.int .i64 (b q)) := by
        simpa [spx] using (hbel.cell (p := ⟨bb, off + (q * 2 + 1), none⟩) hbb).trans (hcc q hqn 1 (by omega))
      have HC := hid hcc
      have hra : a q = rev n a k := by unfold rev; rw [hq]
      have hrb : b q = rev n b k := by unfold rev; rw [hq]
      rw [hra] at hx0
      rw [hrb] at hx1
      clear hcc hq hra hrb
      go_wp2_with (at_builtin; refine wpList_append_own _ rfl _ _ 40 rfl w.heap.size 42 i0 (sp 0 0) 2 16 Try.underlying40 HI.out.1 HI.out.2.1 HI.out.2.2.1 HI.out.2.2.2 rfl (by decide) _ _ _ rfl (ownsRow_below (B := wr.heap.size) HO.out (by (repeat' (first | (with_reducible exact Below.refl _ _) | (with_reducible assumption) | (with_reducible refine below_drewN ?_ _) | (with_reducible refine below_grown ?_ ?_ _) | (with_reducible refine Below.alloc ?_ ?_ _) | (with_reducible refine Below.drew ?_) | (with_reducible refine Below.setCell ?_ ?_ _) | (first | (with_reducible exact Nat.le_refl _) | (with_reducible assumption) | omega | (simp only [World.size_alloc, World.size_setCell, World.size_drew, size_drewN', size_grow]; omega) | (simp; omega) | (simp; done)) | (with_reducible refine Below.trans ?_ (Below.mono (by with_reducible assumption) ?_))))) (Nat.le_refl _)) _ 1 1 [.int .i64 (rev n a k), .int .i64 (rev n b k)] rfl rfl ?c1 ?c2 ?c3 ?c4 ?c5 ?_)
      case c1 =>
        intro j u hj
        match j, hj with
        | 0, hj => simp at hj; subst hj; simp [Addr.add, go_sem, hasc, hpos, hlit]
        | 1, hj => simp at hj; subst hj; simp [Addr.add, go_sem, hasc, hpos, hlit]
      case c2 =>
        intro u hu
        simp at hu
        rcases hu with rfl | rfl <;> rfl
      case c3 => unfold maxLen; omega
      case c4 => omega
      case c5 => simp; omega
      intro v' w1 hown' hgrow hnil
      have hnx : Below w.heap.size w w1 := Below.grown (by (repeat' (first | (with_reducible exact Below.refl _ _) | (with_reducible assumption) | (with_reducible refine below_drewN ?_ _) | (with_reducible refine below_grown ?_ ?_ _) | (with_reducible refine Below.alloc ?_ ?_ _) | (with_reducible refine Below.drew ?_) | (with_reducible refine Below.setCell ?_ ?_ _) | (first | (with_reducible exact Nat.le_refl _) | (with_reducible assumption) | omega | (simp only [World.size_alloc, World.size_setCell, World.size_drew, size_drewN', size_grow]; omega) | (simp; omega) | (simp; done)) | (with_reducible refine Below.trans ?_ (Below.mono (by with_reducible assumption) ?_))))) hgrow (by simp; omega) (fun j hj => by have := HO.out.lt j hj; omega)
      have HW := hid hown'
      clear hown' hgrow hnil
      go_wp2_with (fail)
      exact ⟨⟨⟨k + 1, by omega, by simp, HW.out⟩, hnx⟩, by simp [intOf]; omega⟩
    · have hkn : k = n := by omega
      subst hkn
      have HB : Sl wr wr.heap.size 2 k u3 (spx (rev k a) (rev k b)) := (sl_of_owns HO.out).congr fun i hi j hj => spcells_at _ _ _ i j hi hj
      have HA := H0.out.below hbel |>.mono_block hsz
      go_wp2_with (fail)
      refine (vote_common_all k _ a b wr HA).mono ?_
      rintro e w2 ⟨al, ah, af, rfl, hca, hb2⟩
      have HB2 := (HB.below hb2).mono_block hb2.size
      have HA2 := (HA.below hb2).mono_block hb2.size
      have hbw2 := hbel.trans (hb2.mono hsz)
      clear HA HB hb2
      unfold sp
      go_wp2_with (fail)
      have hq2 : Below w2.heap.size w2 (w2.alloc (Obj.cells #[Value.int IntKind.i64 al, Value.int IntKind.i64 ah] 42)) := by (repeat' (first | (with_reducible exact Below.refl _ _) | (with_reducible assumption) | (with_reducible refine below_drewN ?_ _) | (with_reducible refine below_grown ?_ ?_ _) | (with_reducible refine Below.alloc ?_ ?_ _) | (with_reducible refine Below.drew ?_) | (with_reducible refine Below.setCell ?_ ?_ _) | (first | (with_reducible exact Nat.le_refl _) | (with_reducible assumption) | omega | (simp only [World.size_alloc, World.size_setCell, World.size_drew, size_drewN', size_grow]; omega) | (simp; omega) | (simp; done)) | (with_reducible refine Below.trans ?_ (Below.mono (by with_reducible assumption) ?_))))
      refine (vote_common_all k _ _ _ _ ((HB2.below hq2).mono_block hq2.size)).mono ?_
      rintro e w3 ⟨bl_, bh_, bf, rfl, hcb, hb3⟩
      obtain ⟨rfl, rfl, rfl⟩ := common_unique hca (common_rev hcb)
      have hb3' := hq2.trans (hb3.mono hq2.size)
      have HB3 := (HB2.below hb3').mono_block hb3'.size
      have HA3 := (HA2.below hb3').mono_block hb3'.size
      have hbw3 := hbw2.trans (hb3'.mono hbw2.size)
      have c10 : w3.cell? ⟨w2.heap.size, 0, none⟩ = some (.int .i64 al) := (hb3.cell (p := ⟨w2.heap.size, 0, none⟩) (by simp)).trans (by simp [go_sem])
      have c11 : w3.cell? ⟨w2.heap.size, 1, none⟩ = some (.int .i64 ah) := (hb3.cell (p := ⟨w2.heap.size, 1, none⟩) (by simp)).trans (by simp [go_sem])
      have hl23 : w2.heap.size < w3.heap.size := World.block_lt_of_cell? w3 _ c10
      clear HA2 HB2 hb3 hb3' hq2 hcb hbw2
      unfold sp
      go_wp2_with (fail)
      have hq3 : Below w3.heap.size w3 (w3.alloc (Obj.cells #[Value.int IntKind.i64 al, Value.int IntKind.i64 ah] 42)) := by (repeat' (first | (with_reducible exact Below.refl _ _) | (with_reducible assumption) | (with_reducible refine below_drewN ?_ _) | (with_reducible refine below_grown ?_ ?_ _) | (with_reducible refine Below.alloc ?_ ?_ _) | (with_reducible refine Below.drew ?_) | (with_reducible refine Below.setCell ?_ ?_ _) | (first | (with_reducible exact Nat.le_refl _) | (with_reducible assumption) | omega | (simp only [World.size_alloc, World.size_setCell, World.size_drew, size_drewN', size_grow]; omega) | (simp; omega) | (simp; done)) | (with_reducible refine Below.trans ?_ (Below.mono (by with_reducible assumption) ?_))))
      refine (vote_two k _ a b _ (by omega) ((HA3.below hq3).mono_block hq3.size)).mono ?_
      rintro e w4 ⟨cl, ch, cf, rfl, htc, hb4⟩
      have hb4' := hq3.trans (hb4.mono hq3.size)
      have HB4 := (HB3.below hb4').mono_block hb4'.size
      have hbw4 := hbw3.trans (hb4'.mono hbw3.size)
      have c20 : w4.cell? ⟨w2.heap.size, 0, none⟩ = some (.int .i64 al) := (hb4'.cell (p := ⟨w2.heap.size, 0, none⟩) hl23).trans c10
      have c21 : w4.cell? ⟨w2.heap.size, 1, none⟩ = some (.int .i64 ah) := (hb4'.cell (p := ⟨w2.heap.size, 1, none⟩) hl23).trans c11
      have d20 : w4.cell? ⟨w3.heap.size, 0, none⟩ = some (.int .i64 al) := (hb4.cell (p := ⟨w3.heap.size, 0, none⟩) (by simp)).trans (by simp [go_sem])
      have d21 : w4.cell? ⟨w3.heap.size, 1, none⟩ = some (.int .i64 ah) := (hb4.cell (p := ⟨w3.heap.size, 1, none⟩) (by simp)).trans (by simp [go_sem])
      have hl34 : w3.heap.size < w4.heap.size := World.block_lt_of_cell? w4 _ d20
      clear HA3 HB3 hb4 hb4' hq3 hbw3 c10 c11
      unfold sp
      go_wp2_with (fail)
      have hq4 : Below w4.heap.size w4 (w4.alloc (Obj.cells #[Value.int IntKind.i64 cl, Value.int IntKind.i64 ch] 42)) := by (repeat' (first | (with_reducible exact Below.refl _ _) | (with_reducible assumption) | (with_reducible refine below_drewN ?_ _) | (with_reducible refine below_grown ?_ ?_ _) | (with_reducible refine Below.alloc ?_ ?_ _) | (with_reducible refine Below.drew ?_) | (with_reducible refine Below.setCell ?_ ?_ _) | (first | (with_reducible exact Nat.le_refl _) | (with_reducible assumption) | omega | (simp only [World.size_alloc, World.size_setCell, World.size_drew, size_drewN', size_grow]; omega) | (simp; omega) | (simp; done)) | (with_reducible refine Below.trans ?_ (Below.mono (by with_reducible assumption) ?_))))
      refine (vote_two k _ _ _ _ (by omega) ((HB4.below hq4).mono_block hq4.size)).mono ?_
      rintro e w5 ⟨dl, dh, df, rfl, htd, hb5⟩
      obtain ⟨rfl, rfl, rfl⟩ := two_unique htc (two_rev htd)
      have hb5' := hq4.trans (hb5.mono hq4.size)
      have hbw5 := hbw4.trans (hb5'.mono hbw4.size)
      have hl24 : w2.heap.size < w4.heap.size := by omega
      have c30 : w5.cell? ⟨w2.heap.size, 0, none⟩ = some (.int .i64 al) := (hb5'.cell (p := ⟨w2.heap.size, 0, none⟩) hl24).trans c20
      have c31 : w5.cell? ⟨w2.heap.size, 1, none⟩ = some (.int .i64 ah) := (hb5'.cell (p := ⟨w2.heap.size, 1, none⟩) hl24).trans c21
      have d30 : w5.cell? ⟨w3.heap.size, 0, none⟩ = some (.int .i64 al) := (hb5'.cell (p := ⟨w3.heap.size, 0, none⟩) hl34).trans d20
      have d31 : w5.cell? ⟨w3.heap.size, 1, none⟩ = some (.int .i64 ah) := (hb5'.cell (p := ⟨w3.heap.size, 1, none⟩) hl34).trans d21
      have f30 : w5.cell? ⟨w4.heap.size, 0, none⟩ = some (.int .i64 cl) := (hb5.cell (p := ⟨w4.heap.size, 0, none⟩) (by simp)).trans (by simp [go_sem])
      have f31 : w5.cell? ⟨w4.heap.size, 1, none⟩ = some (.int .i64 ch) := (hb5.cell (p := ⟨w4.heap.size, 1, none⟩) (by simp)).trans (by simp [go_sem])
      have hl45 : w4.heap.size < w5.heap.size := World.block_lt_of_cell? w5 _ f30
      have hl35 : w3.heap.size < w5.heap.size := by omega
      have hl25 : w2.heap.size < w5.heap.size := by omega
      have hsz5 := hbw5.size
      have HTC := hid htc
      have HCA := hid hca
      clear HB4 hb5 hb5' hq4 hbw4 c20 c21 d20 d21 htc htd hca
      unfold sp
      cases af with
      | false =>
        go_wp2_with (fail)
        go_returns
        exact ⟨rfl, by (repeat' (first | (with_reducible exact Below.refl _ _) | (with_reducible assumption) | (with_reducible refine below_drewN ?_ _) | (with_reducible refine below_grown ?_ ?_ _) | (with_reducible refine Below.alloc ?_ ?_ _) | (with_reducible refine Below.drew ?_) | (with_reducible refine Below.setCell ?_ ?_ _) | (first | (with_reducible exact Nat.le_refl _) | (with_reducible assumption) | omega | (simp only [World.size_alloc, World.size_setCell, World.size_drew, size_drewN', size_grow]; omega) | (simp; omega) | (simp; done)) | (with_reducible refine Below.trans ?_ (Below.mono (by with_reducible assumption) ?_))))⟩
      | true =>
        by_cases hn2 : k < 2
        · have e2 : decide ((k : Int) < 2) = true := by simpa using (show (k : Int) < 2 by omega)
          go_wp2_with (fail)
          go_returns
          exact ⟨rfl, by (repeat' (first | (with_reducible exact Below.refl _ _) | (with_reducible assumption) | (with_reducible refine below_drewN ?_ _) | (with_reducible refine below_grown ?_ ?_ _) | (with_reducible refine Below.alloc ?_ ?_ _) | (with_reducible refine Below.drew ?_) | (with_reducible refine Below.setCell ?_ ?_ _) | (first | (with_reducible exact Nat.le_refl _) | (with_reducible assumption) | omega | (simp only [World.size_alloc, World.size_setCell, World.size_drew, size_drewN', size_grow]; omega) | (simp; omega) | (simp; done)) | (with_reducible refine Below.trans ?_ (Below.mono (by with_reducible assumption) ?_))))⟩
        · have e2 : decide ((k : Int) < 2) = false := by simpa using (show ¬ (k : Int) < 2 by omega)
          obtain ⟨_, g1, g2⟩ := common_two (by omega) HCA.out HTC.out
          have CI := hid (fun w => span_in al ah cl ch w (HCA.out.yes rfl).1 g1 g2)
          unfold sp at CI
          clear g1 g2
          go_wp2_with (go_at_call 33; ((with_reducible refine (Calls.to_kept [] (CI.out _) ?lt).mono ?_); (case lt => (first | (exact trivial) | (simp only [AllLt, World.size_alloc, World.size_setCell, World.size_drew, size_drewN', size_grow, and_true, true_and]; omega))); rintro e w' ⟨rfl, g5, rfl, kg5⟩; simp only [AllKept, and_true] at kg5))
          go_returns
          exact ⟨rfl, by (repeat' (first | (with_reducible exact Below.refl _ _) | (with_reducible assumption) | (with_reducible refine below_drewN ?_ _) | (with_reducible refine below_grown ?_ ?_ _) | (with_reducible refine Below.alloc ?_ ?_ _) | (with_reducible refine Below.drew ?_) | (with_reducible refine Below.setCell ?_ ?_ _) | (first | (with_reducible exact Nat.le_refl _) | (with_reducible assumption) | omega | (simp only [World.size_alloc, World.size_setCell, World.size_drew, size_drewN', size_grow]; omega) | (simp; omega) | (simp; done)) | (with_reducible refine Below.trans ?_ (Below.mono (by with_reducible assumption) ?_))))⟩
end Go.Proofs.Ytkkjdodolnpfmaa
