/- Layer 5, vote: the walk of 'Two'. -/
import Derived.Test.YtkkjdodolnpfmaaVote
set_option linter.unusedVariables false
set_option linter.unusedSimpArgs false
namespace Go.Proofs.Ytkkjdodolnpfmaa
open Go.RowKit
def TwoPost (n : Nat) (a b : Nat → Int) (w : World) (e : Ending) (w' : World) : Prop :=
  ∃ lo hi f, e = .returned (.tuple #[sp lo hi, .bool f]) ∧ TwoIs a b (Pairs n n 0) lo hi f ∧ Below w.heap.size w w'
/-- A local span in a block of its own. -/
structure Cell2 (w : World) (g : Nat) (lo hi : Int) : Prop where
  c0 : w.cell? ⟨g, 0, none⟩ = some (.int .i64 lo)
  c1 : w.cell? ⟨g, 1, none⟩ = some (.int .i64 hi)
  f0 : w.frozen? ⟨g, 0, none⟩ = false
  f1 : w.frozen? ⟨g, 1, none⟩ = false
structure VInv (n : Nat) (a b : Nat → Int) (w : World) (f i : Value) (wr : World) : Prop where
  ex : ∃ (k : Nat) (lo hi : Int) (fb : Bool), k ≤ n ∧ i = .int .i64 k ∧ f = .bool fb ∧ TwoIs a b (Pairs n k 0) lo hi fb ∧ Cell2 wr (w.heap.size + 1) lo hi
  res : Cell2 wr w.heap.size 0 0
  bel : Below w.heap.size w wr
structure VIn (n : Nat) (a b : Nat → Int) (w : World) (k g : Nat) (f i : Value) (wi : World) : Prop where
  ex : ∃ (m : Nat) (lo hi : Int) (fb : Bool), m ≤ n - (k + 1) ∧ i = .int .i64 m ∧ f = .bool fb ∧ TwoIs a b (Pairs n k m) lo hi fb ∧ Cell2 wi (w.heap.size + 1) lo hi
  own : Cell2 wi g (a k) (b k)
  res : Cell2 wi w.heap.size 0 0
  bel : Below w.heap.size w wi
set_option maxHeartbeats 2000000 in
theorem vote_two (n : Nat) (v : Value) (a b : Nat → Int) (w : World) (hn40 : n ≤ 1000) (h : Sl w w.heap.size 2 n v (spx a b)) : Calls Try.prog 22 #[v] w (TwoPost n a b w) := by
  obtain ⟨A, c, rfl, hc1, hc2, hcell⟩ := h
  unfold maxLen at hc2
  have H1 := hid hcell
  clear hcell
  go_enter Try.func22, Try.ntmps22
  (have hasc := Nat.add_assoc; have hpos := nat_pos_or; have hlit := nat_lt_lit)
  go_wp2_with (fail)
  go_loopw [5, 14] (fun f i wr => VInv n a b w f i wr) (fun _ i _ => n - (intOf i).toNat)
  case atStart =>
    refine ⟨⟨0, 0, 0, false, Nat.zero_le _, rfl, rfl, two_start a b n, ?_⟩, ?_, by (repeat' (first | (with_reducible exact Below.refl _ _) | (with_reducible assumption) | (with_reducible refine below_drewN ?_ _) | (with_reducible refine below_grown ?_ ?_ _) | (with_reducible refine Below.alloc ?_ ?_ _) | (with_reducible refine Below.drew ?_) | (with_reducible refine Below.setCell ?_ ?_ _) | (first | (with_reducible exact Nat.le_refl _) | (with_reducible assumption) | omega | (simp only [World.size_alloc, World.size_setCell, World.size_drew, size_drewN', size_grow]; omega) | (simp; omega) | (simp; done)) | (with_reducible refine Below.trans ?_ (Below.mono (by with_reducible assumption) ?_))))⟩
    · constructor <;> simp [go_sem]
    · constructor <;> simp [go_sem]
  case round =>
    obtain ⟨⟨k, lo, hi, fb, hk, rfl, rfl, htwo, hout⟩, hres, hbel⟩ := hrel
    have HT := hid htwo
    clear htwo
    have ho0 := hout.c0
    have ho1 := hout.c1
    have ho2 := hout.f0
    have ho3 := hout.f1
    have hr0 := hres.c0
    have hr1 := hres.c1
    have hr2 := hres.f0
    have hr3 := hres.f1
    have hwlt : w.heap.size + 1 < wr.heap.size := World.block_lt_of_cell? wr _ ho0
    by_cases hlt : k < n
    · obtain ⟨bb, off, hA, hbb, hcc⟩ := H1.out (by omega)
      subst hA
      have hx0 : wr.cell? ⟨bb, off + k * 2, none⟩ = some (.int .i64 (a k)) := by
        simpa [spx] using (hbel.cell (p := ⟨bb, off + (k * 2 + 0), none⟩) hbb).trans (hcc k hlt 0 (by omega))
      have hx1 : wr.cell? ⟨bb, off + (k * 2 + 1), none⟩ = some (.int .i64 (b k)) := by
        simpa [spx] using (hbel.cell (p := ⟨bb, off + (k * 2 + 1), none⟩) hbb).trans (hcc k hlt 1 (by omega))
      have HC := hid hcc
      clear hcc
      by_cases hcap : c = k + 1
      · have hnk : n = k + 1 := by omega
        subst hnk
        go_wp2_with (fail)
        refine wp_loop_rounds 1 ?_
        go_wp2_with (first | (with_reducible refine rounds_mk ?_) | ((with_reducible refine wp_region_quiet_lit (by kernel_rfl) (by kernel_rfl) ?_); (repeat (go_big_quiet_step (fail))); (refine wpQuiet_nil ?_; intro _ hw'; obtain ⟨nq, hw''⟩ := hw'; subst hw'')))
        refine ⟨⟨⟨k + 1, lo, hi, fb, by omega, by simp, rfl, two_next a b (k + 1) k lo hi fb (by omega) (by rw [Nat.sub_self]; exact HT.out), ?_⟩, ?_, by (repeat' (first | (with_reducible exact Below.refl _ _) | (with_reducible assumption) | (with_reducible refine below_drewN ?_ _) | (with_reducible refine below_grown ?_ ?_ _) | (with_reducible refine Below.alloc ?_ ?_ _) | (with_reducible refine Below.drew ?_) | (with_reducible refine Below.setCell ?_ ?_ _) | (first | (with_reducible exact Nat.le_refl _) | (with_reducible assumption) | omega | (simp only [World.size_alloc, World.size_setCell, World.size_drew, size_drewN', size_grow]; omega) | (simp; omega) | (simp; done)) | (with_reducible refine Below.trans ?_ (Below.mono (by with_reducible assumption) ?_))))⟩, by simp [intOf]⟩
        · constructor <;> simp [go_sem, ho0, ho1, ho2, ho3, hwlt, Nat.ne_of_lt hwlt]
        · have hl0 : w.heap.size < wr.heap.size := by omega
          constructor <;> simp [go_sem, hr0, hr1, hr2, hr3, hl0, Nat.ne_of_lt hl0]
      · go_wp2_with (fail)
        obtain ⟨wo, rfl⟩ : ∃ wo : World, wo = wr := ⟨_, rfl⟩
        have hw0 : w.heap.size < wo.heap.size := by omega
        go_loopw [5, 24] (fun f i wi => VIn n a b w k wo.heap.size f i wi) (fun _ i _ => n - (k + 1) - (intOf i).toNat)
        case atStart =>
          refine ⟨⟨0, lo, hi, fb, Nat.zero_le _, rfl, rfl, HT.out, ?_⟩, ?_, ?_, by (repeat' (first | (with_reducible exact Below.refl _ _) | (with_reducible assumption) | (with_reducible refine below_drewN ?_ _) | (with_reducible refine below_grown ?_ ?_ _) | (with_reducible refine Below.alloc ?_ ?_ _) | (with_reducible refine Below.drew ?_) | (with_reducible refine Below.setCell ?_ ?_ _) | (first | (with_reducible exact Nat.le_refl _) | (with_reducible assumption) | omega | (simp only [World.size_alloc, World.size_setCell, World.size_drew, size_drewN', size_grow]; omega) | (simp; omega) | (simp; done)) | (with_reducible refine Below.trans ?_ (Below.mono (by with_reducible assumption) ?_))))⟩
          · constructor <;> simp [go_sem, ho0, ho1, ho2, ho3, hwlt, Nat.ne_of_lt hwlt]
          · constructor <;> simp [go_sem]
          · constructor <;> simp [go_sem, hr0, hr1, hr2, hr3, hw0, Nat.ne_of_lt hw0]
        case round =>
          clear hx0 hx1 ho0 ho1 ho2 ho3 hr0 hr1 hr2 hr3 hout hres HT
          obtain ⟨⟨m, lo, hi, fb, hm, rfl, rfl, htwo, hout⟩, hown, hres, hbel2⟩ := hrel
          have HT := hid htwo
          clear htwo
          have ho0 := hout.c0
          have ho1 := hout.c1
          have ho2 := hout.f0
          have ho3 := hout.f1
          have hr0 := hres.c0
          have hr1 := hres.c1
          have hr2 := hres.f0
          have hr3 := hres.f1
          have hs0 := hown.c0
          have hs1 := hown.c1
          have hglt : wo.heap.size < wr.heap.size := World.block_lt_of_cell? wr _ hs0
          have hl1 : w.heap.size + 1 < wr.heap.size := by omega
          have hwg : w.heap.size + 1 < wo.heap.size := by omega
          have hl0 : w.heap.size < wr.heap.size := by omega
          by_cases hml : m < n - (k + 1)
          · have hj : k + (1 + m) < n := by omega
            have hy0 : wr.cell? ⟨bb, off + ((k + 1) * 2 + m * 2), none⟩ = some (.int .i64 (a (k + (1 + m)))) := by
              have h := (hbel2.cell (p := ⟨bb, off + ((k + (1 + m)) * 2 + 0), none⟩) hbb).trans (HC.out (k + (1 + m)) hj 0 (by omega))
              rw [show (k + (1 + m)) * 2 + 0 = (k + 1) * 2 + m * 2 by omega] at h
              simpa [spx] using h
            have hy1 : wr.cell? ⟨bb, off + ((k + 1) * 2 + (m * 2 + 1)), none⟩ = some (.int .i64 (b (k + (1 + m)))) := by
              have h := (hbel2.cell (p := ⟨bb, off + ((k + (1 + m)) * 2 + 1), none⟩) hbb).trans (HC.out (k + (1 + m)) hj 1 (by omega))
              rw [show (k + (1 + m)) * 2 + 1 = (k + 1) * 2 + (m * 2 + 1) by omega] at h
              simpa [spx] using h
            have c1 := fun w => span_meet (a k) (b k) (a (k + (1 + m))) (b (k + (1 + m))) w
            by_cases hok : max (a k) (a (k + (1 + m))) ≤ min (b k) (b (k + (1 + m)))
            · have e1 : bl (max (a k) (a (k + (1 + m)))) (min (b k) (b (k + (1 + m)))) = max (a k) (a (k + (1 + m))) := by unfold bl; rw [if_pos hok]
              have e2 : bh (max (a k) (a (k + (1 + m)))) (min (b k) (b (k + (1 + m)))) = min (b k) (b (k + (1 + m))) := by unfold bh; rw [if_pos hok]
              have e3 : decide (max (a k) (a (k + (1 + m))) ≤ min (b k) (b (k + (1 + m)))) = true := by simpa using hok
              rw [e1, e2, e3] at c1
              clear e1 e2 e3
              cases fb with
              | false =>
                have HN := hid (two_first a b n k m lo hi HT.out hok)
                clear hok
                generalize max (a k) (a (k + (1 + m))) = ml at *
                generalize min (b k) (b (k + (1 + m))) = mh at *
                unfold sp at c1
                have C1 := hid c1
                clear c1
                go_wp2_with (go_at_call 45; ((with_reducible refine (Calls.to_kept [w.heap.size, w.heap.size + 1, wo.heap.size] (C1.out _) ?lt).mono ?_); (case lt => (first | (exact trivial) | (simp only [AllLt, World.size_alloc, World.size_setCell, World.size_drew, size_drewN', size_grow, and_true, true_and]; omega))); rintro e w' ⟨rfl, g1, rfl, kg1⟩; simp only [AllKept, and_true] at kg1))
                refine ⟨⟨⟨m + 1, ml, mh, true, by omega, by simp, rfl, HN.out, ?_⟩, ?_, ?_, by (repeat' (first | (with_reducible exact Below.refl _ _) | (with_reducible assumption) | (with_reducible refine below_drewN ?_ _) | (with_reducible refine below_grown ?_ ?_ _) | (with_reducible refine Below.alloc ?_ ?_ _) | (with_reducible refine Below.drew ?_) | (with_reducible refine Below.setCell ?_ ?_ _) | (first | (with_reducible exact Nat.le_refl _) | (with_reducible assumption) | omega | (simp only [World.size_alloc, World.size_setCell, World.size_drew, size_drewN', size_grow]; omega) | (simp; omega) | (simp; done)) | (with_reducible refine Below.trans ?_ (Below.mono (by with_reducible assumption) ?_))))⟩, by simp [intOf]; omega⟩
                · constructor <;> simp [go_sem, hasc, hpos, hlit, kg1, ho0, ho1, ho2, ho3, hl1, Nat.ne_of_lt hl1]
                · constructor <;> simp [go_sem, hasc, hpos, hlit, kg1, hs0, hs1, hown.f0, hown.f1, hglt, hwg, Nat.ne_of_lt hglt, Nat.ne_of_gt hwg]
                · constructor <;> simp [go_sem, hasc, hpos, hlit, kg1, hr0, hr1, hr2, hr3, hl0, Nat.ne_of_lt hl0]
              | true =>
                have hlh := two_right HT.out
                have HN := hid (two_more a b n k m lo hi HT.out hok)
                have c2 := fun w => span_hull lo hi (max (a k) (a (k + (1 + m)))) (min (b k) (b (k + (1 + m)))) w
                rw [(hull_right lo hi _ _ hlh hok).1, (hull_right lo hi _ _ hlh hok).2] at c2
                clear hok hlh
                generalize max (a k) (a (k + (1 + m))) = ml at *
                generalize min (b k) (b (k + (1 + m))) = mh at *
                generalize min lo ml = nl at *
                generalize max hi mh = nh at *
                unfold sp at c1 c2
                have C1 := hid c1
                have C2 := hid c2
                clear c1 c2
                go_wp2_with (first | (go_at_call 45; ((with_reducible refine (Calls.to_kept [w.heap.size, w.heap.size + 1, wo.heap.size] (C1.out _) ?lt).mono ?_); (case lt => (first | (exact trivial) | (simp only [AllLt, World.size_alloc, World.size_setCell, World.size_drew, size_drewN', size_grow, and_true, true_and]; omega))); rintro e w' ⟨rfl, g1, rfl, kg1⟩; simp only [AllKept, and_true] at kg1)) | (go_at_call 46; ((with_reducible refine (Calls.to_kept [w.heap.size, w.heap.size + 1, wo.heap.size] (C2.out _) ?lt).mono ?_); (case lt => (first | (exact trivial) | (simp only [AllLt, World.size_alloc, World.size_setCell, World.size_drew, size_drewN', size_grow, and_true, true_and]; omega))); rintro e w' ⟨rfl, g2, rfl, kg2⟩; simp only [AllKept, and_true] at kg2)))
                refine ⟨⟨⟨m + 1, nl, nh, true, by omega, by simp, rfl, HN.out, ?_⟩, ?_, ?_, by (repeat' (first | (with_reducible exact Below.refl _ _) | (with_reducible assumption) | (with_reducible refine below_drewN ?_ _) | (with_reducible refine below_grown ?_ ?_ _) | (with_reducible refine Below.alloc ?_ ?_ _) | (with_reducible refine Below.drew ?_) | (with_reducible refine Below.setCell ?_ ?_ _) | (first | (with_reducible exact Nat.le_refl _) | (with_reducible assumption) | omega | (simp only [World.size_alloc, World.size_setCell, World.size_drew, size_drewN', size_grow]; omega) | (simp; omega) | (simp; done)) | (with_reducible refine Below.trans ?_ (Below.mono (by with_reducible assumption) ?_))))⟩, by simp [intOf]; omega⟩
                · have e0 := kg2.2.2.1 g2 0
                  have e1 := kg2.2.2.1 g2 1
                  have e2 := kg2.2.2.2.1 g2 0
                  have e3 := kg2.2.2.2.1 g2 1
                  simp [go_sem, hasc, hpos, hlit, kg1, ho0, ho1, ho2, ho3, hl1, Nat.ne_of_lt hl1, hl0, Nat.ne_of_lt hl0] at e0 e1 e2 e3
                  generalize World.grow _ g2 = W at e0 e1 e2 e3 ⊢
                  constructor <;> simp [go_sem, e0, e1, e2, e3]
                · constructor <;> simp [go_sem, hasc, hpos, hlit, kg1, kg2, hs0, hs1, hown.f0, hown.f1, hglt, hwg, Nat.ne_of_lt hglt, Nat.ne_of_gt hwg]
                · constructor <;> simp [go_sem, hasc, hpos, hlit, kg1, kg2, hr0, hr1, hr2, hr3, hl0, Nat.ne_of_lt hl0]
            · have e3 : decide (max (a k) (a (k + (1 + m))) ≤ min (b k) (b (k + (1 + m)))) = false := by simpa using hok
              have HN := hid (two_no a b n k m lo hi fb HT.out hok)
              rw [e3] at c1
              clear e3 hok
              generalize bl (max (a k) (a (k + (1 + m)))) (min (b k) (b (k + (1 + m)))) = ml at *
              generalize bh (max (a k) (a (k + (1 + m)))) (min (b k) (b (k + (1 + m)))) = mh at *
              unfold sp at c1
              have C1 := hid c1
              clear c1
              go_wp2_with (go_at_call 45; ((with_reducible refine (Calls.to_kept [w.heap.size, w.heap.size + 1, wo.heap.size] (C1.out _) ?lt).mono ?_); (case lt => (first | (exact trivial) | (simp only [AllLt, World.size_alloc, World.size_setCell, World.size_drew, size_drewN', size_grow, and_true, true_and]; omega))); rintro e w' ⟨rfl, g1, rfl, kg1⟩; simp only [AllKept, and_true] at kg1))
              refine ⟨⟨⟨m + 1, lo, hi, fb, by omega, by simp, rfl, HN, ?_⟩, ?_, ?_, by (repeat' (first | (with_reducible exact Below.refl _ _) | (with_reducible assumption) | (with_reducible refine below_drewN ?_ _) | (with_reducible refine below_grown ?_ ?_ _) | (with_reducible refine Below.alloc ?_ ?_ _) | (with_reducible refine Below.drew ?_) | (with_reducible refine Below.setCell ?_ ?_ _) | (first | (with_reducible exact Nat.le_refl _) | (with_reducible assumption) | omega | (simp only [World.size_alloc, World.size_setCell, World.size_drew, size_drewN', size_grow]; omega) | (simp; omega) | (simp; done)) | (with_reducible refine Below.trans ?_ (Below.mono (by with_reducible assumption) ?_))))⟩, by simp [intOf]; omega⟩
              · constructor <;> simp [go_sem, hasc, hpos, hlit, kg1, ho0, ho1, ho2, ho3, hl1, Nat.ne_of_lt hl1]
              · constructor <;> simp [go_sem, hasc, hpos, hlit, kg1, hs0, hs1, hown.f0, hown.f1, hglt, hwg, Nat.ne_of_lt hglt, Nat.ne_of_gt hwg]
              · constructor <;> simp [go_sem, hasc, hpos, hlit, kg1, hr0, hr1, hr2, hr3, hl0, Nat.ne_of_lt hl0]
          · have hmm : m = n - (k + 1) := by omega
            subst hmm
            go_wp2_with (fail)
            refine ⟨⟨⟨k + 1, lo, hi, fb, by omega, by simp, rfl, two_next a b n k lo hi fb hlt HT.out, hout⟩, hres, hbel2⟩, by simp [intOf]; omega⟩
    · have hkk : k = n := by omega
      subst hkk
      go_wp2_with (fail)
      (refine bodyPost_ret (by simp [results, go_sem, Try.results22, hr0, hr1, hr2, hr3, hasc, hpos, hlit]; try rfl) rfl ?_)
      refine ⟨lo, hi, fb, ?_, HT.out, by (repeat' (first | (with_reducible exact Below.refl _ _) | (with_reducible assumption) | (with_reducible refine below_drewN ?_ _) | (with_reducible refine below_grown ?_ ?_ _) | (with_reducible refine Below.alloc ?_ ?_ _) | (with_reducible refine Below.drew ?_) | (with_reducible refine Below.setCell ?_ ?_ _) | (first | (with_reducible exact Nat.le_refl _) | (with_reducible assumption) | omega | (simp only [World.size_alloc, World.size_setCell, World.size_drew, size_drewN', size_grow]; omega) | (simp; omega) | (simp; done)) | (with_reducible refine Below.trans ?_ (Below.mono (by with_reducible assumption) ?_))))⟩
      simp [go_sem, sp]
end Go.Proofs.Ytkkjdodolnpfmaa
