/- The statement 'PulseSums': the walk. -/
import Derived.Test.YtcbncliplbecdaaLawNexts
import Derived.Test.YtcbncliplbecdaaSlices
set_option linter.unusedVariables false
set_option linter.unusedSimpArgs false
namespace Go.Proofs.Ytcbncliplbecdaa
open Go.RowKit Go.ChangeShapes Go.WideShapes
theorem open_i16s {H : Type} {enc : TypeId × Value → H} {w : World} {b0 : Nat} {spare : Nat → Bool} {held : Bool} {r : Reach} {v : Value} {d : DataW H} {p : List MemPlace}
    (hv : Value.okWide Try.prog w r b0 47 v) (h : DataW.Trod enc Try.prog w 0 spare held 47 v d p) :
    ∃ n xs, ∃ z : Nat → Int, Sl w w.heap.size 1 n v xs ∧ ∀ i, i < n → xs i 0 = .int .i16 (z i) ∧ -32768 ≤ z i ∧ z i ≤ 32767 := by
  obtain ⟨n, xs, h1, h2⟩ := open_sl (size := 1) Try.underlying47 (by kernel_rfl) (by omega) (fun cs => ∃ z, cs = [.int .i16 z] ∧ -32768 ≤ z ∧ z ≤ 32767)
    (fun fuel cs y hy => by obtain ⟨z, e, _, wz⟩ := DataW.trod_int Try.underlying49 hy; exact ⟨z, e, bd_i16 wz⟩) hv h
  have hex : ∀ i, ∃ z, i < n → xs i 0 = .int .i16 z ∧ -32768 ≤ z ∧ z ≤ 32767 := by
    intro i
    by_cases hi : i < n
    · obtain ⟨z, e, hz⟩ := h2 i hi
      exact ⟨z, fun _ => ⟨by simpa using e, hz⟩⟩
    · exact ⟨0, fun h => absurd h hi⟩
  obtain ⟨z, hz⟩ := Classical.axiomOfChoice hex
  exact ⟨n, xs, z, h1, hz⟩
theorem open_bools {H : Type} {enc : TypeId × Value → H} {w : World} {b0 : Nat} {spare : Nat → Bool} {held : Bool} {r : Reach} {v : Value} {d : DataW H} {p : List MemPlace}
    (hv : Value.okWide Try.prog w r b0 48 v) (h : DataW.Trod enc Try.prog w 0 spare held 48 v d p) :
    ∃ n xs, ∃ z : Nat → Bool, Sl w w.heap.size 1 n v xs ∧ ∀ i, i < n → xs i 0 = .bool (z i) := by
  obtain ⟨n, xs, h1, h2⟩ := open_sl (size := 1) Try.underlying48 (by kernel_rfl) (by omega) (fun cs => ∃ z, cs = [.bool z])
    (fun fuel cs y hy => by obtain ⟨z, e, _⟩ := DataW.trod_bool Try.underlying4 hy; exact ⟨z, e⟩) hv h
  have hex : ∀ i, ∃ z, i < n → xs i 0 = .bool z := by
    intro i
    by_cases hi : i < n
    · obtain ⟨z, e⟩ := h2 i hi
      exact ⟨z, fun _ => by simpa using e⟩
    · exact ⟨false, fun h => absurd h hi⟩
  obtain ⟨z, hz⟩ := Classical.axiomOfChoice hex
  exact ⟨n, xs, z, h1, hz⟩
theorem pd_step (a s : Int) (hs : -32768 ≤ s ∧ s ≤ 32767) : pd (a % 65536) ((a + s) % 65536) = s := by unfold pd; omega
structure PInv (w : World) (n : Nat) (start : Int) (a s kn i : Value) (wr : World) : Prop where
  ex : ∃ (k : Nat) (l at_ sum : Int) (known : Bool), k ≤ n ∧ i = .int .i64 k ∧ a = .int .i64 at_ ∧ s = .int .i64 sum ∧ kn = .bool known ∧ (0 ≤ l ∧ l ≤ 65535) ∧ (known = true → l = at_ % 65536) ∧
    (start - 32768 * k ≤ at_ ∧ at_ ≤ start + 32768 * k) ∧ (-(32768 * k) ≤ sum ∧ sum ≤ 32768 * k) ∧
    wr.cell? ⟨w.heap.size, 0, none⟩ = some (.bool known) ∧ wr.cell? ⟨w.heap.size, 1, none⟩ = some (.int .u16 l) ∧ wr.cell? ⟨w.heap.size, 2, none⟩ = some (.int .i64 sum) ∧
    wr.frozen? ⟨w.heap.size, 0, none⟩ = false ∧ wr.frozen? ⟨w.heap.size, 1, none⟩ = false ∧ wr.frozen? ⟨w.heap.size, 2, none⟩ = false
  bel : Below w.heap.size w wr
set_option maxHeartbeats 2000000 in
theorem walk_PulseSums (a0 : Int) (n : Nat) (v1 : Value) (xs : Nat → Nat → Value) (z : Nat → Int) (m : Nat) (v2 : Value) (ys : Nat → Nat → Value) (u : Nat → Bool) (w : World)
    (w0 : (Lit.int .i64 a0).wf = true) (h1 : Sl w w.heap.size 1 n v1 xs) (hz : ∀ i, i < n → xs i 0 = .int .i16 (z i) ∧ -32768 ≤ z i ∧ z i ≤ 32767)
    (h2 : Sl w w.heap.size 1 m v2 ys) (hu : ∀ i, i < m → ys i 0 = .bool (u i)) :
    Calls Try.prog 9 #[.int .i64 a0, v1, v2] w fun e w' => e = .returned (.bool true) ∧ Below w.heap.size w w' := by
  have h0 := bd_i64 w0
  clear w0
  have A := hid (fun w => anchor09 w)
  obtain ⟨A1, c1, rfl, hn1, hc1, hcell1⟩ := h1
  obtain ⟨A2, c2, rfl, hn2, hc2, hcell2⟩ := h2
  unfold maxLen at hc1 hc2
  by_cases hbig : (500 : Int) < n
  · clear hcell1 hcell2 hz hu
    go_enter Try.func9, Try.ntmps9
    go_wp2_with (go_at_call 12; (with_reducible refine (A.out _).mono ?_); rintro e w' ⟨rfl, rfl⟩)
    go_returns
    exact ⟨rfl, Below.refl _ _⟩
  by_cases hlo : a0 < -1099511627776
  · clear hcell1 hcell2 hz hu
    go_enter Try.func9, Try.ntmps9
    go_wp2_with (go_at_call 12; (with_reducible refine (A.out _).mono ?_); rintro e w' ⟨rfl, rfl⟩)
    go_returns
    exact ⟨rfl, Below.refl _ _⟩
  by_cases hhi : 1099511627776 < a0
  · clear hcell1 hcell2 hz hu
    go_enter Try.func9, Try.ntmps9
    go_wp2_with (go_at_call 12; (with_reducible refine (A.out _).mono ?_); rintro e w' ⟨rfl, rfl⟩)
    go_returns
    exact ⟨rfl, Below.refl _ _⟩
  have H1 := hid hcell1
  have H2 := hid hcell2
  have HZ := hid hz
  have HU := hid hu
  clear hcell1 hcell2 hz hu
  go_enter Try.func9, Try.ntmps9
  go_wp2_with (go_at_call 12; (with_reducible refine (A.out _).mono ?_); rintro e w' ⟨rfl, rfl⟩)
  go_loopw [8, 9, 10, 32] (fun a s kn i wr => PInv w n a0 a s kn i wr) (fun _ _ _ i _ => n - (intOf i).toNat)
  case atStart =>
    refine ⟨⟨0, 0, a0, 0, false, Nat.zero_le _, rfl, rfl, rfl, rfl, by omega, ?_⟩, by (repeat' (first | (with_reducible exact Below.refl _ _) | (with_reducible assumption) | (with_reducible refine below_drewN ?_ _) | (with_reducible refine below_grown ?_ ?_ _) | (with_reducible refine Below.alloc ?_ ?_ _) | (with_reducible refine Below.drew ?_) | (with_reducible refine Below.setCell ?_ ?_ _) | (first | (with_reducible exact Nat.le_refl _) | (with_reducible assumption) | omega | (simp only [World.size_alloc, World.size_setCell, World.size_drew, size_drewN', size_grow]; omega) | (simp; omega) | (simp; done)) | (with_reducible refine Below.trans ?_ (Below.mono (by with_reducible assumption) ?_))))⟩
    simp [go_sem]
  case round =>
    obtain ⟨⟨k, l, at_, sum, known, hk, rfl, rfl, rfl, rfl, hl, hlk, hat, hsum, c0, c1k, c2k, f0, f1, f2⟩, hbel⟩ := hrel
    have hwlt : w.heap.size < wr.heap.size := World.block_lt_of_cell? wr _ c0
    by_cases hlt : k < n
    · obtain ⟨b1, off1, hA1, hb1, hc⟩ := H1.out (by omega)
      subst hA1
      have hx : wr.cell? ⟨b1, off1 + k, none⟩ = some (.int .i16 (z k)) := by
        have h := hc k hlt 0 (by omega)
        rw [(HZ.out k hlt).1] at h
        simpa using (hbel.cell (p := ⟨b1, off1 + (k * 1 + 0), none⟩) hb1).trans h
      have hzb := (HZ.out k hlt).2
      have hand := i64_and65535 (at_ + z k)
      have hqq : (at_ + z k) % 65536 % 65536 = (at_ + z k) % 65536 := by omega
      have hqb : 0 ≤ (at_ + z k) % 65536 ∧ (at_ + z k) % 65536 ≤ 65535 := by omega
      have hsat : sat (sum + z k) = sum + z k := by unfold sat; rw [if_neg (by omega), if_neg (by omega)]
      clear hc
      by_cases hm : k < m
      · obtain ⟨b2, off2, hA2, hb2, hc2x⟩ := H2.out (by omega)
        subst hA2
        have hy : wr.cell? ⟨b2, off2 + k, none⟩ = some (.bool (u k)) := by
          have h := hc2x k hm 0 (by omega)
          rw [HU.out k hm] at h
          simpa using (hbel.cell (p := ⟨b2, off2 + (k * 1 + 0), none⟩) hb2).trans h
        clear hc2x
        have hmk : decide (m ≤ k) = false := by simpa using hm
        cases hu : u k with
        | true =>
          rw [hu] at hy
          cases known with
          | false =>
            have C := hid (fun w => next_none false l sum ((at_ + z k) % 65536) w)
            unfold ctr at C
            go_wp2_with (go_at_call 27; ((with_reducible refine (Calls.to_kept [w.heap.size] (C.out _) ?lt).mono ?_); (case lt => (first | (exact trivial) | (simp only [AllLt, World.size_alloc, World.size_setCell, World.size_drew, size_drewN', size_grow, and_true, true_and]; omega))); rintro e w' ⟨rfl, g1, rfl, hk1⟩; simp only [AllKept, and_true] at hk1))
            go_roundw
            case rel => exact ⟨⟨k + 1, l, at_ + z k, sum, false, by omega, by go_num, rfl, rfl, rfl, by omega, by first | exact fun _ => rfl | exact (fun h => by cases h), by omega, by omega, by simp [go_sem, Go.nat_pos_or, Go.nat_lt_lit, Nat.add_assoc, hk1, c0, c1k, c2k, f0, f1, f2]⟩, by (repeat' (first | (with_reducible exact Below.refl _ _) | (with_reducible assumption) | (with_reducible refine below_drewN ?_ _) | (with_reducible refine below_grown ?_ ?_ _) | (with_reducible refine Below.alloc ?_ ?_ _) | (with_reducible refine Below.drew ?_) | (with_reducible refine Below.setCell ?_ ?_ _) | (first | (with_reducible exact Nat.le_refl _) | (with_reducible assumption) | omega | (simp only [World.size_alloc, World.size_setCell, World.size_drew, size_drewN', size_grow]; omega) | (simp; omega) | (simp; done)) | (with_reducible refine Below.trans ?_ (Below.mono (by with_reducible assumption) ?_))))⟩
            case measure => simp [intOf]; omega
          | true =>
            clear hlk
            have C := hid (fun w => next_none true l sum ((at_ + z k) % 65536) w)
            unfold ctr at C
            go_wp2_with (go_at_call 27; ((with_reducible refine (Calls.to_kept [w.heap.size] (C.out _) ?lt).mono ?_); (case lt => (first | (exact trivial) | (simp only [AllLt, World.size_alloc, World.size_setCell, World.size_drew, size_drewN', size_grow, and_true, true_and]; omega))); rintro e w' ⟨rfl, g1, rfl, hk1⟩; simp only [AllKept, and_true] at hk1))
            go_roundw
            case rel => exact ⟨⟨k + 1, l, at_ + z k, sum, false, by omega, by go_num, rfl, rfl, rfl, by omega, by first | exact fun _ => rfl | exact (fun h => by cases h), by omega, by omega, by simp [go_sem, Go.nat_pos_or, Go.nat_lt_lit, Nat.add_assoc, hk1, c0, c1k, c2k, f0, f1, f2]⟩, by (repeat' (first | (with_reducible exact Below.refl _ _) | (with_reducible assumption) | (with_reducible refine below_drewN ?_ _) | (with_reducible refine below_grown ?_ ?_ _) | (with_reducible refine Below.alloc ?_ ?_ _) | (with_reducible refine Below.drew ?_) | (with_reducible refine Below.setCell ?_ ?_ _) | (first | (with_reducible exact Nat.le_refl _) | (with_reducible assumption) | omega | (simp only [World.size_alloc, World.size_setCell, World.size_drew, size_drewN', size_grow]; omega) | (simp; omega) | (simp; done)) | (with_reducible refine Below.trans ?_ (Below.mono (by with_reducible assumption) ?_))))⟩
            case measure => simp [intOf]; omega
        | false =>
          rw [hu] at hy
          cases known with
          | false =>
            have C := hid (fun w => next_first l sum ((at_ + z k) % 65536) w)
            unfold ctr at C
            rw [hqq] at C
            go_wp2_with (go_at_call 27; ((with_reducible refine (Calls.to_kept [w.heap.size] (C.out _) ?lt).mono ?_); (case lt => (first | (exact trivial) | (simp only [AllLt, World.size_alloc, World.size_setCell, World.size_drew, size_drewN', size_grow, and_true, true_and]; omega))); rintro e w' ⟨rfl, g1, rfl, hk1⟩; simp only [AllKept, and_true] at hk1))
            go_roundw
            case rel => exact ⟨⟨k + 1, (at_ + z k) % 65536, at_ + z k, sum, true, by omega, by go_num, rfl, rfl, rfl, by omega, by first | exact fun _ => rfl | exact (fun h => by cases h), by omega, by omega, by simp [go_sem, Go.nat_pos_or, Go.nat_lt_lit, Nat.add_assoc, hk1, c0, c1k, c2k, f0, f1, f2]⟩, by (repeat' (first | (with_reducible exact Below.refl _ _) | (with_reducible assumption) | (with_reducible refine below_drewN ?_ _) | (with_reducible refine below_grown ?_ ?_ _) | (with_reducible refine Below.alloc ?_ ?_ _) | (with_reducible refine Below.drew ?_) | (with_reducible refine Below.setCell ?_ ?_ _) | (first | (with_reducible exact Nat.le_refl _) | (with_reducible assumption) | omega | (simp only [World.size_alloc, World.size_setCell, World.size_drew, size_drewN', size_grow]; omega) | (simp; omega) | (simp; done)) | (with_reducible refine Below.trans ?_ (Below.mono (by with_reducible assumption) ?_))))⟩
            case measure => simp [intOf]; omega
          | true =>
            have hl2 := hlk rfl
            subst hl2
            have C := hid (fun w => next_known (at_ % 65536) sum ((at_ + z k) % 65536) w (by unfold I64; omega))
            unfold ctr at C
            rw [hqq, pd_step at_ (z k) hzb, hsat] at C
            go_wp2_with (go_at_call 27; ((with_reducible refine (Calls.to_kept [w.heap.size] (C.out _) ?lt).mono ?_); (case lt => (first | (exact trivial) | (simp only [AllLt, World.size_alloc, World.size_setCell, World.size_drew, size_drewN', size_grow, and_true, true_and]; omega))); rintro e w' ⟨rfl, g1, rfl, hk1⟩; simp only [AllKept, and_true] at hk1))
            go_roundw
            case rel => exact ⟨⟨k + 1, (at_ + z k) % 65536, at_ + z k, sum + z k, true, by omega, by go_num, rfl, rfl, rfl, by omega, by first | exact fun _ => rfl | exact (fun h => by cases h), by omega, by omega, by simp [go_sem, Go.nat_pos_or, Go.nat_lt_lit, Nat.add_assoc, hk1, c0, c1k, c2k, f0, f1, f2]⟩, by (repeat' (first | (with_reducible exact Below.refl _ _) | (with_reducible assumption) | (with_reducible refine below_drewN ?_ _) | (with_reducible refine below_grown ?_ ?_ _) | (with_reducible refine Below.alloc ?_ ?_ _) | (with_reducible refine Below.drew ?_) | (with_reducible refine Below.setCell ?_ ?_ _) | (first | (with_reducible exact Nat.le_refl _) | (with_reducible assumption) | omega | (simp only [World.size_alloc, World.size_setCell, World.size_drew, size_drewN', size_grow]; omega) | (simp; omega) | (simp; done)) | (with_reducible refine Below.trans ?_ (Below.mono (by with_reducible assumption) ?_))))⟩
            case measure => simp [intOf]; omega
      · have hmk : decide (m ≤ k) = true := by simpa using hm
        cases known with
        | false =>
          have C := hid (fun w => next_first l sum ((at_ + z k) % 65536) w)
          unfold ctr at C
          rw [hqq] at C
          go_wp2_with (go_at_call 27; ((with_reducible refine (Calls.to_kept [w.heap.size] (C.out _) ?lt).mono ?_); (case lt => (first | (exact trivial) | (simp only [AllLt, World.size_alloc, World.size_setCell, World.size_drew, size_drewN', size_grow, and_true, true_and]; omega))); rintro e w' ⟨rfl, g1, rfl, hk1⟩; simp only [AllKept, and_true] at hk1))
          go_roundw
          case rel => exact ⟨⟨k + 1, (at_ + z k) % 65536, at_ + z k, sum, true, by omega, by go_num, rfl, rfl, rfl, by omega, by first | exact fun _ => rfl | exact (fun h => by cases h), by omega, by omega, by simp [go_sem, Go.nat_pos_or, Go.nat_lt_lit, Nat.add_assoc, hk1, c0, c1k, c2k, f0, f1, f2]⟩, by (repeat' (first | (with_reducible exact Below.refl _ _) | (with_reducible assumption) | (with_reducible refine below_drewN ?_ _) | (with_reducible refine below_grown ?_ ?_ _) | (with_reducible refine Below.alloc ?_ ?_ _) | (with_reducible refine Below.drew ?_) | (with_reducible refine Below.setCell ?_ ?_ _) | (first | (with_reducible exact Nat.le_refl _) | (with_reducible assumption) | omega | (simp only [World.size_alloc, World.size_setCell, World.size_drew, size_drewN', size_grow]; omega) | (simp; omega) | (simp; done)) | (with_reducible refine Below.trans ?_ (Below.mono (by with_reducible assumption) ?_))))⟩
          case measure => simp [intOf]; omega
        | true =>
          have hl2 := hlk rfl
          subst hl2
          have C := hid (fun w => next_known (at_ % 65536) sum ((at_ + z k) % 65536) w (by unfold I64; omega))
          unfold ctr at C
          rw [hqq, pd_step at_ (z k) hzb, hsat] at C
          go_wp2_with (go_at_call 27; ((with_reducible refine (Calls.to_kept [w.heap.size] (C.out _) ?lt).mono ?_); (case lt => (first | (exact trivial) | (simp only [AllLt, World.size_alloc, World.size_setCell, World.size_drew, size_drewN', size_grow, and_true, true_and]; omega))); rintro e w' ⟨rfl, g1, rfl, hk1⟩; simp only [AllKept, and_true] at hk1))
          go_roundw
          case rel => exact ⟨⟨k + 1, (at_ + z k) % 65536, at_ + z k, sum + z k, true, by omega, by go_num, rfl, rfl, rfl, by omega, by first | exact fun _ => rfl | exact (fun h => by cases h), by omega, by omega, by simp [go_sem, Go.nat_pos_or, Go.nat_lt_lit, Nat.add_assoc, hk1, c0, c1k, c2k, f0, f1, f2]⟩, by (repeat' (first | (with_reducible exact Below.refl _ _) | (with_reducible assumption) | (with_reducible refine below_drewN ?_ _) | (with_reducible refine below_grown ?_ ?_ _) | (with_reducible refine Below.alloc ?_ ?_ _) | (with_reducible refine Below.drew ?_) | (with_reducible refine Below.setCell ?_ ?_ _) | (first | (with_reducible exact Nat.le_refl _) | (with_reducible assumption) | omega | (simp only [World.size_alloc, World.size_setCell, World.size_drew, size_drewN', size_grow]; omega) | (simp; omega) | (simp; done)) | (with_reducible refine Below.trans ?_ (Below.mono (by with_reducible assumption) ?_))))⟩
          case measure => simp [intOf]; omega
    · have hkn : k = n := by omega
      subst hkn
      go_wp2_with (fail)
      go_returns
      exact ⟨rfl, by (repeat' (first | (with_reducible exact Below.refl _ _) | (with_reducible assumption) | (with_reducible refine below_drewN ?_ _) | (with_reducible refine below_grown ?_ ?_ _) | (with_reducible refine Below.alloc ?_ ?_ _) | (with_reducible refine Below.drew ?_) | (with_reducible refine Below.setCell ?_ ?_ _) | (first | (with_reducible exact Nat.le_refl _) | (with_reducible assumption) | omega | (simp only [World.size_alloc, World.size_setCell, World.size_drew, size_drewN', size_grow]; omega) | (simp; omega) | (simp; done)) | (with_reducible refine Below.trans ?_ (Below.mono (by with_reducible assumption) ?_))))⟩
end Go.Proofs.Ytcbncliplbecdaa
