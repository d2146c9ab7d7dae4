/- Layer 9, pulse: what 'Delta' computes in the program and in the reference. -/
import Derived.Test.YtcbncliplbecdaaBase
namespace Go.Proofs.Ytcbncliplbecdaa
open Go.RowKit
def pd (a b : Int) : Int := (b - a + 32768) % 65536 - 32768
theorem pd_bd (a b : Int) : -32768 ≤ pd a b ∧ pd a b ≤ 32767 := by unfold pd; omega
theorem pulse_delta (a b : Int) (w : World) :
    Calls Try.prog 13 #[.int .u16 a, .int .u16 b] w fun e w' => e = .returned (.int .i64 (pd a b)) ∧ w = w' := by
  go_enter Try.func13, Try.ntmps13
  go_wp2
  go_ret
  refine ⟨ret_int ?_, rfl⟩
  rw [i16_wrap, u16_wrap]; unfold pd wrap64; omega
theorem anchor09 (w : World) :
    Calls Try.prog 12 #[] w fun e w' => e = .returned (.bool true) ∧ w = w' := by
  go_enter Try.func12, Try.ntmps12
  go_wp2_with (go_at_call 13; refine (pulse_delta _ _ _).mono ?_; rintro e w' ⟨rfl, rfl⟩)
  go_ret
  exact ⟨ret_bool (by decide), rfl⟩
theorem ref09_delta (a b : Int) (w : World) (ha : 0 ≤ a ∧ a ≤ 65535) (hb : 0 ≤ b ∧ b ≤ 65535) :
    Calls Try.prog 14 #[.int .i64 a, .int .i64 b] w fun e w' => e = .returned (.int .i64 (pd a b)) ∧ w = w' := by
  go_enter Try.func14, Try.ntmps14
  go_wp2
  all_goals
    go_ret
    refine ⟨ret_int ?_, rfl⟩
    unfold pd; omega
theorem walk_PulseDeltas (a0 : Int) (a1 : Int) (w : World) (w0 : (Lit.int .u16 a0).wf = true) (w1 : (Lit.int .u16 a1).wf = true) :
    Calls Try.prog 3 #[.int .u16 a0, .int .u16 a1] w fun e w' => e = .returned (.bool true) ∧ Below w.heap.size w w' := by
  have h0 := bd_u16 w0
  have h1 := bd_u16 w1
  clear w0 w1
  have hb := pd_bd a0 a1
  have e1 : (IntKind.u16.wrap (a0 + pd a0 a1) == a1) = true := by
    rw [u16_wrap]; unfold pd; simp; omega
  go_enter Try.func3, Try.ntmps3
  go_wp2_with (first | (go_at_call 13; refine (pulse_delta _ _ _).mono ?_; rintro e w' ⟨rfl, rfl⟩) | (go_at_call 12; refine (anchor09 _).mono ?_; rintro e w' ⟨rfl, rfl⟩) | (go_at_call 14; refine (ref09_delta _ _ _ (by omega) (by omega)).mono ?_; rintro e w' ⟨rfl, rfl⟩))
  go_ret
  exact ⟨rfl, Below.refl _ _⟩
theorem walk_PulseBack (a0 : Int) (a1 : Int) (w : World) (w0 : (Lit.int .u16 a0).wf = true) (w1 : (Lit.int .u16 a1).wf = true) :
    Calls Try.prog 4 #[.int .u16 a0, .int .u16 a1] w fun e w' => e = .returned (.bool true) ∧ Below w.heap.size w w' := by
  have h0 := bd_u16 w0
  have h1 := bd_u16 w1
  clear w0 w1
  have hb := pd_bd a0 a1
  have hb' := pd_bd a1 a0
  have e1 : (pd a0 a0 == 0) = true := by unfold pd; simp
  by_cases hc : pd a0 a1 = - pd a1 a0
  · have e2 : (pd a0 a1 == - pd a1 a0) = true := by simp; omega
    go_enter Try.func4, Try.ntmps4
    go_wp2_with (first | (go_at_call 13; refine (pulse_delta _ _ _).mono ?_; rintro e w' ⟨rfl, rfl⟩) | (go_at_call 12; refine (anchor09 _).mono ?_; rintro e w' ⟨rfl, rfl⟩))
    go_ret
    exact ⟨rfl, Below.refl _ _⟩
  · have e2 : (pd a0 a1 == - pd a1 a0) = false := by simp; omega
    have e3 : (pd a0 a1 == -32768) = true := by unfold pd at *; simp; omega
    have e4 : (pd a1 a0 == pd a0 a1) = true := by unfold pd at *; simp; omega
    go_enter Try.func4, Try.ntmps4
    go_wp2_with (first | (go_at_call 13; refine (pulse_delta _ _ _).mono ?_; rintro e w' ⟨rfl, rfl⟩) | (go_at_call 12; refine (anchor09 _).mono ?_; rintro e w' ⟨rfl, rfl⟩))
    go_ret
    exact ⟨rfl, Below.refl _ _⟩
end Go.Proofs.Ytcbncliplbecdaa
