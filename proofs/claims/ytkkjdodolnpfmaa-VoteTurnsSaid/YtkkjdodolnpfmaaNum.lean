/- Layer 1, num: what the program's functions compute. -/
import Derived.Test.YtkkjdodolnpfmaaBase
import Derived.Handy
set_option linter.unusedVariables false
set_option linter.unusedSimpArgs false
namespace Go.Proofs.Ytkkjdodolnpfmaa
open Go.RowKit
/-- A number of 64 bits. -/
def I64 (a : Int) : Prop := -9223372036854775808 ≤ a ∧ a ≤ 9223372036854775807
def inB (n : Int) : Bool := decide (-9223372036854775808 ≤ n) && decide (n ≤ 9223372036854775807)
/-- The number, where it is one of 64 bits; else 0. -/
def orZ (n : Int) : Int := if inB n then n else 0
/-- The nearest number of 64 bits. -/
def sat (n : Int) : Int := if n < -9223372036854775808 then -9223372036854775808 else if 9223372036854775807 < n then 9223372036854775807 else n
theorem inB_iff (n : Int) : inB n = true ↔ I64 n := by unfold inB I64; simp
theorem inB_true {n : Int} (h : I64 n) : inB n = true := (inB_iff n).2 h
theorem inB_false {n : Int} (h : ¬ I64 n) : inB n = false := by rw [← Bool.not_eq_true, inB_iff]; exact h
theorem orZ_in {n : Int} (h : I64 n) : orZ n = n := by unfold orZ; rw [if_pos (inB_true h)]
theorem orZ_out {n : Int} (h : ¬ I64 n) : orZ n = 0 := by unfold orZ; rw [if_neg (by rw [inB_false h]; simp)]
theorem ret_ib {k : IntKind} {a b : Int} {p q : Bool} (h : a = b) (g : p = q) : Ending.returned (.tuple #[.int k a, .bool p]) = .returned (.tuple #[.int k b, .bool q]) := by rw [h, g]
theorem wrap_hi {n : Int} (h : 9223372036854775807 < n) (h' : n ≤ 18446744073709551615) : wrap64 n < 0 := by unfold wrap64; omega
theorem wrap_lo {n : Int} (h : n < -9223372036854775808) (h' : -18446744073709551616 ≤ n) : 0 ≤ wrap64 n := by unfold wrap64; omega
theorem num_add (a b : Int) (w : World) (ha : I64 a) (hb : I64 b) :
    Calls Try.prog 55 #[.int .i64 a, .int .i64 b] w fun e w' => e = .returned (.tuple #[.int .i64 (orZ (a + b)), .bool (inB (a + b))]) ∧ w = w' := by
  by_cases hc : I64 (a + b)
  · rw [orZ_in hc, inB_true hc]
    unfold I64 at ha hb hc
    go_enter Try.func55, Try.ntmps55
    go_wp2
    all_goals
      first | (go_ret2; exact ⟨rfl, rfl⟩) | (exfalso; first | omega | (simp at *; omega) | (simp_all; done) | (simp_all; omega))
  · rw [orZ_out hc, inB_false hc]
    unfold I64 at ha hb hc
    by_cases h0 : 0 ≤ a
    · have h1 : 0 ≤ b := by omega
      have h2 := wrap_hi (n := a + b) (by omega) (by omega)
      go_enter Try.func55, Try.ntmps55
      go_wp2
      all_goals
        first | (go_ret2; exact ⟨rfl, rfl⟩) | (exfalso; first | omega | (simp at *; omega) | (simp_all; done) | (simp_all; omega))
    · have h1 : b < 0 := by omega
      have h2 := wrap_lo (n := a + b) (by omega) (by omega)
      go_enter Try.func55, Try.ntmps55
      go_wp2
      all_goals
        first | (go_ret2; exact ⟨rfl, rfl⟩) | (exfalso; first | omega | (simp at *; omega) | (simp_all; done) | (simp_all; omega))
def near (n : Int) (p q : Bool) : Int := if p then n else if q then -9223372036854775808 else 9223372036854775807
theorem sat_near (n : Int) (q : Bool) (h1 : n < -9223372036854775808 → q = true) (h2 : 9223372036854775807 < n → q = false) :
    near (orZ n) (inB n) q = sat n := by
  unfold sat near
  by_cases hc : I64 n
  · rw [inB_true hc, orZ_in hc]; unfold I64 at hc; rw [if_pos rfl, if_neg (by omega), if_neg (by omega)]
  · rw [inB_false hc]; unfold I64 at hc
    by_cases hl : n < -9223372036854775808
    · rw [h1 hl, if_pos hl]; rfl
    · rw [h2 (by omega), if_neg hl, if_pos (show 9223372036854775807 < n by omega)]; rfl
def clampv (a b c : Int) : Int := max b (min a c)
def signv (a : Int) : Int := if a < 0 then -1 else if 0 < a then 1 else 0
theorem and_xor (x y : Nat) : 2 * (x &&& y) + (x ^^^ y) = x + y := by
  induction x using Nat.strongRecOn generalizing y with
  | ind x ih =>
    by_cases hx : x = 0
    · subst hx; simp
    · have h := ih (x / 2) (by omega) (y / 2)
      have h1 : (x &&& y) / 2 = x / 2 &&& y / 2 := Nat.and_div_two
      have h2 : (x ^^^ y) / 2 = x / 2 ^^^ y / 2 := Nat.xor_div_two
      have h3 := Nat.and_mod_two_eq_one (a := x) (b := y)
      have h4 := Nat.xor_mod_two_eq_one (a := x) (b := y)
      omega
theorem div63 (x : Nat) (hx : x < 18446744073709551616) : (x < 9223372036854775808 ∧ x / 2 ^ 63 = 0) ∨ (9223372036854775808 ≤ x ∧ x / 2 ^ 63 = 1) := by
  have e : (2 : Nat) ^ 63 = 9223372036854775808 := by decide
  rw [e]; omega
theorem and_top (x y : Nat) (hx : x < 18446744073709551616) (hy : y < 18446744073709551616) (hu : x &&& y < 18446744073709551616) :
    (9223372036854775808 ≤ x &&& y ↔ 9223372036854775808 ≤ x ∧ 9223372036854775808 ≤ y) := by
  have h : (x &&& y) / 2 ^ 63 = x / 2 ^ 63 &&& y / 2 ^ 63 := Nat.and_div_two_pow
  rcases div63 x hx with ⟨l1, a1⟩ | ⟨l1, a1⟩ <;> rcases div63 y hy with ⟨l2, a2⟩ | ⟨l2, a2⟩ <;> rcases div63 _ hu with ⟨l3, a3⟩ | ⟨l3, a3⟩ <;> rw [a1, a2, a3] at h <;> first | (exfalso; revert h; decide) | omega
theorem xor_top (x y : Nat) (hx : x < 18446744073709551616) (hy : y < 18446744073709551616) (hu : x ^^^ y < 18446744073709551616) :
    (9223372036854775808 ≤ x ^^^ y ↔ ¬ (9223372036854775808 ≤ x ↔ 9223372036854775808 ≤ y)) := by
  have h : (x ^^^ y) / 2 ^ 63 = x / 2 ^ 63 ^^^ y / 2 ^ 63 := Nat.xor_div_two_pow
  rcases div63 x hx with ⟨l1, a1⟩ | ⟨l1, a1⟩ <;> rcases div63 y hy with ⟨l2, a2⟩ | ⟨l2, a2⟩ <;> rcases div63 _ hu with ⟨l3, a3⟩ | ⟨l3, a3⟩ <;> rw [a1, a2, a3] at h <;> first | (exfalso; revert h; decide) | omega
theorem bits_and_i64 (a b : Int) : bits .and .i64 a b = wrap64 (((a % 18446744073709551616).toNat &&& (b % 18446744073709551616).toNat : Nat) : Int) := by
  show IntKind.i64.wrap ((BitVec.ofInt 64 a &&& BitVec.ofInt 64 b).toNat : Int) = _
  rw [BitVec.toNat_and, BitVec.toNat_ofInt, BitVec.toNat_ofInt, IntWalk.i64_left]
  rfl
theorem bits_xor_i64 (a b : Int) : bits .xor .i64 a b = wrap64 (((a % 18446744073709551616).toNat ^^^ (b % 18446744073709551616).toNat : Nat) : Int) := by
  show IntKind.i64.wrap ((BitVec.ofInt 64 a ^^^ BitVec.ofInt 64 b).toNat : Int) = _
  rw [BitVec.toNat_xor, BitVec.toNat_ofInt, BitVec.toNat_ofInt, IntWalk.i64_left]
  rfl
theorem xor_lt64 (x y : Nat) (hx : x < 18446744073709551616) (hy : y < 18446744073709551616) : x ^^^ y < 18446744073709551616 := by
  have e : (2 : Nat) ^ 64 = 18446744073709551616 := by decide
  rw [← e] at hx hy ⊢
  exact Nat.xor_lt_two_pow hx hy
theorem wrap_nat (u : Nat) (h : u < 18446744073709551616) : wrap64 (u : Int) = if 9223372036854775808 ≤ u then (u : Int) - 18446744073709551616 else u := by
  unfold wrap64; split <;> omega
theorem mid_core (a b : Int) (x y u v : Nat) (ha : I64 a) (hb : I64 b) (ex : (x : Int) = a ∨ (x : Int) = a + 18446744073709551616) (ey : (y : Int) = b ∨ (y : Int) = b + 18446744073709551616)
    (hx : x < 18446744073709551616) (hy : y < 18446744073709551616) (hu : u < 18446744073709551616) (hv : v < 18446744073709551616) (h1 : 2 * u + v = x + y)
    (h2 : 9223372036854775808 ≤ u ↔ 9223372036854775808 ≤ x ∧ 9223372036854775808 ≤ y) (h3 : 9223372036854775808 ≤ v ↔ ¬ (9223372036854775808 ≤ x ↔ 9223372036854775808 ≤ y)) :
    wrap64 (wrap64 (u : Int) + wrap64 (v : Int) / 2) = (a + b) / 2 := by
  unfold I64 at ha hb
  rw [wrap_nat u hu, wrap_nat v hv]
  have key : 2 * (if 9223372036854775808 ≤ u then (u : Int) - 18446744073709551616 else u) + (if 9223372036854775808 ≤ v then (v : Int) - 18446744073709551616 else v) = a + b := by
    split <;> split <;> omega
  generalize (if 9223372036854775808 ≤ u then (u : Int) - 18446744073709551616 else u) = p at *
  generalize (if 9223372036854775808 ≤ v then (v : Int) - 18446744073709551616 else v) = q at *
  have e : p + q / 2 = (a + b) / 2 := by omega
  rw [e, IntWalk.wrap64_in _ (by omega)]
theorem mid_eq (a b : Int) (ha : I64 a) (hb : I64 b) : wrap64 (bits .and .i64 a b + bits .xor .i64 a b / 2) = (a + b) / 2 := by
  rw [bits_and_i64, bits_xor_i64]
  have hx : (a % 18446744073709551616).toNat < 18446744073709551616 := by omega
  have hy : (b % 18446744073709551616).toNat < 18446744073709551616 := by omega
  have hu := Nat.lt_of_le_of_lt (Nat.and_le_left (n := (a % 18446744073709551616).toNat) (m := (b % 18446744073709551616).toNat)) hx
  have hv := xor_lt64 _ _ hx hy
  exact mid_core a b _ _ _ _ ha hb (by unfold I64 at ha; omega) (by unfold I64 at hb; omega) hx hy hu hv (and_xor _ _) (and_top _ _ hx hy hu) (xor_top _ _ hx hy hv)
theorem mul_back (a b : Int) (hb : b ≠ 0) (hi : I64 a) (hib : I64 b) (h : wrap64 ((wrap64 (a * b)).tdiv b) = a) (hn : ¬ (a = -9223372036854775808 ∧ b = -1)) : wrap64 (a * b) = a * b := by
  unfold I64 at hi hib
  have hp : -9223372036854775808 ≤ wrap64 (a * b) ∧ wrap64 (a * b) ≤ 9223372036854775807 := by unfold wrap64; omega
  have hk : (wrap64 (a * b) - a * b) % 18446744073709551616 = 0 := by unfold wrap64; omega
  generalize hP : a * b = P at *
  generalize hpp : wrap64 P = p at *
  have h1 := Int.mul_tdiv_add_tmod p b
  have h2 : (p.tmod b).natAbs < b.natAbs := by rw [Int.natAbs_tmod]; exact Nat.mod_lt _ (by omega)
  have h3 : (p.tdiv b).natAbs ≤ p.natAbs := by rw [Int.natAbs_tdiv]; exact Nat.div_le_self _ _
  have hq : p.tdiv b = a := by
    by_cases hm : p.tdiv b = 9223372036854775808
    · exfalso
      rw [hm] at h h1
      have : a = -9223372036854775808 := by rw [← h]; unfold wrap64; omega
      apply hn
      refine ⟨this, ?_⟩
      omega
    · rw [IntWalk.wrap64_in _ (by omega)] at h; exact h
  rw [hq, Int.mul_comm, hP] at h1
  omega
end Go.Proofs.Ytkkjdodolnpfmaa
