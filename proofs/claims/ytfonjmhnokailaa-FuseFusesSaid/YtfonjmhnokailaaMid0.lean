/- Half of a sum of numbers of 64 bits. -/
import Derived.Test.YtfonjmhnokailaaNums
import Derived.Handy
import Derived.IntWalk
import Derived.KernelRfl
set_option linter.unusedVariables false
set_option linter.unusedSimpArgs false
set_option maxRecDepth 100000
namespace Go.Proofs.Ytfonjmhnokailaa
open Go Go.RowKit Go.Eng
/-- A number of 64 bits. -/
def I64 (a : Int) : Prop := -9223372036854775808 ≤ a ∧ a ≤ 9223372036854775807
theorem and_xor (x y : Nat) : 2 * (x &&& y) + (x ^^^ y) = x + y := by
  induction x using Nat.strongRecOn generalizing y with
  | ind x ih =>
    by_cases hx : x = 0
    · subst hx; simp
    · have h := ih (x / 2) (by omega) (y / 2)
      have h1 : (x &&& y) / 2 = x / 2 &&& y / 2 := Nat.and_div_two
      have h2 : (x ^^^ y) / 2 = x / 2 ^^^ y / 2 := Nat.xor_div_two
      have h3 := Nat.and_mod_two_eq_one (a := x) (b := y)
      have h4 := Nat.xor_mod_two_eq_one (a := x) (b := y)
      omega
theorem div63 (x : Nat) (hx : x < 18446744073709551616) : (x < 9223372036854775808 ∧ x / 2 ^ 63 = 0) ∨ (9223372036854775808 ≤ x ∧ x / 2 ^ 63 = 1) := by
  have e : (2 : Nat) ^ 63 = 9223372036854775808 := by decide
  rw [e]; omega
theorem and_top (x y : Nat) (hx : x < 18446744073709551616) (hy : y < 18446744073709551616) (hu : x &&& y < 18446744073709551616) :
    (9223372036854775808 ≤ x &&& y ↔ 9223372036854775808 ≤ x ∧ 9223372036854775808 ≤ y) := by
  have h : (x &&& y) / 2 ^ 63 = x / 2 ^ 63 &&& y / 2 ^ 63 := Nat.and_div_two_pow
  rcases div63 x hx with ⟨l1, a1⟩ | ⟨l1, a1⟩ <;> rcases div63 y hy with ⟨l2, a2⟩ | ⟨l2, a2⟩ <;> rcases div63 _ hu with ⟨l3, a3⟩ | ⟨l3, a3⟩ <;> rw [a1, a2, a3] at h <;> first | (exfalso; revert h; decide) | omega
theorem xor_top (x y : Nat) (hx : x < 18446744073709551616) (hy : y < 18446744073709551616) (hu : x ^^^ y < 18446744073709551616) :
    (9223372036854775808 ≤ x ^^^ y ↔ ¬ (9223372036854775808 ≤ x ↔ 9223372036854775808 ≤ y)) := by
  have h : (x ^^^ y) / 2 ^ 63 = x / 2 ^ 63 ^^^ y / 2 ^ 63 := Nat.xor_div_two_pow
  rcases div63 x hx with ⟨l1, a1⟩ | ⟨l1, a1⟩ <;> rcases div63 y hy with ⟨l2, a2⟩ | ⟨l2, a2⟩ <;> rcases div63 _ hu with ⟨l3, a3⟩ | ⟨l3, a3⟩ <;> rw [a1, a2, a3] at h <;> first | (exfalso; revert h; decide) | omega
theorem bits_and_i64 (a b : Int) : bits .and .i64 a b = wrap64 (((a % 18446744073709551616).toNat &&& (b % 18446744073709551616).toNat : Nat) : Int) := by
  show IntKind.i64.wrap ((BitVec.ofInt 64 a &&& BitVec.ofInt 64 b).toNat : Int) = _
  rw [BitVec.toNat_and, BitVec.toNat_ofInt, BitVec.toNat_ofInt, IntWalk.i64_left]
  rfl
theorem bits_xor_i64 (a b : Int) : bits .xor .i64 a b = wrap64 (((a % 18446744073709551616).toNat ^^^ (b % 18446744073709551616).toNat : Nat) : Int) := by
  show IntKind.i64.wrap ((BitVec.ofInt 64 a ^^^ BitVec.ofInt 64 b).toNat : Int) = _
  rw [BitVec.toNat_xor, BitVec.toNat_ofInt, BitVec.toNat_ofInt, IntWalk.i64_left]
  rfl
theorem xor_lt64 (x y : Nat) (hx : x < 18446744073709551616) (hy : y < 18446744073709551616) : x ^^^ y < 18446744073709551616 := by
  have e : (2 : Nat) ^ 64 = 18446744073709551616 := by decide
  rw [← e] at hx hy ⊢
  exact Nat.xor_lt_two_pow hx hy
theorem wrap_nat (u : Nat) (h : u < 18446744073709551616) : wrap64 (u : Int) = if 9223372036854775808 ≤ u then (u : Int) - 18446744073709551616 else u := by
  unfold wrap64; split <;> omega
theorem mid_core (a b : Int) (x y u v : Nat) (ha : I64 a) (hb : I64 b) (ex : (x : Int) = a ∨ (x : Int) = a + 18446744073709551616) (ey : (y : Int) = b ∨ (y : Int) = b + 18446744073709551616)
    (hx : x < 18446744073709551616) (hy : y < 18446744073709551616) (hu : u < 18446744073709551616) (hv : v < 18446744073709551616) (h1 : 2 * u + v = x + y)
    (h2 : 9223372036854775808 ≤ u ↔ 9223372036854775808 ≤ x ∧ 9223372036854775808 ≤ y) (h3 : 9223372036854775808 ≤ v ↔ ¬ (9223372036854775808 ≤ x ↔ 9223372036854775808 ≤ y)) :
    wrap64 (wrap64 (u : Int) + wrap64 (v : Int) / 2) = (a + b) / 2 := by
  unfold I64 at ha hb
  rw [wrap_nat u hu, wrap_nat v hv]
  have key : 2 * (if 9223372036854775808 ≤ u then (u : Int) - 18446744073709551616 else u) + (if 9223372036854775808 ≤ v then (v : Int) - 18446744073709551616 else v) = a + b := by
    split <;> split <;> omega
  generalize (if 9223372036854775808 ≤ u then (u : Int) - 18446744073709551616 else u) = p at *
  generalize (if 9223372036854775808 ≤ v then (v : Int) - 18446744073709551616 else v) = q at *
  have e : p + q / 2 = (a + b) / 2 := by omega
  rw [e, IntWalk.wrap64_in _ (by omega)]
theorem mid_eq (a b : Int) (ha : I64 a) (hb : I64 b) : wrap64 (bits .and .i64 a b + bits .xor .i64 a b / 2) = (a + b) / 2 := by
  rw [bits_and_i64, bits_xor_i64]
  have hx : (a % 18446744073709551616).toNat < 18446744073709551616 := by omega
  have hy : (b % 18446744073709551616).toNat < 18446744073709551616 := by omega
  have hu := Nat.lt_of_le_of_lt (Nat.and_le_left (n := (a % 18446744073709551616).toNat) (m := (b % 18446744073709551616).toNat)) hx
  have hv := xor_lt64 _ _ hx hy
  exact mid_core a b _ _ _ _ ha hb (by unfold I64 at ha; omega) (by unfold I64 at hb; omega) hx hy hu hv (and_xor _ _) (and_top _ _ hx hy hu) (xor_top _ _ hx hy hv)
theorem e_nmid (a b : Int) (ha : I64 a) (hb : I64 b) : PCalls Try.prog 42 [.int .i64 a, .int .i64 b] (· = .int .i64 ((a + b) / 2)) := by
  (refine PCalls.ofY Try.func42 (by kernel_rfl) (by kernel_rfl) fun w hw R hR => ?_); (obtain ⟨wbin, wcmp, wun, wconv, wnot, wbeq, wmm, wscmp, wsadd, wslen, wsat, weqs, wlen, wnlen, wofNat, wtake, wdrop, wapp, wzero, wnat⟩ := w); (have hbin : wbin = binStd := congrArg Prims.bin hw); (have hcmp : wcmp = cmpStd := congrArg Prims.cmp hw); (have hun : wun = unStd := congrArg Prims.un hw); (have hconv : wconv = fun k n => k.wrap n := congrArg Prims.conv hw); (have hnot : wnot = fun b => !b := congrArg Prims.not hw); (have hbeq : wbeq = fun a b => a == b := congrArg Prims.beq hw); (have hmm : wmm = maxI := congrArg Prims.mm hw); (have hscmp : wscmp = scmpStd := congrArg Prims.scmp hw); (have hsadd : wsadd = fun x y => x ++ y := congrArg Prims.sadd hw); (have hslen : wslen = fun s => (s.size : Int) := congrArg Prims.slen hw); (have hsat : wsat = std.sat := congrArg Prims.sat hw); (have heqs : weqs = fun a b os => (eqOffs a b os).getD false := congrArg Prims.eqs hw); (have hlen : wlen = fun es => (es.length : Int) := congrArg Prims.len hw); (have hnlen : wnlen = fun es => es.length := congrArg Prims.nlen hw); (have hofNat : wofNat = (fun n : Nat => (n : Int)) := congrArg Prims.ofNat hw); (have htake : wtake = fun es b => es.take b.toNat := congrArg Prims.take hw); (have hdrop : wdrop = fun es a => es.drop a.toNat := congrArg Prims.drop hw); (have happ : wapp = fun a b => a ++ b := congrArg Prims.app hw); (have hzero : wzero = fun n z => List.replicate n.toNat z := congrArg Prims.zero hw); (have hnat : wnat = fun n => n.toNat := congrArg Prims.nat hw); (conv => arg 2; cbv); (generalize hP : Try.prog = P); cbv
  refine Nn.mk (by decide) ?_
  refine ⟨_, Vw.same rfl, hR _ (congrArg (AV.int .i64) ?_)⟩
  rw [hbin]
  have e1 : binStd .shr .i64 (binStd .xor .i64 a b) 1 = bits .xor .i64 a b / 2 := by
    show (bits .xor .i64 a b).fdiv (2 ^ (min (1 : Int).toNat 64)) = _
    rw [show (2 : Int) ^ (min (1 : Int).toNat 64) = 2 by decide, Int.fdiv_eq_ediv_of_nonneg _ (by decide)]
  rw [e1]
  show IntKind.i64.wrap (bits .and .i64 a b + bits .xor .i64 a b / 2) = _
  rw [IntWalk.i64_left]
  exact mid_eq a b ha hb
end Go.Proofs.Ytfonjmhnokailaa
