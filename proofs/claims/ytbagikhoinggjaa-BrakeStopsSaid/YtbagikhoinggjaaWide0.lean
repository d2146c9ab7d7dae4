/- Numbers of 128 bits: products and how they compare, by the engine. -/
import Derived.Test.YtbagikhoinggjaaEng30
import Derived.KernelRfl
set_option linter.unusedVariables false
set_option linter.unusedSimpArgs false
namespace Go.Proofs.Ytbagikhoinggjaa
open Go Go.RowKit Go.Eng
set_option maxRecDepth 100000
theorem u_mul {x y : Int} (h0 : 0 ≤ x * y) (h1 : x * y < 18446744073709551616) : binStd .mul .u64 x y = x * y := by
  show IntKind.u64.wrap (x * y) = _; rw [IntKind.wrap_u64]; omega
theorem u_add {x y : Int} (h0 : 0 ≤ x + y) (h1 : x + y < 18446744073709551616) : binStd .add .u64 x y = x + y := by
  show IntKind.u64.wrap (x + y) = _; rw [IntKind.wrap_u64]; omega
theorem u_shr {x : Int} : binStd .shr .u64 x 32 = x / 4294967296 := by
  show x.fdiv (2 ^ (min (32 : Int).toNat 64)) = _
  rw [show (2 : Int) ^ (min (32 : Int).toNat 64) = 4294967296 by decide, Int.fdiv_eq_ediv_of_nonneg _ (by decide)]
theorem u_shl {x : Int} : binStd .shl .u64 x 32 = x * 4294967296 % 18446744073709551616 := by
  show IntKind.u64.wrap (x * 2 ^ (min (32 : Int).toNat 64)) = _
  rw [show (2 : Int) ^ (min (32 : Int).toNat 64) = 4294967296 by decide, IntKind.wrap_u64]
theorem bv_int {x : Int} (h0 : 0 ≤ x) (h1 : x < 18446744073709551616) : (BitVec.ofInt 64 x).toNat = x.toNat := by
  rw [BitVec.toNat_ofInt]
  show (x % 18446744073709551616).toNat = _
  rw [Int.emod_eq_of_lt h0 h1]
theorem u_and {x : Int} (h0 : 0 ≤ x) (h1 : x < 18446744073709551616) : binStd .and .u64 x 4294967295 = x % 4294967296 := by
  show IntKind.u64.wrap ((BitVec.ofInt 64 x &&& BitVec.ofInt 64 4294967295).toNat : Int) = _
  rw [BitVec.toNat_and, bv_int h0 h1, bv_int (by decide) (by decide)]
  have : x.toNat &&& (4294967295 : Int).toNat = x.toNat % 4294967296 := Nat.and_two_pow_sub_one_eq_mod x.toNat 32
  rw [this, IntKind.wrap_u64]
  omega
theorem u_or {q i : Nat} {y : Int} (hy0 : 0 ≤ y) (hy : y < 2 ^ i) (hb : (2 : Int) ^ i * q + y < 18446744073709551616) : binStd .or .u64 (2 ^ i * q) y = 2 ^ i * q + y := by
  have hp : (2 : Int) ^ i * q = ((2 ^ i * q : Nat) : Int) := by push_cast; rfl
  have h0 : (0 : Int) ≤ 2 ^ i * q := by rw [hp]; exact Int.natCast_nonneg _
  obtain ⟨n, rfl⟩ := Int.eq_ofNat_of_zero_le hy0
  have hn : n < 2 ^ i := by
    have : (n : Int) < ((2 ^ i : Nat) : Int) := by push_cast; exact hy
    exact Int.ofNat_lt.1 this
  show IntKind.u64.wrap ((BitVec.ofInt 64 (2 ^ i * q) ||| BitVec.ofInt 64 n).toNat : Int) = _
  rw [BitVec.toNat_or, bv_int h0 (by omega), bv_int hy0 (by omega), hp]
  have : (((2 ^ i * q : Nat) : Int)).toNat ||| ((n : Nat) : Int).toNat = 2 ^ i * q + n := by
    rw [Int.toNat_natCast, Int.toNat_natCast]
    exact (Nat.two_pow_add_eq_or_of_lt hn q).symm
  rw [this, IntKind.wrap_u64]
  have e : ((2 ^ i * q + n : Nat) : Int) = ((2 ^ i * q : Nat) : Int) + n := by push_cast; rfl
  rw [e, ← hp]
  omega
theorem mul_split {a1 a0 b1 b0 : Int} : (a1 * 4294967296 + a0) * (b1 * 4294967296 + b0) = a1 * b1 * 18446744073709551616 + (a1 * b0 + a0 * b1) * 4294967296 + a0 * b0 := by
  rw [Int.add_mul, Int.mul_add, Int.mul_add, Int.add_mul, show a1 * 4294967296 * (b1 * 4294967296) = a1 * b1 * 18446744073709551616 by rw [Int.mul_assoc, Int.mul_left_comm 4294967296, ← Int.mul_assoc, ← Int.mul_assoc, Int.mul_assoc]; rfl, show a1 * 4294967296 * b0 = a1 * b0 * 4294967296 by rw [Int.mul_assoc, Int.mul_comm 4294967296, ← Int.mul_assoc], ← Int.mul_assoc a0]
  omega
theorem small_mul {x y : Int} (h0 : 0 ≤ x) (h1 : x < 4294967296) (k0 : 0 ≤ y) (k1 : y < 4294967296) : 0 ≤ x * y ∧ x * y ≤ 4294967295 * 4294967295 :=
  ⟨Int.mul_nonneg h0 k0, Int.mul_le_mul (by omega) (by omega) k0 (by decide)⟩
theorem e_mul {a b h l : Int} (ha0 : 0 ≤ a) (ha1 : a < 18446744073709551616) (hb0 : 0 ≤ b) (hb1 : b < 18446744073709551616) (hh : a * b / 18446744073709551616 = h) (hl : a * b % 18446744073709551616 = l) : PCalls Try.prog 45 [.int .u64 a, .int .u64 b] (· = .agg [.int .u64 h, .int .u64 l]) := by
  (refine PCalls.ofY Try.func45 (by kernel_rfl) (by kernel_rfl) fun w hw R hR => ?_); (obtain ⟨wbin, wcmp, wun, wconv, wnot, wbeq, wmm, wscmp, wsadd, wslen, wsat, weqs, wlen, wnlen, wofNat, wtake, wdrop, wapp, wzero, wnat⟩ := w); (have hbin : wbin = binStd := congrArg Prims.bin hw); (have hcmp : wcmp = cmpStd := congrArg Prims.cmp hw); (have hun : wun = unStd := congrArg Prims.un hw); (have hconv : wconv = fun k n => k.wrap n := congrArg Prims.conv hw); (have hnot : wnot = fun b => !b := congrArg Prims.not hw); (have hbeq : wbeq = fun a b => a == b := congrArg Prims.beq hw); (have hmm : wmm = maxI := congrArg Prims.mm hw); (have hscmp : wscmp = scmpStd := congrArg Prims.scmp hw); (have hsadd : wsadd = fun x y => x ++ y := congrArg Prims.sadd hw); (have hslen : wslen = fun s => (s.size : Int) := congrArg Prims.slen hw); (have hsat : wsat = std.sat := congrArg Prims.sat hw); (have heqs : weqs = fun a b os => (eqOffs a b os).getD false := congrArg Prims.eqs hw); (have hlen : wlen = fun es => (es.length : Int) := congrArg Prims.len hw); (have hnlen : wnlen = fun es => es.length := congrArg Prims.nlen hw); (have hofNat : wofNat = (fun n : Nat => (n : Int)) := congrArg Prims.ofNat hw); (have htake : wtake = fun es b => es.take b.toNat := congrArg Prims.take hw); (have hdrop : wdrop = fun es a => es.drop a.toNat := congrArg Prims.drop hw); (have happ : wapp = fun a b => a ++ b := congrArg Prims.app hw); (have hzero : wzero = fun n z => List.replicate n.toNat z := congrArg Prims.zero hw); (have hnat : wnat = fun n => n.toNat := congrArg Prims.nat hw); (conv => arg 2; cbv); (generalize hP : Try.prog = P); cbv
  repeat (refine Nn.mk (by decide) ?_; try cbv)
  refine ⟨_, Vw.same rfl, hR _ ?_⟩
  obtain ⟨a1, ea1⟩ : ∃ x, a / 4294967296 = x := ⟨_, rfl⟩
  obtain ⟨a0, ea0⟩ : ∃ x, a % 4294967296 = x := ⟨_, rfl⟩
  obtain ⟨b1, eb1⟩ : ∃ x, b / 4294967296 = x := ⟨_, rfl⟩
  obtain ⟨b0, eb0⟩ : ∃ x, b % 4294967296 = x := ⟨_, rfl⟩
  have eab : a * b = a1 * b1 * 18446744073709551616 + (a1 * b0 + a0 * b1) * 4294967296 + a0 * b0 := by
    rw [← mul_split]; congr 1 <;> omega
  obtain ⟨p0, p1⟩ := small_mul (x := a0) (y := b0) (by omega) (by omega) (by omega) (by omega)
  obtain ⟨q0, q1⟩ := small_mul (x := a1) (y := b0) (by omega) (by omega) (by omega) (by omega)
  obtain ⟨r0, r1⟩ := small_mul (x := a0) (y := b1) (by omega) (by omega) (by omega) (by omega)
  obtain ⟨s0, s1⟩ := small_mul (x := a1) (y := b1) (by omega) (by omega) (by omega) (by omega)
  show AV.agg _ = AV.agg _
  simp only [hbin, u_shr, u_and ha0 ha1, u_and hb0 hb1, ea1, ea0, eb1, eb0]
  rw [u_mul p0 (by omega), u_mul q0 (by omega), u_mul r0 (by omega), u_mul s0 (by omega)]
  generalize a0 * b0 = p at *
  generalize a1 * b0 = q at *
  generalize a0 * b1 = r at *
  generalize a1 * b1 = s at *
  rw [u_add (x := q) (y := p / 4294967296) (by omega) (by omega)]
  rw [u_and (x := q + p / 4294967296) (by omega) (by omega), u_and (x := p) (by omega) (by omega)]
  rw [u_add (x := r) (y := (q + p / 4294967296) % 4294967296) (by omega) (by omega)]
  rw [u_shl]
  obtain ⟨m, em⟩ : ∃ x, q + p / 4294967296 = x := ⟨_, rfl⟩
  rw [em]
  obtain ⟨n, en⟩ : ∃ x, r + m % 4294967296 = x := ⟨_, rfl⟩
  rw [en]
  rw [u_add (x := s) (y := m / 4294967296) (by omega) (by omega)]
  rw [u_add (x := s + m / 4294967296) (y := n / 4294967296) (by omega) (by omega)]
  have e1 : n * 4294967296 % 18446744073709551616 = 2 ^ 32 * ((n % 4294967296).toNat : Int) := by omega
  rw [e1, u_or (by omega) (by omega) (by omega)]
  have hA : s + m / 4294967296 + n / 4294967296 = h := by omega
  have hB : 2 ^ 32 * ((n % 4294967296).toNat : Int) + p % 4294967296 = l := by omega
  rw [hA, hB]
end Go.Proofs.Ytbagikhoinggjaa
