/- Texts of the proof of PlaceMoves, joined by wip/tools/pack.py. -/
import Derived.Test.YtpiocfmdjgbamaaRouteGrowsP2
import Derived.Handy
import Derived.IntWalk
import Derived.KernelRfl
import Derived.Test.YtpiocfmdjgbamaaEng33
import Derived.Test.YtpiocfmdjgbamaaEng28
/- Half of a sum of numbers of 64 bits. -/
set_option linter.unusedVariables false
set_option linter.unusedSimpArgs false
set_option maxRecDepth 100000
namespace Go.Proofs.Ytpiocfmdjgbamaa
open Go Go.RowKit Go.Eng
/-- A number of 64 bits. -/
def I64 (a : Int) : Prop := -9223372036854775808 ≤ a ∧ a ≤ 9223372036854775807
theorem and_xor (x y : Nat) : 2 * (x &&& y) + (x ^^^ y) = x + y := by
  induction x using Nat.strongRecOn generalizing y with
  | ind x ih =>
    by_cases hx : x = 0
    · subst hx; simp
    · have h := ih (x / 2) (by omega) (y / 2)
      have h1 : (x &&& y) / 2 = x / 2 &&& y / 2 := Nat.and_div_two
      have h2 : (x ^^^ y) / 2 = x / 2 ^^^ y / 2 := Nat.xor_div_two
      have h3 := Nat.and_mod_two_eq_one (a := x) (b := y)
      have h4 := Nat.xor_mod_two_eq_one (a := x) (b := y)
      omega
theorem div63 (x : Nat) (hx : x < 18446744073709551616) : (x < 9223372036854775808 ∧ x / 2 ^ 63 = 0) ∨ (9223372036854775808 ≤ x ∧ x / 2 ^ 63 = 1) := by
  have e : (2 : Nat) ^ 63 = 9223372036854775808 := by decide
  rw [e]; omega
theorem and_top (x y : Nat) (hx : x < 18446744073709551616) (hy : y < 18446744073709551616) (hu : x &&& y < 18446744073709551616) :
    (9223372036854775808 ≤ x &&& y ↔ 9223372036854775808 ≤ x ∧ 9223372036854775808 ≤ y) := by
  have h : (x &&& y) / 2 ^ 63 = x / 2 ^ 63 &&& y / 2 ^ 63 := Nat.and_div_two_pow
  rcases div63 x hx with ⟨l1, a1⟩ | ⟨l1, a1⟩ <;> rcases div63 y hy with ⟨l2, a2⟩ | ⟨l2, a2⟩ <;> rcases div63 _ hu with ⟨l3, a3⟩ | ⟨l3, a3⟩ <;> rw [a1, a2, a3] at h <;> first | (exfalso; revert h; decide) | omega
theorem xor_top (x y : Nat) (hx : x < 18446744073709551616) (hy : y < 18446744073709551616) (hu : x ^^^ y < 18446744073709551616) :
    (9223372036854775808 ≤ x ^^^ y ↔ ¬ (9223372036854775808 ≤ x ↔ 9223372036854775808 ≤ y)) := by
  have h : (x ^^^ y) / 2 ^ 63 = x / 2 ^ 63 ^^^ y / 2 ^ 63 := Nat.xor_div_two_pow
  rcases div63 x hx with ⟨l1, a1⟩ | ⟨l1, a1⟩ <;> rcases div63 y hy with ⟨l2, a2⟩ | ⟨l2, a2⟩ <;> rcases div63 _ hu with ⟨l3, a3⟩ | ⟨l3, a3⟩ <;> rw [a1, a2, a3] at h <;> first | (exfalso; revert h; decide) | omega
theorem bits_and_i64 (a b : Int) : bits .and .i64 a b = wrap64 (((a % 18446744073709551616).toNat &&& (b % 18446744073709551616).toNat : Nat) : Int) := by
  show IntKind.i64.wrap ((BitVec.ofInt 64 a &&& BitVec.ofInt 64 b).toNat : Int) = _
  rw [BitVec.toNat_and, BitVec.toNat_ofInt, BitVec.toNat_ofInt, IntWalk.i64_left]
  rfl
theorem bits_xor_i64 (a b : Int) : bits .xor .i64 a b = wrap64 (((a % 18446744073709551616).toNat ^^^ (b % 18446744073709551616).toNat : Nat) : Int) := by
  show IntKind.i64.wrap ((BitVec.ofInt 64 a ^^^ BitVec.ofInt 64 b).toNat : Int) = _
  rw [BitVec.toNat_xor, BitVec.toNat_ofInt, BitVec.toNat_ofInt, IntWalk.i64_left]
  rfl
theorem xor_lt64 (x y : Nat) (hx : x < 18446744073709551616) (hy : y < 18446744073709551616) : x ^^^ y < 18446744073709551616 := by
  have e : (2 : Nat) ^ 64 = 18446744073709551616 := by decide
  rw [← e] at hx hy ⊢
  exact Nat.xor_lt_two_pow hx hy
theorem wrap_nat (u : Nat) (h : u < 18446744073709551616) : wrap64 (u : Int) = if 9223372036854775808 ≤ u then (u : Int) - 18446744073709551616 else u := by
  unfold wrap64; split <;> omega
theorem mid_core (a b : Int) (x y u v : Nat) (ha : I64 a) (hb : I64 b) (ex : (x : Int) = a ∨ (x : Int) = a + 18446744073709551616) (ey : (y : Int) = b ∨ (y : Int) = b + 18446744073709551616)
    (hx : x < 18446744073709551616) (hy : y < 18446744073709551616) (hu : u < 18446744073709551616) (hv : v < 18446744073709551616) (h1 : 2 * u + v = x + y)
    (h2 : 9223372036854775808 ≤ u ↔ 9223372036854775808 ≤ x ∧ 9223372036854775808 ≤ y) (h3 : 9223372036854775808 ≤ v ↔ ¬ (9223372036854775808 ≤ x ↔ 9223372036854775808 ≤ y)) :
    wrap64 (wrap64 (u : Int) + wrap64 (v : Int) / 2) = (a + b) / 2 := by
  unfold I64 at ha hb
  rw [wrap_nat u hu, wrap_nat v hv]
  have key : 2 * (if 9223372036854775808 ≤ u then (u : Int) - 18446744073709551616 else u) + (if 9223372036854775808 ≤ v then (v : Int) - 18446744073709551616 else v) = a + b := by
    split <;> split <;> omega
  generalize (if 9223372036854775808 ≤ u then (u : Int) - 18446744073709551616 else u) = p at *
  generalize (if 9223372036854775808 ≤ v then (v : Int) - 18446744073709551616 else v) = q at *
  have e : p + q / 2 = (a + b) / 2 := by omega
  rw [e, IntWalk.wrap64_in _ (by omega)]
theorem mid_eq (a b : Int) (ha : I64 a) (hb : I64 b) : wrap64 (bits .and .i64 a b + bits .xor .i64 a b / 2) = (a + b) / 2 := by
  rw [bits_and_i64, bits_xor_i64]
  have hx : (a % 18446744073709551616).toNat < 18446744073709551616 := by omega
  have hy : (b % 18446744073709551616).toNat < 18446744073709551616 := by omega
  have hu := Nat.lt_of_le_of_lt (Nat.and_le_left (n := (a % 18446744073709551616).toNat) (m := (b % 18446744073709551616).toNat)) hx
  have hv := xor_lt64 _ _ hx hy
  exact mid_core a b _ _ _ _ ha hb (by unfold I64 at ha; omega) (by unfold I64 at hb; omega) hx hy hu hv (and_xor _ _) (and_top _ _ hx hy hu) (xor_top _ _ hx hy hv)
theorem e_nmid (a b : Int) (ha : I64 a) (hb : I64 b) : PCalls Try.prog 93 [.int .i64 a, .int .i64 b] (· = .int .i64 ((a + b) / 2)) := by
  (refine PCalls.ofY Try.func93 (by kernel_rfl) (by kernel_rfl) fun w hw R hR => ?_); (obtain ⟨wbin, wcmp, wun, wconv, wnot, wbeq, wmm, wscmp, wsadd, wslen, wsat, weqs, wlen, wnlen, wofNat, wtake, wdrop, wapp, wzero, wnat⟩ := w); (have hbin : wbin = binStd := congrArg Prims.bin hw); (have hcmp : wcmp = cmpStd := congrArg Prims.cmp hw); (have hun : wun = unStd := congrArg Prims.un hw); (have hconv : wconv = fun k n => k.wrap n := congrArg Prims.conv hw); (have hnot : wnot = fun b => !b := congrArg Prims.not hw); (have hbeq : wbeq = fun a b => a == b := congrArg Prims.beq hw); (have hmm : wmm = maxI := congrArg Prims.mm hw); (have hscmp : wscmp = scmpStd := congrArg Prims.scmp hw); (have hsadd : wsadd = fun x y => x ++ y := congrArg Prims.sadd hw); (have hslen : wslen = fun s => (s.size : Int) := congrArg Prims.slen hw); (have hsat : wsat = std.sat := congrArg Prims.sat hw); (have heqs : weqs = fun a b os => (eqOffs a b os).getD false := congrArg Prims.eqs hw); (have hlen : wlen = fun es => (es.length : Int) := congrArg Prims.len hw); (have hnlen : wnlen = fun es => es.length := congrArg Prims.nlen hw); (have hofNat : wofNat = (fun n : Nat => (n : Int)) := congrArg Prims.ofNat hw); (have htake : wtake = fun es b => es.take b.toNat := congrArg Prims.take hw); (have hdrop : wdrop = fun es a => es.drop a.toNat := congrArg Prims.drop hw); (have happ : wapp = fun a b => a ++ b := congrArg Prims.app hw); (have hzero : wzero = fun n z => List.replicate n.toNat z := congrArg Prims.zero hw); (have hnat : wnat = fun n => n.toNat := congrArg Prims.nat hw); (conv => arg 2; cbv); (generalize hP : Try.prog = P); cbv
  refine Nn.mk (by decide) ?_
  refine ⟨_, Vw.same rfl, hR _ (congrArg (AV.int .i64) ?_)⟩
  rw [hbin]
  have e1 : binStd .shr .i64 (binStd .xor .i64 a b) 1 = bits .xor .i64 a b / 2 := by
    show (bits .xor .i64 a b).fdiv (2 ^ (min (1 : Int).toNat 64)) = _
    rw [show (2 : Int) ^ (min (1 : Int).toNat 64) = 2 by decide, Int.fdiv_eq_ediv_of_nonneg _ (by decide)]
  rw [e1]
  show IntKind.i64.wrap (bits .and .i64 a b + bits .xor .i64 a b / 2) = _
  rw [IntWalk.i64_left]
  exact mid_eq a b ha hb
end Go.Proofs.Ytpiocfmdjgbamaa

/- Sums, and spans, of numbers that are not too great, by the engine. -/
set_option linter.unusedVariables false
set_option linter.unusedSimpArgs false
namespace Go.Proofs.Ytpiocfmdjgbamaa
open Go Go.RowKit Go.Eng
set_option maxRecDepth 100000
/-- A number of at most 2^62. -/
def I62 (a : Int) : Prop := -4611686018427387904 ≤ a ∧ a ≤ 4611686018427387903
theorem e_xadd {a b d : Int} (h : a + b = d) (ha : I62 a) (hb : I62 b) : PCalls Try.prog 90 [.int .i64 a, .int .i64 b] (· = .tuple [.int .i64 d, .bool true]) := by
  unfold I62 at ha hb
  (refine PCalls.ofY Try.func90 (by kernel_rfl) (by kernel_rfl) fun w hw R hR => ?_); (obtain ⟨wbin, wcmp, wun, wconv, wnot, wbeq, wmm, wscmp, wsadd, wslen, wsat, weqs, wlen, wnlen, wofNat, wtake, wdrop, wapp, wzero, wnat⟩ := w); (have hbin : wbin = binStd := congrArg Prims.bin hw); (have hcmp : wcmp = cmpStd := congrArg Prims.cmp hw); (have hun : wun = unStd := congrArg Prims.un hw); (have hconv : wconv = fun k n => k.wrap n := congrArg Prims.conv hw); (have hnot : wnot = fun b => !b := congrArg Prims.not hw); (have hbeq : wbeq = fun a b => a == b := congrArg Prims.beq hw); (have hmm : wmm = maxI := congrArg Prims.mm hw); (have hscmp : wscmp = scmpStd := congrArg Prims.scmp hw); (have hsadd : wsadd = fun x y => x ++ y := congrArg Prims.sadd hw); (have hslen : wslen = fun s => (s.size : Int) := congrArg Prims.slen hw); (have hsat : wsat = std.sat := congrArg Prims.sat hw); (have heqs : weqs = fun a b os => (eqOffs a b os).getD false := congrArg Prims.eqs hw); (have hlen : wlen = fun es => (es.length : Int) := congrArg Prims.len hw); (have hnlen : wnlen = fun es => es.length := congrArg Prims.nlen hw); (have hofNat : wofNat = (fun n : Nat => (n : Int)) := congrArg Prims.ofNat hw); (have htake : wtake = fun es b => es.take b.toNat := congrArg Prims.take hw); (have hdrop : wdrop = fun es a => es.drop a.toNat := congrArg Prims.drop hw); (have happ : wapp = fun a b => a ++ b := congrArg Prims.app hw); (have hzero : wzero = fun n z => List.replicate n.toNat z := congrArg Prims.zero hw); (have hnat : wnat = fun n => n.toNat := congrArg Prims.nat hw); (conv => arg 2; cbv); (generalize hP : Try.prog = P); cbv
  have ed : wbin .add .i64 a b = d := by rw [hbin, i_add (by omega) (by omega)]; exact h
  simp only [ed]
  have hb1 : wbeq (wcmp .geq a 0) (wcmp .geq b 0) = false ∨ wbeq (wcmp .geq d 0) (wcmp .geq a 0) = true := by
    rw [hbeq, hcmp]
    simp only [cmpStd, beq_iff_eq, beq_eq_false_iff_ne, ne_eq, decide_eq_decide]
    omega
  repeat' (split <;> rename_i h1 <;> (try (simp only [hbin, hcmp, hun, hconv, hnot, hbeq, hmm, hscmp, hsadd, hslen, hsat, heqs, hofNat, binStd, cmpStd, unStd, scmpStd, maxI, Bool.not_eq_true', Bool.not_eq_false', decide_eq_true_eq, decide_eq_false_iff_not, Int.not_lt, Int.not_le, if_true, if_false, Bool.false_eq_true, beq_iff_eq, bne_iff_ne, ne_eq, Bool.not_eq_eq_eq_not, Bool.not_true, Bool.not_false, beq_eq_false_iff_ne, bne_eq_false_iff_eq, Int.ofNat_eq_natCast, Bool.not_not, not_true_eq_false, not_false_eq_true, reduceCtorEq] at h1)) <;> (try cbv))
  all_goals first
    | exact ⟨_, Vw.same rfl, hR _ rfl⟩
    | (exfalso; simp only [hbeq, hcmp, cmpStd, beq_iff_eq, beq_eq_false_iff_ne, ne_eq, decide_eq_decide] at *; omega)
theorem e_xsub {a b d : Int} (h : a - b = d) (ha : I62 a) (hb : I62 b) : PCalls Try.prog 97 [.int .i64 a, .int .i64 b] (· = .tuple [.int .i64 d, .bool true]) := by
  unfold I62 at ha hb
  (refine PCalls.ofY Try.func97 (by kernel_rfl) (by kernel_rfl) fun w hw R hR => ?_); (obtain ⟨wbin, wcmp, wun, wconv, wnot, wbeq, wmm, wscmp, wsadd, wslen, wsat, weqs, wlen, wnlen, wofNat, wtake, wdrop, wapp, wzero, wnat⟩ := w); (have hbin : wbin = binStd := congrArg Prims.bin hw); (have hcmp : wcmp = cmpStd := congrArg Prims.cmp hw); (have hun : wun = unStd := congrArg Prims.un hw); (have hconv : wconv = fun k n => k.wrap n := congrArg Prims.conv hw); (have hnot : wnot = fun b => !b := congrArg Prims.not hw); (have hbeq : wbeq = fun a b => a == b := congrArg Prims.beq hw); (have hmm : wmm = maxI := congrArg Prims.mm hw); (have hscmp : wscmp = scmpStd := congrArg Prims.scmp hw); (have hsadd : wsadd = fun x y => x ++ y := congrArg Prims.sadd hw); (have hslen : wslen = fun s => (s.size : Int) := congrArg Prims.slen hw); (have hsat : wsat = std.sat := congrArg Prims.sat hw); (have heqs : weqs = fun a b os => (eqOffs a b os).getD false := congrArg Prims.eqs hw); (have hlen : wlen = fun es => (es.length : Int) := congrArg Prims.len hw); (have hnlen : wnlen = fun es => es.length := congrArg Prims.nlen hw); (have hofNat : wofNat = (fun n : Nat => (n : Int)) := congrArg Prims.ofNat hw); (have htake : wtake = fun es b => es.take b.toNat := congrArg Prims.take hw); (have hdrop : wdrop = fun es a => es.drop a.toNat := congrArg Prims.drop hw); (have happ : wapp = fun a b => a ++ b := congrArg Prims.app hw); (have hzero : wzero = fun n z => List.replicate n.toNat z := congrArg Prims.zero hw); (have hnat : wnat = fun n => n.toNat := congrArg Prims.nat hw); (conv => arg 2; cbv); (generalize hP : Try.prog = P); cbv
  have ed : wbin .sub .i64 a b = d := by rw [hbin, i_sub (by omega) (by omega)]; exact h
  simp only [ed]
  have hb1 : wbeq (wcmp .geq a 0) (wcmp .geq b 0) = true ∨ wbeq (wcmp .geq d 0) (wcmp .geq a 0) = true := by
    rw [hbeq, hcmp]
    simp only [cmpStd, beq_iff_eq, decide_eq_decide]
    omega
  repeat' (split <;> rename_i h1 <;> (try (simp only [hbin, hcmp, hun, hconv, hnot, hbeq, hmm, hscmp, hsadd, hslen, hsat, heqs, hofNat, binStd, cmpStd, unStd, scmpStd, maxI, Bool.not_eq_true', Bool.not_eq_false', decide_eq_true_eq, decide_eq_false_iff_not, Int.not_lt, Int.not_le, if_true, if_false, Bool.false_eq_true, beq_iff_eq, bne_iff_ne, ne_eq, Bool.not_eq_eq_eq_not, Bool.not_true, Bool.not_false, beq_eq_false_iff_ne, bne_eq_false_iff_eq, Int.ofNat_eq_natCast, Bool.not_not, not_true_eq_false, not_false_eq_true, reduceCtorEq] at h1)) <;> (try cbv))
  all_goals first
    | exact ⟨_, Vw.same rfl, hR _ rfl⟩
    | (exfalso; simp only [hbeq, hcmp, cmpStd, beq_iff_eq, decide_eq_decide] at *; omega)
theorem e_xnear (d : Int) (b : Bool) : PCalls Try.prog 94 [.int .i64 d, .bool true, .bool b] (· = .int .i64 d) := by
  (refine PCalls.ofY Try.func94 (by kernel_rfl) (by kernel_rfl) fun w hw R hR => ?_); (obtain ⟨wbin, wcmp, wun, wconv, wnot, wbeq, wmm, wscmp, wsadd, wslen, wsat, weqs, wlen, wnlen, wofNat, wtake, wdrop, wapp, wzero, wnat⟩ := w); (have hbin : wbin = binStd := congrArg Prims.bin hw); (have hcmp : wcmp = cmpStd := congrArg Prims.cmp hw); (have hun : wun = unStd := congrArg Prims.un hw); (have hconv : wconv = fun k n => k.wrap n := congrArg Prims.conv hw); (have hnot : wnot = fun b => !b := congrArg Prims.not hw); (have hbeq : wbeq = fun a b => a == b := congrArg Prims.beq hw); (have hmm : wmm = maxI := congrArg Prims.mm hw); (have hscmp : wscmp = scmpStd := congrArg Prims.scmp hw); (have hsadd : wsadd = fun x y => x ++ y := congrArg Prims.sadd hw); (have hslen : wslen = fun s => (s.size : Int) := congrArg Prims.slen hw); (have hsat : wsat = std.sat := congrArg Prims.sat hw); (have heqs : weqs = fun a b os => (eqOffs a b os).getD false := congrArg Prims.eqs hw); (have hlen : wlen = fun es => (es.length : Int) := congrArg Prims.len hw); (have hnlen : wnlen = fun es => es.length := congrArg Prims.nlen hw); (have hofNat : wofNat = (fun n : Nat => (n : Int)) := congrArg Prims.ofNat hw); (have htake : wtake = fun es b => es.take b.toNat := congrArg Prims.take hw); (have hdrop : wdrop = fun es a => es.drop a.toNat := congrArg Prims.drop hw); (have happ : wapp = fun a b => a ++ b := congrArg Prims.app hw); (have hzero : wzero = fun n z => List.replicate n.toNat z := congrArg Prims.zero hw); (have hnat : wnat = fun n => n.toNat := congrArg Prims.nat hw); (conv => arg 2; cbv); (generalize hP : Try.prog = P); cbv
  exact ⟨_, Vw.same rfl, hR _ rfl⟩
theorem e_xaddSat {a b d : Int} (h : a + b = d) (ha : I62 a) (hb : I62 b) : PCalls Try.prog 66 [.int .i64 a, .int .i64 b] (· = .int .i64 d) := by
  (refine PCalls.ofY Try.func66 (by kernel_rfl) (by kernel_rfl) fun w hw R hR => ?_); (obtain ⟨wbin, wcmp, wun, wconv, wnot, wbeq, wmm, wscmp, wsadd, wslen, wsat, weqs, wlen, wnlen, wofNat, wtake, wdrop, wapp, wzero, wnat⟩ := w); (have hbin : wbin = binStd := congrArg Prims.bin hw); (have hcmp : wcmp = cmpStd := congrArg Prims.cmp hw); (have hun : wun = unStd := congrArg Prims.un hw); (have hconv : wconv = fun k n => k.wrap n := congrArg Prims.conv hw); (have hnot : wnot = fun b => !b := congrArg Prims.not hw); (have hbeq : wbeq = fun a b => a == b := congrArg Prims.beq hw); (have hmm : wmm = maxI := congrArg Prims.mm hw); (have hscmp : wscmp = scmpStd := congrArg Prims.scmp hw); (have hsadd : wsadd = fun x y => x ++ y := congrArg Prims.sadd hw); (have hslen : wslen = fun s => (s.size : Int) := congrArg Prims.slen hw); (have hsat : wsat = std.sat := congrArg Prims.sat hw); (have heqs : weqs = fun a b os => (eqOffs a b os).getD false := congrArg Prims.eqs hw); (have hlen : wlen = fun es => (es.length : Int) := congrArg Prims.len hw); (have hnlen : wnlen = fun es => es.length := congrArg Prims.nlen hw); (have hofNat : wofNat = (fun n : Nat => (n : Int)) := congrArg Prims.ofNat hw); (have htake : wtake = fun es b => es.take b.toNat := congrArg Prims.take hw); (have hdrop : wdrop = fun es a => es.drop a.toNat := congrArg Prims.drop hw); (have happ : wapp = fun a b => a ++ b := congrArg Prims.app hw); (have hzero : wzero = fun n z => List.replicate n.toNat z := congrArg Prims.zero hw); (have hnat : wnat = fun n => n.toNat := congrArg Prims.nat hw); (conv => arg 2; cbv); (generalize hP : Try.prog = P); cbv
  refine Call.stepE (by rw [← hP]; exact e_xadd h ha hb) rfl ?_
  cbv
  obtain ⟨o, eo⟩ : ∃ o, wcmp .lss a 0 = o := ⟨_, rfl⟩
  simp only [eo]
  refine Call.stepE (by rw [← hP]; exact e_xnear d o) rfl ?_
  cbv
  exact ⟨_, Vw.same rfl, hR _ rfl⟩
theorem mmT' (a b : Int) : maxI true a b = max a b := by simp only [maxI, if_true]; split <;> omega
theorem mmF' (a b : Int) : maxI false a b = min a b := by simp only [maxI, Bool.false_eq_true, if_false]; split <;> omega
theorem e_xclamp {x lo hi v : Int} (h : max lo (min x hi) = v) : PCalls Try.prog 65 [.int .i64 x, .int .i64 lo, .int .i64 hi] (· = .int .i64 v) := by
  (refine PCalls.ofY Try.func65 (by kernel_rfl) (by kernel_rfl) fun w hw R hR => ?_); (obtain ⟨wbin, wcmp, wun, wconv, wnot, wbeq, wmm, wscmp, wsadd, wslen, wsat, weqs, wlen, wnlen, wofNat, wtake, wdrop, wapp, wzero, wnat⟩ := w); (have hbin : wbin = binStd := congrArg Prims.bin hw); (have hcmp : wcmp = cmpStd := congrArg Prims.cmp hw); (have hun : wun = unStd := congrArg Prims.un hw); (have hconv : wconv = fun k n => k.wrap n := congrArg Prims.conv hw); (have hnot : wnot = fun b => !b := congrArg Prims.not hw); (have hbeq : wbeq = fun a b => a == b := congrArg Prims.beq hw); (have hmm : wmm = maxI := congrArg Prims.mm hw); (have hscmp : wscmp = scmpStd := congrArg Prims.scmp hw); (have hsadd : wsadd = fun x y => x ++ y := congrArg Prims.sadd hw); (have hslen : wslen = fun s => (s.size : Int) := congrArg Prims.slen hw); (have hsat : wsat = std.sat := congrArg Prims.sat hw); (have heqs : weqs = fun a b os => (eqOffs a b os).getD false := congrArg Prims.eqs hw); (have hlen : wlen = fun es => (es.length : Int) := congrArg Prims.len hw); (have hnlen : wnlen = fun es => es.length := congrArg Prims.nlen hw); (have hofNat : wofNat = (fun n : Nat => (n : Int)) := congrArg Prims.ofNat hw); (have htake : wtake = fun es b => es.take b.toNat := congrArg Prims.take hw); (have hdrop : wdrop = fun es a => es.drop a.toNat := congrArg Prims.drop hw); (have happ : wapp = fun a b => a ++ b := congrArg Prims.app hw); (have hzero : wzero = fun n z => List.replicate n.toNat z := congrArg Prims.zero hw); (have hnat : wnat = fun n => n.toNat := congrArg Prims.nat hw); (conv => arg 2; cbv); (generalize hP : Try.prog = P); cbv
  obtain ⟨m, em⟩ : ∃ m, min x hi = m := ⟨_, rfl⟩
  have e1 : wmm false x hi = m := by rw [hmm, mmF', em]
  have e2 : wmm true lo m = v := by rw [hmm, mmT', ← h, em]
  simp only [e1, e2]
  exact ⟨_, Vw.same rfl, hR _ rfl⟩
theorem e_xboth {lo hi : Int} (h : lo ≤ hi) : PCalls Try.prog 91 [.int .i64 lo, .bool true, .int .i64 hi, .bool true] (· = .tuple [.agg [.int .i64 lo, .int .i64 hi], .bool true]) := by
  (refine PCalls.ofY Try.func91 (by kernel_rfl) (by kernel_rfl) fun w hw R hR => ?_); (obtain ⟨wbin, wcmp, wun, wconv, wnot, wbeq, wmm, wscmp, wsadd, wslen, wsat, weqs, wlen, wnlen, wofNat, wtake, wdrop, wapp, wzero, wnat⟩ := w); (have hbin : wbin = binStd := congrArg Prims.bin hw); (have hcmp : wcmp = cmpStd := congrArg Prims.cmp hw); (have hun : wun = unStd := congrArg Prims.un hw); (have hconv : wconv = fun k n => k.wrap n := congrArg Prims.conv hw); (have hnot : wnot = fun b => !b := congrArg Prims.not hw); (have hbeq : wbeq = fun a b => a == b := congrArg Prims.beq hw); (have hmm : wmm = maxI := congrArg Prims.mm hw); (have hscmp : wscmp = scmpStd := congrArg Prims.scmp hw); (have hsadd : wsadd = fun x y => x ++ y := congrArg Prims.sadd hw); (have hslen : wslen = fun s => (s.size : Int) := congrArg Prims.slen hw); (have hsat : wsat = std.sat := congrArg Prims.sat hw); (have heqs : weqs = fun a b os => (eqOffs a b os).getD false := congrArg Prims.eqs hw); (have hlen : wlen = fun es => (es.length : Int) := congrArg Prims.len hw); (have hnlen : wnlen = fun es => es.length := congrArg Prims.nlen hw); (have hofNat : wofNat = (fun n : Nat => (n : Int)) := congrArg Prims.ofNat hw); (have htake : wtake = fun es b => es.take b.toNat := congrArg Prims.take hw); (have hdrop : wdrop = fun es a => es.drop a.toNat := congrArg Prims.drop hw); (have happ : wapp = fun a b => a ++ b := congrArg Prims.app hw); (have hzero : wzero = fun n z => List.replicate n.toNat z := congrArg Prims.zero hw); (have hnat : wnat = fun n => n.toNat := congrArg Prims.nat hw); (conv => arg 2; cbv); (generalize hP : Try.prog = P); cbv
  repeat' (split <;> rename_i h1 <;> (try (simp only [hbin, hcmp, hun, hconv, hnot, hbeq, hmm, hscmp, hsadd, hslen, hsat, heqs, hofNat, binStd, cmpStd, unStd, scmpStd, maxI, Bool.not_eq_true', Bool.not_eq_false', decide_eq_true_eq, decide_eq_false_iff_not, Int.not_lt, Int.not_le, if_true, if_false, Bool.false_eq_true, beq_iff_eq, bne_iff_ne, ne_eq, Bool.not_eq_eq_eq_not, Bool.not_true, Bool.not_false, beq_eq_false_iff_ne, bne_eq_false_iff_eq, Int.ofNat_eq_natCast, Bool.not_not, not_true_eq_false, not_false_eq_true, reduceCtorEq] at h1)) <;> (try cbv))
  all_goals first
    | (exfalso; omega)
    | exact ⟨_, Vw.same rfl, hR _ rfl⟩
theorem e_xbothNo {lo hi : Int} (h : hi < lo) : PCalls Try.prog 91 [.int .i64 lo, .bool true, .int .i64 hi, .bool true] (· = .tuple [.agg [.int .i64 0, .int .i64 0], .bool false]) := by
  (refine PCalls.ofY Try.func91 (by kernel_rfl) (by kernel_rfl) fun w hw R hR => ?_); (obtain ⟨wbin, wcmp, wun, wconv, wnot, wbeq, wmm, wscmp, wsadd, wslen, wsat, weqs, wlen, wnlen, wofNat, wtake, wdrop, wapp, wzero, wnat⟩ := w); (have hbin : wbin = binStd := congrArg Prims.bin hw); (have hcmp : wcmp = cmpStd := congrArg Prims.cmp hw); (have hun : wun = unStd := congrArg Prims.un hw); (have hconv : wconv = fun k n => k.wrap n := congrArg Prims.conv hw); (have hnot : wnot = fun b => !b := congrArg Prims.not hw); (have hbeq : wbeq = fun a b => a == b := congrArg Prims.beq hw); (have hmm : wmm = maxI := congrArg Prims.mm hw); (have hscmp : wscmp = scmpStd := congrArg Prims.scmp hw); (have hsadd : wsadd = fun x y => x ++ y := congrArg Prims.sadd hw); (have hslen : wslen = fun s => (s.size : Int) := congrArg Prims.slen hw); (have hsat : wsat = std.sat := congrArg Prims.sat hw); (have heqs : weqs = fun a b os => (eqOffs a b os).getD false := congrArg Prims.eqs hw); (have hlen : wlen = fun es => (es.length : Int) := congrArg Prims.len hw); (have hnlen : wnlen = fun es => es.length := congrArg Prims.nlen hw); (have hofNat : wofNat = (fun n : Nat => (n : Int)) := congrArg Prims.ofNat hw); (have htake : wtake = fun es b => es.take b.toNat := congrArg Prims.take hw); (have hdrop : wdrop = fun es a => es.drop a.toNat := congrArg Prims.drop hw); (have happ : wapp = fun a b => a ++ b := congrArg Prims.app hw); (have hzero : wzero = fun n z => List.replicate n.toNat z := congrArg Prims.zero hw); (have hnat : wnat = fun n => n.toNat := congrArg Prims.nat hw); (conv => arg 2; cbv); (generalize hP : Try.prog = P); cbv
  repeat' (split <;> rename_i h1 <;> (try (simp only [hbin, hcmp, hun, hconv, hnot, hbeq, hmm, hscmp, hsadd, hslen, hsat, heqs, hofNat, binStd, cmpStd, unStd, scmpStd, maxI, Bool.not_eq_true', Bool.not_eq_false', decide_eq_true_eq, decide_eq_false_iff_not, Int.not_lt, Int.not_le, if_true, if_false, Bool.false_eq_true, beq_iff_eq, bne_iff_ne, ne_eq, Bool.not_eq_eq_eq_not, Bool.not_true, Bool.not_false, beq_eq_false_iff_ne, bne_eq_false_iff_eq, Int.ofNat_eq_natCast, Bool.not_not, not_true_eq_false, not_false_eq_true, reduceCtorEq] at h1)) <;> (try cbv))
  all_goals first
    | (exfalso; omega)
    | exact ⟨_, Vw.same rfl, hR _ rfl⟩
theorem e_xright {a b : Int} (o : Bool) (ho : decide (a ≤ b) = o) : PCalls Try.prog 27 [.agg [.int .i64 a, .int .i64 b]] (· = .bool o) := by
  (refine PCalls.ofY Try.func27 (by kernel_rfl) (by kernel_rfl) fun w hw R hR => ?_); (obtain ⟨wbin, wcmp, wun, wconv, wnot, wbeq, wmm, wscmp, wsadd, wslen, wsat, weqs, wlen, wnlen, wofNat, wtake, wdrop, wapp, wzero, wnat⟩ := w); (have hbin : wbin = binStd := congrArg Prims.bin hw); (have hcmp : wcmp = cmpStd := congrArg Prims.cmp hw); (have hun : wun = unStd := congrArg Prims.un hw); (have hconv : wconv = fun k n => k.wrap n := congrArg Prims.conv hw); (have hnot : wnot = fun b => !b := congrArg Prims.not hw); (have hbeq : wbeq = fun a b => a == b := congrArg Prims.beq hw); (have hmm : wmm = maxI := congrArg Prims.mm hw); (have hscmp : wscmp = scmpStd := congrArg Prims.scmp hw); (have hsadd : wsadd = fun x y => x ++ y := congrArg Prims.sadd hw); (have hslen : wslen = fun s => (s.size : Int) := congrArg Prims.slen hw); (have hsat : wsat = std.sat := congrArg Prims.sat hw); (have heqs : weqs = fun a b os => (eqOffs a b os).getD false := congrArg Prims.eqs hw); (have hlen : wlen = fun es => (es.length : Int) := congrArg Prims.len hw); (have hnlen : wnlen = fun es => es.length := congrArg Prims.nlen hw); (have hofNat : wofNat = (fun n : Nat => (n : Int)) := congrArg Prims.ofNat hw); (have htake : wtake = fun es b => es.take b.toNat := congrArg Prims.take hw); (have hdrop : wdrop = fun es a => es.drop a.toNat := congrArg Prims.drop hw); (have happ : wapp = fun a b => a ++ b := congrArg Prims.app hw); (have hzero : wzero = fun n z => List.replicate n.toNat z := congrArg Prims.zero hw); (have hnat : wnat = fun n => n.toNat := congrArg Prims.nat hw); (conv => arg 2; cbv); (generalize hP : Try.prog = P); cbv
  refine ⟨_, Vw.same rfl, hR _ ?_⟩
  rw [hcmp, ← ho]; rfl
theorem e_xin {a b c d : Int} (o : Bool) (ho : decide (a ≤ b → c ≤ a ∧ b ≤ d) = o) : PCalls Try.prog 28 [.agg [.int .i64 a, .int .i64 b], .agg [.int .i64 c, .int .i64 d]] (· = .bool o) := by
  obtain ⟨u, eu⟩ : ∃ u, decide (a ≤ b) = u := ⟨_, rfl⟩
  have hr := e_xright (a := a) (b := b) u eu
  (refine PCalls.ofY Try.func28 (by kernel_rfl) (by kernel_rfl) fun w hw R hR => ?_); (obtain ⟨wbin, wcmp, wun, wconv, wnot, wbeq, wmm, wscmp, wsadd, wslen, wsat, weqs, wlen, wnlen, wofNat, wtake, wdrop, wapp, wzero, wnat⟩ := w); (have hbin : wbin = binStd := congrArg Prims.bin hw); (have hcmp : wcmp = cmpStd := congrArg Prims.cmp hw); (have hun : wun = unStd := congrArg Prims.un hw); (have hconv : wconv = fun k n => k.wrap n := congrArg Prims.conv hw); (have hnot : wnot = fun b => !b := congrArg Prims.not hw); (have hbeq : wbeq = fun a b => a == b := congrArg Prims.beq hw); (have hmm : wmm = maxI := congrArg Prims.mm hw); (have hscmp : wscmp = scmpStd := congrArg Prims.scmp hw); (have hsadd : wsadd = fun x y => x ++ y := congrArg Prims.sadd hw); (have hslen : wslen = fun s => (s.size : Int) := congrArg Prims.slen hw); (have hsat : wsat = std.sat := congrArg Prims.sat hw); (have heqs : weqs = fun a b os => (eqOffs a b os).getD false := congrArg Prims.eqs hw); (have hlen : wlen = fun es => (es.length : Int) := congrArg Prims.len hw); (have hnlen : wnlen = fun es => es.length := congrArg Prims.nlen hw); (have hofNat : wofNat = (fun n : Nat => (n : Int)) := congrArg Prims.ofNat hw); (have htake : wtake = fun es b => es.take b.toNat := congrArg Prims.take hw); (have hdrop : wdrop = fun es a => es.drop a.toNat := congrArg Prims.drop hw); (have happ : wapp = fun a b => a ++ b := congrArg Prims.app hw); (have hzero : wzero = fun n z => List.replicate n.toNat z := congrArg Prims.zero hw); (have hnat : wnat = fun n => n.toNat := congrArg Prims.nat hw); (conv => arg 2; cbv); (generalize hP : Try.prog = P); cbv
  refine Call.stepE (by rw [← hP]; exact hr) rfl ?_
  cbv
  have hn : wnot u = !u := by rw [hnot]
  have hF : ∀ (o' : Bool) (h : AHeap), (o' = true ↔ (a ≤ b → c ≤ a ∧ b ≤ d)) → Ret [.bool o'] h R := fun o' h k => ⟨_, Vw.same rfl, hR _ (congrArg AV.bool (by rw [← ho, Bool.eq_iff_iff, k, decide_eq_true_iff]))⟩
  cases u with
  | false =>
    have n1 : wnot false = true := by rw [hnot]; rfl
    simp only [n1]
    cbv
    exact hF true _ (by simp at eu ⊢; omega)
  | true =>
    have n1 : wnot true = false := by rw [hnot]; rfl
    simp only [n1]
    cbv
    have eu' : a ≤ b := by simpa using eu
    (split <;> rename_i h1 <;> (try (simp only [hbin, hcmp, hun, hconv, hnot, hbeq, hmm, hscmp, hsadd, hslen, hsat, heqs, hofNat, binStd, cmpStd, unStd, scmpStd, maxI, Bool.not_eq_true', Bool.not_eq_false', decide_eq_true_eq, decide_eq_false_iff_not, Int.not_lt, Int.not_le, if_true, if_false, Bool.false_eq_true, beq_iff_eq, bne_iff_ne, ne_eq, Bool.not_eq_eq_eq_not, Bool.not_true, Bool.not_false, beq_eq_false_iff_ne, bne_eq_false_iff_eq, Int.ofNat_eq_natCast, Bool.not_not, not_true_eq_false, not_false_eq_true, reduceCtorEq] at h1)) <;> (try cbv))
    · refine hF _ _ ?_
      rw [hcmp]
      simp only [cmpStd, decide_eq_true_iff]
      omega
    · exact hF false _ (by simp; omega)
theorem e_xhas {a b x : Int} (o : Bool) (ho : decide (a ≤ x ∧ x ≤ b) = o) : PCalls Try.prog 23 [.agg [.int .i64 a, .int .i64 b], .int .i64 x] (· = .bool o) := by
  (refine PCalls.ofY Try.func23 (by kernel_rfl) (by kernel_rfl) fun w hw R hR => ?_); (obtain ⟨wbin, wcmp, wun, wconv, wnot, wbeq, wmm, wscmp, wsadd, wslen, wsat, weqs, wlen, wnlen, wofNat, wtake, wdrop, wapp, wzero, wnat⟩ := w); (have hbin : wbin = binStd := congrArg Prims.bin hw); (have hcmp : wcmp = cmpStd := congrArg Prims.cmp hw); (have hun : wun = unStd := congrArg Prims.un hw); (have hconv : wconv = fun k n => k.wrap n := congrArg Prims.conv hw); (have hnot : wnot = fun b => !b := congrArg Prims.not hw); (have hbeq : wbeq = fun a b => a == b := congrArg Prims.beq hw); (have hmm : wmm = maxI := congrArg Prims.mm hw); (have hscmp : wscmp = scmpStd := congrArg Prims.scmp hw); (have hsadd : wsadd = fun x y => x ++ y := congrArg Prims.sadd hw); (have hslen : wslen = fun s => (s.size : Int) := congrArg Prims.slen hw); (have hsat : wsat = std.sat := congrArg Prims.sat hw); (have heqs : weqs = fun a b os => (eqOffs a b os).getD false := congrArg Prims.eqs hw); (have hlen : wlen = fun es => (es.length : Int) := congrArg Prims.len hw); (have hnlen : wnlen = fun es => es.length := congrArg Prims.nlen hw); (have hofNat : wofNat = (fun n : Nat => (n : Int)) := congrArg Prims.ofNat hw); (have htake : wtake = fun es b => es.take b.toNat := congrArg Prims.take hw); (have hdrop : wdrop = fun es a => es.drop a.toNat := congrArg Prims.drop hw); (have happ : wapp = fun a b => a ++ b := congrArg Prims.app hw); (have hzero : wzero = fun n z => List.replicate n.toNat z := congrArg Prims.zero hw); (have hnat : wnat = fun n => n.toNat := congrArg Prims.nat hw); (conv => arg 2; cbv); (generalize hP : Try.prog = P); cbv
  have hF : ∀ (o' : Bool) (h : AHeap), (o' = true ↔ (a ≤ x ∧ x ≤ b)) → Ret [.bool o'] h R := fun o' h k => ⟨_, Vw.same rfl, hR _ (congrArg AV.bool (by rw [← ho, Bool.eq_iff_iff, k, decide_eq_true_iff]))⟩
  (split <;> rename_i h1 <;> (try (simp only [hbin, hcmp, hun, hconv, hnot, hbeq, hmm, hscmp, hsadd, hslen, hsat, heqs, hofNat, binStd, cmpStd, unStd, scmpStd, maxI, Bool.not_eq_true', Bool.not_eq_false', decide_eq_true_eq, decide_eq_false_iff_not, Int.not_lt, Int.not_le, if_true, if_false, Bool.false_eq_true, beq_iff_eq, bne_iff_ne, ne_eq, Bool.not_eq_eq_eq_not, Bool.not_true, Bool.not_false, beq_eq_false_iff_ne, bne_eq_false_iff_eq, Int.ofNat_eq_natCast, Bool.not_not, not_true_eq_false, not_false_eq_true, reduceCtorEq] at h1)) <;> (try cbv))
  · refine hF _ _ ?_
    rw [hcmp]
    simp only [cmpStd, decide_eq_true_iff]
    omega
  · exact hF false _ (by simp; omega)
theorem e_xsadd {a b c d l h : Int} (h1 : a ≤ b) (h2 : c ≤ d) (hl : a + c = l) (hh : b + d = h) (ha : I62 a) (hb : I62 b) (hc : I62 c) (hd : I62 d) : PCalls Try.prog 59 [.agg [.int .i64 a, .int .i64 b], .agg [.int .i64 c, .int .i64 d]] (· = .tuple [.agg [.int .i64 l, .int .i64 h], .bool true]) := by
  have r1 := e_xright (a := a) (b := b) true (by simp [h1])
  have r2 := e_xright (a := c) (b := d) true (by simp [h2])
  have a1 := e_xadd hl ha hc
  have a2 := e_xadd hh hb hd
  have b1 := e_xboth (lo := l) (hi := h) (by omega)
  (refine PCalls.ofY Try.func59 (by kernel_rfl) (by kernel_rfl) fun w hw R hR => ?_); (obtain ⟨wbin, wcmp, wun, wconv, wnot, wbeq, wmm, wscmp, wsadd, wslen, wsat, weqs, wlen, wnlen, wofNat, wtake, wdrop, wapp, wzero, wnat⟩ := w); (have hbin : wbin = binStd := congrArg Prims.bin hw); (have hcmp : wcmp = cmpStd := congrArg Prims.cmp hw); (have hun : wun = unStd := congrArg Prims.un hw); (have hconv : wconv = fun k n => k.wrap n := congrArg Prims.conv hw); (have hnot : wnot = fun b => !b := congrArg Prims.not hw); (have hbeq : wbeq = fun a b => a == b := congrArg Prims.beq hw); (have hmm : wmm = maxI := congrArg Prims.mm hw); (have hscmp : wscmp = scmpStd := congrArg Prims.scmp hw); (have hsadd : wsadd = fun x y => x ++ y := congrArg Prims.sadd hw); (have hslen : wslen = fun s => (s.size : Int) := congrArg Prims.slen hw); (have hsat : wsat = std.sat := congrArg Prims.sat hw); (have heqs : weqs = fun a b os => (eqOffs a b os).getD false := congrArg Prims.eqs hw); (have hlen : wlen = fun es => (es.length : Int) := congrArg Prims.len hw); (have hnlen : wnlen = fun es => es.length := congrArg Prims.nlen hw); (have hofNat : wofNat = (fun n : Nat => (n : Int)) := congrArg Prims.ofNat hw); (have htake : wtake = fun es b => es.take b.toNat := congrArg Prims.take hw); (have hdrop : wdrop = fun es a => es.drop a.toNat := congrArg Prims.drop hw); (have happ : wapp = fun a b => a ++ b := congrArg Prims.app hw); (have hzero : wzero = fun n z => List.replicate n.toNat z := congrArg Prims.zero hw); (have hnat : wnat = fun n => n.toNat := congrArg Prims.nat hw); (conv => arg 2; cbv); (generalize hP : Try.prog = P); cbv
  have n1 : wnot true = false := by rw [hnot]; rfl
  repeat' (first
    | (refine Call.stepE (by rw [← hP]; exact r1) rfl ?_; cbv; simp only [n1]; cbv)
    | (refine Call.stepE (by rw [← hP]; exact r2) rfl ?_; cbv; simp only [n1]; cbv)
    | (refine Call.stepE (by rw [← hP]; exact a1) rfl ?_; cbv)
    | (refine Call.stepE (by rw [← hP]; exact a2) rfl ?_; cbv)
    | (refine Call.stepE (by rw [← hP]; exact b1) rfl ?_; cbv))
  exact ⟨_, Vw.same rfl, hR _ rfl⟩
theorem e_xmid {a b m : Int} (h : (a + b) / 2 = m) (ha : I64 a) (hb : I64 b) : PCalls Try.prog 63 [.agg [.int .i64 a, .int .i64 b]] (· = .int .i64 m) := by
  (refine PCalls.ofY Try.func63 (by kernel_rfl) (by kernel_rfl) fun w hw R hR => ?_); (obtain ⟨wbin, wcmp, wun, wconv, wnot, wbeq, wmm, wscmp, wsadd, wslen, wsat, weqs, wlen, wnlen, wofNat, wtake, wdrop, wapp, wzero, wnat⟩ := w); (have hbin : wbin = binStd := congrArg Prims.bin hw); (have hcmp : wcmp = cmpStd := congrArg Prims.cmp hw); (have hun : wun = unStd := congrArg Prims.un hw); (have hconv : wconv = fun k n => k.wrap n := congrArg Prims.conv hw); (have hnot : wnot = fun b => !b := congrArg Prims.not hw); (have hbeq : wbeq = fun a b => a == b := congrArg Prims.beq hw); (have hmm : wmm = maxI := congrArg Prims.mm hw); (have hscmp : wscmp = scmpStd := congrArg Prims.scmp hw); (have hsadd : wsadd = fun x y => x ++ y := congrArg Prims.sadd hw); (have hslen : wslen = fun s => (s.size : Int) := congrArg Prims.slen hw); (have hsat : wsat = std.sat := congrArg Prims.sat hw); (have heqs : weqs = fun a b os => (eqOffs a b os).getD false := congrArg Prims.eqs hw); (have hlen : wlen = fun es => (es.length : Int) := congrArg Prims.len hw); (have hnlen : wnlen = fun es => es.length := congrArg Prims.nlen hw); (have hofNat : wofNat = (fun n : Nat => (n : Int)) := congrArg Prims.ofNat hw); (have htake : wtake = fun es b => es.take b.toNat := congrArg Prims.take hw); (have hdrop : wdrop = fun es a => es.drop a.toNat := congrArg Prims.drop hw); (have happ : wapp = fun a b => a ++ b := congrArg Prims.app hw); (have hzero : wzero = fun n z => List.replicate n.toNat z := congrArg Prims.zero hw); (have hnat : wnat = fun n => n.toNat := congrArg Prims.nat hw); (conv => arg 2; cbv); (generalize hP : Try.prog = P); cbv
  refine Call.stepE (by rw [← hP]; exact (e_nmid a b ha hb).mono fun r hr => by rw [hr, h]) rfl ?_
  cbv
  exact ⟨_, Vw.same rfl, hR _ rfl⟩
theorem e_xmeet {a b c d x y : Int} (hx : max a c = x) (hy : min b d = y) (h : x ≤ y) : PCalls Try.prog 73 [.agg [.int .i64 a, .int .i64 b], .agg [.int .i64 c, .int .i64 d]] (· = .tuple [.agg [.int .i64 x, .int .i64 y], .bool true]) := by
  have b1 := e_xboth h
  (refine PCalls.ofY Try.func73 (by kernel_rfl) (by kernel_rfl) fun w hw R hR => ?_); (obtain ⟨wbin, wcmp, wun, wconv, wnot, wbeq, wmm, wscmp, wsadd, wslen, wsat, weqs, wlen, wnlen, wofNat, wtake, wdrop, wapp, wzero, wnat⟩ := w); (have hbin : wbin = binStd := congrArg Prims.bin hw); (have hcmp : wcmp = cmpStd := congrArg Prims.cmp hw); (have hun : wun = unStd := congrArg Prims.un hw); (have hconv : wconv = fun k n => k.wrap n := congrArg Prims.conv hw); (have hnot : wnot = fun b => !b := congrArg Prims.not hw); (have hbeq : wbeq = fun a b => a == b := congrArg Prims.beq hw); (have hmm : wmm = maxI := congrArg Prims.mm hw); (have hscmp : wscmp = scmpStd := congrArg Prims.scmp hw); (have hsadd : wsadd = fun x y => x ++ y := congrArg Prims.sadd hw); (have hslen : wslen = fun s => (s.size : Int) := congrArg Prims.slen hw); (have hsat : wsat = std.sat := congrArg Prims.sat hw); (have heqs : weqs = fun a b os => (eqOffs a b os).getD false := congrArg Prims.eqs hw); (have hlen : wlen = fun es => (es.length : Int) := congrArg Prims.len hw); (have hnlen : wnlen = fun es => es.length := congrArg Prims.nlen hw); (have hofNat : wofNat = (fun n : Nat => (n : Int)) := congrArg Prims.ofNat hw); (have htake : wtake = fun es b => es.take b.toNat := congrArg Prims.take hw); (have hdrop : wdrop = fun es a => es.drop a.toNat := congrArg Prims.drop hw); (have happ : wapp = fun a b => a ++ b := congrArg Prims.app hw); (have hzero : wzero = fun n z => List.replicate n.toNat z := congrArg Prims.zero hw); (have hnat : wnat = fun n => n.toNat := congrArg Prims.nat hw); (conv => arg 2; cbv); (generalize hP : Try.prog = P); cbv
  have e1 : wmm true a c = x := by rw [hmm, mmT', hx]
  have e2 : wmm false b d = y := by rw [hmm, mmF', hy]
  simp only [e1, e2]
  refine Call.stepE (by rw [← hP]; exact b1) rfl ?_
  cbv
  exact ⟨_, Vw.same rfl, hR _ rfl⟩
theorem e_xmeetNo {a b c d x y : Int} (hx : max a c = x) (hy : min b d = y) (h : y < x) : PCalls Try.prog 73 [.agg [.int .i64 a, .int .i64 b], .agg [.int .i64 c, .int .i64 d]] (· = .tuple [.agg [.int .i64 0, .int .i64 0], .bool false]) := by
  have b1 := e_xbothNo h
  (refine PCalls.ofY Try.func73 (by kernel_rfl) (by kernel_rfl) fun w hw R hR => ?_); (obtain ⟨wbin, wcmp, wun, wconv, wnot, wbeq, wmm, wscmp, wsadd, wslen, wsat, weqs, wlen, wnlen, wofNat, wtake, wdrop, wapp, wzero, wnat⟩ := w); (have hbin : wbin = binStd := congrArg Prims.bin hw); (have hcmp : wcmp = cmpStd := congrArg Prims.cmp hw); (have hun : wun = unStd := congrArg Prims.un hw); (have hconv : wconv = fun k n => k.wrap n := congrArg Prims.conv hw); (have hnot : wnot = fun b => !b := congrArg Prims.not hw); (have hbeq : wbeq = fun a b => a == b := congrArg Prims.beq hw); (have hmm : wmm = maxI := congrArg Prims.mm hw); (have hscmp : wscmp = scmpStd := congrArg Prims.scmp hw); (have hsadd : wsadd = fun x y => x ++ y := congrArg Prims.sadd hw); (have hslen : wslen = fun s => (s.size : Int) := congrArg Prims.slen hw); (have hsat : wsat = std.sat := congrArg Prims.sat hw); (have heqs : weqs = fun a b os => (eqOffs a b os).getD false := congrArg Prims.eqs hw); (have hlen : wlen = fun es => (es.length : Int) := congrArg Prims.len hw); (have hnlen : wnlen = fun es => es.length := congrArg Prims.nlen hw); (have hofNat : wofNat = (fun n : Nat => (n : Int)) := congrArg Prims.ofNat hw); (have htake : wtake = fun es b => es.take b.toNat := congrArg Prims.take hw); (have hdrop : wdrop = fun es a => es.drop a.toNat := congrArg Prims.drop hw); (have happ : wapp = fun a b => a ++ b := congrArg Prims.app hw); (have hzero : wzero = fun n z => List.replicate n.toNat z := congrArg Prims.zero hw); (have hnat : wnat = fun n => n.toNat := congrArg Prims.nat hw); (conv => arg 2; cbv); (generalize hP : Try.prog = P); cbv
  have e1 : wmm true a c = x := by rw [hmm, mmT', hx]
  have e2 : wmm false b d = y := by rw [hmm, mmF', hy]
  simp only [e1, e2]
  refine Call.stepE (by rw [← hP]; exact b1) rfl ?_
  cbv
  exact ⟨_, Vw.same rfl, hR _ rfl⟩
end Go.Proofs.Ytpiocfmdjgbamaa

/- A place, where it begins, by the engine. -/
set_option linter.unusedVariables false
set_option linter.unusedSimpArgs false
namespace Go.Proofs.Ytpiocfmdjgbamaa
open Go Go.RowKit Go.Eng
set_option maxRecDepth 100000
theorem e_xmid17 (a b m : Int) (ha : I62 a) (hb : I62 b) (hm : (a + b) / 2 = m) : PCalls Try.prog 64 [.int .i64 a, .int .i64 b] (· = .int .i64 m) := by
  unfold I62 at ha hb
  (refine PCalls.ofY Try.func64 (by kernel_rfl) (by kernel_rfl) fun w hw R hR => ?_); (obtain ⟨wbin, wcmp, wun, wconv, wnot, wbeq, wmm, wscmp, wsadd, wslen, wsat, weqs, wlen, wnlen, wofNat, wtake, wdrop, wapp, wzero, wnat⟩ := w); (have hbin : wbin = binStd := congrArg Prims.bin hw); (have hcmp : wcmp = cmpStd := congrArg Prims.cmp hw); (have hun : wun = unStd := congrArg Prims.un hw); (have hconv : wconv = fun k n => k.wrap n := congrArg Prims.conv hw); (have hnot : wnot = fun b => !b := congrArg Prims.not hw); (have hbeq : wbeq = fun a b => a == b := congrArg Prims.beq hw); (have hmm : wmm = maxI := congrArg Prims.mm hw); (have hscmp : wscmp = scmpStd := congrArg Prims.scmp hw); (have hsadd : wsadd = fun x y => x ++ y := congrArg Prims.sadd hw); (have hslen : wslen = fun s => (s.size : Int) := congrArg Prims.slen hw); (have hsat : wsat = std.sat := congrArg Prims.sat hw); (have heqs : weqs = fun a b os => (eqOffs a b os).getD false := congrArg Prims.eqs hw); (have hlen : wlen = fun es => (es.length : Int) := congrArg Prims.len hw); (have hnlen : wnlen = fun es => es.length := congrArg Prims.nlen hw); (have hofNat : wofNat = (fun n : Nat => (n : Int)) := congrArg Prims.ofNat hw); (have htake : wtake = fun es b => es.take b.toNat := congrArg Prims.take hw); (have hdrop : wdrop = fun es a => es.drop a.toNat := congrArg Prims.drop hw); (have happ : wapp = fun a b => a ++ b := congrArg Prims.app hw); (have hzero : wzero = fun n z => List.replicate n.toNat z := congrArg Prims.zero hw); (have hnat : wnat = fun n => n.toNat := congrArg Prims.nat hw); (conv => arg 2; cbv); (generalize hP : Try.prog = P); cbv
  obtain ⟨s, es⟩ : ∃ x, a + b = x := ⟨_, rfl⟩
  have e1 : wbin .add .i64 a b = s := by rw [hbin, ← es]; exact i_add (by omega) (by omega)
  obtain ⟨q, eq⟩ : ∃ x, s.tdiv 2 = x := ⟨_, rfl⟩
  obtain ⟨t, et⟩ : ∃ x, s.tmod 2 = x := ⟨_, rfl⟩
  have hq : q = s / 2 + (if 0 ≤ s ∨ (2 : Int) ∣ s then 0 else 1) := by rw [← eq, Int.tdiv_eq_ediv]; rfl
  have ht : t = s % 2 - (if 0 ≤ s ∨ (2 : Int) ∣ s then 0 else 2) := by rw [← et, Int.tmod_eq_emod]; congr 1; split <;> rfl
  have hq2 : q = s / 2 + (if 0 ≤ s ∨ s % 2 = 0 then 0 else 1) := by rw [hq]; congr 1; split <;> split <;> omega
  have ht2 : t = s % 2 - (if 0 ≤ s ∨ s % 2 = 0 then 0 else 2) := by rw [ht]; congr 1; split <;> split <;> omega
  clear hq ht
  have e2 : wbin .quo .i64 s 2 = q := by
    rw [hbin]
    show IntKind.i64.wrap (s.tdiv 2) = q
    rw [eq, IntKind.wrap_i64]; split at hq2 <;> omega
  have e3 : wbin .rem .i64 s 2 = t := by
    rw [hbin]
    exact et
  simp only [e1, e2, e3]
  refine Nz.mk (by decide) ?_
  refine Nz.mk (by decide) ?_
  (split <;> rename_i h <;> (try (simp only [hbin, hcmp, hun, hconv, hnot, hbeq, hmm, hscmp, hsadd, hslen, hsat, heqs, hofNat, binStd, cmpStd, unStd, scmpStd, maxI, Bool.not_eq_true', Bool.not_eq_false', decide_eq_true_eq, decide_eq_false_iff_not, Int.not_lt, Int.not_le, if_true, if_false, Bool.false_eq_true, beq_iff_eq, bne_iff_ne, ne_eq, Bool.not_eq_eq_eq_not, Bool.not_true, Bool.not_false, beq_eq_false_iff_ne, bne_eq_false_iff_eq, Int.ofNat_eq_natCast, Bool.not_not, not_true_eq_false, not_false_eq_true, reduceCtorEq] at h)) <;> (try cbv))
  · refine ⟨_, Vw.same rfl, hR _ (congrArg (AV.int .i64) (?_ : _ = m))⟩
    rw [← hm, hbin, i_sub (by split at hq2 <;> omega) (by split at hq2 <;> omega)]
    (try rw [← hm])
    split at hq2 <;> split at ht2 <;> omega
  · refine ⟨_, Vw.same rfl, hR _ (congrArg (AV.int .i64) (?_ : _ = m))⟩
    (try rw [← hm])
    split at hq2 <;> split at ht2 <;> omega
set_option maxHeartbeats 2000000 in
theorem e_reset (es ds : List (List AV)) (hu : Up0 es) (hud : Up0 ds) (g : Int) (hg : 0 ≤ g) (G : Gr) (hG : ds[g.toNat]? = some (grRow G)) (c0 c1 c2 c3 c4 c5 c6 c7 c8 c9 c10 c11 c12 c13 : Int) (hc : 0 ≤ c8 ∧ c8 ≤ 1048576) (hacc : 0 ≤ G.acc ∧ G.acc ≤ 1048576) (a b lo hi est : Int) (ha : I62 a) (hb : -4611686018427387904 ≤ b ∧ b ≤ 4611686018423193599) (hlo : -(G.acc + c8) + min 0 a = lo) (hhi : G.acc + c8 + max 0 b = hi) (hest : (lo + hi) / 2 = est) (r0 : List (List AV)) (er0 : r0 = [rtC [G.seg]]) :
    PCalls Try.prog 29 [.agg [.int .i64 c0, .int .i64 c1, .int .i64 c2, .int .i64 c3, .int .i64 c4, .int .i64 c5, .int .i64 c6, .int .i64 c7, .int .i64 c8, .int .i64 c9, .int .i64 c10, .int .i64 c11, .int .i64 c12, .int .i64 c13], .agg [.list 3 es, .list 5 ds], .int .i64 g, .agg [.int .i64 a, .int .i64 b]] (· = .agg [.bool true, .int .i64 g, .int .i64 lo, .int .i64 hi, .int .i64 est, .int .i64 G.off, .list 13 r0]) := by
  obtain ⟨gid, gseg, goff, gacc, gsl⟩ := G
  have hbeg := e_begin gseg goff gseg rfl
  have hbeg : PCalls Try.prog 18 [.int .i64 gseg, .int .i64 goff] (· = .agg [.int .i64 goff, .list 13 r0]) := by rw [er0]; exact hbeg
  have hG : ds[g.toNat]? = some [.int .i64 gid, .int .i64 gseg, .int .i64 goff, .int .i64 gacc, .int .i64 gsl] := hG
  have er0' := er0
  clear er0
  unfold I62 at ha
  simp only at hacc hlo hhi
  have hmid := e_xmid hest ⟨by omega, by omega⟩ ⟨by omega, by omega⟩
  (refine PCalls.ofY Try.func29 (by kernel_rfl) (by kernel_rfl) fun w hw R hR => ?_); (obtain ⟨wbin, wcmp, wun, wconv, wnot, wbeq, wmm, wscmp, wsadd, wslen, wsat, weqs, wlen, wnlen, wofNat, wtake, wdrop, wapp, wzero, wnat⟩ := w); (have hbin : wbin = binStd := congrArg Prims.bin hw); (have hcmp : wcmp = cmpStd := congrArg Prims.cmp hw); (have hun : wun = unStd := congrArg Prims.un hw); (have hconv : wconv = fun k n => k.wrap n := congrArg Prims.conv hw); (have hnot : wnot = fun b => !b := congrArg Prims.not hw); (have hbeq : wbeq = fun a b => a == b := congrArg Prims.beq hw); (have hmm : wmm = maxI := congrArg Prims.mm hw); (have hscmp : wscmp = scmpStd := congrArg Prims.scmp hw); (have hsadd : wsadd = fun x y => x ++ y := congrArg Prims.sadd hw); (have hslen : wslen = fun s => (s.size : Int) := congrArg Prims.slen hw); (have hsat : wsat = std.sat := congrArg Prims.sat hw); (have heqs : weqs = fun a b os => (eqOffs a b os).getD false := congrArg Prims.eqs hw); (have hlen : wlen = fun es => (es.length : Int) := congrArg Prims.len hw); (have hnlen : wnlen = fun es => es.length := congrArg Prims.nlen hw); (have hofNat : wofNat = (fun n : Nat => (n : Int)) := congrArg Prims.ofNat hw); (have htake : wtake = fun es b => es.take b.toNat := congrArg Prims.take hw); (have hdrop : wdrop = fun es a => es.drop a.toNat := congrArg Prims.drop hw); (have happ : wapp = fun a b => a ++ b := congrArg Prims.app hw); (have hzero : wzero = fun n z => List.replicate n.toNat z := congrArg Prims.zero hw); (have hnat : wnat = fun n => n.toNat := congrArg Prims.nat hw); (conv => arg 2; cbv); (generalize hP : Try.prog = P); cbv
  refine Idx.mk _ hg hG ?_
  cbv
  obtain ⟨fa, efa⟩ : ∃ z, gacc + c8 = z := ⟨_, rfl⟩
  obtain ⟨nf, enf⟩ : ∃ z, -fa = z := ⟨_, rfl⟩
  obtain ⟨x, ex⟩ : ∃ z, min 0 a = z := ⟨_, rfl⟩
  obtain ⟨y, ey⟩ : ∃ z, max 0 b = z := ⟨_, rfl⟩
  have b1 : wbin .add .i64 gacc c8 = fa := by rw [hbin, i_add (by omega) (by omega)]; exact efa
  have b2 : wun .neg .i64 fa = nf := by rw [hun, i_neg (by omega) (by omega)]; exact enf
  have b3 : wmm false 0 a = x := by rw [hmm, mmF', ex]
  have b4 : wmm true 0 b = y := by rw [hmm, mmT', ey]
  have b5 : wbin .add .i64 nf x = lo := by rw [hbin, i_add (by omega) (by omega)]; omega
  have b6 : wbin .add .i64 fa y = hi := by rw [hbin, i_add (by omega) (by omega)]; omega
  simp only [b1, b2, b3, b4, b5, b6]
  repeat' (first
    | (refine QCal.stepE (by rw [← hP]; exact hmid) rfl ?_; cbv)
    | (refine Call.stepE (by rw [← hP]; exact hmid) rfl ?_; cbv)
    | (refine QCal.stepE (by rw [← hP]; exact hbeg) rfl ?_; cbv)
    | (refine Call.stepE (by rw [← hP]; exact hbeg) rfl ?_; cbv)
    | (refine And.intro ?_ ?_))
  all_goals
    have hur0 : Up0 r0 := by rw [er0']; exact ⟨rfl⟩
    exact ⟨_, Vw.same (by simp only [retOne, AV.upto, uptoL, hur0.get]; rfl), hR _ rfl⟩
set_option maxHeartbeats 2000000 in
theorem e_rreset (es ds : List (List AV)) (hu : Up0 es) (hud : Up0 ds) (g : Int) (hg : 0 ≤ g) (G : Gr) (hG : ds[g.toNat]? = some (grRow G)) (c0 c1 c2 c3 c4 c5 c6 c7 c8 c9 c10 c11 c12 c13 : Int) (hc : 0 ≤ c8 ∧ c8 ≤ 1048576) (hacc : 0 ≤ G.acc ∧ G.acc ≤ 1048576) (a b lo hi est : Int) (ha : -1073741824 ≤ a ∧ a ≤ 1073741824) (hb : -1073741824 ≤ b ∧ b ≤ 1073741824) (hlo : -(G.acc + c8) + min 0 a = lo) (hhi : G.acc + c8 + max 0 b = hi) (hest : (lo + hi) / 2 = est) (q0 : List (List AV)) (eq0 : q0 = [rtRow [G.seg]]) :
    PCalls Try.prog 30 [.agg [.int .i64 c0, .int .i64 c1, .int .i64 c2, .int .i64 c3, .int .i64 c4, .int .i64 c5, .int .i64 c6, .int .i64 c7, .int .i64 c8, .int .i64 c9, .int .i64 c10, .int .i64 c11, .int .i64 c12, .int .i64 c13], .agg [.list 3 es, .list 5 ds], .int .i64 g, .int .i64 a, .int .i64 b] (· = .agg [.int .i64 1, .int .i64 g, .int .i64 lo, .int .i64 hi, .int .i64 est, .int .i64 G.off, .list 1 q0]) := by
  obtain ⟨gid, gseg, goff, gacc, gsl⟩ := G
  have hG : ds[g.toNat]? = some [.int .i64 gid, .int .i64 gseg, .int .i64 goff, .int .i64 gacc, .int .i64 gsl] := hG
  simp only at hacc hlo hhi
  have hmid := e_xmid17 lo hi est ⟨by omega, by omega⟩ ⟨by omega, by omega⟩ hest
  (refine PCalls.ofY Try.func30 (by kernel_rfl) (by kernel_rfl) fun w hw R hR => ?_); (obtain ⟨wbin, wcmp, wun, wconv, wnot, wbeq, wmm, wscmp, wsadd, wslen, wsat, weqs, wlen, wnlen, wofNat, wtake, wdrop, wapp, wzero, wnat⟩ := w); (have hbin : wbin = binStd := congrArg Prims.bin hw); (have hcmp : wcmp = cmpStd := congrArg Prims.cmp hw); (have hun : wun = unStd := congrArg Prims.un hw); (have hconv : wconv = fun k n => k.wrap n := congrArg Prims.conv hw); (have hnot : wnot = fun b => !b := congrArg Prims.not hw); (have hbeq : wbeq = fun a b => a == b := congrArg Prims.beq hw); (have hmm : wmm = maxI := congrArg Prims.mm hw); (have hscmp : wscmp = scmpStd := congrArg Prims.scmp hw); (have hsadd : wsadd = fun x y => x ++ y := congrArg Prims.sadd hw); (have hslen : wslen = fun s => (s.size : Int) := congrArg Prims.slen hw); (have hsat : wsat = std.sat := congrArg Prims.sat hw); (have heqs : weqs = fun a b os => (eqOffs a b os).getD false := congrArg Prims.eqs hw); (have hlen : wlen = fun es => (es.length : Int) := congrArg Prims.len hw); (have hnlen : wnlen = fun es => es.length := congrArg Prims.nlen hw); (have hofNat : wofNat = (fun n : Nat => (n : Int)) := congrArg Prims.ofNat hw); (have htake : wtake = fun es b => es.take b.toNat := congrArg Prims.take hw); (have hdrop : wdrop = fun es a => es.drop a.toNat := congrArg Prims.drop hw); (have happ : wapp = fun a b => a ++ b := congrArg Prims.app hw); (have hzero : wzero = fun n z => List.replicate n.toNat z := congrArg Prims.zero hw); (have hnat : wnat = fun n => n.toNat := congrArg Prims.nat hw); (conv => arg 2; cbv); (generalize hP : Try.prog = P); cbv
  refine Idx.mk _ hg hG ?_
  cbv
  obtain ⟨fa, efa⟩ : ∃ z, gacc + c8 = z := ⟨_, rfl⟩
  obtain ⟨nf, enf⟩ : ∃ z, -fa = z := ⟨_, rfl⟩
  have b1 : wbin .add .i64 gacc c8 = fa := by rw [hbin, i_add (by omega) (by omega)]; exact efa
  have b2 : wun .neg .i64 fa = nf := by rw [hun, i_neg (by omega) (by omega)]; exact enf
  obtain ⟨x, ex⟩ : ∃ z, nf + a = z := ⟨_, rfl⟩
  obtain ⟨y, ey⟩ : ∃ z, fa + b = z := ⟨_, rfl⟩
  have b3 : wbin .add .i64 nf a = x := by rw [hbin, i_add (by omega) (by omega)]; exact ex
  have b4 : wbin .add .i64 fa b = y := by rw [hbin, i_add (by omega) (by omega)]; exact ey
  have huq0 : Up0 q0 := by rw [eq0]; exact ⟨rfl⟩
  have eq1 : q0 = [[.list 1 [[.int .i64 gseg]]]] := eq0
  simp only [b1, b2]
  cbv
  repeat' (split <;> rename_i h <;> (try (simp only [b1, b2, b3, b4] at h)) <;> (try (simp only [hbin, hcmp, hun, hconv, hnot, hbeq, hmm, hscmp, hsadd, hslen, hsat, heqs, hofNat, binStd, cmpStd, unStd, scmpStd, maxI, Bool.not_eq_true', Bool.not_eq_false', decide_eq_true_eq, decide_eq_false_iff_not, Int.not_lt, Int.not_le, if_true, if_false, Bool.false_eq_true, beq_iff_eq, bne_iff_ne, ne_eq, Bool.not_eq_eq_eq_not, Bool.not_true, Bool.not_false, beq_eq_false_iff_ne, bne_eq_false_iff_eq, Int.ofNat_eq_natCast, Bool.not_not, not_true_eq_false, not_false_eq_true, reduceCtorEq] at h)) <;> (try cbv))
  all_goals
    (try simp only [b1, b2, b3, b4])
    (try rw [show (x : Int) = lo by omega])
    (try rw [show (nf : Int) = lo by omega])
    (try rw [show (y : Int) = hi by omega])
    (try rw [show (fa : Int) = hi by omega])
    refine Call.stepE (by rw [← hP]; exact hmid) rfl ?_
    cbv
    rw [← eq1]
    exact ⟨_, Vw.same (by simp only [retOne, AV.upto, uptoL, huq0.get]; rfl), hR _ rfl⟩
end Go.Proofs.Ytpiocfmdjgbamaa

/- What a growth may tell; places as rows. -/
set_option linter.unusedVariables false
set_option linter.unusedSimpArgs false
namespace Go.Proofs.Ytpiocfmdjgbamaa
open Go Go.RowKit Go.Eng
set_option maxRecDepth 100000
def plRow (p : Int × Int) : List AV := [.int .i64 p.1, .int .i64 p.2]
theorem up_pl (ps : List (Int × Int)) : Up0 (ps.map plRow) := up_map (f := plRow) (fun d => rfl) ps
theorem growA_e {ss : List Sg} {lo hi from_ : Int} {ls : List (List Int)} {v1 v3 : Int} {v2 : List (List Int)} (h : ((v1, v2), v3) = growA ss lo hi from_ ls) : v3 = 0 ∨ v3 = 13 ∨ v3 = 40 := by
  have he := growS_e (ss := ss) (lo := lo) (hi := hi) (from_ := from_) ls
  unfold growA at h
  split at h
  · simp only [Prod.mk.injEq] at h; exact .inr (.inr h.2)
  · split at h
    · simp only [Prod.mk.injEq] at h; rw [h.2]; exact he.imp id .inl
    · split at h
      · simp only [Prod.mk.injEq] at h; exact .inr (.inr h.2)
      · simp only [Prod.mk.injEq] at h; exact .inl h.2
end Go.Proofs.Ytpiocfmdjgbamaa

/- A place moves, by the engine. -/
set_option linter.unusedVariables false
set_option linter.unusedSimpArgs false
namespace Go.Proofs.Ytpiocfmdjgbamaa
open Go Go.RowKit Go.Eng
set_option maxRecDepth 100000
/-- Where a train may be. -/
structure PlT where
  lo : Int
  hi : Int
  est : Int
  m : List (List Int)
/-- What may be asked of a place. -/
structure PlOk (ss : List Sg) (p : PlT) : Prop where
  lo : -17592186044416 ≤ p.lo
  hi : p.hi ≤ 17592186044416
  le : p.lo ≤ p.est ∧ p.est ≤ p.hi
  way : ∀ l, l ∈ p.m → WayOk ss l
  few : p.m.length ≤ 16
/-- A place behind a cycle, and an error. -/
def moveV (ss : List Sg) (from_ : Int) (p : PlT) (a b : Int) : PlT × Int :=
  if p.lo + a < -17592186044416 ∨ 17592186044416 < p.hi + b then (p, 20)
  else (⟨p.lo + a, p.hi + b, max (p.lo + a) (min (p.est + (a + b) / 2) (p.hi + b)), (growA ss (p.lo + a) (p.hi + b) from_ p.m).1.2⟩, (growA ss (p.lo + a) (p.hi + b) from_ p.m).2)
theorem moveV_ok {ss : List Sg} (hnx : NextOk ss) {from_ : Int} {p : PlT} (hp : PlOk ss p) {a b : Int} (hab : a ≤ b) {q : PlT} {e : Int} (hv : (q, e) = moveV ss from_ p a b) : (e = 0 ∧ PlOk ss q) ∨ e = 13 ∨ e = 20 ∨ e = 40 := by
  have h1 := hp.lo
  have h2 := hp.hi
  have h3 := hp.le
  unfold moveV at hv
  split at hv
  · simp only [Prod.mk.injEq] at hv; exact .inr (.inr (.inl hv.2))
  · rename_i hn
    simp only [Prod.mk.injEq] at hv
    have hc := growA_ok (lo := p.lo + a) (hi := p.hi + b) (from_ := from_) hnx p.m hp.way rfl
    have he : e = 0 ∨ e = 13 ∨ e = 40 := growA_e (ss := ss) (lo := p.lo + a) (hi := p.hi + b) (from_ := from_) (ls := p.m) (v1 := (growA ss (p.lo + a) (p.hi + b) from_ p.m).1.1) (v2 := (growA ss (p.lo + a) (p.hi + b) from_ p.m).1.2) (by rw [hv.2])
    rcases he with he | he | he
    · refine .inl ⟨he, ?_⟩
      rcases hc with hc | hc
      · exact absurd (hv.2.symm.trans he) hc.1
      · rw [hv.1]
        exact ⟨by simp only; omega, by simp only; omega, by simp only; omega, fun l hl => (hc.2.2.ways l hl).1, hc.2.2.few⟩
    · exact .inr (.inl he)
    · exact .inr (.inr (.inr he))
set_option maxHeartbeats 2000000 in
theorem e_move (ss : List Sg) (gs : List Gr) (es ds : List (List AV)) (hes : es = ss.map sgRow) (hds : ds = gs.map grRow) (hln : LensOk ss) (hnx : NextOk ss) (g from_ : Int) (hf : 0 ≤ from_ ∧ from_ ≤ 1099511627776) (p : PlT) (hp : PlOk ss p) (rs : List (List AV)) (hrs : rs = p.m.map rtC) (a b : Int) (hab : a ≤ b) (ha : -1099511627776 ≤ a) (hb : b ≤ 1099511627776) (q : PlT) (e : Int) (hv : (q, e) = moveV ss from_ p a b) (us : List (List AV)) (hus : us = q.m.map rtC) :
    PCalls Try.prog 33 [.agg [.bool true, .int .i64 g, .int .i64 p.lo, .int .i64 p.hi, .int .i64 p.est, .int .i64 from_, .list 13 rs], .agg [.list 3 es, .list 5 ds], .agg [.int .i64 a, .int .i64 b]] (fun r => (e = 0 ∧ r = .tuple [.agg [.bool true, .int .i64 g, .int .i64 q.lo, .int .i64 q.hi, .int .i64 q.est, .int .i64 from_, .list 13 us], .int .i64 0]) ∨ (e ≠ 0 ∧ r = .tuple [.agg [.bool false, .int .i64 0, .int .i64 0, .int .i64 0, .int .i64 0, .int .i64 0, .nils], .int .i64 e])) := by
  have hu : Up0 es := by rw [hes]; exact up_sg ss
  have hud : Up0 ds := by rw [hds]; exact up_gr gs
  have hur : Up0 rs := by rw [hrs]; exact up_map (f := rtC) (fun d => rfl) p.m
  have huu : Up0 us := by rw [hus]; exact up_map (f := rtC) (fun d => rfl) q.m
  have hlo := hp.lo
  have hhi := hp.hi
  have hle := hp.le
  have hfew := hp.few
  obtain ⟨v, ev⟩ : ∃ v, v = growA ss (p.lo + a) (p.hi + b) from_ p.m := ⟨_, rfl⟩
  have hA := e_grows ss gs es ds hes hds hln hnx (p.lo + a) (p.hi + b) from_ hf p.m hp.way (by omega) rs hrs v ev
  have hok := growA_ok hnx p.m hp.way ev
  unfold moveV at hv
  rw [← ev] at hv
  have hem := growA_e (show ((v.1.1, v.1.2), v.2) = _ from ev)
  obtain ⟨⟨v1, v2⟩, v3⟩ := v
  obtain ⟨lo, hi, est, m⟩ := p
  simp only at hlo hhi hle hA hv hrs hfew hem hok
  obtain ⟨l', el'⟩ : ∃ x, lo + a = x := ⟨_, rfl⟩
  obtain ⟨h', eh'⟩ : ∃ x, hi + b = x := ⟨_, rfl⟩
  obtain ⟨md, emd⟩ : ∃ x, (a + b) / 2 = x := ⟨_, rfl⟩
  obtain ⟨s', es'⟩ : ∃ x, est + md = x := ⟨_, rfl⟩
  obtain ⟨t', et'⟩ : ∃ x, max l' (min s' h') = x := ⟨_, rfl⟩
  obtain ⟨u', eu'⟩ : ∃ x, v2.map rtC = x := ⟨_, rfl⟩
  rw [el', eh', emd, es', et'] at hv
  rw [el', eh'] at hA
  have hA : PCalls Try.prog 19 [.agg [.int .i64 from_, .list 13 rs], .agg [.list 3 es, .list 5 ds], .agg [.int .i64 l', .int .i64 h']] (· = .tuple [.agg [.int .i64 v1, .list 13 u'], .int .i64 v3]) := by rw [← eu']; exact hA
  have hugA : uptoL 0 [AV.agg [.int .i64 from_, .list 13 rs], .agg [.list 3 es, .list 5 ds], .agg [.int .i64 l', .int .i64 h']] = true := by simp only [uptoL, AV.upto, hu.get, hud.get, hur.get]; rfl
  have s1 := e_xsadd (by omega) hab el' eh' ⟨by omega, by omega⟩ ⟨by omega, by omega⟩ ⟨by omega, by omega⟩ ⟨by omega, by omega⟩
  have s3 := e_xmid emd ⟨by omega, by omega⟩ ⟨by omega, by omega⟩
  have s4 := e_xaddSat es' ⟨by omega, by omega⟩ ⟨by omega, by omega⟩
  have s5 := e_xclamp et'
  obtain ⟨o, eo⟩ : ∃ o, decide (l' ≤ h' → -17592186044416 ≤ l' ∧ h' ≤ 17592186044416) = o := ⟨_, rfl⟩
  have s2 := e_xin o eo
  show PCalls Try.prog 33 [.agg [.bool true, .int .i64 g, .int .i64 lo, .int .i64 hi, .int .i64 est, .int .i64 from_, .list 13 rs], .agg [.list 3 es, .list 5 ds], .agg [.int .i64 a, .int .i64 b]] _
  (refine PCalls.ofY Try.func33 (by kernel_rfl) (by kernel_rfl) fun w hw R hR => ?_); (obtain ⟨wbin, wcmp, wun, wconv, wnot, wbeq, wmm, wscmp, wsadd, wslen, wsat, weqs, wlen, wnlen, wofNat, wtake, wdrop, wapp, wzero, wnat⟩ := w); (have hbin : wbin = binStd := congrArg Prims.bin hw); (have hcmp : wcmp = cmpStd := congrArg Prims.cmp hw); (have hun : wun = unStd := congrArg Prims.un hw); (have hconv : wconv = fun k n => k.wrap n := congrArg Prims.conv hw); (have hnot : wnot = fun b => !b := congrArg Prims.not hw); (have hbeq : wbeq = fun a b => a == b := congrArg Prims.beq hw); (have hmm : wmm = maxI := congrArg Prims.mm hw); (have hscmp : wscmp = scmpStd := congrArg Prims.scmp hw); (have hsadd : wsadd = fun x y => x ++ y := congrArg Prims.sadd hw); (have hslen : wslen = fun s => (s.size : Int) := congrArg Prims.slen hw); (have hsat : wsat = std.sat := congrArg Prims.sat hw); (have heqs : weqs = fun a b os => (eqOffs a b os).getD false := congrArg Prims.eqs hw); (have hlen : wlen = fun es => (es.length : Int) := congrArg Prims.len hw); (have hnlen : wnlen = fun es => es.length := congrArg Prims.nlen hw); (have hofNat : wofNat = (fun n : Nat => (n : Int)) := congrArg Prims.ofNat hw); (have htake : wtake = fun es b => es.take b.toNat := congrArg Prims.take hw); (have hdrop : wdrop = fun es a => es.drop a.toNat := congrArg Prims.drop hw); (have happ : wapp = fun a b => a ++ b := congrArg Prims.app hw); (have hzero : wzero = fun n z => List.replicate n.toNat z := congrArg Prims.zero hw); (have hnat : wnat = fun n => n.toNat := congrArg Prims.nat hw); (conv => arg 2; cbv); (generalize hP : Try.prog = P); cbv
  have n1 : wnot true = false := by rw [hnot]; rfl
  have n2 : wnot false = true := by rw [hnot]; rfl
  simp only [n1]
  cbv
  refine Call.stepE (by rw [← hP]; exact s1) rfl ?_
  cbv
  simp only [n1]
  cbv
  refine Call.stepE (by rw [← hP]; exact s2) rfl ?_
  have hRR : ∀ r, ((e = 0 ∧ r = .tuple [.agg [.bool true, .int .i64 g, .int .i64 q.lo, .int .i64 q.hi, .int .i64 q.est, .int .i64 from_, .list 13 us], .int .i64 0]) ∨ (e ≠ 0 ∧ r = .tuple [.agg [.bool false, .int .i64 0, .int .i64 0, .int .i64 0, .int .i64 0, .int .i64 0, .nils], .int .i64 e])) → R r := hR
  have hZ2 : ∀ (x : Int) (h : AHeap), e ≠ 0 → x = e → Ret [.agg [.bool false, .int .i64 0, .int .i64 0, .int .i64 0, .int .i64 0, .int .i64 0, .nils], .int .i64 x] h R := fun x h h0 hx => ⟨_, Vw.same rfl, hR _ (.inr ⟨h0, by rw [← hx]; rfl⟩)⟩
  have hY : ∀ h : AHeap, e = 0 → q = ⟨l', h', t', v2⟩ → Ret [.agg [.bool true, .int .i64 g, .int .i64 l', .int .i64 h', .int .i64 t', .int .i64 from_, .list 13 u'], .int .i64 0] h R := fun h h0 hq => by
    have huu' : Up0 u' := by rw [← eu']; exact up_map (f := rtC) (fun d => rfl) v2
    refine ⟨_, Vw.same (by simp only [retOne, AV.upto, uptoL, huu'.get]; rfl), hR _ (.inl ⟨h0, ?_⟩)⟩
    rw [hq] at hus ⊢
    rw [hus, ← eu']; rfl
  by_cases hov : l' < -17592186044416 ∨ 17592186044416 < h'
  · rw [if_pos hov] at hv
    simp only [Prod.mk.injEq] at hv
    have ho : o = false := by rw [← eo]; simp; omega
    rw [ho]
    cbv
    simp only [n2]
    cbv
    exact hZ2 20 _ (by omega) hv.2.symm
  · rw [if_neg hov] at hv
    simp only [Prod.mk.injEq] at hv
    have ho : o = true := by rw [← eo]; simp; omega
    rw [ho]
    cbv
    simp only [n1]
    cbv
    refine Call.stepE (by rw [← hP]; exact hA) (by exact hugA) ?_
    cbv
    (split <;> rename_i h5 <;> (try (simp only [hbin, hcmp, hun, hconv, hnot, hbeq, hmm, hscmp, hsadd, hslen, hsat, heqs, hofNat, binStd, cmpStd, unStd, scmpStd, maxI, Bool.not_eq_true', Bool.not_eq_false', decide_eq_true_eq, decide_eq_false_iff_not, Int.not_lt, Int.not_le, if_true, if_false, Bool.false_eq_true, beq_iff_eq, bne_iff_ne, ne_eq, Bool.not_eq_eq_eq_not, Bool.not_true, Bool.not_false, beq_eq_false_iff_ne, bne_eq_false_iff_eq, Int.ofNat_eq_natCast, Bool.not_not, not_true_eq_false, not_false_eq_true, reduceCtorEq] at h5)) <;> (try cbv))
    · exact hZ2 v3 _ (by omega) hv.2.symm
    have hv1 : v1 = from_ := by
      rcases hok with h | h
      · exact absurd h5 h.1
      · exact h.2.1
    subst hv1
    repeat' (first
      | (refine Call.stepE (by rw [← hP]; exact s3) rfl ?_; cbv)
      | (refine QCal.stepE (by rw [← hP]; exact s3) rfl ?_; cbv)
      | (refine Call.stepE (by rw [← hP]; exact s4) rfl ?_; cbv)
      | (refine QCal.stepE (by rw [← hP]; exact s4) rfl ?_; cbv)
      | (refine Call.stepE (by rw [← hP]; exact s5) rfl ?_; cbv)
      | (refine QCal.stepE (by rw [← hP]; exact s5) rfl ?_; cbv)
      | (refine And.intro ?_ ?_))
    all_goals exact hY _ (by omega) hv.1
end Go.Proofs.Ytpiocfmdjgbamaa

/- A track as the document has it, by the engine. Printed by wip/tools/genrefs.py. -/
set_option linter.unusedVariables false
set_option linter.unusedSimpArgs false
namespace Go.Proofs.Ytpiocfmdjgbamaa
open Go Go.RowKit Go.Eng
set_option maxRecDepth 100000
set_option maxHeartbeats 4000000 in
theorem e_refsT21 (ss : List Sg) (gs : List Gr) (es ds : List (List AV)) (hes : es = ss.map sgRow) (hds : ds = gs.map grRow) (hm1 : ss.length ≤ 1000) (hm2 : gs.length ≤ 1000) (hm3 : ∀ s, s ∈ ss → s.ps.length ≤ 1000) : PCalls Try.prog 31 [.agg [.list 3 es, .list 5 ds]] (· = .agg [.list 3 es, .list 5 ds]) := by
  have hu : Up0 es := by rw [hes]; exact up_sg ss
  have hud : Up0 ds := by rw [hds]; exact up_gr gs
  have hel : es.length = ss.length := by rw [hes]; simp
  have hdl : ds.length = gs.length := by rw [hds]; simp
  (refine PCalls.ofY Try.func31 (by kernel_rfl) (by kernel_rfl) fun w hw R hR => ?_); (obtain ⟨wbin, wcmp, wun, wconv, wnot, wbeq, wmm, wscmp, wsadd, wslen, wsat, weqs, wlen, wnlen, wofNat, wtake, wdrop, wapp, wzero, wnat⟩ := w); (have hbin : wbin = binStd := congrArg Prims.bin hw); (have hcmp : wcmp = cmpStd := congrArg Prims.cmp hw); (have hun : wun = unStd := congrArg Prims.un hw); (have hconv : wconv = fun k n => k.wrap n := congrArg Prims.conv hw); (have hnot : wnot = fun b => !b := congrArg Prims.not hw); (have hbeq : wbeq = fun a b => a == b := congrArg Prims.beq hw); (have hmm : wmm = maxI := congrArg Prims.mm hw); (have hscmp : wscmp = scmpStd := congrArg Prims.scmp hw); (have hsadd : wsadd = fun x y => x ++ y := congrArg Prims.sadd hw); (have hslen : wslen = fun s => (s.size : Int) := congrArg Prims.slen hw); (have hsat : wsat = std.sat := congrArg Prims.sat hw); (have heqs : weqs = fun a b os => (eqOffs a b os).getD false := congrArg Prims.eqs hw); (have hlen : wlen = fun es => (es.length : Int) := congrArg Prims.len hw); (have hnlen : wnlen = fun es => es.length := congrArg Prims.nlen hw); (have hofNat : wofNat = (fun n : Nat => (n : Int)) := congrArg Prims.ofNat hw); (have htake : wtake = fun es b => es.take b.toNat := congrArg Prims.take hw); (have hdrop : wdrop = fun es a => es.drop a.toNat := congrArg Prims.drop hw); (have happ : wapp = fun a b => a ++ b := congrArg Prims.app hw); (have hzero : wzero = fun n z => List.replicate n.toNat z := congrArg Prims.zero hw); (have hnat : wnat = fun n => n.toNat := congrArg Prims.nat hw); (conv => arg 2; cbv); (generalize hP : Try.prog = P); cbv
  (obtain ⟨L, eL, L0, Ln⟩ : ∃ L : Int, wlen es = L ∧ 0 ≤ L ∧ L.toNat = es.length := ⟨(es.length : Int), by rw [hlen], Int.natCast_nonneg _, Int.toNat_natCast _⟩)
  refine Loop.data hw (S := Bd) (fun s => match s with | .start => fr 63 [(1, .ref 0 2 0 0), (2, .ref 1 2 0 0), (3, .ref 2 2 0 0), (12, .list 3 es), (13, .int .i64 L), (14, .int .i64 0)] | .more i n fs => fr 63 [(1, .ref 0 2 0 0), (2, .ref 1 2 0 0), (3, .ref 2 2 0 0), (12, .list 3 es), (13, .int .i64 L), (14, .int .i64 i)])
    (fun s => match s with | .start => [.live 2 [[.list 3 es, .list 5 ds]], .live 2 [[.nils, .nils]], .live 2 [[.nils, .nils]]] | .more i n fs => [.live 2 [[.list 3 es, .list 5 ds]], .live 2 [[.nils, .nils]], .live 2 [[.sl 3 3 0 n, .nils]], .live 3 fs]) (Bd.Ok es) (Bd.left es) .start (by (refine Wk.eqz (id) (by first | exact fun i _ j _ e => e | (simp only [List.length_cons, List.length_nil]; decide)) ?_; cbv; (repeat' (first | exact trivial | rfl | assumption | apply And.intro | (simp only [hbin, hcmp, hun, hconv, hnot, hbeq, hmm, hscmp, hsadd, hslen, hsat, heqs, hofNat, binStd, cmpStd, unStd, scmpStd, maxI, Bool.not_eq_true', Bool.not_eq_false', decide_eq_true_eq, decide_eq_false_iff_not, Int.not_lt, Int.not_le, if_true, if_false, Bool.false_eq_true, beq_iff_eq, bne_iff_ne, ne_eq, Bool.not_eq_eq_eq_not, Bool.not_true, Bool.not_false, beq_eq_false_iff_ne, bne_eq_false_iff_eq, Int.ofNat_eq_natCast, Bool.not_not, not_true_eq_false, not_false_eq_true, reduceCtorEq]; first | done | assumption) | exact RowsZ.same (by assumption) (by first | assumption | rfl) | exact FzL.mk rfl rfl rfl (by assumption) (by first | assumption | rfl) (by decide) | (refine RowsZ.one ?_; cbv))))) trivial ?_
  rintro (_ | ⟨i, n, fs⟩) hinv Q' hN hE hR'
  · cbv
    (split <;> rename_i hc <;> (try (simp only [hbin, hcmp, hun, hconv, hnot, hbeq, hmm, hscmp, hsadd, hslen, hsat, heqs, hofNat, binStd, cmpStd, unStd, scmpStd, maxI, Bool.not_eq_true', Bool.not_eq_false', decide_eq_true_eq, decide_eq_false_iff_not, Int.not_lt, Int.not_le, if_true, if_false, Bool.false_eq_true, beq_iff_eq, bne_iff_ne, ne_eq, Bool.not_eq_eq_eq_not, Bool.not_true, Bool.not_false, beq_eq_false_iff_ne, bne_eq_false_iff_eq, Int.ofNat_eq_natCast, Bool.not_not, not_true_eq_false, not_false_eq_true, reduceCtorEq] at hc)) <;> (try cbv))
    · obtain ⟨⟨len, ps, nx⟩, hd, hrow⟩ := get_map (f := sgRow) (ds := ss) (i := 0) (Int.le_refl 0) (by omega)
      obtain ⟨q1, eq1⟩ : ∃ x, ps.map pcRow = x := ⟨_, rfl⟩
      obtain ⟨n1, en1⟩ : ∃ x, nx.map nxRow = x := ⟨_, rfl⟩
      have hrow : es[(0 : Int).toNat]? = some [.int .i64 len, .list 2 q1, .list 1 n1] := by rw [hes, ← eq1, ← en1]; exact hrow
      have hql : q1.length = ps.length := by rw [← eq1]; simp
      have hpl : ps.length ≤ 1000 := hm3 ⟨len, ps, nx⟩ (List.mem_of_getElem? hd)
      have huq : Up0 q1 := by rw [← eq1]; exact up_pc ps
      have hun : Up0 n1 := by rw [← en1]; exact up_nx nx
      refine Idx.mk [.int .i64 len, .list 2 q1, .list 1 n1] (by decide) hrow ?_
      cbv
      have ei : wbin .add .i64 0 1 = 1 := by rw [hbin]; rfl
      have hT1 : Bd.left es (.more 1 1 [[.int .i64 len, .list 2 q1, .list 1 n1]]) < Bd.left es .start := by simp only [Bd.left]; omega
      have hI1 : Bd.Ok es (.more 1 1 [[.int .i64 len, .list 2 q1, .list 1 n1]]) := ⟨by decide, by omega, (take_row (Int.le_refl 0) hrow).symm, rfl, up_seg huq hun⟩
      (obtain ⟨K, eK, K0, Kn⟩ : ∃ L : Int, wlen q1 = L ∧ 0 ≤ L ∧ L.toNat = q1.length := ⟨(q1.length : Int), by rw [hlen], Int.natCast_nonneg _, Int.toNat_natCast _⟩)
      refine Loop.data hw (S := Bd) (fun s => match s with | .start => fr 63 [(1, .ref 0 2 0 0), (2, .ref 1 2 0 0), (3, .ref 2 2 0 0), (12, .list 3 es), (13, .int .i64 L), (14, .int .i64 0), (5, .ref 3 3 0 0), (6, .ref 4 3 0 0), (24, .list 2 q1), (25, .int .i64 K), (26, .int .i64 0)] | .more k m fp => fr 63 [(1, .ref 0 2 0 0), (2, .ref 1 2 0 0), (3, .ref 2 2 0 0), (12, .list 3 es), (13, .int .i64 L), (14, .int .i64 0), (5, .ref 3 3 0 0), (6, .ref 4 3 0 0), (24, .list 2 q1), (25, .int .i64 K), (26, .int .i64 k)])
        (fun s => match s with | .start => [.live 2 [[.list 3 es, .list 5 ds]], .live 2 [[.nils, .nils]], .live 2 [[.nils, .nils]], .live 3 [[.int .i64 len, .list 2 q1, .list 1 n1]], .live 3 [[.int .i64 len, .nils, .list 1 n1]]] | .more k m fp => [.live 2 [[.list 3 es, .list 5 ds]], .live 2 [[.nils, .nils]], .live 2 [[.nils, .nils]], .live 3 [[.int .i64 len, .list 2 q1, .list 1 n1]], .live 3 [[.int .i64 len, .sl 5 2 0 m, .list 1 n1]], .live 2 fp]) (Bd.Ok q1) (Bd.left q1) .start (by (refine Wk.eqz (id) (by first | exact fun i _ j _ e => e | (simp only [List.length_cons, List.length_nil]; decide)) ?_; cbv; (repeat' (first | exact trivial | rfl | assumption | apply And.intro | (simp only [hbin, hcmp, hun, hconv, hnot, hbeq, hmm, hscmp, hsadd, hslen, hsat, heqs, hofNat, binStd, cmpStd, unStd, scmpStd, maxI, Bool.not_eq_true', Bool.not_eq_false', decide_eq_true_eq, decide_eq_false_iff_not, Int.not_lt, Int.not_le, if_true, if_false, Bool.false_eq_true, beq_iff_eq, bne_iff_ne, ne_eq, Bool.not_eq_eq_eq_not, Bool.not_true, Bool.not_false, beq_eq_false_iff_ne, bne_eq_false_iff_eq, Int.ofNat_eq_natCast, Bool.not_not, not_true_eq_false, not_false_eq_true, reduceCtorEq]; first | done | assumption) | exact RowsZ.same (by assumption) (by first | assumption | rfl) | exact FzL.mk rfl rfl rfl (by assumption) (by first | assumption | rfl) (by decide) | (refine RowsZ.one ?_; cbv))))) trivial ?_
      rintro (_ | ⟨k, m, fp⟩) hinv2 Q2 hN2 hE2 hR2
      · cbv
        (split <;> rename_i hc2 <;> (try (simp only [hbin, hcmp, hun, hconv, hnot, hbeq, hmm, hscmp, hsadd, hslen, hsat, heqs, hofNat, binStd, cmpStd, unStd, scmpStd, maxI, Bool.not_eq_true', Bool.not_eq_false', decide_eq_true_eq, decide_eq_false_iff_not, Int.not_lt, Int.not_le, if_true, if_false, Bool.false_eq_true, beq_iff_eq, bne_iff_ne, ne_eq, Bool.not_eq_eq_eq_not, Bool.not_true, Bool.not_false, beq_eq_false_iff_ne, bne_eq_false_iff_eq, Int.ofNat_eq_natCast, Bool.not_not, not_true_eq_false, not_false_eq_true, reduceCtorEq] at hc2)) <;> (try cbv))
        · obtain ⟨⟨a, b⟩, hd2, hrow2⟩ := get_map (f := pcRow) (ds := ps) (i := 0) (Int.le_refl 0) (by omega)
          have hrow2 : q1[(0 : Int).toNat]? = some [.int .i64 a, .int .i64 b] := by rw [← eq1]; exact hrow2
          refine Idx.mk [.int .i64 a, .int .i64 b] (by decide) hrow2 ?_
          cbv
          refine Ob.mk (by decide) ?_
          cbv
          have hU2 : Up0 [[AV.int .i64 a, .int .i64 b]] := ⟨rfl⟩
          have ei2 : wbin .add .i64 0 1 = 1 := by rw [hbin]; rfl
          refine hN2 (Bd.more 1 1 [[.int .i64 a, .int .i64 b]]) _ _ ?hx ?hi ?ht
          case hx => (refine Wk.eqz (fun j => [0, 1, 2, 3, 4, 6].getD j 0) (by first | exact fun i _ j _ e => e | (simp only [List.length_cons, List.length_nil]; decide)) ?_; cbv; (repeat' (first | exact trivial | rfl | assumption | apply And.intro | (simp only [hbin, hcmp, hun, hconv, hnot, hbeq, hmm, hscmp, hsadd, hslen, hsat, heqs, hofNat, binStd, cmpStd, unStd, scmpStd, maxI, Bool.not_eq_true', Bool.not_eq_false', decide_eq_true_eq, decide_eq_false_iff_not, Int.not_lt, Int.not_le, if_true, if_false, Bool.false_eq_true, beq_iff_eq, bne_iff_ne, ne_eq, Bool.not_eq_eq_eq_not, Bool.not_true, Bool.not_false, beq_eq_false_iff_ne, bne_eq_false_iff_eq, Int.ofNat_eq_natCast, Bool.not_not, not_true_eq_false, not_false_eq_true, reduceCtorEq]; first | done | assumption) | exact RowsZ.same (by assumption) (by first | assumption | rfl) | exact FzL.mk rfl rfl rfl (by assumption) (by first | assumption | rfl) (by decide) | (refine RowsZ.one ?_; cbv))))
          case hi => exact ⟨by decide, by omega, (take_row (Int.le_refl 0) hrow2).symm, rfl, hU2⟩
          case ht => simp only [Bd.left]; omega
        · refine hE2 _ _ _ ?_
          cbv
          have hq0 : q1 = [] := List.length_eq_zero_iff.1 (by omega)
          refine Ob.mk (by decide) ?_
          cbv
          refine hN (Bd.more 1 1 [[.int .i64 len, .list 2 q1, .list 1 n1]]) _ _ ?hx ?hi ?ht
          case hx => (refine Wk.eqz (fun j => [0, 1, 2, 5].getD j 0) (by first | exact fun i _ j _ e => e | (simp only [List.length_cons, List.length_nil]; decide)) ?_; cbv; (repeat' (first | exact trivial | rfl | assumption | exact Eq.symm (by assumption) | apply And.intro | (simp only [hbin, hcmp, hun, hconv, hnot, hbeq, hmm, hscmp, hsadd, hslen, hsat, heqs, hofNat, binStd, cmpStd, unStd, scmpStd, maxI, Bool.not_eq_true', Bool.not_eq_false', decide_eq_true_eq, decide_eq_false_iff_not, Int.not_lt, Int.not_le, if_true, if_false, Bool.false_eq_true, beq_iff_eq, bne_iff_ne, ne_eq, Bool.not_eq_eq_eq_not, Bool.not_true, Bool.not_false, beq_eq_false_iff_ne, bne_eq_false_iff_eq, Int.ofNat_eq_natCast, Bool.not_not, not_true_eq_false, not_false_eq_true, reduceCtorEq]; first | done | assumption) | exact RowsZ.same (by assumption) (by first | assumption | rfl) | exact FzL.mk rfl rfl rfl (by assumption) (by first | assumption | rfl) (by decide) | (refine RowsZ.one ?_; cbv))))
          case hi => exact hI1
          case ht => exact hT1
      · cbv
        obtain ⟨hk0, hk1, hfp, hmf, hup⟩ : 0 < k ∧ k.toNat ≤ q1.length ∧ fp = q1.take k.toNat ∧ m = fp.length ∧ Up0 fp := hinv2
        (split <;> rename_i hc2 <;> (try (simp only [hbin, hcmp, hun, hconv, hnot, hbeq, hmm, hscmp, hsadd, hslen, hsat, heqs, hofNat, binStd, cmpStd, unStd, scmpStd, maxI, Bool.not_eq_true', Bool.not_eq_false', decide_eq_true_eq, decide_eq_false_iff_not, Int.not_lt, Int.not_le, if_true, if_false, Bool.false_eq_true, beq_iff_eq, bne_iff_ne, ne_eq, Bool.not_eq_eq_eq_not, Bool.not_true, Bool.not_false, beq_eq_false_iff_ne, bne_eq_false_iff_eq, Int.ofNat_eq_natCast, Bool.not_not, not_true_eq_false, not_false_eq_true, reduceCtorEq] at hc2)) <;> (try cbv))
        · obtain ⟨⟨a, b⟩, hd2, hrow2⟩ := get_map (f := pcRow) (ds := ps) (i := k) (by omega) (by omega)
          have hrow2 : q1[k.toNat]? = some [.int .i64 a, .int .i64 b] := by rw [← eq1]; exact hrow2
          refine Idx.mk [.int .i64 a, .int .i64 b] (by omega) hrow2 ?_
          cbv
          obtain ⟨k', ek'⟩ : ∃ x, k + 1 = x := ⟨_, rfl⟩
          have ek : wbin .add .i64 k 1 = k' := by rw [hbin, i_add (by omega) (by omega)]; exact ek'
          obtain ⟨fp', efp⟩ : ∃ x, fp ++ [[AV.int .i64 a, .int .i64 b]] = x := ⟨_, rfl⟩
          have hfl2 : fp'.length = m + 1 := by rw [← efp, hmf]; simp
          have hft2 : fp' = q1.take k'.toNat := by rw [← efp, ← ek', take_row (by omega) hrow2, hfp]
          have hup' : Up0 fp' := by rw [hft2]; exact up_take huq _
          obtain ⟨m', em'⟩ : ∃ x, m + 1 = x := ⟨_, rfl⟩
          have hml : m = k.toNat := by rw [hmf, hfp, List.length_take]; omega
          refine App.mk fp' m' efp.symm hmf em'.symm (by omega) (by omega) ?_
          cbv
          refine hN2 (Bd.more k' m' fp') _ _ ?hx ?hi ?ht
          case hx => (refine Wk.eqz (fun j => [0, 1, 2, 3, 4, 7].getD j 0) (by first | exact fun i _ j _ e => e | (simp only [List.length_cons, List.length_nil]; decide)) ?_; cbv; (repeat' (first | exact trivial | rfl | assumption | apply And.intro | (simp only [hbin, hcmp, hun, hconv, hnot, hbeq, hmm, hscmp, hsadd, hslen, hsat, heqs, hofNat, binStd, cmpStd, unStd, scmpStd, maxI, Bool.not_eq_true', Bool.not_eq_false', decide_eq_true_eq, decide_eq_false_iff_not, Int.not_lt, Int.not_le, if_true, if_false, Bool.false_eq_true, beq_iff_eq, bne_iff_ne, ne_eq, Bool.not_eq_eq_eq_not, Bool.not_true, Bool.not_false, beq_eq_false_iff_ne, bne_eq_false_iff_eq, Int.ofNat_eq_natCast, Bool.not_not, not_true_eq_false, not_false_eq_true, reduceCtorEq]; first | done | assumption) | exact RowsZ.same (by assumption) (by first | assumption | rfl) | exact FzL.mk rfl rfl rfl (by assumption) (by first | assumption | rfl) (by decide) | (refine RowsZ.one ?_; cbv))))
          case hi => exact ⟨by omega, by omega, hft2, by omega, hup'⟩
          case ht => simp only [Bd.left]; omega
        · refine hE2 _ _ _ ?_
          cbv
          have hq : fp = q1 := by rw [hfp, List.take_of_length_le (by omega)]
          have hmq : m = q1.length := by rw [hmf, hq]
          clear hfp
          subst fp
          refine Ob.mk (by decide) ?_
          cbv
          refine hN (Bd.more 1 1 [[.int .i64 len, .list 2 q1, .list 1 n1]]) _ _ ?hx ?hi ?ht
          case hx => (refine Wk.eqz (fun j => [0, 1, 2, 6].getD j 0) (by first | exact fun i _ j _ e => e | (simp only [List.length_cons, List.length_nil]; decide)) ?_; cbv; (repeat' (first | exact trivial | rfl | assumption | exact Eq.symm (by assumption) | apply And.intro | (simp only [hbin, hcmp, hun, hconv, hnot, hbeq, hmm, hscmp, hsadd, hslen, hsat, heqs, hofNat, binStd, cmpStd, unStd, scmpStd, maxI, Bool.not_eq_true', Bool.not_eq_false', decide_eq_true_eq, decide_eq_false_iff_not, Int.not_lt, Int.not_le, if_true, if_false, Bool.false_eq_true, beq_iff_eq, bne_iff_ne, ne_eq, Bool.not_eq_eq_eq_not, Bool.not_true, Bool.not_false, beq_eq_false_iff_ne, bne_eq_false_iff_eq, Int.ofNat_eq_natCast, Bool.not_not, not_true_eq_false, not_false_eq_true, reduceCtorEq]; first | done | assumption) | exact RowsZ.same (by assumption) (by first | assumption | rfl) | exact FzL.mk rfl rfl rfl (by assumption) (by first | assumption | rfl) (by decide) | (refine RowsZ.one ?_; cbv))))
          case hi => exact hI1
          case ht => exact hT1
    · refine hE _ _ _ ?_
      cbv
      have he0 : es = [] := List.length_eq_zero_iff.1 (by omega)
      (obtain ⟨J, eJ, J0, Jn⟩ : ∃ L : Int, wlen ds = L ∧ 0 ≤ L ∧ L.toNat = ds.length := ⟨(ds.length : Int), by rw [hlen], Int.natCast_nonneg _, Int.toNat_natCast _⟩)
      refine Loop.data hw (S := Bd) (fun s => match s with | .start => fr 63 [(2, .ref 1 2 0 0), (3, .ref 2 2 0 0), (49, .list 5 ds), (50, .int .i64 J), (51, .int .i64 0)] | .more k m fp => fr 63 [(2, .ref 1 2 0 0), (3, .ref 2 2 0 0), (49, .list 5 ds), (50, .int .i64 J), (51, .int .i64 k)])
        (fun s => match s with | .start => [.live 2 [[.list 3 es, .list 5 ds]], .live 2 [[.nils, .nils]], .live 2 [[.list 3 es, .nils]]] | .more k m fp => [.live 2 [[.list 3 es, .list 5 ds]], .live 2 [[.nils, .nils]], .live 2 [[.list 3 es, .sl 3 5 0 m]], .live 5 fp]) (Bd.Ok ds) (Bd.left ds) .start (by (refine Wk.eqz (id) (by first | exact fun i _ j _ e => e | (simp only [List.length_cons, List.length_nil]; decide)) ?_; cbv; (repeat' (first | exact trivial | rfl | assumption | apply And.intro | (simp only [hbin, hcmp, hun, hconv, hnot, hbeq, hmm, hscmp, hsadd, hslen, hsat, heqs, hofNat, binStd, cmpStd, unStd, scmpStd, maxI, Bool.not_eq_true', Bool.not_eq_false', decide_eq_true_eq, decide_eq_false_iff_not, Int.not_lt, Int.not_le, if_true, if_false, Bool.false_eq_true, beq_iff_eq, bne_iff_ne, ne_eq, Bool.not_eq_eq_eq_not, Bool.not_true, Bool.not_false, beq_eq_false_iff_ne, bne_eq_false_iff_eq, Int.ofNat_eq_natCast, Bool.not_not, not_true_eq_false, not_false_eq_true, reduceCtorEq]; first | done | assumption) | exact RowsZ.same (by assumption) (by first | assumption | rfl) | exact FzL.mk rfl rfl rfl (by assumption) (by first | assumption | rfl) (by decide) | (refine RowsZ.one ?_; cbv))))) trivial ?_
      rintro (_ | ⟨k, m, fp⟩) hinv2 Q2 hN2 hE2 hR2
      · cbv
        (split <;> rename_i hc2 <;> (try (simp only [hbin, hcmp, hun, hconv, hnot, hbeq, hmm, hscmp, hsadd, hslen, hsat, heqs, hofNat, binStd, cmpStd, unStd, scmpStd, maxI, Bool.not_eq_true', Bool.not_eq_false', decide_eq_true_eq, decide_eq_false_iff_not, Int.not_lt, Int.not_le, if_true, if_false, Bool.false_eq_true, beq_iff_eq, bne_iff_ne, ne_eq, Bool.not_eq_eq_eq_not, Bool.not_true, Bool.not_false, beq_eq_false_iff_ne, bne_eq_false_iff_eq, Int.ofNat_eq_natCast, Bool.not_not, not_true_eq_false, not_false_eq_true, reduceCtorEq] at hc2)) <;> (try cbv))
        · obtain ⟨⟨a1, a2, a3, a4, a5⟩, hd2, hrow2⟩ := get_map (f := grRow) (ds := gs) (i := 0) (Int.le_refl 0) (by omega)
          have hrow2 : ds[(0 : Int).toNat]? = some [.int .i64 a1, .int .i64 a2, .int .i64 a3, .int .i64 a4, .int .i64 a5] := by rw [hds]; exact hrow2
          refine Idx.mk [.int .i64 a1, .int .i64 a2, .int .i64 a3, .int .i64 a4, .int .i64 a5] (by decide) hrow2 ?_
          cbv
          refine Ob.mk (by decide) ?_
          cbv
          have hU2 : Up0 [[AV.int .i64 a1, .int .i64 a2, .int .i64 a3, .int .i64 a4, .int .i64 a5]] := ⟨rfl⟩
          have ei2 : wbin .add .i64 0 1 = 1 := by rw [hbin]; rfl
          refine hN2 (Bd.more 1 1 [[.int .i64 a1, .int .i64 a2, .int .i64 a3, .int .i64 a4, .int .i64 a5]]) _ _ ?hx ?hi ?ht
          case hx => (refine Wk.eqz (fun j => [0, 1, 2, 4].getD j 0) (by first | exact fun i _ j _ e => e | (simp only [List.length_cons, List.length_nil]; decide)) ?_; cbv; (repeat' (first | exact trivial | rfl | assumption | apply And.intro | (simp only [hbin, hcmp, hun, hconv, hnot, hbeq, hmm, hscmp, hsadd, hslen, hsat, heqs, hofNat, binStd, cmpStd, unStd, scmpStd, maxI, Bool.not_eq_true', Bool.not_eq_false', decide_eq_true_eq, decide_eq_false_iff_not, Int.not_lt, Int.not_le, if_true, if_false, Bool.false_eq_true, beq_iff_eq, bne_iff_ne, ne_eq, Bool.not_eq_eq_eq_not, Bool.not_true, Bool.not_false, beq_eq_false_iff_ne, bne_eq_false_iff_eq, Int.ofNat_eq_natCast, Bool.not_not, not_true_eq_false, not_false_eq_true, reduceCtorEq]; first | done | assumption) | exact RowsZ.same (by assumption) (by first | assumption | rfl) | exact FzL.mk rfl rfl rfl (by assumption) (by first | assumption | rfl) (by decide) | (refine RowsZ.one ?_; cbv))))
          case hi => exact ⟨by decide, by omega, (take_row (Int.le_refl 0) hrow2).symm, rfl, hU2⟩
          case ht => simp only [Bd.left]; omega
        · refine hE2 _ _ _ ?_
          cbv
          have hd0 : ds = [] := List.length_eq_zero_iff.1 (by omega)
          exact ⟨_, Vw.agg (rs := [.list 3 es, .list 5 []]) ⟨Vw.same hu.list, Vw.nil 5, trivial⟩, hR _ (by rw [hd0])⟩
      · cbv
        obtain ⟨hk0, hk1, hfp, hmf, hup⟩ : 0 < k ∧ k.toNat ≤ ds.length ∧ fp = ds.take k.toNat ∧ m = fp.length ∧ Up0 fp := hinv2
        (split <;> rename_i hc2 <;> (try (simp only [hbin, hcmp, hun, hconv, hnot, hbeq, hmm, hscmp, hsadd, hslen, hsat, heqs, hofNat, binStd, cmpStd, unStd, scmpStd, maxI, Bool.not_eq_true', Bool.not_eq_false', decide_eq_true_eq, decide_eq_false_iff_not, Int.not_lt, Int.not_le, if_true, if_false, Bool.false_eq_true, beq_iff_eq, bne_iff_ne, ne_eq, Bool.not_eq_eq_eq_not, Bool.not_true, Bool.not_false, beq_eq_false_iff_ne, bne_eq_false_iff_eq, Int.ofNat_eq_natCast, Bool.not_not, not_true_eq_false, not_false_eq_true, reduceCtorEq] at hc2)) <;> (try cbv))
        · obtain ⟨⟨a1, a2, a3, a4, a5⟩, hd2, hrow2⟩ := get_map (f := grRow) (ds := gs) (i := k) (by omega) (by omega)
          have hrow2 : ds[k.toNat]? = some [.int .i64 a1, .int .i64 a2, .int .i64 a3, .int .i64 a4, .int .i64 a5] := by rw [hds]; exact hrow2
          refine Idx.mk [.int .i64 a1, .int .i64 a2, .int .i64 a3, .int .i64 a4, .int .i64 a5] (by omega) hrow2 ?_
          cbv
          obtain ⟨k', ek'⟩ : ∃ x, k + 1 = x := ⟨_, rfl⟩
          have ek : wbin .add .i64 k 1 = k' := by rw [hbin, i_add (by omega) (by omega)]; exact ek'
          obtain ⟨fp', efp⟩ : ∃ x, fp ++ [[AV.int .i64 a1, .int .i64 a2, .int .i64 a3, .int .i64 a4, .int .i64 a5]] = x := ⟨_, rfl⟩
          have hfl2 : fp'.length = m + 1 := by rw [← efp, hmf]; simp
          have hft2 : fp' = ds.take k'.toNat := by rw [← efp, ← ek', take_row (by omega) hrow2, hfp]
          have hup' : Up0 fp' := by rw [hft2]; exact up_take hud _
          obtain ⟨m', em'⟩ : ∃ x, m + 1 = x := ⟨_, rfl⟩
          have hml : m = k.toNat := by rw [hmf, hfp, List.length_take]; omega
          refine App.mk fp' m' efp.symm hmf em'.symm (by omega) (by omega) ?_
          cbv
          refine hN2 (Bd.more k' m' fp') _ _ ?hx ?hi ?ht
          case hx => (refine Wk.eqz (fun j => [0, 1, 2, 5].getD j 0) (by first | exact fun i _ j _ e => e | (simp only [List.length_cons, List.length_nil]; decide)) ?_; cbv; (repeat' (first | exact trivial | rfl | assumption | apply And.intro | (simp only [hbin, hcmp, hun, hconv, hnot, hbeq, hmm, hscmp, hsadd, hslen, hsat, heqs, hofNat, binStd, cmpStd, unStd, scmpStd, maxI, Bool.not_eq_true', Bool.not_eq_false', decide_eq_true_eq, decide_eq_false_iff_not, Int.not_lt, Int.not_le, if_true, if_false, Bool.false_eq_true, beq_iff_eq, bne_iff_ne, ne_eq, Bool.not_eq_eq_eq_not, Bool.not_true, Bool.not_false, beq_eq_false_iff_ne, bne_eq_false_iff_eq, Int.ofNat_eq_natCast, Bool.not_not, not_true_eq_false, not_false_eq_true, reduceCtorEq]; first | done | assumption) | exact RowsZ.same (by assumption) (by first | assumption | rfl) | exact FzL.mk rfl rfl rfl (by assumption) (by first | assumption | rfl) (by decide) | (refine RowsZ.one ?_; cbv))))
          case hi => exact ⟨by omega, by omega, hft2, by omega, hup'⟩
          case ht => simp only [Bd.left]; omega
        · refine hE2 _ _ _ ?_
          cbv
          have hq : fp = ds := by rw [hfp, List.take_of_length_le (by omega)]
          refine ⟨_, Vw.agg (rs := [.list 3 es, .list 5 _]) ⟨Vw.same hu.list, Vw.sl rfl hup.get (by omega), trivial⟩, hR _ ?_⟩
          rw [List.drop_zero, List.take_of_length_le (by omega), hq]
  · cbv
    obtain ⟨hi0, hi1, hfs, hnf, huf⟩ : 0 < i ∧ i.toNat ≤ es.length ∧ fs = es.take i.toNat ∧ n = fs.length ∧ Up0 fs := hinv
    (split <;> rename_i hc <;> (try (simp only [hbin, hcmp, hun, hconv, hnot, hbeq, hmm, hscmp, hsadd, hslen, hsat, heqs, hofNat, binStd, cmpStd, unStd, scmpStd, maxI, Bool.not_eq_true', Bool.not_eq_false', decide_eq_true_eq, decide_eq_false_iff_not, Int.not_lt, Int.not_le, if_true, if_false, Bool.false_eq_true, beq_iff_eq, bne_iff_ne, ne_eq, Bool.not_eq_eq_eq_not, Bool.not_true, Bool.not_false, beq_eq_false_iff_ne, bne_eq_false_iff_eq, Int.ofNat_eq_natCast, Bool.not_not, not_true_eq_false, not_false_eq_true, reduceCtorEq] at hc)) <;> (try cbv))
    · obtain ⟨⟨len, ps, nx⟩, hd, hrow⟩ := get_map (f := sgRow) (ds := ss) (i := i) (by omega) (by omega)
      obtain ⟨q1, eq1⟩ : ∃ x, ps.map pcRow = x := ⟨_, rfl⟩
      obtain ⟨n1, en1⟩ : ∃ x, nx.map nxRow = x := ⟨_, rfl⟩
      have hrow : es[i.toNat]? = some [.int .i64 len, .list 2 q1, .list 1 n1] := by rw [hes, ← eq1, ← en1]; exact hrow
      have hql : q1.length = ps.length := by rw [← eq1]; simp
      have hpl : ps.length ≤ 1000 := hm3 ⟨len, ps, nx⟩ (List.mem_of_getElem? hd)
      have huq : Up0 q1 := by rw [← eq1]; exact up_pc ps
      have hun : Up0 n1 := by rw [← en1]; exact up_nx nx
      refine Idx.mk [.int .i64 len, .list 2 q1, .list 1 n1] (by omega) hrow ?_
      cbv
      obtain ⟨i', ei'⟩ : ∃ x, i + 1 = x := ⟨_, rfl⟩
      have ei : wbin .add .i64 i 1 = i' := by rw [hbin, i_add (by omega) (by omega)]; exact ei'
      obtain ⟨fw, efw⟩ : ∃ x, fs ++ [[AV.int .i64 len, .list 2 q1, .list 1 n1]] = x := ⟨_, rfl⟩
      have hfl : fw.length = n + 1 := by rw [← efw, hnf]; simp
      have hft : fw = es.take i'.toNat := by rw [← efw, ← ei', take_row (by omega) hrow, hfs]
      have hufw : Up0 fw := by rw [hft]; exact up_take hu _
      obtain ⟨n', en'⟩ : ∃ x, n + 1 = x := ⟨_, rfl⟩
      have hnl : n = i.toNat := by rw [hnf, hfs, List.length_take]; omega
      have hT1 : Bd.left es (.more i' n' fw) < Bd.left es (.more i n fs) := by simp only [Bd.left]; omega
      have hI1 : Bd.Ok es (.more i' n' fw) := ⟨by omega, by omega, hft, by omega, hufw⟩
      (obtain ⟨K, eK, K0, Kn⟩ : ∃ L : Int, wlen q1 = L ∧ 0 ≤ L ∧ L.toNat = q1.length := ⟨(q1.length : Int), by rw [hlen], Int.natCast_nonneg _, Int.toNat_natCast _⟩)
      refine Loop.data hw (S := Bd) (fun s => match s with | .start => fr 63 [(1, .ref 0 2 0 0), (2, .ref 1 2 0 0), (3, .ref 2 2 0 0), (12, .list 3 es), (13, .int .i64 L), (14, .int .i64 i), (5, .ref 4 3 0 0), (6, .ref 5 3 0 0), (24, .list 2 q1), (25, .int .i64 K), (26, .int .i64 0)] | .more k m fp => fr 63 [(1, .ref 0 2 0 0), (2, .ref 1 2 0 0), (3, .ref 2 2 0 0), (12, .list 3 es), (13, .int .i64 L), (14, .int .i64 i), (5, .ref 4 3 0 0), (6, .ref 5 3 0 0), (24, .list 2 q1), (25, .int .i64 K), (26, .int .i64 k)])
        (fun s => match s with | .start => [.live 2 [[.list 3 es, .list 5 ds]], .live 2 [[.nils, .nils]], .live 2 [[.sl 3 3 0 n, .nils]], .live 3 fs, .live 3 [[.int .i64 len, .list 2 q1, .list 1 n1]], .live 3 [[.int .i64 len, .nils, .list 1 n1]]] | .more k m fp => [.live 2 [[.list 3 es, .list 5 ds]], .live 2 [[.nils, .nils]], .live 2 [[.sl 3 3 0 n, .nils]], .live 3 fs, .live 3 [[.int .i64 len, .list 2 q1, .list 1 n1]], .live 3 [[.int .i64 len, .sl 6 2 0 m, .list 1 n1]], .live 2 fp]) (Bd.Ok q1) (Bd.left q1) .start (by (refine Wk.eqz (id) (by first | exact fun i _ j _ e => e | (simp only [List.length_cons, List.length_nil]; decide)) ?_; cbv; (repeat' (first | exact trivial | rfl | assumption | apply And.intro | (simp only [hbin, hcmp, hun, hconv, hnot, hbeq, hmm, hscmp, hsadd, hslen, hsat, heqs, hofNat, binStd, cmpStd, unStd, scmpStd, maxI, Bool.not_eq_true', Bool.not_eq_false', decide_eq_true_eq, decide_eq_false_iff_not, Int.not_lt, Int.not_le, if_true, if_false, Bool.false_eq_true, beq_iff_eq, bne_iff_ne, ne_eq, Bool.not_eq_eq_eq_not, Bool.not_true, Bool.not_false, beq_eq_false_iff_ne, bne_eq_false_iff_eq, Int.ofNat_eq_natCast, Bool.not_not, not_true_eq_false, not_false_eq_true, reduceCtorEq]; first | done | assumption) | exact RowsZ.same (by assumption) (by first | assumption | rfl) | exact FzL.mk rfl rfl rfl (by assumption) (by first | assumption | rfl) (by decide) | (refine RowsZ.one ?_; cbv))))) trivial ?_
      rintro (_ | ⟨k, m, fp⟩) hinv2 Q2 hN2 hE2 hR2
      · cbv
        (split <;> rename_i hc2 <;> (try (simp only [hbin, hcmp, hun, hconv, hnot, hbeq, hmm, hscmp, hsadd, hslen, hsat, heqs, hofNat, binStd, cmpStd, unStd, scmpStd, maxI, Bool.not_eq_true', Bool.not_eq_false', decide_eq_true_eq, decide_eq_false_iff_not, Int.not_lt, Int.not_le, if_true, if_false, Bool.false_eq_true, beq_iff_eq, bne_iff_ne, ne_eq, Bool.not_eq_eq_eq_not, Bool.not_true, Bool.not_false, beq_eq_false_iff_ne, bne_eq_false_iff_eq, Int.ofNat_eq_natCast, Bool.not_not, not_true_eq_false, not_false_eq_true, reduceCtorEq] at hc2)) <;> (try cbv))
        · obtain ⟨⟨a, b⟩, hd2, hrow2⟩ := get_map (f := pcRow) (ds := ps) (i := 0) (Int.le_refl 0) (by omega)
          have hrow2 : q1[(0 : Int).toNat]? = some [.int .i64 a, .int .i64 b] := by rw [← eq1]; exact hrow2
          refine Idx.mk [.int .i64 a, .int .i64 b] (by decide) hrow2 ?_
          cbv
          refine Ob.mk (by decide) ?_
          cbv
          have hU2 : Up0 [[AV.int .i64 a, .int .i64 b]] := ⟨rfl⟩
          have ei2 : wbin .add .i64 0 1 = 1 := by rw [hbin]; rfl
          refine hN2 (Bd.more 1 1 [[.int .i64 a, .int .i64 b]]) _ _ ?hx ?hi ?ht
          case hx => (refine Wk.eqz (fun j => [0, 1, 2, 3, 4, 5, 7].getD j 0) (by first | exact fun i _ j _ e => e | (simp only [List.length_cons, List.length_nil]; decide)) ?_; cbv; (repeat' (first | exact trivial | rfl | assumption | apply And.intro | (simp only [hbin, hcmp, hun, hconv, hnot, hbeq, hmm, hscmp, hsadd, hslen, hsat, heqs, hofNat, binStd, cmpStd, unStd, scmpStd, maxI, Bool.not_eq_true', Bool.not_eq_false', decide_eq_true_eq, decide_eq_false_iff_not, Int.not_lt, Int.not_le, if_true, if_false, Bool.false_eq_true, beq_iff_eq, bne_iff_ne, ne_eq, Bool.not_eq_eq_eq_not, Bool.not_true, Bool.not_false, beq_eq_false_iff_ne, bne_eq_false_iff_eq, Int.ofNat_eq_natCast, Bool.not_not, not_true_eq_false, not_false_eq_true, reduceCtorEq]; first | done | assumption) | exact RowsZ.same (by assumption) (by first | assumption | rfl) | exact FzL.mk rfl rfl rfl (by assumption) (by first | assumption | rfl) (by decide) | (refine RowsZ.one ?_; cbv))))
          case hi => exact ⟨by decide, by omega, (take_row (Int.le_refl 0) hrow2).symm, rfl, hU2⟩
          case ht => simp only [Bd.left]; omega
        · refine hE2 _ _ _ ?_
          cbv
          have hq0 : q1 = [] := List.length_eq_zero_iff.1 (by omega)
          obtain ⟨fx, efx⟩ : ∃ x, fs ++ [[AV.int .i64 len, .nils, .list 1 n1]] = x := ⟨_, rfl⟩
          refine App.mk fx n' efx.symm hnf en'.symm (by omega) (by omega) ?_
          cbv
          refine hN (Bd.more i' n' fw) _ _ ?hx ?hi ?ht
          case hx => (refine Wk.eqz (fun j => [0, 1, 2, 6].getD j 0) (by first | exact fun i _ j _ e => e | (simp only [List.length_cons, List.length_nil]; decide)) ?_; cbv; (repeat' (first | exact trivial | rfl | assumption | (refine RowsZ.app huf efx.symm efw.symm ?_; cbv) | apply And.intro | (simp only [hbin, hcmp, hun, hconv, hnot, hbeq, hmm, hscmp, hsadd, hslen, hsat, heqs, hofNat, binStd, cmpStd, unStd, scmpStd, maxI, Bool.not_eq_true', Bool.not_eq_false', decide_eq_true_eq, decide_eq_false_iff_not, Int.not_lt, Int.not_le, if_true, if_false, Bool.false_eq_true, beq_iff_eq, bne_iff_ne, ne_eq, Bool.not_eq_eq_eq_not, Bool.not_true, Bool.not_false, beq_eq_false_iff_ne, bne_eq_false_iff_eq, Int.ofNat_eq_natCast, Bool.not_not, not_true_eq_false, not_false_eq_true, reduceCtorEq]; first | done | assumption) | exact RowsZ.same (by assumption) (by first | assumption | rfl) | exact FzL.mk rfl rfl rfl (by assumption) (by first | assumption | rfl) (by decide) | (refine RowsZ.one ?_; cbv))))
          case hi => exact hI1
          case ht => exact hT1
      · cbv
        obtain ⟨hk0, hk1, hfp, hmf, hup⟩ : 0 < k ∧ k.toNat ≤ q1.length ∧ fp = q1.take k.toNat ∧ m = fp.length ∧ Up0 fp := hinv2
        (split <;> rename_i hc2 <;> (try (simp only [hbin, hcmp, hun, hconv, hnot, hbeq, hmm, hscmp, hsadd, hslen, hsat, heqs, hofNat, binStd, cmpStd, unStd, scmpStd, maxI, Bool.not_eq_true', Bool.not_eq_false', decide_eq_true_eq, decide_eq_false_iff_not, Int.not_lt, Int.not_le, if_true, if_false, Bool.false_eq_true, beq_iff_eq, bne_iff_ne, ne_eq, Bool.not_eq_eq_eq_not, Bool.not_true, Bool.not_false, beq_eq_false_iff_ne, bne_eq_false_iff_eq, Int.ofNat_eq_natCast, Bool.not_not, not_true_eq_false, not_false_eq_true, reduceCtorEq] at hc2)) <;> (try cbv))
        · obtain ⟨⟨a, b⟩, hd2, hrow2⟩ := get_map (f := pcRow) (ds := ps) (i := k) (by omega) (by omega)
          have hrow2 : q1[k.toNat]? = some [.int .i64 a, .int .i64 b] := by rw [← eq1]; exact hrow2
          refine Idx.mk [.int .i64 a, .int .i64 b] (by omega) hrow2 ?_
          cbv
          obtain ⟨k', ek'⟩ : ∃ x, k + 1 = x := ⟨_, rfl⟩
          have ek : wbin .add .i64 k 1 = k' := by rw [hbin, i_add (by omega) (by omega)]; exact ek'
          obtain ⟨fp', efp⟩ : ∃ x, fp ++ [[AV.int .i64 a, .int .i64 b]] = x := ⟨_, rfl⟩
          have hfl2 : fp'.length = m + 1 := by rw [← efp, hmf]; simp
          have hft2 : fp' = q1.take k'.toNat := by rw [← efp, ← ek', take_row (by omega) hrow2, hfp]
          have hup' : Up0 fp' := by rw [hft2]; exact up_take huq _
          obtain ⟨m', em'⟩ : ∃ x, m + 1 = x := ⟨_, rfl⟩
          have hml : m = k.toNat := by rw [hmf, hfp, List.length_take]; omega
          refine App.mk fp' m' efp.symm hmf em'.symm (by omega) (by omega) ?_
          cbv
          refine hN2 (Bd.more k' m' fp') _ _ ?hx ?hi ?ht
          case hx => (refine Wk.eqz (fun j => [0, 1, 2, 3, 4, 5, 8].getD j 0) (by first | exact fun i _ j _ e => e | (simp only [List.length_cons, List.length_nil]; decide)) ?_; cbv; (repeat' (first | exact trivial | rfl | assumption | apply And.intro | (simp only [hbin, hcmp, hun, hconv, hnot, hbeq, hmm, hscmp, hsadd, hslen, hsat, heqs, hofNat, binStd, cmpStd, unStd, scmpStd, maxI, Bool.not_eq_true', Bool.not_eq_false', decide_eq_true_eq, decide_eq_false_iff_not, Int.not_lt, Int.not_le, if_true, if_false, Bool.false_eq_true, beq_iff_eq, bne_iff_ne, ne_eq, Bool.not_eq_eq_eq_not, Bool.not_true, Bool.not_false, beq_eq_false_iff_ne, bne_eq_false_iff_eq, Int.ofNat_eq_natCast, Bool.not_not, not_true_eq_false, not_false_eq_true, reduceCtorEq]; first | done | assumption) | exact RowsZ.same (by assumption) (by first | assumption | rfl) | exact FzL.mk rfl rfl rfl (by assumption) (by first | assumption | rfl) (by decide) | (refine RowsZ.one ?_; cbv))))
          case hi => exact ⟨by omega, by omega, hft2, by omega, hup'⟩
          case ht => simp only [Bd.left]; omega
        · refine hE2 _ _ _ ?_
          cbv
          have hq : fp = q1 := by rw [hfp, List.take_of_length_le (by omega)]
          have hmq : m = q1.length := by rw [hmf, hq]
          clear hfp
          subst fp
          obtain ⟨fx, efx⟩ : ∃ x, fs ++ [[AV.int .i64 len, .sl 6 2 0 m, .list 1 n1]] = x := ⟨_, rfl⟩
          refine App.mk fx n' efx.symm hnf en'.symm (by omega) (by omega) ?_
          cbv
          refine hN (Bd.more i' n' fw) _ _ ?hx ?hi ?ht
          case hx => (refine Wk.eqz (fun j => [0, 1, 2, 7].getD j 0) (by first | exact fun i _ j _ e => e | (simp only [List.length_cons, List.length_nil]; decide)) ?_; cbv; (repeat' (first | exact trivial | rfl | assumption | (refine RowsZ.app huf efx.symm efw.symm ?_; cbv) | apply And.intro | (simp only [hbin, hcmp, hun, hconv, hnot, hbeq, hmm, hscmp, hsadd, hslen, hsat, heqs, hofNat, binStd, cmpStd, unStd, scmpStd, maxI, Bool.not_eq_true', Bool.not_eq_false', decide_eq_true_eq, decide_eq_false_iff_not, Int.not_lt, Int.not_le, if_true, if_false, Bool.false_eq_true, beq_iff_eq, bne_iff_ne, ne_eq, Bool.not_eq_eq_eq_not, Bool.not_true, Bool.not_false, beq_eq_false_iff_ne, bne_eq_false_iff_eq, Int.ofNat_eq_natCast, Bool.not_not, not_true_eq_false, not_false_eq_true, reduceCtorEq]; first | done | assumption) | exact RowsZ.same (by assumption) (by first | assumption | rfl) | exact FzL.mk rfl rfl rfl (by assumption) (by first | assumption | rfl) (by decide) | (refine RowsZ.one ?_; cbv))))
          case hi => exact hI1
          case ht => exact hT1
    · refine hE _ _ _ ?_
      cbv
      have hfe : fs = es := by rw [hfs, List.take_of_length_le (by omega)]
      have hne : n = es.length := by rw [hnf, hfe]
      subst hfe
      (obtain ⟨J, eJ, J0, Jn⟩ : ∃ L : Int, wlen ds = L ∧ 0 ≤ L ∧ L.toNat = ds.length := ⟨(ds.length : Int), by rw [hlen], Int.natCast_nonneg _, Int.toNat_natCast _⟩)
      refine Loop.data hw (S := Bd) (fun s => match s with | .start => fr 63 [(2, .ref 1 2 0 0), (3, .ref 2 2 0 0), (49, .list 5 ds), (50, .int .i64 J), (51, .int .i64 0)] | .more k m fp => fr 63 [(2, .ref 1 2 0 0), (3, .ref 2 2 0 0), (49, .list 5 ds), (50, .int .i64 J), (51, .int .i64 k)])
        (fun s => match s with | .start => [.live 2 [[.list 3 fs, .list 5 ds]], .live 2 [[.nils, .nils]], .live 2 [[.list 3 fs, .nils]]] | .more k m fp => [.live 2 [[.list 3 fs, .list 5 ds]], .live 2 [[.nils, .nils]], .live 2 [[.list 3 fs, .sl 3 5 0 m]], .live 5 fp]) (Bd.Ok ds) (Bd.left ds) .start (by (refine Wk.eqz (id) (by first | exact fun i _ j _ e => e | (simp only [List.length_cons, List.length_nil]; decide)) ?_; cbv; (repeat' (first | exact trivial | rfl | assumption | apply And.intro | (simp only [hbin, hcmp, hun, hconv, hnot, hbeq, hmm, hscmp, hsadd, hslen, hsat, heqs, hofNat, binStd, cmpStd, unStd, scmpStd, maxI, Bool.not_eq_true', Bool.not_eq_false', decide_eq_true_eq, decide_eq_false_iff_not, Int.not_lt, Int.not_le, if_true, if_false, Bool.false_eq_true, beq_iff_eq, bne_iff_ne, ne_eq, Bool.not_eq_eq_eq_not, Bool.not_true, Bool.not_false, beq_eq_false_iff_ne, bne_eq_false_iff_eq, Int.ofNat_eq_natCast, Bool.not_not, not_true_eq_false, not_false_eq_true, reduceCtorEq]; first | done | assumption) | exact RowsZ.same (by assumption) (by first | assumption | rfl) | exact FzL.mk rfl rfl rfl (by assumption) (by first | assumption | rfl) (by decide) | (refine RowsZ.one ?_; cbv))))) trivial ?_
      rintro (_ | ⟨k, m, fp⟩) hinv2 Q2 hN2 hE2 hR2
      · cbv
        (split <;> rename_i hc2 <;> (try (simp only [hbin, hcmp, hun, hconv, hnot, hbeq, hmm, hscmp, hsadd, hslen, hsat, heqs, hofNat, binStd, cmpStd, unStd, scmpStd, maxI, Bool.not_eq_true', Bool.not_eq_false', decide_eq_true_eq, decide_eq_false_iff_not, Int.not_lt, Int.not_le, if_true, if_false, Bool.false_eq_true, beq_iff_eq, bne_iff_ne, ne_eq, Bool.not_eq_eq_eq_not, Bool.not_true, Bool.not_false, beq_eq_false_iff_ne, bne_eq_false_iff_eq, Int.ofNat_eq_natCast, Bool.not_not, not_true_eq_false, not_false_eq_true, reduceCtorEq] at hc2)) <;> (try cbv))
        · obtain ⟨⟨a1, a2, a3, a4, a5⟩, hd2, hrow2⟩ := get_map (f := grRow) (ds := gs) (i := 0) (Int.le_refl 0) (by omega)
          have hrow2 : ds[(0 : Int).toNat]? = some [.int .i64 a1, .int .i64 a2, .int .i64 a3, .int .i64 a4, .int .i64 a5] := by rw [hds]; exact hrow2
          refine Idx.mk [.int .i64 a1, .int .i64 a2, .int .i64 a3, .int .i64 a4, .int .i64 a5] (by decide) hrow2 ?_
          cbv
          refine Ob.mk (by decide) ?_
          cbv
          have hU2 : Up0 [[AV.int .i64 a1, .int .i64 a2, .int .i64 a3, .int .i64 a4, .int .i64 a5]] := ⟨rfl⟩
          have ei2 : wbin .add .i64 0 1 = 1 := by rw [hbin]; rfl
          refine hN2 (Bd.more 1 1 [[.int .i64 a1, .int .i64 a2, .int .i64 a3, .int .i64 a4, .int .i64 a5]]) _ _ ?hx ?hi ?ht
          case hx => (refine Wk.eqz (fun j => [0, 1, 2, 4].getD j 0) (by first | exact fun i _ j _ e => e | (simp only [List.length_cons, List.length_nil]; decide)) ?_; cbv; (repeat' (first | exact trivial | rfl | assumption | apply And.intro | (simp only [hbin, hcmp, hun, hconv, hnot, hbeq, hmm, hscmp, hsadd, hslen, hsat, heqs, hofNat, binStd, cmpStd, unStd, scmpStd, maxI, Bool.not_eq_true', Bool.not_eq_false', decide_eq_true_eq, decide_eq_false_iff_not, Int.not_lt, Int.not_le, if_true, if_false, Bool.false_eq_true, beq_iff_eq, bne_iff_ne, ne_eq, Bool.not_eq_eq_eq_not, Bool.not_true, Bool.not_false, beq_eq_false_iff_ne, bne_eq_false_iff_eq, Int.ofNat_eq_natCast, Bool.not_not, not_true_eq_false, not_false_eq_true, reduceCtorEq]; first | done | assumption) | exact RowsZ.same (by assumption) (by first | assumption | rfl) | exact FzL.mk rfl rfl rfl (by assumption) (by first | assumption | rfl) (by decide) | (refine RowsZ.one ?_; cbv))))
          case hi => exact ⟨by decide, by omega, (take_row (Int.le_refl 0) hrow2).symm, rfl, hU2⟩
          case ht => simp only [Bd.left]; omega
        · refine hE2 _ _ _ ?_
          cbv
          have hd0 : ds = [] := List.length_eq_zero_iff.1 (by omega)
          exact ⟨_, Vw.agg (rs := [.list 3 fs, .list 5 []]) ⟨Vw.same hu.list, Vw.nil 5, trivial⟩, hR _ (by rw [hd0])⟩
      · cbv
        obtain ⟨hk0, hk1, hfp, hmf, hup⟩ : 0 < k ∧ k.toNat ≤ ds.length ∧ fp = ds.take k.toNat ∧ m = fp.length ∧ Up0 fp := hinv2
        (split <;> rename_i hc2 <;> (try (simp only [hbin, hcmp, hun, hconv, hnot, hbeq, hmm, hscmp, hsadd, hslen, hsat, heqs, hofNat, binStd, cmpStd, unStd, scmpStd, maxI, Bool.not_eq_true', Bool.not_eq_false', decide_eq_true_eq, decide_eq_false_iff_not, Int.not_lt, Int.not_le, if_true, if_false, Bool.false_eq_true, beq_iff_eq, bne_iff_ne, ne_eq, Bool.not_eq_eq_eq_not, Bool.not_true, Bool.not_false, beq_eq_false_iff_ne, bne_eq_false_iff_eq, Int.ofNat_eq_natCast, Bool.not_not, not_true_eq_false, not_false_eq_true, reduceCtorEq] at hc2)) <;> (try cbv))
        · obtain ⟨⟨a1, a2, a3, a4, a5⟩, hd2, hrow2⟩ := get_map (f := grRow) (ds := gs) (i := k) (by omega) (by omega)
          have hrow2 : ds[k.toNat]? = some [.int .i64 a1, .int .i64 a2, .int .i64 a3, .int .i64 a4, .int .i64 a5] := by rw [hds]; exact hrow2
          refine Idx.mk [.int .i64 a1, .int .i64 a2, .int .i64 a3, .int .i64 a4, .int .i64 a5] (by omega) hrow2 ?_
          cbv
          obtain ⟨k', ek'⟩ : ∃ x, k + 1 = x := ⟨_, rfl⟩
          have ek : wbin .add .i64 k 1 = k' := by rw [hbin, i_add (by omega) (by omega)]; exact ek'
          obtain ⟨fp', efp⟩ : ∃ x, fp ++ [[AV.int .i64 a1, .int .i64 a2, .int .i64 a3, .int .i64 a4, .int .i64 a5]] = x := ⟨_, rfl⟩
          have hfl2 : fp'.length = m + 1 := by rw [← efp, hmf]; simp
          have hft2 : fp' = ds.take k'.toNat := by rw [← efp, ← ek', take_row (by omega) hrow2, hfp]
          have hup' : Up0 fp' := by rw [hft2]; exact up_take hud _
          obtain ⟨m', em'⟩ : ∃ x, m + 1 = x := ⟨_, rfl⟩
          have hml : m = k.toNat := by rw [hmf, hfp, List.length_take]; omega
          refine App.mk fp' m' efp.symm hmf em'.symm (by omega) (by omega) ?_
          cbv
          refine hN2 (Bd.more k' m' fp') _ _ ?hx ?hi ?ht
          case hx => (refine Wk.eqz (fun j => [0, 1, 2, 5].getD j 0) (by first | exact fun i _ j _ e => e | (simp only [List.length_cons, List.length_nil]; decide)) ?_; cbv; (repeat' (first | exact trivial | rfl | assumption | apply And.intro | (simp only [hbin, hcmp, hun, hconv, hnot, hbeq, hmm, hscmp, hsadd, hslen, hsat, heqs, hofNat, binStd, cmpStd, unStd, scmpStd, maxI, Bool.not_eq_true', Bool.not_eq_false', decide_eq_true_eq, decide_eq_false_iff_not, Int.not_lt, Int.not_le, if_true, if_false, Bool.false_eq_true, beq_iff_eq, bne_iff_ne, ne_eq, Bool.not_eq_eq_eq_not, Bool.not_true, Bool.not_false, beq_eq_false_iff_ne, bne_eq_false_iff_eq, Int.ofNat_eq_natCast, Bool.not_not, not_true_eq_false, not_false_eq_true, reduceCtorEq]; first | done | assumption) | exact RowsZ.same (by assumption) (by first | assumption | rfl) | exact FzL.mk rfl rfl rfl (by assumption) (by first | assumption | rfl) (by decide) | (refine RowsZ.one ?_; cbv))))
          case hi => exact ⟨by omega, by omega, hft2, by omega, hup'⟩
          case ht => simp only [Bd.left]; omega
        · refine hE2 _ _ _ ?_
          cbv
          have hq : fp = ds := by rw [hfp, List.take_of_length_le (by omega)]
          refine ⟨_, Vw.agg (rs := [.list 3 fs, .list 5 _]) ⟨Vw.same hu.list, Vw.sl rfl hup.get (by omega), trivial⟩, hR _ ?_⟩
          rw [List.drop_zero, List.take_of_length_le (by omega), hq]
end Go.Proofs.Ytpiocfmdjgbamaa

/- A configuration that may be, by the engine. -/
set_option linter.unusedVariables false
set_option linter.unusedSimpArgs false
namespace Go.Proofs.Ytpiocfmdjgbamaa
open Go Go.RowKit Go.Eng
set_option maxRecDepth 100000
theorem e_up13 (a b : Int) (h1 : 1 ≤ a) (h2 : a ≤ 8388608) (h3 : 1 ≤ b) (h4 : b ≤ 1024) : PCalls Try.prog 71 [.int .i64 a, .int .i64 b] (· = .int .i64 ((a + b - 1) / b)) := by
  (refine PCalls.ofY Try.func71 (by kernel_rfl) (by kernel_rfl) fun w hw R hR => ?_); (conv => arg 2; cbv); (generalize hP : Try.prog = P); cbv
  subst hw
  have e1 : IntKind.i64.wrap (IntKind.i64.wrap (a + b) - 1) = a + b - 1 := by rw [IntKind.wrap_i64, IntKind.wrap_i64]; omega
  refine Nz.mk (by omega) ?_
  refine ⟨_, Vw.same rfl, hR _ (congrArg (AV.int .i64) ?_)⟩
  show IntKind.i64.wrap ((IntKind.i64.wrap (IntKind.i64.wrap (a + b) - 1)).tdiv b) = _
  rw [e1]
  have h5 : (a + b - 1).tdiv b = (a + b - 1) / b := Int.tdiv_eq_ediv_of_nonneg (by omega)
  have h6 : (a + b - 1) / b ≤ a + b - 1 := Int.ediv_le_self _ (by omega)
  have h7 : 0 ≤ (a + b - 1) / b := Int.ediv_nonneg (by omega) (by omega)
  rw [h5, IntKind.wrap_i64]; omega
def ConfOk (c0 c1 c2 c3 c4 c5 c6 c7 c8 c9 c10 c11 c12 c13 : Int) : Prop :=
  (1 ≤ c0 ∧ c0 ≤ 1024) ∧ (131072 ≤ c1 ∧ c1 ≤ 8388608 ∧ c1 ≤ c2 ∧ c2 ≤ 8388608) ∧ (c2 - c1) * 16 ≤ c1 ∧ (0 ≤ c3 ∧ c3 ≤ 1048576 ∧ 0 ≤ c4 ∧ c4 ≤ 65536) ∧ (0 ≤ c5 ∧ c5 ≤ 1048576) ∧ (1 ≤ c6 ∧ c6 ≤ 16777216 ∧ 1 ≤ c7 ∧ c7 ≤ 1048576) ∧ c6 * c0 ≤ 32000 * c1 ∧ (0 ≤ c8 ∧ c8 ≤ 1048576) ∧ (1 ≤ c9 ∧ c9 ≤ 1000 ∧ 1 ≤ c12 ∧ c12 ≤ 1000) ∧ ((c2 + c0 - 1) / c0 ≤ c10 ∧ 3 * c3 ≤ c10 ∧ c10 ≤ 16777216) ∧ (0 ≤ c11 ∧ c11 ≤ 1073741824) ∧ (1 ≤ c13 ∧ c13 ≤ 1048576)
/-- The first rule that does not hold. -/
def wrongV (c0 c1 c2 c3 c4 c5 c6 c7 c8 c9 c10 c11 c12 c13 : Int) : Int :=
  if c0 < 1 ∨ 1024 < c0 then 1 else
  if c1 < 131072 ∨ 8388608 < c1 ∨ c2 < c1 ∨ 8388608 < c2 then 2 else
  if c1 < IntKind.i64.wrap (IntKind.i64.wrap (c2 - c1) * 16) then 3 else
  if c3 < 0 ∨ 1048576 < c3 ∨ c4 < 0 ∨ 65536 < c4 then 4 else
  if c5 < 0 ∨ 1048576 < c5 then 5 else
  if c6 < 1 ∨ 16777216 < c6 ∨ c7 < 1 ∨ 1048576 < c7 then 6 else
  if IntKind.i64.wrap (32000 * c1) < IntKind.i64.wrap (c6 * c0) then 7 else
  if c8 < 0 ∨ 1048576 < c8 then 8 else
  if c9 < 1 ∨ 1000 < c9 ∨ c12 < 1 ∨ 1000 < c12 then 9 else
  if c10 < (c2 + c0 - 1) / c0 ∨ c10 < IntKind.i64.wrap (3 * c3) ∨ 16777216 < c10 then 10 else
  if c11 < 0 ∨ 1073741824 < c11 then 11 else
  if c13 < 1 ∨ 1048576 < c13 then 12 else 0
theorem ite_zero {p : Prop} [Decidable p] {a b : Int} (h : (if p then a else b) = 0) (ha : a ≠ 0) : ¬ p ∧ b = 0 := by
  by_cases hp : p
  · rw [if_pos hp] at h; exact absurd h ha
  · rw [if_neg hp] at h; exact ⟨hp, h⟩
theorem wrong_ok {c0 c1 c2 c3 c4 c5 c6 c7 c8 c9 c10 c11 c12 c13 : Int} (h : wrongV c0 c1 c2 c3 c4 c5 c6 c7 c8 c9 c10 c11 c12 c13 = 0) : ConfOk c0 c1 c2 c3 c4 c5 c6 c7 c8 c9 c10 c11 c12 c13 := by
  unfold wrongV at h
  replace h := ite_zero h (by decide); have k1 := h.1; replace h := h.2
  replace h := ite_zero h (by decide); have k2 := h.1; replace h := h.2
  replace h := ite_zero h (by decide); have k3 := h.1; replace h := h.2
  replace h := ite_zero h (by decide); have k4 := h.1; replace h := h.2
  replace h := ite_zero h (by decide); have k5 := h.1; replace h := h.2
  replace h := ite_zero h (by decide); have k6 := h.1; replace h := h.2
  replace h := ite_zero h (by decide); have k7 := h.1; replace h := h.2
  replace h := ite_zero h (by decide); have k8 := h.1; replace h := h.2
  replace h := ite_zero h (by decide); have k9 := h.1; replace h := h.2
  replace h := ite_zero h (by decide); have k10 := h.1; replace h := h.2
  replace h := ite_zero h (by decide); have k11 := h.1; replace h := h.2
  replace h := ite_zero h (by decide); have k12 := h.1; replace h := h.2
  clear h
  have b1 : IntKind.i64.wrap (IntKind.i64.wrap (c2 - c1) * 16) = (c2 - c1) * 16 := by rw [IntKind.wrap_i64, IntKind.wrap_i64]; omega
  have b2 : c6 * c0 ≤ 16777216 * 1024 := Int.mul_le_mul (by omega) (by omega) (by omega) (by omega)
  have b3 : 0 ≤ c6 * c0 := Int.mul_nonneg (by omega) (by omega)
  have b4 : IntKind.i64.wrap (c6 * c0) = c6 * c0 := by rw [IntKind.wrap_i64]; omega
  have b5 : IntKind.i64.wrap (32000 * c1) = 32000 * c1 := by rw [IntKind.wrap_i64]; omega
  have b6 : IntKind.i64.wrap (3 * c3) = 3 * c3 := by rw [IntKind.wrap_i64]; omega
  unfold ConfOk
  rw [b1] at k3
  rw [b4, b5] at k7
  rw [b6] at k10
  clear b1 b2 b3 b4 b5 b6
  and_intros <;> omega
set_option maxHeartbeats 4000000 in
theorem e_wrong (c0 c1 c2 c3 c4 c5 c6 c7 c8 c9 c10 c11 c12 c13 : Int) : PCalls Try.prog 43 [.agg [.int .i64 c0, .int .i64 c1, .int .i64 c2, .int .i64 c3, .int .i64 c4, .int .i64 c5, .int .i64 c6, .int .i64 c7, .int .i64 c8, .int .i64 c9, .int .i64 c10, .int .i64 c11, .int .i64 c12, .int .i64 c13]] (· = .int .i64 (wrongV c0 c1 c2 c3 c4 c5 c6 c7 c8 c9 c10 c11 c12 c13)) := by
  (refine PCalls.ofY Try.func43 (by kernel_rfl) (by kernel_rfl) fun w hw R hR => ?_); (conv => arg 2; cbv); (generalize hP : Try.prog = P); cbv
  have hR' : ∀ n, n = wrongV c0 c1 c2 c3 c4 c5 c6 c7 c8 c9 c10 c11 c12 c13 → R (.int .i64 n) := fun n h => hR _ (by rw [h])
  clear hR
  repeat' (first | (refine ⟨_, Vw.same rfl, hR' _ ?_⟩; unfold wrongV; (repeat rw [if_neg (by omega)]); rw [if_pos (by omega)]; done) | (split <;> rename_i hb <;> (try (rw [hw] at hb)) <;> (try (simp only [std, binStd, cmpStd, unStd, scmpStd, maxI, Bool.not_eq_true', Bool.not_eq_false', decide_eq_true_eq, decide_eq_false_iff_not, Int.not_lt, Int.not_le, if_true, if_false, Bool.false_eq_true, beq_iff_eq, bne_iff_ne, ne_eq, Bool.not_eq_eq_eq_not, Bool.not_true, Bool.not_false, beq_eq_false_iff_ne, bne_eq_false_iff_eq, Int.ofNat_eq_natCast] at hb)) <;> (try cbv)))
  refine QCal.stepE (by rw [← hP]; exact e_up13 c2 c0 (by omega) (by omega) (by omega) (by omega)) rfl ?_
  generalize hu : (c2 + c0 - 1) / c0 = u at *
  cbv
  repeat' (first | (refine ⟨_, Vw.same rfl, hR' _ ?_⟩; unfold wrongV; rw [hu]; (repeat rw [if_neg (by omega)]); (first | done | (rw [if_pos (by omega)]; done))) | (split <;> rename_i hb <;> (try (rw [hw] at hb)) <;> (try (simp only [std, binStd, cmpStd, unStd, scmpStd, maxI, Bool.not_eq_true', Bool.not_eq_false', decide_eq_true_eq, decide_eq_false_iff_not, Int.not_lt, Int.not_le, if_true, if_false, Bool.false_eq_true, beq_iff_eq, bne_iff_ne, ne_eq, Bool.not_eq_eq_eq_not, Bool.not_true, Bool.not_false, beq_eq_false_iff_ne, bne_eq_false_iff_eq, Int.ofNat_eq_natCast] at hb)) <;> (try cbv)))
end Go.Proofs.Ytpiocfmdjgbamaa

/- What the statements of layer 21 ask first, by the engine. -/
set_option linter.unusedVariables false
set_option linter.unusedSimpArgs false
namespace Go.Proofs.Ytpiocfmdjgbamaa
open Go Go.RowKit Go.Eng
set_option maxRecDepth 100000
/-- A track that may be, and isn't too great. -/
structure MayT (ss : List Sg) (gs : List Gr) : Prop where
  tr : TrackOk ss gs
  ps : ∀ s, s ∈ ss → s.ps.length ≤ 1000
  n300 : ss.length ≤ 300
  g500 : gs.length ≤ 500
set_option maxHeartbeats 2000000 in
theorem e_may21 (c0 c1 c2 c3 c4 c5 c6 c7 c8 c9 c10 c11 c12 c13 : Int) (ss : List Sg) (gs : List Gr) (es ds : List (List AV)) (hes : es = ss.map sgRow) (hds : ds = gs.map grRow) (g : Int) :
    PCalls Try.prog 26 [.agg [.int .i64 c0, .int .i64 c1, .int .i64 c2, .int .i64 c3, .int .i64 c4, .int .i64 c5, .int .i64 c6, .int .i64 c7, .int .i64 c8, .int .i64 c9, .int .i64 c10, .int .i64 c11, .int .i64 c12, .int .i64 c13], .agg [.list 3 es, .list 5 ds], .int .i64 g] (fun r => ∃ o : Bool, r = .bool o ∧ (o = true → ConfOk c0 c1 c2 c3 c4 c5 c6 c7 c8 c9 c10 c11 c12 c13 ∧ MayT ss gs ∧ 0 ≤ g ∧ g.toNat < gs.length)) := by
  have hu : Up0 es := by rw [hes]; exact up_sg ss
  have hud : Up0 ds := by rw [hds]; exact up_gr gs
  have hel : es.length = ss.length := by rw [hes]; simp
  have hdl : ds.length = gs.length := by rw [hds]; simp
  have hut : uptoL 0 [.agg [.list 3 es, .list 5 ds]] = true := Bool.and_eq_true_iff.mpr ⟨Up0.one hu (Up0.one hud rfl), rfl⟩
  obtain ⟨w0, ew0⟩ : ∃ w, wrongV c0 c1 c2 c3 c4 c5 c6 c7 c8 c9 c10 c11 c12 c13 = w := ⟨_, rfl⟩
  have hwr := e_wrong c0 c1 c2 c3 c4 c5 c6 c7 c8 c9 c10 c11 c12 c13
  rw [ew0] at hwr
  (refine PCalls.ofY Try.func26 (by kernel_rfl) (by kernel_rfl) fun w hw R hR => ?_); (obtain ⟨wbin, wcmp, wun, wconv, wnot, wbeq, wmm, wscmp, wsadd, wslen, wsat, weqs, wlen, wnlen, wofNat, wtake, wdrop, wapp, wzero, wnat⟩ := w); (have hbin : wbin = binStd := congrArg Prims.bin hw); (have hcmp : wcmp = cmpStd := congrArg Prims.cmp hw); (have hun : wun = unStd := congrArg Prims.un hw); (have hconv : wconv = fun k n => k.wrap n := congrArg Prims.conv hw); (have hnot : wnot = fun b => !b := congrArg Prims.not hw); (have hbeq : wbeq = fun a b => a == b := congrArg Prims.beq hw); (have hmm : wmm = maxI := congrArg Prims.mm hw); (have hscmp : wscmp = scmpStd := congrArg Prims.scmp hw); (have hsadd : wsadd = fun x y => x ++ y := congrArg Prims.sadd hw); (have hslen : wslen = fun s => (s.size : Int) := congrArg Prims.slen hw); (have hsat : wsat = std.sat := congrArg Prims.sat hw); (have heqs : weqs = fun a b os => (eqOffs a b os).getD false := congrArg Prims.eqs hw); (have hlen : wlen = fun es => (es.length : Int) := congrArg Prims.len hw); (have hnlen : wnlen = fun es => es.length := congrArg Prims.nlen hw); (have hofNat : wofNat = (fun n : Nat => (n : Int)) := congrArg Prims.ofNat hw); (have htake : wtake = fun es b => es.take b.toNat := congrArg Prims.take hw); (have hdrop : wdrop = fun es a => es.drop a.toNat := congrArg Prims.drop hw); (have happ : wapp = fun a b => a ++ b := congrArg Prims.app hw); (have hzero : wzero = fun n z => List.replicate n.toNat z := congrArg Prims.zero hw); (have hnat : wnat = fun n => n.toNat := congrArg Prims.nat hw); (conv => arg 2; cbv); (generalize hP : Try.prog = P); cbv
  refine Call.stepE (by rw [← hP]; exact hwr) rfl ?_
  cbv
  (obtain ⟨L, eL, L0, Ln⟩ : ∃ L : Int, wlen es = L ∧ 0 ≤ L ∧ L.toNat = es.length := ⟨(es.length : Int), by rw [hlen], Int.natCast_nonneg _, Int.toNat_natCast _⟩)
  (obtain ⟨J, eJ, J0, Jn⟩ : ∃ L : Int, wlen ds = L ∧ 0 ≤ L ∧ L.toNat = ds.length := ⟨(ds.length : Int), by rw [hlen], Int.natCast_nonneg _, Int.toNat_natCast _⟩)
  have hF : R (.bool false) := hR _ ⟨_, rfl, fun h => (by cases h)⟩
  repeat' (first | exact ⟨_, Vw.same rfl, hF⟩ | (split <;> rename_i h <;> (try (simp only [eL, eJ] at h)) <;> (try (simp only [hbin, hcmp, hun, hconv, hnot, hbeq, hmm, hscmp, hsadd, hslen, hsat, heqs, hofNat, binStd, cmpStd, unStd, scmpStd, maxI, Bool.not_eq_true', Bool.not_eq_false', decide_eq_true_eq, decide_eq_false_iff_not, Int.not_lt, Int.not_le, if_true, if_false, Bool.false_eq_true, beq_iff_eq, bne_iff_ne, ne_eq, Bool.not_eq_eq_eq_not, Bool.not_true, Bool.not_false, beq_eq_false_iff_ne, bne_eq_false_iff_eq, Int.ofNat_eq_natCast, Bool.not_not, not_true_eq_false, not_false_eq_true, reduceCtorEq] at h)) <;> (try cbv)))
  have hb : ss.length ≤ 300 ∧ gs.length ≤ 500 := by omega
  obtain ⟨b1, b2⟩ := hb
  simp only [eL]
  refine Loop.data hw (S := Int) (fun i => fr 63 [(2, .int .i64 g), (4, .ref 1 2 0 0), (27, .list 3 es), (28, .int .i64 L), (29, .int .i64 i)]) (fun i => [.live 14 [[.int .i64 c0, .int .i64 c1, .int .i64 c2, .int .i64 c3, .int .i64 c4, .int .i64 c5, .int .i64 c6, .int .i64 c7, .int .i64 c8, .int .i64 c9, .int .i64 c10, .int .i64 c11, .int .i64 c12, .int .i64 c13]], .live 2 [[.list 3 es, .list 5 ds]]]) (fun i => 0 ≤ i ∧ i ≤ L ∧ ∀ j, j < i.toNat → ∀ s, ss[j]? = some s → s.ps.length ≤ 100) (fun i => (L - i).toNat) 0 (by (refine Wk.eqz (id) (by first | exact fun i _ j _ e => e | (simp only [List.length_cons, List.length_nil]; decide)) ?_; cbv; (repeat' (first | exact trivial | rfl | assumption | apply And.intro | (simp only [hbin, hcmp, hun, hconv, hnot, hbeq, hmm, hscmp, hsadd, hslen, hsat, heqs, hofNat, binStd, cmpStd, unStd, scmpStd, maxI, Bool.not_eq_true', Bool.not_eq_false', decide_eq_true_eq, decide_eq_false_iff_not, Int.not_lt, Int.not_le, if_true, if_false, Bool.false_eq_true, beq_iff_eq, bne_iff_ne, ne_eq, Bool.not_eq_eq_eq_not, Bool.not_true, Bool.not_false, beq_eq_false_iff_ne, bne_eq_false_iff_eq, Int.ofNat_eq_natCast, Bool.not_not, not_true_eq_false, not_false_eq_true, reduceCtorEq]; first | done | assumption) | exact RowsZ.same (by assumption) (by first | assumption | rfl) | exact FzL.mk rfl rfl rfl (by assumption) (by first | assumption | rfl) (by decide) | (refine RowsZ.one ?_; cbv))))) ⟨Int.le_refl _, L0, fun j hj => (by simp at hj)⟩ ?_
  rintro i hinv Q' hN hE hR'
  have hinv : 0 ≤ i ∧ i ≤ L ∧ ∀ j, j < i.toNat → ∀ s, ss[j]? = some s → s.ps.length ≤ 100 := hinv
  cbv
  obtain ⟨hi0, hi1, hl⟩ := hinv
  (split <;> rename_i hc <;> (try (simp only [hbin, hcmp, hun, hconv, hnot, hbeq, hmm, hscmp, hsadd, hslen, hsat, heqs, hofNat, binStd, cmpStd, unStd, scmpStd, maxI, Bool.not_eq_true', Bool.not_eq_false', decide_eq_true_eq, decide_eq_false_iff_not, Int.not_lt, Int.not_le, if_true, if_false, Bool.false_eq_true, beq_iff_eq, bne_iff_ne, ne_eq, Bool.not_eq_eq_eq_not, Bool.not_true, Bool.not_false, beq_eq_false_iff_ne, bne_eq_false_iff_eq, Int.ofNat_eq_natCast, Bool.not_not, not_true_eq_false, not_false_eq_true, reduceCtorEq] at hc)) <;> (try cbv))
  · obtain ⟨⟨len, ps, nx⟩, hd, hrow⟩ := get_map (f := sgRow) (ds := ss) (i := i) hi0 (by omega)
    obtain ⟨q1, eq1⟩ : ∃ x, ps.map pcRow = x := ⟨_, rfl⟩
    obtain ⟨n1, en1⟩ : ∃ x, nx.map nxRow = x := ⟨_, rfl⟩
    have hrow : es[i.toNat]? = some [.int .i64 len, .list 2 q1, .list 1 n1] := by rw [hes, ← eq1, ← en1]; exact hrow
    have hql : q1.length = ps.length := by rw [← eq1]; simp
    (obtain ⟨K, eK, K0, Kn⟩ : ∃ L : Int, wlen q1 = L ∧ 0 ≤ L ∧ L.toNat = q1.length := ⟨(q1.length : Int), by rw [hlen], Int.natCast_nonneg _, Int.toNat_natCast _⟩)
    obtain ⟨i', ei'⟩ : ∃ x, i + 1 = x := ⟨_, rfl⟩
    have ei : wbin .add .i64 i 1 = i' := by rw [hbin, i_add (by omega) (by omega)]; exact ei'
    have hT : (L - i').toNat < (L - i).toNat := by omega
    refine Idx.mk [.int .i64 len, .list 2 q1, .list 1 n1] hi0 hrow ?_
    cbv
    repeat' (first | exact hR' _ _ ⟨_, Vw.same rfl, hF⟩ | (split <;> rename_i h <;> (try (simp only [eK] at h)) <;> (try (simp only [hbin, hcmp, hun, hconv, hnot, hbeq, hmm, hscmp, hsadd, hslen, hsat, heqs, hofNat, binStd, cmpStd, unStd, scmpStd, maxI, Bool.not_eq_true', Bool.not_eq_false', decide_eq_true_eq, decide_eq_false_iff_not, Int.not_lt, Int.not_le, if_true, if_false, Bool.false_eq_true, beq_iff_eq, bne_iff_ne, ne_eq, Bool.not_eq_eq_eq_not, Bool.not_true, Bool.not_false, beq_eq_false_iff_ne, bne_eq_false_iff_eq, Int.ofNat_eq_natCast, Bool.not_not, not_true_eq_false, not_false_eq_true, reduceCtorEq] at h)) <;> (try cbv)))
    refine hN i' _ _ ?hx ?hI hT
    case hx => (refine Wk.eqz (id) (by first | exact fun i _ j _ e => e | (simp only [List.length_cons, List.length_nil]; decide)) ?_; cbv; (repeat' (first | exact trivial | rfl | assumption | apply And.intro | (simp only [hbin, hcmp, hun, hconv, hnot, hbeq, hmm, hscmp, hsadd, hslen, hsat, heqs, hofNat, binStd, cmpStd, unStd, scmpStd, maxI, Bool.not_eq_true', Bool.not_eq_false', decide_eq_true_eq, decide_eq_false_iff_not, Int.not_lt, Int.not_le, if_true, if_false, Bool.false_eq_true, beq_iff_eq, bne_iff_ne, ne_eq, Bool.not_eq_eq_eq_not, Bool.not_true, Bool.not_false, beq_eq_false_iff_ne, bne_eq_false_iff_eq, Int.ofNat_eq_natCast, Bool.not_not, not_true_eq_false, not_false_eq_true, reduceCtorEq]; first | done | assumption) | exact RowsZ.same (by assumption) (by first | assumption | rfl) | exact FzL.mk rfl rfl rfl (by assumption) (by first | assumption | rfl) (by decide) | (refine RowsZ.one ?_; cbv))))
    case hI =>
      refine ⟨by omega, by omega, ?_⟩
      rw [← ei']
      refine all_step hi0 hl fun m hm => ?_
      rw [hd] at hm
      obtain rfl : (⟨len, ps, nx⟩ : Sg) = m := by simpa using hm
      simp only; omega
  refine hE _ _ _ ?_
  cbv
  have hps : ∀ s, s ∈ ss → s.ps.length ≤ 1000 := fun s hs => by
    obtain ⟨j, hj⟩ := List.mem_iff_getElem?.1 hs
    have := hl j (by have := (List.getElem?_eq_some_iff.1 hj).1; omega) s hj
    omega
  refine Call.stepE (by rw [← hP]; exact e_refsT21 ss gs es ds hes hds (by omega) (by omega) hps) (by exact hut) ?_
  cbv
  refine Call.step (by rw [← hP]; exact e_check11 ss gs es ds hes hds) (by exact hut) ?_
  rintro r ⟨e, i, rfl, hok⟩
  cbv
  (split <;> rename_i h1 <;> (try (simp only [hbin, hcmp, hun, hconv, hnot, hbeq, hmm, hscmp, hsadd, hslen, hsat, heqs, hofNat, binStd, cmpStd, unStd, scmpStd, maxI, Bool.not_eq_true', Bool.not_eq_false', decide_eq_true_eq, decide_eq_false_iff_not, Int.not_lt, Int.not_le, if_true, if_false, Bool.false_eq_true, beq_iff_eq, bne_iff_ne, ne_eq, Bool.not_eq_eq_eq_not, Bool.not_true, Bool.not_false, beq_eq_false_iff_ne, bne_eq_false_iff_eq, Int.ofNat_eq_natCast, Bool.not_not, not_true_eq_false, not_false_eq_true, reduceCtorEq] at h1)) <;> (try cbv))
  rotate_left 1
  · exact ⟨_, Vw.same rfl, hF⟩
  have hT := hok h1
  (split <;> rename_i h2 <;> (try (simp only [eL] at h2)) <;> (try (simp only [hbin, hcmp, hun, hconv, hnot, hbeq, hmm, hscmp, hsadd, hslen, hsat, heqs, hofNat, binStd, cmpStd, unStd, scmpStd, maxI, Bool.not_eq_true', Bool.not_eq_false', decide_eq_true_eq, decide_eq_false_iff_not, Int.not_lt, Int.not_le, if_true, if_false, Bool.false_eq_true, beq_iff_eq, bne_iff_ne, ne_eq, Bool.not_eq_eq_eq_not, Bool.not_true, Bool.not_false, beq_eq_false_iff_ne, bne_eq_false_iff_eq, Int.ofNat_eq_natCast, Bool.not_not, not_true_eq_false, not_false_eq_true, reduceCtorEq] at h2)) <;> (try cbv))
  rotate_left 1
  · exact ⟨_, Vw.same rfl, hF⟩
  refine ⟨_, Vw.same rfl, hR _ ⟨_, rfl, fun ho => ?_⟩⟩
  rw [hcmp] at ho
  simp only [eJ] at ho
  have h3 : g < J := by simpa [cmpStd] using ho
  exact ⟨wrong_ok (by omega), ⟨hT, hps, b1, b2⟩, h2, by omega⟩
end Go.Proofs.Ytpiocfmdjgbamaa

/- Arguments that say less: a nil slice is a list of none. -/
set_option linter.unusedVariables false
namespace Go.Eng
open Go Go.RowKit
mutual
def leB : AV → AV → Bool
  | .int k a, y => (match y with | .int k' b => decide (k = k') && decide (a = b) | _ => false)
  | .bool a, y => (match y with | .bool b => a == b | _ => false)
  | .nils, y => (match y with | .nils => true | .list _ es => es.isEmpty | _ => false)
  | .nilp, y => (match y with | .nilp => true | _ => false)
  | .agg cs, y => (match y with | .agg ds => leL cs ds | _ => false)
  | .list z es, y => (match y with | .list z' fs => Nat.beq z z' && leLL es fs | _ => false)
  | _, _ => false
def leL : List AV → List AV → Bool
  | [], y => (match y with | [] => true | _ => false)
  | c :: cs, y => (match y with | d :: ds => leB c d && leL cs ds | _ => false)
def leLL : List (List AV) → List (List AV) → Bool
  | [], y => (match y with | [] => true | _ => false)
  | c :: cs, y => (match y with | d :: ds => leL c d && leLL cs ds | _ => false)
end
def VLe (x y : AV) : Prop := ∀ C v, VR C x v → VR C y v
mutual
theorem leB_ok : ∀ (x y : AV), leB x y = true → VLe x y
  | .int k a, y, h => by
    unfold leB at h
    split at h
    · simp only [Bool.and_eq_true, decide_eq_true_eq] at h
      obtain ⟨rfl, rfl⟩ := h
      exact fun C v h => h
    · cases h
  | .bool a, y, h => by
    unfold leB at h
    split at h
    · simp only [beq_iff_eq] at h
      subst h
      exact fun C v h => h
    · cases h
  | .nils, y, h => by
    unfold leB at h
    split at h
    · exact fun C v h => h
    · rename_i z es
      have : es = [] := List.isEmpty_iff.1 h
      subst this
      intro C v hv
      rw [hv.nils']
      exact .listNil _ _ _
    · cases h
  | .nilp, y, h => by
    unfold leB at h
    split at h
    · exact fun C v h => h
    · cases h
  | .agg cs, y, h => by
    unfold leB at h
    split at h
    · rename_i ds
      intro C v hv
      obtain ⟨vs, rfl, hl, hx⟩ := hv.agg'
      obtain ⟨h1, h2⟩ := leL_ok cs ds h
      refine .agg _ _ (by rw [hl, h1]) fun i y hy => ?_
      obtain ⟨x, hx', hle⟩ := h2 i y hy
      exact hle C _ (hx i x hx')
    · cases h
  | .list z es, y, h => by
    unfold leB at h
    split at h
    · rename_i z' fs
      simp only [Bool.and_eq_true] at h
      have := Nat.eq_of_beq_eq_true h.1
      subst this
      obtain ⟨h1, h2⟩ := leLL_ok es fs h.2
      intro C v hv
      rcases hv.lists with ⟨⟨a, cap, rfl⟩, rfl⟩ | ⟨a, cap, f, rfl, hcap, hsp, hz, hcell, hown, hv⟩
      · have : fs = [] := List.length_eq_zero_iff.1 h1.symm
        subst this
        exact .listNil _ _ _
      · refine .list z fs a es.length cap f h1.symm hcap hsp (fun e he => ?_) hcell hown fun i e he j x hx => ?_
        · obtain ⟨i, hi⟩ := List.mem_iff_getElem?.1 he
          obtain ⟨r, hr, hl, _⟩ := h2 i e hi
          rw [← hl]; exact hz r (List.mem_of_getElem? hr)
        · obtain ⟨r, hr, hl, hle⟩ := h2 i e he
          obtain ⟨x', hx', hle'⟩ := hle j x hx
          exact hle' C _ (hv i r hr j x' hx')
    · cases h
  | .any, y, h => by unfold leB at h; cases h
  | .str _, y, h => by unfold leB at h; cases h
  | .nilFunc, y, h => by unfold leB at h; cases h
  | .nilIface, y, h => by unfold leB at h; cases h
  | .tuple _, y, h => by unfold leB at h; cases h
  | .sl _ _ _ _, y, h => by unfold leB at h; cases h
  | .ref _ _ _ _, y, h => by unfold leB at h; cases h
  | .cref _, y, h => by unfold leB at h; cases h
  | .mapr _, y, h => by unfold leB at h; cases h
  | .func _ _ _, y, h => by unfold leB at h; cases h
  | .iface _ _, y, h => by unfold leB at h; cases h
theorem leL_ok : ∀ (xs ys : List AV), leL xs ys = true → xs.length = ys.length ∧ ∀ (i : Nat) (y : AV), ys[i]? = some y → ∃ x, xs[i]? = some x ∧ VLe x y
  | [], y, h => by
    unfold leL at h
    split at h
    · exact ⟨rfl, fun i y hy => by simp at hy⟩
    · cases h
  | c :: cs, y, h => by
    unfold leL at h
    split at h
    · rename_i d ds
      simp only [Bool.and_eq_true] at h
      obtain ⟨h1, h2⟩ := leL_ok cs ds h.2
      refine ⟨by simp [h1], fun i y hy => ?_⟩
      cases i with
      | zero => simp at hy; subst hy; exact ⟨c, rfl, leB_ok c d h.1⟩
      | succ i => simpa using h2 i y (by simpa using hy)
    · cases h
theorem leLL_ok : ∀ (xs ys : List (List AV)), leLL xs ys = true → xs.length = ys.length ∧ ∀ (i : Nat) (y : List AV), ys[i]? = some y → ∃ x, xs[i]? = some x ∧ x.length = y.length ∧ ∀ (j : Nat) (b : AV), y[j]? = some b → ∃ a, x[j]? = some a ∧ VLe a b
  | [], y, h => by
    unfold leLL at h
    split at h
    · exact ⟨rfl, fun i y hy => by simp at hy⟩
    · cases h
  | c :: cs, y, h => by
    unfold leLL at h
    split at h
    · rename_i d ds
      simp only [Bool.and_eq_true] at h
      obtain ⟨h1, h2⟩ := leLL_ok cs ds h.2
      obtain ⟨k1, k2⟩ := leL_ok c d h.1
      refine ⟨by simp [h1], fun i y hy => ?_⟩
      cases i with
      | zero => simp at hy; subst hy; exact ⟨c, rfl, k1, k2⟩
      | succ i => simpa using h2 i y (by simpa using hy)
    · cases h
end
theorem PCalls.le {P : Program} {g : FuncId} {args args' : List AV} {R : AV → Prop} (H : PCalls P g args' R) (hl : leL args args' = true) : PCalls P g args R := by
  obtain ⟨h1, h2⟩ := leL_ok args args' hl
  refine ⟨H.1, fun C vs hC RC hv => H.2 C vs hC RC ⟨by rw [hv.1, h1], fun i y hy => ?_⟩⟩
  obtain ⟨x, hx, hle⟩ := h2 i y hy
  exact hle C _ (hv.2 i x hx)
end Go.Eng

/- The document's place moves; places compared; by the engine. -/
set_option linter.unusedVariables false
set_option linter.unusedSimpArgs false
namespace Go.Proofs.Ytpiocfmdjgbamaa
open Go Go.RowKit Go.Eng
set_option maxRecDepth 100000
set_option maxHeartbeats 2000000 in
theorem e_rmove (ss : List Sg) (gs : List Gr) (es ds : List (List AV)) (hes : es = ss.map sgRow) (hds : ds = gs.map grRow) (hln : LensOk ss) (hnx : NextOk ss) (g from_ : Int) (hf : 0 ≤ from_ ∧ from_ ≤ 1099511627776) (p : PlT) (hp : PlOk ss p) (rs : List (List AV)) (hrs : rs = p.m.map rtRow) (a b : Int) (hab : a ≤ b) (ha : -1099511627776 ≤ a) (hb : b ≤ 1099511627776) (q : PlT) (e : Int) (hv : (q, e) = moveV ss from_ p a b) (us : List (List AV)) (hus : us = q.m.map rtRow) :
    PCalls Try.prog 34 [.agg [.list 3 es, .list 5 ds], .agg [.int .i64 1, .int .i64 g, .int .i64 p.lo, .int .i64 p.hi, .int .i64 p.est, .int .i64 from_, .list 1 rs], .int .i64 a, .int .i64 b] (fun r => (e = 0 ∧ r = .tuple [.agg [.int .i64 1, .int .i64 g, .int .i64 q.lo, .int .i64 q.hi, .int .i64 q.est, .int .i64 from_, .list 1 us], .int .i64 0]) ∨ (e ≠ 0 ∧ r = .tuple [.agg [.int .i64 0, .int .i64 0, .int .i64 0, .int .i64 0, .int .i64 0, .int .i64 0, .nils], .int .i64 e])) := by
  have hu : Up0 es := by rw [hes]; exact up_sg ss
  have hud : Up0 ds := by rw [hds]; exact up_gr gs
  have hur : Up0 rs := by rw [hrs]; exact up_rt p.m
  have huu : Up0 us := by rw [hus]; exact up_rt q.m
  have hlo := hp.lo
  have hhi := hp.hi
  have hle := hp.le
  have hfew := hp.few
  obtain ⟨v, ev⟩ : ∃ v, v = growA ss (p.lo + a) (p.hi + b) from_ p.m := ⟨_, rfl⟩
  have hA := e_rgrow ss gs es ds hes hds hln hnx (p.lo + a) (p.hi + b) from_ hf p.m hp.way (by omega) rs hrs v (by rw [ev, growA_eq hnx p.m hp.way])
  have hok := growA_ok hnx p.m hp.way ev
  unfold moveV at hv
  rw [← ev] at hv
  have hem := growA_e (show ((v.1.1, v.1.2), v.2) = _ from ev)
  obtain ⟨⟨v1, v2⟩, v3⟩ := v
  obtain ⟨lo, hi, est, m⟩ := p
  simp only at hlo hhi hle hA hv hrs hfew hem hok
  obtain ⟨l', el'⟩ : ∃ x, lo + a = x := ⟨_, rfl⟩
  obtain ⟨h', eh'⟩ : ∃ x, hi + b = x := ⟨_, rfl⟩
  obtain ⟨md, emd⟩ : ∃ x, (a + b) / 2 = x := ⟨_, rfl⟩
  obtain ⟨s', es'⟩ : ∃ x, est + md = x := ⟨_, rfl⟩
  obtain ⟨t', et'⟩ : ∃ x, max l' (min s' h') = x := ⟨_, rfl⟩
  obtain ⟨u', eu'⟩ : ∃ x, v2.map rtRow = x := ⟨_, rfl⟩
  rw [el', eh', emd, es', et'] at hv
  rw [el', eh'] at hA
  have hA : PCalls Try.prog 37 [.agg [.list 3 es, .list 5 ds], .agg [.int .i64 from_, .list 1 rs], .int .i64 l', .int .i64 h'] (· = .tuple [.agg [.int .i64 v1, .list 1 u'], .int .i64 v3]) := by rw [← eu']; exact hA
  have hugA : uptoL 0 [AV.agg [.list 3 es, .list 5 ds], .agg [.int .i64 from_, .list 1 rs], .int .i64 l', .int .i64 h'] = true := by simp only [uptoL, AV.upto, hu.get, hud.get, hur.get]; rfl
  have s3 := e_xmid17 a b md ⟨by omega, by omega⟩ ⟨by omega, by omega⟩ emd
  have hZ : ∀ (x : Int) (h : AHeap), e ≠ 0 → x = e → Ret [.agg [.int .i64 0, .int .i64 0, .int .i64 0, .int .i64 0, .int .i64 0, .int .i64 0, .nils], .int .i64 x] h (fun r => (e = 0 ∧ r = .tuple [.agg [.int .i64 1, .int .i64 g, .int .i64 q.lo, .int .i64 q.hi, .int .i64 q.est, .int .i64 from_, .list 1 us], .int .i64 0]) ∨ (e ≠ 0 ∧ r = .tuple [.agg [.int .i64 0, .int .i64 0, .int .i64 0, .int .i64 0, .int .i64 0, .int .i64 0, .nils], .int .i64 e])) := fun x h h0 hx => ⟨_, Vw.same rfl, .inr ⟨h0, by rw [← hx]; rfl⟩⟩
  show PCalls Try.prog 34 [.agg [.list 3 es, .list 5 ds], .agg [.int .i64 1, .int .i64 g, .int .i64 lo, .int .i64 hi, .int .i64 est, .int .i64 from_, .list 1 rs], .int .i64 a, .int .i64 b] _
  (refine PCalls.ofY Try.func34 (by kernel_rfl) (by kernel_rfl) fun w hw R hR => ?_); (obtain ⟨wbin, wcmp, wun, wconv, wnot, wbeq, wmm, wscmp, wsadd, wslen, wsat, weqs, wlen, wnlen, wofNat, wtake, wdrop, wapp, wzero, wnat⟩ := w); (have hbin : wbin = binStd := congrArg Prims.bin hw); (have hcmp : wcmp = cmpStd := congrArg Prims.cmp hw); (have hun : wun = unStd := congrArg Prims.un hw); (have hconv : wconv = fun k n => k.wrap n := congrArg Prims.conv hw); (have hnot : wnot = fun b => !b := congrArg Prims.not hw); (have hbeq : wbeq = fun a b => a == b := congrArg Prims.beq hw); (have hmm : wmm = maxI := congrArg Prims.mm hw); (have hscmp : wscmp = scmpStd := congrArg Prims.scmp hw); (have hsadd : wsadd = fun x y => x ++ y := congrArg Prims.sadd hw); (have hslen : wslen = fun s => (s.size : Int) := congrArg Prims.slen hw); (have hsat : wsat = std.sat := congrArg Prims.sat hw); (have heqs : weqs = fun a b os => (eqOffs a b os).getD false := congrArg Prims.eqs hw); (have hlen : wlen = fun es => (es.length : Int) := congrArg Prims.len hw); (have hnlen : wnlen = fun es => es.length := congrArg Prims.nlen hw); (have hofNat : wofNat = (fun n : Nat => (n : Int)) := congrArg Prims.ofNat hw); (have htake : wtake = fun es b => es.take b.toNat := congrArg Prims.take hw); (have hdrop : wdrop = fun es a => es.drop a.toNat := congrArg Prims.drop hw); (have happ : wapp = fun a b => a ++ b := congrArg Prims.app hw); (have hzero : wzero = fun n z => List.replicate n.toNat z := congrArg Prims.zero hw); (have hnat : wnat = fun n => n.toNat := congrArg Prims.nat hw); (conv => arg 2; cbv); (generalize hP : Try.prog = P); cbv
  have hZ2 : ∀ (x : Int) (h : AHeap), e ≠ 0 → x = e → Ret [.agg [.int .i64 0, .int .i64 0, .int .i64 0, .int .i64 0, .int .i64 0, .int .i64 0, .nils], .int .i64 x] h R := fun x h h0 hx => ⟨_, Vw.same rfl, hR _ (.inr ⟨h0, by rw [← hx]; rfl⟩)⟩
  have hY : ∀ (h : AHeap) (t0 : Int), e = 0 → q = ⟨l', h', t', v2⟩ → t0 = t' → Ret [.agg [.int .i64 1, .int .i64 g, .int .i64 l', .int .i64 h', .int .i64 t0, .int .i64 from_, .list 1 u'], .int .i64 0] h R := fun h t0 h0 hq ht => by
    subst ht
    have huu' : Up0 u' := by rw [← eu']; exact up_rt v2
    refine ⟨_, Vw.same (by simp only [retOne, AV.upto, uptoL, huu'.get]; rfl), hR _ (.inl ⟨h0, ?_⟩)⟩
    rw [hq] at hus ⊢
    rw [hus, ← eu']; rfl
  have z1 : wcmp .eql 1 0 = false := by rw [hcmp]; rfl
  have b1 : wbin .add .i64 lo a = l' := by rw [hbin, i_add (by omega) (by omega)]; exact el'
  have b2 : wbin .add .i64 hi b = h' := by rw [hbin, i_add (by omega) (by omega)]; exact eh'
  have b3 : wbin .add .i64 est md = s' := by rw [hbin, i_add (by omega) (by omega)]; exact es'
  simp only [z1]
  cbv
  simp only [b1, b2]
  by_cases hov : l' < -17592186044416 ∨ 17592186044416 < h'
  · rw [if_pos hov] at hv
    simp only [Prod.mk.injEq] at hv
    have he20 : e ≠ 0 := by omega
    repeat' (first | exact hZ2 20 _ he20 hv.2.symm | (exfalso; omega) | (split <;> rename_i h6 <;> (try (simp only [b1, b2] at h6)) <;> (try (simp only [hbin, hcmp, hun, hconv, hnot, hbeq, hmm, hscmp, hsadd, hslen, hsat, heqs, hofNat, binStd, cmpStd, unStd, scmpStd, maxI, Bool.not_eq_true', Bool.not_eq_false', decide_eq_true_eq, decide_eq_false_iff_not, Int.not_lt, Int.not_le, if_true, if_false, Bool.false_eq_true, beq_iff_eq, bne_iff_ne, ne_eq, Bool.not_eq_eq_eq_not, Bool.not_true, Bool.not_false, beq_eq_false_iff_ne, bne_eq_false_iff_eq, Int.ofNat_eq_natCast, Bool.not_not, not_true_eq_false, not_false_eq_true, reduceCtorEq] at h6)) <;> (try cbv)))
  · rw [if_neg hov] at hv
    simp only [Prod.mk.injEq] at hv
    repeat' (first | (exfalso; omega) | (split <;> rename_i h6 <;> (try (simp only [b1, b2] at h6)) <;> (try (simp only [hbin, hcmp, hun, hconv, hnot, hbeq, hmm, hscmp, hsadd, hslen, hsat, heqs, hofNat, binStd, cmpStd, unStd, scmpStd, maxI, Bool.not_eq_true', Bool.not_eq_false', decide_eq_true_eq, decide_eq_false_iff_not, Int.not_lt, Int.not_le, if_true, if_false, Bool.false_eq_true, beq_iff_eq, bne_iff_ne, ne_eq, Bool.not_eq_eq_eq_not, Bool.not_true, Bool.not_false, beq_eq_false_iff_ne, bne_eq_false_iff_eq, Int.ofNat_eq_natCast, Bool.not_not, not_true_eq_false, not_false_eq_true, reduceCtorEq] at h6)) <;> (try cbv)))
    refine Call.stepE (by rw [← hP]; exact hA) (by exact hugA) ?_
    cbv
    (split <;> rename_i h5 <;> (try (simp only [hbin, hcmp, hun, hconv, hnot, hbeq, hmm, hscmp, hsadd, hslen, hsat, heqs, hofNat, binStd, cmpStd, unStd, scmpStd, maxI, Bool.not_eq_true', Bool.not_eq_false', decide_eq_true_eq, decide_eq_false_iff_not, Int.not_lt, Int.not_le, if_true, if_false, Bool.false_eq_true, beq_iff_eq, bne_iff_ne, ne_eq, Bool.not_eq_eq_eq_not, Bool.not_true, Bool.not_false, beq_eq_false_iff_ne, bne_eq_false_iff_eq, Int.ofNat_eq_natCast, Bool.not_not, not_true_eq_false, not_false_eq_true, reduceCtorEq] at h5)) <;> (try cbv))
    · exact hZ2 v3 _ (by omega) hv.2.symm
    have hv1 : v1 = from_ := by
      rcases hok with h | h
      · exact absurd h5 h.1
      · exact h.2.1
    subst hv1
    first
      | (refine Call.stepE (by rw [← hP]; exact s3) rfl ?_; cbv)
      | (refine QCal.stepE (by rw [← hP]; exact s3) rfl ?_; cbv)
    (try simp only [b3])
    repeat' (split <;> rename_i h7 <;> (try (simp only [b3] at h7)) <;> (try (simp only [hbin, hcmp, hun, hconv, hnot, hbeq, hmm, hscmp, hsadd, hslen, hsat, heqs, hofNat, binStd, cmpStd, unStd, scmpStd, maxI, Bool.not_eq_true', Bool.not_eq_false', decide_eq_true_eq, decide_eq_false_iff_not, Int.not_lt, Int.not_le, if_true, if_false, Bool.false_eq_true, beq_iff_eq, bne_iff_ne, ne_eq, Bool.not_eq_eq_eq_not, Bool.not_true, Bool.not_false, beq_eq_false_iff_ne, bne_eq_false_iff_eq, Int.ofNat_eq_natCast, Bool.not_not, not_true_eq_false, not_false_eq_true, reduceCtorEq] at h7)) <;> (try cbv))
    all_goals (try simp only [b3])
    all_goals (repeat' (refine And.intro ?_ ?_))
    all_goals exact hY _ _ (by omega) hv.1 (by omega)
set_option maxHeartbeats 2000000 in
theorem e_same21 (g from_ lo hi est : Int) (m : List (List Int)) (hm : ∀ l, l ∈ m → l.length ≤ 12) (hm16 : m.length ≤ 1000) (rs qs : List (List AV)) (hrs : rs = m.map rtC) (hqs : qs = m.map rtRow) :
    PCalls Try.prog 32 [.agg [.bool true, .int .i64 g, .int .i64 lo, .int .i64 hi, .int .i64 est, .int .i64 from_, .list 13 rs], .agg [.int .i64 1, .int .i64 g, .int .i64 lo, .int .i64 hi, .int .i64 est, .int .i64 from_, .list 1 qs]] (· = .bool true) := by
  have hur : Up0 rs := by rw [hrs]; exact up_map (f := rtC) (fun d => rfl) m
  have huq : Up0 qs := by rw [hqs]; exact up_rt m
  have hrl : rs.length = m.length := by rw [hrs]; simp
  have hql : qs.length = m.length := by rw [hqs]; simp
  (refine PCalls.ofY Try.func32 (by kernel_rfl) (by kernel_rfl) fun w hw R hR => ?_); (obtain ⟨wbin, wcmp, wun, wconv, wnot, wbeq, wmm, wscmp, wsadd, wslen, wsat, weqs, wlen, wnlen, wofNat, wtake, wdrop, wapp, wzero, wnat⟩ := w); (have hbin : wbin = binStd := congrArg Prims.bin hw); (have hcmp : wcmp = cmpStd := congrArg Prims.cmp hw); (have hun : wun = unStd := congrArg Prims.un hw); (have hconv : wconv = fun k n => k.wrap n := congrArg Prims.conv hw); (have hnot : wnot = fun b => !b := congrArg Prims.not hw); (have hbeq : wbeq = fun a b => a == b := congrArg Prims.beq hw); (have hmm : wmm = maxI := congrArg Prims.mm hw); (have hscmp : wscmp = scmpStd := congrArg Prims.scmp hw); (have hsadd : wsadd = fun x y => x ++ y := congrArg Prims.sadd hw); (have hslen : wslen = fun s => (s.size : Int) := congrArg Prims.slen hw); (have hsat : wsat = std.sat := congrArg Prims.sat hw); (have heqs : weqs = fun a b os => (eqOffs a b os).getD false := congrArg Prims.eqs hw); (have hlen : wlen = fun es => (es.length : Int) := congrArg Prims.len hw); (have hnlen : wnlen = fun es => es.length := congrArg Prims.nlen hw); (have hofNat : wofNat = (fun n : Nat => (n : Int)) := congrArg Prims.ofNat hw); (have htake : wtake = fun es b => es.take b.toNat := congrArg Prims.take hw); (have hdrop : wdrop = fun es a => es.drop a.toNat := congrArg Prims.drop hw); (have happ : wapp = fun a b => a ++ b := congrArg Prims.app hw); (have hzero : wzero = fun n z => List.replicate n.toNat z := congrArg Prims.zero hw); (have hnat : wnat = fun n => n.toNat := congrArg Prims.nat hw); (conv => arg 2; cbv); (generalize hP : Try.prog = P); cbv
  have c1 : ∀ x, wcmp .neq x x = false := fun x => by rw [hcmp]; simp [cmpStd]
  have z1 : wcmp .eql 1 1 = true := by rw [hcmp]; rfl
  have z2 : wbeq true true = true := by rw [hbeq]; rfl
  have z3 : wnot true = false := by rw [hnot]; rfl
  (obtain ⟨L, eL, L0, Ln⟩ : ∃ L : Int, wlen rs = L ∧ 0 ≤ L ∧ L.toNat = rs.length := ⟨(rs.length : Int), by rw [hlen], Int.natCast_nonneg _, Int.toNat_natCast _⟩)
  have eM : wlen qs = L := by
    have e := eL
    rw [hlen] at e ⊢
    show ((qs.length : Nat) : Int) = L
    rw [hql, ← hrl]; exact e
  repeat' (first | (simp only [z1, z2, z3, c1]; cbv) | (simp only [eL, eM, c1]; cbv))
  refine Loop.data hw (S := Int) (fun i => fr 107 [(3, .ref 1 7 0 0), (67, .list 13 rs), (68, .int .i64 L), (69, .int .i64 i)])
    (fun _ => [.live 7 [[.bool true, .int .i64 g, .int .i64 lo, .int .i64 hi, .int .i64 est, .int .i64 from_, .list 13 rs]], .live 7 [[.int .i64 1, .int .i64 g, .int .i64 lo, .int .i64 hi, .int .i64 est, .int .i64 from_, .list 1 qs]]]) (fun i => 0 ≤ i ∧ i ≤ L) (fun i => (L - i).toNat) 0 (by (refine Wk.eqz (id) (by first | exact fun i _ j _ e => e | (simp only [List.length_cons, List.length_nil]; decide)) ?_; cbv; (repeat' (first | exact trivial | rfl | assumption | apply And.intro | (simp only [hbin, hcmp, hun, hconv, hnot, hbeq, hmm, hscmp, hsadd, hslen, hsat, heqs, hofNat, binStd, cmpStd, unStd, scmpStd, maxI, Bool.not_eq_true', Bool.not_eq_false', decide_eq_true_eq, decide_eq_false_iff_not, Int.not_lt, Int.not_le, if_true, if_false, Bool.false_eq_true, beq_iff_eq, bne_iff_ne, ne_eq, Bool.not_eq_eq_eq_not, Bool.not_true, Bool.not_false, beq_eq_false_iff_ne, bne_eq_false_iff_eq, Int.ofNat_eq_natCast, Bool.not_not, not_true_eq_false, not_false_eq_true, reduceCtorEq]; first | done | assumption) | exact RowsZ.same (by assumption) (by first | assumption | rfl) | exact FzL.mk rfl rfl rfl (by assumption) (by first | assumption | rfl) (by decide) | (refine RowsZ.one ?_; cbv))))) ⟨Int.le_refl _, L0⟩ ?_
  rintro i hinv Q' hN hE hR'
  have hinv : 0 ≤ i ∧ i ≤ L := hinv
  cbv
  obtain ⟨hi0, hi1⟩ := hinv
  (split <;> rename_i hc <;> (try (simp only [hbin, hcmp, hun, hconv, hnot, hbeq, hmm, hscmp, hsadd, hslen, hsat, heqs, hofNat, binStd, cmpStd, unStd, scmpStd, maxI, Bool.not_eq_true', Bool.not_eq_false', decide_eq_true_eq, decide_eq_false_iff_not, Int.not_lt, Int.not_le, if_true, if_false, Bool.false_eq_true, beq_iff_eq, bne_iff_ne, ne_eq, Bool.not_eq_eq_eq_not, Bool.not_true, Bool.not_false, beq_eq_false_iff_ne, bne_eq_false_iff_eq, Int.ofNat_eq_natCast, Bool.not_not, not_true_eq_false, not_false_eq_true, reduceCtorEq] at hc)) <;> (try cbv))
  rotate_left 1
  · refine hE _ _ _ ?_
    cbv
    exact ⟨_, Vw.same rfl, hR _ rfl⟩
  obtain ⟨l, hl⟩ : ∃ l, m[i.toNat]? = some l := ⟨_, List.getElem?_eq_getElem (show i.toNat < m.length by omega)⟩
  have hl12 := hm l (List.mem_of_getElem? hl)
  have hri : rs[i.toNat]? = some (toR l).row := by rw [hrs, List.getElem?_map, hl]; rfl
  obtain ⟨xs, exs⟩ : ∃ x, x = l.map nxRow := ⟨_, rfl⟩
  have huxs : Up0 xs := by rw [exs]; exact up_nx l
  have hxl : xs.length = l.length := by rw [exs]; simp
  have hqi : qs[i.toNat]? = some [.list 1 xs] := by rw [hqs, List.getElem?_map, hl, exs]; rfl
  obtain ⟨i2, ei2⟩ : ∃ z, z = i + 1 := ⟨_, rfl⟩
  have a4 : wbin .add .i64 i 1 = i2 := by rw [hbin, ei2]; show IntKind.i64.wrap (i + 1) = i + 1; rw [IntKind.wrap_i64]; omega
  have hT2 : (L - i2).toNat < (L - i).toNat := by omega
  have hp := e_pathL l hl12
  obtain ⟨row, erow⟩ : ∃ row, row = toR l := ⟨_, rfl⟩
  have hp : PCalls Try.prog 54 [.agg row.row] (· = .list 1 xs) := by rw [erow, exs]; exact hp
  rw [← erow] at hri
  (obtain ⟨K, eK, K0, Kn⟩ : ∃ L : Int, wlen xs = L ∧ 0 ≤ L ∧ L.toNat = xs.length := ⟨(xs.length : Int), by rw [hlen], Int.natCast_nonneg _, Int.toNat_natCast _⟩)
  obtain ⟨n, s0, s1, s2, s3, s4, s5, s6, s7, s8, s9, s10, s11⟩ := row
  refine Idx.mk _ hi0 hri ?_
  cbv
  refine Call.stepE (by rw [← hP]; exact hp) rfl ?_
  cbv
  refine Idx.mk _ hi0 hqi ?_
  cbv
  simp only [eK, c1]
  cbv
  simp only [eK]
  refine Loop.data hw (S := Int) (fun k => fr 107 [(3, .ref 1 7 0 0), (5, .int .i64 i), (7, .list 1 xs), (67, .list 13 rs), (68, .int .i64 L), (69, .int .i64 i), (87, .int .i64 K), (88, .int .i64 k)])
    (fun _ => [.live 7 [[.bool true, .int .i64 g, .int .i64 lo, .int .i64 hi, .int .i64 est, .int .i64 from_, .list 13 rs]], .live 7 [[.int .i64 1, .int .i64 g, .int .i64 lo, .int .i64 hi, .int .i64 est, .int .i64 from_, .list 1 qs]]]) (fun k => 0 ≤ k ∧ k ≤ K) (fun k => (K - k).toNat) 0 (by (refine Wk.eqz (id) (by first | exact fun i _ j _ e => e | (simp only [List.length_cons, List.length_nil]; decide)) ?_; cbv; (repeat' (first | exact trivial | rfl | assumption | apply And.intro | (simp only [hbin, hcmp, hun, hconv, hnot, hbeq, hmm, hscmp, hsadd, hslen, hsat, heqs, hofNat, binStd, cmpStd, unStd, scmpStd, maxI, Bool.not_eq_true', Bool.not_eq_false', decide_eq_true_eq, decide_eq_false_iff_not, Int.not_lt, Int.not_le, if_true, if_false, Bool.false_eq_true, beq_iff_eq, bne_iff_ne, ne_eq, Bool.not_eq_eq_eq_not, Bool.not_true, Bool.not_false, beq_eq_false_iff_ne, bne_eq_false_iff_eq, Int.ofNat_eq_natCast, Bool.not_not, not_true_eq_false, not_false_eq_true, reduceCtorEq]; first | done | assumption) | exact RowsZ.same (by assumption) (by first | assumption | rfl) | exact FzL.mk rfl rfl rfl (by assumption) (by first | assumption | rfl) (by decide) | (refine RowsZ.one ?_; cbv))))) ⟨Int.le_refl _, K0⟩ ?_
  rintro k hinv2 Q2 hN2 hE2 hR2
  have hinv2 : 0 ≤ k ∧ k ≤ K := hinv2
  cbv
  obtain ⟨hk0, hk1⟩ := hinv2
  (split <;> rename_i hd <;> (try (simp only [hbin, hcmp, hun, hconv, hnot, hbeq, hmm, hscmp, hsadd, hslen, hsat, heqs, hofNat, binStd, cmpStd, unStd, scmpStd, maxI, Bool.not_eq_true', Bool.not_eq_false', decide_eq_true_eq, decide_eq_false_iff_not, Int.not_lt, Int.not_le, if_true, if_false, Bool.false_eq_true, beq_iff_eq, bne_iff_ne, ne_eq, Bool.not_eq_eq_eq_not, Bool.not_true, Bool.not_false, beq_eq_false_iff_ne, bne_eq_false_iff_eq, Int.ofNat_eq_natCast, Bool.not_not, not_true_eq_false, not_false_eq_true, reduceCtorEq] at hd)) <;> (try cbv))
  rotate_left 1
  · refine hE2 _ _ _ ?_
    cbv
    simp only [a4]
    refine hN i2 _ _ ?hx ?hI hT2
    case hx => (refine Wk.eqz (id) (by first | exact fun i _ j _ e => e | (simp only [List.length_cons, List.length_nil]; decide)) ?_; cbv; (repeat' (first | exact trivial | rfl | assumption | apply And.intro | (simp only [hbin, hcmp, hun, hconv, hnot, hbeq, hmm, hscmp, hsadd, hslen, hsat, heqs, hofNat, binStd, cmpStd, unStd, scmpStd, maxI, Bool.not_eq_true', Bool.not_eq_false', decide_eq_true_eq, decide_eq_false_iff_not, Int.not_lt, Int.not_le, if_true, if_false, Bool.false_eq_true, beq_iff_eq, bne_iff_ne, ne_eq, Bool.not_eq_eq_eq_not, Bool.not_true, Bool.not_false, beq_eq_false_iff_ne, bne_eq_false_iff_eq, Int.ofNat_eq_natCast, Bool.not_not, not_true_eq_false, not_false_eq_true, reduceCtorEq]; first | done | assumption) | exact RowsZ.same (by assumption) (by first | assumption | rfl) | exact FzL.mk rfl rfl rfl (by assumption) (by first | assumption | rfl) (by decide) | (refine RowsZ.one ?_; cbv))))
    case hI => exact ⟨by omega, by omega⟩
  obtain ⟨c, hcj⟩ : ∃ c, l[k.toNat]? = some c := ⟨_, List.getElem?_eq_getElem (show k.toNat < l.length by omega)⟩
  have hxj : xs[k.toNat]? = some [.int .i64 c] := by rw [exs, List.getElem?_map, hcj]; rfl
  obtain ⟨k2, ek2⟩ : ∃ z, z = k + 1 := ⟨_, rfl⟩
  have a5 : wbin .add .i64 k 1 = k2 := by rw [hbin, ek2]; show IntKind.i64.wrap (k + 1) = k + 1; rw [IntKind.wrap_i64]; omega
  repeat' (first
    | (refine Idx.mk _ hk0 hxj ?_; cbv)
    | (refine Idx.mk _ hi0 hqi ?_; cbv)
    | (simp only [c1]; cbv))
  simp only [a5]
  refine hN2 k2 _ _ ?hx ?hI ?ht
  case hx => (refine Wk.eqz (id) (by first | exact fun i _ j _ e => e | (simp only [List.length_cons, List.length_nil]; decide)) ?_; cbv; (repeat' (first | exact trivial | rfl | assumption | apply And.intro | (simp only [hbin, hcmp, hun, hconv, hnot, hbeq, hmm, hscmp, hsadd, hslen, hsat, heqs, hofNat, binStd, cmpStd, unStd, scmpStd, maxI, Bool.not_eq_true', Bool.not_eq_false', decide_eq_true_eq, decide_eq_false_iff_not, Int.not_lt, Int.not_le, if_true, if_false, Bool.false_eq_true, beq_iff_eq, bne_iff_ne, ne_eq, Bool.not_eq_eq_eq_not, Bool.not_true, Bool.not_false, beq_eq_false_iff_ne, bne_eq_false_iff_eq, Int.ofNat_eq_natCast, Bool.not_not, not_true_eq_false, not_false_eq_true, reduceCtorEq]; first | done | assumption) | exact RowsZ.same (by assumption) (by first | assumption | rfl) | exact FzL.mk rfl rfl rfl (by assumption) (by first | assumption | rfl) (by decide) | (refine RowsZ.one ?_; cbv))))
  case hI => exact ⟨by omega, by omega⟩
  case ht => omega
theorem e_same21Z : PCalls Try.prog 32 [.agg [.bool false, .int .i64 0, .int .i64 0, .int .i64 0, .int .i64 0, .int .i64 0, .nils], .agg [.int .i64 0, .int .i64 0, .int .i64 0, .int .i64 0, .int .i64 0, .int .i64 0, .nils]] (· = .bool true) := by
  (refine PCalls.ofY Try.func32 (by kernel_rfl) (by kernel_rfl) fun w hw R hR => ?_); (subst hw); (conv => arg 2; cbv); (generalize hP : Try.prog = P); cbv
  (refine Loop.rounds rfl 1 ?_; cbv)
  exact ⟨_, Vw.same rfl, hR _ rfl⟩
theorem e_anchor21 : PCalls Try.prog 25 [] (· = .bool true) := by
  have h1 := e_reset ([⟨900, [(0, 0)], []⟩].map sgRow) ([⟨1, 0, 125, 2, 0⟩].map grRow) (up_sg _) (up_gr _) 0 (by decide) ⟨1, 0, 125, 2, 0⟩ rfl 1024 131072 131072 0 0 0 1000 100 3 1 128 0 5 1 (by decide) (by decide) 10 20 (-5) 25 10 ⟨by decide, by decide⟩ (by decide) (by decide) (by decide) (by decide) _ rfl
  have h1 : PCalls Try.prog 29 [.agg [.int .i64 1024, .int .i64 131072, .int .i64 131072, .int .i64 0, .int .i64 0, .int .i64 0, .int .i64 1000, .int .i64 100, .int .i64 3, .int .i64 1, .int .i64 128, .int .i64 0, .int .i64 5, .int .i64 1], .agg [.list 3 [[.int .i64 900, .list 2 [[.int .i64 0, .int .i64 0]], .nils]], .list 5 [[.int .i64 1, .int .i64 0, .int .i64 125, .int .i64 2, .int .i64 0]]], .int .i64 0, .agg [.int .i64 10, .int .i64 20]] (· = .agg [.bool true, .int .i64 0, .int .i64 (-5), .int .i64 25, .int .i64 10, .int .i64 125, .list 13 [[.int .i64 1, .int .i64 0, .int .i64 0, .int .i64 0, .int .i64 0, .int .i64 0, .int .i64 0, .int .i64 0, .int .i64 0, .int .i64 0, .int .i64 0, .int .i64 0, .int .i64 0]]]) := PCalls.le h1 rfl
  (refine PCalls.ofY Try.func25 (by kernel_rfl) (by kernel_rfl) fun w hw R hR => ?_); (subst hw); (conv => arg 2; cbv); (generalize hP : Try.prog = P); cbv
  refine Call.stepE (by rw [← hP]; exact h1) rfl ?_
  cbv
  exact ⟨_, Vw.same rfl, hR _ rfl⟩
end Go.Proofs.Ytpiocfmdjgbamaa

/- PlaceMoves, by the engine. -/
set_option linter.unusedVariables false
set_option linter.unusedSimpArgs false
namespace Go.Proofs.Ytpiocfmdjgbamaa
open Go Go.RowKit Go.Eng
set_option maxRecDepth 100000
set_option maxHeartbeats 4000000 in
theorem e_pmoves (c0 c1 c2 c3 c4 c5 c6 c7 c8 c9 c10 c11 c12 c13 : Int) (ss : List Sg) (gs : List Gr) (es ds : List (List AV)) (hes : es = ss.map sgRow) (hds : ds = gs.map grRow) (g : Int) (ps : List (Int × Int)) (pl : List (List AV)) (hpl : pl = ps.map plRow) :
    PCalls Try.prog 7 [.agg [.int .i64 c0, .int .i64 c1, .int .i64 c2, .int .i64 c3, .int .i64 c4, .int .i64 c5, .int .i64 c6, .int .i64 c7, .int .i64 c8, .int .i64 c9, .int .i64 c10, .int .i64 c11, .int .i64 c12, .int .i64 c13], .agg [.list 3 es, .list 5 ds], .int .i64 g, .list 2 pl] (· = .bool true) := by
  have hu : Up0 es := by rw [hes]; exact up_sg ss
  have hud : Up0 ds := by rw [hds]; exact up_gr gs
  have hup : Up0 pl := by rw [hpl]; exact up_pl ps
  have hpll : pl.length = ps.length := by rw [hpl]; simp
  have hT : uptoL 0 [.agg [.int .i64 c0, .int .i64 c1, .int .i64 c2, .int .i64 c3, .int .i64 c4, .int .i64 c5, .int .i64 c6, .int .i64 c7, .int .i64 c8, .int .i64 c9, .int .i64 c10, .int .i64 c11, .int .i64 c12, .int .i64 c13], .agg [.list 3 es, .list 5 ds], .int .i64 g] = true := by simp only [uptoL, AV.upto, hu.get, hud.get]; rfl
  (refine PCalls.ofY Try.func7 (by kernel_rfl) (by kernel_rfl) fun w hw R hR => ?_); (obtain ⟨wbin, wcmp, wun, wconv, wnot, wbeq, wmm, wscmp, wsadd, wslen, wsat, weqs, wlen, wnlen, wofNat, wtake, wdrop, wapp, wzero, wnat⟩ := w); (have hbin : wbin = binStd := congrArg Prims.bin hw); (have hcmp : wcmp = cmpStd := congrArg Prims.cmp hw); (have hun : wun = unStd := congrArg Prims.un hw); (have hconv : wconv = fun k n => k.wrap n := congrArg Prims.conv hw); (have hnot : wnot = fun b => !b := congrArg Prims.not hw); (have hbeq : wbeq = fun a b => a == b := congrArg Prims.beq hw); (have hmm : wmm = maxI := congrArg Prims.mm hw); (have hscmp : wscmp = scmpStd := congrArg Prims.scmp hw); (have hsadd : wsadd = fun x y => x ++ y := congrArg Prims.sadd hw); (have hslen : wslen = fun s => (s.size : Int) := congrArg Prims.slen hw); (have hsat : wsat = std.sat := congrArg Prims.sat hw); (have heqs : weqs = fun a b os => (eqOffs a b os).getD false := congrArg Prims.eqs hw); (have hlen : wlen = fun es => (es.length : Int) := congrArg Prims.len hw); (have hnlen : wnlen = fun es => es.length := congrArg Prims.nlen hw); (have hofNat : wofNat = (fun n : Nat => (n : Int)) := congrArg Prims.ofNat hw); (have htake : wtake = fun es b => es.take b.toNat := congrArg Prims.take hw); (have hdrop : wdrop = fun es a => es.drop a.toNat := congrArg Prims.drop hw); (have happ : wapp = fun a b => a ++ b := congrArg Prims.app hw); (have hzero : wzero = fun n z => List.replicate n.toNat z := congrArg Prims.zero hw); (have hnat : wnat = fun n => n.toNat := congrArg Prims.nat hw); (conv => arg 2; cbv); (generalize hP : Try.prog = P); cbv
  have hW : ∀ h : AHeap, Ret [.bool true] h R := fun h => ⟨_, Vw.same rfl, hR _ rfl⟩
  have n1 : wnot true = false := by rw [hnot]; rfl
  have n2 : wnot false = true := by rw [hnot]; rfl
  (obtain ⟨L, eL, L0, Ln⟩ : ∃ L : Int, wlen pl = L ∧ 0 ≤ L ∧ L.toNat = pl.length := ⟨(pl.length : Int), by rw [hlen], Int.natCast_nonneg _, Int.toNat_natCast _⟩)
  refine Call.stepE (by rw [← hP]; exact e_anchor21) rfl ?_
  cbv
  simp only [n1]
  cbv
  refine Call.step (by rw [← hP]; exact e_may21 c0 c1 c2 c3 c4 c5 c6 c7 c8 c9 c10 c11 c12 c13 ss gs es ds hes hds g) (by exact hT) ?_
  rintro r ⟨o, rfl, ho⟩
  cbv
  (split <;> rename_i h1 <;> (try (simp only [hbin, hcmp, hun, hconv, hnot, hbeq, hmm, hscmp, hsadd, hslen, hsat, heqs, hofNat, binStd, cmpStd, unStd, scmpStd, maxI, Bool.not_eq_true', Bool.not_eq_false', decide_eq_true_eq, decide_eq_false_iff_not, Int.not_lt, Int.not_le, if_true, if_false, Bool.false_eq_true, beq_iff_eq, bne_iff_ne, ne_eq, Bool.not_eq_eq_eq_not, Bool.not_true, Bool.not_false, beq_eq_false_iff_ne, bne_eq_false_iff_eq, Int.ofNat_eq_natCast, Bool.not_not, not_true_eq_false, not_false_eq_true, reduceCtorEq] at h1)) <;> (try cbv))
  · exact hW _
  obtain ⟨hC, hM, hg0, hg1⟩ := ho h1
  simp only [eL]
  (split <;> rename_i h2 <;> (try (simp only [hbin, hcmp, hun, hconv, hnot, hbeq, hmm, hscmp, hsadd, hslen, hsat, heqs, hofNat, binStd, cmpStd, unStd, scmpStd, maxI, Bool.not_eq_true', Bool.not_eq_false', decide_eq_true_eq, decide_eq_false_iff_not, Int.not_lt, Int.not_le, if_true, if_false, Bool.false_eq_true, beq_iff_eq, bne_iff_ne, ne_eq, Bool.not_eq_eq_eq_not, Bool.not_true, Bool.not_false, beq_eq_false_iff_ne, bne_eq_false_iff_eq, Int.ofNat_eq_natCast, Bool.not_not, not_true_eq_false, not_false_eq_true, reduceCtorEq] at h2)) <;> (try cbv))
  · exact hW _
  simp only [eL]
  (split <;> rename_i h3 <;> (try (simp only [hbin, hcmp, hun, hconv, hnot, hbeq, hmm, hscmp, hsadd, hslen, hsat, heqs, hofNat, binStd, cmpStd, unStd, scmpStd, maxI, Bool.not_eq_true', Bool.not_eq_false', decide_eq_true_eq, decide_eq_false_iff_not, Int.not_lt, Int.not_le, if_true, if_false, Bool.false_eq_true, beq_iff_eq, bne_iff_ne, ne_eq, Bool.not_eq_eq_eq_not, Bool.not_true, Bool.not_false, beq_eq_false_iff_ne, bne_eq_false_iff_eq, Int.ofNat_eq_natCast, Bool.not_not, not_true_eq_false, not_false_eq_true, reduceCtorEq] at h3)) <;> (try cbv))
  · exact hW _
  obtain ⟨⟨a0, b0⟩, hp0⟩ : ∃ p, ps[0]? = some p := ⟨_, List.getElem?_eq_getElem (show 0 < ps.length by omega)⟩
  have hpi : pl[(0 : Int).toNat]? = some [.int .i64 a0, .int .i64 b0] := by rw [hpl, List.getElem?_map, show (0 : Int).toNat = 0 from rfl, hp0]; rfl
  obtain ⟨u1, eu1⟩ : ∃ o, decide (a0 ≤ b0) = o := ⟨_, rfl⟩
  have s1 := e_xright u1 eu1
  obtain ⟨nm, enm⟩ : ∃ z, -c6 = z := ⟨_, rfl⟩
  obtain ⟨u2, eu2⟩ : ∃ o, decide (a0 ≤ b0 → nm ≤ a0 ∧ b0 ≤ c6) = o := ⟨_, rfl⟩
  have s2 := e_xin u2 eu2
  have hCC := hC
  unfold ConfOk at hCC
  have hC6 : 1 ≤ c6 ∧ c6 ≤ 16777216 := by omega
  have hC8 : 0 ≤ c8 ∧ c8 ≤ 1048576 := by omega
  clear hCC
  have b1 : wun .neg .i64 c6 = nm := by rw [hun, i_neg (by omega) (by omega)]; exact enm
  refine Idx.mk _ (by decide) hpi ?_
  cbv
  (first | (refine Call.stepE (v := ?_) ?_ ?_ ?_; rotate_left 1; (focus (rw [← hP]; exact s1)); (focus (exact rfl)); cbv) | (refine QCal.stepE (v := ?_) ?_ ?_ ?_; rotate_left 1; (focus (rw [← hP]; exact s1)); (focus (exact rfl)); cbv))
  (split <;> rename_i h4 <;> (try (simp only [hbin, hcmp, hun, hconv, hnot, hbeq, hmm, hscmp, hsadd, hslen, hsat, heqs, hofNat, binStd, cmpStd, unStd, scmpStd, maxI, Bool.not_eq_true', Bool.not_eq_false', decide_eq_true_eq, decide_eq_false_iff_not, Int.not_lt, Int.not_le, if_true, if_false, Bool.false_eq_true, beq_iff_eq, bne_iff_ne, ne_eq, Bool.not_eq_eq_eq_not, Bool.not_true, Bool.not_false, beq_eq_false_iff_ne, bne_eq_false_iff_eq, Int.ofNat_eq_natCast, Bool.not_not, not_true_eq_false, not_false_eq_true, reduceCtorEq] at h4)) <;> (try cbv))
  · exact hW _
  refine Idx.mk _ (by decide) hpi ?_
  cbv
  simp only [b1]
  (first | (refine Call.stepE (v := ?_) ?_ ?_ ?_; rotate_left 1; (focus (rw [← hP]; exact s2)); (focus (exact rfl)); cbv) | (refine QCal.stepE (v := ?_) ?_ ?_ ?_; rotate_left 1; (focus (rw [← hP]; exact s2)); (focus (exact rfl)); cbv))
  (split <;> rename_i h5 <;> (try (simp only [hbin, hcmp, hun, hconv, hnot, hbeq, hmm, hscmp, hsadd, hslen, hsat, heqs, hofNat, binStd, cmpStd, unStd, scmpStd, maxI, Bool.not_eq_true', Bool.not_eq_false', decide_eq_true_eq, decide_eq_false_iff_not, Int.not_lt, Int.not_le, if_true, if_false, Bool.false_eq_true, beq_iff_eq, bne_iff_ne, ne_eq, Bool.not_eq_eq_eq_not, Bool.not_true, Bool.not_false, beq_eq_false_iff_ne, bne_eq_false_iff_eq, Int.ofNat_eq_natCast, Bool.not_not, not_true_eq_false, not_false_eq_true, reduceCtorEq] at h5)) <;> (try cbv))
  · exact hW _
  rw [h4] at eu1
  rw [h5] at eu2
  have k1 : a0 ≤ b0 := of_decide_eq_true eu1
  have k2 : nm ≤ a0 ∧ b0 ≤ c6 := of_decide_eq_true eu2 k1
  obtain ⟨G, hG0⟩ : ∃ G, gs[g.toNat]? = some G := ⟨_, List.getElem?_eq_getElem hg1⟩
  have hGo := hM.tr.grp g.toNat hg1 G hG0
  obtain ⟨_, _, hq1, hq2, hq3, hq4, hq5, hq6, hq7, hq8, _⟩ := hGo
  have hoff : 0 ≤ G.off ∧ G.off ≤ 1099511627776 := by
    obtain ⟨s, hs⟩ : ∃ s, ss[G.seg.toNat]? = some s := ⟨_, List.getElem?_eq_getElem hq2⟩
    have h1 := hq4 s hs
    have h2 := (hM.tr.seg G.seg.toNat hq2 s hs).le
    omega
  have hGd : ds[g.toNat]? = some (grRow G) := by rw [hds, List.getElem?_map, hG0]; rfl
  obtain ⟨from_, efr⟩ : ∃ x, x = G.off := ⟨_, rfl⟩
  obtain ⟨lo, elo⟩ : ∃ z, -(G.acc + c8) + min 0 a0 = z := ⟨_, rfl⟩
  obtain ⟨hi, ehi⟩ : ∃ z, G.acc + c8 + max 0 b0 = z := ⟨_, rfl⟩
  obtain ⟨est, eest⟩ : ∃ z, (lo + hi) / 2 = z := ⟨_, rfl⟩
  obtain ⟨r0, er0⟩ : ∃ r : List (List AV), r = [[G.seg]].map rtC := ⟨_, rfl⟩
  obtain ⟨q0, eq0⟩ : ∃ r : List (List AV), r = [[G.seg]].map rtRow := ⟨_, rfl⟩
  have m1 := e_reset es ds hu hud g hg0 G hGd c0 c1 c2 c3 c4 c5 c6 c7 c8 c9 c10 c11 c12 c13 hC8 ⟨hq5, hq6⟩ a0 b0 lo hi est ⟨by omega, by omega⟩ ⟨by omega, by omega⟩ elo ehi eest r0 er0
  have m2 := e_rreset es ds hu hud g hg0 G hGd c0 c1 c2 c3 c4 c5 c6 c7 c8 c9 c10 c11 c12 c13 hC8 ⟨hq5, hq6⟩ a0 b0 lo hi est ⟨by omega, by omega⟩ ⟨by omega, by omega⟩ elo ehi eest q0 eq0
  rw [← efr] at m1 m2 hoff
  have hur0 : Up0 r0 := by rw [er0]; exact ⟨rfl⟩
  have huq0 : Up0 q0 := by rw [eq0]; exact ⟨rfl⟩
  have hp0 : PlOk ss ⟨lo, hi, est, [[G.seg]]⟩ := by
    refine ⟨by simp only; omega, by simp only; omega, by simp only; omega, fun l hl => ?_, by simp⟩
    simp at hl; subst hl
    exact ⟨by simp, fun n hn => by simp at hn; subst hn; exact ⟨hq1, hq2⟩⟩
  have m3 := e_same21 g from_ lo hi est [[G.seg]] (fun l hl => by simp at hl; subst hl; simp) (by simp) r0 q0 er0 eq0
  have hus : ∀ (lo hi est : Int) (x y : List (List AV)), Up0 x → Up0 y → uptoL 0 [AV.agg [.bool true, .int .i64 g, .int .i64 lo, .int .i64 hi, .int .i64 est, .int .i64 from_, .list 13 x], .agg [.int .i64 1, .int .i64 g, .int .i64 lo, .int .i64 hi, .int .i64 est, .int .i64 from_, .list 1 y]] = true := fun lo hi est x y hx hy => by simp only [uptoL, AV.upto, hx.get, hy.get]; rfl
  have href := e_refsT21 ss gs es ds hes hds (by have := hM.n300; omega) (by have := hM.g500; omega) hM.ps
  have hut2 : uptoL 0 [AV.agg [.list 3 es, .list 5 ds]] = true := Bool.and_eq_true_iff.mpr ⟨Up0.one hu (Up0.one hud rfl), rfl⟩
  have huc : ∀ l : List AV, uptoL 0 l = true → uptoL 0 (AV.agg [.int .i64 c0, .int .i64 c1, .int .i64 c2, .int .i64 c3, .int .i64 c4, .int .i64 c5, .int .i64 c6, .int .i64 c7, .int .i64 c8, .int .i64 c9, .int .i64 c10, .int .i64 c11, .int .i64 c12, .int .i64 c13] :: .agg [.list 3 es, .list 5 ds] :: l) = true := fun l hl => by simp only [uptoL, AV.upto, hu.get, hud.get, hl]; rfl
  refine Idx.mk _ (by decide) hpi ?_
  cbv
  (first | (refine Call.stepE (v := ?_) ?_ ?_ ?_; rotate_left 1; (focus (rw [← hP]; exact m1)); (focus (exact huc _ rfl)); cbv) | (refine QCal.stepE (v := ?_) ?_ ?_ ?_; rotate_left 1; (focus (rw [← hP]; exact m1)); (focus (exact huc _ rfl)); cbv))
  repeat' (first
    | (refine QCal.stepE (by rw [← hP]; exact href) (by exact hut2) ?_; cbv)
    | (refine Idx.mk _ (by decide) hpi ?_; cbv))
  (first | (refine Call.stepE (v := ?_) ?_ ?_ ?_; rotate_left 1; (focus (rw [← hP]; exact m2)); (focus (exact huc _ rfl)); cbv) | (refine QCal.stepE (v := ?_) ?_ ?_ ?_; rotate_left 1; (focus (rw [← hP]; exact m2)); (focus (exact huc _ rfl)); cbv))
  (first | (refine Call.stepE (v := ?_) ?_ ?_ ?_; rotate_left 1; (focus (rw [← hP]; exact m3)); (focus (exact hus _ _ _ _ _ hur0 huq0)); cbv) | (refine QCal.stepE (v := ?_) ?_ ?_ ?_; rotate_left 1; (focus (rw [← hP]; exact m3)); (focus (exact hus _ _ _ _ _ hur0 huq0)); cbv))
  simp only [n1]
  cbv
  obtain ⟨pd, epd⟩ : ∃ x, x = (ps.drop 1).map plRow := ⟨_, rfl⟩
  have hpdw : wdrop pl 1 = pd := by rw [hdrop]; show pl.drop 1 = pd; rw [epd, hpl, List.map_drop]
  have hupd : Up0 pd := by rw [epd]; exact up_pl _
  have hpdl : pd.length = ps.length - 1 := by rw [epd]; simp
  refine Nn.mk (by decide) ?_
  refine Le.mk (by omega) ?_
  simp only [hpdw]
  (obtain ⟨D, eD, D0, Dn⟩ : ∃ L : Int, wlen pd = L ∧ 0 ≤ L ∧ L.toNat = pd.length := ⟨(pd.length : Int), by rw [hlen], Int.natCast_nonneg _, Int.toNat_natCast _⟩)
  simp only [eD]
  have hnx := hM.tr.nextOk
  have hln := hM.tr.lensOk
  refine Loop.data hw (S := Int × PlT × List (List AV) × List (List AV)) (fun s => fr 130 [(5, .ref 1 2 0 0), (9, .ref 2 7 0 0), (10, .ref 3 7 0 0), (77, .list 2 pd), (78, .int .i64 D), (79, .int .i64 s.1)])
    (fun s => [.live 14 [[.int .i64 c0, .int .i64 c1, .int .i64 c2, .int .i64 c3, .int .i64 c4, .int .i64 c5, .int .i64 c6, .int .i64 c7, .int .i64 c8, .int .i64 c9, .int .i64 c10, .int .i64 c11, .int .i64 c12, .int .i64 c13]], .live 2 [[.list 3 es, .list 5 ds]], .live 7 [[.bool true, .int .i64 g, .int .i64 s.2.1.lo, .int .i64 s.2.1.hi, .int .i64 s.2.1.est, .int .i64 from_, .list 13 s.2.2.1]], .live 7 [[.int .i64 1, .int .i64 g, .int .i64 s.2.1.lo, .int .i64 s.2.1.hi, .int .i64 s.2.1.est, .int .i64 from_, .list 1 s.2.2.2]]])
    (fun s => 0 ≤ s.1 ∧ s.1 ≤ D ∧ PlOk ss s.2.1 ∧ s.2.2.1 = s.2.1.m.map rtC ∧ s.2.2.2 = s.2.1.m.map rtRow ∧ Up0 s.2.2.1 ∧ Up0 s.2.2.2) (fun s => (D - s.1).toNat) (0, ⟨lo, hi, est, [[G.seg]]⟩, r0, q0) (by (refine Wk.eqz (id) (by first | exact fun i _ j _ e => e | (simp only [List.length_cons, List.length_nil]; decide)) ?_; cbv; (repeat' (first | exact trivial | rfl | assumption | apply And.intro | (simp only [hbin, hcmp, hun, hconv, hnot, hbeq, hmm, hscmp, hsadd, hslen, hsat, heqs, hofNat, binStd, cmpStd, unStd, scmpStd, maxI, Bool.not_eq_true', Bool.not_eq_false', decide_eq_true_eq, decide_eq_false_iff_not, Int.not_lt, Int.not_le, if_true, if_false, Bool.false_eq_true, beq_iff_eq, bne_iff_ne, ne_eq, Bool.not_eq_eq_eq_not, Bool.not_true, Bool.not_false, beq_eq_false_iff_ne, bne_eq_false_iff_eq, Int.ofNat_eq_natCast, Bool.not_not, not_true_eq_false, not_false_eq_true, reduceCtorEq]; first | done | assumption) | exact RowsZ.same (by assumption) (by first | assumption | rfl) | exact FzL.mk rfl rfl rfl (by assumption) (by first | assumption | rfl) (by decide) | (refine RowsZ.one ?_; cbv))))) ⟨Int.le_refl _, D0, hp0, er0, eq0, hur0, huq0⟩ ?_
  rintro ⟨j, ⟨plo, phi, pest, pm⟩, rs1, qs1⟩ hinv Q' hN hE hR'
  have hinv : 0 ≤ j ∧ j ≤ D ∧ PlOk ss ⟨plo, phi, pest, pm⟩ ∧ rs1 = pm.map rtC ∧ qs1 = pm.map rtRow ∧ Up0 rs1 ∧ Up0 qs1 := hinv
  cbv
  obtain ⟨hj0, hj1, hpo, hrs1, hqs1, hurs1, huqs1⟩ := hinv
  (split <;> rename_i hc <;> (try (simp only [hbin, hcmp, hun, hconv, hnot, hbeq, hmm, hscmp, hsadd, hslen, hsat, heqs, hofNat, binStd, cmpStd, unStd, scmpStd, maxI, Bool.not_eq_true', Bool.not_eq_false', decide_eq_true_eq, decide_eq_false_iff_not, Int.not_lt, Int.not_le, if_true, if_false, Bool.false_eq_true, beq_iff_eq, bne_iff_ne, ne_eq, Bool.not_eq_eq_eq_not, Bool.not_true, Bool.not_false, beq_eq_false_iff_ne, bne_eq_false_iff_eq, Int.ofNat_eq_natCast, Bool.not_not, not_true_eq_false, not_false_eq_true, reduceCtorEq] at hc)) <;> (try cbv))
  rotate_left 1
  · refine hE _ _ _ ?_
    cbv
    exact hW _
  obtain ⟨⟨a, b⟩, hpj⟩ : ∃ p, (ps.drop 1)[j.toNat]? = some p := ⟨_, List.getElem?_eq_getElem (show j.toNat < (ps.drop 1).length by simp; omega)⟩
  have hdj : pd[j.toNat]? = some [.int .i64 a, .int .i64 b] := by rw [epd, List.getElem?_map, hpj]; rfl
  obtain ⟨j2, ej2⟩ : ∃ z, z = j + 1 := ⟨_, rfl⟩
  have a4 : wbin .add .i64 j 1 = j2 := by rw [hbin, ej2]; show IntKind.i64.wrap (j + 1) = j + 1; rw [IntKind.wrap_i64]; omega
  have hT2 : (D - j2).toNat < (D - j).toNat := by omega
  refine Idx.mk _ hj0 hdj ?_
  cbv
  repeat' (first | exact hR' _ _ (hW _) | (split <;> rename_i h6 <;> (try (simp only [hbin, hcmp, hun, hconv, hnot, hbeq, hmm, hscmp, hsadd, hslen, hsat, heqs, hofNat, binStd, cmpStd, unStd, scmpStd, maxI, Bool.not_eq_true', Bool.not_eq_false', decide_eq_true_eq, decide_eq_false_iff_not, Int.not_lt, Int.not_le, if_true, if_false, Bool.false_eq_true, beq_iff_eq, bne_iff_ne, ne_eq, Bool.not_eq_eq_eq_not, Bool.not_true, Bool.not_false, beq_eq_false_iff_ne, bne_eq_false_iff_eq, Int.ofNat_eq_natCast, Bool.not_not, not_true_eq_false, not_false_eq_true, reduceCtorEq] at h6)) <;> (try cbv)))
  obtain ⟨⟨q, e⟩, ev⟩ : ∃ v, v = moveV ss from_ ⟨plo, phi, pest, pm⟩ a b := ⟨_, rfl⟩
  have hab : a ≤ b := by omega
  obtain ⟨us, eus⟩ : ∃ x, x = q.m.map rtC := ⟨_, rfl⟩
  obtain ⟨ys, eys⟩ : ∃ x, x = q.m.map rtRow := ⟨_, rfl⟩
  have huus : Up0 us := by rw [eus]; exact up_map (f := rtC) (fun d => rfl) q.m
  have huys : Up0 ys := by rw [eys]; exact up_rt q.m
  have hm1 := e_move ss gs es ds hes hds hln hnx g from_ hoff ⟨plo, phi, pest, pm⟩ hpo rs1 hrs1 a b hab (by omega) (by omega) q e ev us eus
  have hm2 := e_rmove ss gs es ds hes hds hln hnx g from_ hoff ⟨plo, phi, pest, pm⟩ hpo qs1 hqs1 a b hab (by omega) (by omega) q e ev ys eys
  have hok := moveV_ok hnx hpo hab ev
  have u1 : uptoL 0 [AV.agg [.bool true, .int .i64 g, .int .i64 plo, .int .i64 phi, .int .i64 pest, .int .i64 from_, .list 13 rs1], .agg [.list 3 es, .list 5 ds], .agg [.int .i64 a, .int .i64 b]] = true := by simp only [uptoL, AV.upto, hu.get, hud.get, hurs1.get]; rfl
  have u2 : uptoL 0 [AV.agg [.list 3 es, .list 5 ds], .agg [.int .i64 1, .int .i64 g, .int .i64 plo, .int .i64 phi, .int .i64 pest, .int .i64 from_, .list 1 qs1], .int .i64 a, .int .i64 b] = true := by simp only [uptoL, AV.upto, hu.get, hud.get, huqs1.get]; rfl
  have cne : ∀ x, wcmp .neq x x = false := fun x => by rw [hcmp]; simp [cmpStd]
  have cv : wconv .i64 e = e := by
    rw [hconv]; show IntKind.i64.wrap e = e
    rw [IntKind.wrap_i64]; omega
  by_cases he : e = 0
  · have hm1 : PCalls Try.prog 33 [.agg [.bool true, .int .i64 g, .int .i64 plo, .int .i64 phi, .int .i64 pest, .int .i64 from_, .list 13 rs1], .agg [.list 3 es, .list 5 ds], .agg [.int .i64 a, .int .i64 b]] (· = .tuple [.agg [.bool true, .int .i64 g, .int .i64 q.lo, .int .i64 q.hi, .int .i64 q.est, .int .i64 from_, .list 13 us], .int .i64 0]) := hm1.mono fun r h => h.elim (·.2) fun h => absurd he h.1
    have hm2 : PCalls Try.prog 34 [.agg [.list 3 es, .list 5 ds], .agg [.int .i64 1, .int .i64 g, .int .i64 plo, .int .i64 phi, .int .i64 pest, .int .i64 from_, .list 1 qs1], .int .i64 a, .int .i64 b] (· = .tuple [.agg [.int .i64 1, .int .i64 g, .int .i64 q.lo, .int .i64 q.hi, .int .i64 q.est, .int .i64 from_, .list 1 ys], .int .i64 0]) := hm2.mono fun r h => h.elim (·.2) fun h => absurd he h.1
    have hq : PlOk ss q := by
      rcases hok with h | h
      · exact h.2
      · omega
    have m4 := e_same21 g from_ q.lo q.hi q.est q.m (fun l hl => (hq.way l hl).len.1) (by have := hq.few; omega) us ys eus eys
    obtain ⟨qlo, qhi, qest, qm⟩ := q
    simp only at hm1 hm2 m4 eus eys
    have cv0 : wconv .i64 0 = 0 := by rw [hconv]; rfl
    (first | (refine Call.stepE (v := ?_) ?_ ?_ ?_; rotate_left 1; (focus (rw [← hP]; exact hm1)); (focus (exact u1)); cbv) | (refine QCal.stepE (v := ?_) ?_ ?_ ?_; rotate_left 1; (focus (rw [← hP]; exact hm1)); (focus (exact u1)); cbv))
    refine QCal.stepE (by rw [← hP]; exact href) (by exact hut2) ?_
    cbv
    (first | (refine Call.stepE (v := ?_) ?_ ?_ ?_; rotate_left 1; (focus (rw [← hP]; exact hm2)); (focus (exact u2)); cbv) | (refine QCal.stepE (v := ?_) ?_ ?_ ?_; rotate_left 1; (focus (rw [← hP]; exact hm2)); (focus (exact u2)); cbv))
    simp only [cv0, cne]
    cbv
    (first | (refine Call.stepE (v := ?_) ?_ ?_ ?_; rotate_left 1; (focus (rw [← hP]; exact m4)); (focus (exact hus _ _ _ _ _ huus huys)); cbv) | (refine QCal.stepE (v := ?_) ?_ ?_ ?_; rotate_left 1; (focus (rw [← hP]; exact m4)); (focus (exact hus _ _ _ _ _ huus huys)); cbv))
    simp only [n1]
    cbv
    simp only [cne]
    cbv
    simp only [a4]
    repeat' (refine And.intro ?_ ?_)
    all_goals
      refine hN (j2, ⟨qlo, qhi, qest, qm⟩, us, ys) _ _ ?hx ?hI hT2
      case hx => (refine Wk.eqz (id) (by first | exact fun i _ j _ e => e | (simp only [List.length_cons, List.length_nil]; decide)) ?_; cbv; (repeat' (first | exact trivial | rfl | assumption | apply And.intro | (simp only [hbin, hcmp, hun, hconv, hnot, hbeq, hmm, hscmp, hsadd, hslen, hsat, heqs, hofNat, binStd, cmpStd, unStd, scmpStd, maxI, Bool.not_eq_true', Bool.not_eq_false', decide_eq_true_eq, decide_eq_false_iff_not, Int.not_lt, Int.not_le, if_true, if_false, Bool.false_eq_true, beq_iff_eq, bne_iff_ne, ne_eq, Bool.not_eq_eq_eq_not, Bool.not_true, Bool.not_false, beq_eq_false_iff_ne, bne_eq_false_iff_eq, Int.ofNat_eq_natCast, Bool.not_not, not_true_eq_false, not_false_eq_true, reduceCtorEq]; first | done | assumption) | exact RowsZ.same (by assumption) (by first | assumption | rfl) | exact FzL.mk rfl rfl rfl (by assumption) (by first | assumption | rfl) (by decide) | (refine RowsZ.one ?_; cbv))))
      case hI => exact ⟨by simp only; omega, by simp only; omega, hq, eus, eys, huus, huys⟩
  · have hm1 : PCalls Try.prog 33 [.agg [.bool true, .int .i64 g, .int .i64 plo, .int .i64 phi, .int .i64 pest, .int .i64 from_, .list 13 rs1], .agg [.list 3 es, .list 5 ds], .agg [.int .i64 a, .int .i64 b]] (· = .tuple [.agg [.bool false, .int .i64 0, .int .i64 0, .int .i64 0, .int .i64 0, .int .i64 0, .nils], .int .i64 e]) := hm1.mono fun r h => h.elim (fun h => absurd h.1 he) (·.2)
    have hm2 : PCalls Try.prog 34 [.agg [.list 3 es, .list 5 ds], .agg [.int .i64 1, .int .i64 g, .int .i64 plo, .int .i64 phi, .int .i64 pest, .int .i64 from_, .list 1 qs1], .int .i64 a, .int .i64 b] (· = .tuple [.agg [.int .i64 0, .int .i64 0, .int .i64 0, .int .i64 0, .int .i64 0, .int .i64 0, .nils], .int .i64 e]) := hm2.mono fun r h => h.elim (fun h => absurd h.1 he) (·.2)
    have cen : wcmp .neq e 0 = true := by rw [hcmp]; simp [cmpStd]; exact he
    (first | (refine Call.stepE (v := ?_) ?_ ?_ ?_; rotate_left 1; (focus (rw [← hP]; exact hm1)); (focus (exact u1)); cbv) | (refine QCal.stepE (v := ?_) ?_ ?_ ?_; rotate_left 1; (focus (rw [← hP]; exact hm1)); (focus (exact u1)); cbv))
    refine QCal.stepE (by rw [← hP]; exact href) (by exact hut2) ?_
    cbv
    (first | (refine Call.stepE (v := ?_) ?_ ?_ ?_; rotate_left 1; (focus (rw [← hP]; exact hm2)); (focus (exact u2)); cbv) | (refine QCal.stepE (v := ?_) ?_ ?_ ?_; rotate_left 1; (focus (rw [← hP]; exact hm2)); (focus (exact u2)); cbv))
    simp only [cv, cne]
    cbv
    (first | (refine Call.stepE (v := ?_) ?_ ?_ ?_; rotate_left 1; (focus (rw [← hP]; exact e_same21Z)); (focus (exact rfl)); cbv) | (refine QCal.stepE (v := ?_) ?_ ?_ ?_; rotate_left 1; (focus (rw [← hP]; exact e_same21Z)); (focus (exact rfl)); cbv))
    simp only [n1]
    cbv
    simp only [cen]
    cbv
    exact hR' _ _ (hW _)
end Go.Proofs.Ytpiocfmdjgbamaa

/- What a configuration is. -/
set_option linter.unusedVariables false
set_option linter.unusedSimpArgs false
namespace Go.Proofs.Ytpiocfmdjgbamaa
open Go Go.RowKit Go.Eng
set_option maxRecDepth 100000
theorem ok_int {k : IntKind} {l : List Sh} {xs : List AV} (h : OkL (.int k :: l) xs) : ∃ n y, xs = .int k n :: y ∧ (Lit.int k n).wf = true ∧ OkL l y := by
  unfold OkL at h
  obtain ⟨x, y, rfl, h1, h2⟩ := h
  unfold Sh.Ok at h1
  obtain ⟨n, rfl, hn⟩ := h1
  exact ⟨n, y, rfl, hn, h2⟩
theorem ok_bool {l : List Sh} {xs : List AV} (h : OkL (.bool :: l) xs) : ∃ b y, xs = .bool b :: y ∧ OkL l y := by
  unfold OkL at h
  obtain ⟨x, y, rfl, h1, h2⟩ := h
  unfold Sh.Ok at h1
  obtain ⟨n, rfl⟩ := h1
  exact ⟨n, y, rfl, h2⟩
theorem ok_list {z : Nat} {row l : List Sh} {xs : List AV} (h : OkL (.list z row :: l) xs) : ∃ es y, xs = .list z es :: y ∧ es.length ≤ maxLen ∧ (∀ r, r ∈ es → OkL row r) ∧ OkL l y := by
  unfold OkL at h
  obtain ⟨x, y, rfl, h1, h2⟩ := h
  unfold Sh.Ok at h1
  obtain ⟨n, rfl, h3, h4⟩ := h1
  exact ⟨n, y, rfl, h3, h4, h2⟩
theorem ok_nil {xs : List AV} (h : OkL [] xs) : xs = [] := by unfold OkL at h; exact h
theorem wf64 {n : Int} (h : (Lit.int .i64 n).wf = true) : -9223372036854775808 ≤ n ∧ n ≤ 9223372036854775807 := by
  simp [Lit.wf, IntKind.min, IntKind.max, IntKind.signed, IntKind.bits] at h
  omega
theorem ty_conf (x : AV) (h : TyV Try.prog 8 68 x) : ∃ c0 c1 c2 c3 c4 c5 c6 c7 c8 c9 c10 c11 c12 c13 : Int, x = .agg [.int .i64 c0, .int .i64 c1, .int .i64 c2, .int .i64 c3, .int .i64 c4, .int .i64 c5, .int .i64 c6, .int .i64 c7, .int .i64 c8, .int .i64 c9, .int .i64 c10, .int .i64 c11, .int .i64 c12, .int .i64 c13] := by
  obtain ⟨cs, rfl, hx⟩ := h.agg (by kernel_rfl) (show shOf Try.prog 8 68 = some [.int .i64, .int .i64, .int .i64, .int .i64, .int .i64, .int .i64, .int .i64, .int .i64, .int .i64, .int .i64, .int .i64, .int .i64, .int .i64, .int .i64] from by kernel_rfl)
  obtain ⟨c0, _, rfl, _, hx⟩ := ok_int hx
  obtain ⟨c1, _, rfl, _, hx⟩ := ok_int hx
  obtain ⟨c2, _, rfl, _, hx⟩ := ok_int hx
  obtain ⟨c3, _, rfl, _, hx⟩ := ok_int hx
  obtain ⟨c4, _, rfl, _, hx⟩ := ok_int hx
  obtain ⟨c5, _, rfl, _, hx⟩ := ok_int hx
  obtain ⟨c6, _, rfl, _, hx⟩ := ok_int hx
  obtain ⟨c7, _, rfl, _, hx⟩ := ok_int hx
  obtain ⟨c8, _, rfl, _, hx⟩ := ok_int hx
  obtain ⟨c9, _, rfl, _, hx⟩ := ok_int hx
  obtain ⟨c10, _, rfl, _, hx⟩ := ok_int hx
  obtain ⟨c11, _, rfl, _, hx⟩ := ok_int hx
  obtain ⟨c12, _, rfl, _, hx⟩ := ok_int hx
  obtain ⟨c13, _, rfl, _, hx⟩ := ok_int hx
  obtain rfl := ok_nil hx
  exact ⟨c0, c1, c2, c3, c4, c5, c6, c7, c8, c9, c10, c11, c12, c13, rfl⟩
end Go.Proofs.Ytpiocfmdjgbamaa

/- What an int64 is. -/
set_option linter.unusedVariables false
set_option maxRecDepth 100000
namespace Go.Proofs.Ytpiocfmdjgbamaa
open Go Go.RowKit Go.Eng
theorem ty_i64 (x : AV) (h : TyV Try.prog 8 2 x) : ∃ n, x = .int .i64 n ∧ -9223372036854775808 ≤ n ∧ n ≤ 9223372036854775807 := by
  have h := h.one (by kernel_rfl) (show shOf Try.prog 8 2 = some [.int .i64] from by kernel_rfl)
  unfold Sh.Ok at h
  obtain ⟨n, rfl, hn⟩ := h
  exact ⟨n, rfl, wf64 hn⟩
end Go.Proofs.Ytpiocfmdjgbamaa

/- What a track is. -/
set_option linter.unusedVariables false
set_option maxRecDepth 100000
namespace Go.Proofs.Ytpiocfmdjgbamaa
open Go Go.RowKit Go.Eng
theorem ty_track (x : AV) (h : TyV Try.prog 8 25 x) : ∃ (ss : List Sg) (gs : List Gr), x = .agg [.list 3 (ss.map sgRow), .list 5 (gs.map grRow)] := by
  obtain ⟨cs, rfl, k0⟩ := h.agg (by kernel_rfl) (show shOf Try.prog 8 25 = some [.list 3 [.int .i64, .list 2 [.int .i64, .int .i64], .list 1 [.int .i64]], .list 5 [.int .i64, .int .i64, .int .i64, .int .i64, .int .i64]] from by kernel_rfl)
  clear h
  obtain ⟨es, _, rfl, _, hr, k1⟩ := ok_list k0
  obtain ⟨ds, _, rfl, _, hs, k2⟩ := ok_list k1
  obtain rfl := ok_nil k2
  clear k0 k1 k2
  obtain ⟨ss, rfl⟩ := rows_of (f := sgRow) (es := es) fun r hrr => by
    have k0 := hr r hrr
    clear hr hrr
    obtain ⟨len, _, rfl, _, k1⟩ := ok_int k0
    obtain ⟨ps, _, rfl, _, hp, k2⟩ := ok_list k1
    obtain ⟨ns, _, rfl, _, hn, k3⟩ := ok_list k2
    obtain rfl := ok_nil k3
    clear k0 k1 k2 k3
    obtain ⟨qs, rfl⟩ := rows_of (f := pcRow) (es := ps) fun r hrr => by
      have k0 := hp r hrr
      clear hp hrr
      obtain ⟨a, _, rfl, _, k1⟩ := ok_int k0
      obtain ⟨b, _, rfl, _, k2⟩ := ok_int k1
      obtain rfl := ok_nil k2
      exact ⟨(a, b), rfl⟩
    obtain ⟨ms, rfl⟩ := rows_of (f := nxRow) (es := ns) fun r hrr => by
      have k0 := hn r hrr
      clear hn hrr
      obtain ⟨a, _, rfl, _, k1⟩ := ok_int k0
      obtain rfl := ok_nil k1
      exact ⟨a, rfl⟩
    exact ⟨⟨len, qs, ms⟩, rfl⟩
  obtain ⟨gs, rfl⟩ := rows_of (f := grRow) (es := ds) fun r hrr => by
    have k0 := hs r hrr
    clear hr hs hrr
    obtain ⟨a, _, rfl, _, k1⟩ := ok_int k0
    obtain ⟨b, _, rfl, _, k2⟩ := ok_int k1
    obtain ⟨c, _, rfl, _, k3⟩ := ok_int k2
    obtain ⟨d, _, rfl, _, k4⟩ := ok_int k3
    obtain ⟨e, _, rfl, _, k5⟩ := ok_int k4
    obtain rfl := ok_nil k5
    exact ⟨⟨a, b, c, d, e⟩, rfl⟩
  exact ⟨ss, gs, rfl⟩
end Go.Proofs.Ytpiocfmdjgbamaa

/- What the arguments' types tell: numbers, spans, ways. -/
set_option linter.unusedVariables false
set_option linter.unusedSimpArgs false
namespace Go.Proofs.Ytpiocfmdjgbamaa
open Go Go.RowKit Go.Eng
set_option maxRecDepth 100000
theorem ty_intS (x : AV) (h : TyV Try.prog 8 3 x) : ∃ n, x = .int .i64 n := by
  have h := h.one (by kernel_rfl) (show shOf Try.prog 8 3 = some [.int .i64] from by kernel_rfl)
  unfold Sh.Ok at h
  obtain ⟨n, rfl, hn⟩ := h
  exact ⟨n, rfl⟩
theorem ty_span (x : AV) (h : TyV Try.prog 8 50 x) : ∃ a b, x = .agg [.int .i64 a, .int .i64 b] := by
  obtain ⟨cs, rfl, k0⟩ := h.agg (by kernel_rfl) (show shOf Try.prog 8 50 = some [.int .i64, .int .i64] from by kernel_rfl)
  obtain ⟨a, _, rfl, _, k1⟩ := ok_int k0
  obtain ⟨b, _, rfl, _, k2⟩ := ok_int k1
  obtain rfl := ok_nil k2
  exact ⟨a, b, rfl⟩
end Go.Proofs.Ytpiocfmdjgbamaa

/- PlaceMoves, joined. -/
set_option linter.unusedVariables false
set_option maxRecDepth 100000
namespace Go.Proofs.Ytpiocfmdjgbamaa
open Go Go.RowKit Go.Eng
theorem ty_placesP (x : AV) (h : TyV Try.prog 8 26 x) : ∃ ps : List (Int × Int), x = .list 2 (ps.map plRow) := by
  have h := h.one (by kernel_rfl) (show shOf Try.prog 8 26 = some [.list 2 [.int .i64, .int .i64]] from by kernel_rfl)
  unfold Sh.Ok at h
  obtain ⟨es, rfl, _, hr⟩ := h
  obtain ⟨ps, rfl⟩ := rows_of (f := plRow) (es := es) fun r hrr => by
    have k0 := hr r hrr
    clear hr hrr
    obtain ⟨a, _, rfl, _, k1⟩ := ok_int k0
    obtain ⟨b, _, rfl, _, k2⟩ := ok_int k1
    obtain rfl := ok_nil k2
    exact ⟨(a, b), rfl⟩
  exact ⟨ps, rfl⟩
theorem walk_PlaceMoves (x0 x1 x2 x3 : AV) (h0 : TyV Try.prog 8 68 x0) (h1 : TyV Try.prog 8 25 x1) (h2 : TyV Try.prog 8 3 x2) (h3 : TyV Try.prog 8 26 x3) : PCalls Try.prog 7 [x0, x1, x2, x3] (fun r => r = .bool true) := by
  obtain ⟨c0, c1, c2, c3, c4, c5, c6, c7, c8, c9, c10, c11, c12, c13, rfl⟩ := ty_conf x0 h0
  obtain ⟨ss, gs, rfl⟩ := ty_track x1 h1
  obtain ⟨g, rfl⟩ := ty_intS x2 h2
  obtain ⟨ps, rfl⟩ := ty_placesP x3 h3
  exact e_pmoves c0 c1 c2 c3 c4 c5 c6 c7 c8 c9 c10 c11 c12 c13 ss gs _ _ rfl rfl g ps _ rfl
end Go.Proofs.Ytpiocfmdjgbamaa

