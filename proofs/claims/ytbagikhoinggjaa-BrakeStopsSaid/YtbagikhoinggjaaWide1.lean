/- Numbers of 128 bits: how they compare, and the root, by the engine. -/
import Derived.Test.YtbagikhoinggjaaWide0
import Derived.KernelRfl
set_option linter.unusedVariables false
set_option linter.unusedSimpArgs false
namespace Go.Proofs.Ytbagikhoinggjaa
open Go Go.RowKit Go.Eng
set_option maxRecDepth 100000
theorem e_cmp {xh xl yh yl c : Int} (h1 : 0 ≤ xl) (h2 : xl < 18446744073709551616) (h3 : 0 ≤ yl) (h4 : yl < 18446744073709551616) (hc : (xh * 18446744073709551616 + xl < yh * 18446744073709551616 + yl ∧ c = -1) ∨ (xh * 18446744073709551616 + xl = yh * 18446744073709551616 + yl ∧ c = 0) ∨ (yh * 18446744073709551616 + yl < xh * 18446744073709551616 + xl ∧ c = 1)) : PCalls Try.prog 53 [.agg [.int .u64 xh, .int .u64 xl], .agg [.int .u64 yh, .int .u64 yl]] (· = .int .i64 c) := by
  (refine PCalls.ofY Try.func53 (by kernel_rfl) (by kernel_rfl) fun w hw R hR => ?_); (obtain ⟨wbin, wcmp, wun, wconv, wnot, wbeq, wmm, wscmp, wsadd, wslen, wsat, weqs, wlen, wnlen, wofNat, wtake, wdrop, wapp, wzero, wnat⟩ := w); (have hbin : wbin = binStd := congrArg Prims.bin hw); (have hcmp : wcmp = cmpStd := congrArg Prims.cmp hw); (have hun : wun = unStd := congrArg Prims.un hw); (have hconv : wconv = fun k n => k.wrap n := congrArg Prims.conv hw); (have hnot : wnot = fun b => !b := congrArg Prims.not hw); (have hbeq : wbeq = fun a b => a == b := congrArg Prims.beq hw); (have hmm : wmm = maxI := congrArg Prims.mm hw); (have hscmp : wscmp = scmpStd := congrArg Prims.scmp hw); (have hsadd : wsadd = fun x y => x ++ y := congrArg Prims.sadd hw); (have hslen : wslen = fun s => (s.size : Int) := congrArg Prims.slen hw); (have hsat : wsat = std.sat := congrArg Prims.sat hw); (have heqs : weqs = fun a b os => (eqOffs a b os).getD false := congrArg Prims.eqs hw); (have hlen : wlen = fun es => (es.length : Int) := congrArg Prims.len hw); (have hnlen : wnlen = fun es => es.length := congrArg Prims.nlen hw); (have hofNat : wofNat = (fun n : Nat => (n : Int)) := congrArg Prims.ofNat hw); (have htake : wtake = fun es b => es.take b.toNat := congrArg Prims.take hw); (have hdrop : wdrop = fun es a => es.drop a.toNat := congrArg Prims.drop hw); (have happ : wapp = fun a b => a ++ b := congrArg Prims.app hw); (have hzero : wzero = fun n z => List.replicate n.toNat z := congrArg Prims.zero hw); (have hnat : wnat = fun n => n.toNat := congrArg Prims.nat hw); (conv => arg 2; cbv); (generalize hP : Try.prog = P); cbv
  repeat' (split <;> rename_i h <;> (try (simp only [hbin, hcmp, hun, hconv, hnot, hbeq, hmm, hscmp, hsadd, hslen, hsat, heqs, hofNat, binStd, cmpStd, unStd, scmpStd, maxI, Bool.not_eq_true', Bool.not_eq_false', decide_eq_true_eq, decide_eq_false_iff_not, Int.not_lt, Int.not_le, if_true, if_false, Bool.false_eq_true, beq_iff_eq, bne_iff_ne, ne_eq, Bool.not_eq_eq_eq_not, Bool.not_true, Bool.not_false, beq_eq_false_iff_ne, bne_eq_false_iff_eq, Int.ofNat_eq_natCast, Bool.not_not, not_true_eq_false, not_false_eq_true, reduceCtorEq] at h)) <;> (try cbv))
  all_goals
    refine ⟨_, Vw.same rfl, hR _ (congrArg (AV.int .i64) ?_)⟩
    simp [eqOffs, eqA] at *
    omega
theorem root_uniq {r s X : Int} (hr0 : 0 ≤ r) (hr : r * r ≤ X) (hr2 : X < (r + 1) * (r + 1)) (hs0 : 0 ≤ s) (hs : s * s ≤ X) (hs2 : X < (s + 1) * (s + 1)) : s = r := by
  have a : ¬ r + 1 ≤ s := fun h => by
    have : (r + 1) * (r + 1) ≤ s * s := Int.mul_le_mul h h (by omega) (by omega)
    omega
  have b : ¬ s + 1 ≤ r := fun h => by
    have : (s + 1) * (s + 1) ≤ r * r := Int.mul_le_mul h h (by omega) (by omega)
    omega
  omega
theorem pow_le63 {k : Nat} (h : k ≤ 63) : (2 : Int) ^ k ≤ 9223372036854775808 := by
  have : (2 : Nat) ^ k ≤ 2 ^ 63 := Nat.pow_le_pow_right (by decide) h
  have e : ((2 ^ k : Nat) : Int) ≤ ((2 ^ 63 : Nat) : Int) := Int.ofNat_le.2 this
  simpa using e
theorem u_one {i : Int} (h0 : 0 ≤ i) (h1 : i ≤ 63) : binStd .shl .u64 1 (IntKind.u64.wrap i) = 2 ^ i.toNat := by
  have e : IntKind.u64.wrap i = i := by rw [IntKind.wrap_u64]; omega
  rw [e]
  show IntKind.u64.wrap (1 * 2 ^ (min i.toNat 64)) = _
  rw [show min i.toNat 64 = i.toNat by omega, Int.one_mul, IntKind.wrap_u64]
  have := pow_le63 (k := i.toNat) (by omega)
  have : (0 : Int) < 2 ^ i.toNat := Int.pow_pos (by decide)
  omega
/-- Where the root is: the bits that are still to be told, and those that are. -/
structure Rt where
  i : Int
  r : Int
def RtOk (X i r : Int) : Prop := -1 ≤ i ∧ i ≤ 63 ∧ 0 ≤ r ∧ (∃ q : Nat, r = 2 ^ (i + 1).toNat * q) ∧ r * r ≤ X ∧ X < (r + 2 ^ (i + 1).toNat) * (r + 2 ^ (i + 1).toNat) ∧ r + 2 ^ (i + 1).toNat ≤ 18446744073709551616
theorem RtOk.start {X : Int} (h0 : 0 ≤ X) (h1 : X < 340282366920938463463374607431768211456) : RtOk X 63 0 := by
  refine ⟨by decide, by decide, by decide, ⟨0, by simp⟩, by simpa using h0, ?_, by decide⟩
  show X < (0 + 2 ^ 64) * (0 + 2 ^ 64)
  omega
theorem RtOk.next {X i r : Int} (h : RtOk X i r) (hi : 0 ≤ i) : ∃ n, binStd .or .u64 r (binStd .shl .u64 1 (IntKind.u64.wrap i)) = n ∧ 0 ≤ n ∧ n < 18446744073709551616 ∧ (n * n ≤ X → RtOk X (i - 1) n) ∧ (X < n * n → RtOk X (i - 1) r) := by
  obtain ⟨h1, h2, h3, ⟨q, hq⟩, h4, h5, h6⟩ := h
  rw [u_one hi h2]
  have ek : (i + 1).toNat = i.toNat + 1 := by omega
  rw [ek] at hq h5 h6
  have ew : (2 : Int) ^ (i.toNat + 1) = 2 * 2 ^ i.toNat := by rw [Int.pow_succ, Int.mul_comm]
  have hw0 : (0 : Int) < 2 ^ i.toNat := Int.pow_pos (by decide)
  refine ⟨r + 2 ^ i.toNat, ?_, by omega, by omega, fun h => ⟨by omega, by omega, by omega, ?_, h, ?_, ?_⟩, fun h => ⟨by omega, by omega, h3, ?_, h4, ?_, ?_⟩⟩
  · rw [hq]
    exact u_or (by omega) (by omega) (by rw [← hq]; omega)
  · refine ⟨2 * q + 1, ?_⟩
    rw [show (i - 1 + 1).toNat = i.toNat by omega, hq, ew]
    push_cast
    rw [Int.mul_add, Int.mul_one, Int.mul_comm 2, Int.mul_assoc]
  · rw [show (i - 1 + 1).toNat = i.toNat by omega]
    rw [show r + 2 ^ i.toNat + 2 ^ i.toNat = r + 2 ^ (i.toNat + 1) by omega]
    exact h5
  · rw [show (i - 1 + 1).toNat = i.toNat by omega]
    omega
  · refine ⟨2 * q, ?_⟩
    rw [show (i - 1 + 1).toNat = i.toNat by omega, hq, ew]
    push_cast
    rw [Int.mul_comm 2, Int.mul_assoc]
  · rw [show (i - 1 + 1).toNat = i.toNat by omega]
    exact h
  · rw [show (i - 1 + 1).toNat = i.toNat by omega]
    omega
theorem RtOk.fin {X i r : Int} (h : RtOk X i r) (hi : i < 0) : 0 ≤ r ∧ r * r ≤ X ∧ X < (r + 1) * (r + 1) := by
  obtain ⟨h1, h2, h3, _, h4, h5, h6⟩ := h
  have : (i + 1).toNat = 0 := by omega
  rw [this] at h5
  exact ⟨h3, h4, by simpa using h5⟩
theorem e_root (xh xl r : Int) (h1 : 0 ≤ xl) (h2 : xl < 18446744073709551616) (h3 : 0 ≤ xh) (h4 : xh < 18446744073709551616) (hr0 : 0 ≤ r) (hr : r * r ≤ xh * 18446744073709551616 + xl) (hr2 : xh * 18446744073709551616 + xl < (r + 1) * (r + 1)) : PCalls Try.prog 46 [.agg [.int .u64 xh, .int .u64 xl]] (· = .int .u64 r) := by
  (refine PCalls.ofY Try.func46 (by kernel_rfl) (by kernel_rfl) fun w hw R hR => ?_); (obtain ⟨wbin, wcmp, wun, wconv, wnot, wbeq, wmm, wscmp, wsadd, wslen, wsat, weqs, wlen, wnlen, wofNat, wtake, wdrop, wapp, wzero, wnat⟩ := w); (have hbin : wbin = binStd := congrArg Prims.bin hw); (have hcmp : wcmp = cmpStd := congrArg Prims.cmp hw); (have hun : wun = unStd := congrArg Prims.un hw); (have hconv : wconv = fun k n => k.wrap n := congrArg Prims.conv hw); (have hnot : wnot = fun b => !b := congrArg Prims.not hw); (have hbeq : wbeq = fun a b => a == b := congrArg Prims.beq hw); (have hmm : wmm = maxI := congrArg Prims.mm hw); (have hscmp : wscmp = scmpStd := congrArg Prims.scmp hw); (have hsadd : wsadd = fun x y => x ++ y := congrArg Prims.sadd hw); (have hslen : wslen = fun s => (s.size : Int) := congrArg Prims.slen hw); (have hsat : wsat = std.sat := congrArg Prims.sat hw); (have heqs : weqs = fun a b os => (eqOffs a b os).getD false := congrArg Prims.eqs hw); (have hlen : wlen = fun es => (es.length : Int) := congrArg Prims.len hw); (have hnlen : wnlen = fun es => es.length := congrArg Prims.nlen hw); (have hofNat : wofNat = (fun n : Nat => (n : Int)) := congrArg Prims.ofNat hw); (have htake : wtake = fun es b => es.take b.toNat := congrArg Prims.take hw); (have hdrop : wdrop = fun es a => es.drop a.toNat := congrArg Prims.drop hw); (have happ : wapp = fun a b => a ++ b := congrArg Prims.app hw); (have hzero : wzero = fun n z => List.replicate n.toNat z := congrArg Prims.zero hw); (have hnat : wnat = fun n => n.toNat := congrArg Prims.nat hw); (conv => arg 2; cbv); (generalize hP : Try.prog = P); cbv
  obtain ⟨X, eX⟩ : ∃ x, xh * 18446744073709551616 + xl = x := ⟨_, rfl⟩
  rw [eX] at hr hr2
  refine Loop.data hw (S := Rt) (fun s => fr 23 [(1, .ref 0 2 0 0), (3, .int .u64 s.r), (4, .int .i64 s.i)]) (fun s => [.live 2 [[.int .u64 xh, .int .u64 xl]]])
    (fun s => RtOk X s.i s.r) (fun s => (s.i + 1).toNat) ⟨63, 0⟩ (by (refine Wk.eqs ?_; cbv; (repeat' (first | exact trivial | rfl | assumption | apply And.intro | (simp only [hbin, hcmp, hun, hconv, hnot, hbeq, hmm, hscmp, hsadd, hslen, hsat, heqs, hofNat, binStd, cmpStd, unStd, scmpStd, maxI, Bool.not_eq_true', Bool.not_eq_false', decide_eq_true_eq, decide_eq_false_iff_not, Int.not_lt, Int.not_le, if_true, if_false, Bool.false_eq_true, beq_iff_eq, bne_iff_ne, ne_eq, Bool.not_eq_eq_eq_not, Bool.not_true, Bool.not_false, beq_eq_false_iff_ne, bne_eq_false_iff_eq, Int.ofNat_eq_natCast, Bool.not_not, not_true_eq_false, not_false_eq_true, reduceCtorEq]; first | done | assumption) | exact RowsX.same (by assumption) (by first | assumption | rfl) | (refine RowsX.one ?_; cbv))))) (RtOk.start (by omega) (by omega)) ?_
  rintro ⟨i, s⟩ hinv Q' hN hE hR'
  have hinv : RtOk X i s := hinv
  cbv
  (split <;> rename_i hc <;> (try (simp only [hbin, hcmp, hun, hconv, hnot, hbeq, hmm, hscmp, hsadd, hslen, hsat, heqs, hofNat, binStd, cmpStd, unStd, scmpStd, maxI, Bool.not_eq_true', Bool.not_eq_false', decide_eq_true_eq, decide_eq_false_iff_not, Int.not_lt, Int.not_le, if_true, if_false, Bool.false_eq_true, beq_iff_eq, bne_iff_ne, ne_eq, Bool.not_eq_eq_eq_not, Bool.not_true, Bool.not_false, beq_eq_false_iff_ne, bne_eq_false_iff_eq, Int.ofNat_eq_natCast, Bool.not_not, not_true_eq_false, not_false_eq_true, reduceCtorEq] at hc)) <;> (try cbv))
  · obtain ⟨n, en, hn0, hn1, hy, hno⟩ := hinv.next hc
    have hi1 : i ≤ 63 := hinv.2.1
    obtain ⟨i', ei'⟩ : ∃ x, i - 1 = x := ⟨_, rfl⟩
    rw [ei'] at hy hno
    have hT : (i' + 1).toNat < (i + 1).toNat := by omega
    have ei : wbin .sub .i64 i 1 = i' := by rw [hbin]; show IntKind.i64.wrap (i - 1) = _; rw [IntKind.wrap_i64]; omega
    have enn : wbin .or .u64 s (wbin .shl .u64 1 (wconv .u64 i)) = n := by rw [hbin, hconv]; exact en
    refine Nn.mk (by rw [hconv]; show 0 ≤ IntKind.u64.wrap i; rw [IntKind.wrap_u64]; omega) ?_
    simp only [enn]
    obtain ⟨mh, emh⟩ : ∃ x, n * n / 18446744073709551616 = x := ⟨_, rfl⟩
    obtain ⟨ml, eml⟩ : ∃ x, n * n % 18446744073709551616 = x := ⟨_, rfl⟩
    refine QCal.stepE (by rw [← hP]; exact e_mul hn0 hn1 hn0 hn1 emh eml) rfl ?_
    cbv
    obtain ⟨c, ec⟩ : ∃ c : Int, (mh * 18446744073709551616 + ml < xh * 18446744073709551616 + xl ∧ c = -1) ∨ (mh * 18446744073709551616 + ml = xh * 18446744073709551616 + xl ∧ c = 0) ∨ (xh * 18446744073709551616 + xl < mh * 18446744073709551616 + ml ∧ c = 1) := by
      rcases Int.lt_trichotomy (mh * 18446744073709551616 + ml) (xh * 18446744073709551616 + xl) with h | h | h
      · exact ⟨_, .inl ⟨h, rfl⟩⟩
      · exact ⟨_, .inr (.inl ⟨h, rfl⟩)⟩
      · exact ⟨_, .inr (.inr ⟨h, rfl⟩)⟩
    have esq : n * n = mh * 18446744073709551616 + ml := by omega
    refine QCal.stepE (by rw [← hP]; exact e_cmp (by omega) (by omega) h1 h2 ec) rfl ?_
    cbv
    (split <;> rename_i h <;> (try (simp only [hbin, hcmp, hun, hconv, hnot, hbeq, hmm, hscmp, hsadd, hslen, hsat, heqs, hofNat, binStd, cmpStd, unStd, scmpStd, maxI, Bool.not_eq_true', Bool.not_eq_false', decide_eq_true_eq, decide_eq_false_iff_not, Int.not_lt, Int.not_le, if_true, if_false, Bool.false_eq_true, beq_iff_eq, bne_iff_ne, ne_eq, Bool.not_eq_eq_eq_not, Bool.not_true, Bool.not_false, beq_eq_false_iff_ne, bne_eq_false_iff_eq, Int.ofNat_eq_natCast, Bool.not_not, not_true_eq_false, not_false_eq_true, reduceCtorEq] at h)) <;> (try cbv))
    · have hy := hy (by omega)
      cbv
      (refine hN ⟨i', n⟩ _ _ ?hx ?hi ?ht; (case hx => (refine Wk.eqs ?_; cbv; (repeat' (first | exact trivial | rfl | assumption | apply And.intro | (simp only [hbin, hcmp, hun, hconv, hnot, hbeq, hmm, hscmp, hsadd, hslen, hsat, heqs, hofNat, binStd, cmpStd, unStd, scmpStd, maxI, Bool.not_eq_true', Bool.not_eq_false', decide_eq_true_eq, decide_eq_false_iff_not, Int.not_lt, Int.not_le, if_true, if_false, Bool.false_eq_true, beq_iff_eq, bne_iff_ne, ne_eq, Bool.not_eq_eq_eq_not, Bool.not_true, Bool.not_false, beq_eq_false_iff_ne, bne_eq_false_iff_eq, Int.ofNat_eq_natCast, Bool.not_not, not_true_eq_false, not_false_eq_true, reduceCtorEq]; first | done | assumption) | exact RowsX.same (by assumption) (by first | assumption | rfl) | (refine RowsX.one ?_; cbv))))); (case hi => exact hy); (case ht => exact hT))
    · have hno := hno (by omega)
      (refine hN ⟨i', s⟩ _ _ ?hx ?hi ?ht; (case hx => (refine Wk.eqs ?_; cbv; (repeat' (first | exact trivial | rfl | assumption | apply And.intro | (simp only [hbin, hcmp, hun, hconv, hnot, hbeq, hmm, hscmp, hsadd, hslen, hsat, heqs, hofNat, binStd, cmpStd, unStd, scmpStd, maxI, Bool.not_eq_true', Bool.not_eq_false', decide_eq_true_eq, decide_eq_false_iff_not, Int.not_lt, Int.not_le, if_true, if_false, Bool.false_eq_true, beq_iff_eq, bne_iff_ne, ne_eq, Bool.not_eq_eq_eq_not, Bool.not_true, Bool.not_false, beq_eq_false_iff_ne, bne_eq_false_iff_eq, Int.ofNat_eq_natCast, Bool.not_not, not_true_eq_false, not_false_eq_true, reduceCtorEq]; first | done | assumption) | exact RowsX.same (by assumption) (by first | assumption | rfl) | (refine RowsX.one ?_; cbv))))); (case hi => exact hno); (case ht => exact hT))
  · refine hE _ _ _ ?_
    cbv
    obtain ⟨k1, k2, k3⟩ := hinv.fin hc
    refine ⟨_, Vw.same rfl, hR _ (congrArg (AV.int .u64) (root_uniq hr0 hr hr2 k1 k2 k3))⟩
end Go.Proofs.Ytbagikhoinggjaa
