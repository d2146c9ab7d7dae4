/- The statements' own helpers for fused speeds, by the engine. -/
import Derived.Test.YtbagikhoinggjaaFuseL
import Derived.KernelRfl
import Derived.Test.YtbagikhoinggjaaFuse3
import Derived.Test.YtbagikhoinggjaaTyConf
import Derived.IntWalk
import Derived.Handy
set_option linter.unusedVariables false
set_option linter.unusedSimpArgs false
namespace Go.Proofs.Ytbagikhoinggjaa
open Go Go.RowKit Go.Eng
set_option maxRecDepth 100000
/-- A span that is right, and within 2^60. -/
def mayV (a b : Int) : Bool := decide (a ≤ b) && (decide (-1152921504606846976 ≤ a) && decide (b ≤ 1152921504606846976))
theorem e_may17 (a b : Int) (u : Bool) (hu : mayV a b = u) : PCalls Try.prog 23 [sp2 a b] (· = .bool u) := by
  (refine PCalls.ofY Try.func23 (by kernel_rfl) (by kernel_rfl) fun w hw R hR => ?_); (obtain ⟨wbin, wcmp, wun, wconv, wnot, wbeq, wmm, wscmp, wsadd, wslen, wsat, weqs, wlen, wnlen, wofNat, wtake, wdrop, wapp, wzero, wnat⟩ := w); (have hbin : wbin = binStd := congrArg Prims.bin hw); (have hcmp : wcmp = cmpStd := congrArg Prims.cmp hw); (have hun : wun = unStd := congrArg Prims.un hw); (have hconv : wconv = fun k n => k.wrap n := congrArg Prims.conv hw); (have hnot : wnot = fun b => !b := congrArg Prims.not hw); (have hbeq : wbeq = fun a b => a == b := congrArg Prims.beq hw); (have hmm : wmm = maxI := congrArg Prims.mm hw); (have hscmp : wscmp = scmpStd := congrArg Prims.scmp hw); (have hsadd : wsadd = fun x y => x ++ y := congrArg Prims.sadd hw); (have hslen : wslen = fun s => (s.size : Int) := congrArg Prims.slen hw); (have hsat : wsat = std.sat := congrArg Prims.sat hw); (have heqs : weqs = fun a b os => (eqOffs a b os).getD false := congrArg Prims.eqs hw); (have hlen : wlen = fun es => (es.length : Int) := congrArg Prims.len hw); (have hnlen : wnlen = fun es => es.length := congrArg Prims.nlen hw); (have hofNat : wofNat = (fun n : Nat => (n : Int)) := congrArg Prims.ofNat hw); (have htake : wtake = fun es b => es.take b.toNat := congrArg Prims.take hw); (have hdrop : wdrop = fun es a => es.drop a.toNat := congrArg Prims.drop hw); (have happ : wapp = fun a b => a ++ b := congrArg Prims.app hw); (have hzero : wzero = fun n z => List.replicate n.toNat z := congrArg Prims.zero hw); (have hnat : wnat = fun n => n.toNat := congrArg Prims.nat hw); (conv => arg 2; cbv); (generalize hP : Try.prog = P); cbv
  repeat' (split <;> rename_i h <;> (try (simp only [hbin, hcmp, hun, hconv, hnot, hbeq, hmm, hscmp, hsadd, hslen, hsat, heqs, hofNat, binStd, cmpStd, unStd, scmpStd, maxI, Bool.not_eq_true', Bool.not_eq_false', decide_eq_true_eq, decide_eq_false_iff_not, Int.not_lt, Int.not_le, if_true, if_false, Bool.false_eq_true, beq_iff_eq, bne_iff_ne, ne_eq, Bool.not_eq_eq_eq_not, Bool.not_true, Bool.not_false, beq_eq_false_iff_ne, bne_eq_false_iff_eq, Int.ofNat_eq_natCast, Bool.not_not, not_true_eq_false, not_false_eq_true, reduceCtorEq] at h)) <;> (try cbv))
  all_goals
    refine ⟨_, Vw.same rfl, hR _ (congrArg AV.bool ?_)⟩
    rw [← hu, Bool.eq_iff_iff]
    simp only [mayV, hcmp, cmpStd, Bool.and_eq_true, decide_eq_true_eq]
    first | (constructor <;> intro hh <;> omega) | (simp; omega) | (simp_all; done)
theorem e_has17 (a b v : Int) (u : Bool) (hu : decide (a ≤ v ∧ v ≤ b) = u) : PCalls Try.prog 26 [sp2 a b, .int .i64 v] (· = .bool u) := by
  (refine PCalls.ofY Try.func26 (by kernel_rfl) (by kernel_rfl) fun w hw R hR => ?_); (obtain ⟨wbin, wcmp, wun, wconv, wnot, wbeq, wmm, wscmp, wsadd, wslen, wsat, weqs, wlen, wnlen, wofNat, wtake, wdrop, wapp, wzero, wnat⟩ := w); (have hbin : wbin = binStd := congrArg Prims.bin hw); (have hcmp : wcmp = cmpStd := congrArg Prims.cmp hw); (have hun : wun = unStd := congrArg Prims.un hw); (have hconv : wconv = fun k n => k.wrap n := congrArg Prims.conv hw); (have hnot : wnot = fun b => !b := congrArg Prims.not hw); (have hbeq : wbeq = fun a b => a == b := congrArg Prims.beq hw); (have hmm : wmm = maxI := congrArg Prims.mm hw); (have hscmp : wscmp = scmpStd := congrArg Prims.scmp hw); (have hsadd : wsadd = fun x y => x ++ y := congrArg Prims.sadd hw); (have hslen : wslen = fun s => (s.size : Int) := congrArg Prims.slen hw); (have hsat : wsat = std.sat := congrArg Prims.sat hw); (have heqs : weqs = fun a b os => (eqOffs a b os).getD false := congrArg Prims.eqs hw); (have hlen : wlen = fun es => (es.length : Int) := congrArg Prims.len hw); (have hnlen : wnlen = fun es => es.length := congrArg Prims.nlen hw); (have hofNat : wofNat = (fun n : Nat => (n : Int)) := congrArg Prims.ofNat hw); (have htake : wtake = fun es b => es.take b.toNat := congrArg Prims.take hw); (have hdrop : wdrop = fun es a => es.drop a.toNat := congrArg Prims.drop hw); (have happ : wapp = fun a b => a ++ b := congrArg Prims.app hw); (have hzero : wzero = fun n z => List.replicate n.toNat z := congrArg Prims.zero hw); (have hnat : wnat = fun n => n.toNat := congrArg Prims.nat hw); (conv => arg 2; cbv); (generalize hP : Try.prog = P); cbv
  repeat' (split <;> rename_i h <;> (try (simp only [hbin, hcmp, hun, hconv, hnot, hbeq, hmm, hscmp, hsadd, hslen, hsat, heqs, hofNat, binStd, cmpStd, unStd, scmpStd, maxI, Bool.not_eq_true', Bool.not_eq_false', decide_eq_true_eq, decide_eq_false_iff_not, Int.not_lt, Int.not_le, if_true, if_false, Bool.false_eq_true, beq_iff_eq, bne_iff_ne, ne_eq, Bool.not_eq_eq_eq_not, Bool.not_true, Bool.not_false, beq_eq_false_iff_ne, bne_eq_false_iff_eq, Int.ofNat_eq_natCast, Bool.not_not, not_true_eq_false, not_false_eq_true, reduceCtorEq] at h)) <;> (try cbv))
  all_goals
    refine ⟨_, Vw.same rfl, hR _ (congrArg AV.bool ?_)⟩
    rw [← hu, Bool.eq_iff_iff]
    simp only [hcmp, cmpStd, Bool.and_eq_true, decide_eq_true_eq]
    first | (constructor <;> intro hh <;> omega) | (simp; omega) | (simp_all; done)
abbrev sens (f : Bool) (a b : Int) : AV := .agg [.bool f, .int .i64 a, .int .i64 b]
abbrev sens3 (f0 f1 f2 : Bool) (a0 b0 a1 b1 a2 b2 : Int) : AV := .agg [.bool f0, .int .i64 a0, .int .i64 b0, .bool f1, .int .i64 a1, .int .i64 b1, .bool f2, .int .i64 a2, .int .i64 b2]
def fitOk (f : Bool) (a b : Int) : Bool := !f || mayV a b
def bit (f : Bool) : Int := if f = true then 1 else 0
set_option maxHeartbeats 2000000 in
theorem e_given (f0 f1 f2 f3 : Bool) (a0 b0 a1 b1 a2 b2 a3 b3 : Int) : PCalls Try.prog 22 [sens3 f0 f1 f2 a0 b0 a1 b1 a2 b2, sens f3 a3 b3] (fun r =>
    (∃ x0 x1 x2 x3 x4 x5 x6 x7 y0 y1 y2 y3, r = .tuple [.agg [.int .i64 x0, .int .i64 x1, .int .i64 x2, .int .i64 x3, .int .i64 x4, .int .i64 x5, .int .i64 x6, .int .i64 x7], .agg [.int .i64 y0, .int .i64 y1, .int .i64 y2, .int .i64 y3], .bool false] ∧ (fitOk f0 a0 b0 && (fitOk f1 a1 b1 && (fitOk f2 a2 b2 && fitOk f3 a3 b3))) = false) ∨
    (∃ y0 y1 y2 y3, r = .tuple [.agg [.int .i64 a0, .int .i64 b0, .int .i64 a1, .int .i64 b1, .int .i64 a2, .int .i64 b2, .int .i64 a3, .int .i64 b3], .agg [.int .i64 y0, .int .i64 y1, .int .i64 y2, .int .i64 y3], .bool true] ∧ (y0 = bit f0 ∧ y1 = bit f1 ∧ y2 = bit f2 ∧ y3 = bit f3) ∧ fitOk f0 a0 b0 = true ∧ fitOk f1 a1 b1 = true ∧ fitOk f2 a2 b2 = true ∧ fitOk f3 a3 b3 = true)) := by
  unfold fitOk
  obtain ⟨u0, k0⟩ : ∃ x, mayV a0 b0 = x := ⟨_, rfl⟩
  obtain ⟨u1, k1⟩ : ∃ x, mayV a1 b1 = x := ⟨_, rfl⟩
  obtain ⟨u2, k2⟩ : ∃ x, mayV a2 b2 = x := ⟨_, rfl⟩
  obtain ⟨u3, k3⟩ : ∃ x, mayV a3 b3 = x := ⟨_, rfl⟩
  have m0 := e_may17 a0 b0 u0 k0
  have m1 := e_may17 a1 b1 u1 k1
  have m2 := e_may17 a2 b2 u2 k2
  have m3 := e_may17 a3 b3 u3 k3
  rw [k0, k1, k2, k3]
  clear k0 k1 k2 k3
  (refine PCalls.ofY Try.func22 (by kernel_rfl) (by kernel_rfl) fun w hw R hR => ?_); (obtain ⟨wbin, wcmp, wun, wconv, wnot, wbeq, wmm, wscmp, wsadd, wslen, wsat, weqs, wlen, wnlen, wofNat, wtake, wdrop, wapp, wzero, wnat⟩ := w); (have hbin : wbin = binStd := congrArg Prims.bin hw); (have hcmp : wcmp = cmpStd := congrArg Prims.cmp hw); (have hun : wun = unStd := congrArg Prims.un hw); (have hconv : wconv = fun k n => k.wrap n := congrArg Prims.conv hw); (have hnot : wnot = fun b => !b := congrArg Prims.not hw); (have hbeq : wbeq = fun a b => a == b := congrArg Prims.beq hw); (have hmm : wmm = maxI := congrArg Prims.mm hw); (have hscmp : wscmp = scmpStd := congrArg Prims.scmp hw); (have hsadd : wsadd = fun x y => x ++ y := congrArg Prims.sadd hw); (have hslen : wslen = fun s => (s.size : Int) := congrArg Prims.slen hw); (have hsat : wsat = std.sat := congrArg Prims.sat hw); (have heqs : weqs = fun a b os => (eqOffs a b os).getD false := congrArg Prims.eqs hw); (have hlen : wlen = fun es => (es.length : Int) := congrArg Prims.len hw); (have hnlen : wnlen = fun es => es.length := congrArg Prims.nlen hw); (have hofNat : wofNat = (fun n : Nat => (n : Int)) := congrArg Prims.ofNat hw); (have htake : wtake = fun es b => es.take b.toNat := congrArg Prims.take hw); (have hdrop : wdrop = fun es a => es.drop a.toNat := congrArg Prims.drop hw); (have happ : wapp = fun a b => a ++ b := congrArg Prims.app hw); (have hzero : wzero = fun n z => List.replicate n.toNat z := congrArg Prims.zero hw); (have hnat : wnat = fun n => n.toNat := congrArg Prims.nat hw); (conv => arg 2; cbv); (generalize hP : Try.prog = P); cbv
  have e01 : wbin .add .i64 0 1 = 1 := by rw [hbin]; rfl
  have e12 : wbin .add .i64 1 1 = 2 := by rw [hbin]; rfl
  have e23 : wbin .add .i64 2 1 = 3 := by rw [hbin]; rfl
  have e34 : wbin .add .i64 3 1 = 4 := by rw [hbin]; rfl
  have c04 : wcmp .lss 0 4 = true := by rw [hcmp]; rfl
  have c14 : wcmp .lss 1 4 = true := by rw [hcmp]; rfl
  have c24 : wcmp .lss 2 4 = true := by rw [hcmp]; rfl
  have c34 : wcmp .lss 3 4 = true := by rw [hcmp]; rfl
  have c44 : wcmp .lss 4 4 = false := by rw [hcmp]; rfl
  iterate 3 (refine InN.mk (by decide) (by decide) ?_)
  (refine Loop.rounds hw 5 ?_; cbv)
  repeat' (first
    | (simp only [e01, e12, e23, e34, c04, c14, c24, c34, c44]; cbv)
    | (simp only [e01, e12, e23, e34, c04, c14, c24, c34, c44])
    | (refine And.intro ?_ ?_)
    | (refine InN.mk (by decide) (by decide) ?_; cbv)
    | (split <;> rename_i h <;> (try (simp only [e01, e12, e23, e34, c04, c14, c24, c34, c44] at h)) <;> (try (simp only [hbin, hcmp, hun, hconv, hnot, hbeq, hmm, hscmp, hsadd, hslen, hsat, heqs, hofNat, binStd, cmpStd, unStd, scmpStd, maxI, Bool.not_eq_true', Bool.not_eq_false', decide_eq_true_eq, decide_eq_false_iff_not, Int.not_lt, Int.not_le, if_true, if_false, Bool.false_eq_true, beq_iff_eq, bne_iff_ne, ne_eq, Bool.not_eq_eq_eq_not, Bool.not_true, Bool.not_false, beq_eq_false_iff_ne, bne_eq_false_iff_eq, Int.ofNat_eq_natCast, Bool.not_not, not_true_eq_false, not_false_eq_true, reduceCtorEq] at h)) <;> (try cbv))
    | (refine Call.stepE (by rw [← hP]; exact m0) rfl ?_; cbv)
    | (refine Call.stepE (by rw [← hP]; exact m1) rfl ?_; cbv)
    | (refine Call.stepE (by rw [← hP]; exact m2) rfl ?_; cbv)
    | (refine Call.stepE (by rw [← hP]; exact m3) rfl ?_; cbv))
  all_goals
    refine ⟨_, Vw.same rfl, ?_⟩
    first
      | (refine hR _ (.inr ⟨_, _, _, _, rfl, ⟨rfl, rfl, rfl, rfl⟩, ?_⟩); clear hR; simp_all; done)
      | (refine hR _ (.inl ⟨_, _, _, _, _, _, _, _, _, _, _, _, rfl, ?_⟩); clear hR; simp_all; done)
end Go.Proofs.Ytbagikhoinggjaa


set_option linter.unusedVariables false
set_option linter.unusedSimpArgs false
namespace Go.Proofs.Ytbagikhoinggjaa
open Go Go.RowKit Go.Eng
set_option maxRecDepth 100000
theorem fit_all {Q : Int → Prop} (f0 f1 f2 : Bool) {a0 b0 a1 b1 a2 b2 : Int} (h0 : Q a0) (h1 : Q b0) (h2 : Q a1) (h3 : Q b1) (h4 : Q a2) (h5 : Q b2) : ∀ i, i < (fitV f0 f1 f2 a0 b0 a1 b1 a2 b2).length → Q (aOf (fitV f0 f1 f2 a0 b0 a1 b1 a2 b2) i) ∧ Q (bOf (fitV f0 f1 f2 a0 b0 a1 b1 a2 b2) i) := by
  intro i hi
  cases f0 <;> cases f1 <;> cases f2 <;> simp only [fitV, fitRow, List.append_nil, List.nil_append, List.cons_append, List.length_cons, List.length_nil] at hi ⊢ <;>
    (rcases i with _ | _ | _ | i <;> first | (exfalso; omega) | exact ⟨by assumption, by assumption⟩)
structure All64 (a0 b0 a1 b1 a2 b2 a3 b3 : Int) : Prop where
  a0 : I64 a0
  b0 : I64 b0
  a1 : I64 a1
  b1 : I64 b1
  a2 : I64 a2
  b2 : I64 b2
  a3 : I64 a3
  b3 : I64 b3
section
variable {p0 p1 : Int} {f0 f1 f2 f3 : Bool} {a0 b0 a1 b1 a2 b2 a3 b3 tl th lo hi n : Int} {ok ag cl cf : Bool} {s0 s1 : Int}
theorem fuse_tog (h : FuseIs p0 p1 f0 f1 f2 f3 a0 b0 a1 b1 a2 b2 a3 b3 tl th ok ag lo hi n cl cf s0 s1) : TogIs (fitV f0 f1 f2 a0 b0 a1 b1 a2 b2) tl th ok ag := by
  have := tog_togV _ (fit_len f0 f1 f2 a0 b0 a1 b1 a2 b2)
  rw [h.tog] at this
  exact this
theorem e_fuseX (h : FuseIs p0 p1 f0 f1 f2 f3 a0 b0 a1 b1 a2 b2 a3 b3 tl th ok ag lo hi n cl cf s0 s1) (hI : All64 a0 b0 a1 b1 a2 b2 a3 b3) :
    PCalls Try.prog 24 [sp2 p0 p1, sens3 f0 f1 f2 a0 b0 a1 b1 a2 b2, sens f3 a3 b3] (· = .agg [.int .i64 lo, .int .i64 hi, .int .i64 n, .bool cl, .bool cf, .int .i64 s0, .int .i64 s1]) := by
  refine (e_fuse p0 p1 f0 f1 f2 f3 a0 b0 a1 b1 a2 b2 a3 b3 _ rfl (fit_all f0 f1 f2 hI.a0 hI.b0 hI.a1 hI.b1 hI.a2 hI.b2)).mono ?_
  rintro r ⟨tl', th', ok', ag', lo', hi', n', cl', cf', s0', s1', rfl, k1, k2, k3, k4, k5, k6⟩
  obtain ⟨rfl, rfl, rfl, rfl⟩ := tog_unique k1 (fuse_tog h)
  have e1 : n = n' := by rw [h.len, k2]; rfl
  subst e1
  have e2 := k4.trans h.nar.symm
  simp only [Prod.mk.injEq] at e2
  obtain ⟨rfl, rfl, rfl⟩ := e2
  rw [k3, k5, k6, h.cl, h.sl0, h.sl1]
end
theorem fuse_ex (p0 p1 : Int) (f0 f1 f2 f3 : Bool) (a0 b0 a1 b1 a2 b2 a3 b3 : Int) : ∃ tl th ok ag lo hi n cl cf s0 s1, FuseIs p0 p1 f0 f1 f2 f3 a0 b0 a1 b1 a2 b2 a3 b3 tl th ok ag lo hi n cl cf s0 s1 :=
  ⟨_, _, _, _, _, _, _, _, _, _, _, ⟨rfl, rfl, rfl, rfl, rfl, rfl⟩⟩
theorem e_anchor17 : PCalls Try.prog 21 [] (· = .bool true) := by
  have hI : ∀ x y z t : Int, I64 x → I64 y → I64 z → I64 t → All64 10 20 12 30 x y z t := fun x y z t h1 h2 h3 h4 => ⟨by unfold I64; omega, by unfold I64; omega, by unfold I64; omega, by unfold I64; omega, h1, h2, h3, h4⟩
  have m1 := e_fuseX (p0 := 0) (p1 := 100) (f0 := true) (f1 := true) (f2 := true) (f3 := false) (tl := 12) (th := 20) (ok := true) (ag := false) (lo := 12) (hi := 20) (n := 3) (cl := false) (cf := false) (s0 := 0) (s1 := 0) ⟨by decide, by decide, by decide, by decide, by decide, by decide⟩ (hI 40 50 0 0 (by unfold I64; omega) (by unfold I64; omega) (by unfold I64; omega) (by unfold I64; omega))
  have m2 := e_fuseX (p0 := 0) (p1 := 100) (f0 := true) (f1 := true) (f2 := true) (f3 := false) (tl := 15) (th := 18) (ok := true) (ag := true) (lo := 15) (hi := 18) (n := 3) (cl := true) (cf := false) (s0 := 0) (s1 := 0) ⟨by decide, by decide, by decide, by decide, by decide, by decide⟩ (hI 15 18 0 0 (by unfold I64; omega) (by unfold I64; omega) (by unfold I64; omega) (by unfold I64; omega))
  (refine PCalls.ofY Try.func21 (by kernel_rfl) (by kernel_rfl) fun w hw R hR => ?_); (obtain ⟨wbin, wcmp, wun, wconv, wnot, wbeq, wmm, wscmp, wsadd, wslen, wsat, weqs, wlen, wnlen, wofNat, wtake, wdrop, wapp, wzero, wnat⟩ := w); (have hbin : wbin = binStd := congrArg Prims.bin hw); (have hcmp : wcmp = cmpStd := congrArg Prims.cmp hw); (have hun : wun = unStd := congrArg Prims.un hw); (have hconv : wconv = fun k n => k.wrap n := congrArg Prims.conv hw); (have hnot : wnot = fun b => !b := congrArg Prims.not hw); (have hbeq : wbeq = fun a b => a == b := congrArg Prims.beq hw); (have hmm : wmm = maxI := congrArg Prims.mm hw); (have hscmp : wscmp = scmpStd := congrArg Prims.scmp hw); (have hsadd : wsadd = fun x y => x ++ y := congrArg Prims.sadd hw); (have hslen : wslen = fun s => (s.size : Int) := congrArg Prims.slen hw); (have hsat : wsat = std.sat := congrArg Prims.sat hw); (have heqs : weqs = fun a b os => (eqOffs a b os).getD false := congrArg Prims.eqs hw); (have hlen : wlen = fun es => (es.length : Int) := congrArg Prims.len hw); (have hnlen : wnlen = fun es => es.length := congrArg Prims.nlen hw); (have hofNat : wofNat = (fun n : Nat => (n : Int)) := congrArg Prims.ofNat hw); (have htake : wtake = fun es b => es.take b.toNat := congrArg Prims.take hw); (have hdrop : wdrop = fun es a => es.drop a.toNat := congrArg Prims.drop hw); (have happ : wapp = fun a b => a ++ b := congrArg Prims.app hw); (have hzero : wzero = fun n z => List.replicate n.toNat z := congrArg Prims.zero hw); (have hnat : wnat = fun n => n.toNat := congrArg Prims.nat hw); (conv => arg 2; cbv); (generalize hP : Try.prog = P); cbv
  repeat' (first
    | (refine InN.mk (by decide) (by decide) ?_; cbv)
    | (split <;> rename_i h <;> (try (simp only [hmm] at h)) <;> (try (simp only [hbin, hcmp, hun, hconv, hnot, hbeq, hmm, hscmp, hsadd, hslen, hsat, heqs, hofNat, binStd, cmpStd, unStd, scmpStd, maxI, Bool.not_eq_true', Bool.not_eq_false', decide_eq_true_eq, decide_eq_false_iff_not, Int.not_lt, Int.not_le, if_true, if_false, Bool.false_eq_true, beq_iff_eq, bne_iff_ne, ne_eq, Bool.not_eq_eq_eq_not, Bool.not_true, Bool.not_false, beq_eq_false_iff_ne, bne_eq_false_iff_eq, Int.ofNat_eq_natCast, Bool.not_not, not_true_eq_false, not_false_eq_true, reduceCtorEq] at h)) <;> (try cbv))
    | (refine Call.stepE (by rw [← hP]; exact m1) rfl ?_; cbv)
    | (refine Call.stepE (by rw [← hP]; exact m2) rfl ?_; cbv))
  all_goals first
    | (refine ⟨_, Vw.same rfl, hR _ rfl⟩)
    | (refine absurd h ?_; decide)
end Go.Proofs.Ytbagikhoinggjaa


set_option linter.unusedVariables false
set_option linter.unusedSimpArgs false
namespace Go.Proofs.Ytbagikhoinggjaa
open Go Go.RowKit Go.Eng
set_option maxRecDepth 100000
section
variable {p0 p1 : Int} {f0 f1 f2 f3 : Bool} {a0 b0 a1 b1 a2 b2 a3 b3 tl th lo hi n : Int} {ok ag cl cf : Bool} {s0 s1 : Int}
theorem fuse_inside (h : FuseIs p0 p1 f0 f1 f2 f3 a0 b0 a1 b1 a2 b2 a3 b3 tl th ok ag lo hi n cl cf s0 s1) (hp : p0 ≤ p1) : lo ≤ hi ∧ p0 ≤ lo ∧ hi ≤ p1 ∧ ((s0 = 0 ∧ s1 = 0) ∨ (n = 3 ∧ cl = false)) := by
  have ht := fuse_tog h
  have hl := fit_len f0 f1 f2 a0 b0 a1 b1 a2 b2
  have hN := h.nar
  have key : ∀ s : Int × Int × Bool, s.1 ≤ s.2.1 → p0 ≤ s.1 → s.2.1 ≤ p1 → ∀ a b, (narV s a b).1 ≤ (narV s a b).2.1 ∧ p0 ≤ (narV s a b).1 ∧ (narV s a b).2.1 ≤ p1 := by
    intro s h1 h2 h3 a b
    unfold narV
    split <;> simp only <;> omega
  have k1 : ∀ s, s = nar1 ok tl th n p0 p1 → s.1 ≤ s.2.1 ∧ p0 ≤ s.1 ∧ s.2.1 ≤ p1 := by
    rintro s rfl
    unfold nar1
    split
    · exact key (p0, p1, false) hp (Int.le_refl _) (Int.le_refl _) _ _
    · exact ⟨hp, Int.le_refl _, Int.le_refl _⟩
  obtain ⟨k1, k2, k3⟩ := k1 _ rfl
  have k4 : lo ≤ hi ∧ p0 ≤ lo ∧ hi ≤ p1 := by
    unfold nar2 at hN
    split at hN
    · have := key _ k1 k2 k3 a3 b3
      rw [← hN] at this
      exact this
    · rw [← hN] at k1 k2 k3
      exact ⟨k1, k2, k3⟩
  refine ⟨k4.1, k4.2.1, k4.2.2, ?_⟩
  by_cases hs : ok = true ∧ ag = false
  · refine .inr ⟨?_, by rw [h.cl, hs.2]; rfl⟩
    rw [h.len, tog_ft ht hl hs.2 hs.1]; rfl
  · refine .inl ⟨?_, ?_⟩
    · rw [h.sl0]; unfold slip1; rw [if_neg (fun hh => hs ⟨hh.1, hh.2.1⟩)]
    · rw [h.sl1]; unfold slip1; rw [if_neg (fun hh => hs ⟨hh.1, hh.2.1⟩)]
end
theorem may_spec {a b : Int} (h : mayV a b = true) : a ≤ b ∧ -1152921504606846976 ≤ a ∧ b ≤ 1152921504606846976 := by
  simpa [mayV] using h
theorem eq_pair (a b c d : Int) (u : Bool) (h : (eqOffs [.int .i64 a, .int .i64 b] [.int .i64 c, .int .i64 d] [(0, 1), (1, 1)]).getD false = u) : u = (decide (a = c) && decide (b = d)) := by
  rw [← h]
  simp only [eqOffs, eqA, List.getD_eq_getElem?_getD, List.getElem?_cons_zero, List.getElem?_cons_succ, Option.getD_some, Bool.and_true, Bool.beq_eq_decide_eq]
  rw [Bool.eq_iff_iff]
  simp
set_option maxHeartbeats 2000000 in
theorem e_inside (p0 p1 : Int) (f0 f1 f2 f3 : Bool) (a0 b0 a1 b1 a2 b2 a3 b3 : Int) (hI : All64 a0 b0 a1 b1 a2 b2 a3 b3) : PCalls Try.prog 8 [sp2 p0 p1, sens3 f0 f1 f2 a0 b0 a1 b1 a2 b2, sens f3 a3 b3] (fun r => r = .bool true) := by
  obtain ⟨tl, th, ok, ag, lo, hi, n, cl, cf, s0, s1, hF⟩ := fuse_ex p0 p1 f0 f1 f2 f3 a0 b0 a1 b1 a2 b2 a3 b3
  have m1 := e_fuseX hF hI
  obtain ⟨u, hu⟩ : ∃ x, mayV p0 p1 = x := ⟨_, rfl⟩
  have m2 := e_may17 p0 p1 u hu
  have hin := fun h : u = true => fuse_inside hF (may_spec (hu.trans h)).1
  clear hF
  (refine PCalls.ofY Try.func8 (by kernel_rfl) (by kernel_rfl) fun w hw R hR => ?_); (obtain ⟨wbin, wcmp, wun, wconv, wnot, wbeq, wmm, wscmp, wsadd, wslen, wsat, weqs, wlen, wnlen, wofNat, wtake, wdrop, wapp, wzero, wnat⟩ := w); (have hbin : wbin = binStd := congrArg Prims.bin hw); (have hcmp : wcmp = cmpStd := congrArg Prims.cmp hw); (have hun : wun = unStd := congrArg Prims.un hw); (have hconv : wconv = fun k n => k.wrap n := congrArg Prims.conv hw); (have hnot : wnot = fun b => !b := congrArg Prims.not hw); (have hbeq : wbeq = fun a b => a == b := congrArg Prims.beq hw); (have hmm : wmm = maxI := congrArg Prims.mm hw); (have hscmp : wscmp = scmpStd := congrArg Prims.scmp hw); (have hsadd : wsadd = fun x y => x ++ y := congrArg Prims.sadd hw); (have hslen : wslen = fun s => (s.size : Int) := congrArg Prims.slen hw); (have hsat : wsat = std.sat := congrArg Prims.sat hw); (have heqs : weqs = fun a b os => (eqOffs a b os).getD false := congrArg Prims.eqs hw); (have hlen : wlen = fun es => (es.length : Int) := congrArg Prims.len hw); (have hnlen : wnlen = fun es => es.length := congrArg Prims.nlen hw); (have hofNat : wofNat = (fun n : Nat => (n : Int)) := congrArg Prims.ofNat hw); (have htake : wtake = fun es b => es.take b.toNat := congrArg Prims.take hw); (have hdrop : wdrop = fun es a => es.drop a.toNat := congrArg Prims.drop hw); (have happ : wapp = fun a b => a ++ b := congrArg Prims.app hw); (have hzero : wzero = fun n z => List.replicate n.toNat z := congrArg Prims.zero hw); (have hnat : wnat = fun n => n.toNat := congrArg Prims.nat hw); (conv => arg 2; cbv); (generalize hP : Try.prog = P); cbv
  refine Call.stepE (by rw [← hP]; exact e_anchor17) rfl ?_
  cbv
  repeat' (first
    | (refine Call.stepE (by rw [← hP]; exact m1) rfl ?_; cbv)
    | (refine Call.stepE (by rw [← hP]; exact m2) rfl ?_; cbv)
    | (refine Call.step (by rw [← hP]; exact e_given f0 f1 f2 f3 a0 b0 a1 b1 a2 b2 a3 b3) rfl ?_; rintro r (⟨x0, x1, x2, x3, x4, x5, x6, x7, y0, y1, y2, y3, rfl, ho⟩ | ⟨y0, y1, y2, y3, rfl, hy, ho⟩) <;> cbv)
    | (split <;> rename_i h <;> (try (simp only [hbin, hcmp, hun, hconv, hnot, hbeq, hmm, hscmp, hsadd, hslen, hsat, heqs, hofNat, binStd, cmpStd, unStd, scmpStd, maxI, Bool.not_eq_true', Bool.not_eq_false', decide_eq_true_eq, decide_eq_false_iff_not, Int.not_lt, Int.not_le, if_true, if_false, Bool.false_eq_true, beq_iff_eq, bne_iff_ne, ne_eq, Bool.not_eq_eq_eq_not, Bool.not_true, Bool.not_false, beq_eq_false_iff_ne, bne_eq_false_iff_eq, Int.ofNat_eq_natCast, Bool.not_not, not_true_eq_false, not_false_eq_true, reduceCtorEq] at h)) <;> (try cbv)))
  all_goals first
    | (refine ⟨_, Vw.same rfl, hR _ rfl⟩)
    | (obtain ⟨j1, j2, j3, j4⟩ := hin (by assumption)
       first
         | (exfalso; omega)
         | (have e := eq_pair _ _ _ _ _ (by assumption)
            rcases j4 with ⟨k1, k2⟩ | ⟨k1, k2⟩
            · exfalso; rw [k1, k2] at e; exact absurd e (by decide)
            · first
                | (exfalso; omega)
                | (refine ⟨_, Vw.same rfl, hR _ (congrArg AV.bool ?_)⟩; rw [hnot, k2]; rfl)))
end Go.Proofs.Ytbagikhoinggjaa


set_option linter.unusedVariables false
set_option linter.unusedSimpArgs false
namespace Go.Proofs.Ytbagikhoinggjaa
open Go Go.RowKit Go.Eng
def hasV (a b v : Int) : Prop := a ≤ v ∧ v ≤ b
theorem fit_cases (f0 f1 f2 : Bool) (a0 b0 a1 b1 a2 b2 : Int) :
    (f0 = false ∧ f1 = false ∧ f2 = false ∧ fitV f0 f1 f2 a0 b0 a1 b1 a2 b2 = []) ∨ (f0 = true ∧ f1 = false ∧ f2 = false ∧ fitV f0 f1 f2 a0 b0 a1 b1 a2 b2 = [(a0, b0)]) ∨
    (f0 = false ∧ f1 = true ∧ f2 = false ∧ fitV f0 f1 f2 a0 b0 a1 b1 a2 b2 = [(a1, b1)]) ∨ (f0 = false ∧ f1 = false ∧ f2 = true ∧ fitV f0 f1 f2 a0 b0 a1 b1 a2 b2 = [(a2, b2)]) ∨
    (f0 = true ∧ f1 = true ∧ f2 = false ∧ fitV f0 f1 f2 a0 b0 a1 b1 a2 b2 = [(a0, b0), (a1, b1)]) ∨ (f0 = true ∧ f1 = false ∧ f2 = true ∧ fitV f0 f1 f2 a0 b0 a1 b1 a2 b2 = [(a0, b0), (a2, b2)]) ∨
    (f0 = false ∧ f1 = true ∧ f2 = true ∧ fitV f0 f1 f2 a0 b0 a1 b1 a2 b2 = [(a1, b1), (a2, b2)]) ∨ (f0 = true ∧ f1 = true ∧ f2 = true ∧ fitV f0 f1 f2 a0 b0 a1 b1 a2 b2 = [(a0, b0), (a1, b1), (a2, b2)]) := by
  cases f0 <;> cases f1 <;> cases f2 <;> simp [fitV, fitRow]
def bitN (f : Bool) : Int := if f = true then 1 else 0
theorem fit_n (f0 f1 f2 : Bool) (a0 b0 a1 b1 a2 b2 : Int) : ((fitV f0 f1 f2 a0 b0 a1 b1 a2 b2).length : Int) = bitN f0 + bitN f1 + bitN f2 := by
  cases f0 <;> cases f1 <;> cases f2 <;> rfl
/-- A value that two of three have is in what two of three have. -/
theorem two_has {p q r : Int × Int} {v : Int} (h : (hasV p.1 p.2 v ∧ hasV q.1 q.2 v) ∨ (hasV p.1 p.2 v ∧ hasV r.1 r.2 v) ∨ (hasV q.1 q.2 v ∧ hasV r.1 r.2 v)) : (twoV p q r).2.2 = true ∧ (twoV p q r).1 ≤ v ∧ v ≤ (twoV p q r).2.1 := by
  have t := two3 p q r
  have pr : ∀ i j, i < j → j < 3 → Pairs 3 3 0 i j := by intro i j; unfold Pairs; omega
  have key : ∀ i j, i < j → j < 3 → max (aOf [p, q, r] i) (aOf [p, q, r] j) ≤ v → v ≤ min (bOf [p, q, r] i) (bOf [p, q, r] j) → (twoV p q r).2.2 = true ∧ (twoV p q r).1 ≤ v ∧ v ≤ (twoV p q r).2.1 := by
    intro i j h1 h2 h3 h4
    have hf : (twoV p q r).2.2 = true := by
      cases hf : (twoV p q r).2.2 with
      | true => rfl
      | false => exact absurd (by omega) ((t.none_ hf).2.2 i j (pr i j h1 h2))
    have e1 := (t.lo_ hf).2 i j (pr i j h1 h2) (by omega)
    have e2 := (t.hi_ hf).2 i j (pr i j h1 h2) (by omega)
    exact ⟨hf, by omega, by omega⟩
  rcases h with ⟨⟨x1, x2⟩, ⟨y1, y2⟩⟩ | ⟨⟨x1, x2⟩, ⟨y1, y2⟩⟩ | ⟨⟨x1, x2⟩, ⟨y1, y2⟩⟩
  · exact key 0 1 (by omega) (by omega) (by simp [aOf]; omega) (by simp [bOf]; omega)
  · exact key 0 2 (by omega) (by omega) (by simp [aOf]; omega) (by simp [bOf]; omega)
  · exact key 1 2 (by omega) (by omega) (by simp [aOf]; omega) (by simp [bOf]; omega)
/-- What two of three have lies in the hull of any two of them. -/
theorem two_in {p q r : Int × Int} (h : (twoV p q r).2.2 = true) : (min p.1 q.1 ≤ (twoV p q r).1 ∧ (twoV p q r).2.1 ≤ max p.2 q.2) ∧ (min p.1 r.1 ≤ (twoV p q r).1 ∧ (twoV p q r).2.1 ≤ max p.2 r.2) ∧ (min q.1 r.1 ≤ (twoV p q r).1 ∧ (twoV p q r).2.1 ≤ max q.2 r.2) := by
  have t := two3 p q r
  obtain ⟨⟨i, j, h1, h2, h3⟩, _⟩ := t.lo_ h
  obtain ⟨⟨i', j', h1', h2', h3'⟩, _⟩ := t.hi_ h
  have pr : ∀ i j, Pairs 3 3 0 i j → (i = 0 ∧ j = 1) ∨ (i = 0 ∧ j = 2) ∨ (i = 1 ∧ j = 2) := by intro i j; unfold Pairs; omega
  have e0 : aOf [p, q, r] 0 = p.1 := rfl
  have e1 : aOf [p, q, r] 1 = q.1 := rfl
  have e2 : aOf [p, q, r] 2 = r.1 := rfl
  have f0 : bOf [p, q, r] 0 = p.2 := rfl
  have f1 : bOf [p, q, r] 1 = q.2 := rfl
  have f2 : bOf [p, q, r] 2 = r.2 := rfl
  generalize twoV p q r = T at *
  rcases pr _ _ h1 with ⟨rfl, rfl⟩ | ⟨rfl, rfl⟩ | ⟨rfl, rfl⟩ <;> rcases pr _ _ h1' with ⟨rfl, rfl⟩ | ⟨rfl, rfl⟩ | ⟨rfl, rfl⟩ <;> simp only [e0, e1, e2, f0, f1, f2] at h2 h3 h2' h3' <;> omega
theorem tog_perm (f0 f1 f2 : Bool) (a0 b0 a1 b1 a2 b2 : Int) : togV (fitV f1 f0 f2 a1 b1 a0 b0 a2 b2) = togV (fitV f0 f1 f2 a0 b0 a1 b1 a2 b2) := by
  cases f0 <;> cases f1 <;> cases f2 <;> simp only [fitV, fitRow, List.append_nil, List.nil_append, List.cons_append]
  · rw [togV2, togV2]; simp only; rw [Int.max_comm a1 a0, Int.min_comm b1 b0]
  · rw [togV3, togV3]
    simp only
    rw [Int.max_comm a1 a0, Int.min_comm b1 b0]
    have e : twoV (a1, b1) (a0, b0) (a2, b2) = twoV (a0, b0) (a1, b1) (a2, b2) := by
      have t := two3 (a1, b1) (a0, b0) (a2, b2)
      have t' := two3 (a0, b0) (a1, b1) (a2, b2)
      unfold twoV stepV
      simp only
      rw [Int.max_comm a1 a0, Int.min_comm b1 b0]
      by_cases c1 : max a0 a1 ≤ min b0 b1 <;> by_cases c2 : max a0 a2 ≤ min b0 b2 <;> by_cases c3 : max a1 a2 ≤ min b1 b2 <;> simp [c1, c2, c3] <;> omega
    rw [e]
section
variable {p0 p1 : Int} {f0 f1 f2 f3 : Bool} {a0 b0 a1 b1 a2 b2 a3 b3 tl th lo hi n : Int} {ok ag cl cf : Bool} {s0 s1 : Int}
theorem nar_has {p0 p1 a b v : Int} {cf : Bool} (h : hasV p0 p1 v) (h' : hasV a b v) : narV (p0, p1, cf) a b = (max p0 a, min p1 b, cf) := by
  unfold hasV at h h'
  unfold narV
  rw [if_pos (by simp only; omega)]
/-- Whoever has v: it is in what all say. -/
theorem fuse_true (h : FuseIs p0 p1 f0 f1 f2 f3 a0 b0 a1 b1 a2 b2 a3 b3 tl th ok ag lo hi n cl cf s0 s1) (v : Int) (hp : hasV p0 p1 v) (ha : f3 = true → hasV a3 b3 v)
    (hw : (n = 0 ∧ ok = false) ∨ (ok = true ∧ hasV tl th v)) : lo ≤ v ∧ v ≤ hi ∧ cf = false := by
  have hN := h.nar
  have hp' := hp
  unfold hasV at hp
  have k : ∃ x y, nar1 ok tl th n p0 p1 = (x, y, false) ∧ hasV x y v := by
    unfold nar1
    rcases hw with ⟨h1, h2⟩ | ⟨h1, h2⟩
    · subst h1 h2
      exact ⟨p0, p1, rfl, hp'⟩
    · subst h1
      refine ⟨_, _, nar_has hp' h2, ?_⟩
      unfold hasV at h2 ⊢; omega
  obtain ⟨x, y, e, hv⟩ := k
  rw [e] at hN
  unfold nar2 at hN
  split at hN
  · rename_i hf
    have h3 := ha hf
    rw [nar_has hv h3] at hN
    simp only [Prod.mk.injEq] at hN
    obtain ⟨rfl, rfl, rfl⟩ := hN
    unfold hasV at hv h3
    exact ⟨by omega, by omega, rfl⟩
  · simp only [Prod.mk.injEq] at hN
    obtain ⟨rfl, rfl, rfl⟩ := hN
    unfold hasV at hv
    exact ⟨hv.1, hv.2, rfl⟩
/-- All that are fit have it. -/
theorem tog_all (h : FuseIs p0 p1 f0 f1 f2 f3 a0 b0 a1 b1 a2 b2 a3 b3 tl th ok ag lo hi n cl cf s0 s1) (v : Int) (h0 : f0 = true → hasV a0 b0 v) (h1 : f1 = true → hasV a1 b1 v) (h2 : f2 = true → hasV a2 b2 v) :
    (n = 0 ∧ ok = false) ∨ (ok = true ∧ hasV tl th v ∧ ag = true) := by
  have ht := h.tog
  have hl := h.len
  unfold hasV at *
  rcases fit_cases f0 f1 f2 a0 b0 a1 b1 a2 b2 with ⟨rfl, rfl, rfl, e⟩ | ⟨rfl, rfl, rfl, e⟩ | ⟨rfl, rfl, rfl, e⟩ | ⟨rfl, rfl, rfl, e⟩ | ⟨rfl, rfl, rfl, e⟩ | ⟨rfl, rfl, rfl, e⟩ | ⟨rfl, rfl, rfl, e⟩ | ⟨rfl, rfl, rfl, e⟩ <;>
    (rw [e] at ht hl)
  · refine .inl ⟨hl, ?_⟩
    have : togV [] = (0, 0, false, false) := rfl
    rw [this] at ht
    simp only [Prod.mk.injEq] at ht
    exact ht.2.2.1.symm
  all_goals
    first | rw [togV1] at ht | rw [togV2] at ht | rw [togV3] at ht
    simp only [true_implies, false_implies, Bool.false_eq_true] at h0 h1 h2
    rw [if_pos (by simp only; omega)] at ht
    simp only [Prod.mk.injEq] at ht
    obtain ⟨rfl, rfl, rfl, rfl⟩ := ht
    exact .inr ⟨rfl, by omega, rfl⟩
/-- All three are fit; two of them have it; they have nothing in common. -/
theorem tog_but (h : FuseIs p0 p1 true true true f3 a0 b0 a1 b1 a2 b2 a3 b3 tl th ok ag lo hi n cl cf s0 s1) (v : Int) (hn : ¬ max (max a0 a1) a2 ≤ min (min b0 b1) b2)
    (hw : (hasV a0 b0 v ∧ hasV a1 b1 v) ∨ (hasV a0 b0 v ∧ hasV a2 b2 v) ∨ (hasV a1 b1 v ∧ hasV a2 b2 v)) : ok = true ∧ hasV tl th v ∧
      (min a0 a1 ≤ tl ∧ th ≤ max b0 b1) ∧ (min a0 a2 ≤ tl ∧ th ≤ max b0 b2) ∧ (min a1 a2 ≤ tl ∧ th ≤ max b1 b2) := by
  have ht := h.tog
  have e : fitV true true true a0 b0 a1 b1 a2 b2 = [(a0, b0), (a1, b1), (a2, b2)] := rfl
  rw [e, togV3, if_neg hn] at ht
  simp only [Prod.mk.injEq] at ht
  obtain ⟨rfl, rfl, rfl, rfl⟩ := ht
  obtain ⟨k1, k2, k3⟩ := two_has (p := (a0, b0)) (q := (a1, b1)) (r := (a2, b2)) hw
  exact ⟨k1, ⟨k2, k3⟩, two_in k1⟩
end
end Go.Proofs.Ytbagikhoinggjaa


set_option linter.unusedVariables false
set_option linter.unusedSimpArgs false
namespace Go.Proofs.Ytbagikhoinggjaa
open Go Go.RowKit Go.Eng
set_option maxRecDepth 100000
theorem ty_span (x : AV) (h : TyV Try.prog 8 46 x) : ∃ a b : Int, x = sp2 a b ∧ I64 a ∧ I64 b := by
  obtain ⟨cs, rfl, hx⟩ := h.agg (by kernel_rfl) (show shOf Try.prog 8 46 = some [.int .i64, .int .i64] from by kernel_rfl)
  obtain ⟨a, _, rfl, h1, y1⟩ := ok_int hx
  obtain ⟨b, _, rfl, h2, y2⟩ := ok_int y1
  obtain rfl := ok_nil y2
  exact ⟨a, b, rfl, wf64 h1, wf64 h2⟩
theorem ty_sensor (x : AV) (h : TyV Try.prog 8 48 x) : ∃ (f : Bool) (a b : Int), x = sens f a b ∧ I64 a ∧ I64 b := by
  obtain ⟨cs, rfl, hx⟩ := h.agg (by kernel_rfl) (show shOf Try.prog 8 48 = some [.bool, .int .i64, .int .i64] from by kernel_rfl)
  obtain ⟨f, _, rfl, y3⟩ := ok_bool hx
  obtain ⟨a, _, rfl, h1, y4⟩ := ok_int y3
  obtain ⟨b, _, rfl, h2, y5⟩ := ok_int y4
  obtain rfl := ok_nil y5
  exact ⟨f, a, b, rfl, wf64 h1, wf64 h2⟩
theorem ty_three (x : AV) (h : TyV Try.prog 8 49 x) : ∃ (f0 f1 f2 : Bool) (a0 b0 a1 b1 a2 b2 : Int), x = sens3 f0 f1 f2 a0 b0 a1 b1 a2 b2 ∧ I64 a0 ∧ I64 b0 ∧ I64 a1 ∧ I64 b1 ∧ I64 a2 ∧ I64 b2 := by
  obtain ⟨cs, rfl, hx⟩ := h.agg (by kernel_rfl) (show shOf Try.prog 8 49 = some [.bool, .int .i64, .int .i64, .bool, .int .i64, .int .i64, .bool, .int .i64, .int .i64] from by kernel_rfl)
  obtain ⟨f0, _, rfl, y6⟩ := ok_bool hx
  obtain ⟨a0, _, rfl, h1, y7⟩ := ok_int y6
  obtain ⟨b0, _, rfl, h2, y8⟩ := ok_int y7
  obtain ⟨f1, _, rfl, y9⟩ := ok_bool y8
  obtain ⟨a1, _, rfl, h3, y10⟩ := ok_int y9
  obtain ⟨b1, _, rfl, h4, y11⟩ := ok_int y10
  obtain ⟨f2, _, rfl, y12⟩ := ok_bool y11
  obtain ⟨a2, _, rfl, h5, y13⟩ := ok_int y12
  obtain ⟨b2, _, rfl, h6, y14⟩ := ok_int y13
  obtain rfl := ok_nil y14
  exact ⟨f0, f1, f2, a0, b0, a1, b1, a2, b2, rfl, wf64 h1, wf64 h2, wf64 h3, wf64 h4, wf64 h5, wf64 h6⟩
end Go.Proofs.Ytbagikhoinggjaa


set_option linter.unusedVariables false
set_option linter.unusedSimpArgs false
namespace Go.Proofs.Ytbagikhoinggjaa
open Go Go.RowKit Go.Eng
set_option maxRecDepth 100000
theorem e_agree (f0 f1 f2 : Bool) (a0 b0 a1 b1 a2 b2 : Int) (u : Bool) (hu : decide (max (max a0 a1) a2 ≤ min (min b0 b1) b2) = u) : PCalls Try.prog 27 [sens3 f0 f1 f2 a0 b0 a1 b1 a2 b2] (· = .bool u) := by
  (refine PCalls.ofY Try.func27 (by kernel_rfl) (by kernel_rfl) fun w hw R hR => ?_); (obtain ⟨wbin, wcmp, wun, wconv, wnot, wbeq, wmm, wscmp, wsadd, wslen, wsat, weqs, wlen, wnlen, wofNat, wtake, wdrop, wapp, wzero, wnat⟩ := w); (have hbin : wbin = binStd := congrArg Prims.bin hw); (have hcmp : wcmp = cmpStd := congrArg Prims.cmp hw); (have hun : wun = unStd := congrArg Prims.un hw); (have hconv : wconv = fun k n => k.wrap n := congrArg Prims.conv hw); (have hnot : wnot = fun b => !b := congrArg Prims.not hw); (have hbeq : wbeq = fun a b => a == b := congrArg Prims.beq hw); (have hmm : wmm = maxI := congrArg Prims.mm hw); (have hscmp : wscmp = scmpStd := congrArg Prims.scmp hw); (have hsadd : wsadd = fun x y => x ++ y := congrArg Prims.sadd hw); (have hslen : wslen = fun s => (s.size : Int) := congrArg Prims.slen hw); (have hsat : wsat = std.sat := congrArg Prims.sat hw); (have heqs : weqs = fun a b os => (eqOffs a b os).getD false := congrArg Prims.eqs hw); (have hlen : wlen = fun es => (es.length : Int) := congrArg Prims.len hw); (have hnlen : wnlen = fun es => es.length := congrArg Prims.nlen hw); (have hofNat : wofNat = (fun n : Nat => (n : Int)) := congrArg Prims.ofNat hw); (have htake : wtake = fun es b => es.take b.toNat := congrArg Prims.take hw); (have hdrop : wdrop = fun es a => es.drop a.toNat := congrArg Prims.drop hw); (have happ : wapp = fun a b => a ++ b := congrArg Prims.app hw); (have hzero : wzero = fun n z => List.replicate n.toNat z := congrArg Prims.zero hw); (have hnat : wnat = fun n => n.toNat := congrArg Prims.nat hw); (conv => arg 2; cbv); (generalize hP : Try.prog = P); cbv
  repeat' (refine InN.mk (by decide) (by decide) ?_)
  cbv
  refine ⟨_, Vw.same rfl, hR _ (congrArg AV.bool ?_)⟩
  rw [← hu, Bool.eq_iff_iff]
  simp only [hcmp, cmpStd, hmm, maxI, decide_eq_true_eq, if_true, Bool.false_eq_true, if_false]
  constructor
  · intro h; repeat' (split at h)
    all_goals omega
  · intro h; repeat' split
    all_goals omega
theorem has_of {a b v : Int} {u : Bool} (h : decide (a ≤ v ∧ v ≤ b) = u) (hu : u = true) : hasV a b v := by
  subst hu; simpa [hasV] using h
end Go.Proofs.Ytbagikhoinggjaa


set_option linter.unusedVariables false
set_option linter.unusedSimpArgs false
namespace Go.Proofs.Ytbagikhoinggjaa
open Go Go.RowKit Go.Eng
set_option maxRecDepth 100000
theorem u_sub {a b : Int} (h : a ≤ b) (h2 : b - a < 18446744073709551616) : binStd .sub .u64 (IntKind.u64.wrap b) (IntKind.u64.wrap a) = b - a := by
  show IntKind.u64.wrap (IntKind.u64.wrap b - IntKind.u64.wrap a) = _
  rw [IntKind.wrap_u64, IntKind.wrap_u64, IntKind.wrap_u64]
  omega
theorem e_width17 (a b w : Int) (hW : (if a ≤ b then b - a else 0) = w) (h2 : b - a < 18446744073709551616) : PCalls Try.prog 29 [sp2 a b] (· = .int .u64 w) := by
  (refine PCalls.ofY Try.func29 (by kernel_rfl) (by kernel_rfl) fun w hw R hR => ?_); (obtain ⟨wbin, wcmp, wun, wconv, wnot, wbeq, wmm, wscmp, wsadd, wslen, wsat, weqs, wlen, wnlen, wofNat, wtake, wdrop, wapp, wzero, wnat⟩ := w); (have hbin : wbin = binStd := congrArg Prims.bin hw); (have hcmp : wcmp = cmpStd := congrArg Prims.cmp hw); (have hun : wun = unStd := congrArg Prims.un hw); (have hconv : wconv = fun k n => k.wrap n := congrArg Prims.conv hw); (have hnot : wnot = fun b => !b := congrArg Prims.not hw); (have hbeq : wbeq = fun a b => a == b := congrArg Prims.beq hw); (have hmm : wmm = maxI := congrArg Prims.mm hw); (have hscmp : wscmp = scmpStd := congrArg Prims.scmp hw); (have hsadd : wsadd = fun x y => x ++ y := congrArg Prims.sadd hw); (have hslen : wslen = fun s => (s.size : Int) := congrArg Prims.slen hw); (have hsat : wsat = std.sat := congrArg Prims.sat hw); (have heqs : weqs = fun a b os => (eqOffs a b os).getD false := congrArg Prims.eqs hw); (have hlen : wlen = fun es => (es.length : Int) := congrArg Prims.len hw); (have hnlen : wnlen = fun es => es.length := congrArg Prims.nlen hw); (have hofNat : wofNat = (fun n : Nat => (n : Int)) := congrArg Prims.ofNat hw); (have htake : wtake = fun es b => es.take b.toNat := congrArg Prims.take hw); (have hdrop : wdrop = fun es a => es.drop a.toNat := congrArg Prims.drop hw); (have happ : wapp = fun a b => a ++ b := congrArg Prims.app hw); (have hzero : wzero = fun n z => List.replicate n.toNat z := congrArg Prims.zero hw); (have hnat : wnat = fun n => n.toNat := congrArg Prims.nat hw); (conv => arg 2; cbv); (generalize hP : Try.prog = P); cbv
  refine Call.step (by rw [← hP]; exact e_right a b) rfl ?_
  rintro r ⟨o, rfl, ho⟩
  cbv
  (split <;> rename_i h <;> (try (simp only [hbin, hcmp, hun, hconv, hnot, hbeq, hmm, hscmp, hsadd, hslen, hsat, heqs, hofNat, binStd, cmpStd, unStd, scmpStd, maxI, Bool.not_eq_true', Bool.not_eq_false', decide_eq_true_eq, decide_eq_false_iff_not, Int.not_lt, Int.not_le, if_true, if_false, Bool.false_eq_true, beq_iff_eq, bne_iff_ne, ne_eq, Bool.not_eq_eq_eq_not, Bool.not_true, Bool.not_false, beq_eq_false_iff_ne, bne_eq_false_iff_eq, Int.ofNat_eq_natCast, Bool.not_not, not_true_eq_false, not_false_eq_true, reduceCtorEq] at h)) <;> (try cbv))
  · refine ⟨_, Vw.same rfl, hR _ (congrArg (AV.int .u64) ?_)⟩
    have : ¬ a ≤ b := fun hh => by rw [ho.2 hh] at h; cases h
    rw [if_neg this] at hW
    exact hW
  · refine ⟨_, Vw.same rfl, hR _ (congrArg (AV.int .u64) ?_)⟩
    have : a ≤ b := ho.1 h
    rw [if_pos this] at hW
    rw [hbin, hconv, ← hW]
    exact u_sub this h2
theorem u_add {a b : Int} (h : 0 ≤ a + b) (h2 : a + b < 18446744073709551616) : binStd .add .u64 a b = a + b := by
  show IntKind.u64.wrap (a + b) = _
  rw [IntKind.wrap_u64]
  omega
section
variable {p0 p1 : Int} {f3 : Bool} {a0 b0 a1 b1 a2 b2 a3 b3 tl th lo hi n : Int} {ok ag cl cf : Bool} {s0 s1 : Int}
theorem nar_in {s : Int × Int × Bool} {a b x y : Int} {c : Bool} (h : (x, y, c) = narV s a b) : s.1 ≤ x ∧ y ≤ s.2.1 := by
  unfold narV at h; split at h <;> simp only [Prod.mk.injEq] at h <;> omega
theorem fuse_within (h : FuseIs p0 p1 true true true f3 a0 b0 a1 b1 a2 b2 a3 b3 tl th ok ag lo hi n cl cf s0 s1) (v : Int) (hp : hasV p0 p1 v) (ho : ok = true) (ht : hasV tl th v) : tl ≤ lo ∧ hi ≤ th := by
  have hN := h.nar
  have e : nar1 ok tl th n p0 p1 = (max p0 tl, min p1 th, false) := by
    unfold nar1; rw [if_pos ho]; exact nar_has hp ht
  rw [e] at hN
  unfold nar2 at hN
  split at hN
  · have := nar_in hN
    simp only at this; omega
  · simp only [Prod.mk.injEq] at hN; omega
theorem width_all (h : FuseIs p0 p1 true true true f3 a0 b0 a1 b1 a2 b2 a3 b3 tl th ok ag lo hi n cl cf s0 s1) (v : Int) (hp : hasV p0 p1 v) (h0 : hasV a0 b0 v) (h1 : hasV a1 b1 v) (h2 : hasV a2 b2 v) : cl = true ∧ hi - lo ≤ max (max (b0 - a0) (b1 - a1)) (b2 - a2) := by
  have t := tog_all h v (fun _ => h0) (fun _ => h1) (fun _ => h2)
  have hn := h.len
  rcases t with ⟨t1, _⟩ | ⟨t1, t2, t3⟩
  · rw [t1] at hn; exact absurd hn (by simp [fitV, fitRow])
  · have w := fuse_within h v hp t1 t2
    have ht := h.tog
    have e : fitV true true true a0 b0 a1 b1 a2 b2 = [(a0, b0), (a1, b1), (a2, b2)] := rfl
    unfold hasV at h0 h1 h2
    rw [e, togV3, if_pos (by simp only; omega)] at ht
    simp only [Prod.mk.injEq] at ht
    obtain ⟨rfl, rfl, _, _⟩ := ht
    refine ⟨?_, by omega⟩
    rw [h.cl, t3, hn]; rfl
theorem width_but (h : FuseIs p0 p1 true true true f3 a0 b0 a1 b1 a2 b2 a3 b3 tl th ok ag lo hi n cl cf s0 s1) (v : Int) (hp : hasV p0 p1 v) (hn : ¬ max (max a0 a1) a2 ≤ min (min b0 b1) b2) :
    (hasV a0 b0 v ∧ hasV a1 b1 v → hi - lo ≤ (b0 - a0) + (b1 - a1)) ∧ (hasV a0 b0 v ∧ hasV a2 b2 v → hi - lo ≤ (b0 - a0) + (b2 - a2)) ∧ (hasV a1 b1 v ∧ hasV a2 b2 v → hi - lo ≤ (b1 - a1) + (b2 - a2)) := by
  refine ⟨fun hh => ?_, fun hh => ?_, fun hh => ?_⟩
  · obtain ⟨k1, k2, k3, k4, k5⟩ := tog_but h v hn (.inl hh)
    have w := fuse_within h v hp k1 k2
    unfold hasV at hh; omega
  · obtain ⟨k1, k2, k3, k4, k5⟩ := tog_but h v hn (.inr (.inl hh))
    have w := fuse_within h v hp k1 k2
    unfold hasV at hh; omega
  · obtain ⟨k1, k2, k3, k4, k5⟩ := tog_but h v hn (.inr (.inr hh))
    have w := fuse_within h v hp k1 k2
    unfold hasV at hh; omega
end
end Go.Proofs.Ytbagikhoinggjaa


set_option linter.unusedVariables false
set_option maxRecDepth 100000
namespace Go.Proofs.Ytbagikhoinggjaa
open Go Go.RowKit Go.Eng
theorem ty_i64 (x : AV) (h : TyV Try.prog 8 2 x) : ∃ n, x = .int .i64 n ∧ -9223372036854775808 ≤ n ∧ n ≤ 9223372036854775807 := by
  have h := h.one (by kernel_rfl) (show shOf Try.prog 8 2 = some [.int .i64] from by kernel_rfl)
  unfold Sh.Ok at h
  obtain ⟨n, rfl, hn⟩ := h
  exact ⟨n, rfl, wf64 hn⟩
end Go.Proofs.Ytbagikhoinggjaa


set_option linter.unusedVariables false
set_option linter.unusedSimpArgs false
namespace Go.Proofs.Ytbagikhoinggjaa
open Go Go.RowKit Go.Eng
set_option maxRecDepth 100000
set_option maxHeartbeats 4000000 in
theorem e_width (p0 p1 : Int) (f0 f1 f2 f3 : Bool) (a0 b0 a1 b1 a2 b2 a3 b3 v : Int) (hI : All64 a0 b0 a1 b1 a2 b2 a3 b3) : PCalls Try.prog 12 [sp2 p0 p1, sens3 f0 f1 f2 a0 b0 a1 b1 a2 b2, sens f3 a3 b3, .int .i64 v] (fun r => r = .bool true) := by
  obtain ⟨tl, th, ok, ag, lo, hi, n, cl, cf, s0, s1, hF⟩ := fuse_ex p0 p1 f0 f1 f2 f3 a0 b0 a1 b1 a2 b2 a3 b3
  have m1 := e_fuseX hF hI
  obtain ⟨u, hu⟩ : ∃ x, mayV p0 p1 = x := ⟨_, rfl⟩
  have m2 := e_may17 p0 p1 u hu
  obtain ⟨w, kw⟩ : ∃ x, decide (p0 ≤ v ∧ v ≤ p1) = x := ⟨_, rfl⟩
  obtain ⟨w0, k0⟩ : ∃ x, decide (a0 ≤ v ∧ v ≤ b0) = x := ⟨_, rfl⟩
  obtain ⟨w1, k1⟩ : ∃ x, decide (a1 ≤ v ∧ v ≤ b1) = x := ⟨_, rfl⟩
  obtain ⟨w2, k2⟩ : ∃ x, decide (a2 ≤ v ∧ v ≤ b2) = x := ⟨_, rfl⟩
  obtain ⟨g, kg⟩ : ∃ x, decide (max (max a0 a1) a2 ≤ min (min b0 b1) b2) = x := ⟨_, rfl⟩
  obtain ⟨W, kW⟩ : ∃ x, (if lo ≤ hi then hi - lo else 0) = x := ⟨_, rfl⟩
  have h0 := e_has17 p0 p1 v w kw
  have h1 := e_has17 a0 b0 v w0 k0
  have h2 := e_has17 a1 b1 v w1 k1
  have h3 := e_has17 a2 b2 v w2 k2
  have h6 := e_agree f0 f1 f2 a0 b0 a1 b1 a2 b2 g kg
  (refine PCalls.ofY Try.func12 (by kernel_rfl) (by kernel_rfl) fun w hw R hR => ?_); (obtain ⟨wbin, wcmp, wun, wconv, wnot, wbeq, wmm, wscmp, wsadd, wslen, wsat, weqs, wlen, wnlen, wofNat, wtake, wdrop, wapp, wzero, wnat⟩ := w); (have hbin : wbin = binStd := congrArg Prims.bin hw); (have hcmp : wcmp = cmpStd := congrArg Prims.cmp hw); (have hun : wun = unStd := congrArg Prims.un hw); (have hconv : wconv = fun k n => k.wrap n := congrArg Prims.conv hw); (have hnot : wnot = fun b => !b := congrArg Prims.not hw); (have hbeq : wbeq = fun a b => a == b := congrArg Prims.beq hw); (have hmm : wmm = maxI := congrArg Prims.mm hw); (have hscmp : wscmp = scmpStd := congrArg Prims.scmp hw); (have hsadd : wsadd = fun x y => x ++ y := congrArg Prims.sadd hw); (have hslen : wslen = fun s => (s.size : Int) := congrArg Prims.slen hw); (have hsat : wsat = std.sat := congrArg Prims.sat hw); (have heqs : weqs = fun a b os => (eqOffs a b os).getD false := congrArg Prims.eqs hw); (have hlen : wlen = fun es => (es.length : Int) := congrArg Prims.len hw); (have hnlen : wnlen = fun es => es.length := congrArg Prims.nlen hw); (have hofNat : wofNat = (fun n : Nat => (n : Int)) := congrArg Prims.ofNat hw); (have htake : wtake = fun es b => es.take b.toNat := congrArg Prims.take hw); (have hdrop : wdrop = fun es a => es.drop a.toNat := congrArg Prims.drop hw); (have happ : wapp = fun a b => a ++ b := congrArg Prims.app hw); (have hzero : wzero = fun n z => List.replicate n.toNat z := congrArg Prims.zero hw); (have hnat : wnat = fun n => n.toNat := congrArg Prims.nat hw); (conv => arg 2; cbv); (generalize hP : Try.prog = P); cbv
  refine Call.stepE (by rw [← hP]; exact e_anchor17) rfl ?_
  cbv
  repeat' (first
    | (refine Call.stepE (by rw [← hP]; exact m2) rfl ?_; cbv)
    | (refine Call.stepE (by rw [← hP]; exact h0) rfl ?_; cbv)
    | (refine Call.step (by rw [← hP]; exact e_given f0 f1 f2 f3 a0 b0 a1 b1 a2 b2 a3 b3) rfl ?_; rintro r (⟨x0, x1, x2, x3, x4, x5, x6, x7, y0, y1, y2, y3, rfl, ho⟩ | ⟨y0, y1, y2, y3, rfl, hy, ho⟩) <;> cbv)
    | (refine InN.mk (by decide) (by decide) ?_; cbv)
    | (split <;> rename_i h <;> (try (simp only [hbin, hcmp, hun, hconv, hnot, hbeq, hmm, hscmp, hsadd, hslen, hsat, heqs, hofNat, binStd, cmpStd, unStd, scmpStd, maxI, Bool.not_eq_true', Bool.not_eq_false', decide_eq_true_eq, decide_eq_false_iff_not, Int.not_lt, Int.not_le, if_true, if_false, Bool.false_eq_true, beq_iff_eq, bne_iff_ne, ne_eq, Bool.not_eq_eq_eq_not, Bool.not_true, Bool.not_false, beq_eq_false_iff_ne, bne_eq_false_iff_eq, Int.ofNat_eq_natCast, Bool.not_not, not_true_eq_false, not_false_eq_true, reduceCtorEq] at h)) <;> (try cbv)))
  all_goals try (refine ⟨_, Vw.same rfl, hR _ rfl⟩; done)
  obtain rfl : f0 = true := by assumption
  obtain rfl : f1 = true := by assumption
  obtain rfl : f2 = true := by assumption
  have eu : u = true := by assumption
  have ew : w = true := by assumption
  have kw := has_of kw ew
  have G : g = false → ¬ max (max a0 a1) a2 ≤ min (min b0 b1) b2 := fun h => by rw [h] at kg; simpa using kg
  obtain ⟨o0, o1, o2, _⟩ := ho
  have y0 := may_spec (show mayV a0 b0 = true from o0)
  have y1 := may_spec (show mayV a1 b1 = true from o1)
  have y2 := may_spec (show mayV a2 b2 = true from o2)
  have yp := may_spec (hu.trans eu)
  have hin := fuse_inside hF yp.1
  have m7 := e_width17 lo hi W kW (by omega)
  obtain ⟨d0, ed0⟩ : ∃ x, b0 - a0 = x := ⟨_, rfl⟩
  have D0 : wbin .sub .u64 (wconv .u64 b0) (wconv .u64 a0) = d0 := by rw [hbin, hconv, ← ed0]; exact u_sub (by omega) (by omega)
  have A0 : wbin .add .u64 0 d0 = d0 := by rw [hbin, u_add (by omega) (by omega), Int.zero_add]
  have M0 : wmm true 0 d0 = d0 := by rw [hmm]; simp only [maxI, if_true]; split <;> omega
  obtain ⟨d1, ed1⟩ : ∃ x, b1 - a1 = x := ⟨_, rfl⟩
  have D1 : wbin .sub .u64 (wconv .u64 b1) (wconv .u64 a1) = d1 := by rw [hbin, hconv, ← ed1]; exact u_sub (by omega) (by omega)
  have A1 : wbin .add .u64 0 d1 = d1 := by rw [hbin, u_add (by omega) (by omega), Int.zero_add]
  have M1 : wmm true 0 d1 = d1 := by rw [hmm]; simp only [maxI, if_true]; split <;> omega
  obtain ⟨d2, ed2⟩ : ∃ x, b2 - a2 = x := ⟨_, rfl⟩
  have D2 : wbin .sub .u64 (wconv .u64 b2) (wconv .u64 a2) = d2 := by rw [hbin, hconv, ← ed2]; exact u_sub (by omega) (by omega)
  have A2 : wbin .add .u64 0 d2 = d2 := by rw [hbin, u_add (by omega) (by omega), Int.zero_add]
  have M2 : wmm true 0 d2 = d2 := by rw [hmm]; simp only [maxI, if_true]; split <;> omega
  obtain ⟨q01, eq01⟩ : ∃ x, d0 + d1 = x := ⟨_, rfl⟩
  have A01 : wbin .add .u64 d0 d1 = q01 := by rw [hbin, u_add (by omega) (by omega)]; exact eq01
  obtain ⟨q02, eq02⟩ : ∃ x, d0 + d2 = x := ⟨_, rfl⟩
  have A02 : wbin .add .u64 d0 d2 = q02 := by rw [hbin, u_add (by omega) (by omega)]; exact eq02
  obtain ⟨q12, eq12⟩ : ∃ x, d1 + d2 = x := ⟨_, rfl⟩
  have A12 : wbin .add .u64 d1 d2 = q12 := by rw [hbin, u_add (by omega) (by omega)]; exact eq12
  obtain ⟨q012, eq012⟩ : ∃ x, q01 + d2 = x := ⟨_, rfl⟩
  have A012 : wbin .add .u64 q01 d2 = q012 := by rw [hbin, u_add (by omega) (by omega)]; exact eq012
  obtain ⟨x01, ex01⟩ : ∃ x, max d0 d1 = x := ⟨_, rfl⟩
  have M01 : wmm true d0 d1 = x01 := by rw [hmm, ← ex01]; simp only [maxI, if_true]; split <;> omega
  obtain ⟨x02, ex02⟩ : ∃ x, max d0 d2 = x := ⟨_, rfl⟩
  have M02 : wmm true d0 d2 = x02 := by rw [hmm, ← ex02]; simp only [maxI, if_true]; split <;> omega
  obtain ⟨x12, ex12⟩ : ∃ x, max d1 d2 = x := ⟨_, rfl⟩
  have M12 : wmm true d1 d2 = x12 := by rw [hmm, ← ex12]; simp only [maxI, if_true]; split <;> omega
  obtain ⟨x012, ex012⟩ : ∃ x, max x01 d2 = x := ⟨_, rfl⟩
  have M012 : wmm true x01 d2 = x012 := by rw [hmm, ← ex012]; simp only [maxI, if_true]; split <;> omega
  have clss03 : wcmp .lss 0 3 = true := by rw [hcmp]; rfl
  have clss02 : wcmp .lss 0 2 = true := by rw [hcmp]; rfl
  have ceql02 : wcmp .eql 0 2 = false := by rw [hcmp]; rfl
  have ceql03 : wcmp .eql 0 3 = false := by rw [hcmp]; rfl
  have clss13 : wcmp .lss 1 3 = true := by rw [hcmp]; rfl
  have clss12 : wcmp .lss 1 2 = true := by rw [hcmp]; rfl
  have ceql12 : wcmp .eql 1 2 = false := by rw [hcmp]; rfl
  have ceql13 : wcmp .eql 1 3 = false := by rw [hcmp]; rfl
  have clss23 : wcmp .lss 2 3 = true := by rw [hcmp]; rfl
  have clss22 : wcmp .lss 2 2 = false := by rw [hcmp]; rfl
  have ceql22 : wcmp .eql 2 2 = true := by rw [hcmp]; rfl
  have ceql23 : wcmp .eql 2 3 = false := by rw [hcmp]; rfl
  have clss33 : wcmp .lss 3 3 = false := by rw [hcmp]; rfl
  have clss32 : wcmp .lss 3 2 = false := by rw [hcmp]; rfl
  have ceql32 : wcmp .eql 3 2 = false := by rw [hcmp]; rfl
  have ceql33 : wcmp .eql 3 3 = true := by rw [hcmp]; rfl
  have e0 : wbin .add .i64 0 1 = 1 := by rw [hbin]; rfl
  have e1 : wbin .add .i64 1 1 = 2 := by rw [hbin]; rfl
  have e2 : wbin .add .i64 2 1 = 3 := by rw [hbin]; rfl
  have n1 : wnot true = false := by rw [hnot]; rfl
  have n2 : wnot false = true := by rw [hnot]; rfl
  (refine Loop.rounds hw 4 ?_; cbv)
  repeat' (first
    | (refine Call.stepE (by rw [← hP]; exact m1) rfl ?_; cbv)
    | (refine Call.stepE (by rw [← hP]; exact m7) rfl ?_; cbv)
    | (refine Call.stepE (by rw [← hP]; exact h1) rfl ?_; cbv)
    | (refine Call.stepE (by rw [← hP]; exact h2) rfl ?_; cbv)
    | (refine Call.stepE (by rw [← hP]; exact h3) rfl ?_; cbv)
    | (refine Call.stepE (by rw [← hP]; exact h6) rfl ?_; cbv)
    | (simp only [clss03, clss02, ceql02, ceql03, clss13, clss12, ceql12, ceql13, clss23, clss22, ceql22, ceql23, clss33, clss32, ceql32, ceql33, e0, e1, e2, n1, n2, D0, A0, M0, D1, A1, M1, D2, A2, M2, A01, A02, A12, A012, M01, M02, M12, M012]; cbv)
    | (simp only [clss03, clss02, ceql02, ceql03, clss13, clss12, ceql12, ceql13, clss23, clss22, ceql22, ceql23, clss33, clss32, ceql32, ceql33, e0, e1, e2, n1, n2, D0, A0, M0, D1, A1, M1, D2, A2, M2, A01, A02, A12, A012, M01, M02, M12, M012])
    | (refine InN.mk (by decide) (by decide) ?_; cbv)
    | (split <;> rename_i h <;> (try (simp only [clss03, clss02, ceql02, ceql03, clss13, clss12, ceql12, ceql13, clss23, clss22, ceql22, ceql23, clss33, clss32, ceql32, ceql33, e0, e1, e2, n1, n2, D0, A0, M0, D1, A1, M1, D2, A2, M2, A01, A02, A12, A012, M01, M02, M12, M012] at h)) <;> (try (simp only [hbin, hcmp, hun, hconv, hnot, hbeq, hmm, hscmp, hsadd, hslen, hsat, heqs, hofNat, binStd, cmpStd, unStd, scmpStd, maxI, Bool.not_eq_true', Bool.not_eq_false', decide_eq_true_eq, decide_eq_false_iff_not, Int.not_lt, Int.not_le, if_true, if_false, Bool.false_eq_true, beq_iff_eq, bne_iff_ne, ne_eq, Bool.not_eq_eq_eq_not, Bool.not_true, Bool.not_false, beq_eq_false_iff_ne, bne_eq_false_iff_eq, Int.ofNat_eq_natCast, Bool.not_not, not_true_eq_false, not_false_eq_true, reduceCtorEq] at h)) <;> (try cbv)))
  all_goals try (refine ⟨_, Vw.same rfl, hR _ rfl⟩; done)
  all_goals first
    | (have t := width_all hF v kw (has_of k0 (by first | rfl | assumption)) (has_of k1 (by first | rfl | assumption)) (has_of k2 (by first | rfl | assumption))
       refine ⟨_, Vw.same rfl, hR _ (congrArg AV.bool ?_)⟩
       first
         | exact absurd t.1 (by decide)
         | (rw [hcmp]; simp only [cmpStd, decide_eq_true_eq]; split at kW <;> omega))
    | (refine ⟨_, Vw.same rfl, hR _ (congrArg AV.bool ?_)⟩
       obtain ⟨t1, t2, t3⟩ := width_but hF v kw (G (by first | rfl | assumption))
       rw [hcmp]; simp only [cmpStd, decide_eq_true_eq]
       first
         | (have t := t1 ⟨has_of k0 (by assumption), has_of k1 (by assumption)⟩; split at kW <;> omega)
         | (have t := t2 ⟨has_of k0 (by assumption), has_of k2 (by assumption)⟩; split at kW <;> omega)
         | (have t := t3 ⟨has_of k1 (by assumption), has_of k2 (by assumption)⟩; split at kW <;> omega))
end Go.Proofs.Ytbagikhoinggjaa


set_option linter.unusedVariables false
set_option maxRecDepth 100000
namespace Go.Proofs.Ytbagikhoinggjaa
open Go Go.RowKit Go.Eng
theorem walk_FuseWidth (x0 x1 x2 x3 : AV) (h0 : TyV Try.prog 8 46 x0) (h1 : TyV Try.prog 8 49 x1) (h2 : TyV Try.prog 8 48 x2) (h3 : TyV Try.prog 8 2 x3) : PCalls Try.prog 12 [x0, x1, x2, x3] (fun r => r = .bool true) := by
  obtain ⟨p0, p1, rfl, _, _⟩ := ty_span x0 h0
  obtain ⟨f0, f1, f2, a0, b0, a1, b1, a2, b2, rfl, k0, k1, k2, k3, k4, k5⟩ := ty_three x1 h1
  obtain ⟨f3, a3, b3, rfl, k6, k7⟩ := ty_sensor x2 h2
  obtain ⟨v, rfl, _, _⟩ := ty_i64 x3 h3
  exact e_width p0 p1 f0 f1 f2 f3 a0 b0 a1 b1 a2 b2 a3 b3 v ⟨k0, k1, k2, k3, k4, k5, k6, k7⟩
end Go.Proofs.Ytbagikhoinggjaa


