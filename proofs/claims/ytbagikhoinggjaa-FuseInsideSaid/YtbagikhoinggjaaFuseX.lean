/- What is fused, as a value; the document's examples. -/
import Derived.Test.YtbagikhoinggjaaFuse3
import Derived.Test.YtbagikhoinggjaaFuseW
import Derived.KernelRfl
set_option linter.unusedVariables false
set_option linter.unusedSimpArgs false
namespace Go.Proofs.Ytbagikhoinggjaa
open Go Go.RowKit Go.Eng
set_option maxRecDepth 100000
theorem fit_all {Q : Int → Prop} (f0 f1 f2 : Bool) {a0 b0 a1 b1 a2 b2 : Int} (h0 : Q a0) (h1 : Q b0) (h2 : Q a1) (h3 : Q b1) (h4 : Q a2) (h5 : Q b2) : ∀ i, i < (fitV f0 f1 f2 a0 b0 a1 b1 a2 b2).length → Q (aOf (fitV f0 f1 f2 a0 b0 a1 b1 a2 b2) i) ∧ Q (bOf (fitV f0 f1 f2 a0 b0 a1 b1 a2 b2) i) := by
  intro i hi
  cases f0 <;> cases f1 <;> cases f2 <;> simp only [fitV, fitRow, List.append_nil, List.nil_append, List.cons_append, List.length_cons, List.length_nil] at hi ⊢ <;>
    (rcases i with _ | _ | _ | i <;> first | (exfalso; omega) | exact ⟨by assumption, by assumption⟩)
structure All64 (a0 b0 a1 b1 a2 b2 a3 b3 : Int) : Prop where
  a0 : I64 a0
  b0 : I64 b0
  a1 : I64 a1
  b1 : I64 b1
  a2 : I64 a2
  b2 : I64 b2
  a3 : I64 a3
  b3 : I64 b3
section
variable {p0 p1 : Int} {f0 f1 f2 f3 : Bool} {a0 b0 a1 b1 a2 b2 a3 b3 tl th lo hi n : Int} {ok ag cl cf : Bool} {s0 s1 : Int}
theorem fuse_tog (h : FuseIs p0 p1 f0 f1 f2 f3 a0 b0 a1 b1 a2 b2 a3 b3 tl th ok ag lo hi n cl cf s0 s1) : TogIs (fitV f0 f1 f2 a0 b0 a1 b1 a2 b2) tl th ok ag := by
  have := tog_togV _ (fit_len f0 f1 f2 a0 b0 a1 b1 a2 b2)
  rw [h.tog] at this
  exact this
theorem e_fuseX (h : FuseIs p0 p1 f0 f1 f2 f3 a0 b0 a1 b1 a2 b2 a3 b3 tl th ok ag lo hi n cl cf s0 s1) (hI : All64 a0 b0 a1 b1 a2 b2 a3 b3) :
    PCalls Try.prog 24 [sp2 p0 p1, sens3 f0 f1 f2 a0 b0 a1 b1 a2 b2, sens f3 a3 b3] (· = .agg [.int .i64 lo, .int .i64 hi, .int .i64 n, .bool cl, .bool cf, .int .i64 s0, .int .i64 s1]) := by
  refine (e_fuse p0 p1 f0 f1 f2 f3 a0 b0 a1 b1 a2 b2 a3 b3 _ rfl (fit_all f0 f1 f2 hI.a0 hI.b0 hI.a1 hI.b1 hI.a2 hI.b2)).mono ?_
  rintro r ⟨tl', th', ok', ag', lo', hi', n', cl', cf', s0', s1', rfl, k1, k2, k3, k4, k5, k6⟩
  obtain ⟨rfl, rfl, rfl, rfl⟩ := tog_unique k1 (fuse_tog h)
  have e1 : n = n' := by rw [h.len, k2]; rfl
  subst e1
  have e2 := k4.trans h.nar.symm
  simp only [Prod.mk.injEq] at e2
  obtain ⟨rfl, rfl, rfl⟩ := e2
  rw [k3, k5, k6, h.cl, h.sl0, h.sl1]
end
theorem fuse_ex (p0 p1 : Int) (f0 f1 f2 f3 : Bool) (a0 b0 a1 b1 a2 b2 a3 b3 : Int) : ∃ tl th ok ag lo hi n cl cf s0 s1, FuseIs p0 p1 f0 f1 f2 f3 a0 b0 a1 b1 a2 b2 a3 b3 tl th ok ag lo hi n cl cf s0 s1 :=
  ⟨_, _, _, _, _, _, _, _, _, _, _, ⟨rfl, rfl, rfl, rfl, rfl, rfl⟩⟩
theorem e_anchor17 : PCalls Try.prog 21 [] (· = .bool true) := by
  have hI : ∀ x y z t : Int, I64 x → I64 y → I64 z → I64 t → All64 10 20 12 30 x y z t := fun x y z t h1 h2 h3 h4 => ⟨by unfold I64; omega, by unfold I64; omega, by unfold I64; omega, by unfold I64; omega, h1, h2, h3, h4⟩
  have m1 := e_fuseX (p0 := 0) (p1 := 100) (f0 := true) (f1 := true) (f2 := true) (f3 := false) (tl := 12) (th := 20) (ok := true) (ag := false) (lo := 12) (hi := 20) (n := 3) (cl := false) (cf := false) (s0 := 0) (s1 := 0) ⟨by decide, by decide, by decide, by decide, by decide, by decide⟩ (hI 40 50 0 0 (by unfold I64; omega) (by unfold I64; omega) (by unfold I64; omega) (by unfold I64; omega))
  have m2 := e_fuseX (p0 := 0) (p1 := 100) (f0 := true) (f1 := true) (f2 := true) (f3 := false) (tl := 15) (th := 18) (ok := true) (ag := true) (lo := 15) (hi := 18) (n := 3) (cl := true) (cf := false) (s0 := 0) (s1 := 0) ⟨by decide, by decide, by decide, by decide, by decide, by decide⟩ (hI 15 18 0 0 (by unfold I64; omega) (by unfold I64; omega) (by unfold I64; omega) (by unfold I64; omega))
  (refine PCalls.ofY Try.func21 (by kernel_rfl) (by kernel_rfl) fun w hw R hR => ?_); (obtain ⟨wbin, wcmp, wun, wconv, wnot, wbeq, wmm, wscmp, wsadd, wslen, wsat, weqs, wlen, wnlen, wofNat, wtake, wdrop, wapp, wzero, wnat⟩ := w); (have hbin : wbin = binStd := congrArg Prims.bin hw); (have hcmp : wcmp = cmpStd := congrArg Prims.cmp hw); (have hun : wun = unStd := congrArg Prims.un hw); (have hconv : wconv = fun k n => k.wrap n := congrArg Prims.conv hw); (have hnot : wnot = fun b => !b := congrArg Prims.not hw); (have hbeq : wbeq = fun a b => a == b := congrArg Prims.beq hw); (have hmm : wmm = maxI := congrArg Prims.mm hw); (have hscmp : wscmp = scmpStd := congrArg Prims.scmp hw); (have hsadd : wsadd = fun x y => x ++ y := congrArg Prims.sadd hw); (have hslen : wslen = fun s => (s.size : Int) := congrArg Prims.slen hw); (have hsat : wsat = std.sat := congrArg Prims.sat hw); (have heqs : weqs = fun a b os => (eqOffs a b os).getD false := congrArg Prims.eqs hw); (have hlen : wlen = fun es => (es.length : Int) := congrArg Prims.len hw); (have hnlen : wnlen = fun es => es.length := congrArg Prims.nlen hw); (have hofNat : wofNat = (fun n : Nat => (n : Int)) := congrArg Prims.ofNat hw); (have htake : wtake = fun es b => es.take b.toNat := congrArg Prims.take hw); (have hdrop : wdrop = fun es a => es.drop a.toNat := congrArg Prims.drop hw); (have happ : wapp = fun a b => a ++ b := congrArg Prims.app hw); (have hzero : wzero = fun n z => List.replicate n.toNat z := congrArg Prims.zero hw); (have hnat : wnat = fun n => n.toNat := congrArg Prims.nat hw); (conv => arg 2; cbv); (generalize hP : Try.prog = P); cbv
  repeat' (first
    | (refine InN.mk (by decide) (by decide) ?_; cbv)
    | (split <;> rename_i h <;> (try (simp only [hmm] at h)) <;> (try (simp only [hbin, hcmp, hun, hconv, hnot, hbeq, hmm, hscmp, hsadd, hslen, hsat, heqs, hofNat, binStd, cmpStd, unStd, scmpStd, maxI, Bool.not_eq_true', Bool.not_eq_false', decide_eq_true_eq, decide_eq_false_iff_not, Int.not_lt, Int.not_le, if_true, if_false, Bool.false_eq_true, beq_iff_eq, bne_iff_ne, ne_eq, Bool.not_eq_eq_eq_not, Bool.not_true, Bool.not_false, beq_eq_false_iff_ne, bne_eq_false_iff_eq, Int.ofNat_eq_natCast, Bool.not_not, not_true_eq_false, not_false_eq_true, reduceCtorEq] at h)) <;> (try cbv))
    | (refine Call.stepE (by rw [← hP]; exact m1) rfl ?_; cbv)
    | (refine Call.stepE (by rw [← hP]; exact m2) rfl ?_; cbv))
  all_goals first
    | (refine ⟨_, Vw.same rfl, hR _ rfl⟩)
    | (refine absurd h ?_; decide)
end Go.Proofs.Ytbagikhoinggjaa
