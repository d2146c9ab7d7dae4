/- The speed stays within the prior. -/
import Derived.Test.YtbagikhoinggjaaFuseX
import Derived.KernelRfl
set_option linter.unusedVariables false
set_option linter.unusedSimpArgs false
namespace Go.Proofs.Ytbagikhoinggjaa
open Go Go.RowKit Go.Eng
set_option maxRecDepth 100000
section
variable {p0 p1 : Int} {f0 f1 f2 f3 : Bool} {a0 b0 a1 b1 a2 b2 a3 b3 tl th lo hi n : Int} {ok ag cl cf : Bool} {s0 s1 : Int}
theorem fuse_inside (h : FuseIs p0 p1 f0 f1 f2 f3 a0 b0 a1 b1 a2 b2 a3 b3 tl th ok ag lo hi n cl cf s0 s1) (hp : p0 ≤ p1) : lo ≤ hi ∧ p0 ≤ lo ∧ hi ≤ p1 ∧ ((s0 = 0 ∧ s1 = 0) ∨ (n = 3 ∧ cl = false)) := by
  have ht := fuse_tog h
  have hl := fit_len f0 f1 f2 a0 b0 a1 b1 a2 b2
  have hN := h.nar
  have key : ∀ s : Int × Int × Bool, s.1 ≤ s.2.1 → p0 ≤ s.1 → s.2.1 ≤ p1 → ∀ a b, (narV s a b).1 ≤ (narV s a b).2.1 ∧ p0 ≤ (narV s a b).1 ∧ (narV s a b).2.1 ≤ p1 := by
    intro s h1 h2 h3 a b
    unfold narV
    split <;> simp only <;> omega
  have k1 : ∀ s, s = nar1 ok tl th n p0 p1 → s.1 ≤ s.2.1 ∧ p0 ≤ s.1 ∧ s.2.1 ≤ p1 := by
    rintro s rfl
    unfold nar1
    split
    · exact key (p0, p1, false) hp (Int.le_refl _) (Int.le_refl _) _ _
    · exact ⟨hp, Int.le_refl _, Int.le_refl _⟩
  obtain ⟨k1, k2, k3⟩ := k1 _ rfl
  have k4 : lo ≤ hi ∧ p0 ≤ lo ∧ hi ≤ p1 := by
    unfold nar2 at hN
    split at hN
    · have := key _ k1 k2 k3 a3 b3
      rw [← hN] at this
      exact this
    · rw [← hN] at k1 k2 k3
      exact ⟨k1, k2, k3⟩
  refine ⟨k4.1, k4.2.1, k4.2.2, ?_⟩
  by_cases hs : ok = true ∧ ag = false
  · refine .inr ⟨?_, by rw [h.cl, hs.2]; rfl⟩
    rw [h.len, tog_ft ht hl hs.2 hs.1]; rfl
  · refine .inl ⟨?_, ?_⟩
    · rw [h.sl0]; unfold slip1; rw [if_neg (fun hh => hs ⟨hh.1, hh.2.1⟩)]
    · rw [h.sl1]; unfold slip1; rw [if_neg (fun hh => hs ⟨hh.1, hh.2.1⟩)]
end
theorem may_spec {a b : Int} (h : mayV a b = true) : a ≤ b ∧ -1152921504606846976 ≤ a ∧ b ≤ 1152921504606846976 := by
  simpa [mayV] using h
theorem eq_pair (a b c d : Int) (u : Bool) (h : (eqOffs [.int .i64 a, .int .i64 b] [.int .i64 c, .int .i64 d] [(0, 1), (1, 1)]).getD false = u) : u = (decide (a = c) && decide (b = d)) := by
  rw [← h]
  simp only [eqOffs, eqA, List.getD_eq_getElem?_getD, List.getElem?_cons_zero, List.getElem?_cons_succ, Option.getD_some, Bool.and_true, Bool.beq_eq_decide_eq]
  rw [Bool.eq_iff_iff]
  simp
set_option maxHeartbeats 2000000 in
theorem e_inside (p0 p1 : Int) (f0 f1 f2 f3 : Bool) (a0 b0 a1 b1 a2 b2 a3 b3 : Int) (hI : All64 a0 b0 a1 b1 a2 b2 a3 b3) : PCalls Try.prog 8 [sp2 p0 p1, sens3 f0 f1 f2 a0 b0 a1 b1 a2 b2, sens f3 a3 b3] (fun r => r = .bool true) := by
  obtain ⟨tl, th, ok, ag, lo, hi, n, cl, cf, s0, s1, hF⟩ := fuse_ex p0 p1 f0 f1 f2 f3 a0 b0 a1 b1 a2 b2 a3 b3
  have m1 := e_fuseX hF hI
  obtain ⟨u, hu⟩ : ∃ x, mayV p0 p1 = x := ⟨_, rfl⟩
  have m2 := e_may17 p0 p1 u hu
  have hin := fun h : u = true => fuse_inside hF (may_spec (hu.trans h)).1
  clear hF
  (refine PCalls.ofY Try.func8 (by kernel_rfl) (by kernel_rfl) fun w hw R hR => ?_); (obtain ⟨wbin, wcmp, wun, wconv, wnot, wbeq, wmm, wscmp, wsadd, wslen, wsat, weqs, wlen, wnlen, wofNat, wtake, wdrop, wapp, wzero, wnat⟩ := w); (have hbin : wbin = binStd := congrArg Prims.bin hw); (have hcmp : wcmp = cmpStd := congrArg Prims.cmp hw); (have hun : wun = unStd := congrArg Prims.un hw); (have hconv : wconv = fun k n => k.wrap n := congrArg Prims.conv hw); (have hnot : wnot = fun b => !b := congrArg Prims.not hw); (have hbeq : wbeq = fun a b => a == b := congrArg Prims.beq hw); (have hmm : wmm = maxI := congrArg Prims.mm hw); (have hscmp : wscmp = scmpStd := congrArg Prims.scmp hw); (have hsadd : wsadd = fun x y => x ++ y := congrArg Prims.sadd hw); (have hslen : wslen = fun s => (s.size : Int) := congrArg Prims.slen hw); (have hsat : wsat = std.sat := congrArg Prims.sat hw); (have heqs : weqs = fun a b os => (eqOffs a b os).getD false := congrArg Prims.eqs hw); (have hlen : wlen = fun es => (es.length : Int) := congrArg Prims.len hw); (have hnlen : wnlen = fun es => es.length := congrArg Prims.nlen hw); (have hofNat : wofNat = (fun n : Nat => (n : Int)) := congrArg Prims.ofNat hw); (have htake : wtake = fun es b => es.take b.toNat := congrArg Prims.take hw); (have hdrop : wdrop = fun es a => es.drop a.toNat := congrArg Prims.drop hw); (have happ : wapp = fun a b => a ++ b := congrArg Prims.app hw); (have hzero : wzero = fun n z => List.replicate n.toNat z := congrArg Prims.zero hw); (have hnat : wnat = fun n => n.toNat := congrArg Prims.nat hw); (conv => arg 2; cbv); (generalize hP : Try.prog = P); cbv
  refine Call.stepE (by rw [← hP]; exact e_anchor17) rfl ?_
  cbv
  repeat' (first
    | (refine Call.stepE (by rw [← hP]; exact m1) rfl ?_; cbv)
    | (refine Call.stepE (by rw [← hP]; exact m2) rfl ?_; cbv)
    | (refine Call.step (by rw [← hP]; exact e_given f0 f1 f2 f3 a0 b0 a1 b1 a2 b2 a3 b3) rfl ?_; rintro r (⟨x0, x1, x2, x3, x4, x5, x6, x7, y0, y1, y2, y3, rfl, ho⟩ | ⟨y0, y1, y2, y3, rfl, hy, ho⟩) <;> cbv)
    | (split <;> rename_i h <;> (try (simp only [hbin, hcmp, hun, hconv, hnot, hbeq, hmm, hscmp, hsadd, hslen, hsat, heqs, hofNat, binStd, cmpStd, unStd, scmpStd, maxI, Bool.not_eq_true', Bool.not_eq_false', decide_eq_true_eq, decide_eq_false_iff_not, Int.not_lt, Int.not_le, if_true, if_false, Bool.false_eq_true, beq_iff_eq, bne_iff_ne, ne_eq, Bool.not_eq_eq_eq_not, Bool.not_true, Bool.not_false, beq_eq_false_iff_ne, bne_eq_false_iff_eq, Int.ofNat_eq_natCast, Bool.not_not, not_true_eq_false, not_false_eq_true, reduceCtorEq] at h)) <;> (try cbv)))
  all_goals first
    | (refine ⟨_, Vw.same rfl, hR _ rfl⟩)
    | (obtain ⟨j1, j2, j3, j4⟩ := hin (by assumption)
       first
         | (exfalso; omega)
         | (have e := eq_pair _ _ _ _ _ (by assumption)
            rcases j4 with ⟨k1, k2⟩ | ⟨k1, k2⟩
            · exfalso; rw [k1, k2] at e; exact absurd e (by decide)
            · first
                | (exfalso; omega)
                | (refine ⟨_, Vw.same rfl, hR _ (congrArg AV.bool ?_)⟩; rw [hnot, k2]; rfl)))
end Go.Proofs.Ytbagikhoinggjaa
