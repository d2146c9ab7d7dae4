/- Texts of the proof of WordParses, joined by wip/tools/pack.py. -/
import Derived.Test.YtdjafcjpnjdphaaDoorWordParsesP1
import Derived.KernelRfl
import Derived.MakeChecks
import Derived.Test.YtdjafcjpnjdphaaDoorRows
/- Texts that are parsed: the document's way, by the engine. -/
set_option linter.unusedVariables false
set_option linter.unusedSimpArgs false
namespace Go.Proofs.YtdjafcjpnjdphaaDoor
open Go Go.RowKit Go.Eng Go.Shelf
set_option maxRecDepth 100000
def RefPost (s : ByteArray) (r : AV) : Prop := (∃ e l n0 n1 n2 n3 n4 n5 n6 n7 n8 n9 n10 n11 n12 n13, Says nmsB 1 s [] (.bad e l) ∧ e ≠ 0 ∧ r = .tuple [cfA n0 n1 n2 n3 n4 n5 n6 n7 n8 n9 n10 n11 n12 n13, .int .i64 e, .int .i64 l]) ∨ (∃ c0 c1 c2 c3 c4 c5 c6 c7 c8 c9 c10 c11 c12 c13, Says nmsB 1 s [] (.good [c0, c1, c2, c3, c4, c5, c6, c7, c8, c9, c10, c11, c12, c13]) ∧ r = .tuple [cfA c0 c1 c2 c3 c4 c5 c6 c7 c8 c9 c10 c11 c12 c13, .int .i64 0, .int .i64 0])
theorem size_pos {s : ByteArray} (h : ((0 : Nat) : Int) < (s.size : Int)) : s ≠ ⟨#[]⟩ := fun e => by
  subst e
  exact absurd h (by decide)
theorem size_zero {s : ByteArray} (h : (s.size : Int) ≤ 0) : s = ⟨#[]⟩ := by
  have h0 : s.size = 0 := by omega
  obtain ⟨⟨l⟩⟩ := s
  have : l.length = 0 := h0
  obtain rfl := List.length_eq_zero_iff.1 this
  rfl
set_option maxHeartbeats 4000000 in
theorem e_rparse (s0 : ByteArray) (hs : Sz5 s0) : PCalls Tryd.prog 12 [.str s0] (RefPost s0) := by
  have hk0 : Goes nmsB 1 s0 [] s0 := ⟨fun X h => h⟩
  have HS0 := Lib.hid hs
  have HK0 := Lib.hid hk0
  clear hs hk0
  (refine PCalls.ofY Tryd.func12 (by kernel_rfl) (by kernel_rfl) fun w hw R hR => ?_); (obtain ⟨wbin, wcmp, wun, wconv, wnot, wbeq, wmm, wscmp, wsadd, wslen, wsat, weqs, wlen, wnlen, wofNat, wtake, wdrop, wapp, wzero, wnat⟩ := w); (have hbin : wbin = binStd := congrArg Prims.bin hw); (have hcmp : wcmp = cmpStd := congrArg Prims.cmp hw); (have hun : wun = unStd := congrArg Prims.un hw); (have hconv : wconv = fun k n => k.wrap n := congrArg Prims.conv hw); (have hnot : wnot = fun b => !b := congrArg Prims.not hw); (have hbeq : wbeq = fun a b => a == b := congrArg Prims.beq hw); (have hmm : wmm = maxI := congrArg Prims.mm hw); (have hscmp : wscmp = scmpStd := congrArg Prims.scmp hw); (have hsadd : wsadd = fun x y => x ++ y := congrArg Prims.sadd hw); (have hslen : wslen = fun s => (s.size : Int) := congrArg Prims.slen hw); (have hsat : wsat = std.sat := congrArg Prims.sat hw); (have heqs : weqs = fun a b os => (eqOffs a b os).getD false := congrArg Prims.eqs hw); (have hlen : wlen = fun es => (es.length : Int) := congrArg Prims.len hw); (have hnlen : wnlen = fun es => es.length := congrArg Prims.nlen hw); (have hofNat : wofNat = (fun n : Nat => (n : Int)) := congrArg Prims.ofNat hw); (have htake : wtake = fun es b => es.take b.toNat := congrArg Prims.take hw); (have hdrop : wdrop = fun es a => es.drop a.toNat := congrArg Prims.drop hw); (have happ : wapp = fun a b => a ++ b := congrArg Prims.app hw); (have hzero : wzero = fun n z => List.replicate n.toNat z := congrArg Prims.zero hw); (have hnat : wnat = fun n => n.toNat := congrArg Prims.nat hw); (conv => arg 2; cbv); (generalize hP : Tryd.prog = P); cbv
  have n0 : wnot false = true := by rw [hnot]; rfl
  have n1 : wnot true = false := by rw [hnot]; rfl
  refine Call.stepE (by rw [← hP]; exact e_rnames) rfl ?_
  cbv
  (refine Loop.rounds hw 17 ?_; cbv)
  have l0 : wcmp .lss 0 15 = true := by rw [hcmp]; rfl
  have m0 : wcmp .lss 0 14 = true := by rw [hcmp]; rfl
  have p0 : wcmp .eql 0 14 = false := by rw [hcmp]; rfl
  have a0 : wbin .add .i64 0 1 = 1 := by rw [hbin]; rfl
  simp only [l0]; cbv
  obtain ⟨ln0, s1, ok0, cu0⟩ := cutOf 10 s0
  have q0 := e_rcut s0 10 ln0 s1 ok0 cu0 HS0.out.h 10 rfl
  have HC0 := Lib.hid cu0
  have HL0 := Lib.hid (sz5 cu0 HS0.out).1
  have HS1 := Lib.hid (sz5 cu0 HS0.out).2
  clear cu0
  refine Call.stepE (by rw [← hP]; exact q0) rfl ?_
  clear q0
  cbv
  cases ok0
  · simp only [n0]; cbv
    simp only [a0]
    exact ⟨_, Vw.same rfl, hR _ (.inl ⟨14, 1, _, _, _, _, _, _, _, _, _, _, _, _, _, _, HK0.out.h _ (.short HC0.out), by decide, rfl⟩)⟩
  simp only [n1]; cbv
  obtain ⟨w0, x0, tw0, cv0⟩ := cutOf 32 ln0
  have q0 := e_rcut ln0 32 w0 x0 tw0 cv0 HL0.out.h 32 rfl
  have HD0 := Lib.hid cv0
  have HX0 := Lib.hid (sz5 cv0 HL0.out).2
  clear cv0
  refine Call.stepE (by rw [← hP]; exact q0) rfl ?_
  clear q0
  cbv
  try (refine InN.mk (by decide) (by decide) ?_; cbv)
  split
  · rename_i b he
    rw [hscmp] at he
    have HN := Lib.hid (sne_t he)
    clear he
    cbv
    simp only [a0]
    exact ⟨_, Vw.same rfl, hR _ (.inl ⟨30, 1, _, _, _, _, _, _, _, _, _, _, _, _, _, _, HK0.out.h _ (.kind HC0.out HD0.out (.inl HN.out)), by decide, rfl⟩)⟩
  rename_i b he
  rw [hscmp] at he
  obtain rfl := sne_f he
  clear he
  cbv
  cases tw0
  · repeat' (first
      | (simp only [m0]; cbv)
      | (simp only [p0]; cbv)
      | (simp only [n0]; cbv)
      | (simp only [n1]; cbv)
      | (simp only [a0])
      | fail)
    exact ⟨_, Vw.same rfl, hR _ (.inl ⟨30, 1, _, _, _, _, _, _, _, _, _, _, _, _, _, _, HK0.out.h _ (.kind HC0.out HD0.out (.inr (by decide))), by decide, rfl⟩)⟩
  repeat' (first
    | (simp only [m0]; cbv)
    | (simp only [p0]; cbv)
    | (simp only [n0]; cbv)
    | (simp only [n1]; cbv)
    | fail)
  refine Call.step (by rw [← hP]; exact e_rnumber x0 HX0.out.h) rfl ?_
  rintro r ⟨v0, ok0, rfl, hn0⟩
  have HV0 := Lib.hid hn0
  clear hn0
  cbv
  cases ok0
  · simp only [n0]; cbv
    simp only [a0]
    exact ⟨_, Vw.same rfl, hR _ (.inl ⟨11, 1, _, _, _, _, _, _, _, _, _, _, _, _, _, _, HK0.out.h _ (.form HC0.out HD0.out HV0.out), by decide, rfl⟩)⟩
  simp only [n1]; cbv
  repeat' (first
    | (simp only [m0]; cbv)
    | (refine InN.mk (by decide) (by decide) ?_; cbv)
    | (simp only [a0]; cbv)
    | fail)
  have hk1 : Goes (nmsB.drop 1) 2 s1 [v0] s0 := ⟨fun X h => HK0.out.h X (.num HC0.out HD0.out HV0.out h)⟩
  have HK1 := Lib.hid hk1
  clear hk1 HK0 HC0 HD0 HX0 HL0 HS0
  have l1 : wcmp .lss 1 15 = true := by rw [hcmp]; rfl
  have m1 : wcmp .lss 1 14 = true := by rw [hcmp]; rfl
  have p1 : wcmp .eql 1 14 = false := by rw [hcmp]; rfl
  have a1 : wbin .add .i64 1 1 = 2 := by rw [hbin]; rfl
  simp only [l1]; cbv
  obtain ⟨ln1, s2, ok1, cu1⟩ := cutOf 10 s1
  have q1 := e_rcut s1 10 ln1 s2 ok1 cu1 HS1.out.h 10 rfl
  have HC1 := Lib.hid cu1
  have HL1 := Lib.hid (sz5 cu1 HS1.out).1
  have HS2 := Lib.hid (sz5 cu1 HS1.out).2
  clear cu1
  refine Call.stepE (by rw [← hP]; exact q1) rfl ?_
  clear q1
  cbv
  cases ok1
  · simp only [n0]; cbv
    simp only [a1]
    exact ⟨_, Vw.same rfl, hR _ (.inl ⟨14, 2, _, _, _, _, _, _, _, _, _, _, _, _, _, _, HK1.out.h _ (.short HC1.out), by decide, rfl⟩)⟩
  simp only [n1]; cbv
  obtain ⟨w1, x1, tw1, cv1⟩ := cutOf 32 ln1
  have q1 := e_rcut ln1 32 w1 x1 tw1 cv1 HL1.out.h 32 rfl
  have HD1 := Lib.hid cv1
  have HX1 := Lib.hid (sz5 cv1 HL1.out).2
  clear cv1
  refine Call.stepE (by rw [← hP]; exact q1) rfl ?_
  clear q1
  cbv
  try (refine InN.mk (by decide) (by decide) ?_; cbv)
  split
  · rename_i b he
    rw [hscmp] at he
    have HN := Lib.hid (sne_t he)
    clear he
    cbv
    simp only [a1]
    exact ⟨_, Vw.same rfl, hR _ (.inl ⟨30, 2, _, _, _, _, _, _, _, _, _, _, _, _, _, _, HK1.out.h _ (.kind HC1.out HD1.out (.inl HN.out)), by decide, rfl⟩)⟩
  rename_i b he
  rw [hscmp] at he
  obtain rfl := sne_f he
  clear he
  cbv
  cases tw1
  · repeat' (first
      | (simp only [m1]; cbv)
      | (simp only [p1]; cbv)
      | (simp only [n0]; cbv)
      | (simp only [n1]; cbv)
      | (simp only [a1])
      | fail)
    exact ⟨_, Vw.same rfl, hR _ (.inl ⟨30, 2, _, _, _, _, _, _, _, _, _, _, _, _, _, _, HK1.out.h _ (.kind HC1.out HD1.out (.inr (by decide))), by decide, rfl⟩)⟩
  repeat' (first
    | (simp only [m1]; cbv)
    | (simp only [p1]; cbv)
    | (simp only [n0]; cbv)
    | (simp only [n1]; cbv)
    | fail)
  refine Call.step (by rw [← hP]; exact e_rnumber x1 HX1.out.h) rfl ?_
  rintro r ⟨v1, ok1, rfl, hn1⟩
  have HV1 := Lib.hid hn1
  clear hn1
  cbv
  cases ok1
  · simp only [n0]; cbv
    simp only [a1]
    exact ⟨_, Vw.same rfl, hR _ (.inl ⟨11, 2, _, _, _, _, _, _, _, _, _, _, _, _, _, _, HK1.out.h _ (.form HC1.out HD1.out HV1.out), by decide, rfl⟩)⟩
  simp only [n1]; cbv
  repeat' (first
    | (simp only [m1]; cbv)
    | (refine InN.mk (by decide) (by decide) ?_; cbv)
    | (simp only [a1]; cbv)
    | fail)
  have hk2 : Goes (nmsB.drop 2) 3 s2 [v0, v1] s0 := ⟨fun X h => HK1.out.h X (.num HC1.out HD1.out HV1.out h)⟩
  have HK2 := Lib.hid hk2
  clear hk2 HK1 HC1 HD1 HX1 HL1 HS1
  have l2 : wcmp .lss 2 15 = true := by rw [hcmp]; rfl
  have m2 : wcmp .lss 2 14 = true := by rw [hcmp]; rfl
  have p2 : wcmp .eql 2 14 = false := by rw [hcmp]; rfl
  have a2 : wbin .add .i64 2 1 = 3 := by rw [hbin]; rfl
  simp only [l2]; cbv
  obtain ⟨ln2, s3, ok2, cu2⟩ := cutOf 10 s2
  have q2 := e_rcut s2 10 ln2 s3 ok2 cu2 HS2.out.h 10 rfl
  have HC2 := Lib.hid cu2
  have HL2 := Lib.hid (sz5 cu2 HS2.out).1
  have HS3 := Lib.hid (sz5 cu2 HS2.out).2
  clear cu2
  refine Call.stepE (by rw [← hP]; exact q2) rfl ?_
  clear q2
  cbv
  cases ok2
  · simp only [n0]; cbv
    simp only [a2]
    exact ⟨_, Vw.same rfl, hR _ (.inl ⟨14, 3, _, _, _, _, _, _, _, _, _, _, _, _, _, _, HK2.out.h _ (.short HC2.out), by decide, rfl⟩)⟩
  simp only [n1]; cbv
  obtain ⟨w2, x2, tw2, cv2⟩ := cutOf 32 ln2
  have q2 := e_rcut ln2 32 w2 x2 tw2 cv2 HL2.out.h 32 rfl
  have HD2 := Lib.hid cv2
  have HX2 := Lib.hid (sz5 cv2 HL2.out).2
  clear cv2
  refine Call.stepE (by rw [← hP]; exact q2) rfl ?_
  clear q2
  cbv
  try (refine InN.mk (by decide) (by decide) ?_; cbv)
  split
  · rename_i b he
    rw [hscmp] at he
    have HN := Lib.hid (sne_t he)
    clear he
    cbv
    simp only [a2]
    exact ⟨_, Vw.same rfl, hR _ (.inl ⟨30, 3, _, _, _, _, _, _, _, _, _, _, _, _, _, _, HK2.out.h _ (.kind HC2.out HD2.out (.inl HN.out)), by decide, rfl⟩)⟩
  rename_i b he
  rw [hscmp] at he
  obtain rfl := sne_f he
  clear he
  cbv
  cases tw2
  · repeat' (first
      | (simp only [m2]; cbv)
      | (simp only [p2]; cbv)
      | (simp only [n0]; cbv)
      | (simp only [n1]; cbv)
      | (simp only [a2])
      | fail)
    exact ⟨_, Vw.same rfl, hR _ (.inl ⟨30, 3, _, _, _, _, _, _, _, _, _, _, _, _, _, _, HK2.out.h _ (.kind HC2.out HD2.out (.inr (by decide))), by decide, rfl⟩)⟩
  repeat' (first
    | (simp only [m2]; cbv)
    | (simp only [p2]; cbv)
    | (simp only [n0]; cbv)
    | (simp only [n1]; cbv)
    | fail)
  refine Call.step (by rw [← hP]; exact e_rnumber x2 HX2.out.h) rfl ?_
  rintro r ⟨v2, ok2, rfl, hn2⟩
  have HV2 := Lib.hid hn2
  clear hn2
  cbv
  cases ok2
  · simp only [n0]; cbv
    simp only [a2]
    exact ⟨_, Vw.same rfl, hR _ (.inl ⟨11, 3, _, _, _, _, _, _, _, _, _, _, _, _, _, _, HK2.out.h _ (.form HC2.out HD2.out HV2.out), by decide, rfl⟩)⟩
  simp only [n1]; cbv
  repeat' (first
    | (simp only [m2]; cbv)
    | (refine InN.mk (by decide) (by decide) ?_; cbv)
    | (simp only [a2]; cbv)
    | fail)
  have hk3 : Goes (nmsB.drop 3) 4 s3 [v0, v1, v2] s0 := ⟨fun X h => HK2.out.h X (.num HC2.out HD2.out HV2.out h)⟩
  have HK3 := Lib.hid hk3
  clear hk3 HK2 HC2 HD2 HX2 HL2 HS2
  have l3 : wcmp .lss 3 15 = true := by rw [hcmp]; rfl
  have m3 : wcmp .lss 3 14 = true := by rw [hcmp]; rfl
  have p3 : wcmp .eql 3 14 = false := by rw [hcmp]; rfl
  have a3 : wbin .add .i64 3 1 = 4 := by rw [hbin]; rfl
  simp only [l3]; cbv
  obtain ⟨ln3, s4, ok3, cu3⟩ := cutOf 10 s3
  have q3 := e_rcut s3 10 ln3 s4 ok3 cu3 HS3.out.h 10 rfl
  have HC3 := Lib.hid cu3
  have HL3 := Lib.hid (sz5 cu3 HS3.out).1
  have HS4 := Lib.hid (sz5 cu3 HS3.out).2
  clear cu3
  refine Call.stepE (by rw [← hP]; exact q3) rfl ?_
  clear q3
  cbv
  cases ok3
  · simp only [n0]; cbv
    simp only [a3]
    exact ⟨_, Vw.same rfl, hR _ (.inl ⟨14, 4, _, _, _, _, _, _, _, _, _, _, _, _, _, _, HK3.out.h _ (.short HC3.out), by decide, rfl⟩)⟩
  simp only [n1]; cbv
  obtain ⟨w3, x3, tw3, cv3⟩ := cutOf 32 ln3
  have q3 := e_rcut ln3 32 w3 x3 tw3 cv3 HL3.out.h 32 rfl
  have HD3 := Lib.hid cv3
  have HX3 := Lib.hid (sz5 cv3 HL3.out).2
  clear cv3
  refine Call.stepE (by rw [← hP]; exact q3) rfl ?_
  clear q3
  cbv
  try (refine InN.mk (by decide) (by decide) ?_; cbv)
  split
  · rename_i b he
    rw [hscmp] at he
    have HN := Lib.hid (sne_t he)
    clear he
    cbv
    simp only [a3]
    exact ⟨_, Vw.same rfl, hR _ (.inl ⟨30, 4, _, _, _, _, _, _, _, _, _, _, _, _, _, _, HK3.out.h _ (.kind HC3.out HD3.out (.inl HN.out)), by decide, rfl⟩)⟩
  rename_i b he
  rw [hscmp] at he
  obtain rfl := sne_f he
  clear he
  cbv
  cases tw3
  · repeat' (first
      | (simp only [m3]; cbv)
      | (simp only [p3]; cbv)
      | (simp only [n0]; cbv)
      | (simp only [n1]; cbv)
      | (simp only [a3])
      | fail)
    exact ⟨_, Vw.same rfl, hR _ (.inl ⟨30, 4, _, _, _, _, _, _, _, _, _, _, _, _, _, _, HK3.out.h _ (.kind HC3.out HD3.out (.inr (by decide))), by decide, rfl⟩)⟩
  repeat' (first
    | (simp only [m3]; cbv)
    | (simp only [p3]; cbv)
    | (simp only [n0]; cbv)
    | (simp only [n1]; cbv)
    | fail)
  refine Call.step (by rw [← hP]; exact e_rnumber x3 HX3.out.h) rfl ?_
  rintro r ⟨v3, ok3, rfl, hn3⟩
  have HV3 := Lib.hid hn3
  clear hn3
  cbv
  cases ok3
  · simp only [n0]; cbv
    simp only [a3]
    exact ⟨_, Vw.same rfl, hR _ (.inl ⟨11, 4, _, _, _, _, _, _, _, _, _, _, _, _, _, _, HK3.out.h _ (.form HC3.out HD3.out HV3.out), by decide, rfl⟩)⟩
  simp only [n1]; cbv
  repeat' (first
    | (simp only [m3]; cbv)
    | (refine InN.mk (by decide) (by decide) ?_; cbv)
    | (simp only [a3]; cbv)
    | fail)
  have hk4 : Goes (nmsB.drop 4) 5 s4 [v0, v1, v2, v3] s0 := ⟨fun X h => HK3.out.h X (.num HC3.out HD3.out HV3.out h)⟩
  have HK4 := Lib.hid hk4
  clear hk4 HK3 HC3 HD3 HX3 HL3 HS3
  have l4 : wcmp .lss 4 15 = true := by rw [hcmp]; rfl
  have m4 : wcmp .lss 4 14 = true := by rw [hcmp]; rfl
  have p4 : wcmp .eql 4 14 = false := by rw [hcmp]; rfl
  have a4 : wbin .add .i64 4 1 = 5 := by rw [hbin]; rfl
  simp only [l4]; cbv
  obtain ⟨ln4, s5, ok4, cu4⟩ := cutOf 10 s4
  have q4 := e_rcut s4 10 ln4 s5 ok4 cu4 HS4.out.h 10 rfl
  have HC4 := Lib.hid cu4
  have HL4 := Lib.hid (sz5 cu4 HS4.out).1
  have HS5 := Lib.hid (sz5 cu4 HS4.out).2
  clear cu4
  refine Call.stepE (by rw [← hP]; exact q4) rfl ?_
  clear q4
  cbv
  cases ok4
  · simp only [n0]; cbv
    simp only [a4]
    exact ⟨_, Vw.same rfl, hR _ (.inl ⟨14, 5, _, _, _, _, _, _, _, _, _, _, _, _, _, _, HK4.out.h _ (.short HC4.out), by decide, rfl⟩)⟩
  simp only [n1]; cbv
  obtain ⟨w4, x4, tw4, cv4⟩ := cutOf 32 ln4
  have q4 := e_rcut ln4 32 w4 x4 tw4 cv4 HL4.out.h 32 rfl
  have HD4 := Lib.hid cv4
  have HX4 := Lib.hid (sz5 cv4 HL4.out).2
  clear cv4
  refine Call.stepE (by rw [← hP]; exact q4) rfl ?_
  clear q4
  cbv
  try (refine InN.mk (by decide) (by decide) ?_; cbv)
  split
  · rename_i b he
    rw [hscmp] at he
    have HN := Lib.hid (sne_t he)
    clear he
    cbv
    simp only [a4]
    exact ⟨_, Vw.same rfl, hR _ (.inl ⟨30, 5, _, _, _, _, _, _, _, _, _, _, _, _, _, _, HK4.out.h _ (.kind HC4.out HD4.out (.inl HN.out)), by decide, rfl⟩)⟩
  rename_i b he
  rw [hscmp] at he
  obtain rfl := sne_f he
  clear he
  cbv
  cases tw4
  · repeat' (first
      | (simp only [m4]; cbv)
      | (simp only [p4]; cbv)
      | (simp only [n0]; cbv)
      | (simp only [n1]; cbv)
      | (simp only [a4])
      | fail)
    exact ⟨_, Vw.same rfl, hR _ (.inl ⟨30, 5, _, _, _, _, _, _, _, _, _, _, _, _, _, _, HK4.out.h _ (.kind HC4.out HD4.out (.inr (by decide))), by decide, rfl⟩)⟩
  repeat' (first
    | (simp only [m4]; cbv)
    | (simp only [p4]; cbv)
    | (simp only [n0]; cbv)
    | (simp only [n1]; cbv)
    | fail)
  refine Call.step (by rw [← hP]; exact e_rnumber x4 HX4.out.h) rfl ?_
  rintro r ⟨v4, ok4, rfl, hn4⟩
  have HV4 := Lib.hid hn4
  clear hn4
  cbv
  cases ok4
  · simp only [n0]; cbv
    simp only [a4]
    exact ⟨_, Vw.same rfl, hR _ (.inl ⟨11, 5, _, _, _, _, _, _, _, _, _, _, _, _, _, _, HK4.out.h _ (.form HC4.out HD4.out HV4.out), by decide, rfl⟩)⟩
  simp only [n1]; cbv
  repeat' (first
    | (simp only [m4]; cbv)
    | (refine InN.mk (by decide) (by decide) ?_; cbv)
    | (simp only [a4]; cbv)
    | fail)
  have hk5 : Goes (nmsB.drop 5) 6 s5 [v0, v1, v2, v3, v4] s0 := ⟨fun X h => HK4.out.h X (.num HC4.out HD4.out HV4.out h)⟩
  have HK5 := Lib.hid hk5
  clear hk5 HK4 HC4 HD4 HX4 HL4 HS4
  have l5 : wcmp .lss 5 15 = true := by rw [hcmp]; rfl
  have m5 : wcmp .lss 5 14 = true := by rw [hcmp]; rfl
  have p5 : wcmp .eql 5 14 = false := by rw [hcmp]; rfl
  have a5 : wbin .add .i64 5 1 = 6 := by rw [hbin]; rfl
  simp only [l5]; cbv
  obtain ⟨ln5, s6, ok5, cu5⟩ := cutOf 10 s5
  have q5 := e_rcut s5 10 ln5 s6 ok5 cu5 HS5.out.h 10 rfl
  have HC5 := Lib.hid cu5
  have HL5 := Lib.hid (sz5 cu5 HS5.out).1
  have HS6 := Lib.hid (sz5 cu5 HS5.out).2
  clear cu5
  refine Call.stepE (by rw [← hP]; exact q5) rfl ?_
  clear q5
  cbv
  cases ok5
  · simp only [n0]; cbv
    simp only [a5]
    exact ⟨_, Vw.same rfl, hR _ (.inl ⟨14, 6, _, _, _, _, _, _, _, _, _, _, _, _, _, _, HK5.out.h _ (.short HC5.out), by decide, rfl⟩)⟩
  simp only [n1]; cbv
  obtain ⟨w5, x5, tw5, cv5⟩ := cutOf 32 ln5
  have q5 := e_rcut ln5 32 w5 x5 tw5 cv5 HL5.out.h 32 rfl
  have HD5 := Lib.hid cv5
  have HX5 := Lib.hid (sz5 cv5 HL5.out).2
  clear cv5
  refine Call.stepE (by rw [← hP]; exact q5) rfl ?_
  clear q5
  cbv
  try (refine InN.mk (by decide) (by decide) ?_; cbv)
  split
  · rename_i b he
    rw [hscmp] at he
    have HN := Lib.hid (sne_t he)
    clear he
    cbv
    simp only [a5]
    exact ⟨_, Vw.same rfl, hR _ (.inl ⟨30, 6, _, _, _, _, _, _, _, _, _, _, _, _, _, _, HK5.out.h _ (.kind HC5.out HD5.out (.inl HN.out)), by decide, rfl⟩)⟩
  rename_i b he
  rw [hscmp] at he
  obtain rfl := sne_f he
  clear he
  cbv
  cases tw5
  · repeat' (first
      | (simp only [m5]; cbv)
      | (simp only [p5]; cbv)
      | (simp only [n0]; cbv)
      | (simp only [n1]; cbv)
      | (simp only [a5])
      | fail)
    exact ⟨_, Vw.same rfl, hR _ (.inl ⟨30, 6, _, _, _, _, _, _, _, _, _, _, _, _, _, _, HK5.out.h _ (.kind HC5.out HD5.out (.inr (by decide))), by decide, rfl⟩)⟩
  repeat' (first
    | (simp only [m5]; cbv)
    | (simp only [p5]; cbv)
    | (simp only [n0]; cbv)
    | (simp only [n1]; cbv)
    | fail)
  refine Call.step (by rw [← hP]; exact e_rnumber x5 HX5.out.h) rfl ?_
  rintro r ⟨v5, ok5, rfl, hn5⟩
  have HV5 := Lib.hid hn5
  clear hn5
  cbv
  cases ok5
  · simp only [n0]; cbv
    simp only [a5]
    exact ⟨_, Vw.same rfl, hR _ (.inl ⟨11, 6, _, _, _, _, _, _, _, _, _, _, _, _, _, _, HK5.out.h _ (.form HC5.out HD5.out HV5.out), by decide, rfl⟩)⟩
  simp only [n1]; cbv
  repeat' (first
    | (simp only [m5]; cbv)
    | (refine InN.mk (by decide) (by decide) ?_; cbv)
    | (simp only [a5]; cbv)
    | fail)
  have hk6 : Goes (nmsB.drop 6) 7 s6 [v0, v1, v2, v3, v4, v5] s0 := ⟨fun X h => HK5.out.h X (.num HC5.out HD5.out HV5.out h)⟩
  have HK6 := Lib.hid hk6
  clear hk6 HK5 HC5 HD5 HX5 HL5 HS5
  have l6 : wcmp .lss 6 15 = true := by rw [hcmp]; rfl
  have m6 : wcmp .lss 6 14 = true := by rw [hcmp]; rfl
  have p6 : wcmp .eql 6 14 = false := by rw [hcmp]; rfl
  have a6 : wbin .add .i64 6 1 = 7 := by rw [hbin]; rfl
  simp only [l6]; cbv
  obtain ⟨ln6, s7, ok6, cu6⟩ := cutOf 10 s6
  have q6 := e_rcut s6 10 ln6 s7 ok6 cu6 HS6.out.h 10 rfl
  have HC6 := Lib.hid cu6
  have HL6 := Lib.hid (sz5 cu6 HS6.out).1
  have HS7 := Lib.hid (sz5 cu6 HS6.out).2
  clear cu6
  refine Call.stepE (by rw [← hP]; exact q6) rfl ?_
  clear q6
  cbv
  cases ok6
  · simp only [n0]; cbv
    simp only [a6]
    exact ⟨_, Vw.same rfl, hR _ (.inl ⟨14, 7, _, _, _, _, _, _, _, _, _, _, _, _, _, _, HK6.out.h _ (.short HC6.out), by decide, rfl⟩)⟩
  simp only [n1]; cbv
  obtain ⟨w6, x6, tw6, cv6⟩ := cutOf 32 ln6
  have q6 := e_rcut ln6 32 w6 x6 tw6 cv6 HL6.out.h 32 rfl
  have HD6 := Lib.hid cv6
  have HX6 := Lib.hid (sz5 cv6 HL6.out).2
  clear cv6
  refine Call.stepE (by rw [← hP]; exact q6) rfl ?_
  clear q6
  cbv
  try (refine InN.mk (by decide) (by decide) ?_; cbv)
  split
  · rename_i b he
    rw [hscmp] at he
    have HN := Lib.hid (sne_t he)
    clear he
    cbv
    simp only [a6]
    exact ⟨_, Vw.same rfl, hR _ (.inl ⟨30, 7, _, _, _, _, _, _, _, _, _, _, _, _, _, _, HK6.out.h _ (.kind HC6.out HD6.out (.inl HN.out)), by decide, rfl⟩)⟩
  rename_i b he
  rw [hscmp] at he
  obtain rfl := sne_f he
  clear he
  cbv
  cases tw6
  · repeat' (first
      | (simp only [m6]; cbv)
      | (simp only [p6]; cbv)
      | (simp only [n0]; cbv)
      | (simp only [n1]; cbv)
      | (simp only [a6])
      | fail)
    exact ⟨_, Vw.same rfl, hR _ (.inl ⟨30, 7, _, _, _, _, _, _, _, _, _, _, _, _, _, _, HK6.out.h _ (.kind HC6.out HD6.out (.inr (by decide))), by decide, rfl⟩)⟩
  repeat' (first
    | (simp only [m6]; cbv)
    | (simp only [p6]; cbv)
    | (simp only [n0]; cbv)
    | (simp only [n1]; cbv)
    | fail)
  refine Call.step (by rw [← hP]; exact e_rnumber x6 HX6.out.h) rfl ?_
  rintro r ⟨v6, ok6, rfl, hn6⟩
  have HV6 := Lib.hid hn6
  clear hn6
  cbv
  cases ok6
  · simp only [n0]; cbv
    simp only [a6]
    exact ⟨_, Vw.same rfl, hR _ (.inl ⟨11, 7, _, _, _, _, _, _, _, _, _, _, _, _, _, _, HK6.out.h _ (.form HC6.out HD6.out HV6.out), by decide, rfl⟩)⟩
  simp only [n1]; cbv
  repeat' (first
    | (simp only [m6]; cbv)
    | (refine InN.mk (by decide) (by decide) ?_; cbv)
    | (simp only [a6]; cbv)
    | fail)
  have hk7 : Goes (nmsB.drop 7) 8 s7 [v0, v1, v2, v3, v4, v5, v6] s0 := ⟨fun X h => HK6.out.h X (.num HC6.out HD6.out HV6.out h)⟩
  have HK7 := Lib.hid hk7
  clear hk7 HK6 HC6 HD6 HX6 HL6 HS6
  have l7 : wcmp .lss 7 15 = true := by rw [hcmp]; rfl
  have m7 : wcmp .lss 7 14 = true := by rw [hcmp]; rfl
  have p7 : wcmp .eql 7 14 = false := by rw [hcmp]; rfl
  have a7 : wbin .add .i64 7 1 = 8 := by rw [hbin]; rfl
  simp only [l7]; cbv
  obtain ⟨ln7, s8, ok7, cu7⟩ := cutOf 10 s7
  have q7 := e_rcut s7 10 ln7 s8 ok7 cu7 HS7.out.h 10 rfl
  have HC7 := Lib.hid cu7
  have HL7 := Lib.hid (sz5 cu7 HS7.out).1
  have HS8 := Lib.hid (sz5 cu7 HS7.out).2
  clear cu7
  refine Call.stepE (by rw [← hP]; exact q7) rfl ?_
  clear q7
  cbv
  cases ok7
  · simp only [n0]; cbv
    simp only [a7]
    exact ⟨_, Vw.same rfl, hR _ (.inl ⟨14, 8, _, _, _, _, _, _, _, _, _, _, _, _, _, _, HK7.out.h _ (.short HC7.out), by decide, rfl⟩)⟩
  simp only [n1]; cbv
  obtain ⟨w7, x7, tw7, cv7⟩ := cutOf 32 ln7
  have q7 := e_rcut ln7 32 w7 x7 tw7 cv7 HL7.out.h 32 rfl
  have HD7 := Lib.hid cv7
  have HX7 := Lib.hid (sz5 cv7 HL7.out).2
  clear cv7
  refine Call.stepE (by rw [← hP]; exact q7) rfl ?_
  clear q7
  cbv
  try (refine InN.mk (by decide) (by decide) ?_; cbv)
  split
  · rename_i b he
    rw [hscmp] at he
    have HN := Lib.hid (sne_t he)
    clear he
    cbv
    simp only [a7]
    exact ⟨_, Vw.same rfl, hR _ (.inl ⟨30, 8, _, _, _, _, _, _, _, _, _, _, _, _, _, _, HK7.out.h _ (.kind HC7.out HD7.out (.inl HN.out)), by decide, rfl⟩)⟩
  rename_i b he
  rw [hscmp] at he
  obtain rfl := sne_f he
  clear he
  cbv
  cases tw7
  · repeat' (first
      | (simp only [m7]; cbv)
      | (simp only [p7]; cbv)
      | (simp only [n0]; cbv)
      | (simp only [n1]; cbv)
      | (simp only [a7])
      | fail)
    exact ⟨_, Vw.same rfl, hR _ (.inl ⟨30, 8, _, _, _, _, _, _, _, _, _, _, _, _, _, _, HK7.out.h _ (.kind HC7.out HD7.out (.inr (by decide))), by decide, rfl⟩)⟩
  repeat' (first
    | (simp only [m7]; cbv)
    | (simp only [p7]; cbv)
    | (simp only [n0]; cbv)
    | (simp only [n1]; cbv)
    | fail)
  refine Call.step (by rw [← hP]; exact e_rnumber x7 HX7.out.h) rfl ?_
  rintro r ⟨v7, ok7, rfl, hn7⟩
  have HV7 := Lib.hid hn7
  clear hn7
  cbv
  cases ok7
  · simp only [n0]; cbv
    simp only [a7]
    exact ⟨_, Vw.same rfl, hR _ (.inl ⟨11, 8, _, _, _, _, _, _, _, _, _, _, _, _, _, _, HK7.out.h _ (.form HC7.out HD7.out HV7.out), by decide, rfl⟩)⟩
  simp only [n1]; cbv
  repeat' (first
    | (simp only [m7]; cbv)
    | (refine InN.mk (by decide) (by decide) ?_; cbv)
    | (simp only [a7]; cbv)
    | fail)
  have hk8 : Goes (nmsB.drop 8) 9 s8 [v0, v1, v2, v3, v4, v5, v6, v7] s0 := ⟨fun X h => HK7.out.h X (.num HC7.out HD7.out HV7.out h)⟩
  have HK8 := Lib.hid hk8
  clear hk8 HK7 HC7 HD7 HX7 HL7 HS7
  have l8 : wcmp .lss 8 15 = true := by rw [hcmp]; rfl
  have m8 : wcmp .lss 8 14 = true := by rw [hcmp]; rfl
  have p8 : wcmp .eql 8 14 = false := by rw [hcmp]; rfl
  have a8 : wbin .add .i64 8 1 = 9 := by rw [hbin]; rfl
  simp only [l8]; cbv
  obtain ⟨ln8, s9, ok8, cu8⟩ := cutOf 10 s8
  have q8 := e_rcut s8 10 ln8 s9 ok8 cu8 HS8.out.h 10 rfl
  have HC8 := Lib.hid cu8
  have HL8 := Lib.hid (sz5 cu8 HS8.out).1
  have HS9 := Lib.hid (sz5 cu8 HS8.out).2
  clear cu8
  refine Call.stepE (by rw [← hP]; exact q8) rfl ?_
  clear q8
  cbv
  cases ok8
  · simp only [n0]; cbv
    simp only [a8]
    exact ⟨_, Vw.same rfl, hR _ (.inl ⟨14, 9, _, _, _, _, _, _, _, _, _, _, _, _, _, _, HK8.out.h _ (.short HC8.out), by decide, rfl⟩)⟩
  simp only [n1]; cbv
  obtain ⟨w8, x8, tw8, cv8⟩ := cutOf 32 ln8
  have q8 := e_rcut ln8 32 w8 x8 tw8 cv8 HL8.out.h 32 rfl
  have HD8 := Lib.hid cv8
  have HX8 := Lib.hid (sz5 cv8 HL8.out).2
  clear cv8
  refine Call.stepE (by rw [← hP]; exact q8) rfl ?_
  clear q8
  cbv
  try (refine InN.mk (by decide) (by decide) ?_; cbv)
  split
  · rename_i b he
    rw [hscmp] at he
    have HN := Lib.hid (sne_t he)
    clear he
    cbv
    simp only [a8]
    exact ⟨_, Vw.same rfl, hR _ (.inl ⟨30, 9, _, _, _, _, _, _, _, _, _, _, _, _, _, _, HK8.out.h _ (.kind HC8.out HD8.out (.inl HN.out)), by decide, rfl⟩)⟩
  rename_i b he
  rw [hscmp] at he
  obtain rfl := sne_f he
  clear he
  cbv
  cases tw8
  · repeat' (first
      | (simp only [m8]; cbv)
      | (simp only [p8]; cbv)
      | (simp only [n0]; cbv)
      | (simp only [n1]; cbv)
      | (simp only [a8])
      | fail)
    exact ⟨_, Vw.same rfl, hR _ (.inl ⟨30, 9, _, _, _, _, _, _, _, _, _, _, _, _, _, _, HK8.out.h _ (.kind HC8.out HD8.out (.inr (by decide))), by decide, rfl⟩)⟩
  repeat' (first
    | (simp only [m8]; cbv)
    | (simp only [p8]; cbv)
    | (simp only [n0]; cbv)
    | (simp only [n1]; cbv)
    | fail)
  refine Call.step (by rw [← hP]; exact e_rnumber x8 HX8.out.h) rfl ?_
  rintro r ⟨v8, ok8, rfl, hn8⟩
  have HV8 := Lib.hid hn8
  clear hn8
  cbv
  cases ok8
  · simp only [n0]; cbv
    simp only [a8]
    exact ⟨_, Vw.same rfl, hR _ (.inl ⟨11, 9, _, _, _, _, _, _, _, _, _, _, _, _, _, _, HK8.out.h _ (.form HC8.out HD8.out HV8.out), by decide, rfl⟩)⟩
  simp only [n1]; cbv
  repeat' (first
    | (simp only [m8]; cbv)
    | (refine InN.mk (by decide) (by decide) ?_; cbv)
    | (simp only [a8]; cbv)
    | fail)
  have hk9 : Goes (nmsB.drop 9) 10 s9 [v0, v1, v2, v3, v4, v5, v6, v7, v8] s0 := ⟨fun X h => HK8.out.h X (.num HC8.out HD8.out HV8.out h)⟩
  have HK9 := Lib.hid hk9
  clear hk9 HK8 HC8 HD8 HX8 HL8 HS8
  have l9 : wcmp .lss 9 15 = true := by rw [hcmp]; rfl
  have m9 : wcmp .lss 9 14 = true := by rw [hcmp]; rfl
  have p9 : wcmp .eql 9 14 = false := by rw [hcmp]; rfl
  have a9 : wbin .add .i64 9 1 = 10 := by rw [hbin]; rfl
  simp only [l9]; cbv
  obtain ⟨ln9, s10, ok9, cu9⟩ := cutOf 10 s9
  have q9 := e_rcut s9 10 ln9 s10 ok9 cu9 HS9.out.h 10 rfl
  have HC9 := Lib.hid cu9
  have HL9 := Lib.hid (sz5 cu9 HS9.out).1
  have HS10 := Lib.hid (sz5 cu9 HS9.out).2
  clear cu9
  refine Call.stepE (by rw [← hP]; exact q9) rfl ?_
  clear q9
  cbv
  cases ok9
  · simp only [n0]; cbv
    simp only [a9]
    exact ⟨_, Vw.same rfl, hR _ (.inl ⟨14, 10, _, _, _, _, _, _, _, _, _, _, _, _, _, _, HK9.out.h _ (.short HC9.out), by decide, rfl⟩)⟩
  simp only [n1]; cbv
  obtain ⟨w9, x9, tw9, cv9⟩ := cutOf 32 ln9
  have q9 := e_rcut ln9 32 w9 x9 tw9 cv9 HL9.out.h 32 rfl
  have HD9 := Lib.hid cv9
  have HX9 := Lib.hid (sz5 cv9 HL9.out).2
  clear cv9
  refine Call.stepE (by rw [← hP]; exact q9) rfl ?_
  clear q9
  cbv
  try (refine InN.mk (by decide) (by decide) ?_; cbv)
  split
  · rename_i b he
    rw [hscmp] at he
    have HN := Lib.hid (sne_t he)
    clear he
    cbv
    simp only [a9]
    exact ⟨_, Vw.same rfl, hR _ (.inl ⟨30, 10, _, _, _, _, _, _, _, _, _, _, _, _, _, _, HK9.out.h _ (.kind HC9.out HD9.out (.inl HN.out)), by decide, rfl⟩)⟩
  rename_i b he
  rw [hscmp] at he
  obtain rfl := sne_f he
  clear he
  cbv
  cases tw9
  · repeat' (first
      | (simp only [m9]; cbv)
      | (simp only [p9]; cbv)
      | (simp only [n0]; cbv)
      | (simp only [n1]; cbv)
      | (simp only [a9])
      | fail)
    exact ⟨_, Vw.same rfl, hR _ (.inl ⟨30, 10, _, _, _, _, _, _, _, _, _, _, _, _, _, _, HK9.out.h _ (.kind HC9.out HD9.out (.inr (by decide))), by decide, rfl⟩)⟩
  repeat' (first
    | (simp only [m9]; cbv)
    | (simp only [p9]; cbv)
    | (simp only [n0]; cbv)
    | (simp only [n1]; cbv)
    | fail)
  refine Call.step (by rw [← hP]; exact e_rnumber x9 HX9.out.h) rfl ?_
  rintro r ⟨v9, ok9, rfl, hn9⟩
  have HV9 := Lib.hid hn9
  clear hn9
  cbv
  cases ok9
  · simp only [n0]; cbv
    simp only [a9]
    exact ⟨_, Vw.same rfl, hR _ (.inl ⟨11, 10, _, _, _, _, _, _, _, _, _, _, _, _, _, _, HK9.out.h _ (.form HC9.out HD9.out HV9.out), by decide, rfl⟩)⟩
  simp only [n1]; cbv
  repeat' (first
    | (simp only [m9]; cbv)
    | (refine InN.mk (by decide) (by decide) ?_; cbv)
    | (simp only [a9]; cbv)
    | fail)
  have hk10 : Goes (nmsB.drop 10) 11 s10 [v0, v1, v2, v3, v4, v5, v6, v7, v8, v9] s0 := ⟨fun X h => HK9.out.h X (.num HC9.out HD9.out HV9.out h)⟩
  have HK10 := Lib.hid hk10
  clear hk10 HK9 HC9 HD9 HX9 HL9 HS9
  have l10 : wcmp .lss 10 15 = true := by rw [hcmp]; rfl
  have m10 : wcmp .lss 10 14 = true := by rw [hcmp]; rfl
  have p10 : wcmp .eql 10 14 = false := by rw [hcmp]; rfl
  have a10 : wbin .add .i64 10 1 = 11 := by rw [hbin]; rfl
  simp only [l10]; cbv
  obtain ⟨ln10, s11, ok10, cu10⟩ := cutOf 10 s10
  have q10 := e_rcut s10 10 ln10 s11 ok10 cu10 HS10.out.h 10 rfl
  have HC10 := Lib.hid cu10
  have HL10 := Lib.hid (sz5 cu10 HS10.out).1
  have HS11 := Lib.hid (sz5 cu10 HS10.out).2
  clear cu10
  refine Call.stepE (by rw [← hP]; exact q10) rfl ?_
  clear q10
  cbv
  cases ok10
  · simp only [n0]; cbv
    simp only [a10]
    exact ⟨_, Vw.same rfl, hR _ (.inl ⟨14, 11, _, _, _, _, _, _, _, _, _, _, _, _, _, _, HK10.out.h _ (.short HC10.out), by decide, rfl⟩)⟩
  simp only [n1]; cbv
  obtain ⟨w10, x10, tw10, cv10⟩ := cutOf 32 ln10
  have q10 := e_rcut ln10 32 w10 x10 tw10 cv10 HL10.out.h 32 rfl
  have HD10 := Lib.hid cv10
  have HX10 := Lib.hid (sz5 cv10 HL10.out).2
  clear cv10
  refine Call.stepE (by rw [← hP]; exact q10) rfl ?_
  clear q10
  cbv
  try (refine InN.mk (by decide) (by decide) ?_; cbv)
  split
  · rename_i b he
    rw [hscmp] at he
    have HN := Lib.hid (sne_t he)
    clear he
    cbv
    simp only [a10]
    exact ⟨_, Vw.same rfl, hR _ (.inl ⟨30, 11, _, _, _, _, _, _, _, _, _, _, _, _, _, _, HK10.out.h _ (.kind HC10.out HD10.out (.inl HN.out)), by decide, rfl⟩)⟩
  rename_i b he
  rw [hscmp] at he
  obtain rfl := sne_f he
  clear he
  cbv
  cases tw10
  · repeat' (first
      | (simp only [m10]; cbv)
      | (simp only [p10]; cbv)
      | (simp only [n0]; cbv)
      | (simp only [n1]; cbv)
      | (simp only [a10])
      | fail)
    exact ⟨_, Vw.same rfl, hR _ (.inl ⟨30, 11, _, _, _, _, _, _, _, _, _, _, _, _, _, _, HK10.out.h _ (.kind HC10.out HD10.out (.inr (by decide))), by decide, rfl⟩)⟩
  repeat' (first
    | (simp only [m10]; cbv)
    | (simp only [p10]; cbv)
    | (simp only [n0]; cbv)
    | (simp only [n1]; cbv)
    | fail)
  refine Call.step (by rw [← hP]; exact e_rnumber x10 HX10.out.h) rfl ?_
  rintro r ⟨v10, ok10, rfl, hn10⟩
  have HV10 := Lib.hid hn10
  clear hn10
  cbv
  cases ok10
  · simp only [n0]; cbv
    simp only [a10]
    exact ⟨_, Vw.same rfl, hR _ (.inl ⟨11, 11, _, _, _, _, _, _, _, _, _, _, _, _, _, _, HK10.out.h _ (.form HC10.out HD10.out HV10.out), by decide, rfl⟩)⟩
  simp only [n1]; cbv
  repeat' (first
    | (simp only [m10]; cbv)
    | (refine InN.mk (by decide) (by decide) ?_; cbv)
    | (simp only [a10]; cbv)
    | fail)
  have hk11 : Goes (nmsB.drop 11) 12 s11 [v0, v1, v2, v3, v4, v5, v6, v7, v8, v9, v10] s0 := ⟨fun X h => HK10.out.h X (.num HC10.out HD10.out HV10.out h)⟩
  have HK11 := Lib.hid hk11
  clear hk11 HK10 HC10 HD10 HX10 HL10 HS10
  have l11 : wcmp .lss 11 15 = true := by rw [hcmp]; rfl
  have m11 : wcmp .lss 11 14 = true := by rw [hcmp]; rfl
  have p11 : wcmp .eql 11 14 = false := by rw [hcmp]; rfl
  have a11 : wbin .add .i64 11 1 = 12 := by rw [hbin]; rfl
  simp only [l11]; cbv
  obtain ⟨ln11, s12, ok11, cu11⟩ := cutOf 10 s11
  have q11 := e_rcut s11 10 ln11 s12 ok11 cu11 HS11.out.h 10 rfl
  have HC11 := Lib.hid cu11
  have HL11 := Lib.hid (sz5 cu11 HS11.out).1
  have HS12 := Lib.hid (sz5 cu11 HS11.out).2
  clear cu11
  refine Call.stepE (by rw [← hP]; exact q11) rfl ?_
  clear q11
  cbv
  cases ok11
  · simp only [n0]; cbv
    simp only [a11]
    exact ⟨_, Vw.same rfl, hR _ (.inl ⟨14, 12, _, _, _, _, _, _, _, _, _, _, _, _, _, _, HK11.out.h _ (.short HC11.out), by decide, rfl⟩)⟩
  simp only [n1]; cbv
  obtain ⟨w11, x11, tw11, cv11⟩ := cutOf 32 ln11
  have q11 := e_rcut ln11 32 w11 x11 tw11 cv11 HL11.out.h 32 rfl
  have HD11 := Lib.hid cv11
  have HX11 := Lib.hid (sz5 cv11 HL11.out).2
  clear cv11
  refine Call.stepE (by rw [← hP]; exact q11) rfl ?_
  clear q11
  cbv
  try (refine InN.mk (by decide) (by decide) ?_; cbv)
  split
  · rename_i b he
    rw [hscmp] at he
    have HN := Lib.hid (sne_t he)
    clear he
    cbv
    simp only [a11]
    exact ⟨_, Vw.same rfl, hR _ (.inl ⟨30, 12, _, _, _, _, _, _, _, _, _, _, _, _, _, _, HK11.out.h _ (.kind HC11.out HD11.out (.inl HN.out)), by decide, rfl⟩)⟩
  rename_i b he
  rw [hscmp] at he
  obtain rfl := sne_f he
  clear he
  cbv
  cases tw11
  · repeat' (first
      | (simp only [m11]; cbv)
      | (simp only [p11]; cbv)
      | (simp only [n0]; cbv)
      | (simp only [n1]; cbv)
      | (simp only [a11])
      | fail)
    exact ⟨_, Vw.same rfl, hR _ (.inl ⟨30, 12, _, _, _, _, _, _, _, _, _, _, _, _, _, _, HK11.out.h _ (.kind HC11.out HD11.out (.inr (by decide))), by decide, rfl⟩)⟩
  repeat' (first
    | (simp only [m11]; cbv)
    | (simp only [p11]; cbv)
    | (simp only [n0]; cbv)
    | (simp only [n1]; cbv)
    | fail)
  refine Call.step (by rw [← hP]; exact e_rnumber x11 HX11.out.h) rfl ?_
  rintro r ⟨v11, ok11, rfl, hn11⟩
  have HV11 := Lib.hid hn11
  clear hn11
  cbv
  cases ok11
  · simp only [n0]; cbv
    simp only [a11]
    exact ⟨_, Vw.same rfl, hR _ (.inl ⟨11, 12, _, _, _, _, _, _, _, _, _, _, _, _, _, _, HK11.out.h _ (.form HC11.out HD11.out HV11.out), by decide, rfl⟩)⟩
  simp only [n1]; cbv
  repeat' (first
    | (simp only [m11]; cbv)
    | (refine InN.mk (by decide) (by decide) ?_; cbv)
    | (simp only [a11]; cbv)
    | fail)
  have hk12 : Goes (nmsB.drop 12) 13 s12 [v0, v1, v2, v3, v4, v5, v6, v7, v8, v9, v10, v11] s0 := ⟨fun X h => HK11.out.h X (.num HC11.out HD11.out HV11.out h)⟩
  have HK12 := Lib.hid hk12
  clear hk12 HK11 HC11 HD11 HX11 HL11 HS11
  have l12 : wcmp .lss 12 15 = true := by rw [hcmp]; rfl
  have m12 : wcmp .lss 12 14 = true := by rw [hcmp]; rfl
  have p12 : wcmp .eql 12 14 = false := by rw [hcmp]; rfl
  have a12 : wbin .add .i64 12 1 = 13 := by rw [hbin]; rfl
  simp only [l12]; cbv
  obtain ⟨ln12, s13, ok12, cu12⟩ := cutOf 10 s12
  have q12 := e_rcut s12 10 ln12 s13 ok12 cu12 HS12.out.h 10 rfl
  have HC12 := Lib.hid cu12
  have HL12 := Lib.hid (sz5 cu12 HS12.out).1
  have HS13 := Lib.hid (sz5 cu12 HS12.out).2
  clear cu12
  refine Call.stepE (by rw [← hP]; exact q12) rfl ?_
  clear q12
  cbv
  cases ok12
  · simp only [n0]; cbv
    simp only [a12]
    exact ⟨_, Vw.same rfl, hR _ (.inl ⟨14, 13, _, _, _, _, _, _, _, _, _, _, _, _, _, _, HK12.out.h _ (.short HC12.out), by decide, rfl⟩)⟩
  simp only [n1]; cbv
  obtain ⟨w12, x12, tw12, cv12⟩ := cutOf 32 ln12
  have q12 := e_rcut ln12 32 w12 x12 tw12 cv12 HL12.out.h 32 rfl
  have HD12 := Lib.hid cv12
  have HX12 := Lib.hid (sz5 cv12 HL12.out).2
  clear cv12
  refine Call.stepE (by rw [← hP]; exact q12) rfl ?_
  clear q12
  cbv
  try (refine InN.mk (by decide) (by decide) ?_; cbv)
  split
  · rename_i b he
    rw [hscmp] at he
    have HN := Lib.hid (sne_t he)
    clear he
    cbv
    simp only [a12]
    exact ⟨_, Vw.same rfl, hR _ (.inl ⟨30, 13, _, _, _, _, _, _, _, _, _, _, _, _, _, _, HK12.out.h _ (.kind HC12.out HD12.out (.inl HN.out)), by decide, rfl⟩)⟩
  rename_i b he
  rw [hscmp] at he
  obtain rfl := sne_f he
  clear he
  cbv
  cases tw12
  · repeat' (first
      | (simp only [m12]; cbv)
      | (simp only [p12]; cbv)
      | (simp only [n0]; cbv)
      | (simp only [n1]; cbv)
      | (simp only [a12])
      | fail)
    exact ⟨_, Vw.same rfl, hR _ (.inl ⟨30, 13, _, _, _, _, _, _, _, _, _, _, _, _, _, _, HK12.out.h _ (.kind HC12.out HD12.out (.inr (by decide))), by decide, rfl⟩)⟩
  repeat' (first
    | (simp only [m12]; cbv)
    | (simp only [p12]; cbv)
    | (simp only [n0]; cbv)
    | (simp only [n1]; cbv)
    | fail)
  refine Call.step (by rw [← hP]; exact e_rnumber x12 HX12.out.h) rfl ?_
  rintro r ⟨v12, ok12, rfl, hn12⟩
  have HV12 := Lib.hid hn12
  clear hn12
  cbv
  cases ok12
  · simp only [n0]; cbv
    simp only [a12]
    exact ⟨_, Vw.same rfl, hR _ (.inl ⟨11, 13, _, _, _, _, _, _, _, _, _, _, _, _, _, _, HK12.out.h _ (.form HC12.out HD12.out HV12.out), by decide, rfl⟩)⟩
  simp only [n1]; cbv
  repeat' (first
    | (simp only [m12]; cbv)
    | (refine InN.mk (by decide) (by decide) ?_; cbv)
    | (simp only [a12]; cbv)
    | fail)
  have hk13 : Goes (nmsB.drop 13) 14 s13 [v0, v1, v2, v3, v4, v5, v6, v7, v8, v9, v10, v11, v12] s0 := ⟨fun X h => HK12.out.h X (.num HC12.out HD12.out HV12.out h)⟩
  have HK13 := Lib.hid hk13
  clear hk13 HK12 HC12 HD12 HX12 HL12 HS12
  have l13 : wcmp .lss 13 15 = true := by rw [hcmp]; rfl
  have m13 : wcmp .lss 13 14 = true := by rw [hcmp]; rfl
  have p13 : wcmp .eql 13 14 = false := by rw [hcmp]; rfl
  have a13 : wbin .add .i64 13 1 = 14 := by rw [hbin]; rfl
  simp only [l13]; cbv
  obtain ⟨ln13, s14, ok13, cu13⟩ := cutOf 10 s13
  have q13 := e_rcut s13 10 ln13 s14 ok13 cu13 HS13.out.h 10 rfl
  have HC13 := Lib.hid cu13
  have HL13 := Lib.hid (sz5 cu13 HS13.out).1
  have HS14 := Lib.hid (sz5 cu13 HS13.out).2
  clear cu13
  refine Call.stepE (by rw [← hP]; exact q13) rfl ?_
  clear q13
  cbv
  cases ok13
  · simp only [n0]; cbv
    simp only [a13]
    exact ⟨_, Vw.same rfl, hR _ (.inl ⟨14, 14, _, _, _, _, _, _, _, _, _, _, _, _, _, _, HK13.out.h _ (.short HC13.out), by decide, rfl⟩)⟩
  simp only [n1]; cbv
  obtain ⟨w13, x13, tw13, cv13⟩ := cutOf 32 ln13
  have q13 := e_rcut ln13 32 w13 x13 tw13 cv13 HL13.out.h 32 rfl
  have HD13 := Lib.hid cv13
  have HX13 := Lib.hid (sz5 cv13 HL13.out).2
  clear cv13
  refine Call.stepE (by rw [← hP]; exact q13) rfl ?_
  clear q13
  cbv
  try (refine InN.mk (by decide) (by decide) ?_; cbv)
  split
  · rename_i b he
    rw [hscmp] at he
    have HN := Lib.hid (sne_t he)
    clear he
    cbv
    simp only [a13]
    exact ⟨_, Vw.same rfl, hR _ (.inl ⟨30, 14, _, _, _, _, _, _, _, _, _, _, _, _, _, _, HK13.out.h _ (.kind HC13.out HD13.out (.inl HN.out)), by decide, rfl⟩)⟩
  rename_i b he
  rw [hscmp] at he
  obtain rfl := sne_f he
  clear he
  cbv
  cases tw13
  · repeat' (first
      | (simp only [m13]; cbv)
      | (simp only [p13]; cbv)
      | (simp only [n0]; cbv)
      | (simp only [n1]; cbv)
      | (simp only [a13])
      | fail)
    exact ⟨_, Vw.same rfl, hR _ (.inl ⟨30, 14, _, _, _, _, _, _, _, _, _, _, _, _, _, _, HK13.out.h _ (.kind HC13.out HD13.out (.inr (by decide))), by decide, rfl⟩)⟩
  repeat' (first
    | (simp only [m13]; cbv)
    | (simp only [p13]; cbv)
    | (simp only [n0]; cbv)
    | (simp only [n1]; cbv)
    | fail)
  refine Call.step (by rw [← hP]; exact e_rnumber x13 HX13.out.h) rfl ?_
  rintro r ⟨v13, ok13, rfl, hn13⟩
  have HV13 := Lib.hid hn13
  clear hn13
  cbv
  cases ok13
  · simp only [n0]; cbv
    simp only [a13]
    exact ⟨_, Vw.same rfl, hR _ (.inl ⟨11, 14, _, _, _, _, _, _, _, _, _, _, _, _, _, _, HK13.out.h _ (.form HC13.out HD13.out HV13.out), by decide, rfl⟩)⟩
  simp only [n1]; cbv
  repeat' (first
    | (simp only [m13]; cbv)
    | (refine InN.mk (by decide) (by decide) ?_; cbv)
    | (simp only [a13]; cbv)
    | fail)
  have hk14 : Goes (nmsB.drop 14) 15 s14 [v0, v1, v2, v3, v4, v5, v6, v7, v8, v9, v10, v11, v12, v13] s0 := ⟨fun X h => HK13.out.h X (.num HC13.out HD13.out HV13.out h)⟩
  have HK14 := Lib.hid hk14
  clear hk14 HK13 HC13 HD13 HX13 HL13 HS13
  have l14 : wcmp .lss 14 15 = true := by rw [hcmp]; rfl
  have m14 : wcmp .lss 14 14 = false := by rw [hcmp]; rfl
  have p14 : wcmp .eql 14 14 = true := by rw [hcmp]; rfl
  have a14 : wbin .add .i64 14 1 = 15 := by rw [hbin]; rfl
  simp only [l14]; cbv
  obtain ⟨ln14, s15, ok14, cu14⟩ := cutOf 10 s14
  have q14 := e_rcut s14 10 ln14 s15 ok14 cu14 HS14.out.h 10 rfl
  have HC14 := Lib.hid cu14
  have HL14 := Lib.hid (sz5 cu14 HS14.out).1
  have HS15 := Lib.hid (sz5 cu14 HS14.out).2
  clear cu14
  refine Call.stepE (by rw [← hP]; exact q14) rfl ?_
  clear q14
  cbv
  cases ok14
  · simp only [n0]; cbv
    simp only [a14]
    exact ⟨_, Vw.same rfl, hR _ (.inl ⟨14, 15, _, _, _, _, _, _, _, _, _, _, _, _, _, _, HK14.out.h _ (.short HC14.out), by decide, rfl⟩)⟩
  simp only [n1]; cbv
  obtain ⟨w14, x14, tw14, cv14⟩ := cutOf 32 ln14
  have q14 := e_rcut ln14 32 w14 x14 tw14 cv14 HL14.out.h 32 rfl
  have HD14 := Lib.hid cv14
  have HX14 := Lib.hid (sz5 cv14 HL14.out).2
  clear cv14
  refine Call.stepE (by rw [← hP]; exact q14) rfl ?_
  clear q14
  cbv
  try (refine InN.mk (by decide) (by decide) ?_; cbv)
  split
  · rename_i b he
    rw [hscmp] at he
    have HN := Lib.hid (sne_t he)
    clear he
    cbv
    simp only [a14]
    exact ⟨_, Vw.same rfl, hR _ (.inl ⟨30, 15, _, _, _, _, _, _, _, _, _, _, _, _, _, _, HK14.out.h _ (.kind HC14.out HD14.out (.inl HN.out)), by decide, rfl⟩)⟩
  rename_i b he
  rw [hscmp] at he
  obtain rfl := sne_f he
  clear he
  cbv
  cases tw14
  rotate_left
  · repeat' (first
      | (simp only [m14]; cbv)
      | (simp only [p14]; cbv)
      | (simp only [n0]; cbv)
      | (simp only [n1]; cbv)
      | (simp only [a14])
      | fail)
    exact ⟨_, Vw.same rfl, hR _ (.inl ⟨30, 15, _, _, _, _, _, _, _, _, _, _, _, _, _, _, HK14.out.h _ (.kind HC14.out HD14.out (.inr (by decide))), by decide, rfl⟩)⟩
  repeat' (first
    | (simp only [m14]; cbv)
    | (simp only [p14]; cbv)
    | (simp only [n0]; cbv)
    | (simp only [n1]; cbv)
    | (simp only [a14]; cbv)
    | fail)
  have l15 : wcmp .lss 15 15 = false := by rw [hcmp]; rfl
  simp only [l15]; cbv
  have sl : wslen s15 = (s15.size : Int) := by rw [hslen]
  simp only [sl]
  split
  · rename_i b he
    have HN := Lib.hid (size_pos (by rw [hcmp] at he; simpa [cmpStd] using he) : s15 ≠ ⟨#[]⟩)
    clear he
    cbv
    exact ⟨_, Vw.same rfl, hR _ (.inl ⟨15, 16, _, _, _, _, _, _, _, _, _, _, _, _, _, _, HK14.out.h _ (.last HC14.out HD14.out (.long HN.out)), by decide, rfl⟩)⟩
  rename_i b he
  have HN := Lib.hid (size_zero (by rw [hcmp] at he; simpa [cmpStd] using he) : s15 = ⟨#[]⟩)
  clear he
  cbv
  exact ⟨_, Vw.same rfl, hR _ (.inr ⟨v0, v1, v2, v3, v4, v5, v6, v7, v8, v9, v10, v11, v12, v13, HK14.out.h _ (.last HC14.out HD14.out (.done HN.out)), rfl⟩)⟩
end Go.Proofs.YtdjafcjpnjdphaaDoor

/- WordParses, by the engine. -/
set_option linter.unusedVariables false
set_option linter.unusedSimpArgs false
namespace Go.Proofs.YtdjafcjpnjdphaaDoor
open Go Go.RowKit Go.Eng Go.Shelf
set_option maxRecDepth 100000
theorem ty_str (x : AV) (h : TyV Tryd.prog 8 9 x) : ∃ s : ByteArray, x = .str s := by
  have h := h.one (by kernel_rfl) (show shOf Tryd.prog 8 9 = some [.str] from by kernel_rfl)
  unfold Sh.Ok at h
  obtain ⟨s, rfl, _⟩ := h
  exact ⟨s, rfl⟩
theorem says_bad {nms : List ByteArray} {i : Int} {s : ByteArray} {acc : List Int} {X : Par} (h : Says nms i s acc X) : ∀ e l, X = .bad e l → 0 ≤ e ∧ e ≤ 100 := by
  induction h with
  | long h => intro e l he; cases he; decide
  | done h => intro e l he; cases he
  | short h => intro e l he; cases he; decide
  | kind h => intro e l he; cases he; decide
  | form h => intro e l he; cases he; decide
  | num h h2 h3 h4 ih => exact ih
  | last h h2 h4 ih => exact ih
theorem says_cfg {s : ByteArray} {c0 c1 c2 c3 c4 c5 c6 c7 c8 c9 c10 c11 c12 c13 : Int} (h : Says nmsB 1 s [] (.good [c0, c1, c2, c3, c4, c5, c6, c7, c8, c9, c10, c11, c12, c13])) : (In64 c0 ∧ In64 c1 ∧ In64 c2 ∧ In64 c3 ∧ In64 c4 ∧ In64 c5 ∧ In64 c6 ∧ In64 c7 ∧ In64 c8 ∧ In64 c9 ∧ In64 c10 ∧ In64 c11 ∧ In64 c12 ∧ In64 c13) ∧ s = bk (textL [c0, c1, c2, c3, c4, c5, c6, c7, c8, c9, c10, c11, c12, c13]) := by
  rcases says_good h _ rfl with ⟨h1, _⟩ | ⟨ns, h1, h2, h3, h4⟩
  · cases h1
  · rw [List.nil_append] at h1
    subst h1
    refine ⟨⟨h3 c0 (by simp), h3 c1 (by simp), h3 c2 (by simp), h3 c3 (by simp), h3 c4 (by simp), h3 c5 (by simp), h3 c6 (by simp), h3 c7 (by simp), h3 c8 (by simp), h3 c9 (by simp), h3 c10 (by simp), h3 c11 (by simp), h3 c12 (by simp), h3 c13 (by simp)⟩, ?_⟩
    apply tx_ext
    rw [h4, textL_of]; rfl
theorem e_wparsesL (s : ByteArray) (hs : 2000 < s.size) : PCalls Tryd.prog 4 [.str s] (· = .bool true) := by
  obtain ⟨n, en⟩ : ∃ n : Int, n = s.size := ⟨_, rfl⟩
  have hn : 2000 < n := by omega
  have HN := Lib.hid en
  clear en hs
  (refine PCalls.ofY Tryd.func4 (by kernel_rfl) (by kernel_rfl) fun w hw R hR => ?_); (obtain ⟨wbin, wcmp, wun, wconv, wnot, wbeq, wmm, wscmp, wsadd, wslen, wsat, weqs, wlen, wnlen, wofNat, wtake, wdrop, wapp, wzero, wnat⟩ := w); (have hbin : wbin = binStd := congrArg Prims.bin hw); (have hcmp : wcmp = cmpStd := congrArg Prims.cmp hw); (have hun : wun = unStd := congrArg Prims.un hw); (have hconv : wconv = fun k n => k.wrap n := congrArg Prims.conv hw); (have hnot : wnot = fun b => !b := congrArg Prims.not hw); (have hbeq : wbeq = fun a b => a == b := congrArg Prims.beq hw); (have hmm : wmm = maxI := congrArg Prims.mm hw); (have hscmp : wscmp = scmpStd := congrArg Prims.scmp hw); (have hsadd : wsadd = fun x y => x ++ y := congrArg Prims.sadd hw); (have hslen : wslen = fun s => (s.size : Int) := congrArg Prims.slen hw); (have hsat : wsat = std.sat := congrArg Prims.sat hw); (have heqs : weqs = fun a b os => (eqOffs a b os).getD false := congrArg Prims.eqs hw); (have hlen : wlen = fun es => (es.length : Int) := congrArg Prims.len hw); (have hnlen : wnlen = fun es => es.length := congrArg Prims.nlen hw); (have hofNat : wofNat = (fun n : Nat => (n : Int)) := congrArg Prims.ofNat hw); (have htake : wtake = fun es b => es.take b.toNat := congrArg Prims.take hw); (have hdrop : wdrop = fun es a => es.drop a.toNat := congrArg Prims.drop hw); (have happ : wapp = fun a b => a ++ b := congrArg Prims.app hw); (have hzero : wzero = fun n z => List.replicate n.toNat z := congrArg Prims.zero hw); (have hnat : wnat = fun n => n.toNat := congrArg Prims.nat hw); (conv => arg 2; cbv); (generalize hP : Tryd.prog = P); cbv
  refine Call.stepE (by rw [← hP]; exact e_safe37) rfl ?_
  cbv
  have n1 : wnot true = false := by rw [hnot]; rfl
  simp only [n1]; cbv
  refine Call.stepE (by rw [← hP]; exact e_anchor37) rfl ?_
  cbv
  simp only [n1]; cbv
  have sl : wslen s = n := by rw [hslen]; exact HN.out.symm
  have c : wcmp .gtr n 2000 = true := by rw [hcmp]; simp [cmpStd]; omega
  simp only [sl, c]; cbv
  exact ⟨_, Vw.same rfl, hR _ rfl⟩
set_option maxHeartbeats 2000000 in
theorem e_wparsesS (s : ByteArray) (hs : s.size ≤ 2000) : PCalls Tryd.prog 4 [.str s] (· = .bool true) := by
  obtain ⟨n, en⟩ : ∃ n : Int, n = s.size := ⟨_, rfl⟩
  have hn : n ≤ 2000 := by omega
  have hz : Sz5 s := ⟨by omega⟩
  have qp := e_parse s hz
  have qr := e_rparse s hz
  have HN := Lib.hid en
  clear en hs hz
  (refine PCalls.ofY Tryd.func4 (by kernel_rfl) (by kernel_rfl) fun w hw R hR => ?_); (obtain ⟨wbin, wcmp, wun, wconv, wnot, wbeq, wmm, wscmp, wsadd, wslen, wsat, weqs, wlen, wnlen, wofNat, wtake, wdrop, wapp, wzero, wnat⟩ := w); (have hbin : wbin = binStd := congrArg Prims.bin hw); (have hcmp : wcmp = cmpStd := congrArg Prims.cmp hw); (have hun : wun = unStd := congrArg Prims.un hw); (have hconv : wconv = fun k n => k.wrap n := congrArg Prims.conv hw); (have hnot : wnot = fun b => !b := congrArg Prims.not hw); (have hbeq : wbeq = fun a b => a == b := congrArg Prims.beq hw); (have hmm : wmm = maxI := congrArg Prims.mm hw); (have hscmp : wscmp = scmpStd := congrArg Prims.scmp hw); (have hsadd : wsadd = fun x y => x ++ y := congrArg Prims.sadd hw); (have hslen : wslen = fun s => (s.size : Int) := congrArg Prims.slen hw); (have hsat : wsat = std.sat := congrArg Prims.sat hw); (have heqs : weqs = fun a b os => (eqOffs a b os).getD false := congrArg Prims.eqs hw); (have hlen : wlen = fun es => (es.length : Int) := congrArg Prims.len hw); (have hnlen : wnlen = fun es => es.length := congrArg Prims.nlen hw); (have hofNat : wofNat = (fun n : Nat => (n : Int)) := congrArg Prims.ofNat hw); (have htake : wtake = fun es b => es.take b.toNat := congrArg Prims.take hw); (have hdrop : wdrop = fun es a => es.drop a.toNat := congrArg Prims.drop hw); (have happ : wapp = fun a b => a ++ b := congrArg Prims.app hw); (have hzero : wzero = fun n z => List.replicate n.toNat z := congrArg Prims.zero hw); (have hnat : wnat = fun n => n.toNat := congrArg Prims.nat hw); (conv => arg 2; cbv); (generalize hP : Tryd.prog = P); cbv
  refine Call.stepE (by rw [← hP]; exact e_safe37) rfl ?_
  cbv
  have n1 : wnot true = false := by rw [hnot]; rfl
  simp only [n1]; cbv
  refine Call.stepE (by rw [← hP]; exact e_anchor37) rfl ?_
  cbv
  simp only [n1]; cbv
  have sl : wslen s = n := by rw [hslen]; exact HN.out.symm
  have c : wcmp .gtr n 2000 = false := by rw [hcmp]; simp [cmpStd]; omega
  simp only [sl, c]; cbv
  refine Call.step (by rw [← hP]; exact qp) rfl ?_
  rintro r hr
  rcases hr with ⟨e, l, h1, h2, rfl⟩ | ⟨c0, c1, c2, c3, c4, c5, c6, c7, c8, c9, c10, c11, c12, c13, h1, h2⟩
  · have hb := says_bad h1 e l rfl
    have HH := Lib.hid h1
    clear h1
    cbv
    refine Call.step (by rw [← hP]; exact qr) rfl ?_
    rintro r hr
    rcases hr with ⟨e', l', n0, n1, n2, n3, n4, n5, n6, n7, n8, n9, n10, n11, n12, n13, k1, k2, rfl⟩ | ⟨x0, x1, x2, x3, x4, x5, x6, x7, x8, x9, x10, x11, x12, x13, k1, rfl⟩
    · have hu := says_un HH.out k1
      simp only [Par.bad.injEq] at hu
      obtain ⟨rfl, rfl⟩ := hu
      clear k1
      cbv
      have cn : wcmp .neq e 0 = true := by rw [hcmp]; simp [cmpStd, h2]
      have cv : wconv .i64 e = e := by rw [hconv]; show IntKind.i64.wrap e = _; rw [IntKind.wrap_i64]; omega
      have ce : wcmp .eql e e = true := by rw [hcmp]; simp [cmpStd]
      have ce2 : wcmp .eql l l = true := by rw [hcmp]; simp [cmpStd]
      have cq : weqs [.int .i64 0, .int .i64 0, .int .i64 0, .int .i64 0, .int .i64 0, .int .i64 0, .int .i64 0, .int .i64 0, .int .i64 0, .int .i64 0, .int .i64 0, .int .i64 0, .int .i64 0, .int .i64 0] [.int .i64 0, .int .i64 0, .int .i64 0, .int .i64 0, .int .i64 0, .int .i64 0, .int .i64 0, .int .i64 0, .int .i64 0, .int .i64 0, .int .i64 0, .int .i64 0, .int .i64 0, .int .i64 0] [(0, 1), (1, 1), (2, 1), (3, 1), (4, 1), (5, 1), (6, 1), (7, 1), (8, 1), (9, 1), (10, 1), (11, 1), (12, 1), (13, 1)] = true := by rw [heqs]; exact eq_same 0 0 0 0 0 0 0 0 0 0 0 0 0 0
      repeat' (first
        | (simp only [cn]; cbv)
        | (simp only [cv])
        | (simp only [ce]; cbv)
        | (simp only [ce2]; cbv)
        | (simp only [cq])
        | fail)
      exact ⟨_, Vw.same rfl, hR _ rfl⟩
    · cases says_un HH.out k1
  · have HH := Lib.hid h1
    obtain ⟨w, ew⟩ : ∃ w, w = wrongV c0 c1 c2 c3 c4 c5 c6 c7 c8 c9 c10 c11 c12 c13 := ⟨_, rfl⟩
    rw [← ew] at h2
    have qw := e_wrong c0 c1 c2 c3 c4 c5 c6 c7 c8 c9 c10 c11 c12 c13
    rw [← ew] at qw
    obtain ⟨⟨hi0, hi1, hi2, hi3, hi4, hi5, hi6, hi7, hi8, hi9, hi10, hi11, hi12, hi13⟩, hst⟩ := says_cfg h1
    have qt := e_text14 c0 c1 c2 c3 c4 c5 c6 c7 c8 c9 c10 c11 c12 c13 hi0 hi1 hi2 hi3 hi4 hi5 hi6 hi7 hi8 hi9 hi10 hi11 hi12 hi13 s hst
    clear h1 ew hst hi0 hi1 hi2 hi3 hi4 hi5 hi6 hi7 hi8 hi9 hi10 hi11 hi12 hi13
    have qo := e_rof c0 c1 c2 c3 c4 c5 c6 c7 c8 c9 c10 c11 c12 c13
    have cn0 : wcmp .neq 0 0 = false := by rw [hcmp]; rfl
    have ce0 : wcmp .eql 0 0 = true := by rw [hcmp]; rfl
    have ce50 : wcmp .eql 50 50 = true := by rw [hcmp]; rfl
    have cew : wcmp .eql w w = true := by rw [hcmp]; simp [cmpStd]
    have cq : weqs [.int .i64 c0, .int .i64 c1, .int .i64 c2, .int .i64 c3, .int .i64 c4, .int .i64 c5, .int .i64 c6, .int .i64 c7, .int .i64 c8, .int .i64 c9, .int .i64 c10, .int .i64 c11, .int .i64 c12, .int .i64 c13] [.int .i64 c0, .int .i64 c1, .int .i64 c2, .int .i64 c3, .int .i64 c4, .int .i64 c5, .int .i64 c6, .int .i64 c7, .int .i64 c8, .int .i64 c9, .int .i64 c10, .int .i64 c11, .int .i64 c12, .int .i64 c13] [(0, 1), (1, 1), (2, 1), (3, 1), (4, 1), (5, 1), (6, 1), (7, 1), (8, 1), (9, 1), (10, 1), (11, 1), (12, 1), (13, 1)] = true := by rw [heqs]; exact eq_same c0 c1 c2 c3 c4 c5 c6 c7 c8 c9 c10 c11 c12 c13
    have cqz : weqs [.int .i64 0, .int .i64 0, .int .i64 0, .int .i64 0, .int .i64 0, .int .i64 0, .int .i64 0, .int .i64 0, .int .i64 0, .int .i64 0, .int .i64 0, .int .i64 0, .int .i64 0, .int .i64 0] [.int .i64 0, .int .i64 0, .int .i64 0, .int .i64 0, .int .i64 0, .int .i64 0, .int .i64 0, .int .i64 0, .int .i64 0, .int .i64 0, .int .i64 0, .int .i64 0, .int .i64 0, .int .i64 0] [(0, 1), (1, 1), (2, 1), (3, 1), (4, 1), (5, 1), (6, 1), (7, 1), (8, 1), (9, 1), (10, 1), (11, 1), (12, 1), (13, 1)] = true := by rw [heqs]; exact eq_same 0 0 0 0 0 0 0 0 0 0 0 0 0 0
    have ss : wscmp .eql s s = true := by rw [hscmp]; exact (sc_same s).2
    rcases h2 with ⟨h3, rfl⟩ | ⟨h3, rfl⟩
    · subst h3
      have cnw : wcmp .neq 0 0 = false := cn0
      cbv
      refine Call.step (by rw [← hP]; exact qr) rfl ?_
      rintro r hr
      rcases hr with ⟨e', l', n0, n1, n2, n3, n4, n5, n6, n7, n8, n9, n10, n11, n12, n13, k1, k2, rfl⟩ | ⟨x0, x1, x2, x3, x4, x5, x6, x7, x8, x9, x10, x11, x12, x13, k1, rfl⟩
      · cases says_un HH.out k1
      have e1 := says_un HH.out k1
      simp only [Par.good.injEq, List.cons.injEq, and_true] at e1
      obtain ⟨rfl, rfl, rfl, rfl, rfl, rfl, rfl, rfl, rfl, rfl, rfl, rfl, rfl, rfl⟩ := e1
      clear k1
      cbv
      repeat' (first
        | (simp only [cn0]; cbv)
        | (refine Call.stepE (by rw [← hP]; exact qo) rfl ?_; cbv)
        | (refine Call.stepE (by rw [← hP]; exact qw) rfl ?_; cbv)
        | (refine Call.stepE (by rw [← hP]; exact qt) rfl ?_; cbv)
        | (simp only [cnw]; cbv)
        | (simp only [ce0]; cbv)
        | (simp only [ce50]; cbv)
        | (simp only [cew]; cbv)
        | (simp only [cq]; cbv)
        | (simp only [cqz])
        | (simp only [ss])
        | fail)
      exact ⟨_, Vw.same rfl, hR _ rfl⟩
    · have cnw : wcmp .neq w 0 = true := by rw [hcmp]; simp [cmpStd, h3]
      cbv
      refine Call.step (by rw [← hP]; exact qr) rfl ?_
      rintro r hr
      rcases hr with ⟨e', l', n0, n1, n2, n3, n4, n5, n6, n7, n8, n9, n10, n11, n12, n13, k1, k2, rfl⟩ | ⟨x0, x1, x2, x3, x4, x5, x6, x7, x8, x9, x10, x11, x12, x13, k1, rfl⟩
      · cases says_un HH.out k1
      have e1 := says_un HH.out k1
      simp only [Par.good.injEq, List.cons.injEq, and_true] at e1
      obtain ⟨rfl, rfl, rfl, rfl, rfl, rfl, rfl, rfl, rfl, rfl, rfl, rfl, rfl, rfl⟩ := e1
      clear k1
      cbv
      repeat' (first
        | (simp only [cn0]; cbv)
        | (refine Call.stepE (by rw [← hP]; exact qo) rfl ?_; cbv)
        | (refine Call.stepE (by rw [← hP]; exact qw) rfl ?_; cbv)
        | (refine Call.stepE (by rw [← hP]; exact qt) rfl ?_; cbv)
        | (simp only [cnw]; cbv)
        | (simp only [ce0]; cbv)
        | (simp only [ce50]; cbv)
        | (simp only [cew]; cbv)
        | (simp only [cq]; cbv)
        | (simp only [cqz])
        | (simp only [ss])
        | fail)
      exact ⟨_, Vw.same rfl, hR _ rfl⟩
theorem e_wparses (s : ByteArray) : PCalls Tryd.prog 4 [.str s] (· = .bool true) := by
  by_cases h : s.size ≤ 2000
  · exact e_wparsesS s h
  · exact e_wparsesL s (by omega)
end Go.Proofs.YtdjafcjpnjdphaaDoor

/- The powers of ten, out of the row's own condition. -/
set_option linter.unusedVariables false
set_option linter.unusedSimpArgs false
namespace Go.Proofs.YtdjafcjpnjdphaaDoor
open Go Go.RowKit Go.Eng
set_option maxRecDepth 100000
def pows : List Int := [1, 10, 100, 1000, 10000, 100000, 1000000, 10000000, 100000000, 1000000000, 10000000000, 100000000000, 1000000000000, 10000000000000, 100000000000000, 1000000000000000, 10000000000000000, 100000000000000000, 1000000000000000000, 10000000000000000000]
theorem glo_pow {W : World} {l : List (String × DataW Unit)} (hp : (l.all fun x => x.2.handleName?.isNone) = true) {nm : String} {g : Nat} (hm : (nm, Rows.laid_internal_strconv_uint64pow10) ∈ l) (h : laidMetH Tryd.prog l W) (hg : Tryd.prog.globalNamed nm = some g) (hT : (Tryd.prog.globals[g]?).map (·.type) = some 83) :
    VR (cfg0 W) (.cref (pows.map (AV.int .u64))) (.pointer (some ⟨g, 0, none⟩)) ∧ ∃ ty, W.shape? g = some (ty, (pows.map (AV.int .u64)).length) := by
  rw [Go.MakeChecks.laidMetH_plain _ _ _ hp] at h
  obtain ⟨ps, hl, _⟩ := h
  obtain ⟨g', t, cs, fuel, p, h1, h2, h3, h4⟩ := laid_mem hl hm
  rw [hg] at h1
  obtain rfl := Option.some.inj h1
  rw [hT] at h2
  obtain rfl := Option.some.inj h2
  refine glo_ints hg h3 ?_
  have e : (Rows.laid_internal_strconv_uint64pow10 : DataW Unit) = .agg (pows.map fun x => .lit (.int .u64 x)) := rfl
  rw [e] at h4
  exact trod_ints (n := 20) (et := 72) (by kernel_rfl) (by kernel_rfl) (by kernel_rfl) (by kernel_rfl) h4
end Go.Proofs.YtdjafcjpnjdphaaDoor

/- What the laid variables of the word's statements hold. -/
set_option linter.unusedVariables false
set_option linter.unusedSimpArgs false
namespace Go.Proofs.YtdjafcjpnjdphaaDoor
open Go Go.RowKit Go.Eng
set_option maxRecDepth 100000
theorem trod_str1 {H : Type} {enc : TypeId × Value → H} {P : Program} {w : World} {base : Nat} {sp : Nat → Bool} {held : Bool} {fuel : Nat} {t : TypeId} {c : Value} {y : DataW H × List MemPlace} (ht : P.underlying t = some .string)
    (h : DataW.trod enc P w base sp held fuel t [c] = some y) : ∃ s, c = .string s ∧ y = (.lit (.string s.data.toList), []) := by
  cases fuel with
  | zero => simp [DataW.trod] at h
  | succ fuel =>
    cases c <;> simp [DataW.trod, ht] at h
    rename_i s
    obtain ⟨_, rfl⟩ := h
    exact ⟨s, rfl, rfl⟩
theorem trod_strs {H : Type} {enc : TypeId × Value → H} {P : Program} {w : World} {base : Nat} {sp : Nat → Bool} {held : Bool} {fuel n : Nat} {t et : TypeId} (ht : P.underlying t = some (.array n et)) (he : P.underlying et = some .string) (hc : P.cellsOf et = 1) (hct : P.cellsOf t = n)
    {cs : List Value} {ls : List ByteArray} {ps : List MemPlace} (h : DataW.trod enc P w base sp held fuel t cs = some (.agg (ls.map fun x => .lit (.string x.data.toList)), ps)) : cs = ls.map Value.string := by
  cases fuel with
  | zero => simp [DataW.trod] at h
  | succ fuel =>
    simp only [DataW.trod, ht, hct, hc] at h
    split at h
    · rename_i hl
      simp only [Option.map_eq_some_iff, Prod.mk.injEq, DataW.agg.injEq] at h
      obtain ⟨xs, hx, he1, _⟩ := h
      obtain ⟨h1, h2⟩ := mapM_get hx
      have hll : ls.length = n := by have := congrArg List.length he1; simp at this; simp at h1; omega
      apply List.ext_getElem?
      intro i
      by_cases hi : i < n
      · obtain ⟨y, hy, hyi⟩ := h2 i i (List.getElem?_range hi)
        have hd : (cs.drop (i * 1)).take 1 = [cs[i]'(by omega)] := by
          rw [Nat.mul_one, List.drop_eq_getElem_cons (by omega)]; rfl
        rw [hd] at hy
        obtain ⟨m, hm, rfl⟩ := trod_str1 he hy
        have hmi : (xs.map (·.1))[i]? = some (.lit (.string m.data.toList)) := by rw [List.getElem?_map, hyi]; rfl
        rw [he1, List.getElem?_map] at hmi
        obtain ⟨q, hq, e⟩ := Option.map_eq_some_iff.1 hmi
        simp only [DataW.lit.injEq, Lit.string.injEq] at e
        have e2 : q = m := tx_ext e
        rw [List.getElem?_eq_getElem (by omega), hm, List.getElem?_map, hq, ← e2]; rfl
      · rw [List.getElem?_eq_none (by omega), List.getElem?_eq_none (by simp; omega)]
    · cases h
theorem trod_iface {H : Type} {enc : TypeId × Value → H} {P : Program} {w : World} {base : Nat} {sp : Nat → Bool} {fuel : Nat} {t : TypeId} {ms} {cs : List Value} {nm : String} {d : DataW H} {ps : List MemPlace} (ht : P.underlying t = some (.interface ms))
    (h : DataW.trod enc P w base sp false fuel t cs = some (.iface nm d, ps)) : ∃ u v, cs = [.iface u v] ∧ P.typeName? 3 u = some nm := by
  cases fuel with
  | zero => simp [DataW.trod] at h
  | succ fuel =>
    cases cs with
    | nil => simp [DataW.trod, ht] at h
    | cons c r =>
      cases r with
      | cons => cases c <;> simp [DataW.trod, ht] at h
      | nil =>
        cases c <;> simp [DataW.trod, ht] at h
        rename_i u v
        split at h
        · first
            | contradiction
            | simp_all
            | fail
        · rename_i name hn
          cases hx : DataW.trod enc P w base sp false fuel u v.cells.toList with
          | none => rw [hx] at h; cases h
          | some x =>
            rw [hx] at h
            simp at h
            exact ⟨u, v, rfl, by rw [← h.1.1]; assumption⟩
        · cases h
theorem glo_vals {P : Program} {W : World} {name : String} {g : Nat} {cs : Array Value} {vals : List Value} {avs : List AV} (hg : P.globalNamed name = some g) (hv : W.var? P name = some cs) (hcs : cs.toList = vals) (hl : vals.length = avs.length) (hx : ∀ j x, avs[j]? = some x → VR (cfg0 W) x (vals.getD j .nilIface)) :
    VR (cfg0 W) (.cref avs) (.pointer (some ⟨g, 0, none⟩)) ∧ ∃ ty, W.shape? g = some (ty, avs.length) := by
  have hsz : cs.size = avs.length := by rw [← Array.length_toList, hcs, hl]
  have hj : ∀ j, j < avs.length → cs[j]? = some (vals.getD j .nilIface) := fun j hj => by
    rw [← Array.getElem?_toList, hcs, List.getD_eq_getElem?_getD, List.getElem?_eq_getElem (by omega)]; rfl
  refine ⟨?_, ?_⟩
  rotate_left 1
  · simp only [World.var?, hg, Option.bind_some] at hv
    split at hv
    · rename_i c1 el fz1 heq
      simp only [Option.some.injEq] at hv
      subst hv
      unfold World.shape?
      rw [heq]
      exact ⟨el, by rw [← hsz]⟩
    · cases hv
  refine .cref _ _ (fun j => vals.getD j .nilIface) rfl (fun j hjl => ?_) (fun _ h => ?_) hx
  · have := World.var?_cell hg hv j
    show W.cell? ⟨g, 0 + j, none⟩ = _
    rw [Nat.zero_add, this, hj j hjl]
  · rcases h with h | ⟨s, ⟨z, es, h⟩, _⟩
    · exact h
    · simp [cfg0] at h
theorem glo_sent {W : World} {l : List (String × DataW Unit)} (hp : (l.all fun x => x.2.handleName?.isNone) = true) {n nt : String} {d : DataW Unit} (hm : (n, .iface nt d) ∈ l) (hnt : ∀ u, Tryd.prog.typeName? 3 u = some nt → u = 109) (h : laidMetH Tryd.prog l W) {g : Nat} (hg : Tryd.prog.globalNamed n = some g) {t : TypeId} (ht : (Tryd.prog.globals[g]?).map (·.type) = some t) (hu : (match Tryd.prog.underlying t with | some (.interface _) => true | _ => false) = true) :
    VR (cfg0 W) (.cref [AV.iface 109 .any]) (.pointer (some ⟨g, 0, none⟩)) ∧ ∃ ty, W.shape? g = some (ty, [AV.iface 109 .any].length) := by
  rw [Go.MakeChecks.laidMetH_plain _ _ _ hp] at h
  obtain ⟨ps, hl, _⟩ := h
  obtain ⟨g', t', cs, fuel, p, h1, h2, h3, h4⟩ := laid_mem hl hm
  rw [hg] at h1
  obtain rfl := Option.some.inj h1
  rw [ht] at h2
  obtain rfl := Option.some.inj h2
  obtain ⟨ms, hms⟩ : ∃ ms, Tryd.prog.underlying t = some (.interface ms) := by
    revert hu
    split
    · rename_i ms hms; exact fun _ => ⟨ms, hms⟩
    · intro h; cases h
  obtain ⟨u, v, hc, hn⟩ := trod_iface hms h4
  obtain rfl := hnt u hn
  refine glo_vals hg h3 hc rfl fun j x hx => ?_
  cases j with
  | zero => simp at hx; subst hx; exact .iface _ _ _ (.any _)
  | succ j => simp at hx
theorem glo_nms {W : World} {l : List (String × DataW Unit)} (hp : (l.all fun x => x.2.handleName?.isNone) = true) {n : String} (hm : (n, Rows.laid_odograph_word_names) ∈ l) (h : laidMetH Tryd.prog l W) {g : Nat} (hg : Tryd.prog.globalNamed n = some g) (hT : (Tryd.prog.globals[g]?).map (·.type) = some 48) :
    VR (cfg0 W) (.cref (nmsB.map AV.str)) (.pointer (some ⟨g, 0, none⟩)) ∧ ∃ ty, W.shape? g = some (ty, (nmsB.map AV.str).length) := by
  rw [Go.MakeChecks.laidMetH_plain _ _ _ hp] at h
  obtain ⟨ps, hl, _⟩ := h
  obtain ⟨g', t', cs, fuel, p, h1, h2, h3, h4⟩ := laid_mem hl hm
  rw [hg] at h1
  obtain rfl := Option.some.inj h1
  rw [hT] at h2
  obtain rfl := Option.some.inj h2
  have e : (Rows.laid_odograph_word_names : DataW Unit) = .agg (nmsB.map fun x => .lit (.string x.data.toList)) := rfl
  rw [e] at h4
  have hc := trod_strs (n := 15) (et := 9) (by kernel_rfl) (by kernel_rfl) (by kernel_rfl) (by kernel_rfl) h4
  refine glo_vals hg h3 hc (by simp) fun j x hx => ?_
  rw [List.getElem?_map] at hx
  obtain ⟨q, hq, rfl⟩ := Option.map_eq_some_iff.1 hx
  rw [List.getD_eq_getElem?_getD, List.getElem?_map, hq]
  exact .str q
theorem glo_word {W : World} {l : List (String × DataW Unit)} (hp : (l.all fun x => x.2.handleName?.isNone) = true) (h : laidMetH Tryd.prog l W) {n1 n2 n3 n4 nt : String} {d3 d4 : DataW Unit} {i1 i2 i3 i4 : Nat} (m1 : l[i1]? = some (n1, Rows.laid_odograph_word_names)) (m2 : l[i2]? = some (n2, Rows.laid_internal_strconv_uint64pow10)) (m3 : l[i3]? = some (n3, .iface nt d3)) (m4 : l[i4]? = some (n4, .iface nt d4))
    (g1 : Tryd.prog.globalNamed n1 = some 0) (g2 : Tryd.prog.globalNamed n2 = some 1) (g3 : Tryd.prog.globalNamed n3 = some 3) (g4 : Tryd.prog.globalNamed n4 = some 4) (hnt : ∀ u, Tryd.prog.typeName? 3 u = some nt → u = 109) : Glo W := by
  have hn := glo_nms hp (List.mem_of_getElem? m1) h g1 (by kernel_rfl)
  have h2 := glo_pow hp (List.mem_of_getElem? m2) h g2 (by kernel_rfl)
  have hs := glo_sent hp (List.mem_of_getElem? m3) hnt h g3 (t := 45) (by kernel_rfl) (by kernel_rfl)
  have hr := glo_sent hp (List.mem_of_getElem? m4) hnt h g4 (t := 45) (by kernel_rfl) (by kernel_rfl)
  intro p hp
  simp only [gs, List.mem_cons, List.not_mem_nil, or_false] at hp
  rcases hp with rfl | rfl | rfl | rfl
  · exact hn
  · exact h2
  · exact hs
  · exact hr
end Go.Proofs.YtdjafcjpnjdphaaDoor

/- WordParses, joined. -/
set_option linter.unusedVariables false
set_option maxRecDepth 100000
namespace Go.Proofs.YtdjafcjpnjdphaaDoor
open Go Go.RowKit Go.Eng
theorem walk_WordParses (x0 : AV) (h0 : TyV Tryd.prog 8 9 x0) : PCalls Tryd.prog 4 [x0] (fun r => r = .bool true) := by
  obtain ⟨s, rfl⟩ := ty_str x0 h0
  exact e_wparses s
theorem glo_WordParses {W : World} (h : laidMetH Tryd.prog Rows.wordParsesRow.laid W) : Glo W :=
  glo_word (i1 := 5) (i2 := 2) (i3 := 4) (i4 := 3) (by kernel_rfl) h rfl rfl rfl rfl (by kernel_rfl) (by kernel_rfl) (by kernel_rfl) (by kernel_rfl) (fun u hu => typeName_ptr_named (nm := "errors.errorString") (by kernel_rfl) (by kernel_rfl) (by decide) u hu)
end Go.Proofs.YtdjafcjpnjdphaaDoor

