/- The document's fused speed, by the engine: its parts. -/
import Derived.Test.YtfonjmhnokailaaFuseV
import Derived.Test.YtfonjmhnokailaaVoteBy
import Derived.KernelRfl
set_option linter.unusedVariables false
set_option linter.unusedSimpArgs false
namespace Go.Proofs.Ytfonjmhnokailaa
open Go Go.RowKit Go.Eng
set_option maxRecDepth 100000
theorem d_common (a b c d l h : Int) (o : Bool) (e1 : max a c = l) (e2 : min b d = h) (e3 : meetB a b c d = o) : PCalls Try.prog 28 [sp2 a b, sp2 c d] (· = .tuple [sp2 l h, .bool o]) := by
  (refine PCalls.ofY Try.func28 (by kernel_rfl) (by kernel_rfl) fun w hw R hR => ?_); (obtain ⟨wbin, wcmp, wun, wconv, wnot, wbeq, wmm, wscmp, wsadd, wslen, wsat, weqs, wlen, wnlen, wofNat, wtake, wdrop, wapp, wzero, wnat⟩ := w); (have hbin : wbin = binStd := congrArg Prims.bin hw); (have hcmp : wcmp = cmpStd := congrArg Prims.cmp hw); (have hun : wun = unStd := congrArg Prims.un hw); (have hconv : wconv = fun k n => k.wrap n := congrArg Prims.conv hw); (have hnot : wnot = fun b => !b := congrArg Prims.not hw); (have hbeq : wbeq = fun a b => a == b := congrArg Prims.beq hw); (have hmm : wmm = maxI := congrArg Prims.mm hw); (have hscmp : wscmp = scmpStd := congrArg Prims.scmp hw); (have hsadd : wsadd = fun x y => x ++ y := congrArg Prims.sadd hw); (have hslen : wslen = fun s => (s.size : Int) := congrArg Prims.slen hw); (have hsat : wsat = std.sat := congrArg Prims.sat hw); (have heqs : weqs = fun a b os => (eqOffs a b os).getD false := congrArg Prims.eqs hw); (have hlen : wlen = fun es => (es.length : Int) := congrArg Prims.len hw); (have hnlen : wnlen = fun es => es.length := congrArg Prims.nlen hw); (have hofNat : wofNat = (fun n : Nat => (n : Int)) := congrArg Prims.ofNat hw); (have htake : wtake = fun es b => es.take b.toNat := congrArg Prims.take hw); (have hdrop : wdrop = fun es a => es.drop a.toNat := congrArg Prims.drop hw); (have happ : wapp = fun a b => a ++ b := congrArg Prims.app hw); (have hzero : wzero = fun n z => List.replicate n.toNat z := congrArg Prims.zero hw); (have hnat : wnat = fun n => n.toNat := congrArg Prims.nat hw); (conv => arg 2; cbv); (generalize hP : Try.prog = P); cbv
  have m1 : wmm true a c = l := by rw [hmm, ← e1]; simp only [maxI, if_true]; split <;> omega
  have m2 : wmm false b d = h := by rw [hmm, ← e2]; simp only [maxI, Bool.false_eq_true, if_false]; split <;> omega
  refine ⟨_, Vw.same rfl, hR _ ?_⟩
  rw [m1, m2, hcmp, ← e3, ← e1, ← e2]
  rfl
/-- A number within 2^60. -/
def I60 (a : Int) : Prop := -1152921504606846976 ≤ a ∧ a ≤ 1152921504606846976
theorem d_mid (a b : Int) (ha : I60 a) (hb : I60 b) : PCalls Try.prog 29 [.int .i64 a, .int .i64 b] (· = .int .i64 ((a + b) / 2)) := by
  unfold I60 at ha hb
  (refine PCalls.ofY Try.func29 (by kernel_rfl) (by kernel_rfl) fun w hw R hR => ?_); (obtain ⟨wbin, wcmp, wun, wconv, wnot, wbeq, wmm, wscmp, wsadd, wslen, wsat, weqs, wlen, wnlen, wofNat, wtake, wdrop, wapp, wzero, wnat⟩ := w); (have hbin : wbin = binStd := congrArg Prims.bin hw); (have hcmp : wcmp = cmpStd := congrArg Prims.cmp hw); (have hun : wun = unStd := congrArg Prims.un hw); (have hconv : wconv = fun k n => k.wrap n := congrArg Prims.conv hw); (have hnot : wnot = fun b => !b := congrArg Prims.not hw); (have hbeq : wbeq = fun a b => a == b := congrArg Prims.beq hw); (have hmm : wmm = maxI := congrArg Prims.mm hw); (have hscmp : wscmp = scmpStd := congrArg Prims.scmp hw); (have hsadd : wsadd = fun x y => x ++ y := congrArg Prims.sadd hw); (have hslen : wslen = fun s => (s.size : Int) := congrArg Prims.slen hw); (have hsat : wsat = std.sat := congrArg Prims.sat hw); (have heqs : weqs = fun a b os => (eqOffs a b os).getD false := congrArg Prims.eqs hw); (have hlen : wlen = fun es => (es.length : Int) := congrArg Prims.len hw); (have hnlen : wnlen = fun es => es.length := congrArg Prims.nlen hw); (have hofNat : wofNat = (fun n : Nat => (n : Int)) := congrArg Prims.ofNat hw); (have htake : wtake = fun es b => es.take b.toNat := congrArg Prims.take hw); (have hdrop : wdrop = fun es a => es.drop a.toNat := congrArg Prims.drop hw); (have happ : wapp = fun a b => a ++ b := congrArg Prims.app hw); (have hzero : wzero = fun n z => List.replicate n.toNat z := congrArg Prims.zero hw); (have hnat : wnat = fun n => n.toNat := congrArg Prims.nat hw); (conv => arg 2; cbv); (generalize hP : Try.prog = P); cbv
  obtain ⟨s, es⟩ : ∃ x, a + b = x := ⟨_, rfl⟩
  have e1 : wbin .add .i64 a b = s := by rw [hbin, ← es]; exact i_add (by omega) (by omega)
  obtain ⟨q, eq⟩ : ∃ x, s.tdiv 2 = x := ⟨_, rfl⟩
  obtain ⟨t, et⟩ : ∃ x, s.tmod 2 = x := ⟨_, rfl⟩
  have hq : q = s / 2 + (if 0 ≤ s ∨ (2 : Int) ∣ s then 0 else 1) := by rw [← eq, Int.tdiv_eq_ediv]; rfl
  have ht : t = s % 2 - (if 0 ≤ s ∨ (2 : Int) ∣ s then 0 else 2) := by rw [← et, Int.tmod_eq_emod]; congr 1; split <;> rfl
  have hq2 : q = s / 2 + (if 0 ≤ s ∨ s % 2 = 0 then 0 else 1) := by rw [hq]; congr 1; split <;> split <;> omega
  have ht2 : t = s % 2 - (if 0 ≤ s ∨ s % 2 = 0 then 0 else 2) := by rw [ht]; congr 1; split <;> split <;> omega
  clear hq ht
  have e2 : wbin .quo .i64 s 2 = q := by
    rw [hbin]
    show IntKind.i64.wrap (s.tdiv 2) = q
    rw [eq, IntKind.wrap_i64]; split at hq2 <;> omega
  have e3 : wbin .rem .i64 s 2 = t := by
    rw [hbin]
    exact et
  simp only [e1, e2, e3]
  refine Nz.mk (by decide) ?_
  refine Nz.mk (by decide) ?_
  (split <;> rename_i h <;> (try (simp only [hbin, hcmp, hun, hconv, hnot, hbeq, hmm, hscmp, hsadd, hslen, hsat, heqs, hofNat, binStd, cmpStd, unStd, scmpStd, maxI, Bool.not_eq_true', Bool.not_eq_false', decide_eq_true_eq, decide_eq_false_iff_not, Int.not_lt, Int.not_le, if_true, if_false, Bool.false_eq_true, beq_iff_eq, bne_iff_ne, ne_eq, Bool.not_eq_eq_eq_not, Bool.not_true, Bool.not_false, beq_eq_false_iff_ne, bne_eq_false_iff_eq, Int.ofNat_eq_natCast, Bool.not_not, not_true_eq_false, not_false_eq_true, reduceCtorEq] at h)) <;> (try cbv))
  · refine ⟨_, Vw.same rfl, hR _ (congrArg (AV.int .i64) ?_)⟩
    rw [hbin, i_sub (by split at hq2 <;> omega) (by split at hq2 <;> omega)]
    split at hq2 <;> split at ht2 <;> omega
  · refine ⟨_, Vw.same rfl, hR _ (congrArg (AV.int .i64) ?_)⟩
    split at hq2 <;> split at ht2 <;> omega
/-- The least span that all have. -/
theorem d_byAll {ps : List (Int × Int)} {tl th : Int} {ok ag : Bool} (ht : TogIs ps tl th ok ag) (h0 : 0 < ps.length) (h3 : ps.length ≤ 3) (es : List (List AV)) (hes : es = spRows ps) (n : Int) (hn : n = ps.length) :
    PCalls Try.prog 26 [.list 2 es, .int .i64 n] (fun r => ∃ l h, r = .tuple [sp2 l h, .bool ag] ∧ (ag = true → l = tl ∧ h = th)) := by
  refine (e_By ps es hes n (by omega)).mono ?_
  rintro r ⟨lo, hi, o, f, g, rfl, h1, h2, rfl⟩
  rcases ht.it with ⟨c1, c2, c3⟩ | ⟨l, h, c1, c2, _⟩
  · rcases all_law hn h0 c1 h1 h2 with ⟨_, e, _⟩ | ⟨e1, _, e2, e3⟩
    · cases e
    · exact ⟨lo, hi, by rw [e1, c3], fun _ => ⟨e2.symm, e3.symm⟩⟩
  · rcases all_law hn h0 c1 h1 h2 with ⟨e1, _, _⟩ | ⟨_, e, _⟩
    · exact ⟨lo, hi, by rw [e1, c2], fun h => by rw [c2] at h; cases h⟩
    · cases e
theorem d_byTwo {ps : List (Int × Int)} {tl th : Int} {ok ag : Bool} (ht : TogIs ps tl th ok ag) (h3 : ps.length = 3) (ha : ag = false) (es : List (List AV)) (hes : es = spRows ps) :
    PCalls Try.prog 26 [.list 2 es, .int .i64 2] (fun r => ∃ l h, r = .tuple [sp2 l h, .bool ok] ∧ (ok = true → l = tl ∧ h = th)) := by
  refine (e_By ps es hes 2 (by omega)).mono ?_
  rintro r ⟨lo, hi, o, f, g, rfl, h1, h2, rfl⟩
  rcases ht.it with ⟨_, _, c3⟩ | ⟨l, h, _, _, ⟨c, _⟩ | ⟨_, c2⟩⟩
  · rw [c3] at ha; cases ha
  · omega
  · rcases two_law c2 h1 h2 with ⟨e1, e2, _⟩ | ⟨e1, e2, e3, e4⟩
    · exact ⟨lo, hi, by rw [e1, e2], fun h => by rw [e2] at h; cases h⟩
    · exact ⟨lo, hi, by rw [e1, e2], fun _ => ⟨e3.symm, e4.symm⟩⟩
end Go.Proofs.Ytfonjmhnokailaa
