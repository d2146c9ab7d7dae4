/- Texts of the proof of LimitFast, joined by wip/tools/pack.py. -/
import Derived.Test.YtjfbecnappgjjaaLimitFastP0
import Derived.KernelRfl
import Derived.Test.YtjfbecnappgjjaaEng28
import Derived.Test.YtjfbecnappgjjaaEng31
import Derived.Test.YtjfbecnappgjjaaEng26
/- A track that may be, by the engine. -/
set_option linter.unusedVariables false
set_option linter.unusedSimpArgs false
namespace Go.Proofs.Ytjfbecnappgjjaa
open Go Go.RowKit Go.Eng
set_option maxRecDepth 100000
/-- A piece that may be, by the one ahead of it. -/
def PcOk (ps : List (Int × Int)) (len : Int) (j : Nat) : Prop :=
  ∀ p, ps[j]? = some p → -1048576 ≤ p.2 ∧ p.2 ≤ 1048576 ∧ p.1 < len ∧ (0 < j → ∀ o, ps[j - 1]? = some o → o.1 < p.1)
structure MayOk (ps : List (Int × Int)) (len : Int) : Prop where
  ne : 1 ≤ ps.length
  le : ps.length ≤ 64
  zero : ∀ p, ps[0]? = some p → p.1 = 0
  all : ∀ j, j < ps.length → PcOk ps len j
theorem all_step {P : Nat → Prop} {i : Int} (h0 : 0 ≤ i) (h : ∀ j, j < i.toNat → P j) (hi : P i.toNat) : ∀ j, j < (i + 1).toNat → P j := by
  intro j hj
  by_cases e : j = i.toNat
  · rw [e]; exact hi
  · exact h j (by omega)
theorem e_may10 (ps : List (Int × Int)) (q : List (List AV)) (hq : q = ps.map pcRow) (len : Int) : PCalls Try.prog 67 [.list 2 q, .int .i64 len] (fun r => ∃ o : Bool, r = .bool o ∧ (o = true ↔ MayOk ps len)) := by
  have hu : Up0 q := by rw [hq]; exact up_pc ps
  have hql : q.length = ps.length := by rw [hq]; simp
  (refine PCalls.ofY Try.func67 (by kernel_rfl) (by kernel_rfl) fun w hw R hR => ?_); (obtain ⟨wbin, wcmp, wun, wconv, wnot, wbeq, wmm, wscmp, wsadd, wslen, wsat, weqs, wlen, wnlen, wofNat, wtake, wdrop, wapp, wzero, wnat⟩ := w); (have hbin : wbin = binStd := congrArg Prims.bin hw); (have hcmp : wcmp = cmpStd := congrArg Prims.cmp hw); (have hun : wun = unStd := congrArg Prims.un hw); (have hconv : wconv = fun k n => k.wrap n := congrArg Prims.conv hw); (have hnot : wnot = fun b => !b := congrArg Prims.not hw); (have hbeq : wbeq = fun a b => a == b := congrArg Prims.beq hw); (have hmm : wmm = maxI := congrArg Prims.mm hw); (have hscmp : wscmp = scmpStd := congrArg Prims.scmp hw); (have hsadd : wsadd = fun x y => x ++ y := congrArg Prims.sadd hw); (have hslen : wslen = fun s => (s.size : Int) := congrArg Prims.slen hw); (have hsat : wsat = std.sat := congrArg Prims.sat hw); (have heqs : weqs = fun a b os => (eqOffs a b os).getD false := congrArg Prims.eqs hw); (have hlen : wlen = fun es => (es.length : Int) := congrArg Prims.len hw); (have hnlen : wnlen = fun es => es.length := congrArg Prims.nlen hw); (have hofNat : wofNat = (fun n : Nat => (n : Int)) := congrArg Prims.ofNat hw); (have htake : wtake = fun es b => es.take b.toNat := congrArg Prims.take hw); (have hdrop : wdrop = fun es a => es.drop a.toNat := congrArg Prims.drop hw); (have happ : wapp = fun a b => a ++ b := congrArg Prims.app hw); (have hzero : wzero = fun n z => List.replicate n.toNat z := congrArg Prims.zero hw); (have hnat : wnat = fun n => n.toNat := congrArg Prims.nat hw); (conv => arg 2; cbv); (generalize hP : Try.prog = P); cbv
  (obtain ⟨L, eL, L0, Ln⟩ : ∃ L : Int, wlen q = L ∧ 0 ≤ L ∧ L.toNat = q.length := ⟨(q.length : Int), by rw [hlen], Int.natCast_nonneg _, Int.toNat_natCast _⟩)
  have hF : ¬ MayOk ps len → R (.bool false) := fun hn => hR _ ⟨_, rfl, ⟨fun h => (by cases h), fun h => absurd h hn⟩⟩
  (split <;> rename_i h1 <;> (try (simp only [eL] at h1)) <;> (try (simp only [hbin, hcmp, hun, hconv, hnot, hbeq, hmm, hscmp, hsadd, hslen, hsat, heqs, hofNat, binStd, cmpStd, unStd, scmpStd, maxI, Bool.not_eq_true', Bool.not_eq_false', decide_eq_true_eq, decide_eq_false_iff_not, Int.not_lt, Int.not_le, if_true, if_false, Bool.false_eq_true, beq_iff_eq, bne_iff_ne, ne_eq, Bool.not_eq_eq_eq_not, Bool.not_true, Bool.not_false, beq_eq_false_iff_ne, bne_eq_false_iff_eq, Int.ofNat_eq_natCast, Bool.not_not, not_true_eq_false, not_false_eq_true, reduceCtorEq] at h1)) <;> (try cbv))
  · exact ⟨_, Vw.same rfl, hF fun hM => (by have := hM.ne; omega)⟩
  (split <;> rename_i h2 <;> (try (simp only [eL] at h2)) <;> (try (simp only [hbin, hcmp, hun, hconv, hnot, hbeq, hmm, hscmp, hsadd, hslen, hsat, heqs, hofNat, binStd, cmpStd, unStd, scmpStd, maxI, Bool.not_eq_true', Bool.not_eq_false', decide_eq_true_eq, decide_eq_false_iff_not, Int.not_lt, Int.not_le, if_true, if_false, Bool.false_eq_true, beq_iff_eq, bne_iff_ne, ne_eq, Bool.not_eq_eq_eq_not, Bool.not_true, Bool.not_false, beq_eq_false_iff_ne, bne_eq_false_iff_eq, Int.ofNat_eq_natCast, Bool.not_not, not_true_eq_false, not_false_eq_true, reduceCtorEq] at h2)) <;> (try cbv))
  · exact ⟨_, Vw.same rfl, hF fun hM => (by have := hM.le; omega)⟩
  obtain ⟨⟨x, y⟩, hd, hrow⟩ := get_map (f := pcRow) (ds := ps) (i := 0) (Int.le_refl 0) (by omega)
  have hrow : q[(0 : Int).toNat]? = some [.int .i64 x, .int .i64 y] := by rw [hq]; exact hrow
  refine Idx.mk [.int .i64 x, .int .i64 y] (by decide) hrow ?_
  cbv
  (split <;> rename_i h3 <;> (try (simp only [hbin, hcmp, hun, hconv, hnot, hbeq, hmm, hscmp, hsadd, hslen, hsat, heqs, hofNat, binStd, cmpStd, unStd, scmpStd, maxI, Bool.not_eq_true', Bool.not_eq_false', decide_eq_true_eq, decide_eq_false_iff_not, Int.not_lt, Int.not_le, if_true, if_false, Bool.false_eq_true, beq_iff_eq, bne_iff_ne, ne_eq, Bool.not_eq_eq_eq_not, Bool.not_true, Bool.not_false, beq_eq_false_iff_ne, bne_eq_false_iff_eq, Int.ofNat_eq_natCast, Bool.not_not, not_true_eq_false, not_false_eq_true, reduceCtorEq] at h3)) <;> (try cbv))
  · exact ⟨_, Vw.same rfl, hF fun hM => h3 (hM.zero _ hd)⟩
  refine Loop.data hw (S := Int) (fun i => fr 66 [(0, .list 2 q), (1, .int .i64 len), (5, .int .i64 i)]) (fun i => []) (fun i => 0 ≤ i ∧ i ≤ L ∧ ∀ j, j < i.toNat → PcOk ps len j) (fun i => (L - i).toNat) 0 (by (refine Wk.eqz (id) (by first | exact fun i _ j _ e => e | (simp only [List.length_cons, List.length_nil]; decide)) ?_; cbv; (repeat' (first | exact trivial | rfl | assumption | apply And.intro | (simp only [hbin, hcmp, hun, hconv, hnot, hbeq, hmm, hscmp, hsadd, hslen, hsat, heqs, hofNat, binStd, cmpStd, unStd, scmpStd, maxI, Bool.not_eq_true', Bool.not_eq_false', decide_eq_true_eq, decide_eq_false_iff_not, Int.not_lt, Int.not_le, if_true, if_false, Bool.false_eq_true, beq_iff_eq, bne_iff_ne, ne_eq, Bool.not_eq_eq_eq_not, Bool.not_true, Bool.not_false, beq_eq_false_iff_ne, bne_eq_false_iff_eq, Int.ofNat_eq_natCast, Bool.not_not, not_true_eq_false, not_false_eq_true, reduceCtorEq]; first | done | assumption) | exact RowsZ.same (by assumption) (by first | assumption | rfl) | exact FzL.mk rfl rfl rfl (by assumption) (by first | assumption | rfl) (by decide) | (refine RowsZ.one ?_; cbv))))) ⟨Int.le_refl _, L0, fun j hj => (by simp at hj)⟩ ?_
  rintro i hinv Q' hN hE hR'
  have hinv : 0 ≤ i ∧ i ≤ L ∧ ∀ j, j < i.toNat → PcOk ps len j := hinv
  cbv
  obtain ⟨hi0, hi1, hl⟩ := hinv
  (split <;> rename_i hc <;> (try (simp only [eL] at hc)) <;> (try (simp only [hbin, hcmp, hun, hconv, hnot, hbeq, hmm, hscmp, hsadd, hslen, hsat, heqs, hofNat, binStd, cmpStd, unStd, scmpStd, maxI, Bool.not_eq_true', Bool.not_eq_false', decide_eq_true_eq, decide_eq_false_iff_not, Int.not_lt, Int.not_le, if_true, if_false, Bool.false_eq_true, beq_iff_eq, bne_iff_ne, ne_eq, Bool.not_eq_eq_eq_not, Bool.not_true, Bool.not_false, beq_eq_false_iff_ne, bne_eq_false_iff_eq, Int.ofNat_eq_natCast, Bool.not_not, not_true_eq_false, not_false_eq_true, reduceCtorEq] at hc)) <;> (try cbv))
  · obtain ⟨⟨a, b⟩, hd2, hrow2⟩ := get_map (f := pcRow) (ds := ps) (i := i) hi0 (by omega)
    have hrow2 : q[i.toNat]? = some [.int .i64 a, .int .i64 b] := by rw [hq]; exact hrow2
    obtain ⟨i', ei'⟩ : ∃ x, i + 1 = x := ⟨_, rfl⟩
    obtain ⟨im, eim⟩ : ∃ x, i - 1 = x := ⟨_, rfl⟩
    have ei : wbin .add .i64 i 1 = i' := by rw [hbin, i_add (by omega) (by omega)]; exact ei'
    have em : wbin .sub .i64 i 1 = im := by rw [hbin, i_sub (by omega) (by omega)]; exact eim
    have hT : (L - i').toNat < (L - i).toNat := by omega
    obtain ⟨a', b', hp'⟩ : ∃ a' b', 0 < i → 0 ≤ im ∧ ps[i.toNat - 1]? = some (a', b') ∧ q[im.toNat]? = some [.int .i64 a', .int .i64 b'] := by
      by_cases h : 0 < i
      · obtain ⟨⟨a', b'⟩, k1, k2⟩ := get_map (f := pcRow) (ds := ps) (i := im) (by omega) (by omega)
        exact ⟨a', b', fun _ => ⟨by omega, by rw [← k1]; congr 1; omega, by rw [hq]; exact k2⟩⟩
      · exact ⟨0, 0, fun h' => absurd h' h⟩
    have fin : (-1048576 ≤ b ∧ b ≤ 1048576 ∧ a < len ∧ (0 < i → a' < a)) → ∀ j, j < i'.toNat → PcOk ps len j := by
      intro hh
      rw [← ei']
      refine all_step hi0 hl fun p hp => ?_
      rw [hd2] at hp
      obtain rfl : (a, b) = p := by simpa using hp
      refine ⟨hh.1, hh.2.1, hh.2.2.1, fun hj o ho => ?_⟩
      rw [(hp' (by omega)).2.1] at ho
      obtain rfl : (a', b') = o := by simpa using ho
      exact hh.2.2.2 (by omega)
    have bad : MayOk ps len → -1048576 ≤ b ∧ b ≤ 1048576 ∧ a < len ∧ (0 < i → a' < a) := by
      intro hM
      obtain ⟨m1, m2, m3, m4⟩ := hM.all i.toNat (by omega) _ hd2
      exact ⟨m1, m2, m3, fun h => m4 (by omega) _ (hp' h).2.1⟩
    repeat' (first
      | (refine hR' _ _ ⟨_, Vw.same rfl, hF fun hM => ?_⟩; obtain ⟨m1, m2, m3, m4⟩ := bad hM; clear hN hE hR' hR hF; omega)
      | (refine Idx.mk [.int .i64 a, .int .i64 b] hi0 hrow2 ?_; cbv)
      | (simp only [em]; refine Idx.mk [.int .i64 a', .int .i64 b'] (hp' (by assumption)).1 (hp' (by assumption)).2.2 ?_; cbv)
      | (split <;> rename_i h <;> (try (simp only [hbin, hcmp, hun, hconv, hnot, hbeq, hmm, hscmp, hsadd, hslen, hsat, heqs, hofNat, binStd, cmpStd, unStd, scmpStd, maxI, Bool.not_eq_true', Bool.not_eq_false', decide_eq_true_eq, decide_eq_false_iff_not, Int.not_lt, Int.not_le, if_true, if_false, Bool.false_eq_true, beq_iff_eq, bne_iff_ne, ne_eq, Bool.not_eq_eq_eq_not, Bool.not_true, Bool.not_false, beq_eq_false_iff_ne, bne_eq_false_iff_eq, Int.ofNat_eq_natCast, Bool.not_not, not_true_eq_false, not_false_eq_true, reduceCtorEq] at h)) <;> (try cbv)))
    all_goals
      refine hN i' _ _ ?hx ?hi hT
      case hx => (refine Wk.eqz (id) (by first | exact fun i _ j _ e => e | (simp only [List.length_cons, List.length_nil]; decide)) ?_; cbv; (repeat' (first | exact trivial | rfl | assumption | apply And.intro | (simp only [hbin, hcmp, hun, hconv, hnot, hbeq, hmm, hscmp, hsadd, hslen, hsat, heqs, hofNat, binStd, cmpStd, unStd, scmpStd, maxI, Bool.not_eq_true', Bool.not_eq_false', decide_eq_true_eq, decide_eq_false_iff_not, Int.not_lt, Int.not_le, if_true, if_false, Bool.false_eq_true, beq_iff_eq, bne_iff_ne, ne_eq, Bool.not_eq_eq_eq_not, Bool.not_true, Bool.not_false, beq_eq_false_iff_ne, bne_eq_false_iff_eq, Int.ofNat_eq_natCast, Bool.not_not, not_true_eq_false, not_false_eq_true, reduceCtorEq]; first | done | assumption) | exact RowsZ.same (by assumption) (by first | assumption | rfl) | exact FzL.mk rfl rfl rfl (by assumption) (by first | assumption | rfl) (by decide) | (refine RowsZ.one ?_; cbv))))
      case hi => exact ⟨by omega, by omega, fin ⟨by omega, by omega, by omega, by omega⟩⟩
  · refine hE _ _ _ ?_
    cbv
    exact ⟨_, Vw.same rfl, hR _ ⟨_, rfl, ⟨fun _ => ⟨by omega, by omega, fun p hp => (by rw [show ps[0]? = some (x, y) from hd] at hp; obtain rfl : (x, y) = p := (by simpa using hp); exact h3), fun j hj => hl j (by omega)⟩, fun _ => rfl⟩⟩⟩
/-- A segment that may be, of so many. -/
structure SegOk (s : Sg) (many : Int) : Prop where
  pos : 1 ≤ s.len
  le : s.len ≤ 1099511627776
  may : MayOk s.ps s.len
  two : s.nx.length ≤ 2
  nx : ∀ j, j < s.nx.length → ∀ n, s.nx[j]? = some n → 0 ≤ n ∧ n < many
  lt : ∀ a b, s.nx[0]? = some a → s.nx[1]? = some b → a < b
theorem e_seg11 (s : Sg) (q n1 : List (List AV)) (hq : q = s.ps.map pcRow) (hn1 : n1 = s.nx.map nxRow) (many : Int) : PCalls Try.prog 54 [.agg [.int .i64 s.len, .list 2 q, .list 1 n1], .int .i64 many] (fun r => ∃ o : Bool, r = .bool o ∧ (o = true ↔ SegOk s many)) := by
  obtain ⟨len, ps, nx⟩ := s
  have hq : q = ps.map pcRow := hq
  have hn1 : n1 = nx.map nxRow := hn1
  have hu : Up0 q := by rw [hq]; exact up_pc ps
  have hun : Up0 n1 := by rw [hn1]; exact up_nx nx
  have hnl : n1.length = nx.length := by rw [hn1]; simp
  (refine PCalls.ofY Try.func54 (by kernel_rfl) (by kernel_rfl) fun w hw R hR => ?_); (obtain ⟨wbin, wcmp, wun, wconv, wnot, wbeq, wmm, wscmp, wsadd, wslen, wsat, weqs, wlen, wnlen, wofNat, wtake, wdrop, wapp, wzero, wnat⟩ := w); (have hbin : wbin = binStd := congrArg Prims.bin hw); (have hcmp : wcmp = cmpStd := congrArg Prims.cmp hw); (have hun : wun = unStd := congrArg Prims.un hw); (have hconv : wconv = fun k n => k.wrap n := congrArg Prims.conv hw); (have hnot : wnot = fun b => !b := congrArg Prims.not hw); (have hbeq : wbeq = fun a b => a == b := congrArg Prims.beq hw); (have hmm : wmm = maxI := congrArg Prims.mm hw); (have hscmp : wscmp = scmpStd := congrArg Prims.scmp hw); (have hsadd : wsadd = fun x y => x ++ y := congrArg Prims.sadd hw); (have hslen : wslen = fun s => (s.size : Int) := congrArg Prims.slen hw); (have hsat : wsat = std.sat := congrArg Prims.sat hw); (have heqs : weqs = fun a b os => (eqOffs a b os).getD false := congrArg Prims.eqs hw); (have hlen : wlen = fun es => (es.length : Int) := congrArg Prims.len hw); (have hnlen : wnlen = fun es => es.length := congrArg Prims.nlen hw); (have hofNat : wofNat = (fun n : Nat => (n : Int)) := congrArg Prims.ofNat hw); (have htake : wtake = fun es b => es.take b.toNat := congrArg Prims.take hw); (have hdrop : wdrop = fun es a => es.drop a.toNat := congrArg Prims.drop hw); (have happ : wapp = fun a b => a ++ b := congrArg Prims.app hw); (have hzero : wzero = fun n z => List.replicate n.toNat z := congrArg Prims.zero hw); (have hnat : wnat = fun n => n.toNat := congrArg Prims.nat hw); (conv => arg 2; cbv); (generalize hP : Try.prog = P); cbv
  (obtain ⟨L, eL, L0, Ln⟩ : ∃ L : Int, wlen n1 = L ∧ 0 ≤ L ∧ L.toNat = n1.length := ⟨(n1.length : Int), by rw [hlen], Int.natCast_nonneg _, Int.toNat_natCast _⟩)
  have hF : ¬ SegOk ⟨len, ps, nx⟩ many → R (.bool false) := fun hn => hR _ ⟨_, rfl, ⟨fun h => (by cases h), fun h => absurd h hn⟩⟩
  (split <;> rename_i h1 <;> (try (simp only [hbin, hcmp, hun, hconv, hnot, hbeq, hmm, hscmp, hsadd, hslen, hsat, heqs, hofNat, binStd, cmpStd, unStd, scmpStd, maxI, Bool.not_eq_true', Bool.not_eq_false', decide_eq_true_eq, decide_eq_false_iff_not, Int.not_lt, Int.not_le, if_true, if_false, Bool.false_eq_true, beq_iff_eq, bne_iff_ne, ne_eq, Bool.not_eq_eq_eq_not, Bool.not_true, Bool.not_false, beq_eq_false_iff_ne, bne_eq_false_iff_eq, Int.ofNat_eq_natCast, Bool.not_not, not_true_eq_false, not_false_eq_true, reduceCtorEq] at h1)) <;> (try cbv))
  · exact ⟨_, Vw.same rfl, hF fun hM => (by have k : 1 ≤ len := hM.pos; omega)⟩
  (split <;> rename_i h2 <;> (try (simp only [hbin, hcmp, hun, hconv, hnot, hbeq, hmm, hscmp, hsadd, hslen, hsat, heqs, hofNat, binStd, cmpStd, unStd, scmpStd, maxI, Bool.not_eq_true', Bool.not_eq_false', decide_eq_true_eq, decide_eq_false_iff_not, Int.not_lt, Int.not_le, if_true, if_false, Bool.false_eq_true, beq_iff_eq, bne_iff_ne, ne_eq, Bool.not_eq_eq_eq_not, Bool.not_true, Bool.not_false, beq_eq_false_iff_ne, bne_eq_false_iff_eq, Int.ofNat_eq_natCast, Bool.not_not, not_true_eq_false, not_false_eq_true, reduceCtorEq] at h2)) <;> (try cbv))
  · exact ⟨_, Vw.same rfl, hF fun hM => (by have k : len ≤ 1099511627776 := hM.le; omega)⟩
  refine Call.step (by rw [← hP]; exact e_may10 ps q hq len) (by exact Up0.one hu rfl) ?_
  rintro r ⟨o, rfl, hmay⟩
  cbv
  (split <;> rename_i h3 <;> (try (simp only [hbin, hcmp, hun, hconv, hnot, hbeq, hmm, hscmp, hsadd, hslen, hsat, heqs, hofNat, binStd, cmpStd, unStd, scmpStd, maxI, Bool.not_eq_true', Bool.not_eq_false', decide_eq_true_eq, decide_eq_false_iff_not, Int.not_lt, Int.not_le, if_true, if_false, Bool.false_eq_true, beq_iff_eq, bne_iff_ne, ne_eq, Bool.not_eq_eq_eq_not, Bool.not_true, Bool.not_false, beq_eq_false_iff_ne, bne_eq_false_iff_eq, Int.ofNat_eq_natCast, Bool.not_not, not_true_eq_false, not_false_eq_true, reduceCtorEq] at h3)) <;> (try cbv))
  · exact ⟨_, Vw.same rfl, hF fun hM => (by rw [hmay.2 hM.may] at h3; cases h3)⟩
  have hmay := hmay.1 (by assumption)
  (split <;> rename_i h4 <;> (try (simp only [eL] at h4)) <;> (try (simp only [hbin, hcmp, hun, hconv, hnot, hbeq, hmm, hscmp, hsadd, hslen, hsat, heqs, hofNat, binStd, cmpStd, unStd, scmpStd, maxI, Bool.not_eq_true', Bool.not_eq_false', decide_eq_true_eq, decide_eq_false_iff_not, Int.not_lt, Int.not_le, if_true, if_false, Bool.false_eq_true, beq_iff_eq, bne_iff_ne, ne_eq, Bool.not_eq_eq_eq_not, Bool.not_true, Bool.not_false, beq_eq_false_iff_ne, bne_eq_false_iff_eq, Int.ofNat_eq_natCast, Bool.not_not, not_true_eq_false, not_false_eq_true, reduceCtorEq] at h4)) <;> (try cbv))
  · exact ⟨_, Vw.same rfl, hF fun hM => (by have k : nx.length ≤ 2 := hM.two; omega)⟩
  refine Loop.data hw (S := Int) (fun i => fr 65 [(1, .int .i64 many), (2, .ref 0 3 0 0), (5, .int .i64 i)]) (fun i => [.live 3 [[.int .i64 len, .list 2 q, .list 1 n1]]]) (fun i => 0 ≤ i ∧ i ≤ L ∧ ∀ j, j < i.toNat → ∀ n, nx[j]? = some n → 0 ≤ n ∧ n < many) (fun i => (L - i).toNat) 0 (by (refine Wk.eqz (id) (by first | exact fun i _ j _ e => e | (simp only [List.length_cons, List.length_nil]; decide)) ?_; cbv; (repeat' (first | exact trivial | rfl | assumption | apply And.intro | (simp only [hbin, hcmp, hun, hconv, hnot, hbeq, hmm, hscmp, hsadd, hslen, hsat, heqs, hofNat, binStd, cmpStd, unStd, scmpStd, maxI, Bool.not_eq_true', Bool.not_eq_false', decide_eq_true_eq, decide_eq_false_iff_not, Int.not_lt, Int.not_le, if_true, if_false, Bool.false_eq_true, beq_iff_eq, bne_iff_ne, ne_eq, Bool.not_eq_eq_eq_not, Bool.not_true, Bool.not_false, beq_eq_false_iff_ne, bne_eq_false_iff_eq, Int.ofNat_eq_natCast, Bool.not_not, not_true_eq_false, not_false_eq_true, reduceCtorEq]; first | done | assumption) | exact RowsZ.same (by assumption) (by first | assumption | rfl) | exact FzL.mk rfl rfl rfl (by assumption) (by first | assumption | rfl) (by decide) | (refine RowsZ.one ?_; cbv))))) ⟨Int.le_refl _, L0, fun j hj => (by simp at hj)⟩ ?_
  rintro i hinv Q' hN hE hR'
  have hinv : 0 ≤ i ∧ i ≤ L ∧ ∀ j, j < i.toNat → ∀ n, nx[j]? = some n → 0 ≤ n ∧ n < many := hinv
  cbv
  obtain ⟨hi0, hi1, hl⟩ := hinv
  (split <;> rename_i hc <;> (try (simp only [eL] at hc)) <;> (try (simp only [hbin, hcmp, hun, hconv, hnot, hbeq, hmm, hscmp, hsadd, hslen, hsat, heqs, hofNat, binStd, cmpStd, unStd, scmpStd, maxI, Bool.not_eq_true', Bool.not_eq_false', decide_eq_true_eq, decide_eq_false_iff_not, Int.not_lt, Int.not_le, if_true, if_false, Bool.false_eq_true, beq_iff_eq, bne_iff_ne, ne_eq, Bool.not_eq_eq_eq_not, Bool.not_true, Bool.not_false, beq_eq_false_iff_ne, bne_eq_false_iff_eq, Int.ofNat_eq_natCast, Bool.not_not, not_true_eq_false, not_false_eq_true, reduceCtorEq] at hc)) <;> (try cbv))
  · obtain ⟨n, hd2, hrow2⟩ := get_map (f := nxRow) (ds := nx) (i := i) hi0 (by omega)
    have hrow2 : n1[i.toNat]? = some [.int .i64 n] := by rw [hn1]; exact hrow2
    obtain ⟨i', ei'⟩ : ∃ x, i + 1 = x := ⟨_, rfl⟩
    have ei : wbin .add .i64 i 1 = i' := by rw [hbin, i_add (by omega) (by omega)]; exact ei'
    have hT : (L - i').toNat < (L - i).toNat := by omega
    have bad : SegOk ⟨len, ps, nx⟩ many → 0 ≤ n ∧ n < many := fun hM => hM.nx i.toNat (show i.toNat < nx.length by omega) n hd2
    repeat' (first
      | (refine hR' _ _ ⟨_, Vw.same rfl, hF fun hM => ?_⟩; obtain ⟨m1, m2⟩ := bad hM; clear hN hE hR' hR hF; omega)
      | (refine Idx.mk [.int .i64 n] hi0 hrow2 ?_; cbv)
      | (split <;> rename_i h <;> (try (simp only [hbin, hcmp, hun, hconv, hnot, hbeq, hmm, hscmp, hsadd, hslen, hsat, heqs, hofNat, binStd, cmpStd, unStd, scmpStd, maxI, Bool.not_eq_true', Bool.not_eq_false', decide_eq_true_eq, decide_eq_false_iff_not, Int.not_lt, Int.not_le, if_true, if_false, Bool.false_eq_true, beq_iff_eq, bne_iff_ne, ne_eq, Bool.not_eq_eq_eq_not, Bool.not_true, Bool.not_false, beq_eq_false_iff_ne, bne_eq_false_iff_eq, Int.ofNat_eq_natCast, Bool.not_not, not_true_eq_false, not_false_eq_true, reduceCtorEq] at h)) <;> (try cbv)))
    refine hN i' _ _ ?hx ?hi hT
    case hx => (refine Wk.eqz (id) (by first | exact fun i _ j _ e => e | (simp only [List.length_cons, List.length_nil]; decide)) ?_; cbv; (repeat' (first | exact trivial | rfl | assumption | apply And.intro | (simp only [hbin, hcmp, hun, hconv, hnot, hbeq, hmm, hscmp, hsadd, hslen, hsat, heqs, hofNat, binStd, cmpStd, unStd, scmpStd, maxI, Bool.not_eq_true', Bool.not_eq_false', decide_eq_true_eq, decide_eq_false_iff_not, Int.not_lt, Int.not_le, if_true, if_false, Bool.false_eq_true, beq_iff_eq, bne_iff_ne, ne_eq, Bool.not_eq_eq_eq_not, Bool.not_true, Bool.not_false, beq_eq_false_iff_ne, bne_eq_false_iff_eq, Int.ofNat_eq_natCast, Bool.not_not, not_true_eq_false, not_false_eq_true, reduceCtorEq]; first | done | assumption) | exact RowsZ.same (by assumption) (by first | assumption | rfl) | exact FzL.mk rfl rfl rfl (by assumption) (by first | assumption | rfl) (by decide) | (refine RowsZ.one ?_; cbv))))
    case hi =>
      refine ⟨by omega, by omega, ?_⟩
      rw [← ei']
      refine all_step hi0 hl fun m hm => ?_
      rw [hd2] at hm
      obtain rfl : n = m := by simpa using hm
      exact ⟨by omega, by omega⟩
  · refine hE _ _ _ ?_
    cbv
    have fin : (∀ a b, nx[0]? = some a → nx[1]? = some b → a < b) → SegOk ⟨len, ps, nx⟩ many := fun hlt => ⟨h1, by omega, hmay, by simp only; omega, fun j hj n hn => hl j (by simp only at hj; omega) n hn, hlt⟩
    (split <;> rename_i h5 <;> (try (simp only [eL] at h5)) <;> (try (simp only [hbin, hcmp, hun, hconv, hnot, hbeq, hmm, hscmp, hsadd, hslen, hsat, heqs, hofNat, binStd, cmpStd, unStd, scmpStd, maxI, Bool.not_eq_true', Bool.not_eq_false', decide_eq_true_eq, decide_eq_false_iff_not, Int.not_lt, Int.not_le, if_true, if_false, Bool.false_eq_true, beq_iff_eq, bne_iff_ne, ne_eq, Bool.not_eq_eq_eq_not, Bool.not_true, Bool.not_false, beq_eq_false_iff_ne, bne_eq_false_iff_eq, Int.ofNat_eq_natCast, Bool.not_not, not_true_eq_false, not_false_eq_true, reduceCtorEq] at h5)) <;> (try cbv))
    · refine ⟨_, Vw.same rfl, hR _ ⟨_, rfl, ⟨fun _ => fin fun a b ha hb => ?_, fun _ => rfl⟩⟩⟩
      have := (List.getElem?_eq_some_iff.1 hb).1
      omega
    · obtain ⟨x, hdx, hrx⟩ := get_map (f := nxRow) (ds := nx) (i := 0) (Int.le_refl 0) (by omega)
      obtain ⟨y, hdy, hry⟩ := get_map (f := nxRow) (ds := nx) (i := 1) (by decide) (by omega)
      refine Idx.mk [.int .i64 x] (by decide) (by rw [hn1]; exact hrx) ?_
      cbv
      refine Idx.mk [.int .i64 y] (by decide) (by rw [hn1]; exact hry) ?_
      cbv
      have k1 : nx[0]? = some x := hdx
      have k2 : nx[1]? = some y := hdy
      refine ⟨_, Vw.same rfl, hR _ ⟨_, rfl, ⟨fun ho => fin fun a b ha hb => ?_, fun hM => ?_⟩⟩⟩
      rotate_left
      · have := hM.lt x y k1 k2
        rw [hcmp]; simp [cmpStd]; omega
      rw [k1] at ha
      rw [k2] at hb
      rw [hcmp] at ho
      simp [cmpStd] at ho ha hb
      omega
theorem e_seg11V (s : Sg) (q n1 : List (List AV)) (hq : q = s.ps.map pcRow) (hn1 : n1 = s.nx.map nxRow) (many : Int) : ∃ o : Bool, PCalls Try.prog 54 [.agg [.int .i64 s.len, .list 2 q, .list 1 n1], .int .i64 many] (· = .bool o) ∧ (o = true ↔ SegOk s many) := by
  by_cases h : SegOk s many
  · refine ⟨true, (e_seg11 s q n1 hq hn1 many).mono ?_, by simp [h]⟩
    rintro r ⟨o, rfl, ho⟩
    rw [ho.2 h]
  · refine ⟨false, (e_seg11 s q n1 hq hn1 many).mono ?_, by simp [h]⟩
    rintro r ⟨o, rfl, ho⟩
    cases o with
    | false => rfl
    | true => exact absurd (ho.1 rfl) h
/-- A group that may be, by the one ahead of it. -/
def GrOk (ss : List Sg) (gs : List Gr) (j : Nat) : Prop :=
  ∀ g, gs[j]? = some g → 0 < g.id ∧ g.id ≤ 65535 ∧ 0 ≤ g.seg ∧ g.seg.toNat < ss.length ∧ 0 ≤ g.off ∧ (∀ s, ss[g.seg.toNat]? = some s → g.off ≤ s.len) ∧ 0 ≤ g.acc ∧ g.acc ≤ 1048576 ∧ 0 ≤ g.sl ∧ g.sl ≤ 16777216 ∧ (0 < j → ∀ o, gs[j - 1]? = some o → o.id < g.id)
structure TrackOk (ss : List Sg) (gs : List Gr) : Prop where
  ne : 1 ≤ ss.length
  le : ss.length ≤ 200
  gle : gs.length ≤ 400
  seg : ∀ j, j < ss.length → ∀ s, ss[j]? = some s → SegOk s ss.length
  grp : ∀ j, j < gs.length → GrOk ss gs j
set_option maxHeartbeats 1000000 in
theorem e_check11 (ss : List Sg) (gs : List Gr) (es ds : List (List AV)) (hes : es = ss.map sgRow) (hds : ds = gs.map grRow) : PCalls Try.prog 37 [.agg [.list 3 es, .list 5 ds]] (fun r => ∃ e i, r = .tuple [.int .i64 e, .int .i64 i] ∧ (e = 0 → TrackOk ss gs)) := by
  have hu : Up0 es := by rw [hes]; exact up_sg ss
  have hud : Up0 ds := by rw [hds]; exact up_gr gs
  have hel : es.length = ss.length := by rw [hes]; simp
  have hdl : ds.length = gs.length := by rw [hds]; simp
  (refine PCalls.ofY Try.func37 (by kernel_rfl) (by kernel_rfl) fun w hw R hR => ?_); (obtain ⟨wbin, wcmp, wun, wconv, wnot, wbeq, wmm, wscmp, wsadd, wslen, wsat, weqs, wlen, wnlen, wofNat, wtake, wdrop, wapp, wzero, wnat⟩ := w); (have hbin : wbin = binStd := congrArg Prims.bin hw); (have hcmp : wcmp = cmpStd := congrArg Prims.cmp hw); (have hun : wun = unStd := congrArg Prims.un hw); (have hconv : wconv = fun k n => k.wrap n := congrArg Prims.conv hw); (have hnot : wnot = fun b => !b := congrArg Prims.not hw); (have hbeq : wbeq = fun a b => a == b := congrArg Prims.beq hw); (have hmm : wmm = maxI := congrArg Prims.mm hw); (have hscmp : wscmp = scmpStd := congrArg Prims.scmp hw); (have hsadd : wsadd = fun x y => x ++ y := congrArg Prims.sadd hw); (have hslen : wslen = fun s => (s.size : Int) := congrArg Prims.slen hw); (have hsat : wsat = std.sat := congrArg Prims.sat hw); (have heqs : weqs = fun a b os => (eqOffs a b os).getD false := congrArg Prims.eqs hw); (have hlen : wlen = fun es => (es.length : Int) := congrArg Prims.len hw); (have hnlen : wnlen = fun es => es.length := congrArg Prims.nlen hw); (have hofNat : wofNat = (fun n : Nat => (n : Int)) := congrArg Prims.ofNat hw); (have htake : wtake = fun es b => es.take b.toNat := congrArg Prims.take hw); (have hdrop : wdrop = fun es a => es.drop a.toNat := congrArg Prims.drop hw); (have happ : wapp = fun a b => a ++ b := congrArg Prims.app hw); (have hzero : wzero = fun n z => List.replicate n.toNat z := congrArg Prims.zero hw); (have hnat : wnat = fun n => n.toNat := congrArg Prims.nat hw); (conv => arg 2; cbv); (generalize hP : Try.prog = P); cbv
  (obtain ⟨L, eL, L0, Ln⟩ : ∃ L : Int, wlen es = L ∧ 0 ≤ L ∧ L.toNat = es.length := ⟨(es.length : Int), by rw [hlen], Int.natCast_nonneg _, Int.toNat_natCast _⟩)
  (obtain ⟨J, eJ, J0, Jn⟩ : ∃ L : Int, wlen ds = L ∧ 0 ≤ L ∧ L.toNat = ds.length := ⟨(ds.length : Int), by rw [hlen], Int.natCast_nonneg _, Int.toNat_natCast _⟩)
  have hF : ∀ e i : Int, e ≠ 0 → R (.tuple [.int .i64 e, .int .i64 i]) := fun e i he => hR _ ⟨_, _, rfl, fun h => absurd h he⟩
  (split <;> rename_i h1 <;> (try (simp only [eL] at h1)) <;> (try (simp only [hbin, hcmp, hun, hconv, hnot, hbeq, hmm, hscmp, hsadd, hslen, hsat, heqs, hofNat, binStd, cmpStd, unStd, scmpStd, maxI, Bool.not_eq_true', Bool.not_eq_false', decide_eq_true_eq, decide_eq_false_iff_not, Int.not_lt, Int.not_le, if_true, if_false, Bool.false_eq_true, beq_iff_eq, bne_iff_ne, ne_eq, Bool.not_eq_eq_eq_not, Bool.not_true, Bool.not_false, beq_eq_false_iff_ne, bne_eq_false_iff_eq, Int.ofNat_eq_natCast, Bool.not_not, not_true_eq_false, not_false_eq_true, reduceCtorEq] at h1)) <;> (try cbv))
  · exact ⟨_, Vw.same rfl, hF _ _ (by decide)⟩
  (split <;> rename_i h2 <;> (try (simp only [eL] at h2)) <;> (try (simp only [hbin, hcmp, hun, hconv, hnot, hbeq, hmm, hscmp, hsadd, hslen, hsat, heqs, hofNat, binStd, cmpStd, unStd, scmpStd, maxI, Bool.not_eq_true', Bool.not_eq_false', decide_eq_true_eq, decide_eq_false_iff_not, Int.not_lt, Int.not_le, if_true, if_false, Bool.false_eq_true, beq_iff_eq, bne_iff_ne, ne_eq, Bool.not_eq_eq_eq_not, Bool.not_true, Bool.not_false, beq_eq_false_iff_ne, bne_eq_false_iff_eq, Int.ofNat_eq_natCast, Bool.not_not, not_true_eq_false, not_false_eq_true, reduceCtorEq] at h2)) <;> (try cbv))
  · exact ⟨_, Vw.same rfl, hF _ _ (by decide)⟩
  (split <;> rename_i h3 <;> (try (simp only [eJ] at h3)) <;> (try (simp only [hbin, hcmp, hun, hconv, hnot, hbeq, hmm, hscmp, hsadd, hslen, hsat, heqs, hofNat, binStd, cmpStd, unStd, scmpStd, maxI, Bool.not_eq_true', Bool.not_eq_false', decide_eq_true_eq, decide_eq_false_iff_not, Int.not_lt, Int.not_le, if_true, if_false, Bool.false_eq_true, beq_iff_eq, bne_iff_ne, ne_eq, Bool.not_eq_eq_eq_not, Bool.not_true, Bool.not_false, beq_eq_false_iff_ne, bne_eq_false_iff_eq, Int.ofNat_eq_natCast, Bool.not_not, not_true_eq_false, not_false_eq_true, reduceCtorEq] at h3)) <;> (try cbv))
  · exact ⟨_, Vw.same rfl, hF _ _ (by decide)⟩
  refine Loop.data hw (S := Int) (fun i => fr 115 [(1, .ref 0 2 0 0), (4, .int .i64 i)]) (fun i => [.live 2 [[.list 3 es, .list 5 ds]]]) (fun i => 0 ≤ i ∧ i ≤ L ∧ ∀ j, j < i.toNat → ∀ s, ss[j]? = some s → SegOk s L) (fun i => (L - i).toNat) 0 (by (refine Wk.eqz (id) (by first | exact fun i _ j _ e => e | (simp only [List.length_cons, List.length_nil]; decide)) ?_; cbv; (repeat' (first | exact trivial | rfl | assumption | apply And.intro | (simp only [hbin, hcmp, hun, hconv, hnot, hbeq, hmm, hscmp, hsadd, hslen, hsat, heqs, hofNat, binStd, cmpStd, unStd, scmpStd, maxI, Bool.not_eq_true', Bool.not_eq_false', decide_eq_true_eq, decide_eq_false_iff_not, Int.not_lt, Int.not_le, if_true, if_false, Bool.false_eq_true, beq_iff_eq, bne_iff_ne, ne_eq, Bool.not_eq_eq_eq_not, Bool.not_true, Bool.not_false, beq_eq_false_iff_ne, bne_eq_false_iff_eq, Int.ofNat_eq_natCast, Bool.not_not, not_true_eq_false, not_false_eq_true, reduceCtorEq]; first | done | assumption) | exact RowsZ.same (by assumption) (by first | assumption | rfl) | exact FzL.mk rfl rfl rfl (by assumption) (by first | assumption | rfl) (by decide) | (refine RowsZ.one ?_; cbv))))) ⟨Int.le_refl _, L0, fun j hj => (by simp at hj)⟩ ?_
  rintro i hinv Q' hN hE hR'
  have hinv : 0 ≤ i ∧ i ≤ L ∧ ∀ j, j < i.toNat → ∀ s, ss[j]? = some s → SegOk s L := hinv
  cbv
  obtain ⟨hi0, hi1, hl⟩ := hinv
  (split <;> rename_i hc <;> (try (simp only [eL] at hc)) <;> (try (simp only [hbin, hcmp, hun, hconv, hnot, hbeq, hmm, hscmp, hsadd, hslen, hsat, heqs, hofNat, binStd, cmpStd, unStd, scmpStd, maxI, Bool.not_eq_true', Bool.not_eq_false', decide_eq_true_eq, decide_eq_false_iff_not, Int.not_lt, Int.not_le, if_true, if_false, Bool.false_eq_true, beq_iff_eq, bne_iff_ne, ne_eq, Bool.not_eq_eq_eq_not, Bool.not_true, Bool.not_false, beq_eq_false_iff_ne, bne_eq_false_iff_eq, Int.ofNat_eq_natCast, Bool.not_not, not_true_eq_false, not_false_eq_true, reduceCtorEq] at hc)) <;> (try cbv))
  · obtain ⟨⟨len, ps, nx⟩, hd, hrow⟩ := get_map (f := sgRow) (ds := ss) (i := i) hi0 (by omega)
    obtain ⟨q1, eq1⟩ : ∃ x, ps.map pcRow = x := ⟨_, rfl⟩
    obtain ⟨n1, en1⟩ : ∃ x, nx.map nxRow = x := ⟨_, rfl⟩
    have hrow : es[i.toNat]? = some [.int .i64 len, .list 2 q1, .list 1 n1] := by rw [hes, ← eq1, ← en1]; exact hrow
    have huq : Up0 q1 := by rw [← eq1]; exact up_pc ps
    have hun : Up0 n1 := by rw [← en1]; exact up_nx nx
    obtain ⟨i', ei'⟩ : ∃ x, i + 1 = x := ⟨_, rfl⟩
    have ei : wbin .add .i64 i 1 = i' := by rw [hbin, i_add (by omega) (by omega)]; exact ei'
    have hT : (L - i').toNat < (L - i).toNat := by omega
    refine Idx.mk [.int .i64 len, .list 2 q1, .list 1 n1] hi0 hrow ?_
    cbv
    simp only [eL]
    obtain ⟨o, hseg, ho⟩ := e_seg11V ⟨len, ps, nx⟩ q1 n1 eq1.symm en1.symm L
    refine QCal.stepE (by rw [← hP]; exact hseg) (by exact Bool.and_eq_true_iff.mpr ⟨up_segRow huq hun, rfl⟩) ?_
    cbv
    (split <;> rename_i h <;> (try (simp only [hbin, hcmp, hun, hconv, hnot, hbeq, hmm, hscmp, hsadd, hslen, hsat, heqs, hofNat, binStd, cmpStd, unStd, scmpStd, maxI, Bool.not_eq_true', Bool.not_eq_false', decide_eq_true_eq, decide_eq_false_iff_not, Int.not_lt, Int.not_le, if_true, if_false, Bool.false_eq_true, beq_iff_eq, bne_iff_ne, ne_eq, Bool.not_eq_eq_eq_not, Bool.not_true, Bool.not_false, beq_eq_false_iff_ne, bne_eq_false_iff_eq, Int.ofNat_eq_natCast, Bool.not_not, not_true_eq_false, not_false_eq_true, reduceCtorEq] at h)) <;> (try cbv))
    · exact hR' _ _ ⟨_, Vw.same rfl, hF _ _ (by decide)⟩
    refine hN i' _ _ ?hx ?hi hT
    case hx => (refine Wk.eqz (id) (by first | exact fun i _ j _ e => e | (simp only [List.length_cons, List.length_nil]; decide)) ?_; cbv; (repeat' (first | exact trivial | rfl | assumption | apply And.intro | (simp only [hbin, hcmp, hun, hconv, hnot, hbeq, hmm, hscmp, hsadd, hslen, hsat, heqs, hofNat, binStd, cmpStd, unStd, scmpStd, maxI, Bool.not_eq_true', Bool.not_eq_false', decide_eq_true_eq, decide_eq_false_iff_not, Int.not_lt, Int.not_le, if_true, if_false, Bool.false_eq_true, beq_iff_eq, bne_iff_ne, ne_eq, Bool.not_eq_eq_eq_not, Bool.not_true, Bool.not_false, beq_eq_false_iff_ne, bne_eq_false_iff_eq, Int.ofNat_eq_natCast, Bool.not_not, not_true_eq_false, not_false_eq_true, reduceCtorEq]; first | done | assumption) | exact RowsZ.same (by assumption) (by first | assumption | rfl) | exact FzL.mk rfl rfl rfl (by assumption) (by first | assumption | rfl) (by decide) | (refine RowsZ.one ?_; cbv))))
    case hi =>
      refine ⟨by omega, by omega, ?_⟩
      rw [← ei']
      refine all_step hi0 hl fun m hm => ?_
      rw [hd] at hm
      obtain rfl : (⟨len, ps, nx⟩ : Sg) = m := by simpa using hm
      exact ho.1 h
  refine hE _ _ _ ?_
  cbv
  have hseg : ∀ j, j < ss.length → ∀ s, ss[j]? = some s → SegOk s L := fun j hj => hl j (by omega)
  clear hl hN hE hR'
  refine Loop.data hw (S := Int × Int) (fun s => fr 115 [(1, .ref 0 2 0 0), (5, .int .i64 s.2), (6, .int .i64 s.1)]) (fun s => [.live 2 [[.list 3 es, .list 5 ds]]]) (fun s => 0 ≤ s.1 ∧ s.1 ≤ J ∧ 0 ≤ s.2 ∧ (0 < s.1 → ∀ o, gs[s.1.toNat - 1]? = some o → s.2 = o.id) ∧ ∀ j, j < s.1.toNat → GrOk ss gs j) (fun s => (J - s.1).toNat) (0, 0) (by (refine Wk.eqz (id) (by first | exact fun i _ j _ e => e | (simp only [List.length_cons, List.length_nil]; decide)) ?_; cbv; (repeat' (first | exact trivial | rfl | assumption | apply And.intro | (simp only [hbin, hcmp, hun, hconv, hnot, hbeq, hmm, hscmp, hsadd, hslen, hsat, heqs, hofNat, binStd, cmpStd, unStd, scmpStd, maxI, Bool.not_eq_true', Bool.not_eq_false', decide_eq_true_eq, decide_eq_false_iff_not, Int.not_lt, Int.not_le, if_true, if_false, Bool.false_eq_true, beq_iff_eq, bne_iff_ne, ne_eq, Bool.not_eq_eq_eq_not, Bool.not_true, Bool.not_false, beq_eq_false_iff_ne, bne_eq_false_iff_eq, Int.ofNat_eq_natCast, Bool.not_not, not_true_eq_false, not_false_eq_true, reduceCtorEq]; first | done | assumption) | exact RowsZ.same (by assumption) (by first | assumption | rfl) | exact FzL.mk rfl rfl rfl (by assumption) (by first | assumption | rfl) (by decide) | (refine RowsZ.one ?_; cbv))))) ⟨Int.le_refl _, J0, Int.le_refl _, fun h => absurd h (by decide), fun j hj => (by simp at hj)⟩ ?_
  rintro ⟨i, last⟩ hinv Q' hN hE hR'
  have hinv : 0 ≤ i ∧ i ≤ J ∧ 0 ≤ last ∧ (0 < i → ∀ o, gs[i.toNat - 1]? = some o → last = o.id) ∧ ∀ j, j < i.toNat → GrOk ss gs j := hinv
  cbv
  obtain ⟨hi0, hi1, hla, hlo, hl⟩ := hinv
  (split <;> rename_i hc <;> (try (simp only [eJ] at hc)) <;> (try (simp only [hbin, hcmp, hun, hconv, hnot, hbeq, hmm, hscmp, hsadd, hslen, hsat, heqs, hofNat, binStd, cmpStd, unStd, scmpStd, maxI, Bool.not_eq_true', Bool.not_eq_false', decide_eq_true_eq, decide_eq_false_iff_not, Int.not_lt, Int.not_le, if_true, if_false, Bool.false_eq_true, beq_iff_eq, bne_iff_ne, ne_eq, Bool.not_eq_eq_eq_not, Bool.not_true, Bool.not_false, beq_eq_false_iff_ne, bne_eq_false_iff_eq, Int.ofNat_eq_natCast, Bool.not_not, not_true_eq_false, not_false_eq_true, reduceCtorEq] at hc)) <;> (try cbv))
  · obtain ⟨⟨g1, g2, g3, g4, g5⟩, hd, hrow⟩ := get_map (f := grRow) (ds := gs) (i := i) hi0 (by omega)
    have hrow : ds[i.toNat]? = some [.int .i64 g1, .int .i64 g2, .int .i64 g3, .int .i64 g4, .int .i64 g5] := by rw [hds]; exact hrow
    obtain ⟨i', ei'⟩ : ∃ x, i + 1 = x := ⟨_, rfl⟩
    have ei : wbin .add .i64 i 1 = i' := by rw [hbin, i_add (by omega) (by omega)]; exact ei'
    have hT : (J - i').toNat < (J - i).toNat := by omega
    refine Idx.mk [.int .i64 g1, .int .i64 g2, .int .i64 g3, .int .i64 g4, .int .i64 g5] hi0 hrow ?_
    cbv
    obtain ⟨len, q1, n1, hrs⟩ : ∃ len q1 n1, 0 ≤ g2 ∧ g2 < L → es[g2.toNat]? = some [.int .i64 len, .list 2 q1, .list 1 n1] ∧ ∀ s, ss[g2.toNat]? = some s → s.len = len := by
      by_cases h : 0 ≤ g2 ∧ g2 < L
      · obtain ⟨⟨len, ps, nx⟩, k1, k2⟩ := get_map (f := sgRow) (ds := ss) (i := g2) h.1 (by omega)
        exact ⟨len, _, _, fun _ => ⟨by rw [hes]; exact k2, fun s hs => by rw [k1] at hs; obtain rfl : (⟨len, ps, nx⟩ : Sg) = s := (by simpa using hs); rfl⟩⟩
      · exact ⟨0, [], [], fun h' => absurd h' h⟩
    repeat' (first
      | exact hR' _ _ ⟨_, Vw.same rfl, hF _ _ (by decide)⟩
      | (refine Idx.mk [.int .i64 len, .list 2 q1, .list 1 n1] (by assumption) (hrs ⟨by assumption, by assumption⟩).1 ?_; cbv)
      | (split <;> rename_i h <;> (try (simp only [eL] at h)) <;> (try (simp only [hbin, hcmp, hun, hconv, hnot, hbeq, hmm, hscmp, hsadd, hslen, hsat, heqs, hofNat, binStd, cmpStd, unStd, scmpStd, maxI, Bool.not_eq_true', Bool.not_eq_false', decide_eq_true_eq, decide_eq_false_iff_not, Int.not_lt, Int.not_le, if_true, if_false, Bool.false_eq_true, beq_iff_eq, bne_iff_ne, ne_eq, Bool.not_eq_eq_eq_not, Bool.not_true, Bool.not_false, beq_eq_false_iff_ne, bne_eq_false_iff_eq, Int.ofNat_eq_natCast, Bool.not_not, not_true_eq_false, not_false_eq_true, reduceCtorEq] at h)) <;> (try cbv)))
    all_goals
      refine hN (i', g1) _ _ ?hx ?hi hT
      case hx => (refine Wk.eqz (id) (by first | exact fun i _ j _ e => e | (simp only [List.length_cons, List.length_nil]; decide)) ?_; cbv; (repeat' (first | exact trivial | rfl | assumption | apply And.intro | (simp only [hbin, hcmp, hun, hconv, hnot, hbeq, hmm, hscmp, hsadd, hslen, hsat, heqs, hofNat, binStd, cmpStd, unStd, scmpStd, maxI, Bool.not_eq_true', Bool.not_eq_false', decide_eq_true_eq, decide_eq_false_iff_not, Int.not_lt, Int.not_le, if_true, if_false, Bool.false_eq_true, beq_iff_eq, bne_iff_ne, ne_eq, Bool.not_eq_eq_eq_not, Bool.not_true, Bool.not_false, beq_eq_false_iff_ne, bne_eq_false_iff_eq, Int.ofNat_eq_natCast, Bool.not_not, not_true_eq_false, not_false_eq_true, reduceCtorEq]; first | done | assumption) | exact RowsZ.same (by assumption) (by first | assumption | rfl) | exact FzL.mk rfl rfl rfl (by assumption) (by first | assumption | rfl) (by decide) | (refine RowsZ.one ?_; cbv))))
      case hi =>
        refine ⟨by simp only; omega, by simp only; omega, by simp only; omega, fun _ o ho => ?_, ?_⟩
        · simp only at ho
          rw [show i'.toNat - 1 = i.toNat by omega, hd] at ho
          obtain rfl : (⟨g1, g2, g3, g4, g5⟩ : Gr) = o := by simpa using ho
          rfl
        · simp only
          rw [← ei']
          refine all_step hi0 hl fun g hg => ?_
          rw [hd] at hg
          obtain rfl : (⟨g1, g2, g3, g4, g5⟩ : Gr) = g := by simpa using hg
          refine ⟨by simp only; omega, by simp only; omega, by simp only; omega, by simp only; omega, by simp only; omega, fun s hs => ?_, by simp only; omega, by simp only; omega, by simp only; omega, by simp only; omega, fun hj o ho => ?_⟩
          · rw [(hrs ⟨by omega, by omega⟩).2 s hs]; assumption
          · have := hlo (by omega) o ho
            simp only; omega
  refine hE _ _ _ ?_
  cbv
  have eLL : L = ss.length := by omega
  exact ⟨_, Vw.same rfl, hR _ ⟨_, _, rfl, fun _ => ⟨by omega, by omega, by omega, fun j hj s hs => (by rw [← eLL]; exact hseg j hj s hs), fun j hj => hl j (by omega)⟩⟩⟩
end Go.Proofs.Ytjfbecnappgjjaa

/- What the statements of layer 31 ask first, by the engine. -/
set_option linter.unusedVariables false
set_option linter.unusedSimpArgs false
namespace Go.Proofs.Ytjfbecnappgjjaa
open Go Go.RowKit Go.Eng
set_option maxRecDepth 100000
/-- What the statements of this layer ask of a track, ways and places. -/
structure May31 (ss : List Sg) (gs : List Gr) (rs : List (List Int)) (from_ lo hi : Int) : Prop where
  tr : TrackOk ss gs
  ps : ∀ s, s ∈ ss → s.ps.length ≤ 1000
  n60 : ss.length ≤ 60
  g60 : gs.length ≤ 60
  r16 : rs.length ≤ 16
  fr : 0 ≤ from_ ∧ from_ ≤ 1099511627776
  lo : -1152921504606846976 ≤ lo ∧ lo ≤ 1152921504606846976
  hi : -1152921504606846976 ≤ hi ∧ hi ≤ 1152921504606846976
  ways : ∀ l, l ∈ rs → l.length ≤ 12 ∧ ∀ n, n ∈ l → 0 ≤ n ∧ n.toNat < ss.length
theorem May31.lens {ss : List Sg} {gs : List Gr} {rs : List (List Int)} {from_ lo hi : Int} (h : May31 ss gs rs from_ lo hi) : LensOk ss := ⟨fun s hs => by
  obtain ⟨j, hj⟩ := List.mem_iff_getElem?.1 hs
  have := h.tr.seg j (List.getElem?_eq_some_iff.1 hj).1 s hj
  exact ⟨this.pos, this.le⟩⟩
theorem May31.wok {ss : List Sg} {gs : List Gr} {rs : List (List Int)} {from_ lo hi : Int} (h : May31 ss gs rs from_ lo hi) : WaysOk ss rs := ⟨by have := h.r16; omega, h.ways⟩
set_option maxHeartbeats 2000000 in
theorem e_may31 (ss : List Sg) (gs : List Gr) (rs : List (List Int)) (es ds qs : List (List AV)) (hes : es = ss.map sgRow) (hds : ds = gs.map grRow) (hqs : qs = rs.map rtRow) (from_ lo hi : Int) :
    PCalls Try.prog 12 [.agg [.list 3 es, .list 5 ds], .int .i64 from_, .list 1 qs, sp2 lo hi] (fun r => ∃ o : Bool, r = .bool o ∧ (o = true → May31 ss gs rs from_ lo hi)) := by
  have hu : Up0 es := by rw [hes]; exact up_sg ss
  have hud : Up0 ds := by rw [hds]; exact up_gr gs
  have huq : Up0 qs := by rw [hqs]; exact up_rt rs
  have hel : es.length = ss.length := by rw [hes]; simp
  have hdl : ds.length = gs.length := by rw [hds]; simp
  have hql : qs.length = rs.length := by rw [hqs]; simp
  have hut : uptoL 0 [.agg [.list 3 es, .list 5 ds]] = true := Bool.and_eq_true_iff.mpr ⟨Up0.one hu (Up0.one hud rfl), rfl⟩
  (refine PCalls.ofY Try.func12 (by kernel_rfl) (by kernel_rfl) fun w hw R hR => ?_); (obtain ⟨wbin, wcmp, wun, wconv, wnot, wbeq, wmm, wscmp, wsadd, wslen, wsat, weqs, wlen, wnlen, wofNat, wtake, wdrop, wapp, wzero, wnat⟩ := w); (have hbin : wbin = binStd := congrArg Prims.bin hw); (have hcmp : wcmp = cmpStd := congrArg Prims.cmp hw); (have hun : wun = unStd := congrArg Prims.un hw); (have hconv : wconv = fun k n => k.wrap n := congrArg Prims.conv hw); (have hnot : wnot = fun b => !b := congrArg Prims.not hw); (have hbeq : wbeq = fun a b => a == b := congrArg Prims.beq hw); (have hmm : wmm = maxI := congrArg Prims.mm hw); (have hscmp : wscmp = scmpStd := congrArg Prims.scmp hw); (have hsadd : wsadd = fun x y => x ++ y := congrArg Prims.sadd hw); (have hslen : wslen = fun s => (s.size : Int) := congrArg Prims.slen hw); (have hsat : wsat = std.sat := congrArg Prims.sat hw); (have heqs : weqs = fun a b os => (eqOffs a b os).getD false := congrArg Prims.eqs hw); (have hlen : wlen = fun es => (es.length : Int) := congrArg Prims.len hw); (have hnlen : wnlen = fun es => es.length := congrArg Prims.nlen hw); (have hofNat : wofNat = (fun n : Nat => (n : Int)) := congrArg Prims.ofNat hw); (have htake : wtake = fun es b => es.take b.toNat := congrArg Prims.take hw); (have hdrop : wdrop = fun es a => es.drop a.toNat := congrArg Prims.drop hw); (have happ : wapp = fun a b => a ++ b := congrArg Prims.app hw); (have hzero : wzero = fun n z => List.replicate n.toNat z := congrArg Prims.zero hw); (have hnat : wnat = fun n => n.toNat := congrArg Prims.nat hw); (conv => arg 2; cbv); (generalize hP : Try.prog = P); cbv
  (obtain ⟨L, eL, L0, Ln⟩ : ∃ L : Int, wlen es = L ∧ 0 ≤ L ∧ L.toNat = es.length := ⟨(es.length : Int), by rw [hlen], Int.natCast_nonneg _, Int.toNat_natCast _⟩)
  (obtain ⟨J, eJ, J0, Jn⟩ : ∃ L : Int, wlen ds = L ∧ 0 ≤ L ∧ L.toNat = ds.length := ⟨(ds.length : Int), by rw [hlen], Int.natCast_nonneg _, Int.toNat_natCast _⟩)
  (obtain ⟨M, eM, M0, Mn⟩ : ∃ L : Int, wlen qs = L ∧ 0 ≤ L ∧ L.toNat = qs.length := ⟨(qs.length : Int), by rw [hlen], Int.natCast_nonneg _, Int.toNat_natCast _⟩)
  have hF : R (.bool false) := hR _ ⟨_, rfl, fun h => (by cases h)⟩
  repeat' (first | exact ⟨_, Vw.same rfl, hF⟩ | (split <;> rename_i h <;> (try (simp only [eL, eJ, eM] at h)) <;> (try (simp only [hbin, hcmp, hun, hconv, hnot, hbeq, hmm, hscmp, hsadd, hslen, hsat, heqs, hofNat, binStd, cmpStd, unStd, scmpStd, maxI, Bool.not_eq_true', Bool.not_eq_false', decide_eq_true_eq, decide_eq_false_iff_not, Int.not_lt, Int.not_le, if_true, if_false, Bool.false_eq_true, beq_iff_eq, bne_iff_ne, ne_eq, Bool.not_eq_eq_eq_not, Bool.not_true, Bool.not_false, beq_eq_false_iff_ne, bne_eq_false_iff_eq, Int.ofNat_eq_natCast, Bool.not_not, not_true_eq_false, not_false_eq_true, reduceCtorEq] at h)) <;> (try cbv)))
  have hb : ss.length ≤ 60 ∧ gs.length ≤ 60 ∧ rs.length ≤ 16 ∧ (0 ≤ from_ ∧ from_ ≤ 1099511627776) ∧ (-1152921504606846976 ≤ lo ∧ lo ≤ 1152921504606846976) ∧ (-1152921504606846976 ≤ hi ∧ hi ≤ 1152921504606846976) := by omega
  obtain ⟨b1, b2, b3, b4, b5, b6⟩ := hb
  refine Loop.data hw (S := Int) (fun i => fr 112 [(2, .list 1 qs), (4, .ref 0 2 0 0), (61, .list 3 es), (62, .int .i64 L), (63, .int .i64 i)]) (fun i => [.live 2 [[.list 3 es, .list 5 ds]]]) (fun i => 0 ≤ i ∧ i ≤ L ∧ ∀ j, j < i.toNat → ∀ s, ss[j]? = some s → s.ps.length ≤ 100) (fun i => (L - i).toNat) 0 (by (refine Wk.eqz (id) (by first | exact fun i _ j _ e => e | (simp only [List.length_cons, List.length_nil]; decide)) ?_; cbv; (repeat' (first | exact trivial | rfl | assumption | apply And.intro | (simp only [hbin, hcmp, hun, hconv, hnot, hbeq, hmm, hscmp, hsadd, hslen, hsat, heqs, hofNat, binStd, cmpStd, unStd, scmpStd, maxI, Bool.not_eq_true', Bool.not_eq_false', decide_eq_true_eq, decide_eq_false_iff_not, Int.not_lt, Int.not_le, if_true, if_false, Bool.false_eq_true, beq_iff_eq, bne_iff_ne, ne_eq, Bool.not_eq_eq_eq_not, Bool.not_true, Bool.not_false, beq_eq_false_iff_ne, bne_eq_false_iff_eq, Int.ofNat_eq_natCast, Bool.not_not, not_true_eq_false, not_false_eq_true, reduceCtorEq]; first | done | assumption) | exact RowsZ.same (by assumption) (by first | assumption | rfl) | exact FzL.mk rfl rfl rfl (by assumption) (by first | assumption | rfl) (by decide) | (refine RowsZ.one ?_; cbv))))) ⟨Int.le_refl _, L0, fun j hj => (by simp at hj)⟩ ?_
  rintro i hinv Q' hN hE hR'
  have hinv : 0 ≤ i ∧ i ≤ L ∧ ∀ j, j < i.toNat → ∀ s, ss[j]? = some s → s.ps.length ≤ 100 := hinv
  cbv
  obtain ⟨hi0, hi1, hl⟩ := hinv
  (split <;> rename_i hc <;> (try (simp only [hbin, hcmp, hun, hconv, hnot, hbeq, hmm, hscmp, hsadd, hslen, hsat, heqs, hofNat, binStd, cmpStd, unStd, scmpStd, maxI, Bool.not_eq_true', Bool.not_eq_false', decide_eq_true_eq, decide_eq_false_iff_not, Int.not_lt, Int.not_le, if_true, if_false, Bool.false_eq_true, beq_iff_eq, bne_iff_ne, ne_eq, Bool.not_eq_eq_eq_not, Bool.not_true, Bool.not_false, beq_eq_false_iff_ne, bne_eq_false_iff_eq, Int.ofNat_eq_natCast, Bool.not_not, not_true_eq_false, not_false_eq_true, reduceCtorEq] at hc)) <;> (try cbv))
  · obtain ⟨⟨len, ps, nx⟩, hd, hrow⟩ := get_map (f := sgRow) (ds := ss) (i := i) hi0 (by omega)
    obtain ⟨q1, eq1⟩ : ∃ x, ps.map pcRow = x := ⟨_, rfl⟩
    obtain ⟨n1, en1⟩ : ∃ x, nx.map nxRow = x := ⟨_, rfl⟩
    have hrow : es[i.toNat]? = some [.int .i64 len, .list 2 q1, .list 1 n1] := by rw [hes, ← eq1, ← en1]; exact hrow
    have hql : q1.length = ps.length := by rw [← eq1]; simp
    (obtain ⟨K, eK, K0, Kn⟩ : ∃ L : Int, wlen q1 = L ∧ 0 ≤ L ∧ L.toNat = q1.length := ⟨(q1.length : Int), by rw [hlen], Int.natCast_nonneg _, Int.toNat_natCast _⟩)
    obtain ⟨i', ei'⟩ : ∃ x, i + 1 = x := ⟨_, rfl⟩
    have ei : wbin .add .i64 i 1 = i' := by rw [hbin, i_add (by omega) (by omega)]; exact ei'
    have hT : (L - i').toNat < (L - i).toNat := by omega
    refine Idx.mk [.int .i64 len, .list 2 q1, .list 1 n1] hi0 hrow ?_
    cbv
    repeat' (first | exact hR' _ _ ⟨_, Vw.same rfl, hF⟩ | (split <;> rename_i h <;> (try (simp only [eK] at h)) <;> (try (simp only [hbin, hcmp, hun, hconv, hnot, hbeq, hmm, hscmp, hsadd, hslen, hsat, heqs, hofNat, binStd, cmpStd, unStd, scmpStd, maxI, Bool.not_eq_true', Bool.not_eq_false', decide_eq_true_eq, decide_eq_false_iff_not, Int.not_lt, Int.not_le, if_true, if_false, Bool.false_eq_true, beq_iff_eq, bne_iff_ne, ne_eq, Bool.not_eq_eq_eq_not, Bool.not_true, Bool.not_false, beq_eq_false_iff_ne, bne_eq_false_iff_eq, Int.ofNat_eq_natCast, Bool.not_not, not_true_eq_false, not_false_eq_true, reduceCtorEq] at h)) <;> (try cbv)))
    refine hN i' _ _ ?hx ?hI hT
    case hx => (refine Wk.eqz (id) (by first | exact fun i _ j _ e => e | (simp only [List.length_cons, List.length_nil]; decide)) ?_; cbv; (repeat' (first | exact trivial | rfl | assumption | apply And.intro | (simp only [hbin, hcmp, hun, hconv, hnot, hbeq, hmm, hscmp, hsadd, hslen, hsat, heqs, hofNat, binStd, cmpStd, unStd, scmpStd, maxI, Bool.not_eq_true', Bool.not_eq_false', decide_eq_true_eq, decide_eq_false_iff_not, Int.not_lt, Int.not_le, if_true, if_false, Bool.false_eq_true, beq_iff_eq, bne_iff_ne, ne_eq, Bool.not_eq_eq_eq_not, Bool.not_true, Bool.not_false, beq_eq_false_iff_ne, bne_eq_false_iff_eq, Int.ofNat_eq_natCast, Bool.not_not, not_true_eq_false, not_false_eq_true, reduceCtorEq]; first | done | assumption) | exact RowsZ.same (by assumption) (by first | assumption | rfl) | exact FzL.mk rfl rfl rfl (by assumption) (by first | assumption | rfl) (by decide) | (refine RowsZ.one ?_; cbv))))
    case hI =>
      refine ⟨by omega, by omega, ?_⟩
      rw [← ei']
      refine all_step hi0 hl fun m hm => ?_
      rw [hd] at hm
      obtain rfl : (⟨len, ps, nx⟩ : Sg) = m := by simpa using hm
      simp only; omega
  refine hE _ _ _ ?_
  cbv
  have hps : ∀ s, s ∈ ss → s.ps.length ≤ 1000 := fun s hs => by
    obtain ⟨j, hj⟩ := List.mem_iff_getElem?.1 hs
    have := hl j (by have := (List.getElem?_eq_some_iff.1 hj).1; omega) s hj
    omega
  refine Loop.data hw (S := Int) (fun i => fr 112 [(2, .list 1 qs), (4, .ref 0 2 0 0), (78, .list 1 qs), (79, .int .i64 M), (80, .int .i64 i)]) (fun i => [.live 2 [[.list 3 es, .list 5 ds]]]) (fun i => 0 ≤ i ∧ i ≤ M ∧ ∀ j l, j < i.toNat → rs[j]? = some l → l.length ≤ 12 ∧ ∀ n, n ∈ l → 0 ≤ n ∧ n.toNat < ss.length) (fun i => (M - i).toNat) 0 (by (refine Wk.eqz (id) (by first | exact fun i _ j _ e => e | (simp only [List.length_cons, List.length_nil]; decide)) ?_; cbv; (repeat' (first | exact trivial | rfl | assumption | apply And.intro | (simp only [hbin, hcmp, hun, hconv, hnot, hbeq, hmm, hscmp, hsadd, hslen, hsat, heqs, hofNat, binStd, cmpStd, unStd, scmpStd, maxI, Bool.not_eq_true', Bool.not_eq_false', decide_eq_true_eq, decide_eq_false_iff_not, Int.not_lt, Int.not_le, if_true, if_false, Bool.false_eq_true, beq_iff_eq, bne_iff_ne, ne_eq, Bool.not_eq_eq_eq_not, Bool.not_true, Bool.not_false, beq_eq_false_iff_ne, bne_eq_false_iff_eq, Int.ofNat_eq_natCast, Bool.not_not, not_true_eq_false, not_false_eq_true, reduceCtorEq]; first | done | assumption) | exact RowsZ.same (by assumption) (by first | assumption | rfl) | exact FzL.mk rfl rfl rfl (by assumption) (by first | assumption | rfl) (by decide) | (refine RowsZ.one ?_; cbv))))) ⟨Int.le_refl _, M0, fun j l hj => (by simp at hj)⟩ ?_
  rintro i2 hinv2 Q2 hN2 hE2 hR2
  have hinv2 : 0 ≤ i2 ∧ i2 ≤ M ∧ ∀ j l, j < i2.toNat → rs[j]? = some l → l.length ≤ 12 ∧ ∀ n, n ∈ l → 0 ≤ n ∧ n.toNat < ss.length := hinv2
  cbv
  obtain ⟨hj0, hj1, hrl⟩ := hinv2
  (split <;> rename_i hc2 <;> (try (simp only [hbin, hcmp, hun, hconv, hnot, hbeq, hmm, hscmp, hsadd, hslen, hsat, heqs, hofNat, binStd, cmpStd, unStd, scmpStd, maxI, Bool.not_eq_true', Bool.not_eq_false', decide_eq_true_eq, decide_eq_false_iff_not, Int.not_lt, Int.not_le, if_true, if_false, Bool.false_eq_true, beq_iff_eq, bne_iff_ne, ne_eq, Bool.not_eq_eq_eq_not, Bool.not_true, Bool.not_false, beq_eq_false_iff_ne, bne_eq_false_iff_eq, Int.ofNat_eq_natCast, Bool.not_not, not_true_eq_false, not_false_eq_true, reduceCtorEq] at hc2)) <;> (try cbv))
  · obtain ⟨l, hd, hrow⟩ := get_map (f := rtRow) (ds := rs) (i := i2) hj0 (by omega)
    obtain ⟨ls, els⟩ : ∃ x, l.map nxRow = x := ⟨_, rfl⟩
    have huls : Up0 ls := by rw [← els]; exact up_nx l
    have hll : ls.length = l.length := by rw [← els]; simp
    have hrow : qs[i2.toNat]? = some [.list 1 ls] := by rw [hqs, ← els]; exact hrow
    obtain ⟨i', ei'⟩ : ∃ x, i2 + 1 = x := ⟨_, rfl⟩
    have ei : wbin .add .i64 i2 1 = i' := by rw [hbin, i_add (by omega) (by omega)]; exact ei'
    refine Idx.mk [.list 1 ls] hj0 hrow ?_
    cbv
    (obtain ⟨K, eK, K0, Kn⟩ : ∃ L : Int, wlen ls = L ∧ 0 ≤ L ∧ L.toNat = ls.length := ⟨(ls.length : Int), by rw [hlen], Int.natCast_nonneg _, Int.toNat_natCast _⟩)
    (split <;> rename_i h12 <;> (try (simp only [eK] at h12)) <;> (try (simp only [hbin, hcmp, hun, hconv, hnot, hbeq, hmm, hscmp, hsadd, hslen, hsat, heqs, hofNat, binStd, cmpStd, unStd, scmpStd, maxI, Bool.not_eq_true', Bool.not_eq_false', decide_eq_true_eq, decide_eq_false_iff_not, Int.not_lt, Int.not_le, if_true, if_false, Bool.false_eq_true, beq_iff_eq, bne_iff_ne, ne_eq, Bool.not_eq_eq_eq_not, Bool.not_true, Bool.not_false, beq_eq_false_iff_ne, bne_eq_false_iff_eq, Int.ofNat_eq_natCast, Bool.not_not, not_true_eq_false, not_false_eq_true, reduceCtorEq] at h12)) <;> (try cbv))
    · exact hR2 _ _ ⟨_, Vw.same rfl, hF⟩
    refine Loop.data hw (S := Int) (fun j => fr 112 [(2, .list 1 qs), (4, .ref 0 2 0 0), (78, .list 1 qs), (79, .int .i64 M), (80, .int .i64 i2), (87, .list 1 ls), (88, .int .i64 K), (89, .int .i64 j)]) (fun j => [.live 2 [[.list 3 es, .list 5 ds]]]) (fun j => 0 ≤ j ∧ j ≤ K ∧ ∀ k n, k < j.toNat → l[k]? = some n → 0 ≤ n ∧ n.toNat < ss.length) (fun j => (K - j).toNat) 0 (by (refine Wk.eqz (id) (by first | exact fun i _ j _ e => e | (simp only [List.length_cons, List.length_nil]; decide)) ?_; cbv; (repeat' (first | exact trivial | rfl | assumption | apply And.intro | (simp only [hbin, hcmp, hun, hconv, hnot, hbeq, hmm, hscmp, hsadd, hslen, hsat, heqs, hofNat, binStd, cmpStd, unStd, scmpStd, maxI, Bool.not_eq_true', Bool.not_eq_false', decide_eq_true_eq, decide_eq_false_iff_not, Int.not_lt, Int.not_le, if_true, if_false, Bool.false_eq_true, beq_iff_eq, bne_iff_ne, ne_eq, Bool.not_eq_eq_eq_not, Bool.not_true, Bool.not_false, beq_eq_false_iff_ne, bne_eq_false_iff_eq, Int.ofNat_eq_natCast, Bool.not_not, not_true_eq_false, not_false_eq_true, reduceCtorEq]; first | done | assumption) | exact RowsZ.same (by assumption) (by first | assumption | rfl) | exact FzL.mk rfl rfl rfl (by assumption) (by first | assumption | rfl) (by decide) | (refine RowsZ.one ?_; cbv))))) ⟨Int.le_refl _, K0, fun j l hj => (by simp at hj)⟩ ?_
    rintro j hinv3 Q3 hN3 hE3 hR3
    have hinv3 : 0 ≤ j ∧ j ≤ K ∧ ∀ k n, k < j.toNat → l[k]? = some n → 0 ≤ n ∧ n.toNat < ss.length := hinv3
    cbv
    obtain ⟨hk0, hk1, hnl⟩ := hinv3
    (split <;> rename_i hc3 <;> (try (simp only [hbin, hcmp, hun, hconv, hnot, hbeq, hmm, hscmp, hsadd, hslen, hsat, heqs, hofNat, binStd, cmpStd, unStd, scmpStd, maxI, Bool.not_eq_true', Bool.not_eq_false', decide_eq_true_eq, decide_eq_false_iff_not, Int.not_lt, Int.not_le, if_true, if_false, Bool.false_eq_true, beq_iff_eq, bne_iff_ne, ne_eq, Bool.not_eq_eq_eq_not, Bool.not_true, Bool.not_false, beq_eq_false_iff_ne, bne_eq_false_iff_eq, Int.ofNat_eq_natCast, Bool.not_not, not_true_eq_false, not_false_eq_true, reduceCtorEq] at hc3)) <;> (try cbv))
    · obtain ⟨n, hdn, hrn⟩ := get_map (f := nxRow) (ds := l) (i := j) hk0 (by omega)
      have hrn : ls[j.toNat]? = some [.int .i64 n] := by rw [← els]; exact hrn
      obtain ⟨j', ej'⟩ : ∃ x, j + 1 = x := ⟨_, rfl⟩
      have ej : wbin .add .i64 j 1 = j' := by rw [hbin, i_add (by omega) (by omega)]; exact ej'
      refine Idx.mk [.int .i64 n] hk0 hrn ?_
      cbv
      repeat' (first | exact hR3 _ _ (hR2 _ _ ⟨_, Vw.same rfl, hF⟩) | (split <;> rename_i h <;> (try (simp only [eL] at h)) <;> (try (simp only [hbin, hcmp, hun, hconv, hnot, hbeq, hmm, hscmp, hsadd, hslen, hsat, heqs, hofNat, binStd, cmpStd, unStd, scmpStd, maxI, Bool.not_eq_true', Bool.not_eq_false', decide_eq_true_eq, decide_eq_false_iff_not, Int.not_lt, Int.not_le, if_true, if_false, Bool.false_eq_true, beq_iff_eq, bne_iff_ne, ne_eq, Bool.not_eq_eq_eq_not, Bool.not_true, Bool.not_false, beq_eq_false_iff_ne, bne_eq_false_iff_eq, Int.ofNat_eq_natCast, Bool.not_not, not_true_eq_false, not_false_eq_true, reduceCtorEq] at h)) <;> (try cbv)))
      refine hN3 j' _ _ ?hx ?hI (show (K - j').toNat < (K - j).toNat by omega)
      case hx => (refine Wk.eqz (id) (by first | exact fun i _ j _ e => e | (simp only [List.length_cons, List.length_nil]; decide)) ?_; cbv; (repeat' (first | exact trivial | rfl | assumption | apply And.intro | (simp only [hbin, hcmp, hun, hconv, hnot, hbeq, hmm, hscmp, hsadd, hslen, hsat, heqs, hofNat, binStd, cmpStd, unStd, scmpStd, maxI, Bool.not_eq_true', Bool.not_eq_false', decide_eq_true_eq, decide_eq_false_iff_not, Int.not_lt, Int.not_le, if_true, if_false, Bool.false_eq_true, beq_iff_eq, bne_iff_ne, ne_eq, Bool.not_eq_eq_eq_not, Bool.not_true, Bool.not_false, beq_eq_false_iff_ne, bne_eq_false_iff_eq, Int.ofNat_eq_natCast, Bool.not_not, not_true_eq_false, not_false_eq_true, reduceCtorEq]; first | done | assumption) | exact RowsZ.same (by assumption) (by first | assumption | rfl) | exact FzL.mk rfl rfl rfl (by assumption) (by first | assumption | rfl) (by decide) | (refine RowsZ.one ?_; cbv))))
      case hI =>
        refine ⟨by omega, by omega, fun k m hk hkm => ?_⟩
        by_cases hkj : k = j.toNat
        · subst hkj; rw [hdn] at hkm; cases hkm; omega
        · exact hnl k m (by omega) hkm
    · refine hE3 _ _ _ ?_
      cbv
      refine hN2 i' _ _ ?hx ?hI (show (M - i').toNat < (M - i2).toNat by omega)
      case hx => (refine Wk.eqz (id) (by first | exact fun i _ j _ e => e | (simp only [List.length_cons, List.length_nil]; decide)) ?_; cbv; (repeat' (first | exact trivial | rfl | assumption | apply And.intro | (simp only [hbin, hcmp, hun, hconv, hnot, hbeq, hmm, hscmp, hsadd, hslen, hsat, heqs, hofNat, binStd, cmpStd, unStd, scmpStd, maxI, Bool.not_eq_true', Bool.not_eq_false', decide_eq_true_eq, decide_eq_false_iff_not, Int.not_lt, Int.not_le, if_true, if_false, Bool.false_eq_true, beq_iff_eq, bne_iff_ne, ne_eq, Bool.not_eq_eq_eq_not, Bool.not_true, Bool.not_false, beq_eq_false_iff_ne, bne_eq_false_iff_eq, Int.ofNat_eq_natCast, Bool.not_not, not_true_eq_false, not_false_eq_true, reduceCtorEq]; first | done | assumption) | exact RowsZ.same (by assumption) (by first | assumption | rfl) | exact FzL.mk rfl rfl rfl (by assumption) (by first | assumption | rfl) (by decide) | (refine RowsZ.one ?_; cbv))))
      case hI =>
        refine ⟨by omega, by omega, fun k m hk hkm => ?_⟩
        by_cases hkj : k = i2.toNat
        · subst hkj; rw [hd] at hkm; cases hkm
          refine ⟨by omega, fun n hn => ?_⟩
          obtain ⟨q, hq⟩ := List.mem_iff_getElem?.1 hn
          exact hnl q n (by have := (List.getElem?_eq_some_iff.1 hq).1; omega) hq
        · exact hrl k m (by omega) hkm
  · refine hE2 _ _ _ ?_
    cbv
    have hways : ∀ l, l ∈ rs → l.length ≤ 12 ∧ ∀ n, n ∈ l → 0 ≤ n ∧ n.toNat < ss.length := fun l hl => by
      obtain ⟨q, hq⟩ := List.mem_iff_getElem?.1 hl
      exact hrl q l (by have := (List.getElem?_eq_some_iff.1 hq).1; omega) hq
    refine Call.stepE (by rw [← hP]; exact e_refsT31 ss gs es ds hes hds (by omega) (by omega) hps) (by exact hut) ?_
    cbv
    refine Call.step (by rw [← hP]; exact e_check11 ss gs es ds hes hds) (by exact hut) ?_
    rintro r ⟨e, i, rfl, hok⟩
    cbv
    refine ⟨_, Vw.same rfl, hR _ ⟨_, rfl, fun ho => ⟨hok ?_, hps, b1, b2, b3, b4, b5, b6, hways⟩⟩⟩
    rw [hcmp] at ho
    simpa [cmpStd] using ho
theorem e_same31 (sp : List Sp) (ps : List (List AV)) (hps : ps = sp.map spRow) (hn : sp.length ≤ 1000000) : PCalls Try.prog 14 [.list 3 ps, .list 3 ps] (· = .bool true) := by
  have hu : Up0 ps := by rw [hps]; exact up_sp _
  have hpl : ps.length = sp.length := by rw [hps]; simp
  (refine PCalls.ofY Try.func14 (by kernel_rfl) (by kernel_rfl) fun w hw R hR => ?_); (obtain ⟨wbin, wcmp, wun, wconv, wnot, wbeq, wmm, wscmp, wsadd, wslen, wsat, weqs, wlen, wnlen, wofNat, wtake, wdrop, wapp, wzero, wnat⟩ := w); (have hbin : wbin = binStd := congrArg Prims.bin hw); (have hcmp : wcmp = cmpStd := congrArg Prims.cmp hw); (have hun : wun = unStd := congrArg Prims.un hw); (have hconv : wconv = fun k n => k.wrap n := congrArg Prims.conv hw); (have hnot : wnot = fun b => !b := congrArg Prims.not hw); (have hbeq : wbeq = fun a b => a == b := congrArg Prims.beq hw); (have hmm : wmm = maxI := congrArg Prims.mm hw); (have hscmp : wscmp = scmpStd := congrArg Prims.scmp hw); (have hsadd : wsadd = fun x y => x ++ y := congrArg Prims.sadd hw); (have hslen : wslen = fun s => (s.size : Int) := congrArg Prims.slen hw); (have hsat : wsat = std.sat := congrArg Prims.sat hw); (have heqs : weqs = fun a b os => (eqOffs a b os).getD false := congrArg Prims.eqs hw); (have hlen : wlen = fun es => (es.length : Int) := congrArg Prims.len hw); (have hnlen : wnlen = fun es => es.length := congrArg Prims.nlen hw); (have hofNat : wofNat = (fun n : Nat => (n : Int)) := congrArg Prims.ofNat hw); (have htake : wtake = fun es b => es.take b.toNat := congrArg Prims.take hw); (have hdrop : wdrop = fun es a => es.drop a.toNat := congrArg Prims.drop hw); (have happ : wapp = fun a b => a ++ b := congrArg Prims.app hw); (have hzero : wzero = fun n z => List.replicate n.toNat z := congrArg Prims.zero hw); (have hnat : wnat = fun n => n.toNat := congrArg Prims.nat hw); (conv => arg 2; cbv); (generalize hP : Try.prog = P); cbv
  (obtain ⟨L, eL, L0, Ln⟩ : ∃ L : Int, wlen ps = L ∧ 0 ≤ L ∧ L.toNat = ps.length := ⟨(ps.length : Int), by rw [hlen], Int.natCast_nonneg _, Int.toNat_natCast _⟩)
  (split <;> rename_i h <;> (try (simp only [eL] at h)) <;> (try (simp only [hbin, hcmp, hun, hconv, hnot, hbeq, hmm, hscmp, hsadd, hslen, hsat, heqs, hofNat, binStd, cmpStd, unStd, scmpStd, maxI, Bool.not_eq_true', Bool.not_eq_false', decide_eq_true_eq, decide_eq_false_iff_not, Int.not_lt, Int.not_le, if_true, if_false, Bool.false_eq_true, beq_iff_eq, bne_iff_ne, ne_eq, Bool.not_eq_eq_eq_not, Bool.not_true, Bool.not_false, beq_eq_false_iff_ne, bne_eq_false_iff_eq, Int.ofNat_eq_natCast, Bool.not_not, not_true_eq_false, not_false_eq_true, reduceCtorEq] at h)) <;> (try cbv))
  refine Loop.data hw (S := Int) (fun i => fr 26 [(0, .list 3 ps), (1, .list 3 ps), (12, .int .i64 L), (13, .int .i64 i)]) (fun i => []) (fun i => 0 ≤ i ∧ i ≤ L) (fun i => (L - i).toNat) 0 (by (refine Wk.eqz (id) (by first | exact fun i _ j _ e => e | (simp only [List.length_cons, List.length_nil]; decide)) ?_; cbv; (repeat' (first | exact trivial | rfl | assumption | apply And.intro | (simp only [hbin, hcmp, hun, hconv, hnot, hbeq, hmm, hscmp, hsadd, hslen, hsat, heqs, hofNat, binStd, cmpStd, unStd, scmpStd, maxI, Bool.not_eq_true', Bool.not_eq_false', decide_eq_true_eq, decide_eq_false_iff_not, Int.not_lt, Int.not_le, if_true, if_false, Bool.false_eq_true, beq_iff_eq, bne_iff_ne, ne_eq, Bool.not_eq_eq_eq_not, Bool.not_true, Bool.not_false, beq_eq_false_iff_ne, bne_eq_false_iff_eq, Int.ofNat_eq_natCast, Bool.not_not, not_true_eq_false, not_false_eq_true, reduceCtorEq]; first | done | assumption) | exact RowsZ.same (by assumption) (by first | assumption | rfl) | exact FzL.mk rfl rfl rfl (by assumption) (by first | assumption | rfl) (by decide) | (refine RowsZ.one ?_; cbv))))) ⟨Int.le_refl _, L0⟩ ?_
  rintro i hinv Q' hN hE hR'
  have hinv : 0 ≤ i ∧ i ≤ L := hinv
  cbv
  obtain ⟨hi0, hi1⟩ := hinv
  (split <;> rename_i hc <;> (try (simp only [eL] at hc)) <;> (try (simp only [hbin, hcmp, hun, hconv, hnot, hbeq, hmm, hscmp, hsadd, hslen, hsat, heqs, hofNat, binStd, cmpStd, unStd, scmpStd, maxI, Bool.not_eq_true', Bool.not_eq_false', decide_eq_true_eq, decide_eq_false_iff_not, Int.not_lt, Int.not_le, if_true, if_false, Bool.false_eq_true, beq_iff_eq, bne_iff_ne, ne_eq, Bool.not_eq_eq_eq_not, Bool.not_true, Bool.not_false, beq_eq_false_iff_ne, bne_eq_false_iff_eq, Int.ofNat_eq_natCast, Bool.not_not, not_true_eq_false, not_false_eq_true, reduceCtorEq] at hc)) <;> (try cbv))
  · obtain ⟨⟨n, a, b⟩, hd, hrow⟩ := get_map (f := spRow) (ds := sp) (i := i) hi0 (by omega)
    have hrow : ps[i.toNat]? = some [.int .i64 n, .int .i64 a, .int .i64 b] := by rw [hps]; exact hrow
    obtain ⟨i', ei'⟩ : ∃ x, i + 1 = x := ⟨_, rfl⟩
    have ei : wbin .add .i64 i 1 = i' := by rw [hbin, i_add (by omega) (by omega)]; exact ei'
    refine Idx.mk _ hi0 hrow ?_
    cbv
    refine Idx.mk _ hi0 hrow ?_
    cbv
    have e1 : wnot (weqs [.int .i64 n, .int .i64 a, .int .i64 b] [.int .i64 n, .int .i64 a, .int .i64 b] [(0, 1), (1, 1), (2, 1)]) = false := by
      rw [hnot, heqs]; simp [eqOffs, eqA]
    simp only [e1]
    cbv
    refine hN i' _ _ ?hx ?hI (show (L - i').toNat < (L - i).toNat by omega)
    case hx => (refine Wk.eqz (id) (by first | exact fun i _ j _ e => e | (simp only [List.length_cons, List.length_nil]; decide)) ?_; cbv; (repeat' (first | exact trivial | rfl | assumption | apply And.intro | (simp only [hbin, hcmp, hun, hconv, hnot, hbeq, hmm, hscmp, hsadd, hslen, hsat, heqs, hofNat, binStd, cmpStd, unStd, scmpStd, maxI, Bool.not_eq_true', Bool.not_eq_false', decide_eq_true_eq, decide_eq_false_iff_not, Int.not_lt, Int.not_le, if_true, if_false, Bool.false_eq_true, beq_iff_eq, bne_iff_ne, ne_eq, Bool.not_eq_eq_eq_not, Bool.not_true, Bool.not_false, beq_eq_false_iff_ne, bne_eq_false_iff_eq, Int.ofNat_eq_natCast, Bool.not_not, not_true_eq_false, not_false_eq_true, reduceCtorEq]; first | done | assumption) | exact RowsZ.same (by assumption) (by first | assumption | rfl) | exact FzL.mk rfl rfl rfl (by assumption) (by first | assumption | rfl) (by decide) | (refine RowsZ.one ?_; cbv))))
    case hI => exact ⟨by omega, by omega⟩
  · refine hE _ _ _ ?_
    cbv
    exact ⟨_, Vw.same rfl, hR _ rfl⟩
theorem e_anchor31 : PCalls Try.prog 11 [] (· = .bool true) := by
  have hw1 := e_within [⟨10, [(0, 0)], []⟩, ⟨5, [(0, 0)], []⟩, ⟨6, [(0, 0)], []⟩] [] [[0, 1], [0, 2]] _ _ _ rfl rfl rfl 4 5 8 ⟨by decide⟩ ⟨by decide, by decide⟩ (by decide) (by decide) (by decide) (by decide)
  have hs : spotsOf 3 (allParts [⟨10, [(0, 0)], []⟩, ⟨5, [(0, 0)], []⟩, ⟨6, [(0, 0)], []⟩] 5 8 4 [[0, 1], [0, 2]]) = [(0, 9, 10), (1, 0, 2), (2, 0, 2)] := by decide
  have hw2 := PCalls.le (args := [.agg [.list 3 [[.int .i64 10, .list 2 [[.int .i64 0, .int .i64 0]], .nils], [.int .i64 5, .list 2 [[.int .i64 0, .int .i64 0]], .nils], [.int .i64 6, .list 2 [[.int .i64 0, .int .i64 0]], .nils]], .nils], .int .i64 4, .list 1 [[.list 1 [[.int .i64 0], [.int .i64 1]]], [.list 1 [[.int .i64 0], [.int .i64 2]]]], sp2 5 8]) hw1 rfl
  rw [show ([⟨10, [(0, 0)], []⟩, ⟨5, [(0, 0)], []⟩, ⟨6, [(0, 0)], []⟩] : List Sg).length = 3 from rfl, hs] at hw2
  (refine PCalls.ofY Try.func11 (by kernel_rfl) (by kernel_rfl) fun w hw R hR => ?_); (subst hw); (conv => arg 2; cbv); (generalize hP : Try.prog = P); cbv
  refine Call.stepE (by rw [← hP]; exact hw2) rfl ?_
  cbv
  repeat' (first
    | (refine Idx.mk _ (by decide) rfl ?_; cbv)
    | (exact ⟨_, Vw.same rfl, hR _ rfl⟩))
end Go.Proofs.Ytjfbecnappgjjaa

/- Spots, plainly: what covers what. -/
set_option linter.unusedVariables false
namespace Go.Proofs.Ytjfbecnappgjjaa
open Go
def stpO (q : Int) (o : Option (Int × Int)) (c : Sp) : Option (Int × Int) := if q = c.1 then some (joinO o c.2.1 c.2.2) else o
theorem segO_fold (cs : List Sp) (q : Int) : segO cs q = cs.foldl (stpO q) none := rfl
theorem stpO_up (q : Int) (o : Option (Int × Int)) (c : Sp) (a b : Int) (h : o = some (a, b)) : ∃ x y, stpO q o c = some (x, y) ∧ x ≤ a ∧ b ≤ y := by
  subst h
  unfold stpO joinO
  split
  · exact ⟨_, _, rfl, by omega, by omega⟩
  · exact ⟨_, _, rfl, by omega, by omega⟩
theorem stpO_own (q : Int) (o : Option (Int × Int)) (c : Sp) (h : c.1 = q) : ∃ x y, stpO q o c = some (x, y) ∧ x ≤ c.2.1 ∧ c.2.2 ≤ y := by
  unfold stpO joinO
  rw [if_pos h.symm]
  cases o with
  | none => exact ⟨_, _, rfl, by omega, by omega⟩
  | some p => obtain ⟨x, y⟩ := p; exact ⟨_, _, rfl, by omega, by omega⟩
theorem fold_up (q : Int) : ∀ (cs : List Sp) (o : Option (Int × Int)) (a b : Int), o = some (a, b) → ∃ x y, cs.foldl (stpO q) o = some (x, y) ∧ x ≤ a ∧ b ≤ y
  | [], o, a, b, h => ⟨a, b, h, Int.le_refl _, Int.le_refl _⟩
  | c :: cs, o, a, b, h => by
    obtain ⟨x, y, h1, h2, h3⟩ := stpO_up q o c a b h
    obtain ⟨u, v, g1, g2, g3⟩ := fold_up q cs _ x y h1
    exact ⟨u, v, g1, by omega, by omega⟩
theorem fold_own (q : Int) : ∀ (cs : List Sp) (o : Option (Int × Int)) (c : Sp), c ∈ cs → c.1 = q → ∃ x y, cs.foldl (stpO q) o = some (x, y) ∧ x ≤ c.2.1 ∧ c.2.2 ≤ y
  | [], o, c, h, _ => by cases h
  | d :: cs, o, c, h, hq => by
    rcases List.mem_cons.1 h with rfl | h
    · obtain ⟨x, y, h1, h2, h3⟩ := stpO_own q o c hq
      obtain ⟨u, v, g1, g2, g3⟩ := fold_up q cs _ x y h1
      exact ⟨u, v, g1, by omega, by omega⟩
    · exact fold_own q cs _ c h hq
/-- A part lies in its segment's spot. -/
theorem segO_own {cs : List Sp} {c : Sp} (h : c ∈ cs) : ∃ x y, segO cs c.1 = some (x, y) ∧ x ≤ c.2.1 ∧ c.2.2 ≤ y := fold_own c.1 cs none c h rfl
theorem fold_from (q : Int) (X Y : Int) : ∀ (cs : List Sp) (o : Option (Int × Int)), (∀ a b, o = some (a, b) → X ≤ a ∧ b ≤ Y) → (∀ c, c ∈ cs → c.1 = q → X ≤ c.2.1 ∧ c.2.2 ≤ Y) → ∀ a b, cs.foldl (stpO q) o = some (a, b) → X ≤ a ∧ b ≤ Y
  | [], o, ho, hc, a, b, h => ho a b h
  | c :: cs, o, ho, hc, a, b, h => by
    refine fold_from q X Y cs (stpO q o c) ?_ (fun c hcm hq => hc c (List.mem_cons_of_mem _ hcm) hq) a b h
    intro a b hab
    unfold stpO at hab
    split at hab
    · rename_i hq
      have h1 := hc c List.mem_cons_self hq.symm
      unfold joinO at hab
      cases o with
      | none => simp only [Option.some.injEq, Prod.mk.injEq] at hab; obtain ⟨rfl, rfl⟩ := hab; exact h1
      | some p =>
        obtain ⟨x, y⟩ := p
        simp only [Option.some.injEq, Prod.mk.injEq] at hab
        have := ho x y rfl
        omega
    · exact ho a b hab
theorem fold_some (q : Int) : ∀ (cs : List Sp) (a b : Int), cs.foldl (stpO q) none = some (a, b) → ∃ c, c ∈ cs ∧ c.1 = q
  | [], a, b, h => by cases h
  | c :: cs, a, b, h => by
    by_cases hq : c.1 = q
    · exact ⟨c, List.mem_cons_self, hq⟩
    · have e : stpO q none c = none := by unfold stpO; rw [if_neg (Ne.symm hq)]
      rw [List.foldl_cons, e] at h
      obtain ⟨d, hd, he⟩ := fold_some q cs a b h
      exact ⟨d, List.mem_cons_of_mem _ hd, he⟩
/-- More parts, wider parts: wider spots. -/
theorem segO_wide {cs ds : List Sp} (h : ∀ c, c ∈ cs → ∃ d, d ∈ ds ∧ d.1 = c.1 ∧ d.2.1 ≤ c.2.1 ∧ c.2.2 ≤ d.2.2) {q a b : Int} (hs : segO cs q = some (a, b)) : ∃ x y, segO ds q = some (x, y) ∧ x ≤ a ∧ b ≤ y := by
  obtain ⟨c, hc, hq⟩ := fold_some q cs a b hs
  obtain ⟨d, hd, hd1, _, _⟩ := h c hc
  obtain ⟨x, y, hxy, _, _⟩ := fold_own q ds none d hd (by omega)
  refine ⟨x, y, hxy, ?_⟩
  refine fold_from q x y cs none (fun _ _ h => by cases h) (fun c hc hq => ?_) a b hs
  obtain ⟨d, hd, hd1, h2, h3⟩ := h c hc
  obtain ⟨u, v, huv, h4, h5⟩ := fold_own q ds none d hd (by omega)
  rw [hxy] at huv
  simp only [Option.some.injEq, Prod.mk.injEq] at huv
  omega
theorem bit_wide {lo hi lo' hi' n a len : Int} (h1 : lo' ≤ lo) (h2 : hi ≤ hi') {c : Sp} (hc : c ∈ bit1 lo hi n a len) : ∃ d, d ∈ bit1 lo' hi' n a len ∧ d.1 = c.1 ∧ d.2.1 ≤ c.2.1 ∧ c.2.2 ≤ d.2.2 := by
  unfold bit1 at *
  split at hc
  · simp only [List.mem_singleton] at hc
    subst hc
    refine ⟨(n, max lo' a - a, min hi' (a + len) - a), by rw [if_pos (by omega)]; exact List.mem_singleton.2 rfl, rfl, by simp only; omega, by simp only; omega⟩
  · cases hc
theorem parts_wide (ss : List Sg) {lo hi lo' hi' : Int} (h1 : lo' ≤ lo) (h2 : hi ≤ hi') : ∀ (l : List Int) (a : Int) (c : Sp), c ∈ parts ss lo hi a l → ∃ d, d ∈ parts ss lo' hi' a l ∧ d.1 = c.1 ∧ d.2.1 ≤ c.2.1 ∧ c.2.2 ≤ d.2.2
  | [], a, c, h => by cases h
  | n :: l, a, c, h => by
    unfold parts at *
    rcases List.mem_append.1 h with h | h
    · obtain ⟨d, hd, hh⟩ := bit_wide h1 h2 h
      exact ⟨d, List.mem_append.2 (Or.inl hd), hh⟩
    · obtain ⟨d, hd, hh⟩ := parts_wide ss h1 h2 l _ c h
      exact ⟨d, List.mem_append.2 (Or.inr hd), hh⟩
theorem all_wide (ss : List Sg) {lo hi lo' hi' from_ : Int} (h1 : lo' ≤ lo) (h2 : hi ≤ hi') {rs rs' : List (List Int)} (hr : ∀ l, l ∈ rs → l ∈ rs') (c : Sp) (h : c ∈ allParts ss lo hi from_ rs) : ∃ d, d ∈ allParts ss lo' hi' from_ rs' ∧ d.1 = c.1 ∧ d.2.1 ≤ c.2.1 ∧ c.2.2 ≤ d.2.2 := by
  unfold allParts at *
  obtain ⟨l, hl, hc⟩ := List.mem_flatMap.1 h
  obtain ⟨d, hd, hh⟩ := parts_wide ss h1 h2 l _ c hc
  exact ⟨d, List.mem_flatMap.2 ⟨l, hr l hl, hd⟩, hh⟩
theorem has_wide {ss : List Sg} {lo hi lo' hi' from_ : Int} (h1 : lo' ≤ lo) (h2 : hi ≤ hi') {rs rs' : List (List Int)} (hr : ∀ l, l ∈ rs → l ∈ rs') {q x : Int} (h : hasSp (spotsOf ss.length (allParts ss lo hi from_ rs)) q x = true) : hasSp (spotsOf ss.length (allParts ss lo' hi' from_ rs')) q x = true := by
  rw [hasSp_of] at *
  obtain ⟨hq, a, b, hs, ha, hb⟩ := h
  obtain ⟨u, v, g1, g2, g3⟩ := segO_wide (all_wide ss h1 h2 hr) hs
  exact ⟨hq, u, v, g1, by omega, by omega⟩
/-- A place on a way, within the places, is in the spots. -/
theorem has_true {ss : List Sg} {lo hi from_ : Int} {rs : List (List Int)} {l : List Int} (hl : l ∈ rs) {j : Nat} {n : Int} (hj : l[j]? = some n) (hn : 0 ≤ n ∧ n < (ss.length : Int)) {x a : Int} (ha : a = endAt ss (-from_) (l.take j)) (hx : lo ≤ x ∧ x ≤ hi) (h1 : a ≤ x) (h2 : x ≤ a + lenAt ss n) : hasSp (spotsOf ss.length (allParts ss lo hi from_ rs)) n (x - a) = true := by
  rw [hasSp_of]
  have hm : (n, max lo a - a, min hi (a + lenAt ss n) - a) ∈ allParts ss lo hi from_ rs := by
    refine List.mem_flatMap.2 ⟨l, hl, ?_⟩
    have e : l = l.take j ++ n :: l.drop (j + 1) := by
      obtain ⟨hjl, rfl⟩ := List.getElem?_eq_some_iff.1 hj
      rw [List.getElem_cons_drop hjl, List.take_append_drop]
    have e2 : parts ss lo hi (-from_) l = parts ss lo hi (-from_) (l.take j ++ n :: l.drop (j + 1)) := by rw [← e]
    rw [e2, parts_app]
    refine List.mem_append.2 (Or.inr ?_)
    rw [← ha]
    unfold parts bit1
    refine List.mem_append.2 (Or.inl ?_)
    rw [if_pos (by omega)]
    exact List.mem_singleton.2 rfl
  obtain ⟨u, v, g1, g2, g3⟩ := segO_own hm
  simp only at g1 g2 g3
  exact ⟨hn, u, v, g1, by omega, by omega⟩
end Go.Proofs.Ytjfbecnappgjjaa

/- What a configuration is. -/
set_option linter.unusedVariables false
set_option linter.unusedSimpArgs false
namespace Go.Proofs.Ytjfbecnappgjjaa
open Go Go.RowKit Go.Eng
set_option maxRecDepth 100000
theorem ok_int {k : IntKind} {l : List Sh} {xs : List AV} (h : OkL (.int k :: l) xs) : ∃ n y, xs = .int k n :: y ∧ (Lit.int k n).wf = true ∧ OkL l y := by
  unfold OkL at h
  obtain ⟨x, y, rfl, h1, h2⟩ := h
  unfold Sh.Ok at h1
  obtain ⟨n, rfl, hn⟩ := h1
  exact ⟨n, y, rfl, hn, h2⟩
theorem ok_bool {l : List Sh} {xs : List AV} (h : OkL (.bool :: l) xs) : ∃ b y, xs = .bool b :: y ∧ OkL l y := by
  unfold OkL at h
  obtain ⟨x, y, rfl, h1, h2⟩ := h
  unfold Sh.Ok at h1
  obtain ⟨n, rfl⟩ := h1
  exact ⟨n, y, rfl, h2⟩
theorem ok_list {z : Nat} {row l : List Sh} {xs : List AV} (h : OkL (.list z row :: l) xs) : ∃ es y, xs = .list z es :: y ∧ es.length ≤ maxLen ∧ (∀ r, r ∈ es → OkL row r) ∧ OkL l y := by
  unfold OkL at h
  obtain ⟨x, y, rfl, h1, h2⟩ := h
  unfold Sh.Ok at h1
  obtain ⟨n, rfl, h3, h4⟩ := h1
  exact ⟨n, y, rfl, h3, h4, h2⟩
theorem ok_nil {xs : List AV} (h : OkL [] xs) : xs = [] := by unfold OkL at h; exact h
theorem wf64 {n : Int} (h : (Lit.int .i64 n).wf = true) : -9223372036854775808 ≤ n ∧ n ≤ 9223372036854775807 := by
  simp [Lit.wf, IntKind.min, IntKind.max, IntKind.signed, IntKind.bits] at h
  omega
end Go.Proofs.Ytjfbecnappgjjaa

/- What an int64 is. -/
set_option linter.unusedVariables false
set_option maxRecDepth 100000
namespace Go.Proofs.Ytjfbecnappgjjaa
open Go Go.RowKit Go.Eng
theorem ty_i64 (x : AV) (h : TyV Try.prog 8 2 x) : ∃ n, x = .int .i64 n ∧ -9223372036854775808 ≤ n ∧ n ≤ 9223372036854775807 := by
  have h := h.one (by kernel_rfl) (show shOf Try.prog 8 2 = some [.int .i64] from by kernel_rfl)
  unfold Sh.Ok at h
  obtain ⟨n, rfl, hn⟩ := h
  exact ⟨n, rfl, wf64 hn⟩
end Go.Proofs.Ytjfbecnappgjjaa

/- What a track is. -/
set_option linter.unusedVariables false
set_option maxRecDepth 100000
namespace Go.Proofs.Ytjfbecnappgjjaa
open Go Go.RowKit Go.Eng
theorem ty_track (x : AV) (h : TyV Try.prog 8 25 x) : ∃ (ss : List Sg) (gs : List Gr), x = .agg [.list 3 (ss.map sgRow), .list 5 (gs.map grRow)] := by
  obtain ⟨cs, rfl, k0⟩ := h.agg (by kernel_rfl) (show shOf Try.prog 8 25 = some [.list 3 [.int .i64, .list 2 [.int .i64, .int .i64], .list 1 [.int .i64]], .list 5 [.int .i64, .int .i64, .int .i64, .int .i64, .int .i64]] from by kernel_rfl)
  clear h
  obtain ⟨es, _, rfl, _, hr, k1⟩ := ok_list k0
  obtain ⟨ds, _, rfl, _, hs, k2⟩ := ok_list k1
  obtain rfl := ok_nil k2
  clear k0 k1 k2
  obtain ⟨ss, rfl⟩ := rows_of (f := sgRow) (es := es) fun r hrr => by
    have k0 := hr r hrr
    clear hr hrr
    obtain ⟨len, _, rfl, _, k1⟩ := ok_int k0
    obtain ⟨ps, _, rfl, _, hp, k2⟩ := ok_list k1
    obtain ⟨ns, _, rfl, _, hn, k3⟩ := ok_list k2
    obtain rfl := ok_nil k3
    clear k0 k1 k2 k3
    obtain ⟨qs, rfl⟩ := rows_of (f := pcRow) (es := ps) fun r hrr => by
      have k0 := hp r hrr
      clear hp hrr
      obtain ⟨a, _, rfl, _, k1⟩ := ok_int k0
      obtain ⟨b, _, rfl, _, k2⟩ := ok_int k1
      obtain rfl := ok_nil k2
      exact ⟨(a, b), rfl⟩
    obtain ⟨ms, rfl⟩ := rows_of (f := nxRow) (es := ns) fun r hrr => by
      have k0 := hn r hrr
      clear hn hrr
      obtain ⟨a, _, rfl, _, k1⟩ := ok_int k0
      obtain rfl := ok_nil k1
      exact ⟨a, rfl⟩
    exact ⟨⟨len, qs, ms⟩, rfl⟩
  obtain ⟨gs, rfl⟩ := rows_of (f := grRow) (es := ds) fun r hrr => by
    have k0 := hs r hrr
    clear hr hs hrr
    obtain ⟨a, _, rfl, _, k1⟩ := ok_int k0
    obtain ⟨b, _, rfl, _, k2⟩ := ok_int k1
    obtain ⟨c, _, rfl, _, k3⟩ := ok_int k2
    obtain ⟨d, _, rfl, _, k4⟩ := ok_int k3
    obtain ⟨e, _, rfl, _, k5⟩ := ok_int k4
    obtain rfl := ok_nil k5
    exact ⟨⟨a, b, c, d, e⟩, rfl⟩
  exact ⟨ss, gs, rfl⟩
end Go.Proofs.Ytjfbecnappgjjaa

/- What ways, spans and reports are. -/
set_option linter.unusedVariables false
set_option maxRecDepth 100000
namespace Go.Proofs.Ytjfbecnappgjjaa
open Go Go.RowKit Go.Eng
theorem ty_intS (x : AV) (h : TyV Try.prog 8 3 x) : ∃ n, x = .int .i64 n := by
  have h := h.one (by kernel_rfl) (show shOf Try.prog 8 3 = some [.int .i64] from by kernel_rfl)
  unfold Sh.Ok at h
  obtain ⟨n, rfl, hn⟩ := h
  exact ⟨n, rfl⟩
theorem ty_span (x : AV) (h : TyV Try.prog 8 27 x) : ∃ a b, x = .agg [.int .i64 a, .int .i64 b] := by
  obtain ⟨cs, rfl, k0⟩ := h.agg (by kernel_rfl) (show shOf Try.prog 8 27 = some [.int .i64, .int .i64] from by kernel_rfl)
  obtain ⟨a, _, rfl, _, k1⟩ := ok_int k0
  obtain ⟨b, _, rfl, _, k2⟩ := ok_int k1
  obtain rfl := ok_nil k2
  exact ⟨a, b, rfl⟩
theorem rt_rows {es : List (List AV)} (hr : ∀ r, r ∈ es → OkL [.list 1 [.int .i64]] r) : ∃ rs : List (List Int), es = rs.map rtRow :=
  rows_of (f := rtRow) (es := es) fun r hrr => by
    have k0 := hr r hrr
    clear hr hrr
    obtain ⟨ns, _, rfl, _, hn, k1⟩ := ok_list k0
    obtain rfl := ok_nil k1
    clear k0 k1
    obtain ⟨ms, rfl⟩ := rows_of (f := nxRow) (es := ns) fun r hrr => by
      have k0 := hn r hrr
      clear hn hrr
      obtain ⟨a, _, rfl, _, k1⟩ := ok_int k0
      obtain rfl := ok_nil k1
      exact ⟨a, rfl⟩
    exact ⟨ms, rfl⟩
theorem ty_routes (x : AV) (h : TyV Try.prog 8 28 x) : ∃ rs : List (List Int), x = .list 1 (rs.map rtRow) := by
  have h := h.one (by kernel_rfl) (show shOf Try.prog 8 28 = some [.list 1 [.list 1 [.int .i64]]] from by kernel_rfl)
  unfold Sh.Ok at h
  obtain ⟨es, rfl, _, hr⟩ := h
  obtain ⟨rs, rfl⟩ := rt_rows hr
  exact ⟨rs, rfl⟩
/-- What else a report tells. -/
structure Ro where
  c : Int
  m : Int
  est : Int
  slo : Int
  shi : Int
  nom : Int
  dist : Int
  fit : Int
  b1 : Bool
  b2 : Bool
  s0 : Int
  s1 : Int
  b3 : Bool
  b4 : Bool
  b5 : Bool
  b6 : Bool
  b7 : Bool
  mlo : Int
  mhi : Int
  perm : Int
  c0 : Int
  c1 : Int
  c2 : Int
  c3 : Int
  k0 : Int
  k1 : Int
  k2 : Int
  k3 : Int
def repRow (g lo hi : Int) (qs : List (List AV)) (o : Ro) : List AV := [.int .i64 o.c, .int .i64 o.m, .int .i64 g, .int .i64 lo, .int .i64 hi, .int .i64 o.est, .int .i64 o.slo, .int .i64 o.shi, .int .i64 o.nom, .int .i64 o.dist, .list 1 qs, .int .i64 o.fit, .bool o.b1, .bool o.b2, .int .i64 o.s0, .int .i64 o.s1, .bool o.b3, .bool o.b4, .bool o.b5, .bool o.b6, .bool o.b7, .int .i64 o.mlo, .int .i64 o.mhi, .int .i64 o.perm, .int .i64 o.c0, .int .i64 o.c1, .int .i64 o.c2, .int .i64 o.c3, .int .i64 o.k0, .int .i64 o.k1, .int .i64 o.k2, .int .i64 o.k3]
theorem up_rep (g lo hi : Int) {qs : List (List AV)} (h : Up0 qs) (o : Ro) {l : List AV} (hl : uptoL 0 l = true) : uptoL 0 (.agg (repRow g lo hi qs o) :: l) = true :=
  Bool.and_eq_true_iff.mpr ⟨Up0.one h rfl, hl⟩
theorem ty_report (x : AV) (h : TyV Try.prog 8 32 x) : ∃ (g lo hi : Int) (rs : List (List Int)) (o : Ro), x = .agg (repRow g lo hi (rs.map rtRow) o) := by
  obtain ⟨cs, rfl, k0⟩ := h.agg (by kernel_rfl) (show shOf Try.prog 8 32 = some [.int .i64, .int .i64, .int .i64, .int .i64, .int .i64, .int .i64, .int .i64, .int .i64, .int .i64, .int .i64, .list 1 [.list 1 [.int .i64]], .int .i64, .bool, .bool, .int .i64, .int .i64, .bool, .bool, .bool, .bool, .bool, .int .i64, .int .i64, .int .i64, .int .i64, .int .i64, .int .i64, .int .i64, .int .i64, .int .i64, .int .i64, .int .i64] from by kernel_rfl)
  obtain ⟨c, _, rfl, _, k1⟩ := ok_int k0
  clear k0
  obtain ⟨m, _, rfl, _, k2⟩ := ok_int k1
  clear k1
  obtain ⟨g, _, rfl, _, k3⟩ := ok_int k2
  clear k2
  obtain ⟨lo, _, rfl, _, k4⟩ := ok_int k3
  clear k3
  obtain ⟨hi, _, rfl, _, k5⟩ := ok_int k4
  clear k4
  obtain ⟨est, _, rfl, _, k6⟩ := ok_int k5
  clear k5
  obtain ⟨slo, _, rfl, _, k7⟩ := ok_int k6
  clear k6
  obtain ⟨shi, _, rfl, _, k8⟩ := ok_int k7
  clear k7
  obtain ⟨nom, _, rfl, _, k9⟩ := ok_int k8
  clear k8
  obtain ⟨dist, _, rfl, _, k10⟩ := ok_int k9
  clear k9
  obtain ⟨qs, _, rfl, _, hq, k11⟩ := ok_list k10
  clear k10
  obtain ⟨fit, _, rfl, _, k12⟩ := ok_int k11
  clear k11
  obtain ⟨b1, _, rfl, k13⟩ := ok_bool k12
  clear k12
  obtain ⟨b2, _, rfl, k14⟩ := ok_bool k13
  clear k13
  obtain ⟨s0, _, rfl, _, k15⟩ := ok_int k14
  clear k14
  obtain ⟨s1, _, rfl, _, k16⟩ := ok_int k15
  clear k15
  obtain ⟨b3, _, rfl, k17⟩ := ok_bool k16
  clear k16
  obtain ⟨b4, _, rfl, k18⟩ := ok_bool k17
  clear k17
  obtain ⟨b5, _, rfl, k19⟩ := ok_bool k18
  clear k18
  obtain ⟨b6, _, rfl, k20⟩ := ok_bool k19
  clear k19
  obtain ⟨b7, _, rfl, k21⟩ := ok_bool k20
  clear k20
  obtain ⟨mlo, _, rfl, _, k22⟩ := ok_int k21
  clear k21
  obtain ⟨mhi, _, rfl, _, k23⟩ := ok_int k22
  clear k22
  obtain ⟨perm, _, rfl, _, k24⟩ := ok_int k23
  clear k23
  obtain ⟨c0, _, rfl, _, k25⟩ := ok_int k24
  clear k24
  obtain ⟨c1, _, rfl, _, k26⟩ := ok_int k25
  clear k25
  obtain ⟨c2, _, rfl, _, k27⟩ := ok_int k26
  clear k26
  obtain ⟨c3, _, rfl, _, k28⟩ := ok_int k27
  clear k27
  obtain ⟨k0, _, rfl, _, k29⟩ := ok_int k28
  clear k28
  obtain ⟨k1, _, rfl, _, k30⟩ := ok_int k29
  clear k29
  obtain ⟨k2, _, rfl, _, k31⟩ := ok_int k30
  clear k30
  obtain ⟨k3, _, rfl, _, k32⟩ := ok_int k31
  clear k31
  obtain rfl := ok_nil k32
  obtain ⟨rs, rfl⟩ := rt_rows hq
  exact ⟨g, lo, hi, rs, ⟨c, m, est, slo, shi, nom, dist, fit, b1, b2, s0, s1, b3, b4, b5, b6, b7, mlo, mhi, perm, c0, c1, c2, c3, k0, k1, k2, k3⟩, rfl⟩
end Go.Proofs.Ytjfbecnappgjjaa

/- SpotsOf: the walk, by the engine; a group found in a track, a report's spots. -/
set_option linter.unusedVariables false
set_option linter.unusedSimpArgs false
namespace Go.Proofs.Ytjfbecnappgjjaa
open Go Go.RowKit Go.Eng
set_option maxRecDepth 100000
theorem e_tfind1 (g : Gr) (t : Int) : PCalls Try.prog 56 [.agg (grRow g), .int .i64 t] (· = .int .i64 (cmpI g.id t)) := by
  obtain ⟨n, a, b, c, d⟩ := g
  have hc := e_cmp n t
  obtain ⟨v, ev⟩ : ∃ x, cmpI n t = x := ⟨_, rfl⟩
  show PCalls Try.prog 56 [.agg [.int .i64 n, .int .i64 a, .int .i64 b, .int .i64 c, .int .i64 d], .int .i64 t] (· = .int .i64 (cmpI n t))
  rw [ev] at hc ⊢
  (refine PCalls.ofY Try.func56 (by kernel_rfl) (by kernel_rfl) fun w hw R hR => ?_); (obtain ⟨wbin, wcmp, wun, wconv, wnot, wbeq, wmm, wscmp, wsadd, wslen, wsat, weqs, wlen, wnlen, wofNat, wtake, wdrop, wapp, wzero, wnat⟩ := w); (have hbin : wbin = binStd := congrArg Prims.bin hw); (have hcmp : wcmp = cmpStd := congrArg Prims.cmp hw); (have hun : wun = unStd := congrArg Prims.un hw); (have hconv : wconv = fun k n => k.wrap n := congrArg Prims.conv hw); (have hnot : wnot = fun b => !b := congrArg Prims.not hw); (have hbeq : wbeq = fun a b => a == b := congrArg Prims.beq hw); (have hmm : wmm = maxI := congrArg Prims.mm hw); (have hscmp : wscmp = scmpStd := congrArg Prims.scmp hw); (have hsadd : wsadd = fun x y => x ++ y := congrArg Prims.sadd hw); (have hslen : wslen = fun s => (s.size : Int) := congrArg Prims.slen hw); (have hsat : wsat = std.sat := congrArg Prims.sat hw); (have heqs : weqs = fun a b os => (eqOffs a b os).getD false := congrArg Prims.eqs hw); (have hlen : wlen = fun es => (es.length : Int) := congrArg Prims.len hw); (have hnlen : wnlen = fun es => es.length := congrArg Prims.nlen hw); (have hofNat : wofNat = (fun n : Nat => (n : Int)) := congrArg Prims.ofNat hw); (have htake : wtake = fun es b => es.take b.toNat := congrArg Prims.take hw); (have hdrop : wdrop = fun es a => es.drop a.toNat := congrArg Prims.drop hw); (have happ : wapp = fun a b => a ++ b := congrArg Prims.app hw); (have hzero : wzero = fun n z => List.replicate n.toNat z := congrArg Prims.zero hw); (have hnat : wnat = fun n => n.toNat := congrArg Prims.nat hw); (conv => arg 2; cbv); (generalize hP : Try.prog = P); cbv
  refine Call.stepE (by rw [← hP]; exact hc) rfl ?_
  cbv
  exact ⟨_, Vw.same rfl, hR _ rfl⟩
/-- Groups are in order. -/
theorem gr_lt {ss : List Sg} {gs : List Gr} (h : TrackOk ss gs) : ∀ (i j : Nat) (a b : Gr), i < j → gs[i]? = some a → gs[j]? = some b → a.id < b.id := by
  intro i j
  induction j with
  | zero => intro a b hij; omega
  | succ j ih =>
    intro a b hij ha hb
    have hjl := (List.getElem?_eq_some_iff.1 hb).1
    obtain ⟨_, _, _, _, _, _, _, _, _, _, hl⟩ := h.grp (j + 1) hjl b hb
    obtain ⟨c, hc⟩ : ∃ c, gs[j]? = some c := ⟨gs[j], List.getElem?_eq_getElem (by omega)⟩
    have h1 := hl (by omega) c hc
    by_cases hij' : i = j
    · subst hij'; rw [ha] at hc; cases hc; exact h1
    · have := ih a c (by omega) ha hc; omega
theorem gr_one {ss : List Sg} {gs : List Gr} (h : TrackOk ss gs) {a b : Gr} (ha : a ∈ gs) (hb : b ∈ gs) (e : a.id = b.id) : a = b := by
  obtain ⟨i, hi⟩ := List.mem_iff_getElem?.1 ha
  obtain ⟨j, hj⟩ := List.mem_iff_getElem?.1 hb
  by_cases hij : i = j
  · subst hij; rw [hi] at hj; cases hj; rfl
  · have := gr_lt h i j a b
    have := gr_lt h j i b a
    by_cases hlt : i < j
    · have := gr_lt h i j a b hlt hi hj; omega
    · have := gr_lt h j i b a (by omega) hj hi; omega
theorem gr_ok {ss : List Sg} {gs : List Gr} (h : TrackOk ss gs) {a : Gr} (ha : a ∈ gs) : 0 < a.id ∧ 0 ≤ a.seg ∧ a.seg.toNat < ss.length ∧ 0 ≤ a.off ∧ a.off ≤ 1099511627776 ∧ 0 ≤ a.acc ∧ a.acc ≤ 1048576 ∧ 0 ≤ a.sl ∧ a.sl ≤ 16777216 := by
  obtain ⟨i, hi⟩ := List.mem_iff_getElem?.1 ha
  have hil := (List.getElem?_eq_some_iff.1 hi).1
  obtain ⟨h1, h2, h3, h4, h5, h6, h7, h8, h9, h10, _⟩ := h.grp i hil a hi
  obtain ⟨s, hs⟩ : ∃ s, ss[a.seg.toNat]? = some s := ⟨ss[a.seg.toNat], List.getElem?_eq_getElem h4⟩
  have := h6 s hs
  have := (h.seg _ h4 s hs).le
  exact ⟨h1, h3, h4, h5, by omega, h7, h8, h9, h10⟩
theorem e_tfind (ss : List Sg) (gs : List Gr) (es ds : List (List AV)) (hes : es = ss.map sgRow) (hds : ds = gs.map grRow) (h : TrackOk ss gs) (id : Int) : PCalls Try.prog 38 [.agg [.list 3 es, .list 5 ds], .int .i64 id] (fun r => ∃ i f, r = .tuple [.int .i64 i, .bool f] ∧ Found gs (fun g : Gr => g.id) id i f) := by
  have hu : Up0 es := by rw [hes]; exact up_sg ss
  have hud : Up0 ds := by rw [hds]; exact up_gr gs
  have hb := e_bin_group grRow (fun g : Gr => g.id) (fun d => ⟨rfl, rfl⟩) 56 gs id (fun d _ rw_ e => by rw [← e]; exact e_tfind1 d id) (gr_lt h) (by have := h.gle; omega) ds hds
  (refine PCalls.ofY Try.func38 (by kernel_rfl) (by kernel_rfl) fun w hw R hR => ?_); (obtain ⟨wbin, wcmp, wun, wconv, wnot, wbeq, wmm, wscmp, wsadd, wslen, wsat, weqs, wlen, wnlen, wofNat, wtake, wdrop, wapp, wzero, wnat⟩ := w); (have hbin : wbin = binStd := congrArg Prims.bin hw); (have hcmp : wcmp = cmpStd := congrArg Prims.cmp hw); (have hun : wun = unStd := congrArg Prims.un hw); (have hconv : wconv = fun k n => k.wrap n := congrArg Prims.conv hw); (have hnot : wnot = fun b => !b := congrArg Prims.not hw); (have hbeq : wbeq = fun a b => a == b := congrArg Prims.beq hw); (have hmm : wmm = maxI := congrArg Prims.mm hw); (have hscmp : wscmp = scmpStd := congrArg Prims.scmp hw); (have hsadd : wsadd = fun x y => x ++ y := congrArg Prims.sadd hw); (have hslen : wslen = fun s => (s.size : Int) := congrArg Prims.slen hw); (have hsat : wsat = std.sat := congrArg Prims.sat hw); (have heqs : weqs = fun a b os => (eqOffs a b os).getD false := congrArg Prims.eqs hw); (have hlen : wlen = fun es => (es.length : Int) := congrArg Prims.len hw); (have hnlen : wnlen = fun es => es.length := congrArg Prims.nlen hw); (have hofNat : wofNat = (fun n : Nat => (n : Int)) := congrArg Prims.ofNat hw); (have htake : wtake = fun es b => es.take b.toNat := congrArg Prims.take hw); (have hdrop : wdrop = fun es a => es.drop a.toNat := congrArg Prims.drop hw); (have happ : wapp = fun a b => a ++ b := congrArg Prims.app hw); (have hzero : wzero = fun n z => List.replicate n.toNat z := congrArg Prims.zero hw); (have hnat : wnat = fun n => n.toNat := congrArg Prims.nat hw); (conv => arg 2; cbv); (generalize hP : Try.prog = P); cbv
  refine Call.step (by rw [← hP]; exact hb) (by exact Up0.one hud rfl) ?_
  rintro r ⟨i, f, rfl, hF⟩
  cbv
  exact ⟨_, Vw.same rfl, hR _ ⟨_, _, rfl, hF⟩⟩
theorem e_sof_yes (ss : List Sg) (gs : List Gr) (rs : List (List Int)) (es ds qs : List (List AV)) (hes : es = ss.map sgRow) (hds : ds = gs.map grRow) (hqs : qs = rs.map rtRow) (g lo hi : Int) (o : Ro) (hM : May31 ss gs rs 0 lo hi) (G : Gr) (hG : G ∈ gs) (hg : G.id = g) :
    PCalls Try.prog 13 [.agg [.list 3 es, .list 5 ds], .agg (repRow g lo hi qs o)] (· = .tuple [.list 3 ((spotsOf ss.length (allParts ss lo hi G.off rs)).map spRow), .bool true]) := by
  have hu : Up0 es := by rw [hes]; exact up_sg ss
  have hud : Up0 ds := by rw [hds]; exact up_gr gs
  have huq : Up0 qs := by rw [hqs]; exact up_rt rs
  have hut : uptoL 0 [.agg [.list 3 es, .list 5 ds], .int .i64 g] = true := Bool.and_eq_true_iff.mpr ⟨Up0.one hu (Up0.one hud rfl), rfl⟩
  have hf := e_tfind ss gs es ds hes hds hM.tr g
  have hn60 := hM.n60
  obtain ⟨hid, _, _, ho0, ho1, _⟩ := gr_ok hM.tr hG
  have w1 := e_within ss gs rs es ds qs hes hds hqs G.off lo hi hM.lens hM.wok ⟨ho0, ho1⟩ hM.lo hM.hi (by omega)
  have hu4 : uptoL 0 [.agg [.list 3 es, .list 5 ds], .int .i64 G.off, .list 1 qs, sp2 lo hi] = true := Bool.and_eq_true_iff.mpr ⟨Up0.one hu (Up0.one hud rfl), Bool.and_eq_true_iff.mpr ⟨rfl, Up0.one huq rfl⟩⟩
  obtain ⟨ps, eps⟩ : ∃ x, (spotsOf ss.length (allParts ss lo hi G.off rs)).map spRow = x := ⟨_, rfl⟩
  have hup : Up0 ps := by rw [← eps]; exact up_sp _
  rw [eps] at w1 ⊢
  obtain ⟨oc, om, oest, oslo, oshi, onom, odist, ofit, ob1, ob2, os0, os1, ob3, ob4, ob5, ob6, ob7, omlo, omhi, operm, oc0, oc1, oc2, oc3, ok0, ok1, ok2, ok3⟩ := o
  (refine PCalls.ofY Try.func13 (by kernel_rfl) (by kernel_rfl) fun w hw R hR => ?_); (obtain ⟨wbin, wcmp, wun, wconv, wnot, wbeq, wmm, wscmp, wsadd, wslen, wsat, weqs, wlen, wnlen, wofNat, wtake, wdrop, wapp, wzero, wnat⟩ := w); (have hbin : wbin = binStd := congrArg Prims.bin hw); (have hcmp : wcmp = cmpStd := congrArg Prims.cmp hw); (have hun : wun = unStd := congrArg Prims.un hw); (have hconv : wconv = fun k n => k.wrap n := congrArg Prims.conv hw); (have hnot : wnot = fun b => !b := congrArg Prims.not hw); (have hbeq : wbeq = fun a b => a == b := congrArg Prims.beq hw); (have hmm : wmm = maxI := congrArg Prims.mm hw); (have hscmp : wscmp = scmpStd := congrArg Prims.scmp hw); (have hsadd : wsadd = fun x y => x ++ y := congrArg Prims.sadd hw); (have hslen : wslen = fun s => (s.size : Int) := congrArg Prims.slen hw); (have hsat : wsat = std.sat := congrArg Prims.sat hw); (have heqs : weqs = fun a b os => (eqOffs a b os).getD false := congrArg Prims.eqs hw); (have hlen : wlen = fun es => (es.length : Int) := congrArg Prims.len hw); (have hnlen : wnlen = fun es => es.length := congrArg Prims.nlen hw); (have hofNat : wofNat = (fun n : Nat => (n : Int)) := congrArg Prims.ofNat hw); (have htake : wtake = fun es b => es.take b.toNat := congrArg Prims.take hw); (have hdrop : wdrop = fun es a => es.drop a.toNat := congrArg Prims.drop hw); (have happ : wapp = fun a b => a ++ b := congrArg Prims.app hw); (have hzero : wzero = fun n z => List.replicate n.toNat z := congrArg Prims.zero hw); (have hnat : wnat = fun n => n.toNat := congrArg Prims.nat hw); (conv => arg 2; cbv); (generalize hP : Try.prog = P); cbv
  have n1 : wnot true = false := by rw [hnot]; rfl
  have n2 : wnot false = true := by rw [hnot]; rfl
  refine Call.step (by rw [← hP]; exact hf) hut ?_
  rintro r ⟨i, f, rfl, hF⟩
  cbv
  cases f with
  | false => exact absurd hg (hF.no rfl G hG)
  | true =>
    obtain ⟨G', hd, hk⟩ := hF.yes rfl
    obtain rfl : G' = G := gr_one hM.tr (List.mem_of_getElem? hd) hG (by omega)
    obtain ⟨gid, gseg, goff, gacc, gsl⟩ := G'
    have hrow : ds[i.toNat]? = some [.int .i64 gid, .int .i64 gseg, .int .i64 goff, .int .i64 gacc, .int .i64 gsl] := by rw [hds, List.getElem?_map, hd]; rfl
    have hi0 := hF.i0
    simp only [n1]
    cbv
    (split <;> rename_i h0 <;> (try (simp only [hbin, hcmp, hun, hconv, hnot, hbeq, hmm, hscmp, hsadd, hslen, hsat, heqs, hofNat, binStd, cmpStd, unStd, scmpStd, maxI, Bool.not_eq_true', Bool.not_eq_false', decide_eq_true_eq, decide_eq_false_iff_not, Int.not_lt, Int.not_le, if_true, if_false, Bool.false_eq_true, beq_iff_eq, bne_iff_ne, ne_eq, Bool.not_eq_eq_eq_not, Bool.not_true, Bool.not_false, beq_eq_false_iff_ne, bne_eq_false_iff_eq, Int.ofNat_eq_natCast, Bool.not_not, not_true_eq_false, not_false_eq_true, reduceCtorEq] at h0)) <;> (try cbv))
    · have hid : 0 < gid := hid
      have hg : gid = g := hg
      omega
    · refine Idx.mk _ hi0 hrow ?_
      cbv
      (first | (refine Call.stepE (v := ?_) ?_ ?_ ?_; rotate_left 1; (focus (rw [← hP]; exact w1)); (focus (exact hu4)); cbv) | (refine QCal.stepE (v := ?_) ?_ ?_ ?_; rotate_left 1; (focus (rw [← hP]; exact w1)); (focus (exact hu4)); cbv))
      exact ⟨_, Vw.same (by exact Up0.one hup rfl), hR _ rfl⟩
theorem e_sof_no (ss : List Sg) (gs : List Gr) (rs : List (List Int)) (es ds qs : List (List AV)) (hes : es = ss.map sgRow) (hds : ds = gs.map grRow) (hqs : qs = rs.map rtRow) (g lo hi : Int) (o : Ro) (hM : TrackOk ss gs) (hG : ∀ G, G ∈ gs → G.id ≠ g) :
    PCalls Try.prog 13 [.agg [.list 3 es, .list 5 ds], .agg (repRow g lo hi qs o)] (· = .tuple [.nils, .bool false]) := by
  have hu : Up0 es := by rw [hes]; exact up_sg ss
  have hud : Up0 ds := by rw [hds]; exact up_gr gs
  have hut : uptoL 0 [.agg [.list 3 es, .list 5 ds], .int .i64 g] = true := Bool.and_eq_true_iff.mpr ⟨Up0.one hu (Up0.one hud rfl), rfl⟩
  have hf := e_tfind ss gs es ds hes hds hM g
  obtain ⟨oc, om, oest, oslo, oshi, onom, odist, ofit, ob1, ob2, os0, os1, ob3, ob4, ob5, ob6, ob7, omlo, omhi, operm, oc0, oc1, oc2, oc3, ok0, ok1, ok2, ok3⟩ := o
  (refine PCalls.ofY Try.func13 (by kernel_rfl) (by kernel_rfl) fun w hw R hR => ?_); (obtain ⟨wbin, wcmp, wun, wconv, wnot, wbeq, wmm, wscmp, wsadd, wslen, wsat, weqs, wlen, wnlen, wofNat, wtake, wdrop, wapp, wzero, wnat⟩ := w); (have hbin : wbin = binStd := congrArg Prims.bin hw); (have hcmp : wcmp = cmpStd := congrArg Prims.cmp hw); (have hun : wun = unStd := congrArg Prims.un hw); (have hconv : wconv = fun k n => k.wrap n := congrArg Prims.conv hw); (have hnot : wnot = fun b => !b := congrArg Prims.not hw); (have hbeq : wbeq = fun a b => a == b := congrArg Prims.beq hw); (have hmm : wmm = maxI := congrArg Prims.mm hw); (have hscmp : wscmp = scmpStd := congrArg Prims.scmp hw); (have hsadd : wsadd = fun x y => x ++ y := congrArg Prims.sadd hw); (have hslen : wslen = fun s => (s.size : Int) := congrArg Prims.slen hw); (have hsat : wsat = std.sat := congrArg Prims.sat hw); (have heqs : weqs = fun a b os => (eqOffs a b os).getD false := congrArg Prims.eqs hw); (have hlen : wlen = fun es => (es.length : Int) := congrArg Prims.len hw); (have hnlen : wnlen = fun es => es.length := congrArg Prims.nlen hw); (have hofNat : wofNat = (fun n : Nat => (n : Int)) := congrArg Prims.ofNat hw); (have htake : wtake = fun es b => es.take b.toNat := congrArg Prims.take hw); (have hdrop : wdrop = fun es a => es.drop a.toNat := congrArg Prims.drop hw); (have happ : wapp = fun a b => a ++ b := congrArg Prims.app hw); (have hzero : wzero = fun n z => List.replicate n.toNat z := congrArg Prims.zero hw); (have hnat : wnat = fun n => n.toNat := congrArg Prims.nat hw); (conv => arg 2; cbv); (generalize hP : Try.prog = P); cbv
  have n2 : wnot false = true := by rw [hnot]; rfl
  refine Call.step (by rw [← hP]; exact hf) hut ?_
  rintro r ⟨i, f, rfl, hF⟩
  cbv
  cases f with
  | true =>
    obtain ⟨G', hd, hk⟩ := hF.yes rfl
    exact absurd hk (hG _ (List.mem_of_getElem? hd))
  | false =>
    simp only [n2]
    cbv
    exact ⟨_, Vw.same rfl, hR _ rfl⟩
end Go.Proofs.Ytjfbecnappgjjaa

/- A track as the document has it, by the engine. Printed by wip/tools/genrefs.py. -/
set_option linter.unusedVariables false
set_option linter.unusedSimpArgs false
namespace Go.Proofs.Ytjfbecnappgjjaa
open Go Go.RowKit Go.Eng
set_option maxRecDepth 100000
set_option maxHeartbeats 4000000 in
theorem e_refsT (ss : List Sg) (gs : List Gr) (es ds : List (List AV)) (hes : es = ss.map sgRow) (hds : ds = gs.map grRow) (hm1 : ss.length ≤ 1000) (hm2 : gs.length ≤ 1000) (hm3 : ∀ s, s ∈ ss → s.ps.length ≤ 1000) : PCalls Try.prog 31 [.agg [.list 3 es, .list 5 ds]] (· = .agg [.list 3 es, .list 5 ds]) := by
  have hu : Up0 es := by rw [hes]; exact up_sg ss
  have hud : Up0 ds := by rw [hds]; exact up_gr gs
  have hel : es.length = ss.length := by rw [hes]; simp
  have hdl : ds.length = gs.length := by rw [hds]; simp
  (refine PCalls.ofY Try.func31 (by kernel_rfl) (by kernel_rfl) fun w hw R hR => ?_); (obtain ⟨wbin, wcmp, wun, wconv, wnot, wbeq, wmm, wscmp, wsadd, wslen, wsat, weqs, wlen, wnlen, wofNat, wtake, wdrop, wapp, wzero, wnat⟩ := w); (have hbin : wbin = binStd := congrArg Prims.bin hw); (have hcmp : wcmp = cmpStd := congrArg Prims.cmp hw); (have hun : wun = unStd := congrArg Prims.un hw); (have hconv : wconv = fun k n => k.wrap n := congrArg Prims.conv hw); (have hnot : wnot = fun b => !b := congrArg Prims.not hw); (have hbeq : wbeq = fun a b => a == b := congrArg Prims.beq hw); (have hmm : wmm = maxI := congrArg Prims.mm hw); (have hscmp : wscmp = scmpStd := congrArg Prims.scmp hw); (have hsadd : wsadd = fun x y => x ++ y := congrArg Prims.sadd hw); (have hslen : wslen = fun s => (s.size : Int) := congrArg Prims.slen hw); (have hsat : wsat = std.sat := congrArg Prims.sat hw); (have heqs : weqs = fun a b os => (eqOffs a b os).getD false := congrArg Prims.eqs hw); (have hlen : wlen = fun es => (es.length : Int) := congrArg Prims.len hw); (have hnlen : wnlen = fun es => es.length := congrArg Prims.nlen hw); (have hofNat : wofNat = (fun n : Nat => (n : Int)) := congrArg Prims.ofNat hw); (have htake : wtake = fun es b => es.take b.toNat := congrArg Prims.take hw); (have hdrop : wdrop = fun es a => es.drop a.toNat := congrArg Prims.drop hw); (have happ : wapp = fun a b => a ++ b := congrArg Prims.app hw); (have hzero : wzero = fun n z => List.replicate n.toNat z := congrArg Prims.zero hw); (have hnat : wnat = fun n => n.toNat := congrArg Prims.nat hw); (conv => arg 2; cbv); (generalize hP : Try.prog = P); cbv
  (obtain ⟨L, eL, L0, Ln⟩ : ∃ L : Int, wlen es = L ∧ 0 ≤ L ∧ L.toNat = es.length := ⟨(es.length : Int), by rw [hlen], Int.natCast_nonneg _, Int.toNat_natCast _⟩)
  refine Loop.data hw (S := Bd) (fun s => match s with | .start => fr 63 [(1, .ref 0 2 0 0), (2, .ref 1 2 0 0), (3, .ref 2 2 0 0), (12, .list 3 es), (13, .int .i64 L), (14, .int .i64 0)] | .more i n fs => fr 63 [(1, .ref 0 2 0 0), (2, .ref 1 2 0 0), (3, .ref 2 2 0 0), (12, .list 3 es), (13, .int .i64 L), (14, .int .i64 i)])
    (fun s => match s with | .start => [.live 2 [[.list 3 es, .list 5 ds]], .live 2 [[.nils, .nils]], .live 2 [[.nils, .nils]]] | .more i n fs => [.live 2 [[.list 3 es, .list 5 ds]], .live 2 [[.nils, .nils]], .live 2 [[.sl 3 3 0 n, .nils]], .live 3 fs]) (Bd.Ok es) (Bd.left es) .start (by (refine Wk.eqz (id) (by first | exact fun i _ j _ e => e | (simp only [List.length_cons, List.length_nil]; decide)) ?_; cbv; (repeat' (first | exact trivial | rfl | assumption | apply And.intro | (simp only [hbin, hcmp, hun, hconv, hnot, hbeq, hmm, hscmp, hsadd, hslen, hsat, heqs, hofNat, binStd, cmpStd, unStd, scmpStd, maxI, Bool.not_eq_true', Bool.not_eq_false', decide_eq_true_eq, decide_eq_false_iff_not, Int.not_lt, Int.not_le, if_true, if_false, Bool.false_eq_true, beq_iff_eq, bne_iff_ne, ne_eq, Bool.not_eq_eq_eq_not, Bool.not_true, Bool.not_false, beq_eq_false_iff_ne, bne_eq_false_iff_eq, Int.ofNat_eq_natCast, Bool.not_not, not_true_eq_false, not_false_eq_true, reduceCtorEq]; first | done | assumption) | exact RowsZ.same (by assumption) (by first | assumption | rfl) | exact FzL.mk rfl rfl rfl (by assumption) (by first | assumption | rfl) (by decide) | (refine RowsZ.one ?_; cbv))))) trivial ?_
  rintro (_ | ⟨i, n, fs⟩) hinv Q' hN hE hR'
  · cbv
    (split <;> rename_i hc <;> (try (simp only [hbin, hcmp, hun, hconv, hnot, hbeq, hmm, hscmp, hsadd, hslen, hsat, heqs, hofNat, binStd, cmpStd, unStd, scmpStd, maxI, Bool.not_eq_true', Bool.not_eq_false', decide_eq_true_eq, decide_eq_false_iff_not, Int.not_lt, Int.not_le, if_true, if_false, Bool.false_eq_true, beq_iff_eq, bne_iff_ne, ne_eq, Bool.not_eq_eq_eq_not, Bool.not_true, Bool.not_false, beq_eq_false_iff_ne, bne_eq_false_iff_eq, Int.ofNat_eq_natCast, Bool.not_not, not_true_eq_false, not_false_eq_true, reduceCtorEq] at hc)) <;> (try cbv))
    · obtain ⟨⟨len, ps, nx⟩, hd, hrow⟩ := get_map (f := sgRow) (ds := ss) (i := 0) (Int.le_refl 0) (by omega)
      obtain ⟨q1, eq1⟩ : ∃ x, ps.map pcRow = x := ⟨_, rfl⟩
      obtain ⟨n1, en1⟩ : ∃ x, nx.map nxRow = x := ⟨_, rfl⟩
      have hrow : es[(0 : Int).toNat]? = some [.int .i64 len, .list 2 q1, .list 1 n1] := by rw [hes, ← eq1, ← en1]; exact hrow
      have hql : q1.length = ps.length := by rw [← eq1]; simp
      have hpl : ps.length ≤ 1000 := hm3 ⟨len, ps, nx⟩ (List.mem_of_getElem? hd)
      have huq : Up0 q1 := by rw [← eq1]; exact up_pc ps
      have hun : Up0 n1 := by rw [← en1]; exact up_nx nx
      refine Idx.mk [.int .i64 len, .list 2 q1, .list 1 n1] (by decide) hrow ?_
      cbv
      have ei : wbin .add .i64 0 1 = 1 := by rw [hbin]; rfl
      have hT1 : Bd.left es (.more 1 1 [[.int .i64 len, .list 2 q1, .list 1 n1]]) < Bd.left es .start := by simp only [Bd.left]; omega
      have hI1 : Bd.Ok es (.more 1 1 [[.int .i64 len, .list 2 q1, .list 1 n1]]) := ⟨by decide, by omega, (take_row (Int.le_refl 0) hrow).symm, rfl, up_seg huq hun⟩
      (obtain ⟨K, eK, K0, Kn⟩ : ∃ L : Int, wlen q1 = L ∧ 0 ≤ L ∧ L.toNat = q1.length := ⟨(q1.length : Int), by rw [hlen], Int.natCast_nonneg _, Int.toNat_natCast _⟩)
      refine Loop.data hw (S := Bd) (fun s => match s with | .start => fr 63 [(1, .ref 0 2 0 0), (2, .ref 1 2 0 0), (3, .ref 2 2 0 0), (12, .list 3 es), (13, .int .i64 L), (14, .int .i64 0), (5, .ref 3 3 0 0), (6, .ref 4 3 0 0), (24, .list 2 q1), (25, .int .i64 K), (26, .int .i64 0)] | .more k m fp => fr 63 [(1, .ref 0 2 0 0), (2, .ref 1 2 0 0), (3, .ref 2 2 0 0), (12, .list 3 es), (13, .int .i64 L), (14, .int .i64 0), (5, .ref 3 3 0 0), (6, .ref 4 3 0 0), (24, .list 2 q1), (25, .int .i64 K), (26, .int .i64 k)])
        (fun s => match s with | .start => [.live 2 [[.list 3 es, .list 5 ds]], .live 2 [[.nils, .nils]], .live 2 [[.nils, .nils]], .live 3 [[.int .i64 len, .list 2 q1, .list 1 n1]], .live 3 [[.int .i64 len, .nils, .list 1 n1]]] | .more k m fp => [.live 2 [[.list 3 es, .list 5 ds]], .live 2 [[.nils, .nils]], .live 2 [[.nils, .nils]], .live 3 [[.int .i64 len, .list 2 q1, .list 1 n1]], .live 3 [[.int .i64 len, .sl 5 2 0 m, .list 1 n1]], .live 2 fp]) (Bd.Ok q1) (Bd.left q1) .start (by (refine Wk.eqz (id) (by first | exact fun i _ j _ e => e | (simp only [List.length_cons, List.length_nil]; decide)) ?_; cbv; (repeat' (first | exact trivial | rfl | assumption | apply And.intro | (simp only [hbin, hcmp, hun, hconv, hnot, hbeq, hmm, hscmp, hsadd, hslen, hsat, heqs, hofNat, binStd, cmpStd, unStd, scmpStd, maxI, Bool.not_eq_true', Bool.not_eq_false', decide_eq_true_eq, decide_eq_false_iff_not, Int.not_lt, Int.not_le, if_true, if_false, Bool.false_eq_true, beq_iff_eq, bne_iff_ne, ne_eq, Bool.not_eq_eq_eq_not, Bool.not_true, Bool.not_false, beq_eq_false_iff_ne, bne_eq_false_iff_eq, Int.ofNat_eq_natCast, Bool.not_not, not_true_eq_false, not_false_eq_true, reduceCtorEq]; first | done | assumption) | exact RowsZ.same (by assumption) (by first | assumption | rfl) | exact FzL.mk rfl rfl rfl (by assumption) (by first | assumption | rfl) (by decide) | (refine RowsZ.one ?_; cbv))))) trivial ?_
      rintro (_ | ⟨k, m, fp⟩) hinv2 Q2 hN2 hE2 hR2
      · cbv
        (split <;> rename_i hc2 <;> (try (simp only [hbin, hcmp, hun, hconv, hnot, hbeq, hmm, hscmp, hsadd, hslen, hsat, heqs, hofNat, binStd, cmpStd, unStd, scmpStd, maxI, Bool.not_eq_true', Bool.not_eq_false', decide_eq_true_eq, decide_eq_false_iff_not, Int.not_lt, Int.not_le, if_true, if_false, Bool.false_eq_true, beq_iff_eq, bne_iff_ne, ne_eq, Bool.not_eq_eq_eq_not, Bool.not_true, Bool.not_false, beq_eq_false_iff_ne, bne_eq_false_iff_eq, Int.ofNat_eq_natCast, Bool.not_not, not_true_eq_false, not_false_eq_true, reduceCtorEq] at hc2)) <;> (try cbv))
        · obtain ⟨⟨a, b⟩, hd2, hrow2⟩ := get_map (f := pcRow) (ds := ps) (i := 0) (Int.le_refl 0) (by omega)
          have hrow2 : q1[(0 : Int).toNat]? = some [.int .i64 a, .int .i64 b] := by rw [← eq1]; exact hrow2
          refine Idx.mk [.int .i64 a, .int .i64 b] (by decide) hrow2 ?_
          cbv
          refine Ob.mk (by decide) ?_
          cbv
          have hU2 : Up0 [[AV.int .i64 a, .int .i64 b]] := ⟨rfl⟩
          have ei2 : wbin .add .i64 0 1 = 1 := by rw [hbin]; rfl
          refine hN2 (Bd.more 1 1 [[.int .i64 a, .int .i64 b]]) _ _ ?hx ?hi ?ht
          case hx => (refine Wk.eqz (fun j => [0, 1, 2, 3, 4, 6].getD j 0) (by first | exact fun i _ j _ e => e | (simp only [List.length_cons, List.length_nil]; decide)) ?_; cbv; (repeat' (first | exact trivial | rfl | assumption | apply And.intro | (simp only [hbin, hcmp, hun, hconv, hnot, hbeq, hmm, hscmp, hsadd, hslen, hsat, heqs, hofNat, binStd, cmpStd, unStd, scmpStd, maxI, Bool.not_eq_true', Bool.not_eq_false', decide_eq_true_eq, decide_eq_false_iff_not, Int.not_lt, Int.not_le, if_true, if_false, Bool.false_eq_true, beq_iff_eq, bne_iff_ne, ne_eq, Bool.not_eq_eq_eq_not, Bool.not_true, Bool.not_false, beq_eq_false_iff_ne, bne_eq_false_iff_eq, Int.ofNat_eq_natCast, Bool.not_not, not_true_eq_false, not_false_eq_true, reduceCtorEq]; first | done | assumption) | exact RowsZ.same (by assumption) (by first | assumption | rfl) | exact FzL.mk rfl rfl rfl (by assumption) (by first | assumption | rfl) (by decide) | (refine RowsZ.one ?_; cbv))))
          case hi => exact ⟨by decide, by omega, (take_row (Int.le_refl 0) hrow2).symm, rfl, hU2⟩
          case ht => simp only [Bd.left]; omega
        · refine hE2 _ _ _ ?_
          cbv
          have hq0 : q1 = [] := List.length_eq_zero_iff.1 (by omega)
          refine Ob.mk (by decide) ?_
          cbv
          refine hN (Bd.more 1 1 [[.int .i64 len, .list 2 q1, .list 1 n1]]) _ _ ?hx ?hi ?ht
          case hx => (refine Wk.eqz (fun j => [0, 1, 2, 5].getD j 0) (by first | exact fun i _ j _ e => e | (simp only [List.length_cons, List.length_nil]; decide)) ?_; cbv; (repeat' (first | exact trivial | rfl | assumption | exact Eq.symm (by assumption) | apply And.intro | (simp only [hbin, hcmp, hun, hconv, hnot, hbeq, hmm, hscmp, hsadd, hslen, hsat, heqs, hofNat, binStd, cmpStd, unStd, scmpStd, maxI, Bool.not_eq_true', Bool.not_eq_false', decide_eq_true_eq, decide_eq_false_iff_not, Int.not_lt, Int.not_le, if_true, if_false, Bool.false_eq_true, beq_iff_eq, bne_iff_ne, ne_eq, Bool.not_eq_eq_eq_not, Bool.not_true, Bool.not_false, beq_eq_false_iff_ne, bne_eq_false_iff_eq, Int.ofNat_eq_natCast, Bool.not_not, not_true_eq_false, not_false_eq_true, reduceCtorEq]; first | done | assumption) | exact RowsZ.same (by assumption) (by first | assumption | rfl) | exact FzL.mk rfl rfl rfl (by assumption) (by first | assumption | rfl) (by decide) | (refine RowsZ.one ?_; cbv))))
          case hi => exact hI1
          case ht => exact hT1
      · cbv
        obtain ⟨hk0, hk1, hfp, hmf, hup⟩ : 0 < k ∧ k.toNat ≤ q1.length ∧ fp = q1.take k.toNat ∧ m = fp.length ∧ Up0 fp := hinv2
        (split <;> rename_i hc2 <;> (try (simp only [hbin, hcmp, hun, hconv, hnot, hbeq, hmm, hscmp, hsadd, hslen, hsat, heqs, hofNat, binStd, cmpStd, unStd, scmpStd, maxI, Bool.not_eq_true', Bool.not_eq_false', decide_eq_true_eq, decide_eq_false_iff_not, Int.not_lt, Int.not_le, if_true, if_false, Bool.false_eq_true, beq_iff_eq, bne_iff_ne, ne_eq, Bool.not_eq_eq_eq_not, Bool.not_true, Bool.not_false, beq_eq_false_iff_ne, bne_eq_false_iff_eq, Int.ofNat_eq_natCast, Bool.not_not, not_true_eq_false, not_false_eq_true, reduceCtorEq] at hc2)) <;> (try cbv))
        · obtain ⟨⟨a, b⟩, hd2, hrow2⟩ := get_map (f := pcRow) (ds := ps) (i := k) (by omega) (by omega)
          have hrow2 : q1[k.toNat]? = some [.int .i64 a, .int .i64 b] := by rw [← eq1]; exact hrow2
          refine Idx.mk [.int .i64 a, .int .i64 b] (by omega) hrow2 ?_
          cbv
          obtain ⟨k', ek'⟩ : ∃ x, k + 1 = x := ⟨_, rfl⟩
          have ek : wbin .add .i64 k 1 = k' := by rw [hbin, i_add (by omega) (by omega)]; exact ek'
          obtain ⟨fp', efp⟩ : ∃ x, fp ++ [[AV.int .i64 a, .int .i64 b]] = x := ⟨_, rfl⟩
          have hfl2 : fp'.length = m + 1 := by rw [← efp, hmf]; simp
          have hft2 : fp' = q1.take k'.toNat := by rw [← efp, ← ek', take_row (by omega) hrow2, hfp]
          have hup' : Up0 fp' := by rw [hft2]; exact up_take huq _
          obtain ⟨m', em'⟩ : ∃ x, m + 1 = x := ⟨_, rfl⟩
          have hml : m = k.toNat := by rw [hmf, hfp, List.length_take]; omega
          refine App.mk fp' m' efp.symm hmf em'.symm (by omega) (by omega) ?_
          cbv
          refine hN2 (Bd.more k' m' fp') _ _ ?hx ?hi ?ht
          case hx => (refine Wk.eqz (fun j => [0, 1, 2, 3, 4, 7].getD j 0) (by first | exact fun i _ j _ e => e | (simp only [List.length_cons, List.length_nil]; decide)) ?_; cbv; (repeat' (first | exact trivial | rfl | assumption | apply And.intro | (simp only [hbin, hcmp, hun, hconv, hnot, hbeq, hmm, hscmp, hsadd, hslen, hsat, heqs, hofNat, binStd, cmpStd, unStd, scmpStd, maxI, Bool.not_eq_true', Bool.not_eq_false', decide_eq_true_eq, decide_eq_false_iff_not, Int.not_lt, Int.not_le, if_true, if_false, Bool.false_eq_true, beq_iff_eq, bne_iff_ne, ne_eq, Bool.not_eq_eq_eq_not, Bool.not_true, Bool.not_false, beq_eq_false_iff_ne, bne_eq_false_iff_eq, Int.ofNat_eq_natCast, Bool.not_not, not_true_eq_false, not_false_eq_true, reduceCtorEq]; first | done | assumption) | exact RowsZ.same (by assumption) (by first | assumption | rfl) | exact FzL.mk rfl rfl rfl (by assumption) (by first | assumption | rfl) (by decide) | (refine RowsZ.one ?_; cbv))))
          case hi => exact ⟨by omega, by omega, hft2, by omega, hup'⟩
          case ht => simp only [Bd.left]; omega
        · refine hE2 _ _ _ ?_
          cbv
          have hq : fp = q1 := by rw [hfp, List.take_of_length_le (by omega)]
          have hmq : m = q1.length := by rw [hmf, hq]
          clear hfp
          subst fp
          refine Ob.mk (by decide) ?_
          cbv
          refine hN (Bd.more 1 1 [[.int .i64 len, .list 2 q1, .list 1 n1]]) _ _ ?hx ?hi ?ht
          case hx => (refine Wk.eqz (fun j => [0, 1, 2, 6].getD j 0) (by first | exact fun i _ j _ e => e | (simp only [List.length_cons, List.length_nil]; decide)) ?_; cbv; (repeat' (first | exact trivial | rfl | assumption | exact Eq.symm (by assumption) | apply And.intro | (simp only [hbin, hcmp, hun, hconv, hnot, hbeq, hmm, hscmp, hsadd, hslen, hsat, heqs, hofNat, binStd, cmpStd, unStd, scmpStd, maxI, Bool.not_eq_true', Bool.not_eq_false', decide_eq_true_eq, decide_eq_false_iff_not, Int.not_lt, Int.not_le, if_true, if_false, Bool.false_eq_true, beq_iff_eq, bne_iff_ne, ne_eq, Bool.not_eq_eq_eq_not, Bool.not_true, Bool.not_false, beq_eq_false_iff_ne, bne_eq_false_iff_eq, Int.ofNat_eq_natCast, Bool.not_not, not_true_eq_false, not_false_eq_true, reduceCtorEq]; first | done | assumption) | exact RowsZ.same (by assumption) (by first | assumption | rfl) | exact FzL.mk rfl rfl rfl (by assumption) (by first | assumption | rfl) (by decide) | (refine RowsZ.one ?_; cbv))))
          case hi => exact hI1
          case ht => exact hT1
    · refine hE _ _ _ ?_
      cbv
      have he0 : es = [] := List.length_eq_zero_iff.1 (by omega)
      (obtain ⟨J, eJ, J0, Jn⟩ : ∃ L : Int, wlen ds = L ∧ 0 ≤ L ∧ L.toNat = ds.length := ⟨(ds.length : Int), by rw [hlen], Int.natCast_nonneg _, Int.toNat_natCast _⟩)
      refine Loop.data hw (S := Bd) (fun s => match s with | .start => fr 63 [(2, .ref 1 2 0 0), (3, .ref 2 2 0 0), (49, .list 5 ds), (50, .int .i64 J), (51, .int .i64 0)] | .more k m fp => fr 63 [(2, .ref 1 2 0 0), (3, .ref 2 2 0 0), (49, .list 5 ds), (50, .int .i64 J), (51, .int .i64 k)])
        (fun s => match s with | .start => [.live 2 [[.list 3 es, .list 5 ds]], .live 2 [[.nils, .nils]], .live 2 [[.list 3 es, .nils]]] | .more k m fp => [.live 2 [[.list 3 es, .list 5 ds]], .live 2 [[.nils, .nils]], .live 2 [[.list 3 es, .sl 3 5 0 m]], .live 5 fp]) (Bd.Ok ds) (Bd.left ds) .start (by (refine Wk.eqz (id) (by first | exact fun i _ j _ e => e | (simp only [List.length_cons, List.length_nil]; decide)) ?_; cbv; (repeat' (first | exact trivial | rfl | assumption | apply And.intro | (simp only [hbin, hcmp, hun, hconv, hnot, hbeq, hmm, hscmp, hsadd, hslen, hsat, heqs, hofNat, binStd, cmpStd, unStd, scmpStd, maxI, Bool.not_eq_true', Bool.not_eq_false', decide_eq_true_eq, decide_eq_false_iff_not, Int.not_lt, Int.not_le, if_true, if_false, Bool.false_eq_true, beq_iff_eq, bne_iff_ne, ne_eq, Bool.not_eq_eq_eq_not, Bool.not_true, Bool.not_false, beq_eq_false_iff_ne, bne_eq_false_iff_eq, Int.ofNat_eq_natCast, Bool.not_not, not_true_eq_false, not_false_eq_true, reduceCtorEq]; first | done | assumption) | exact RowsZ.same (by assumption) (by first | assumption | rfl) | exact FzL.mk rfl rfl rfl (by assumption) (by first | assumption | rfl) (by decide) | (refine RowsZ.one ?_; cbv))))) trivial ?_
      rintro (_ | ⟨k, m, fp⟩) hinv2 Q2 hN2 hE2 hR2
      · cbv
        (split <;> rename_i hc2 <;> (try (simp only [hbin, hcmp, hun, hconv, hnot, hbeq, hmm, hscmp, hsadd, hslen, hsat, heqs, hofNat, binStd, cmpStd, unStd, scmpStd, maxI, Bool.not_eq_true', Bool.not_eq_false', decide_eq_true_eq, decide_eq_false_iff_not, Int.not_lt, Int.not_le, if_true, if_false, Bool.false_eq_true, beq_iff_eq, bne_iff_ne, ne_eq, Bool.not_eq_eq_eq_not, Bool.not_true, Bool.not_false, beq_eq_false_iff_ne, bne_eq_false_iff_eq, Int.ofNat_eq_natCast, Bool.not_not, not_true_eq_false, not_false_eq_true, reduceCtorEq] at hc2)) <;> (try cbv))
        · obtain ⟨⟨a1, a2, a3, a4, a5⟩, hd2, hrow2⟩ := get_map (f := grRow) (ds := gs) (i := 0) (Int.le_refl 0) (by omega)
          have hrow2 : ds[(0 : Int).toNat]? = some [.int .i64 a1, .int .i64 a2, .int .i64 a3, .int .i64 a4, .int .i64 a5] := by rw [hds]; exact hrow2
          refine Idx.mk [.int .i64 a1, .int .i64 a2, .int .i64 a3, .int .i64 a4, .int .i64 a5] (by decide) hrow2 ?_
          cbv
          refine Ob.mk (by decide) ?_
          cbv
          have hU2 : Up0 [[AV.int .i64 a1, .int .i64 a2, .int .i64 a3, .int .i64 a4, .int .i64 a5]] := ⟨rfl⟩
          have ei2 : wbin .add .i64 0 1 = 1 := by rw [hbin]; rfl
          refine hN2 (Bd.more 1 1 [[.int .i64 a1, .int .i64 a2, .int .i64 a3, .int .i64 a4, .int .i64 a5]]) _ _ ?hx ?hi ?ht
          case hx => (refine Wk.eqz (fun j => [0, 1, 2, 4].getD j 0) (by first | exact fun i _ j _ e => e | (simp only [List.length_cons, List.length_nil]; decide)) ?_; cbv; (repeat' (first | exact trivial | rfl | assumption | apply And.intro | (simp only [hbin, hcmp, hun, hconv, hnot, hbeq, hmm, hscmp, hsadd, hslen, hsat, heqs, hofNat, binStd, cmpStd, unStd, scmpStd, maxI, Bool.not_eq_true', Bool.not_eq_false', decide_eq_true_eq, decide_eq_false_iff_not, Int.not_lt, Int.not_le, if_true, if_false, Bool.false_eq_true, beq_iff_eq, bne_iff_ne, ne_eq, Bool.not_eq_eq_eq_not, Bool.not_true, Bool.not_false, beq_eq_false_iff_ne, bne_eq_false_iff_eq, Int.ofNat_eq_natCast, Bool.not_not, not_true_eq_false, not_false_eq_true, reduceCtorEq]; first | done | assumption) | exact RowsZ.same (by assumption) (by first | assumption | rfl) | exact FzL.mk rfl rfl rfl (by assumption) (by first | assumption | rfl) (by decide) | (refine RowsZ.one ?_; cbv))))
          case hi => exact ⟨by decide, by omega, (take_row (Int.le_refl 0) hrow2).symm, rfl, hU2⟩
          case ht => simp only [Bd.left]; omega
        · refine hE2 _ _ _ ?_
          cbv
          have hd0 : ds = [] := List.length_eq_zero_iff.1 (by omega)
          exact ⟨_, Vw.agg (rs := [.list 3 es, .list 5 []]) ⟨Vw.same hu.list, Vw.nil 5, trivial⟩, hR _ (by rw [hd0])⟩
      · cbv
        obtain ⟨hk0, hk1, hfp, hmf, hup⟩ : 0 < k ∧ k.toNat ≤ ds.length ∧ fp = ds.take k.toNat ∧ m = fp.length ∧ Up0 fp := hinv2
        (split <;> rename_i hc2 <;> (try (simp only [hbin, hcmp, hun, hconv, hnot, hbeq, hmm, hscmp, hsadd, hslen, hsat, heqs, hofNat, binStd, cmpStd, unStd, scmpStd, maxI, Bool.not_eq_true', Bool.not_eq_false', decide_eq_true_eq, decide_eq_false_iff_not, Int.not_lt, Int.not_le, if_true, if_false, Bool.false_eq_true, beq_iff_eq, bne_iff_ne, ne_eq, Bool.not_eq_eq_eq_not, Bool.not_true, Bool.not_false, beq_eq_false_iff_ne, bne_eq_false_iff_eq, Int.ofNat_eq_natCast, Bool.not_not, not_true_eq_false, not_false_eq_true, reduceCtorEq] at hc2)) <;> (try cbv))
        · obtain ⟨⟨a1, a2, a3, a4, a5⟩, hd2, hrow2⟩ := get_map (f := grRow) (ds := gs) (i := k) (by omega) (by omega)
          have hrow2 : ds[k.toNat]? = some [.int .i64 a1, .int .i64 a2, .int .i64 a3, .int .i64 a4, .int .i64 a5] := by rw [hds]; exact hrow2
          refine Idx.mk [.int .i64 a1, .int .i64 a2, .int .i64 a3, .int .i64 a4, .int .i64 a5] (by omega) hrow2 ?_
          cbv
          obtain ⟨k', ek'⟩ : ∃ x, k + 1 = x := ⟨_, rfl⟩
          have ek : wbin .add .i64 k 1 = k' := by rw [hbin, i_add (by omega) (by omega)]; exact ek'
          obtain ⟨fp', efp⟩ : ∃ x, fp ++ [[AV.int .i64 a1, .int .i64 a2, .int .i64 a3, .int .i64 a4, .int .i64 a5]] = x := ⟨_, rfl⟩
          have hfl2 : fp'.length = m + 1 := by rw [← efp, hmf]; simp
          have hft2 : fp' = ds.take k'.toNat := by rw [← efp, ← ek', take_row (by omega) hrow2, hfp]
          have hup' : Up0 fp' := by rw [hft2]; exact up_take hud _
          obtain ⟨m', em'⟩ : ∃ x, m + 1 = x := ⟨_, rfl⟩
          have hml : m = k.toNat := by rw [hmf, hfp, List.length_take]; omega
          refine App.mk fp' m' efp.symm hmf em'.symm (by omega) (by omega) ?_
          cbv
          refine hN2 (Bd.more k' m' fp') _ _ ?hx ?hi ?ht
          case hx => (refine Wk.eqz (fun j => [0, 1, 2, 5].getD j 0) (by first | exact fun i _ j _ e => e | (simp only [List.length_cons, List.length_nil]; decide)) ?_; cbv; (repeat' (first | exact trivial | rfl | assumption | apply And.intro | (simp only [hbin, hcmp, hun, hconv, hnot, hbeq, hmm, hscmp, hsadd, hslen, hsat, heqs, hofNat, binStd, cmpStd, unStd, scmpStd, maxI, Bool.not_eq_true', Bool.not_eq_false', decide_eq_true_eq, decide_eq_false_iff_not, Int.not_lt, Int.not_le, if_true, if_false, Bool.false_eq_true, beq_iff_eq, bne_iff_ne, ne_eq, Bool.not_eq_eq_eq_not, Bool.not_true, Bool.not_false, beq_eq_false_iff_ne, bne_eq_false_iff_eq, Int.ofNat_eq_natCast, Bool.not_not, not_true_eq_false, not_false_eq_true, reduceCtorEq]; first | done | assumption) | exact RowsZ.same (by assumption) (by first | assumption | rfl) | exact FzL.mk rfl rfl rfl (by assumption) (by first | assumption | rfl) (by decide) | (refine RowsZ.one ?_; cbv))))
          case hi => exact ⟨by omega, by omega, hft2, by omega, hup'⟩
          case ht => simp only [Bd.left]; omega
        · refine hE2 _ _ _ ?_
          cbv
          have hq : fp = ds := by rw [hfp, List.take_of_length_le (by omega)]
          refine ⟨_, Vw.agg (rs := [.list 3 es, .list 5 _]) ⟨Vw.same hu.list, Vw.sl rfl hup.get (by omega), trivial⟩, hR _ ?_⟩
          rw [List.drop_zero, List.take_of_length_le (by omega), hq]
  · cbv
    obtain ⟨hi0, hi1, hfs, hnf, huf⟩ : 0 < i ∧ i.toNat ≤ es.length ∧ fs = es.take i.toNat ∧ n = fs.length ∧ Up0 fs := hinv
    (split <;> rename_i hc <;> (try (simp only [hbin, hcmp, hun, hconv, hnot, hbeq, hmm, hscmp, hsadd, hslen, hsat, heqs, hofNat, binStd, cmpStd, unStd, scmpStd, maxI, Bool.not_eq_true', Bool.not_eq_false', decide_eq_true_eq, decide_eq_false_iff_not, Int.not_lt, Int.not_le, if_true, if_false, Bool.false_eq_true, beq_iff_eq, bne_iff_ne, ne_eq, Bool.not_eq_eq_eq_not, Bool.not_true, Bool.not_false, beq_eq_false_iff_ne, bne_eq_false_iff_eq, Int.ofNat_eq_natCast, Bool.not_not, not_true_eq_false, not_false_eq_true, reduceCtorEq] at hc)) <;> (try cbv))
    · obtain ⟨⟨len, ps, nx⟩, hd, hrow⟩ := get_map (f := sgRow) (ds := ss) (i := i) (by omega) (by omega)
      obtain ⟨q1, eq1⟩ : ∃ x, ps.map pcRow = x := ⟨_, rfl⟩
      obtain ⟨n1, en1⟩ : ∃ x, nx.map nxRow = x := ⟨_, rfl⟩
      have hrow : es[i.toNat]? = some [.int .i64 len, .list 2 q1, .list 1 n1] := by rw [hes, ← eq1, ← en1]; exact hrow
      have hql : q1.length = ps.length := by rw [← eq1]; simp
      have hpl : ps.length ≤ 1000 := hm3 ⟨len, ps, nx⟩ (List.mem_of_getElem? hd)
      have huq : Up0 q1 := by rw [← eq1]; exact up_pc ps
      have hun : Up0 n1 := by rw [← en1]; exact up_nx nx
      refine Idx.mk [.int .i64 len, .list 2 q1, .list 1 n1] (by omega) hrow ?_
      cbv
      obtain ⟨i', ei'⟩ : ∃ x, i + 1 = x := ⟨_, rfl⟩
      have ei : wbin .add .i64 i 1 = i' := by rw [hbin, i_add (by omega) (by omega)]; exact ei'
      obtain ⟨fw, efw⟩ : ∃ x, fs ++ [[AV.int .i64 len, .list 2 q1, .list 1 n1]] = x := ⟨_, rfl⟩
      have hfl : fw.length = n + 1 := by rw [← efw, hnf]; simp
      have hft : fw = es.take i'.toNat := by rw [← efw, ← ei', take_row (by omega) hrow, hfs]
      have hufw : Up0 fw := by rw [hft]; exact up_take hu _
      obtain ⟨n', en'⟩ : ∃ x, n + 1 = x := ⟨_, rfl⟩
      have hnl : n = i.toNat := by rw [hnf, hfs, List.length_take]; omega
      have hT1 : Bd.left es (.more i' n' fw) < Bd.left es (.more i n fs) := by simp only [Bd.left]; omega
      have hI1 : Bd.Ok es (.more i' n' fw) := ⟨by omega, by omega, hft, by omega, hufw⟩
      (obtain ⟨K, eK, K0, Kn⟩ : ∃ L : Int, wlen q1 = L ∧ 0 ≤ L ∧ L.toNat = q1.length := ⟨(q1.length : Int), by rw [hlen], Int.natCast_nonneg _, Int.toNat_natCast _⟩)
      refine Loop.data hw (S := Bd) (fun s => match s with | .start => fr 63 [(1, .ref 0 2 0 0), (2, .ref 1 2 0 0), (3, .ref 2 2 0 0), (12, .list 3 es), (13, .int .i64 L), (14, .int .i64 i), (5, .ref 4 3 0 0), (6, .ref 5 3 0 0), (24, .list 2 q1), (25, .int .i64 K), (26, .int .i64 0)] | .more k m fp => fr 63 [(1, .ref 0 2 0 0), (2, .ref 1 2 0 0), (3, .ref 2 2 0 0), (12, .list 3 es), (13, .int .i64 L), (14, .int .i64 i), (5, .ref 4 3 0 0), (6, .ref 5 3 0 0), (24, .list 2 q1), (25, .int .i64 K), (26, .int .i64 k)])
        (fun s => match s with | .start => [.live 2 [[.list 3 es, .list 5 ds]], .live 2 [[.nils, .nils]], .live 2 [[.sl 3 3 0 n, .nils]], .live 3 fs, .live 3 [[.int .i64 len, .list 2 q1, .list 1 n1]], .live 3 [[.int .i64 len, .nils, .list 1 n1]]] | .more k m fp => [.live 2 [[.list 3 es, .list 5 ds]], .live 2 [[.nils, .nils]], .live 2 [[.sl 3 3 0 n, .nils]], .live 3 fs, .live 3 [[.int .i64 len, .list 2 q1, .list 1 n1]], .live 3 [[.int .i64 len, .sl 6 2 0 m, .list 1 n1]], .live 2 fp]) (Bd.Ok q1) (Bd.left q1) .start (by (refine Wk.eqz (id) (by first | exact fun i _ j _ e => e | (simp only [List.length_cons, List.length_nil]; decide)) ?_; cbv; (repeat' (first | exact trivial | rfl | assumption | apply And.intro | (simp only [hbin, hcmp, hun, hconv, hnot, hbeq, hmm, hscmp, hsadd, hslen, hsat, heqs, hofNat, binStd, cmpStd, unStd, scmpStd, maxI, Bool.not_eq_true', Bool.not_eq_false', decide_eq_true_eq, decide_eq_false_iff_not, Int.not_lt, Int.not_le, if_true, if_false, Bool.false_eq_true, beq_iff_eq, bne_iff_ne, ne_eq, Bool.not_eq_eq_eq_not, Bool.not_true, Bool.not_false, beq_eq_false_iff_ne, bne_eq_false_iff_eq, Int.ofNat_eq_natCast, Bool.not_not, not_true_eq_false, not_false_eq_true, reduceCtorEq]; first | done | assumption) | exact RowsZ.same (by assumption) (by first | assumption | rfl) | exact FzL.mk rfl rfl rfl (by assumption) (by first | assumption | rfl) (by decide) | (refine RowsZ.one ?_; cbv))))) trivial ?_
      rintro (_ | ⟨k, m, fp⟩) hinv2 Q2 hN2 hE2 hR2
      · cbv
        (split <;> rename_i hc2 <;> (try (simp only [hbin, hcmp, hun, hconv, hnot, hbeq, hmm, hscmp, hsadd, hslen, hsat, heqs, hofNat, binStd, cmpStd, unStd, scmpStd, maxI, Bool.not_eq_true', Bool.not_eq_false', decide_eq_true_eq, decide_eq_false_iff_not, Int.not_lt, Int.not_le, if_true, if_false, Bool.false_eq_true, beq_iff_eq, bne_iff_ne, ne_eq, Bool.not_eq_eq_eq_not, Bool.not_true, Bool.not_false, beq_eq_false_iff_ne, bne_eq_false_iff_eq, Int.ofNat_eq_natCast, Bool.not_not, not_true_eq_false, not_false_eq_true, reduceCtorEq] at hc2)) <;> (try cbv))
        · obtain ⟨⟨a, b⟩, hd2, hrow2⟩ := get_map (f := pcRow) (ds := ps) (i := 0) (Int.le_refl 0) (by omega)
          have hrow2 : q1[(0 : Int).toNat]? = some [.int .i64 a, .int .i64 b] := by rw [← eq1]; exact hrow2
          refine Idx.mk [.int .i64 a, .int .i64 b] (by decide) hrow2 ?_
          cbv
          refine Ob.mk (by decide) ?_
          cbv
          have hU2 : Up0 [[AV.int .i64 a, .int .i64 b]] := ⟨rfl⟩
          have ei2 : wbin .add .i64 0 1 = 1 := by rw [hbin]; rfl
          refine hN2 (Bd.more 1 1 [[.int .i64 a, .int .i64 b]]) _ _ ?hx ?hi ?ht
          case hx => (refine Wk.eqz (fun j => [0, 1, 2, 3, 4, 5, 7].getD j 0) (by first | exact fun i _ j _ e => e | (simp only [List.length_cons, List.length_nil]; decide)) ?_; cbv; (repeat' (first | exact trivial | rfl | assumption | apply And.intro | (simp only [hbin, hcmp, hun, hconv, hnot, hbeq, hmm, hscmp, hsadd, hslen, hsat, heqs, hofNat, binStd, cmpStd, unStd, scmpStd, maxI, Bool.not_eq_true', Bool.not_eq_false', decide_eq_true_eq, decide_eq_false_iff_not, Int.not_lt, Int.not_le, if_true, if_false, Bool.false_eq_true, beq_iff_eq, bne_iff_ne, ne_eq, Bool.not_eq_eq_eq_not, Bool.not_true, Bool.not_false, beq_eq_false_iff_ne, bne_eq_false_iff_eq, Int.ofNat_eq_natCast, Bool.not_not, not_true_eq_false, not_false_eq_true, reduceCtorEq]; first | done | assumption) | exact RowsZ.same (by assumption) (by first | assumption | rfl) | exact FzL.mk rfl rfl rfl (by assumption) (by first | assumption | rfl) (by decide) | (refine RowsZ.one ?_; cbv))))
          case hi => exact ⟨by decide, by omega, (take_row (Int.le_refl 0) hrow2).symm, rfl, hU2⟩
          case ht => simp only [Bd.left]; omega
        · refine hE2 _ _ _ ?_
          cbv
          have hq0 : q1 = [] := List.length_eq_zero_iff.1 (by omega)
          obtain ⟨fx, efx⟩ : ∃ x, fs ++ [[AV.int .i64 len, .nils, .list 1 n1]] = x := ⟨_, rfl⟩
          refine App.mk fx n' efx.symm hnf en'.symm (by omega) (by omega) ?_
          cbv
          refine hN (Bd.more i' n' fw) _ _ ?hx ?hi ?ht
          case hx => (refine Wk.eqz (fun j => [0, 1, 2, 6].getD j 0) (by first | exact fun i _ j _ e => e | (simp only [List.length_cons, List.length_nil]; decide)) ?_; cbv; (repeat' (first | exact trivial | rfl | assumption | (refine RowsZ.app huf efx.symm efw.symm ?_; cbv) | apply And.intro | (simp only [hbin, hcmp, hun, hconv, hnot, hbeq, hmm, hscmp, hsadd, hslen, hsat, heqs, hofNat, binStd, cmpStd, unStd, scmpStd, maxI, Bool.not_eq_true', Bool.not_eq_false', decide_eq_true_eq, decide_eq_false_iff_not, Int.not_lt, Int.not_le, if_true, if_false, Bool.false_eq_true, beq_iff_eq, bne_iff_ne, ne_eq, Bool.not_eq_eq_eq_not, Bool.not_true, Bool.not_false, beq_eq_false_iff_ne, bne_eq_false_iff_eq, Int.ofNat_eq_natCast, Bool.not_not, not_true_eq_false, not_false_eq_true, reduceCtorEq]; first | done | assumption) | exact RowsZ.same (by assumption) (by first | assumption | rfl) | exact FzL.mk rfl rfl rfl (by assumption) (by first | assumption | rfl) (by decide) | (refine RowsZ.one ?_; cbv))))
          case hi => exact hI1
          case ht => exact hT1
      · cbv
        obtain ⟨hk0, hk1, hfp, hmf, hup⟩ : 0 < k ∧ k.toNat ≤ q1.length ∧ fp = q1.take k.toNat ∧ m = fp.length ∧ Up0 fp := hinv2
        (split <;> rename_i hc2 <;> (try (simp only [hbin, hcmp, hun, hconv, hnot, hbeq, hmm, hscmp, hsadd, hslen, hsat, heqs, hofNat, binStd, cmpStd, unStd, scmpStd, maxI, Bool.not_eq_true', Bool.not_eq_false', decide_eq_true_eq, decide_eq_false_iff_not, Int.not_lt, Int.not_le, if_true, if_false, Bool.false_eq_true, beq_iff_eq, bne_iff_ne, ne_eq, Bool.not_eq_eq_eq_not, Bool.not_true, Bool.not_false, beq_eq_false_iff_ne, bne_eq_false_iff_eq, Int.ofNat_eq_natCast, Bool.not_not, not_true_eq_false, not_false_eq_true, reduceCtorEq] at hc2)) <;> (try cbv))
        · obtain ⟨⟨a, b⟩, hd2, hrow2⟩ := get_map (f := pcRow) (ds := ps) (i := k) (by omega) (by omega)
          have hrow2 : q1[k.toNat]? = some [.int .i64 a, .int .i64 b] := by rw [← eq1]; exact hrow2
          refine Idx.mk [.int .i64 a, .int .i64 b] (by omega) hrow2 ?_
          cbv
          obtain ⟨k', ek'⟩ : ∃ x, k + 1 = x := ⟨_, rfl⟩
          have ek : wbin .add .i64 k 1 = k' := by rw [hbin, i_add (by omega) (by omega)]; exact ek'
          obtain ⟨fp', efp⟩ : ∃ x, fp ++ [[AV.int .i64 a, .int .i64 b]] = x := ⟨_, rfl⟩
          have hfl2 : fp'.length = m + 1 := by rw [← efp, hmf]; simp
          have hft2 : fp' = q1.take k'.toNat := by rw [← efp, ← ek', take_row (by omega) hrow2, hfp]
          have hup' : Up0 fp' := by rw [hft2]; exact up_take huq _
          obtain ⟨m', em'⟩ : ∃ x, m + 1 = x := ⟨_, rfl⟩
          have hml : m = k.toNat := by rw [hmf, hfp, List.length_take]; omega
          refine App.mk fp' m' efp.symm hmf em'.symm (by omega) (by omega) ?_
          cbv
          refine hN2 (Bd.more k' m' fp') _ _ ?hx ?hi ?ht
          case hx => (refine Wk.eqz (fun j => [0, 1, 2, 3, 4, 5, 8].getD j 0) (by first | exact fun i _ j _ e => e | (simp only [List.length_cons, List.length_nil]; decide)) ?_; cbv; (repeat' (first | exact trivial | rfl | assumption | apply And.intro | (simp only [hbin, hcmp, hun, hconv, hnot, hbeq, hmm, hscmp, hsadd, hslen, hsat, heqs, hofNat, binStd, cmpStd, unStd, scmpStd, maxI, Bool.not_eq_true', Bool.not_eq_false', decide_eq_true_eq, decide_eq_false_iff_not, Int.not_lt, Int.not_le, if_true, if_false, Bool.false_eq_true, beq_iff_eq, bne_iff_ne, ne_eq, Bool.not_eq_eq_eq_not, Bool.not_true, Bool.not_false, beq_eq_false_iff_ne, bne_eq_false_iff_eq, Int.ofNat_eq_natCast, Bool.not_not, not_true_eq_false, not_false_eq_true, reduceCtorEq]; first | done | assumption) | exact RowsZ.same (by assumption) (by first | assumption | rfl) | exact FzL.mk rfl rfl rfl (by assumption) (by first | assumption | rfl) (by decide) | (refine RowsZ.one ?_; cbv))))
          case hi => exact ⟨by omega, by omega, hft2, by omega, hup'⟩
          case ht => simp only [Bd.left]; omega
        · refine hE2 _ _ _ ?_
          cbv
          have hq : fp = q1 := by rw [hfp, List.take_of_length_le (by omega)]
          have hmq : m = q1.length := by rw [hmf, hq]
          clear hfp
          subst fp
          obtain ⟨fx, efx⟩ : ∃ x, fs ++ [[AV.int .i64 len, .sl 6 2 0 m, .list 1 n1]] = x := ⟨_, rfl⟩
          refine App.mk fx n' efx.symm hnf en'.symm (by omega) (by omega) ?_
          cbv
          refine hN (Bd.more i' n' fw) _ _ ?hx ?hi ?ht
          case hx => (refine Wk.eqz (fun j => [0, 1, 2, 7].getD j 0) (by first | exact fun i _ j _ e => e | (simp only [List.length_cons, List.length_nil]; decide)) ?_; cbv; (repeat' (first | exact trivial | rfl | assumption | (refine RowsZ.app huf efx.symm efw.symm ?_; cbv) | apply And.intro | (simp only [hbin, hcmp, hun, hconv, hnot, hbeq, hmm, hscmp, hsadd, hslen, hsat, heqs, hofNat, binStd, cmpStd, unStd, scmpStd, maxI, Bool.not_eq_true', Bool.not_eq_false', decide_eq_true_eq, decide_eq_false_iff_not, Int.not_lt, Int.not_le, if_true, if_false, Bool.false_eq_true, beq_iff_eq, bne_iff_ne, ne_eq, Bool.not_eq_eq_eq_not, Bool.not_true, Bool.not_false, beq_eq_false_iff_ne, bne_eq_false_iff_eq, Int.ofNat_eq_natCast, Bool.not_not, not_true_eq_false, not_false_eq_true, reduceCtorEq]; first | done | assumption) | exact RowsZ.same (by assumption) (by first | assumption | rfl) | exact FzL.mk rfl rfl rfl (by assumption) (by first | assumption | rfl) (by decide) | (refine RowsZ.one ?_; cbv))))
          case hi => exact hI1
          case ht => exact hT1
    · refine hE _ _ _ ?_
      cbv
      have hfe : fs = es := by rw [hfs, List.take_of_length_le (by omega)]
      have hne : n = es.length := by rw [hnf, hfe]
      subst hfe
      (obtain ⟨J, eJ, J0, Jn⟩ : ∃ L : Int, wlen ds = L ∧ 0 ≤ L ∧ L.toNat = ds.length := ⟨(ds.length : Int), by rw [hlen], Int.natCast_nonneg _, Int.toNat_natCast _⟩)
      refine Loop.data hw (S := Bd) (fun s => match s with | .start => fr 63 [(2, .ref 1 2 0 0), (3, .ref 2 2 0 0), (49, .list 5 ds), (50, .int .i64 J), (51, .int .i64 0)] | .more k m fp => fr 63 [(2, .ref 1 2 0 0), (3, .ref 2 2 0 0), (49, .list 5 ds), (50, .int .i64 J), (51, .int .i64 k)])
        (fun s => match s with | .start => [.live 2 [[.list 3 fs, .list 5 ds]], .live 2 [[.nils, .nils]], .live 2 [[.list 3 fs, .nils]]] | .more k m fp => [.live 2 [[.list 3 fs, .list 5 ds]], .live 2 [[.nils, .nils]], .live 2 [[.list 3 fs, .sl 3 5 0 m]], .live 5 fp]) (Bd.Ok ds) (Bd.left ds) .start (by (refine Wk.eqz (id) (by first | exact fun i _ j _ e => e | (simp only [List.length_cons, List.length_nil]; decide)) ?_; cbv; (repeat' (first | exact trivial | rfl | assumption | apply And.intro | (simp only [hbin, hcmp, hun, hconv, hnot, hbeq, hmm, hscmp, hsadd, hslen, hsat, heqs, hofNat, binStd, cmpStd, unStd, scmpStd, maxI, Bool.not_eq_true', Bool.not_eq_false', decide_eq_true_eq, decide_eq_false_iff_not, Int.not_lt, Int.not_le, if_true, if_false, Bool.false_eq_true, beq_iff_eq, bne_iff_ne, ne_eq, Bool.not_eq_eq_eq_not, Bool.not_true, Bool.not_false, beq_eq_false_iff_ne, bne_eq_false_iff_eq, Int.ofNat_eq_natCast, Bool.not_not, not_true_eq_false, not_false_eq_true, reduceCtorEq]; first | done | assumption) | exact RowsZ.same (by assumption) (by first | assumption | rfl) | exact FzL.mk rfl rfl rfl (by assumption) (by first | assumption | rfl) (by decide) | (refine RowsZ.one ?_; cbv))))) trivial ?_
      rintro (_ | ⟨k, m, fp⟩) hinv2 Q2 hN2 hE2 hR2
      · cbv
        (split <;> rename_i hc2 <;> (try (simp only [hbin, hcmp, hun, hconv, hnot, hbeq, hmm, hscmp, hsadd, hslen, hsat, heqs, hofNat, binStd, cmpStd, unStd, scmpStd, maxI, Bool.not_eq_true', Bool.not_eq_false', decide_eq_true_eq, decide_eq_false_iff_not, Int.not_lt, Int.not_le, if_true, if_false, Bool.false_eq_true, beq_iff_eq, bne_iff_ne, ne_eq, Bool.not_eq_eq_eq_not, Bool.not_true, Bool.not_false, beq_eq_false_iff_ne, bne_eq_false_iff_eq, Int.ofNat_eq_natCast, Bool.not_not, not_true_eq_false, not_false_eq_true, reduceCtorEq] at hc2)) <;> (try cbv))
        · obtain ⟨⟨a1, a2, a3, a4, a5⟩, hd2, hrow2⟩ := get_map (f := grRow) (ds := gs) (i := 0) (Int.le_refl 0) (by omega)
          have hrow2 : ds[(0 : Int).toNat]? = some [.int .i64 a1, .int .i64 a2, .int .i64 a3, .int .i64 a4, .int .i64 a5] := by rw [hds]; exact hrow2
          refine Idx.mk [.int .i64 a1, .int .i64 a2, .int .i64 a3, .int .i64 a4, .int .i64 a5] (by decide) hrow2 ?_
          cbv
          refine Ob.mk (by decide) ?_
          cbv
          have hU2 : Up0 [[AV.int .i64 a1, .int .i64 a2, .int .i64 a3, .int .i64 a4, .int .i64 a5]] := ⟨rfl⟩
          have ei2 : wbin .add .i64 0 1 = 1 := by rw [hbin]; rfl
          refine hN2 (Bd.more 1 1 [[.int .i64 a1, .int .i64 a2, .int .i64 a3, .int .i64 a4, .int .i64 a5]]) _ _ ?hx ?hi ?ht
          case hx => (refine Wk.eqz (fun j => [0, 1, 2, 4].getD j 0) (by first | exact fun i _ j _ e => e | (simp only [List.length_cons, List.length_nil]; decide)) ?_; cbv; (repeat' (first | exact trivial | rfl | assumption | apply And.intro | (simp only [hbin, hcmp, hun, hconv, hnot, hbeq, hmm, hscmp, hsadd, hslen, hsat, heqs, hofNat, binStd, cmpStd, unStd, scmpStd, maxI, Bool.not_eq_true', Bool.not_eq_false', decide_eq_true_eq, decide_eq_false_iff_not, Int.not_lt, Int.not_le, if_true, if_false, Bool.false_eq_true, beq_iff_eq, bne_iff_ne, ne_eq, Bool.not_eq_eq_eq_not, Bool.not_true, Bool.not_false, beq_eq_false_iff_ne, bne_eq_false_iff_eq, Int.ofNat_eq_natCast, Bool.not_not, not_true_eq_false, not_false_eq_true, reduceCtorEq]; first | done | assumption) | exact RowsZ.same (by assumption) (by first | assumption | rfl) | exact FzL.mk rfl rfl rfl (by assumption) (by first | assumption | rfl) (by decide) | (refine RowsZ.one ?_; cbv))))
          case hi => exact ⟨by decide, by omega, (take_row (Int.le_refl 0) hrow2).symm, rfl, hU2⟩
          case ht => simp only [Bd.left]; omega
        · refine hE2 _ _ _ ?_
          cbv
          have hd0 : ds = [] := List.length_eq_zero_iff.1 (by omega)
          exact ⟨_, Vw.agg (rs := [.list 3 fs, .list 5 []]) ⟨Vw.same hu.list, Vw.nil 5, trivial⟩, hR _ (by rw [hd0])⟩
      · cbv
        obtain ⟨hk0, hk1, hfp, hmf, hup⟩ : 0 < k ∧ k.toNat ≤ ds.length ∧ fp = ds.take k.toNat ∧ m = fp.length ∧ Up0 fp := hinv2
        (split <;> rename_i hc2 <;> (try (simp only [hbin, hcmp, hun, hconv, hnot, hbeq, hmm, hscmp, hsadd, hslen, hsat, heqs, hofNat, binStd, cmpStd, unStd, scmpStd, maxI, Bool.not_eq_true', Bool.not_eq_false', decide_eq_true_eq, decide_eq_false_iff_not, Int.not_lt, Int.not_le, if_true, if_false, Bool.false_eq_true, beq_iff_eq, bne_iff_ne, ne_eq, Bool.not_eq_eq_eq_not, Bool.not_true, Bool.not_false, beq_eq_false_iff_ne, bne_eq_false_iff_eq, Int.ofNat_eq_natCast, Bool.not_not, not_true_eq_false, not_false_eq_true, reduceCtorEq] at hc2)) <;> (try cbv))
        · obtain ⟨⟨a1, a2, a3, a4, a5⟩, hd2, hrow2⟩ := get_map (f := grRow) (ds := gs) (i := k) (by omega) (by omega)
          have hrow2 : ds[k.toNat]? = some [.int .i64 a1, .int .i64 a2, .int .i64 a3, .int .i64 a4, .int .i64 a5] := by rw [hds]; exact hrow2
          refine Idx.mk [.int .i64 a1, .int .i64 a2, .int .i64 a3, .int .i64 a4, .int .i64 a5] (by omega) hrow2 ?_
          cbv
          obtain ⟨k', ek'⟩ : ∃ x, k + 1 = x := ⟨_, rfl⟩
          have ek : wbin .add .i64 k 1 = k' := by rw [hbin, i_add (by omega) (by omega)]; exact ek'
          obtain ⟨fp', efp⟩ : ∃ x, fp ++ [[AV.int .i64 a1, .int .i64 a2, .int .i64 a3, .int .i64 a4, .int .i64 a5]] = x := ⟨_, rfl⟩
          have hfl2 : fp'.length = m + 1 := by rw [← efp, hmf]; simp
          have hft2 : fp' = ds.take k'.toNat := by rw [← efp, ← ek', take_row (by omega) hrow2, hfp]
          have hup' : Up0 fp' := by rw [hft2]; exact up_take hud _
          obtain ⟨m', em'⟩ : ∃ x, m + 1 = x := ⟨_, rfl⟩
          have hml : m = k.toNat := by rw [hmf, hfp, List.length_take]; omega
          refine App.mk fp' m' efp.symm hmf em'.symm (by omega) (by omega) ?_
          cbv
          refine hN2 (Bd.more k' m' fp') _ _ ?hx ?hi ?ht
          case hx => (refine Wk.eqz (fun j => [0, 1, 2, 5].getD j 0) (by first | exact fun i _ j _ e => e | (simp only [List.length_cons, List.length_nil]; decide)) ?_; cbv; (repeat' (first | exact trivial | rfl | assumption | apply And.intro | (simp only [hbin, hcmp, hun, hconv, hnot, hbeq, hmm, hscmp, hsadd, hslen, hsat, heqs, hofNat, binStd, cmpStd, unStd, scmpStd, maxI, Bool.not_eq_true', Bool.not_eq_false', decide_eq_true_eq, decide_eq_false_iff_not, Int.not_lt, Int.not_le, if_true, if_false, Bool.false_eq_true, beq_iff_eq, bne_iff_ne, ne_eq, Bool.not_eq_eq_eq_not, Bool.not_true, Bool.not_false, beq_eq_false_iff_ne, bne_eq_false_iff_eq, Int.ofNat_eq_natCast, Bool.not_not, not_true_eq_false, not_false_eq_true, reduceCtorEq]; first | done | assumption) | exact RowsZ.same (by assumption) (by first | assumption | rfl) | exact FzL.mk rfl rfl rfl (by assumption) (by first | assumption | rfl) (by decide) | (refine RowsZ.one ?_; cbv))))
          case hi => exact ⟨by omega, by omega, hft2, by omega, hup'⟩
          case ht => simp only [Bd.left]; omega
        · refine hE2 _ _ _ ?_
          cbv
          have hq : fp = ds := by rw [hfp, List.take_of_length_le (by omega)]
          refine ⟨_, Vw.agg (rs := [.list 3 fs, .list 5 _]) ⟨Vw.same hu.list, Vw.sl rfl hup.get (by omega), trivial⟩, hR _ ?_⟩
          rw [List.drop_zero, List.take_of_length_le (by omega), hq]
end Go.Proofs.Ytjfbecnappgjjaa

/- odographlaw33.small, by the engine. Printed by wip/tools/gensmall.py. -/
set_option linter.unusedVariables false
set_option linter.unusedSimpArgs false
namespace Go.Proofs.Ytjfbecnappgjjaa
open Go Go.RowKit Go.Eng
set_option maxRecDepth 100000


theorem up_track {es ds : List (List AV)} (hu : Up0 es) (hud : Up0 ds) : uptoL 0 [.agg [.list 3 es, .list 5 ds]] = true :=
  Bool.and_eq_true_iff.mpr ⟨Up0.one hu (Up0.one hud rfl), rfl⟩
theorem e_small_small (ss : List Sg) (gs : List Gr) (es ds : List (List AV)) (hes : es = ss.map sgRow) (hds : ds = gs.map grRow) : PCalls Try.prog 28 [.agg [.list 3 es, .list 5 ds]] (fun r => ∃ o : Bool, r = .bool o ∧ (o = true → TrackOk ss gs ∧ ∀ s, s ∈ ss → s.ps.length ≤ 1000)) := by
  have hu : Up0 es := by rw [hes]; exact up_sg ss
  have hud : Up0 ds := by rw [hds]; exact up_gr gs
  have hel : es.length = ss.length := by rw [hes]; simp
  have hdl : ds.length = gs.length := by rw [hds]; simp
  (refine PCalls.ofY Try.func28 (by kernel_rfl) (by kernel_rfl) fun w hw R hR => ?_); (obtain ⟨wbin, wcmp, wun, wconv, wnot, wbeq, wmm, wscmp, wsadd, wslen, wsat, weqs, wlen, wnlen, wofNat, wtake, wdrop, wapp, wzero, wnat⟩ := w); (have hbin : wbin = binStd := congrArg Prims.bin hw); (have hcmp : wcmp = cmpStd := congrArg Prims.cmp hw); (have hun : wun = unStd := congrArg Prims.un hw); (have hconv : wconv = fun k n => k.wrap n := congrArg Prims.conv hw); (have hnot : wnot = fun b => !b := congrArg Prims.not hw); (have hbeq : wbeq = fun a b => a == b := congrArg Prims.beq hw); (have hmm : wmm = maxI := congrArg Prims.mm hw); (have hscmp : wscmp = scmpStd := congrArg Prims.scmp hw); (have hsadd : wsadd = fun x y => x ++ y := congrArg Prims.sadd hw); (have hslen : wslen = fun s => (s.size : Int) := congrArg Prims.slen hw); (have hsat : wsat = std.sat := congrArg Prims.sat hw); (have heqs : weqs = fun a b os => (eqOffs a b os).getD false := congrArg Prims.eqs hw); (have hlen : wlen = fun es => (es.length : Int) := congrArg Prims.len hw); (have hnlen : wnlen = fun es => es.length := congrArg Prims.nlen hw); (have hofNat : wofNat = (fun n : Nat => (n : Int)) := congrArg Prims.ofNat hw); (have htake : wtake = fun es b => es.take b.toNat := congrArg Prims.take hw); (have hdrop : wdrop = fun es a => es.drop a.toNat := congrArg Prims.drop hw); (have happ : wapp = fun a b => a ++ b := congrArg Prims.app hw); (have hzero : wzero = fun n z => List.replicate n.toNat z := congrArg Prims.zero hw); (have hnat : wnat = fun n => n.toNat := congrArg Prims.nat hw); (conv => arg 2; cbv); (generalize hP : Try.prog = P); cbv
  (obtain ⟨L, eL, L0, Ln⟩ : ∃ L : Int, wlen es = L ∧ 0 ≤ L ∧ L.toNat = es.length := ⟨(es.length : Int), by rw [hlen], Int.natCast_nonneg _, Int.toNat_natCast _⟩)
  (obtain ⟨J, eJ, J0, Jn⟩ : ∃ L : Int, wlen ds = L ∧ 0 ≤ L ∧ L.toNat = ds.length := ⟨(ds.length : Int), by rw [hlen], Int.natCast_nonneg _, Int.toNat_natCast _⟩)
  have hF : R (.bool false) := hR _ ⟨_, rfl, fun h => (by cases h)⟩
  (split <;> rename_i h1 <;> (try (simp only [eL] at h1)) <;> (try (simp only [hbin, hcmp, hun, hconv, hnot, hbeq, hmm, hscmp, hsadd, hslen, hsat, heqs, hofNat, binStd, cmpStd, unStd, scmpStd, maxI, Bool.not_eq_true', Bool.not_eq_false', decide_eq_true_eq, decide_eq_false_iff_not, Int.not_lt, Int.not_le, if_true, if_false, Bool.false_eq_true, beq_iff_eq, bne_iff_ne, ne_eq, Bool.not_eq_eq_eq_not, Bool.not_true, Bool.not_false, beq_eq_false_iff_ne, bne_eq_false_iff_eq, Int.ofNat_eq_natCast, Bool.not_not, not_true_eq_false, not_false_eq_true, reduceCtorEq] at h1)) <;> (try cbv))
  · exact ⟨_, Vw.same rfl, hF⟩
  (split <;> rename_i h2 <;> (try (simp only [eJ] at h2)) <;> (try (simp only [hbin, hcmp, hun, hconv, hnot, hbeq, hmm, hscmp, hsadd, hslen, hsat, heqs, hofNat, binStd, cmpStd, unStd, scmpStd, maxI, Bool.not_eq_true', Bool.not_eq_false', decide_eq_true_eq, decide_eq_false_iff_not, Int.not_lt, Int.not_le, if_true, if_false, Bool.false_eq_true, beq_iff_eq, bne_iff_ne, ne_eq, Bool.not_eq_eq_eq_not, Bool.not_true, Bool.not_false, beq_eq_false_iff_ne, bne_eq_false_iff_eq, Int.ofNat_eq_natCast, Bool.not_not, not_true_eq_false, not_false_eq_true, reduceCtorEq] at h2)) <;> (try cbv))
  · exact ⟨_, Vw.same rfl, hF⟩
  refine Loop.data hw (S := Int) (fun i => fr 43 [(1, .ref 0 2 0 0), (18, .list 3 es), (19, .int .i64 L), (20, .int .i64 i)]) (fun i => [.live 2 [[.list 3 es, .list 5 ds]]]) (fun i => 0 ≤ i ∧ i ≤ L ∧ ∀ j, j < i.toNat → ∀ s, ss[j]? = some s → s.ps.length ≤ 100) (fun i => (L - i).toNat) 0 (by (refine Wk.eqz (id) (by first | exact fun i _ j _ e => e | (simp only [List.length_cons, List.length_nil]; decide)) ?_; cbv; (repeat' (first | exact trivial | rfl | assumption | apply And.intro | (simp only [hbin, hcmp, hun, hconv, hnot, hbeq, hmm, hscmp, hsadd, hslen, hsat, heqs, hofNat, binStd, cmpStd, unStd, scmpStd, maxI, Bool.not_eq_true', Bool.not_eq_false', decide_eq_true_eq, decide_eq_false_iff_not, Int.not_lt, Int.not_le, if_true, if_false, Bool.false_eq_true, beq_iff_eq, bne_iff_ne, ne_eq, Bool.not_eq_eq_eq_not, Bool.not_true, Bool.not_false, beq_eq_false_iff_ne, bne_eq_false_iff_eq, Int.ofNat_eq_natCast, Bool.not_not, not_true_eq_false, not_false_eq_true, reduceCtorEq]; first | done | assumption) | exact RowsZ.same (by assumption) (by first | assumption | rfl) | exact FzL.mk rfl rfl rfl (by assumption) (by first | assumption | rfl) (by decide) | (refine RowsZ.one ?_; cbv))))) ⟨Int.le_refl _, L0, fun j hj => (by simp at hj)⟩ ?_
  rintro i hinv Q' hN hE hR'
  have hinv : 0 ≤ i ∧ i ≤ L ∧ ∀ j, j < i.toNat → ∀ s, ss[j]? = some s → s.ps.length ≤ 100 := hinv
  cbv
  obtain ⟨hi0, hi1, hl⟩ := hinv
  (split <;> rename_i hc <;> (try (simp only [hbin, hcmp, hun, hconv, hnot, hbeq, hmm, hscmp, hsadd, hslen, hsat, heqs, hofNat, binStd, cmpStd, unStd, scmpStd, maxI, Bool.not_eq_true', Bool.not_eq_false', decide_eq_true_eq, decide_eq_false_iff_not, Int.not_lt, Int.not_le, if_true, if_false, Bool.false_eq_true, beq_iff_eq, bne_iff_ne, ne_eq, Bool.not_eq_eq_eq_not, Bool.not_true, Bool.not_false, beq_eq_false_iff_ne, bne_eq_false_iff_eq, Int.ofNat_eq_natCast, Bool.not_not, not_true_eq_false, not_false_eq_true, reduceCtorEq] at hc)) <;> (try cbv))
  · obtain ⟨⟨len, ps, nx⟩, hd, hrow⟩ := get_map (f := sgRow) (ds := ss) (i := i) hi0 (by omega)
    obtain ⟨q1, eq1⟩ : ∃ x, ps.map pcRow = x := ⟨_, rfl⟩
    obtain ⟨n1, en1⟩ : ∃ x, nx.map nxRow = x := ⟨_, rfl⟩
    have hrow : es[i.toNat]? = some [.int .i64 len, .list 2 q1, .list 1 n1] := by rw [hes, ← eq1, ← en1]; exact hrow
    have hql : q1.length = ps.length := by rw [← eq1]; simp
    (obtain ⟨K, eK, K0, Kn⟩ : ∃ L : Int, wlen q1 = L ∧ 0 ≤ L ∧ L.toNat = q1.length := ⟨(q1.length : Int), by rw [hlen], Int.natCast_nonneg _, Int.toNat_natCast _⟩)
    obtain ⟨i', ei'⟩ : ∃ x, i + 1 = x := ⟨_, rfl⟩
    have ei : wbin .add .i64 i 1 = i' := by rw [hbin, i_add (by omega) (by omega)]; exact ei'
    have hT : (L - i').toNat < (L - i).toNat := by omega
    refine Idx.mk [.int .i64 len, .list 2 q1, .list 1 n1] hi0 hrow ?_
    cbv
    repeat' (first | exact hR' _ _ ⟨_, Vw.same rfl, hF⟩ | (split <;> rename_i h <;> (try (simp only [eK] at h)) <;> (try (simp only [hbin, hcmp, hun, hconv, hnot, hbeq, hmm, hscmp, hsadd, hslen, hsat, heqs, hofNat, binStd, cmpStd, unStd, scmpStd, maxI, Bool.not_eq_true', Bool.not_eq_false', decide_eq_true_eq, decide_eq_false_iff_not, Int.not_lt, Int.not_le, if_true, if_false, Bool.false_eq_true, beq_iff_eq, bne_iff_ne, ne_eq, Bool.not_eq_eq_eq_not, Bool.not_true, Bool.not_false, beq_eq_false_iff_ne, bne_eq_false_iff_eq, Int.ofNat_eq_natCast, Bool.not_not, not_true_eq_false, not_false_eq_true, reduceCtorEq] at h)) <;> (try cbv)))
    refine hN i' _ _ ?hx ?hi hT
    case hx => (refine Wk.eqz (id) (by first | exact fun i _ j _ e => e | (simp only [List.length_cons, List.length_nil]; decide)) ?_; cbv; (repeat' (first | exact trivial | rfl | assumption | apply And.intro | (simp only [hbin, hcmp, hun, hconv, hnot, hbeq, hmm, hscmp, hsadd, hslen, hsat, heqs, hofNat, binStd, cmpStd, unStd, scmpStd, maxI, Bool.not_eq_true', Bool.not_eq_false', decide_eq_true_eq, decide_eq_false_iff_not, Int.not_lt, Int.not_le, if_true, if_false, Bool.false_eq_true, beq_iff_eq, bne_iff_ne, ne_eq, Bool.not_eq_eq_eq_not, Bool.not_true, Bool.not_false, beq_eq_false_iff_ne, bne_eq_false_iff_eq, Int.ofNat_eq_natCast, Bool.not_not, not_true_eq_false, not_false_eq_true, reduceCtorEq]; first | done | assumption) | exact RowsZ.same (by assumption) (by first | assumption | rfl) | exact FzL.mk rfl rfl rfl (by assumption) (by first | assumption | rfl) (by decide) | (refine RowsZ.one ?_; cbv))))
    case hi =>
      refine ⟨by omega, by omega, ?_⟩
      rw [← ei']
      refine all_step hi0 hl fun m hm => ?_
      rw [hd] at hm
      obtain rfl : (⟨len, ps, nx⟩ : Sg) = m := by simpa using hm
      simp only; omega
  refine hE _ _ _ ?_
  cbv
  have hps : ∀ s, s ∈ ss → s.ps.length ≤ 1000 := fun s hs => by
    obtain ⟨j, hj⟩ := List.mem_iff_getElem?.1 hs
    have := hl j (by have := (List.getElem?_eq_some_iff.1 hj).1; omega) s hj
    omega
  refine Call.stepE (by rw [← hP]; exact e_refsT ss gs es ds hes hds (by omega) (by omega) hps) (by exact up_track hu hud) ?_
  cbv
  refine Call.step (by rw [← hP]; exact e_check11 ss gs es ds hes hds) (by exact up_track hu hud) ?_
  rintro r ⟨e, i, rfl, hok⟩
  cbv
  refine ⟨_, Vw.same rfl, hR _ ⟨_, rfl, fun ho => ⟨hok ?_, hps⟩⟩⟩
  rw [hcmp] at ho
  simpa [cmpStd] using ho
end Go.Proofs.Ytjfbecnappgjjaa

/- Limits and spots as the document has them, by the engine. -/
set_option linter.unusedVariables false
set_option linter.unusedSimpArgs false
namespace Go.Proofs.Ytjfbecnappgjjaa
open Go Go.RowKit Go.Eng
set_option maxRecDepth 100000
/-- A limit. -/
structure Li where
  s : Int
  a : Int
  b : Int
  v : Int
def liRow (l : Li) : List AV := [.int .i64 l.s, .int .i64 l.a, .int .i64 l.b, .int .i64 l.v]
theorem e_limits (ls : List Li) (es : List (List AV)) (hes : es = ls.map liRow) (hmax : ls.length ≤ 1000) : PCalls Try.prog 32 [.list 4 es] (· = .list 4 es) := by
  have hu : Up0 es := by rw [hes]; exact up_map (fun d => rfl) ls
  have hel : es.length = ls.length := by rw [hes]; simp
  (refine PCalls.ofY Try.func32 (by kernel_rfl) (by kernel_rfl) fun w hw R hR => ?_); (obtain ⟨wbin, wcmp, wun, wconv, wnot, wbeq, wmm, wscmp, wsadd, wslen, wsat, weqs, wlen, wnlen, wofNat, wtake, wdrop, wapp, wzero, wnat⟩ := w); (have hbin : wbin = binStd := congrArg Prims.bin hw); (have hcmp : wcmp = cmpStd := congrArg Prims.cmp hw); (have hun : wun = unStd := congrArg Prims.un hw); (have hconv : wconv = fun k n => k.wrap n := congrArg Prims.conv hw); (have hnot : wnot = fun b => !b := congrArg Prims.not hw); (have hbeq : wbeq = fun a b => a == b := congrArg Prims.beq hw); (have hmm : wmm = maxI := congrArg Prims.mm hw); (have hscmp : wscmp = scmpStd := congrArg Prims.scmp hw); (have hsadd : wsadd = fun x y => x ++ y := congrArg Prims.sadd hw); (have hslen : wslen = fun s => (s.size : Int) := congrArg Prims.slen hw); (have hsat : wsat = std.sat := congrArg Prims.sat hw); (have heqs : weqs = fun a b os => (eqOffs a b os).getD false := congrArg Prims.eqs hw); (have hlen : wlen = fun es => (es.length : Int) := congrArg Prims.len hw); (have hnlen : wnlen = fun es => es.length := congrArg Prims.nlen hw); (have hofNat : wofNat = (fun n : Nat => (n : Int)) := congrArg Prims.ofNat hw); (have htake : wtake = fun es b => es.take b.toNat := congrArg Prims.take hw); (have hdrop : wdrop = fun es a => es.drop a.toNat := congrArg Prims.drop hw); (have happ : wapp = fun a b => a ++ b := congrArg Prims.app hw); (have hzero : wzero = fun n z => List.replicate n.toNat z := congrArg Prims.zero hw); (have hnat : wnat = fun n => n.toNat := congrArg Prims.nat hw); (conv => arg 2; cbv); (generalize hP : Try.prog = P); cbv
  (obtain ⟨L, eL, L0, Ln⟩ : ∃ L : Int, wlen es = L ∧ 0 ≤ L ∧ L.toNat = es.length := ⟨(es.length : Int), by rw [hlen], Int.natCast_nonneg _, Int.toNat_natCast _⟩)
  refine Loop.data hw (S := Bd) (fun s => match s with | .start => fr 18 [(3, .nils), (6, .list 4 es), (7, .int .i64 L), (8, .int .i64 0)] | .more i n fs => fr 18 [(3, .sl 0 4 0 n), (6, .list 4 es), (7, .int .i64 L), (8, .int .i64 i)])
    (fun s => match s with | .start => [] | .more i n fs => [.live 4 fs]) (Bd.Ok es) (Bd.left es) .start (by (refine Wk.eqz (id) (by first | exact fun i _ j _ e => e | (simp only [List.length_cons, List.length_nil]; decide)) ?_; cbv; (repeat' (first | exact trivial | rfl | assumption | apply And.intro | (simp only [hbin, hcmp, hun, hconv, hnot, hbeq, hmm, hscmp, hsadd, hslen, hsat, heqs, hofNat, binStd, cmpStd, unStd, scmpStd, maxI, Bool.not_eq_true', Bool.not_eq_false', decide_eq_true_eq, decide_eq_false_iff_not, Int.not_lt, Int.not_le, if_true, if_false, Bool.false_eq_true, beq_iff_eq, bne_iff_ne, ne_eq, Bool.not_eq_eq_eq_not, Bool.not_true, Bool.not_false, beq_eq_false_iff_ne, bne_eq_false_iff_eq, Int.ofNat_eq_natCast, Bool.not_not, not_true_eq_false, not_false_eq_true, reduceCtorEq]; first | done | assumption) | exact RowsZ.same (by assumption) (by first | assumption | rfl) | exact FzL.mk rfl rfl rfl (by assumption) (by first | assumption | rfl) (by decide) | (refine RowsZ.one ?_; cbv))))) trivial ?_
  rintro (_ | ⟨i, n, fs⟩) hinv Q' hN hE hR'
  · cbv
    (split <;> rename_i hc <;> (try (simp only [hbin, hcmp, hun, hconv, hnot, hbeq, hmm, hscmp, hsadd, hslen, hsat, heqs, hofNat, binStd, cmpStd, unStd, scmpStd, maxI, Bool.not_eq_true', Bool.not_eq_false', decide_eq_true_eq, decide_eq_false_iff_not, Int.not_lt, Int.not_le, if_true, if_false, Bool.false_eq_true, beq_iff_eq, bne_iff_ne, ne_eq, Bool.not_eq_eq_eq_not, Bool.not_true, Bool.not_false, beq_eq_false_iff_ne, bne_eq_false_iff_eq, Int.ofNat_eq_natCast, Bool.not_not, not_true_eq_false, not_false_eq_true, reduceCtorEq] at hc)) <;> (try cbv))
    · obtain ⟨⟨s, a, b, v⟩, hd, hrow⟩ := get_map (f := liRow) (ds := ls) (i := 0) (Int.le_refl 0) (by omega)
      refine Idx.mk [.int .i64 s, .int .i64 a, .int .i64 b, .int .i64 v] (by decide) (by rw [hes]; exact hrow) ?_
      cbv
      refine Ob.mk (by decide) ?_
      have ei : wbin .add .i64 0 1 = 1 := by rw [hbin]; rfl
      have hT : Bd.left es (.more 1 1 [[.int .i64 s, .int .i64 a, .int .i64 b, .int .i64 v]]) < Bd.left es .start := by simp only [Bd.left]; omega
      have hI : Bd.Ok es (.more 1 1 [[.int .i64 s, .int .i64 a, .int .i64 b, .int .i64 v]]) := by
        have h1 : es[(0 : Int).toNat]? = some [.int .i64 s, .int .i64 a, .int .i64 b, .int .i64 v] := by rw [hes]; exact hrow
        exact ⟨by decide, by omega, (take_row (Int.le_refl 0) h1).symm, rfl, ⟨rfl⟩⟩
      have hU : Up0 [[AV.int .i64 s, .int .i64 a, .int .i64 b, .int .i64 v]] := ⟨rfl⟩
      (refine hN (Bd.more 1 1 [[.int .i64 s, .int .i64 a, .int .i64 b, .int .i64 v]]) _ _ ?hx ?hi ?ht; (case hx => (refine Wk.eqz (fun _ => 1) (by first | exact fun i _ j _ e => e | (simp only [List.length_cons, List.length_nil]; decide)) ?_; cbv; (repeat' (first | exact trivial | rfl | assumption | apply And.intro | (simp only [hbin, hcmp, hun, hconv, hnot, hbeq, hmm, hscmp, hsadd, hslen, hsat, heqs, hofNat, binStd, cmpStd, unStd, scmpStd, maxI, Bool.not_eq_true', Bool.not_eq_false', decide_eq_true_eq, decide_eq_false_iff_not, Int.not_lt, Int.not_le, if_true, if_false, Bool.false_eq_true, beq_iff_eq, bne_iff_ne, ne_eq, Bool.not_eq_eq_eq_not, Bool.not_true, Bool.not_false, beq_eq_false_iff_ne, bne_eq_false_iff_eq, Int.ofNat_eq_natCast, Bool.not_not, not_true_eq_false, not_false_eq_true, reduceCtorEq]; first | done | assumption) | exact RowsZ.same (by assumption) (by first | assumption | rfl) | exact FzL.mk rfl rfl rfl (by assumption) (by first | assumption | rfl) (by decide) | (refine RowsZ.one ?_; cbv))))); (case hi => exact hI); (case ht => exact hT))
    · refine hE _ _ _ ?_
      cbv
      have : es = [] := List.length_eq_zero_iff.1 (by omega)
      exact ⟨_, Vw.nil 4, hR _ (by rw [this])⟩
  · cbv
    obtain ⟨hi0, hi1, hfs, hnf, huf⟩ : 0 < i ∧ i.toNat ≤ es.length ∧ fs = es.take i.toNat ∧ n = fs.length ∧ Up0 fs := hinv
    (split <;> rename_i hc <;> (try (simp only [hbin, hcmp, hun, hconv, hnot, hbeq, hmm, hscmp, hsadd, hslen, hsat, heqs, hofNat, binStd, cmpStd, unStd, scmpStd, maxI, Bool.not_eq_true', Bool.not_eq_false', decide_eq_true_eq, decide_eq_false_iff_not, Int.not_lt, Int.not_le, if_true, if_false, Bool.false_eq_true, beq_iff_eq, bne_iff_ne, ne_eq, Bool.not_eq_eq_eq_not, Bool.not_true, Bool.not_false, beq_eq_false_iff_ne, bne_eq_false_iff_eq, Int.ofNat_eq_natCast, Bool.not_not, not_true_eq_false, not_false_eq_true, reduceCtorEq] at hc)) <;> (try cbv))
    · obtain ⟨⟨s, a, b, v⟩, hd, hrow⟩ := get_map (f := liRow) (ds := ls) (i := i) (by omega) (by omega)
      have hrow : es[i.toNat]? = some [.int .i64 s, .int .i64 a, .int .i64 b, .int .i64 v] := by rw [hes]; exact hrow
      refine Idx.mk [.int .i64 s, .int .i64 a, .int .i64 b, .int .i64 v] (by omega) hrow ?_
      cbv
      obtain ⟨i', ei'⟩ : ∃ x, i + 1 = x := ⟨_, rfl⟩
      have ei : wbin .add .i64 i 1 = i' := by rw [hbin, i_add (by omega) (by omega)]; exact ei'
      obtain ⟨fs', efs⟩ : ∃ x, fs ++ [[AV.int .i64 s, .int .i64 a, .int .i64 b, .int .i64 v]] = x := ⟨_, rfl⟩
      have hfl : fs'.length = n + 1 := by rw [← efs, hnf]; simp
      have hft : fs' = es.take i'.toNat := by rw [← efs, ← ei', take_row (by omega) hrow, hfs]
      have huf' : Up0 fs' := by rw [hft]; exact up_take hu _
      obtain ⟨n', en'⟩ : ∃ x, n + 1 = x := ⟨_, rfl⟩
      have hnl : n = i.toNat := by rw [hnf, hfs, List.length_take]; omega
      refine App.mk fs' n' efs.symm hnf en'.symm (by omega) (by omega) ?_
      have hT : Bd.left es (.more i' n' fs') < Bd.left es (.more i n fs) := by simp only [Bd.left]; omega
      have hI : Bd.Ok es (.more i' n' fs') := ⟨by omega, by omega, hft, by omega, huf'⟩
      cbv
      (refine hN (Bd.more i' n' fs') _ _ ?hx ?hi ?ht; (case hx => (refine Wk.eqz (fun _ => 2) (by first | exact fun i _ j _ e => e | (simp only [List.length_cons, List.length_nil]; decide)) ?_; cbv; (repeat' (first | exact trivial | rfl | assumption | apply And.intro | (simp only [hbin, hcmp, hun, hconv, hnot, hbeq, hmm, hscmp, hsadd, hslen, hsat, heqs, hofNat, binStd, cmpStd, unStd, scmpStd, maxI, Bool.not_eq_true', Bool.not_eq_false', decide_eq_true_eq, decide_eq_false_iff_not, Int.not_lt, Int.not_le, if_true, if_false, Bool.false_eq_true, beq_iff_eq, bne_iff_ne, ne_eq, Bool.not_eq_eq_eq_not, Bool.not_true, Bool.not_false, beq_eq_false_iff_ne, bne_eq_false_iff_eq, Int.ofNat_eq_natCast, Bool.not_not, not_true_eq_false, not_false_eq_true, reduceCtorEq]; first | done | assumption) | exact RowsZ.same (by assumption) (by first | assumption | rfl) | exact FzL.mk rfl rfl rfl (by assumption) (by first | assumption | rfl) (by decide) | (refine RowsZ.one ?_; cbv))))); (case hi => exact hI); (case ht => exact hT))
    · refine hE _ _ _ ?_
      cbv
      refine ⟨_, Vw.sl rfl huf.get (by omega), hR _ ?_⟩
      rw [List.drop_zero, List.take_of_length_le (by omega), hfs, List.take_of_length_le (by omega)]
end Go.Proofs.Ytjfbecnappgjjaa

/- The least limit, by the engine. Printed by wip/tools/genlim.py. -/
set_option linter.unusedVariables false
set_option linter.unusedSimpArgs false
namespace Go.Proofs.Ytjfbecnappgjjaa
open Go Go.RowKit Go.Eng
set_option maxRecDepth 100000
/-- The least speed of those limits that are asked. -/
def LeastIs (p : Li → Bool) (l : List Li) (out : Int) (f : Bool) : Prop :=
  (f = true → (∃ x, x ∈ l ∧ p x = true ∧ x.v = out) ∧ ∀ x, x ∈ l → p x = true → out ≤ x.v) ∧ (f = false → out = 0 ∧ ∀ x, x ∈ l → p x = false)
theorem least_nil (p : Li → Bool) : LeastIs p [] 0 false := ⟨fun h => (by cases h), fun _ => ⟨rfl, fun x hx => (by cases hx)⟩⟩
theorem least_no {p : Li → Bool} {l : List Li} {out : Int} {f : Bool} {x : Li} (h : LeastIs p l out f) (hx : p x = false) : LeastIs p (l ++ [x]) out f := by
  refine ⟨fun hf => ?_, fun hf => ?_⟩
  · obtain ⟨⟨y, h1, h2, h3⟩, h4⟩ := h.1 hf
    refine ⟨⟨y, List.mem_append_left _ h1, h2, h3⟩, fun z hz hp => ?_⟩
    rcases List.mem_append.1 hz with hz | hz
    · exact h4 z hz hp
    · simp at hz; subst hz; rw [hx] at hp; cases hp
  · obtain ⟨h1, h2⟩ := h.2 hf
    refine ⟨h1, fun z hz => ?_⟩
    rcases List.mem_append.1 hz with hz | hz
    · exact h2 z hz
    · simp at hz; subst hz; exact hx
theorem least_put {p : Li → Bool} {l : List Li} {out : Int} {f : Bool} {x : Li} (h : LeastIs p l out f) (hx : p x = true) (hv : f = false ∨ x.v < out) : LeastIs p (l ++ [x]) x.v true := by
  refine ⟨fun _ => ⟨⟨x, by simp, hx, rfl⟩, fun z hz hp => ?_⟩, fun hf => by cases hf⟩
  rcases List.mem_append.1 hz with hz | hz
  · cases f with
    | false => rw [(h.2 rfl).2 z hz] at hp; cases hp
    | true =>
      have := (h.1 rfl).2 z hz hp
      rcases hv with hv | hv
      · cases hv
      · omega
  · simp at hz; subst hz; exact Int.le_refl _
theorem least_keep {p : Li → Bool} {l : List Li} {out : Int} {f : Bool} {x : Li} (h : LeastIs p l out f) (hf : f = true) (hv : out ≤ x.v) : LeastIs p (l ++ [x]) out f := by
  subst hf
  obtain ⟨⟨y, h1, h2, h3⟩, h4⟩ := h.1 rfl
  refine ⟨fun _ => ⟨⟨y, List.mem_append_left _ h1, h2, h3⟩, fun z hz hp => ?_⟩, fun hf => by cases hf⟩
  rcases List.mem_append.1 hz with hz | hz
  · exact h4 z hz hp
  · simp at hz; subst hz; exact hv
theorem least_eq {p : Li → Bool} {l : List Li} {out out2 : Int} {f f2 : Bool} (h : LeastIs p l out f) (k : LeastIs p l out2 f2) : out = out2 ∧ f = f2 := by
  cases f <;> cases f2
  · exact ⟨(h.2 rfl).1.trans (k.2 rfl).1.symm, rfl⟩
  · obtain ⟨x, h1, h2, _⟩ := (k.1 rfl).1
    rw [(h.2 rfl).2 x h1] at h2; cases h2
  · obtain ⟨x, h1, h2, _⟩ := (h.1 rfl).1
    rw [(k.2 rfl).2 x h1] at h2; cases h2
  · obtain ⟨⟨x, h1, h2, h3⟩, h4⟩ := h.1 rfl
    obtain ⟨⟨y, k1, k2, k3⟩, k4⟩ := k.1 rfl
    have := h4 y k1 k2
    have := k4 x h1 h2
    exact ⟨by omega, rfl⟩
structure Lw where
  i : Int
  out : Int
  f : Bool
/-- A spot. -/
structure Spt where
  s : Int
  lo : Int
  hi : Int
def sptRow (x : Spt) : List AV := [.int .i64 x.s, .int .i64 x.lo, .int .i64 x.hi]
def pAt (s0 a0 : Int) (x : Li) : Bool := x.s == s0 && decide (x.a ≤ a0) && decide (a0 ≤ x.b)
def pMeet (x : Li) (y : Spt) : Bool := y.s == x.s && decide (y.lo ≤ x.b) && decide (x.a ≤ y.hi)
theorem e_leastA (ls : List Li) (es : List (List AV)) (hes : es = ls.map liRow) (s0 a0 : Int) (g : Nat) (p : Li → Bool) (hg : ∀ s a b v, PCalls Try.prog g [.agg [.int .i64 s, .int .i64 a, .int .i64 b, .int .i64 v], .cref [.int .i64 s0], .cref [.int .i64 a0]] (· = .bool (p ⟨s, a, b, v⟩))) (hmax : ls.length ≤ 1000) : PCalls Try.prog 52 [.list 4 es, .func (.func g) [] [.cref [.int .i64 s0], .cref [.int .i64 a0]]] (fun r => ∃ out f, r = .tuple [.int .i64 out, .bool f] ∧ LeastIs p ls out f) := by
  have hu : Up0 es := by rw [hes]; exact up_map (f := liRow) (fun d => rfl) ls
  have hel : es.length = ls.length := by rw [hes]; simp
  (refine PCalls.ofY Try.func52 (by kernel_rfl) (by kernel_rfl) fun w hw R hR => ?_); (obtain ⟨wbin, wcmp, wun, wconv, wnot, wbeq, wmm, wscmp, wsadd, wslen, wsat, weqs, wlen, wnlen, wofNat, wtake, wdrop, wapp, wzero, wnat⟩ := w); (have hbin : wbin = binStd := congrArg Prims.bin hw); (have hcmp : wcmp = cmpStd := congrArg Prims.cmp hw); (have hun : wun = unStd := congrArg Prims.un hw); (have hconv : wconv = fun k n => k.wrap n := congrArg Prims.conv hw); (have hnot : wnot = fun b => !b := congrArg Prims.not hw); (have hbeq : wbeq = fun a b => a == b := congrArg Prims.beq hw); (have hmm : wmm = maxI := congrArg Prims.mm hw); (have hscmp : wscmp = scmpStd := congrArg Prims.scmp hw); (have hsadd : wsadd = fun x y => x ++ y := congrArg Prims.sadd hw); (have hslen : wslen = fun s => (s.size : Int) := congrArg Prims.slen hw); (have hsat : wsat = std.sat := congrArg Prims.sat hw); (have heqs : weqs = fun a b os => (eqOffs a b os).getD false := congrArg Prims.eqs hw); (have hlen : wlen = fun es => (es.length : Int) := congrArg Prims.len hw); (have hnlen : wnlen = fun es => es.length := congrArg Prims.nlen hw); (have hofNat : wofNat = (fun n : Nat => (n : Int)) := congrArg Prims.ofNat hw); (have htake : wtake = fun es b => es.take b.toNat := congrArg Prims.take hw); (have hdrop : wdrop = fun es a => es.drop a.toNat := congrArg Prims.drop hw); (have happ : wapp = fun a b => a ++ b := congrArg Prims.app hw); (have hzero : wzero = fun n z => List.replicate n.toNat z := congrArg Prims.zero hw); (have hnat : wnat = fun n => n.toNat := congrArg Prims.nat hw); (conv => arg 2; cbv); (generalize hP : Try.prog = P); cbv
  (obtain ⟨L, eL, L0, Ln⟩ : ∃ L : Int, wlen es = L ∧ 0 ≤ L ∧ L.toNat = es.length := ⟨(es.length : Int), by rw [hlen], Int.natCast_nonneg _, Int.toNat_natCast _⟩)
  refine Loop.data hw (S := Lw) (fun s => fr 34 [(1, .func (.func g) [] [.cref [.int .i64 s0], .cref [.int .i64 a0]]), (6, .int .i64 s.out), (7, .bool s.f), (10, .list 4 es), (11, .int .i64 L), (12, .int .i64 s.i)]) (fun s => []) (fun s => 0 ≤ s.i ∧ s.i ≤ L ∧ LeastIs p (ls.take s.i.toNat) s.out s.f) (fun s => (L - s.i).toNat) ⟨0, 0, false⟩ (by (refine Wk.eqz (id) (by first | exact fun i _ j _ e => e | (simp only [List.length_cons, List.length_nil]; decide)) ?_; cbv; (repeat' (first | exact trivial | rfl | assumption | apply And.intro | (simp only [hbin, hcmp, hun, hconv, hnot, hbeq, hmm, hscmp, hsadd, hslen, hsat, heqs, hofNat, binStd, cmpStd, unStd, scmpStd, maxI, Bool.not_eq_true', Bool.not_eq_false', decide_eq_true_eq, decide_eq_false_iff_not, Int.not_lt, Int.not_le, if_true, if_false, Bool.false_eq_true, beq_iff_eq, bne_iff_ne, ne_eq, Bool.not_eq_eq_eq_not, Bool.not_true, Bool.not_false, beq_eq_false_iff_ne, bne_eq_false_iff_eq, Int.ofNat_eq_natCast, Bool.not_not, not_true_eq_false, not_false_eq_true, reduceCtorEq]; first | done | assumption) | exact RowsZ.same (by assumption) (by first | assumption | rfl) | exact FzL.mk rfl rfl rfl (by assumption) (by first | assumption | rfl) (by decide) | (refine RowsZ.one ?_; cbv))))) ⟨Int.le_refl _, L0, least_nil p⟩ ?_
  rintro ⟨i, out, f⟩ hinv Q' hN hE hR'
  have hinv : 0 ≤ i ∧ i ≤ L ∧ LeastIs p (ls.take i.toNat) out f := hinv
  cbv
  obtain ⟨hi0, hi1, hl⟩ := hinv
  (split <;> rename_i hc <;> (try (simp only [hbin, hcmp, hun, hconv, hnot, hbeq, hmm, hscmp, hsadd, hslen, hsat, heqs, hofNat, binStd, cmpStd, unStd, scmpStd, maxI, Bool.not_eq_true', Bool.not_eq_false', decide_eq_true_eq, decide_eq_false_iff_not, Int.not_lt, Int.not_le, if_true, if_false, Bool.false_eq_true, beq_iff_eq, bne_iff_ne, ne_eq, Bool.not_eq_eq_eq_not, Bool.not_true, Bool.not_false, beq_eq_false_iff_ne, bne_eq_false_iff_eq, Int.ofNat_eq_natCast, Bool.not_not, not_true_eq_false, not_false_eq_true, reduceCtorEq] at hc)) <;> (try cbv))
  · obtain ⟨⟨s, a, b, v⟩, hd, hrow⟩ := get_map (f := liRow) (ds := ls) (i := i) hi0 (by omega)
    have hrow : es[i.toNat]? = some [.int .i64 s, .int .i64 a, .int .i64 b, .int .i64 v] := by rw [hes]; exact hrow
    refine Idx.mk [.int .i64 s, .int .i64 a, .int .i64 b, .int .i64 v] hi0 hrow ?_
    cbv
    have hlen2 := (List.getElem?_eq_some_iff.1 hd).1
    refine Call.stepE (by rw [← hP]; exact hg s a b v) (by exact rfl) ?_
    obtain ⟨i', ei'⟩ : ∃ x, i + 1 = x := ⟨_, rfl⟩
    have hL2 : L < 9223372036854775807 := by omega
    have ei : wbin .add .i64 i 1 = i' := by rw [hbin, i_add (by omega) (by omega)]; exact ei'
    have hT : (L - i').toNat < (L - i).toNat := by omega
    have ht : ls.take i'.toNat = ls.take i.toNat ++ [⟨s, a, b, v⟩] := by rw [← ei', show (i + 1).toNat = i.toNat + 1 by omega, List.take_add_one, hd]; rfl
    have k1 := least_no (p := p) (x := ⟨s, a, b, v⟩) hl
    have k2 := least_put (p := p) (x := ⟨s, a, b, v⟩) hl
    have k3 := least_keep (p := p) (x := ⟨s, a, b, v⟩) hl
    rw [← ht] at k1 k2 k3
    obtain ⟨o, eo⟩ : ∃ x, p ⟨s, a, b, v⟩ = x := ⟨_, rfl⟩
    rw [eo] at k1 k2 ⊢
    cbv
    repeat' (split <;> rename_i h <;> (try (simp only [hbin, hcmp, hun, hconv, hnot, hbeq, hmm, hscmp, hsadd, hslen, hsat, heqs, hofNat, binStd, cmpStd, unStd, scmpStd, maxI, Bool.not_eq_true', Bool.not_eq_false', decide_eq_true_eq, decide_eq_false_iff_not, Int.not_lt, Int.not_le, if_true, if_false, Bool.false_eq_true, beq_iff_eq, bne_iff_ne, ne_eq, Bool.not_eq_eq_eq_not, Bool.not_true, Bool.not_false, beq_eq_false_iff_ne, bne_eq_false_iff_eq, Int.ofNat_eq_natCast, Bool.not_not, not_true_eq_false, not_false_eq_true, reduceCtorEq] at h)) <;> (try cbv))
    all_goals first
      | (refine hN ⟨i', v, true⟩ _ _ ?hx ?hi hT; (case hx => (refine Wk.eqz (id) (by first | exact fun i _ j _ e => e | (simp only [List.length_cons, List.length_nil]; decide)) ?_; cbv; (repeat' (first | exact trivial | rfl | assumption | apply And.intro | (simp only [hbin, hcmp, hun, hconv, hnot, hbeq, hmm, hscmp, hsadd, hslen, hsat, heqs, hofNat, binStd, cmpStd, unStd, scmpStd, maxI, Bool.not_eq_true', Bool.not_eq_false', decide_eq_true_eq, decide_eq_false_iff_not, Int.not_lt, Int.not_le, if_true, if_false, Bool.false_eq_true, beq_iff_eq, bne_iff_ne, ne_eq, Bool.not_eq_eq_eq_not, Bool.not_true, Bool.not_false, beq_eq_false_iff_ne, bne_eq_false_iff_eq, Int.ofNat_eq_natCast, Bool.not_not, not_true_eq_false, not_false_eq_true, reduceCtorEq]; first | done | assumption) | exact RowsZ.same (by assumption) (by first | assumption | rfl) | exact FzL.mk rfl rfl rfl (by assumption) (by first | assumption | rfl) (by decide) | (refine RowsZ.one ?_; cbv))))); (case hi => exact ⟨by simp only; omega, by simp only; omega, k2 rfl (by first | exact .inl rfl | exact .inr (by assumption) | exact .inl (by assumption))⟩))
      | (refine hN ⟨i', out, f⟩ _ _ ?hx ?hi hT; (case hx => (refine Wk.eqz (id) (by first | exact fun i _ j _ e => e | (simp only [List.length_cons, List.length_nil]; decide)) ?_; cbv; (repeat' (first | exact trivial | rfl | assumption | apply And.intro | (simp only [hbin, hcmp, hun, hconv, hnot, hbeq, hmm, hscmp, hsadd, hslen, hsat, heqs, hofNat, binStd, cmpStd, unStd, scmpStd, maxI, Bool.not_eq_true', Bool.not_eq_false', decide_eq_true_eq, decide_eq_false_iff_not, Int.not_lt, Int.not_le, if_true, if_false, Bool.false_eq_true, beq_iff_eq, bne_iff_ne, ne_eq, Bool.not_eq_eq_eq_not, Bool.not_true, Bool.not_false, beq_eq_false_iff_ne, bne_eq_false_iff_eq, Int.ofNat_eq_natCast, Bool.not_not, not_true_eq_false, not_false_eq_true, reduceCtorEq]; first | done | assumption) | exact RowsZ.same (by assumption) (by first | assumption | rfl) | exact FzL.mk rfl rfl rfl (by assumption) (by first | assumption | rfl) (by decide) | (refine RowsZ.one ?_; cbv))))); (case hi => exact ⟨by simp only; omega, by simp only; omega, by first | exact k1 rfl | exact k3 (by assumption) (by assumption)⟩))
      | (refine hN ⟨i', out, true⟩ _ _ ?hx ?hi hT; (case hx => (refine Wk.eqz (id) (by first | exact fun i _ j _ e => e | (simp only [List.length_cons, List.length_nil]; decide)) ?_; cbv; (repeat' (first | exact trivial | rfl | assumption | apply And.intro | (simp only [hbin, hcmp, hun, hconv, hnot, hbeq, hmm, hscmp, hsadd, hslen, hsat, heqs, hofNat, binStd, cmpStd, unStd, scmpStd, maxI, Bool.not_eq_true', Bool.not_eq_false', decide_eq_true_eq, decide_eq_false_iff_not, Int.not_lt, Int.not_le, if_true, if_false, Bool.false_eq_true, beq_iff_eq, bne_iff_ne, ne_eq, Bool.not_eq_eq_eq_not, Bool.not_true, Bool.not_false, beq_eq_false_iff_ne, bne_eq_false_iff_eq, Int.ofNat_eq_natCast, Bool.not_not, not_true_eq_false, not_false_eq_true, reduceCtorEq]; first | done | assumption) | exact RowsZ.same (by assumption) (by first | assumption | rfl) | exact FzL.mk rfl rfl rfl (by assumption) (by first | assumption | rfl) (by decide) | (refine RowsZ.one ?_; cbv))))); (case hi => exact ⟨by simp only; omega, by simp only; omega, by first | exact k1 rfl | exact k3 rfl (by assumption)⟩))
      | (refine hN ⟨i', out, false⟩ _ _ ?hx ?hi hT; (case hx => (refine Wk.eqz (id) (by first | exact fun i _ j _ e => e | (simp only [List.length_cons, List.length_nil]; decide)) ?_; cbv; (repeat' (first | exact trivial | rfl | assumption | apply And.intro | (simp only [hbin, hcmp, hun, hconv, hnot, hbeq, hmm, hscmp, hsadd, hslen, hsat, heqs, hofNat, binStd, cmpStd, unStd, scmpStd, maxI, Bool.not_eq_true', Bool.not_eq_false', decide_eq_true_eq, decide_eq_false_iff_not, Int.not_lt, Int.not_le, if_true, if_false, Bool.false_eq_true, beq_iff_eq, bne_iff_ne, ne_eq, Bool.not_eq_eq_eq_not, Bool.not_true, Bool.not_false, beq_eq_false_iff_ne, bne_eq_false_iff_eq, Int.ofNat_eq_natCast, Bool.not_not, not_true_eq_false, not_false_eq_true, reduceCtorEq]; first | done | assumption) | exact RowsZ.same (by assumption) (by first | assumption | rfl) | exact FzL.mk rfl rfl rfl (by assumption) (by first | assumption | rfl) (by decide) | (refine RowsZ.one ?_; cbv))))); (case hi => exact ⟨by simp only; omega, by simp only; omega, k1 rfl⟩))
  · refine hE _ _ _ ?_
    cbv
    refine ⟨_, Vw.same rfl, hR _ ⟨_, _, rfl, ?_⟩⟩
    rwa [List.take_of_length_le (by omega)] at hl
theorem e_at1 (s a b v s0 a0 : Int) : PCalls Try.prog 53 [.agg [.int .i64 s, .int .i64 a, .int .i64 b, .int .i64 v], .cref [.int .i64 s0], .cref [.int .i64 a0]] (· = .bool (pAt s0 a0 ⟨s, a, b, v⟩)) := by
  (refine PCalls.ofY Try.func53 (by kernel_rfl) (by kernel_rfl) fun w hw R hR => ?_); (obtain ⟨wbin, wcmp, wun, wconv, wnot, wbeq, wmm, wscmp, wsadd, wslen, wsat, weqs, wlen, wnlen, wofNat, wtake, wdrop, wapp, wzero, wnat⟩ := w); (have hbin : wbin = binStd := congrArg Prims.bin hw); (have hcmp : wcmp = cmpStd := congrArg Prims.cmp hw); (have hun : wun = unStd := congrArg Prims.un hw); (have hconv : wconv = fun k n => k.wrap n := congrArg Prims.conv hw); (have hnot : wnot = fun b => !b := congrArg Prims.not hw); (have hbeq : wbeq = fun a b => a == b := congrArg Prims.beq hw); (have hmm : wmm = maxI := congrArg Prims.mm hw); (have hscmp : wscmp = scmpStd := congrArg Prims.scmp hw); (have hsadd : wsadd = fun x y => x ++ y := congrArg Prims.sadd hw); (have hslen : wslen = fun s => (s.size : Int) := congrArg Prims.slen hw); (have hsat : wsat = std.sat := congrArg Prims.sat hw); (have heqs : weqs = fun a b os => (eqOffs a b os).getD false := congrArg Prims.eqs hw); (have hlen : wlen = fun es => (es.length : Int) := congrArg Prims.len hw); (have hnlen : wnlen = fun es => es.length := congrArg Prims.nlen hw); (have hofNat : wofNat = (fun n : Nat => (n : Int)) := congrArg Prims.ofNat hw); (have htake : wtake = fun es b => es.take b.toNat := congrArg Prims.take hw); (have hdrop : wdrop = fun es a => es.drop a.toNat := congrArg Prims.drop hw); (have happ : wapp = fun a b => a ++ b := congrArg Prims.app hw); (have hzero : wzero = fun n z => List.replicate n.toNat z := congrArg Prims.zero hw); (have hnat : wnat = fun n => n.toNat := congrArg Prims.nat hw); (conv => arg 2; cbv); (generalize hP : Try.prog = P); cbv
  repeat' (split <;> rename_i h <;> (try (simp only [hbin, hcmp, hun, hconv, hnot, hbeq, hmm, hscmp, hsadd, hslen, hsat, heqs, hofNat, binStd, cmpStd, unStd, scmpStd, maxI, Bool.not_eq_true', Bool.not_eq_false', decide_eq_true_eq, decide_eq_false_iff_not, Int.not_lt, Int.not_le, if_true, if_false, Bool.false_eq_true, beq_iff_eq, bne_iff_ne, ne_eq, Bool.not_eq_eq_eq_not, Bool.not_true, Bool.not_false, beq_eq_false_iff_ne, bne_eq_false_iff_eq, Int.ofNat_eq_natCast, Bool.not_not, not_true_eq_false, not_false_eq_true, reduceCtorEq] at h)) <;> (try cbv))
  all_goals
    refine ⟨_, Vw.same rfl, hR _ (congrArg AV.bool ?_)⟩
    (try rw [hcmp]); simp [pAt, cmpStd, *] <;> omega
theorem e_at33 (ls : List Li) (es : List (List AV)) (hes : es = ls.map liRow) (s a : Int) (hmax : ls.length ≤ 1000) : PCalls Try.prog 36 [.list 4 es, .int .i64 s, .int .i64 a] (fun r => ∃ out f, r = .tuple [.int .i64 out, .bool f] ∧ LeastIs (pAt s a) ls out f) := by
  have hu : Up0 es := by rw [hes]; exact up_map (f := liRow) (fun d => rfl) ls
  (refine PCalls.ofY Try.func36 (by kernel_rfl) (by kernel_rfl) fun w hw R hR => ?_); (obtain ⟨wbin, wcmp, wun, wconv, wnot, wbeq, wmm, wscmp, wsadd, wslen, wsat, weqs, wlen, wnlen, wofNat, wtake, wdrop, wapp, wzero, wnat⟩ := w); (have hbin : wbin = binStd := congrArg Prims.bin hw); (have hcmp : wcmp = cmpStd := congrArg Prims.cmp hw); (have hun : wun = unStd := congrArg Prims.un hw); (have hconv : wconv = fun k n => k.wrap n := congrArg Prims.conv hw); (have hnot : wnot = fun b => !b := congrArg Prims.not hw); (have hbeq : wbeq = fun a b => a == b := congrArg Prims.beq hw); (have hmm : wmm = maxI := congrArg Prims.mm hw); (have hscmp : wscmp = scmpStd := congrArg Prims.scmp hw); (have hsadd : wsadd = fun x y => x ++ y := congrArg Prims.sadd hw); (have hslen : wslen = fun s => (s.size : Int) := congrArg Prims.slen hw); (have hsat : wsat = std.sat := congrArg Prims.sat hw); (have heqs : weqs = fun a b os => (eqOffs a b os).getD false := congrArg Prims.eqs hw); (have hlen : wlen = fun es => (es.length : Int) := congrArg Prims.len hw); (have hnlen : wnlen = fun es => es.length := congrArg Prims.nlen hw); (have hofNat : wofNat = (fun n : Nat => (n : Int)) := congrArg Prims.ofNat hw); (have htake : wtake = fun es b => es.take b.toNat := congrArg Prims.take hw); (have hdrop : wdrop = fun es a => es.drop a.toNat := congrArg Prims.drop hw); (have happ : wapp = fun a b => a ++ b := congrArg Prims.app hw); (have hzero : wzero = fun n z => List.replicate n.toNat z := congrArg Prims.zero hw); (have hnat : wnat = fun n => n.toNat := congrArg Prims.nat hw); (conv => arg 2; cbv); (generalize hP : Try.prog = P); cbv
  refine Call.view (args' := [.list 4 es, .func (.func 53) [] [.cref [.int .i64 s], .cref [.int .i64 a]]]) (by rw [← hP]; exact e_leastA ls es hes s a _ (pAt s a) (fun s' a' b' v' => e_at1 s' a' b' v' s a) hmax) ⟨Vw.same hu.list, Vw.func trivial ⟨Vw.ref (row := [.int .i64 s]) rfl rfl rfl (Nat.zero_le _), Vw.ref (row := [.int .i64 a]) rfl rfl rfl (Nat.zero_le _), trivial⟩, trivial⟩ ?_
  rintro r ⟨out, f, rfl, hl⟩
  refine ⟨rfl, ?_⟩
  cbv
  exact ⟨_, Vw.same rfl, hR _ ⟨_, _, rfl, hl⟩⟩
theorem e_leastB (ls : List Li) (es : List (List AV)) (hes : es = ls.map liRow) (ds : List (List AV)) (hud : Up0 ds) (g : Nat) (p : Li → Bool) (hg : ∀ s a b v, PCalls Try.prog g [.agg [.int .i64 s, .int .i64 a, .int .i64 b, .int .i64 v], .cref [.list 3 ds]] (· = .bool (p ⟨s, a, b, v⟩))) (hmax : ls.length ≤ 1000) : PCalls Try.prog 52 [.list 4 es, .func (.func g) [] [.cref [.list 3 ds]]] (fun r => ∃ out f, r = .tuple [.int .i64 out, .bool f] ∧ LeastIs p ls out f) := by
  have hu : Up0 es := by rw [hes]; exact up_map (f := liRow) (fun d => rfl) ls
  have hel : es.length = ls.length := by rw [hes]; simp
  (refine PCalls.ofY Try.func52 (by kernel_rfl) (by kernel_rfl) fun w hw R hR => ?_); (obtain ⟨wbin, wcmp, wun, wconv, wnot, wbeq, wmm, wscmp, wsadd, wslen, wsat, weqs, wlen, wnlen, wofNat, wtake, wdrop, wapp, wzero, wnat⟩ := w); (have hbin : wbin = binStd := congrArg Prims.bin hw); (have hcmp : wcmp = cmpStd := congrArg Prims.cmp hw); (have hun : wun = unStd := congrArg Prims.un hw); (have hconv : wconv = fun k n => k.wrap n := congrArg Prims.conv hw); (have hnot : wnot = fun b => !b := congrArg Prims.not hw); (have hbeq : wbeq = fun a b => a == b := congrArg Prims.beq hw); (have hmm : wmm = maxI := congrArg Prims.mm hw); (have hscmp : wscmp = scmpStd := congrArg Prims.scmp hw); (have hsadd : wsadd = fun x y => x ++ y := congrArg Prims.sadd hw); (have hslen : wslen = fun s => (s.size : Int) := congrArg Prims.slen hw); (have hsat : wsat = std.sat := congrArg Prims.sat hw); (have heqs : weqs = fun a b os => (eqOffs a b os).getD false := congrArg Prims.eqs hw); (have hlen : wlen = fun es => (es.length : Int) := congrArg Prims.len hw); (have hnlen : wnlen = fun es => es.length := congrArg Prims.nlen hw); (have hofNat : wofNat = (fun n : Nat => (n : Int)) := congrArg Prims.ofNat hw); (have htake : wtake = fun es b => es.take b.toNat := congrArg Prims.take hw); (have hdrop : wdrop = fun es a => es.drop a.toNat := congrArg Prims.drop hw); (have happ : wapp = fun a b => a ++ b := congrArg Prims.app hw); (have hzero : wzero = fun n z => List.replicate n.toNat z := congrArg Prims.zero hw); (have hnat : wnat = fun n => n.toNat := congrArg Prims.nat hw); (conv => arg 2; cbv); (generalize hP : Try.prog = P); cbv
  (obtain ⟨L, eL, L0, Ln⟩ : ∃ L : Int, wlen es = L ∧ 0 ≤ L ∧ L.toNat = es.length := ⟨(es.length : Int), by rw [hlen], Int.natCast_nonneg _, Int.toNat_natCast _⟩)
  refine Loop.data hw (S := Lw) (fun s => fr 34 [(1, .func (.func g) [] [.cref [.list 3 ds]]), (6, .int .i64 s.out), (7, .bool s.f), (10, .list 4 es), (11, .int .i64 L), (12, .int .i64 s.i)]) (fun s => []) (fun s => 0 ≤ s.i ∧ s.i ≤ L ∧ LeastIs p (ls.take s.i.toNat) s.out s.f) (fun s => (L - s.i).toNat) ⟨0, 0, false⟩ (by (refine Wk.eqz (id) (by first | exact fun i _ j _ e => e | (simp only [List.length_cons, List.length_nil]; decide)) ?_; cbv; (repeat' (first | exact trivial | rfl | assumption | apply And.intro | (simp only [hbin, hcmp, hun, hconv, hnot, hbeq, hmm, hscmp, hsadd, hslen, hsat, heqs, hofNat, binStd, cmpStd, unStd, scmpStd, maxI, Bool.not_eq_true', Bool.not_eq_false', decide_eq_true_eq, decide_eq_false_iff_not, Int.not_lt, Int.not_le, if_true, if_false, Bool.false_eq_true, beq_iff_eq, bne_iff_ne, ne_eq, Bool.not_eq_eq_eq_not, Bool.not_true, Bool.not_false, beq_eq_false_iff_ne, bne_eq_false_iff_eq, Int.ofNat_eq_natCast, Bool.not_not, not_true_eq_false, not_false_eq_true, reduceCtorEq]; first | done | assumption) | exact RowsZ.same (by assumption) (by first | assumption | rfl) | exact FzL.mk rfl rfl rfl (by assumption) (by first | assumption | rfl) (by decide) | (refine RowsZ.one ?_; cbv))))) ⟨Int.le_refl _, L0, least_nil p⟩ ?_
  rintro ⟨i, out, f⟩ hinv Q' hN hE hR'
  have hinv : 0 ≤ i ∧ i ≤ L ∧ LeastIs p (ls.take i.toNat) out f := hinv
  cbv
  obtain ⟨hi0, hi1, hl⟩ := hinv
  (split <;> rename_i hc <;> (try (simp only [hbin, hcmp, hun, hconv, hnot, hbeq, hmm, hscmp, hsadd, hslen, hsat, heqs, hofNat, binStd, cmpStd, unStd, scmpStd, maxI, Bool.not_eq_true', Bool.not_eq_false', decide_eq_true_eq, decide_eq_false_iff_not, Int.not_lt, Int.not_le, if_true, if_false, Bool.false_eq_true, beq_iff_eq, bne_iff_ne, ne_eq, Bool.not_eq_eq_eq_not, Bool.not_true, Bool.not_false, beq_eq_false_iff_ne, bne_eq_false_iff_eq, Int.ofNat_eq_natCast, Bool.not_not, not_true_eq_false, not_false_eq_true, reduceCtorEq] at hc)) <;> (try cbv))
  · obtain ⟨⟨s, a, b, v⟩, hd, hrow⟩ := get_map (f := liRow) (ds := ls) (i := i) hi0 (by omega)
    have hrow : es[i.toNat]? = some [.int .i64 s, .int .i64 a, .int .i64 b, .int .i64 v] := by rw [hes]; exact hrow
    refine Idx.mk [.int .i64 s, .int .i64 a, .int .i64 b, .int .i64 v] hi0 hrow ?_
    cbv
    have hlen2 := (List.getElem?_eq_some_iff.1 hd).1
    refine Call.stepE (by rw [← hP]; exact hg s a b v) (by exact Bool.and_eq_true_iff.mpr ⟨rfl, Bool.and_eq_true_iff.mpr ⟨Up0.one hud rfl, rfl⟩⟩) ?_
    obtain ⟨i', ei'⟩ : ∃ x, i + 1 = x := ⟨_, rfl⟩
    have hL2 : L < 9223372036854775807 := by omega
    have ei : wbin .add .i64 i 1 = i' := by rw [hbin, i_add (by omega) (by omega)]; exact ei'
    have hT : (L - i').toNat < (L - i).toNat := by omega
    have ht : ls.take i'.toNat = ls.take i.toNat ++ [⟨s, a, b, v⟩] := by rw [← ei', show (i + 1).toNat = i.toNat + 1 by omega, List.take_add_one, hd]; rfl
    have k1 := least_no (p := p) (x := ⟨s, a, b, v⟩) hl
    have k2 := least_put (p := p) (x := ⟨s, a, b, v⟩) hl
    have k3 := least_keep (p := p) (x := ⟨s, a, b, v⟩) hl
    rw [← ht] at k1 k2 k3
    obtain ⟨o, eo⟩ : ∃ x, p ⟨s, a, b, v⟩ = x := ⟨_, rfl⟩
    rw [eo] at k1 k2 ⊢
    cbv
    repeat' (split <;> rename_i h <;> (try (simp only [hbin, hcmp, hun, hconv, hnot, hbeq, hmm, hscmp, hsadd, hslen, hsat, heqs, hofNat, binStd, cmpStd, unStd, scmpStd, maxI, Bool.not_eq_true', Bool.not_eq_false', decide_eq_true_eq, decide_eq_false_iff_not, Int.not_lt, Int.not_le, if_true, if_false, Bool.false_eq_true, beq_iff_eq, bne_iff_ne, ne_eq, Bool.not_eq_eq_eq_not, Bool.not_true, Bool.not_false, beq_eq_false_iff_ne, bne_eq_false_iff_eq, Int.ofNat_eq_natCast, Bool.not_not, not_true_eq_false, not_false_eq_true, reduceCtorEq] at h)) <;> (try cbv))
    all_goals first
      | (refine hN ⟨i', v, true⟩ _ _ ?hx ?hi hT; (case hx => (refine Wk.eqz (id) (by first | exact fun i _ j _ e => e | (simp only [List.length_cons, List.length_nil]; decide)) ?_; cbv; (repeat' (first | exact trivial | rfl | assumption | apply And.intro | (simp only [hbin, hcmp, hun, hconv, hnot, hbeq, hmm, hscmp, hsadd, hslen, hsat, heqs, hofNat, binStd, cmpStd, unStd, scmpStd, maxI, Bool.not_eq_true', Bool.not_eq_false', decide_eq_true_eq, decide_eq_false_iff_not, Int.not_lt, Int.not_le, if_true, if_false, Bool.false_eq_true, beq_iff_eq, bne_iff_ne, ne_eq, Bool.not_eq_eq_eq_not, Bool.not_true, Bool.not_false, beq_eq_false_iff_ne, bne_eq_false_iff_eq, Int.ofNat_eq_natCast, Bool.not_not, not_true_eq_false, not_false_eq_true, reduceCtorEq]; first | done | assumption) | exact RowsZ.same (by assumption) (by first | assumption | rfl) | exact FzL.mk rfl rfl rfl (by assumption) (by first | assumption | rfl) (by decide) | (refine RowsZ.one ?_; cbv))))); (case hi => exact ⟨by simp only; omega, by simp only; omega, k2 rfl (by first | exact .inl rfl | exact .inr (by assumption) | exact .inl (by assumption))⟩))
      | (refine hN ⟨i', out, f⟩ _ _ ?hx ?hi hT; (case hx => (refine Wk.eqz (id) (by first | exact fun i _ j _ e => e | (simp only [List.length_cons, List.length_nil]; decide)) ?_; cbv; (repeat' (first | exact trivial | rfl | assumption | apply And.intro | (simp only [hbin, hcmp, hun, hconv, hnot, hbeq, hmm, hscmp, hsadd, hslen, hsat, heqs, hofNat, binStd, cmpStd, unStd, scmpStd, maxI, Bool.not_eq_true', Bool.not_eq_false', decide_eq_true_eq, decide_eq_false_iff_not, Int.not_lt, Int.not_le, if_true, if_false, Bool.false_eq_true, beq_iff_eq, bne_iff_ne, ne_eq, Bool.not_eq_eq_eq_not, Bool.not_true, Bool.not_false, beq_eq_false_iff_ne, bne_eq_false_iff_eq, Int.ofNat_eq_natCast, Bool.not_not, not_true_eq_false, not_false_eq_true, reduceCtorEq]; first | done | assumption) | exact RowsZ.same (by assumption) (by first | assumption | rfl) | exact FzL.mk rfl rfl rfl (by assumption) (by first | assumption | rfl) (by decide) | (refine RowsZ.one ?_; cbv))))); (case hi => exact ⟨by simp only; omega, by simp only; omega, by first | exact k1 rfl | exact k3 (by assumption) (by assumption)⟩))
      | (refine hN ⟨i', out, true⟩ _ _ ?hx ?hi hT; (case hx => (refine Wk.eqz (id) (by first | exact fun i _ j _ e => e | (simp only [List.length_cons, List.length_nil]; decide)) ?_; cbv; (repeat' (first | exact trivial | rfl | assumption | apply And.intro | (simp only [hbin, hcmp, hun, hconv, hnot, hbeq, hmm, hscmp, hsadd, hslen, hsat, heqs, hofNat, binStd, cmpStd, unStd, scmpStd, maxI, Bool.not_eq_true', Bool.not_eq_false', decide_eq_true_eq, decide_eq_false_iff_not, Int.not_lt, Int.not_le, if_true, if_false, Bool.false_eq_true, beq_iff_eq, bne_iff_ne, ne_eq, Bool.not_eq_eq_eq_not, Bool.not_true, Bool.not_false, beq_eq_false_iff_ne, bne_eq_false_iff_eq, Int.ofNat_eq_natCast, Bool.not_not, not_true_eq_false, not_false_eq_true, reduceCtorEq]; first | done | assumption) | exact RowsZ.same (by assumption) (by first | assumption | rfl) | exact FzL.mk rfl rfl rfl (by assumption) (by first | assumption | rfl) (by decide) | (refine RowsZ.one ?_; cbv))))); (case hi => exact ⟨by simp only; omega, by simp only; omega, by first | exact k1 rfl | exact k3 rfl (by assumption)⟩))
      | (refine hN ⟨i', out, false⟩ _ _ ?hx ?hi hT; (case hx => (refine Wk.eqz (id) (by first | exact fun i _ j _ e => e | (simp only [List.length_cons, List.length_nil]; decide)) ?_; cbv; (repeat' (first | exact trivial | rfl | assumption | apply And.intro | (simp only [hbin, hcmp, hun, hconv, hnot, hbeq, hmm, hscmp, hsadd, hslen, hsat, heqs, hofNat, binStd, cmpStd, unStd, scmpStd, maxI, Bool.not_eq_true', Bool.not_eq_false', decide_eq_true_eq, decide_eq_false_iff_not, Int.not_lt, Int.not_le, if_true, if_false, Bool.false_eq_true, beq_iff_eq, bne_iff_ne, ne_eq, Bool.not_eq_eq_eq_not, Bool.not_true, Bool.not_false, beq_eq_false_iff_ne, bne_eq_false_iff_eq, Int.ofNat_eq_natCast, Bool.not_not, not_true_eq_false, not_false_eq_true, reduceCtorEq]; first | done | assumption) | exact RowsZ.same (by assumption) (by first | assumption | rfl) | exact FzL.mk rfl rfl rfl (by assumption) (by first | assumption | rfl) (by decide) | (refine RowsZ.one ?_; cbv))))); (case hi => exact ⟨by simp only; omega, by simp only; omega, k1 rfl⟩))
  · refine hE _ _ _ ?_
    cbv
    refine ⟨_, Vw.same rfl, hR _ ⟨_, _, rfl, ?_⟩⟩
    rwa [List.take_of_length_le (by omega)] at hl
theorem e_meet1 (y1 y2 y3 s a b v : Int) : PCalls Try.prog 65 [.agg [.int .i64 y1, .int .i64 y2, .int .i64 y3], .cref [.int .i64 s, .int .i64 a, .int .i64 b, .int .i64 v]] (· = .bool (pMeet ⟨s, a, b, v⟩ ⟨y1, y2, y3⟩)) := by
  (refine PCalls.ofY Try.func65 (by kernel_rfl) (by kernel_rfl) fun w hw R hR => ?_); (obtain ⟨wbin, wcmp, wun, wconv, wnot, wbeq, wmm, wscmp, wsadd, wslen, wsat, weqs, wlen, wnlen, wofNat, wtake, wdrop, wapp, wzero, wnat⟩ := w); (have hbin : wbin = binStd := congrArg Prims.bin hw); (have hcmp : wcmp = cmpStd := congrArg Prims.cmp hw); (have hun : wun = unStd := congrArg Prims.un hw); (have hconv : wconv = fun k n => k.wrap n := congrArg Prims.conv hw); (have hnot : wnot = fun b => !b := congrArg Prims.not hw); (have hbeq : wbeq = fun a b => a == b := congrArg Prims.beq hw); (have hmm : wmm = maxI := congrArg Prims.mm hw); (have hscmp : wscmp = scmpStd := congrArg Prims.scmp hw); (have hsadd : wsadd = fun x y => x ++ y := congrArg Prims.sadd hw); (have hslen : wslen = fun s => (s.size : Int) := congrArg Prims.slen hw); (have hsat : wsat = std.sat := congrArg Prims.sat hw); (have heqs : weqs = fun a b os => (eqOffs a b os).getD false := congrArg Prims.eqs hw); (have hlen : wlen = fun es => (es.length : Int) := congrArg Prims.len hw); (have hnlen : wnlen = fun es => es.length := congrArg Prims.nlen hw); (have hofNat : wofNat = (fun n : Nat => (n : Int)) := congrArg Prims.ofNat hw); (have htake : wtake = fun es b => es.take b.toNat := congrArg Prims.take hw); (have hdrop : wdrop = fun es a => es.drop a.toNat := congrArg Prims.drop hw); (have happ : wapp = fun a b => a ++ b := congrArg Prims.app hw); (have hzero : wzero = fun n z => List.replicate n.toNat z := congrArg Prims.zero hw); (have hnat : wnat = fun n => n.toNat := congrArg Prims.nat hw); (conv => arg 2; cbv); (generalize hP : Try.prog = P); cbv
  repeat' (split <;> rename_i h <;> (try (simp only [hbin, hcmp, hun, hconv, hnot, hbeq, hmm, hscmp, hsadd, hslen, hsat, heqs, hofNat, binStd, cmpStd, unStd, scmpStd, maxI, Bool.not_eq_true', Bool.not_eq_false', decide_eq_true_eq, decide_eq_false_iff_not, Int.not_lt, Int.not_le, if_true, if_false, Bool.false_eq_true, beq_iff_eq, bne_iff_ne, ne_eq, Bool.not_eq_eq_eq_not, Bool.not_true, Bool.not_false, beq_eq_false_iff_ne, bne_eq_false_iff_eq, Int.ofNat_eq_natCast, Bool.not_not, not_true_eq_false, not_false_eq_true, reduceCtorEq] at h)) <;> (try cbv))
  all_goals
    refine ⟨_, Vw.same rfl, hR _ (congrArg AV.bool ?_)⟩
    (try rw [hcmp]); simp [pMeet, cmpStd, *] <;> omega
theorem e_index (ss : List Spt) (ds : List (List AV)) (hds : ds = ss.map sptRow) (s a b v : Int) (hmax : ss.length ≤ 1000) : PCalls Try.prog 71 [.list 3 ds, .func (.func 65) [] [.cref [.int .i64 s, .int .i64 a, .int .i64 b, .int .i64 v]]] (fun r => ∃ n : Int, r = .int .i64 n ∧ (0 ≤ n ↔ ∃ x, x ∈ ss ∧ pMeet ⟨s, a, b, v⟩ x = true)) := by
  have hu : Up0 ds := by rw [hds]; exact up_map (f := sptRow) (fun d => rfl) ss
  have hel : ds.length = ss.length := by rw [hds]; simp
  (refine PCalls.ofY Try.func71 (by kernel_rfl) (by kernel_rfl) fun w hw R hR => ?_); (obtain ⟨wbin, wcmp, wun, wconv, wnot, wbeq, wmm, wscmp, wsadd, wslen, wsat, weqs, wlen, wnlen, wofNat, wtake, wdrop, wapp, wzero, wnat⟩ := w); (have hbin : wbin = binStd := congrArg Prims.bin hw); (have hcmp : wcmp = cmpStd := congrArg Prims.cmp hw); (have hun : wun = unStd := congrArg Prims.un hw); (have hconv : wconv = fun k n => k.wrap n := congrArg Prims.conv hw); (have hnot : wnot = fun b => !b := congrArg Prims.not hw); (have hbeq : wbeq = fun a b => a == b := congrArg Prims.beq hw); (have hmm : wmm = maxI := congrArg Prims.mm hw); (have hscmp : wscmp = scmpStd := congrArg Prims.scmp hw); (have hsadd : wsadd = fun x y => x ++ y := congrArg Prims.sadd hw); (have hslen : wslen = fun s => (s.size : Int) := congrArg Prims.slen hw); (have hsat : wsat = std.sat := congrArg Prims.sat hw); (have heqs : weqs = fun a b os => (eqOffs a b os).getD false := congrArg Prims.eqs hw); (have hlen : wlen = fun es => (es.length : Int) := congrArg Prims.len hw); (have hnlen : wnlen = fun es => es.length := congrArg Prims.nlen hw); (have hofNat : wofNat = (fun n : Nat => (n : Int)) := congrArg Prims.ofNat hw); (have htake : wtake = fun es b => es.take b.toNat := congrArg Prims.take hw); (have hdrop : wdrop = fun es a => es.drop a.toNat := congrArg Prims.drop hw); (have happ : wapp = fun a b => a ++ b := congrArg Prims.app hw); (have hzero : wzero = fun n z => List.replicate n.toNat z := congrArg Prims.zero hw); (have hnat : wnat = fun n => n.toNat := congrArg Prims.nat hw); (conv => arg 2; cbv); (generalize hP : Try.prog = P); cbv
  (obtain ⟨L, eL, L0, Ln⟩ : ∃ L : Int, wlen ds = L ∧ 0 ≤ L ∧ L.toNat = ds.length := ⟨(ds.length : Int), by rw [hlen], Int.natCast_nonneg _, Int.toNat_natCast _⟩)
  refine Loop.data hw (S := Int) (fun i => fr 19 [(0, .list 3 ds), (1, .func (.func 65) [] [.cref [.int .i64 s, .int .i64 a, .int .i64 b, .int .i64 v]]), (6, .list 3 ds), (7, .int .i64 L), (8, .int .i64 i)]) (fun i => []) (fun i => 0 ≤ i ∧ i ≤ L ∧ ∀ x, x ∈ ss.take i.toNat → pMeet ⟨s, a, b, v⟩ x = false) (fun i => (L - i).toNat) 0 (by (refine Wk.eqz (id) (by first | exact fun i _ j _ e => e | (simp only [List.length_cons, List.length_nil]; decide)) ?_; cbv; (repeat' (first | exact trivial | rfl | assumption | apply And.intro | (simp only [hbin, hcmp, hun, hconv, hnot, hbeq, hmm, hscmp, hsadd, hslen, hsat, heqs, hofNat, binStd, cmpStd, unStd, scmpStd, maxI, Bool.not_eq_true', Bool.not_eq_false', decide_eq_true_eq, decide_eq_false_iff_not, Int.not_lt, Int.not_le, if_true, if_false, Bool.false_eq_true, beq_iff_eq, bne_iff_ne, ne_eq, Bool.not_eq_eq_eq_not, Bool.not_true, Bool.not_false, beq_eq_false_iff_ne, bne_eq_false_iff_eq, Int.ofNat_eq_natCast, Bool.not_not, not_true_eq_false, not_false_eq_true, reduceCtorEq]; first | done | assumption) | exact RowsZ.same (by assumption) (by first | assumption | rfl) | exact FzL.mk rfl rfl rfl (by assumption) (by first | assumption | rfl) (by decide) | (refine RowsZ.one ?_; cbv))))) ⟨Int.le_refl _, L0, fun x hx => (by simp at hx)⟩ ?_
  rintro i hinv Q' hN hE hR'
  have hinv : 0 ≤ i ∧ i ≤ L ∧ ∀ x, x ∈ ss.take i.toNat → pMeet ⟨s, a, b, v⟩ x = false := hinv
  cbv
  obtain ⟨hi0, hi1, hl⟩ := hinv
  (split <;> rename_i hc <;> (try (simp only [hbin, hcmp, hun, hconv, hnot, hbeq, hmm, hscmp, hsadd, hslen, hsat, heqs, hofNat, binStd, cmpStd, unStd, scmpStd, maxI, Bool.not_eq_true', Bool.not_eq_false', decide_eq_true_eq, decide_eq_false_iff_not, Int.not_lt, Int.not_le, if_true, if_false, Bool.false_eq_true, beq_iff_eq, bne_iff_ne, ne_eq, Bool.not_eq_eq_eq_not, Bool.not_true, Bool.not_false, beq_eq_false_iff_ne, bne_eq_false_iff_eq, Int.ofNat_eq_natCast, Bool.not_not, not_true_eq_false, not_false_eq_true, reduceCtorEq] at hc)) <;> (try cbv))
  · obtain ⟨⟨y1, y2, y3⟩, hd, hrow⟩ := get_map (f := sptRow) (ds := ss) (i := i) hi0 (by omega)
    have hrow : ds[i.toNat]? = some [.int .i64 y1, .int .i64 y2, .int .i64 y3] := by rw [hds]; exact hrow
    refine Idx.mk [.int .i64 y1, .int .i64 y2, .int .i64 y3] hi0 hrow ?_
    cbv
    refine Call.stepE (by rw [← hP]; exact e_meet1 y1 y2 y3 s a b v) rfl ?_
    obtain ⟨i', ei'⟩ : ∃ x, i + 1 = x := ⟨_, rfl⟩
    have hL2 : L < 9223372036854775807 := by omega
    have ei : wbin .add .i64 i 1 = i' := by rw [hbin, i_add (by omega) (by omega)]; exact ei'
    have hT : (L - i').toNat < (L - i).toNat := by omega
    have ht : ss.take i'.toNat = ss.take i.toNat ++ [⟨y1, y2, y3⟩] := by rw [← ei', show (i + 1).toNat = i.toNat + 1 by omega, List.take_add_one, hd]; rfl
    obtain ⟨o, eo⟩ : ∃ x, pMeet ⟨s, a, b, v⟩ ⟨y1, y2, y3⟩ = x := ⟨_, rfl⟩
    rw [eo]
    cbv
    (split <;> rename_i h <;> (try (simp only [hbin, hcmp, hun, hconv, hnot, hbeq, hmm, hscmp, hsadd, hslen, hsat, heqs, hofNat, binStd, cmpStd, unStd, scmpStd, maxI, Bool.not_eq_true', Bool.not_eq_false', decide_eq_true_eq, decide_eq_false_iff_not, Int.not_lt, Int.not_le, if_true, if_false, Bool.false_eq_true, beq_iff_eq, bne_iff_ne, ne_eq, Bool.not_eq_eq_eq_not, Bool.not_true, Bool.not_false, beq_eq_false_iff_ne, bne_eq_false_iff_eq, Int.ofNat_eq_natCast, Bool.not_not, not_true_eq_false, not_false_eq_true, reduceCtorEq] at h)) <;> (try cbv))
    · exact hR' _ _ ⟨_, Vw.same rfl, hR _ ⟨_, rfl, fun _ => ⟨_, List.mem_of_getElem? hd, eo⟩, fun _ => hi0⟩⟩
    · refine hN i' _ _ ?hx ?hi hT
      case hx => (refine Wk.eqz (id) (by first | exact fun i _ j _ e => e | (simp only [List.length_cons, List.length_nil]; decide)) ?_; cbv; (repeat' (first | exact trivial | rfl | assumption | apply And.intro | (simp only [hbin, hcmp, hun, hconv, hnot, hbeq, hmm, hscmp, hsadd, hslen, hsat, heqs, hofNat, binStd, cmpStd, unStd, scmpStd, maxI, Bool.not_eq_true', Bool.not_eq_false', decide_eq_true_eq, decide_eq_false_iff_not, Int.not_lt, Int.not_le, if_true, if_false, Bool.false_eq_true, beq_iff_eq, bne_iff_ne, ne_eq, Bool.not_eq_eq_eq_not, Bool.not_true, Bool.not_false, beq_eq_false_iff_ne, bne_eq_false_iff_eq, Int.ofNat_eq_natCast, Bool.not_not, not_true_eq_false, not_false_eq_true, reduceCtorEq]; first | done | assumption) | exact RowsZ.same (by assumption) (by first | assumption | rfl) | exact FzL.mk rfl rfl rfl (by assumption) (by first | assumption | rfl) (by decide) | (refine RowsZ.one ?_; cbv))))
      case hi =>
        refine ⟨by omega, by omega, fun x hx => ?_⟩
        rw [ht] at hx
        rcases List.mem_append.1 hx with hx | hx
        · exact hl x hx
        · simp at hx; subst hx; exact eo
  · refine hE _ _ _ ?_
    cbv
    rw [List.take_of_length_le (by omega)] at hl
    refine ⟨_, Vw.same rfl, hR _ ⟨_, rfl, fun h => absurd h (by decide), fun ⟨x, hx, hp⟩ => ?_⟩⟩
    rw [hl x hx] at hp; cases hp
theorem e_contains (ss : List Spt) (ds : List (List AV)) (hds : ds = ss.map sptRow) (s a b v : Int) (hmax : ss.length ≤ 1000) : PCalls Try.prog 64 [.list 3 ds, .func (.func 65) [] [.cref [.int .i64 s, .int .i64 a, .int .i64 b, .int .i64 v]]] (· = .bool (ss.any (pMeet ⟨s, a, b, v⟩))) := by
  have hu : Up0 ds := by rw [hds]; exact up_map (f := sptRow) (fun d => rfl) ss
  (refine PCalls.ofY Try.func64 (by kernel_rfl) (by kernel_rfl) fun w hw R hR => ?_); (obtain ⟨wbin, wcmp, wun, wconv, wnot, wbeq, wmm, wscmp, wsadd, wslen, wsat, weqs, wlen, wnlen, wofNat, wtake, wdrop, wapp, wzero, wnat⟩ := w); (have hbin : wbin = binStd := congrArg Prims.bin hw); (have hcmp : wcmp = cmpStd := congrArg Prims.cmp hw); (have hun : wun = unStd := congrArg Prims.un hw); (have hconv : wconv = fun k n => k.wrap n := congrArg Prims.conv hw); (have hnot : wnot = fun b => !b := congrArg Prims.not hw); (have hbeq : wbeq = fun a b => a == b := congrArg Prims.beq hw); (have hmm : wmm = maxI := congrArg Prims.mm hw); (have hscmp : wscmp = scmpStd := congrArg Prims.scmp hw); (have hsadd : wsadd = fun x y => x ++ y := congrArg Prims.sadd hw); (have hslen : wslen = fun s => (s.size : Int) := congrArg Prims.slen hw); (have hsat : wsat = std.sat := congrArg Prims.sat hw); (have heqs : weqs = fun a b os => (eqOffs a b os).getD false := congrArg Prims.eqs hw); (have hlen : wlen = fun es => (es.length : Int) := congrArg Prims.len hw); (have hnlen : wnlen = fun es => es.length := congrArg Prims.nlen hw); (have hofNat : wofNat = (fun n : Nat => (n : Int)) := congrArg Prims.ofNat hw); (have htake : wtake = fun es b => es.take b.toNat := congrArg Prims.take hw); (have hdrop : wdrop = fun es a => es.drop a.toNat := congrArg Prims.drop hw); (have happ : wapp = fun a b => a ++ b := congrArg Prims.app hw); (have hzero : wzero = fun n z => List.replicate n.toNat z := congrArg Prims.zero hw); (have hnat : wnat = fun n => n.toNat := congrArg Prims.nat hw); (conv => arg 2; cbv); (generalize hP : Try.prog = P); cbv
  refine Call.step (by rw [← hP]; exact e_index ss ds hds s a b v hmax) (by exact Up0.one hu rfl) ?_
  rintro r ⟨n, rfl, hn⟩
  cbv
  refine ⟨_, Vw.same rfl, hR _ (congrArg AV.bool ?_)⟩
  rw [Bool.eq_iff_iff, List.any_eq_true, ← hn, hcmp]
  simp [cmpStd]
theorem e_least1 (ss : List Spt) (ds : List (List AV)) (hds : ds = ss.map sptRow) (s a b v : Int) (hmax : ss.length ≤ 1000) : PCalls Try.prog 63 [.agg [.int .i64 s, .int .i64 a, .int .i64 b, .int .i64 v], .cref [.list 3 ds]] (· = .bool (ss.any (pMeet ⟨s, a, b, v⟩))) := by
  have hu : Up0 ds := by rw [hds]; exact up_map (f := sptRow) (fun d => rfl) ss
  (refine PCalls.ofY Try.func63 (by kernel_rfl) (by kernel_rfl) fun w hw R hR => ?_); (obtain ⟨wbin, wcmp, wun, wconv, wnot, wbeq, wmm, wscmp, wsadd, wslen, wsat, weqs, wlen, wnlen, wofNat, wtake, wdrop, wapp, wzero, wnat⟩ := w); (have hbin : wbin = binStd := congrArg Prims.bin hw); (have hcmp : wcmp = cmpStd := congrArg Prims.cmp hw); (have hun : wun = unStd := congrArg Prims.un hw); (have hconv : wconv = fun k n => k.wrap n := congrArg Prims.conv hw); (have hnot : wnot = fun b => !b := congrArg Prims.not hw); (have hbeq : wbeq = fun a b => a == b := congrArg Prims.beq hw); (have hmm : wmm = maxI := congrArg Prims.mm hw); (have hscmp : wscmp = scmpStd := congrArg Prims.scmp hw); (have hsadd : wsadd = fun x y => x ++ y := congrArg Prims.sadd hw); (have hslen : wslen = fun s => (s.size : Int) := congrArg Prims.slen hw); (have hsat : wsat = std.sat := congrArg Prims.sat hw); (have heqs : weqs = fun a b os => (eqOffs a b os).getD false := congrArg Prims.eqs hw); (have hlen : wlen = fun es => (es.length : Int) := congrArg Prims.len hw); (have hnlen : wnlen = fun es => es.length := congrArg Prims.nlen hw); (have hofNat : wofNat = (fun n : Nat => (n : Int)) := congrArg Prims.ofNat hw); (have htake : wtake = fun es b => es.take b.toNat := congrArg Prims.take hw); (have hdrop : wdrop = fun es a => es.drop a.toNat := congrArg Prims.drop hw); (have happ : wapp = fun a b => a ++ b := congrArg Prims.app hw); (have hzero : wzero = fun n z => List.replicate n.toNat z := congrArg Prims.zero hw); (have hnat : wnat = fun n => n.toNat := congrArg Prims.nat hw); (conv => arg 2; cbv); (generalize hP : Try.prog = P); cbv
  refine Call.view (args' := [.list 3 ds, .func (.func 65) [] [.cref [.int .i64 s, .int .i64 a, .int .i64 b, .int .i64 v]]]) (by rw [← hP]; exact e_contains ss ds hds s a b v hmax) ⟨Vw.same hu.list, Vw.func trivial ⟨Vw.ref (row := [.int .i64 s, .int .i64 a, .int .i64 b, .int .i64 v]) rfl rfl rfl (Nat.zero_le _), trivial⟩, trivial⟩ ?_
  rintro r rfl
  refine ⟨rfl, ?_⟩
  generalize ss.any (pMeet ⟨s, a, b, v⟩) = o at *
  cbv
  exact ⟨_, Vw.same rfl, hR _ rfl⟩
theorem e_least33 (ls : List Li) (es : List (List AV)) (hes : es = ls.map liRow) (ss : List Spt) (ds : List (List AV)) (hds : ds = ss.map sptRow) (hmax : ls.length ≤ 1000) (hmax2 : ss.length ≤ 1000) : PCalls Try.prog 48 [.list 4 es, .list 3 ds] (fun r => ∃ out f, r = .tuple [.int .i64 out, .bool f] ∧ LeastIs (fun x => ss.any (pMeet x)) ls out f) := by
  have hu : Up0 es := by rw [hes]; exact up_map (f := liRow) (fun d => rfl) ls
  have hud : Up0 ds := by rw [hds]; exact up_map (f := sptRow) (fun d => rfl) ss
  (refine PCalls.ofY Try.func48 (by kernel_rfl) (by kernel_rfl) fun w hw R hR => ?_); (obtain ⟨wbin, wcmp, wun, wconv, wnot, wbeq, wmm, wscmp, wsadd, wslen, wsat, weqs, wlen, wnlen, wofNat, wtake, wdrop, wapp, wzero, wnat⟩ := w); (have hbin : wbin = binStd := congrArg Prims.bin hw); (have hcmp : wcmp = cmpStd := congrArg Prims.cmp hw); (have hun : wun = unStd := congrArg Prims.un hw); (have hconv : wconv = fun k n => k.wrap n := congrArg Prims.conv hw); (have hnot : wnot = fun b => !b := congrArg Prims.not hw); (have hbeq : wbeq = fun a b => a == b := congrArg Prims.beq hw); (have hmm : wmm = maxI := congrArg Prims.mm hw); (have hscmp : wscmp = scmpStd := congrArg Prims.scmp hw); (have hsadd : wsadd = fun x y => x ++ y := congrArg Prims.sadd hw); (have hslen : wslen = fun s => (s.size : Int) := congrArg Prims.slen hw); (have hsat : wsat = std.sat := congrArg Prims.sat hw); (have heqs : weqs = fun a b os => (eqOffs a b os).getD false := congrArg Prims.eqs hw); (have hlen : wlen = fun es => (es.length : Int) := congrArg Prims.len hw); (have hnlen : wnlen = fun es => es.length := congrArg Prims.nlen hw); (have hofNat : wofNat = (fun n : Nat => (n : Int)) := congrArg Prims.ofNat hw); (have htake : wtake = fun es b => es.take b.toNat := congrArg Prims.take hw); (have hdrop : wdrop = fun es a => es.drop a.toNat := congrArg Prims.drop hw); (have happ : wapp = fun a b => a ++ b := congrArg Prims.app hw); (have hzero : wzero = fun n z => List.replicate n.toNat z := congrArg Prims.zero hw); (have hnat : wnat = fun n => n.toNat := congrArg Prims.nat hw); (conv => arg 2; cbv); (generalize hP : Try.prog = P); cbv
  refine Call.view (args' := [.list 4 es, .func (.func 63) [] [.cref [.list 3 ds]]]) (by rw [← hP]; exact e_leastB ls es hes ds hud _ (fun x => ss.any (pMeet x)) (fun s' a' b' v' => e_least1 ss ds hds s' a' b' v' hmax2) hmax) ⟨Vw.same hu.list, Vw.func trivial ⟨Vw.ref (row := [.list 3 ds]) rfl rfl (Up0.one hud rfl) (Nat.zero_le _), trivial⟩, trivial⟩ ?_
  rintro r ⟨out, f, rfl, hl⟩
  refine ⟨rfl, ?_⟩
  cbv
  exact ⟨_, Vw.same rfl, hR _ ⟨_, _, rfl, hl⟩⟩
end Go.Proofs.Ytjfbecnappgjjaa

