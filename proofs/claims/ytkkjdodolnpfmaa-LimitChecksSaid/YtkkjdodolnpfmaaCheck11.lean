/- A track that may be, by the engine. -/
import Derived.Test.YtkkjdodolnpfmaaTrack0
import Derived.KernelRfl
set_option linter.unusedVariables false
set_option linter.unusedSimpArgs false
namespace Go.Proofs.Ytkkjdodolnpfmaa
open Go Go.RowKit Go.Eng
set_option maxRecDepth 100000
/-- A piece that may be, by the one ahead of it. -/
def PcOk (ps : List (Int × Int)) (len : Int) (j : Nat) : Prop :=
  ∀ p, ps[j]? = some p → -1048576 ≤ p.2 ∧ p.2 ≤ 1048576 ∧ p.1 < len ∧ (0 < j → ∀ o, ps[j - 1]? = some o → o.1 < p.1)
structure MayOk (ps : List (Int × Int)) (len : Int) : Prop where
  ne : 1 ≤ ps.length
  le : ps.length ≤ 64
  zero : ∀ p, ps[0]? = some p → p.1 = 0
  all : ∀ j, j < ps.length → PcOk ps len j
theorem all_step {P : Nat → Prop} {i : Int} (h0 : 0 ≤ i) (h : ∀ j, j < i.toNat → P j) (hi : P i.toNat) : ∀ j, j < (i + 1).toNat → P j := by
  intro j hj
  by_cases e : j = i.toNat
  · rw [e]; exact hi
  · exact h j (by omega)
theorem e_may10 (ps : List (Int × Int)) (q : List (List AV)) (hq : q = ps.map pcRow) (len : Int) : PCalls Try.prog 60 [.list 2 q, .int .i64 len] (fun r => ∃ o : Bool, r = .bool o ∧ (o = true ↔ MayOk ps len)) := by
  have hu : Up0 q := by rw [hq]; exact up_pc ps
  have hql : q.length = ps.length := by rw [hq]; simp
  (refine PCalls.ofY Try.func60 (by kernel_rfl) (by kernel_rfl) fun w hw R hR => ?_); (obtain ⟨wbin, wcmp, wun, wconv, wnot, wbeq, wmm, wscmp, wsadd, wslen, wsat, weqs, wlen, wnlen, wofNat, wtake, wdrop, wapp, wzero, wnat⟩ := w); (have hbin : wbin = binStd := congrArg Prims.bin hw); (have hcmp : wcmp = cmpStd := congrArg Prims.cmp hw); (have hun : wun = unStd := congrArg Prims.un hw); (have hconv : wconv = fun k n => k.wrap n := congrArg Prims.conv hw); (have hnot : wnot = fun b => !b := congrArg Prims.not hw); (have hbeq : wbeq = fun a b => a == b := congrArg Prims.beq hw); (have hmm : wmm = maxI := congrArg Prims.mm hw); (have hscmp : wscmp = scmpStd := congrArg Prims.scmp hw); (have hsadd : wsadd = fun x y => x ++ y := congrArg Prims.sadd hw); (have hslen : wslen = fun s => (s.size : Int) := congrArg Prims.slen hw); (have hsat : wsat = std.sat := congrArg Prims.sat hw); (have heqs : weqs = fun a b os => (eqOffs a b os).getD false := congrArg Prims.eqs hw); (have hlen : wlen = fun es => (es.length : Int) := congrArg Prims.len hw); (have hnlen : wnlen = fun es => es.length := congrArg Prims.nlen hw); (have hofNat : wofNat = (fun n : Nat => (n : Int)) := congrArg Prims.ofNat hw); (have htake : wtake = fun es b => es.take b.toNat := congrArg Prims.take hw); (have hdrop : wdrop = fun es a => es.drop a.toNat := congrArg Prims.drop hw); (have happ : wapp = fun a b => a ++ b := congrArg Prims.app hw); (have hzero : wzero = fun n z => List.replicate n.toNat z := congrArg Prims.zero hw); (have hnat : wnat = fun n => n.toNat := congrArg Prims.nat hw); (conv => arg 2; cbv); (generalize hP : Try.prog = P); cbv
  (obtain ⟨L, eL, L0, Ln⟩ : ∃ L : Int, wlen q = L ∧ 0 ≤ L ∧ L.toNat = q.length := ⟨(q.length : Int), by rw [hlen], Int.natCast_nonneg _, Int.toNat_natCast _⟩)
  have hF : ¬ MayOk ps len → R (.bool false) := fun hn => hR _ ⟨_, rfl, ⟨fun h => (by cases h), fun h => absurd h hn⟩⟩
  (split <;> rename_i h1 <;> (try (simp only [eL] at h1)) <;> (try (simp only [hbin, hcmp, hun, hconv, hnot, hbeq, hmm, hscmp, hsadd, hslen, hsat, heqs, hofNat, binStd, cmpStd, unStd, scmpStd, maxI, Bool.not_eq_true', Bool.not_eq_false', decide_eq_true_eq, decide_eq_false_iff_not, Int.not_lt, Int.not_le, if_true, if_false, Bool.false_eq_true, beq_iff_eq, bne_iff_ne, ne_eq, Bool.not_eq_eq_eq_not, Bool.not_true, Bool.not_false, beq_eq_false_iff_ne, bne_eq_false_iff_eq, Int.ofNat_eq_natCast, Bool.not_not, not_true_eq_false, not_false_eq_true, reduceCtorEq] at h1)) <;> (try cbv))
  · exact ⟨_, Vw.same rfl, hF fun hM => (by have := hM.ne; omega)⟩
  (split <;> rename_i h2 <;> (try (simp only [eL] at h2)) <;> (try (simp only [hbin, hcmp, hun, hconv, hnot, hbeq, hmm, hscmp, hsadd, hslen, hsat, heqs, hofNat, binStd, cmpStd, unStd, scmpStd, maxI, Bool.not_eq_true', Bool.not_eq_false', decide_eq_true_eq, decide_eq_false_iff_not, Int.not_lt, Int.not_le, if_true, if_false, Bool.false_eq_true, beq_iff_eq, bne_iff_ne, ne_eq, Bool.not_eq_eq_eq_not, Bool.not_true, Bool.not_false, beq_eq_false_iff_ne, bne_eq_false_iff_eq, Int.ofNat_eq_natCast, Bool.not_not, not_true_eq_false, not_false_eq_true, reduceCtorEq] at h2)) <;> (try cbv))
  · exact ⟨_, Vw.same rfl, hF fun hM => (by have := hM.le; omega)⟩
  obtain ⟨⟨x, y⟩, hd, hrow⟩ := get_map (f := pcRow) (ds := ps) (i := 0) (Int.le_refl 0) (by omega)
  have hrow : q[(0 : Int).toNat]? = some [.int .i64 x, .int .i64 y] := by rw [hq]; exact hrow
  refine Idx.mk [.int .i64 x, .int .i64 y] (by decide) hrow ?_
  cbv
  (split <;> rename_i h3 <;> (try (simp only [hbin, hcmp, hun, hconv, hnot, hbeq, hmm, hscmp, hsadd, hslen, hsat, heqs, hofNat, binStd, cmpStd, unStd, scmpStd, maxI, Bool.not_eq_true', Bool.not_eq_false', decide_eq_true_eq, decide_eq_false_iff_not, Int.not_lt, Int.not_le, if_true, if_false, Bool.false_eq_true, beq_iff_eq, bne_iff_ne, ne_eq, Bool.not_eq_eq_eq_not, Bool.not_true, Bool.not_false, beq_eq_false_iff_ne, bne_eq_false_iff_eq, Int.ofNat_eq_natCast, Bool.not_not, not_true_eq_false, not_false_eq_true, reduceCtorEq] at h3)) <;> (try cbv))
  · exact ⟨_, Vw.same rfl, hF fun hM => h3 (hM.zero _ hd)⟩
  refine Loop.data hw (S := Int) (fun i => fr 66 [(0, .list 2 q), (1, .int .i64 len), (5, .int .i64 i)]) (fun i => []) (fun i => 0 ≤ i ∧ i ≤ L ∧ ∀ j, j < i.toNat → PcOk ps len j) (fun i => (L - i).toNat) 0 (by (refine Wk.eqz (id) (by first | exact fun i _ j _ e => e | (simp only [List.length_cons, List.length_nil]; decide)) ?_; cbv; (repeat' (first | exact trivial | rfl | assumption | apply And.intro | (simp only [hbin, hcmp, hun, hconv, hnot, hbeq, hmm, hscmp, hsadd, hslen, hsat, heqs, hofNat, binStd, cmpStd, unStd, scmpStd, maxI, Bool.not_eq_true', Bool.not_eq_false', decide_eq_true_eq, decide_eq_false_iff_not, Int.not_lt, Int.not_le, if_true, if_false, Bool.false_eq_true, beq_iff_eq, bne_iff_ne, ne_eq, Bool.not_eq_eq_eq_not, Bool.not_true, Bool.not_false, beq_eq_false_iff_ne, bne_eq_false_iff_eq, Int.ofNat_eq_natCast, Bool.not_not, not_true_eq_false, not_false_eq_true, reduceCtorEq]; first | done | assumption) | exact RowsZ.same (by assumption) (by first | assumption | rfl) | exact FzL.mk rfl rfl rfl (by assumption) (by first | assumption | rfl) (by decide) | (refine RowsZ.one ?_; cbv))))) ⟨Int.le_refl _, L0, fun j hj => (by simp at hj)⟩ ?_
  rintro i hinv Q' hN hE hR'
  have hinv : 0 ≤ i ∧ i ≤ L ∧ ∀ j, j < i.toNat → PcOk ps len j := hinv
  cbv
  obtain ⟨hi0, hi1, hl⟩ := hinv
  (split <;> rename_i hc <;> (try (simp only [eL] at hc)) <;> (try (simp only [hbin, hcmp, hun, hconv, hnot, hbeq, hmm, hscmp, hsadd, hslen, hsat, heqs, hofNat, binStd, cmpStd, unStd, scmpStd, maxI, Bool.not_eq_true', Bool.not_eq_false', decide_eq_true_eq, decide_eq_false_iff_not, Int.not_lt, Int.not_le, if_true, if_false, Bool.false_eq_true, beq_iff_eq, bne_iff_ne, ne_eq, Bool.not_eq_eq_eq_not, Bool.not_true, Bool.not_false, beq_eq_false_iff_ne, bne_eq_false_iff_eq, Int.ofNat_eq_natCast, Bool.not_not, not_true_eq_false, not_false_eq_true, reduceCtorEq] at hc)) <;> (try cbv))
  · obtain ⟨⟨a, b⟩, hd2, hrow2⟩ := get_map (f := pcRow) (ds := ps) (i := i) hi0 (by omega)
    have hrow2 : q[i.toNat]? = some [.int .i64 a, .int .i64 b] := by rw [hq]; exact hrow2
    obtain ⟨i', ei'⟩ : ∃ x, i + 1 = x := ⟨_, rfl⟩
    obtain ⟨im, eim⟩ : ∃ x, i - 1 = x := ⟨_, rfl⟩
    have ei : wbin .add .i64 i 1 = i' := by rw [hbin, i_add (by omega) (by omega)]; exact ei'
    have em : wbin .sub .i64 i 1 = im := by rw [hbin, i_sub (by omega) (by omega)]; exact eim
    have hT : (L - i').toNat < (L - i).toNat := by omega
    obtain ⟨a', b', hp'⟩ : ∃ a' b', 0 < i → 0 ≤ im ∧ ps[i.toNat - 1]? = some (a', b') ∧ q[im.toNat]? = some [.int .i64 a', .int .i64 b'] := by
      by_cases h : 0 < i
      · obtain ⟨⟨a', b'⟩, k1, k2⟩ := get_map (f := pcRow) (ds := ps) (i := im) (by omega) (by omega)
        exact ⟨a', b', fun _ => ⟨by omega, by rw [← k1]; congr 1; omega, by rw [hq]; exact k2⟩⟩
      · exact ⟨0, 0, fun h' => absurd h' h⟩
    have fin : (-1048576 ≤ b ∧ b ≤ 1048576 ∧ a < len ∧ (0 < i → a' < a)) → ∀ j, j < i'.toNat → PcOk ps len j := by
      intro hh
      rw [← ei']
      refine all_step hi0 hl fun p hp => ?_
      rw [hd2] at hp
      obtain rfl : (a, b) = p := by simpa using hp
      refine ⟨hh.1, hh.2.1, hh.2.2.1, fun hj o ho => ?_⟩
      rw [(hp' (by omega)).2.1] at ho
      obtain rfl : (a', b') = o := by simpa using ho
      exact hh.2.2.2 (by omega)
    have bad : MayOk ps len → -1048576 ≤ b ∧ b ≤ 1048576 ∧ a < len ∧ (0 < i → a' < a) := by
      intro hM
      obtain ⟨m1, m2, m3, m4⟩ := hM.all i.toNat (by omega) _ hd2
      exact ⟨m1, m2, m3, fun h => m4 (by omega) _ (hp' h).2.1⟩
    repeat' (first
      | (refine hR' _ _ ⟨_, Vw.same rfl, hF fun hM => ?_⟩; obtain ⟨m1, m2, m3, m4⟩ := bad hM; clear hN hE hR' hR hF; omega)
      | (refine Idx.mk [.int .i64 a, .int .i64 b] hi0 hrow2 ?_; cbv)
      | (simp only [em]; refine Idx.mk [.int .i64 a', .int .i64 b'] (hp' (by assumption)).1 (hp' (by assumption)).2.2 ?_; cbv)
      | (split <;> rename_i h <;> (try (simp only [hbin, hcmp, hun, hconv, hnot, hbeq, hmm, hscmp, hsadd, hslen, hsat, heqs, hofNat, binStd, cmpStd, unStd, scmpStd, maxI, Bool.not_eq_true', Bool.not_eq_false', decide_eq_true_eq, decide_eq_false_iff_not, Int.not_lt, Int.not_le, if_true, if_false, Bool.false_eq_true, beq_iff_eq, bne_iff_ne, ne_eq, Bool.not_eq_eq_eq_not, Bool.not_true, Bool.not_false, beq_eq_false_iff_ne, bne_eq_false_iff_eq, Int.ofNat_eq_natCast, Bool.not_not, not_true_eq_false, not_false_eq_true, reduceCtorEq] at h)) <;> (try cbv)))
    all_goals
      refine hN i' _ _ ?hx ?hi hT
      case hx => (refine Wk.eqz (id) (by first | exact fun i _ j _ e => e | (simp only [List.length_cons, List.length_nil]; decide)) ?_; cbv; (repeat' (first | exact trivial | rfl | assumption | apply And.intro | (simp only [hbin, hcmp, hun, hconv, hnot, hbeq, hmm, hscmp, hsadd, hslen, hsat, heqs, hofNat, binStd, cmpStd, unStd, scmpStd, maxI, Bool.not_eq_true', Bool.not_eq_false', decide_eq_true_eq, decide_eq_false_iff_not, Int.not_lt, Int.not_le, if_true, if_false, Bool.false_eq_true, beq_iff_eq, bne_iff_ne, ne_eq, Bool.not_eq_eq_eq_not, Bool.not_true, Bool.not_false, beq_eq_false_iff_ne, bne_eq_false_iff_eq, Int.ofNat_eq_natCast, Bool.not_not, not_true_eq_false, not_false_eq_true, reduceCtorEq]; first | done | assumption) | exact RowsZ.same (by assumption) (by first | assumption | rfl) | exact FzL.mk rfl rfl rfl (by assumption) (by first | assumption | rfl) (by decide) | (refine RowsZ.one ?_; cbv))))
      case hi => exact ⟨by omega, by omega, fin ⟨by omega, by omega, by omega, by omega⟩⟩
  · refine hE _ _ _ ?_
    cbv
    exact ⟨_, Vw.same rfl, hR _ ⟨_, rfl, ⟨fun _ => ⟨by omega, by omega, fun p hp => (by rw [show ps[0]? = some (x, y) from hd] at hp; obtain rfl : (x, y) = p := (by simpa using hp); exact h3), fun j hj => hl j (by omega)⟩, fun _ => rfl⟩⟩⟩
/-- A segment that may be, of so many. -/
structure SegOk (s : Sg) (many : Int) : Prop where
  pos : 1 ≤ s.len
  le : s.len ≤ 1099511627776
  may : MayOk s.ps s.len
  two : s.nx.length ≤ 2
  nx : ∀ j, j < s.nx.length → ∀ n, s.nx[j]? = some n → 0 ≤ n ∧ n < many
  lt : ∀ a b, s.nx[0]? = some a → s.nx[1]? = some b → a < b
theorem e_seg11 (s : Sg) (q n1 : List (List AV)) (hq : q = s.ps.map pcRow) (hn1 : n1 = s.nx.map nxRow) (many : Int) : PCalls Try.prog 56 [.agg [.int .i64 s.len, .list 2 q, .list 1 n1], .int .i64 many] (fun r => ∃ o : Bool, r = .bool o ∧ (o = true ↔ SegOk s many)) := by
  obtain ⟨len, ps, nx⟩ := s
  have hq : q = ps.map pcRow := hq
  have hn1 : n1 = nx.map nxRow := hn1
  have hu : Up0 q := by rw [hq]; exact up_pc ps
  have hun : Up0 n1 := by rw [hn1]; exact up_nx nx
  have hnl : n1.length = nx.length := by rw [hn1]; simp
  (refine PCalls.ofY Try.func56 (by kernel_rfl) (by kernel_rfl) fun w hw R hR => ?_); (obtain ⟨wbin, wcmp, wun, wconv, wnot, wbeq, wmm, wscmp, wsadd, wslen, wsat, weqs, wlen, wnlen, wofNat, wtake, wdrop, wapp, wzero, wnat⟩ := w); (have hbin : wbin = binStd := congrArg Prims.bin hw); (have hcmp : wcmp = cmpStd := congrArg Prims.cmp hw); (have hun : wun = unStd := congrArg Prims.un hw); (have hconv : wconv = fun k n => k.wrap n := congrArg Prims.conv hw); (have hnot : wnot = fun b => !b := congrArg Prims.not hw); (have hbeq : wbeq = fun a b => a == b := congrArg Prims.beq hw); (have hmm : wmm = maxI := congrArg Prims.mm hw); (have hscmp : wscmp = scmpStd := congrArg Prims.scmp hw); (have hsadd : wsadd = fun x y => x ++ y := congrArg Prims.sadd hw); (have hslen : wslen = fun s => (s.size : Int) := congrArg Prims.slen hw); (have hsat : wsat = std.sat := congrArg Prims.sat hw); (have heqs : weqs = fun a b os => (eqOffs a b os).getD false := congrArg Prims.eqs hw); (have hlen : wlen = fun es => (es.length : Int) := congrArg Prims.len hw); (have hnlen : wnlen = fun es => es.length := congrArg Prims.nlen hw); (have hofNat : wofNat = (fun n : Nat => (n : Int)) := congrArg Prims.ofNat hw); (have htake : wtake = fun es b => es.take b.toNat := congrArg Prims.take hw); (have hdrop : wdrop = fun es a => es.drop a.toNat := congrArg Prims.drop hw); (have happ : wapp = fun a b => a ++ b := congrArg Prims.app hw); (have hzero : wzero = fun n z => List.replicate n.toNat z := congrArg Prims.zero hw); (have hnat : wnat = fun n => n.toNat := congrArg Prims.nat hw); (conv => arg 2; cbv); (generalize hP : Try.prog = P); cbv
  (obtain ⟨L, eL, L0, Ln⟩ : ∃ L : Int, wlen n1 = L ∧ 0 ≤ L ∧ L.toNat = n1.length := ⟨(n1.length : Int), by rw [hlen], Int.natCast_nonneg _, Int.toNat_natCast _⟩)
  have hF : ¬ SegOk ⟨len, ps, nx⟩ many → R (.bool false) := fun hn => hR _ ⟨_, rfl, ⟨fun h => (by cases h), fun h => absurd h hn⟩⟩
  (split <;> rename_i h1 <;> (try (simp only [hbin, hcmp, hun, hconv, hnot, hbeq, hmm, hscmp, hsadd, hslen, hsat, heqs, hofNat, binStd, cmpStd, unStd, scmpStd, maxI, Bool.not_eq_true', Bool.not_eq_false', decide_eq_true_eq, decide_eq_false_iff_not, Int.not_lt, Int.not_le, if_true, if_false, Bool.false_eq_true, beq_iff_eq, bne_iff_ne, ne_eq, Bool.not_eq_eq_eq_not, Bool.not_true, Bool.not_false, beq_eq_false_iff_ne, bne_eq_false_iff_eq, Int.ofNat_eq_natCast, Bool.not_not, not_true_eq_false, not_false_eq_true, reduceCtorEq] at h1)) <;> (try cbv))
  · exact ⟨_, Vw.same rfl, hF fun hM => (by have k : 1 ≤ len := hM.pos; omega)⟩
  (split <;> rename_i h2 <;> (try (simp only [hbin, hcmp, hun, hconv, hnot, hbeq, hmm, hscmp, hsadd, hslen, hsat, heqs, hofNat, binStd, cmpStd, unStd, scmpStd, maxI, Bool.not_eq_true', Bool.not_eq_false', decide_eq_true_eq, decide_eq_false_iff_not, Int.not_lt, Int.not_le, if_true, if_false, Bool.false_eq_true, beq_iff_eq, bne_iff_ne, ne_eq, Bool.not_eq_eq_eq_not, Bool.not_true, Bool.not_false, beq_eq_false_iff_ne, bne_eq_false_iff_eq, Int.ofNat_eq_natCast, Bool.not_not, not_true_eq_false, not_false_eq_true, reduceCtorEq] at h2)) <;> (try cbv))
  · exact ⟨_, Vw.same rfl, hF fun hM => (by have k : len ≤ 1099511627776 := hM.le; omega)⟩
  refine Call.step (by rw [← hP]; exact e_may10 ps q hq len) (by exact Up0.one hu rfl) ?_
  rintro r ⟨o, rfl, hmay⟩
  cbv
  (split <;> rename_i h3 <;> (try (simp only [hbin, hcmp, hun, hconv, hnot, hbeq, hmm, hscmp, hsadd, hslen, hsat, heqs, hofNat, binStd, cmpStd, unStd, scmpStd, maxI, Bool.not_eq_true', Bool.not_eq_false', decide_eq_true_eq, decide_eq_false_iff_not, Int.not_lt, Int.not_le, if_true, if_false, Bool.false_eq_true, beq_iff_eq, bne_iff_ne, ne_eq, Bool.not_eq_eq_eq_not, Bool.not_true, Bool.not_false, beq_eq_false_iff_ne, bne_eq_false_iff_eq, Int.ofNat_eq_natCast, Bool.not_not, not_true_eq_false, not_false_eq_true, reduceCtorEq] at h3)) <;> (try cbv))
  · exact ⟨_, Vw.same rfl, hF fun hM => (by rw [hmay.2 hM.may] at h3; cases h3)⟩
  have hmay := hmay.1 (by assumption)
  (split <;> rename_i h4 <;> (try (simp only [eL] at h4)) <;> (try (simp only [hbin, hcmp, hun, hconv, hnot, hbeq, hmm, hscmp, hsadd, hslen, hsat, heqs, hofNat, binStd, cmpStd, unStd, scmpStd, maxI, Bool.not_eq_true', Bool.not_eq_false', decide_eq_true_eq, decide_eq_false_iff_not, Int.not_lt, Int.not_le, if_true, if_false, Bool.false_eq_true, beq_iff_eq, bne_iff_ne, ne_eq, Bool.not_eq_eq_eq_not, Bool.not_true, Bool.not_false, beq_eq_false_iff_ne, bne_eq_false_iff_eq, Int.ofNat_eq_natCast, Bool.not_not, not_true_eq_false, not_false_eq_true, reduceCtorEq] at h4)) <;> (try cbv))
  · exact ⟨_, Vw.same rfl, hF fun hM => (by have k : nx.length ≤ 2 := hM.two; omega)⟩
  refine Loop.data hw (S := Int) (fun i => fr 65 [(1, .int .i64 many), (2, .ref 0 3 0 0), (5, .int .i64 i)]) (fun i => [.live 3 [[.int .i64 len, .list 2 q, .list 1 n1]]]) (fun i => 0 ≤ i ∧ i ≤ L ∧ ∀ j, j < i.toNat → ∀ n, nx[j]? = some n → 0 ≤ n ∧ n < many) (fun i => (L - i).toNat) 0 (by (refine Wk.eqz (id) (by first | exact fun i _ j _ e => e | (simp only [List.length_cons, List.length_nil]; decide)) ?_; cbv; (repeat' (first | exact trivial | rfl | assumption | apply And.intro | (simp only [hbin, hcmp, hun, hconv, hnot, hbeq, hmm, hscmp, hsadd, hslen, hsat, heqs, hofNat, binStd, cmpStd, unStd, scmpStd, maxI, Bool.not_eq_true', Bool.not_eq_false', decide_eq_true_eq, decide_eq_false_iff_not, Int.not_lt, Int.not_le, if_true, if_false, Bool.false_eq_true, beq_iff_eq, bne_iff_ne, ne_eq, Bool.not_eq_eq_eq_not, Bool.not_true, Bool.not_false, beq_eq_false_iff_ne, bne_eq_false_iff_eq, Int.ofNat_eq_natCast, Bool.not_not, not_true_eq_false, not_false_eq_true, reduceCtorEq]; first | done | assumption) | exact RowsZ.same (by assumption) (by first | assumption | rfl) | exact FzL.mk rfl rfl rfl (by assumption) (by first | assumption | rfl) (by decide) | (refine RowsZ.one ?_; cbv))))) ⟨Int.le_refl _, L0, fun j hj => (by simp at hj)⟩ ?_
  rintro i hinv Q' hN hE hR'
  have hinv : 0 ≤ i ∧ i ≤ L ∧ ∀ j, j < i.toNat → ∀ n, nx[j]? = some n → 0 ≤ n ∧ n < many := hinv
  cbv
  obtain ⟨hi0, hi1, hl⟩ := hinv
  (split <;> rename_i hc <;> (try (simp only [eL] at hc)) <;> (try (simp only [hbin, hcmp, hun, hconv, hnot, hbeq, hmm, hscmp, hsadd, hslen, hsat, heqs, hofNat, binStd, cmpStd, unStd, scmpStd, maxI, Bool.not_eq_true', Bool.not_eq_false', decide_eq_true_eq, decide_eq_false_iff_not, Int.not_lt, Int.not_le, if_true, if_false, Bool.false_eq_true, beq_iff_eq, bne_iff_ne, ne_eq, Bool.not_eq_eq_eq_not, Bool.not_true, Bool.not_false, beq_eq_false_iff_ne, bne_eq_false_iff_eq, Int.ofNat_eq_natCast, Bool.not_not, not_true_eq_false, not_false_eq_true, reduceCtorEq] at hc)) <;> (try cbv))
  · obtain ⟨n, hd2, hrow2⟩ := get_map (f := nxRow) (ds := nx) (i := i) hi0 (by omega)
    have hrow2 : n1[i.toNat]? = some [.int .i64 n] := by rw [hn1]; exact hrow2
    obtain ⟨i', ei'⟩ : ∃ x, i + 1 = x := ⟨_, rfl⟩
    have ei : wbin .add .i64 i 1 = i' := by rw [hbin, i_add (by omega) (by omega)]; exact ei'
    have hT : (L - i').toNat < (L - i).toNat := by omega
    have bad : SegOk ⟨len, ps, nx⟩ many → 0 ≤ n ∧ n < many := fun hM => hM.nx i.toNat (show i.toNat < nx.length by omega) n hd2
    repeat' (first
      | (refine hR' _ _ ⟨_, Vw.same rfl, hF fun hM => ?_⟩; obtain ⟨m1, m2⟩ := bad hM; clear hN hE hR' hR hF; omega)
      | (refine Idx.mk [.int .i64 n] hi0 hrow2 ?_; cbv)
      | (split <;> rename_i h <;> (try (simp only [hbin, hcmp, hun, hconv, hnot, hbeq, hmm, hscmp, hsadd, hslen, hsat, heqs, hofNat, binStd, cmpStd, unStd, scmpStd, maxI, Bool.not_eq_true', Bool.not_eq_false', decide_eq_true_eq, decide_eq_false_iff_not, Int.not_lt, Int.not_le, if_true, if_false, Bool.false_eq_true, beq_iff_eq, bne_iff_ne, ne_eq, Bool.not_eq_eq_eq_not, Bool.not_true, Bool.not_false, beq_eq_false_iff_ne, bne_eq_false_iff_eq, Int.ofNat_eq_natCast, Bool.not_not, not_true_eq_false, not_false_eq_true, reduceCtorEq] at h)) <;> (try cbv)))
    refine hN i' _ _ ?hx ?hi hT
    case hx => (refine Wk.eqz (id) (by first | exact fun i _ j _ e => e | (simp only [List.length_cons, List.length_nil]; decide)) ?_; cbv; (repeat' (first | exact trivial | rfl | assumption | apply And.intro | (simp only [hbin, hcmp, hun, hconv, hnot, hbeq, hmm, hscmp, hsadd, hslen, hsat, heqs, hofNat, binStd, cmpStd, unStd, scmpStd, maxI, Bool.not_eq_true', Bool.not_eq_false', decide_eq_true_eq, decide_eq_false_iff_not, Int.not_lt, Int.not_le, if_true, if_false, Bool.false_eq_true, beq_iff_eq, bne_iff_ne, ne_eq, Bool.not_eq_eq_eq_not, Bool.not_true, Bool.not_false, beq_eq_false_iff_ne, bne_eq_false_iff_eq, Int.ofNat_eq_natCast, Bool.not_not, not_true_eq_false, not_false_eq_true, reduceCtorEq]; first | done | assumption) | exact RowsZ.same (by assumption) (by first | assumption | rfl) | exact FzL.mk rfl rfl rfl (by assumption) (by first | assumption | rfl) (by decide) | (refine RowsZ.one ?_; cbv))))
    case hi =>
      refine ⟨by omega, by omega, ?_⟩
      rw [← ei']
      refine all_step hi0 hl fun m hm => ?_
      rw [hd2] at hm
      obtain rfl : n = m := by simpa using hm
      exact ⟨by omega, by omega⟩
  · refine hE _ _ _ ?_
    cbv
    have fin : (∀ a b, nx[0]? = some a → nx[1]? = some b → a < b) → SegOk ⟨len, ps, nx⟩ many := fun hlt => ⟨h1, by omega, hmay, by simp only; omega, fun j hj n hn => hl j (by simp only at hj; omega) n hn, hlt⟩
    (split <;> rename_i h5 <;> (try (simp only [eL] at h5)) <;> (try (simp only [hbin, hcmp, hun, hconv, hnot, hbeq, hmm, hscmp, hsadd, hslen, hsat, heqs, hofNat, binStd, cmpStd, unStd, scmpStd, maxI, Bool.not_eq_true', Bool.not_eq_false', decide_eq_true_eq, decide_eq_false_iff_not, Int.not_lt, Int.not_le, if_true, if_false, Bool.false_eq_true, beq_iff_eq, bne_iff_ne, ne_eq, Bool.not_eq_eq_eq_not, Bool.not_true, Bool.not_false, beq_eq_false_iff_ne, bne_eq_false_iff_eq, Int.ofNat_eq_natCast, Bool.not_not, not_true_eq_false, not_false_eq_true, reduceCtorEq] at h5)) <;> (try cbv))
    · refine ⟨_, Vw.same rfl, hR _ ⟨_, rfl, ⟨fun _ => fin fun a b ha hb => ?_, fun _ => rfl⟩⟩⟩
      have := (List.getElem?_eq_some_iff.1 hb).1
      omega
    · obtain ⟨x, hdx, hrx⟩ := get_map (f := nxRow) (ds := nx) (i := 0) (Int.le_refl 0) (by omega)
      obtain ⟨y, hdy, hry⟩ := get_map (f := nxRow) (ds := nx) (i := 1) (by decide) (by omega)
      refine Idx.mk [.int .i64 x] (by decide) (by rw [hn1]; exact hrx) ?_
      cbv
      refine Idx.mk [.int .i64 y] (by decide) (by rw [hn1]; exact hry) ?_
      cbv
      have k1 : nx[0]? = some x := hdx
      have k2 : nx[1]? = some y := hdy
      refine ⟨_, Vw.same rfl, hR _ ⟨_, rfl, ⟨fun ho => fin fun a b ha hb => ?_, fun hM => ?_⟩⟩⟩
      rotate_left
      · have := hM.lt x y k1 k2
        rw [hcmp]; simp [cmpStd]; omega
      rw [k1] at ha
      rw [k2] at hb
      rw [hcmp] at ho
      simp [cmpStd] at ho ha hb
      omega
theorem e_seg11V (s : Sg) (q n1 : List (List AV)) (hq : q = s.ps.map pcRow) (hn1 : n1 = s.nx.map nxRow) (many : Int) : ∃ o : Bool, PCalls Try.prog 56 [.agg [.int .i64 s.len, .list 2 q, .list 1 n1], .int .i64 many] (· = .bool o) ∧ (o = true ↔ SegOk s many) := by
  by_cases h : SegOk s many
  · refine ⟨true, (e_seg11 s q n1 hq hn1 many).mono ?_, by simp [h]⟩
    rintro r ⟨o, rfl, ho⟩
    rw [ho.2 h]
  · refine ⟨false, (e_seg11 s q n1 hq hn1 many).mono ?_, by simp [h]⟩
    rintro r ⟨o, rfl, ho⟩
    cases o with
    | false => rfl
    | true => exact absurd (ho.1 rfl) h
/-- A group that may be, by the one ahead of it. -/
def GrOk (ss : List Sg) (gs : List Gr) (j : Nat) : Prop :=
  ∀ g, gs[j]? = some g → 0 < g.id ∧ g.id ≤ 65535 ∧ 0 ≤ g.seg ∧ g.seg.toNat < ss.length ∧ 0 ≤ g.off ∧ (∀ s, ss[g.seg.toNat]? = some s → g.off ≤ s.len) ∧ 0 ≤ g.acc ∧ g.acc ≤ 1048576 ∧ 0 ≤ g.sl ∧ g.sl ≤ 16777216 ∧ (0 < j → ∀ o, gs[j - 1]? = some o → o.id < g.id)
structure TrackOk (ss : List Sg) (gs : List Gr) : Prop where
  ne : 1 ≤ ss.length
  le : ss.length ≤ 200
  gle : gs.length ≤ 400
  seg : ∀ j, j < ss.length → ∀ s, ss[j]? = some s → SegOk s ss.length
  grp : ∀ j, j < gs.length → GrOk ss gs j
set_option maxHeartbeats 1000000 in
theorem e_check11 (ss : List Sg) (gs : List Gr) (es ds : List (List AV)) (hes : es = ss.map sgRow) (hds : ds = gs.map grRow) : PCalls Try.prog 51 [.agg [.list 3 es, .list 5 ds]] (fun r => ∃ e i, r = .tuple [.int .i64 e, .int .i64 i] ∧ (e = 0 → TrackOk ss gs)) := by
  have hu : Up0 es := by rw [hes]; exact up_sg ss
  have hud : Up0 ds := by rw [hds]; exact up_gr gs
  have hel : es.length = ss.length := by rw [hes]; simp
  have hdl : ds.length = gs.length := by rw [hds]; simp
  (refine PCalls.ofY Try.func51 (by kernel_rfl) (by kernel_rfl) fun w hw R hR => ?_); (obtain ⟨wbin, wcmp, wun, wconv, wnot, wbeq, wmm, wscmp, wsadd, wslen, wsat, weqs, wlen, wnlen, wofNat, wtake, wdrop, wapp, wzero, wnat⟩ := w); (have hbin : wbin = binStd := congrArg Prims.bin hw); (have hcmp : wcmp = cmpStd := congrArg Prims.cmp hw); (have hun : wun = unStd := congrArg Prims.un hw); (have hconv : wconv = fun k n => k.wrap n := congrArg Prims.conv hw); (have hnot : wnot = fun b => !b := congrArg Prims.not hw); (have hbeq : wbeq = fun a b => a == b := congrArg Prims.beq hw); (have hmm : wmm = maxI := congrArg Prims.mm hw); (have hscmp : wscmp = scmpStd := congrArg Prims.scmp hw); (have hsadd : wsadd = fun x y => x ++ y := congrArg Prims.sadd hw); (have hslen : wslen = fun s => (s.size : Int) := congrArg Prims.slen hw); (have hsat : wsat = std.sat := congrArg Prims.sat hw); (have heqs : weqs = fun a b os => (eqOffs a b os).getD false := congrArg Prims.eqs hw); (have hlen : wlen = fun es => (es.length : Int) := congrArg Prims.len hw); (have hnlen : wnlen = fun es => es.length := congrArg Prims.nlen hw); (have hofNat : wofNat = (fun n : Nat => (n : Int)) := congrArg Prims.ofNat hw); (have htake : wtake = fun es b => es.take b.toNat := congrArg Prims.take hw); (have hdrop : wdrop = fun es a => es.drop a.toNat := congrArg Prims.drop hw); (have happ : wapp = fun a b => a ++ b := congrArg Prims.app hw); (have hzero : wzero = fun n z => List.replicate n.toNat z := congrArg Prims.zero hw); (have hnat : wnat = fun n => n.toNat := congrArg Prims.nat hw); (conv => arg 2; cbv); (generalize hP : Try.prog = P); cbv
  (obtain ⟨L, eL, L0, Ln⟩ : ∃ L : Int, wlen es = L ∧ 0 ≤ L ∧ L.toNat = es.length := ⟨(es.length : Int), by rw [hlen], Int.natCast_nonneg _, Int.toNat_natCast _⟩)
  (obtain ⟨J, eJ, J0, Jn⟩ : ∃ L : Int, wlen ds = L ∧ 0 ≤ L ∧ L.toNat = ds.length := ⟨(ds.length : Int), by rw [hlen], Int.natCast_nonneg _, Int.toNat_natCast _⟩)
  have hF : ∀ e i : Int, e ≠ 0 → R (.tuple [.int .i64 e, .int .i64 i]) := fun e i he => hR _ ⟨_, _, rfl, fun h => absurd h he⟩
  (split <;> rename_i h1 <;> (try (simp only [eL] at h1)) <;> (try (simp only [hbin, hcmp, hun, hconv, hnot, hbeq, hmm, hscmp, hsadd, hslen, hsat, heqs, hofNat, binStd, cmpStd, unStd, scmpStd, maxI, Bool.not_eq_true', Bool.not_eq_false', decide_eq_true_eq, decide_eq_false_iff_not, Int.not_lt, Int.not_le, if_true, if_false, Bool.false_eq_true, beq_iff_eq, bne_iff_ne, ne_eq, Bool.not_eq_eq_eq_not, Bool.not_true, Bool.not_false, beq_eq_false_iff_ne, bne_eq_false_iff_eq, Int.ofNat_eq_natCast, Bool.not_not, not_true_eq_false, not_false_eq_true, reduceCtorEq] at h1)) <;> (try cbv))
  · exact ⟨_, Vw.same rfl, hF _ _ (by decide)⟩
  (split <;> rename_i h2 <;> (try (simp only [eL] at h2)) <;> (try (simp only [hbin, hcmp, hun, hconv, hnot, hbeq, hmm, hscmp, hsadd, hslen, hsat, heqs, hofNat, binStd, cmpStd, unStd, scmpStd, maxI, Bool.not_eq_true', Bool.not_eq_false', decide_eq_true_eq, decide_eq_false_iff_not, Int.not_lt, Int.not_le, if_true, if_false, Bool.false_eq_true, beq_iff_eq, bne_iff_ne, ne_eq, Bool.not_eq_eq_eq_not, Bool.not_true, Bool.not_false, beq_eq_false_iff_ne, bne_eq_false_iff_eq, Int.ofNat_eq_natCast, Bool.not_not, not_true_eq_false, not_false_eq_true, reduceCtorEq] at h2)) <;> (try cbv))
  · exact ⟨_, Vw.same rfl, hF _ _ (by decide)⟩
  (split <;> rename_i h3 <;> (try (simp only [eJ] at h3)) <;> (try (simp only [hbin, hcmp, hun, hconv, hnot, hbeq, hmm, hscmp, hsadd, hslen, hsat, heqs, hofNat, binStd, cmpStd, unStd, scmpStd, maxI, Bool.not_eq_true', Bool.not_eq_false', decide_eq_true_eq, decide_eq_false_iff_not, Int.not_lt, Int.not_le, if_true, if_false, Bool.false_eq_true, beq_iff_eq, bne_iff_ne, ne_eq, Bool.not_eq_eq_eq_not, Bool.not_true, Bool.not_false, beq_eq_false_iff_ne, bne_eq_false_iff_eq, Int.ofNat_eq_natCast, Bool.not_not, not_true_eq_false, not_false_eq_true, reduceCtorEq] at h3)) <;> (try cbv))
  · exact ⟨_, Vw.same rfl, hF _ _ (by decide)⟩
  refine Loop.data hw (S := Int) (fun i => fr 115 [(1, .ref 0 2 0 0), (4, .int .i64 i)]) (fun i => [.live 2 [[.list 3 es, .list 5 ds]]]) (fun i => 0 ≤ i ∧ i ≤ L ∧ ∀ j, j < i.toNat → ∀ s, ss[j]? = some s → SegOk s L) (fun i => (L - i).toNat) 0 (by (refine Wk.eqz (id) (by first | exact fun i _ j _ e => e | (simp only [List.length_cons, List.length_nil]; decide)) ?_; cbv; (repeat' (first | exact trivial | rfl | assumption | apply And.intro | (simp only [hbin, hcmp, hun, hconv, hnot, hbeq, hmm, hscmp, hsadd, hslen, hsat, heqs, hofNat, binStd, cmpStd, unStd, scmpStd, maxI, Bool.not_eq_true', Bool.not_eq_false', decide_eq_true_eq, decide_eq_false_iff_not, Int.not_lt, Int.not_le, if_true, if_false, Bool.false_eq_true, beq_iff_eq, bne_iff_ne, ne_eq, Bool.not_eq_eq_eq_not, Bool.not_true, Bool.not_false, beq_eq_false_iff_ne, bne_eq_false_iff_eq, Int.ofNat_eq_natCast, Bool.not_not, not_true_eq_false, not_false_eq_true, reduceCtorEq]; first | done | assumption) | exact RowsZ.same (by assumption) (by first | assumption | rfl) | exact FzL.mk rfl rfl rfl (by assumption) (by first | assumption | rfl) (by decide) | (refine RowsZ.one ?_; cbv))))) ⟨Int.le_refl _, L0, fun j hj => (by simp at hj)⟩ ?_
  rintro i hinv Q' hN hE hR'
  have hinv : 0 ≤ i ∧ i ≤ L ∧ ∀ j, j < i.toNat → ∀ s, ss[j]? = some s → SegOk s L := hinv
  cbv
  obtain ⟨hi0, hi1, hl⟩ := hinv
  (split <;> rename_i hc <;> (try (simp only [eL] at hc)) <;> (try (simp only [hbin, hcmp, hun, hconv, hnot, hbeq, hmm, hscmp, hsadd, hslen, hsat, heqs, hofNat, binStd, cmpStd, unStd, scmpStd, maxI, Bool.not_eq_true', Bool.not_eq_false', decide_eq_true_eq, decide_eq_false_iff_not, Int.not_lt, Int.not_le, if_true, if_false, Bool.false_eq_true, beq_iff_eq, bne_iff_ne, ne_eq, Bool.not_eq_eq_eq_not, Bool.not_true, Bool.not_false, beq_eq_false_iff_ne, bne_eq_false_iff_eq, Int.ofNat_eq_natCast, Bool.not_not, not_true_eq_false, not_false_eq_true, reduceCtorEq] at hc)) <;> (try cbv))
  · obtain ⟨⟨len, ps, nx⟩, hd, hrow⟩ := get_map (f := sgRow) (ds := ss) (i := i) hi0 (by omega)
    obtain ⟨q1, eq1⟩ : ∃ x, ps.map pcRow = x := ⟨_, rfl⟩
    obtain ⟨n1, en1⟩ : ∃ x, nx.map nxRow = x := ⟨_, rfl⟩
    have hrow : es[i.toNat]? = some [.int .i64 len, .list 2 q1, .list 1 n1] := by rw [hes, ← eq1, ← en1]; exact hrow
    have huq : Up0 q1 := by rw [← eq1]; exact up_pc ps
    have hun : Up0 n1 := by rw [← en1]; exact up_nx nx
    obtain ⟨i', ei'⟩ : ∃ x, i + 1 = x := ⟨_, rfl⟩
    have ei : wbin .add .i64 i 1 = i' := by rw [hbin, i_add (by omega) (by omega)]; exact ei'
    have hT : (L - i').toNat < (L - i).toNat := by omega
    refine Idx.mk [.int .i64 len, .list 2 q1, .list 1 n1] hi0 hrow ?_
    cbv
    simp only [eL]
    obtain ⟨o, hseg, ho⟩ := e_seg11V ⟨len, ps, nx⟩ q1 n1 eq1.symm en1.symm L
    refine QCal.stepE (by rw [← hP]; exact hseg) (by exact Bool.and_eq_true_iff.mpr ⟨up_segRow huq hun, rfl⟩) ?_
    cbv
    (split <;> rename_i h <;> (try (simp only [hbin, hcmp, hun, hconv, hnot, hbeq, hmm, hscmp, hsadd, hslen, hsat, heqs, hofNat, binStd, cmpStd, unStd, scmpStd, maxI, Bool.not_eq_true', Bool.not_eq_false', decide_eq_true_eq, decide_eq_false_iff_not, Int.not_lt, Int.not_le, if_true, if_false, Bool.false_eq_true, beq_iff_eq, bne_iff_ne, ne_eq, Bool.not_eq_eq_eq_not, Bool.not_true, Bool.not_false, beq_eq_false_iff_ne, bne_eq_false_iff_eq, Int.ofNat_eq_natCast, Bool.not_not, not_true_eq_false, not_false_eq_true, reduceCtorEq] at h)) <;> (try cbv))
    · exact hR' _ _ ⟨_, Vw.same rfl, hF _ _ (by decide)⟩
    refine hN i' _ _ ?hx ?hi hT
    case hx => (refine Wk.eqz (id) (by first | exact fun i _ j _ e => e | (simp only [List.length_cons, List.length_nil]; decide)) ?_; cbv; (repeat' (first | exact trivial | rfl | assumption | apply And.intro | (simp only [hbin, hcmp, hun, hconv, hnot, hbeq, hmm, hscmp, hsadd, hslen, hsat, heqs, hofNat, binStd, cmpStd, unStd, scmpStd, maxI, Bool.not_eq_true', Bool.not_eq_false', decide_eq_true_eq, decide_eq_false_iff_not, Int.not_lt, Int.not_le, if_true, if_false, Bool.false_eq_true, beq_iff_eq, bne_iff_ne, ne_eq, Bool.not_eq_eq_eq_not, Bool.not_true, Bool.not_false, beq_eq_false_iff_ne, bne_eq_false_iff_eq, Int.ofNat_eq_natCast, Bool.not_not, not_true_eq_false, not_false_eq_true, reduceCtorEq]; first | done | assumption) | exact RowsZ.same (by assumption) (by first | assumption | rfl) | exact FzL.mk rfl rfl rfl (by assumption) (by first | assumption | rfl) (by decide) | (refine RowsZ.one ?_; cbv))))
    case hi =>
      refine ⟨by omega, by omega, ?_⟩
      rw [← ei']
      refine all_step hi0 hl fun m hm => ?_
      rw [hd] at hm
      obtain rfl : (⟨len, ps, nx⟩ : Sg) = m := by simpa using hm
      exact ho.1 h
  refine hE _ _ _ ?_
  cbv
  have hseg : ∀ j, j < ss.length → ∀ s, ss[j]? = some s → SegOk s L := fun j hj => hl j (by omega)
  clear hl hN hE hR'
  refine Loop.data hw (S := Int × Int) (fun s => fr 115 [(1, .ref 0 2 0 0), (5, .int .i64 s.2), (6, .int .i64 s.1)]) (fun s => [.live 2 [[.list 3 es, .list 5 ds]]]) (fun s => 0 ≤ s.1 ∧ s.1 ≤ J ∧ 0 ≤ s.2 ∧ (0 < s.1 → ∀ o, gs[s.1.toNat - 1]? = some o → s.2 = o.id) ∧ ∀ j, j < s.1.toNat → GrOk ss gs j) (fun s => (J - s.1).toNat) (0, 0) (by (refine Wk.eqz (id) (by first | exact fun i _ j _ e => e | (simp only [List.length_cons, List.length_nil]; decide)) ?_; cbv; (repeat' (first | exact trivial | rfl | assumption | apply And.intro | (simp only [hbin, hcmp, hun, hconv, hnot, hbeq, hmm, hscmp, hsadd, hslen, hsat, heqs, hofNat, binStd, cmpStd, unStd, scmpStd, maxI, Bool.not_eq_true', Bool.not_eq_false', decide_eq_true_eq, decide_eq_false_iff_not, Int.not_lt, Int.not_le, if_true, if_false, Bool.false_eq_true, beq_iff_eq, bne_iff_ne, ne_eq, Bool.not_eq_eq_eq_not, Bool.not_true, Bool.not_false, beq_eq_false_iff_ne, bne_eq_false_iff_eq, Int.ofNat_eq_natCast, Bool.not_not, not_true_eq_false, not_false_eq_true, reduceCtorEq]; first | done | assumption) | exact RowsZ.same (by assumption) (by first | assumption | rfl) | exact FzL.mk rfl rfl rfl (by assumption) (by first | assumption | rfl) (by decide) | (refine RowsZ.one ?_; cbv))))) ⟨Int.le_refl _, J0, Int.le_refl _, fun h => absurd h (by decide), fun j hj => (by simp at hj)⟩ ?_
  rintro ⟨i, last⟩ hinv Q' hN hE hR'
  have hinv : 0 ≤ i ∧ i ≤ J ∧ 0 ≤ last ∧ (0 < i → ∀ o, gs[i.toNat - 1]? = some o → last = o.id) ∧ ∀ j, j < i.toNat → GrOk ss gs j := hinv
  cbv
  obtain ⟨hi0, hi1, hla, hlo, hl⟩ := hinv
  (split <;> rename_i hc <;> (try (simp only [eJ] at hc)) <;> (try (simp only [hbin, hcmp, hun, hconv, hnot, hbeq, hmm, hscmp, hsadd, hslen, hsat, heqs, hofNat, binStd, cmpStd, unStd, scmpStd, maxI, Bool.not_eq_true', Bool.not_eq_false', decide_eq_true_eq, decide_eq_false_iff_not, Int.not_lt, Int.not_le, if_true, if_false, Bool.false_eq_true, beq_iff_eq, bne_iff_ne, ne_eq, Bool.not_eq_eq_eq_not, Bool.not_true, Bool.not_false, beq_eq_false_iff_ne, bne_eq_false_iff_eq, Int.ofNat_eq_natCast, Bool.not_not, not_true_eq_false, not_false_eq_true, reduceCtorEq] at hc)) <;> (try cbv))
  · obtain ⟨⟨g1, g2, g3, g4, g5⟩, hd, hrow⟩ := get_map (f := grRow) (ds := gs) (i := i) hi0 (by omega)
    have hrow : ds[i.toNat]? = some [.int .i64 g1, .int .i64 g2, .int .i64 g3, .int .i64 g4, .int .i64 g5] := by rw [hds]; exact hrow
    obtain ⟨i', ei'⟩ : ∃ x, i + 1 = x := ⟨_, rfl⟩
    have ei : wbin .add .i64 i 1 = i' := by rw [hbin, i_add (by omega) (by omega)]; exact ei'
    have hT : (J - i').toNat < (J - i).toNat := by omega
    refine Idx.mk [.int .i64 g1, .int .i64 g2, .int .i64 g3, .int .i64 g4, .int .i64 g5] hi0 hrow ?_
    cbv
    obtain ⟨len, q1, n1, hrs⟩ : ∃ len q1 n1, 0 ≤ g2 ∧ g2 < L → es[g2.toNat]? = some [.int .i64 len, .list 2 q1, .list 1 n1] ∧ ∀ s, ss[g2.toNat]? = some s → s.len = len := by
      by_cases h : 0 ≤ g2 ∧ g2 < L
      · obtain ⟨⟨len, ps, nx⟩, k1, k2⟩ := get_map (f := sgRow) (ds := ss) (i := g2) h.1 (by omega)
        exact ⟨len, _, _, fun _ => ⟨by rw [hes]; exact k2, fun s hs => by rw [k1] at hs; obtain rfl : (⟨len, ps, nx⟩ : Sg) = s := (by simpa using hs); rfl⟩⟩
      · exact ⟨0, [], [], fun h' => absurd h' h⟩
    repeat' (first
      | exact hR' _ _ ⟨_, Vw.same rfl, hF _ _ (by decide)⟩
      | (refine Idx.mk [.int .i64 len, .list 2 q1, .list 1 n1] (by assumption) (hrs ⟨by assumption, by assumption⟩).1 ?_; cbv)
      | (split <;> rename_i h <;> (try (simp only [eL] at h)) <;> (try (simp only [hbin, hcmp, hun, hconv, hnot, hbeq, hmm, hscmp, hsadd, hslen, hsat, heqs, hofNat, binStd, cmpStd, unStd, scmpStd, maxI, Bool.not_eq_true', Bool.not_eq_false', decide_eq_true_eq, decide_eq_false_iff_not, Int.not_lt, Int.not_le, if_true, if_false, Bool.false_eq_true, beq_iff_eq, bne_iff_ne, ne_eq, Bool.not_eq_eq_eq_not, Bool.not_true, Bool.not_false, beq_eq_false_iff_ne, bne_eq_false_iff_eq, Int.ofNat_eq_natCast, Bool.not_not, not_true_eq_false, not_false_eq_true, reduceCtorEq] at h)) <;> (try cbv)))
    all_goals
      refine hN (i', g1) _ _ ?hx ?hi hT
      case hx => (refine Wk.eqz (id) (by first | exact fun i _ j _ e => e | (simp only [List.length_cons, List.length_nil]; decide)) ?_; cbv; (repeat' (first | exact trivial | rfl | assumption | apply And.intro | (simp only [hbin, hcmp, hun, hconv, hnot, hbeq, hmm, hscmp, hsadd, hslen, hsat, heqs, hofNat, binStd, cmpStd, unStd, scmpStd, maxI, Bool.not_eq_true', Bool.not_eq_false', decide_eq_true_eq, decide_eq_false_iff_not, Int.not_lt, Int.not_le, if_true, if_false, Bool.false_eq_true, beq_iff_eq, bne_iff_ne, ne_eq, Bool.not_eq_eq_eq_not, Bool.not_true, Bool.not_false, beq_eq_false_iff_ne, bne_eq_false_iff_eq, Int.ofNat_eq_natCast, Bool.not_not, not_true_eq_false, not_false_eq_true, reduceCtorEq]; first | done | assumption) | exact RowsZ.same (by assumption) (by first | assumption | rfl) | exact FzL.mk rfl rfl rfl (by assumption) (by first | assumption | rfl) (by decide) | (refine RowsZ.one ?_; cbv))))
      case hi =>
        refine ⟨by simp only; omega, by simp only; omega, by simp only; omega, fun _ o ho => ?_, ?_⟩
        · simp only at ho
          rw [show i'.toNat - 1 = i.toNat by omega, hd] at ho
          obtain rfl : (⟨g1, g2, g3, g4, g5⟩ : Gr) = o := by simpa using ho
          rfl
        · simp only
          rw [← ei']
          refine all_step hi0 hl fun g hg => ?_
          rw [hd] at hg
          obtain rfl : (⟨g1, g2, g3, g4, g5⟩ : Gr) = g := by simpa using hg
          refine ⟨by simp only; omega, by simp only; omega, by simp only; omega, by simp only; omega, by simp only; omega, fun s hs => ?_, by simp only; omega, by simp only; omega, by simp only; omega, by simp only; omega, fun hj o ho => ?_⟩
          · rw [(hrs ⟨by omega, by omega⟩).2 s hs]; assumption
          · have := hlo (by omega) o ho
            simp only; omega
  refine hE _ _ _ ?_
  cbv
  have eLL : L = ss.length := by omega
  exact ⟨_, Vw.same rfl, hR _ ⟨_, _, rfl, fun _ => ⟨by omega, by omega, by omega, fun j hj s hs => (by rw [← eLL]; exact hseg j hj s hs), fun j hj => hl j (by omega)⟩⟩⟩
end Go.Proofs.Ytkkjdodolnpfmaa
