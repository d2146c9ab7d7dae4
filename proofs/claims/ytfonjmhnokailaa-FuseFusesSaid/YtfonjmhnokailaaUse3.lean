/- The document's answer for votes, by the engine. -/
import Derived.Test.YtfonjmhnokailaaUse2
import Derived.Test.YtfonjmhnokailaaEng33
import Derived.Test.YtfonjmhnokailaaNums
import Derived.KernelRfl
set_option linter.unusedVariables false
set_option linter.unusedSimpArgs false
namespace Go.Proofs.Ytfonjmhnokailaa
open Go Go.RowKit Go.Eng
set_option maxRecDepth 100000
abbrev spv (lo hi : Int) : AV := .agg [.int .i64 lo, .int .i64 hi]
def lo1 (ps : List (Int × Int)) (i : Nat) : Int := (ps.getD i (0, 0)).1
def hi1 (ps : List (Int × Int)) (i : Nat) : Int := (ps.getD i (0, 0)).2
structure BestIs (ok : Nat → Prop) (e : Nat → Int) (le : Int → Int → Prop) (k : Nat) (v : Int) (f : Bool) : Prop where
  no : f = false → v = 0 ∧ ∀ i, i < k → ¬ ok i
  yes : f = true → (∃ i, i < k ∧ ok i ∧ v = e i) ∧ ∀ i, i < k → ok i → le v (e i)
section
variable {ok : Nat → Prop} {e : Nat → Int} {le : Int → Int → Prop} {k : Nat} {v : Int} {f : Bool}
theorem best_start : BestIs ok e le 0 0 false := ⟨fun _ => ⟨rfl, fun i hi => (by omega)⟩, fun h => by cases h⟩
theorem best_no (h : BestIs ok e le k v f) (hn : ¬ ok k) : BestIs ok e le (k + 1) v f := by
  refine ⟨fun hf => ⟨(h.no hf).1, fun i hi => ?_⟩, fun hf => ⟨?_, fun i hi ho => ?_⟩⟩
  · by_cases hk : i = k
    · subst hk; exact hn
    · exact (h.no hf).2 i (by omega)
  · obtain ⟨i, h1, h2, h3⟩ := (h.yes hf).1
    exact ⟨i, by omega, h2, h3⟩
  · by_cases hk : i = k
    · subst hk; exact absurd ho hn
    · exact (h.yes hf).2 i (by omega) ho
theorem best_put (htr : ∀ x y z, le x y → le y z → le x z) (hre : ∀ x, le x x) (h : BestIs ok e le k v f) (ho : ok k) (hv : f = true → le (e k) v) : BestIs ok e le (k + 1) (e k) true := by
  refine ⟨fun h => (by cases h), fun _ => ⟨⟨k, by omega, ho, rfl⟩, fun i hi hoi => ?_⟩⟩
  by_cases hk : i = k
  · subst hk; exact hre _
  · cases f with
    | false => exact absurd hoi ((h.no rfl).2 i (by omega))
    | true => exact htr _ _ _ (hv rfl) ((h.yes rfl).2 i (by omega) hoi)
theorem best_keep (h : BestIs ok e le k v true) (hv : le v (e k)) : BestIs ok e le (k + 1) v true := by
  refine ⟨fun h => (by cases h), fun _ => ⟨?_, fun i hi hoi => ?_⟩⟩
  · obtain ⟨i, h1, h2, h3⟩ := (h.yes rfl).1
    exact ⟨i, by omega, h2, h3⟩
  · by_cases hk : i = k
    · subst hk; exact hv
    · exact (h.yes rfl).2 i (by omega) hoi
end
theorem e_Many' (ps : List (Int × Int)) (es : List (List AV)) (hes : es = spRows ps) (x c : Int) (hc : c = (cnt x ps : Int)) (hlen : ps.length ≤ 1000) : PCalls Try.prog 36 [.list 2 es, .int .i64 x] (· = .int .i64 c) :=
  (e_Many ps es hes x hlen).mono fun r hr => by obtain ⟨n, rfl, h⟩ := hr; rw [hc, h]
def LoOk (ps : List (Int × Int)) (m : Int) (i : Nat) : Prop := m ≤ (cnt (lo1 ps i) ps : Int)
def HiOk (ps : List (Int × Int)) (m : Int) (i : Nat) : Prop := m ≤ (cnt (hi1 ps i) ps : Int)
abbrev sps (lo hi : Int) : Slot := .live 2 [[.int .i64 lo, .int .i64 hi]]

theorem lo_ok {ps : List (Int × Int)} {m l u c : Int} {i : Nat} (hp : ps[i]? = some (l, u)) (hcc : c = (cnt l ps : Int)) : LoOk ps m i ↔ m ≤ c := by
  subst hcc; simp [LoOk, lo1, List.getD, hp]
theorem lo_at {ps : List (Int × Int)} {l u : Int} {i : Nat} (hp : ps[i]? = some (l, u)) : lo1 ps i = l := by simp [lo1, List.getD, hp]
theorem lo_put {ps : List (Int × Int)} {m l u c i x : Int} {f : Bool} (hp : ps[i.toNat]? = some (l, u)) (hcc : c = (cnt l ps : Int)) (h : BestIs (LoOk ps m) (lo1 ps) (· ≤ ·) i.toNat x f) (h0 : 0 ≤ i) (hm : m ≤ c) (hv : f = false ∨ l ≤ x) : BestIs (LoOk ps m) (lo1 ps) (· ≤ ·) (i + 1).toNat l true := by
  rw [show (i + 1).toNat = i.toNat + 1 by omega, ← lo_at hp]
  refine best_put (by intro x y z; omega) (by intro x; omega) h ((lo_ok hp hcc).2 hm) fun hf => ?_
  rw [lo_at hp]
  rcases hv with e | e
  · rw [hf] at e; cases e
  · omega
theorem lo_no {ps : List (Int × Int)} {m l u c i x : Int} {f : Bool} (hp : ps[i.toNat]? = some (l, u)) (hcc : c = (cnt l ps : Int)) (h : BestIs (LoOk ps m) (lo1 ps) (· ≤ ·) i.toNat x f) (h0 : 0 ≤ i) (hm : c < m) : BestIs (LoOk ps m) (lo1 ps) (· ≤ ·) (i + 1).toNat x f := by
  rw [show (i + 1).toNat = i.toNat + 1 by omega]
  exact best_no h fun ho => (by have := (lo_ok hp hcc).1 ho; omega)
theorem lo_keep {ps : List (Int × Int)} {m l u i x : Int} {f : Bool} (hp : ps[i.toNat]? = some (l, u)) (h : BestIs (LoOk ps m) (lo1 ps) (· ≤ ·) i.toNat x f) (h0 : 0 ≤ i) (hf : f = true) (hv : x ≤ l) : BestIs (LoOk ps m) (lo1 ps) (· ≤ ·) (i + 1).toNat x f := by
  rw [show (i + 1).toNat = i.toNat + 1 by omega]
  subst hf
  refine best_keep h ?_
  rw [lo_at hp]; omega

theorem hi_ok {ps : List (Int × Int)} {m l u c : Int} {i : Nat} (hp : ps[i]? = some (l, u)) (hcc : c = (cnt u ps : Int)) : HiOk ps m i ↔ m ≤ c := by
  subst hcc; simp [HiOk, hi1, List.getD, hp]
theorem hi_at {ps : List (Int × Int)} {l u : Int} {i : Nat} (hp : ps[i]? = some (l, u)) : hi1 ps i = u := by simp [hi1, List.getD, hp]
theorem hi_put {ps : List (Int × Int)} {m l u c i x : Int} {f : Bool} (hp : ps[i.toNat]? = some (l, u)) (hcc : c = (cnt u ps : Int)) (h : BestIs (HiOk ps m) (hi1 ps) (· ≥ ·) i.toNat x f) (h0 : 0 ≤ i) (hm : m ≤ c) (hv : f = false ∨ x ≤ u) : BestIs (HiOk ps m) (hi1 ps) (· ≥ ·) (i + 1).toNat u true := by
  rw [show (i + 1).toNat = i.toNat + 1 by omega, ← hi_at hp]
  refine best_put (by intro x y z; omega) (by intro x; omega) h ((hi_ok hp hcc).2 hm) fun hf => ?_
  rw [hi_at hp]
  rcases hv with e | e
  · rw [hf] at e; cases e
  · omega
theorem hi_no {ps : List (Int × Int)} {m l u c i x : Int} {f : Bool} (hp : ps[i.toNat]? = some (l, u)) (hcc : c = (cnt u ps : Int)) (h : BestIs (HiOk ps m) (hi1 ps) (· ≥ ·) i.toNat x f) (h0 : 0 ≤ i) (hm : c < m) : BestIs (HiOk ps m) (hi1 ps) (· ≥ ·) (i + 1).toNat x f := by
  rw [show (i + 1).toNat = i.toNat + 1 by omega]
  exact best_no h fun ho => (by have := (hi_ok hp hcc).1 ho; omega)
theorem hi_keep {ps : List (Int × Int)} {m l u i x : Int} {f : Bool} (hp : ps[i.toNat]? = some (l, u)) (h : BestIs (HiOk ps m) (hi1 ps) (· ≥ ·) i.toNat x f) (h0 : 0 ≤ i) (hf : f = true) (hv : u ≤ x) : BestIs (HiOk ps m) (hi1 ps) (· ≥ ·) (i + 1).toNat x f := by
  rw [show (i + 1).toNat = i.toNat + 1 by omega]
  subst hf
  refine best_keep h ?_
  rw [hi_at hp]; omega

set_option maxHeartbeats 1000000 in
theorem e_By (ps : List (Int × Int)) (es : List (List AV)) (hes : es = spRows ps) (m : Int) (hlen : ps.length ≤ 1000) : PCalls Try.prog 26 [.list 2 es, .int .i64 m] (fun r => ∃ lo hi o f g, r = .tuple [spv lo hi, .bool o] ∧ BestIs (LoOk ps m) (lo1 ps) (· ≤ ·) ps.length lo f ∧ BestIs (HiOk ps m) (hi1 ps) (· ≥ ·) ps.length hi g ∧ o = (f && g)) := by
  have hu : Up0 es := ⟨by rw [hes]; have := up_spRows ps; simpa [AV.upto] using this⟩
  have hel : es.length = ps.length := by rw [hes]; exact len_spRows ps
  have hps := hlen
  (refine PCalls.ofY Try.func26 (by kernel_rfl) (by kernel_rfl) fun w hw R hR => ?_); (obtain ⟨wbin, wcmp, wun, wconv, wnot, wbeq, wmm, wscmp, wsadd, wslen, wsat, weqs, wlen, wnlen, wofNat, wtake, wdrop, wapp, wzero, wnat⟩ := w); (have hbin : wbin = binStd := congrArg Prims.bin hw); (have hcmp : wcmp = cmpStd := congrArg Prims.cmp hw); (have hun : wun = unStd := congrArg Prims.un hw); (have hconv : wconv = fun k n => k.wrap n := congrArg Prims.conv hw); (have hnot : wnot = fun b => !b := congrArg Prims.not hw); (have hbeq : wbeq = fun a b => a == b := congrArg Prims.beq hw); (have hmm : wmm = maxI := congrArg Prims.mm hw); (have hscmp : wscmp = scmpStd := congrArg Prims.scmp hw); (have hsadd : wsadd = fun x y => x ++ y := congrArg Prims.sadd hw); (have hslen : wslen = fun s => (s.size : Int) := congrArg Prims.slen hw); (have hsat : wsat = std.sat := congrArg Prims.sat hw); (have heqs : weqs = fun a b os => (eqOffs a b os).getD false := congrArg Prims.eqs hw); (have hlen : wlen = fun es => (es.length : Int) := congrArg Prims.len hw); (have hnlen : wnlen = fun es => es.length := congrArg Prims.nlen hw); (have hofNat : wofNat = (fun n : Nat => (n : Int)) := congrArg Prims.ofNat hw); (have htake : wtake = fun es b => es.take b.toNat := congrArg Prims.take hw); (have hdrop : wdrop = fun es a => es.drop a.toNat := congrArg Prims.drop hw); (have happ : wapp = fun a b => a ++ b := congrArg Prims.app hw); (have hzero : wzero = fun n z => List.replicate n.toNat z := congrArg Prims.zero hw); (have hnat : wnat = fun n => n.toNat := congrArg Prims.nat hw); (conv => arg 2; cbv); (generalize hP : Try.prog = P); cbv
  (obtain ⟨L, eL, L0, Ln⟩ : ∃ L : Int, wlen es = L ∧ 0 ≤ L ∧ L.toNat = es.length := ⟨(es.length : Int), by rw [hlen], Int.natCast_nonneg _, Int.toNat_natCast _⟩)
  refine Loop.data hw (S := Int × Int × Bool) (fun s => fr 86 [(0, .list 2 es), (1, .int .i64 m), (4, .ref 0 2 0 0), (6, .ref 1 2 0 0), (7, .bool s.2.2), (8, .int .i64 s.1)]) (fun s => [sps 0 0, sps s.2.1 0]) (fun s => 0 ≤ s.1 ∧ s.1 ≤ L ∧ BestIs (LoOk ps m) (lo1 ps) (· ≤ ·) s.1.toNat s.2.1 s.2.2) (fun s => (L - s.1).toNat) (0, 0, false) (by (refine Wk.eqz (id) (by first | exact fun i _ j _ e => e | (simp only [List.length_cons, List.length_nil]; decide)) ?_; cbv; (repeat' (first | exact trivial | rfl | assumption | apply And.intro | (simp only [hbin, hcmp, hun, hconv, hnot, hbeq, hmm, hscmp, hsadd, hslen, hsat, heqs, hofNat, binStd, cmpStd, unStd, scmpStd, maxI, Bool.not_eq_true', Bool.not_eq_false', decide_eq_true_eq, decide_eq_false_iff_not, Int.not_lt, Int.not_le, if_true, if_false, Bool.false_eq_true, beq_iff_eq, bne_iff_ne, ne_eq, Bool.not_eq_eq_eq_not, Bool.not_true, Bool.not_false, beq_eq_false_iff_ne, bne_eq_false_iff_eq, Int.ofNat_eq_natCast, Bool.not_not, not_true_eq_false, not_false_eq_true, reduceCtorEq]; first | done | assumption) | exact RowsZ.same (by assumption) (by first | assumption | rfl) | exact FzL.mk rfl rfl rfl (by assumption) (by first | assumption | rfl) (by decide) | (refine RowsZ.one ?_; cbv))))) ⟨Int.le_refl _, L0, best_start⟩ ?_
  rintro ⟨i, lo, f⟩ hinv Q' hN hE hR'
  have hinv : 0 ≤ i ∧ i ≤ L ∧ BestIs (LoOk ps m) (lo1 ps) (· ≤ ·) i.toNat lo f := hinv
  cbv
  obtain ⟨hi0, hi1, hn⟩ := hinv
  (split <;> rename_i hc <;> (try (simp only [eL] at hc)) <;> (try (simp only [hbin, hcmp, hun, hconv, hnot, hbeq, hmm, hscmp, hsadd, hslen, hsat, heqs, hofNat, binStd, cmpStd, unStd, scmpStd, maxI, Bool.not_eq_true', Bool.not_eq_false', decide_eq_true_eq, decide_eq_false_iff_not, Int.not_lt, Int.not_le, if_true, if_false, Bool.false_eq_true, beq_iff_eq, bne_iff_ne, ne_eq, Bool.not_eq_eq_eq_not, Bool.not_true, Bool.not_false, beq_eq_false_iff_ne, bne_eq_false_iff_eq, Int.ofNat_eq_natCast, Bool.not_not, not_true_eq_false, not_false_eq_true, reduceCtorEq] at hc)) <;> (try cbv))
  · obtain ⟨l, u, hp, hr⟩ := get_sp ps i hi0 (by omega)
    have hr : es[i.toNat]? = some [.int .i64 l, .int .i64 u] := by rw [hes]; exact hr
    obtain ⟨i', ei'⟩ : ∃ x, i + 1 = x := ⟨_, rfl⟩
    have ei : wbin .add .i64 i 1 = i' := by rw [hbin, i_add (by omega) (by omega)]; exact ei'
    have hT : (L - i').toNat < (L - i).toNat := by omega
    obtain ⟨c, hcc⟩ : ∃ c : Int, c = (cnt l ps : Int) := ⟨_, rfl⟩
    have hM := e_Many' ps es hes l c hcc hps
    refine Idx.mk [.int .i64 l, .int .i64 u] hi0 hr ?_
    cbv
    refine QCal.stepE (by rw [← hP]; exact hM) (by exact Up0.one hu rfl) ?_
    cbv
    repeat' (first
      | (refine Idx.mk [.int .i64 l, .int .i64 u] hi0 hr ?_; cbv)
      | (split <;> rename_i h <;> (try (simp only [eL] at h)) <;> (try (simp only [hbin, hcmp, hun, hconv, hnot, hbeq, hmm, hscmp, hsadd, hslen, hsat, heqs, hofNat, binStd, cmpStd, unStd, scmpStd, maxI, Bool.not_eq_true', Bool.not_eq_false', decide_eq_true_eq, decide_eq_false_iff_not, Int.not_lt, Int.not_le, if_true, if_false, Bool.false_eq_true, beq_iff_eq, bne_iff_ne, ne_eq, Bool.not_eq_eq_eq_not, Bool.not_true, Bool.not_false, beq_eq_false_iff_ne, bne_eq_false_iff_eq, Int.ofNat_eq_natCast, Bool.not_not, not_true_eq_false, not_false_eq_true, reduceCtorEq] at h)) <;> (try cbv)))
    all_goals
      simp only [ei]
      first
        | (refine hN (i', l, true) _ _ ?hx ?hi hT
           case hx => (refine Wk.eqz (id) (by first | exact fun i _ j _ e => e | (simp only [List.length_cons, List.length_nil]; decide)) ?_; cbv; (repeat' (first | exact trivial | rfl | assumption | apply And.intro | (simp only [hbin, hcmp, hun, hconv, hnot, hbeq, hmm, hscmp, hsadd, hslen, hsat, heqs, hofNat, binStd, cmpStd, unStd, scmpStd, maxI, Bool.not_eq_true', Bool.not_eq_false', decide_eq_true_eq, decide_eq_false_iff_not, Int.not_lt, Int.not_le, if_true, if_false, Bool.false_eq_true, beq_iff_eq, bne_iff_ne, ne_eq, Bool.not_eq_eq_eq_not, Bool.not_true, Bool.not_false, beq_eq_false_iff_ne, bne_eq_false_iff_eq, Int.ofNat_eq_natCast, Bool.not_not, not_true_eq_false, not_false_eq_true, reduceCtorEq]; first | done | assumption) | exact RowsZ.same (by assumption) (by first | assumption | rfl) | exact FzL.mk rfl rfl rfl (by assumption) (by first | assumption | rfl) (by decide) | (refine RowsZ.one ?_; cbv))))
           case hi =>
             refine ⟨by omega, by omega, ?_⟩
             rw [← ei']
             refine lo_put hp hcc hn hi0 ?c1 ?c2
             case c1 => first | assumption | omega
             case c2 => first | exact .inl rfl | (refine .inl ?_; assumption) | (refine .inr (Int.le_of_lt ?_); assumption) | (refine .inr ?_; omega))
        | (refine hN (i', lo, f) _ _ ?hx ?hi hT
           case hx => (refine Wk.eqz (id) (by first | exact fun i _ j _ e => e | (simp only [List.length_cons, List.length_nil]; decide)) ?_; cbv; (repeat' (first | exact trivial | rfl | assumption | apply And.intro | (simp only [hbin, hcmp, hun, hconv, hnot, hbeq, hmm, hscmp, hsadd, hslen, hsat, heqs, hofNat, binStd, cmpStd, unStd, scmpStd, maxI, Bool.not_eq_true', Bool.not_eq_false', decide_eq_true_eq, decide_eq_false_iff_not, Int.not_lt, Int.not_le, if_true, if_false, Bool.false_eq_true, beq_iff_eq, bne_iff_ne, ne_eq, Bool.not_eq_eq_eq_not, Bool.not_true, Bool.not_false, beq_eq_false_iff_ne, bne_eq_false_iff_eq, Int.ofNat_eq_natCast, Bool.not_not, not_true_eq_false, not_false_eq_true, reduceCtorEq]; first | done | assumption) | exact RowsZ.same (by assumption) (by first | assumption | rfl) | exact FzL.mk rfl rfl rfl (by assumption) (by first | assumption | rfl) (by decide) | (refine RowsZ.one ?_; cbv))))
           case hi =>
             refine ⟨by omega, by omega, ?_⟩
             rw [← ei']
             first
               | (refine lo_no hp hcc hn hi0 ?_; first | assumption | omega)
               | (refine lo_keep hp hn hi0 ?_ ?_ <;> first | rfl | assumption | omega))
        | (refine hN (i', lo, true) _ _ ?hx ?hi hT
           case hx => (refine Wk.eqz (id) (by first | exact fun i _ j _ e => e | (simp only [List.length_cons, List.length_nil]; decide)) ?_; cbv; (repeat' (first | exact trivial | rfl | assumption | apply And.intro | (simp only [hbin, hcmp, hun, hconv, hnot, hbeq, hmm, hscmp, hsadd, hslen, hsat, heqs, hofNat, binStd, cmpStd, unStd, scmpStd, maxI, Bool.not_eq_true', Bool.not_eq_false', decide_eq_true_eq, decide_eq_false_iff_not, Int.not_lt, Int.not_le, if_true, if_false, Bool.false_eq_true, beq_iff_eq, bne_iff_ne, ne_eq, Bool.not_eq_eq_eq_not, Bool.not_true, Bool.not_false, beq_eq_false_iff_ne, bne_eq_false_iff_eq, Int.ofNat_eq_natCast, Bool.not_not, not_true_eq_false, not_false_eq_true, reduceCtorEq]; first | done | assumption) | exact RowsZ.same (by assumption) (by first | assumption | rfl) | exact FzL.mk rfl rfl rfl (by assumption) (by first | assumption | rfl) (by decide) | (refine RowsZ.one ?_; cbv))))
           case hi =>
             refine ⟨by omega, by omega, ?_⟩
             rw [← ei']
             first
               | (refine lo_no hp hcc hn hi0 ?_; first | assumption | omega)
               | (refine lo_keep hp hn hi0 ?_ ?_ <;> first | rfl | assumption | omega))
        | (refine hN (i', lo, false) _ _ ?hx ?hi hT
           case hx => (refine Wk.eqz (id) (by first | exact fun i _ j _ e => e | (simp only [List.length_cons, List.length_nil]; decide)) ?_; cbv; (repeat' (first | exact trivial | rfl | assumption | apply And.intro | (simp only [hbin, hcmp, hun, hconv, hnot, hbeq, hmm, hscmp, hsadd, hslen, hsat, heqs, hofNat, binStd, cmpStd, unStd, scmpStd, maxI, Bool.not_eq_true', Bool.not_eq_false', decide_eq_true_eq, decide_eq_false_iff_not, Int.not_lt, Int.not_le, if_true, if_false, Bool.false_eq_true, beq_iff_eq, bne_iff_ne, ne_eq, Bool.not_eq_eq_eq_not, Bool.not_true, Bool.not_false, beq_eq_false_iff_ne, bne_eq_false_iff_eq, Int.ofNat_eq_natCast, Bool.not_not, not_true_eq_false, not_false_eq_true, reduceCtorEq]; first | done | assumption) | exact RowsZ.same (by assumption) (by first | assumption | rfl) | exact FzL.mk rfl rfl rfl (by assumption) (by first | assumption | rfl) (by decide) | (refine RowsZ.one ?_; cbv))))
           case hi =>
             refine ⟨by omega, by omega, ?_⟩
             rw [← ei']
             first
               | (refine lo_no hp hcc hn hi0 ?_; first | assumption | omega)
               | (refine lo_keep hp hn hi0 ?_ ?_ <;> first | rfl | assumption | omega))
  · refine hE _ _ _ ?_
    cbv
    have e : i.toNat = ps.length := by omega
    rw [e] at hn
    clear hN hE hR' hc hi0 hi1
    rename_i w0 _
    refine Loop.data hw (S := Int × Int × Bool) (fun s => fr 86 [(0, .list 2 es), (1, .int .i64 m), (4, .ref 0 2 0 0), (6, .ref 1 2 0 0), (7, .bool f), (9, .bool s.2.2), (10, .int .i64 s.1)]) (fun s => [sps 0 0, sps lo s.2.1]) (fun s => 0 ≤ s.1 ∧ s.1 ≤ L ∧ BestIs (HiOk ps m) (hi1 ps) (· ≥ ·) s.1.toNat s.2.1 s.2.2) (fun s => (L - s.1).toNat) (0, 0, false) (by (refine Wk.eqz (id) (by first | exact fun i _ j _ e => e | (simp only [List.length_cons, List.length_nil]; decide)) ?_; cbv; (repeat' (first | exact trivial | rfl | assumption | apply And.intro | (simp only [hbin, hcmp, hun, hconv, hnot, hbeq, hmm, hscmp, hsadd, hslen, hsat, heqs, hofNat, binStd, cmpStd, unStd, scmpStd, maxI, Bool.not_eq_true', Bool.not_eq_false', decide_eq_true_eq, decide_eq_false_iff_not, Int.not_lt, Int.not_le, if_true, if_false, Bool.false_eq_true, beq_iff_eq, bne_iff_ne, ne_eq, Bool.not_eq_eq_eq_not, Bool.not_true, Bool.not_false, beq_eq_false_iff_ne, bne_eq_false_iff_eq, Int.ofNat_eq_natCast, Bool.not_not, not_true_eq_false, not_false_eq_true, reduceCtorEq]; first | done | assumption) | exact RowsZ.same (by assumption) (by first | assumption | rfl) | exact FzL.mk rfl rfl rfl (by assumption) (by first | assumption | rfl) (by decide) | (refine RowsZ.one ?_; cbv))))) ⟨Int.le_refl _, L0, best_start⟩ ?_
    rintro ⟨i, hi, g⟩ hinv Q' hN hE hR'
    have hinv : 0 ≤ i ∧ i ≤ L ∧ BestIs (HiOk ps m) (Go.Proofs.Ytfonjmhnokailaa.hi1 ps) (· ≥ ·) i.toNat hi g := hinv
    cbv
    obtain ⟨hi0, hi1, hk⟩ := hinv
    (split <;> rename_i hc <;> (try (simp only [eL] at hc)) <;> (try (simp only [hbin, hcmp, hun, hconv, hnot, hbeq, hmm, hscmp, hsadd, hslen, hsat, heqs, hofNat, binStd, cmpStd, unStd, scmpStd, maxI, Bool.not_eq_true', Bool.not_eq_false', decide_eq_true_eq, decide_eq_false_iff_not, Int.not_lt, Int.not_le, if_true, if_false, Bool.false_eq_true, beq_iff_eq, bne_iff_ne, ne_eq, Bool.not_eq_eq_eq_not, Bool.not_true, Bool.not_false, beq_eq_false_iff_ne, bne_eq_false_iff_eq, Int.ofNat_eq_natCast, Bool.not_not, not_true_eq_false, not_false_eq_true, reduceCtorEq] at hc)) <;> (try cbv))
    · obtain ⟨l, u, hp, hr⟩ := get_sp ps i hi0 (by omega)
      have hr : es[i.toNat]? = some [.int .i64 l, .int .i64 u] := by rw [hes]; exact hr
      obtain ⟨i', ei'⟩ : ∃ x, i + 1 = x := ⟨_, rfl⟩
      have ei : wbin .add .i64 i 1 = i' := by rw [hbin, i_add (by omega) (by omega)]; exact ei'
      have hT : (L - i').toNat < (L - i).toNat := by omega
      obtain ⟨c, hcc⟩ : ∃ c : Int, c = (cnt u ps : Int) := ⟨_, rfl⟩
      have hM := e_Many' ps es hes u c hcc hps
      refine Idx.mk [.int .i64 l, .int .i64 u] hi0 hr ?_
      cbv
      refine QCal.stepE (by rw [← hP]; exact hM) (by exact Up0.one hu rfl) ?_
      cbv
      repeat' (first
        | (refine Idx.mk [.int .i64 l, .int .i64 u] hi0 hr ?_; cbv)
        | (split <;> rename_i h <;> (try (simp only [eL] at h)) <;> (try (simp only [hbin, hcmp, hun, hconv, hnot, hbeq, hmm, hscmp, hsadd, hslen, hsat, heqs, hofNat, binStd, cmpStd, unStd, scmpStd, maxI, Bool.not_eq_true', Bool.not_eq_false', decide_eq_true_eq, decide_eq_false_iff_not, Int.not_lt, Int.not_le, if_true, if_false, Bool.false_eq_true, beq_iff_eq, bne_iff_ne, ne_eq, Bool.not_eq_eq_eq_not, Bool.not_true, Bool.not_false, beq_eq_false_iff_ne, bne_eq_false_iff_eq, Int.ofNat_eq_natCast, Bool.not_not, not_true_eq_false, not_false_eq_true, reduceCtorEq] at h)) <;> (try cbv)))
      all_goals
        simp only [ei]
        first
          | (refine hN (i', u, true) _ _ ?hx ?hi hT
             case hx => (refine Wk.eqz (id) (by first | exact fun i _ j _ e => e | (simp only [List.length_cons, List.length_nil]; decide)) ?_; cbv; (repeat' (first | exact trivial | rfl | assumption | apply And.intro | (simp only [hbin, hcmp, hun, hconv, hnot, hbeq, hmm, hscmp, hsadd, hslen, hsat, heqs, hofNat, binStd, cmpStd, unStd, scmpStd, maxI, Bool.not_eq_true', Bool.not_eq_false', decide_eq_true_eq, decide_eq_false_iff_not, Int.not_lt, Int.not_le, if_true, if_false, Bool.false_eq_true, beq_iff_eq, bne_iff_ne, ne_eq, Bool.not_eq_eq_eq_not, Bool.not_true, Bool.not_false, beq_eq_false_iff_ne, bne_eq_false_iff_eq, Int.ofNat_eq_natCast, Bool.not_not, not_true_eq_false, not_false_eq_true, reduceCtorEq]; first | done | assumption) | exact RowsZ.same (by assumption) (by first | assumption | rfl) | exact FzL.mk rfl rfl rfl (by assumption) (by first | assumption | rfl) (by decide) | (refine RowsZ.one ?_; cbv))))
             case hi =>
               refine ⟨by omega, by omega, ?_⟩
               rw [← ei']
               refine hi_put hp hcc hk hi0 ?c1 ?c2
               case c1 => first | assumption | omega
               case c2 => first | exact .inl rfl | (refine .inl ?_; assumption) | (refine .inr (Int.le_of_lt ?_); assumption) | (refine .inr ?_; omega))
          | (refine hN (i', hi, g) _ _ ?hx ?hi hT
             case hx => (refine Wk.eqz (id) (by first | exact fun i _ j _ e => e | (simp only [List.length_cons, List.length_nil]; decide)) ?_; cbv; (repeat' (first | exact trivial | rfl | assumption | apply And.intro | (simp only [hbin, hcmp, hun, hconv, hnot, hbeq, hmm, hscmp, hsadd, hslen, hsat, heqs, hofNat, binStd, cmpStd, unStd, scmpStd, maxI, Bool.not_eq_true', Bool.not_eq_false', decide_eq_true_eq, decide_eq_false_iff_not, Int.not_lt, Int.not_le, if_true, if_false, Bool.false_eq_true, beq_iff_eq, bne_iff_ne, ne_eq, Bool.not_eq_eq_eq_not, Bool.not_true, Bool.not_false, beq_eq_false_iff_ne, bne_eq_false_iff_eq, Int.ofNat_eq_natCast, Bool.not_not, not_true_eq_false, not_false_eq_true, reduceCtorEq]; first | done | assumption) | exact RowsZ.same (by assumption) (by first | assumption | rfl) | exact FzL.mk rfl rfl rfl (by assumption) (by first | assumption | rfl) (by decide) | (refine RowsZ.one ?_; cbv))))
             case hi =>
               refine ⟨by omega, by omega, ?_⟩
               rw [← ei']
               first
                 | (refine hi_no hp hcc hk hi0 ?_; first | assumption | omega)
                 | (refine hi_keep hp hk hi0 ?_ ?_ <;> first | rfl | assumption | omega))
          | (refine hN (i', hi, true) _ _ ?hx ?hi hT
             case hx => (refine Wk.eqz (id) (by first | exact fun i _ j _ e => e | (simp only [List.length_cons, List.length_nil]; decide)) ?_; cbv; (repeat' (first | exact trivial | rfl | assumption | apply And.intro | (simp only [hbin, hcmp, hun, hconv, hnot, hbeq, hmm, hscmp, hsadd, hslen, hsat, heqs, hofNat, binStd, cmpStd, unStd, scmpStd, maxI, Bool.not_eq_true', Bool.not_eq_false', decide_eq_true_eq, decide_eq_false_iff_not, Int.not_lt, Int.not_le, if_true, if_false, Bool.false_eq_true, beq_iff_eq, bne_iff_ne, ne_eq, Bool.not_eq_eq_eq_not, Bool.not_true, Bool.not_false, beq_eq_false_iff_ne, bne_eq_false_iff_eq, Int.ofNat_eq_natCast, Bool.not_not, not_true_eq_false, not_false_eq_true, reduceCtorEq]; first | done | assumption) | exact RowsZ.same (by assumption) (by first | assumption | rfl) | exact FzL.mk rfl rfl rfl (by assumption) (by first | assumption | rfl) (by decide) | (refine RowsZ.one ?_; cbv))))
             case hi =>
               refine ⟨by omega, by omega, ?_⟩
               rw [← ei']
               first
                 | (refine hi_no hp hcc hk hi0 ?_; first | assumption | omega)
                 | (refine hi_keep hp hk hi0 ?_ ?_ <;> first | rfl | assumption | omega))
          | (refine hN (i', hi, false) _ _ ?hx ?hi hT
             case hx => (refine Wk.eqz (id) (by first | exact fun i _ j _ e => e | (simp only [List.length_cons, List.length_nil]; decide)) ?_; cbv; (repeat' (first | exact trivial | rfl | assumption | apply And.intro | (simp only [hbin, hcmp, hun, hconv, hnot, hbeq, hmm, hscmp, hsadd, hslen, hsat, heqs, hofNat, binStd, cmpStd, unStd, scmpStd, maxI, Bool.not_eq_true', Bool.not_eq_false', decide_eq_true_eq, decide_eq_false_iff_not, Int.not_lt, Int.not_le, if_true, if_false, Bool.false_eq_true, beq_iff_eq, bne_iff_ne, ne_eq, Bool.not_eq_eq_eq_not, Bool.not_true, Bool.not_false, beq_eq_false_iff_ne, bne_eq_false_iff_eq, Int.ofNat_eq_natCast, Bool.not_not, not_true_eq_false, not_false_eq_true, reduceCtorEq]; first | done | assumption) | exact RowsZ.same (by assumption) (by first | assumption | rfl) | exact FzL.mk rfl rfl rfl (by assumption) (by first | assumption | rfl) (by decide) | (refine RowsZ.one ?_; cbv))))
             case hi =>
               refine ⟨by omega, by omega, ?_⟩
               rw [← ei']
               first
                 | (refine hi_no hp hcc hk hi0 ?_; first | assumption | omega)
                 | (refine hi_keep hp hk hi0 ?_ ?_ <;> first | rfl | assumption | omega))
    · refine hE _ _ _ ?_
      cbv
      have e : i.toNat = ps.length := by omega
      rw [e] at hk
      cases f <;> exact ⟨_, Vw.same rfl, hR _ ⟨_, _, _, _, _, rfl, hn, hk, rfl⟩⟩
end Go.Proofs.Ytfonjmhnokailaa
