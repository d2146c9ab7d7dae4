/- The least limit, by the engine. Printed by wip/tools/genlim.py. -/
import Derived.Test.YtkkjdodolnpfmaaLim0
import Derived.Test.YtkkjdodolnpfmaaEng26
import Derived.KernelRfl
set_option linter.unusedVariables false
set_option linter.unusedSimpArgs false
namespace Go.Proofs.Ytkkjdodolnpfmaa
open Go Go.RowKit Go.Eng
set_option maxRecDepth 100000
/-- The least speed of those limits that are asked. -/
def LeastIs (p : Li → Bool) (l : List Li) (out : Int) (f : Bool) : Prop :=
  (f = true → (∃ x, x ∈ l ∧ p x = true ∧ x.v = out) ∧ ∀ x, x ∈ l → p x = true → out ≤ x.v) ∧ (f = false → out = 0 ∧ ∀ x, x ∈ l → p x = false)
theorem least_nil (p : Li → Bool) : LeastIs p [] 0 false := ⟨fun h => (by cases h), fun _ => ⟨rfl, fun x hx => (by cases hx)⟩⟩
theorem least_no {p : Li → Bool} {l : List Li} {out : Int} {f : Bool} {x : Li} (h : LeastIs p l out f) (hx : p x = false) : LeastIs p (l ++ [x]) out f := by
  refine ⟨fun hf => ?_, fun hf => ?_⟩
  · obtain ⟨⟨y, h1, h2, h3⟩, h4⟩ := h.1 hf
    refine ⟨⟨y, List.mem_append_left _ h1, h2, h3⟩, fun z hz hp => ?_⟩
    rcases List.mem_append.1 hz with hz | hz
    · exact h4 z hz hp
    · simp at hz; subst hz; rw [hx] at hp; cases hp
  · obtain ⟨h1, h2⟩ := h.2 hf
    refine ⟨h1, fun z hz => ?_⟩
    rcases List.mem_append.1 hz with hz | hz
    · exact h2 z hz
    · simp at hz; subst hz; exact hx
theorem least_put {p : Li → Bool} {l : List Li} {out : Int} {f : Bool} {x : Li} (h : LeastIs p l out f) (hx : p x = true) (hv : f = false ∨ x.v < out) : LeastIs p (l ++ [x]) x.v true := by
  refine ⟨fun _ => ⟨⟨x, by simp, hx, rfl⟩, fun z hz hp => ?_⟩, fun hf => by cases hf⟩
  rcases List.mem_append.1 hz with hz | hz
  · cases f with
    | false => rw [(h.2 rfl).2 z hz] at hp; cases hp
    | true =>
      have := (h.1 rfl).2 z hz hp
      rcases hv with hv | hv
      · cases hv
      · omega
  · simp at hz; subst hz; exact Int.le_refl _
theorem least_keep {p : Li → Bool} {l : List Li} {out : Int} {f : Bool} {x : Li} (h : LeastIs p l out f) (hf : f = true) (hv : out ≤ x.v) : LeastIs p (l ++ [x]) out f := by
  subst hf
  obtain ⟨⟨y, h1, h2, h3⟩, h4⟩ := h.1 rfl
  refine ⟨fun _ => ⟨⟨y, List.mem_append_left _ h1, h2, h3⟩, fun z hz hp => ?_⟩, fun hf => by cases hf⟩
  rcases List.mem_append.1 hz with hz | hz
  · exact h4 z hz hp
  · simp at hz; subst hz; exact hv
theorem least_eq {p : Li → Bool} {l : List Li} {out out2 : Int} {f f2 : Bool} (h : LeastIs p l out f) (k : LeastIs p l out2 f2) : out = out2 ∧ f = f2 := by
  cases f <;> cases f2
  · exact ⟨(h.2 rfl).1.trans (k.2 rfl).1.symm, rfl⟩
  · obtain ⟨x, h1, h2, _⟩ := (k.1 rfl).1
    rw [(h.2 rfl).2 x h1] at h2; cases h2
  · obtain ⟨x, h1, h2, _⟩ := (h.1 rfl).1
    rw [(k.2 rfl).2 x h1] at h2; cases h2
  · obtain ⟨⟨x, h1, h2, h3⟩, h4⟩ := h.1 rfl
    obtain ⟨⟨y, k1, k2, k3⟩, k4⟩ := k.1 rfl
    have := h4 y k1 k2
    have := k4 x h1 h2
    exact ⟨by omega, rfl⟩
structure Lw where
  i : Int
  out : Int
  f : Bool
/-- A spot. -/
structure Spt where
  s : Int
  lo : Int
  hi : Int
def sptRow (x : Spt) : List AV := [.int .i64 x.s, .int .i64 x.lo, .int .i64 x.hi]
def pAt (s0 a0 : Int) (x : Li) : Bool := x.s == s0 && decide (x.a ≤ a0) && decide (a0 ≤ x.b)
def pMeet (x : Li) (y : Spt) : Bool := y.s == x.s && decide (y.lo ≤ x.b) && decide (x.a ≤ y.hi)
theorem e_leastA (ls : List Li) (es : List (List AV)) (hes : es = ls.map liRow) (s0 a0 : Int) (g : Nat) (p : Li → Bool) (hg : ∀ s a b v, PCalls Try.prog g [.agg [.int .i64 s, .int .i64 a, .int .i64 b, .int .i64 v], .cref [.int .i64 s0], .cref [.int .i64 a0]] (· = .bool (p ⟨s, a, b, v⟩))) (hmax : ls.length ≤ 1000) : PCalls Try.prog 38 [.list 4 es, .func (.func g) [] [.cref [.int .i64 s0], .cref [.int .i64 a0]]] (fun r => ∃ out f, r = .tuple [.int .i64 out, .bool f] ∧ LeastIs p ls out f) := by
  have hu : Up0 es := by rw [hes]; exact up_map (f := liRow) (fun d => rfl) ls
  have hel : es.length = ls.length := by rw [hes]; simp
  (refine PCalls.ofY Try.func38 (by kernel_rfl) (by kernel_rfl) fun w hw R hR => ?_); (obtain ⟨wbin, wcmp, wun, wconv, wnot, wbeq, wmm, wscmp, wsadd, wslen, wsat, weqs, wlen, wnlen, wofNat, wtake, wdrop, wapp, wzero, wnat⟩ := w); (have hbin : wbin = binStd := congrArg Prims.bin hw); (have hcmp : wcmp = cmpStd := congrArg Prims.cmp hw); (have hun : wun = unStd := congrArg Prims.un hw); (have hconv : wconv = fun k n => k.wrap n := congrArg Prims.conv hw); (have hnot : wnot = fun b => !b := congrArg Prims.not hw); (have hbeq : wbeq = fun a b => a == b := congrArg Prims.beq hw); (have hmm : wmm = maxI := congrArg Prims.mm hw); (have hscmp : wscmp = scmpStd := congrArg Prims.scmp hw); (have hsadd : wsadd = fun x y => x ++ y := congrArg Prims.sadd hw); (have hslen : wslen = fun s => (s.size : Int) := congrArg Prims.slen hw); (have hsat : wsat = std.sat := congrArg Prims.sat hw); (have heqs : weqs = fun a b os => (eqOffs a b os).getD false := congrArg Prims.eqs hw); (have hlen : wlen = fun es => (es.length : Int) := congrArg Prims.len hw); (have hnlen : wnlen = fun es => es.length := congrArg Prims.nlen hw); (have hofNat : wofNat = (fun n : Nat => (n : Int)) := congrArg Prims.ofNat hw); (have htake : wtake = fun es b => es.take b.toNat := congrArg Prims.take hw); (have hdrop : wdrop = fun es a => es.drop a.toNat := congrArg Prims.drop hw); (have happ : wapp = fun a b => a ++ b := congrArg Prims.app hw); (have hzero : wzero = fun n z => List.replicate n.toNat z := congrArg Prims.zero hw); (have hnat : wnat = fun n => n.toNat := congrArg Prims.nat hw); (conv => arg 2; cbv); (generalize hP : Try.prog = P); cbv
  (obtain ⟨L, eL, L0, Ln⟩ : ∃ L : Int, wlen es = L ∧ 0 ≤ L ∧ L.toNat = es.length := ⟨(es.length : Int), by rw [hlen], Int.natCast_nonneg _, Int.toNat_natCast _⟩)
  refine Loop.data hw (S := Lw) (fun s => fr 34 [(1, .func (.func g) [] [.cref [.int .i64 s0], .cref [.int .i64 a0]]), (6, .int .i64 s.out), (7, .bool s.f), (10, .list 4 es), (11, .int .i64 L), (12, .int .i64 s.i)]) (fun s => []) (fun s => 0 ≤ s.i ∧ s.i ≤ L ∧ LeastIs p (ls.take s.i.toNat) s.out s.f) (fun s => (L - s.i).toNat) ⟨0, 0, false⟩ (by (refine Wk.eqz (id) (by first | exact fun i _ j _ e => e | (simp only [List.length_cons, List.length_nil]; decide)) ?_; cbv; (repeat' (first | exact trivial | rfl | assumption | apply And.intro | (simp only [hbin, hcmp, hun, hconv, hnot, hbeq, hmm, hscmp, hsadd, hslen, hsat, heqs, hofNat, binStd, cmpStd, unStd, scmpStd, maxI, Bool.not_eq_true', Bool.not_eq_false', decide_eq_true_eq, decide_eq_false_iff_not, Int.not_lt, Int.not_le, if_true, if_false, Bool.false_eq_true, beq_iff_eq, bne_iff_ne, ne_eq, Bool.not_eq_eq_eq_not, Bool.not_true, Bool.not_false, beq_eq_false_iff_ne, bne_eq_false_iff_eq, Int.ofNat_eq_natCast, Bool.not_not, not_true_eq_false, not_false_eq_true, reduceCtorEq]; first | done | assumption) | exact RowsZ.same (by assumption) (by first | assumption | rfl) | exact FzL.mk rfl rfl rfl (by assumption) (by first | assumption | rfl) (by decide) | (refine RowsZ.one ?_; cbv))))) ⟨Int.le_refl _, L0, least_nil p⟩ ?_
  rintro ⟨i, out, f⟩ hinv Q' hN hE hR'
  have hinv : 0 ≤ i ∧ i ≤ L ∧ LeastIs p (ls.take i.toNat) out f := hinv
  cbv
  obtain ⟨hi0, hi1, hl⟩ := hinv
  (split <;> rename_i hc <;> (try (simp only [hbin, hcmp, hun, hconv, hnot, hbeq, hmm, hscmp, hsadd, hslen, hsat, heqs, hofNat, binStd, cmpStd, unStd, scmpStd, maxI, Bool.not_eq_true', Bool.not_eq_false', decide_eq_true_eq, decide_eq_false_iff_not, Int.not_lt, Int.not_le, if_true, if_false, Bool.false_eq_true, beq_iff_eq, bne_iff_ne, ne_eq, Bool.not_eq_eq_eq_not, Bool.not_true, Bool.not_false, beq_eq_false_iff_ne, bne_eq_false_iff_eq, Int.ofNat_eq_natCast, Bool.not_not, not_true_eq_false, not_false_eq_true, reduceCtorEq] at hc)) <;> (try cbv))
  · obtain ⟨⟨s, a, b, v⟩, hd, hrow⟩ := get_map (f := liRow) (ds := ls) (i := i) hi0 (by omega)
    have hrow : es[i.toNat]? = some [.int .i64 s, .int .i64 a, .int .i64 b, .int .i64 v] := by rw [hes]; exact hrow
    refine Idx.mk [.int .i64 s, .int .i64 a, .int .i64 b, .int .i64 v] hi0 hrow ?_
    cbv
    have hlen2 := (List.getElem?_eq_some_iff.1 hd).1
    refine Call.stepE (by rw [← hP]; exact hg s a b v) (by exact rfl) ?_
    obtain ⟨i', ei'⟩ : ∃ x, i + 1 = x := ⟨_, rfl⟩
    have hL2 : L < 9223372036854775807 := by omega
    have ei : wbin .add .i64 i 1 = i' := by rw [hbin, i_add (by omega) (by omega)]; exact ei'
    have hT : (L - i').toNat < (L - i).toNat := by omega
    have ht : ls.take i'.toNat = ls.take i.toNat ++ [⟨s, a, b, v⟩] := by rw [← ei', show (i + 1).toNat = i.toNat + 1 by omega, List.take_add_one, hd]; rfl
    have k1 := least_no (p := p) (x := ⟨s, a, b, v⟩) hl
    have k2 := least_put (p := p) (x := ⟨s, a, b, v⟩) hl
    have k3 := least_keep (p := p) (x := ⟨s, a, b, v⟩) hl
    rw [← ht] at k1 k2 k3
    obtain ⟨o, eo⟩ : ∃ x, p ⟨s, a, b, v⟩ = x := ⟨_, rfl⟩
    rw [eo] at k1 k2 ⊢
    cbv
    repeat' (split <;> rename_i h <;> (try (simp only [hbin, hcmp, hun, hconv, hnot, hbeq, hmm, hscmp, hsadd, hslen, hsat, heqs, hofNat, binStd, cmpStd, unStd, scmpStd, maxI, Bool.not_eq_true', Bool.not_eq_false', decide_eq_true_eq, decide_eq_false_iff_not, Int.not_lt, Int.not_le, if_true, if_false, Bool.false_eq_true, beq_iff_eq, bne_iff_ne, ne_eq, Bool.not_eq_eq_eq_not, Bool.not_true, Bool.not_false, beq_eq_false_iff_ne, bne_eq_false_iff_eq, Int.ofNat_eq_natCast, Bool.not_not, not_true_eq_false, not_false_eq_true, reduceCtorEq] at h)) <;> (try cbv))
    all_goals first
      | (refine hN ⟨i', v, true⟩ _ _ ?hx ?hi hT; (case hx => (refine Wk.eqz (id) (by first | exact fun i _ j _ e => e | (simp only [List.length_cons, List.length_nil]; decide)) ?_; cbv; (repeat' (first | exact trivial | rfl | assumption | apply And.intro | (simp only [hbin, hcmp, hun, hconv, hnot, hbeq, hmm, hscmp, hsadd, hslen, hsat, heqs, hofNat, binStd, cmpStd, unStd, scmpStd, maxI, Bool.not_eq_true', Bool.not_eq_false', decide_eq_true_eq, decide_eq_false_iff_not, Int.not_lt, Int.not_le, if_true, if_false, Bool.false_eq_true, beq_iff_eq, bne_iff_ne, ne_eq, Bool.not_eq_eq_eq_not, Bool.not_true, Bool.not_false, beq_eq_false_iff_ne, bne_eq_false_iff_eq, Int.ofNat_eq_natCast, Bool.not_not, not_true_eq_false, not_false_eq_true, reduceCtorEq]; first | done | assumption) | exact RowsZ.same (by assumption) (by first | assumption | rfl) | exact FzL.mk rfl rfl rfl (by assumption) (by first | assumption | rfl) (by decide) | (refine RowsZ.one ?_; cbv))))); (case hi => exact ⟨by simp only; omega, by simp only; omega, k2 rfl (by first | exact .inl rfl | exact .inr (by assumption) | exact .inl (by assumption))⟩))
      | (refine hN ⟨i', out, f⟩ _ _ ?hx ?hi hT; (case hx => (refine Wk.eqz (id) (by first | exact fun i _ j _ e => e | (simp only [List.length_cons, List.length_nil]; decide)) ?_; cbv; (repeat' (first | exact trivial | rfl | assumption | apply And.intro | (simp only [hbin, hcmp, hun, hconv, hnot, hbeq, hmm, hscmp, hsadd, hslen, hsat, heqs, hofNat, binStd, cmpStd, unStd, scmpStd, maxI, Bool.not_eq_true', Bool.not_eq_false', decide_eq_true_eq, decide_eq_false_iff_not, Int.not_lt, Int.not_le, if_true, if_false, Bool.false_eq_true, beq_iff_eq, bne_iff_ne, ne_eq, Bool.not_eq_eq_eq_not, Bool.not_true, Bool.not_false, beq_eq_false_iff_ne, bne_eq_false_iff_eq, Int.ofNat_eq_natCast, Bool.not_not, not_true_eq_false, not_false_eq_true, reduceCtorEq]; first | done | assumption) | exact RowsZ.same (by assumption) (by first | assumption | rfl) | exact FzL.mk rfl rfl rfl (by assumption) (by first | assumption | rfl) (by decide) | (refine RowsZ.one ?_; cbv))))); (case hi => exact ⟨by simp only; omega, by simp only; omega, by first | exact k1 rfl | exact k3 (by assumption) (by assumption)⟩))
      | (refine hN ⟨i', out, true⟩ _ _ ?hx ?hi hT; (case hx => (refine Wk.eqz (id) (by first | exact fun i _ j _ e => e | (simp only [List.length_cons, List.length_nil]; decide)) ?_; cbv; (repeat' (first | exact trivial | rfl | assumption | apply And.intro | (simp only [hbin, hcmp, hun, hconv, hnot, hbeq, hmm, hscmp, hsadd, hslen, hsat, heqs, hofNat, binStd, cmpStd, unStd, scmpStd, maxI, Bool.not_eq_true', Bool.not_eq_false', decide_eq_true_eq, decide_eq_false_iff_not, Int.not_lt, Int.not_le, if_true, if_false, Bool.false_eq_true, beq_iff_eq, bne_iff_ne, ne_eq, Bool.not_eq_eq_eq_not, Bool.not_true, Bool.not_false, beq_eq_false_iff_ne, bne_eq_false_iff_eq, Int.ofNat_eq_natCast, Bool.not_not, not_true_eq_false, not_false_eq_true, reduceCtorEq]; first | done | assumption) | exact RowsZ.same (by assumption) (by first | assumption | rfl) | exact FzL.mk rfl rfl rfl (by assumption) (by first | assumption | rfl) (by decide) | (refine RowsZ.one ?_; cbv))))); (case hi => exact ⟨by simp only; omega, by simp only; omega, by first | exact k1 rfl | exact k3 rfl (by assumption)⟩))
      | (refine hN ⟨i', out, false⟩ _ _ ?hx ?hi hT; (case hx => (refine Wk.eqz (id) (by first | exact fun i _ j _ e => e | (simp only [List.length_cons, List.length_nil]; decide)) ?_; cbv; (repeat' (first | exact trivial | rfl | assumption | apply And.intro | (simp only [hbin, hcmp, hun, hconv, hnot, hbeq, hmm, hscmp, hsadd, hslen, hsat, heqs, hofNat, binStd, cmpStd, unStd, scmpStd, maxI, Bool.not_eq_true', Bool.not_eq_false', decide_eq_true_eq, decide_eq_false_iff_not, Int.not_lt, Int.not_le, if_true, if_false, Bool.false_eq_true, beq_iff_eq, bne_iff_ne, ne_eq, Bool.not_eq_eq_eq_not, Bool.not_true, Bool.not_false, beq_eq_false_iff_ne, bne_eq_false_iff_eq, Int.ofNat_eq_natCast, Bool.not_not, not_true_eq_false, not_false_eq_true, reduceCtorEq]; first | done | assumption) | exact RowsZ.same (by assumption) (by first | assumption | rfl) | exact FzL.mk rfl rfl rfl (by assumption) (by first | assumption | rfl) (by decide) | (refine RowsZ.one ?_; cbv))))); (case hi => exact ⟨by simp only; omega, by simp only; omega, k1 rfl⟩))
  · refine hE _ _ _ ?_
    cbv
    refine ⟨_, Vw.same rfl, hR _ ⟨_, _, rfl, ?_⟩⟩
    rwa [List.take_of_length_le (by omega)] at hl
theorem e_at1 (s a b v s0 a0 : Int) : PCalls Try.prog 39 [.agg [.int .i64 s, .int .i64 a, .int .i64 b, .int .i64 v], .cref [.int .i64 s0], .cref [.int .i64 a0]] (· = .bool (pAt s0 a0 ⟨s, a, b, v⟩)) := by
  (refine PCalls.ofY Try.func39 (by kernel_rfl) (by kernel_rfl) fun w hw R hR => ?_); (obtain ⟨wbin, wcmp, wun, wconv, wnot, wbeq, wmm, wscmp, wsadd, wslen, wsat, weqs, wlen, wnlen, wofNat, wtake, wdrop, wapp, wzero, wnat⟩ := w); (have hbin : wbin = binStd := congrArg Prims.bin hw); (have hcmp : wcmp = cmpStd := congrArg Prims.cmp hw); (have hun : wun = unStd := congrArg Prims.un hw); (have hconv : wconv = fun k n => k.wrap n := congrArg Prims.conv hw); (have hnot : wnot = fun b => !b := congrArg Prims.not hw); (have hbeq : wbeq = fun a b => a == b := congrArg Prims.beq hw); (have hmm : wmm = maxI := congrArg Prims.mm hw); (have hscmp : wscmp = scmpStd := congrArg Prims.scmp hw); (have hsadd : wsadd = fun x y => x ++ y := congrArg Prims.sadd hw); (have hslen : wslen = fun s => (s.size : Int) := congrArg Prims.slen hw); (have hsat : wsat = std.sat := congrArg Prims.sat hw); (have heqs : weqs = fun a b os => (eqOffs a b os).getD false := congrArg Prims.eqs hw); (have hlen : wlen = fun es => (es.length : Int) := congrArg Prims.len hw); (have hnlen : wnlen = fun es => es.length := congrArg Prims.nlen hw); (have hofNat : wofNat = (fun n : Nat => (n : Int)) := congrArg Prims.ofNat hw); (have htake : wtake = fun es b => es.take b.toNat := congrArg Prims.take hw); (have hdrop : wdrop = fun es a => es.drop a.toNat := congrArg Prims.drop hw); (have happ : wapp = fun a b => a ++ b := congrArg Prims.app hw); (have hzero : wzero = fun n z => List.replicate n.toNat z := congrArg Prims.zero hw); (have hnat : wnat = fun n => n.toNat := congrArg Prims.nat hw); (conv => arg 2; cbv); (generalize hP : Try.prog = P); cbv
  repeat' (split <;> rename_i h <;> (try (simp only [hbin, hcmp, hun, hconv, hnot, hbeq, hmm, hscmp, hsadd, hslen, hsat, heqs, hofNat, binStd, cmpStd, unStd, scmpStd, maxI, Bool.not_eq_true', Bool.not_eq_false', decide_eq_true_eq, decide_eq_false_iff_not, Int.not_lt, Int.not_le, if_true, if_false, Bool.false_eq_true, beq_iff_eq, bne_iff_ne, ne_eq, Bool.not_eq_eq_eq_not, Bool.not_true, Bool.not_false, beq_eq_false_iff_ne, bne_eq_false_iff_eq, Int.ofNat_eq_natCast, Bool.not_not, not_true_eq_false, not_false_eq_true, reduceCtorEq] at h)) <;> (try cbv))
  all_goals
    refine ⟨_, Vw.same rfl, hR _ (congrArg AV.bool ?_)⟩
    (try rw [hcmp]); simp [pAt, cmpStd, *] <;> omega
theorem e_at33 (ls : List Li) (es : List (List AV)) (hes : es = ls.map liRow) (s a : Int) (hmax : ls.length ≤ 1000) : PCalls Try.prog 14 [.list 4 es, .int .i64 s, .int .i64 a] (fun r => ∃ out f, r = .tuple [.int .i64 out, .bool f] ∧ LeastIs (pAt s a) ls out f) := by
  have hu : Up0 es := by rw [hes]; exact up_map (f := liRow) (fun d => rfl) ls
  (refine PCalls.ofY Try.func14 (by kernel_rfl) (by kernel_rfl) fun w hw R hR => ?_); (obtain ⟨wbin, wcmp, wun, wconv, wnot, wbeq, wmm, wscmp, wsadd, wslen, wsat, weqs, wlen, wnlen, wofNat, wtake, wdrop, wapp, wzero, wnat⟩ := w); (have hbin : wbin = binStd := congrArg Prims.bin hw); (have hcmp : wcmp = cmpStd := congrArg Prims.cmp hw); (have hun : wun = unStd := congrArg Prims.un hw); (have hconv : wconv = fun k n => k.wrap n := congrArg Prims.conv hw); (have hnot : wnot = fun b => !b := congrArg Prims.not hw); (have hbeq : wbeq = fun a b => a == b := congrArg Prims.beq hw); (have hmm : wmm = maxI := congrArg Prims.mm hw); (have hscmp : wscmp = scmpStd := congrArg Prims.scmp hw); (have hsadd : wsadd = fun x y => x ++ y := congrArg Prims.sadd hw); (have hslen : wslen = fun s => (s.size : Int) := congrArg Prims.slen hw); (have hsat : wsat = std.sat := congrArg Prims.sat hw); (have heqs : weqs = fun a b os => (eqOffs a b os).getD false := congrArg Prims.eqs hw); (have hlen : wlen = fun es => (es.length : Int) := congrArg Prims.len hw); (have hnlen : wnlen = fun es => es.length := congrArg Prims.nlen hw); (have hofNat : wofNat = (fun n : Nat => (n : Int)) := congrArg Prims.ofNat hw); (have htake : wtake = fun es b => es.take b.toNat := congrArg Prims.take hw); (have hdrop : wdrop = fun es a => es.drop a.toNat := congrArg Prims.drop hw); (have happ : wapp = fun a b => a ++ b := congrArg Prims.app hw); (have hzero : wzero = fun n z => List.replicate n.toNat z := congrArg Prims.zero hw); (have hnat : wnat = fun n => n.toNat := congrArg Prims.nat hw); (conv => arg 2; cbv); (generalize hP : Try.prog = P); cbv
  refine Call.view (args' := [.list 4 es, .func (.func 39) [] [.cref [.int .i64 s], .cref [.int .i64 a]]]) (by rw [← hP]; exact e_leastA ls es hes s a _ (pAt s a) (fun s' a' b' v' => e_at1 s' a' b' v' s a) hmax) ⟨Vw.same hu.list, Vw.func trivial ⟨Vw.ref (row := [.int .i64 s]) rfl rfl rfl (Nat.zero_le _), Vw.ref (row := [.int .i64 a]) rfl rfl rfl (Nat.zero_le _), trivial⟩, trivial⟩ ?_
  rintro r ⟨out, f, rfl, hl⟩
  refine ⟨rfl, ?_⟩
  cbv
  exact ⟨_, Vw.same rfl, hR _ ⟨_, _, rfl, hl⟩⟩
theorem e_leastB (ls : List Li) (es : List (List AV)) (hes : es = ls.map liRow) (ds : List (List AV)) (hud : Up0 ds) (g : Nat) (p : Li → Bool) (hg : ∀ s a b v, PCalls Try.prog g [.agg [.int .i64 s, .int .i64 a, .int .i64 b, .int .i64 v], .cref [.list 3 ds]] (· = .bool (p ⟨s, a, b, v⟩))) (hmax : ls.length ≤ 1000) : PCalls Try.prog 38 [.list 4 es, .func (.func g) [] [.cref [.list 3 ds]]] (fun r => ∃ out f, r = .tuple [.int .i64 out, .bool f] ∧ LeastIs p ls out f) := by
  have hu : Up0 es := by rw [hes]; exact up_map (f := liRow) (fun d => rfl) ls
  have hel : es.length = ls.length := by rw [hes]; simp
  (refine PCalls.ofY Try.func38 (by kernel_rfl) (by kernel_rfl) fun w hw R hR => ?_); (obtain ⟨wbin, wcmp, wun, wconv, wnot, wbeq, wmm, wscmp, wsadd, wslen, wsat, weqs, wlen, wnlen, wofNat, wtake, wdrop, wapp, wzero, wnat⟩ := w); (have hbin : wbin = binStd := congrArg Prims.bin hw); (have hcmp : wcmp = cmpStd := congrArg Prims.cmp hw); (have hun : wun = unStd := congrArg Prims.un hw); (have hconv : wconv = fun k n => k.wrap n := congrArg Prims.conv hw); (have hnot : wnot = fun b => !b := congrArg Prims.not hw); (have hbeq : wbeq = fun a b => a == b := congrArg Prims.beq hw); (have hmm : wmm = maxI := congrArg Prims.mm hw); (have hscmp : wscmp = scmpStd := congrArg Prims.scmp hw); (have hsadd : wsadd = fun x y => x ++ y := congrArg Prims.sadd hw); (have hslen : wslen = fun s => (s.size : Int) := congrArg Prims.slen hw); (have hsat : wsat = std.sat := congrArg Prims.sat hw); (have heqs : weqs = fun a b os => (eqOffs a b os).getD false := congrArg Prims.eqs hw); (have hlen : wlen = fun es => (es.length : Int) := congrArg Prims.len hw); (have hnlen : wnlen = fun es => es.length := congrArg Prims.nlen hw); (have hofNat : wofNat = (fun n : Nat => (n : Int)) := congrArg Prims.ofNat hw); (have htake : wtake = fun es b => es.take b.toNat := congrArg Prims.take hw); (have hdrop : wdrop = fun es a => es.drop a.toNat := congrArg Prims.drop hw); (have happ : wapp = fun a b => a ++ b := congrArg Prims.app hw); (have hzero : wzero = fun n z => List.replicate n.toNat z := congrArg Prims.zero hw); (have hnat : wnat = fun n => n.toNat := congrArg Prims.nat hw); (conv => arg 2; cbv); (generalize hP : Try.prog = P); cbv
  (obtain ⟨L, eL, L0, Ln⟩ : ∃ L : Int, wlen es = L ∧ 0 ≤ L ∧ L.toNat = es.length := ⟨(es.length : Int), by rw [hlen], Int.natCast_nonneg _, Int.toNat_natCast _⟩)
  refine Loop.data hw (S := Lw) (fun s => fr 34 [(1, .func (.func g) [] [.cref [.list 3 ds]]), (6, .int .i64 s.out), (7, .bool s.f), (10, .list 4 es), (11, .int .i64 L), (12, .int .i64 s.i)]) (fun s => []) (fun s => 0 ≤ s.i ∧ s.i ≤ L ∧ LeastIs p (ls.take s.i.toNat) s.out s.f) (fun s => (L - s.i).toNat) ⟨0, 0, false⟩ (by (refine Wk.eqz (id) (by first | exact fun i _ j _ e => e | (simp only [List.length_cons, List.length_nil]; decide)) ?_; cbv; (repeat' (first | exact trivial | rfl | assumption | apply And.intro | (simp only [hbin, hcmp, hun, hconv, hnot, hbeq, hmm, hscmp, hsadd, hslen, hsat, heqs, hofNat, binStd, cmpStd, unStd, scmpStd, maxI, Bool.not_eq_true', Bool.not_eq_false', decide_eq_true_eq, decide_eq_false_iff_not, Int.not_lt, Int.not_le, if_true, if_false, Bool.false_eq_true, beq_iff_eq, bne_iff_ne, ne_eq, Bool.not_eq_eq_eq_not, Bool.not_true, Bool.not_false, beq_eq_false_iff_ne, bne_eq_false_iff_eq, Int.ofNat_eq_natCast, Bool.not_not, not_true_eq_false, not_false_eq_true, reduceCtorEq]; first | done | assumption) | exact RowsZ.same (by assumption) (by first | assumption | rfl) | exact FzL.mk rfl rfl rfl (by assumption) (by first | assumption | rfl) (by decide) | (refine RowsZ.one ?_; cbv))))) ⟨Int.le_refl _, L0, least_nil p⟩ ?_
  rintro ⟨i, out, f⟩ hinv Q' hN hE hR'
  have hinv : 0 ≤ i ∧ i ≤ L ∧ LeastIs p (ls.take i.toNat) out f := hinv
  cbv
  obtain ⟨hi0, hi1, hl⟩ := hinv
  (split <;> rename_i hc <;> (try (simp only [hbin, hcmp, hun, hconv, hnot, hbeq, hmm, hscmp, hsadd, hslen, hsat, heqs, hofNat, binStd, cmpStd, unStd, scmpStd, maxI, Bool.not_eq_true', Bool.not_eq_false', decide_eq_true_eq, decide_eq_false_iff_not, Int.not_lt, Int.not_le, if_true, if_false, Bool.false_eq_true, beq_iff_eq, bne_iff_ne, ne_eq, Bool.not_eq_eq_eq_not, Bool.not_true, Bool.not_false, beq_eq_false_iff_ne, bne_eq_false_iff_eq, Int.ofNat_eq_natCast, Bool.not_not, not_true_eq_false, not_false_eq_true, reduceCtorEq] at hc)) <;> (try cbv))
  · obtain ⟨⟨s, a, b, v⟩, hd, hrow⟩ := get_map (f := liRow) (ds := ls) (i := i) hi0 (by omega)
    have hrow : es[i.toNat]? = some [.int .i64 s, .int .i64 a, .int .i64 b, .int .i64 v] := by rw [hes]; exact hrow
    refine Idx.mk [.int .i64 s, .int .i64 a, .int .i64 b, .int .i64 v] hi0 hrow ?_
    cbv
    have hlen2 := (List.getElem?_eq_some_iff.1 hd).1
    refine Call.stepE (by rw [← hP]; exact hg s a b v) (by exact Bool.and_eq_true_iff.mpr ⟨rfl, Bool.and_eq_true_iff.mpr ⟨Up0.one hud rfl, rfl⟩⟩) ?_
    obtain ⟨i', ei'⟩ : ∃ x, i + 1 = x := ⟨_, rfl⟩
    have hL2 : L < 9223372036854775807 := by omega
    have ei : wbin .add .i64 i 1 = i' := by rw [hbin, i_add (by omega) (by omega)]; exact ei'
    have hT : (L - i').toNat < (L - i).toNat := by omega
    have ht : ls.take i'.toNat = ls.take i.toNat ++ [⟨s, a, b, v⟩] := by rw [← ei', show (i + 1).toNat = i.toNat + 1 by omega, List.take_add_one, hd]; rfl
    have k1 := least_no (p := p) (x := ⟨s, a, b, v⟩) hl
    have k2 := least_put (p := p) (x := ⟨s, a, b, v⟩) hl
    have k3 := least_keep (p := p) (x := ⟨s, a, b, v⟩) hl
    rw [← ht] at k1 k2 k3
    obtain ⟨o, eo⟩ : ∃ x, p ⟨s, a, b, v⟩ = x := ⟨_, rfl⟩
    rw [eo] at k1 k2 ⊢
    cbv
    repeat' (split <;> rename_i h <;> (try (simp only [hbin, hcmp, hun, hconv, hnot, hbeq, hmm, hscmp, hsadd, hslen, hsat, heqs, hofNat, binStd, cmpStd, unStd, scmpStd, maxI, Bool.not_eq_true', Bool.not_eq_false', decide_eq_true_eq, decide_eq_false_iff_not, Int.not_lt, Int.not_le, if_true, if_false, Bool.false_eq_true, beq_iff_eq, bne_iff_ne, ne_eq, Bool.not_eq_eq_eq_not, Bool.not_true, Bool.not_false, beq_eq_false_iff_ne, bne_eq_false_iff_eq, Int.ofNat_eq_natCast, Bool.not_not, not_true_eq_false, not_false_eq_true, reduceCtorEq] at h)) <;> (try cbv))
    all_goals first
      | (refine hN ⟨i', v, true⟩ _ _ ?hx ?hi hT; (case hx => (refine Wk.eqz (id) (by first | exact fun i _ j _ e => e | (simp only [List.length_cons, List.length_nil]; decide)) ?_; cbv; (repeat' (first | exact trivial | rfl | assumption | apply And.intro | (simp only [hbin, hcmp, hun, hconv, hnot, hbeq, hmm, hscmp, hsadd, hslen, hsat, heqs, hofNat, binStd, cmpStd, unStd, scmpStd, maxI, Bool.not_eq_true', Bool.not_eq_false', decide_eq_true_eq, decide_eq_false_iff_not, Int.not_lt, Int.not_le, if_true, if_false, Bool.false_eq_true, beq_iff_eq, bne_iff_ne, ne_eq, Bool.not_eq_eq_eq_not, Bool.not_true, Bool.not_false, beq_eq_false_iff_ne, bne_eq_false_iff_eq, Int.ofNat_eq_natCast, Bool.not_not, not_true_eq_false, not_false_eq_true, reduceCtorEq]; first | done | assumption) | exact RowsZ.same (by assumption) (by first | assumption | rfl) | exact FzL.mk rfl rfl rfl (by assumption) (by first | assumption | rfl) (by decide) | (refine RowsZ.one ?_; cbv))))); (case hi => exact ⟨by simp only; omega, by simp only; omega, k2 rfl (by first | exact .inl rfl | exact .inr (by assumption) | exact .inl (by assumption))⟩))
      | (refine hN ⟨i', out, f⟩ _ _ ?hx ?hi hT; (case hx => (refine Wk.eqz (id) (by first | exact fun i _ j _ e => e | (simp only [List.length_cons, List.length_nil]; decide)) ?_; cbv; (repeat' (first | exact trivial | rfl | assumption | apply And.intro | (simp only [hbin, hcmp, hun, hconv, hnot, hbeq, hmm, hscmp, hsadd, hslen, hsat, heqs, hofNat, binStd, cmpStd, unStd, scmpStd, maxI, Bool.not_eq_true', Bool.not_eq_false', decide_eq_true_eq, decide_eq_false_iff_not, Int.not_lt, Int.not_le, if_true, if_false, Bool.false_eq_true, beq_iff_eq, bne_iff_ne, ne_eq, Bool.not_eq_eq_eq_not, Bool.not_true, Bool.not_false, beq_eq_false_iff_ne, bne_eq_false_iff_eq, Int.ofNat_eq_natCast, Bool.not_not, not_true_eq_false, not_false_eq_true, reduceCtorEq]; first | done | assumption) | exact RowsZ.same (by assumption) (by first | assumption | rfl) | exact FzL.mk rfl rfl rfl (by assumption) (by first | assumption | rfl) (by decide) | (refine RowsZ.one ?_; cbv))))); (case hi => exact ⟨by simp only; omega, by simp only; omega, by first | exact k1 rfl | exact k3 (by assumption) (by assumption)⟩))
      | (refine hN ⟨i', out, true⟩ _ _ ?hx ?hi hT; (case hx => (refine Wk.eqz (id) (by first | exact fun i _ j _ e => e | (simp only [List.length_cons, List.length_nil]; decide)) ?_; cbv; (repeat' (first | exact trivial | rfl | assumption | apply And.intro | (simp only [hbin, hcmp, hun, hconv, hnot, hbeq, hmm, hscmp, hsadd, hslen, hsat, heqs, hofNat, binStd, cmpStd, unStd, scmpStd, maxI, Bool.not_eq_true', Bool.not_eq_false', decide_eq_true_eq, decide_eq_false_iff_not, Int.not_lt, Int.not_le, if_true, if_false, Bool.false_eq_true, beq_iff_eq, bne_iff_ne, ne_eq, Bool.not_eq_eq_eq_not, Bool.not_true, Bool.not_false, beq_eq_false_iff_ne, bne_eq_false_iff_eq, Int.ofNat_eq_natCast, Bool.not_not, not_true_eq_false, not_false_eq_true, reduceCtorEq]; first | done | assumption) | exact RowsZ.same (by assumption) (by first | assumption | rfl) | exact FzL.mk rfl rfl rfl (by assumption) (by first | assumption | rfl) (by decide) | (refine RowsZ.one ?_; cbv))))); (case hi => exact ⟨by simp only; omega, by simp only; omega, by first | exact k1 rfl | exact k3 rfl (by assumption)⟩))
      | (refine hN ⟨i', out, false⟩ _ _ ?hx ?hi hT; (case hx => (refine Wk.eqz (id) (by first | exact fun i _ j _ e => e | (simp only [List.length_cons, List.length_nil]; decide)) ?_; cbv; (repeat' (first | exact trivial | rfl | assumption | apply And.intro | (simp only [hbin, hcmp, hun, hconv, hnot, hbeq, hmm, hscmp, hsadd, hslen, hsat, heqs, hofNat, binStd, cmpStd, unStd, scmpStd, maxI, Bool.not_eq_true', Bool.not_eq_false', decide_eq_true_eq, decide_eq_false_iff_not, Int.not_lt, Int.not_le, if_true, if_false, Bool.false_eq_true, beq_iff_eq, bne_iff_ne, ne_eq, Bool.not_eq_eq_eq_not, Bool.not_true, Bool.not_false, beq_eq_false_iff_ne, bne_eq_false_iff_eq, Int.ofNat_eq_natCast, Bool.not_not, not_true_eq_false, not_false_eq_true, reduceCtorEq]; first | done | assumption) | exact RowsZ.same (by assumption) (by first | assumption | rfl) | exact FzL.mk rfl rfl rfl (by assumption) (by first | assumption | rfl) (by decide) | (refine RowsZ.one ?_; cbv))))); (case hi => exact ⟨by simp only; omega, by simp only; omega, k1 rfl⟩))
  · refine hE _ _ _ ?_
    cbv
    refine ⟨_, Vw.same rfl, hR _ ⟨_, _, rfl, ?_⟩⟩
    rwa [List.take_of_length_le (by omega)] at hl
theorem e_meet1 (y1 y2 y3 s a b v : Int) : PCalls Try.prog 42 [.agg [.int .i64 y1, .int .i64 y2, .int .i64 y3], .cref [.int .i64 s, .int .i64 a, .int .i64 b, .int .i64 v]] (· = .bool (pMeet ⟨s, a, b, v⟩ ⟨y1, y2, y3⟩)) := by
  (refine PCalls.ofY Try.func42 (by kernel_rfl) (by kernel_rfl) fun w hw R hR => ?_); (obtain ⟨wbin, wcmp, wun, wconv, wnot, wbeq, wmm, wscmp, wsadd, wslen, wsat, weqs, wlen, wnlen, wofNat, wtake, wdrop, wapp, wzero, wnat⟩ := w); (have hbin : wbin = binStd := congrArg Prims.bin hw); (have hcmp : wcmp = cmpStd := congrArg Prims.cmp hw); (have hun : wun = unStd := congrArg Prims.un hw); (have hconv : wconv = fun k n => k.wrap n := congrArg Prims.conv hw); (have hnot : wnot = fun b => !b := congrArg Prims.not hw); (have hbeq : wbeq = fun a b => a == b := congrArg Prims.beq hw); (have hmm : wmm = maxI := congrArg Prims.mm hw); (have hscmp : wscmp = scmpStd := congrArg Prims.scmp hw); (have hsadd : wsadd = fun x y => x ++ y := congrArg Prims.sadd hw); (have hslen : wslen = fun s => (s.size : Int) := congrArg Prims.slen hw); (have hsat : wsat = std.sat := congrArg Prims.sat hw); (have heqs : weqs = fun a b os => (eqOffs a b os).getD false := congrArg Prims.eqs hw); (have hlen : wlen = fun es => (es.length : Int) := congrArg Prims.len hw); (have hnlen : wnlen = fun es => es.length := congrArg Prims.nlen hw); (have hofNat : wofNat = (fun n : Nat => (n : Int)) := congrArg Prims.ofNat hw); (have htake : wtake = fun es b => es.take b.toNat := congrArg Prims.take hw); (have hdrop : wdrop = fun es a => es.drop a.toNat := congrArg Prims.drop hw); (have happ : wapp = fun a b => a ++ b := congrArg Prims.app hw); (have hzero : wzero = fun n z => List.replicate n.toNat z := congrArg Prims.zero hw); (have hnat : wnat = fun n => n.toNat := congrArg Prims.nat hw); (conv => arg 2; cbv); (generalize hP : Try.prog = P); cbv
  repeat' (split <;> rename_i h <;> (try (simp only [hbin, hcmp, hun, hconv, hnot, hbeq, hmm, hscmp, hsadd, hslen, hsat, heqs, hofNat, binStd, cmpStd, unStd, scmpStd, maxI, Bool.not_eq_true', Bool.not_eq_false', decide_eq_true_eq, decide_eq_false_iff_not, Int.not_lt, Int.not_le, if_true, if_false, Bool.false_eq_true, beq_iff_eq, bne_iff_ne, ne_eq, Bool.not_eq_eq_eq_not, Bool.not_true, Bool.not_false, beq_eq_false_iff_ne, bne_eq_false_iff_eq, Int.ofNat_eq_natCast, Bool.not_not, not_true_eq_false, not_false_eq_true, reduceCtorEq] at h)) <;> (try cbv))
  all_goals
    refine ⟨_, Vw.same rfl, hR _ (congrArg AV.bool ?_)⟩
    (try rw [hcmp]); simp [pMeet, cmpStd, *] <;> omega
theorem e_index (ss : List Spt) (ds : List (List AV)) (hds : ds = ss.map sptRow) (s a b v : Int) (hmax : ss.length ≤ 1000) : PCalls Try.prog 53 [.list 3 ds, .func (.func 42) [] [.cref [.int .i64 s, .int .i64 a, .int .i64 b, .int .i64 v]]] (fun r => ∃ n : Int, r = .int .i64 n ∧ (0 ≤ n ↔ ∃ x, x ∈ ss ∧ pMeet ⟨s, a, b, v⟩ x = true)) := by
  have hu : Up0 ds := by rw [hds]; exact up_map (f := sptRow) (fun d => rfl) ss
  have hel : ds.length = ss.length := by rw [hds]; simp
  (refine PCalls.ofY Try.func53 (by kernel_rfl) (by kernel_rfl) fun w hw R hR => ?_); (obtain ⟨wbin, wcmp, wun, wconv, wnot, wbeq, wmm, wscmp, wsadd, wslen, wsat, weqs, wlen, wnlen, wofNat, wtake, wdrop, wapp, wzero, wnat⟩ := w); (have hbin : wbin = binStd := congrArg Prims.bin hw); (have hcmp : wcmp = cmpStd := congrArg Prims.cmp hw); (have hun : wun = unStd := congrArg Prims.un hw); (have hconv : wconv = fun k n => k.wrap n := congrArg Prims.conv hw); (have hnot : wnot = fun b => !b := congrArg Prims.not hw); (have hbeq : wbeq = fun a b => a == b := congrArg Prims.beq hw); (have hmm : wmm = maxI := congrArg Prims.mm hw); (have hscmp : wscmp = scmpStd := congrArg Prims.scmp hw); (have hsadd : wsadd = fun x y => x ++ y := congrArg Prims.sadd hw); (have hslen : wslen = fun s => (s.size : Int) := congrArg Prims.slen hw); (have hsat : wsat = std.sat := congrArg Prims.sat hw); (have heqs : weqs = fun a b os => (eqOffs a b os).getD false := congrArg Prims.eqs hw); (have hlen : wlen = fun es => (es.length : Int) := congrArg Prims.len hw); (have hnlen : wnlen = fun es => es.length := congrArg Prims.nlen hw); (have hofNat : wofNat = (fun n : Nat => (n : Int)) := congrArg Prims.ofNat hw); (have htake : wtake = fun es b => es.take b.toNat := congrArg Prims.take hw); (have hdrop : wdrop = fun es a => es.drop a.toNat := congrArg Prims.drop hw); (have happ : wapp = fun a b => a ++ b := congrArg Prims.app hw); (have hzero : wzero = fun n z => List.replicate n.toNat z := congrArg Prims.zero hw); (have hnat : wnat = fun n => n.toNat := congrArg Prims.nat hw); (conv => arg 2; cbv); (generalize hP : Try.prog = P); cbv
  (obtain ⟨L, eL, L0, Ln⟩ : ∃ L : Int, wlen ds = L ∧ 0 ≤ L ∧ L.toNat = ds.length := ⟨(ds.length : Int), by rw [hlen], Int.natCast_nonneg _, Int.toNat_natCast _⟩)
  refine Loop.data hw (S := Int) (fun i => fr 19 [(0, .list 3 ds), (1, .func (.func 42) [] [.cref [.int .i64 s, .int .i64 a, .int .i64 b, .int .i64 v]]), (6, .list 3 ds), (7, .int .i64 L), (8, .int .i64 i)]) (fun i => []) (fun i => 0 ≤ i ∧ i ≤ L ∧ ∀ x, x ∈ ss.take i.toNat → pMeet ⟨s, a, b, v⟩ x = false) (fun i => (L - i).toNat) 0 (by (refine Wk.eqz (id) (by first | exact fun i _ j _ e => e | (simp only [List.length_cons, List.length_nil]; decide)) ?_; cbv; (repeat' (first | exact trivial | rfl | assumption | apply And.intro | (simp only [hbin, hcmp, hun, hconv, hnot, hbeq, hmm, hscmp, hsadd, hslen, hsat, heqs, hofNat, binStd, cmpStd, unStd, scmpStd, maxI, Bool.not_eq_true', Bool.not_eq_false', decide_eq_true_eq, decide_eq_false_iff_not, Int.not_lt, Int.not_le, if_true, if_false, Bool.false_eq_true, beq_iff_eq, bne_iff_ne, ne_eq, Bool.not_eq_eq_eq_not, Bool.not_true, Bool.not_false, beq_eq_false_iff_ne, bne_eq_false_iff_eq, Int.ofNat_eq_natCast, Bool.not_not, not_true_eq_false, not_false_eq_true, reduceCtorEq]; first | done | assumption) | exact RowsZ.same (by assumption) (by first | assumption | rfl) | exact FzL.mk rfl rfl rfl (by assumption) (by first | assumption | rfl) (by decide) | (refine RowsZ.one ?_; cbv))))) ⟨Int.le_refl _, L0, fun x hx => (by simp at hx)⟩ ?_
  rintro i hinv Q' hN hE hR'
  have hinv : 0 ≤ i ∧ i ≤ L ∧ ∀ x, x ∈ ss.take i.toNat → pMeet ⟨s, a, b, v⟩ x = false := hinv
  cbv
  obtain ⟨hi0, hi1, hl⟩ := hinv
  (split <;> rename_i hc <;> (try (simp only [hbin, hcmp, hun, hconv, hnot, hbeq, hmm, hscmp, hsadd, hslen, hsat, heqs, hofNat, binStd, cmpStd, unStd, scmpStd, maxI, Bool.not_eq_true', Bool.not_eq_false', decide_eq_true_eq, decide_eq_false_iff_not, Int.not_lt, Int.not_le, if_true, if_false, Bool.false_eq_true, beq_iff_eq, bne_iff_ne, ne_eq, Bool.not_eq_eq_eq_not, Bool.not_true, Bool.not_false, beq_eq_false_iff_ne, bne_eq_false_iff_eq, Int.ofNat_eq_natCast, Bool.not_not, not_true_eq_false, not_false_eq_true, reduceCtorEq] at hc)) <;> (try cbv))
  · obtain ⟨⟨y1, y2, y3⟩, hd, hrow⟩ := get_map (f := sptRow) (ds := ss) (i := i) hi0 (by omega)
    have hrow : ds[i.toNat]? = some [.int .i64 y1, .int .i64 y2, .int .i64 y3] := by rw [hds]; exact hrow
    refine Idx.mk [.int .i64 y1, .int .i64 y2, .int .i64 y3] hi0 hrow ?_
    cbv
    refine Call.stepE (by rw [← hP]; exact e_meet1 y1 y2 y3 s a b v) rfl ?_
    obtain ⟨i', ei'⟩ : ∃ x, i + 1 = x := ⟨_, rfl⟩
    have hL2 : L < 9223372036854775807 := by omega
    have ei : wbin .add .i64 i 1 = i' := by rw [hbin, i_add (by omega) (by omega)]; exact ei'
    have hT : (L - i').toNat < (L - i).toNat := by omega
    have ht : ss.take i'.toNat = ss.take i.toNat ++ [⟨y1, y2, y3⟩] := by rw [← ei', show (i + 1).toNat = i.toNat + 1 by omega, List.take_add_one, hd]; rfl
    obtain ⟨o, eo⟩ : ∃ x, pMeet ⟨s, a, b, v⟩ ⟨y1, y2, y3⟩ = x := ⟨_, rfl⟩
    rw [eo]
    cbv
    (split <;> rename_i h <;> (try (simp only [hbin, hcmp, hun, hconv, hnot, hbeq, hmm, hscmp, hsadd, hslen, hsat, heqs, hofNat, binStd, cmpStd, unStd, scmpStd, maxI, Bool.not_eq_true', Bool.not_eq_false', decide_eq_true_eq, decide_eq_false_iff_not, Int.not_lt, Int.not_le, if_true, if_false, Bool.false_eq_true, beq_iff_eq, bne_iff_ne, ne_eq, Bool.not_eq_eq_eq_not, Bool.not_true, Bool.not_false, beq_eq_false_iff_ne, bne_eq_false_iff_eq, Int.ofNat_eq_natCast, Bool.not_not, not_true_eq_false, not_false_eq_true, reduceCtorEq] at h)) <;> (try cbv))
    · exact hR' _ _ ⟨_, Vw.same rfl, hR _ ⟨_, rfl, fun _ => ⟨_, List.mem_of_getElem? hd, eo⟩, fun _ => hi0⟩⟩
    · refine hN i' _ _ ?hx ?hi hT
      case hx => (refine Wk.eqz (id) (by first | exact fun i _ j _ e => e | (simp only [List.length_cons, List.length_nil]; decide)) ?_; cbv; (repeat' (first | exact trivial | rfl | assumption | apply And.intro | (simp only [hbin, hcmp, hun, hconv, hnot, hbeq, hmm, hscmp, hsadd, hslen, hsat, heqs, hofNat, binStd, cmpStd, unStd, scmpStd, maxI, Bool.not_eq_true', Bool.not_eq_false', decide_eq_true_eq, decide_eq_false_iff_not, Int.not_lt, Int.not_le, if_true, if_false, Bool.false_eq_true, beq_iff_eq, bne_iff_ne, ne_eq, Bool.not_eq_eq_eq_not, Bool.not_true, Bool.not_false, beq_eq_false_iff_ne, bne_eq_false_iff_eq, Int.ofNat_eq_natCast, Bool.not_not, not_true_eq_false, not_false_eq_true, reduceCtorEq]; first | done | assumption) | exact RowsZ.same (by assumption) (by first | assumption | rfl) | exact FzL.mk rfl rfl rfl (by assumption) (by first | assumption | rfl) (by decide) | (refine RowsZ.one ?_; cbv))))
      case hi =>
        refine ⟨by omega, by omega, fun x hx => ?_⟩
        rw [ht] at hx
        rcases List.mem_append.1 hx with hx | hx
        · exact hl x hx
        · simp at hx; subst hx; exact eo
  · refine hE _ _ _ ?_
    cbv
    rw [List.take_of_length_le (by omega)] at hl
    refine ⟨_, Vw.same rfl, hR _ ⟨_, rfl, fun h => absurd h (by decide), fun ⟨x, hx, hp⟩ => ?_⟩⟩
    rw [hl x hx] at hp; cases hp
theorem e_contains (ss : List Spt) (ds : List (List AV)) (hds : ds = ss.map sptRow) (s a b v : Int) (hmax : ss.length ≤ 1000) : PCalls Try.prog 41 [.list 3 ds, .func (.func 42) [] [.cref [.int .i64 s, .int .i64 a, .int .i64 b, .int .i64 v]]] (· = .bool (ss.any (pMeet ⟨s, a, b, v⟩))) := by
  have hu : Up0 ds := by rw [hds]; exact up_map (f := sptRow) (fun d => rfl) ss
  (refine PCalls.ofY Try.func41 (by kernel_rfl) (by kernel_rfl) fun w hw R hR => ?_); (obtain ⟨wbin, wcmp, wun, wconv, wnot, wbeq, wmm, wscmp, wsadd, wslen, wsat, weqs, wlen, wnlen, wofNat, wtake, wdrop, wapp, wzero, wnat⟩ := w); (have hbin : wbin = binStd := congrArg Prims.bin hw); (have hcmp : wcmp = cmpStd := congrArg Prims.cmp hw); (have hun : wun = unStd := congrArg Prims.un hw); (have hconv : wconv = fun k n => k.wrap n := congrArg Prims.conv hw); (have hnot : wnot = fun b => !b := congrArg Prims.not hw); (have hbeq : wbeq = fun a b => a == b := congrArg Prims.beq hw); (have hmm : wmm = maxI := congrArg Prims.mm hw); (have hscmp : wscmp = scmpStd := congrArg Prims.scmp hw); (have hsadd : wsadd = fun x y => x ++ y := congrArg Prims.sadd hw); (have hslen : wslen = fun s => (s.size : Int) := congrArg Prims.slen hw); (have hsat : wsat = std.sat := congrArg Prims.sat hw); (have heqs : weqs = fun a b os => (eqOffs a b os).getD false := congrArg Prims.eqs hw); (have hlen : wlen = fun es => (es.length : Int) := congrArg Prims.len hw); (have hnlen : wnlen = fun es => es.length := congrArg Prims.nlen hw); (have hofNat : wofNat = (fun n : Nat => (n : Int)) := congrArg Prims.ofNat hw); (have htake : wtake = fun es b => es.take b.toNat := congrArg Prims.take hw); (have hdrop : wdrop = fun es a => es.drop a.toNat := congrArg Prims.drop hw); (have happ : wapp = fun a b => a ++ b := congrArg Prims.app hw); (have hzero : wzero = fun n z => List.replicate n.toNat z := congrArg Prims.zero hw); (have hnat : wnat = fun n => n.toNat := congrArg Prims.nat hw); (conv => arg 2; cbv); (generalize hP : Try.prog = P); cbv
  refine Call.step (by rw [← hP]; exact e_index ss ds hds s a b v hmax) (by exact Up0.one hu rfl) ?_
  rintro r ⟨n, rfl, hn⟩
  cbv
  refine ⟨_, Vw.same rfl, hR _ (congrArg AV.bool ?_)⟩
  rw [Bool.eq_iff_iff, List.any_eq_true, ← hn, hcmp]
  simp [cmpStd]
theorem e_least1 (ss : List Spt) (ds : List (List AV)) (hds : ds = ss.map sptRow) (s a b v : Int) (hmax : ss.length ≤ 1000) : PCalls Try.prog 40 [.agg [.int .i64 s, .int .i64 a, .int .i64 b, .int .i64 v], .cref [.list 3 ds]] (· = .bool (ss.any (pMeet ⟨s, a, b, v⟩))) := by
  have hu : Up0 ds := by rw [hds]; exact up_map (f := sptRow) (fun d => rfl) ss
  (refine PCalls.ofY Try.func40 (by kernel_rfl) (by kernel_rfl) fun w hw R hR => ?_); (obtain ⟨wbin, wcmp, wun, wconv, wnot, wbeq, wmm, wscmp, wsadd, wslen, wsat, weqs, wlen, wnlen, wofNat, wtake, wdrop, wapp, wzero, wnat⟩ := w); (have hbin : wbin = binStd := congrArg Prims.bin hw); (have hcmp : wcmp = cmpStd := congrArg Prims.cmp hw); (have hun : wun = unStd := congrArg Prims.un hw); (have hconv : wconv = fun k n => k.wrap n := congrArg Prims.conv hw); (have hnot : wnot = fun b => !b := congrArg Prims.not hw); (have hbeq : wbeq = fun a b => a == b := congrArg Prims.beq hw); (have hmm : wmm = maxI := congrArg Prims.mm hw); (have hscmp : wscmp = scmpStd := congrArg Prims.scmp hw); (have hsadd : wsadd = fun x y => x ++ y := congrArg Prims.sadd hw); (have hslen : wslen = fun s => (s.size : Int) := congrArg Prims.slen hw); (have hsat : wsat = std.sat := congrArg Prims.sat hw); (have heqs : weqs = fun a b os => (eqOffs a b os).getD false := congrArg Prims.eqs hw); (have hlen : wlen = fun es => (es.length : Int) := congrArg Prims.len hw); (have hnlen : wnlen = fun es => es.length := congrArg Prims.nlen hw); (have hofNat : wofNat = (fun n : Nat => (n : Int)) := congrArg Prims.ofNat hw); (have htake : wtake = fun es b => es.take b.toNat := congrArg Prims.take hw); (have hdrop : wdrop = fun es a => es.drop a.toNat := congrArg Prims.drop hw); (have happ : wapp = fun a b => a ++ b := congrArg Prims.app hw); (have hzero : wzero = fun n z => List.replicate n.toNat z := congrArg Prims.zero hw); (have hnat : wnat = fun n => n.toNat := congrArg Prims.nat hw); (conv => arg 2; cbv); (generalize hP : Try.prog = P); cbv
  refine Call.view (args' := [.list 3 ds, .func (.func 42) [] [.cref [.int .i64 s, .int .i64 a, .int .i64 b, .int .i64 v]]]) (by rw [← hP]; exact e_contains ss ds hds s a b v hmax) ⟨Vw.same hu.list, Vw.func trivial ⟨Vw.ref (row := [.int .i64 s, .int .i64 a, .int .i64 b, .int .i64 v]) rfl rfl rfl (Nat.zero_le _), trivial⟩, trivial⟩ ?_
  rintro r rfl
  refine ⟨rfl, ?_⟩
  generalize ss.any (pMeet ⟨s, a, b, v⟩) = o at *
  cbv
  exact ⟨_, Vw.same rfl, hR _ rfl⟩
theorem e_least33 (ls : List Li) (es : List (List AV)) (hes : es = ls.map liRow) (ss : List Spt) (ds : List (List AV)) (hds : ds = ss.map sptRow) (hmax : ls.length ≤ 1000) (hmax2 : ss.length ≤ 1000) : PCalls Try.prog 17 [.list 4 es, .list 3 ds] (fun r => ∃ out f, r = .tuple [.int .i64 out, .bool f] ∧ LeastIs (fun x => ss.any (pMeet x)) ls out f) := by
  have hu : Up0 es := by rw [hes]; exact up_map (f := liRow) (fun d => rfl) ls
  have hud : Up0 ds := by rw [hds]; exact up_map (f := sptRow) (fun d => rfl) ss
  (refine PCalls.ofY Try.func17 (by kernel_rfl) (by kernel_rfl) fun w hw R hR => ?_); (obtain ⟨wbin, wcmp, wun, wconv, wnot, wbeq, wmm, wscmp, wsadd, wslen, wsat, weqs, wlen, wnlen, wofNat, wtake, wdrop, wapp, wzero, wnat⟩ := w); (have hbin : wbin = binStd := congrArg Prims.bin hw); (have hcmp : wcmp = cmpStd := congrArg Prims.cmp hw); (have hun : wun = unStd := congrArg Prims.un hw); (have hconv : wconv = fun k n => k.wrap n := congrArg Prims.conv hw); (have hnot : wnot = fun b => !b := congrArg Prims.not hw); (have hbeq : wbeq = fun a b => a == b := congrArg Prims.beq hw); (have hmm : wmm = maxI := congrArg Prims.mm hw); (have hscmp : wscmp = scmpStd := congrArg Prims.scmp hw); (have hsadd : wsadd = fun x y => x ++ y := congrArg Prims.sadd hw); (have hslen : wslen = fun s => (s.size : Int) := congrArg Prims.slen hw); (have hsat : wsat = std.sat := congrArg Prims.sat hw); (have heqs : weqs = fun a b os => (eqOffs a b os).getD false := congrArg Prims.eqs hw); (have hlen : wlen = fun es => (es.length : Int) := congrArg Prims.len hw); (have hnlen : wnlen = fun es => es.length := congrArg Prims.nlen hw); (have hofNat : wofNat = (fun n : Nat => (n : Int)) := congrArg Prims.ofNat hw); (have htake : wtake = fun es b => es.take b.toNat := congrArg Prims.take hw); (have hdrop : wdrop = fun es a => es.drop a.toNat := congrArg Prims.drop hw); (have happ : wapp = fun a b => a ++ b := congrArg Prims.app hw); (have hzero : wzero = fun n z => List.replicate n.toNat z := congrArg Prims.zero hw); (have hnat : wnat = fun n => n.toNat := congrArg Prims.nat hw); (conv => arg 2; cbv); (generalize hP : Try.prog = P); cbv
  refine Call.view (args' := [.list 4 es, .func (.func 40) [] [.cref [.list 3 ds]]]) (by rw [← hP]; exact e_leastB ls es hes ds hud _ (fun x => ss.any (pMeet x)) (fun s' a' b' v' => e_least1 ss ds hds s' a' b' v' hmax2) hmax) ⟨Vw.same hu.list, Vw.func trivial ⟨Vw.ref (row := [.list 3 ds]) rfl rfl (Up0.one hud rfl) (Nat.zero_le _), trivial⟩, trivial⟩ ?_
  rintro r ⟨out, f, rfl, hl⟩
  refine ⟨rfl, ?_⟩
  cbv
  exact ⟨_, Vw.same rfl, hR _ ⟨_, _, rfl, hl⟩⟩
end Go.Proofs.Ytkkjdodolnpfmaa
