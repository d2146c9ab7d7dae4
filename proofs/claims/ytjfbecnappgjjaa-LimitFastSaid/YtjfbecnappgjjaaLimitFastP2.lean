/- Texts of the proof of LimitFast, joined by wip/tools/pack.py. -/
import Derived.Test.YtjfbecnappgjjaaLimitFastP1
import Derived.KernelRfl
/- Spots, and the document's limits, by the engine. Printed by wip/tools/gensp.py. -/
set_option linter.unusedVariables false
set_option linter.unusedSimpArgs false
namespace Go.Proofs.Ytjfbecnappgjjaa
open Go Go.RowKit Go.Eng
set_option maxRecDepth 100000
theorem e_spots (ls : List Spt) (es : List (List AV)) (hes : es = ls.map sptRow) (hmax : ls.length ≤ 1000) : PCalls Try.prog 35 [.list 3 es] (· = .list 3 es) := by
  have hu : Up0 es := by rw [hes]; exact up_map (fun d => rfl) ls
  have hel : es.length = ls.length := by rw [hes]; simp
  (refine PCalls.ofY Try.func35 (by kernel_rfl) (by kernel_rfl) fun w hw R hR => ?_); (obtain ⟨wbin, wcmp, wun, wconv, wnot, wbeq, wmm, wscmp, wsadd, wslen, wsat, weqs, wlen, wnlen, wofNat, wtake, wdrop, wapp, wzero, wnat⟩ := w); (have hbin : wbin = binStd := congrArg Prims.bin hw); (have hcmp : wcmp = cmpStd := congrArg Prims.cmp hw); (have hun : wun = unStd := congrArg Prims.un hw); (have hconv : wconv = fun k n => k.wrap n := congrArg Prims.conv hw); (have hnot : wnot = fun b => !b := congrArg Prims.not hw); (have hbeq : wbeq = fun a b => a == b := congrArg Prims.beq hw); (have hmm : wmm = maxI := congrArg Prims.mm hw); (have hscmp : wscmp = scmpStd := congrArg Prims.scmp hw); (have hsadd : wsadd = fun x y => x ++ y := congrArg Prims.sadd hw); (have hslen : wslen = fun s => (s.size : Int) := congrArg Prims.slen hw); (have hsat : wsat = std.sat := congrArg Prims.sat hw); (have heqs : weqs = fun a b os => (eqOffs a b os).getD false := congrArg Prims.eqs hw); (have hlen : wlen = fun es => (es.length : Int) := congrArg Prims.len hw); (have hnlen : wnlen = fun es => es.length := congrArg Prims.nlen hw); (have hofNat : wofNat = (fun n : Nat => (n : Int)) := congrArg Prims.ofNat hw); (have htake : wtake = fun es b => es.take b.toNat := congrArg Prims.take hw); (have hdrop : wdrop = fun es a => es.drop a.toNat := congrArg Prims.drop hw); (have happ : wapp = fun a b => a ++ b := congrArg Prims.app hw); (have hzero : wzero = fun n z => List.replicate n.toNat z := congrArg Prims.zero hw); (have hnat : wnat = fun n => n.toNat := congrArg Prims.nat hw); (conv => arg 2; cbv); (generalize hP : Try.prog = P); cbv
  (obtain ⟨L, eL, L0, Ln⟩ : ∃ L : Int, wlen es = L ∧ 0 ≤ L ∧ L.toNat = es.length := ⟨(es.length : Int), by rw [hlen], Int.natCast_nonneg _, Int.toNat_natCast _⟩)
  refine Loop.data hw (S := Bd) (fun s => match s with | .start => fr 18 [(3, .nils), (6, .list 3 es), (7, .int .i64 L), (8, .int .i64 0)] | .more i n fs => fr 18 [(3, .sl 0 3 0 n), (6, .list 3 es), (7, .int .i64 L), (8, .int .i64 i)])
    (fun s => match s with | .start => [] | .more i n fs => [.live 3 fs]) (Bd.Ok es) (Bd.left es) .start (by (refine Wk.eqz (id) (by first | exact fun i _ j _ e => e | (simp only [List.length_cons, List.length_nil]; decide)) ?_; cbv; (repeat' (first | exact trivial | rfl | assumption | apply And.intro | (simp only [hbin, hcmp, hun, hconv, hnot, hbeq, hmm, hscmp, hsadd, hslen, hsat, heqs, hofNat, binStd, cmpStd, unStd, scmpStd, maxI, Bool.not_eq_true', Bool.not_eq_false', decide_eq_true_eq, decide_eq_false_iff_not, Int.not_lt, Int.not_le, if_true, if_false, Bool.false_eq_true, beq_iff_eq, bne_iff_ne, ne_eq, Bool.not_eq_eq_eq_not, Bool.not_true, Bool.not_false, beq_eq_false_iff_ne, bne_eq_false_iff_eq, Int.ofNat_eq_natCast, Bool.not_not, not_true_eq_false, not_false_eq_true, reduceCtorEq]; first | done | assumption) | exact RowsZ.same (by assumption) (by first | assumption | rfl) | exact FzL.mk rfl rfl rfl (by assumption) (by first | assumption | rfl) (by decide) | (refine RowsZ.one ?_; cbv))))) trivial ?_
  rintro (_ | ⟨i, n, fs⟩) hinv Q' hN hE hR'
  · cbv
    (split <;> rename_i hc <;> (try (simp only [hbin, hcmp, hun, hconv, hnot, hbeq, hmm, hscmp, hsadd, hslen, hsat, heqs, hofNat, binStd, cmpStd, unStd, scmpStd, maxI, Bool.not_eq_true', Bool.not_eq_false', decide_eq_true_eq, decide_eq_false_iff_not, Int.not_lt, Int.not_le, if_true, if_false, Bool.false_eq_true, beq_iff_eq, bne_iff_ne, ne_eq, Bool.not_eq_eq_eq_not, Bool.not_true, Bool.not_false, beq_eq_false_iff_ne, bne_eq_false_iff_eq, Int.ofNat_eq_natCast, Bool.not_not, not_true_eq_false, not_false_eq_true, reduceCtorEq] at hc)) <;> (try cbv))
    · obtain ⟨⟨s, a, b⟩, hd, hrow⟩ := get_map (f := sptRow) (ds := ls) (i := 0) (Int.le_refl 0) (by omega)
      refine Idx.mk [.int .i64 s, .int .i64 a, .int .i64 b] (by decide) (by rw [hes]; exact hrow) ?_
      cbv
      refine Ob.mk (by decide) ?_
      have ei : wbin .add .i64 0 1 = 1 := by rw [hbin]; rfl
      have hT : Bd.left es (.more 1 1 [[.int .i64 s, .int .i64 a, .int .i64 b]]) < Bd.left es .start := by simp only [Bd.left]; omega
      have hI : Bd.Ok es (.more 1 1 [[.int .i64 s, .int .i64 a, .int .i64 b]]) := by
        have h1 : es[(0 : Int).toNat]? = some [.int .i64 s, .int .i64 a, .int .i64 b] := by rw [hes]; exact hrow
        exact ⟨by decide, by omega, (take_row (Int.le_refl 0) h1).symm, rfl, ⟨rfl⟩⟩
      have hU : Up0 [[AV.int .i64 s, .int .i64 a, .int .i64 b]] := ⟨rfl⟩
      (refine hN (Bd.more 1 1 [[.int .i64 s, .int .i64 a, .int .i64 b]]) _ _ ?hx ?hi ?ht; (case hx => (refine Wk.eqz (fun _ => 1) (by first | exact fun i _ j _ e => e | (simp only [List.length_cons, List.length_nil]; decide)) ?_; cbv; (repeat' (first | exact trivial | rfl | assumption | apply And.intro | (simp only [hbin, hcmp, hun, hconv, hnot, hbeq, hmm, hscmp, hsadd, hslen, hsat, heqs, hofNat, binStd, cmpStd, unStd, scmpStd, maxI, Bool.not_eq_true', Bool.not_eq_false', decide_eq_true_eq, decide_eq_false_iff_not, Int.not_lt, Int.not_le, if_true, if_false, Bool.false_eq_true, beq_iff_eq, bne_iff_ne, ne_eq, Bool.not_eq_eq_eq_not, Bool.not_true, Bool.not_false, beq_eq_false_iff_ne, bne_eq_false_iff_eq, Int.ofNat_eq_natCast, Bool.not_not, not_true_eq_false, not_false_eq_true, reduceCtorEq]; first | done | assumption) | exact RowsZ.same (by assumption) (by first | assumption | rfl) | exact FzL.mk rfl rfl rfl (by assumption) (by first | assumption | rfl) (by decide) | (refine RowsZ.one ?_; cbv))))); (case hi => exact hI); (case ht => exact hT))
    · refine hE _ _ _ ?_
      cbv
      have : es = [] := List.length_eq_zero_iff.1 (by omega)
      exact ⟨_, Vw.nil 3, hR _ (by rw [this])⟩
  · cbv
    obtain ⟨hi0, hi1, hfs, hnf, huf⟩ : 0 < i ∧ i.toNat ≤ es.length ∧ fs = es.take i.toNat ∧ n = fs.length ∧ Up0 fs := hinv
    (split <;> rename_i hc <;> (try (simp only [hbin, hcmp, hun, hconv, hnot, hbeq, hmm, hscmp, hsadd, hslen, hsat, heqs, hofNat, binStd, cmpStd, unStd, scmpStd, maxI, Bool.not_eq_true', Bool.not_eq_false', decide_eq_true_eq, decide_eq_false_iff_not, Int.not_lt, Int.not_le, if_true, if_false, Bool.false_eq_true, beq_iff_eq, bne_iff_ne, ne_eq, Bool.not_eq_eq_eq_not, Bool.not_true, Bool.not_false, beq_eq_false_iff_ne, bne_eq_false_iff_eq, Int.ofNat_eq_natCast, Bool.not_not, not_true_eq_false, not_false_eq_true, reduceCtorEq] at hc)) <;> (try cbv))
    · obtain ⟨⟨s, a, b⟩, hd, hrow⟩ := get_map (f := sptRow) (ds := ls) (i := i) (by omega) (by omega)
      have hrow : es[i.toNat]? = some [.int .i64 s, .int .i64 a, .int .i64 b] := by rw [hes]; exact hrow
      refine Idx.mk [.int .i64 s, .int .i64 a, .int .i64 b] (by omega) hrow ?_
      cbv
      obtain ⟨i', ei'⟩ : ∃ x, i + 1 = x := ⟨_, rfl⟩
      have ei : wbin .add .i64 i 1 = i' := by rw [hbin, i_add (by omega) (by omega)]; exact ei'
      obtain ⟨fs', efs⟩ : ∃ x, fs ++ [[AV.int .i64 s, .int .i64 a, .int .i64 b]] = x := ⟨_, rfl⟩
      have hfl : fs'.length = n + 1 := by rw [← efs, hnf]; simp
      have hft : fs' = es.take i'.toNat := by rw [← efs, ← ei', take_row (by omega) hrow, hfs]
      have huf' : Up0 fs' := by rw [hft]; exact up_take hu _
      obtain ⟨n', en'⟩ : ∃ x, n + 1 = x := ⟨_, rfl⟩
      have hnl : n = i.toNat := by rw [hnf, hfs, List.length_take]; omega
      refine App.mk fs' n' efs.symm hnf en'.symm (by omega) (by omega) ?_
      have hT : Bd.left es (.more i' n' fs') < Bd.left es (.more i n fs) := by simp only [Bd.left]; omega
      have hI : Bd.Ok es (.more i' n' fs') := ⟨by omega, by omega, hft, by omega, huf'⟩
      cbv
      (refine hN (Bd.more i' n' fs') _ _ ?hx ?hi ?ht; (case hx => (refine Wk.eqz (fun _ => 2) (by first | exact fun i _ j _ e => e | (simp only [List.length_cons, List.length_nil]; decide)) ?_; cbv; (repeat' (first | exact trivial | rfl | assumption | apply And.intro | (simp only [hbin, hcmp, hun, hconv, hnot, hbeq, hmm, hscmp, hsadd, hslen, hsat, heqs, hofNat, binStd, cmpStd, unStd, scmpStd, maxI, Bool.not_eq_true', Bool.not_eq_false', decide_eq_true_eq, decide_eq_false_iff_not, Int.not_lt, Int.not_le, if_true, if_false, Bool.false_eq_true, beq_iff_eq, bne_iff_ne, ne_eq, Bool.not_eq_eq_eq_not, Bool.not_true, Bool.not_false, beq_eq_false_iff_ne, bne_eq_false_iff_eq, Int.ofNat_eq_natCast, Bool.not_not, not_true_eq_false, not_false_eq_true, reduceCtorEq]; first | done | assumption) | exact RowsZ.same (by assumption) (by first | assumption | rfl) | exact FzL.mk rfl rfl rfl (by assumption) (by first | assumption | rfl) (by decide) | (refine RowsZ.one ?_; cbv))))); (case hi => exact hI); (case ht => exact hT))
    · refine hE _ _ _ ?_
      cbv
      refine ⟨_, Vw.sl rfl huf.get (by omega), hR _ ?_⟩
      rw [List.drop_zero, List.take_of_length_le (by omega), hfs, List.take_of_length_le (by omega)]
def rMeet (x : Li) (y : Spt) : Bool := x.s == y.s && decide (max x.a y.lo ≤ min x.b y.hi)
theorem meet_eq {x : Li} {y : Spt} (hx : x.a ≤ x.b) (hy : y.lo ≤ y.hi) : rMeet x y = pMeet x y := by
  unfold rMeet pMeet
  rw [Bool.eq_iff_iff]
  simp
  omega
theorem e_meets (s a b v y1 y2 y3 : Int) : PCalls Try.prog 66 [.agg [.int .i64 s, .int .i64 a, .int .i64 b, .int .i64 v], .agg [.int .i64 y1, .int .i64 y2, .int .i64 y3]] (· = .bool (rMeet ⟨s, a, b, v⟩ ⟨y1, y2, y3⟩)) := by
  (refine PCalls.ofY Try.func66 (by kernel_rfl) (by kernel_rfl) fun w hw R hR => ?_); (obtain ⟨wbin, wcmp, wun, wconv, wnot, wbeq, wmm, wscmp, wsadd, wslen, wsat, weqs, wlen, wnlen, wofNat, wtake, wdrop, wapp, wzero, wnat⟩ := w); (have hbin : wbin = binStd := congrArg Prims.bin hw); (have hcmp : wcmp = cmpStd := congrArg Prims.cmp hw); (have hun : wun = unStd := congrArg Prims.un hw); (have hconv : wconv = fun k n => k.wrap n := congrArg Prims.conv hw); (have hnot : wnot = fun b => !b := congrArg Prims.not hw); (have hbeq : wbeq = fun a b => a == b := congrArg Prims.beq hw); (have hmm : wmm = maxI := congrArg Prims.mm hw); (have hscmp : wscmp = scmpStd := congrArg Prims.scmp hw); (have hsadd : wsadd = fun x y => x ++ y := congrArg Prims.sadd hw); (have hslen : wslen = fun s => (s.size : Int) := congrArg Prims.slen hw); (have hsat : wsat = std.sat := congrArg Prims.sat hw); (have heqs : weqs = fun a b os => (eqOffs a b os).getD false := congrArg Prims.eqs hw); (have hlen : wlen = fun es => (es.length : Int) := congrArg Prims.len hw); (have hnlen : wnlen = fun es => es.length := congrArg Prims.nlen hw); (have hofNat : wofNat = (fun n : Nat => (n : Int)) := congrArg Prims.ofNat hw); (have htake : wtake = fun es b => es.take b.toNat := congrArg Prims.take hw); (have hdrop : wdrop = fun es a => es.drop a.toNat := congrArg Prims.drop hw); (have happ : wapp = fun a b => a ++ b := congrArg Prims.app hw); (have hzero : wzero = fun n z => List.replicate n.toNat z := congrArg Prims.zero hw); (have hnat : wnat = fun n => n.toNat := congrArg Prims.nat hw); (conv => arg 2; cbv); (generalize hP : Try.prog = P); cbv
  repeat' (split <;> rename_i h <;> (try (simp only [hbin, hcmp, hun, hconv, hnot, hbeq, hmm, hscmp, hsadd, hslen, hsat, heqs, hofNat, binStd, cmpStd, unStd, scmpStd, maxI, Bool.not_eq_true', Bool.not_eq_false', decide_eq_true_eq, decide_eq_false_iff_not, Int.not_lt, Int.not_le, if_true, if_false, Bool.false_eq_true, beq_iff_eq, bne_iff_ne, ne_eq, Bool.not_eq_eq_eq_not, Bool.not_true, Bool.not_false, beq_eq_false_iff_ne, bne_eq_false_iff_eq, Int.ofNat_eq_natCast, Bool.not_not, not_true_eq_false, not_false_eq_true, reduceCtorEq] at h)) <;> (try cbv))
  all_goals
    refine ⟨_, Vw.same rfl, hR _ (congrArg AV.bool ?_)⟩
    (try rw [hcmp]); (try rw [hmm]); simp [rMeet, cmpStd, maxI, *] <;> (repeat' split) <;> omega
theorem in_no {p : Li → Bool} {q : Spt → Bool} {l : List Li} {t : List Spt} {x : Li} {y : Spt} {out : Int} {f : Bool} (h : LeastIs p (l ++ bif t.any q then [x] else []) out f) (hm : q y = false) : LeastIs p (l ++ bif (t ++ [y]).any q then [x] else []) out f := by
  rw [List.any_append, show [y].any q = false by simp [hm], Bool.or_false]; exact h
theorem in_put {p : Li → Bool} {q : Spt → Bool} {l : List Li} {t : List Spt} {x : Li} {y : Spt} {out : Int} {f : Bool} (h : LeastIs p (l ++ bif t.any q then [x] else []) out f) (hm : q y = true) (hp : p x = true) (hv : f = false ∨ x.v < out) : LeastIs p (l ++ bif (t ++ [y]).any q then [x] else []) x.v true := by
  rw [List.any_append, show [y].any q = true by simp [hm], Bool.or_true]
  cases ht : t.any q with
  | false => rw [ht] at h; exact least_put (by simpa using h) hp hv
  | true =>
    rw [ht] at h
    have h : LeastIs p (l ++ [x]) out f := h
    exfalso
    cases f with
    | false => rw [(h.2 rfl).2 x (by simp)] at hp; cases hp
    | true =>
      have := (h.1 rfl).2 x (by simp) hp
      rcases hv with hv | hv
      · cases hv
      · omega
theorem in_keep {p : Li → Bool} {q : Spt → Bool} {l : List Li} {t : List Spt} {x : Li} {y : Spt} {out : Int} {f : Bool} (h : LeastIs p (l ++ bif t.any q then [x] else []) out f) (hm : q y = true) (hp : p x = true) (hf : f = true) (hv : out ≤ x.v) : LeastIs p (l ++ bif (t ++ [y]).any q then [x] else []) out f := by
  rw [List.any_append, show [y].any q = true by simp [hm], Bool.or_true]
  cases ht : t.any q with
  | false => rw [ht] at h; exact least_keep (by simpa using h) hf hv
  | true => rw [ht] at h; exact h
theorem in_end {p : Li → Bool} {l : List Li} {x : Li} {out : Int} {f : Bool} (h : LeastIs p (l ++ bif p x then [x] else []) out f) : LeastIs p (l ++ [x]) out f := by
  cases hx : p x with
  | false => rw [hx] at h; exact least_no (by simpa using h) hx
  | true => rw [hx] at h; exact h
theorem e_refLeast (ls : List Li) (es : List (List AV)) (hes : es = ls.map liRow) (ss : List Spt) (ds : List (List AV)) (hds : ds = ss.map sptRow) (hmax : ls.length ≤ 1000) (hmax2 : ss.length ≤ 1000) (hls : ∀ x, x ∈ ls → x.a ≤ x.b) (hss : ∀ y, y ∈ ss → y.lo ≤ y.hi) : PCalls Try.prog 50 [.list 4 es, .list 3 ds] (fun r => ∃ out f, r = .tuple [.int .i64 out, .bool f] ∧ LeastIs (fun x => ss.any (pMeet x)) ls out f) := by
  have hu : Up0 es := by rw [hes]; exact up_map (f := liRow) (fun d => rfl) ls
  have hud : Up0 ds := by rw [hds]; exact up_map (f := sptRow) (fun d => rfl) ss
  have hel : es.length = ls.length := by rw [hes]; simp
  have hdl : ds.length = ss.length := by rw [hds]; simp
  (refine PCalls.ofY Try.func50 (by kernel_rfl) (by kernel_rfl) fun w hw R hR => ?_); (obtain ⟨wbin, wcmp, wun, wconv, wnot, wbeq, wmm, wscmp, wsadd, wslen, wsat, weqs, wlen, wnlen, wofNat, wtake, wdrop, wapp, wzero, wnat⟩ := w); (have hbin : wbin = binStd := congrArg Prims.bin hw); (have hcmp : wcmp = cmpStd := congrArg Prims.cmp hw); (have hun : wun = unStd := congrArg Prims.un hw); (have hconv : wconv = fun k n => k.wrap n := congrArg Prims.conv hw); (have hnot : wnot = fun b => !b := congrArg Prims.not hw); (have hbeq : wbeq = fun a b => a == b := congrArg Prims.beq hw); (have hmm : wmm = maxI := congrArg Prims.mm hw); (have hscmp : wscmp = scmpStd := congrArg Prims.scmp hw); (have hsadd : wsadd = fun x y => x ++ y := congrArg Prims.sadd hw); (have hslen : wslen = fun s => (s.size : Int) := congrArg Prims.slen hw); (have hsat : wsat = std.sat := congrArg Prims.sat hw); (have heqs : weqs = fun a b os => (eqOffs a b os).getD false := congrArg Prims.eqs hw); (have hlen : wlen = fun es => (es.length : Int) := congrArg Prims.len hw); (have hnlen : wnlen = fun es => es.length := congrArg Prims.nlen hw); (have hofNat : wofNat = (fun n : Nat => (n : Int)) := congrArg Prims.ofNat hw); (have htake : wtake = fun es b => es.take b.toNat := congrArg Prims.take hw); (have hdrop : wdrop = fun es a => es.drop a.toNat := congrArg Prims.drop hw); (have happ : wapp = fun a b => a ++ b := congrArg Prims.app hw); (have hzero : wzero = fun n z => List.replicate n.toNat z := congrArg Prims.zero hw); (have hnat : wnat = fun n => n.toNat := congrArg Prims.nat hw); (conv => arg 2; cbv); (generalize hP : Try.prog = P); cbv
  (obtain ⟨L, eL, L0, Ln⟩ : ∃ L : Int, wlen es = L ∧ 0 ≤ L ∧ L.toNat = es.length := ⟨(es.length : Int), by rw [hlen], Int.natCast_nonneg _, Int.toNat_natCast _⟩)
  (obtain ⟨J, eJ, J0, Jn⟩ : ∃ L : Int, wlen ds = L ∧ 0 ≤ L ∧ L.toNat = ds.length := ⟨(ds.length : Int), by rw [hlen], Int.natCast_nonneg _, Int.toNat_natCast _⟩)
  obtain ⟨p, ep⟩ : ∃ p : Li → Bool, p = fun x => ss.any (pMeet x) := ⟨_, rfl⟩
  rw [← ep] at hR
  refine Loop.data hw (S := Lw) (fun s => fr 51 [(0, .list 4 es), (1, .list 3 ds), (6, .int .i64 s.out), (7, .bool s.f), (8, .int .i64 s.i)]) (fun s => []) (fun s => 0 ≤ s.i ∧ s.i ≤ L ∧ LeastIs p (ls.take s.i.toNat) s.out s.f) (fun s => (L - s.i).toNat) ⟨0, 0, false⟩ (by (refine Wk.eqz (id) (by first | exact fun i _ j _ e => e | (simp only [List.length_cons, List.length_nil]; decide)) ?_; cbv; (repeat' (first | exact trivial | rfl | assumption | apply And.intro | (simp only [hbin, hcmp, hun, hconv, hnot, hbeq, hmm, hscmp, hsadd, hslen, hsat, heqs, hofNat, binStd, cmpStd, unStd, scmpStd, maxI, Bool.not_eq_true', Bool.not_eq_false', decide_eq_true_eq, decide_eq_false_iff_not, Int.not_lt, Int.not_le, if_true, if_false, Bool.false_eq_true, beq_iff_eq, bne_iff_ne, ne_eq, Bool.not_eq_eq_eq_not, Bool.not_true, Bool.not_false, beq_eq_false_iff_ne, bne_eq_false_iff_eq, Int.ofNat_eq_natCast, Bool.not_not, not_true_eq_false, not_false_eq_true, reduceCtorEq]; first | done | assumption) | exact RowsZ.same (by assumption) (by first | assumption | rfl) | exact FzL.mk rfl rfl rfl (by assumption) (by first | assumption | rfl) (by decide) | (refine RowsZ.one ?_; cbv))))) ⟨Int.le_refl _, L0, least_nil _⟩ ?_
  rintro ⟨i, out, f⟩ hinv Q' hN hE hR'
  have hinv : 0 ≤ i ∧ i ≤ L ∧ LeastIs p (ls.take i.toNat) out f := hinv
  cbv
  obtain ⟨hi0, hi1, hl⟩ := hinv
  (split <;> rename_i hc <;> (try (simp only [eL] at hc)) <;> (try (simp only [hbin, hcmp, hun, hconv, hnot, hbeq, hmm, hscmp, hsadd, hslen, hsat, heqs, hofNat, binStd, cmpStd, unStd, scmpStd, maxI, Bool.not_eq_true', Bool.not_eq_false', decide_eq_true_eq, decide_eq_false_iff_not, Int.not_lt, Int.not_le, if_true, if_false, Bool.false_eq_true, beq_iff_eq, bne_iff_ne, ne_eq, Bool.not_eq_eq_eq_not, Bool.not_true, Bool.not_false, beq_eq_false_iff_ne, bne_eq_false_iff_eq, Int.ofNat_eq_natCast, Bool.not_not, not_true_eq_false, not_false_eq_true, reduceCtorEq] at hc)) <;> (try cbv))
  · obtain ⟨⟨s, a, b, v⟩, hd, hrow⟩ := get_map (f := liRow) (ds := ls) (i := i) hi0 (by omega)
    have hrow : es[i.toNat]? = some [.int .i64 s, .int .i64 a, .int .i64 b, .int .i64 v] := by rw [hes]; exact hrow
    have hab : a ≤ b := hls ⟨s, a, b, v⟩ (List.mem_of_getElem? hd)
    obtain ⟨i', ei'⟩ : ∃ x, i + 1 = x := ⟨_, rfl⟩
    have hL2 : L < 9223372036854775807 := by omega
    have ei : wbin .add .i64 i 1 = i' := by rw [hbin, i_add (by omega) (by omega)]; exact ei'
    have hT : (L - i').toNat < (L - i).toNat := by omega
    have ht : ls.take i'.toNat = ls.take i.toNat ++ [⟨s, a, b, v⟩] := by rw [← ei', show (i + 1).toNat = i.toNat + 1 by omega, List.take_add_one, hd]; rfl
    refine Loop.data hw (S := Lw) (fun s => fr 51 [(0, .list 4 es), (1, .list 3 ds), (6, .int .i64 s.out), (7, .bool s.f), (8, .int .i64 i), (9, .int .i64 s.i)]) (fun s => []) (fun t => 0 ≤ t.i ∧ t.i ≤ J ∧ LeastIs p (ls.take i.toNat ++ bif (ss.take t.i.toNat).any (pMeet ⟨s, a, b, v⟩) then [⟨s, a, b, v⟩] else []) t.out t.f) (fun s => (J - s.i).toNat) ⟨0, out, f⟩ (by (refine Wk.eqz (id) (by first | exact fun i _ j _ e => e | (simp only [List.length_cons, List.length_nil]; decide)) ?_; cbv; (repeat' (first | exact trivial | rfl | assumption | apply And.intro | (simp only [hbin, hcmp, hun, hconv, hnot, hbeq, hmm, hscmp, hsadd, hslen, hsat, heqs, hofNat, binStd, cmpStd, unStd, scmpStd, maxI, Bool.not_eq_true', Bool.not_eq_false', decide_eq_true_eq, decide_eq_false_iff_not, Int.not_lt, Int.not_le, if_true, if_false, Bool.false_eq_true, beq_iff_eq, bne_iff_ne, ne_eq, Bool.not_eq_eq_eq_not, Bool.not_true, Bool.not_false, beq_eq_false_iff_ne, bne_eq_false_iff_eq, Int.ofNat_eq_natCast, Bool.not_not, not_true_eq_false, not_false_eq_true, reduceCtorEq]; first | done | assumption) | exact RowsZ.same (by assumption) (by first | assumption | rfl) | exact FzL.mk rfl rfl rfl (by assumption) (by first | assumption | rfl) (by decide) | (refine RowsZ.one ?_; cbv))))) ⟨Int.le_refl _, J0, by simpa using hl⟩ ?_
    rintro ⟨k, out, f⟩ hinv2 Q2 hN2 hE2 hR2
    have hinv2 : 0 ≤ k ∧ k ≤ J ∧ LeastIs p (ls.take i.toNat ++ bif (ss.take k.toNat).any (pMeet ⟨s, a, b, v⟩) then [⟨s, a, b, v⟩] else []) out f := hinv2
    cbv
    obtain ⟨hk0, hk1, hm⟩ := hinv2
    (split <;> rename_i hc2 <;> (try (simp only [eJ] at hc2)) <;> (try (simp only [hbin, hcmp, hun, hconv, hnot, hbeq, hmm, hscmp, hsadd, hslen, hsat, heqs, hofNat, binStd, cmpStd, unStd, scmpStd, maxI, Bool.not_eq_true', Bool.not_eq_false', decide_eq_true_eq, decide_eq_false_iff_not, Int.not_lt, Int.not_le, if_true, if_false, Bool.false_eq_true, beq_iff_eq, bne_iff_ne, ne_eq, Bool.not_eq_eq_eq_not, Bool.not_true, Bool.not_false, beq_eq_false_iff_ne, bne_eq_false_iff_eq, Int.ofNat_eq_natCast, Bool.not_not, not_true_eq_false, not_false_eq_true, reduceCtorEq] at hc2)) <;> (try cbv))
    · obtain ⟨⟨y1, y2, y3⟩, hd2, hrow2⟩ := get_map (f := sptRow) (ds := ss) (i := k) hk0 (by omega)
      have hrow2 : ds[k.toNat]? = some [.int .i64 y1, .int .i64 y2, .int .i64 y3] := by rw [hds]; exact hrow2
      have hy : y2 ≤ y3 := hss ⟨y1, y2, y3⟩ (List.mem_of_getElem? hd2)
      obtain ⟨k', ek'⟩ : ∃ x, k + 1 = x := ⟨_, rfl⟩
      have hJ2 : J < 9223372036854775807 := by omega
      have ek : wbin .add .i64 k 1 = k' := by rw [hbin, i_add (by omega) (by omega)]; exact ek'
      have hT2 : (J - k').toNat < (J - k).toNat := by omega
      have ht2 : ss.take k'.toNat = ss.take k.toNat ++ [⟨y1, y2, y3⟩] := by rw [← ek', show (k + 1).toNat = k.toNat + 1 by omega, List.take_add_one, hd2]; rfl
      obtain ⟨o, eo⟩ : ∃ o, pMeet ⟨s, a, b, v⟩ ⟨y1, y2, y3⟩ = o := ⟨_, rfl⟩
      have hpx : o = true → p ⟨s, a, b, v⟩ = true := fun h => by rw [ep]; exact List.any_eq_true.2 ⟨_, List.mem_of_getElem? hd2, eo.trans h⟩
      have em : PCalls Try.prog 66 [.agg [.int .i64 s, .int .i64 a, .int .i64 b, .int .i64 v], .agg [.int .i64 y1, .int .i64 y2, .int .i64 y3]] (· = .bool o) := by
        rw [← eo, ← meet_eq (x := ⟨s, a, b, v⟩) (y := ⟨y1, y2, y3⟩) hab hy]; exact e_meets s a b v y1 y2 y3
      have k1 := in_no (l := ls.take i.toNat) (t := ss.take k.toNat) (y := ⟨y1, y2, y3⟩) hm
      have k2 := in_put (l := ls.take i.toNat) (t := ss.take k.toNat) (y := ⟨y1, y2, y3⟩) hm
      have k3 := in_keep (l := ls.take i.toNat) (t := ss.take k.toNat) (y := ⟨y1, y2, y3⟩) hm
      rw [← ht2, eo] at k1 k2 k3
      repeat' (first | (refine Idx.mk [.int .i64 s, .int .i64 a, .int .i64 b, .int .i64 v] hi0 hrow ?_; cbv) | (refine Idx.mk [.int .i64 y1, .int .i64 y2, .int .i64 y3] hk0 hrow2 ?_; cbv) | (refine QCal.stepE (by rw [← hP]; exact em) rfl ?_; cbv) | (refine Call.stepE (by rw [← hP]; exact em) rfl ?_; cbv) | (split <;> rename_i h <;> (try (simp only [hbin, hcmp, hun, hconv, hnot, hbeq, hmm, hscmp, hsadd, hslen, hsat, heqs, hofNat, binStd, cmpStd, unStd, scmpStd, maxI, Bool.not_eq_true', Bool.not_eq_false', decide_eq_true_eq, decide_eq_false_iff_not, Int.not_lt, Int.not_le, if_true, if_false, Bool.false_eq_true, beq_iff_eq, bne_iff_ne, ne_eq, Bool.not_eq_eq_eq_not, Bool.not_true, Bool.not_false, beq_eq_false_iff_ne, bne_eq_false_iff_eq, Int.ofNat_eq_natCast, Bool.not_not, not_true_eq_false, not_false_eq_true, reduceCtorEq] at h)) <;> (try cbv)))
      all_goals first
        | (refine hN2 ⟨k', v, true⟩ _ _ ?hx ?hi hT2; (case hx => (refine Wk.eqz (id) (by first | exact fun i _ j _ e => e | (simp only [List.length_cons, List.length_nil]; decide)) ?_; cbv; (repeat' (first | exact trivial | rfl | assumption | apply And.intro | (simp only [hbin, hcmp, hun, hconv, hnot, hbeq, hmm, hscmp, hsadd, hslen, hsat, heqs, hofNat, binStd, cmpStd, unStd, scmpStd, maxI, Bool.not_eq_true', Bool.not_eq_false', decide_eq_true_eq, decide_eq_false_iff_not, Int.not_lt, Int.not_le, if_true, if_false, Bool.false_eq_true, beq_iff_eq, bne_iff_ne, ne_eq, Bool.not_eq_eq_eq_not, Bool.not_true, Bool.not_false, beq_eq_false_iff_ne, bne_eq_false_iff_eq, Int.ofNat_eq_natCast, Bool.not_not, not_true_eq_false, not_false_eq_true, reduceCtorEq]; first | done | assumption) | exact RowsZ.same (by assumption) (by first | assumption | rfl) | exact FzL.mk rfl rfl rfl (by assumption) (by first | assumption | rfl) (by decide) | (refine RowsZ.one ?_; cbv))))); (case hi => exact ⟨by simp only; omega, by simp only; omega, k2 rfl (hpx rfl) (by first | exact .inl rfl | exact .inr (by assumption) | exact .inl (by assumption))⟩))
        | (refine hN2 ⟨k', out, f⟩ _ _ ?hx ?hi hT2; (case hx => (refine Wk.eqz (id) (by first | exact fun i _ j _ e => e | (simp only [List.length_cons, List.length_nil]; decide)) ?_; cbv; (repeat' (first | exact trivial | rfl | assumption | apply And.intro | (simp only [hbin, hcmp, hun, hconv, hnot, hbeq, hmm, hscmp, hsadd, hslen, hsat, heqs, hofNat, binStd, cmpStd, unStd, scmpStd, maxI, Bool.not_eq_true', Bool.not_eq_false', decide_eq_true_eq, decide_eq_false_iff_not, Int.not_lt, Int.not_le, if_true, if_false, Bool.false_eq_true, beq_iff_eq, bne_iff_ne, ne_eq, Bool.not_eq_eq_eq_not, Bool.not_true, Bool.not_false, beq_eq_false_iff_ne, bne_eq_false_iff_eq, Int.ofNat_eq_natCast, Bool.not_not, not_true_eq_false, not_false_eq_true, reduceCtorEq]; first | done | assumption) | exact RowsZ.same (by assumption) (by first | assumption | rfl) | exact FzL.mk rfl rfl rfl (by assumption) (by first | assumption | rfl) (by decide) | (refine RowsZ.one ?_; cbv))))); (case hi => exact ⟨by simp only; omega, by simp only; omega, by first | exact k1 rfl | exact k3 rfl (hpx rfl) (by assumption) (by assumption)⟩))
        | (refine hN2 ⟨k', out, true⟩ _ _ ?hx ?hi hT2; (case hx => (refine Wk.eqz (id) (by first | exact fun i _ j _ e => e | (simp only [List.length_cons, List.length_nil]; decide)) ?_; cbv; (repeat' (first | exact trivial | rfl | assumption | apply And.intro | (simp only [hbin, hcmp, hun, hconv, hnot, hbeq, hmm, hscmp, hsadd, hslen, hsat, heqs, hofNat, binStd, cmpStd, unStd, scmpStd, maxI, Bool.not_eq_true', Bool.not_eq_false', decide_eq_true_eq, decide_eq_false_iff_not, Int.not_lt, Int.not_le, if_true, if_false, Bool.false_eq_true, beq_iff_eq, bne_iff_ne, ne_eq, Bool.not_eq_eq_eq_not, Bool.not_true, Bool.not_false, beq_eq_false_iff_ne, bne_eq_false_iff_eq, Int.ofNat_eq_natCast, Bool.not_not, not_true_eq_false, not_false_eq_true, reduceCtorEq]; first | done | assumption) | exact RowsZ.same (by assumption) (by first | assumption | rfl) | exact FzL.mk rfl rfl rfl (by assumption) (by first | assumption | rfl) (by decide) | (refine RowsZ.one ?_; cbv))))); (case hi => exact ⟨by simp only; omega, by simp only; omega, by first | exact k1 rfl | exact k3 rfl (hpx rfl) rfl (by assumption)⟩))
        | (refine hN2 ⟨k', out, false⟩ _ _ ?hx ?hi hT2; (case hx => (refine Wk.eqz (id) (by first | exact fun i _ j _ e => e | (simp only [List.length_cons, List.length_nil]; decide)) ?_; cbv; (repeat' (first | exact trivial | rfl | assumption | apply And.intro | (simp only [hbin, hcmp, hun, hconv, hnot, hbeq, hmm, hscmp, hsadd, hslen, hsat, heqs, hofNat, binStd, cmpStd, unStd, scmpStd, maxI, Bool.not_eq_true', Bool.not_eq_false', decide_eq_true_eq, decide_eq_false_iff_not, Int.not_lt, Int.not_le, if_true, if_false, Bool.false_eq_true, beq_iff_eq, bne_iff_ne, ne_eq, Bool.not_eq_eq_eq_not, Bool.not_true, Bool.not_false, beq_eq_false_iff_ne, bne_eq_false_iff_eq, Int.ofNat_eq_natCast, Bool.not_not, not_true_eq_false, not_false_eq_true, reduceCtorEq]; first | done | assumption) | exact RowsZ.same (by assumption) (by first | assumption | rfl) | exact FzL.mk rfl rfl rfl (by assumption) (by first | assumption | rfl) (by decide) | (refine RowsZ.one ?_; cbv))))); (case hi => exact ⟨by simp only; omega, by simp only; omega, k1 rfl⟩))
    · refine hE2 _ _ _ ?_
      cbv
      rw [show ss.take k.toNat = ss from List.take_of_length_le (by omega), show ss.any (pMeet ⟨s, a, b, v⟩) = p ⟨s, a, b, v⟩ by rw [ep]] at hm
      have hm := in_end hm
      rw [← ht] at hm
      refine hN ⟨i', out, f⟩ _ _ ?hx ?hi hT
      case hx => (refine Wk.eqz (id) (by first | exact fun i _ j _ e => e | (simp only [List.length_cons, List.length_nil]; decide)) ?_; cbv; (repeat' (first | exact trivial | rfl | assumption | apply And.intro | (simp only [hbin, hcmp, hun, hconv, hnot, hbeq, hmm, hscmp, hsadd, hslen, hsat, heqs, hofNat, binStd, cmpStd, unStd, scmpStd, maxI, Bool.not_eq_true', Bool.not_eq_false', decide_eq_true_eq, decide_eq_false_iff_not, Int.not_lt, Int.not_le, if_true, if_false, Bool.false_eq_true, beq_iff_eq, bne_iff_ne, ne_eq, Bool.not_eq_eq_eq_not, Bool.not_true, Bool.not_false, beq_eq_false_iff_ne, bne_eq_false_iff_eq, Int.ofNat_eq_natCast, Bool.not_not, not_true_eq_false, not_false_eq_true, reduceCtorEq]; first | done | assumption) | exact RowsZ.same (by assumption) (by first | assumption | rfl) | exact FzL.mk rfl rfl rfl (by assumption) (by first | assumption | rfl) (by decide) | (refine RowsZ.one ?_; cbv))))
      case hi => exact ⟨by simp only; omega, by simp only; omega, hm⟩
  · refine hE _ _ _ ?_
    cbv
    refine ⟨_, Vw.same rfl, hR _ ⟨_, _, rfl, ?_⟩⟩
    rwa [List.take_of_length_le (by omega)] at hl
theorem e_anchor33 : PCalls Try.prog 27 [] (fun r => r = .bool true) := by
  (refine PCalls.ofY Try.func27 (by kernel_rfl) (by kernel_rfl) fun w hw R hR => ?_); (obtain ⟨wbin, wcmp, wun, wconv, wnot, wbeq, wmm, wscmp, wsadd, wslen, wsat, weqs, wlen, wnlen, wofNat, wtake, wdrop, wapp, wzero, wnat⟩ := w); (have hbin : wbin = binStd := congrArg Prims.bin hw); (have hcmp : wcmp = cmpStd := congrArg Prims.cmp hw); (have hun : wun = unStd := congrArg Prims.un hw); (have hconv : wconv = fun k n => k.wrap n := congrArg Prims.conv hw); (have hnot : wnot = fun b => !b := congrArg Prims.not hw); (have hbeq : wbeq = fun a b => a == b := congrArg Prims.beq hw); (have hmm : wmm = maxI := congrArg Prims.mm hw); (have hscmp : wscmp = scmpStd := congrArg Prims.scmp hw); (have hsadd : wsadd = fun x y => x ++ y := congrArg Prims.sadd hw); (have hslen : wslen = fun s => (s.size : Int) := congrArg Prims.slen hw); (have hsat : wsat = std.sat := congrArg Prims.sat hw); (have heqs : weqs = fun a b os => (eqOffs a b os).getD false := congrArg Prims.eqs hw); (have hlen : wlen = fun es => (es.length : Int) := congrArg Prims.len hw); (have hnlen : wnlen = fun es => es.length := congrArg Prims.nlen hw); (have hofNat : wofNat = (fun n : Nat => (n : Int)) := congrArg Prims.ofNat hw); (have htake : wtake = fun es b => es.take b.toNat := congrArg Prims.take hw); (have hdrop : wdrop = fun es a => es.drop a.toNat := congrArg Prims.drop hw); (have happ : wapp = fun a b => a ++ b := congrArg Prims.app hw); (have hzero : wzero = fun n z => List.replicate n.toNat z := congrArg Prims.zero hw); (have hnat : wnat = fun n => n.toNat := congrArg Prims.nat hw); (conv => arg 2; cbv); (generalize hP : Try.prog = P); cbv
  refine Call.step (by rw [← hP]; exact e_at33 [⟨1, 10, 20, 50⟩] _ rfl 1 20 (by decide)) rfl ?_
  rintro r ⟨o1, f1, rfl, h1⟩
  cbv
  refine Call.step (by rw [← hP]; exact e_at33 [⟨1, 10, 20, 50⟩] _ rfl 1 21 (by decide)) rfl ?_
  rintro r ⟨o2, f2, rfl, h2⟩
  cbv
  obtain ⟨rfl, rfl⟩ := least_eq h1 (show LeastIs (pAt 1 20) [⟨1, 10, 20, 50⟩] 50 true from ⟨fun _ => ⟨⟨_, List.mem_singleton.2 rfl, rfl, rfl⟩, fun x hx _ => (by rw [List.mem_singleton.1 hx]; exact Int.le_refl _)⟩, fun h => (by cases h)⟩)
  obtain ⟨rfl, rfl⟩ := least_eq h2 (show LeastIs (pAt 1 21) [⟨1, 10, 20, 50⟩] 0 false from ⟨fun h => (by cases h), fun _ => ⟨rfl, fun x hx => (by rw [List.mem_singleton.1 hx]; rfl)⟩⟩)
  repeat' (split <;> rename_i h <;> (try (simp only [hbin, hcmp, hun, hconv, hnot, hbeq, hmm, hscmp, hsadd, hslen, hsat, heqs, hofNat, binStd, cmpStd, unStd, scmpStd, maxI, Bool.not_eq_true', Bool.not_eq_false', decide_eq_true_eq, decide_eq_false_iff_not, Int.not_lt, Int.not_le, if_true, if_false, Bool.false_eq_true, beq_iff_eq, bne_iff_ne, ne_eq, Bool.not_eq_eq_eq_not, Bool.not_true, Bool.not_false, beq_eq_false_iff_ne, bne_eq_false_iff_eq, Int.ofNat_eq_natCast, Bool.not_not, not_true_eq_false, not_false_eq_true, reduceCtorEq] at h)) <;> (try cbv))
  all_goals
    refine ⟨_, Vw.same rfl, hR _ ?_⟩
    show AV.bool _ = AV.bool true
    first | rfl | (rw [hnot]; rfl)
end Go.Proofs.Ytjfbecnappgjjaa

/- limit.Check, and the document's, by the engine. -/
set_option linter.unusedVariables false
set_option linter.unusedSimpArgs false
namespace Go.Proofs.Ytjfbecnappgjjaa
open Go Go.RowKit Go.Eng
set_option maxRecDepth 100000
def cmpZ (a b : Int) : Int := if a < b then -1 else if b < a then 1 else 0
theorem e_nan1 (a : Int) : PCalls Try.prog 62 [.int .i64 a] (· = .bool false) := by
  (refine PCalls.ofY Try.func62 (by kernel_rfl) (by kernel_rfl) fun w hw R hR => ?_); (obtain ⟨wbin, wcmp, wun, wconv, wnot, wbeq, wmm, wscmp, wsadd, wslen, wsat, weqs, wlen, wnlen, wofNat, wtake, wdrop, wapp, wzero, wnat⟩ := w); (have hbin : wbin = binStd := congrArg Prims.bin hw); (have hcmp : wcmp = cmpStd := congrArg Prims.cmp hw); (have hun : wun = unStd := congrArg Prims.un hw); (have hconv : wconv = fun k n => k.wrap n := congrArg Prims.conv hw); (have hnot : wnot = fun b => !b := congrArg Prims.not hw); (have hbeq : wbeq = fun a b => a == b := congrArg Prims.beq hw); (have hmm : wmm = maxI := congrArg Prims.mm hw); (have hscmp : wscmp = scmpStd := congrArg Prims.scmp hw); (have hsadd : wsadd = fun x y => x ++ y := congrArg Prims.sadd hw); (have hslen : wslen = fun s => (s.size : Int) := congrArg Prims.slen hw); (have hsat : wsat = std.sat := congrArg Prims.sat hw); (have heqs : weqs = fun a b os => (eqOffs a b os).getD false := congrArg Prims.eqs hw); (have hlen : wlen = fun es => (es.length : Int) := congrArg Prims.len hw); (have hnlen : wnlen = fun es => es.length := congrArg Prims.nlen hw); (have hofNat : wofNat = (fun n : Nat => (n : Int)) := congrArg Prims.ofNat hw); (have htake : wtake = fun es b => es.take b.toNat := congrArg Prims.take hw); (have hdrop : wdrop = fun es a => es.drop a.toNat := congrArg Prims.drop hw); (have happ : wapp = fun a b => a ++ b := congrArg Prims.app hw); (have hzero : wzero = fun n z => List.replicate n.toNat z := congrArg Prims.zero hw); (have hnat : wnat = fun n => n.toNat := congrArg Prims.nat hw); (conv => arg 2; cbv); (generalize hP : Try.prog = P); cbv
  refine ⟨_, Vw.same rfl, hR _ ?_⟩
  show AV.bool _ = AV.bool false
  rw [hcmp]; simp [cmpStd]
theorem e_cmp1 (a b : Int) : PCalls Try.prog 46 [.int .i64 a, .int .i64 b] (· = .int .i64 (cmpZ a b)) := by
  (refine PCalls.ofY Try.func46 (by kernel_rfl) (by kernel_rfl) fun w hw R hR => ?_); (obtain ⟨wbin, wcmp, wun, wconv, wnot, wbeq, wmm, wscmp, wsadd, wslen, wsat, weqs, wlen, wnlen, wofNat, wtake, wdrop, wapp, wzero, wnat⟩ := w); (have hbin : wbin = binStd := congrArg Prims.bin hw); (have hcmp : wcmp = cmpStd := congrArg Prims.cmp hw); (have hun : wun = unStd := congrArg Prims.un hw); (have hconv : wconv = fun k n => k.wrap n := congrArg Prims.conv hw); (have hnot : wnot = fun b => !b := congrArg Prims.not hw); (have hbeq : wbeq = fun a b => a == b := congrArg Prims.beq hw); (have hmm : wmm = maxI := congrArg Prims.mm hw); (have hscmp : wscmp = scmpStd := congrArg Prims.scmp hw); (have hsadd : wsadd = fun x y => x ++ y := congrArg Prims.sadd hw); (have hslen : wslen = fun s => (s.size : Int) := congrArg Prims.slen hw); (have hsat : wsat = std.sat := congrArg Prims.sat hw); (have heqs : weqs = fun a b os => (eqOffs a b os).getD false := congrArg Prims.eqs hw); (have hlen : wlen = fun es => (es.length : Int) := congrArg Prims.len hw); (have hnlen : wnlen = fun es => es.length := congrArg Prims.nlen hw); (have hofNat : wofNat = (fun n : Nat => (n : Int)) := congrArg Prims.ofNat hw); (have htake : wtake = fun es b => es.take b.toNat := congrArg Prims.take hw); (have hdrop : wdrop = fun es a => es.drop a.toNat := congrArg Prims.drop hw); (have happ : wapp = fun a b => a ++ b := congrArg Prims.app hw); (have hzero : wzero = fun n z => List.replicate n.toNat z := congrArg Prims.zero hw); (have hnat : wnat = fun n => n.toNat := congrArg Prims.nat hw); (conv => arg 2; cbv); (generalize hP : Try.prog = P); cbv
  refine Call.stepE (by rw [← hP]; exact e_nan1 a) rfl ?_
  cbv
  refine Call.stepE (by rw [← hP]; exact e_nan1 b) rfl ?_
  cbv
  repeat' (split <;> rename_i h <;> (try (simp only [hbin, hcmp, hun, hconv, hnot, hbeq, hmm, hscmp, hsadd, hslen, hsat, heqs, hofNat, binStd, cmpStd, unStd, scmpStd, maxI, Bool.not_eq_true', Bool.not_eq_false', decide_eq_true_eq, decide_eq_false_iff_not, Int.not_lt, Int.not_le, if_true, if_false, Bool.false_eq_true, beq_iff_eq, bne_iff_ne, ne_eq, Bool.not_eq_eq_eq_not, Bool.not_true, Bool.not_false, beq_eq_false_iff_ne, bne_eq_false_iff_eq, Int.ofNat_eq_natCast, Bool.not_not, not_true_eq_false, not_false_eq_true, reduceCtorEq] at h)) <;> (try cbv))
  all_goals
    refine ⟨_, Vw.same rfl, hR _ (congrArg (AV.int .i64) ?_)⟩
    unfold cmpZ
    repeat' split
    all_goals omega
/-- A limit out of range; one that is out of order. -/
def RB (ss : List Sg) (ls : List Li) (j : Nat) : Prop := ∃ x, ls[j]? = some x ∧ ¬ (0 ≤ x.s ∧ x.s.toNat < ss.length ∧ 0 ≤ x.a ∧ x.a ≤ x.b ∧ (∀ s, ss[x.s.toNat]? = some s → x.b ≤ s.len) ∧ 0 ≤ x.v ∧ x.v ≤ 16777216)
def OB (ls : List Li) (j : Nat) : Prop := ∃ x y, 0 < j ∧ ls[j]? = some x ∧ ls[j - 1]? = some y ∧ (x.s < y.s ∨ x.s = y.s ∧ x.a < y.a)
def ChkIs (ss : List Sg) (ls : List Li) (e i : Int) : Prop :=
  (400 < ls.length ∧ e = 13 ∧ i = 0) ∨ (ls.length ≤ 400 ∧ (((∀ j, j < ls.length → ¬ RB ss ls j ∧ ¬ OB ls j) ∧ e = 0 ∧ i = 0) ∨ ∃ k : Nat, k = i.toNat ∧ 0 ≤ i ∧ (∀ j, j < k → ¬ RB ss ls j ∧ ¬ OB ls j) ∧ ((RB ss ls k ∧ e = 10) ∨ (¬ RB ss ls k ∧ OB ls k ∧ e = 11))))
/-- A fact that is kept out of reckonings. -/
structure Fct (p : Prop) : Prop where
  h : p
theorem rb_lt {ss : List Sg} {ls : List Li} {k : Nat} (h : RB ss ls k ∨ OB ls k) : k < ls.length := by
  rcases h with ⟨x, hx, _⟩ | ⟨x, y, _, hx, _⟩
  · exact (List.getElem?_eq_some_iff.1 hx).1
  · exact (List.getElem?_eq_some_iff.1 hx).1
theorem chk_uniq {ss : List Sg} {ls : List Li} {e i e2 i2 : Int} (h : ChkIs ss ls e i) (k : ChkIs ss ls e2 i2) : e = e2 ∧ i = i2 := by
  have one : ∀ {e i : Int} {n : Nat}, (RB ss ls n ∧ e = 10) ∨ (¬ RB ss ls n ∧ OB ls n ∧ e = 11) → RB ss ls n ∨ OB ls n := fun h => h.elim (fun h => .inl h.1) (fun h => .inr h.2.1)
  rcases h with ⟨h0, h1, h2⟩ | ⟨h0, ⟨h1, h2, h3⟩ | ⟨n, hn, hi, h1, h2⟩⟩ <;> rcases k with ⟨k0, k1, k2⟩ | ⟨k0, ⟨k1, k2, k3⟩ | ⟨m, hm, hj, k1, k2⟩⟩
  · exact ⟨by omega, by omega⟩
  · omega
  · omega
  · omega
  · exact ⟨by omega, by omega⟩
  · exfalso
    have b := one (e := e2) (i := i2) k2
    have := h1 m (rb_lt b)
    exact b.elim this.1 this.2
  · omega
  · exfalso
    have b := one (e := e) (i := i) h2
    have := k1 n (rb_lt b)
    exact b.elim this.1 this.2
  · have enm : n = m := by
      rcases Nat.lt_trichotomy n m with hlt | heq | hlt
      · have b := one (e := e) (i := i) h2
        have := k1 n hlt
        exact absurd b (fun b => b.elim this.1 this.2)
      · exact heq
      · have b := one (e := e2) (i := i2) k2
        have := h1 m hlt
        exact absurd b (fun b => b.elim this.1 this.2)
    subst enm
    refine ⟨?_, by omega⟩
    rcases h2 with ⟨a1, a2⟩ | ⟨a1, a2, a3⟩ <;> rcases k2 with ⟨b1, b2⟩ | ⟨b1, b2, b3⟩
    · omega
    · exact absurd a1 b1
    · exact absurd b1 a1
    · omega
theorem pos_of {i : Int} (h0 : 0 ≤ i) (h : 0 < i.toNat) : 0 < i := by omega
theorem pos_nat {i : Int} (h : 0 < i) : 0 < i.toNat := by omega
theorem rb_of {ss : List Sg} {ls : List Li} {j : Nat} {s a b v len J : Int} {sg : Sg} {P : Prop} (hd : ls[j]? = some ⟨s, a, b, v⟩) (hrs : 0 ≤ s ∧ s < J → P ∧ ss[s.toNat]? = some sg ∧ sg.len = len) (hJ : J.toNat = ss.length ∧ 0 ≤ J) (hn : ¬ (0 ≤ s ∧ s < J ∧ 0 ≤ a ∧ a ≤ b ∧ b ≤ len ∧ 0 ≤ v ∧ v ≤ 16777216)) : RB ss ls j := by
  refine ⟨_, hd, fun ⟨g1, g2, g3, g4, g5, g6, g7⟩ => hn ?_⟩
  simp only at g1 g2 g3 g4 g5 g6 g7
  have hs : 0 ≤ s ∧ s < J := ⟨g1, by omega⟩
  obtain ⟨k1, k2⟩ := (hrs hs).2
  have := g5 sg k1
  exact ⟨g1, by omega, g3, g4, by omega, g6, g7⟩
theorem not_rb {ss : List Sg} {ls : List Li} {j : Nat} {s a b v len J : Int} {sg : Sg} {P : Prop} (hd : ls[j]? = some ⟨s, a, b, v⟩) (hrs : 0 ≤ s ∧ s < J → P ∧ ss[s.toNat]? = some sg ∧ sg.len = len) (hJ : J.toNat = ss.length ∧ 0 ≤ J) (hn : 0 ≤ s ∧ s < J ∧ 0 ≤ a ∧ a ≤ b ∧ b ≤ len ∧ 0 ≤ v ∧ v ≤ 16777216) : ¬ RB ss ls j := by
  rintro ⟨x, hx, hb⟩
  rw [hd] at hx
  obtain rfl : (⟨s, a, b, v⟩ : Li) = x := by simpa using hx
  obtain ⟨k1, k2⟩ := (hrs ⟨hn.1, hn.2.1⟩).2
  refine hb ⟨hn.1, by simp only; omega, hn.2.2.1, hn.2.2.2.1, fun t ht => ?_, hn.2.2.2.2.2.1, hn.2.2.2.2.2.2⟩
  simp only at ht ⊢
  rw [k1] at ht
  obtain rfl : sg = t := by simpa using ht
  omega
theorem not_ob {ls : List Li} {j : Nat} {s a b v s' a' b' v' : Int} (hd : ls[j]? = some ⟨s, a, b, v⟩) (hp : 0 < j → ls[j - 1]? = some ⟨s', a', b', v'⟩) (h : 0 < j → ¬ (s < s' ∨ s = s' ∧ a < a')) : ¬ OB ls j := by
  rintro ⟨x, y, h0, hx, hy, ho⟩
  rw [hd] at hx
  rw [hp h0] at hy
  obtain rfl : (⟨s, a, b, v⟩ : Li) = x := by simpa using hx
  obtain rfl : (⟨s', a', b', v'⟩ : Li) = y := by simpa using hy
  exact h h0 ho
theorem cmp_pos {s a s' a' : Int} : 0 < (if cmpZ s' s = 0 then cmpZ a' a else cmpZ s' s) ↔ (s < s' ∨ s = s' ∧ a < a') := by
  unfold cmpZ
  repeat' split
  all_goals omega
end Go.Proofs.Ytjfbecnappgjjaa

/- The document's check of limits, by the engine. -/
set_option linter.unusedVariables false
set_option linter.unusedSimpArgs false
namespace Go.Proofs.Ytjfbecnappgjjaa
open Go Go.RowKit Go.Eng
set_option maxRecDepth 100000
set_option maxHeartbeats 2000000 in
theorem e_rcheck (ls : List Li) (ss : List Sg) (gs : List Gr) (ls' es ds : List (List AV)) (hls : ls' = ls.map liRow) (hes : es = ss.map sgRow) (hds : ds = gs.map grRow) : PCalls Try.prog 30 [.agg [.list 3 es, .list 5 ds], .list 4 ls'] (fun r => ∃ e i, r = .tuple [.int .i64 e, .int .i64 i] ∧ ChkIs ss ls e i) := by
  have hu : Up0 es := by rw [hes]; exact up_sg ss
  have hud : Up0 ds := by rw [hds]; exact up_gr gs
  have hul : Up0 ls' := by rw [hls]; exact up_map (f := liRow) (fun d => rfl) ls
  have hel : es.length = ss.length := by rw [hes]; simp
  have hll : ls'.length = ls.length := by rw [hls]; simp
  (refine PCalls.ofY Try.func30 (by kernel_rfl) (by kernel_rfl) fun w hw R hR => ?_); (obtain ⟨wbin, wcmp, wun, wconv, wnot, wbeq, wmm, wscmp, wsadd, wslen, wsat, weqs, wlen, wnlen, wofNat, wtake, wdrop, wapp, wzero, wnat⟩ := w); (have hbin : wbin = binStd := congrArg Prims.bin hw); (have hcmp : wcmp = cmpStd := congrArg Prims.cmp hw); (have hun : wun = unStd := congrArg Prims.un hw); (have hconv : wconv = fun k n => k.wrap n := congrArg Prims.conv hw); (have hnot : wnot = fun b => !b := congrArg Prims.not hw); (have hbeq : wbeq = fun a b => a == b := congrArg Prims.beq hw); (have hmm : wmm = maxI := congrArg Prims.mm hw); (have hscmp : wscmp = scmpStd := congrArg Prims.scmp hw); (have hsadd : wsadd = fun x y => x ++ y := congrArg Prims.sadd hw); (have hslen : wslen = fun s => (s.size : Int) := congrArg Prims.slen hw); (have hsat : wsat = std.sat := congrArg Prims.sat hw); (have heqs : weqs = fun a b os => (eqOffs a b os).getD false := congrArg Prims.eqs hw); (have hlen : wlen = fun es => (es.length : Int) := congrArg Prims.len hw); (have hnlen : wnlen = fun es => es.length := congrArg Prims.nlen hw); (have hofNat : wofNat = (fun n : Nat => (n : Int)) := congrArg Prims.ofNat hw); (have htake : wtake = fun es b => es.take b.toNat := congrArg Prims.take hw); (have hdrop : wdrop = fun es a => es.drop a.toNat := congrArg Prims.drop hw); (have happ : wapp = fun a b => a ++ b := congrArg Prims.app hw); (have hzero : wzero = fun n z => List.replicate n.toNat z := congrArg Prims.zero hw); (have hnat : wnat = fun n => n.toNat := congrArg Prims.nat hw); (conv => arg 2; cbv); (generalize hP : Try.prog = P); cbv
  (obtain ⟨L, eL, L0, Ln⟩ : ∃ L : Int, wlen ls' = L ∧ 0 ≤ L ∧ L.toNat = ls'.length := ⟨(ls'.length : Int), by rw [hlen], Int.natCast_nonneg _, Int.toNat_natCast _⟩)
  (obtain ⟨J, eJ, J0, Jn⟩ : ∃ L : Int, wlen es = L ∧ 0 ≤ L ∧ L.toNat = es.length := ⟨(es.length : Int), by rw [hlen], Int.natCast_nonneg _, Int.toNat_natCast _⟩)
  have fin : ∀ e i : Int, ChkIs ss ls e i → R (.tuple [.int .i64 e, .int .i64 i]) := fun e i h => hR _ ⟨_, _, rfl, h⟩
  (split <;> rename_i h1 <;> (try (simp only [eL] at h1)) <;> (try (simp only [hbin, hcmp, hun, hconv, hnot, hbeq, hmm, hscmp, hsadd, hslen, hsat, heqs, hofNat, binStd, cmpStd, unStd, scmpStd, maxI, Bool.not_eq_true', Bool.not_eq_false', decide_eq_true_eq, decide_eq_false_iff_not, Int.not_lt, Int.not_le, if_true, if_false, Bool.false_eq_true, beq_iff_eq, bne_iff_ne, ne_eq, Bool.not_eq_eq_eq_not, Bool.not_true, Bool.not_false, beq_eq_false_iff_ne, bne_eq_false_iff_eq, Int.ofNat_eq_natCast, Bool.not_not, not_true_eq_false, not_false_eq_true, reduceCtorEq] at h1)) <;> (try cbv))
  · exact ⟨_, Vw.same rfl, fin _ _ (.inl ⟨by omega, rfl, rfl⟩)⟩
  have h400 : ls.length ≤ 400 := by omega
  refine Loop.data hw (S := Int) (fun i => fr 102 [(1, .list 4 ls'), (2, .ref 0 2 0 0), (6, .int .i64 i)]) (fun i => [.live 2 [[.list 3 es, .list 5 ds]]]) (fun i => 0 ≤ i ∧ i ≤ L ∧ ∀ j, j < i.toNat → ¬ RB ss ls j ∧ ¬ OB ls j) (fun i => (L - i).toNat) 0 (by (refine Wk.eqz (id) (by first | exact fun i _ j _ e => e | (simp only [List.length_cons, List.length_nil]; decide)) ?_; cbv; (repeat' (first | exact trivial | rfl | assumption | apply And.intro | (simp only [hbin, hcmp, hun, hconv, hnot, hbeq, hmm, hscmp, hsadd, hslen, hsat, heqs, hofNat, binStd, cmpStd, unStd, scmpStd, maxI, Bool.not_eq_true', Bool.not_eq_false', decide_eq_true_eq, decide_eq_false_iff_not, Int.not_lt, Int.not_le, if_true, if_false, Bool.false_eq_true, beq_iff_eq, bne_iff_ne, ne_eq, Bool.not_eq_eq_eq_not, Bool.not_true, Bool.not_false, beq_eq_false_iff_ne, bne_eq_false_iff_eq, Int.ofNat_eq_natCast, Bool.not_not, not_true_eq_false, not_false_eq_true, reduceCtorEq]; first | done | assumption) | exact RowsZ.same (by assumption) (by first | assumption | rfl) | exact FzL.mk rfl rfl rfl (by assumption) (by first | assumption | rfl) (by decide) | (refine RowsZ.one ?_; cbv))))) ⟨Int.le_refl _, L0, fun j hj => (by simp at hj)⟩ ?_
  rintro i hinv Q' hN hE hR'
  have hinv : 0 ≤ i ∧ i ≤ L ∧ ∀ j, j < i.toNat → ¬ RB ss ls j ∧ ¬ OB ls j := hinv
  cbv
  obtain ⟨hi0, hi1, hl⟩ := hinv
  (split <;> rename_i hc <;> (try (simp only [eL] at hc)) <;> (try (simp only [hbin, hcmp, hun, hconv, hnot, hbeq, hmm, hscmp, hsadd, hslen, hsat, heqs, hofNat, binStd, cmpStd, unStd, scmpStd, maxI, Bool.not_eq_true', Bool.not_eq_false', decide_eq_true_eq, decide_eq_false_iff_not, Int.not_lt, Int.not_le, if_true, if_false, Bool.false_eq_true, beq_iff_eq, bne_iff_ne, ne_eq, Bool.not_eq_eq_eq_not, Bool.not_true, Bool.not_false, beq_eq_false_iff_ne, bne_eq_false_iff_eq, Int.ofNat_eq_natCast, Bool.not_not, not_true_eq_false, not_false_eq_true, reduceCtorEq] at hc)) <;> (try cbv))
  · obtain ⟨⟨s, a, b, v⟩, hd, hrow⟩ := get_map (f := liRow) (ds := ls) (i := i) hi0 (by omega)
    have hrow : ls'[i.toNat]? = some [.int .i64 s, .int .i64 a, .int .i64 b, .int .i64 v] := by rw [hls]; exact hrow
    obtain ⟨i', ei'⟩ : ∃ x, i + 1 = x := ⟨_, rfl⟩
    obtain ⟨im, eim⟩ : ∃ x, i - 1 = x := ⟨_, rfl⟩
    have ei : wbin .add .i64 i 1 = i' := by rw [hbin, i_add (by omega) (by omega)]; exact ei'
    have em : wbin .sub .i64 i 1 = im := by rw [hbin, i_sub (by omega) (by omega)]; exact eim
    have hT : (L - i').toNat < (L - i).toNat := by omega
    obtain ⟨s', a', b', v', hp'⟩ : ∃ s' a' b' v', Fct (0 < i → 0 ≤ im ∧ ls[i.toNat - 1]? = some ⟨s', a', b', v'⟩ ∧ ls'[im.toNat]? = some [.int .i64 s', .int .i64 a', .int .i64 b', .int .i64 v']) := by
      by_cases h : 0 < i
      · obtain ⟨⟨s', a', b', v'⟩, k1, k2⟩ := get_map (f := liRow) (ds := ls) (i := im) (by omega) (by omega)
        exact ⟨s', a', b', v', ⟨fun _ => ⟨by omega, by rw [← k1]; congr 1; omega, by rw [hls]; exact k2⟩⟩⟩
      · exact ⟨0, 0, 0, 0, ⟨fun h' => absurd h' h⟩⟩
    have hJ : J.toNat = ss.length ∧ 0 ≤ J := ⟨by omega, J0⟩
    obtain ⟨len, q1, n1, sg, hrs⟩ : ∃ (len : Int) (q1 n1 : List (List AV)) (sg : Sg), Fct (0 ≤ s ∧ s < J → es[s.toNat]? = some [.int .i64 len, .list 2 q1, .list 1 n1] ∧ ss[s.toNat]? = some sg ∧ sg.len = len) := by
      by_cases h : 0 ≤ s ∧ s < J
      · obtain ⟨⟨len, ps, nx⟩, k1, k2⟩ := get_map (f := sgRow) (ds := ss) (i := s) h.1 (by omega)
        exact ⟨len, _, _, _, ⟨fun _ => ⟨by rw [hes]; exact k2, k1, rfl⟩⟩⟩
      · exact ⟨0, [], [], ⟨0, [], []⟩, ⟨fun h' => absurd h' h⟩⟩
    have bad : ¬ (0 ≤ s ∧ s < J ∧ 0 ≤ a ∧ a ≤ b ∧ b ≤ len ∧ 0 ≤ v ∧ v ≤ 16777216) → RB ss ls i.toNat := fun hn => rb_of hd hrs.h hJ hn
    have good : (0 ≤ s ∧ s < J ∧ 0 ≤ a ∧ a ≤ b ∧ b ≤ len ∧ 0 ≤ v ∧ v ≤ 16777216) → ¬ RB ss ls i.toNat := fun hn => not_rb hd hrs.h hJ hn
    have obad : 0 < i → (s < s' ∨ s = s' ∧ a < a') → OB ls i.toNat := fun hp h => ⟨_, _, pos_nat hp, hd, (hp'.h hp).2.1, h⟩
    have ogood : (0 < i → ¬ (s < s' ∨ s = s' ∧ a < a')) → ¬ OB ls i.toNat := fun h => not_ob hd (fun hp => (hp'.h (pos_of hi0 hp)).2.1) (fun hp => h (pos_of hi0 hp))
    have f10 : ¬ (0 ≤ s ∧ s < J ∧ 0 ≤ a ∧ a ≤ b ∧ b ≤ len ∧ 0 ≤ v ∧ v ≤ 16777216) → R (.tuple [.int .i64 10, .int .i64 i]) := fun h => fin _ _ (.inr ⟨h400, .inr ⟨i.toNat, rfl, hi0, hl, .inl ⟨bad h, rfl⟩⟩⟩)
    have f11 : (0 ≤ s ∧ s < J ∧ 0 ≤ a ∧ a ≤ b ∧ b ≤ len ∧ 0 ≤ v ∧ v ≤ 16777216) → 0 < i → (s < s' ∨ s = s' ∧ a < a') → R (.tuple [.int .i64 11, .int .i64 i]) := fun h hp ho => fin _ _ (.inr ⟨h400, .inr ⟨i.toNat, rfl, hi0, hl, .inr ⟨good h, obad hp ho, rfl⟩⟩⟩)
    have next : (0 ≤ s ∧ s < J ∧ 0 ≤ a ∧ a ≤ b ∧ b ≤ len ∧ 0 ≤ v ∧ v ≤ 16777216) → (0 < i → ¬ (s < s' ∨ s = s' ∧ a < a')) → ∀ j, j < i'.toNat → ¬ RB ss ls j ∧ ¬ OB ls j := by
      intro h ho
      rw [← ei']
      exact all_step hi0 hl ⟨good h, ogood ho⟩
    repeat' (first
      | (refine hR' _ _ ⟨_, Vw.same rfl, f10 ?_⟩; clear hN hE hR' hR; omega)
      | (refine hR' _ _ ⟨_, Vw.same rfl, f11 ?_ ?_ ?_⟩ <;> (clear hN hE hR' hR; omega))
      | (refine Idx.mk [.int .i64 s, .int .i64 a, .int .i64 b, .int .i64 v] hi0 hrow ?_; cbv)
      | (refine Idx.mk [.int .i64 len, .list 2 q1, .list 1 n1] (by assumption) (hrs.h ⟨by assumption, by assumption⟩).1 ?_; cbv)
      | (simp only [em]; refine Idx.mk [.int .i64 s', .int .i64 a', .int .i64 b', .int .i64 v'] (hp'.h (by assumption)).1 (hp'.h (by assumption)).2.2 ?_; cbv)
      | (split <;> rename_i h <;> (try (simp only [eJ] at h)) <;> (try (simp only [hbin, hcmp, hun, hconv, hnot, hbeq, hmm, hscmp, hsadd, hslen, hsat, heqs, hofNat, binStd, cmpStd, unStd, scmpStd, maxI, Bool.not_eq_true', Bool.not_eq_false', decide_eq_true_eq, decide_eq_false_iff_not, Int.not_lt, Int.not_le, if_true, if_false, Bool.false_eq_true, beq_iff_eq, bne_iff_ne, ne_eq, Bool.not_eq_eq_eq_not, Bool.not_true, Bool.not_false, beq_eq_false_iff_ne, bne_eq_false_iff_eq, Int.ofNat_eq_natCast, Bool.not_not, not_true_eq_false, not_false_eq_true, reduceCtorEq] at h)) <;> (try cbv)))
    all_goals
      refine hN i' _ _ ?hx ?hi hT
      case hx => (refine Wk.eqz (id) (by first | exact fun i _ j _ e => e | (simp only [List.length_cons, List.length_nil]; decide)) ?_; cbv; (repeat' (first | exact trivial | rfl | assumption | apply And.intro | (simp only [hbin, hcmp, hun, hconv, hnot, hbeq, hmm, hscmp, hsadd, hslen, hsat, heqs, hofNat, binStd, cmpStd, unStd, scmpStd, maxI, Bool.not_eq_true', Bool.not_eq_false', decide_eq_true_eq, decide_eq_false_iff_not, Int.not_lt, Int.not_le, if_true, if_false, Bool.false_eq_true, beq_iff_eq, bne_iff_ne, ne_eq, Bool.not_eq_eq_eq_not, Bool.not_true, Bool.not_false, beq_eq_false_iff_ne, bne_eq_false_iff_eq, Int.ofNat_eq_natCast, Bool.not_not, not_true_eq_false, not_false_eq_true, reduceCtorEq]; first | done | assumption) | exact RowsZ.same (by assumption) (by first | assumption | rfl) | exact FzL.mk rfl rfl rfl (by assumption) (by first | assumption | rfl) (by decide) | (refine RowsZ.one ?_; cbv))))
      case hi => exact ⟨by omega, by omega, next ⟨by omega, by omega, by omega, by omega, by omega, by omega, by omega⟩ (by omega)⟩
  · refine hE _ _ _ ?_
    cbv
    exact ⟨_, Vw.same rfl, fin _ _ (.inr ⟨h400, .inl ⟨fun j hj => hl j (by omega), rfl, rfl⟩⟩)⟩
end Go.Proofs.Ytjfbecnappgjjaa

/- What LimitFast asks of a report; the greatest limit, by the engine. -/
set_option linter.unusedVariables false
set_option linter.unusedSimpArgs false
namespace Go.Proofs.Ytjfbecnappgjjaa
open Go Go.RowKit Go.Eng
set_option maxRecDepth 100000
structure Ways33 (ss : List Sg) (rs : List (List Int)) (lo hi : Int) (o : Ro) : Prop where
  r16 : rs.length ≤ 16
  lo : -1125899906842624 ≤ lo ∧ lo ≤ 1125899906842624
  hi : -1125899906842624 ≤ hi ∧ hi ≤ 1125899906842624
  sp : -1099511627776 ≤ o.slo ∧ o.shi ≤ 1099511627776 ∧ o.slo ≤ o.shi
  ways : ∀ l, l ∈ rs → l.length ≤ 12 ∧ ∀ n, n ∈ l → 0 ≤ n ∧ n.toNat < ss.length
set_option maxHeartbeats 2000000 in
theorem e_may33 (ss : List Sg) (gs : List Gr) (rs : List (List Int)) (es ds qs : List (List AV)) (hes : es = ss.map sgRow) (hds : ds = gs.map grRow) (hqs : qs = rs.map rtRow) (g lo hi : Int) (o : Ro) :
    PCalls Try.prog 29 [.agg [.list 3 es, .list 5 ds], .agg (repRow g lo hi qs o)] (fun r => ∃ u : Bool, r = .bool u ∧ (u = true → Ways33 ss rs lo hi o)) := by
  have hu : Up0 es := by rw [hes]; exact up_sg ss
  have hud : Up0 ds := by rw [hds]; exact up_gr gs
  have huq : Up0 qs := by rw [hqs]; exact up_rt rs
  have hel : es.length = ss.length := by rw [hes]; simp
  have hdl : ds.length = gs.length := by rw [hds]; simp
  have hql : qs.length = rs.length := by rw [hqs]; simp
  have hut : uptoL 0 [.agg [.list 3 es, .list 5 ds]] = true := Bool.and_eq_true_iff.mpr ⟨Up0.one hu (Up0.one hud rfl), rfl⟩
  obtain ⟨oc, om, oest, oslo, oshi, onom, odist, ofit, ob1, ob2, os0, os1, ob3, ob4, ob5, ob6, ob7, omlo, omhi, operm, oc0, oc1, oc2, oc3, ok0, ok1, ok2, ok3⟩ := o
  (refine PCalls.ofY Try.func29 (by kernel_rfl) (by kernel_rfl) fun w hw R hR => ?_); (obtain ⟨wbin, wcmp, wun, wconv, wnot, wbeq, wmm, wscmp, wsadd, wslen, wsat, weqs, wlen, wnlen, wofNat, wtake, wdrop, wapp, wzero, wnat⟩ := w); (have hbin : wbin = binStd := congrArg Prims.bin hw); (have hcmp : wcmp = cmpStd := congrArg Prims.cmp hw); (have hun : wun = unStd := congrArg Prims.un hw); (have hconv : wconv = fun k n => k.wrap n := congrArg Prims.conv hw); (have hnot : wnot = fun b => !b := congrArg Prims.not hw); (have hbeq : wbeq = fun a b => a == b := congrArg Prims.beq hw); (have hmm : wmm = maxI := congrArg Prims.mm hw); (have hscmp : wscmp = scmpStd := congrArg Prims.scmp hw); (have hsadd : wsadd = fun x y => x ++ y := congrArg Prims.sadd hw); (have hslen : wslen = fun s => (s.size : Int) := congrArg Prims.slen hw); (have hsat : wsat = std.sat := congrArg Prims.sat hw); (have heqs : weqs = fun a b os => (eqOffs a b os).getD false := congrArg Prims.eqs hw); (have hlen : wlen = fun es => (es.length : Int) := congrArg Prims.len hw); (have hnlen : wnlen = fun es => es.length := congrArg Prims.nlen hw); (have hofNat : wofNat = (fun n : Nat => (n : Int)) := congrArg Prims.ofNat hw); (have htake : wtake = fun es b => es.take b.toNat := congrArg Prims.take hw); (have hdrop : wdrop = fun es a => es.drop a.toNat := congrArg Prims.drop hw); (have happ : wapp = fun a b => a ++ b := congrArg Prims.app hw); (have hzero : wzero = fun n z => List.replicate n.toNat z := congrArg Prims.zero hw); (have hnat : wnat = fun n => n.toNat := congrArg Prims.nat hw); (conv => arg 2; cbv); (generalize hP : Try.prog = P); cbv
  (obtain ⟨L, eL, L0, Ln⟩ : ∃ L : Int, wlen es = L ∧ 0 ≤ L ∧ L.toNat = es.length := ⟨(es.length : Int), by rw [hlen], Int.natCast_nonneg _, Int.toNat_natCast _⟩)
  (obtain ⟨J, eJ, J0, Jn⟩ : ∃ L : Int, wlen ds = L ∧ 0 ≤ L ∧ L.toNat = ds.length := ⟨(ds.length : Int), by rw [hlen], Int.natCast_nonneg _, Int.toNat_natCast _⟩)
  (obtain ⟨M, eM, M0, Mn⟩ : ∃ L : Int, wlen qs = L ∧ 0 ≤ L ∧ L.toNat = qs.length := ⟨(qs.length : Int), by rw [hlen], Int.natCast_nonneg _, Int.toNat_natCast _⟩)
  have hF : R (.bool false) := hR _ ⟨_, rfl, fun h => (by cases h)⟩
  repeat' (first | exact ⟨_, Vw.same rfl, hF⟩ | (split <;> rename_i h <;> (try (simp only [eL, eJ, eM] at h)) <;> (try (simp only [hbin, hcmp, hun, hconv, hnot, hbeq, hmm, hscmp, hsadd, hslen, hsat, heqs, hofNat, binStd, cmpStd, unStd, scmpStd, maxI, Bool.not_eq_true', Bool.not_eq_false', decide_eq_true_eq, decide_eq_false_iff_not, Int.not_lt, Int.not_le, if_true, if_false, Bool.false_eq_true, beq_iff_eq, bne_iff_ne, ne_eq, Bool.not_eq_eq_eq_not, Bool.not_true, Bool.not_false, beq_eq_false_iff_ne, bne_eq_false_iff_eq, Int.ofNat_eq_natCast, Bool.not_not, not_true_eq_false, not_false_eq_true, reduceCtorEq] at h)) <;> (try cbv)))
  have hb : rs.length ≤ 16 ∧ (-1125899906842624 ≤ lo ∧ lo ≤ 1125899906842624) ∧ (-1125899906842624 ≤ hi ∧ hi ≤ 1125899906842624) ∧ -1099511627776 ≤ oslo ∧ oshi ≤ 1099511627776 ∧ oslo ≤ oshi := by omega
  obtain ⟨b3, b5, b6, b7⟩ := hb
  refine Loop.data hw (S := Int) (fun i => fr 85 [(2, .ref 0 2 0 0), (59, .list 1 qs), (60, .int .i64 M), (61, .int .i64 i)]) (fun i => [.live 2 [[.list 3 es, .list 5 ds]]]) (fun i => 0 ≤ i ∧ i ≤ M ∧ ∀ j l, j < i.toNat → rs[j]? = some l → l.length ≤ 12 ∧ ∀ n, n ∈ l → 0 ≤ n ∧ n.toNat < ss.length) (fun i => (M - i).toNat) 0 (by (refine Wk.eqz (id) (by first | exact fun i _ j _ e => e | (simp only [List.length_cons, List.length_nil]; decide)) ?_; cbv; (repeat' (first | exact trivial | rfl | assumption | apply And.intro | (simp only [hbin, hcmp, hun, hconv, hnot, hbeq, hmm, hscmp, hsadd, hslen, hsat, heqs, hofNat, binStd, cmpStd, unStd, scmpStd, maxI, Bool.not_eq_true', Bool.not_eq_false', decide_eq_true_eq, decide_eq_false_iff_not, Int.not_lt, Int.not_le, if_true, if_false, Bool.false_eq_true, beq_iff_eq, bne_iff_ne, ne_eq, Bool.not_eq_eq_eq_not, Bool.not_true, Bool.not_false, beq_eq_false_iff_ne, bne_eq_false_iff_eq, Int.ofNat_eq_natCast, Bool.not_not, not_true_eq_false, not_false_eq_true, reduceCtorEq]; first | done | assumption) | exact RowsZ.same (by assumption) (by first | assumption | rfl) | exact FzL.mk rfl rfl rfl (by assumption) (by first | assumption | rfl) (by decide) | (refine RowsZ.one ?_; cbv))))) ⟨Int.le_refl _, M0, fun j l hj => (by simp at hj)⟩ ?_
  rintro i2 hinv2 Q2 hN2 hE2 hR2
  have hinv2 : 0 ≤ i2 ∧ i2 ≤ M ∧ ∀ j l, j < i2.toNat → rs[j]? = some l → l.length ≤ 12 ∧ ∀ n, n ∈ l → 0 ≤ n ∧ n.toNat < ss.length := hinv2
  cbv
  obtain ⟨hj0, hj1, hrl⟩ := hinv2
  (split <;> rename_i hc2 <;> (try (simp only [hbin, hcmp, hun, hconv, hnot, hbeq, hmm, hscmp, hsadd, hslen, hsat, heqs, hofNat, binStd, cmpStd, unStd, scmpStd, maxI, Bool.not_eq_true', Bool.not_eq_false', decide_eq_true_eq, decide_eq_false_iff_not, Int.not_lt, Int.not_le, if_true, if_false, Bool.false_eq_true, beq_iff_eq, bne_iff_ne, ne_eq, Bool.not_eq_eq_eq_not, Bool.not_true, Bool.not_false, beq_eq_false_iff_ne, bne_eq_false_iff_eq, Int.ofNat_eq_natCast, Bool.not_not, not_true_eq_false, not_false_eq_true, reduceCtorEq] at hc2)) <;> (try cbv))
  · obtain ⟨l, hd, hrow⟩ := get_map (f := rtRow) (ds := rs) (i := i2) hj0 (by omega)
    obtain ⟨ls, els⟩ : ∃ x, l.map nxRow = x := ⟨_, rfl⟩
    have huls : Up0 ls := by rw [← els]; exact up_nx l
    have hll : ls.length = l.length := by rw [← els]; simp
    have hrow : qs[i2.toNat]? = some [.list 1 ls] := by rw [hqs, ← els]; exact hrow
    obtain ⟨i', ei'⟩ : ∃ x, i2 + 1 = x := ⟨_, rfl⟩
    have ei : wbin .add .i64 i2 1 = i' := by rw [hbin, i_add (by omega) (by omega)]; exact ei'
    refine Idx.mk [.list 1 ls] hj0 hrow ?_
    cbv
    (obtain ⟨K, eK, K0, Kn⟩ : ∃ L : Int, wlen ls = L ∧ 0 ≤ L ∧ L.toNat = ls.length := ⟨(ls.length : Int), by rw [hlen], Int.natCast_nonneg _, Int.toNat_natCast _⟩)
    (split <;> rename_i h12 <;> (try (simp only [eK] at h12)) <;> (try (simp only [hbin, hcmp, hun, hconv, hnot, hbeq, hmm, hscmp, hsadd, hslen, hsat, heqs, hofNat, binStd, cmpStd, unStd, scmpStd, maxI, Bool.not_eq_true', Bool.not_eq_false', decide_eq_true_eq, decide_eq_false_iff_not, Int.not_lt, Int.not_le, if_true, if_false, Bool.false_eq_true, beq_iff_eq, bne_iff_ne, ne_eq, Bool.not_eq_eq_eq_not, Bool.not_true, Bool.not_false, beq_eq_false_iff_ne, bne_eq_false_iff_eq, Int.ofNat_eq_natCast, Bool.not_not, not_true_eq_false, not_false_eq_true, reduceCtorEq] at h12)) <;> (try cbv))
    · exact hR2 _ _ ⟨_, Vw.same rfl, hF⟩
    refine Loop.data hw (S := Int) (fun j => fr 85 [(2, .ref 0 2 0 0), (59, .list 1 qs), (60, .int .i64 M), (61, .int .i64 i2), (68, .list 1 ls), (69, .int .i64 K), (70, .int .i64 j)]) (fun j => [.live 2 [[.list 3 es, .list 5 ds]]]) (fun j => 0 ≤ j ∧ j ≤ K ∧ ∀ k n, k < j.toNat → l[k]? = some n → 0 ≤ n ∧ n.toNat < ss.length) (fun j => (K - j).toNat) 0 (by (refine Wk.eqz (id) (by first | exact fun i _ j _ e => e | (simp only [List.length_cons, List.length_nil]; decide)) ?_; cbv; (repeat' (first | exact trivial | rfl | assumption | apply And.intro | (simp only [hbin, hcmp, hun, hconv, hnot, hbeq, hmm, hscmp, hsadd, hslen, hsat, heqs, hofNat, binStd, cmpStd, unStd, scmpStd, maxI, Bool.not_eq_true', Bool.not_eq_false', decide_eq_true_eq, decide_eq_false_iff_not, Int.not_lt, Int.not_le, if_true, if_false, Bool.false_eq_true, beq_iff_eq, bne_iff_ne, ne_eq, Bool.not_eq_eq_eq_not, Bool.not_true, Bool.not_false, beq_eq_false_iff_ne, bne_eq_false_iff_eq, Int.ofNat_eq_natCast, Bool.not_not, not_true_eq_false, not_false_eq_true, reduceCtorEq]; first | done | assumption) | exact RowsZ.same (by assumption) (by first | assumption | rfl) | exact FzL.mk rfl rfl rfl (by assumption) (by first | assumption | rfl) (by decide) | (refine RowsZ.one ?_; cbv))))) ⟨Int.le_refl _, K0, fun j l hj => (by simp at hj)⟩ ?_
    rintro j hinv3 Q3 hN3 hE3 hR3
    have hinv3 : 0 ≤ j ∧ j ≤ K ∧ ∀ k n, k < j.toNat → l[k]? = some n → 0 ≤ n ∧ n.toNat < ss.length := hinv3
    cbv
    obtain ⟨hk0, hk1, hnl⟩ := hinv3
    (split <;> rename_i hc3 <;> (try (simp only [hbin, hcmp, hun, hconv, hnot, hbeq, hmm, hscmp, hsadd, hslen, hsat, heqs, hofNat, binStd, cmpStd, unStd, scmpStd, maxI, Bool.not_eq_true', Bool.not_eq_false', decide_eq_true_eq, decide_eq_false_iff_not, Int.not_lt, Int.not_le, if_true, if_false, Bool.false_eq_true, beq_iff_eq, bne_iff_ne, ne_eq, Bool.not_eq_eq_eq_not, Bool.not_true, Bool.not_false, beq_eq_false_iff_ne, bne_eq_false_iff_eq, Int.ofNat_eq_natCast, Bool.not_not, not_true_eq_false, not_false_eq_true, reduceCtorEq] at hc3)) <;> (try cbv))
    · obtain ⟨n, hdn, hrn⟩ := get_map (f := nxRow) (ds := l) (i := j) hk0 (by omega)
      have hrn : ls[j.toNat]? = some [.int .i64 n] := by rw [← els]; exact hrn
      obtain ⟨j', ej'⟩ : ∃ x, j + 1 = x := ⟨_, rfl⟩
      have ej : wbin .add .i64 j 1 = j' := by rw [hbin, i_add (by omega) (by omega)]; exact ej'
      refine Idx.mk [.int .i64 n] hk0 hrn ?_
      cbv
      repeat' (first | exact hR3 _ _ (hR2 _ _ ⟨_, Vw.same rfl, hF⟩) | (split <;> rename_i h <;> (try (simp only [eL] at h)) <;> (try (simp only [hbin, hcmp, hun, hconv, hnot, hbeq, hmm, hscmp, hsadd, hslen, hsat, heqs, hofNat, binStd, cmpStd, unStd, scmpStd, maxI, Bool.not_eq_true', Bool.not_eq_false', decide_eq_true_eq, decide_eq_false_iff_not, Int.not_lt, Int.not_le, if_true, if_false, Bool.false_eq_true, beq_iff_eq, bne_iff_ne, ne_eq, Bool.not_eq_eq_eq_not, Bool.not_true, Bool.not_false, beq_eq_false_iff_ne, bne_eq_false_iff_eq, Int.ofNat_eq_natCast, Bool.not_not, not_true_eq_false, not_false_eq_true, reduceCtorEq] at h)) <;> (try cbv)))
      refine hN3 j' _ _ ?hx ?hI (show (K - j').toNat < (K - j).toNat by omega)
      case hx => (refine Wk.eqz (id) (by first | exact fun i _ j _ e => e | (simp only [List.length_cons, List.length_nil]; decide)) ?_; cbv; (repeat' (first | exact trivial | rfl | assumption | apply And.intro | (simp only [hbin, hcmp, hun, hconv, hnot, hbeq, hmm, hscmp, hsadd, hslen, hsat, heqs, hofNat, binStd, cmpStd, unStd, scmpStd, maxI, Bool.not_eq_true', Bool.not_eq_false', decide_eq_true_eq, decide_eq_false_iff_not, Int.not_lt, Int.not_le, if_true, if_false, Bool.false_eq_true, beq_iff_eq, bne_iff_ne, ne_eq, Bool.not_eq_eq_eq_not, Bool.not_true, Bool.not_false, beq_eq_false_iff_ne, bne_eq_false_iff_eq, Int.ofNat_eq_natCast, Bool.not_not, not_true_eq_false, not_false_eq_true, reduceCtorEq]; first | done | assumption) | exact RowsZ.same (by assumption) (by first | assumption | rfl) | exact FzL.mk rfl rfl rfl (by assumption) (by first | assumption | rfl) (by decide) | (refine RowsZ.one ?_; cbv))))
      case hI =>
        refine ⟨by omega, by omega, fun k m hk hkm => ?_⟩
        by_cases hkj : k = j.toNat
        · subst hkj; rw [hdn] at hkm; cases hkm; omega
        · exact hnl k m (by omega) hkm
    · refine hE3 _ _ _ ?_
      cbv
      refine hN2 i' _ _ ?hx ?hI (show (M - i').toNat < (M - i2).toNat by omega)
      case hx => (refine Wk.eqz (id) (by first | exact fun i _ j _ e => e | (simp only [List.length_cons, List.length_nil]; decide)) ?_; cbv; (repeat' (first | exact trivial | rfl | assumption | apply And.intro | (simp only [hbin, hcmp, hun, hconv, hnot, hbeq, hmm, hscmp, hsadd, hslen, hsat, heqs, hofNat, binStd, cmpStd, unStd, scmpStd, maxI, Bool.not_eq_true', Bool.not_eq_false', decide_eq_true_eq, decide_eq_false_iff_not, Int.not_lt, Int.not_le, if_true, if_false, Bool.false_eq_true, beq_iff_eq, bne_iff_ne, ne_eq, Bool.not_eq_eq_eq_not, Bool.not_true, Bool.not_false, beq_eq_false_iff_ne, bne_eq_false_iff_eq, Int.ofNat_eq_natCast, Bool.not_not, not_true_eq_false, not_false_eq_true, reduceCtorEq]; first | done | assumption) | exact RowsZ.same (by assumption) (by first | assumption | rfl) | exact FzL.mk rfl rfl rfl (by assumption) (by first | assumption | rfl) (by decide) | (refine RowsZ.one ?_; cbv))))
      case hI =>
        refine ⟨by omega, by omega, fun k m hk hkm => ?_⟩
        by_cases hkj : k = i2.toNat
        · subst hkj; rw [hd] at hkm; cases hkm
          refine ⟨by omega, fun n hn => ?_⟩
          obtain ⟨q, hq⟩ := List.mem_iff_getElem?.1 hn
          exact hnl q n (by have := (List.getElem?_eq_some_iff.1 hq).1; omega) hq
        · exact hrl k m (by omega) hkm
  · refine hE2 _ _ _ ?_
    cbv
    have hways : ∀ l, l ∈ rs → l.length ≤ 12 ∧ ∀ n, n ∈ l → 0 ≤ n ∧ n.toNat < ss.length := fun l hl => by
      obtain ⟨q, hq⟩ := List.mem_iff_getElem?.1 hl
      exact hrl q l (by have := (List.getElem?_eq_some_iff.1 hq).1; omega) hq
    exact ⟨_, Vw.same rfl, hR _ ⟨_, rfl, fun _ => ⟨b3, b5, b6, b7, hways⟩⟩⟩
/-- Does a limit hold at all places of a spot? -/
def pAll (x : Li) (y : Spt) : Bool := x.s == y.s && decide (x.a ≤ y.lo) && decide (y.hi ≤ x.b)
/-- The least limit that holds at all places of a spot, or the greatest speed. -/
def bnd (y : Spt) (ls : List Li) : Int := ls.foldl (fun o x => if pAll x y then min o x.v else o) 16777216
def gre (ls : List Li) (ys : List Spt) : Int := ys.foldl (fun o y => max o (bnd y ls)) 0
theorem e_bound (ls : List Li) (es : List (List AV)) (hes : es = ls.map liRow) (y : Spt) (hmax : ls.length ≤ 1000) : PCalls Try.prog 51 [.list 4 es, .agg (sptRow y)] (· = .int .i64 (bnd y ls)) := by
  obtain ⟨s0, l0, h0⟩ := y
  show PCalls Try.prog 51 [.list 4 es, .agg [.int .i64 s0, .int .i64 l0, .int .i64 h0]] (· = .int .i64 (bnd ⟨s0, l0, h0⟩ ls))
  have hu : Up0 es := by rw [hes]; exact up_map (f := liRow) (fun d => rfl) ls
  have hel : es.length = ls.length := by rw [hes]; simp
  (refine PCalls.ofY Try.func51 (by kernel_rfl) (by kernel_rfl) fun w hw R hR => ?_); (obtain ⟨wbin, wcmp, wun, wconv, wnot, wbeq, wmm, wscmp, wsadd, wslen, wsat, weqs, wlen, wnlen, wofNat, wtake, wdrop, wapp, wzero, wnat⟩ := w); (have hbin : wbin = binStd := congrArg Prims.bin hw); (have hcmp : wcmp = cmpStd := congrArg Prims.cmp hw); (have hun : wun = unStd := congrArg Prims.un hw); (have hconv : wconv = fun k n => k.wrap n := congrArg Prims.conv hw); (have hnot : wnot = fun b => !b := congrArg Prims.not hw); (have hbeq : wbeq = fun a b => a == b := congrArg Prims.beq hw); (have hmm : wmm = maxI := congrArg Prims.mm hw); (have hscmp : wscmp = scmpStd := congrArg Prims.scmp hw); (have hsadd : wsadd = fun x y => x ++ y := congrArg Prims.sadd hw); (have hslen : wslen = fun s => (s.size : Int) := congrArg Prims.slen hw); (have hsat : wsat = std.sat := congrArg Prims.sat hw); (have heqs : weqs = fun a b os => (eqOffs a b os).getD false := congrArg Prims.eqs hw); (have hlen : wlen = fun es => (es.length : Int) := congrArg Prims.len hw); (have hnlen : wnlen = fun es => es.length := congrArg Prims.nlen hw); (have hofNat : wofNat = (fun n : Nat => (n : Int)) := congrArg Prims.ofNat hw); (have htake : wtake = fun es b => es.take b.toNat := congrArg Prims.take hw); (have hdrop : wdrop = fun es a => es.drop a.toNat := congrArg Prims.drop hw); (have happ : wapp = fun a b => a ++ b := congrArg Prims.app hw); (have hzero : wzero = fun n z => List.replicate n.toNat z := congrArg Prims.zero hw); (have hnat : wnat = fun n => n.toNat := congrArg Prims.nat hw); (conv => arg 2; cbv); (generalize hP : Try.prog = P); cbv
  (obtain ⟨L, eL, L0, Ln⟩ : ∃ L : Int, wlen es = L ∧ 0 ≤ L ∧ L.toNat = es.length := ⟨(es.length : Int), by rw [hlen], Int.natCast_nonneg _, Int.toNat_natCast _⟩)
  refine Loop.data hw (S := Int × Int) (fun s => fr 56 [(0, .list 4 es), (3, .ref 0 3 0 0), (5, .int .i64 s.2), (6, .int .i64 s.1)]) (fun s => [.live 3 [[.int .i64 s0, .int .i64 l0, .int .i64 h0]]]) (fun s => 0 ≤ s.1 ∧ s.1 ≤ L ∧ s.2 = bnd ⟨s0, l0, h0⟩ (ls.take s.1.toNat)) (fun s => (L - s.1).toNat) (0, 16777216) (by (refine Wk.eqz (id) (by first | exact fun i _ j _ e => e | (simp only [List.length_cons, List.length_nil]; decide)) ?_; cbv; (repeat' (first | exact trivial | rfl | assumption | apply And.intro | (simp only [hbin, hcmp, hun, hconv, hnot, hbeq, hmm, hscmp, hsadd, hslen, hsat, heqs, hofNat, binStd, cmpStd, unStd, scmpStd, maxI, Bool.not_eq_true', Bool.not_eq_false', decide_eq_true_eq, decide_eq_false_iff_not, Int.not_lt, Int.not_le, if_true, if_false, Bool.false_eq_true, beq_iff_eq, bne_iff_ne, ne_eq, Bool.not_eq_eq_eq_not, Bool.not_true, Bool.not_false, beq_eq_false_iff_ne, bne_eq_false_iff_eq, Int.ofNat_eq_natCast, Bool.not_not, not_true_eq_false, not_false_eq_true, reduceCtorEq]; first | done | assumption) | exact RowsZ.same (by assumption) (by first | assumption | rfl) | exact FzL.mk rfl rfl rfl (by assumption) (by first | assumption | rfl) (by decide) | (refine RowsZ.one ?_; cbv))))) ⟨Int.le_refl _, L0, rfl⟩ ?_
  rintro ⟨i, out⟩ hinv Q' hN hE hR'
  have hinv : 0 ≤ i ∧ i ≤ L ∧ out = bnd ⟨s0, l0, h0⟩ (ls.take i.toNat) := hinv
  cbv
  obtain ⟨hi0, hi1, hout⟩ := hinv
  (split <;> rename_i hc <;> (try (simp only [eL] at hc)) <;> (try (simp only [hbin, hcmp, hun, hconv, hnot, hbeq, hmm, hscmp, hsadd, hslen, hsat, heqs, hofNat, binStd, cmpStd, unStd, scmpStd, maxI, Bool.not_eq_true', Bool.not_eq_false', decide_eq_true_eq, decide_eq_false_iff_not, Int.not_lt, Int.not_le, if_true, if_false, Bool.false_eq_true, beq_iff_eq, bne_iff_ne, ne_eq, Bool.not_eq_eq_eq_not, Bool.not_true, Bool.not_false, beq_eq_false_iff_ne, bne_eq_false_iff_eq, Int.ofNat_eq_natCast, Bool.not_not, not_true_eq_false, not_false_eq_true, reduceCtorEq] at hc)) <;> (try cbv))
  · obtain ⟨⟨s, a, b, v⟩, hd, hrow⟩ := get_map (f := liRow) (ds := ls) (i := i) hi0 (by omega)
    have hrow : es[i.toNat]? = some [.int .i64 s, .int .i64 a, .int .i64 b, .int .i64 v] := by rw [hes]; exact hrow
    obtain ⟨i', ei'⟩ : ∃ x, i + 1 = x := ⟨_, rfl⟩
    have ei : wbin .add .i64 i 1 = i' := by rw [hbin, i_add (by omega) (by omega)]; exact ei'
    have hT : (L - i').toNat < (L - i).toNat := by omega
    have hnx : bnd ⟨s0, l0, h0⟩ (ls.take i'.toNat) = if pAll ⟨s, a, b, v⟩ ⟨s0, l0, h0⟩ then min out v else out := by
      rw [← ei', take_next hi0 hd, hout]
      simp only [bnd, List.foldl_append, List.foldl_cons, List.foldl_nil]
    have hk : ∀ out', out' = (if pAll ⟨s, a, b, v⟩ ⟨s0, l0, h0⟩ then min out v else out) → 0 ≤ i' ∧ i' ≤ L ∧ out' = bnd ⟨s0, l0, h0⟩ (ls.take i'.toNat) := fun out' h => ⟨by omega, by omega, by rw [hnx]; exact h⟩
    repeat' (first
      | (refine Idx.mk _ hi0 hrow ?_; cbv)
      | (split <;> rename_i h <;> (try (simp only [hbin, hcmp, hun, hconv, hnot, hbeq, hmm, hscmp, hsadd, hslen, hsat, heqs, hofNat, binStd, cmpStd, unStd, scmpStd, maxI, Bool.not_eq_true', Bool.not_eq_false', decide_eq_true_eq, decide_eq_false_iff_not, Int.not_lt, Int.not_le, if_true, if_false, Bool.false_eq_true, beq_iff_eq, bne_iff_ne, ne_eq, Bool.not_eq_eq_eq_not, Bool.not_true, Bool.not_false, beq_eq_false_iff_ne, bne_eq_false_iff_eq, Int.ofNat_eq_natCast, Bool.not_not, not_true_eq_false, not_false_eq_true, reduceCtorEq] at h)) <;> (try cbv)))
    all_goals by_cases hp : s = s0 ∧ a ≤ l0 ∧ h0 ≤ b ∧ v < out
    all_goals first
      | (exfalso; clear hN hE hR' hR hk hnx; omega)
      | skip
    all_goals first
      | (obtain ⟨p1, p2, p3, p4⟩ := hp
         refine hN (i', v) _ _ ?hx (hk _ ?hI) hT
         case hx => (refine Wk.eqz (id) (by first | exact fun i _ j _ e => e | (simp only [List.length_cons, List.length_nil]; decide)) ?_; cbv; (repeat' (first | exact trivial | rfl | assumption | apply And.intro | (simp only [hbin, hcmp, hun, hconv, hnot, hbeq, hmm, hscmp, hsadd, hslen, hsat, heqs, hofNat, binStd, cmpStd, unStd, scmpStd, maxI, Bool.not_eq_true', Bool.not_eq_false', decide_eq_true_eq, decide_eq_false_iff_not, Int.not_lt, Int.not_le, if_true, if_false, Bool.false_eq_true, beq_iff_eq, bne_iff_ne, ne_eq, Bool.not_eq_eq_eq_not, Bool.not_true, Bool.not_false, beq_eq_false_iff_ne, bne_eq_false_iff_eq, Int.ofNat_eq_natCast, Bool.not_not, not_true_eq_false, not_false_eq_true, reduceCtorEq]; first | done | assumption) | exact RowsZ.same (by assumption) (by first | assumption | rfl) | exact FzL.mk rfl rfl rfl (by assumption) (by first | assumption | rfl) (by decide) | (refine RowsZ.one ?_; cbv))))
         case hI =>
           have hp : pAll ⟨s, a, b, v⟩ ⟨s0, l0, h0⟩ = true := by simp only [pAll, Bool.and_eq_true, beq_iff_eq, decide_eq_true_eq]; exact ⟨⟨p1, p2⟩, p3⟩
           rw [hp]
           show v = min out v
           omega)
      | (refine hN (i', out) _ _ ?hx (hk _ ?hI) hT
         case hx => (refine Wk.eqz (id) (by first | exact fun i _ j _ e => e | (simp only [List.length_cons, List.length_nil]; decide)) ?_; cbv; (repeat' (first | exact trivial | rfl | assumption | apply And.intro | (simp only [hbin, hcmp, hun, hconv, hnot, hbeq, hmm, hscmp, hsadd, hslen, hsat, heqs, hofNat, binStd, cmpStd, unStd, scmpStd, maxI, Bool.not_eq_true', Bool.not_eq_false', decide_eq_true_eq, decide_eq_false_iff_not, Int.not_lt, Int.not_le, if_true, if_false, Bool.false_eq_true, beq_iff_eq, bne_iff_ne, ne_eq, Bool.not_eq_eq_eq_not, Bool.not_true, Bool.not_false, beq_eq_false_iff_ne, bne_eq_false_iff_eq, Int.ofNat_eq_natCast, Bool.not_not, not_true_eq_false, not_false_eq_true, reduceCtorEq]; first | done | assumption) | exact RowsZ.same (by assumption) (by first | assumption | rfl) | exact FzL.mk rfl rfl rfl (by assumption) (by first | assumption | rfl) (by decide) | (refine RowsZ.one ?_; cbv))))
         case hI =>
           clear hN hE hR' hR hk hnx
           by_cases hq : pAll ⟨s, a, b, v⟩ ⟨s0, l0, h0⟩ = true
           · rw [hq]
             simp only [pAll, Bool.and_eq_true, beq_iff_eq, decide_eq_true_eq] at hq
             show out = min out v
             omega
           · simp only [hq, if_false, Bool.false_eq_true])
  · refine hE _ _ _ ?_
    cbv
    rw [List.take_of_length_le (by omega)] at hout
    exact ⟨_, Vw.same rfl, hR _ (by rw [hout]; rfl)⟩
theorem e_greatest (ls : List Li) (es : List (List AV)) (hes : es = ls.map liRow) (ys : List Spt) (ds : List (List AV)) (hds : ds = ys.map sptRow) (hmax : ls.length ≤ 1000) (hmax2 : ys.length ≤ 1000) : PCalls Try.prog 49 [.list 4 es, .list 3 ds] (· = .int .i64 (gre ls ys)) := by
  have hu : Up0 es := by rw [hes]; exact up_map (f := liRow) (fun d => rfl) ls
  have hud : Up0 ds := by rw [hds]; exact up_map (f := sptRow) (fun d => rfl) ys
  have hel : es.length = ls.length := by rw [hes]; simp
  have hdl : ds.length = ys.length := by rw [hds]; simp
  (refine PCalls.ofY Try.func49 (by kernel_rfl) (by kernel_rfl) fun w hw R hR => ?_); (obtain ⟨wbin, wcmp, wun, wconv, wnot, wbeq, wmm, wscmp, wsadd, wslen, wsat, weqs, wlen, wnlen, wofNat, wtake, wdrop, wapp, wzero, wnat⟩ := w); (have hbin : wbin = binStd := congrArg Prims.bin hw); (have hcmp : wcmp = cmpStd := congrArg Prims.cmp hw); (have hun : wun = unStd := congrArg Prims.un hw); (have hconv : wconv = fun k n => k.wrap n := congrArg Prims.conv hw); (have hnot : wnot = fun b => !b := congrArg Prims.not hw); (have hbeq : wbeq = fun a b => a == b := congrArg Prims.beq hw); (have hmm : wmm = maxI := congrArg Prims.mm hw); (have hscmp : wscmp = scmpStd := congrArg Prims.scmp hw); (have hsadd : wsadd = fun x y => x ++ y := congrArg Prims.sadd hw); (have hslen : wslen = fun s => (s.size : Int) := congrArg Prims.slen hw); (have hsat : wsat = std.sat := congrArg Prims.sat hw); (have heqs : weqs = fun a b os => (eqOffs a b os).getD false := congrArg Prims.eqs hw); (have hlen : wlen = fun es => (es.length : Int) := congrArg Prims.len hw); (have hnlen : wnlen = fun es => es.length := congrArg Prims.nlen hw); (have hofNat : wofNat = (fun n : Nat => (n : Int)) := congrArg Prims.ofNat hw); (have htake : wtake = fun es b => es.take b.toNat := congrArg Prims.take hw); (have hdrop : wdrop = fun es a => es.drop a.toNat := congrArg Prims.drop hw); (have happ : wapp = fun a b => a ++ b := congrArg Prims.app hw); (have hzero : wzero = fun n z => List.replicate n.toNat z := congrArg Prims.zero hw); (have hnat : wnat = fun n => n.toNat := congrArg Prims.nat hw); (conv => arg 2; cbv); (generalize hP : Try.prog = P); cbv
  (obtain ⟨L, eL, L0, Ln⟩ : ∃ L : Int, wlen es = L ∧ 0 ≤ L ∧ L.toNat = es.length := ⟨(es.length : Int), by rw [hlen], Int.natCast_nonneg _, Int.toNat_natCast _⟩)
  (obtain ⟨J, eJ, J0, Jn⟩ : ∃ L : Int, wlen ds = L ∧ 0 ≤ L ∧ L.toNat = ds.length := ⟨(ds.length : Int), by rw [hlen], Int.natCast_nonneg _, Int.toNat_natCast _⟩)
  simp only [eJ]
  refine Loop.data hw (S := Int × Int) (fun s => fr 52 [(0, .list 4 es), (5, .int .i64 s.2), (11, .list 3 ds), (12, .int .i64 J), (13, .int .i64 s.1)]) (fun s => []) (fun s => 0 ≤ s.1 ∧ s.1 ≤ J ∧ s.2 = gre ls (ys.take s.1.toNat)) (fun s => (J - s.1).toNat) (0, 0) (by (refine Wk.eqz (id) (by first | exact fun i _ j _ e => e | (simp only [List.length_cons, List.length_nil]; decide)) ?_; cbv; (repeat' (first | exact trivial | rfl | assumption | apply And.intro | (simp only [hbin, hcmp, hun, hconv, hnot, hbeq, hmm, hscmp, hsadd, hslen, hsat, heqs, hofNat, binStd, cmpStd, unStd, scmpStd, maxI, Bool.not_eq_true', Bool.not_eq_false', decide_eq_true_eq, decide_eq_false_iff_not, Int.not_lt, Int.not_le, if_true, if_false, Bool.false_eq_true, beq_iff_eq, bne_iff_ne, ne_eq, Bool.not_eq_eq_eq_not, Bool.not_true, Bool.not_false, beq_eq_false_iff_ne, bne_eq_false_iff_eq, Int.ofNat_eq_natCast, Bool.not_not, not_true_eq_false, not_false_eq_true, reduceCtorEq]; first | done | assumption) | exact RowsZ.same (by assumption) (by first | assumption | rfl) | exact FzL.mk rfl rfl rfl (by assumption) (by first | assumption | rfl) (by decide) | (refine RowsZ.one ?_; cbv))))) ⟨Int.le_refl _, J0, rfl⟩ ?_
  rintro ⟨i, out⟩ hinv Q' hN hE hR'
  have hinv : 0 ≤ i ∧ i ≤ J ∧ out = gre ls (ys.take i.toNat) := hinv
  cbv
  obtain ⟨hi0, hi1, hout⟩ := hinv
  (split <;> rename_i hc <;> (try (simp only [hbin, hcmp, hun, hconv, hnot, hbeq, hmm, hscmp, hsadd, hslen, hsat, heqs, hofNat, binStd, cmpStd, unStd, scmpStd, maxI, Bool.not_eq_true', Bool.not_eq_false', decide_eq_true_eq, decide_eq_false_iff_not, Int.not_lt, Int.not_le, if_true, if_false, Bool.false_eq_true, beq_iff_eq, bne_iff_ne, ne_eq, Bool.not_eq_eq_eq_not, Bool.not_true, Bool.not_false, beq_eq_false_iff_ne, bne_eq_false_iff_eq, Int.ofNat_eq_natCast, Bool.not_not, not_true_eq_false, not_false_eq_true, reduceCtorEq] at hc)) <;> (try cbv))
  · obtain ⟨⟨s0, l0, h0⟩, hd, hrow⟩ := get_map (f := sptRow) (ds := ys) (i := i) hi0 (by omega)
    have hrow : ds[i.toNat]? = some [.int .i64 s0, .int .i64 l0, .int .i64 h0] := by rw [hds]; exact hrow
    obtain ⟨i', ei'⟩ : ∃ x, i + 1 = x := ⟨_, rfl⟩
    have ei : wbin .add .i64 i 1 = i' := by rw [hbin, i_add (by omega) (by omega)]; exact ei'
    refine Idx.mk _ hi0 hrow ?_
    cbv
    simp only [eL]
    refine Loop.data hw (S := Int × Int) (fun s => fr 52 [(0, .list 4 es), (5, .int .i64 out), (7, .ref 0 3 0 0), (8, .int .i64 s.2), (11, .list 3 ds), (12, .int .i64 J), (13, .int .i64 i), (17, .list 4 es), (18, .int .i64 L), (19, .int .i64 s.1)]) (fun s => [.live 3 [[.int .i64 s0, .int .i64 l0, .int .i64 h0]]]) (fun s => 0 ≤ s.1 ∧ s.1 ≤ L ∧ s.2 = bnd ⟨s0, l0, h0⟩ (ls.take s.1.toNat)) (fun s => (L - s.1).toNat) (0, 16777216) (by (refine Wk.eqz (id) (by first | exact fun i _ j _ e => e | (simp only [List.length_cons, List.length_nil]; decide)) ?_; cbv; (repeat' (first | exact trivial | rfl | assumption | apply And.intro | (simp only [hbin, hcmp, hun, hconv, hnot, hbeq, hmm, hscmp, hsadd, hslen, hsat, heqs, hofNat, binStd, cmpStd, unStd, scmpStd, maxI, Bool.not_eq_true', Bool.not_eq_false', decide_eq_true_eq, decide_eq_false_iff_not, Int.not_lt, Int.not_le, if_true, if_false, Bool.false_eq_true, beq_iff_eq, bne_iff_ne, ne_eq, Bool.not_eq_eq_eq_not, Bool.not_true, Bool.not_false, beq_eq_false_iff_ne, bne_eq_false_iff_eq, Int.ofNat_eq_natCast, Bool.not_not, not_true_eq_false, not_false_eq_true, reduceCtorEq]; first | done | assumption) | exact RowsZ.same (by assumption) (by first | assumption | rfl) | exact FzL.mk rfl rfl rfl (by assumption) (by first | assumption | rfl) (by decide) | (refine RowsZ.one ?_; cbv))))) ⟨Int.le_refl _, L0, rfl⟩ ?_
    rintro ⟨j, own⟩ hinv2 Q2 hN2 hE2 hR2
    have hinv2 : 0 ≤ j ∧ j ≤ L ∧ own = bnd ⟨s0, l0, h0⟩ (ls.take j.toNat) := hinv2
    cbv
    obtain ⟨hj0, hj1, hown⟩ := hinv2
    (split <;> rename_i hc2 <;> (try (simp only [hbin, hcmp, hun, hconv, hnot, hbeq, hmm, hscmp, hsadd, hslen, hsat, heqs, hofNat, binStd, cmpStd, unStd, scmpStd, maxI, Bool.not_eq_true', Bool.not_eq_false', decide_eq_true_eq, decide_eq_false_iff_not, Int.not_lt, Int.not_le, if_true, if_false, Bool.false_eq_true, beq_iff_eq, bne_iff_ne, ne_eq, Bool.not_eq_eq_eq_not, Bool.not_true, Bool.not_false, beq_eq_false_iff_ne, bne_eq_false_iff_eq, Int.ofNat_eq_natCast, Bool.not_not, not_true_eq_false, not_false_eq_true, reduceCtorEq] at hc2)) <;> (try cbv))
    · obtain ⟨⟨s, a, b, v⟩, hd2, hrow2⟩ := get_map (f := liRow) (ds := ls) (i := j) hj0 (by omega)
      have hrow2 : es[j.toNat]? = some [.int .i64 s, .int .i64 a, .int .i64 b, .int .i64 v] := by rw [hes]; exact hrow2
      obtain ⟨j', ej'⟩ : ∃ x, j + 1 = x := ⟨_, rfl⟩
      have ej : wbin .add .i64 j 1 = j' := by rw [hbin, i_add (by omega) (by omega)]; exact ej'
      have hT : (L - j').toNat < (L - j).toNat := by omega
      have hnx : bnd ⟨s0, l0, h0⟩ (ls.take j'.toNat) = if pAll ⟨s, a, b, v⟩ ⟨s0, l0, h0⟩ then min own v else own := by
        rw [← ej', take_next hj0 hd2, hown]
        simp only [bnd, List.foldl_append, List.foldl_cons, List.foldl_nil]
      have hk : ∀ out', out' = (if pAll ⟨s, a, b, v⟩ ⟨s0, l0, h0⟩ then min own v else own) → 0 ≤ j' ∧ j' ≤ L ∧ out' = bnd ⟨s0, l0, h0⟩ (ls.take j'.toNat) := fun out' h => ⟨by omega, by omega, by rw [hnx]; exact h⟩
      obtain ⟨mn, emn⟩ : ∃ x, min own v = x := ⟨_, rfl⟩
      have emm : wmm false own v = mn := by rw [hmm, mmF, emn]
      refine Idx.mk _ hj0 hrow2 ?_
      cbv
      repeat' (split <;> rename_i h <;> (try (simp only [hbin, hcmp, hun, hconv, hnot, hbeq, hmm, hscmp, hsadd, hslen, hsat, heqs, hofNat, binStd, cmpStd, unStd, scmpStd, maxI, Bool.not_eq_true', Bool.not_eq_false', decide_eq_true_eq, decide_eq_false_iff_not, Int.not_lt, Int.not_le, if_true, if_false, Bool.false_eq_true, beq_iff_eq, bne_iff_ne, ne_eq, Bool.not_eq_eq_eq_not, Bool.not_true, Bool.not_false, beq_eq_false_iff_ne, bne_eq_false_iff_eq, Int.ofNat_eq_natCast, Bool.not_not, not_true_eq_false, not_false_eq_true, reduceCtorEq] at h)) <;> (try cbv))
      all_goals by_cases hp : s = s0 ∧ a ≤ l0 ∧ h0 ≤ b
      all_goals first
        | (exfalso; clear hN2 hE2 hR2 hN hE hR' hR hk hnx; omega)
        | skip
      all_goals first
        | (obtain ⟨p1, p2, p3⟩ := hp
           have hp : pAll ⟨s, a, b, v⟩ ⟨s0, l0, h0⟩ = true := by simp only [pAll, Bool.and_eq_true, beq_iff_eq, decide_eq_true_eq]; exact ⟨⟨p1, p2⟩, p3⟩
           simp only [emm]
           refine hN2 (j', mn) _ _ ?hx (hk _ ?hI) hT
           case hx => (refine Wk.eqz (id) (by first | exact fun i _ j _ e => e | (simp only [List.length_cons, List.length_nil]; decide)) ?_; cbv; (repeat' (first | exact trivial | rfl | assumption | apply And.intro | (simp only [hbin, hcmp, hun, hconv, hnot, hbeq, hmm, hscmp, hsadd, hslen, hsat, heqs, hofNat, binStd, cmpStd, unStd, scmpStd, maxI, Bool.not_eq_true', Bool.not_eq_false', decide_eq_true_eq, decide_eq_false_iff_not, Int.not_lt, Int.not_le, if_true, if_false, Bool.false_eq_true, beq_iff_eq, bne_iff_ne, ne_eq, Bool.not_eq_eq_eq_not, Bool.not_true, Bool.not_false, beq_eq_false_iff_ne, bne_eq_false_iff_eq, Int.ofNat_eq_natCast, Bool.not_not, not_true_eq_false, not_false_eq_true, reduceCtorEq]; first | done | assumption) | exact RowsZ.same (by assumption) (by first | assumption | rfl) | exact FzL.mk rfl rfl rfl (by assumption) (by first | assumption | rfl) (by decide) | (refine RowsZ.one ?_; cbv))))
           case hI =>
             rw [hp]
             exact emn.symm)
        | (refine hN2 (j', own) _ _ ?hx (hk _ ?hI) hT
           case hx => (refine Wk.eqz (id) (by first | exact fun i _ j _ e => e | (simp only [List.length_cons, List.length_nil]; decide)) ?_; cbv; (repeat' (first | exact trivial | rfl | assumption | apply And.intro | (simp only [hbin, hcmp, hun, hconv, hnot, hbeq, hmm, hscmp, hsadd, hslen, hsat, heqs, hofNat, binStd, cmpStd, unStd, scmpStd, maxI, Bool.not_eq_true', Bool.not_eq_false', decide_eq_true_eq, decide_eq_false_iff_not, Int.not_lt, Int.not_le, if_true, if_false, Bool.false_eq_true, beq_iff_eq, bne_iff_ne, ne_eq, Bool.not_eq_eq_eq_not, Bool.not_true, Bool.not_false, beq_eq_false_iff_ne, bne_eq_false_iff_eq, Int.ofNat_eq_natCast, Bool.not_not, not_true_eq_false, not_false_eq_true, reduceCtorEq]; first | done | assumption) | exact RowsZ.same (by assumption) (by first | assumption | rfl) | exact FzL.mk rfl rfl rfl (by assumption) (by first | assumption | rfl) (by decide) | (refine RowsZ.one ?_; cbv))))
           case hI =>
             have hq : pAll ⟨s, a, b, v⟩ ⟨s0, l0, h0⟩ = false := by
               rw [Bool.eq_false_iff]
               intro hq
               simp only [pAll, Bool.and_eq_true, beq_iff_eq, decide_eq_true_eq] at hq
               exact hp ⟨hq.1.1, hq.1.2, hq.2⟩
             rw [hq]
             rfl)
    · refine hE2 _ _ _ ?_
      cbv
      rw [List.take_of_length_le (by omega)] at hown
      obtain ⟨mx, emx⟩ : ∃ x, max out own = x := ⟨_, rfl⟩
      have emm : wmm true out own = mx := by rw [hmm, mmT, emx]
      simp only [emm]
      refine hN (i', mx) _ _ ?hx ?hI (show (J - i').toNat < (J - i).toNat by omega)
      case hx => (refine Wk.eqz (id) (by first | exact fun i _ j _ e => e | (simp only [List.length_cons, List.length_nil]; decide)) ?_; cbv; (repeat' (first | exact trivial | rfl | assumption | apply And.intro | (simp only [hbin, hcmp, hun, hconv, hnot, hbeq, hmm, hscmp, hsadd, hslen, hsat, heqs, hofNat, binStd, cmpStd, unStd, scmpStd, maxI, Bool.not_eq_true', Bool.not_eq_false', decide_eq_true_eq, decide_eq_false_iff_not, Int.not_lt, Int.not_le, if_true, if_false, Bool.false_eq_true, beq_iff_eq, bne_iff_ne, ne_eq, Bool.not_eq_eq_eq_not, Bool.not_true, Bool.not_false, beq_eq_false_iff_ne, bne_eq_false_iff_eq, Int.ofNat_eq_natCast, Bool.not_not, not_true_eq_false, not_false_eq_true, reduceCtorEq]; first | done | assumption) | exact RowsZ.same (by assumption) (by first | assumption | rfl) | exact FzL.mk rfl rfl rfl (by assumption) (by first | assumption | rfl) (by decide) | (refine RowsZ.one ?_; cbv))))
      case hI =>
        refine ⟨(show 0 ≤ i' by omega), (show i' ≤ J by omega), ?_⟩
        show mx = gre ls (ys.take i'.toNat)
        rw [← ei', take_next hi0 hd, ← emx, hout, hown]
        simp only [gre, List.foldl_append, List.foldl_cons, List.foldl_nil]
  · refine hE _ _ _ ?_
    cbv
    rw [List.take_of_length_le (by omega)] at hout
    exact ⟨_, Vw.same rfl, hR _ (by rw [hout]; rfl)⟩
end Go.Proofs.Ytjfbecnappgjjaa

/- How a speed is to the limits: the program's answer, and the document's, by the engine. -/
set_option linter.unusedVariables false
set_option linter.unusedSimpArgs false
namespace Go.Proofs.Ytjfbecnappgjjaa
open Go Go.RowKit Go.Eng
set_option maxRecDepth 100000
theorem gre_mono (ls : List Li) : ∀ (ys : List Spt) (o : Int), o ≤ ys.foldl (fun o y => max o (bnd y ls)) o
  | [], o => Int.le_refl _
  | y :: ys, o => by
    have := gre_mono ls ys (max o (bnd y ls))
    simp only [List.foldl_cons]
    omega
theorem gre_nn (ls : List Li) (ys : List Spt) : 0 ≤ gre ls ys := gre_mono ls ys 0
theorem gre_mem (ls : List Li) : ∀ (ys : List Spt) (o : Int) (y : Spt), y ∈ ys → bnd y ls ≤ ys.foldl (fun o y => max o (bnd y ls)) o
  | [], o, y, h => by cases h
  | z :: ys, o, y, h => by
    simp only [List.foldl_cons]
    rcases List.mem_cons.1 h with rfl | h
    · have := gre_mono ls ys (max o (bnd y ls))
      omega
    · exact gre_mem ls ys _ y h
theorem gre_ge {ls : List Li} {ys : List Spt} {y : Spt} (h : y ∈ ys) : bnd y ls ≤ gre ls ys := gre_mem ls ys 0 y h
theorem gre_lt' (ls : List Li) (s : Int) : ∀ (ys : List Spt) (o : Int), o < s → (∀ y, y ∈ ys → bnd y ls < s) → ys.foldl (fun o y => max o (bnd y ls)) o < s
  | [], o, h, _ => h
  | y :: ys, o, h, hs => by
    have := hs y List.mem_cons_self
    exact gre_lt' ls s ys (max o (bnd y ls)) (by omega) fun z hz => hs z (List.mem_cons_of_mem _ hz)
theorem gre_lt {ls : List Li} {ys : List Spt} {s : Int} (h0 : 0 < s) (h : ∀ y, y ∈ ys → bnd y ls < s) : gre ls ys < s := gre_lt' ls s ys 0 h0 h
/-- -1: surely kept; 1: surely not; 0: not told. -/
def fastV (f : Bool) (v slo shi g : Int) : Int := if f = false ∨ max shi (-slo) ≤ v then -1 else if g < max slo (-shi) then 1 else 0
theorem e_fast_no (ss : List Sg) (gs : List Gr) (es ds qs ls' : List (List AV)) (hul : Up0 ls') (hes : es = ss.map sgRow) (hds : ds = gs.map grRow) (g lo hi : Int) (o : Ro) (rs : List (List Int)) (hqs : qs = rs.map rtRow) (hs : PCalls Try.prog 13 [.agg [.list 3 es, .list 5 ds], .agg (repRow g lo hi qs o)] (· = .tuple [.nils, .bool false])) :
    PCalls Try.prog 33 [.agg [.list 3 es, .list 5 ds], .list 4 ls', .agg (repRow g lo hi qs o)] (· = .int .i64 0) := by
  have hu : Up0 es := by rw [hes]; exact up_sg ss
  have hud : Up0 ds := by rw [hds]; exact up_gr gs
  have huq : Up0 qs := by rw [hqs]; exact up_rt rs
  have hur : uptoL 0 [.agg [.list 3 es, .list 5 ds], .agg (repRow g lo hi qs o)] = true := Bool.and_eq_true_iff.mpr ⟨Up0.one hu (Up0.one hud rfl), up_rep g lo hi huq o rfl⟩
  obtain ⟨oc, om, oest, oslo, oshi, onom, odist, ofit, ob1, ob2, os0, os1, ob3, ob4, ob5, ob6, ob7, omlo, omhi, operm, oc0, oc1, oc2, oc3, ok0, ok1, ok2, ok3⟩ := o
  (refine PCalls.ofY Try.func33 (by kernel_rfl) (by kernel_rfl) fun w hw R hR => ?_); (obtain ⟨wbin, wcmp, wun, wconv, wnot, wbeq, wmm, wscmp, wsadd, wslen, wsat, weqs, wlen, wnlen, wofNat, wtake, wdrop, wapp, wzero, wnat⟩ := w); (have hbin : wbin = binStd := congrArg Prims.bin hw); (have hcmp : wcmp = cmpStd := congrArg Prims.cmp hw); (have hun : wun = unStd := congrArg Prims.un hw); (have hconv : wconv = fun k n => k.wrap n := congrArg Prims.conv hw); (have hnot : wnot = fun b => !b := congrArg Prims.not hw); (have hbeq : wbeq = fun a b => a == b := congrArg Prims.beq hw); (have hmm : wmm = maxI := congrArg Prims.mm hw); (have hscmp : wscmp = scmpStd := congrArg Prims.scmp hw); (have hsadd : wsadd = fun x y => x ++ y := congrArg Prims.sadd hw); (have hslen : wslen = fun s => (s.size : Int) := congrArg Prims.slen hw); (have hsat : wsat = std.sat := congrArg Prims.sat hw); (have heqs : weqs = fun a b os => (eqOffs a b os).getD false := congrArg Prims.eqs hw); (have hlen : wlen = fun es => (es.length : Int) := congrArg Prims.len hw); (have hnlen : wnlen = fun es => es.length := congrArg Prims.nlen hw); (have hofNat : wofNat = (fun n : Nat => (n : Int)) := congrArg Prims.ofNat hw); (have htake : wtake = fun es b => es.take b.toNat := congrArg Prims.take hw); (have hdrop : wdrop = fun es a => es.drop a.toNat := congrArg Prims.drop hw); (have happ : wapp = fun a b => a ++ b := congrArg Prims.app hw); (have hzero : wzero = fun n z => List.replicate n.toNat z := congrArg Prims.zero hw); (have hnat : wnat = fun n => n.toNat := congrArg Prims.nat hw); (conv => arg 2; cbv); (generalize hP : Try.prog = P); cbv
  have n2 : wnot false = true := by rw [hnot]; rfl
  (first | (refine Call.stepE (v := ?_) ?_ ?_ ?_; rotate_left 1; (focus (rw [← hP]; exact hs)); (focus (exact hur)); cbv) | (refine QCal.stepE (v := ?_) ?_ ?_ ?_; rotate_left 1; (focus (rw [← hP]; exact hs)); (focus (exact hur)); cbv))
  simp only [n2]
  cbv
  exact ⟨_, Vw.same rfl, hR _ rfl⟩
theorem e_fast_yes (ss : List Sg) (gs : List Gr) (es ds qs ls' : List (List AV)) (ls : List Li) (hls : ls' = ls.map liRow) (hes : es = ss.map sgRow) (hds : ds = gs.map grRow) (g lo hi : Int) (o : Ro) (rs : List (List Int)) (hqs : qs = rs.map rtRow) (ys : List Spt) (ps : List (List AV)) (hps : ps = ys.map sptRow)
    (hs : PCalls Try.prog 13 [.agg [.list 3 es, .list 5 ds], .agg (repRow g lo hi qs o)] (· = .tuple [.list 3 ps, .bool true])) (hmax : ls.length ≤ 1000) (hmax2 : ys.length ≤ 1000) (v : Int) (f : Bool) (hL : LeastIs (fun x => ys.any (pMeet x)) ls v f) (hsp : -1099511627776 ≤ o.slo ∧ o.shi ≤ 1099511627776 ∧ o.slo ≤ o.shi) :
    PCalls Try.prog 33 [.agg [.list 3 es, .list 5 ds], .list 4 ls', .agg (repRow g lo hi qs o)] (· = .int .i64 (fastV f v o.slo o.shi (gre ls ys))) := by
  have hu : Up0 es := by rw [hes]; exact up_sg ss
  have hud : Up0 ds := by rw [hds]; exact up_gr gs
  have huq : Up0 qs := by rw [hqs]; exact up_rt rs
  have hul : Up0 ls' := by rw [hls]; exact up_map (f := liRow) (fun d => rfl) ls
  have hup : Up0 ps := by rw [hps]; exact up_map (f := sptRow) (fun d => rfl) ys
  have hur : uptoL 0 [.agg [.list 3 es, .list 5 ds], .agg (repRow g lo hi qs o)] = true := Bool.and_eq_true_iff.mpr ⟨Up0.one hu (Up0.one hud rfl), up_rep g lo hi huq o rfl⟩
  have huls : uptoL 0 [.list 4 ls', .list 3 ps] = true := Up0.one hul (Up0.one hup rfl)
  have l1 := e_least33 ls ls' hls ys ps hps hmax hmax2
  have g1 := e_greatest ls ls' hls ys ps hps hmax hmax2
  obtain ⟨gr, egr⟩ : ∃ x, gre ls ys = x := ⟨_, rfl⟩
  rw [egr] at g1 ⊢
  obtain ⟨oc, om, oest, oslo, oshi, onom, odist, ofit, ob1, ob2, os0, os1, ob3, ob4, ob5, ob6, ob7, omlo, omhi, operm, oc0, oc1, oc2, oc3, ok0, ok1, ok2, ok3⟩ := o
  have hsp : -1099511627776 ≤ oslo ∧ oshi ≤ 1099511627776 ∧ oslo ≤ oshi := hsp
  show PCalls Try.prog 33 [.agg [.list 3 es, .list 5 ds], .list 4 ls', .agg _] (· = .int .i64 (fastV f v oslo oshi gr))
  (refine PCalls.ofY Try.func33 (by kernel_rfl) (by kernel_rfl) fun w hw R hR => ?_); (obtain ⟨wbin, wcmp, wun, wconv, wnot, wbeq, wmm, wscmp, wsadd, wslen, wsat, weqs, wlen, wnlen, wofNat, wtake, wdrop, wapp, wzero, wnat⟩ := w); (have hbin : wbin = binStd := congrArg Prims.bin hw); (have hcmp : wcmp = cmpStd := congrArg Prims.cmp hw); (have hun : wun = unStd := congrArg Prims.un hw); (have hconv : wconv = fun k n => k.wrap n := congrArg Prims.conv hw); (have hnot : wnot = fun b => !b := congrArg Prims.not hw); (have hbeq : wbeq = fun a b => a == b := congrArg Prims.beq hw); (have hmm : wmm = maxI := congrArg Prims.mm hw); (have hscmp : wscmp = scmpStd := congrArg Prims.scmp hw); (have hsadd : wsadd = fun x y => x ++ y := congrArg Prims.sadd hw); (have hslen : wslen = fun s => (s.size : Int) := congrArg Prims.slen hw); (have hsat : wsat = std.sat := congrArg Prims.sat hw); (have heqs : weqs = fun a b os => (eqOffs a b os).getD false := congrArg Prims.eqs hw); (have hlen : wlen = fun es => (es.length : Int) := congrArg Prims.len hw); (have hnlen : wnlen = fun es => es.length := congrArg Prims.nlen hw); (have hofNat : wofNat = (fun n : Nat => (n : Int)) := congrArg Prims.ofNat hw); (have htake : wtake = fun es b => es.take b.toNat := congrArg Prims.take hw); (have hdrop : wdrop = fun es a => es.drop a.toNat := congrArg Prims.drop hw); (have happ : wapp = fun a b => a ++ b := congrArg Prims.app hw); (have hzero : wzero = fun n z => List.replicate n.toNat z := congrArg Prims.zero hw); (have hnat : wnat = fun n => n.toNat := congrArg Prims.nat hw); (conv => arg 2; cbv); (generalize hP : Try.prog = P); cbv
  have n1 : wnot true = false := by rw [hnot]; rfl
  (first | (refine Call.stepE (v := ?_) ?_ ?_ ?_; rotate_left 1; (focus (rw [← hP]; exact hs)); (focus (exact hur)); cbv) | (refine QCal.stepE (v := ?_) ?_ ?_ ?_; rotate_left 1; (focus (rw [← hP]; exact hs)); (focus (exact hur)); cbv))
  simp only [n1]
  cbv
  refine Call.step (by rw [← hP]; exact l1) huls ?_
  rintro r ⟨out, f', rfl, hL'⟩
  obtain ⟨rfl, rfl⟩ := least_eq hL hL'
  cbv
  obtain ⟨a1, ea1⟩ : ∃ x, -oslo = x := ⟨_, rfl⟩
  have en1 : wun .neg .i64 oslo = a1 := by rw [hun, i_neg (by omega) (by omega)]; exact ea1
  obtain ⟨a2, ea2⟩ : ∃ x, -oshi = x := ⟨_, rfl⟩
  have en2 : wun .neg .i64 oshi = a2 := by rw [hun, i_neg (by omega) (by omega)]; exact ea2
  obtain ⟨m1, em1⟩ : ∃ x, max oshi a1 = x := ⟨_, rfl⟩
  have ew1 : wmm true oshi a1 = m1 := by rw [hmm, mmT, em1]
  obtain ⟨m2, em2⟩ : ∃ x, max oslo a2 = x := ⟨_, rfl⟩
  have ew2 : wmm true oslo a2 = m2 := by rw [hmm, mmT, em2]
  have n2 : wnot false = true := by rw [hnot]; rfl
  have fin : ∀ z, z = fastV f v oslo oshi gr → R (.int .i64 z) := fun z hz => hR _ (by rw [hz])
  have fv : fastV f v oslo oshi gr = if f = false ∨ m1 ≤ v then -1 else if gr < m2 then 1 else 0 := by
    unfold fastV; rw [ea1, ea2, em1, em2]
  cases f with
  | false =>
    simp only [n2]
    cbv
    exact ⟨_, Vw.same rfl, fin _ (by rw [fv, if_pos (.inl rfl)])⟩
  | true =>
    repeat' (first | (simp only [n1]; cbv) | (simp only [en1, ew1]; cbv))
    (split <;> rename_i h1 <;> (try (simp only [hbin, hcmp, hun, hconv, hnot, hbeq, hmm, hscmp, hsadd, hslen, hsat, heqs, hofNat, binStd, cmpStd, unStd, scmpStd, maxI, Bool.not_eq_true', Bool.not_eq_false', decide_eq_true_eq, decide_eq_false_iff_not, Int.not_lt, Int.not_le, if_true, if_false, Bool.false_eq_true, beq_iff_eq, bne_iff_ne, ne_eq, Bool.not_eq_eq_eq_not, Bool.not_true, Bool.not_false, beq_eq_false_iff_ne, bne_eq_false_iff_eq, Int.ofNat_eq_natCast, Bool.not_not, not_true_eq_false, not_false_eq_true, reduceCtorEq] at h1)) <;> (try cbv))
    · exact ⟨_, Vw.same rfl, fin _ (by rw [fv, if_pos (.inr h1)])⟩
    simp only [en2, ew2]
    (first | (refine Call.stepE (v := ?_) ?_ ?_ ?_; rotate_left 1; (focus (rw [← hP]; exact g1)); (focus (exact huls)); cbv) | (refine QCal.stepE (v := ?_) ?_ ?_ ?_; rotate_left 1; (focus (rw [← hP]; exact g1)); (focus (exact huls)); cbv))
    (split <;> rename_i h2 <;> (try (simp only [hbin, hcmp, hun, hconv, hnot, hbeq, hmm, hscmp, hsadd, hslen, hsat, heqs, hofNat, binStd, cmpStd, unStd, scmpStd, maxI, Bool.not_eq_true', Bool.not_eq_false', decide_eq_true_eq, decide_eq_false_iff_not, Int.not_lt, Int.not_le, if_true, if_false, Bool.false_eq_true, beq_iff_eq, bne_iff_ne, ne_eq, Bool.not_eq_eq_eq_not, Bool.not_true, Bool.not_false, beq_eq_false_iff_ne, bne_eq_false_iff_eq, Int.ofNat_eq_natCast, Bool.not_not, not_true_eq_false, not_false_eq_true, reduceCtorEq] at h2)) <;> (try cbv))
    · exact ⟨_, Vw.same rfl, fin _ (by rw [fv, if_neg (fun h => h.elim (fun h => by cases h) (fun h => by omega)), if_pos (by omega)])⟩
    · exact ⟨_, Vw.same rfl, fin _ (by rw [fv, if_neg (fun h => h.elim (fun h => by cases h) (fun h => by omega)), if_neg (by omega)])⟩
theorem e_rfast (ls' ps : List (List AV)) (ls : List Li) (hls : ls' = ls.map liRow) (ys : List Spt) (hps : ps = ys.map sptRow) (hmax : ls.length ≤ 1000) (hmax2 : ys.length ≤ 1000) (hok : ∀ x, x ∈ ls → x.a ≤ x.b) (hoy : ∀ y, y ∈ ys → y.lo ≤ y.hi) (v : Int) (f : Bool) (hL : LeastIs (fun x => ys.any (pMeet x)) ls v f) (slo shi : Int) (hsp : -1099511627776 ≤ slo ∧ shi ≤ 1099511627776 ∧ slo ≤ shi) :
    PCalls Try.prog 34 [.list 4 ls', .list 3 ps, .int .i64 slo, .int .i64 shi] (· = .int .i64 (fastV f v slo shi (gre ls ys))) := by
  have hul : Up0 ls' := by rw [hls]; exact up_map (f := liRow) (fun d => rfl) ls
  have hup : Up0 ps := by rw [hps]; exact up_map (f := sptRow) (fun d => rfl) ys
  have hpl : ps.length = ys.length := by rw [hps]; simp
  have huls : uptoL 0 [.list 4 ls', .list 3 ps] = true := Up0.one hul (Up0.one hup rfl)
  have l1 := e_refLeast ls ls' hls ys ps hps hmax hmax2 hok hoy
  have hbd := fun y => e_bound ls ls' hls y hmax
  (refine PCalls.ofY Try.func34 (by kernel_rfl) (by kernel_rfl) fun w hw R hR => ?_); (obtain ⟨wbin, wcmp, wun, wconv, wnot, wbeq, wmm, wscmp, wsadd, wslen, wsat, weqs, wlen, wnlen, wofNat, wtake, wdrop, wapp, wzero, wnat⟩ := w); (have hbin : wbin = binStd := congrArg Prims.bin hw); (have hcmp : wcmp = cmpStd := congrArg Prims.cmp hw); (have hun : wun = unStd := congrArg Prims.un hw); (have hconv : wconv = fun k n => k.wrap n := congrArg Prims.conv hw); (have hnot : wnot = fun b => !b := congrArg Prims.not hw); (have hbeq : wbeq = fun a b => a == b := congrArg Prims.beq hw); (have hmm : wmm = maxI := congrArg Prims.mm hw); (have hscmp : wscmp = scmpStd := congrArg Prims.scmp hw); (have hsadd : wsadd = fun x y => x ++ y := congrArg Prims.sadd hw); (have hslen : wslen = fun s => (s.size : Int) := congrArg Prims.slen hw); (have hsat : wsat = std.sat := congrArg Prims.sat hw); (have heqs : weqs = fun a b os => (eqOffs a b os).getD false := congrArg Prims.eqs hw); (have hlen : wlen = fun es => (es.length : Int) := congrArg Prims.len hw); (have hnlen : wnlen = fun es => es.length := congrArg Prims.nlen hw); (have hofNat : wofNat = (fun n : Nat => (n : Int)) := congrArg Prims.ofNat hw); (have htake : wtake = fun es b => es.take b.toNat := congrArg Prims.take hw); (have hdrop : wdrop = fun es a => es.drop a.toNat := congrArg Prims.drop hw); (have happ : wapp = fun a b => a ++ b := congrArg Prims.app hw); (have hzero : wzero = fun n z => List.replicate n.toNat z := congrArg Prims.zero hw); (have hnat : wnat = fun n => n.toNat := congrArg Prims.nat hw); (conv => arg 2; cbv); (generalize hP : Try.prog = P); cbv
  have n1 : wnot true = false := by rw [hnot]; rfl
  have n2 : wnot false = true := by rw [hnot]; rfl
  refine Call.step (by rw [← hP]; exact l1) huls ?_
  rintro r ⟨out, f', rfl, hL'⟩
  obtain ⟨rfl, rfl⟩ := least_eq hL hL'
  cbv
  obtain ⟨a1, ea1⟩ : ∃ x, -slo = x := ⟨_, rfl⟩
  have en1 : wun .neg .i64 slo = a1 := by rw [hun, i_neg (by omega) (by omega)]; exact ea1
  obtain ⟨a2, ea2⟩ : ∃ x, -shi = x := ⟨_, rfl⟩
  have en2 : wun .neg .i64 shi = a2 := by rw [hun, i_neg (by omega) (by omega)]; exact ea2
  obtain ⟨m2, em2⟩ : ∃ x, max slo a2 = x := ⟨_, rfl⟩
  have ew2 : wmm true slo a2 = m2 := by rw [hmm, mmT, em2]
  obtain ⟨gr, egr⟩ : ∃ x, gre ls ys = x := ⟨_, rfl⟩
  have hgnn : 0 ≤ gr := by rw [← egr]; exact gre_nn _ _
  have hgge : ∀ y, y ∈ ys → bnd y ls ≤ gr := fun y hy => by rw [← egr]; exact gre_ge hy
  have hglt : 0 < m2 → (∀ y, y ∈ ys → bnd y ls < m2) → gr < m2 := fun h0 h => by rw [← egr]; exact gre_lt h0 h
  rw [egr] at hR
  have fin : ∀ z, z = fastV f v slo shi gr → R (.int .i64 z) := fun z hz => hR _ (by rw [hz])
  have fv : fastV f v slo shi gr = if f = false ∨ max shi a1 ≤ v then -1 else if gr < m2 then 1 else 0 := by
    unfold fastV; rw [ea1, ea2, em2]
  cases f with
  | false =>
    simp only [n2]
    cbv
    exact ⟨_, Vw.same rfl, fin _ (by rw [fv, if_pos (.inl rfl)])⟩
  | true =>
    simp only [n1]
    cbv
    by_cases hk : max shi a1 ≤ v
    · repeat' (first
        | exact ⟨_, Vw.same rfl, fin _ (by rw [fv, if_pos (.inr hk)])⟩
        | (simp only [en1]; cbv)
        | (exfalso; omega)
        | (split <;> rename_i h1 <;> (try (simp only [hbin, hcmp, hun, hconv, hnot, hbeq, hmm, hscmp, hsadd, hslen, hsat, heqs, hofNat, binStd, cmpStd, unStd, scmpStd, maxI, Bool.not_eq_true', Bool.not_eq_false', decide_eq_true_eq, decide_eq_false_iff_not, Int.not_lt, Int.not_le, if_true, if_false, Bool.false_eq_true, beq_iff_eq, bne_iff_ne, ne_eq, Bool.not_eq_eq_eq_not, Bool.not_true, Bool.not_false, beq_eq_false_iff_ne, bne_eq_false_iff_eq, Int.ofNat_eq_natCast, Bool.not_not, not_true_eq_false, not_false_eq_true, reduceCtorEq] at h1)) <;> (try cbv)))
    · have fv : fastV true v slo shi gr = if gr < m2 then 1 else 0 := by rw [fv, if_neg (fun h => h.elim (fun h => by cases h) (fun h => hk h))]
      repeat' (first
        | (exfalso; omega)
        | (simp only [en1]; cbv)
        | (split <;> rename_i h1 <;> (try (simp only [hbin, hcmp, hun, hconv, hnot, hbeq, hmm, hscmp, hsadd, hslen, hsat, heqs, hofNat, binStd, cmpStd, unStd, scmpStd, maxI, Bool.not_eq_true', Bool.not_eq_false', decide_eq_true_eq, decide_eq_false_iff_not, Int.not_lt, Int.not_le, if_true, if_false, Bool.false_eq_true, beq_iff_eq, bne_iff_ne, ne_eq, Bool.not_eq_eq_eq_not, Bool.not_true, Bool.not_false, beq_eq_false_iff_ne, bne_eq_false_iff_eq, Int.ofNat_eq_natCast, Bool.not_not, not_true_eq_false, not_false_eq_true, reduceCtorEq] at h1)) <;> (try cbv)))
      all_goals (try simp only [en2, ew2])
      all_goals
        (obtain ⟨J, eJ, J0, Jn⟩ : ∃ L : Int, wlen ps = L ∧ 0 ≤ L ∧ L.toNat = ps.length := ⟨(ps.length : Int), by rw [hlen], Int.natCast_nonneg _, Int.toNat_natCast _⟩)
        refine Loop.data hw (S := Int) (fun i => fr 52 [(0, .list 4 ls'), (1, .list 3 ps), (11, .int .i64 m2), (12, .int .i64 i)]) (fun i => []) (fun i => 0 ≤ i ∧ i ≤ J ∧ ∀ j y, j < i.toNat → ys[j]? = some y → bnd y ls < m2) (fun i => (J - i).toNat) 0 (by (refine Wk.eqz (id) (by first | exact fun i _ j _ e => e | (simp only [List.length_cons, List.length_nil]; decide)) ?_; cbv; (repeat' (first | exact trivial | rfl | assumption | apply And.intro | (simp only [hbin, hcmp, hun, hconv, hnot, hbeq, hmm, hscmp, hsadd, hslen, hsat, heqs, hofNat, binStd, cmpStd, unStd, scmpStd, maxI, Bool.not_eq_true', Bool.not_eq_false', decide_eq_true_eq, decide_eq_false_iff_not, Int.not_lt, Int.not_le, if_true, if_false, Bool.false_eq_true, beq_iff_eq, bne_iff_ne, ne_eq, Bool.not_eq_eq_eq_not, Bool.not_true, Bool.not_false, beq_eq_false_iff_ne, bne_eq_false_iff_eq, Int.ofNat_eq_natCast, Bool.not_not, not_true_eq_false, not_false_eq_true, reduceCtorEq]; first | done | assumption) | exact RowsZ.same (by assumption) (by first | assumption | rfl) | exact FzL.mk rfl rfl rfl (by assumption) (by first | assumption | rfl) (by decide) | (refine RowsZ.one ?_; cbv))))) ⟨Int.le_refl _, J0, fun j y hj => (by simp at hj)⟩ ?_
        rintro i hinv Q' hN hE hR'
        have hinv : 0 ≤ i ∧ i ≤ J ∧ ∀ j y, j < i.toNat → ys[j]? = some y → bnd y ls < m2 := hinv
        cbv
        obtain ⟨hi0, hi1, hall⟩ := hinv
        (split <;> rename_i hc <;> (try (simp only [eJ] at hc)) <;> (try (simp only [hbin, hcmp, hun, hconv, hnot, hbeq, hmm, hscmp, hsadd, hslen, hsat, heqs, hofNat, binStd, cmpStd, unStd, scmpStd, maxI, Bool.not_eq_true', Bool.not_eq_false', decide_eq_true_eq, decide_eq_false_iff_not, Int.not_lt, Int.not_le, if_true, if_false, Bool.false_eq_true, beq_iff_eq, bne_iff_ne, ne_eq, Bool.not_eq_eq_eq_not, Bool.not_true, Bool.not_false, beq_eq_false_iff_ne, bne_eq_false_iff_eq, Int.ofNat_eq_natCast, Bool.not_not, not_true_eq_false, not_false_eq_true, reduceCtorEq] at hc)) <;> (try cbv))
        · obtain ⟨⟨s0, l0, h0⟩, hd, hrow⟩ := get_map (f := sptRow) (ds := ys) (i := i) hi0 (by omega)
          have hrow : ps[i.toNat]? = some [.int .i64 s0, .int .i64 l0, .int .i64 h0] := by rw [hps]; exact hrow
          obtain ⟨i', ei'⟩ : ∃ x, i + 1 = x := ⟨_, rfl⟩
          have ei : wbin .add .i64 i 1 = i' := by rw [hbin, i_add (by omega) (by omega)]; exact ei'
          have hb1 := hbd ⟨s0, l0, h0⟩
          have hge1 := hgge ⟨s0, l0, h0⟩ (List.mem_of_getElem? hd)
          obtain ⟨bv, ebv⟩ : ∃ x, bnd ⟨s0, l0, h0⟩ ls = x := ⟨_, rfl⟩
          rw [ebv] at hb1 hge1
          refine Idx.mk _ hi0 hrow ?_
          cbv
          (first | (refine Call.stepE (v := ?_) ?_ ?_ ?_; rotate_left 1; (focus (rw [← hP]; exact hb1)); (focus (exact Up0.one hul rfl)); cbv) | (refine QCal.stepE (v := ?_) ?_ ?_ ?_; rotate_left 1; (focus (rw [← hP]; exact hb1)); (focus (exact Up0.one hul rfl)); cbv))
          (split <;> rename_i hq <;> (try (simp only [hbin, hcmp, hun, hconv, hnot, hbeq, hmm, hscmp, hsadd, hslen, hsat, heqs, hofNat, binStd, cmpStd, unStd, scmpStd, maxI, Bool.not_eq_true', Bool.not_eq_false', decide_eq_true_eq, decide_eq_false_iff_not, Int.not_lt, Int.not_le, if_true, if_false, Bool.false_eq_true, beq_iff_eq, bne_iff_ne, ne_eq, Bool.not_eq_eq_eq_not, Bool.not_true, Bool.not_false, beq_eq_false_iff_ne, bne_eq_false_iff_eq, Int.ofNat_eq_natCast, Bool.not_not, not_true_eq_false, not_false_eq_true, reduceCtorEq] at hq)) <;> (try cbv))
          · exact hR' _ _ ⟨_, Vw.same rfl, fin _ (by rw [fv, if_neg (by omega)])⟩
          · refine hN i' _ _ ?hx ?hI (show (J - i').toNat < (J - i).toNat by omega)
            case hx => (refine Wk.eqz (id) (by first | exact fun i _ j _ e => e | (simp only [List.length_cons, List.length_nil]; decide)) ?_; cbv; (repeat' (first | exact trivial | rfl | assumption | apply And.intro | (simp only [hbin, hcmp, hun, hconv, hnot, hbeq, hmm, hscmp, hsadd, hslen, hsat, heqs, hofNat, binStd, cmpStd, unStd, scmpStd, maxI, Bool.not_eq_true', Bool.not_eq_false', decide_eq_true_eq, decide_eq_false_iff_not, Int.not_lt, Int.not_le, if_true, if_false, Bool.false_eq_true, beq_iff_eq, bne_iff_ne, ne_eq, Bool.not_eq_eq_eq_not, Bool.not_true, Bool.not_false, beq_eq_false_iff_ne, bne_eq_false_iff_eq, Int.ofNat_eq_natCast, Bool.not_not, not_true_eq_false, not_false_eq_true, reduceCtorEq]; first | done | assumption) | exact RowsZ.same (by assumption) (by first | assumption | rfl) | exact FzL.mk rfl rfl rfl (by assumption) (by first | assumption | rfl) (by decide) | (refine RowsZ.one ?_; cbv))))
            case hI =>
              refine ⟨by omega, by omega, fun j y hj hy => ?_⟩
              by_cases hji : j = i.toNat
              · subst hji; rw [hd] at hy; cases hy; omega
              · exact hall j y (by omega) hy
        · refine hE _ _ _ ?_
          cbv
          (split <;> rename_i hq <;> (try (simp only [hbin, hcmp, hun, hconv, hnot, hbeq, hmm, hscmp, hsadd, hslen, hsat, heqs, hofNat, binStd, cmpStd, unStd, scmpStd, maxI, Bool.not_eq_true', Bool.not_eq_false', decide_eq_true_eq, decide_eq_false_iff_not, Int.not_lt, Int.not_le, if_true, if_false, Bool.false_eq_true, beq_iff_eq, bne_iff_ne, ne_eq, Bool.not_eq_eq_eq_not, Bool.not_true, Bool.not_false, beq_eq_false_iff_ne, bne_eq_false_iff_eq, Int.ofNat_eq_natCast, Bool.not_not, not_true_eq_false, not_false_eq_true, reduceCtorEq] at hq)) <;> (try cbv))
          · exact ⟨_, Vw.same rfl, fin _ (by rw [fv, if_neg (by omega)])⟩
          · have := hglt (by omega) fun y hy => by
              obtain ⟨j, hj⟩ := List.mem_iff_getElem?.1 hy
              exact hall j y (by have := (List.getElem?_eq_some_iff.1 hj).1; omega) hj
            exact ⟨_, Vw.same rfl, fin _ (by rw [fv, if_pos (by omega)])⟩
end Go.Proofs.Ytjfbecnappgjjaa

/- What limits and spots are. -/
set_option linter.unusedVariables false
set_option maxRecDepth 100000
namespace Go.Proofs.Ytjfbecnappgjjaa
open Go Go.RowKit Go.Eng
theorem ty_int (x : AV) (h : TyV Try.prog 8 3 x) : ∃ n, x = .int .i64 n := by
  have h := h.one (by kernel_rfl) (show shOf Try.prog 8 3 = some [.int .i64] from by kernel_rfl)
  unfold Sh.Ok at h
  obtain ⟨n, rfl, hn⟩ := h
  exact ⟨n, rfl⟩
theorem ty_limits (x : AV) (h : TyV Try.prog 8 69 x) : ∃ ls : List Li, x = .list 4 (ls.map liRow) := by
  have h := h.one (by kernel_rfl) (show shOf Try.prog 8 69 = some [.list 4 [.int .i64, .int .i64, .int .i64, .int .i64]] from by kernel_rfl)
  unfold Sh.Ok at h
  obtain ⟨es, rfl, _, hr⟩ := h
  obtain ⟨ls, rfl⟩ := rows_of (f := liRow) (es := es) fun r hrr => by
    have k0 := hr r hrr
    clear hr hrr
    obtain ⟨a, _, rfl, _, k1⟩ := ok_int k0
    obtain ⟨b, _, rfl, _, k2⟩ := ok_int k1
    obtain ⟨c, _, rfl, _, k3⟩ := ok_int k2
    obtain ⟨d, _, rfl, _, k4⟩ := ok_int k3
    obtain rfl := ok_nil k4
    exact ⟨⟨a, b, c, d⟩, rfl⟩
  exact ⟨ls, rfl⟩
theorem ty_spots (x : AV) (h : TyV Try.prog 8 35 x) : ∃ ss : List Spt, x = .list 3 (ss.map sptRow) := by
  have h := h.one (by kernel_rfl) (show shOf Try.prog 8 35 = some [.list 3 [.int .i64, .int .i64, .int .i64]] from by kernel_rfl)
  unfold Sh.Ok at h
  obtain ⟨es, rfl, _, hr⟩ := h
  obtain ⟨ls, rfl⟩ := rows_of (f := sptRow) (es := es) fun r hrr => by
    have k0 := hr r hrr
    clear hr hrr
    obtain ⟨a, _, rfl, _, k1⟩ := ok_int k0
    obtain ⟨b, _, rfl, _, k2⟩ := ok_int k1
    obtain ⟨c, _, rfl, _, k3⟩ := ok_int k2
    obtain rfl := ok_nil k3
    exact ⟨⟨a, b, c⟩, rfl⟩
  exact ⟨ls, rfl⟩
end Go.Proofs.Ytjfbecnappgjjaa

/- A report's spots once more, asking less. -/
set_option linter.unusedVariables false
set_option linter.unusedSimpArgs false
namespace Go.Proofs.Ytjfbecnappgjjaa
open Go Go.RowKit Go.Eng
set_option maxRecDepth 100000
theorem e_sof_yesW (ss : List Sg) (gs : List Gr) (rs : List (List Int)) (es ds qs : List (List AV)) (hes : es = ss.map sgRow) (hds : ds = gs.map grRow) (hqs : qs = rs.map rtRow) (g lo hi : Int) (o : Ro) (tr : TrackOk ss gs) (wok : WaysOk ss rs) (hlo : -1152921504606846976 ≤ lo ∧ lo ≤ 1152921504606846976) (hhi : -1152921504606846976 ≤ hi ∧ hi ≤ 1152921504606846976) (G : Gr) (hG : G ∈ gs) (hg : G.id = g) :
    PCalls Try.prog 13 [.agg [.list 3 es, .list 5 ds], .agg (repRow g lo hi qs o)] (· = .tuple [.list 3 ((spotsOf ss.length (allParts ss lo hi G.off rs)).map spRow), .bool true]) := by
  have hu : Up0 es := by rw [hes]; exact up_sg ss
  have hud : Up0 ds := by rw [hds]; exact up_gr gs
  have huq : Up0 qs := by rw [hqs]; exact up_rt rs
  have hut : uptoL 0 [.agg [.list 3 es, .list 5 ds], .int .i64 g] = true := Bool.and_eq_true_iff.mpr ⟨Up0.one hu (Up0.one hud rfl), rfl⟩
  have hf := e_tfind ss gs es ds hes hds tr g
  have hn60 := tr.le
  have lens : LensOk ss := ⟨fun s hs => by
    obtain ⟨j, hj⟩ := List.mem_iff_getElem?.1 hs
    have := tr.seg j (List.getElem?_eq_some_iff.1 hj).1 s hj
    exact ⟨this.pos, this.le⟩⟩
  obtain ⟨hid, _, _, ho0, ho1, _⟩ := gr_ok tr hG
  have w1 := e_within ss gs rs es ds qs hes hds hqs G.off lo hi lens wok ⟨ho0, ho1⟩ hlo hhi (by omega)
  have hu4 : uptoL 0 [.agg [.list 3 es, .list 5 ds], .int .i64 G.off, .list 1 qs, sp2 lo hi] = true := Bool.and_eq_true_iff.mpr ⟨Up0.one hu (Up0.one hud rfl), Bool.and_eq_true_iff.mpr ⟨rfl, Up0.one huq rfl⟩⟩
  obtain ⟨ps, eps⟩ : ∃ x, (spotsOf ss.length (allParts ss lo hi G.off rs)).map spRow = x := ⟨_, rfl⟩
  have hup : Up0 ps := by rw [← eps]; exact up_sp _
  rw [eps] at w1 ⊢
  obtain ⟨oc, om, oest, oslo, oshi, onom, odist, ofit, ob1, ob2, os0, os1, ob3, ob4, ob5, ob6, ob7, omlo, omhi, operm, oc0, oc1, oc2, oc3, ok0, ok1, ok2, ok3⟩ := o
  (refine PCalls.ofY Try.func13 (by kernel_rfl) (by kernel_rfl) fun w hw R hR => ?_); (obtain ⟨wbin, wcmp, wun, wconv, wnot, wbeq, wmm, wscmp, wsadd, wslen, wsat, weqs, wlen, wnlen, wofNat, wtake, wdrop, wapp, wzero, wnat⟩ := w); (have hbin : wbin = binStd := congrArg Prims.bin hw); (have hcmp : wcmp = cmpStd := congrArg Prims.cmp hw); (have hun : wun = unStd := congrArg Prims.un hw); (have hconv : wconv = fun k n => k.wrap n := congrArg Prims.conv hw); (have hnot : wnot = fun b => !b := congrArg Prims.not hw); (have hbeq : wbeq = fun a b => a == b := congrArg Prims.beq hw); (have hmm : wmm = maxI := congrArg Prims.mm hw); (have hscmp : wscmp = scmpStd := congrArg Prims.scmp hw); (have hsadd : wsadd = fun x y => x ++ y := congrArg Prims.sadd hw); (have hslen : wslen = fun s => (s.size : Int) := congrArg Prims.slen hw); (have hsat : wsat = std.sat := congrArg Prims.sat hw); (have heqs : weqs = fun a b os => (eqOffs a b os).getD false := congrArg Prims.eqs hw); (have hlen : wlen = fun es => (es.length : Int) := congrArg Prims.len hw); (have hnlen : wnlen = fun es => es.length := congrArg Prims.nlen hw); (have hofNat : wofNat = (fun n : Nat => (n : Int)) := congrArg Prims.ofNat hw); (have htake : wtake = fun es b => es.take b.toNat := congrArg Prims.take hw); (have hdrop : wdrop = fun es a => es.drop a.toNat := congrArg Prims.drop hw); (have happ : wapp = fun a b => a ++ b := congrArg Prims.app hw); (have hzero : wzero = fun n z => List.replicate n.toNat z := congrArg Prims.zero hw); (have hnat : wnat = fun n => n.toNat := congrArg Prims.nat hw); (conv => arg 2; cbv); (generalize hP : Try.prog = P); cbv
  have n1 : wnot true = false := by rw [hnot]; rfl
  have n2 : wnot false = true := by rw [hnot]; rfl
  refine Call.step (by rw [← hP]; exact hf) hut ?_
  rintro r ⟨i, f, rfl, hF⟩
  cbv
  cases f with
  | false => exact absurd hg (hF.no rfl G hG)
  | true =>
    obtain ⟨G', hd, hk⟩ := hF.yes rfl
    obtain rfl : G' = G := gr_one tr (List.mem_of_getElem? hd) hG (by omega)
    obtain ⟨gid, gseg, goff, gacc, gsl⟩ := G'
    have hrow : ds[i.toNat]? = some [.int .i64 gid, .int .i64 gseg, .int .i64 goff, .int .i64 gacc, .int .i64 gsl] := by rw [hds, List.getElem?_map, hd]; rfl
    have hi0 := hF.i0
    simp only [n1]
    cbv
    (split <;> rename_i h0 <;> (try (simp only [hbin, hcmp, hun, hconv, hnot, hbeq, hmm, hscmp, hsadd, hslen, hsat, heqs, hofNat, binStd, cmpStd, unStd, scmpStd, maxI, Bool.not_eq_true', Bool.not_eq_false', decide_eq_true_eq, decide_eq_false_iff_not, Int.not_lt, Int.not_le, if_true, if_false, Bool.false_eq_true, beq_iff_eq, bne_iff_ne, ne_eq, Bool.not_eq_eq_eq_not, Bool.not_true, Bool.not_false, beq_eq_false_iff_ne, bne_eq_false_iff_eq, Int.ofNat_eq_natCast, Bool.not_not, not_true_eq_false, not_false_eq_true, reduceCtorEq] at h0)) <;> (try cbv))
    · have hid : 0 < gid := hid
      have hg : gid = g := hg
      omega
    · refine Idx.mk _ hi0 hrow ?_
      cbv
      (first | (refine Call.stepE (v := ?_) ?_ ?_ ?_; rotate_left 1; (focus (rw [← hP]; exact w1)); (focus (exact hu4)); cbv) | (refine QCal.stepE (v := ?_) ?_ ?_ ?_; rotate_left 1; (focus (rw [← hP]; exact w1)); (focus (exact hu4)); cbv))
      exact ⟨_, Vw.same (by exact Up0.one hup rfl), hR _ rfl⟩
end Go.Proofs.Ytjfbecnappgjjaa

/- LimitFast: the plain law, and the walk, by the engine. -/
set_option linter.unusedVariables false
set_option linter.unusedSimpArgs false
namespace Go.Proofs.Ytjfbecnappgjjaa
open Go Go.RowKit Go.Eng
set_option maxRecDepth 100000
theorem bnd_mono (y : Spt) : ∀ (ls : List Li) (o : Int), ls.foldl (fun o x => if pAll x y then min o x.v else o) o ≤ o
  | [], o => Int.le_refl _
  | x :: ls, o => by
    simp only [List.foldl_cons]
    by_cases hp : pAll x y = true
    · rw [if_pos hp]
      have := bnd_mono y ls (min o x.v)
      omega
    · rw [if_neg hp]
      exact bnd_mono y ls o
theorem bnd_mem (y : Spt) : ∀ (ls : List Li) (o : Int) (x : Li), x ∈ ls → pAll x y = true → ls.foldl (fun o x => if pAll x y then min o x.v else o) o ≤ x.v
  | [], o, x, h, _ => by cases h
  | z :: ls, o, x, h, hp => by
    simp only [List.foldl_cons]
    rcases List.mem_cons.1 h with rfl | h
    · rw [if_pos hp]
      have := bnd_mono y ls (min o x.v)
      omega
    · exact bnd_mem y ls _ x h hp
/-- The bound is the greatest speed, or some limit's. -/
theorem bnd_is (y : Spt) : ∀ (ls : List Li) (o : Int), ls.foldl (fun o x => if pAll x y then min o x.v else o) o = o ∨ ∃ x, x ∈ ls ∧ pAll x y = true ∧ ls.foldl (fun o x => if pAll x y then min o x.v else o) o = x.v
  | [], o => .inl rfl
  | z :: ls, o => by
    simp only [List.foldl_cons]
    by_cases hp : pAll z y = true
    · rw [if_pos hp]
      rcases bnd_is y ls (min o z.v) with h | ⟨x, h1, h2, h3⟩
      · by_cases hz : o ≤ z.v
        · left; rw [h]; omega
        · exact .inr ⟨z, List.mem_cons_self, hp, by rw [h]; omega⟩
      · exact .inr ⟨x, List.mem_cons_of_mem _ h1, h2, h3⟩
    · rw [if_neg hp]
      rcases bnd_is y ls o with h | ⟨x, h1, h2, h3⟩
      · exact .inl h
      · exact .inr ⟨x, List.mem_cons_of_mem _ h1, h2, h3⟩
theorem fast_law {ls : List Li} {ys : List Spt} {vL own slo shi v a : Int} {f there : Bool} {y : Spt} (hle : ∀ x, x ∈ ls → x.v ≤ 16777216) (hL : LeastIs (fun x => ys.any (pMeet x)) ls vL f) (hy : y ∈ ys) (ha : y.lo ≤ a ∧ a ≤ y.hi) (hA : LeastIs (pAt y.s a) ls own there) (hv : slo ≤ v ∧ v ≤ shi) :
    (fastV f vL slo shi (gre ls ys) = -1 → there = true → max v (-v) ≤ own) ∧ (fastV f vL slo shi (gre ls ys) = 1 → (there = true ∧ own < max v (-v)) ∨ (there = false ∧ 16777216 < max v (-v))) := by
  refine ⟨fun hk ht => ?_, fun hk => ?_⟩
  · subst ht
    obtain ⟨⟨x, h1, h2, h3⟩, _⟩ := hA.1 rfl
    have hm : ys.any (pMeet x) = true := by
      refine List.any_eq_true.2 ⟨y, hy, ?_⟩
      simp only [pAt, pMeet, Bool.and_eq_true, beq_iff_eq, decide_eq_true_eq] at h2 ⊢
      omega
    have hf : f = true := by
      cases f with
      | true => rfl
      | false => have := (hL.2 rfl).2 x h1; simp only at this; rw [hm] at this; cases this
    subst hf
    have := (hL.1 rfl).2 x h1 hm
    unfold fastV at hk
    by_cases hc : true = false ∨ max shi (-slo) ≤ vL
    · rcases hc with hc | hc
      · cases hc
      · omega
    · rw [if_neg hc] at hk
      split at hk <;> omega
  · unfold fastV at hk
    by_cases hc : f = false ∨ max shi (-slo) ≤ vL
    · rw [if_pos hc] at hk; omega
    · rw [if_neg hc] at hk
      split at hk
      · rename_i hg
        have hb := gre_ge (ls := ls) hy
        rcases bnd_is y ls 16777216 with h | ⟨x, h1, h2, h3⟩
        · have hb0 : bnd y ls = 16777216 := h
          cases there with
          | true =>
            obtain ⟨⟨z, k1, k2, k3⟩, _⟩ := hA.1 rfl
            have := hle z k1
            exact .inl ⟨rfl, by omega⟩
          | false => exact .inr ⟨rfl, by omega⟩
        · have hb0 : bnd y ls = x.v := h3
          have hp : pAt y.s a x = true := by
            simp only [pAt, pAll, Bool.and_eq_true, beq_iff_eq, decide_eq_true_eq] at h2 ⊢
            omega
          cases there with
          | true =>
            have := (hA.1 rfl).2 x h1 hp
            exact .inl ⟨rfl, by omega⟩
          | false => have := (hA.2 rfl).2 x h1; rw [hp] at this; cases this
      · omega
theorem parts_le {ss : List Sg} {lo hi : Int} : ∀ (l : List Int) (a : Int) (c : Sp), c ∈ parts ss lo hi a l → c.2.1 ≤ c.2.2
  | [], a, c, h => by cases h
  | n :: l, a, c, h => by
    unfold parts at h
    rcases List.mem_append.1 h with h | h
    · unfold bit1 at h
      split at h
      · simp only [List.mem_singleton] at h; subst h; simp only; omega
      · cases h
    · exact parts_le l _ c h
theorem spots_le {ss : List Sg} {lo hi fr : Int} {rs : List (List Int)} {d : Sp} (h : d ∈ spotsOf ss.length (allParts ss lo hi fr rs)) : d.2.1 ≤ d.2.2 := by
  obtain ⟨_, _, hs⟩ := spotsUp_lt _ _ d h
  obtain ⟨c, hc, hq⟩ := fold_some d.1 _ _ _ hs
  obtain ⟨x, y, h1, h2, h3⟩ := segO_own hc
  rw [hq, hs] at h1
  simp only [Option.some.injEq, Prod.mk.injEq] at h1
  obtain ⟨l, hl, hcl⟩ := List.mem_flatMap.1 hc
  have := parts_le l _ c hcl
  omega
theorem least_ex (p : Li → Bool) (l : List Li) : ∃ out f, LeastIs p l out f := by
  by_cases h : ∃ x, x ∈ l ∧ p x = true
  · obtain ⟨n, ⟨x, hx, hp, hn⟩, hmin⟩ := ex_least (p := fun n : Nat => ∃ x, x ∈ l ∧ p x = true ∧ (x.v + l.foldl (fun o x => max o (-x.v)) 0).toNat = n) (by
      obtain ⟨x, hx, hp⟩ := h
      exact ⟨_, x, hx, hp, rfl⟩)
    refine ⟨x.v, true, fun _ => ⟨⟨x, hx, hp, rfl⟩, fun z hz hpz => ?_⟩, fun hf => by cases hf⟩
    have hb : ∀ (l : List Li) (o : Int), (o ≤ l.foldl (fun o x => max o (-x.v)) o) ∧ ∀ z, z ∈ l → -z.v ≤ l.foldl (fun o x => max o (-x.v)) o := by
      intro l
      induction l with
      | nil => intro o; exact ⟨Int.le_refl _, fun z hz => by cases hz⟩
      | cons a l ih =>
        intro o
        obtain ⟨h1, h2⟩ := ih (max o (-a.v))
        simp only [List.foldl_cons]
        refine ⟨by omega, fun z hz => ?_⟩
        rcases List.mem_cons.1 hz with rfl | hz
        · omega
        · exact h2 z hz
    have h1 := (hb l 0).2 x hx
    have h2 := (hb l 0).2 z hz
    have := hmin _ ⟨z, hz, hpz, rfl⟩
    omega
  · exact ⟨0, false, fun hf => (by cases hf), fun _ => ⟨rfl, fun x hx => by
      cases hp : p x with
      | false => rfl
      | true => exact absurd ⟨x, hx, hp⟩ h⟩⟩
def toY (d : Sp) : Spt := ⟨d.1, d.2.1, d.2.2⟩
set_option maxHeartbeats 4000000 in
theorem e_lfast (ss : List Sg) (gs : List Gr) (rs : List (List Int)) (ls : List Li) (es ds qs ls' : List (List AV)) (hes : es = ss.map sgRow) (hds : ds = gs.map grRow) (hqs : qs = rs.map rtRow) (hls : ls' = ls.map liRow) (g lo hi : Int) (o : Ro) (i at_ v : Int) :
    PCalls Try.prog 10 [.agg [.list 3 es, .list 5 ds], .list 4 ls', .agg (repRow g lo hi qs o), .int .i64 i, .int .i64 at_, .int .i64 v] (fun r => r = .bool true) := by
  have hu : Up0 es := by rw [hes]; exact up_sg ss
  have hud : Up0 ds := by rw [hds]; exact up_gr gs
  have huq : Up0 qs := by rw [hqs]; exact up_rt rs
  have hul : Up0 ls' := by rw [hls]; exact up_map (f := liRow) (fun d => rfl) ls
  have hll : ls'.length = ls.length := by rw [hls]; simp
  have hut : uptoL 0 [.agg [.list 3 es, .list 5 ds]] = true := up_track hu hud
  have hutl : uptoL 0 [.agg [.list 3 es, .list 5 ds], .list 4 ls'] = true := Bool.and_eq_true_iff.mpr ⟨Up0.one hu (Up0.one hud rfl), Up0.one hul rfl⟩
  have hur : uptoL 0 [.agg [.list 3 es, .list 5 ds], .agg (repRow g lo hi qs o)] = true := Bool.and_eq_true_iff.mpr ⟨Up0.one hu (Up0.one hud rfl), up_rep g lo hi huq o rfl⟩
  have hurl : uptoL 0 [.agg [.list 3 es, .list 5 ds], .list 4 ls', .agg (repRow g lo hi qs o)] = true := Bool.and_eq_true_iff.mpr ⟨Up0.one hu (Up0.one hud rfl), Up0.one hul (up_rep g lo hi huq o rfl)⟩
  have hsm := e_small_small ss gs es ds hes hds
  have hmy := e_may33 ss gs rs es ds qs hes hds hqs g lo hi o
  have hck := e_rcheck ls ss gs ls' es ds hls hes hds
  have hyes := fun tr wok hlo hhi (G : Gr) (hG : G ∈ gs) (hg : G.id = g) => e_sof_yesW ss gs rs es ds qs hes hds hqs g lo hi o tr wok hlo hhi G hG hg
  have hno := fun (hM : TrackOk ss gs) (hG : ∀ G, G ∈ gs → G.id ≠ g) => e_sof_no ss gs rs es ds qs hes hds hqs g lo hi o hM hG
  have fno := fun hs => e_fast_no ss gs es ds qs ls' hul hes hds g lo hi o rs hqs hs
  have fyes := fun ys ps hps hs hmax hmax2 vL f hL hsp => e_fast_yes ss gs es ds qs ls' ls hls hes hds g lo hi o rs hqs ys ps hps hs hmax hmax2 vL f hL hsp
  obtain ⟨oo, eoo⟩ : ∃ x, x = o := ⟨_, rfl⟩
  have hslo : oo.slo = o.slo := by rw [eoo]
  have hshi : oo.shi = o.shi := by rw [eoo]
  obtain ⟨oc, om, oest, oslo, oshi, onom, odist, ofit, ob1, ob2, os0, os1, ob3, ob4, ob5, ob6, ob7, omlo, omhi, operm, oc0, oc1, oc2, oc3, ok0, ok1, ok2, ok3⟩ := o
  (refine PCalls.ofY Try.func10 (by kernel_rfl) (by kernel_rfl) fun w hw R hR => ?_); (obtain ⟨wbin, wcmp, wun, wconv, wnot, wbeq, wmm, wscmp, wsadd, wslen, wsat, weqs, wlen, wnlen, wofNat, wtake, wdrop, wapp, wzero, wnat⟩ := w); (have hbin : wbin = binStd := congrArg Prims.bin hw); (have hcmp : wcmp = cmpStd := congrArg Prims.cmp hw); (have hun : wun = unStd := congrArg Prims.un hw); (have hconv : wconv = fun k n => k.wrap n := congrArg Prims.conv hw); (have hnot : wnot = fun b => !b := congrArg Prims.not hw); (have hbeq : wbeq = fun a b => a == b := congrArg Prims.beq hw); (have hmm : wmm = maxI := congrArg Prims.mm hw); (have hscmp : wscmp = scmpStd := congrArg Prims.scmp hw); (have hsadd : wsadd = fun x y => x ++ y := congrArg Prims.sadd hw); (have hslen : wslen = fun s => (s.size : Int) := congrArg Prims.slen hw); (have hsat : wsat = std.sat := congrArg Prims.sat hw); (have heqs : weqs = fun a b os => (eqOffs a b os).getD false := congrArg Prims.eqs hw); (have hlen : wlen = fun es => (es.length : Int) := congrArg Prims.len hw); (have hnlen : wnlen = fun es => es.length := congrArg Prims.nlen hw); (have hofNat : wofNat = (fun n : Nat => (n : Int)) := congrArg Prims.ofNat hw); (have htake : wtake = fun es b => es.take b.toNat := congrArg Prims.take hw); (have hdrop : wdrop = fun es a => es.drop a.toNat := congrArg Prims.drop hw); (have happ : wapp = fun a b => a ++ b := congrArg Prims.app hw); (have hzero : wzero = fun n z => List.replicate n.toNat z := congrArg Prims.zero hw); (have hnat : wnat = fun n => n.toNat := congrArg Prims.nat hw); (conv => arg 2; cbv); (generalize hP : Try.prog = P); cbv
  have n1 : wnot true = false := by rw [hnot]; rfl
  have n2 : wnot false = true := by rw [hnot]; rfl
  have hF : R (.bool true) := hR _ rfl
  refine Call.step (by rw [← hP]; exact e_anchor33) rfl ?_
  rintro r rfl
  cbv
  simp only [n1]
  cbv
  refine Call.step (by rw [← hP]; exact hsm) hut ?_
  rintro r ⟨u, rfl, hok⟩
  cbv
  (obtain ⟨L, eL, L0, Ln⟩ : ∃ L : Int, wlen ls' = L ∧ 0 ≤ L ∧ L.toNat = ls'.length := ⟨(ls'.length : Int), by rw [hlen], Int.natCast_nonneg _, Int.toNat_natCast _⟩)
  cases u with
  | false =>
    simp only [n2]
    cbv
    exact ⟨_, Vw.same rfl, hF⟩
  | true =>
  simp only [n1]
  cbv
  refine Call.step (by rw [← hP]; exact hmy) hur ?_
  rintro r ⟨u, rfl, hok2⟩
  cbv
  cases u with
  | false =>
    simp only [n2]
    cbv
    exact ⟨_, Vw.same rfl, hF⟩
  | true =>
  simp only [n1]
  cbv
  obtain ⟨htr, hps⟩ := hok rfl
  have hW := hok2 rfl
  (split <;> rename_i h500 <;> (try (simp only [eL] at h500)) <;> (try (simp only [hbin, hcmp, hun, hconv, hnot, hbeq, hmm, hscmp, hsadd, hslen, hsat, heqs, hofNat, binStd, cmpStd, unStd, scmpStd, maxI, Bool.not_eq_true', Bool.not_eq_false', decide_eq_true_eq, decide_eq_false_iff_not, Int.not_lt, Int.not_le, if_true, if_false, Bool.false_eq_true, beq_iff_eq, bne_iff_ne, ne_eq, Bool.not_eq_eq_eq_not, Bool.not_true, Bool.not_false, beq_eq_false_iff_ne, bne_eq_false_iff_eq, Int.ofNat_eq_natCast, Bool.not_not, not_true_eq_false, not_false_eq_true, reduceCtorEq] at h500)) <;> (try cbv))
  · exact ⟨_, Vw.same rfl, hF⟩
  have hn1 := htr.le
  have hn2 := htr.gle
  refine Call.stepE (by rw [← hP]; exact e_refsT ss gs es ds hes hds (by omega) (by omega) hps) hut ?_
  cbv
  refine Call.stepE (by rw [← hP]; exact e_limits ls ls' hls (by omega)) (by exact Up0.one hul rfl) ?_
  cbv
  refine Call.step (by rw [← hP]; exact hck) hutl ?_
  rintro r ⟨e, ix, rfl, hchk⟩
  cbv
  (split <;> rename_i he <;> (try (simp only [hbin, hcmp, hun, hconv, hnot, hbeq, hmm, hscmp, hsadd, hslen, hsat, heqs, hofNat, binStd, cmpStd, unStd, scmpStd, maxI, Bool.not_eq_true', Bool.not_eq_false', decide_eq_true_eq, decide_eq_false_iff_not, Int.not_lt, Int.not_le, if_true, if_false, Bool.false_eq_true, beq_iff_eq, bne_iff_ne, ne_eq, Bool.not_eq_eq_eq_not, Bool.not_true, Bool.not_false, beq_eq_false_iff_ne, bne_eq_false_iff_eq, Int.ofNat_eq_natCast, Bool.not_not, not_true_eq_false, not_false_eq_true, reduceCtorEq] at he)) <;> (try cbv))
  · exact ⟨_, Vw.same rfl, hF⟩
  have hall : ∀ x, x ∈ ls → x.a ≤ x.b ∧ x.v ≤ 16777216 := fun x hx => by
    rcases hchk with ⟨_, h, _⟩ | ⟨_, ⟨h, _, _⟩ | ⟨k, _, _, _, ⟨_, h⟩ | ⟨_, _, h⟩⟩⟩
    · omega
    · obtain ⟨j, hj⟩ := List.mem_iff_getElem?.1 hx
      have := (h j (List.getElem?_eq_some_iff.1 hj).1).1
      have hh : 0 ≤ x.s ∧ x.s.toNat < ss.length ∧ 0 ≤ x.a ∧ x.a ≤ x.b ∧ (∀ s, ss[x.s.toNat]? = some s → x.b ≤ s.len) ∧ 0 ≤ x.v ∧ x.v ≤ 16777216 := Classical.not_not.1 fun hh => this ⟨x, hj, hh⟩
      exact ⟨hh.2.2.2.1, hh.2.2.2.2.2.2⟩
    · omega
    · omega
  have hlo := hW.lo
  have hhi := hW.hi
  have hsp0 : -1099511627776 ≤ oslo ∧ oshi ≤ 1099511627776 ∧ oslo ≤ oshi := hW.sp
  by_cases hx : ∃ G, G ∈ gs ∧ G.id = g
  · obtain ⟨G, hG, hg⟩ := hx
    have wok : WaysOk ss rs := ⟨by have := hW.r16; omega, hW.ways⟩
    have s1 := hyes htr wok (by omega) (by omega) G hG hg
    have hle : ∀ d, d ∈ spotsOf ss.length (allParts ss lo hi G.off rs) → d.2.1 ≤ d.2.2 := fun d hd => spots_le hd
    obtain ⟨sp, esp⟩ : ∃ x, spotsOf ss.length (allParts ss lo hi G.off rs) = x := ⟨_, rfl⟩
    have hspl : sp.length ≤ 1000 := by rw [← esp, spotsOf_up]; exact Nat.le_trans (spotsUp_len _ _) (by omega)
    rw [esp] at s1 hle
    obtain ⟨ps, eps⟩ : ∃ x, sp.map spRow = x := ⟨_, rfl⟩
    rw [eps] at s1
    obtain ⟨ys, eys⟩ : ∃ x, sp.map toY = x := ⟨_, rfl⟩
    have hps2 : ps = ys.map sptRow := by rw [← eps, ← eys, List.map_map]; rfl
    have hyl : ys.length ≤ 1000 := by rw [← eys]; simpa using hspl
    have hoy : ∀ y, y ∈ ys → y.lo ≤ y.hi := fun y hy => by
      rw [← eys] at hy
      obtain ⟨d, hd, rfl⟩ := List.mem_map.1 hy
      exact hle d hd
    have hup : Up0 ps := by rw [← eps]; exact up_sp _
    have hpl : ps.length = ys.length := by rw [hps2]; simp
    have hls1 : ls.length ≤ 1000 := by omega
    obtain ⟨vL, f, hL⟩ := least_ex (fun x => ys.any (pMeet x)) ls
    have f1 := fyes ys ps hps2 s1 hls1 hyl vL f hL hW.sp
    have r1 := e_rfast ls' ps ls hls ys hps2 hls1 hyl (fun x hx => (hall x hx).1) hoy vL f hL oslo oshi hsp0
    have law := fun (own : Int) (there : Bool) (y : Spt) (hy : y ∈ ys) (ha : y.lo ≤ at_ ∧ at_ ≤ y.hi) (hA : LeastIs (pAt y.s at_) ls own there) (hv : oslo ≤ v ∧ v ≤ oshi) => fast_law (fun x hx => (hall x hx).2) hL hy ha hA hv
    obtain ⟨K, eK⟩ : ∃ x, fastV f vL oslo oshi (gre ls ys) = x := ⟨_, rfl⟩
    have f1 : PCalls Try.prog 33 _ (· = .int .i64 (fastV f vL oslo oshi (gre ls ys))) := f1
    rw [eK] at f1 r1 law
    have hlim := e_limits ls ls' hls hls1
    have hspt := e_spots ys ps hps2 hyl
    have cK : wcmp .neq K K = false := by rw [hcmp]; simp [cmpStd]
    (obtain ⟨J, eJ, J0, Jn⟩ : ∃ L : Int, wlen ps = L ∧ 0 ≤ L ∧ L.toNat = ps.length := ⟨(ps.length : Int), by rw [hlen], Int.natCast_nonneg _, Int.toNat_natCast _⟩)
    have hur4 : uptoL 0 [.list 4 ls', .list 3 ps, .int .i64 oslo, .int .i64 oshi] = true := Up0.one hul (Up0.one hup rfl)
    repeat' (first
      | (first | (refine Call.stepE (v := ?_) ?_ ?_ ?_; rotate_left 1; (focus (rw [← hP]; exact f1)); (focus (exact hurl)); cbv) | (refine QCal.stepE (v := ?_) ?_ ?_ ?_; rotate_left 1; (focus (rw [← hP]; exact f1)); (focus (exact hurl)); cbv))
      | (first | (refine Call.stepE (v := ?_) ?_ ?_ ?_; rotate_left 1; (focus (rw [← hP]; exact s1)); (focus (exact hur)); cbv) | (refine QCal.stepE (v := ?_) ?_ ?_ ?_; rotate_left 1; (focus (rw [← hP]; exact s1)); (focus (exact hur)); cbv))
      | (simp only [n1]; cbv)
      | (first | (refine Call.stepE (v := ?_) ?_ ?_ ?_; rotate_left 1; (focus (rw [← hP]; exact hlim)); (focus (exact Up0.one hul rfl)); cbv) | (refine QCal.stepE (v := ?_) ?_ ?_ ?_; rotate_left 1; (focus (rw [← hP]; exact hlim)); (focus (exact Up0.one hul rfl)); cbv))
      | (first | (refine Call.stepE (v := ?_) ?_ ?_ ?_; rotate_left 1; (focus (rw [← hP]; exact hspt)); (focus (exact Up0.one hup rfl)); cbv) | (refine QCal.stepE (v := ?_) ?_ ?_ ?_; rotate_left 1; (focus (rw [← hP]; exact hspt)); (focus (exact Up0.one hup rfl)); cbv))
      | (first | (refine Call.stepE (v := ?_) ?_ ?_ ?_; rotate_left 1; (focus (rw [← hP]; exact r1)); (focus (exact hur4)); cbv) | (refine QCal.stepE (v := ?_) ?_ ?_ ?_; rotate_left 1; (focus (rw [← hP]; exact r1)); (focus (exact hur4)); cbv))
      | (simp only [cK]; cbv))
    by_cases hi : 0 ≤ i ∧ i < J
    rotate_left 1
    · repeat' (first | exact ⟨_, Vw.same rfl, hF⟩ | (exfalso; omega) | (split <;> rename_i h <;> (try (simp only [eJ] at h)) <;> (try (simp only [hbin, hcmp, hun, hconv, hnot, hbeq, hmm, hscmp, hsadd, hslen, hsat, heqs, hofNat, binStd, cmpStd, unStd, scmpStd, maxI, Bool.not_eq_true', Bool.not_eq_false', decide_eq_true_eq, decide_eq_false_iff_not, Int.not_lt, Int.not_le, if_true, if_false, Bool.false_eq_true, beq_iff_eq, bne_iff_ne, ne_eq, Bool.not_eq_eq_eq_not, Bool.not_true, Bool.not_false, beq_eq_false_iff_ne, bne_eq_false_iff_eq, Int.ofNat_eq_natCast, Bool.not_not, not_true_eq_false, not_false_eq_true, reduceCtorEq] at h)) <;> (try cbv)))
    obtain ⟨hi0, hi1⟩ := hi
    obtain ⟨⟨s0, l0, h0⟩, hd, hrow⟩ := get_map (f := sptRow) (ds := ys) (i := i) hi0 (by omega)
    have hrow : ps[i.toNat]? = some [.int .i64 s0, .int .i64 l0, .int .i64 h0] := by rw [hps2]; exact hrow
    have law := fun own there => law own there ⟨s0, l0, h0⟩ (List.mem_of_getElem? hd)
    have hat := e_at33 ls ls' hls s0 at_ hls1
    have ci : wcmp .lss i 0 = false := by rw [hcmp]; simp [cmpStd]; omega
    have ci2 : wcmp .geq i J = false := by rw [hcmp]; simp [cmpStd]; omega
    repeat' (first | exact ⟨_, Vw.same rfl, hF⟩ | (simp only [ci]; cbv) | (simp only [eJ]; cbv) | (simp only [ci2]; cbv) | (refine Idx.mk _ hi0 hrow ?_; cbv) | (split <;> rename_i h <;> (try (simp only [hbin, hcmp, hun, hconv, hnot, hbeq, hmm, hscmp, hsadd, hslen, hsat, heqs, hofNat, binStd, cmpStd, unStd, scmpStd, maxI, Bool.not_eq_true', Bool.not_eq_false', decide_eq_true_eq, decide_eq_false_iff_not, Int.not_lt, Int.not_le, if_true, if_false, Bool.false_eq_true, beq_iff_eq, bne_iff_ne, ne_eq, Bool.not_eq_eq_eq_not, Bool.not_true, Bool.not_false, beq_eq_false_iff_ne, bne_eq_false_iff_eq, Int.ofNat_eq_natCast, Bool.not_not, not_true_eq_false, not_false_eq_true, reduceCtorEq] at h)) <;> (try cbv)))
    refine Call.step (by rw [← hP]; exact hat) (by exact Up0.one hul rfl) ?_
    rintro r ⟨own, there, rfl, hA⟩
    have law := law own there (show l0 ≤ at_ ∧ at_ ≤ h0 by omega) hA (by omega)
    obtain ⟨l1, l2⟩ := law
    cbv
    obtain ⟨a3, ea3⟩ : ∃ x, -v = x := ⟨_, rfl⟩
    have en3 : wun .neg .i64 v = a3 := by rw [hun, i_neg (by omega) (by omega)]; exact ea3
    obtain ⟨m3, em3⟩ : ∃ x, max v a3 = x := ⟨_, rfl⟩
    have ew3 : wmm true v a3 = m3 := by rw [hmm, mmT, em3]
    rw [ea3, em3] at l1 l2
    cases there with
    | true =>
      have l1 : K = -1 → m3 ≤ own := fun h => l1 h rfl
      have l2 : K = 1 → own < m3 := fun h => by
        rcases l2 h with h | h
        · exact h.2
        · exact absurd h.1 (by decide)
      cbv
      repeat' (first
        | exact ⟨_, Vw.same rfl, hF⟩
        | (exfalso; clear f1 r1 hlim hspt hyes hno fno fyes; omega)
        | (simp only [n1]; cbv)
        | (simp only [n2]; cbv)
        | (simp only [en3]; simp only [ew3])
        | (split <;> rename_i h <;> (try (simp only [hbin, hcmp, hun, hconv, hnot, hbeq, hmm, hscmp, hsadd, hslen, hsat, heqs, hofNat, binStd, cmpStd, unStd, scmpStd, maxI, Bool.not_eq_true', Bool.not_eq_false', decide_eq_true_eq, decide_eq_false_iff_not, Int.not_lt, Int.not_le, if_true, if_false, Bool.false_eq_true, beq_iff_eq, bne_iff_ne, ne_eq, Bool.not_eq_eq_eq_not, Bool.not_true, Bool.not_false, beq_eq_false_iff_ne, bne_eq_false_iff_eq, Int.ofNat_eq_natCast, Bool.not_not, not_true_eq_false, not_false_eq_true, reduceCtorEq] at h)) <;> (try cbv)))
    | false =>
      have l2 : K = 1 → 16777216 < m3 := fun h => by
        rcases l2 h with h | h
        · exact absurd h.1 (by decide)
        · exact h.2
      cbv
      repeat' (first
        | exact ⟨_, Vw.same rfl, hF⟩
        | (exfalso; clear f1 r1 hlim hspt hyes hno fno fyes; omega)
        | (simp only [n1]; cbv)
        | (simp only [n2]; cbv)
        | (simp only [en3]; simp only [ew3])
        | (split <;> rename_i h <;> (try (simp only [hbin, hcmp, hun, hconv, hnot, hbeq, hmm, hscmp, hsadd, hslen, hsat, heqs, hofNat, binStd, cmpStd, unStd, scmpStd, maxI, Bool.not_eq_true', Bool.not_eq_false', decide_eq_true_eq, decide_eq_false_iff_not, Int.not_lt, Int.not_le, if_true, if_false, Bool.false_eq_true, beq_iff_eq, bne_iff_ne, ne_eq, Bool.not_eq_eq_eq_not, Bool.not_true, Bool.not_false, beq_eq_false_iff_ne, bne_eq_false_iff_eq, Int.ofNat_eq_natCast, Bool.not_not, not_true_eq_false, not_false_eq_true, reduceCtorEq] at h)) <;> (try cbv)))
      all_goals
        refine ⟨_, Vw.same rfl, hR _ ?_⟩
        have := l2 (by assumption)
        have e : wcmp .gtr m3 16777216 = true := by rw [hcmp]; simp only [cmpStd, decide_eq_true_eq]; omega
        rw [e]
        rfl
  · have hx : ∀ G, G ∈ gs → G.id ≠ g := fun G hG e => hx ⟨G, hG, e⟩
    have s1 := hno htr hx
    have f1 := fno s1
    repeat' (first
      | (first | (refine Call.stepE (v := ?_) ?_ ?_ ?_; rotate_left 1; (focus (rw [← hP]; exact f1)); (focus (exact hurl)); cbv) | (refine QCal.stepE (v := ?_) ?_ ?_ ?_; rotate_left 1; (focus (rw [← hP]; exact f1)); (focus (exact hurl)); cbv))
      | (first | (refine Call.stepE (v := ?_) ?_ ?_ ?_; rotate_left 1; (focus (rw [← hP]; exact s1)); (focus (exact hur)); cbv) | (refine QCal.stepE (v := ?_) ?_ ?_ ?_; rotate_left 1; (focus (rw [← hP]; exact s1)); (focus (exact hur)); cbv))
      | (simp only [n2]; cbv))
    refine ⟨_, Vw.same rfl, hR _ ?_⟩
    rw [hcmp]
    rfl
end Go.Proofs.Ytjfbecnappgjjaa

/- LimitFast, joined. -/
set_option linter.unusedVariables false
set_option maxRecDepth 100000
namespace Go.Proofs.Ytjfbecnappgjjaa
open Go Go.RowKit Go.Eng
theorem walk_LimitFast (x0 x1 x2 x3 x4 x5 : AV) (h0 : TyV Try.prog 8 25 x0) (h1 : TyV Try.prog 8 69 x1) (h2 : TyV Try.prog 8 32 x2) (h3 : TyV Try.prog 8 3 x3) (h4 : TyV Try.prog 8 2 x4) (h5 : TyV Try.prog 8 2 x5) : PCalls Try.prog 10 [x0, x1, x2, x3, x4, x5] (fun r => r = .bool true) := by
  obtain ⟨ss, gs, rfl⟩ := ty_track x0 h0
  obtain ⟨ls, rfl⟩ := ty_limits x1 h1
  obtain ⟨g, lo, hi, rs, o, rfl⟩ := ty_report x2 h2
  obtain ⟨i, rfl⟩ := ty_intS x3 h3
  obtain ⟨at_, rfl, _, _⟩ := ty_i64 x4 h4
  obtain ⟨v, rfl, _, _⟩ := ty_i64 x5 h5
  exact e_lfast ss gs rs ls _ _ _ _ rfl rfl rfl rfl g lo hi o i at_ v
end Go.Proofs.Ytjfbecnappgjjaa

