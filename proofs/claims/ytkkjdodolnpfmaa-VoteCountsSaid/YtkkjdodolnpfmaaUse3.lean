/- The document's answer for votes, by the engine. -/
import Derived.Test.YtkkjdodolnpfmaaUse2
import Derived.KernelRfl
set_option linter.unusedVariables false
set_option linter.unusedSimpArgs false
set_option cbv.maxSteps 10000000
namespace Go.Proofs.Ytkkjdodolnpfmaa
open Go Go.RowKit Go.Eng
set_option maxRecDepth 100000
abbrev spv (lo hi : Int) : AV := .agg [.int .i64 lo, .int .i64 hi]
theorem e_is (a b c d : Int) (ok may : Bool) : PCalls Try.prog 32 [spv a b, .bool ok, spv c d, .bool may] (fun r => ∃ o : Bool, r = .bool o ∧ (o = true ↔ (may = false ∧ ok = false ∧ a = 0 ∧ b = 0) ∨ (may = true ∧ ok = true ∧ a = c ∧ b = d))) := by
  (refine PCalls.ofX Try.func32 (by kernel_rfl) (by kernel_rfl) fun w hw R hR => ?_); (conv => arg 2; cbv); (generalize hP : Try.prog = P); cbv
  subst hw
  cases ok <;> cases may <;> (repeat' (split <;> rename_i h <;> (try (simp only [std, binStd, cmpStd, unStd, scmpStd, maxI, Bool.not_eq_true', Bool.not_eq_false', decide_eq_true_eq, decide_eq_false_iff_not, Int.not_lt, Int.not_le, if_true, if_false, Bool.false_eq_true, beq_iff_eq, bne_iff_ne, ne_eq, Bool.not_eq_eq_eq_not, Bool.not_true, Bool.not_false, beq_eq_false_iff_ne, bne_eq_false_iff_eq, Int.ofNat_eq_natCast] at h)))) <;> refine ⟨_, Vw.same rfl, hR _ ⟨_, rfl, ?_⟩⟩ <;> simp_all [std, cmpStd, eqOffs, eqA]
def lo1 (ps : List (Int × Int)) (i : Nat) : Int := (ps.getD i (0, 0)).1
def hi1 (ps : List (Int × Int)) (i : Nat) : Int := (ps.getD i (0, 0)).2
structure BestIs (ok : Nat → Prop) (e : Nat → Int) (le : Int → Int → Prop) (k : Nat) (v : Int) (f : Bool) : Prop where
  no : f = false → v = 0 ∧ ∀ i, i < k → ¬ ok i
  yes : f = true → (∃ i, i < k ∧ ok i ∧ v = e i) ∧ ∀ i, i < k → ok i → le v (e i)
section
variable {ok : Nat → Prop} {e : Nat → Int} {le : Int → Int → Prop} {k : Nat} {v : Int} {f : Bool}
theorem best_start : BestIs ok e le 0 0 false := ⟨fun _ => ⟨rfl, fun i hi => (by omega)⟩, fun h => by cases h⟩
theorem best_no (h : BestIs ok e le k v f) (hn : ¬ ok k) : BestIs ok e le (k + 1) v f := by
  refine ⟨fun hf => ⟨(h.no hf).1, fun i hi => ?_⟩, fun hf => ⟨?_, fun i hi ho => ?_⟩⟩
  · by_cases hk : i = k
    · subst hk; exact hn
    · exact (h.no hf).2 i (by omega)
  · obtain ⟨i, h1, h2, h3⟩ := (h.yes hf).1
    exact ⟨i, by omega, h2, h3⟩
  · by_cases hk : i = k
    · subst hk; exact absurd ho hn
    · exact (h.yes hf).2 i (by omega) ho
theorem best_put (htr : ∀ x y z, le x y → le y z → le x z) (hre : ∀ x, le x x) (h : BestIs ok e le k v f) (ho : ok k) (hv : f = true → le (e k) v) : BestIs ok e le (k + 1) (e k) true := by
  refine ⟨fun h => (by cases h), fun _ => ⟨⟨k, by omega, ho, rfl⟩, fun i hi hoi => ?_⟩⟩
  by_cases hk : i = k
  · subst hk; exact hre _
  · cases f with
    | false => exact absurd hoi ((h.no rfl).2 i (by omega))
    | true => exact htr _ _ _ (hv rfl) ((h.yes rfl).2 i (by omega) hoi)
theorem best_keep (h : BestIs ok e le k v true) (hv : le v (e k)) : BestIs ok e le (k + 1) v true := by
  refine ⟨fun h => (by cases h), fun _ => ⟨?_, fun i hi hoi => ?_⟩⟩
  · obtain ⟨i, h1, h2, h3⟩ := (h.yes rfl).1
    exact ⟨i, by omega, h2, h3⟩
  · by_cases hk : i = k
    · subst hk; exact hv
    · exact (h.yes rfl).2 i (by omega) hoi
end
theorem e_Many' (ps : List (Int × Int)) (es : List (List AV)) (hes : es = spRows ps) (x c : Int) (hc : c = (cnt x ps : Int)) (hlen : ps.length ≤ 1000) : PCalls Try.prog 50 [.list 2 es, .int .i64 x] (· = .int .i64 c) :=
  (e_Many ps es hes x hlen).mono fun r hr => by obtain ⟨n, rfl, h⟩ := hr; rw [hc, h]
def LoOk (ps : List (Int × Int)) (m : Int) (i : Nat) : Prop := m ≤ (cnt (lo1 ps i) ps : Int)
def HiOk (ps : List (Int × Int)) (m : Int) (i : Nat) : Prop := m ≤ (cnt (hi1 ps i) ps : Int)
abbrev sps (lo hi : Int) : Slot := .live 2 [[.int .i64 lo, .int .i64 hi]]

theorem lo_ok {ps : List (Int × Int)} {m l u c : Int} {i : Nat} (hp : ps[i]? = some (l, u)) (hcc : c = (cnt l ps : Int)) : LoOk ps m i ↔ m ≤ c := by
  subst hcc; simp [LoOk, lo1, List.getD, hp]
theorem lo_at {ps : List (Int × Int)} {l u : Int} {i : Nat} (hp : ps[i]? = some (l, u)) : lo1 ps i = l := by simp [lo1, List.getD, hp]
theorem lo_put {ps : List (Int × Int)} {m l u c i x : Int} {f : Bool} (hp : ps[i.toNat]? = some (l, u)) (hcc : c = (cnt l ps : Int)) (h : BestIs (LoOk ps m) (lo1 ps) (· ≤ ·) i.toNat x f) (h0 : 0 ≤ i) (hm : m ≤ c) (hv : f = false ∨ l ≤ x) : BestIs (LoOk ps m) (lo1 ps) (· ≤ ·) (i + 1).toNat l true := by
  rw [show (i + 1).toNat = i.toNat + 1 by omega, ← lo_at hp]
  refine best_put (by intro x y z; omega) (by intro x; omega) h ((lo_ok hp hcc).2 hm) fun hf => ?_
  rw [lo_at hp]
  rcases hv with e | e
  · rw [hf] at e; cases e
  · omega
theorem lo_no {ps : List (Int × Int)} {m l u c i x : Int} {f : Bool} (hp : ps[i.toNat]? = some (l, u)) (hcc : c = (cnt l ps : Int)) (h : BestIs (LoOk ps m) (lo1 ps) (· ≤ ·) i.toNat x f) (h0 : 0 ≤ i) (hm : c < m) : BestIs (LoOk ps m) (lo1 ps) (· ≤ ·) (i + 1).toNat x f := by
  rw [show (i + 1).toNat = i.toNat + 1 by omega]
  exact best_no h fun ho => (by have := (lo_ok hp hcc).1 ho; omega)
theorem lo_keep {ps : List (Int × Int)} {m l u i x : Int} {f : Bool} (hp : ps[i.toNat]? = some (l, u)) (h : BestIs (LoOk ps m) (lo1 ps) (· ≤ ·) i.toNat x f) (h0 : 0 ≤ i) (hf : f = true) (hv : x ≤ l) : BestIs (LoOk ps m) (lo1 ps) (· ≤ ·) (i + 1).toNat x f := by
  rw [show (i + 1).toNat = i.toNat + 1 by omega]
  subst hf
  refine best_keep h ?_
  rw [lo_at hp]; omega

theorem hi_ok {ps : List (Int × Int)} {m l u c : Int} {i : Nat} (hp : ps[i]? = some (l, u)) (hcc : c = (cnt u ps : Int)) : HiOk ps m i ↔ m ≤ c := by
  subst hcc; simp [HiOk, hi1, List.getD, hp]
theorem hi_at {ps : List (Int × Int)} {l u : Int} {i : Nat} (hp : ps[i]? = some (l, u)) : hi1 ps i = u := by simp [hi1, List.getD, hp]
theorem hi_put {ps : List (Int × Int)} {m l u c i x : Int} {f : Bool} (hp : ps[i.toNat]? = some (l, u)) (hcc : c = (cnt u ps : Int)) (h : BestIs (HiOk ps m) (hi1 ps) (· ≥ ·) i.toNat x f) (h0 : 0 ≤ i) (hm : m ≤ c) (hv : f = false ∨ x ≤ u) : BestIs (HiOk ps m) (hi1 ps) (· ≥ ·) (i + 1).toNat u true := by
  rw [show (i + 1).toNat = i.toNat + 1 by omega, ← hi_at hp]
  refine best_put (by intro x y z; omega) (by intro x; omega) h ((hi_ok hp hcc).2 hm) fun hf => ?_
  rw [hi_at hp]
  rcases hv with e | e
  · rw [hf] at e; cases e
  · omega
theorem hi_no {ps : List (Int × Int)} {m l u c i x : Int} {f : Bool} (hp : ps[i.toNat]? = some (l, u)) (hcc : c = (cnt u ps : Int)) (h : BestIs (HiOk ps m) (hi1 ps) (· ≥ ·) i.toNat x f) (h0 : 0 ≤ i) (hm : c < m) : BestIs (HiOk ps m) (hi1 ps) (· ≥ ·) (i + 1).toNat x f := by
  rw [show (i + 1).toNat = i.toNat + 1 by omega]
  exact best_no h fun ho => (by have := (hi_ok hp hcc).1 ho; omega)
theorem hi_keep {ps : List (Int × Int)} {m l u i x : Int} {f : Bool} (hp : ps[i.toNat]? = some (l, u)) (h : BestIs (HiOk ps m) (hi1 ps) (· ≥ ·) i.toNat x f) (h0 : 0 ≤ i) (hf : f = true) (hv : u ≤ x) : BestIs (HiOk ps m) (hi1 ps) (· ≥ ·) (i + 1).toNat x f := by
  rw [show (i + 1).toNat = i.toNat + 1 by omega]
  subst hf
  refine best_keep h ?_
  rw [hi_at hp]; omega

set_option maxHeartbeats 1000000 in
theorem e_By (ps : List (Int × Int)) (es : List (List AV)) (hes : es = spRows ps) (m : Int) (hlen : ps.length ≤ 1000) : PCalls Try.prog 30 [.list 2 es, .int .i64 m] (fun r => ∃ lo hi o f g, r = .tuple [spv lo hi, .bool o] ∧ BestIs (LoOk ps m) (lo1 ps) (· ≤ ·) ps.length lo f ∧ BestIs (HiOk ps m) (hi1 ps) (· ≥ ·) ps.length hi g ∧ o = (f && g)) := by
  have hu : (AV.list 2 es).upto 0 = true := by subst hes; exact up_spRows ps
  (refine PCalls.ofX Try.func30 (by kernel_rfl) (by kernel_rfl) fun w hw R hR => ?_); (conv => arg 2; cbv); (generalize hP : Try.prog = P); cbv
  refine Loop.introQ (fun a h => ∃ (lo i : Int) (f : Bool), a = fr 86 [(0, .list 2 es), (1, .int .i64 m), (4, .ref 0 2 0 0), (6, .ref 1 2 0 0), (7, .bool f), (8, .int .i64 i)] ∧ h = [sps 0 0, sps lo 0] ∧ 0 ≤ i ∧ i ≤ ps.length ∧ BestIs (LoOk ps m) (lo1 ps) (· ≤ ·) i.toNat lo f) (fun a _ => ps.length - (iAt a 8).toNat)
    (fr 86 [(0, .list 2 es), (1, .int .i64 m), (4, .ref 0 2 0 0), (6, .ref 1 2 0 0), (7, .bool false), (8, .int .i64 0)]) [sps 0 0, sps 0 0] (by (refine Wk.ren id ?_ ?_ (fun i j _ _ e => e); (focus (repeat' (first | exact wkL_nil | exact wkAny | refine wkL_cons ?_ ?_ | exact wk0 rfl rfl | exact wkRef rfl rfl | exact wkSl rfl rfl | exact wkSlR rfl rfl rfl | exact wkSlR rfl rfl (by assumption) | exact wkI (by assumption) | exact wkU (by assumption)))); (repeat' (first | exact wkH_nil | refine wkH_cons rfl rfl rfl ?_ | refine wkH_up rfl (by assumption) ?_)))) ⟨0, 0, false, rfl, rfl, by omega, by omega, best_start⟩ ?_
  · rintro a h ⟨lo, i, f, rfl, rfl, hi0, hi1, hn⟩ w hw Q' hN hE hR'
    have hi1 : i ≤ ps.length := hi1
    generalize hM : ps.length - (iAt (fr 86 [(0, .list 2 es), (1, .int .i64 m), (4, .ref 0 2 0 0), (6, .ref 1 2 0 0), (7, .bool f), (8, .int .i64 i)]) 8).toNat = M at hN
    cbv
    split <;> rename_i hc <;> rw [hw] at hc <;> simp only [std, binStd, cmpStd, unStd, scmpStd, maxI, Bool.not_eq_true', Bool.not_eq_false', decide_eq_true_eq, decide_eq_false_iff_not, Int.not_lt, Int.not_le, if_true, if_false, Bool.false_eq_true, beq_iff_eq, bne_iff_ne, ne_eq, Bool.not_eq_eq_eq_not, Bool.not_true, Bool.not_false, beq_eq_false_iff_ne, bne_eq_false_iff_eq, Int.ofNat_eq_natCast] at hc
    · have hc' : i < ps.length := by rw [hes] at hc; simpa [std, spRows] using hc
      obtain ⟨l, u, hp, hr⟩ := get_sp ps i hi0 hc'
      have ei : w.1 .add .i64 i 1 = i + 1 := by rw [hw]; exact add64 (by omega) (by omega)
      refine Idx.mk [.int .i64 l, .int .i64 u] hi0 (by rw [hes]; exact hr) ?_
      cbv
      obtain ⟨c, hcc⟩ : ∃ c : Int, c = (cnt l ps : Int) := ⟨_, rfl⟩
      refine QCal.stepE (by rw [← hP]; exact e_Many' ps es hes l c hcc hlen) (by exact Bool.and_eq_true_iff.mpr ⟨hu, rfl⟩) ?_
      cbv
      repeat' (first
        | (split <;> rename_i h <;> rw [hw] at h <;> (try (simp only [std, binStd, cmpStd, unStd, scmpStd, maxI, Bool.not_eq_true', Bool.not_eq_false', decide_eq_true_eq, decide_eq_false_iff_not, Int.not_lt, Int.not_le, if_true, if_false, Bool.false_eq_true, beq_iff_eq, bne_iff_ne, ne_eq, Bool.not_eq_eq_eq_not, Bool.not_true, Bool.not_false, beq_eq_false_iff_ne, bne_eq_false_iff_eq, Int.ofNat_eq_natCast] at h)))
        | (refine Idx.mk [.int .i64 l, .int .i64 u] hi0 (by rw [hes]; exact hr) ?_; cbv))
      all_goals first
        | exact hN _ _ (fr 86 [(0, .list 2 es), (1, .int .i64 m), (4, .ref 0 2 0 0), (6, .ref 1 2 0 0), (7, .bool true), (8, .int .i64 (i + 1))]) [sps 0 0, sps l 0] (by (refine Wk.ren id ?_ ?_ (fun i j _ _ e => e); (focus (repeat' (first | exact wkL_nil | exact wkAny | refine wkL_cons ?_ ?_ | exact wk0 rfl rfl | exact wkRef rfl rfl | exact wkSl rfl rfl | exact wkSlR rfl rfl rfl | exact wkSlR rfl rfl (by assumption) | exact wkI (by assumption) | exact wkU (by assumption)))); (repeat' (first | exact wkH_nil | refine wkH_cons rfl rfl rfl ?_ | refine wkH_up rfl (by assumption) ?_)))) ⟨_, _, _, rfl, rfl, by omega, by omega, lo_put hp hcc hn hi0 (by omega) (by first | exact .inl (by assumption) | exact .inr (by omega))⟩ (by rw [← hM]; exact meas hi0 hc')
        | exact hN _ _ (fr 86 [(0, .list 2 es), (1, .int .i64 m), (4, .ref 0 2 0 0), (6, .ref 1 2 0 0), (7, .bool f), (8, .int .i64 (i + 1))]) [sps 0 0, sps lo 0] (by (refine Wk.ren id ?_ ?_ (fun i j _ _ e => e); (focus (repeat' (first | exact wkL_nil | exact wkAny | refine wkL_cons ?_ ?_ | exact wk0 rfl rfl | exact wkRef rfl rfl | exact wkSl rfl rfl | exact wkSlR rfl rfl rfl | exact wkSlR rfl rfl (by assumption) | exact wkI (by assumption) | exact wkU (by assumption)))); (repeat' (first | exact wkH_nil | refine wkH_cons rfl rfl rfl ?_ | refine wkH_up rfl (by assumption) ?_)))) ⟨_, _, _, rfl, rfl, by omega, by omega, by first | exact lo_no hp hcc hn hi0 (by omega) | exact lo_keep hp hn hi0 (by assumption) (by omega)⟩ (by rw [← hM]; exact meas hi0 hc')
    · refine hE _ _ _ ?_
      cbv
      have e : i.toNat = ps.length := by rw [hes] at hc; exact end_i hi0 hi1 hc
      rw [e] at hn
      clear hN hE hR' hM hc hi0 hi1
      rename_i w0 _ 
      refine Loop.introQ (fun a h => ∃ (hi i : Int) (g : Bool), a = fr 86 [(0, .list 2 es), (1, .int .i64 m), (4, .ref 0 2 0 0), (6, .ref 1 2 0 0), (7, .bool f), (9, .bool g), (10, .int .i64 i)] ∧ h = [sps 0 0, sps lo hi] ∧ 0 ≤ i ∧ i ≤ ps.length ∧ BestIs (HiOk ps m) (Go.Proofs.Ytkkjdodolnpfmaa.hi1 ps) (· ≥ ·) i.toNat hi g) (fun a _ => ps.length - (iAt a 10).toNat)
        (fr 86 [(0, .list 2 es), (1, .int .i64 m), (4, .ref 0 2 0 0), (6, .ref 1 2 0 0), (7, .bool f), (9, .bool false), (10, .int .i64 0)]) [sps 0 0, sps lo 0] (by (refine Wk.ren id ?_ ?_ (fun i j _ _ e => e); (focus (repeat' (first | exact wkL_nil | exact wkAny | refine wkL_cons ?_ ?_ | exact wk0 rfl rfl | exact wkRef rfl rfl | exact wkSl rfl rfl | exact wkSlR rfl rfl rfl | exact wkSlR rfl rfl (by assumption) | exact wkI (by assumption) | exact wkU (by assumption)))); (repeat' (first | exact wkH_nil | refine wkH_cons rfl rfl rfl ?_ | refine wkH_up rfl (by assumption) ?_)))) ⟨0, 0, false, rfl, rfl, by omega, by omega, best_start⟩ ?_
      rintro a h ⟨hi, i, g, rfl, rfl, hi0, hi1, hk⟩ w hw Q' hN hE hR'
      have hi1 : i ≤ ps.length := hi1
      generalize hM : ps.length - (iAt (fr 86 [(0, .list 2 es), (1, .int .i64 m), (4, .ref 0 2 0 0), (6, .ref 1 2 0 0), (7, .bool f), (9, .bool g), (10, .int .i64 i)]) 10).toNat = M at hN
      cbv
      split <;> rename_i hc <;> rw [hw] at hc <;> simp only [std, binStd, cmpStd, unStd, scmpStd, maxI, Bool.not_eq_true', Bool.not_eq_false', decide_eq_true_eq, decide_eq_false_iff_not, Int.not_lt, Int.not_le, if_true, if_false, Bool.false_eq_true, beq_iff_eq, bne_iff_ne, ne_eq, Bool.not_eq_eq_eq_not, Bool.not_true, Bool.not_false, beq_eq_false_iff_ne, bne_eq_false_iff_eq, Int.ofNat_eq_natCast] at hc
      · have hc' : i < ps.length := by rw [hes] at hc; simpa [std, spRows] using hc
        obtain ⟨l, u, hp, hr⟩ := get_sp ps i hi0 hc'
        have ei : w.1 .add .i64 i 1 = i + 1 := by rw [hw]; exact add64 (by omega) (by omega)
        refine Idx.mk [.int .i64 l, .int .i64 u] hi0 (by rw [hes]; exact hr) ?_
        cbv
        obtain ⟨c, hcc⟩ : ∃ c : Int, c = (cnt u ps : Int) := ⟨_, rfl⟩
        refine QCal.stepE (by rw [← hP]; exact e_Many' ps es hes u c hcc hlen) (by exact Bool.and_eq_true_iff.mpr ⟨hu, rfl⟩) ?_
        cbv
        repeat' (first
          | (split <;> rename_i h <;> rw [hw] at h <;> (try (simp only [std, binStd, cmpStd, unStd, scmpStd, maxI, Bool.not_eq_true', Bool.not_eq_false', decide_eq_true_eq, decide_eq_false_iff_not, Int.not_lt, Int.not_le, if_true, if_false, Bool.false_eq_true, beq_iff_eq, bne_iff_ne, ne_eq, Bool.not_eq_eq_eq_not, Bool.not_true, Bool.not_false, beq_eq_false_iff_ne, bne_eq_false_iff_eq, Int.ofNat_eq_natCast] at h)))
          | (refine Idx.mk [.int .i64 l, .int .i64 u] hi0 (by rw [hes]; exact hr) ?_; cbv))
        all_goals first
          | exact hN _ _ (fr 86 [(0, .list 2 es), (1, .int .i64 m), (4, .ref 0 2 0 0), (6, .ref 1 2 0 0), (7, .bool f), (9, .bool true), (10, .int .i64 (i + 1))]) [sps 0 0, sps lo u] (by (refine Wk.ren id ?_ ?_ (fun i j _ _ e => e); (focus (repeat' (first | exact wkL_nil | exact wkAny | refine wkL_cons ?_ ?_ | exact wk0 rfl rfl | exact wkRef rfl rfl | exact wkSl rfl rfl | exact wkSlR rfl rfl rfl | exact wkSlR rfl rfl (by assumption) | exact wkI (by assumption) | exact wkU (by assumption)))); (repeat' (first | exact wkH_nil | refine wkH_cons rfl rfl rfl ?_ | refine wkH_up rfl (by assumption) ?_)))) ⟨_, _, _, rfl, rfl, by omega, by omega, hi_put hp hcc hk hi0 (by omega) (by first | exact .inl (by assumption) | exact .inr (by omega))⟩ (by rw [← hM]; exact meas hi0 hc')
          | exact hN _ _ (fr 86 [(0, .list 2 es), (1, .int .i64 m), (4, .ref 0 2 0 0), (6, .ref 1 2 0 0), (7, .bool f), (9, .bool g), (10, .int .i64 (i + 1))]) [sps 0 0, sps lo hi] (by (refine Wk.ren id ?_ ?_ (fun i j _ _ e => e); (focus (repeat' (first | exact wkL_nil | exact wkAny | refine wkL_cons ?_ ?_ | exact wk0 rfl rfl | exact wkRef rfl rfl | exact wkSl rfl rfl | exact wkSlR rfl rfl rfl | exact wkSlR rfl rfl (by assumption) | exact wkI (by assumption) | exact wkU (by assumption)))); (repeat' (first | exact wkH_nil | refine wkH_cons rfl rfl rfl ?_ | refine wkH_up rfl (by assumption) ?_)))) ⟨_, _, _, rfl, rfl, by omega, by omega, by first | exact hi_no hp hcc hk hi0 (by omega) | exact hi_keep hp hk hi0 (by assumption) (by omega)⟩ (by rw [← hM]; exact meas hi0 hc')
      · refine hE _ _ _ ?_
        cbv
        have e : i.toNat = ps.length := by rw [hes] at hc; exact end_i hi0 hi1 hc
        rw [e] at hk
        cases f <;> exact ⟨_, Vw.same rfl, hR _ ⟨_, _, _, _, _, rfl, hn, hk, rfl⟩⟩
end Go.Proofs.Ytkkjdodolnpfmaa
