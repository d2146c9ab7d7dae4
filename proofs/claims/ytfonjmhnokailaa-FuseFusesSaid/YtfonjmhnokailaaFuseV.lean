/- What sensors say together: plain. -/
import Derived.Test.YtfonjmhnokailaaFuse2
set_option linter.unusedVariables false
namespace Go.Proofs.Ytfonjmhnokailaa
open Go Go.RowKit Go.Eng
/-- What is in two spans; none: no numbers. -/
def meetV (a b c d : Int) : Int × Int × Bool := if max a c ≤ min b d then (max a c, min b d, true) else (0, 0, false)
theorem e_meetX (a b c d l h : Int) (o : Bool) (e : meetV a b c d = (l, h, o)) : PCalls Try.prog 34 [sp2 a b, sp2 c d] (· = .tuple [sp2 l h, .bool o]) := by
  refine (e_meet a b c d).mono ?_
  rintro r ⟨l', h', o', rfl, h5, h6, h7⟩
  unfold meetV at e
  split at e
  · rename_i hc
    simp only [Prod.mk.injEq] at e
    obtain ⟨rfl, rfl, rfl⟩ := e
    obtain rfl : o' = true := h5.2 ⟨rfl, rfl, hc⟩
    obtain ⟨rfl, rfl⟩ := h6 rfl
    rfl
  · rename_i hc
    simp only [Prod.mk.injEq] at e
    obtain ⟨rfl, rfl, rfl⟩ := e
    have : o' = false := by
      cases o' with
      | false => rfl
      | true => exact absurd (h5.1 rfl).2.2 hc
    subst this
    obtain ⟨rfl, rfl⟩ := h7 rfl
    rfl
/-- A speed, made narrower. -/
def narV (s : Int × Int × Bool) (a b : Int) : Int × Int × Bool := if max s.1 a ≤ min s.2.1 b then (max s.1 a, min s.2.1 b, s.2.2) else (s.1, s.2.1, true)
def nar1 (ok : Bool) (tl th : Int) (n : Int) (p0 p1 : Int) : Int × Int × Bool := if ok = true then narV (p0, p1, false) tl th else (p0, p1, decide (0 < n))
def nar2 (f : Bool) (a b : Int) (s : Int × Int × Bool) : Int × Int × Bool := if f = true then narV s a b else s
def slip1 (ok ag : Bool) (tl th a b : Int) : Int := if ok = true ∧ ag = false ∧ meetB tl th a b = false then slipV a b tl th else 0
structure TogIs (ps : List (Int × Int)) (tl th : Int) (ok ag : Bool) : Prop where
  it : (CommonIs (aOf ps) (bOf ps) ps.length tl th true ∧ ok = true ∧ ag = true) ∨ (∃ l h, CommonIs (aOf ps) (bOf ps) ps.length l h false ∧ ag = false ∧ (ps.length < 3 ∧ tl = 0 ∧ th = 0 ∧ ok = false ∨ 3 ≤ ps.length ∧ TwoIs (aOf ps) (bOf ps) (Pairs ps.length ps.length 0) tl th ok))
theorem tog_i64 {ps : List (Int × Int)} {tl th : Int} {ok ag : Bool} (h : TogIs ps tl th ok ag) (hI : ∀ i, i < ps.length → I64 (aOf ps i) ∧ I64 (bOf ps i)) (ho : ok = true) : I64 tl ∧ I64 th := by
  rcases h.it with ⟨h1, _, _⟩ | ⟨l, h', _, _, ⟨_, _, _, h4⟩ | ⟨h3, h4⟩⟩
  · obtain ⟨_, ⟨i, hi, e⟩, _, ⟨j, hj, f⟩, _⟩ := h1.yes rfl
    exact ⟨e ▸ (hI i hi).1, f ▸ (hI j hj).2⟩
  · rw [h4] at ho; cases ho
  · obtain ⟨⟨i, j, hp, _, e⟩, _⟩ := h4.lo_ ho
    obtain ⟨⟨i', j', hp', _, e'⟩, _⟩ := h4.hi_ ho
    have q : ∀ i j, Pairs ps.length ps.length 0 i j → i < ps.length ∧ j < ps.length := by intro i j; unfold Pairs; omega
    have a1 := (hI i (q _ _ hp).1).1
    have a2 := (hI j (q _ _ hp).2).1
    have a3 := (hI i' (q _ _ hp').1).2
    have a4 := (hI j' (q _ _ hp').2).2
    unfold I64 at *
    omega
theorem e_strays3 (t0 t1 a0 b0 a1 b1 : Int) : PCalls Try.prog 24 [sp2 t0 t1, .list 2 [[.int .i64 a0, .int .i64 b0], [.int .i64 a1, .int .i64 b1]]] (fun r => (r = .list 1 [] ∧ meetB t0 t1 a0 b0 = true ∧ meetB t0 t1 a1 b1 = true) ∨ (r = .list 1 [[.int .i64 0]] ∧ meetB t0 t1 a0 b0 = false ∧ meetB t0 t1 a1 b1 = true) ∨
    (r = .list 1 [[.int .i64 1]] ∧ meetB t0 t1 a0 b0 = true ∧ meetB t0 t1 a1 b1 = false) ∨ (r = .list 1 [[.int .i64 0], [.int .i64 1]] ∧ meetB t0 t1 a0 b0 = false ∧ meetB t0 t1 a1 b1 = false)) := by
  refine (e_strays2 t0 t1 a0 b0 a1 b1).mono ?_
  rintro r rfl
  cases meetB t0 t1 a0 b0 <;> cases meetB t0 t1 a1 b1 <;> simp
theorem nar_of_meet {a b c d l h : Int} {o : Bool} (e : meetV a b c d = (l, h, o)) (cf : Bool) : narV (a, b, cf) c d = if o = true then (l, h, cf) else (a, b, true) := by
  unfold meetV at e
  unfold narV
  split at e
  · rename_i hc
    simp only [Prod.mk.injEq] at e
    obtain ⟨rfl, rfl, rfl⟩ := e
    simp [hc]
  · rename_i hc
    simp only [Prod.mk.injEq] at e
    obtain ⟨rfl, rfl, rfl⟩ := e
    simp [hc]
theorem nar_of_max {a b c d l h : Int} {o : Bool} (cf : Bool) (e1 : max a c = l) (e2 : min b d = h) (e3 : meetB a b c d = o) : narV (a, b, cf) c d = if o = true then (l, h, cf) else (a, b, true) := by
  unfold narV
  rw [← e1, ← e2, ← e3]
  simp [meetB]
theorem meetB_comm (a b c d : Int) : meetB a b c d = meetB c d a b := by
  unfold meetB
  rw [Bool.eq_iff_iff]
  simp only [decide_eq_true_eq]
  omega
theorem tog_tt {ps : List (Int × Int)} {tl th : Int} {ok ag : Bool} (h : TogIs ps tl th ok ag) (ha : ag = true) : ok = true := by
  rcases h.it with ⟨_, h2, _⟩ | ⟨l, h', _, h2, _⟩
  · exact h2
  · rw [h2] at ha; cases ha
theorem tog_ft {ps : List (Int × Int)} {tl th : Int} {ok ag : Bool} (h : TogIs ps tl th ok ag) (hl : ps.length ≤ 3) (ha : ag = false) (ho : ok = true) : ps.length = 3 := by
  rcases h.it with ⟨_, _, h2⟩ | ⟨l, h', _, _, ⟨_, _, _, h2⟩ | ⟨h2, _⟩⟩
  · rw [h2] at ha; cases ha
  · rw [h2] at ho; cases ho
  · omega
theorem tog_0 {ps : List (Int × Int)} {tl th : Int} {ok ag : Bool} (h : TogIs ps tl th ok ag) (hl : ps.length = 0) : ag = false := by
  rcases h.it with ⟨h1, _, _⟩ | ⟨l, h', _, h2, _⟩
  · obtain ⟨_, ⟨i, hi, _⟩, _⟩ := h1.yes rfl; omega
  · exact h2
end Go.Proofs.Ytfonjmhnokailaa
