/- The engine, part 28: what a type says of a value, cell by cell, reckoned off the program. -/
import Derived.Test.YtdjafcjpnjdphaaDoorEng23
set_option linter.unusedVariables false
set_option linter.unusedSimpArgs false
namespace Go.Eng
open Go Go.RowKit Go.WideShapes
/-- What a cell holds. -/
inductive Sh where
  | bool
  | int (k : IntKind)
  | str
  | list (z : Nat) (row : List Sh)
mutual
def Sh.Ok : Sh → AV → Prop
  | .bool, x => ∃ b, x = .bool b
  | .int k, x => ∃ n, x = .int k n ∧ (Lit.int k n).wf = true
  | .str, x => ∃ s : ByteArray, x = .str s ∧ s.size ≤ maxS
  | .list z row, x => ∃ es, x = .list z es ∧ es.length ≤ maxS ∧ ∀ r, r ∈ es → OkL row r
def OkL : List Sh → List AV → Prop
  | [], xs => xs = []
  | s :: l, xs => ∃ x y, xs = x :: y ∧ s.Ok x ∧ OkL l y
end
def shFs (P : Program) (g : TypeId → Option (List Sh)) : List Field → Option (List Sh)
  | [] => some []
  | f :: fs => match g f.type, shFs P g fs with
    | some a, some b => if a.length = P.cellsOf f.type then some (a ++ b) else none
    | _, _ => none
def shN (a : List Sh) : Nat → List Sh
  | 0 => []
  | n + 1 => a ++ shN a n
def shOf (P : Program) : Nat → TypeId → Option (List Sh)
  | 0, _ => none
  | m + 1, t =>
    match P.underlying t with
    | some .bool => some [.bool]
    | some (.int k) => some [.int k]
    | some .string => some [.str]
    | some (.struct fs) => if tiles P 0 fs.toList = some (P.cellsOf t) then shFs P (shOf P m) fs.toList else none
    | some (.array n e) => (match shOf P m e with | some a => if a.length = P.cellsOf e ∧ P.cellsOf t = n * P.cellsOf e then some (shN a n) else none | none => none)
    | some (.slice e) => (match shOf P m e with | some a => some [.list (P.cellsOf e) a] | none => none)
    | _ => none
theorem OkL.app {a b : List Sh} : ∀ {x y : List AV}, OkL a x → OkL b y → OkL (a ++ b) (x ++ y) := by
  induction a with
  | nil => intro x y h1 h2; unfold OkL at h1; subst h1; exact h2
  | cons s l ih =>
    intro x y h1 h2
    unfold OkL at h1
    obtain ⟨x0, y0, rfl, h3, h4⟩ := h1
    rw [List.cons_append, List.cons_append]
    unfold OkL
    exact ⟨x0, y0 ++ y, rfl, h3, ih h4 h2⟩
theorem OkL.one {s : Sh} {x : AV} (h : s.Ok x) : OkL [s] [x] := by
  unfold OkL; exact ⟨x, [], rfl, h, by unfold OkL; rfl⟩
theorem OkL.of_one {s : Sh} {x : AV} (h : OkL [s] [x]) : s.Ok x := by
  unfold OkL at h
  obtain ⟨y, z, e, h1, h2⟩ := h
  simp at e
  rw [e.1]; exact h1
theorem shFs_ok {P : Program} {m : Nat} (ih : ∀ t l xs, shOf P m t = some l → TyL P m t xs → OkL l xs) {xs : List AV} : ∀ (fs : List Field) (o k : Nat) (l : List Sh), tiles P o fs = some k → k = xs.length → shFs P (shOf P m) fs = some l → (∀ f, f ∈ fs → TyL P m f.type ((xs.drop f.offset).take (P.cellsOf f.type))) → OkL l (xs.drop o)
  | [], o, k, l, ht, hk, hs, hall => by
    simp only [tiles, Option.some.injEq] at ht
    simp only [shFs, Option.some.injEq] at hs
    subst hs
    rw [List.drop_eq_nil_of_le (by omega)]
    unfold OkL; rfl
  | f :: fs, o, k, l, ht, hk, hs, hall => by
    simp only [tiles] at ht
    split at ht
    · rename_i hfo
      simp only [shFs] at hs
      split at hs
      · rename_i a b ha hb
        split at hs
        · rename_i hl
          simp only [Option.some.injEq] at hs
          subst hs
          have h1 := ih _ _ _ ha (hall f (List.mem_cons_self ..))
          have h2 := shFs_ok ih fs _ k b ht hk hb (fun g hg => hall g (List.mem_cons_of_mem _ hg))
          have hcut : xs.drop o = (xs.drop o).take (P.cellsOf f.type) ++ xs.drop (o + P.cellsOf f.type) := by
            rw [← List.drop_drop, List.take_append_drop]
          rw [hcut]
          rw [hfo] at h1
          exact h1.app h2
        · cases hs
      · cases hs
    · cases ht
theorem shN_ok {a : List Sh} {z : Nat} {xs : List AV} : ∀ (n o : Nat), xs.length = (o + n) * z → (∀ i, i < n → OkL a ((xs.drop ((o + i) * z)).take z)) → OkL (shN a n) (xs.drop (o * z))
  | 0, o, hl, h => by
    rw [List.drop_eq_nil_of_le (by simp at hl; omega)]
    unfold shN OkL; rfl
  | n + 1, o, hl, h => by
    have h1 := h 0 (by omega)
    rw [Nat.add_zero] at h1
    have h2 := shN_ok (a := a) (z := z) (xs := xs) n (o + 1) (by rw [hl]; congr 1; omega) (fun i hi => by have := h (i + 1) (by omega); rwa [show o + (i + 1) = o + 1 + i by omega] at this)
    have hcut : xs.drop (o * z) = (xs.drop (o * z)).take z ++ xs.drop ((o + 1) * z) := by
      rw [Nat.succ_mul, ← List.drop_drop, List.take_append_drop]
    rw [hcut]
    exact h1.app h2
theorem shOf_ok {P : Program} : ∀ (m : Nat) (t : TypeId) (l : List Sh) (xs : List AV), shOf P m t = some l → TyL P m t xs → OkL l xs
  | 0, t, l, xs, hs, h => by simp [shOf] at hs
  | m + 1, t, l, xs, hs, h => by
    unfold TyL at h
    unfold shOf at hs
    split at hs
    · rename_i hu
      rw [hu] at h
      obtain ⟨b, rfl⟩ := h
      simp only [Option.some.injEq] at hs
      subst hs
      exact .one (by unfold Sh.Ok; exact ⟨b, rfl⟩)
    · rename_i k hu
      rw [hu] at h
      obtain ⟨b, rfl, hb⟩ := h
      simp only [Option.some.injEq] at hs
      subst hs
      exact .one (by unfold Sh.Ok; exact ⟨b, rfl, hb⟩)
    · rename_i hu
      rw [hu] at h
      obtain ⟨b, rfl, hb⟩ := h
      simp only [Option.some.injEq] at hs
      subst hs
      exact .one (by unfold Sh.Ok; exact ⟨b, rfl, hb⟩)
    · rename_i fs hu
      rw [hu] at h
      obtain ⟨hl, hf⟩ := h
      split at hs
      · rename_i ht
        have := shFs_ok (shOf_ok m) (xs := xs) fs.toList 0 _ l ht hl.symm hs hf
        rwa [List.drop_zero] at this
      · cases hs
    · rename_i n e hu
      rw [hu] at h
      obtain ⟨hl, hf⟩ := h
      split at hs
      · rename_i a ha
        split at hs
        · rename_i hc
          simp only [Option.some.injEq] at hs
          subst hs
          have := shN_ok (a := a) (z := P.cellsOf e) (xs := xs) n 0 (by rw [Nat.zero_add, hl, hc.2]) (fun i hi => by rw [Nat.zero_add]; exact shOf_ok m e a _ ha (hf i hi))
          rwa [Nat.zero_mul, List.drop_zero] at this
        · cases hs
      · cases hs
    · rename_i e hu
      rw [hu] at h
      obtain ⟨es, rfl, hl, hr⟩ := h
      split at hs
      · rename_i a ha
        simp only [Option.some.injEq] at hs
        subst hs
        exact .one (by unfold Sh.Ok; exact ⟨es, rfl, hl, fun r hrr => shOf_ok m e a _ ha (hr r hrr)⟩)
      · cases hs
    · cases hs
theorem TyV.agg {P : Program} {m : Nat} {t : TypeId} {x : AV} {l : List Sh} (h : TyV P m t x) (ha : aggOf P t = some true) (hs : shOf P m t = some l) : ∃ cs, x = .agg cs ∧ OkL l cs := by
  unfold TyV at h
  rw [ha] at h
  obtain ⟨cs, rfl, h⟩ := h
  exact ⟨cs, rfl, shOf_ok m t l cs hs h⟩
theorem TyV.one {P : Program} {m : Nat} {t : TypeId} {x : AV} {s : Sh} (h : TyV P m t x) (ha : aggOf P t = some false) (hs : shOf P m t = some [s]) : s.Ok x := by
  unfold TyV at h
  rw [ha] at h
  exact (shOf_ok m t [s] [x] hs h).of_one
theorem rows_of {D : Type} {f : D → List AV} {es : List (List AV)} (h : ∀ r, r ∈ es → ∃ d, r = f d) : ∃ ds : List D, es = ds.map f := by
  induction es with
  | nil => exact ⟨[], rfl⟩
  | cons r t ih =>
    obtain ⟨ps, rfl⟩ := ih fun r hr => h r (List.mem_cons_of_mem _ hr)
    obtain ⟨d, rfl⟩ := h r (List.mem_cons_self ..)
    exact ⟨d :: ps, rfl⟩
theorem rows_with {D : Type} {f : D → List AV} {p : D → Prop} {es : List (List AV)} (h : ∀ r, r ∈ es → ∃ d, r = f d ∧ p d) : ∃ ds : List D, es = ds.map f ∧ ∀ d, d ∈ ds → p d := by
  induction es with
  | nil => exact ⟨[], rfl, fun d hd => by cases hd⟩
  | cons r t ih =>
    obtain ⟨ps, rfl, hp⟩ := ih fun r hr => h r (List.mem_cons_of_mem _ hr)
    obtain ⟨d, rfl, hd⟩ := h r (List.mem_cons_self ..)
    exact ⟨d :: ps, rfl, fun e he => by rcases List.mem_cons.1 he with rfl | he; exact hd; exact hp e he⟩
end Go.Eng
