/- Lists that are built row by row. -/
import Derived.Test.YtfonjmhnokailaaNums
import Derived.Test.YtfonjmhnokailaaEng31
set_option linter.unusedVariables false
namespace Go.Proofs.Ytfonjmhnokailaa
open Go Go.RowKit Go.Eng
/-- Where a list is being built, row by row. -/
inductive Bd where
  | start
  | more (i : Int) (n : Nat) (fs : List (List AV))
def Bd.Ok (es : List (List AV)) : Bd → Prop
  | .start => True
  | .more i n fs => 0 < i ∧ i.toNat ≤ es.length ∧ fs = es.take i.toNat ∧ n = fs.length ∧ Up0 fs
def Bd.left (es : List (List AV)) : Bd → Nat
  | .start => es.length
  | .more i _ _ => es.length - i.toNat
theorem up_take {es : List (List AV)} (h : Up0 es) (n : Nat) : Up0 (es.take n) := by
  obtain ⟨h⟩ := h
  refine ⟨?_⟩
  induction es generalizing n with
  | nil => simpa using h
  | cons e t ih =>
    cases n with
    | zero => rfl
    | succ n =>
      simp only [uptoLL, Bool.and_eq_true] at h
      simp only [List.take_succ_cons, uptoLL, Bool.and_eq_true]
      exact ⟨h.1, ih n h.2⟩
theorem take_row {es : List (List AV)} {i : Int} {row : List AV} (h0 : 0 ≤ i) (hr : es[i.toNat]? = some row) : es.take (i + 1).toNat = es.take i.toNat ++ [row] := by
  rw [show (i + 1).toNat = i.toNat + 1 by omega, List.take_add_one, hr]; rfl
theorem up_map {D : Type} {f : D → List AV} (hf : ∀ d, uptoL 0 (f d) = true) (ds : List D) : Up0 (ds.map f) := by
  refine ⟨?_⟩
  induction ds with
  | nil => rfl
  | cons d t ih => exact Bool.and_eq_true_iff.mpr ⟨hf d, ih⟩
theorem get_map {D : Type} {f : D → List AV} {ds : List D} {i : Int} (h0 : 0 ≤ i) (h : i.toNat < ds.length) : ∃ d, ds[i.toNat]? = some d ∧ (ds.map f)[i.toNat]? = some (f d) := by
  have h1 := h
  exact ⟨ds[i.toNat], by rw [List.getElem?_eq_getElem h1], by simp [h1]⟩
end Go.Proofs.Ytfonjmhnokailaa
