/- Slices that the call has built itself. -/
import Derived.Test.YtkkjdodolnpfmaaSlices
import Derived.Maps.AppendAt
import Derived.OwnWalk
set_option linter.unusedVariables false
set_option linter.unusedSimpArgs false
namespace Go
open Go.RowKit
theorem ownsRow_below {w w' : World} {B base size n : Nat} {e : TypeId} {v : Value} {xs : List Value} (h : w.ownsRow base e size v n xs) (hb : Below B w w') (hB : w.heap.size ≤ B) : w'.ownsRow base e size v n xs := by
  refine ⟨h.1, ?_⟩
  rcases h.2 with hn | ⟨g, cap, cur, hv, hba, hg, rest⟩
  · exact .inl hn
  · refine .inr ⟨g, cap, cur, hv, hba, ?_, rest⟩
    have hlt : g < w.heap.size := by
      rcases Nat.lt_or_ge g w.heap.size with h | h
      · exact h
      · rw [Array.getElem?_eq_none h] at hg; cases hg
    rw [hb.block g (by omega)]; exact hg
theorem sl_of_owns {w : World} {base size n : Nat} {e : TypeId} {v : Value} {xs : List Value} (h : w.ownsRow base e size v n xs) : Sl w w.heap.size size n v (fun i j => xs.getD (i * size + j) undef) := by
  obtain ⟨hl, ⟨rfl, rfl⟩ | ⟨g, cap, cur, rfl, hba, hg, h1, h2, h3, h4⟩⟩ := h
  · exact ⟨none, 0, rfl, Nat.le_refl _, Nat.zero_le _, fun h => absurd h (by omega)⟩
  · have hlt : g < w.heap.size := by
      rcases Nat.lt_or_ge g w.heap.size with h | h
      · exact h
      · rw [Array.getElem?_eq_none h] at hg; cases hg
    refine ⟨_, _, rfl, h1, h2, fun hn => ⟨g, 0, rfl, hlt, fun i hi j hj => ?_⟩⟩
    have hk : i * size + j < n * size := by
      have : (i + 1) * size ≤ n * size := Nat.mul_le_mul_right size hi
      rw [Nat.add_mul] at this; omega
    have hk2 : n * size ≤ cur.size := by rw [h3]; exact Nat.mul_le_mul_right size h1
    have e1 : w.cell? ⟨g, 0 + (i * size + j), none⟩ = cur[i * size + j]? := by
      simp [World.cell?, hg]
    rw [e1, ← h4]
    simp [List.getD_eq_getElem?_getD, List.getElem?_take, hk, Array.getElem?_eq_getElem (show i * size + j < cur.size by omega)]
end Go
