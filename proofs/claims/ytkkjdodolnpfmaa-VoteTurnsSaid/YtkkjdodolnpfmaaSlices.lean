/- Slices that come in: what they hold, cell by cell. -/
import Derived.Test.YtkkjdodolnpfmaaGrow
import Derived.ProofKit
import Derived.Lib.SmallJoins
set_option linter.unusedVariables false
set_option linter.unusedSimpArgs false
namespace Go
open Go.RowKit Go.WideShapes
/-- A slice value whose n elements, 'size' cells each, lie below block B: 'xs i j' is cell j of element i. -/
def Sl (w : World) (B size n : Nat) (v : Value) (xs : Nat → Nat → Value) : Prop :=
  ∃ A c, v = .slice A n c ∧ n ≤ c ∧ c ≤ maxLen ∧ (0 < n → ∃ b off, A = some ⟨b, off, none⟩ ∧ b < B ∧ ∀ i, i < n → ∀ j, j < size → w.cell? ⟨b, off + (i * size + j), none⟩ = some (xs i j))
theorem Sl.below {w w' : World} {B size n : Nat} {v : Value} {xs : Nat → Nat → Value} (h : Sl w B size n v xs) (hb : Below B w w') : Sl w' B size n v xs := by
  obtain ⟨A, c, h1, h2, h3, h4⟩ := h
  refine ⟨A, c, h1, h2, h3, fun hn => ?_⟩
  obtain ⟨b, off, e, hB, hc⟩ := h4 hn
  exact ⟨b, off, e, hB, fun i hi j hj => (hb.cell (p := ⟨b, _, none⟩) hB).trans (hc i hi j hj)⟩
theorem Sl.mono_block {w : World} {B B' size n : Nat} {v : Value} {xs : Nat → Nat → Value} (h : Sl w B size n v xs) (hB : B ≤ B') : Sl w B' size n v xs := by
  obtain ⟨A, c, h1, h2, h3, h4⟩ := h
  refine ⟨A, c, h1, h2, h3, fun hn => ?_⟩
  obtain ⟨b, off, e, hb, hc⟩ := h4 hn
  exact ⟨b, off, e, Nat.lt_of_lt_of_le hb hB, hc⟩
theorem Sl.congr {w : World} {B size n : Nat} {v : Value} {xs ys : Nat → Nat → Value} (h : Sl w B size n v xs) (he : ∀ i, i < n → ∀ j, j < size → xs i j = ys i j) : Sl w B size n v ys := by
  obtain ⟨A, c, h1, h2, h3, h4⟩ := h
  refine ⟨A, c, h1, h2, h3, fun hn => ?_⟩
  obtain ⟨b, off, e, hB, hc⟩ := h4 hn
  exact ⟨b, off, e, hB, fun i hi j hj => by rw [hc i hi j hj, he i hi j hj]⟩
theorem add_none (b off n : Nat) : (⟨b, off, none⟩ : Addr).add n = ⟨b, off + n, none⟩ := by
  unfold Addr.add
  by_cases h : n = 0 <;> simp [h]
theorem add_spot (a : Addr) (n : Nat) (h : a.spot = none) : a.add n = ⟨a.block, a.off + n, none⟩ := by
  obtain ⟨b, off, s⟩ := a
  simp only at h
  subst h
  exact add_none b off n
/-- A slice that comes in, of whatever element type: each element's cells read by 'R'. -/
theorem open_sl {H : Type} {enc : TypeId × Value → H} {P : Program} {w : World} {b0 : Nat} {spare : Nat → Bool} {held : Bool} {r : Reach} {t e size : Nat} {v : Value} {d : DataW H} {p : List MemPlace}
    (ht : P.underlying t = some (.slice e)) (hC : P.cellsOf e = size) (hs : 0 < size) (R : List Value → Prop)
    (hR : ∀ fuel cs y, DataW.trod enc P w 0 spare held fuel e cs = some y → R cs)
    (hv : Value.okWide P w r b0 t v) (h : DataW.Trod enc P w 0 spare held t v d p) :
    ∃ n xs, Sl w w.heap.size size n v xs ∧ ∀ i, i < n → R ((List.range size).map (xs i)) := by
  obtain ⟨A, len, cap, rfl⟩ := okWide_slice ht hv
  obtain ⟨fuel, hf⟩ := h
  rcases DataW.trod_slice ht hf with ⟨hcs, _⟩ | ⟨a, len', cap', elems, rest, m, _, hcs, _, _, hl, hm, hel, hi, _⟩
  · simp [Value.cells] at hcs
    obtain ⟨rfl, rfl, rfl⟩ := hcs
    exact ⟨0, fun _ _ => undef, ⟨none, 0, rfl, Nat.le_refl _, Nat.zero_le _, fun h => absurd h (by omega)⟩, fun i hi => absurd hi (by omega)⟩
  · simp [Value.cells] at hcs
    obtain ⟨rfl, rfl, rfl⟩ := hcs
    rw [hC] at hi
    have hex : ∀ i, ∃ cs : List Value, i < len → w.cells? 0 (a.add (i * size)) size = some cs ∧ R cs := by
      intro i
      by_cases h : i < len
      · have h1 := hi i h
        rw [List.getElem?_eq_getElem (by omega)] at h1
        obtain ⟨cs, h2, h3⟩ := Option.bind_eq_some_iff.1 h1
        exact ⟨cs, fun _ => ⟨h2, hR _ _ _ h3⟩⟩
      · exact ⟨[], fun h' => absurd h' h⟩
    obtain ⟨f, hf2⟩ := Classical.axiomOfChoice hex
    have cell : ∀ i, i < len → ∀ j, j < size → w.cell? ((a.add (i * size)).add j) = some ((f i).getD j undef) := by
      intro i hi j hj
      obtain ⟨h1, _⟩ := hf2 i hi
      obtain ⟨_, h2, h3⟩ := World.cells?_some h1
      rw [h3 j hj, List.getD_eq_getElem?_getD, List.getElem?_eq_getElem (by omega)]
      rfl
    refine ⟨len, fun i j => (f i).getD j undef, ⟨some a, cap, rfl, hl, hm, fun hn => ?_⟩, fun i hi => ?_⟩
    · have hsp : a.spot = none := by
        have h := cell 0 hn 0 hs
        have := World.cell?_spot h
        simpa [Addr.add] using this
      have hb : a.block < w.heap.size := by
        have := World.block_lt_of_cell? w _ (cell 0 hn 0 hs)
        simpa [Addr.add] using this
      refine ⟨a.block, a.off, by obtain ⟨b, o, s⟩ := a; simp only at hsp; rw [hsp], hb, fun i hi j hj => ?_⟩
      have h := cell i hi j hj
      rw [add_spot a _ hsp, add_none, Nat.add_assoc] at h
      exact h
    · obtain ⟨h1, h2⟩ := hf2 i hi
      obtain ⟨_, h3, _⟩ := World.cells?_some h1
      have e : (List.range size).map (fun j => (f i).getD j undef) = f i := by
        apply List.ext_getElem
        · simp [h3]
        · intro j hj1 hj2
          simp [List.getD_eq_getElem?_getD, hj2]
      rw [e]
      exact h2
end Go
