/- Spans that come in. -/
import Derived.Test.YtkkjdodolnpfmaaVoteSafe
import Derived.Test.YtkkjdodolnpfmaaSlices
import Derived.ProofKit
import Derived.ChangeSame
import Derived.Lib.SmallJoins
set_option linter.unusedVariables false
set_option linter.unusedSimpArgs false
namespace Go.Proofs.Ytkkjdodolnpfmaa
open Go.RowKit Go.Joins Go.ChangeShapes Go.WideShapes
theorem cells_span : Try.prog.cellsOf 42 = 2 := by kernel_rfl
theorem cells_i64 : Try.prog.cellsOf 2 = 1 := by kernel_rfl
theorem span_cells {H : Type} {enc : TypeId × Value → H} {w : World} {base fuel : Nat} {spare : Nat → Bool} {held : Bool} {cs : List Value} {y : DataW H × List MemPlace}
    (h : DataW.trod enc Try.prog w base spare held fuel 42 cs = some y) : ∃ p : Int × Int, cs = [.int .i64 p.1, .int .i64 p.2] ∧ I64 p.1 ∧ I64 p.2 := by
  obtain ⟨y0, y1, m, _, hl, h0, h1⟩ := trod_struct2 Try.underlying42 h
  rw [cells_span] at hl
  simp only [cells_i64] at h0 h1
  match cs, hl with
  | [c0, c1], _ =>
    obtain ⟨l, e0, _, w0⟩ := DataW.trod_int Try.underlying2 h0
    obtain ⟨s, e1, _, w1⟩ := DataW.trod_int Try.underlying2 h1
    simp at e0 e1
    subst e0 e1
    exact ⟨(l, s), rfl, bd_i64 w0, bd_i64 w1⟩
set_option maxRecDepth 100000 in
theorem open_spans {H : Type} {enc : TypeId × Value → H} {w : World} {b0 : Nat} {spare : Nat → Bool} {held : Bool} {r : Reach} {v : Value} {d : DataW H} {p : List MemPlace}
    (hv : Value.okWide Try.prog w r b0 40 v) (h : DataW.Trod enc Try.prog w 0 spare held 40 v d p) :
    ∃ n, ∃ a b : Nat → Int, Sl w w.heap.size 2 n v (spx a b) ∧ ∀ i, i < n → I64 (a i) ∧ I64 (b i) := by
  obtain ⟨n, xs, h1, h2⟩ := open_sl (size := 2) Try.underlying40 (by kernel_rfl) (by omega) (fun cs => ∃ p : Int × Int, cs = [.int .i64 p.1, .int .i64 p.2] ∧ I64 p.1 ∧ I64 p.2)
    (fun fuel cs y hy => span_cells hy) hv h
  have hex : ∀ i, ∃ z : Int × Int, i < n → (xs i 0 = .int .i64 z.1 ∧ xs i 1 = .int .i64 z.2) ∧ I64 z.1 ∧ I64 z.2 := by
    intro i
    by_cases hi : i < n
    · obtain ⟨z, e, hz⟩ := h2 i hi
      exact ⟨z, fun _ => ⟨by simpa [List.range, List.range.loop] using e, hz⟩⟩
    · exact ⟨(0, 0), fun h => absurd h hi⟩
  obtain ⟨z, hz⟩ := Classical.axiomOfChoice hex
  refine ⟨n, fun i => (z i).1, fun i => (z i).2, h1.congr fun i hi j hj => ?_, fun i hi => (hz i hi).2⟩
  have : j = 0 ∨ j = 1 := by omega
  rcases this with rfl | rfl
  · exact (hz i hi).1.1
  · exact (hz i hi).1.2
end Go.Proofs.Ytkkjdodolnpfmaa
