/- The engine: cells stored into a row of which only what lies behind its end is kept. -/
import Derived.Test.YtdjafcjpnjdphaaDoorEng5
set_option linter.unusedVariables false
set_option linter.unusedSimpArgs false
namespace Go.Eng
open Go Go.RowKit
/-- Cells are stored into a row of which nothing is kept but what lies behind its end. -/
theorem run_storeF (P : Program) (g off : Nat) (t : TypeId) (fz : Nat × Nat) : ∀ (news : List Value) (i : Nat) (cur : Array Value) (w : World), w.heap[g]? = some (.cells cur t fz) → FzOk cur fz → off + i + news.length ≤ cur.size → (∀ v ∈ news, v.oneCell' = true) →
    (storeCells ⟨g, off, none⟩ news i).run P w = .ok () (w.setRow g (cur.toList.take (off + i) ++ news ++ cur.toList.drop (off + i + news.length)).toArray)
  | [], i, cur, w, hg, _, _, _ => by
    have hs : w.setRow g cur = w := setRow_self w g cur t fz hg
    simp only [storeCells, List.append_nil, List.length_nil, Nat.add_zero, List.take_append_drop, Array.toArray_toList, hs]
    rfl
  | v :: news, i, cur, w, hg, hf, hl, h1 => by
    simp only [List.length_cons] at hl
    have hi : off + i < cur.size := by omega
    have hadd : (⟨g, off, none⟩ : Addr).add i = ⟨g, off + i, none⟩ := by unfold Addr.add; split <;> simp_all
    have hfro : w.frozen? ⟨g, off + i, none⟩ = false := by
      obtain ⟨a, b⟩ := fz
      unfold FzOk at hf
      simp only at hf
      simp only [World.frozen?, hg, Bool.and_eq_false_iff, decide_eq_false_iff_not]
      omega
    have hst : (store ((⟨g, off, none⟩ : Addr).add i) v).run P w = .ok () (w.setRow g (cur.setIfInBounds (off + i) v)) := by
      rw [hadd, run_store P w _ v _ (h1 v (by simp)), show w.cell? ⟨g, off + i, none⟩ = some cur[off + i] by simp [World.cell?, hg, hi]]
      simp [hfro, setCell_eq_setRow w g (off + i) cur t fz v hg]
    have hf' : FzOk (cur.setIfInBounds (off + i) v) fz := by unfold FzOk at hf ⊢; simpa using hf
    have ih := run_storeF P g off t fz news (i + 1) (cur.setIfInBounds (off + i) v) (w.setRow g (cur.setIfInBounds (off + i) v)) (setRow_heap w g cur _ t _ hg) hf' (by simp; omega) (fun x hx => h1 x (by simp [hx]))
    simp only [storeCells, Sem.run_bind, hst, Result.andThen_ok, ih, setRow_setRow]
    congr 2
    have e := list_seg_step cur.toList (off + i) v news (by simp; omega)
    simp only [Array.toList_setIfInBounds, List.length_cons]
    rw [show off + (i + 1) = off + i + 1 by omega]
    simpa [Nat.add_assoc, Nat.add_comm, Nat.add_left_comm] using congrArg List.toArray e
end Go.Eng
