/- The rule for a statement that leaves its order open, with two new variables. -/
import Derived.Test.YtcbncliplbecdaaWalkr
set_option linter.unusedVariables false
set_option linter.unusedSimpArgs false
namespace Go
open Go.RowKit
theorem allLt_mono {m m' : Nat} (hmm : m ≤ m') : ∀ {bs : List Nat}, AllLt m bs → AllLt m' bs
  | [], _ => trivial
  | _ :: _, ⟨h, hs⟩ => ⟨Nat.lt_of_lt_of_le h hmm, allLt_mono hmm hs⟩
theorem wp_region_walk2 {P : Program} {id : Nat} {Q : Exit → Act → World → Prop} {a0 : Act} {w0 : World} {l : List Oper} (n : Nat) (cs1 : Array Value) (T1 : TypeId) (cs2 : Array Value) (T2 : TypeId) (bs : List Nat) (d1 d2 : Tmp) (af : Act)
    (hm : P.follows .mixedOrders = true)
    (hB : (ordB l.toArray (n + 2) && dstB l.toArray (n + 2) && (decide (n + 2 = l.length) || (decide (n + 2 < l.length) && Region.sinkB .any l.toArray (n + 2) && Region.chainB .any l.toArray (n + 2)))
      && Region.seqB .any l.toArray (l.length - (n + 2)) (n + 2) (List.replicate (n + 2) true ++ List.replicate (l.length - (n + 2)) false).toArray && (l.take (n + 2)).all fun o => o.dst.all fun d => decide (d < a0.tmps.size)) = true)
    (hR : (readsB l.toArray n (n + 2) && Region.noSelect l.toArray) = true)
    (hbs : AllLt w0.heap.size bs) (hd1 : (l[n]?).bind (·.dst) = some d1) (hd2 : (l[n + 1]?).bind (·.dst) = some d2)
    (H : AllKept w0 bs → ∀ y : Ext, AllKept (w0.grow y) bs → wpQuiet P l.toArray (fun w' => ∃ x, w' = (w0.grow y).grow x) (fun a' => a' = af) (l.take n) a0)
    (hal1 : ∀ o, l[n]? = some o → ∀ (a : Act) (w : World) (K : Act → World → Prop), K (a.put o.dst (.pointer (some ⟨w.heap.size, 0, none⟩))) (w.alloc (.cells cs1 T1)) → o.wp P a w K Q)
    (hal2 : ∀ o, l[n + 1]? = some o → ∀ (a : Act) (w : World) (K : Act → World → Prop), K (a.put o.dst (.pointer (some ⟨w.heap.size, 0, none⟩))) (w.alloc (.cells cs2 T2)) → o.wp P a w K Q)
    (hend : AllKept w0 bs → ∀ (b c : Nat) (y : Ext), w0.heap.size ≤ b → b < (w0.grow y).heap.size → w0.heap.size ≤ c → c < (w0.grow y).heap.size → b ≠ c → c ≠ b → (∀ i, (w0.grow y).cell? ⟨b, i, none⟩ = cs1[i]?) → (∀ i, (w0.grow y).frozen? ⟨b, i, none⟩ = false) →
      (∀ i, (w0.grow y).cell? ⟨c, i, none⟩ = cs2[i]?) → (∀ i, (w0.grow y).frozen? ⟨c, i, none⟩ = false) →
      wpList P l.toArray Q (l.drop (n + 2)) ((af.put (some d1) (.pointer (some ⟨b, 0, none⟩))).put (some d2) (.pointer (some ⟨c, 0, none⟩))) (w0.grow y)) :
    (Code.region id l.toArray true).wp P Q a0 w0 := by
  refine wp_region_walk n 2 (fun j => if j = 0 then .cells cs1 T1 else .cells cs2 T2) af hm hB hR (fun y => H (allKept hbs) y (allKept (allLt_mono (by simp) hbs))) ?_ ?_
  · intro j o hj ho a w K hK
    rcases (show j = 0 ∨ j = 1 by omega) with rfl | rfl
    · exact hal1 o (by simpa using ho) a w K hK
    · exact hal2 o (by simpa using ho) a w K hK
  · intro b y hb hap
    obtain ⟨h1, h2⟩ := hb 0 (by omega)
    obtain ⟨h3, h4⟩ := hb 1 (by omega)
    have hn := hap 0 1 (by omega) (by omega) (by omega)
    have lt : ∀ k o, (w0.grow y).heap[k]? = some o → k < (w0.grow y).heap.size := by
      intro k o h
      refine Classical.byContradiction fun hh => ?_
      rw [Array.getElem?_eq_none (by omega)] at h
      cases h
    have ex : ∀ (i : Nat) (d : Tmp), (l[i]?).bind (fun o : Oper => o.dst) = some d → ∃ o, l[i]? = some o ∧ o.dst = some d := by
      intro i d hd
      cases h : l[i]? with
      | none => rw [h] at hd; cases hd
      | some o => rw [h] at hd; exact ⟨o, rfl, hd⟩
    obtain ⟨o1, ho1, ho1'⟩ := ex _ _ hd1
    obtain ⟨o2, ho2, ho2'⟩ := ex _ _ hd2
    have e : (l.drop n).take 2 = [o1, o2] := by
      obtain ⟨hi, rfl⟩ := List.getElem?_eq_some_iff.1 ho1
      obtain ⟨hi2, rfl⟩ := List.getElem?_eq_some_iff.1 ho2
      rw [List.drop_eq_getElem_cons hi, List.take_succ_cons, List.drop_eq_getElem_cons hi2]
      rfl
    have := hend (allKept hbs) (b n) (b (n + 1)) y h1 (lt _ _ h2) h3 (lt _ _ h4) hn (fun e => hn e.symm) (cell_of_block h2) (frozen_of_block h2) (cell_of_block h4) (frozen_of_block h4)
    rw [e]
    unfold allocsPut allocsPut allocsPut
    rw [ho1', ho2']
    exact this
end Go
