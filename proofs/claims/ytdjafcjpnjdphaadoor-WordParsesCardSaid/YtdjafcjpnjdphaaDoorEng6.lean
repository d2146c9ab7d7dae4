/- The engine, part 6: reading and writing, indexes, lengths. -/
import Derived.Test.YtdjafcjpnjdphaaDoorEngK
set_option linter.unusedVariables false
set_option linter.unusedSimpArgs false
namespace Go.Eng
open Go Go.RowKit
variable {P : Program} {o : Oper} {ev : AOpnd → AV} {h : AHeap}

theorem getD_get {α : Type} {l : List α} {i : Nat} (d : α) (hi : i < l.length) : l[i]? = some (l.getD i d) := by simp [List.getD_eq_getElem?_getD, hi]
theorem snd_load {t : TypeId} {a : Operand} {y : AOpnd} {g : Bool} {k : Nat} {K : Res → Prop} (ho : o.op = .load t a) (ha : cOpnd a = some y) (hg : aggOf P t = some g) (hk : szOf P t = some k) (hgk : g = true ∨ k = 1) (hk0 : 0 < k)
    (hK : vcOp (.load g k y) ev h K) : ∃ r, K r ∧ OSound P o ev h r := by
  simp only [vcOp] at hK
  split at hK
  · rename_i s z i off hy
    split at hK
    · rename_i z' es hs
      obtain ⟨⟨rfl, hi, hok⟩, hK⟩ := hK
      refine ⟨_, hK, OSound.val fun c e R hsub he => ?_⟩
      obtain ⟨hu, hv⟩ := (hy ▸ he a y ha : VR c _ (e a)).ref'
      obtain ⟨hz, _, hes, vs, ty, fz, hh, hfz, hsz, hvr⟩ := R.live s z' es (hsub _ _ _ hs) (by omega)
      have hrow : (es.getD i []).length = z' := hes _ (List.mem_of_getElem? (getD_get [] hi))
      have hlt := row_lt (i := i) (n := es.length) (z := z') hi (j := z' - 1) (by omega)
      obtain ⟨cv, h1, h2⟩ := run_loadV (P := P) c (cs := es.getD i []) (f := fun j => vs.getD (i * z' + off + j) undef) ⟨c.r s, i * z' + off, none⟩ rfl hg hk hgk off (by omega) (fun j hj => by
          have : i * z' + off + j < vs.size := by omega
          unfold World.cell?
          rw [hh]
          simp [this, Array.getD_eq_getD_getElem?])
        (fun j x hj hx => by
          have := hvr i _ (getD_get [] hi) (off + j) x hx
          rwa [← Nat.add_assoc] at this)
      exact ⟨cv, by simp [execOp, ho, hv, h1], h2⟩
    · exact hK.elim
  · rename_i cs hy
    obtain ⟨hle, hK⟩ := hK
    refine ⟨_, hK, OSound.val fun c e R hsub he => ?_⟩
    obtain ⟨ad, f, hv, hsp, hcell, hown, hvr⟩ := (hy ▸ he a y ha : VR c _ (e a)).crefs
    obtain ⟨cv, h1, h2⟩ := run_loadV (P := P) c (cs := cs) (f := f) ad hsp hg hk hgk 0 (by omega) (fun j hj => hcell j (by omega)) (fun j x hj hx => hvr j x (by simpa using hx))
    exact ⟨cv, by simp [execOp, ho, hv, h1], h2⟩
  · exact hK.elim

theorem setRow_size (w : World) (g : Nat) (c : Array Value) : (w.setRow g c).heap.size = w.heap.size := by simp [World.setRow]
theorem snd_store {t : TypeId} {a x : Operand} {y y' : AOpnd} {k : Nat} {K : Res → Prop} (ho : o.op = .store t a x) (ha : cOpnd a = some y) (hx : cOpnd x = some y') (hk : szOf P t = some k) (hk0 : 0 < k)
    (hK : vcOp (.store k y y') ev h K) : ∃ r, K r ∧ OSound P o ev h r := by
  simp only [vcOp] at hK
  split at hK
  · rename_i s z i off hy
    split at hK
    · rename_i z' es hs
      split at hK
      · rename_i cs hcs
        obtain ⟨⟨rfl, hi, hck, hok, hcok⟩, hK⟩ := hK
        refine ⟨_, hK, ?_⟩
        intro c e R hsub he t' h' ht hh
        obtain ⟨hu, hv⟩ := (hy ▸ he a y ha : VR c _ (e a)).ref'
        have hC := (he x y' hx).cells hcs
        obtain ⟨hz, hO, hes, vs, ty, fz, hh0, hfz, hsz, hvr⟩ := R.live s z' es (hsub _ _ _ hs) (by omega)
        have hrow : (es.getD i []).length = z' := hes _ (List.mem_of_getElem? (getD_get [] hi))
        have hlt := row_lt (i := i) (n := es.length) (z := z') hi (j := z' - 1) (by omega)
        have hcl : (e x).cells.toList.length = cs.length := by simpa using hC.1
        have hcz := hC.1
        have hst := run_storeF P (c.r s) (i * z' + off) ty fz (e x).cells.toList 0 vs c.w hh0 hfz (by omega) (hC.oneCell hcok)
        have hh : h' = c.h.set s (.live z' (es.set i (splice (es.getD i []) off cs))) := hh
        subst hh
        have hsp : (splice (es.getD i []) off cs).length = z' := by rw [splice_len _ _ _ (by omega)]; exact hrow
        have hslt : s < c.h.length := (List.getElem?_eq_some_iff.1 (hsub _ _ _ hs)).1
        obtain ⟨R1, E1⟩ := Rel.write R s (c.h.set s (.live z' (es.set i (splice (es.getD i []) off cs)))) (c.w.setRow (c.r s) (vs.toList.take (i * z' + off + 0) ++ (e x).cells.toList ++ vs.toList.drop (i * z' + off + 0 + (e x).cells.toList.length)).toArray)
          z' es (es.set i (splice (es.getD i []) off cs)) vs (vs.toList.take (i * z' + off + 0) ++ (e x).cells.toList ++ vs.toList.drop (i * z' + off + 0 + (e x).cells.toList.length)).toArray ty c.h.length
          hz (hsub _ _ _ hs) (by simp [hslt]) (fun q hq => by rw [List.getElem?_set_ne (Ne.symm hq)]) hfz hh0 (setRow_heap _ _ _ _ _ _ hh0) (by simp; omega)
          (fun b hb => setRow_other _ _ _ _ (by omega)) rfl rfl rfl (setRow_size _ _ _) (fun e' he' => by
            rcases List.mem_or_eq_of_mem_set he' with h | h
            · exact hes _ h
            · rw [h]; exact hsp) (by simp; omega) (fun i' e' hi' j u hj => by
            have hjz : j < z' := by
              have h1 := (List.getElem?_eq_some_iff.1 hj).1
              by_cases hii : i = i'
              · subst hii
                rw [List.getElem?_set_self hi] at hi'
                cases hi'
                omega
              · rw [List.getElem?_set_ne hii] at hi'
                have := hes _ (List.mem_of_getElem? hi')
                omega
            have hi'l : i' < es.length := by
              have := (List.getElem?_eq_some_iff.1 hi').1
              simpa using this
            have hlt' := row_lt (i := i') (n := es.length) (z := z') hi'l hjz
            have hget : ((vs.toList.take (i * z' + off + 0) ++ (e x).cells.toList ++ vs.toList.drop (i * z' + off + 0 + (e x).cells.toList.length)).toArray).getD (i' * z' + j) undef =
                if i * z' + off ≤ i' * z' + j ∧ i' * z' + j < i * z' + off + cs.length then (e x).cells.getD (i' * z' + j - (i * z' + off)) undef else vs.getD (i' * z' + j) undef := by
              simp only [Array.getD_eq_getD_getElem?, List.getElem?_toArray, Nat.add_zero]
              by_cases h1 : i' * z' + j < i * z' + off
              · rw [if_neg (by omega), List.append_assoc, List.getElem?_append_left (by simp; omega), List.getElem?_take, if_pos h1]
                simp
              · rw [List.append_assoc, List.getElem?_append_right (by simp; omega)]
                have hmin : (vs.toList.take (i * z' + off)).length = i * z' + off := by simp; omega
                rw [hmin]
                by_cases h2 : i' * z' + j < i * z' + off + cs.length
                · rw [if_pos (by omega), List.getElem?_append_left (by omega)]
                  simp
                · rw [if_neg (by omega), List.getElem?_append_right (by omega), List.getElem?_drop, hcl]
                  have : i * z' + off + cs.length + (i' * z' + j - (i * z' + off) - cs.length) = i' * z' + j := by omega
                  rw [this]
                  simp
            rw [hget]
            by_cases hii : i = i'
            · subst hii
              rw [List.getElem?_set_self hi] at hi'
              cases hi'
              rw [splice_get _ _ _ (by omega)] at hj
              by_cases hin : off ≤ j ∧ j < off + cs.length
              · rw [if_pos hin] at hj
                rw [if_pos (by omega)]
                have : i * z' + j - (i * z' + off) = j - off := by omega
                rw [this]
                exact hC.2 _ _ hj
              · rw [if_neg hin] at hj
                rw [if_neg (by omega)]
                exact hvr i _ (getD_get [] hi) j u hj
            · rw [List.getElem?_set_ne hii] at hi'
              have hout : ¬ (i * z' + off ≤ i' * z' + j ∧ i' * z' + j < i * z' + off + cs.length) := by
                rintro ⟨g1, g2⟩
                rcases Nat.lt_or_gt_of_ne hii with hl | hl
                · have : (i + 1) * z' ≤ i' * z' := Nat.mul_le_mul_right z' hl
                  rw [Nat.succ_mul] at this
                  omega
                · have : (i' + 1) * z' ≤ i * z' := Nat.mul_le_mul_right z' hl
                  rw [Nat.succ_mul] at this
                  omega
              rw [if_neg hout]
              exact hvr i' e' hi' j u hj)
        have hne : (e x).cells.size = k := by rw [hC.1]; exact hck
        refine ⟨.skip, undef, _, ?_, rfl, R1, E1, rfl, .tuple [] #[] rfl (fun i x hx => by simp at hx)⟩
        simp [execOp, ho, hv, Instr.storeAt, Instr.sureAddr, storeVar, run_size c.w hk, hne, hst]
      · exact hK.elim
    · exact hK.elim
  · exact hK.elim
end Go.Eng
