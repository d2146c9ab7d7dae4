/- The engine, part 21: the fast form says enough. -/
import Derived.Test.YtdjafcjpnjdphaaDoorEng20
set_option linter.unusedVariables false
set_option linter.unusedSimpArgs false
namespace Go.Eng
open Go Go.RowKit

theorem binI_mono {op : BinOp} {k : IntKind} {x y : Int} {K K' : Res → Prop} (hm : ∀ r, K r → K' r) (H : binI op k x y K) : binI op k x y K' := by
  cases op <;> simp only [binI] at H ⊢ <;> first | exact hm _ H | exact ⟨H.1, hm _ H.2⟩ | exact H.elim
theorem shiftI_mono {op : BinOp} {k : IntKind} {x y : Int} {K K' : Res → Prop} (hm : ∀ r, K r → K' r) (H : shiftI op k x y K) : shiftI op k x y K' := by
  cases op <;> simp only [shiftI] at H ⊢ <;> first | exact hm _ H | exact ⟨H.1, hm _ H.2⟩ | exact H.elim
theorem binS_mono {op : BinOp} {x y : ByteArray} {K K' : Res → Prop} (hm : ∀ r, K r → K' r) (H : binS op x y K) : binS op x y K' := by
  cases op <;> simp only [binS] at H ⊢ <;> first | exact hm _ H | exact ⟨H.1, hm _ H.2⟩ | exact H.elim
theorem vcOp_mono {o : AOp} {ev : AOpnd → AV} {h : AHeap} {K K' : Res → Prop} (hm : ∀ r, K r → K' r) (H : vcOp o ev h K) : vcOp o ev h K' := by
  cases o with
  | mv x => exact hm _ H
  | pick c a b => simp only [vcOp] at H ⊢; split at H <;> first | exact H.elim | (rename_i e; exact hm _ H)
  | new z e => exact hm _ H
  | box z x => simp only [vcOp] at H ⊢; split at H <;> first | exact H.elim | (exact ⟨H.1, hm _ H.2⟩)
  | build zero ps => simp only [vcOp] at H ⊢; split at H <;> first | exact H.elim | (exact hm _ H)
  | bslice z n zero ps => simp only [vcOp] at H ⊢; split at H <;> first | exact H.elim | (exact hm _ H)
  | load g k a =>
    simp only [vcOp] at H ⊢
    split at H
    · split at H <;> first | exact H.elim | exact ⟨H.1, hm _ H.2⟩
    · exact ⟨H.1, hm _ H.2⟩
    · exact H.elim
  | store k a x =>
    simp only [vcOp] at H ⊢
    split at H
    · split at H
      · split at H <;> first | exact H.elim | exact ⟨H.1, hm _ H.2⟩
      · exact H.elim
    · exact H.elim
  | nilc x => simp only [vcOp] at H ⊢; split at H <;> first | exact H.elim | exact hm _ H
  | bin op x y =>
    simp only [vcOp] at H ⊢
    split at H
    · split at H
      · rename_i hs; rw [if_pos hs]; exact shiftI_mono hm H
      · rename_i hs; rw [if_neg hs]; exact ⟨H.1, binI_mono hm H.2⟩
    · exact binS_mono hm H
    · exact H.elim
  | eqb neq x y => simp only [vcOp] at H ⊢; split at H <;> first | exact H.elim | exact hm _ H
  | mvs x => simp only [vcOp] at H ⊢; split at H <;> first | exact H.elim | exact hm _ H
  | eqs neq n os x y =>
    simp only [vcOp] at H ⊢
    split at H
    · refine ⟨H.1, ?_⟩
      have H2 := H.2
      split at H2
      · exact hm _ H2
      · exact H2.elim
    · exact H.elim
  | un op x => simp only [vcOp] at H ⊢; split at H <;> first | exact H.elim | exact hm _ H
  | conv k x => simp only [vcOp] at H ⊢; split at H <;> first | exact H.elim | exact hm _ H
  | fadr off x => simp only [vcOp] at H ⊢; split at H <;> first | exact H.elim | exact hm _ H
  | fld g off k x => simp only [vcOp] at H ⊢; split at H <;> first | exact H.elim | exact ⟨H.1, hm _ H.2⟩
  | iadA n z x i => simp only [vcOp] at H ⊢; split at H <;> first | exact H.elim | exact ⟨H.1, hm _ H.2⟩
  | iadS z x i => simp only [vcOp] at H ⊢; split at H <;> first | exact H.elim | exact ⟨H.1, hm _ H.2⟩
  | idx g n k x i => simp only [vcOp] at H ⊢; split at H <;> first | exact H.elim | exact ⟨H.1, hm _ H.2⟩
  | idxStr x i => simp only [vcOp] at H ⊢; split at H <;> first | exact H.elim | exact ⟨H.1, hm _ H.2⟩
  | lenx x => simp only [vcOp] at H ⊢; split at H <;> first | exact H.elim | exact hm _ H
  | lens x => simp only [vcOp] at H ⊢; split at H <;> first | exact H.elim | exact hm _ H
  | lenc n => exact hm _ H
  | mm b x xs => simp only [vcOp] at H ⊢; split at H <;> first | exact H.elim | exact hm _ H
  | app z b x y =>
    simp only [vcOp] at H ⊢
    split at H
    · split at H <;> first | exact H.elim | exact hm _ H
    · split at H
      · exact ⟨fun e => hm _ (H.1 e), fun e => ⟨(H.2 e).1, hm _ (H.2 e).2⟩⟩
      · exact ⟨fun e => hm _ (H.1 e), fun e => ⟨(H.2 e).1, hm _ (H.2 e).2⟩⟩
      · split at H
        · exact ⟨fun e => (H.1 e).imp (hm _) fun k => ⟨k.1, hm _ k.2⟩, fun e => ⟨(H.2 e).1, hm _ (H.2 e).2⟩⟩
        · exact H.elim
      · exact H.elim
    · exact H.elim
  | slc z x lo hi =>
    simp only [vcOp] at H ⊢
    split at H
    · split at H <;> first | exact H.elim | exact ⟨H.1, hm _ H.2⟩
    · exact H.elim
  | mk z b zs l c => simp only [vcOp] at H ⊢; split at H <;> first | exact H.elim | exact ⟨H.1, hm _ H.2⟩
  | ext x i => simp only [vcOp] at H ⊢; split at H <;> first | exact H.elim | exact ⟨H.1, hm _ H.2⟩
  | mkf fn f c => exact hm _ H
  | call f xs => exact H.elim
  | mkm => exact hm _ H
  | bemp => exact hm _ H
  | slcS x lo hi =>
    simp only [vcOp] at H ⊢
    split at H
    · split at H <;> first | exact H.elim | exact ⟨H.1, hm _ H.2⟩ | exact hm _ H
    · exact H.elim
  | toS x =>
    simp only [vcOp] at H ⊢
    split at H
    · obtain ⟨s, h1, h2⟩ := H; exact ⟨s, h1, hm _ h2⟩
    · split at H
      · obtain ⟨s, h1, h2⟩ := H; exact ⟨s, h1, hm _ h2⟩
      · exact H.elim
    · exact hm _ H
    · exact hm _ H
    · exact H.elim
  | ofS x => simp only [vcOp] at H ⊢; split at H <;> first | exact H.elim | exact hm _ H
  | look g n os z ok x k =>
    simp only [vcOp] at H ⊢
    split at H
    · split at H
      · split at H <;> first | exact H.elim | exact hm _ H
      · exact H.elim
    · exact H.elim
  | mput g n os x k v =>
    simp only [vcOp] at H ⊢
    split at H
    · split at H
      · split at H <;> first | exact H.elim | exact hm _ H
      · exact H.elim
    · exact H.elim
  | xop _ _ _ => exact H.elim

theorem mmX_std {b : Bool} {ev : AOpnd → AV} : ∀ {xs : List AOpnd} {v u : AV}, mmX std b ev v xs = some u → mmA b ev v xs = some u
  | [], v, u, h => by cases v <;> exact h
  | x :: xs, v, u, h => by
    cases v <;> simp only [mmX, reduceCtorEq] at h
    rename_i k n
    simp only [mmA]
    split at h
    · rename_i k' y hy
      rw [hy]
      split at h
      · rename_i hk
        have := kindEq_spec hk
        subst this
        simp only [if_true]
        exact mmX_std h
      · cases h
    · cases h
theorem binX_std {op : BinOp} {k k' : IntKind} {x y : Int} {K : Res → Prop} (H : binX std op k k' x y K) : (if AOp.isShift op = true then shiftI op k x y K else k' = k ∧ binI op k x y K) := by
  unfold binX at H
  split at H
  · rename_i hs
    rw [if_pos hs]
    obtain ⟨h0, hk⟩ := H
    cases op <;> simp only [AOp.isShift, Bool.false_eq_true] at hs <;> exact ⟨h0, hk⟩
  · rename_i hs
    rw [if_neg (by rw [hs]; simp)]
    split at H
    · exact H.elim
    · rename_i hk
      refine ⟨kindEq_spec hk, ?_⟩
      split at H
      · rename_i ha
        cases op <;> simp only [arithB, Bool.false_eq_true] at ha <;> exact H
      · split at H
        · rename_i _ hc
          cases op <;> simp only [cmpB, Bool.false_eq_true] at hc <;> exact H
        · split at H
          · obtain ⟨h0, hk⟩ := H; exact ⟨h0, hk⟩
          · obtain ⟨h0, hk⟩ := H; exact ⟨h0, hk⟩
          · exact H.elim
theorem binSX_std {op : BinOp} {x y : ByteArray} {K : Res → Prop} (H : binSX std op x y K) : binS op x y K := by
  unfold binSX at H
  split at H
  · rename_i hc
    cases op <;> simp only [cmpB, Bool.false_eq_true] at hc <;> exact H
  · split at H
    · obtain ⟨h0, hk⟩ := H
      refine ⟨?_, hk⟩
      have : ((x ++ y).size : Int) ≤ 9223372036854775807 := h0
      rwa [ByteArray.size_append] at this
    · exact H.elim
theorem eqCans_std {xs ys : List AV} : ∀ {os : List (Nat × Nat)}, eqCans xs ys os = true → ∃ r, eqOffs xs ys os = some r
  | [], _ => ⟨true, rfl⟩
  | (o, q) :: os, h => by
    simp only [eqCans] at h
    split at h
    · rename_i hc
      obtain ⟨r, hr⟩ := eqCans_std h
      have : ∃ p, eqA q (xs.getD o .any) (ys.getD o .any) = some p := by
        generalize xs.getD o .any = a at hc
        generalize ys.getD o .any = b at hc
        match q, a, b, hc with
        | 0, .bool _, .bool _, _ => exact ⟨_, rfl⟩
        | 1, .int k _, .int k' _, hc => exact ⟨_, if_pos (kindEq_spec hc)⟩
        | 2, .str _, .str _, _ => exact ⟨_, rfl⟩
      obtain ⟨p, hp⟩ := this
      exact ⟨p && r, by simp only [eqOffs, hp, hr]⟩
    · cases h

theorem vcOpX_sound {o : AOp} {ev : AOpnd → AV} {h : AHeap} {fb : Unit → Prop} {K : Res → Prop} (H : vcOpX std o ev h fb K) (hf : fb () → vcOp o ev h K) : vcOp o ev h K := by
  cases o with
  | mv x => exact H
  | pick c a b =>
    simp only [vcOpX, vcOp] at H ⊢
    split at H
    · rename_i t e
      obtain ⟨h1, h2⟩ := br_iff H
      rw [e]
      cases t
      · exact h2 rfl
      · exact h1 rfl
    · exact H.elim
  | new z e => exact H
  | box z x =>
    simp only [vcOpX, vcOp] at H ⊢
    split at H
    · rename_i cs e
      rw [e]
      split at H
      · rename_i e1 e2; exact ⟨⟨Nat.eq_of_beq_eq_true e1, e2⟩, H⟩
      · exact H.elim
    · exact H.elim
  | build zero ps => exact H
  | bslice z n zero ps => exact H
  | load g k a =>
    simp only [vcOpX, vcOp] at H ⊢
    split at H
    · rename_i s z i o' e
      rw [e]
      simp only
      split at H
      · rename_i z' es e2
        rw [e2]
        split at H
        · rename_i row e3 e4 e5
          have h1 := Nat.eq_of_beq_eq_true e3
          have h2 := Nat.eq_of_beq_eq_true e4
          have h3 := Nat.le_of_ble_eq_true e5
          subst h2
          exact ⟨⟨h1, by simp, h3⟩, by simpa using H⟩
        · exact H.elim
      · exact H.elim
    · rename_i cs e
      rw [e]
      split at H
      · rename_i e2; exact ⟨Nat.le_of_ble_eq_true e2, H⟩
      · exact H.elim
    · exact H.elim
  | store k a x =>
    simp only [vcOpX, vcOp] at H ⊢
    split at H
    · rename_i s z i o' e
      rw [e]
      simp only
      split at H
      · rename_i z' es e2
        rw [e2]
        simp only
        split at H
        · rename_i cs e3
          rw [e3]
          split at H
          · rename_i row f1 f2 f3 f4 f5
            have h1 := Nat.eq_of_beq_eq_true f1
            have h2 := Nat.eq_of_beq_eq_true f2
            have h3 := Nat.eq_of_beq_eq_true f3
            have h4 := Nat.le_of_ble_eq_true f4
            subst h2
            exact ⟨⟨h1, by simp, h3, h4, f5⟩, by simpa using H⟩
          · exact H.elim
        · exact H.elim
      · exact H.elim
    · exact H.elim
  | nilc x => exact H
  | bin op x y =>
    simp only [vcOpX, vcOp] at H ⊢
    split at H
    · rename_i e1 e2; rw [e1, e2]; exact binX_std H
    · rename_i e1 e2; rw [e1, e2]; exact binSX_std H
    · exact H.elim
  | eqb neq x y =>
    simp only [vcOpX, vcOp] at H ⊢
    split at H
    · rename_i e1 e2; rw [e1, e2]; cases neq <;> exact H
    · exact H.elim
  | mvs x => exact H
  | eqs neq n os x y =>
    simp only [vcOpX, vcOp] at H ⊢
    split at H
    · rename_i a b e1 e2
      rw [e1, e2]
      split at H
      · rename_i f1 f2 f3
        refine ⟨⟨Nat.eq_of_beq_eq_true f1, Nat.eq_of_beq_eq_true f2⟩, ?_⟩
        obtain ⟨r, hr⟩ := eqCans_std f3
        rw [hr]
        cases neq <;> simpa [std, hr] using H
      · exact H.elim
    · exact H.elim
  | un op x => exact H
  | conv k x => exact H
  | fadr off x => exact H
  | fld g off k x =>
    simp only [vcOpX, vcOp] at H ⊢
    split at H
    · rename_i cs e
      rw [e]
      split at H
      · rename_i e2; exact ⟨Nat.le_of_ble_eq_true e2, H⟩
      · exact H.elim
    · exact H.elim
  | iadA n z x i => obtain ⟨h⟩ := H; exact hf h
  | iadS z x i =>
    simp only [vcOpX] at H
    split at H
    · rename_i z' es k q e1 e2
      split at H
      · rename_i e3
        obtain ⟨row, h0, h1, hk⟩ := H
        simp only [vcOp, e1, e2]
        have hlt := (List.getElem?_eq_some_iff.1 h1).1
        refine ⟨⟨Nat.eq_of_beq_eq_true e3, h0, by omega⟩, ?_⟩
        have : es.getD q.toNat [] = row := by rw [List.getD_eq_getElem?_getD, h1]; rfl
        rw [this]; exact hk
      · exact H.elim
    · obtain ⟨h⟩ := H; exact hf h
  | idx g n k x i => obtain ⟨h⟩ := H; exact hf h
  | idxStr x i => obtain ⟨h⟩ := H; exact hf h
  | lenx x => exact H
  | lens x => exact H
  | lenc n => exact H
  | mm b x xs =>
    simp only [vcOpX, vcOp] at H ⊢
    split at H
    · rename_i v e
      rw [mmX_std e]; exact H
    · exact H.elim
  | app z b x y =>
    simp only [vcOpX] at H
    split at H
    · rename_i z' row e1
      simp only [vcOp, e1]
      split at H
      rotate_left 1
      · obtain ⟨h⟩ := H; have := hf h; simpa only [vcOp, e1] using this
      rotate_right 1
      · rename_i f0 f1 f2
        have h1 := Nat.eq_of_beq_eq_true f2
        obtain ⟨h2, hk⟩ := H
        rw [f1]
        exact ⟨fun e => (by cases e), fun _ => ⟨⟨h1, by simp, h2⟩, hk⟩⟩
      · rename_i s z'' i n f1 f2 f3
        rw [f1]
        simp only
        split at H
        · rename_i ww es g1 g2 g3
          split at H
          · rename_i g4
            obtain ⟨⟨h2, h3, h4⟩, hk⟩ := H
            rw [g1]
            exact ⟨fun e => (by cases e), fun _ => ⟨⟨Nat.eq_of_beq_eq_true f2, Nat.eq_of_beq_eq_true g2, Nat.eq_of_beq_eq_true g4, Nat.eq_of_beq_eq_true g3, h2, by simp [rowsOk, f3], h3, h4⟩, hk⟩⟩
          · exact H.elim
        · exact H.elim
      · exact H.elim
    · obtain ⟨h⟩ := H; exact hf h
  | slc z x lo hi =>
    simp only [vcOpX] at H
    split at H
    · rename_i z' es e1
      simp only [vcOp, e1]
      split at H
      · rename_i k b f1 f2 f3
        rw [f2, f3]
        obtain ⟨h0, h1, hk⟩ := H
        exact ⟨⟨Nat.eq_of_beq_eq_true f1, h0, h1⟩, hk⟩
      · rename_i k b f1 f2 f3
        rw [f2, f3]
        obtain ⟨h0, h1, hk⟩ := H
        exact ⟨⟨Nat.eq_of_beq_eq_true f1, h0, h1⟩, hk⟩
      · rename_i k b k2 b2 f1 f2 f3
        rw [f2, f3]
        obtain ⟨h0, h1, h2, hk⟩ := H
        exact ⟨⟨Nat.eq_of_beq_eq_true f1, h0, h1, h2⟩, hk⟩
      · rename_i f1 f2 f3
        rw [f2, f3]
        exact ⟨Nat.eq_of_beq_eq_true f1, H⟩
      · exact H.elim
    · obtain ⟨h⟩ := H; exact hf h
  | mk z b zs l c => obtain ⟨h⟩ := H; exact hf h
  | ext x i =>
    simp only [vcOpX, vcOp] at H ⊢
    split at H
    · rename_i vs e
      rw [e]
      split at H
      · rename_i e2; exact ⟨Nat.le_of_ble_eq_true e2, H⟩
      · exact H.elim
    · exact H.elim
  | mkf fn f c => exact H
  | call f xs => obtain ⟨h⟩ := H; exact hf h
  | mkm => obtain ⟨h⟩ := H; exact hf h
  | look _ _ _ _ _ _ _ => obtain ⟨h⟩ := H; exact hf h
  | mput _ _ _ _ _ _ => obtain ⟨h⟩ := H; exact hf h
  | slcS x lo hi => obtain ⟨h⟩ := H; exact hf h
  | toS x => obtain ⟨h⟩ := H; exact hf h
  | bemp => exact H
  | ofS x => obtain ⟨h⟩ := H; exact hf h
  | xop _ _ _ => obtain ⟨h⟩ := H; exact hf h
end Go.Eng
