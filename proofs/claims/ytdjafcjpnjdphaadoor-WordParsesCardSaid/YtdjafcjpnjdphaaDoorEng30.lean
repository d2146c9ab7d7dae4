/- The engine, part 30: weaker states by equations that are reckoned. -/
import Derived.Test.YtdjafcjpnjdphaaDoorEng29
set_option linter.unusedVariables false
set_option linter.unusedSimpArgs false
namespace Go.Eng
open Go Go.RowKit
/-- Rows that know of no slot. -/
inductive Up0 (es : List (List AV)) : Prop where
  | mk (h : uptoLL 0 es = true)
theorem Up0.get {es : List (List AV)} (h : Up0 es) : uptoLL 0 es = true := by obtain ⟨h⟩ := h; exact h
theorem Up0.list {es : List (List AV)} {z : Nat} (h : Up0 es) : (AV.list z es).upto 0 = true := h.get
mutual
def eqS (f : Nat → Nat) (m : Nat) : AV → AV → Prop
  | .any, y => (match y with | .any => True | _ => False)
  | .int k a, y => (match y with | .int k' b => (match kindEq k k' with | true => b = a | false => False) | _ => False)
  | .bool a, y => (match y with | .bool b => b = a | _ => False)
  | .str a, y => (match y with | .str b => b = a | _ => False)
  | .nilp, y => (match y with | .nilp => True | _ => False)
  | .nils, y => (match y with | .nils => True | _ => False)
  | .emp, y => (match y with | .emp => True | _ => False)
  | .nilFunc, y => (match y with | .nilFunc => True | _ => False)
  | .nilIface, y => (match y with | .nilIface => True | _ => False)
  | .agg cs, y => (match y with | .agg ds => eqSL f m cs ds | _ => False)
  | .tuple cs, y => (match y with | .tuple ds => eqSL f m cs ds | _ => False)
  | .cref cs, y => (match y with | .cref ds => eqSL f m cs ds | _ => False)
  | .list z es, y => (match y with | .list z' fs => (match Nat.beq z z' with | true => Up0 es ∧ fs = es | false => False) | _ => False)
  | .sl s z i n, y => (match y with | .sl s' z' i' n' => (match Nat.beq (f s) s', Nat.blt s m, Nat.beq z z', Nat.beq i i' with | true, true, true, true => n' = n | _, _, _, _ => False) | _ => False)
  | .ref s z i o, y => (match y with | .ref s' z' i' o' => (match Nat.beq (f s) s', Nat.blt s m, Nat.beq z z', Nat.beq i i', Nat.beq o o' with | true, true, true, true, true => True | _, _, _, _, _ => False) | _ => False)
  | .mapr s, y => (match y with | .mapr s' => (match Nat.beq (f s) s', Nat.blt s m with | true, true => True | _, _ => False) | _ => False)
  | .func g a b, y => (match y with | .func g' a' b' => g' = g ∧ eqSL f m a a' ∧ eqSL f m b b' | _ => False)
  | .iface t v, y => (match y with | .iface t' v' => t' = t ∧ eqS f m v v' | _ => False)
def eqSL (f : Nat → Nat) (m : Nat) : List AV → List AV → Prop
  | [], y => (match y with | [] => True | _ => False)
  | c :: cs, y => (match y with | d :: ds => eqS f m c d ∧ eqSL f m cs ds | _ => False)
end
mutual
theorem eqS_ok {f : Nat → Nat} {m : Nat} : ∀ (x y : AV), eqS f m x y → x.upto m = true ∧ x.ren f = y
  | .any, y, h => by unfold eqS at h; split at h; exact ⟨rfl, rfl⟩; exact h.elim
  | .int k a, y, h => by
    unfold eqS at h
    split at h
    · split at h
      · rename_i hk; rw [kindEq_spec hk, h]; exact ⟨rfl, rfl⟩
      · exact h.elim
    · exact h.elim
  | .bool a, y, h => by unfold eqS at h; split at h; rw [h]; exact ⟨rfl, rfl⟩; exact h.elim
  | .str a, y, h => by unfold eqS at h; split at h; rw [h]; exact ⟨rfl, rfl⟩; exact h.elim
  | .nilp, y, h => by unfold eqS at h; split at h; exact ⟨rfl, rfl⟩; exact h.elim
  | .nils, y, h => by unfold eqS at h; split at h; exact ⟨rfl, rfl⟩; exact h.elim
  | .emp, y, h => by unfold eqS at h; split at h; exact ⟨rfl, rfl⟩; exact h.elim
  | .nilFunc, y, h => by unfold eqS at h; split at h; exact ⟨rfl, rfl⟩; exact h.elim
  | .nilIface, y, h => by unfold eqS at h; split at h; exact ⟨rfl, rfl⟩; exact h.elim
  | .agg cs, y, h => by
    unfold eqS at h
    split at h
    · obtain ⟨h1, h2⟩ := eqSL_ok cs _ h
      exact ⟨h1, by simp only [AV.ren, h2]⟩
    · exact h.elim
  | .tuple cs, y, h => by
    unfold eqS at h
    split at h
    · obtain ⟨h1, h2⟩ := eqSL_ok cs _ h
      exact ⟨h1, by simp only [AV.ren, h2]⟩
    · exact h.elim
  | .cref cs, y, h => by
    unfold eqS at h
    split at h
    · obtain ⟨h1, h2⟩ := eqSL_ok cs _ h
      exact ⟨h1, by simp only [AV.ren, h2]⟩
    · exact h.elim
  | .list z es, y, h => by
    unfold eqS at h
    split at h
    · split at h
      · rename_i hz
        have := Nat.eq_of_beq_eq_true hz
        subst this
        obtain ⟨h1, rfl⟩ := h
        exact ⟨upto_m m _ h1.list, ren_upto f _ h1.list⟩
      · exact h.elim
    · exact h.elim
  | .sl s z i n, y, h => by
    unfold eqS at h
    split at h
    · split at h
      · rename_i h1 h2 h3 h4
        have := Nat.eq_of_beq_eq_true h1
        have := Nat.eq_of_beq_eq_true h3
        have := Nat.eq_of_beq_eq_true h4
        subst_vars
        refine ⟨?_, rfl⟩
        simpa [AV.upto] using h2
      · exact h.elim
    · exact h.elim
  | .ref s z i o, y, h => by
    unfold eqS at h
    split at h
    · split at h
      · rename_i h1 h2 h3 h4 h5
        have := Nat.eq_of_beq_eq_true h1
        have := Nat.eq_of_beq_eq_true h3
        have := Nat.eq_of_beq_eq_true h4
        have := Nat.eq_of_beq_eq_true h5
        subst_vars
        refine ⟨?_, rfl⟩
        simpa [AV.upto] using h2
      · exact h.elim
    · exact h.elim
  | .mapr s, y, h => by
    unfold eqS at h
    split at h
    · split at h
      · rename_i h1 h2
        have := Nat.eq_of_beq_eq_true h1
        subst_vars
        refine ⟨?_, rfl⟩
        simpa [AV.upto] using h2
      · exact h.elim
    · exact h.elim
  | .func g a b, y, h => by
    unfold eqS at h
    split at h
    · obtain ⟨rfl, ha, hb⟩ := h
      obtain ⟨h1, h2⟩ := eqSL_ok a _ ha
      obtain ⟨h3, h4⟩ := eqSL_ok b _ hb
      exact ⟨by simp only [AV.upto, h1, h3, Bool.and_self], by simp only [AV.ren, h2, h4]⟩
    · exact h.elim
  | .iface t v, y, h => by
    unfold eqS at h
    split at h
    · obtain ⟨rfl, h⟩ := h
      obtain ⟨h1, h2⟩ := eqS_ok v _ h
      exact ⟨h1, by simp only [AV.ren, h2]⟩
    · exact h.elim
theorem eqSL_ok {f : Nat → Nat} {m : Nat} : ∀ (x y : List AV), eqSL f m x y → uptoL m x = true ∧ renL f x = y
  | [], y, h => by unfold eqSL at h; split at h; exact ⟨rfl, rfl⟩; exact h.elim
  | c :: cs, y, h => by
    unfold eqSL at h
    split at h
    · obtain ⟨h1, h2⟩ := eqS_ok c _ h.1
      obtain ⟨h3, h4⟩ := eqSL_ok cs _ h.2
      exact ⟨by simp only [uptoL, h1, h3, Bool.and_self], by simp only [renL, h2, h4]⟩
    · exact h.elim
end
/-- The temporaries of the weaker state (first) and of the stronger. -/
def wkX (f : Nat → Nat) (m : Nat) : List AV → List AV → Prop
  | [], ys => (match ys with | [] => True | _ => False)
  | x :: xs, ys => (match ys with
    | y :: ys => (match x with | .any => wkX f m xs ys | x => eqS f m x y ∧ wkX f m xs ys)
    | [] => False)
theorem wkX_ok {f : Nat → Nat} {m : Nat} : ∀ (xs ys : List AV), wkX f m xs ys → wkL f m ys xs
  | [], ys, h => by unfold wkX at h; split at h; exact trivial; exact h.elim
  | x :: xs, ys, h => by
    unfold wkX at h
    split at h
    · split at h
      · exact ⟨.inl rfl, wkX_ok xs _ h⟩
      · exact ⟨.inr (eqS_ok _ _ h.1), wkX_ok xs _ h.2⟩
    · exact h.elim
/-- Rows of a slot. -/
inductive RowsX (f : Nat → Nat) (m : Nat) : List (List AV) → List (List AV) → Prop where
  | one {r s : List AV} (h : eqSL f m r s) : RowsX f m [r] [s]
  | same {es fs : List (List AV)} (h1 : Up0 es) (h2 : fs = es) : RowsX f m es fs
theorem RowsX.ok {f : Nat → Nat} {m : Nat} {es fs : List (List AV)} (h : RowsX f m es fs) : uptoLL m es = true ∧ renLL f es = fs := by
  cases h with
  | one h =>
    obtain ⟨h1, h2⟩ := eqSL_ok _ _ h
    exact ⟨by simp only [uptoLL, h1, Bool.and_self], by simp only [renLL, h2]⟩
  | same h1 h2 =>
    subst h2
    exact ⟨uptoLL_m m _ h1.get, renLL_upto f _ h1.get⟩
def hpX (f : Nat → Nat) (m : Nat) (h : AHeap) : Nat → AHeap → Prop
  | _, [] => True
  | j, s :: r => (match s with
    | .live z es => (match h[f j]? with
      | some (.live z' fs) => (match Nat.beq z z' with | true => RowsX f m es fs ∧ hpX f m h (j + 1) r | false => False)
      | _ => False)
    | _ => False)
theorem hpX_ok {f : Nat → Nat} {m : Nat} {h : AHeap} : ∀ (r : AHeap) (j : Nat), hpX f m h j r → wkH f h m j r
  | [], j, H => trivial
  | s :: r, j, H => by
    unfold hpX at H
    split at H
    · split at H
      · rename_i h1
        split at H
        · rename_i hz
          have := Nat.eq_of_beq_eq_true hz
          subst this
          obtain ⟨h2, h3⟩ := H.1.ok
          exact ⟨⟨by rw [h3]; exact h1, h2⟩, hpX_ok r (j + 1) H.2⟩
        · exact H.elim
      · exact H.elim
    · exact H.elim
/-- A weaker state. -/
theorem Wk.eqs {a a' : AAct} {h h' : AHeap} (H : wkX id h'.length a' a ∧ hpX id h'.length h 0 h') : Wk 0 a h a' h' :=
  Wk.ren id (wkX_ok _ _ H.1) (hpX_ok _ _ H.2) (fun i j _ _ e => e)
theorem Wk.eqsR {a a' : AAct} {h h' : AHeap} (f : Nat → Nat) (hf : ∀ i j, i < h'.length → j < h'.length → f i = f j → i = j) (H : wkX f h'.length a' a ∧ hpX f h'.length h 0 h') : Wk 0 a h a' h' :=
  Wk.ren f (wkX_ok _ _ H.1) (hpX_ok _ _ H.2) hf
theorem Up0.one {es : List (List AV)} {l : List AV} {z : Nat} (h : Up0 es) (hl : uptoL 0 l = true) : uptoL 0 (.list z es :: l) = true := Bool.and_eq_true_iff.mpr ⟨h.list, hl⟩
end Go.Eng
