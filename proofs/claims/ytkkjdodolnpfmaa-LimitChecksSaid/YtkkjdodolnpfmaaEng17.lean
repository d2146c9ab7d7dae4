/- The engine, part 17: code as a whole, functions. -/
import Derived.Test.YtkkjdodolnpfmaaEng16
set_option linter.unusedVariables false
set_option linter.unusedSimpArgs false
namespace Go.Eng
open Go Go.RowKit

/-- Slots that are kept for later. -/
theorem Rel.reserve {C : Cfg} (R : Rel C) (h' : AHeap) (hh : ∀ (s : Nat) (x : Slot), x ≠ .free → (h'[s]? = some x ↔ C.h[s]? = some x)) (n : Nat) : Rel { C with h := h' } ∧ Ext n C { C with h := h' } := by
  have hlive : ∀ k, Cfg.live { C with h := h' } k ↔ C.live k := by
    intro k
    constructor
    · rintro ⟨z, es, hx⟩; exact ⟨z, es, (hh k _ (by simp)).1 hx⟩
    · rintro ⟨z, es, hx⟩; exact ⟨z, es, (hh k _ (by simp)).2 hx⟩
  have he : ∀ n, Ext n C { C with h := h' } := fun n => ⟨rfl, rfl, rfl, rfl, Nat.le_refl _, fun s _ ⟨x, hx, hf⟩ => ⟨⟨x, (hh s x hf).2 hx, hf⟩, rfl⟩, fun b hb ho => ⟨rfl, fun ⟨s, hs, hr⟩ => ho ⟨s, (hlive s).1 hs, hr⟩⟩, fun b x hx => hx⟩
  exact ⟨R.of_ext (he _) (fun s z es hl => .inl ⟨(hh s _ (by simp)).1 hl, rfl, rfl⟩) (fun s t hs ht hr => R.inj s t ((hlive s).1 hs) ((hlive t).1 ht) hr), he n⟩
theorem cur_none {dst : Nat → Option Nat} {val : Nat → AV} {g : Nat → AV} {t : Nat} : ∀ n, cur dst val (fun _ => false) g n t = g t
  | 0 => rfl
  | n + 1 => by rw [cur, if_neg (by simp)]; exact cur_none n
theorem cntU_all (n : Nat) : cntU (fun _ => false) n = n := by
  induction n with
  | zero => rfl
  | succ n ih => simp [cntU, ih]

def tailK (P : Program) (K : AAct → AHeap → Prop) (h : AHeap) (tl : List AOper) : AAct → AHeap → Prop := fun a news => vcOps P K tl a (h ++ news)
theorem AWp.draw {P : Program} {n : Nat} {Q : APost} {a : AAct} {h : AHeap} {id : Nat} {l0 : List Oper} {hd tl : List AOper} (hm : P.follows .mixedOrders = true) (hB : headB l0 hd = true)
    (hc1 : cOpers P l0 (l0.take hd.length) = some hd) (hc2 : cOpers P l0 (l0.drop hd.length) = some tl) (H : vcHead P h (tailK P (Q .normal) h tl) hd a []) : AWp P n (.region id l0.toArray true) Q a h := by
  intro C act hC S hn
  obtain ⟨rs, a', news', hch, hK⟩ := chain_of hc1 H
  obtain ⟨c1, c2, c3, c4, c5, c6⟩ := hch.at
  obtain ⟨b1, b2, b3, b4⟩ := headB_spec hB
  have hle : hd.length ≤ l0.length := by rcases b3 with h | h <;> omega
  simp only [List.nil_append] at c5
  refine wp_region_any hm ?_
  obtain ⟨R1, E1⟩ := S.rel.sameHeap (w := { C.w with drawn := C.w.drawn + 1 }) rfl rfl rfl rfl C.h.length
  have hfree : ∀ (s : Nat) (x : Slot), x ≠ Slot.free → ((C.h ++ List.replicate (rs.map (·.2)).flatten.length .free)[s]? = some x ↔ C.h[s]? = some x) := by
    intro s x hx
    by_cases hs : s < C.h.length
    · rw [List.getElem?_append_left hs]
    · rw [List.getElem?_append_right (by omega), List.getElem?_eq_none (show C.h.length ≤ s by omega), List.getElem?_replicate]
      constructor
      · intro hh
        split at hh
        · cases hh; exact absurd rfl hx
        · cases hh
      · intro hh; cases hh
  obtain ⟨R2, E2⟩ := R1.reserve (C.h ++ List.replicate (rs.map (·.2)).flatten.length .free) hfree C.h.length
  have E12 := E1.trans E2
  generalize hC1 : ({ C with w := { C.w with drawn := C.w.drawn + 1 }, h := C.h ++ List.replicate (rs.map (·.2)).flatten.length .free } : Cfg) = C1 at R2 E2 E12
  have hC1h : C1.h = C.h ++ List.replicate (rs.map (·.2)).flatten.length .free := by rw [← hC1]
  have hC1w : C1.w = { C.w with drawn := C.w.drawn + 1 } := by rw [← hC1]
  have I0 : HInv C.h hd rs a (fun i => (Array.replicate l0.length false).getD i false) C1 act := by
    have hS : (fun i => (Array.replicate l0.length false).getD i false) = fun _ => false := by funext i; exact getD_replicate_false _ _
    rw [hS]
    refine ⟨R2, S.nodef, S.vrs.1, by rw [hC1h]; simp, fun k hk => by rw [hC1h, List.getElem?_append_left hk], fun i x hx => ?_, fun t ht => ?_⟩
    · have := posOf_get hx
      have hlt := (List.getElem?_eq_some_iff.1 this).1
      rw [hC1h, List.getElem?_append_right (by omega), List.getElem?_replicate, if_pos (by omega)]
      simp
    · rw [cur_none]
      exact E12.vr' (S.vrs.get t)
  have main := head_any (Q := CPost n C Q) hch (fun i hi => by rw [List.getElem?_take, if_pos hi]) hB C1 (by rw [hC1h]; subst hC; simp) (fun D act' I E => ?_) hd.length (Array.replicate l0.length false) C1 act
    (by
      have hS : (fun i => (Array.replicate l0.length false).getD i false) = fun _ => false := by funext i; exact getD_replicate_false _ _
      rw [hS]; exact cntU_all _)
    ⟨by simp, fun j _ _ hl => (by rw [getD_replicate_false] at hl; cases hl), fun t _ ht => getD_in (by simpa using ht) (getD_replicate_false _ _)⟩ (hC ▸ I0) (Ext.refl _ _) rfl
  · rw [hC1w] at main
    rw [show hd.length + (l0.length - hd.length) = l0.length by omega] at main
    simpa using main
  · -- all of the head is done
    have hDh : D.h = C.h ++ news' := by
      apply List.ext_getElem?
      intro k
      by_cases hk : k < C.h.length
      · rw [List.getElem?_append_left hk]; subst hC; exact I.old k hk
      · by_cases hk2 : k - C.h.length < (rs.map (·.2)).flatten.length
        · obtain ⟨i, x, h1, h2, h3⟩ := pos_ex (fun i => by
            by_cases hi : i < hd.length
            · obtain ⟨_, _, _, _, _, _, h4, _⟩ := c6 i hi; exact h4
            · simp only [slotsOf]; rw [List.getElem?_eq_none (by omega)]; simp) hk2
          have := I.new i x h2
          rw [List.getElem?_append_right (by omega), c5]
          have e := posOf_get h2
          rw [h3] at e
          rw [e]
          subst hC
          have hkk : C.h.length + posOf rs i = k := by omega
          rw [hkk] at this
          simpa using this
        · rw [List.getElem?_eq_none (by rw [I.len]; subst hC; omega), List.getElem?_eq_none (by rw [List.length_append, c5]; omega)]
    have S' : St D a' act' := by
      refine ⟨I.rel, ⟨by rw [I.size, c3], fun t x hx => ?_⟩, I.nodef⟩
      have htl : t < a.length := by
        have := (List.getElem?_eq_some_iff.1 hx).1
        omega
      have := I.vrs t htl
      rw [← c4 t htl, List.getD_eq_getElem?_getD, hx] at this
      exact this
    have hnD : n ≤ D.h.length := by rw [hDh]; subst hC; simp; omega
    have E' : Ext n C D := (E12.mono (hC ▸ hn)).trans (E.mono (by rw [hC1h]; subst hC; simp; omega))
    have hK' : vcOps P (Q .normal) tl a' D.h := by
      have : tailK P (Q .normal) h tl a' news' := hK
      unfold tailK at this
      rw [hDh, hC]; exact this
    exact vcOps_sound hc2 S' hnD hK' fun a3 D3 act3 m1 m2 m3 m4 => ⟨a3, D3, m1, rfl, m2, E'.trans m3, m4⟩

inductive ACode where
  | skip
  | ops (l : List AOper)
  | draw (hd tl : List AOper)
  | seq (a b : ACode)
  | cond (x : AOpnd) (p q : ACode)
  | block (id : Nat) (c : ACode)
  | loop (c : ACode)
  | exit (id : Nat)
  | ret
def AOp.inHead : AOp → Bool
  | .store _ _ _ => false
  | .app _ _ _ _ => false
  | _ => true
def headLen : List AOper → Nat
  | [] => 0
  | o :: l => if o.op.inHead then headLen l + 1 else 0
def compileCode (P : Program) : Code → Option ACode
  | .skip => some .skip
  | .region _ ops false => (cOpers P ops.toList ops.toList).map .ops
  | .region _ ops true => (cOpers P ops.toList ops.toList).map fun al => .draw (al.take (headLen al)) (al.drop (headLen al))
  | .seq a b =>
    match compileCode P a, compileCode P b with
    | some x, some y => some (.seq x y)
    | _, _ => none
  | .cond c p q =>
    match cOpnd c, compileCode P p, compileCode P q with
    | some c, some p, some q => some (.cond c p q)
    | _, _, _ => none
  | .block id c => (compileCode P c).map (.block id)
  | .loop c => (compileCode P c).map .loop
  | .exit id => some (.exit id)
  | .ret => some .ret
  | _ => none

/-- Whether each statement whose order is open comes to the same in every order. -/
def drawsB (P : Program) : Code → Bool
  | .region _ ops true =>
    match cOpers P ops.toList ops.toList with
    | some al => P.follows .mixedOrders && headB ops.toList (al.take (headLen al))
    | none => false
  | .seq a b => drawsB P a && drawsB P b
  | .cond _ p q => drawsB P p && drawsB P q
  | .block _ c => drawsB P c
  | .loop c => drawsB P c
  | _ => true
/-- A loop: what is to be shown of it is laid later. -/
def ALoop (P : Program) (n : Nat) (c : ACode) (Q : APost) (a : AAct) (h : AHeap) : Prop := ∀ code, compileCode P code = some c → drawsB P code = true → AWp P n (.loop code) Q a h
def setC (a : AAct) (x : AOpnd) (b : Bool) : AAct := match x with | .tmp t => a.set t (.bool b) | _ => a
def vcCode (P : Program) (n : Nat) : ACode → APost → AAct → AHeap → Prop
  | .skip, Q, a, h => Q .normal a h
  | .ops l, Q, a, h => vcOps P (Q .normal) l a h
  | .draw hd tl, Q, a, h => vcHead P h (tailK P (Q .normal) h tl) hd a []
  | .seq x y, Q, a, h => vcCode P n x (thenA (vcCode P n y Q) Q) a h
  | .cond x p q, Q, a, h => (match evA a x with | .bool t => (t = true → vcCode P n p Q (setC a x true) h) ∧ (t = false → vcCode P n q Q (setC a x false) h) | _ => False)
  | .block id c, Q, a, h => vcCode P n c (inBlockA id Q) a h
  | .loop c, Q, a, h => ALoop P n c Q a h
  | .exit id, Q, a, h => Q (.exit id) a h
  | .ret, Q, a, h => Q .ret a h

theorem cOpers_take {P : Program} {l0 : List Oper} : ∀ {l : List Oper} {al : List AOper}, cOpers P l0 l = some al → al.length = l.length ∧ ∀ n, cOpers P l0 (l.take n) = some (al.take n) ∧ cOpers P l0 (l.drop n) = some (al.drop n)
  | [], al, h => by
    simp only [cOpers, Option.some.injEq] at h
    subst h
    exact ⟨rfl, fun n => ⟨by simp [cOpers], by simp [cOpers]⟩⟩
  | o :: l, al, h => by
    simp only [cOpers] at h
    split at h
    · rename_i x y hx hy
      simp only [Option.some.injEq] at h
      subst h
      obtain ⟨h1, h2⟩ := cOpers_take hy
      refine ⟨by simp [h1], fun n => ?_⟩
      cases n with
      | zero => exact ⟨by simp [cOpers], by simp [cOpers, hx, hy]⟩
      | succ n =>
        obtain ⟨h3, h4⟩ := h2 n
        exact ⟨by simp [cOpers, hx, h3], by simpa using h4⟩
    · cases h
theorem setC_st {C : Cfg} {a : AAct} {act : Act} (S : St C a act) {x : AOpnd} {b : Bool} (hb : evA a x = .bool b) : St C (setC a x b) act := by
  cases x with
  | tmp t => exact S.setB hb
  | const v => exact S
  | func f => exact S
theorem vc_sound {P : Program} {n : Nat} : ∀ {code : Code} {c : ACode} {Q : APost} {a : AAct} {h : AHeap}, compileCode P code = some c → drawsB P code = true → vcCode P n c Q a h → AWp P n code Q a h
  | .skip, c, Q, a, h, hc, hd, H => by simp only [compileCode, Option.some.injEq] at hc; subst hc; exact AWp.skip H
  | .ret, c, Q, a, h, hc, hd, H => by simp only [compileCode, Option.some.injEq] at hc; subst hc; exact AWp.ret H
  | .exit id, c, Q, a, h, hc, hd, H => by simp only [compileCode, Option.some.injEq] at hc; subst hc; exact AWp.exit H
  | .seq x y, c, Q, a, h, hc, hd, H => by
    simp only [compileCode] at hc
    split at hc
    · rename_i p q hp hq
      simp only [Option.some.injEq] at hc
      subst hc
      simp only [drawsB, Bool.and_eq_true] at hd
      refine AWp.seq ((vc_sound hp hd.1 H).mono fun e a h hq' => ?_)
      cases e with
      | normal => exact vc_sound hq hd.2 hq'
      | _ => exact hq'
    · cases hc
  | .cond x p q, c, Q, a, h, hc, hd, H => by
    simp only [compileCode] at hc
    split at hc
    · rename_i x' p' q' hx hp hq
      simp only [Option.some.injEq] at hc
      subst hc
      simp only [vcCode] at H
      split at H
      · rename_i t ht
        have wk : ∀ b, t = b → Wk n a h (setC a x' b) h := fun b hb C act hC S hn => ⟨C, hC, rfl, setC_st S (hb ▸ ht), Ext.refl _ _, hn⟩
        simp only [drawsB, Bool.and_eq_true] at hd
        exact AWp.cond hx ht (fun e => AWp.pre (wk true e) (vc_sound hp hd.1 (H.1 e))) (fun e => AWp.pre (wk false e) (vc_sound hq hd.2 (H.2 e)))
      · exact H.elim
    · cases hc
  | .block id x, c, Q, a, h, hc, hd, H => by
    simp only [compileCode] at hc
    cases hx : compileCode P x with
    | none => simp [hx] at hc
    | some y =>
      simp only [hx, Option.map_some, Option.some.injEq] at hc
      subst hc
      exact AWp.block (vc_sound hx hd H)
  | .loop x, c, Q, a, h, hc, hd, H => by
    simp only [compileCode] at hc
    cases hx : compileCode P x with
    | none => simp [hx] at hc
    | some y =>
      simp only [hx, Option.map_some, Option.some.injEq] at hc
      subst hc
      exact H x hx hd
  | .region id ops false, c, Q, a, h, hc, hd, H => by
    simp only [compileCode] at hc
    cases hx : cOpers P ops.toList ops.toList with
    | none => simp [hx] at hc
    | some y =>
      simp only [hx, Option.map_some, Option.some.injEq] at hc
      subst hc
      intro C act hC S hn
      refine wp_region_list ?_
      have := vcOps_sound (Q := CPost n C Q) (n := n) hx S (hC ▸ hn) (by subst hC; exact H) fun a3 D3 act3 m1 m2 m3 m4 => ⟨a3, D3, m1, rfl, m2, m3, m4⟩
      simpa using this
  | .region id ops true, c, Q, a, h, hc, hd, H => by
    simp only [compileCode] at hc
    simp only [drawsB] at hd
    split at hd
    · rename_i al hal
      simp only [Bool.and_eq_true] at hd
      rw [hal] at hc
      simp only [Option.map_some, Option.some.injEq] at hc
      subst hc
      generalize headLen al = m at *
      obtain ⟨h1, h2⟩ := cOpers_take hal
      obtain ⟨h3, h4⟩ := h2 m
      have hlen : ops.toList.take (al.take m).length = ops.toList.take m := by
        simp only [List.length_take, h1]
        by_cases hml : m ≤ ops.toList.length
        · rw [Nat.min_eq_left hml]
        · rw [Nat.min_eq_right (by omega), List.take_of_length_le (Nat.le_refl _), List.take_of_length_le (by omega)]
      have hlen2 : ops.toList.drop (al.take m).length = ops.toList.drop m := by
        simp only [List.length_take, h1]
        by_cases hml : m ≤ ops.toList.length
        · rw [Nat.min_eq_left hml]
        · rw [Nat.min_eq_right (by omega), List.drop_eq_nil_of_le (Nat.le_refl _), List.drop_eq_nil_of_le (by omega)]
      have := AWp.draw (n := n) (id := id) hd.1 hd.2 (by rw [hlen]; exact h3) (by rw [hlen2]; exact h4) H
      simpa using this
    · cases hd
  | .rangeFunc _ _ _ _, c, Q, a, h, hc, hd, H => by simp [compileCode] at hc
  | .scope _, c, Q, a, h, hc, hd, H => by simp [compileCode] at hc
  | .label _, c, Q, a, h, hc, hd, H => by simp [compileCode] at hc
  | .goto _, c, Q, a, h, hc, hd, H => by simp [compileCode] at hc
  | .refuse _, c, Q, a, h, hc, hd, H => by simp [compileCode] at hc

/-- What holds at a round's end: a state that says less is as at the head, and further on. -/
def roundK (n : Nat) (I : AAct → AHeap → Prop) (m : AAct → AHeap → Nat) (k : Nat) : AAct → AHeap → Prop := fun a h => ∃ a' h', Wk n a h a' h' ∧ I a' h' ∧ m a' h' < k
theorem ALoop.intro {P : Program} {n : Nat} {c : ACode} {Q : APost} {a : AAct} {h : AHeap} (I : AAct → AHeap → Prop) (m : AAct → AHeap → Nat) (a' : AAct) (h' : AHeap) (hw : Wk n a h a' h') (h0 : I a' h')
    (round : ∀ a h, I a h → vcCode P n c (thenA (roundK n I m (m a h)) Q) a h) : ALoop P n c Q a h := by
  intro code hc hd
  refine AWp.pre hw (AWp.loop I m h0 fun a h hI => ?_)
  refine AWp.post (vc_sound hc hd (round a h hI)) fun e a2 h2 hq => ?_
  cases e with
  | normal =>
    obtain ⟨a3, h3, w3, i3, m3⟩ := hq
    exact ⟨a3, h3, w3, i3, m3⟩
  | _ => exact ⟨a2, h2, Wk.refl _ _ _, hq⟩
end Go.Eng
