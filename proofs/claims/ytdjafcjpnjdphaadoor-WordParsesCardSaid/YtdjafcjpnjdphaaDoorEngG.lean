/- The engine: a function's contract at some heap, opened. -/
import Derived.Test.YtdjafcjpnjdphaaDoorEngX
set_option linter.unusedVariables false
set_option linter.unusedSimpArgs false
namespace Go.Eng
open Go Go.RowKit
theorem ACall.ofI {P : Program} {g : FuncId} {fn : Func} {args : List AV} {h : AHeap} {K : AV → AHeap → Prop} (hf : P.funcs[g]? = some fn) (hname : (fn.name == "runtime.NumGoroutine") = false) (hdr : drawsF P fn = true)
    (H : ∀ w, w = std → vcInl w (compileF P fn) P args h K) : ACall P g args h K := by
  have H := H std rfl
  unfold vcInl at H
  split at H
  · rename_i F hF
    exact ACall.inl hf hname hF hdr (vcCodeY_sound (fun e a h hr => retIX_I e a h hr) H)
  · exact H.elim
/-- A call at some heap, met. -/
theorem Call.of {P : Program} {g : FuncId} {args : List AV} {h : AHeap} {K : AAct → AHeap → Prop} {a : AAct} {dst : Option Nat} (H : ACall P g args h (callK K a dst)) : Call P g args h (callK K a dst) := ⟨H⟩
/-- As hpZ; a slot may be given up in its place. -/
def hpD (f : Nat → Nat) (m : Nat) (h : AHeap) : Nat → AHeap → Prop
  | _, [] => True
  | j, s :: r => (match s with
    | .live z es => (match h[f j]? with
      | some (.live z' fs) => (match Nat.beq z z' with | true => RowsZ f h m es fs ∧ hpD f m h (j + 1) r | false => False)
      | _ => False)
    | .dead => (match h[f j]? with
      | some .dead => hpD f m h (j + 1) r
      | some (.live _ _) => hpD f m h (j + 1) r
      | _ => False)
    | _ => False)
theorem hpD_get {f : Nat → Nat} {m : Nat} {h : AHeap} : ∀ {r : AHeap} {j : Nat}, hpD f m h j r → ∀ (i : Nat) (x : Slot), r[i]? = some x → (∃ z es fs, x = .live z es ∧ h[f (j + i)]? = some (.live z fs) ∧ RowsZ f h m es fs) ∨ x = .dead
  | [], j, H, i, x, hx => by simp at hx
  | s :: r, j, H, i, x, hx => by
    have step : hpD f m h (j + 1) r → ∀ i, (s :: r)[i + 1]? = some x → (∃ z es fs, x = .live z es ∧ h[f (j + (i + 1))]? = some (.live z fs) ∧ RowsZ f h m es fs) ∨ x = .dead := fun H i hx => by
      rcases hpD_get H i x (by simpa using hx) with ⟨z, es, fs, e1, e2, e3⟩ | e
      · exact .inl ⟨z, es, fs, e1, by rw [show j + (i + 1) = j + 1 + i by omega]; exact e2, e3⟩
      · exact .inr e
    unfold hpD at H
    split at H
    · split at H
      · rename_i h1
        split at H
        · rename_i hb
          have := Nat.eq_of_beq_eq_true hb
          subst this
          match i, hx with
          | 0, hx => simp at hx; subst hx; exact .inl ⟨_, _, _, rfl, by simpa using h1, H.1⟩
          | i + 1, hx => exact step H.2 i hx
        · exact H.elim
      · exact H.elim
    · split at H
      · match i, hx with
        | 0, hx => simp at hx; exact .inr hx.symm
        | i + 1, hx => exact step H i hx
      · match i, hx with
        | 0, hx => simp at hx; exact .inr hx.symm
        | i + 1, hx => exact step H i hx
      · exact H.elim
    · exact H.elim
/-- A weaker state in which slots may be given up. -/
theorem Wk.eqzN {n : Nat} {a a' : AAct} {h h' : AHeap} (f : Nat → Nat) (hid : ∀ i, i < n → f i = i) (hnl : n ≤ h'.length) (hinj : ∀ i, i < h'.length → ∀ j, j < h'.length → f i = f j → i = j) (H : wkZ f h h'.length a' a ∧ hpD f h'.length h 0 h') : Wk n a h a' h' := by
  intro C act hC S hn
  subst hC
  obtain ⟨ha, hh⟩ := H
  have hall : ∀ s, s < h'.length → (∃ z es fs, h'[s]? = some (.live z es) ∧ C.h[f s]? = some (.live z fs) ∧ RowsZ f C.h h'.length es fs) ∨ h'[s]? = some .dead := by
    intro s hs
    rcases hpD_get hh s h'[s] (by simp [hs]) with ⟨z, es, fs, e1, e2, e3⟩ | e1
    · exact .inl ⟨z, es, fs, by rw [← e1]; simp [hs], by simpa using e2, e3⟩
    · exact .inr (by rw [← e1]; simp [hs])
  have hlive : ∀ s, s < h'.length → ∀ z0 es0, h'[s]? = some (.live z0 es0) → ∃ z es fs, h'[s]? = some (.live z es) ∧ C.h[f s]? = some (.live z fs) ∧ RowsZ f C.h h'.length es fs := by
    intro s hs z0 es0 he
    rcases hall s hs with h | h
    · exact h
    · rw [h] at he; cases he
  have hDlive : ∀ s, Cfg.live { C with h := h', r := fun s => C.r (f s) } s → s < h'.length ∧ C.live (f s) := by
    rintro s ⟨z, es, hx⟩
    have hs := (List.getElem?_eq_some_iff.1 hx).1
    obtain ⟨z', es', fs, _, e2, _⟩ := hlive s hs _ _ hx
    exact ⟨hs, z', _, e2⟩
  have hown : ∀ b, Cfg.own { C with h := h', r := fun s => C.r (f s) } b → C.own b := by
    rintro b (hb | ⟨s, hs, hr⟩)
    · exact .inl hb
    · exact .inr ⟨f s, (hDlive s hs).2, hr⟩
  have hused : ∀ s, s < h'.length → Cfg.used { C with h := h', r := fun s => C.r (f s) } s := fun s hs => by
    rcases hall s hs with ⟨z, es, fs, e1, _, _⟩ | e1
    · exact ⟨_, e1, by simp⟩
    · exact ⟨_, e1, by simp⟩
  have G : Fzg f C.h h'.length C { C with h := h', r := fun s => C.r (f s) } := {
    hw := rfl, ho := hown, hs := fun s hs _ => ⟨hused s hs, rfl⟩, hD := rfl, hC := rfl, R := S.rel,
    hfr := fun s z es hs hf => by
      rintro (hb | ⟨t, ht, hr⟩)
      · exact (S.rel.livx s z es hs).1 hb
      · obtain ⟨h1, h2⟩ := hDlive t ht
        exact hf t h1 (S.rel.inj _ _ h2 ⟨z, es, hs⟩ hr) }
  obtain ⟨h1, h2⟩ := wkZ_get G ha
  refine ⟨{ C with h := h', r := fun s => C.r (f s) }, rfl, rfl, ⟨?_, ?_, S.nodef⟩, ?_, hnl⟩
  · refine ⟨fun s z es hl => ?_, fun s t hs ht hr => ?_, S.rel.olt, fun p hp => (S.rel.glo p hp).recfg (C := C) (D := { C with h := h', r := fun s => C.r (f s) }) rfl hown (gs_upto hp 0), S.rel.gsz⟩
    · have hs := (List.getElem?_eq_some_iff.1 hl).1
      obtain ⟨z', es', fs, e1, e2, e3⟩ := hlive s hs _ _ hl
      have : Slot.live z es = Slot.live z' es' := by
        have : some (Slot.live z es) = some (Slot.live z' es') := hl.symm.trans e1
        simpa using this
      cases this
      obtain ⟨k1, k2⟩ := e3.ok G
      obtain ⟨g2, o, gg, g4, g5, g6⟩ := S.rel.livx (f s) z _ e2
      refine ⟨g2, o, gg, g4, g5.congr k1 fun i e he => ?_, fun i e he j x hx => ?_⟩
      · obtain ⟨g, hg, hl, _⟩ := k2 i e he
        exact ⟨g, hg, hl⟩
      · obtain ⟨g, hg, hl, hc⟩ := k2 i e he
        obtain ⟨y, hy, hok⟩ := hc j x hx
        exact hok _ (g6 i g hg j y hy)
    · obtain ⟨k1, k2⟩ := hDlive s hs
      obtain ⟨k3, k4⟩ := hDlive t ht
      exact hinj s k1 t k3 (S.rel.inj _ _ k2 k4 hr)
  · refine ⟨by rw [S.vrs.1, h1], fun i x hx => ?_⟩
    rcases h2 i x hx with rfl | ⟨y, h3, h4⟩
    · exact .any _
    · exact h4 _ (S.vrs.2 i _ h3)
  · exact ⟨rfl, rfl, rfl, rfl, Nat.le_refl _, fun s hs _ => ⟨hused s (by omega), congrArg C.r (hid s hs)⟩, fun b hb hno => ⟨rfl, fun ⟨s, hs, hr⟩ => hno ⟨f s, (hDlive s hs).2, hr⟩⟩, fun b x hx => hx⟩
theorem Loop.introN {P : Program} {n : Nat} {c : ACode} {Q : APost} {a : AAct} {h : AHeap} (I : AAct → AHeap → Prop) (m : AAct → AHeap → Nat) (a' : AAct) (h' : AHeap) (hw : Wk n a h a' h') (h0 : I a' h')
    (round : ∀ a h, I a h → ∀ w, w = std → ∀ Q' : APost, (∀ a1 h1 a2 h2, Wk n a1 h1 a2 h2 → I a2 h2 → m a2 h2 < m a h → Q' .normal a1 h1) → (∀ k a1 h1, Q (.exit k) a1 h1 → Q' (.exit k) a1 h1) → (∀ a1 h1, Q .ret a1 h1 → Q' .ret a1 h1) → vcCodeY w P (elems [] c) n c Q' a h) : Loop P n c Q a h :=
  ⟨ALoop.intro I m a' h' hw h0 fun a h hI => vcCodeY_sound (fun _ _ _ h => h) (round a h hI std rfl _ (fun a1 h1 a2 h2 w2 i2 m2 => ⟨a2, h2, w2, i2, m2⟩) (fun k a1 h1 hq => hq) (fun a1 h1 hq => hq))⟩
theorem Loop.dataN {P : Program} {n : Nat} {w : Prims} (hw : w = std) {c : ACode} {Q : APost} {a : AAct} {h : AHeap} {S : Type} (st : S → AAct) (hp : S → AHeap) (inv : S → Prop) (m : S → Nat) (s0 : S) (hwk : Wk n a h (st s0) (hp s0)) (h0 : inv s0)
    (round : ∀ s, inv s → ∀ Q' : APost, (∀ s' a1 h1, Wk n a1 h1 (st s') (hp s') → inv s' → m s' < m s → Q' .normal a1 h1) → (∀ k a1 h1, Q (.exit k) a1 h1 → Q' (.exit k) a1 h1) → (∀ a1 h1, Q .ret a1 h1 → Q' .ret a1 h1) → vcCodeY w P (elems [] c) n c Q' (st s) (hp s)) : Loop P n c Q a h :=
  Loop.introN (fun a h => ∃ s, st s = a ∧ hp s = h ∧ inv s) (leastM st hp inv m) (st s0) (hp s0) hwk ⟨s0, rfl, rfl, h0⟩ (by
    intro a h hI w' hw' Q' hN hE hR
    obtain rfl : w' = w := hw'.trans hw.symm
    obtain ⟨s, rfl, rfl, h1, h2⟩ := leastM_get (m := m) hI
    refine round s h1 Q' (fun s' a1 h1 k1 k2 k3 => hN _ _ _ _ k1 ⟨s', rfl, rfl, k2⟩ ?_) hE hR
    rw [← h2]
    exact Nat.lt_of_le_of_lt (leastM_le k2) k3)
end Go.Eng
