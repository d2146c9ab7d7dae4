/- The engine, frames: a call that is shown at a small heap, made in a greater one. -/
import Derived.Test.YtdjafcjpnjdphaaDoorEng33
set_option linter.unusedVariables false
set_option linter.unusedSimpArgs false
namespace Go.Eng
open Go Go.RowKit
/-- From the small state to the great one. -/
theorem VR.rens {C D : Cfg} {f : Nat → Nat} {m : Nat} (hw : C.w = D.w) (ho : ∀ b, C.own b → D.own b) (hs : ∀ s, s < m → D.used s → C.used (f s) ∧ C.r (f s) = D.r s) {x : AV} {v : Value} (h : VR D x v) : x.upto m = true → VR C (x.ren f) v := by
  induction h with
  | any v => exact fun _ => .any v
  | bool b => exact fun _ => .bool b
  | int k n => exact fun _ => .int k n
  | str s => exact fun _ => .str s
  | nilp => exact fun _ => .nilp
  | nils => exact fun _ => .nils
  | emp a => exact fun _ => .emp a
  | nilFunc => exact fun _ => .nilFunc
  | nilIface => exact fun _ => .nilIface
  | agg cs vs hl h ih =>
    intro hb
    refine .agg (renL f cs) vs (by rw [renL_len]; exact hl) fun i x hi => ?_
    rw [renL_get] at hi
    cases hc : cs[i]? with
    | none => rw [hc] at hi; cases hi
    | some y => rw [hc] at hi; simp only [Option.map_some, Option.some.injEq] at hi; subst hi; exact ih i y hc (uptoL_get hb hc)
  | tuple cs vs hl h ih =>
    intro hb
    refine .tuple (renL f cs) vs (by rw [renL_len]; exact hl) fun i x hi => ?_
    rw [renL_get] at hi
    cases hc : cs[i]? with
    | none => rw [hc] at hi; cases hi
    | some y => rw [hc] at hi; simp only [Option.map_some, Option.some.injEq] at hi; subst hi; exact ih i y hc (uptoL_get hb hc)
  | list z es a n cap g hn hc ha hz hcell hown hv ih =>
    intro hb
    have hlen : (renLL f es).length = es.length := by
      exact renLL_len f es
    refine .list z (renLL f es) a n cap g (by rw [hlen]; exact hn) hc ha (fun e he => ?_) (fun i j hi hj => by rw [hw]; exact hcell i j hi hj) (fun h1 h2 h3 => hown h1 h2 (ho _ h3)) fun i e he j x hx => ?_
    · obtain ⟨i, hi⟩ := List.mem_iff_getElem?.1 he
      rw [renLL_get] at hi
      cases hc : es[i]? with
      | none => rw [hc] at hi; cases hi
      | some y => rw [hc] at hi; simp only [Option.map_some, Option.some.injEq] at hi; subst hi; rw [renL_len]; exact hz y (List.mem_of_getElem? hc)
    · rw [renLL_get] at he
      cases hc : es[i]? with
      | none => rw [hc] at he; cases he
      | some y =>
        rw [hc] at he; simp only [Option.map_some, Option.some.injEq] at he; subst he
        rw [renL_get] at hx
        cases hc2 : y[j]? with
        | none => rw [hc2] at hx; cases hx
        | some u => rw [hc2] at hx; simp only [Option.map_some, Option.some.injEq] at hx; subst hx; exact ih i y hc j u hc2 (uptoL_get (uptoLL_get hb hc) hc2)
  | listNil z a cap => exact fun _ => .listNil z a cap
  | sl s z i n cap hu hc hsz =>
    intro hb
    simp only [AV.upto, decide_eq_true_eq] at hb
    obtain ⟨h1, h2⟩ := hs s hb hu
    obtain ⟨e, k, hk, hle⟩ := hsz
    rw [← h2] at hk ⊢
    exact .sl (f s) z i n cap h1 hc ⟨e, k, by rw [hw]; exact hk, hle⟩
  | ref s z i o hu =>
    intro hb
    simp only [AV.upto, decide_eq_true_eq] at hb
    obtain ⟨h1, h2⟩ := hs s hb hu
    rw [← h2]
    exact .ref (f s) z i o h1
  | mapr s hu =>
    intro hb
    simp only [AV.upto, decide_eq_true_eq] at hb
    obtain ⟨h1, h2⟩ := hs s hb hu
    rw [← h2]
    exact .mapr (f s) h1
  | cref cs a g ha hcell hown hv ih =>
    intro hb
    refine .cref (renL f cs) a g ha (fun j hj => by rw [hw]; rw [renL_len] at hj; exact hcell j hj) (fun h1 h3 => hown (by rwa [renL_len] at h1) (ho _ h3)) fun j x hx => ?_
    rw [renL_get] at hx
    cases hc : cs[j]? with
    | none => rw [hc] at hx; cases hx
    | some y => rw [hc] at hx; simp only [Option.map_some, Option.some.injEq] at hx; subst hx; exact ih j y hc (uptoL_get hb hc)
  | func fn first caps vf vc hf hc h1 h2 ih1 ih2 =>
    intro hb
    simp only [AV.upto, Bool.and_eq_true] at hb
    refine .func fn (renL f first) (renL f caps) vf vc (by rw [renL_len]; exact hf) (by rw [renL_len]; exact hc) (fun i x hx => ?_) fun i x hx => ?_
    · rw [renL_get] at hx
      cases hc : first[i]? with
      | none => rw [hc] at hx; cases hx
      | some y => rw [hc] at hx; simp only [Option.map_some, Option.some.injEq] at hx; subst hx; exact ih1 i y hc (uptoL_get hb.1 hc)
    · rw [renL_get] at hx
      cases hc : caps[i]? with
      | none => rw [hc] at hx; cases hx
      | some y => rw [hc] at hx; simp only [Option.map_some, Option.some.injEq] at hx; subst hx; exact ih2 i y hc (uptoL_get hb.2 hc)
  | iface t x v h ih => exact fun hb => .iface t _ v (ih hb)
def renS (f : Nat → Nat) : Slot → Slot
  | .live z es => .live z (renLL f es)
  | s => s
/-- The great heap behind the call: the small one's slots laid back. -/
def updH (f : Nat → Nat) (hD : AHeap) : Nat → AHeap → AHeap
  | 0, h => h
  | m + 1, h => (updH f hD m h).set (f m) (renS f (hD.getD m .free))
section
variable {f : Nat → Nat} {hD : AHeap}
theorem updH_len : ∀ (m : Nat) (h : AHeap), (updH f hD m h).length = h.length
  | 0, h => rfl
  | m + 1, h => by simp [updH, updH_len m h]
theorem updH_ne {s : Nat} : ∀ (m : Nat) (h : AHeap), (∀ i, i < m → f i ≠ s) → (updH f hD m h)[s]? = h[s]?
  | 0, h, _ => rfl
  | m + 1, h, hn => by
    rw [updH, List.getElem?_set_ne (hn m (by omega))]
    exact updH_ne m h fun i hi => hn i (by omega)
theorem updH_at {i : Nat} : ∀ (m : Nat) (h : AHeap), i < m → (∀ j, j < m → f i = f j → i = j) → f i < h.length → (updH f hD m h)[f i]? = some (renS f (hD.getD i .free))
  | m + 1, h, hi, hinj, hl => by
    rw [updH]
    by_cases him : i = m
    · subst him
      rw [List.getElem?_set_self (by rw [updH_len]; exact hl)]
    · rw [List.getElem?_set_ne (fun e => him (hinj m (by omega) e.symm))]
      exact updH_at m h (by omega) (fun j hj => hinj j (by omega)) hl
end
theorem ACall.frame {P : Program} {g : FuncId} {args0 args : List AV} {h0 h : AHeap} {K0 K : AV → AHeap → Prop} (f : Nat → Nat) (H : ACall P g args0 h0 K0)
    (hinj : ∀ i, i < h0.length → ∀ j, j < h0.length → f i = f j → i = j)
    (hh : ∀ i, i < h0.length → ∃ z es, h0[i]? = some (.live z es) ∧ uptoLL h0.length es = true ∧ h[f i]? = some (.live z (renLL f es)))
    (ha : uptoL h0.length args0 = true) (hr : renL f args0 = args)
    (hK : ∀ r hD, K0 r hD → r.upto h0.length = true ∧ (∀ i, i < h0.length → ∃ z es, hD[i]? = some (.live z es) ∧ uptoLL h0.length es = true) ∧ K (r.ren f) (updH f hD h0.length h)) : ACall P g args h K := by
  refine ⟨H.1, fun C vs hC RC hv => ?_⟩
  subst hC
  obtain ⟨C0, eC0⟩ : ∃ C0 : Cfg, C0 = { O := fun b => C.O b ∨ ∃ s, C.live s ∧ C.r s = b ∧ ∀ i, i < h0.length → f i ≠ s, r := fun i => C.r (f i), h := h0, w := C.w } := ⟨_, rfl⟩
  have c0h : C0.h = h0 := by rw [eC0]
  have c0w : C0.w = C.w := by rw [eC0]
  have c0r : ∀ i, C0.r i = C.r (f i) := fun i => by rw [eC0]
  have c0O : ∀ b, C0.O b ↔ (C.O b ∨ ∃ s, C.live s ∧ C.r s = b ∧ ∀ i, i < h0.length → f i ≠ s) := fun b => by rw [eC0]
  have live0 : ∀ i, C0.live i → i < h0.length ∧ C.live (f i) := by
    rintro i ⟨z, es, hx⟩
    rw [c0h] at hx
    have hi := (List.getElem?_eq_some_iff.1 hx).1
    obtain ⟨z', es', _, _, e3⟩ := hh i hi
    exact ⟨hi, _, _, e3⟩
  have live1 : ∀ i, i < h0.length → C0.live i := fun i hi => by
    obtain ⟨z', es', e1, _, _⟩ := hh i hi
    exact ⟨_, _, by rw [c0h]; exact e1⟩
  have flt : ∀ i, i < h0.length → f i < C.h.length := fun i hi => by
    obtain ⟨z', es', _, _, e3⟩ := hh i hi
    exact (List.getElem?_eq_some_iff.1 e3).1
  have own0 : ∀ b, C0.own b → C.own b := by
    rintro b (hb | ⟨s, hs, hr⟩)
    · rcases (c0O b).1 hb with hb | ⟨s, hs, hr, _⟩
      · exact .inl hb
      · exact .inr ⟨s, hs, hr⟩
    · exact .inr ⟨f s, (live0 s hs).2, by rw [← c0r]; exact hr⟩
  have used0 : ∀ s, s < C0.h.length → C.used (f s) → C0.used s ∧ C0.r s = C.r (f s) := fun s hs _ => by
    rw [c0h] at hs
    exact ⟨Cfg.used_of_live (live1 s hs), c0r s⟩
  have R0 : Rel C0 := by
    refine ⟨fun s z es hl => ?_, fun s t hs ht hr => ?_, fun b hb => ?_, fun p hp => (RC.glo p hp).recfg c0w own0 (gs_upto hp 0), fun p hp => by rw [c0w]; exact RC.gsz p hp⟩
    · rw [c0h] at hl
      have hs := (List.getElem?_eq_some_iff.1 hl).1
      obtain ⟨z', es', e1, e2, e3⟩ := hh s hs
      rw [hl] at e1
      have e1 : Slot.live z es = Slot.live z' es' := by simpa using e1
      cases e1
      obtain ⟨g2, o, gg, g4, g5, g6⟩ := RC.livx (f s) z _ e3
      have hlen : es.length = (renLL f es).length := by
        exact (renLL_len f es).symm
      refine ⟨fun hO => ?_, o, gg, by rw [c0w, c0r]; exact g4, g5.congr hlen fun i e he => ⟨renL f e, by rw [renLL_get, he]; rfl, by rw [renL_len]⟩, fun i e he j x hx => ?_⟩
      · rw [c0r] at hO
        rcases (c0O _).1 hO with hO | ⟨t, ht, hr, hn⟩
        · exact g2 hO
        · exact hn s hs (RC.inj t (f s) ht ⟨_, _, e3⟩ hr).symm
      · have hup := uptoL_get (uptoLL_get e2 he) hx
        exact VR.unren c0w own0 used0 (g6 i (renL f e) (by rw [renLL_get, he]; rfl) j (x.ren f) (by rw [renL_get, hx]; rfl)) x (by rw [c0h]; exact hup) rfl
    · obtain ⟨a1, a2⟩ := live0 s hs
      obtain ⟨b1, b2⟩ := live0 t ht
      rw [c0r, c0r] at hr
      exact hinj s a1 t b1 (RC.inj _ _ a2 b2 hr)
    · rw [c0w]
      rcases (c0O b).1 hb with hb | ⟨s, hs, rfl, _⟩
      · exact RC.olt b hb
      · exact RC.lown_lt ⟨s, hs, rfl⟩
  have v0 : VRs C0 args0 vs := by
    refine ⟨by rw [hv.1, ← hr, renL_len], fun i x hx => ?_⟩
    exact VR.unren c0w own0 used0 (hv.2 i (x.ren f) (by rw [← hr, renL_get, hx]; rfl)) x (by rw [c0h]; exact uptoL_get ha hx) rfl
  have hH := H.2 C0 vs c0h R0 v0
  rw [c0w] at hH
  refine hH.mono fun e w' ⟨v, r, D, h1, h2, h3, h5, h6, h7, h8⟩ => ?_
  subst h3
  obtain ⟨k1, k2, k3⟩ := hK r D.h h2
  obtain ⟨C', eC'⟩ : ∃ C' : Cfg, C' = { O := C.O, r := C.r, h := updH f D.h h0.length C.h, w := D.w } := ⟨_, rfl⟩
  have ch : C'.h = updH f D.h h0.length C.h := by rw [eC']
  have cw : C'.w = D.w := by rw [eC']
  have cr : ∀ s, C'.r s = C.r s := fun s => by rw [eC']
  have cO : C'.O = C.O := by rw [eC']
  have hat : ∀ i, i < h0.length → ∃ z es, D.h[i]? = some (.live z es) ∧ uptoLL h0.length es = true ∧ C'.h[f i]? = some (.live z (renLL f es)) := fun i hi => by
    obtain ⟨z, es, e1, e2⟩ := k2 i hi
    refine ⟨z, es, e1, e2, ?_⟩
    rw [ch, updH_at h0.length C.h hi (fun j hj => hinj i hi j hj) (flt i hi), List.getD_eq_getElem?_getD, e1]
    rfl
  have hne : ∀ s, (∀ i, i < h0.length → f i ≠ s) → C'.h[s]? = C.h[s]? := fun s hs => by rw [ch]; exact updH_ne h0.length C.h hs
  have dec : ∀ s, (∃ i, i < h0.length ∧ f i = s) ∨ ∀ i, i < h0.length → f i ≠ s := fun s => by
    by_cases hx : ∃ i, i < h0.length ∧ f i = s
    · exact .inl hx
    · exact .inr fun i hi e => hx ⟨i, hi, e⟩
  have livC : ∀ s, C'.live s ↔ C.live s := by
    intro s
    rcases dec s with ⟨i, hi, rfl⟩ | hs
    · obtain ⟨z, es, _, _, e3⟩ := hat i hi
      obtain ⟨z', es', _, _, e3'⟩ := hh i hi
      exact ⟨fun _ => ⟨_, _, e3'⟩, fun _ => ⟨_, _, e3⟩⟩
    · constructor
      · rintro ⟨z, es, hx⟩; exact ⟨z, es, by rw [← hne s hs]; exact hx⟩
      · rintro ⟨z, es, hx⟩; exact ⟨z, es, by rw [hne s hs]; exact hx⟩
  have lownC : ∀ b, C'.lown b ↔ C.lown b := by
    intro b
    constructor
    · rintro ⟨s, hs, hr⟩; exact ⟨s, (livC s).1 hs, by rw [← cr]; exact hr⟩
    · rintro ⟨s, hs, hr⟩; exact ⟨s, (livC s).2 hs, by rw [cr]; exact hr⟩
  have lown0 : ∀ b, C0.lown b → C.lown b := by
    rintro b ⟨s, hs, hr⟩
    exact ⟨f s, (live0 s hs).2, by rw [← c0r]; exact hr⟩
  have usedD : ∀ s, s < h0.length → D.used s ∧ D.r s = C.r (f s) := fun s hs => by
    have := h7.used s hs (Cfg.used_of_live (live1 s hs))
    exact ⟨this.1, by rw [this.2, c0r]⟩
  have E : ∀ n, Ext n C C' := fun n => by
    refine ⟨cO, by rw [cw, h7.os, c0w], by rw [cw, h7.tape, c0w], by rw [cw, h7.output, c0w], by rw [cw]; have := h7.size; rw [c0w] at this; exact this, fun s _ hu => ⟨?_, cr s⟩, fun b hb hl => ⟨?_, fun hl' => hl ((lownC b).1 hl')⟩, fun b x hx => ?_⟩
    · rcases dec s with ⟨i, hi, rfl⟩ | hs
      · obtain ⟨z, es, _, _, e3⟩ := hat i hi
        exact ⟨_, e3, by simp⟩
      · obtain ⟨x, hx, hf⟩ := hu
        exact ⟨x, by rw [hne s hs]; exact hx, hf⟩
    · have := (h7.keep b (by rw [c0w]; exact hb) (fun h => hl (lown0 b h))).1
      rw [cw, this, c0w]
    · rw [cw]
      exact h7.shape b x (by rw [c0w]; exact hx)
  have ownD : ∀ b, C'.own b → D.own b := by
    rintro b (hb | ⟨s, hs, hr⟩)
    · rw [cO] at hb
      exact .inl (by rw [h7.O]; exact (c0O b).2 (.inl hb))
    · rw [cr] at hr
      have hs := (livC s).1 hs
      rcases dec s with ⟨i, hi, rfl⟩ | hsn
      · obtain ⟨z, es, e1, _, _⟩ := hat i hi
        exact .inr ⟨i, ⟨z, es, e1⟩, by rw [(usedD i hi).2]; exact hr⟩
      · exact .inl (by rw [h7.O]; exact (c0O b).2 (.inr ⟨s, hs, hr, hsn⟩))
  have usedC : ∀ s, s < h0.length → D.used s → C'.used (f s) ∧ C'.r (f s) = D.r s := fun s hs _ => by
    obtain ⟨z, es, _, _, e3⟩ := hat s hs
    exact ⟨⟨_, e3, by simp⟩, by rw [cr, (usedD s hs).2]⟩
  have RC' : Rel C' := by
    refine RC.of_ext (E _) (fun s z es hl => ?_) fun s t hs ht hr => ?_
    · rcases dec s with ⟨i, hi, rfl⟩ | hs
      · refine .inr ?_
        obtain ⟨z', es', e1, e2, e3⟩ := hat i hi
        rw [hl] at e3
        have e3 : Slot.live z es = Slot.live z' (renLL f es') := by simpa using e3
        cases e3
        obtain ⟨g2, o, gg, g4, g5, g6⟩ := h5.livx i z _ e1
        have hlen : (renLL f es').length = es'.length := by
          exact renLL_len f es'
        refine ⟨fun hO => ?_, o, gg, by rw [cw, cr, ← (usedD i hi).2]; exact g4, g5.congr hlen fun j e he => ?_, fun j e he q x hx => ?_⟩
        · rw [cr, cO] at hO
          obtain ⟨z1, es1, _, _, e3'⟩ := hh i hi
          exact (RC.livx (f i) z1 _ e3').1 hO
        · rw [renLL_get] at he
          cases hc : es'[j]? with
          | none => rw [hc] at he; cases he
          | some y => rw [hc] at he; simp only [Option.map_some, Option.some.injEq] at he; subst he; exact ⟨y, rfl, by rw [renL_len]⟩
        · rw [renLL_get] at he
          cases hc : es'[j]? with
          | none => rw [hc] at he; cases he
          | some y =>
            rw [hc] at he; simp only [Option.map_some, Option.some.injEq] at he; subst he
            rw [renL_get] at hx
            cases hc2 : y[q]? with
            | none => rw [hc2] at hx; cases hx
            | some u =>
              rw [hc2] at hx; simp only [Option.map_some, Option.some.injEq] at hx; subst hx
              exact VR.rens cw ownD usedC (g6 j y hc q u hc2) (uptoL_get (uptoLL_get e2 hc) hc2)
      · refine .inl ⟨by rw [← hne s hs]; exact hl, cr s, ?_⟩
        have hlv : C.live s := (livC s).1 ⟨z, es, hl⟩
        have hb := RC.lown_lt ⟨s, hlv, rfl⟩
        have := (h7.keep (C.r s) (by rw [c0w]; exact hb) (fun h => by
          obtain ⟨t, ht, hr⟩ := h
          obtain ⟨t1, t2⟩ := live0 t ht
          rw [c0r] at hr
          exact hs t t1 (RC.inj _ _ t2 hlv hr))).1
        rw [cw, this, c0w]
    · rw [cr, cr] at hr
      exact RC.inj s t ((livC s).1 hs) ((livC t).1 ht) hr
  refine ⟨v, r.ren f, C', h1, by rw [ch]; exact k3, cw, RC', VR.rens cw ownD usedC h6 k1, E _, by rw [ch, updH_len]; exact Nat.le_refl _⟩
end Go.Eng
