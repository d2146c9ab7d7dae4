/- The engine: a slice that is written out in a statement of open order is an own one, too. -/
import Derived.Test.YtdjafcjpnjdphaaDoorEngL
set_option linter.unusedVariables false
set_option linter.unusedSimpArgs false
namespace Go.Eng
open Go Go.RowKit
theorem AWp.drawG {P : Program} {n : Nat} {Q : APost} {a : AAct} {h : AHeap} {id : Nat} {l0 : List Oper} {hd : List AOper} {ops : Array Oper} {KK : AAct → AHeap → Prop} (hperm : ∀ Q a w, wpAny P .any l0.toArray Q l0.length (Array.replicate l0.length false) a w → wpAny P .any ops Q ops.size (Array.replicate ops.size false) a w) (hm : P.follows .mixedOrders = true) (hB : headB l0 hd = true)
    (hc1 : cOpers P l0 (l0.take hd.length) = some hd) (hQp : ∀ c a h, ¬ Q (.panic c) a h) (H : vcHead P h KK hd a [])
    (hT : ∀ (C D : Cfg) a' news' act', KK a' news' → D.h = h ++ news' → St D a' act' → n ≤ D.h.length → Ext n C D → wpList P l0.toArray (CPost n C Q) (l0.drop hd.length) act' D.w) : AWp P n (.region id ops true) Q a h := by
  intro C act hC S hn
  obtain ⟨rs, a', news', hch, hK⟩ := chain_of hc1 H
  obtain ⟨c1, c2, c3, c4, c5, c6⟩ := hch.at
  obtain ⟨b1, b2, b3, b4⟩ := headB_spec hB
  have hle : hd.length ≤ l0.length := by rcases b3 with h | h <;> omega
  simp only [List.nil_append] at c5
  refine wp_region_any hm (hperm _ _ _ ?_)
  obtain ⟨R1, E1⟩ := S.rel.sameHeap (w := { C.w with drawn := C.w.drawn + 1 }) rfl rfl rfl rfl C.h.length
  have hfree : ∀ (s : Nat) (x : Slot), x ≠ Slot.free → ((C.h ++ List.replicate (rs.map (·.2)).flatten.length .free)[s]? = some x ↔ C.h[s]? = some x) := by
    intro s x hx
    by_cases hs : s < C.h.length
    · rw [List.getElem?_append_left hs]
    · rw [List.getElem?_append_right (by omega), List.getElem?_eq_none (show C.h.length ≤ s by omega), List.getElem?_replicate]
      constructor
      · intro hh
        split at hh
        · cases hh; exact absurd rfl hx
        · cases hh
      · intro hh; cases hh
  obtain ⟨R2, E2⟩ := R1.reserve (C.h ++ List.replicate (rs.map (·.2)).flatten.length .free) hfree C.h.length
  have E12 := E1.trans E2
  generalize hC1 : ({ C with w := { C.w with drawn := C.w.drawn + 1 }, h := C.h ++ List.replicate (rs.map (·.2)).flatten.length .free } : Cfg) = C1 at R2 E2 E12
  have hC1h : C1.h = C.h ++ List.replicate (rs.map (·.2)).flatten.length .free := by rw [← hC1]
  have hC1w : C1.w = { C.w with drawn := C.w.drawn + 1 } := by rw [← hC1]
  have I0 : HInv C.h hd rs a (fun i => (Array.replicate l0.length false).getD i false) C1 act := by
    have hS : (fun i => (Array.replicate l0.length false).getD i false) = fun _ => false := by funext i; exact getD_replicate_false _ _
    rw [hS]
    refine ⟨R2, S.nodef, S.vrs.1, by rw [hC1h]; simp, fun k hk => by rw [hC1h, List.getElem?_append_left hk], fun i x hx => ?_, fun t ht => ?_⟩
    · have := posOf_get hx
      have hlt := (List.getElem?_eq_some_iff.1 this).1
      rw [hC1h, List.getElem?_append_right (by omega), List.getElem?_replicate, if_pos (by omega)]
      simp
    · rw [cur_none]
      exact E12.vr' (S.vrs.get t)
  have main := head_any (Q := CPost n C Q) hch (fun i hi => by rw [List.getElem?_take, if_pos hi]) hB (fun c a w ⟨a', D, h1, _⟩ => hQp c a' D.h h1) C1 (by rw [hC1h]; subst hC; simp) (fun D act' I E => ?_) hd.length (Array.replicate l0.length false) C1 act
    (by
      have hS : (fun i => (Array.replicate l0.length false).getD i false) = fun _ => false := by funext i; exact getD_replicate_false _ _
      rw [hS]; exact cntU_all _)
    ⟨by simp, fun j _ _ hl => (by rw [getD_replicate_false] at hl; cases hl), fun t _ ht => getD_in (by simpa using ht) (getD_replicate_false _ _)⟩ (hC ▸ I0) (Ext.refl _ _) rfl
  · rw [hC1w] at main
    rw [show hd.length + (l0.length - hd.length) = l0.length by omega] at main
    simpa using main
  · -- all of the head is done
    have hDh : D.h = C.h ++ news' := by
      apply List.ext_getElem?
      intro k
      by_cases hk : k < C.h.length
      · rw [List.getElem?_append_left hk]; subst hC; exact I.old k hk
      · by_cases hk2 : k - C.h.length < (rs.map (·.2)).flatten.length
        · obtain ⟨i, x, h1, h2, h3⟩ := pos_ex (fun i => by
            by_cases hi : i < hd.length
            · obtain ⟨_, _, _, _, _, _, h4, _⟩ := c6 i hi; exact h4
            · simp only [slotsOf]; rw [List.getElem?_eq_none (by omega)]; simp) hk2
          have := I.new i x h2
          rw [List.getElem?_append_right (by omega), c5]
          have e := posOf_get h2
          rw [h3] at e
          rw [e]
          subst hC
          have hkk : C.h.length + posOf rs i = k := by omega
          rw [hkk] at this
          simpa using this
        · rw [List.getElem?_eq_none (by rw [I.len]; subst hC; omega), List.getElem?_eq_none (by rw [List.length_append, c5]; omega)]
    have S' : St D a' act' := by
      refine ⟨I.rel, ⟨by rw [I.size, c3], fun t x hx => ?_⟩, I.nodef⟩
      have htl : t < a.length := by
        have := (List.getElem?_eq_some_iff.1 hx).1
        omega
      have := I.vrs t htl
      rw [← c4 t htl, List.getD_eq_getElem?_getD, hx] at this
      exact this
    have hnD : n ≤ D.h.length := by rw [hDh]; subst hC; simp; omega
    have E' : Ext n C D := (E12.mono (hC ▸ hn)).trans (E.mono (by rw [hC1h]; subst hC; simp; omega))
    exact hT C D a' news' act' hK (by rw [hDh, hC]) S' hnD E'


section
variable {P : Program} {n : Nat} {Q : Exit → Act → World → Prop}
/-- A slice that is written out only to be put behind another one, or to be handed to a function. -/
def litArgD (d : Option Nat) (rest : List AOper) : Bool :=
  match d with
  | some t => rest.any fun o => match o.op with | .app _ _ _ (.tmp u) => Nat.beq t u | .call _ xs => xs.any (fun x => match x with | .tmp u => Nat.beq t u | _ => false) | _ => false
  | none => false
/-- Operations of which those that write a slice out give an own one. -/
def vcOpsD (w : Prims) (P : Program) (el : List Nat) (K : AAct → AHeap → Prop) : List AOper → AAct → AHeap → Prop
  | [], a, h => K a h
  | o :: rest, a, h =>
    match o.guard with
    | some _ => False
    | none =>
      match o.op with
      | .bslice z m zero ps => (match litArgD o.dst rest with
        | true => vcOneY w P el o (vcOpsD w P el K rest) a h
        | false => (match fillA (evA a) (List.replicate m zero).flatten ps with | some cs => vcOpsD w P el K rest (putA a o.dst (.sl h.length z 0 m)) (h ++ [.live z (chunks z m cs)]) | none => False))
      | _ => vcOneY w P el o (vcOpsD w P el K rest) a h
theorem vcOpsD_sound {el : List Nat} {K : AAct → AHeap → Prop} {l0 : List Oper} : ∀ {l : List Oper} {al : List AOper} {a : AAct} {C : Cfg} {act : Act}, cOpers P l0 l = some al → St C a act → n ≤ C.h.length → vcOpsD std P el K al a C.h →
    (∀ a' D act', K a' D.h → St D a' act' → Ext n C D → n ≤ D.h.length → Q .normal act' D.w) → wpList P l0.toArray Q l act C.w
  | [], al, a, C, act, hc, S, hn, H, hK => by
    simp only [cOpers, Option.some.injEq] at hc
    subst hc
    exact hK a C act H S (Ext.refl _ _) hn
  | o :: l, al, a, C, act, hc, S, hn, H, hK => by
    simp only [cOpers] at hc
    split at hc
    · rename_i ao al' hao hal
      simp only [Option.some.injEq] at hc
      subst hc
      obtain ⟨h1, h2, h3⟩ := cOper_spec hao
      have next : ∀ a' D act', vcOpsD std P el K al' a' D.h → St D a' act' → Ext n C D → n ≤ D.h.length → wpList P l0.toArray Q l act' D.w := fun a'' D act' k1 k2 k3 k4 =>
        vcOpsD_sound hal k2 k4 k1 fun a3 D3 act3 m1 m2 m3 m4 => hK a3 D3 act3 m1 m2 (k3.trans m3) m4
      unfold wpList
      simp only [vcOpsD] at H
      rcases h3 with ⟨g1, g2⟩ | ⟨j, want, t, g1, g2, g3⟩
      · simp only [g2] at H
        rw [if_pos (by simp [Region.wanted, g1])]
        refine .inl ?_
        split at H
        · rename_i z m zero ps hop
          split at H
          · exact vcOne_sound h1 h2 S hn (vcOneY_sound H fun a h hr => hr) next
          · split at H
            · rename_i cs hcs
              exact litOne_sound (by rw [← hop]; exact h1) h2 S hn hcs H next
            · exact H.elim
        · exact vcOne_sound h1 h2 S hn (vcOneY_sound H fun a h hr => hr) next
      · simp only [g3] at H
    · cases hc
end
/-- Where the first slice is written out that isn't only put behind another one. -/
def litLen (tl : List AOper) : List AOper → Nat
  | [] => 0
  | o :: l => match o.op with
    | .bslice _ _ _ _ => (match litArgD o.dst (l ++ tl) with | true => litLen tl l + 1 | false => 0)
    | _ => litLen tl l + 1
theorem litLen_le (tl : List AOper) : ∀ l : List AOper, litLen tl l ≤ l.length
  | [] => Nat.le_refl _
  | o :: l => by
    have := litLen_le tl l
    unfold litLen
    simp only [List.length_cons]
    split
    · split <;> omega
    · omega
def tailKL (w : Prims) (P : Program) (el : List Nat) (K : AAct → AHeap → Prop) (h : AHeap) (tl : List AOper) : AAct → AHeap → Prop := fun a news => vcOpsD w P el K tl a (h ++ news)
def vcSpD (w : Prims) (P : Program) (el : List Nat) (n : Nat) : ACode → APost → AAct → AHeap → Prop
  | .seq x y, Q, a, h => vcSpD w P el n x (thenA (vcSpD w P el n y Q) Q) a h
  | .draw hd tl, Q, a, h => (match Nat.blt (litLen tl hd) hd.length with
    | true => vcHeadY w P el h (tailKL w P el (Q .normal) h (hd.drop (litLen tl hd) ++ tl)) (hd.take (litLen tl hd)) a []
    | false => vcCodeY w P el n (.draw hd tl) Q a h)
  | .ops l, Q, a, h => (match hasLit l with | true => vcOpsD w P el (Q .normal) l a h | false => vcOpsY w P el (Q .normal) l a h)
  | c, Q, a, h => vcSp w P el n c Q a h
/-- As drawsB, and up to such a slice, too. -/
def drawsD (P : Program) : Code → Bool
  | .seq a b => drawsD P a && drawsD P b
  | .region id ops true => drawsB P (.region id ops true) && (allOrders ops.toList || match cOpers P (reord ops.toList) (reord ops.toList) with
    | some al => headB (reord ops.toList) ((al.take (headLen P al)).take (litLen (al.drop (headLen P al)) (al.take (headLen P al))))
    | none => true)
  | c => drawsB P c
theorem vcSpD_sound {P : Program} {el : List Nat} {n : Nat} : ∀ {code : Code} {c : ACode} {Q Q' : APost} {a : AAct} {h : AHeap}, compileCode P code = some c → drawsD P code = true → (∀ e a h, Q e a h → Q' e a h) → vcSpD std P el n c Q a h → AWp P n code Q' a h
  | .seq x y, c, Q, Q', a, h, hc, hd, hq, H => by
    simp only [compileCode] at hc
    split at hc
    · rename_i p q hp hq2
      simp only [Option.some.injEq] at hc
      subst hc
      simp only [drawsD, Bool.and_eq_true] at hd
      refine AWp.seq (vcSpD_sound hp hd.1 (fun e a h hr => ?_) H)
      cases e with
      | normal => exact vcSpD_sound hq2 hd.2 hq hr
      | _ => exact hq _ _ _ hr
    · cases hc
  | .region id ops true, c, Q, Q', a, h, hc, hd, hq, H => by
    simp only [drawsD, Bool.and_eq_true] at hd
    obtain ⟨hd0, hd1⟩ := hd
    have hc0 := hc
    simp only [compileCode] at hc
    by_cases hll : allOrders ops.toList = true
    · rw [if_pos hll] at hc
      cases hx : cOpers P ops.toList ops.toList with
      | none =>
        simp only [hx, Option.map_none, orBad, Option.some.injEq] at hc
        subst hc
        exact vcSp_sound hc0 hd0 hq H
      | some y =>
        simp only [hx, Option.map_some, orBad, Option.some.injEq] at hc
        subst hc
        exact vcSp_sound hc0 hd0 hq H
    rw [if_neg hll] at hc
    simp only [Bool.or_eq_true] at hd1
    have hd1 := hd1.resolve_left hll
    have hd00 := hd0
    simp only [drawsB] at hd0
    rw [if_neg hll] at hd0
    cases hal : cOpers P (reord ops.toList) (reord ops.toList) with
    | none =>
      rw [hal] at hc
      simp only [Option.map_none, orBad, Option.some.injEq] at hc
      subst hc
      exact vcSp_sound hc0 hd00 hq H
    | some al =>
      rw [hal] at hc hd0 hd1
      simp only [Bool.and_eq_true] at hd0
      simp only at hd1
      simp only [Option.map_some, orBad, Option.some.injEq] at hc
      subst hc
      simp only [vcSpD] at H
      split at H
      · rename_i hlt
        have hlt : litLen (al.drop (headLen P al)) (al.take (headLen P al)) < (al.take (headLen P al)).length := by simpa [Nat.blt_eq] using hlt
        generalize headLen P al = m at *
        generalize hk : litLen (al.drop m) (al.take m) = k at *
        obtain ⟨h1, h2⟩ := cOpers_take hal
        have hkm : k < m ∧ k < al.length := by rw [List.length_take] at hlt; omega
        have e1 : (al.take m).take k = al.take k := by rw [List.take_take, Nat.min_eq_left (by omega)]
        have e2 : (al.take m).drop k ++ al.drop m = al.drop k := by
          have : al.drop k = ((al.take m) ++ al.drop m).drop k := by rw [List.take_append_drop]
          rw [this, List.drop_append_of_le_length (by rw [List.length_take]; omega)]
        obtain ⟨h3, h4⟩ := h2 k
        have ekl : (al.take k).length = k := by rw [List.length_take]; omega
        rw [e1] at H hd1
        rw [e2] at H
        have := AWp.drawG (n := n) (id := id) (ops := ops) (Q := onlyN Q') (KK := fun a news => vcOpsD std P el (Q .normal) (al.drop k) a (h ++ news)) (fun Q a w H => by simpa using reord_any hd0.2.1 Q a w H) hd0.1 hd1 (by rw [ekl]; exact h3) (fun c a h hh => hh)
          (vcHeadY_sound (fun a h hr => hr) H) (fun C D a' news' act' hK hDh S' hnD E' => by
            rw [ekl]
            exact vcOpsD_sound h4 S' hnD (by rw [hDh]; exact hK) fun a3 D3 act3 m1 m2 m3 m4 => ⟨a3, D3, hq _ _ _ m1, rfl, m2, E'.trans m3, m4⟩)
        exact this.post fun e a h hq => by
          cases e with
          | normal => exact ⟨a, h, Wk.refl _ _ _, hq⟩
          | _ => exact hq.elim
      · exact vcSp_sound hc0 hd00 hq H
  | .region id ops false, c, Q, Q', a, h, hc, hd, hq, H => by
    have hc0 := hc
    simp only [compileCode] at hc
    cases hx : cOpers P ops.toList ops.toList with
    | none =>
      simp only [hx, Option.map_none, orBad, Option.some.injEq] at hc
      subst hc
      exact vcSp_sound hc0 hd hq H
    | some al =>
      simp only [hx, Option.map_some, orBad, Option.some.injEq] at hc
      subst hc
      simp only [vcSpD] at H
      split at H
      · intro C act hC S hn
        refine wp_region_list ?_
        have := vcOpsD_sound (Q := CPost n C Q') (n := n) hx S (hC ▸ hn) (by subst hC; exact H) fun a3 D3 act3 m1 m2 m3 m4 => ⟨a3, D3, hq _ _ _ m1, rfl, m2, m3, m4⟩
        simpa using this
      · have hH : vcCodeY std P el n (.ops al) Q a h := H
        exact vc_sound hc0 hd (vcCodeY_sound hq hH)
  | .skip, c, Q, Q', a, h, hc, hd, hq, H => by
    have hc0 := hc
    simp only [compileCode, Option.some.injEq] at hc
    subst hc
    exact vcSp_sound hc0 hd hq H
  | .ret, c, Q, Q', a, h, hc, hd, hq, H => by
    have hc0 := hc
    simp only [compileCode, Option.some.injEq] at hc
    subst hc
    exact vcSp_sound hc0 hd hq H
  | .exit id, c, Q, Q', a, h, hc, hd, hq, H => by
    have hc0 := hc
    simp only [compileCode, Option.some.injEq] at hc
    subst hc
    exact vcSp_sound hc0 hd hq H
  | .cond x p q, c, Q, Q', a, h, hc, hd, hq, H => by
    have hc0 := hc
    simp only [compileCode] at hc
    split at hc
    · simp only [Option.some.injEq] at hc
      subst hc
      exact vcSp_sound hc0 hd hq H
    · cases hc
  | .block id x, c, Q, Q', a, h, hc, hd, hq, H => by
    have hc0 := hc
    simp only [compileCode] at hc
    cases hx : compileCode P x with
    | none => simp [hx] at hc
    | some y =>
      simp only [hx, Option.map_some, Option.some.injEq] at hc
      subst hc
      exact vcSp_sound hc0 hd hq H
  | .loop x, c, Q, Q', a, h, hc, hd, hq, H => by
    have hc0 := hc
    simp only [compileCode] at hc
    cases hx : compileCode P x with
    | none => simp [hx] at hc
    | some y =>
      simp only [hx, Option.map_some, Option.some.injEq] at hc
      subst hc
      exact vcSp_sound hc0 hd hq H
  | .rangeFunc _ _ _ _, c, Q, Q', a, h, hc, hd, hq, H => by
    have hc0 := hc
    simp only [compileCode, Option.some.injEq] at hc
    subst hc
    exact vcSp_sound hc0 hd hq H
  | .scope _, c, Q, Q', a, h, hc, hd, hq, H => by
    have hc0 := hc
    simp only [compileCode, Option.some.injEq] at hc
    subst hc
    exact vcSp_sound hc0 hd hq H
  | .label _, c, Q, Q', a, h, hc, hd, hq, H => by
    have hc0 := hc
    simp only [compileCode, Option.some.injEq] at hc
    subst hc
    exact vcSp_sound hc0 hd hq H
  | .goto _, c, Q, Q', a, h, hc, hd, hq, H => by
    have hc0 := hc
    simp only [compileCode, Option.some.injEq] at hc
    subst hc
    exact vcSp_sound hc0 hd hq H
  | .refuse _, c, Q, Q', a, h, hc, hd, hq, H => by
    have hc0 := hc
    simp only [compileCode, Option.some.injEq] at hc
    subst hc
    exact vcSp_sound hc0 hd hq H
def drawsFD (P : Program) (fn : Func) : Bool := match fn.body with | some c => drawsD P c | none => true
def vcFunD (w : Prims) (F : Option AFun) (P : Program) (args : List AV) (R : AV → Prop) : Prop :=
  match F with
  | some F => vcSpD w P (elems [] F.code) 0 F.code (retQX F.rets R) (initA args F.n) []
  | none => False
theorem PCalls.ofD {P : Program} {g : FuncId} {fn : Func} {args : List AV} {R : AV → Prop} (hf : P.funcs[g]? = some fn) (hname : (fn.name == "runtime.NumGoroutine") = false) (hdr : drawsFD P fn = true) (H : ∀ w, w = std → ∀ R' : AV → Prop, (∀ r, R r → R' r) → vcFunD w (compileF P fn) P args R') : PCalls P g args R := by
  have H := H std rfl R fun _ h => h
  unfold vcFunD at H
  split at H
  · rename_i F hc
    unfold compileF at hc
    split at hc
    · rename_i code hb
      split at hc
      · rename_i c r hcc hr
        simp only [Option.some.injEq] at hc
        subst hc
        have HA : AWp P 0 code (retQ r R) (initA args fn.ntmps) [] := vcSpD_sound hcc (by unfold drawsFD at hdr; rw [hb] at hdr; exact hdr) (fun e a h hr => retQX_std e a h hr) H
        refine ⟨⟨fn, hf, by simp [hb], hname⟩, fun C vs hC RC hv => ?_⟩
        refine calls_of_wp hf hb ?_
        refine wp_mono (HA C _ hC (init_st RC hv fn.ntmps) (Nat.zero_le _)) fun e act' w' ⟨a', D, h1, h2, h3, h4, h5⟩ => ?_
        have fin : (∃ l, retVs a' D.h r = some l ∧ ∃ x, Vw D.h (retOne l) x ∧ R x) → act'.defers = [] ∧ ∃ v, (results fn act'.tmps).run P w' = .ok v w' ∧
            ∃ v' r D, Ending.returned v = .returned v' ∧ R r ∧ D.h = [] ∧ D.w = w' ∧ Rel D ∧ VR D r v' ∧ Ext 0 C D := by
          rintro ⟨l, hl, x, hx, hRx⟩
          obtain ⟨u, k1, k2⟩ := run_results hr h3 hl
          subst h2
          refine ⟨h3.nodef, u, k1, u, x, { D with h := [] }, rfl, hRx, rfl, rfl, ?_, hx D rfl h3.rel u k2, ?_⟩
          · exact ⟨fun s z es h => by simp at h, fun s t ⟨z, es, h⟩ => by simp at h, h3.rel.olt, fun p hp => (h3.rel.glo p hp).recfg (C := D) (D := { D with h := [] }) rfl (fun b hb => hb.elim .inl fun ⟨s, ⟨z, es, h⟩, _⟩ => by simp at h) (gs_upto hp 0), h3.rel.gsz⟩
          · exact ⟨h4.O, h4.os, h4.tape, h4.output, h4.size, fun s hs => absurd hs (Nat.not_lt_zero _), fun b hb hno => ⟨(h4.keep b hb hno).1, fun ⟨s, ⟨z, es, h⟩, _⟩ => by simp at h⟩, h4.shape⟩
        cases e with
        | normal => exact fin h1
        | ret => exact fin h1
        | exit id => exact h1.elim
        | goto l => exact h1.elim
        | panic c => exact h1.elim
        | outgrown => exact h1.elim
      · cases hc
    · cases hc
  · exact H.elim
end Go.Eng
