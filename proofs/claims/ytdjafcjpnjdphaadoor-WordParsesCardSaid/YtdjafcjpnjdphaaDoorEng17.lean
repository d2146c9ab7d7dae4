/- The engine, part 17: code as a whole, functions. -/
import Derived.Test.YtdjafcjpnjdphaaDoorEng16
set_option linter.unusedVariables false
set_option linter.unusedSimpArgs false
namespace Go.Eng
open Go Go.RowKit

/-- Slots that are kept for later. -/
theorem Rel.reserve {C : Cfg} (R : Rel C) (h' : AHeap) (hh : ∀ (s : Nat) (x : Slot), x ≠ .free → (h'[s]? = some x ↔ C.h[s]? = some x)) (n : Nat) : Rel { C with h := h' } ∧ Ext n C { C with h := h' } := by
  have hlive : ∀ k, Cfg.live { C with h := h' } k ↔ C.live k := by
    intro k
    constructor
    · rintro ⟨z, es, hx⟩; exact ⟨z, es, (hh k _ (by simp)).1 hx⟩
    · rintro ⟨z, es, hx⟩; exact ⟨z, es, (hh k _ (by simp)).2 hx⟩
  have he : ∀ n, Ext n C { C with h := h' } := fun n => ⟨rfl, rfl, rfl, rfl, Nat.le_refl _, fun s _ ⟨x, hx, hf⟩ => ⟨⟨x, (hh s x hf).2 hx, hf⟩, rfl⟩, fun b hb ho => ⟨rfl, fun ⟨s, hs, hr⟩ => ho ⟨s, (hlive s).1 hs, hr⟩⟩, fun b x hx => hx⟩
  exact ⟨R.of_ext (he _) (fun s z es hl => .inl ⟨(hh s _ (by simp)).1 hl, rfl, rfl⟩) (fun s t hs ht hr => R.inj s t ((hlive s).1 hs) ((hlive t).1 ht) hr), he n⟩
theorem cur_none {dst : Nat → Option Nat} {val : Nat → AV} {g : Nat → AV} {t : Nat} : ∀ n, cur dst val (fun _ => false) g n t = g t
  | 0 => rfl
  | n + 1 => by rw [cur, if_neg (by simp)]; exact cur_none n
theorem cntU_all (n : Nat) : cntU (fun _ => false) n = n := by
  induction n with
  | zero => rfl
  | succ n ih => simp [cntU, ih]

def tailK (P : Program) (K : AAct → AHeap → Prop) (h : AHeap) (tl : List AOper) : AAct → AHeap → Prop := fun a news => vcOps P K tl a (h ++ news)
/-- An order that the edges allow, by the operations' old numbers. -/
def depsOf (o : Oper) : List Nat := (o.after.toList.filter (Region.binds .any)).map (·.on)
def ordGo (l : List (Nat × List Nat)) : Nat → List Nat → List Nat
  | 0, done => done
  | f + 1, done => match l.find? (fun x => !done.contains x.1 && x.2.all done.contains) with
    | some x => ordGo l f (done ++ [x.1])
    | none => done
def inOrder : Nat → List Oper → Bool
  | _, [] => true
  | i, o :: l => (depsOf o).all (fun e => decide (e < i)) && inOrder (i + 1) l
def pairsFrom : Nat → List Oper → List (Nat × List Nat)
  | _, [] => []
  | i, o :: l => (i, depsOf o) :: pairsFrom (i + 1) l
def ordOf (l : List Oper) : List Nat := ordGo (pairsFrom 0 l) l.length []
def newNo (p : List Nat) (i : Nat) : Nat := p.idxOf i
def renOp (p : List Nat) (o : Oper) : Oper := { o with after := o.after.map fun e => { e with on := newNo p e.on } }
def renAll (p : List Nat) (l : List Oper) : List Oper := p.map fun i => match l[i]? with | some o => renOp p o | none => default
def reord (l : List Oper) : List Oper := if inOrder 0 l then l else renAll (ordOf l) l
def permB (p : List Nat) (l : List Oper) : Bool :=
  p.length == l.length && (List.range l.length).all (fun i => decide (p.getD i 0 < l.length) && decide (newNo p i < l.length) && newNo p (p.getD i 0) == i && p.getD (newNo p i) 0 == i) &&
  l.all (fun o => o.guard.isNone && o.after.all (fun e => decide (e.on < l.length)))
def reordB (l : List Oper) : Bool := inOrder 0 l || permB (ordOf l) l

theorem renOp_wp {P : Program} {p : List Nat} {o : Oper} {a : Act} {w : World} {K : Act → World → Prop} {Q : Exit → Act → World → Prop} : (renOp p o).wp P a w K Q = o.wp P a w K Q := rfl
theorem renOp_asks {P : Program} {p : List Nat} {o : Oper} {a : Act} {w : World} : (renOp p o).asks P a w = o.asks P a w := rfl
theorem renOp_dst {p : List Nat} {o : Oper} : (renOp p o).dst = o.dst := rfl
theorem renOp_guard {p : List Nat} {o : Oper} : (renOp p o).guard = o.guard := rfl
theorem perm_any {P : Program} {p : List Nat} {l : List Oper} {Q : Exit → Act → World → Prop} (hp : permB p l = true) : ∀ (f : Nat) (listed listed' : Array Bool) (a : Act) (w : World), listed.size = l.length → listed'.size = l.length → (∀ i, i < l.length → listed'.getD i false = listed.getD (p.getD i 0) false) →
    wpAny P .any (renAll p l).toArray Q f listed' a w → wpAny P .any l.toArray Q f listed a w := by
  simp only [permB, Bool.and_eq_true, beq_iff_eq, List.all_eq_true, List.mem_range, decide_eq_true_eq] at hp
  obtain ⟨⟨hlen, hpq⟩, hops⟩ := hp
  have hro : ∀ k, k < l.length → ∃ o, l[p.getD k 0]? = some o ∧ (renAll p l)[k]? = some (renOp p o) := by
    intro k hk
    have h1 := (hpq k hk).1.1.1
    refine ⟨l[p.getD k 0], List.getElem?_eq_getElem h1, ?_⟩
    have hk' : k < p.length := by omega
    have e : p.getD k 0 = p[k] := by rw [List.getD_eq_getElem?_getD, List.getElem?_eq_getElem hk']; rfl
    have e2 : (renAll p l)[k]? = some (match l[p[k]]? with | some o => renOp p o | none => default) := by
      unfold renAll; rw [List.getElem?_map, List.getElem?_eq_getElem hk']; rfl
    rw [e2]
    have h2 : p[k] < l.length := by rw [← e]; exact h1
    rw [List.getElem?_eq_getElem h2]
    simp only [e]
  have hsz : (renAll p l).length = l.length := by simp [renAll, hlen]
  -- those that are ready are the same ones
  have hready : ∀ (listed listed' : Array Bool), listed.size = l.length → listed'.size = l.length → (∀ i, i < l.length → listed'.getD i false = listed.getD (p.getD i 0) false) → ∀ k, k < l.length → (k ∈ Region.ready .any (renAll p l).toArray listed' ↔ p.getD k 0 ∈ Region.ready .any l.toArray listed) := by
    intro listed listed' s1 s2 hrel k hk
    obtain ⟨o, ho, ho'⟩ := hro k hk
    have hpk := (hpq k hk).1.1.1
    have hmem : o ∈ l := List.mem_of_getElem? ho
    have hon := hops o hmem
    have hun : listed'.getD k true = false ↔ listed.getD (p.getD k 0) true = false := by
      have e := hrel k hk
      constructor
      · intro h; exact getD_in (by omega) (by rw [← e]; exact getD_both h)
      · intro h; exact getD_in (by omega) (by rw [e]; exact getD_both h)
    have hlst : ∀ e : Edge, e ∈ o.after → (listed'.getD (newNo p e.on) false = listed.getD e.on false) := by
      intro e he
      have h1 := Array.all_eq_true_iff_forall_mem.1 hon.2 e he
      have h2 : e.on < l.length := by simpa using h1
      have h3 := hpq e.on h2
      rw [hrel _ h3.1.1.2, h3.2]
    rw [mem_ready, mem_ready, hun]
    constructor
    · rintro ⟨h1, o', h2, h3⟩
      refine ⟨h1, o, by simpa using ho, fun e he hb => ?_⟩
      have : o' = renOp p o := by
        have : (renAll p l)[k]? = some o' := by simpa using h2
        rw [ho'] at this; exact (Option.some.inj this).symm
      subst this
      have := h3 { e with on := newNo p e.on } (Array.mem_map.2 ⟨e, he, rfl⟩) hb
      rw [← hlst e he]; exact this
    · rintro ⟨h1, o', h2, h3⟩
      have : o' = o := by
        have : l[p.getD k 0]? = some o' := by simpa using h2
        rw [ho] at this; exact (Option.some.inj this).symm
      subst this
      refine ⟨h1, renOp p o', by simpa using ho', fun e he hb => ?_⟩
      obtain ⟨e0, he0, rfl⟩ := Array.mem_map.1 he
      have := h3 e0 he0 hb
      show listed'.getD (newNo p e0.on) false = true
      rw [hlst e0 he0]; exact this
  have hrange : ∀ (ops : List Oper) (listed : Array Bool) (i : Nat), i ∈ Region.ready .any ops.toArray listed → i < ops.length := by
    intro ops listed i hi
    obtain ⟨_, o, ho, _⟩ := mem_ready.1 hi
    have := (Array.getElem?_eq_some_iff.1 ho).1
    simpa using this
  have hnil : ∀ (listed listed' : Array Bool), listed.size = l.length → listed'.size = l.length → (∀ i, i < l.length → listed'.getD i false = listed.getD (p.getD i 0) false) → (Region.ready .any (renAll p l).toArray listed' = [] ↔ Region.ready .any l.toArray listed = []) := by
    intro listed listed' s1 s2 hrel
    constructor
    · intro h
      cases hr : Region.ready .any l.toArray listed with
      | nil => rfl
      | cons x xs =>
        exfalso
        have hx : x ∈ Region.ready .any l.toArray listed := by rw [hr]; simp
        have hxl := hrange _ _ _ hx
        have h3 := hpq x hxl
        have := (hready listed listed' s1 s2 hrel (newNo p x) h3.1.1.2).2 (by rw [h3.2]; exact hx)
        rw [h] at this; cases this
    · intro h
      cases hr : Region.ready .any (renAll p l).toArray listed' with
      | nil => rfl
      | cons x xs =>
        exfalso
        have hx : x ∈ Region.ready .any (renAll p l).toArray listed' := by rw [hr]; simp
        have hxl := hrange _ _ _ hx
        have := (hready listed listed' s1 s2 hrel x (by omega)).1 hx
        rw [h] at this; cases this
  intro f
  induction f with
  | zero =>
    intro listed listed' a w s1 s2 hrel h
    exact ⟨(hnil listed listed' s1 s2 hrel).1 h.1, h.2⟩
  | succ f ih =>
    intro listed listed' a w s1 s2 hrel h
    refine ⟨fun hn => h.1 ((hnil listed listed' s1 s2 hrel).2 hn), fun i hi => ?_⟩
    have hil := hrange _ _ _ hi
    have h3 := hpq i hil
    have hk := (hready listed listed' s1 s2 hrel (newNo p i) h3.1.1.2).2 (by rw [h3.2]; exact hi)
    have hw := h.2 (newNo p i) hk
    obtain ⟨o, ho, ho'⟩ := hro (newNo p i) h3.1.1.2
    rw [h3.2] at ho
    have hg : o.guard = none := by
      have := (hops o (List.mem_of_getElem? ho)).1
      simpa using this
    have hnext : ∀ a w, wpAny P .any (renAll p l).toArray Q f (listed'.setIfInBounds (newNo p i) true) a w → wpAny P .any l.toArray Q f (listed.setIfInBounds i true) a w := by
      intro a w
      refine ih _ _ a w (by simp [s1]) (by simp [s2]) fun j hj => ?_
      have hj3 := hpq j hj
      by_cases hji : j = newNo p i
      · subst hji
        rw [h3.2]
        have e1 : newNo p i < listed'.size := by have := h3.1.1.2; omega
        have e2 : i < listed.size := by omega
        simp [e1, e2]
      · have hne : p.getD j 0 ≠ i := fun e => hji (by rw [← e]; exact hj3.1.2.symm)
        rw [getD_set_ne false (Ne.symm hji), getD_set_ne false (Ne.symm hne)]
        exact hrel j hj
    unfold wpOp at hw ⊢
    have ho2 : l.toArray[i]? = some o := by simpa using ho
    have ho2' : (renAll p l).toArray[newNo p i]? = some (renOp p o) := by simpa using ho'
    rw [ho2'] at hw
    rw [ho2]
    simp only [Region.wanted, hg, renOp_guard, if_true] at hw ⊢
    rw [renOp_wp, renOp_asks] at hw
    exact hw.imp (Oper.wp_mono hnext) id
theorem reord_any {P : Program} {l : List Oper} (h : reordB l = true) (Q : Exit → Act → World → Prop) (a : Act) (w : World) (H : wpAny P .any (reord l).toArray Q (reord l).length (Array.replicate (reord l).length false) a w) :
    wpAny P .any l.toArray Q l.length (Array.replicate l.length false) a w := by
  unfold reordB at h
  unfold reord at H
  split at H
  · exact H
  · rename_i hn
    simp only [hn, Bool.false_or] at h
    have hlen : (renAll (ordOf l) l).length = l.length := by
      have := h
      simp only [permB, Bool.and_eq_true, beq_iff_eq] at this
      simp [renAll, this.1.1]
    rw [hlen] at H
    refine perm_any h l.length _ _ a w (by simp) (by simp) (fun i hi => ?_) H
    rw [getD_replicate_false, getD_replicate_false]

theorem AWp.draw0 {P : Program} {n : Nat} {Q : APost} {a : AAct} {h : AHeap} {id : Nat} {l0 : List Oper} {hd tl : List AOper} {ops : Array Oper} (hperm : ∀ Q a w, wpAny P .any l0.toArray Q l0.length (Array.replicate l0.length false) a w → wpAny P .any ops Q ops.size (Array.replicate ops.size false) a w) (hm : P.follows .mixedOrders = true) (hB : headB l0 hd = true)
    (hc1 : cOpers P l0 (l0.take hd.length) = some hd) (hc2 : cOpers P l0 (l0.drop hd.length) = some tl) (hQp : ∀ c a h, ¬ Q (.panic c) a h) (H : vcHead P h (tailK P (Q .normal) h tl) hd a []) : AWp P n (.region id ops true) Q a h := by
  intro C act hC S hn
  obtain ⟨rs, a', news', hch, hK⟩ := chain_of hc1 H
  obtain ⟨c1, c2, c3, c4, c5, c6⟩ := hch.at
  obtain ⟨b1, b2, b3, b4⟩ := headB_spec hB
  have hle : hd.length ≤ l0.length := by rcases b3 with h | h <;> omega
  simp only [List.nil_append] at c5
  refine wp_region_any hm (hperm _ _ _ ?_)
  obtain ⟨R1, E1⟩ := S.rel.sameHeap (w := { C.w with drawn := C.w.drawn + 1 }) rfl rfl rfl rfl C.h.length
  have hfree : ∀ (s : Nat) (x : Slot), x ≠ Slot.free → ((C.h ++ List.replicate (rs.map (·.2)).flatten.length .free)[s]? = some x ↔ C.h[s]? = some x) := by
    intro s x hx
    by_cases hs : s < C.h.length
    · rw [List.getElem?_append_left hs]
    · rw [List.getElem?_append_right (by omega), List.getElem?_eq_none (show C.h.length ≤ s by omega), List.getElem?_replicate]
      constructor
      · intro hh
        split at hh
        · cases hh; exact absurd rfl hx
        · cases hh
      · intro hh; cases hh
  obtain ⟨R2, E2⟩ := R1.reserve (C.h ++ List.replicate (rs.map (·.2)).flatten.length .free) hfree C.h.length
  have E12 := E1.trans E2
  generalize hC1 : ({ C with w := { C.w with drawn := C.w.drawn + 1 }, h := C.h ++ List.replicate (rs.map (·.2)).flatten.length .free } : Cfg) = C1 at R2 E2 E12
  have hC1h : C1.h = C.h ++ List.replicate (rs.map (·.2)).flatten.length .free := by rw [← hC1]
  have hC1w : C1.w = { C.w with drawn := C.w.drawn + 1 } := by rw [← hC1]
  have I0 : HInv C.h hd rs a (fun i => (Array.replicate l0.length false).getD i false) C1 act := by
    have hS : (fun i => (Array.replicate l0.length false).getD i false) = fun _ => false := by funext i; exact getD_replicate_false _ _
    rw [hS]
    refine ⟨R2, S.nodef, S.vrs.1, by rw [hC1h]; simp, fun k hk => by rw [hC1h, List.getElem?_append_left hk], fun i x hx => ?_, fun t ht => ?_⟩
    · have := posOf_get hx
      have hlt := (List.getElem?_eq_some_iff.1 this).1
      rw [hC1h, List.getElem?_append_right (by omega), List.getElem?_replicate, if_pos (by omega)]
      simp
    · rw [cur_none]
      exact E12.vr' (S.vrs.get t)
  have main := head_any (Q := CPost n C Q) hch (fun i hi => by rw [List.getElem?_take, if_pos hi]) hB (fun c a w ⟨a', D, h1, _⟩ => hQp c a' D.h h1) C1 (by rw [hC1h]; subst hC; simp) (fun D act' I E => ?_) hd.length (Array.replicate l0.length false) C1 act
    (by
      have hS : (fun i => (Array.replicate l0.length false).getD i false) = fun _ => false := by funext i; exact getD_replicate_false _ _
      rw [hS]; exact cntU_all _)
    ⟨by simp, fun j _ _ hl => (by rw [getD_replicate_false] at hl; cases hl), fun t _ ht => getD_in (by simpa using ht) (getD_replicate_false _ _)⟩ (hC ▸ I0) (Ext.refl _ _) rfl
  · rw [hC1w] at main
    rw [show hd.length + (l0.length - hd.length) = l0.length by omega] at main
    simpa using main
  · -- all of the head is done
    have hDh : D.h = C.h ++ news' := by
      apply List.ext_getElem?
      intro k
      by_cases hk : k < C.h.length
      · rw [List.getElem?_append_left hk]; subst hC; exact I.old k hk
      · by_cases hk2 : k - C.h.length < (rs.map (·.2)).flatten.length
        · obtain ⟨i, x, h1, h2, h3⟩ := pos_ex (fun i => by
            by_cases hi : i < hd.length
            · obtain ⟨_, _, _, _, _, _, h4, _⟩ := c6 i hi; exact h4
            · simp only [slotsOf]; rw [List.getElem?_eq_none (by omega)]; simp) hk2
          have := I.new i x h2
          rw [List.getElem?_append_right (by omega), c5]
          have e := posOf_get h2
          rw [h3] at e
          rw [e]
          subst hC
          have hkk : C.h.length + posOf rs i = k := by omega
          rw [hkk] at this
          simpa using this
        · rw [List.getElem?_eq_none (by rw [I.len]; subst hC; omega), List.getElem?_eq_none (by rw [List.length_append, c5]; omega)]
    have S' : St D a' act' := by
      refine ⟨I.rel, ⟨by rw [I.size, c3], fun t x hx => ?_⟩, I.nodef⟩
      have htl : t < a.length := by
        have := (List.getElem?_eq_some_iff.1 hx).1
        omega
      have := I.vrs t htl
      rw [← c4 t htl, List.getD_eq_getElem?_getD, hx] at this
      exact this
    have hnD : n ≤ D.h.length := by rw [hDh]; subst hC; simp; omega
    have E' : Ext n C D := (E12.mono (hC ▸ hn)).trans (E.mono (by rw [hC1h]; subst hC; simp; omega))
    have hK' : vcOps P (Q .normal) tl a' D.h := by
      have : tailK P (Q .normal) h tl a' news' := hK
      unfold tailK at this
      rw [hDh, hC]; exact this
    exact vcOps_sound hc2 S' hnD hK' fun a3 D3 act3 m1 m2 m3 m4 => ⟨a3, D3, m1, rfl, m2, E'.trans m3, m4⟩

/-- Nothing but going on. -/
def onlyN (Q : APost) : APost
  | .normal, a, h => Q .normal a h
  | _, _, _ => False
theorem AWp.draw {P : Program} {n : Nat} {Q : APost} {a : AAct} {h : AHeap} {id : Nat} {l0 : List Oper} {hd tl : List AOper} {ops : Array Oper} (hperm : ∀ Q a w, wpAny P .any l0.toArray Q l0.length (Array.replicate l0.length false) a w → wpAny P .any ops Q ops.size (Array.replicate ops.size false) a w) (hm : P.follows .mixedOrders = true) (hB : headB l0 hd = true)
    (hc1 : cOpers P l0 (l0.take hd.length) = some hd) (hc2 : cOpers P l0 (l0.drop hd.length) = some tl) (H : vcHead P h (tailK P (Q .normal) h tl) hd a []) : AWp P n (.region id ops true) Q a h :=
  (AWp.draw0 (Q := onlyN Q) hperm hm hB hc1 hc2 (fun c a h hh => hh) H).post fun e a h hq => by
    cases e with
    | normal => exact ⟨a, h, Wk.refl _ _ _, hq⟩
    | _ => exact hq.elim

inductive ACode where
  | skip
  | ops (l : List AOper)
  | draw (hd tl : List AOper)
  | any (l : List AOper) (deps : List (List Nat))
  | bad
  | seq (a b : ACode)
  | cond (x : AOpnd) (p q : ACode)
  | block (id : Nat) (c : ACode)
  | loop (c : ACode)
  | exit (id : Nat)
  | ret
def AOp.inHead : AOp → Bool
  | .store _ _ _ => false
  | .app _ _ _ _ => false
  | .mput _ _ _ _ _ _ => false
  | .xop _ _ _ => false
  | _ => true
/-- A call of a function that gives nothing back: it is there for what it does. -/
def AOp.mute (P : Program) : AOp → Bool
  | .call (.func g) _ => (match P.funcs[g]? with | some f => f.results.isEmpty | none => false)
  | _ => false
def headLen (P : Program) : List AOper → Nat
  | [] => 0
  | o :: l => if o.op.inHead then (if o.op.mute P then 0 else headLen P l + 1) else 0
def isStore : Op → Bool
  | .store _ _ _ => true
  | _ => false
def isLoad : Op → Bool
  | .load _ _ => true
  | _ => false
def sinkIx : List Oper → Nat
  | [] => 0
  | o :: l => if isStore o.op then 0 else sinkIx l + 1
/-- Does a load come ahead of the first store, for which neither that store nor what is ahead of it waits? -/
def lateLoad (l : List Oper) : Bool := if sinkIx l < l.length then (List.range (sinkIx l)).any fun j => (match l[j]? with | some o => isLoad o.op | none => false) && !(((l.drop (j + 1)).take (sinkIx l - j)).any fun o => (depsOf o).contains j) else false
/-- Is a slice written out behind an append? -/
def isApp : Op → Bool
  | .call c => (match c.callee with | .builtin .append => true | _ => false)
  | _ => false
def isLitS : Op → Bool
  | .buildSlice _ _ _ => true
  | _ => false
def lateLit : List Oper → Bool
  | [] => false
  | o :: l => if isApp o.op then l.any (fun o => isLitS o.op) else lateLit l
/-- Is a function called, or something reckoned, for which the first store does not wait? -/
def isCallF : Op → Bool
  | .call c => (match c.callee with | .builtin _ => false | _ => true)
  | .binOp _ _ _ _ _ => true
  | _ => false
def reachGo (l : List Oper) : Nat → List Nat → List Nat
  | 0, s => s
  | i + 1, s => reachGo l i (if s.contains i then (match l[i]? with | some o => depsOf o ++ s | none => s) else s)
def lateCall (l : List Oper) : Bool := if sinkIx l < l.length then (List.range (sinkIx l)).any fun j => (match l[j]? with | some o => isCallF o.op | none => false) && !((reachGo l (sinkIx l + 1) [sinkIx l]).contains j) else false
/-- Statements all of whose orders are gone through. -/
def allOrders (l : List Oper) : Bool := lateLoad l || lateLit l || lateCall l
def rdyGo (done : List Nat) : Nat → List (List Nat) → List Nat
  | _, [] => []
  | i, d :: ds => if !done.contains i && d.all done.contains then i :: rdyGo done (i + 1) ds else rdyGo done (i + 1) ds
def allI : List Nat → (Nat → Prop) → Prop
  | [], _ => True
  | [i], F => F i
  | i :: j :: l, F => F i ∧ allI (j :: l) F
theorem allI_mem {F : Nat → Prop} : ∀ {l : List Nat}, allI l F → ∀ i, i ∈ l → F i
  | [], _, i, h => by cases h
  | [j], h, i, hi => by simp at hi; subst hi; exact h
  | j :: k :: l, h, i, hi => by
    rcases List.mem_cons.1 hi with rfl | hi
    · exact h.1
    · exact allI_mem h.2 i hi
theorem allI_map {F G : Nat → Prop} (h : ∀ i, F i → G i) : ∀ {l : List Nat}, allI l F → allI l G
  | [], _ => trivial
  | [j], hh => h _ hh
  | j :: k :: l, hh => ⟨h _ hh.1, allI_map h hh.2⟩
/-- All orders, one by one. -/
def vcAny (P : Program) (K : AAct → AHeap → Prop) (al : List AOper) (deps : List (List Nat)) : Nat → List Nat → AAct → AHeap → Prop
  | 0, done, a, h => if (rdyGo done 0 deps).isEmpty then K a h else False
  | f + 1, done, a, h => if (rdyGo done 0 deps).isEmpty then K a h else allI (rdyGo done 0 deps) fun i => match al[i]? with | some o => vcOps P (vcAny P K al deps f (i :: done)) [o] a h | none => False
/-- Code that the engine doesn't know: it may not be reached. -/
def orBad : Option ACode → Option ACode
  | some c => some c
  | none => some .bad
def compileCode (P : Program) : Code → Option ACode
  | .skip => some .skip
  | .region _ ops false => orBad ((cOpers P ops.toList ops.toList).map .ops)
  | .region _ ops true => if allOrders ops.toList then orBad ((cOpers P ops.toList ops.toList).map fun al => .any al (ops.toList.map depsOf)) else orBad ((cOpers P (reord ops.toList) (reord ops.toList)).map fun al => .draw (al.take (headLen P al)) (al.drop (headLen P al)))
  | .seq a b =>
    match compileCode P a, compileCode P b with
    | some x, some y => some (.seq x y)
    | _, _ => none
  | .cond c p q =>
    match cOpnd c, compileCode P p, compileCode P q with
    | some c, some p, some q => some (.cond c p q)
    | _, _, _ => none
  | .block id c => (compileCode P c).map (.block id)
  | .loop c => (compileCode P c).map .loop
  | .exit id => some (.exit id)
  | .ret => some .ret
  | _ => some .bad

/-- Whether each statement whose order is open comes to the same in every order. -/
def drawsB (P : Program) : Code → Bool
  | .region _ ops true => if allOrders ops.toList then P.follows .mixedOrders else
    match cOpers P (reord ops.toList) (reord ops.toList) with
    | some al => P.follows .mixedOrders && (reordB ops.toList && headB (reord ops.toList) (al.take (headLen P al)))
    | none => true
  | .seq a b => drawsB P a && drawsB P b
  | .cond _ p q => drawsB P p && drawsB P q
  | .block _ c => drawsB P c
  | .loop c => drawsB P c
  | _ => true
/-- A loop: what is to be shown of it is laid later. -/
def ALoop (P : Program) (n : Nat) (c : ACode) (Q : APost) (a : AAct) (h : AHeap) : Prop := ∀ code, compileCode P code = some c → drawsB P code = true → AWp P n (.loop code) Q a h
def setC (a : AAct) (x : AOpnd) (b : Bool) : AAct := match x with | .tmp t => a.set t (.bool b) | _ => a
def vcCode (P : Program) (n : Nat) : ACode → APost → AAct → AHeap → Prop
  | .skip, Q, a, h => Q .normal a h
  | .ops l, Q, a, h => vcOps P (Q .normal) l a h
  | .draw hd tl, Q, a, h => vcHead P h (tailK P (Q .normal) h tl) hd a []
  | .any al deps, Q, a, h => vcAny P (Q .normal) al deps al.length [] a h
  | .bad, Q, a, h => False
  | .seq x y, Q, a, h => vcCode P n x (thenA (vcCode P n y Q) Q) a h
  | .cond x p q, Q, a, h => (match evA a x with | .bool t => (t = true → vcCode P n p Q (setC a x true) h) ∧ (t = false → vcCode P n q Q (setC a x false) h) | _ => False)
  | .block id c, Q, a, h => vcCode P n c (inBlockA id Q) a h
  | .loop c, Q, a, h => ALoop P n c Q a h
  | .exit id, Q, a, h => Q (.exit id) a h
  | .ret, Q, a, h => Q .ret a h

theorem cOpers_take {P : Program} {l0 : List Oper} : ∀ {l : List Oper} {al : List AOper}, cOpers P l0 l = some al → al.length = l.length ∧ ∀ n, cOpers P l0 (l.take n) = some (al.take n) ∧ cOpers P l0 (l.drop n) = some (al.drop n)
  | [], al, h => by
    simp only [cOpers, Option.some.injEq] at h
    subst h
    exact ⟨rfl, fun n => ⟨by simp [cOpers], by simp [cOpers]⟩⟩
  | o :: l, al, h => by
    simp only [cOpers] at h
    split at h
    · rename_i x y hx hy
      simp only [Option.some.injEq] at h
      subst h
      obtain ⟨h1, h2⟩ := cOpers_take hy
      refine ⟨by simp [h1], fun n => ?_⟩
      cases n with
      | zero => exact ⟨by simp [cOpers], by simp [cOpers, hx, hy]⟩
      | succ n =>
        obtain ⟨h3, h4⟩ := h2 n
        exact ⟨by simp [cOpers, hx, h3], by simpa using h4⟩
    · cases h
theorem mem_rdyGo {done : List Nat} {i : Nat} : ∀ {ds : List (List Nat)} {k : Nat}, i ∈ rdyGo done k ds ↔ k ≤ i ∧ done.contains i = false ∧ ∃ d, ds[i - k]? = some d ∧ ∀ e, e ∈ d → done.contains e = true
  | [], k => by simp [rdyGo]
  | d :: ds, k => by
    have ih := mem_rdyGo (done := done) (i := i) (ds := ds) (k := k + 1)
    have hd : ∀ d' : List Nat, d'.all done.contains = true ↔ ∀ e, e ∈ d' → done.contains e = true := fun d' => by rw [List.all_eq_true]
    unfold rdyGo
    by_cases hik : i = k
    · subst hik
      constructor
      · intro h
        split at h
        · rename_i hc
          simp only [Bool.and_eq_true] at hc
          exact ⟨Nat.le_refl _, by simpa using hc.1, d, by simp, (hd d).1 hc.2⟩
        · have := (ih.1 h).1; omega
      · rintro ⟨_, h1, d', h2, h3⟩
        simp at h2
        subst h2
        rw [if_pos (by rw [Bool.and_eq_true]; exact ⟨by simpa using h1, (hd d).2 h3⟩)]
        exact List.mem_cons_self ..
    · have key : i ∈ rdyGo done (k + 1) ds ↔ k ≤ i ∧ done.contains i = false ∧ ∃ d', (d :: ds)[i - k]? = some d' ∧ ∀ e, e ∈ d' → done.contains e = true := by
        rw [ih]
        constructor
        · rintro ⟨h1, h2, d', h3, h4⟩
          exact ⟨by omega, h2, d', by rw [show i - k = (i - (k + 1)) + 1 by omega]; simpa using h3, h4⟩
        · rintro ⟨h1, h2, d', h3, h4⟩
          refine ⟨by omega, h2, d', ?_, h4⟩
          rw [show i - k = (i - (k + 1)) + 1 by omega] at h3
          simpa using h3
      split
      · rw [List.mem_cons]
        constructor
        · rintro (h | h)
          · exact absurd h hik
          · exact key.1 h
        · intro h; exact .inr (key.2 h)
      · exact key
theorem ready_rdyGo {l0 : List Oper} {listed : Array Bool} {done : List Nat} (hs : listed.size = l0.length) (hrel : ∀ i, listed.getD i false = done.contains i) (i : Nat) : i ∈ Region.ready .any l0.toArray listed ↔ i ∈ rdyGo done 0 (l0.map depsOf) := by
  rw [mem_rdyGo, mem_ready]
  have hdep : ∀ o : Oper, (∀ e, e ∈ o.after → Region.binds .any e = true → listed.getD e.on false = true) ↔ ∀ e, e ∈ depsOf o → done.contains e = true := by
    intro o
    constructor
    · intro h e he
      obtain ⟨x, hx, rfl⟩ := List.mem_map.1 he
      obtain ⟨h1, h2⟩ := List.mem_filter.1 hx
      rw [← hrel]
      exact h x (by simpa using h1) h2
    · intro h e he hb
      rw [hrel]
      exact h e.on (List.mem_map.2 ⟨e, List.mem_filter.2 ⟨by simpa using he, hb⟩, rfl⟩)
  constructor
  · rintro ⟨h1, o, h2, h3⟩
    refine ⟨Nat.zero_le _, by rw [← hrel]; exact getD_both h1, depsOf o, ?_, (hdep o).1 h3⟩
    have : l0[i]? = some o := by simpa using h2
    simp [this]
  · rintro ⟨_, h1, d, h2, h3⟩
    rw [List.getElem?_map] at h2
    cases ho : l0[i - 0]? with
    | none => rw [ho] at h2; cases h2
    | some o =>
      rw [ho] at h2
      simp only [Option.map_some, Option.some.injEq] at h2
      subst h2
      have ho : l0[i]? = some o := by simpa using ho
      have hlt := (List.getElem?_eq_some_iff.1 ho).1
      exact ⟨getD_in (by omega) (by rw [hrel]; exact h1), o, by simpa using ho, (hdep o).2 h3⟩
theorem wp_Q {P : Program} {o : Oper} {a : Act} {w : World} {K : Act → World → Prop} {Q Q' : Exit → Act → World → Prop} (hp : ∀ c a w, Q (.panic c) a w → Q' (.panic c) a w) (hl : LetsOut Q → LetsOut Q') (h : o.wp P a w K Q) : o.wp P a w K Q' := by
  unfold Oper.wp at *
  generalize (execOp a.eval o).run P w = r at *
  cases r with
  | ok n w' =>
    cases n <;> simp only [Oper.upon] at h ⊢ <;>
      first
        | exact h
        | exact Calls.mono h (fun e w'' he => by cases e <;> first | exact he | exact hp _ _ _ he | exact hl he)
  | halt x w' => cases x <;> simp only [Oper.upon] at h ⊢ <;> first | exact h | exact hp _ _ _ h
def nextQ (Q : Exit → Act → World → Prop) (N : Act → World → Prop) : Exit → Act → World → Prop
  | .normal, a, w => N a w
  | e, a, w => Q e a w
theorem wpOp_one {P : Program} {l0 : List Oper} {i : Nat} {o : Oper} (ho : l0[i]? = some o) {Q : Exit → Act → World → Prop} {N : Act → World → Prop} {a : Act} {w : World} (h : wpList P l0.toArray (nextQ Q N) [o] a w) : wpOp P l0.toArray Q i N a w := by
  unfold wpList at h
  unfold wpOp
  have : l0.toArray[i]? = some o := by simpa using ho
  rw [this]
  simp only
  have hl : LetsOut (nextQ Q N) → LetsOut Q := fun h => h
  split
  · rename_i hw
    rw [if_pos hw] at h
    exact h.imp (fun h => wp_Q (fun c a w h => h) hl h) fun ⟨h1, h2⟩ => ⟨h1, hl h2⟩
  · rename_i hw
    rw [if_neg hw] at h
    exact h
theorem any_sound {P : Program} {n : Nat} {l0 : List Oper} {al : List AOper} (hc : cOpers P l0 l0 = some al) {K : AAct → AHeap → Prop} {Q : Exit → Act → World → Prop} : ∀ (f : Nat) (done : List Nat) (listed : Array Bool) (a : AAct) (C : Cfg) (act : Act),
    listed.size = l0.length → (∀ i, listed.getD i false = done.contains i) → vcAny P K al (l0.map depsOf) f done a C.h → St C a act → n ≤ C.h.length →
    (∀ a' D act', K a' D.h → St D a' act' → Ext n C D → n ≤ D.h.length → Q .normal act' D.w) → wpAny P .any l0.toArray Q f listed act C.w := by
  intro f
  induction f with
  | zero =>
    intro done listed a C act hs hrel H S hn hK
    simp only [vcAny] at H
    split at H
    · rename_i he
      refine ⟨?_, hK _ _ _ H S (Ext.refl _ _) hn⟩
      cases hr : Region.ready .any l0.toArray listed with
      | nil => rfl
      | cons x xs =>
        have := (ready_rdyGo hs hrel x).1 (by rw [hr]; simp)
        rw [List.isEmpty_iff.1 he] at this; cases this
    · exact H.elim
  | succ f ih =>
    intro done listed a C act hs hrel H S hn hK
    simp only [vcAny] at H
    split at H
    · rename_i he
      have hnil : Region.ready .any l0.toArray listed = [] := by
        cases hr : Region.ready .any l0.toArray listed with
        | nil => rfl
        | cons x xs =>
          have := (ready_rdyGo hs hrel x).1 (by rw [hr]; simp)
          rw [List.isEmpty_iff.1 he] at this; cases this
      exact ⟨fun _ => hK _ _ _ H S (Ext.refl _ _) hn, fun i hi => by rw [hnil] at hi; cases hi⟩
    · rename_i he
      refine ⟨fun hnil => ?_, fun i hi => ?_⟩
      · exfalso
        apply he
        cases hr : rdyGo done 0 (l0.map depsOf) with
        | nil => rfl
        | cons x xs =>
          have := (ready_rdyGo hs hrel x).2 (by rw [hr]; simp)
          rw [hnil] at this; cases this
      · have H2 := allI_mem H i ((ready_rdyGo hs hrel i).1 hi)
        obtain ⟨_, o, ho, _⟩ := mem_ready.1 hi
        have ho : l0[i]? = some o := by simpa using ho
        have hil := (List.getElem?_eq_some_iff.1 ho).1
        obtain ⟨e1, e2⟩ := cOpers_take hc
        have hao : al[i]? = some al[i] := List.getElem?_eq_getElem (by omega)
        rw [hao] at H2
        simp only at H2
        have hc1 : cOpers P l0 [o] = some [al[i]] := by
          have h1 := (e2 i).2
          have h2 := (cOpers_take h1).2 1
          have k1 : (l0.drop i).take 1 = [o] := by
            rw [List.drop_eq_getElem_cons hil]
            simp only [List.take_succ_cons, List.take_zero]
            rw [List.getElem?_eq_getElem hil] at ho
            rw [Option.some.inj ho]
          have k2 : (al.drop i).take 1 = [al[i]] := by
            rw [List.drop_eq_getElem_cons (by omega)]
            simp only [List.take_succ_cons, List.take_zero]
          rw [← k1, ← k2]; exact h2.1
        refine wpOp_one ho ?_
        refine vcOps_sound hc1 S hn H2 fun a' D act' m1 m2 m3 m4 => ?_
        refine ih (i :: done) _ a' D act' (by simp [hs]) (fun j => ?_) m1 m2 m4 fun a3 D3 act3 q1 q2 q3 q4 => hK a3 D3 act3 q1 q2 (m3.trans q3) q4
        by_cases hij : j = i
        · subst hij
          have : j < listed.size := by omega
          simp [this]
        · rw [getD_set_ne false (Ne.symm hij), hrel j]
          simp [hij]
theorem AWp.any {P : Program} {n : Nat} {Q : APost} {a : AAct} {h : AHeap} {id : Nat} {ops : Array Oper} {al : List AOper} (hm : P.follows .mixedOrders = true) (hc : cOpers P ops.toList ops.toList = some al) (H : vcAny P (Q .normal) al (ops.toList.map depsOf) al.length [] a h) : AWp P n (.region id ops true) Q a h := by
  intro C act hC S hn
  refine wp_region_any hm ?_
  obtain ⟨R1, E1⟩ := S.rel.sameHeap (w := { C.w with drawn := C.w.drawn + 1 }) rfl rfl rfl rfl C.h.length
  have e1 := (cOpers_take hc).1
  have main := any_sound (n := n) (Q := CPost n C Q) hc al.length [] (Array.replicate ops.size false) a { C with w := { C.w with drawn := C.w.drawn + 1 } } act (by simp) (fun i => by rw [getD_replicate_false]; rfl) (by subst hC; exact H) ⟨R1, ⟨S.vrs.1, fun t x hx => E1.vr' (S.vrs.2 t x hx)⟩, S.nodef⟩ (hC ▸ hn) fun a' D act' m1 m2 m3 m4 => ⟨a', D, m1, rfl, m2, (E1.mono (hC ▸ hn)).trans m3, m4⟩
  simpa [e1] using main
theorem setC_st {C : Cfg} {a : AAct} {act : Act} (S : St C a act) {x : AOpnd} {b : Bool} (hb : evA a x = .bool b) : St C (setC a x b) act := by
  cases x with
  | tmp t => exact S.setB hb
  | const v => exact S
  | func f => exact S
theorem vc_sound {P : Program} {n : Nat} : ∀ {code : Code} {c : ACode} {Q : APost} {a : AAct} {h : AHeap}, compileCode P code = some c → drawsB P code = true → vcCode P n c Q a h → AWp P n code Q a h
  | .skip, c, Q, a, h, hc, hd, H => by simp only [compileCode, Option.some.injEq] at hc; subst hc; exact AWp.skip H
  | .ret, c, Q, a, h, hc, hd, H => by simp only [compileCode, Option.some.injEq] at hc; subst hc; exact AWp.ret H
  | .exit id, c, Q, a, h, hc, hd, H => by simp only [compileCode, Option.some.injEq] at hc; subst hc; exact AWp.exit H
  | .seq x y, c, Q, a, h, hc, hd, H => by
    simp only [compileCode] at hc
    split at hc
    · rename_i p q hp hq
      simp only [Option.some.injEq] at hc
      subst hc
      simp only [drawsB, Bool.and_eq_true] at hd
      refine AWp.seq ((vc_sound hp hd.1 H).mono fun e a h hq' => ?_)
      cases e with
      | normal => exact vc_sound hq hd.2 hq'
      | _ => exact hq'
    · cases hc
  | .cond x p q, c, Q, a, h, hc, hd, H => by
    simp only [compileCode] at hc
    split at hc
    · rename_i x' p' q' hx hp hq
      simp only [Option.some.injEq] at hc
      subst hc
      simp only [vcCode] at H
      split at H
      · rename_i t ht
        have wk : ∀ b, t = b → Wk n a h (setC a x' b) h := fun b hb C act hC S hn => ⟨C, hC, rfl, setC_st S (hb ▸ ht), Ext.refl _ _, hn⟩
        simp only [drawsB, Bool.and_eq_true] at hd
        exact AWp.cond hx ht (fun e => AWp.pre (wk true e) (vc_sound hp hd.1 (H.1 e))) (fun e => AWp.pre (wk false e) (vc_sound hq hd.2 (H.2 e)))
      · exact H.elim
    · cases hc
  | .block id x, c, Q, a, h, hc, hd, H => by
    simp only [compileCode] at hc
    cases hx : compileCode P x with
    | none => simp [hx] at hc
    | some y =>
      simp only [hx, Option.map_some, Option.some.injEq] at hc
      subst hc
      exact AWp.block (vc_sound hx hd H)
  | .loop x, c, Q, a, h, hc, hd, H => by
    simp only [compileCode] at hc
    cases hx : compileCode P x with
    | none => simp [hx] at hc
    | some y =>
      simp only [hx, Option.map_some, Option.some.injEq] at hc
      subst hc
      exact H x hx hd
  | .region id ops false, c, Q, a, h, hc, hd, H => by
    simp only [compileCode] at hc
    cases hx : cOpers P ops.toList ops.toList with
    | none =>
      simp only [hx, Option.map_none, orBad, Option.some.injEq] at hc
      subst hc
      exact H.elim
    | some y =>
      simp only [hx, Option.map_some, orBad, Option.some.injEq] at hc
      subst hc
      intro C act hC S hn
      refine wp_region_list ?_
      have := vcOps_sound (Q := CPost n C Q) (n := n) hx S (hC ▸ hn) (by subst hC; exact H) fun a3 D3 act3 m1 m2 m3 m4 => ⟨a3, D3, m1, rfl, m2, m3, m4⟩
      simpa using this
  | .region id ops true, c, Q, a, h, hc, hd, H => by
    simp only [compileCode] at hc
    simp only [drawsB] at hd
    by_cases hll : allOrders ops.toList = true
    · rw [if_pos hll] at hc hd
      cases hx : cOpers P ops.toList ops.toList with
      | none =>
        simp only [hx, Option.map_none, orBad, Option.some.injEq] at hc
        subst hc
        exact H.elim
      | some y =>
        simp only [hx, Option.map_some, orBad, Option.some.injEq] at hc
        subst hc
        exact AWp.any hd hx H
    rw [if_neg hll] at hc hd
    split at hd
    · rename_i al hal
      simp only [Bool.and_eq_true] at hd
      rw [hal] at hc
      simp only [Option.map_some, orBad, Option.some.injEq] at hc
      subst hc
      generalize headLen P al = m at *
      obtain ⟨h1, h2⟩ := cOpers_take hal
      obtain ⟨h3, h4⟩ := h2 m
      have hlen : (reord ops.toList).take (al.take m).length = (reord ops.toList).take m := by
        simp only [List.length_take, h1]
        by_cases hml : m ≤ (reord ops.toList).length
        · rw [Nat.min_eq_left hml]
        · rw [Nat.min_eq_right (by omega), List.take_of_length_le (Nat.le_refl _), List.take_of_length_le (by omega)]
      have hlen2 : (reord ops.toList).drop (al.take m).length = (reord ops.toList).drop m := by
        simp only [List.length_take, h1]
        by_cases hml : m ≤ (reord ops.toList).length
        · rw [Nat.min_eq_left hml]
        · rw [Nat.min_eq_right (by omega), List.drop_eq_nil_of_le (Nat.le_refl _), List.drop_eq_nil_of_le (by omega)]
      have := AWp.draw (n := n) (id := id) (ops := ops) (fun Q a w H => by simpa using reord_any hd.2.1 Q a w H) hd.1 hd.2.2 (by rw [hlen]; exact h3) (by rw [hlen2]; exact h4) H
      simpa using this
    · rename_i hal
      rw [hal] at hc
      simp only [Option.map_none, orBad, Option.some.injEq] at hc
      subst hc
      exact H.elim
  | .rangeFunc _ _ _ _, c, Q, a, h, hc, hd, H => by
    simp only [compileCode, Option.some.injEq] at hc
    subst hc
    exact H.elim
  | .scope _, c, Q, a, h, hc, hd, H => by
    simp only [compileCode, Option.some.injEq] at hc
    subst hc
    exact H.elim
  | .label _, c, Q, a, h, hc, hd, H => by
    simp only [compileCode, Option.some.injEq] at hc
    subst hc
    exact H.elim
  | .goto _, c, Q, a, h, hc, hd, H => by
    simp only [compileCode, Option.some.injEq] at hc
    subst hc
    exact H.elim
  | .refuse _, c, Q, a, h, hc, hd, H => by
    simp only [compileCode, Option.some.injEq] at hc
    subst hc
    exact H.elim

/-- What holds at a round's end: a state that says less is as at the head, and further on. -/
def roundK (n : Nat) (I : AAct → AHeap → Prop) (m : AAct → AHeap → Nat) (k : Nat) : AAct → AHeap → Prop := fun a h => ∃ a' h', Wk n a h a' h' ∧ I a' h' ∧ m a' h' < k
theorem ALoop.intro {P : Program} {n : Nat} {c : ACode} {Q : APost} {a : AAct} {h : AHeap} (I : AAct → AHeap → Prop) (m : AAct → AHeap → Nat) (a' : AAct) (h' : AHeap) (hw : Wk n a h a' h') (h0 : I a' h')
    (round : ∀ a h, I a h → vcCode P n c (thenA (roundK n I m (m a h)) Q) a h) : ALoop P n c Q a h := by
  intro code hc hd
  refine AWp.pre hw (AWp.loop I m h0 fun a h hI => ?_)
  refine AWp.post (vc_sound hc hd (round a h hI)) fun e a2 h2 hq => ?_
  cases e with
  | normal =>
    obtain ⟨a3, h3, w3, i3, m3⟩ := hq
    exact ⟨a3, h3, w3, i3, m3⟩
  | _ => exact ⟨a2, h2, Wk.refl _ _ _, hq⟩
end Go.Eng
