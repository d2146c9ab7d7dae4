/- The engine, part 11: statements, calls, code. -/
import Derived.Test.YtdjafcjpnjdphaaDoorEng10
set_option linter.unusedVariables false
set_option linter.unusedSimpArgs false
namespace Go.Eng
open Go Go.RowKit

abbrev AAct := List AV
abbrev APost := Exit → AAct → AHeap → Prop
def evA (a : AAct) : AOpnd → AV
  | .tmp t => a.getD t .any
  | .const v => v
  | .func f => .func (.func f) [] []
def putA (a : AAct) (d : Option Nat) (v : AV) : AAct :=
  match d with
  | some d => a.set d v
  | none => a
def thenA (K : AAct → AHeap → Prop) (Q : APost) : APost
  | .normal, a, h => K a h
  | e, a, h => Q e a h
def inBlockA (id : Nat) (Q : APost) : APost
  | .exit i, a, h => if i = id then Q .normal a h else Q (.exit i) a h
  | e, a, h => Q e a h

structure St (C : Cfg) (a : AAct) (act : Act) : Prop where
  rel : Rel C
  vrs : VRs C a act.tmps
  nodef : act.defers = []
theorem VRs.get {C : Cfg} {a : AAct} {v : Array Value} (h : VRs C a v) (t : Nat) : VR C (a.getD t .any) (v.getD t undef) := by
  cases ht : a[t]? with
  | none => rw [List.getD_eq_getElem?_getD, ht]; exact .any _
  | some x => rw [List.getD_eq_getElem?_getD, ht]; exact h.2 t x ht
theorem gsGet_mem : ∀ {l : List (Nat × List AV)} {g : Nat} {cs : List AV}, gsGet l g = some cs → (g, cs) ∈ l
  | [], g, cs, h => by cases h
  | (k, ds) :: l, g, cs, h => by
    simp only [gsGet] at h
    split at h
    · rename_i hk
      have := Nat.eq_of_beq_eq_true hk
      subst this
      cases h
      exact List.mem_cons_self
    · exact List.mem_cons_of_mem _ (gsGet_mem h)
theorem St.ev {C : Cfg} {a : AAct} {act : Act} (h : St C a act) : EvOk C (evA a) act.eval := by
  intro x y hxy
  cases x with
  | tmp t => simp only [cOpnd, Option.some.injEq] at hxy; subst hxy; exact h.vrs.get t
  | const v => simp only [cOpnd, Option.some.injEq] at hxy; subst hxy; exact ofVal_vr C v
  | func f => simp only [cOpnd, Option.some.injEq] at hxy; subst hxy; exact .func _ [] [] #[] #[] rfl rfl (fun i x hx => by simp at hx) (fun i x hx => by simp at hx)
  | global g =>
    simp only [cOpnd] at hxy
    split at hxy
    · rename_i cs hg
      simp only [Option.some.injEq] at hxy
      subst hxy
      exact h.rel.glo (g, cs) (gsGet_mem hg)
    · cases hxy
theorem VRs.put {C : Cfg} {a : AAct} {v : Array Value} (h : VRs C a v) (d : Nat) {x : AV} {u : Value} (hx : VR C x u) : VRs C (a.set d x) (v.setIfInBounds d u) := by
  refine ⟨by simp [h.1], fun i y hy => ?_⟩
  by_cases hid : d = i
  · subst hid
    have hlt : d < a.length := by
      have := (List.getElem?_eq_some_iff.1 hy).1
      simpa using this
    rw [List.getElem?_set_self hlt] at hy
    cases hy
    have : d < v.size := by rw [h.1]; exact hlt
    simpa [Array.getD_eq_getD_getElem?, this] using hx
  · rw [List.getElem?_set_ne hid] at hy
    have := h.2 i y hy
    rw [Array.getD_eq_getD_getElem?] at this ⊢
    rwa [Array.getElem?_setIfInBounds_ne hid]
theorem St.put {C : Cfg} {a : AAct} {act : Act} (h : St C a act) (d : Option Nat) {x : AV} {u : Value} (hx : VR C x u) : St C (putA a d x) (act.put d u) := by
  cases d with
  | none => exact h
  | some d => exact ⟨h.rel, h.vrs.put d hx, h.nodef⟩
theorem St.ext {C D : Cfg} {a : AAct} {act : Act} (h : St C a act) (R : Rel D) (E : Ext C.h.length C D) : St D a act := ⟨R, E.vrs h.vrs, h.nodef⟩
theorem vr_undef (C : Cfg) : VR C .undef undef := .tuple [] #[] rfl (fun i x hx => by simp at hx)

/-- What is known behind a piece of code, of the model's state. -/
def CPost (n : Nat) (C : Cfg) (Q : APost) : Exit → Act → World → Prop := fun e act w => ∃ a D, Q e a D.h ∧ D.w = w ∧ St D a act ∧ Ext n C D ∧ n ≤ D.h.length
def AWp (P : Program) (n : Nat) (c : Code) (Q : APost) (a : AAct) (h : AHeap) : Prop :=
  ∀ (C : Cfg) (act : Act), C.h = h → St C a act → n ≤ h.length → c.wp P (CPost n C Q) act C.w

section
variable {P : Program} {n : Nat} {Q : APost} {a : AAct} {h : AHeap}
theorem CPost.trans {C D : Cfg} {e : Exit} {act : Act} {w : World} (E : Ext n C D) (H : CPost n D Q e act w) : CPost n C Q e act w := by
  obtain ⟨a, D', h1, h2, h3, h4, h5⟩ := H
  exact ⟨a, D', h1, h2, h3, E.trans h4, h5⟩
theorem AWp.skip (H : Q .normal a h) : AWp P n .skip Q a h := fun C act hC S hn => wp_skip ⟨a, C, hC ▸ H, rfl, S, Ext.refl _ _, hC ▸ hn⟩
theorem AWp.ret (H : Q .ret a h) : AWp P n .ret Q a h := fun C act hC S hn => wp_ret ⟨a, C, hC ▸ H, rfl, S, Ext.refl _ _, hC ▸ hn⟩
theorem AWp.exit {id : Nat} (H : Q (.exit id) a h) : AWp P n (.exit id) Q a h := fun C act hC S hn => wp_exit ⟨a, C, hC ▸ H, rfl, S, Ext.refl _ _, hC ▸ hn⟩
theorem AWp.seq {x y : Code} (H : AWp P n x (thenA (AWp P n y Q) Q) a h) : AWp P n (.seq x y) Q a h := by
  intro C act hC S hn
  refine wp_seq (wp_mono (H C act hC S hn) fun e act' w' hp => ?_)
  obtain ⟨a', D, h1, h2, h3, h4, h5⟩ := hp
  cases e with
  | normal =>
    subst h2
    exact wp_mono (h1 D act' rfl h3 h5) fun e act'' w'' hq => hq.trans h4
  | _ => exact ⟨a', D, h1, h2, h3, h4, h5⟩
theorem AWp.cond {c : Operand} {x : AOpnd} {t : Bool} {p q : Code} (hc : cOpnd c = some x) (hx : evA a x = .bool t) (H1 : t = true → AWp P n p Q a h) (H2 : t = false → AWp P n q Q a h) : AWp P n (.cond c p q) Q a h := by
  intro C act hC S hn
  have := (hx ▸ S.ev c x hc : VR C (.bool t) (act.eval c)).bool'
  exact wp_cond_split this (fun e => H1 e C act hC S hn) (fun e => H2 e C act hC S hn)
theorem AWp.block {id : Nat} {c : Code} (H : AWp P n c (inBlockA id Q) a h) : AWp P n (.block id c) Q a h := by
  intro C act hC S hn
  refine wp_block (wp_mono (H C act hC S hn) fun e act' w' hp => ?_)
  obtain ⟨a', D, h1, h2, h3, h4, h5⟩ := hp
  cases e with
  | exit i =>
    simp only [Exit.inBlock, inBlockA] at h1 ⊢
    split at h1
    · rename_i hi; rw [if_pos hi]; exact ⟨a', D, h1, h2, h3, h4, h5⟩
    · rename_i hi; rw [if_neg hi]; exact ⟨a', D, h1, h2, h3, h4, h5⟩
  | _ => exact ⟨a', D, h1, h2, h3, h4, h5⟩
theorem AWp.mono {c : Code} {Q' : APost} (H : AWp P n c Q a h) (hq : ∀ e a h, Q e a h → Q' e a h) : AWp P n c Q' a h :=
  fun C act hC S hn => wp_mono (H C act hC S hn) fun e act' w' ⟨a', D, h1, h2, h3, h4, h5⟩ => ⟨a', D, hq _ _ _ h1, h2, h3, h4, h5⟩

/-- A state that says less. -/
def Wk (n : Nat) (a : AAct) (h : AHeap) (a' : AAct) (h' : AHeap) : Prop :=
  ∀ (C : Cfg) (act : Act), C.h = h → St C a act → n ≤ h.length → ∃ D, D.h = h' ∧ D.w = C.w ∧ St D a' act ∧ Ext n C D ∧ n ≤ h'.length
theorem Wk.refl (n : Nat) (a : AAct) (h : AHeap) : Wk n a h a h := fun C act hC S hn => ⟨C, hC, rfl, S, Ext.refl _ _, hn⟩
theorem AWp.pre {c : Code} {a' : AAct} {h' : AHeap} (W : Wk n a h a' h') (H : AWp P n c Q a' h') : AWp P n c Q a h := by
  intro C act hC S hn
  obtain ⟨D, h1, h2, h3, h4, h5⟩ := W C act hC S hn
  have := H D act h1 h3 h5
  rw [h2] at this
  exact wp_mono this fun e act'' w'' hq => hq.trans h4
theorem AWp.post {c : Code} {Q' : APost} (H : AWp P n c Q a h) (hq : ∀ e a h, Q e a h → ∃ a' h', Wk n a h a' h' ∧ Q' e a' h') : AWp P n c Q' a h := by
  intro C act hC S hn
  refine wp_mono (H C act hC S hn) fun e act' w' ⟨a', D, h1, h2, h3, h4, h5⟩ => ?_
  obtain ⟨a2, h2', W, hQ⟩ := hq _ _ _ h1
  obtain ⟨D2, k1, k2, k3, k4, k5⟩ := W D act' rfl h3 h5
  exact ⟨a2, D2, k1 ▸ hQ, k2.trans h2, k3, h4.trans k4, k1 ▸ k5⟩

theorem least {p : Nat → Prop} (h : ∃ k, p k) : ∃ k, p k ∧ ∀ j, p j → k ≤ j := by
  obtain ⟨k, hk⟩ := h
  induction k using Nat.strongRecOn with
  | _ k ih =>
    by_cases hj : ∃ j, j < k ∧ p j
    · obtain ⟨j, hjk, hp⟩ := hj; exact ih j hjk hp
    · exact ⟨k, hk, fun j hp => Nat.le_of_not_lt fun hjk => hj ⟨j, hjk, hp⟩⟩
/-- A loop, by what holds at each round's head. -/
theorem AWp.loop {c : Code} (I : AAct → AHeap → Prop) (m : AAct → AHeap → Nat) (h0 : I a h) (round : ∀ a h, I a h → AWp P n c (thenA (fun a' h' => I a' h' ∧ m a' h' < m a h) Q) a h) : AWp P n (.loop c) Q a h := by
  intro C act hC S hn
  let J (act : Act) (w : World) (k : Nat) : Prop := ∃ a D, I a D.h ∧ D.w = w ∧ St D a act ∧ Ext n C D ∧ n ≤ D.h.length ∧ m a D.h = k
  have hex : ∃ k, J act C.w k := ⟨m a C.h, a, C, hC ▸ h0, rfl, S, Ext.refl _ _, hC ▸ hn, rfl⟩
  classical
  let M (act : Act) (w : World) : Nat := if hh : ∃ k, J act w k then Classical.choose (least hh) else 0
  refine wp_loop (fun act w => ∃ k, J act w k) M hex fun act1 w1 h1 => ?_
  have hM : J act1 w1 (M act1 w1) := by simp only [M]; rw [dif_pos h1]; exact (Classical.choose_spec (least h1)).1
  obtain ⟨a1, D1, i1, i2, i3, i4, i5, i6⟩ := hM
  have := round a1 D1.h i1 D1 act1 rfl i3 i5
  rw [i2] at this
  refine wp_mono this fun e act' w' hp => ?_
  obtain ⟨a', D, k1, k2, k3, k4, k5⟩ := hp
  cases e with
  | normal =>
    obtain ⟨k1a, k1b⟩ := k1
    have hJ : J act' w' (m a' D.h) := ⟨a', D, k1a, k2, k3, i4.trans k4, k5, rfl⟩
    refine ⟨⟨_, hJ⟩, ?_⟩
    have hle : M act' w' ≤ m a' D.h := by
      simp only [M]
      rw [dif_pos ⟨_, hJ⟩]
      exact (Classical.choose_spec (least ⟨_, hJ⟩)).2 _ hJ
    omega
  | _ => exact ⟨a', D, k1, k2, k3, i4.trans k4, k5⟩
end
end Go.Eng
