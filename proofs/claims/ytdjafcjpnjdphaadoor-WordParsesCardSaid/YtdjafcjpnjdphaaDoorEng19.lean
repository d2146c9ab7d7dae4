/- The engine, part 19: for use: functions by their compiled texts, calls by their contracts, states that say less. -/
import Derived.Test.YtdjafcjpnjdphaaDoorEng18
set_option linter.unusedVariables false
set_option linter.unusedSimpArgs false
namespace Go.Eng
open Go Go.RowKit

def vcFun (F : Option AFun) (P : Program) (args : List AV) (R : AV → Prop) : Prop :=
  match F with
  | some F => vcCode P 0 F.code (retQ F.rets R) (initA args F.n) []
  | none => False
theorem PCalls.of {P : Program} {g : FuncId} {fn : Func} {args : List AV} {R : AV → Prop} (hf : P.funcs[g]? = some fn) (hname : (fn.name == "runtime.NumGoroutine") = false) (hdr : drawsF P fn = true) (H : vcFun (compileF P fn) P args R) : PCalls P g args R := by
  unfold vcFun at H
  split at H
  · rename_i F hF; exact PCalls.of_fun hf hname hF hdr H
  · exact H.elim
theorem ACall.step {P : Program} {g : FuncId} {args : List AV} {R : AV → Prop} {h : AHeap} {K : AAct → AHeap → Prop} {a : AAct} {dst : Option Nat} (H : PCalls P g args R) (ha : uptoL 0 args = true) (hK : ∀ r, R r → K (putA a dst r) h) : ACall P g args h (callK K a dst) :=
  ACall.of_pure H ha hK
theorem ACall.stepE {P : Program} {g : FuncId} {args : List AV} {v : AV} {h : AHeap} {K : AAct → AHeap → Prop} {a : AAct} {dst : Option Nat} (H : PCalls P g args (· = v)) (ha : uptoL 0 args = true) (hK : K (putA a dst v) h) : ACall P g args h (callK K a dst) :=
  ACall.of_pure H ha fun r hr => hr ▸ hK
theorem HCall.stepE {P : Program} {g : FuncId} {args : List AV} {v : AV} {h0 : AHeap} {K : AAct → AHeap → Prop} {a : AAct} {dst : Option Nat} {news : AHeap} (H : PCalls P g args (· = v)) (ha : uptoL 0 args = true) (hK : K (putA a dst v) news) : HCall P g args h0 (callH K a dst news) :=
  HCall.of_pure H ha hK
theorem ret_same {h : AHeap} {v : AV} {R : AV → Prop} (hu : v.upto 0 = true) (hR : R v) : ∃ r, Vw h v r ∧ R r := ⟨v, Vw.same hu, hR⟩

/-! ### States that say less -/
mutual
def AV.ren (f : Nat → Nat) : AV → AV
  | .agg cs => .agg (renL f cs)
  | .tuple cs => .tuple (renL f cs)
  | .list z es => .list z (renLL f es)
  | .sl s z i n => .sl (f s) z i n
  | .ref s z i o => .ref (f s) z i o
  | .cref cs => .cref (renL f cs)
  | .mapr s => .mapr (f s)
  | .func g a b => .func g (renL f a) (renL f b)
  | .iface t v => .iface t (v.ren f)
  | v => v
def renL (f : Nat → Nat) : List AV → List AV
  | [] => []
  | c :: cs => c.ren f :: renL f cs
def renLL (f : Nat → Nat) : List (List AV) → List (List AV)
  | [] => []
  | c :: cs => renL f c :: renLL f cs
end
theorem renL_get (f : Nat → Nat) : ∀ (l : List AV) (i : Nat), (renL f l)[i]? = (l[i]?).map (AV.ren f)
  | [], i => by simp [renL]
  | c :: cs, 0 => by simp [renL]
  | c :: cs, i + 1 => by simp [renL, renL_get f cs i]
theorem renLL_get (f : Nat → Nat) : ∀ (l : List (List AV)) (i : Nat), (renLL f l)[i]? = (l[i]?).map (renL f)
  | [], i => by simp [renLL]
  | c :: cs, 0 => by simp [renLL]
  | c :: cs, i + 1 => by simp [renLL, renLL_get f cs i]
theorem renL_len (f : Nat → Nat) : ∀ (l : List AV), (renL f l).length = l.length
  | [] => rfl
  | c :: cs => by simp [renL, renL_len f cs]
theorem renLL_len (f : Nat → Nat) : ∀ (l : List (List AV)), (renLL f l).length = l.length
  | [] => rfl
  | c :: cs => by simp [renLL, renLL_len f cs]
mutual
theorem ren_upto (f : Nat → Nat) : ∀ (v : AV), v.upto 0 = true → v.ren f = v
  | .agg cs, h => by simp only [AV.ren]; rw [renL_upto f cs h]
  | .tuple cs, h => by simp only [AV.ren]; rw [renL_upto f cs h]
  | .list z es, h => by simp only [AV.ren]; rw [renLL_upto f es h]
  | .sl _ _ _ _, h => by simp [AV.upto] at h
  | .ref _ _ _ _, h => by simp [AV.upto] at h
  | .mapr _, h => by simp [AV.upto] at h
  | .cref cs, h => by simp only [AV.ren]; rw [renL_upto f cs h]
  | .func g a b, h => by
    simp only [AV.upto, Bool.and_eq_true] at h
    simp only [AV.ren]; rw [renL_upto f a h.1, renL_upto f b h.2]
  | .iface t v, h => by simp only [AV.ren]; rw [ren_upto f v h]
  | .any, _ => rfl
  | .bool _, _ => rfl
  | .int _ _, _ => rfl
  | .str _, _ => rfl
  | .nilp, _ => rfl
  | .nils, _ => rfl
  | .emp, _ => rfl
  | .nilFunc, _ => rfl
  | .nilIface, _ => rfl
theorem renL_upto (f : Nat → Nat) : ∀ (l : List AV), uptoL 0 l = true → renL f l = l
  | [], _ => rfl
  | c :: cs, h => by
    simp only [uptoL, Bool.and_eq_true] at h
    simp only [renL]; rw [ren_upto f c h.1, renL_upto f cs h.2]
theorem renLL_upto (f : Nat → Nat) : ∀ (l : List (List AV)), uptoLL 0 l = true → renLL f l = l
  | [], _ => rfl
  | c :: cs, h => by
    simp only [uptoLL, Bool.and_eq_true] at h
    simp only [renLL]; rw [renL_upto f c h.1, renLL_upto f cs h.2]
end
/-- The old name of each slot. -/
theorem VR.unren {C D : Cfg} {f : Nat → Nat} (hw : D.w = C.w) (ho : ∀ b, D.own b → C.own b) (hs : ∀ s, s < D.h.length → C.used (f s) → D.used s ∧ D.r s = C.r (f s)) {y : AV} {v : Value} (h : VR C y v) : ∀ x : AV, x.upto D.h.length = true → x.ren f = y → VR D x v := by
  have leafy : ∀ (x : AV), (∀ z, x.ren f = z → True) := fun _ _ _ => trivial
  induction h with
  | any v => intro x hx hr; cases x <;> simp [AV.ren] at hr; exact .any v
  | bool b => intro x hx hr; cases x <;> simp [AV.ren] at hr; subst hr; exact .bool _
  | int k n => intro x hx hr; cases x <;> simp [AV.ren] at hr; obtain ⟨rfl, rfl⟩ := hr; exact .int _ _
  | str s => intro x hx hr; cases x <;> simp [AV.ren] at hr; subst hr; exact .str _
  | nilp => intro x hx hr; cases x <;> simp [AV.ren] at hr; exact .nilp
  | nils => intro x hx hr; cases x <;> simp [AV.ren] at hr; exact .nils
  | emp a => intro x hx hr; cases x <;> simp [AV.ren] at hr; exact .emp a
  | nilFunc => intro x hx hr; cases x <;> simp [AV.ren] at hr; exact .nilFunc
  | nilIface => intro x hx hr; cases x <;> simp [AV.ren] at hr; exact .nilIface
  | agg cs vs hl h ih =>
    intro x hx hr
    cases x <;> simp [AV.ren] at hr
    rename_i xs
    subst hr
    refine .agg _ vs (by rw [hl, renL_len]) fun i u hu => ih i (u.ren f) (by rw [renL_get, hu]; rfl) u (uptoL_get hx hu) rfl
  | tuple cs vs hl h ih =>
    intro x hx hr
    cases x <;> simp [AV.ren] at hr
    rename_i xs
    subst hr
    refine .tuple _ vs (by rw [hl, renL_len]) fun i u hu => ih i (u.ren f) (by rw [renL_get, hu]; rfl) u (uptoL_get hx hu) rfl
  | list z es a m cap g hn hc ha hz hcell hown hv ih =>
    intro x hx hr
    cases x <;> simp [AV.ren] at hr
    rename_i z' xs
    obtain ⟨rfl, rfl⟩ := hr
    rw [renLL_len] at hn
    refine .list _ _ a m cap g hn hc ha (fun e he => ?_) (fun i j hi hj => by rw [hw]; exact hcell i j hi hj) (fun h1 h2 h3 => hown h1 h2 (ho _ h3)) fun i e he j u hu => ?_
    · obtain ⟨i, hi⟩ := List.mem_iff_getElem?.1 he
      have := hz (renL f e) (List.mem_of_getElem? (i := i) (by rw [renLL_get, hi]; rfl))
      rwa [renL_len] at this
    · exact ih i (renL f e) (by rw [renLL_get, he]; rfl) j (u.ren f) (by rw [renL_get, hu]; rfl) u (uptoL_get (uptoLL_get hx he) hu) rfl
  | listNil z a cap =>
    intro x hx hr
    cases x <;> simp [AV.ren] at hr
    rename_i z' xs
    obtain ⟨rfl, hr⟩ := hr
    have : xs = [] := by cases xs with
      | nil => rfl
      | cons a b => simp [renLL] at hr
    subst this
    exact .listNil _ _ _
  | sl s z i m cap hu hc hsz =>
    intro x hx hr
    cases x <;> simp [AV.ren] at hr
    rename_i s' z' i' n'
    obtain ⟨rfl, rfl, rfl, rfl⟩ := hr
    simp only [AV.upto, decide_eq_true_eq] at hx
    obtain ⟨h1, h2⟩ := hs _ hx hu
    rw [← h2]
    refine .sl _ _ _ _ cap h1 hc ?_
    rw [h2, hw]; exact hsz
  | ref s z i o hu =>
    intro x hx hr
    cases x <;> simp [AV.ren] at hr
    rename_i s' z' i' n'
    obtain ⟨rfl, rfl, rfl, rfl⟩ := hr
    simp only [AV.upto, decide_eq_true_eq] at hx
    obtain ⟨h1, h2⟩ := hs _ hx hu
    rw [← h2]
    exact .ref _ _ _ _ h1
  | mapr s hu =>
    intro x hx hr
    cases x <;> simp [AV.ren] at hr
    rename_i s'
    subst hr
    simp only [AV.upto, decide_eq_true_eq] at hx
    obtain ⟨h1, h2⟩ := hs _ hx hu
    rw [← h2]
    exact .mapr _ h1
  | cref cs a g ha hcell hown hv ih =>
    intro x hx hr
    cases x <;> simp [AV.ren] at hr
    rename_i xs
    subst hr
    rw [renL_len] at hcell hown
    exact .cref _ a g ha (fun j hj => by rw [hw]; exact hcell j hj) (fun h1 h3 => hown h1 (ho _ h3)) fun j u hu => ih j (u.ren f) (by rw [renL_get, hu]; rfl) u (uptoL_get hx hu) rfl
  | func fn first caps vf vc hf hc h1 h2 ih1 ih2 =>
    intro x hx hr
    cases x <;> simp [AV.ren] at hr
    rename_i g a b
    obtain ⟨rfl, rfl, rfl⟩ := hr
    simp only [AV.upto, Bool.and_eq_true] at hx
    exact .func _ _ _ vf vc (by rw [hf, renL_len]) (by rw [hc, renL_len]) (fun i u hu => ih1 i (u.ren f) (by rw [renL_get, hu]; rfl) u (uptoL_get hx.1 hu) rfl) fun i u hu => ih2 i (u.ren f) (by rw [renL_get, hu]; rfl) u (uptoL_get hx.2 hu) rfl
  | iface t y v h ih =>
    intro x hx hr
    cases x <;> simp [AV.ren] at hr
    rename_i t' u
    obtain ⟨rfl, hr⟩ := hr
    exact .iface _ _ _ (ih u hx hr)

/-- Each temporary is as it was, but for names, or nothing is said of it. -/
def wkL (f : Nat → Nat) (m : Nat) : List AV → List AV → Prop
  | [], [] => True
  | y :: ys, x :: xs => (x = .any ∨ (x.upto m = true ∧ x.ren f = y)) ∧ wkL f m ys xs
  | _, _ => False
theorem wkL_get {f : Nat → Nat} {m : Nat} : ∀ {ys xs : List AV}, wkL f m ys xs → ys.length = xs.length ∧ ∀ (i : Nat) (x : AV), xs[i]? = some x → x = .any ∨ (x.upto m = true ∧ ys[i]? = some (x.ren f))
  | [], [], _ => ⟨rfl, fun i x hx => by simp at hx⟩
  | y :: ys, x :: xs, h => by
    obtain ⟨h1, h2⟩ := wkL_get h.2
    refine ⟨by simp [h1], fun i u hu => ?_⟩
    cases i with
    | zero =>
      simp only [List.getElem?_cons_zero, Option.some.injEq] at hu
      subst hu
      rcases h.1 with h3 | ⟨h3, h4⟩
      · exact .inl h3
      · exact .inr ⟨h3, by simp [h4]⟩
    | succ i => simpa using h2 i u (by simpa using hu)
/-- Each slot is as its old one was, but for names. -/
def wkH (f : Nat → Nat) (h : AHeap) (m : Nat) : Nat → AHeap → Prop
  | _, [] => True
  | j, .live z es :: r => (h[f j]? = some (.live z (renLL f es)) ∧ uptoLL m es = true) ∧ wkH f h m (j + 1) r
  | _, _ => False
theorem wkH_get {f : Nat → Nat} {h : AHeap} {m : Nat} : ∀ {r : AHeap} {j : Nat}, wkH f h m j r → ∀ (i : Nat) (x : Slot), r[i]? = some x → ∃ z es, x = .live z es ∧ h[f (j + i)]? = some (.live z (renLL f es)) ∧ uptoLL m es = true
  | [], j, _, i, x, hx => by simp at hx
  | .live z es :: r, j, hh, 0, x, hx => by
    simp only [List.getElem?_cons_zero, Option.some.injEq] at hx
    exact ⟨z, es, hx.symm, hh.1.1, hh.1.2⟩
  | .live z es :: r, j, hh, i + 1, x, hx => by
    obtain ⟨z', es', h1, h2, h3⟩ := wkH_get hh.2 i x (by simpa using hx)
    exact ⟨z', es', h1, by rw [show j + (i + 1) = j + 1 + i by omega]; exact h2, h3⟩
  | .free :: r, j, hh, _, _, _ => by simp [wkH] at hh
  | .dead :: r, j, hh, _, _, _ => by simp [wkH] at hh
/-- Slots under new names, the others left. -/
theorem Wk.ren {a a' : AAct} {h h' : AHeap} (f : Nat → Nat) (ha : wkL f h'.length a a') (hh : wkH f h h'.length 0 h') (hinj : ∀ i j, i < h'.length → j < h'.length → f i = f j → i = j) : Wk 0 a h a' h' := by
  intro C act hC S hn
  subst hC
  obtain ⟨h1, h2⟩ := wkL_get ha
  have hlive : ∀ s, s < h'.length → ∃ z es, h'[s]? = some (.live z es) ∧ C.h[f s]? = some (.live z (renLL f es)) ∧ uptoLL h'.length es = true := by
    intro s hs
    obtain ⟨z, es, e1, e2, e3⟩ := wkH_get hh s h'[s] (by simp [hs])
    exact ⟨z, es, by rw [← e1]; simp [hs], by simpa using e2, e3⟩
  have hDlive : ∀ s, Cfg.live { C with h := h', r := fun s => C.r (f s) } s → s < h'.length ∧ C.live (f s) := by
    rintro s ⟨z, es, hx⟩
    have hs := (List.getElem?_eq_some_iff.1 hx).1
    obtain ⟨z', es', _, e2, _⟩ := hlive s hs
    exact ⟨hs, z', _, e2⟩
  have hown : ∀ b, Cfg.own { C with h := h', r := fun s => C.r (f s) } b → C.own b := by
    rintro b (hb | ⟨s, hs, hr⟩)
    · exact .inl hb
    · exact .inr ⟨f s, (hDlive s hs).2, hr⟩
  have hused : ∀ s, s < h'.length → Cfg.used { C with h := h', r := fun s => C.r (f s) } s := fun s hs => by
    obtain ⟨z, es, e1, _, _⟩ := hlive s hs
    exact ⟨_, e1, by simp⟩
  have hv : ∀ {y : AV} {v : Value}, VR C y v → ∀ x : AV, x.upto h'.length = true → x.ren f = y → VR { C with h := h', r := fun s => C.r (f s) } x v := fun hy =>
    VR.unren (C := C) (D := { C with h := h', r := fun s => C.r (f s) }) rfl hown (fun s hs _ => ⟨hused s hs, rfl⟩) hy
  refine ⟨{ C with h := h', r := fun s => C.r (f s) }, rfl, rfl, ⟨?_, ?_, S.nodef⟩, ?_, Nat.zero_le _⟩
  · refine ⟨fun s z es hl => ?_, fun s t hs ht hr => ?_, S.rel.olt, fun p hp => (S.rel.glo p hp).recfg (C := C) (D := { C with h := h', r := fun s => C.r (f s) }) rfl hown (gs_upto hp 0), S.rel.gsz⟩
    · have hs := (List.getElem?_eq_some_iff.1 hl).1
      obtain ⟨z', es', e1, e2, e3⟩ := hlive s hs
      have : Slot.live z es = Slot.live z' es' := by
        have : some (Slot.live z es) = some (Slot.live z' es') := hl.symm.trans e1
        simpa using this
      cases this
      obtain ⟨g2, o, g, g4, g5, g6⟩ := S.rel.livx (f s) z _ e2
      refine ⟨g2, o, g, g4, g5.congr (renLL_len f es).symm fun i e he => ⟨renL f e, by rw [renLL_get, he]; rfl, (renL_len f e).symm⟩, fun i e he j x hx => ?_⟩
      · exact hv (g6 i (renL f e) (by rw [renLL_get, he]; rfl) j (x.ren f) (by rw [renL_get, hx]; rfl)) x (uptoL_get (uptoLL_get e3 he) hx) rfl
    · obtain ⟨k1, k2⟩ := hDlive s hs
      obtain ⟨k3, k4⟩ := hDlive t ht
      exact hinj s t k1 k3 (S.rel.inj _ _ k2 k4 hr)
  · refine ⟨by rw [S.vrs.1, h1], fun i x hx => ?_⟩
    rcases h2 i x hx with rfl | ⟨h3, h4⟩
    · exact .any _
    · exact hv (S.vrs.2 i _ h4) x h3 rfl
  · exact ⟨rfl, rfl, rfl, rfl, Nat.le_refl _, fun s hs => absurd hs (Nat.not_lt_zero _), fun b hb hno => ⟨rfl, fun ⟨s, hs, hr⟩ => hno ⟨f s, (hDlive s hs).2, hr⟩⟩, fun b x hx => hx⟩
end Go.Eng
