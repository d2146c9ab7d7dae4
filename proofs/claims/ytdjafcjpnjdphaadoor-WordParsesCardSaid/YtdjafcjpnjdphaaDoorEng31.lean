/- The engine, part 31: weaker states in which own slices are given up: what was built is from now on a list that nobody writes to. -/
import Derived.Test.YtdjafcjpnjdphaaDoorEng30
set_option linter.unusedVariables false
set_option linter.unusedSimpArgs false
namespace Go.Eng
open Go Go.RowKit
/-- An own slice that is given up: its slot has no name in the weaker state. -/
inductive FzL (f : Nat → Nat) (h : AHeap) (m : Nat) (z : Nat) (es : List (List AV)) (s z' i n : Nat) : Prop where
  | mk (hz : z' = z) (hi : i = 0) (hs : h[s]? = some (.live z es)) (hu : Up0 es) (hn : n = es.length) (hf : ∀ j, j < m → f j ≠ s)
mutual
def eqZ (f : Nat → Nat) (h : AHeap) (m : Nat) : AV → AV → Prop
  | .any, y => True
  | .int k a, y => (match y with | .int k' b => (match kindEq k k' with | true => b = a | false => False) | _ => False)
  | .bool a, y => (match y with | .bool b => b = a | _ => False)
  | .str a, y => (match y with | .str b => b = a | _ => False)
  | .nilp, y => (match y with | .nilp => True | _ => False)
  | .nils, y => (match y with | .nils => True | _ => False)
  | .emp, y => (match y with | .emp => True | _ => False)
  | .nilFunc, y => (match y with | .nilFunc => True | _ => False)
  | .nilIface, y => (match y with | .nilIface => True | _ => False)
  | .agg cs, y => (match y with | .agg ds => eqZL f h m cs ds | _ => False)
  | .tuple cs, y => (match y with | .tuple ds => eqZL f h m cs ds | _ => False)
  | .cref cs, y => (match y with | .cref ds => eqZL f h m cs ds | _ => False)
  | .list z es, y => (match y with
    | .list z' fs => (match Nat.beq z z' with | true => Up0 es ∧ fs = es | false => False)
    | .sl s z' i n => FzL f h m z es s z' i n
    | .nils => es = []
    | .emp => es = []
    | _ => False)
  | .sl s z i n, y => (match y with | .sl s' z' i' n' => (match Nat.beq (f s) s', Nat.blt s m, Nat.beq z z', Nat.beq i i' with | true, true, true, true => n' = n | _, _, _, _ => False) | _ => False)
  | .ref s z i o, y => (match y with | .ref s' z' i' o' => (match Nat.beq (f s) s', Nat.blt s m, Nat.beq z z', Nat.beq i i', Nat.beq o o' with | true, true, true, true, true => True | _, _, _, _, _ => False) | _ => False)
  | .mapr s, y => (match y with | .mapr s' => (match Nat.beq (f s) s', Nat.blt s m with | true, true => True | _, _ => False) | _ => False)
  | .func g a b, y => (match y with | .func g' a' b' => g' = g ∧ eqZL f h m a a' ∧ eqZL f h m b b' | _ => False)
  | .iface t v, y => (match y with | .iface t' v' => t' = t ∧ eqZ f h m v v' | _ => False)
def eqZL (f : Nat → Nat) (h : AHeap) (m : Nat) : List AV → List AV → Prop
  | [], y => (match y with | [] => True | _ => False)
  | c :: cs, y => (match y with | d :: ds => eqZ f h m c d ∧ eqZL f h m cs ds | _ => False)
end
/-- What stands for what, in two configurations. -/
def OkZ (C D : Cfg) (x y : AV) : Prop := ∀ v, VR C y v → VR D x v
structure Fzg (f : Nat → Nat) (h : AHeap) (m : Nat) (C D : Cfg) : Prop where
  hw : D.w = C.w
  ho : ∀ b, D.own b → C.own b
  hs : ∀ s, s < D.h.length → C.used (f s) → D.used s ∧ D.r s = C.r (f s)
  hD : D.h.length = m
  hC : C.h = h
  R : Rel C
  hfr : ∀ s z es, h[s]? = some (.live z es) → (∀ j, j < m → f j ≠ s) → ¬ D.own (C.r s)
section
variable {f : Nat → Nat} {h : AHeap} {m : Nat} {C D : Cfg}
theorem Fzg.ren (G : Fzg f h m C D) {x y : AV} (h1 : x.upto m = true) (h2 : x.ren f = y) : OkZ C D x y := fun v hv => VR.unren G.hw G.ho G.hs hv x (by rw [G.hD]; exact h1) h2
theorem Fzg.same (G : Fzg f h m C D) {x : AV} (h1 : x.upto 0 = true) : OkZ C D x x := G.ren (upto_m m x h1) (ren_upto f x h1)
theorem Fzg.freeze (G : Fzg f h m C D) {z : Nat} {es : List (List AV)} {s z' i n : Nat} (H : FzL f h m z es s z' i n) : OkZ C D (.list z es) (.sl s z' i n) := by
  obtain ⟨rfl, rfl, hs, hu, rfl, hf⟩ := H
  intro v hv
  obtain ⟨cap, rfl, hus, hnc, _, _, hshp, _⟩ := hv.sls
  have hs' : C.h[s]? = some (.live z' es) := by rw [G.hC]; exact hs
  obtain ⟨hz, hO, hes, vs, ty, fz, hh, hfz, hsz, hvr⟩ := G.R.live s z' es hs' (G.R.pos hs' hshp)
  refine .list z' _ _ es.length cap (fun q j => vs.getD (q * z' + j) undef) rfl hnc rfl hes (fun q j hq hj => ?_) (fun _ _ => G.hfr s z' es hs hf) fun q e he j x hx => ?_
  · have hlt := row_lt (i := q) (n := es.length) (z := z') hq hj
    have : 0 * z' + (q * z' + j) = q * z' + j := by omega
    rw [G.hw]
    show C.w.cell? _ = _
    unfold World.cell?
    simp only [hh, this]
    have h2 : q * z' + j < vs.size := by omega
    simp [h2, Array.getD_eq_getD_getElem?]
  · have hup := uptoL_get (uptoLL_get hu.get he) hx
    exact G.same hup _ (hvr q e he j x hx)
mutual
theorem eqZ_ok (G : Fzg f h m C D) : ∀ (x y : AV), eqZ f h m x y → OkZ C D x y
  | .any, y, _ => fun v _ => .any v
  | .int k a, y, H => by
    unfold eqZ at H
    split at H
    · split at H
      · rename_i hk; rw [kindEq_spec hk, H]; exact G.same rfl
      · exact H.elim
    · exact H.elim
  | .bool a, y, H => by unfold eqZ at H; split at H; rw [H]; exact G.same rfl; exact H.elim
  | .str a, y, H => by unfold eqZ at H; split at H; rw [H]; exact G.same rfl; exact H.elim
  | .nilp, y, H => by unfold eqZ at H; split at H; exact G.same rfl; exact H.elim
  | .nils, y, H => by unfold eqZ at H; split at H; exact G.same rfl; exact H.elim
  | .emp, y, H => by unfold eqZ at H; split at H; exact G.same rfl; exact H.elim
  | .nilFunc, y, H => by unfold eqZ at H; split at H; exact G.same rfl; exact H.elim
  | .nilIface, y, H => by unfold eqZ at H; split at H; exact G.same rfl; exact H.elim
  | .agg cs, y, H => by
    unfold eqZ at H
    split at H
    · rename_i ds
      obtain ⟨h1, h2⟩ := eqZL_ok G cs ds H
      intro v hv
      cases hv with
      | agg _ vs hl hx =>
        refine .agg cs vs (by rw [hl, h1]) fun i x hi => ?_
        obtain ⟨y, hy, hok⟩ := h2 i x hi
        exact hok _ (hx i y hy)
    · exact H.elim
  | .tuple cs, y, H => by
    unfold eqZ at H
    split at H
    · rename_i ds
      obtain ⟨h1, h2⟩ := eqZL_ok G cs ds H
      intro v hv
      cases hv with
      | tuple _ vs hl hx =>
        refine .tuple cs vs (by rw [hl, h1]) fun i x hi => ?_
        obtain ⟨y, hy, hok⟩ := h2 i x hi
        exact hok _ (hx i y hy)
    · exact H.elim
  | .cref cs, y, H => by
    unfold eqZ at H
    split at H
    · rename_i ds
      obtain ⟨h1, h2⟩ := eqZL_ok G cs ds H
      intro v hv
      cases hv with
      | cref _ a g ha hcell hown hx =>
        refine .cref cs a g ha (fun j hj => by rw [G.hw]; exact hcell j (by omega)) (fun hp ho => hown (by omega) (G.ho _ ho)) fun j x hj => ?_
        obtain ⟨y, hy, hok⟩ := h2 j x hj
        exact hok _ (hx j y hy)
    · exact H.elim
  | .list z es, y, H => by
    unfold eqZ at H
    split at H
    · split at H
      · rename_i hz
        have := Nat.eq_of_beq_eq_true hz
        subst this
        obtain ⟨h1, rfl⟩ := H
        exact G.same h1.list
      · exact H.elim
    · exact G.freeze H
    · subst H
      intro v hv
      rw [hv.nils']
      exact .listNil z _ _
    · subst H
      intro v hv
      cases hv
      exact .listNil z _ _
    · exact H.elim
  | .sl s z i n, y, H => by
    unfold eqZ at H
    split at H
    · split at H
      · rename_i h1 h2 h3 h4
        have := Nat.eq_of_beq_eq_true h1
        have := Nat.eq_of_beq_eq_true h3
        have := Nat.eq_of_beq_eq_true h4
        subst_vars
        exact G.ren (by simpa [AV.upto] using h2) rfl
      · exact H.elim
    · exact H.elim
  | .ref s z i o, y, H => by
    unfold eqZ at H
    split at H
    · split at H
      · rename_i h1 h2 h3 h4 h5
        have := Nat.eq_of_beq_eq_true h1
        have := Nat.eq_of_beq_eq_true h3
        have := Nat.eq_of_beq_eq_true h4
        have := Nat.eq_of_beq_eq_true h5
        subst_vars
        exact G.ren (by simpa [AV.upto] using h2) rfl
      · exact H.elim
    · exact H.elim
  | .mapr s, y, H => by
    unfold eqZ at H
    split at H
    · split at H
      · rename_i h1 h2
        have := Nat.eq_of_beq_eq_true h1
        subst_vars
        exact G.ren (by simpa [AV.upto] using h2) rfl
      · exact H.elim
    · exact H.elim
  | .func g a b, y, H => by
    unfold eqZ at H
    split at H
    · rename_i g' a' b'
      obtain ⟨rfl, ha, hb⟩ := H
      obtain ⟨h1, h2⟩ := eqZL_ok G a a' ha
      obtain ⟨h3, h4⟩ := eqZL_ok G b b' hb
      intro v hv
      cases hv with
      | func _ _ _ vf vc hf hc hx1 hx2 =>
        refine .func _ _ _ vf vc (by rw [hf, h1]) (by rw [hc, h3]) (fun i x hi => ?_) fun i x hi => ?_
        · obtain ⟨y, hy, hok⟩ := h2 i x hi
          exact hok _ (hx1 i y hy)
        · obtain ⟨y, hy, hok⟩ := h4 i x hi
          exact hok _ (hx2 i y hy)
    · exact H.elim
  | .iface t v, y, H => by
    unfold eqZ at H
    split at H
    · rename_i t' v'
      obtain ⟨rfl, H⟩ := H
      intro u hu
      cases hu with
      | iface _ _ w hx => exact .iface _ _ _ (eqZ_ok G v v' H _ hx)
    · exact H.elim
theorem eqZL_ok (G : Fzg f h m C D) : ∀ (xs ys : List AV), eqZL f h m xs ys → xs.length = ys.length ∧ ∀ (i : Nat) (x : AV), xs[i]? = some x → ∃ y, ys[i]? = some y ∧ OkZ C D x y
  | [], y, H => by unfold eqZL at H; split at H; exact ⟨rfl, fun i x hx => by simp at hx⟩; exact H.elim
  | c :: cs, y, H => by
    unfold eqZL at H
    split at H
    · rename_i d ds
      obtain ⟨h1, h2⟩ := eqZL_ok G cs ds H.2
      refine ⟨by simp [h1], fun i x hx => ?_⟩
      cases i with
      | zero =>
        simp only [List.getElem?_cons_zero, Option.some.injEq] at hx
        subst hx
        exact ⟨d, rfl, eqZ_ok G c d H.1⟩
      | succ i => simpa using h2 i x (by simpa using hx)
    · exact H.elim
end
end
/-- Rows of a slot (weaker, stronger). -/
inductive RowsZ (f : Nat → Nat) (h : AHeap) (m : Nat) : List (List AV) → List (List AV) → Prop where
  | one {r s : List AV} (H : eqZL f h m r s) : RowsZ f h m [r] [s]
  | same {es fs : List (List AV)} (h1 : Up0 es) (h2 : fs = es) : RowsZ f h m es fs
  | app {es es0 fs : List (List AV)} {r s : List AV} (h1 : Up0 es0) (h2 : fs = es0 ++ [s]) (h3 : es = es0 ++ [r]) (H : eqZL f h m r s) : RowsZ f h m es fs
  | hd {es es0 fs : List (List AV)} {r s : List AV} (h1 : Up0 es0) (h2 : fs = s :: es0) (h3 : es = r :: es0) (H : eqZL f h m r s) : RowsZ f h m es fs
def OkRs (C D : Cfg) (es fs : List (List AV)) : Prop := es.length = fs.length ∧ ∀ (i : Nat) (e : List AV), es[i]? = some e → ∃ g, fs[i]? = some g ∧ e.length = g.length ∧ ∀ (j : Nat) (x : AV), e[j]? = some x → ∃ y, g[j]? = some y ∧ OkZ C D x y
theorem RowsZ.ok {f : Nat → Nat} {h : AHeap} {m : Nat} {C D : Cfg} (G : Fzg f h m C D) {es fs : List (List AV)} (H : RowsZ f h m es fs) : OkRs C D es fs := by
  have keep : ∀ (es : List (List AV)), Up0 es → ∀ (i : Nat) (e : List AV), es[i]? = some e → ∀ (j : Nat) (x : AV), e[j]? = some x → OkZ C D x x := fun es hu i e he j x hx => G.same (uptoL_get (uptoLL_get hu.get he) hx)
  cases H with
  | one H =>
    obtain ⟨h1, h2⟩ := eqZL_ok G _ _ H
    refine ⟨rfl, fun i e he => ?_⟩
    cases i with
    | zero =>
      simp only [List.getElem?_cons_zero, Option.some.injEq] at he
      subst he
      exact ⟨_, rfl, h1, h2⟩
    | succ i => simp at he
  | same h1 h2 =>
    subst h2
    exact ⟨rfl, fun i e he => ⟨e, he, rfl, fun j x hx => ⟨x, hx, keep _ h1 i e he j x hx⟩⟩⟩
  | hd h1 h2 h3 H =>
    rename_i es0 r s
    subst h2 h3
    obtain ⟨k1, k2⟩ := eqZL_ok G _ _ H
    refine ⟨by simp, fun i e he => ?_⟩
    cases i with
    | zero =>
      simp only [List.getElem?_cons_zero, Option.some.injEq] at he
      subst he
      exact ⟨s, rfl, k1, k2⟩
    | succ i =>
      simp only [List.getElem?_cons_succ] at he ⊢
      exact ⟨e, he, rfl, fun j x hx => ⟨x, hx, keep _ h1 i e he j x hx⟩⟩
  | app h1 h2 h3 H =>
    rename_i es0 r s
    subst h2 h3
    obtain ⟨k1, k2⟩ := eqZL_ok G _ _ H
    refine ⟨by simp, fun i e he => ?_⟩
    by_cases hi : i < es0.length
    · rw [List.getElem?_append_left hi] at he
      exact ⟨e, by rw [List.getElem?_append_left hi]; exact he, rfl, fun j x hx => ⟨x, hx, keep _ h1 i e he j x hx⟩⟩
    · rw [List.getElem?_append_right (by omega)] at he
      have h0 : i - es0.length = 0 := by
        have := (List.getElem?_eq_some_iff.1 he).1
        simp at this
        omega
      rw [h0] at he
      simp only [List.getElem?_cons_zero, Option.some.injEq] at he
      subst he
      refine ⟨s, by rw [List.getElem?_append_right (by omega), h0]; rfl, k1, k2⟩
def hpZ (f : Nat → Nat) (m : Nat) (h : AHeap) : Nat → AHeap → Prop
  | _, [] => True
  | j, s :: r => (match s with
    | .live z es => (match h[f j]? with
      | some (.live z' fs) => (match Nat.beq z z' with | true => RowsZ f h m es fs ∧ hpZ f m h (j + 1) r | false => False)
      | _ => False)
    | _ => False)
theorem hpZ_get {f : Nat → Nat} {m : Nat} {h : AHeap} : ∀ {r : AHeap} {j : Nat}, hpZ f m h j r → ∀ (i : Nat) (x : Slot), r[i]? = some x → ∃ z es fs, x = .live z es ∧ h[f (j + i)]? = some (.live z fs) ∧ RowsZ f h m es fs
  | [], j, H, i, x, hx => by simp at hx
  | s :: r, j, H, i, x, hx => by
    unfold hpZ at H
    split at H
    · split at H
      · rename_i h1
        split at H
        · rename_i hz
          have := Nat.eq_of_beq_eq_true hz
          subst this
          cases i with
          | zero =>
            simp only [List.getElem?_cons_zero, Option.some.injEq] at hx
            subst hx
            exact ⟨_, _, _, rfl, h1, H.1⟩
          | succ i =>
            obtain ⟨z, es, fs, e1, e2, e3⟩ := hpZ_get H.2 i x (by simpa using hx)
            exact ⟨z, es, fs, e1, by rw [show j + (i + 1) = j + 1 + i by omega]; exact e2, e3⟩
        · exact H.elim
      · exact H.elim
    · exact H.elim
def wkZ (f : Nat → Nat) (h : AHeap) (m : Nat) : List AV → List AV → Prop
  | [], ys => (match ys with | [] => True | _ => False)
  | x :: xs, ys => (match ys with
    | y :: ys => (match x with | .any => wkZ f h m xs ys | x => eqZ f h m x y ∧ wkZ f h m xs ys)
    | [] => False)
theorem wkZ_get {f : Nat → Nat} {h : AHeap} {m : Nat} {C D : Cfg} (G : Fzg f h m C D) : ∀ {xs ys : List AV}, wkZ f h m xs ys → ys.length = xs.length ∧ ∀ (i : Nat) (x : AV), xs[i]? = some x → x = .any ∨ ∃ y, ys[i]? = some y ∧ OkZ C D x y
  | [], ys, H => by unfold wkZ at H; split at H; exact ⟨rfl, fun i x hx => by simp at hx⟩; exact H.elim
  | x :: xs, ys, H => by
    unfold wkZ at H
    split at H
    · rename_i y ys
      have rest : wkZ f h m xs ys → (x = .any ∨ OkZ C D x y) → (y :: ys).length = (x :: xs).length ∧ ∀ (i : Nat) (u : AV), (x :: xs)[i]? = some u → u = .any ∨ ∃ y', (y :: ys)[i]? = some y' ∧ OkZ C D u y' := by
        intro H hxy
        obtain ⟨h1, h2⟩ := wkZ_get G H
        refine ⟨by simp [h1], fun i u hu => ?_⟩
        cases i with
        | zero =>
          simp only [List.getElem?_cons_zero, Option.some.injEq] at hu
          subst hu
          rcases hxy with e | e
          · exact .inl e
          · exact .inr ⟨y, rfl, e⟩
        | succ i => simpa using h2 i u (by simpa using hu)
      split at H
      · exact rest H (.inl rfl)
      · exact rest H.2 (.inr (eqZ_ok G _ _ H.1))
    · exact H.elim
/-- A weaker state in which slots may be given up. -/
theorem Wk.eqz {a a' : AAct} {h h' : AHeap} (f : Nat → Nat) (hinj : ∀ i, i < h'.length → ∀ j, j < h'.length → f i = f j → i = j) (H : wkZ f h h'.length a' a ∧ hpZ f h'.length h 0 h') : Wk 0 a h a' h' := by
  intro C act hC S hn
  subst hC
  obtain ⟨ha, hh⟩ := H
  have hlive : ∀ s, s < h'.length → ∃ z es fs, h'[s]? = some (.live z es) ∧ C.h[f s]? = some (.live z fs) ∧ RowsZ f C.h h'.length es fs := by
    intro s hs
    obtain ⟨z, es, fs, e1, e2, e3⟩ := hpZ_get hh s h'[s] (by simp [hs])
    exact ⟨z, es, fs, by rw [← e1]; simp [hs], by simpa using e2, e3⟩
  have hDlive : ∀ s, Cfg.live { C with h := h', r := fun s => C.r (f s) } s → s < h'.length ∧ C.live (f s) := by
    rintro s ⟨z, es, hx⟩
    have hs := (List.getElem?_eq_some_iff.1 hx).1
    obtain ⟨z', es', fs, _, e2, _⟩ := hlive s hs
    exact ⟨hs, z', _, e2⟩
  have hown : ∀ b, Cfg.own { C with h := h', r := fun s => C.r (f s) } b → C.own b := by
    rintro b (hb | ⟨s, hs, hr⟩)
    · exact .inl hb
    · exact .inr ⟨f s, (hDlive s hs).2, hr⟩
  have hused : ∀ s, s < h'.length → Cfg.used { C with h := h', r := fun s => C.r (f s) } s := fun s hs => by
    obtain ⟨z, es, fs, e1, _, _⟩ := hlive s hs
    exact ⟨_, e1, by simp⟩
  have G : Fzg f C.h h'.length C { C with h := h', r := fun s => C.r (f s) } := {
    hw := rfl, ho := hown, hs := fun s hs _ => ⟨hused s hs, rfl⟩, hD := rfl, hC := rfl, R := S.rel,
    hfr := fun s z es hs hf => by
      rintro (hb | ⟨t, ht, hr⟩)
      · exact (S.rel.livx s z es hs).1 hb
      · obtain ⟨h1, h2⟩ := hDlive t ht
        exact hf t h1 (S.rel.inj _ _ h2 ⟨z, es, hs⟩ hr) }
  obtain ⟨h1, h2⟩ := wkZ_get G ha
  refine ⟨{ C with h := h', r := fun s => C.r (f s) }, rfl, rfl, ⟨?_, ?_, S.nodef⟩, ?_, Nat.zero_le _⟩
  · refine ⟨fun s z es hl => ?_, fun s t hs ht hr => ?_, S.rel.olt, fun p hp => (S.rel.glo p hp).recfg (C := C) (D := { C with h := h', r := fun s => C.r (f s) }) rfl hown (gs_upto hp 0), S.rel.gsz⟩
    · have hs := (List.getElem?_eq_some_iff.1 hl).1
      obtain ⟨z', es', fs, e1, e2, e3⟩ := hlive s hs
      have : Slot.live z es = Slot.live z' es' := by
        have : some (Slot.live z es) = some (Slot.live z' es') := hl.symm.trans e1
        simpa using this
      cases this
      obtain ⟨k1, k2⟩ := e3.ok G
      obtain ⟨g2, o, gg, g4, g5, g6⟩ := S.rel.livx (f s) z _ e2
      refine ⟨g2, o, gg, g4, g5.congr k1 fun i e he => ?_, fun i e he j x hx => ?_⟩
      · obtain ⟨g, hg, hl, _⟩ := k2 i e he
        exact ⟨g, hg, hl⟩
      · obtain ⟨g, hg, hl, hc⟩ := k2 i e he
        obtain ⟨y, hy, hok⟩ := hc j x hx
        exact hok _ (g6 i g hg j y hy)
    · obtain ⟨k1, k2⟩ := hDlive s hs
      obtain ⟨k3, k4⟩ := hDlive t ht
      exact hinj s k1 t k3 (S.rel.inj _ _ k2 k4 hr)
  · refine ⟨by rw [S.vrs.1, h1], fun i x hx => ?_⟩
    rcases h2 i x hx with rfl | ⟨y, h3, h4⟩
    · exact .any _
    · exact h4 _ (S.vrs.2 i _ h3)
  · exact ⟨rfl, rfl, rfl, rfl, Nat.le_refl _, fun s hs => absurd hs (Nat.not_lt_zero _), fun b hb hno => ⟨rfl, fun ⟨s, hs, hr⟩ => hno ⟨f s, (hDlive s hs).2, hr⟩⟩, fun b x hx => hx⟩
end Go.Eng
