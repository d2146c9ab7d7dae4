/- The engine, part 14: the head of a statement whose order is open, as its text has it. -/
import Derived.Test.YtdjafcjpnjdphaaDoorEng13
set_option linter.unusedVariables false
set_option linter.unusedSimpArgs false
namespace Go.Eng
open Go Go.RowKit
variable {P : Program} {h0 : AHeap}

theorem yielded_bool' {l : List Oper} {j t : Nat} (ht : (l[j]?).bind (·.dst) = some t) {C : Cfg} {v : Array Value} {b : Bool} (hb : VR C (.bool b) (v.getD t undef)) : yielded l.toArray v j = some b := by
  have h1 := hb.bool'
  have h2 : v[t]? = some (.bool b) := by
    rw [Array.getD_eq_getD_getElem?] at h1
    cases hx : v[t]? with
    | none => rw [hx] at h1; simp [undef] at h1
    | some u => rw [hx] at h1; simp at h1; rw [h1]
  unfold yielded
  have : ((l.toArray[j]?).bind (·.dst)) = some t := by simpa using ht
  rw [this]
  simp [h2]
theorem yielded_undef' {l : List Oper} {j t : Nat} (ht : (l[j]?).bind (·.dst) = some t) {C : Cfg} {v : Array Value} (hb : VR C (.tuple []) (v.getD t undef)) : yielded l.toArray v j = none := by
  obtain ⟨vs, h1, h3⟩ := hb.tuple'
  unfold yielded
  have : ((l.toArray[j]?).bind (·.dst)) = some t := by simpa using ht
  rw [this]
  cases hx : v[t]? with
  | none => simp [hx]
  | some u =>
    have : u = .tuple vs := by rw [Array.getD_eq_getD_getElem?, hx] at h1; simpa using h1
    subst this
    simp [hx]
theorem set_self {a : AAct} {t : Nat} {b : Bool} (h : a.getD t .any = .bool b) : a.set t (.bool b) = a := by
  apply List.ext_getElem?
  intro i
  by_cases hti : t = i
  · subst hti
    rw [List.getD_eq_getElem?_getD] at h
    cases hx : a[t]? with
    | none => rw [hx] at h; simp at h
    | some x =>
      rw [hx] at h
      simp at h
      subst h
      have := (List.getElem?_eq_some_iff.1 hx).1
      rw [List.getElem?_set_self this]
  · rw [List.getElem?_set_ne hti]
theorem evOk_mask {ts : List Nat} {a : AAct} {C : Cfg} {act : Act} (R : Rel C) (h : ∀ u, u ∈ ts → VR C (a.getD u .any) (act.tmps.getD u undef)) : EvOk C (evA (maskA ts a)) act.eval := by
  intro x y hxy
  cases x with
  | tmp t =>
    simp only [cOpnd, Option.some.injEq] at hxy
    subst hxy
    show VR C ((maskA ts a).getD t .any) (act.tmps.getD t undef)
    rw [maskA_get]
    split
    · rename_i ht; exact h t ht
    · exact .any _
  | const v => simp only [cOpnd, Option.some.injEq] at hxy; subst hxy; exact ofVal_vr C v
  | func f => simp only [cOpnd, Option.some.injEq] at hxy; subst hxy; exact .func _ [] [] #[] #[] rfl rfl (fun i x hx => by simp at hx) (fun i x hx => by simp at hx)
  | global g =>
    simp only [cOpnd] at hxy
    split at hxy
    · rename_i cs hg
      simp only [Option.some.injEq] at hxy
      subst hxy
      exact R.glo (g, cs) (gsGet_mem hg)
    · cases hxy
theorem ev_mask {o : AOper} {a : AAct} (x : AOpnd) (hx : x ∈ o.op.opnds) : evA a x = evA (maskA o.looks a) x := by
  cases x with
  | tmp t =>
    show a.getD t .any = (maskA o.looks a).getD t .any
    rw [maskA_get, if_pos]
    exact List.mem_append_left _ (List.mem_filterMap.2 ⟨.tmp t, hx, rfl⟩)
  | const v => rfl
  | func f => rfl

def YieldW (P : Program) (h0 : AHeap) (o : Oper) (ao : AOper) (a : AAct) (news : AHeap) (K : AAct → AHeap → Prop) : Prop :=
  ∃ (v : AV) (s : List Slot), K (putA a ao.dst v) (news ++ s) ∧ s.length = ao.op.slots ∧ s.length ≤ 1 ∧
      ∀ (C : Cfg) (act : Act) (Q : Exit → Act → World → Prop) (K' : Act → World → Prop), HSub h0 C.h → Rel C → (∀ u, u ∈ ao.looks → VR C (a.getD u .any) (act.tmps.getD u undef)) → (s ≠ [] → C.h[h0.length + news.length]? = some .free) →
        (∀ cv D, D.h = (match s with | [x] => C.h.set (h0.length + news.length) x | _ => C.h) → Rel D → VR D v cv → Ext C.h.length C D → K' (act.put o.dst cv) D.w) → o.wp P act C.w K' Q
/-- What is asked where the operation is wanted. -/
theorem yield_wanted {l0 : List Oper} {o : Oper} {ao : AOper} {a : AAct} {news : AHeap} {K : AAct → AHeap → Prop} (hc : compileOp P o.op o.type = some ao.op) (hd : ao.dst = o.dst) (H : vcHOne P ao h0 K a news) : YieldW P h0 o ao a news K := by
  have other : vcOp ao.op (evA a) h0 (finH K a ao.dst (h0.length + news.length) ao.op.slots news) → YieldW P h0 o ao a news K := fun H => by
    unfold YieldW
    obtain ⟨r, hr, hs⟩ := sound hc (vcOp_congr (ev' := evA (maskA ao.looks a)) (fun x hx => ev_mask x hx) H)
    have go : ∀ (C : Cfg) (act : Act) (Q : Exit → Act → World → Prop) (K' : Act → World → Prop) (t : Nat) (h' : AHeap), HSub h0 C.h → Rel C → (∀ u, u ∈ ao.looks → VR C (a.getD u .any) (act.tmps.getD u undef)) → ¬ C.used t → r.heap t C.h h' →
        (∀ cv D, D.h = h' → Rel D → VR D (r.at t) cv → Ext C.h.length C D → K' (act.put o.dst cv) D.w) → o.wp P act C.w K' Q := by
      intro C act Q K' t h' hsub R hl ht hh hk
      obtain ⟨nx, cv, D, g1, g2, g3, g4, g5, g6⟩ := hs C act.eval R hsub (evOk_mask R hl) t h' ht hh
      have hk' := hk cv D g5 g3 g6 g4
      unfold Oper.wp
      rw [g1]
      cases nx <;> simp only [nxVal, Option.some.injEq, reduceCtorEq] at g2
      · subst g2; exact hk'
      · subst g2; exact hk'
    cases r with
    | val v =>
      simp only [finH] at hr
      exact ⟨v, [], by simpa using hr.2, by simp [hr.1], by simp, fun C act Q K' hsub R hl _ hk => go C act Q K' C.h.length C.h hsub R hl (fun hu => absurd (Cfg.used_lt hu) (Nat.lt_irrefl _)) rfl (fun cv D k1 k2 k3 k4 => hk cv D k1 k2 k3 k4)⟩
    | new sl z es =>
      simp only [finH] at hr
      refine ⟨_, [.live z es], hr.2, by simp [hr.1], by simp, fun C act Q K' hsub R hl hfree hk => ?_⟩
      have hf := hfree (by simp)
      have hlt : h0.length + news.length < C.h.length := (List.getElem?_eq_some_iff.1 hf).1
      refine go C act Q K' (h0.length + news.length) (C.h.set (h0.length + news.length) (.live z es)) hsub R hl ?_ ⟨List.getElem?_set_self hlt, fun s x hs hx => by rw [List.getElem?_set_ne (Ne.symm hs)]⟩ (fun cv D k1 k2 k3 k4 => hk cv D k1 k2 k3 k4)
      rintro ⟨x, hx, hx'⟩
      rw [hf] at hx
      cases hx
      exact hx' rfl
    | upd s z es => exact hr.elim
    | repl s z es => exact hr.elim
  unfold vcHOne at H
  unfold YieldW
  split at H
  · rename_i f xs hop
    split at H
    · rename_i g first caps hf
      rw [hop] at hc
      obtain ⟨cl, fo, hoo, hcal, hg, hys⟩ := compile_call hc
      obtain ⟨r, ⟨hent, hcalls⟩, hK⟩ := H
      refine ⟨r, [], by simpa [callH] using hK, by simp [hop, AOp.slots], by simp, fun C act Q K' hsub R hl _ hk => ?_⟩
      have he := evOk_mask R hl
      have hf' : evA (maskA ao.looks a) f = .func (.func g) first caps := by rw [← ev_mask f (by rw [hop]; simp [AOp.opnds])]; exact hf
      have hxs' : evs (evA (maskA ao.looks a)) xs = evs (evA a) xs := (evs_congr fun x hx => ev_mask x (by rw [hop]; simp [AOp.opnds, hx])).symm
      obtain ⟨vf, vc, hfe, hvf, hvc⟩ := (hf' ▸ he fo f hg : VR C _ (act.eval fo)).func'
      have hargs := he.opnds hys
      have e1 : (cl.args.toList.map act.eval).toArray = cl.args.map act.eval := by apply Array.ext'; simp
      rw [e1, hxs'] at hargs
      have hrun : (execOp act.eval o).run P C.w = .ok (.enter g (vf ++ cl.args.map act.eval ++ vc)) C.w := by
        simp only [execOp, hoo, resolve, hcal, hfe, Deferred.ofValue, Sem.run_bind, Sem.run_pure, Result.andThen_ok, invoke]
        exact run_callFunc hent _ _
      unfold Oper.wp
      rw [hrun]
      refine (hcalls C _ hsub R ((hvf.app hargs).app hvc)).mono fun e w' ⟨v, D, h1, h2, h3, h4, h5, h6⟩ => ?_
      subst h1
      subst h3
      exact hk v D h2 h4 h5 h6
    · exact H.elim
  · exact other H

theorem chain_of {l0 : List Oper} {K : AAct → AHeap → Prop} : ∀ {l : List Oper} {al : List AOper} {a : AAct} {news : AHeap}, cOpers P l0 l = some al → vcHead P h0 K al a news → ∃ rs a' news', Chain P h0 l0 l al a news rs a' news' ∧ K a' news'
  | [], al, a, news, hc, H => by
    simp only [cOpers, Option.some.injEq] at hc
    subst hc
    exact ⟨[], a, news, .nil a news, H⟩
  | o :: l, al, a, news, hc, H => by
    simp only [cOpers] at hc
    split at hc
    · rename_i ao al' hao hal
      simp only [Option.some.injEq] at hc
      subst hc
      obtain ⟨h1, h2, h3⟩ := cOper_spec hao
      simp only [vcHead] at H
      rcases h3 with ⟨g1, g2⟩ | ⟨j, want, t, g1, g2, g3⟩
      · simp only [g2] at H
        obtain ⟨v, s, k1, k2, k3, k4⟩ := yield_wanted (l0 := l0) h1 h2 H
        obtain ⟨rs, a', news', c1, c2⟩ := chain_of hal k1
        refine ⟨(v, s) :: rs, a', news', .cons o ao l al' a news v s rs a' news' ⟨fun C act Q K' b1 b2 b3 b4 b5 => ?_⟩ h2 k2 k3 (h2 ▸ c1), c2⟩
        rw [if_pos (by simp [Region.wanted, g1])]
        exact k4 C act Q K' b1 b2 b3 b4 b5
      · simp only [g3] at H
        have hlook : t ∈ ao.looks := by unfold AOper.looks; rw [g3]; simp
        have skip : ∀ (K0 : vcHead P h0 K al' (putA a ao.dst .undef) (news ++ List.replicate ao.op.slots .free)) (hno : ∀ (C : Cfg) (act : Act), (∀ u, u ∈ ao.looks → VR C (a.getD u .any) (act.tmps.getD u undef)) → ¬ (Region.wanted o (yielded l0.toArray act.tmps) = true)),
            ∃ rs a' news', Chain P h0 l0 (o :: l) (ao :: al') a news rs a' news' ∧ K a' news' := by
          intro K0 hno
          obtain ⟨rs, a', news', c1, c2⟩ := chain_of hal K0
          have hk1 : ao.op.slots ≤ 1 := by cases ao.op <;> simp [AOp.slots]
          refine ⟨(.undef, List.replicate ao.op.slots .free) :: rs, a', news', .cons o ao l al' a news _ _ rs a' news' ⟨fun C act Q K' b1 b2 b3 b4 b5 => ?_⟩ h2 (by simp) (by simpa using hk1) (h2 ▸ c1), c2⟩
          rw [if_neg (hno C act b3)]
          refine b5 undef C ?_ b2 (vr_undef C) (Ext.refl _ _)
          rcases Nat.le_one_iff_eq_zero_or_eq_one.1 hk1 with h | h
          · rw [h]; rfl
          · rw [h]
            have hf := b4 (by rw [h]; simp)
            show C.h = C.h.set (h0.length + news.length) .free
            have hlt := (List.getElem?_eq_some_iff.1 hf)
            obtain ⟨q1, q2⟩ := hlt
            rw [← q2]
            exact (List.set_getElem_self q1).symm
        split at H
        · rename_i b hb
          by_cases hbw : b = want
          · have H1 := H.1 hbw
            subst hbw
            rw [set_self hb] at H1
            obtain ⟨v, s, k1, k2, k3, k4⟩ := yield_wanted (l0 := l0) h1 h2 H1
            obtain ⟨rs, a', news', c1, c2⟩ := chain_of hal k1
            refine ⟨(v, s) :: rs, a', news', .cons o ao l al' a news v s rs a' news' ⟨fun C act Q K' b1 b2 b3 b4 b5 => ?_⟩ h2 k2 k3 (h2 ▸ c1), c2⟩
            have hy := yielded_bool' g2 (hb ▸ b3 t hlook)
            rw [if_pos (by simp [Region.wanted, g1, hy])]
            exact k4 C act Q K' b1 b2 b3 b4 b5
          · have hbn : b = !want := by cases b <;> cases want <;> simp_all
            have H2 := H.2 hbn
            rw [← hbn, set_self hb] at H2
            refine skip H2 fun C act b3 => ?_
            have hy := yielded_bool' g2 (hb ▸ b3 t hlook)
            simp [Region.wanted, g1, hy, hbw]
        · rename_i hb
          refine skip H fun C act b3 => ?_
          have hy := yielded_undef' g2 (hb ▸ b3 t hlook)
          simp [Region.wanted, g1, hy]
        · exact H.elim
    · cases hc
end Go.Eng
