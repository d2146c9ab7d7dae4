/- The engine: a slice that is written out is an own slice, where it is asked. -/
import Derived.Test.YtdjafcjpnjdphaaDoorEngG
set_option linter.unusedVariables false
set_option linter.unusedSimpArgs false
namespace Go.Eng
open Go Go.RowKit
theorem compile_bslice {P : Program} {op : Op} {ty : TypeId} {z n : Nat} {zero : List AV} {ps : List (Nat × Nat × AOpnd)} (hc : compileOp P op ty = some (.bslice z n zero ps)) :
    ∃ t e0 parts, op = .buildSlice t n parts ∧ P.underlying t = some (.slice e0) ∧ zeroOf P e0 = some zero ∧ szOf P e0 = some z ∧ zero.length = z ∧ 0 < z ∧ 0 < n ∧ n * z ≤ 16777216 ∧ cFill (fun i => some (i * z, z)) parts.toList = some ps := by
  cases op <;> simp only [compileOp] at hc
  case buildSlice t m parts =>
    split at hc
    · rename_i e hu
      split at hc
      · rename_i zs k hz hk
        split at hc
        · cases hc
        split at hc
        · rename_i hcond
          cases hf : cFill (fun i => some (i * k, k)) parts.toList with
          | none => simp [hf] at hc
          | some qs =>
            simp only [hf, Option.map_some, Option.some.injEq, AOp.bslice.injEq] at hc
            obtain ⟨rfl, rfl, rfl, rfl⟩ := hc
            exact ⟨t, e, parts, rfl, hu, hz, hk, hcond.1, hcond.2.1, hcond.2.2.1, hcond.2.2.2, hf⟩
        · cases hc
      · cases hc
    · cases hc
  case call cl =>
    exfalso
    split at hc
    · cases hc
    split at hc
    · cases hc
    unfold compileCall at hc
    repeat' (split at hc)
    all_goals simp_all
  all_goals (exfalso; repeat' (split at hc))
  all_goals first
    | (simp_all; done)
    | (cases hc; done)
theorem snd_bsliceO {P : Program} {o : Oper} {ev : AOpnd → AV} {h : AHeap} {z n : Nat} {zs : List AV} {ps : List (Nat × Nat × AOpnd)} {cs : List AV} (hc : compileOp P o.op o.type = some (.bslice z n zs ps)) (hcs : fillA ev (List.replicate n zs).flatten ps = some cs) :
    OSound P o ev h (.new (some n) z (chunks z n cs)) := by
  obtain ⟨t, e0, parts, ho, hu, hz, hk, hzl, hz0, hn0, hnz, hf⟩ := compile_bslice hc
  obtain ⟨it, zv, hi, hzz, rfl⟩ := zeroOf_info hz
  obtain ⟨ie, hie, hiz⟩ := szOf_info hk
  rw [hi] at hie
  cases hie
  have hzc : zv.cells.size = z := by simpa using hzl
  have hlen : ∀ c : Cfg, VRs c (List.replicate n (zv.cells.toList.map AV.ofCell)).flatten ((Array.range (n * z)).map (zv.cells[· % zv.cells.size]!)) := by
    intro c
    refine ⟨by simp [hzc], fun i x hx => ?_⟩
    have hlt : i < n * z := by
      have := (List.getElem?_eq_some_iff.1 hx).1
      simpa [hzc] using this
    have hmod : i % z < z := Nat.mod_lt _ hz0
    have hget : ∀ (m i : Nat), i < m * z → (List.replicate m (zv.cells.toList.map AV.ofCell)).flatten[i]? = some (AV.ofCell (zv.cells.getD (i % z) undef)) := by
      intro m
      induction m with
      | zero => intro i hi; omega
      | succ m ih =>
        intro i hi
        rw [List.replicate_succ, List.flatten_cons]
        by_cases hiz : i < z
        · rw [List.getElem?_append_left (by simp [hzc]; exact hiz), Nat.mod_eq_of_lt hiz]
          simp [Array.getD_eq_getD_getElem?, show i < zv.cells.size by omega]
        · rw [List.getElem?_append_right (by simp [hzc]; omega), ih]
          · simp only [List.length_map, Array.length_toList, hzc]
            have hm : (i - z) % z = i % z := (Nat.mod_eq_sub_mod (Nat.le_of_not_lt hiz)).symm
            rw [hm]
          · simp only [List.length_map, Array.length_toList, hzc]
            rw [Nat.succ_mul] at hi; omega
    rw [hget n i hlt] at hx
    simp only [Option.some.injEq] at hx
    subst hx
    have : (Array.map (zv.cells[· % zv.cells.size]!) (Array.range (n * z))).getD i undef = zv.cells.getD (i % z) undef := by
      simp [Array.getD_eq_getD_getElem?, hlt, hzc]
      simp [hmod, hzc]
    rw [this]
    exact ofCell_vr c _
  have hflat : cs.length = n * z := by
    have hl0 : (List.replicate n (zv.cells.toList.map AV.ofCell)).flatten.length = n * z := by simp [hzc]
    rw [← hl0]
    exact fillA_len hcs
  refine OSound.fresh (some n) hz0 (fun e he => ?_) fun c e R hs he => ?_
  · obtain ⟨i, hi⟩ := List.mem_iff_getElem?.1 he
    have hin : i < n := by
      have := (List.getElem?_eq_some_iff.1 hi).1
      rwa [chunks_len] at this
    rw [chunks_get z n cs i hin] at hi
    cases hi
    have : (i + 1) * z ≤ n * z := Nat.mul_le_mul_right z hin
    rw [Nat.succ_mul] at this
    simp; omega
  · obtain ⟨arr, h1, h2, h3⟩ := fill_ok he _ hf (hlen c) hcs
    have hb := run_buildSlice (P := P) c.w t e0 n (parts.map fun (i, x) => (i, e x)) arr it zv hu hi hzz (by rw [hiz]; simp; omega) (by rw [hiz]; exact Nat.ne_of_gt (Nat.mul_pos hn0 hz0)) (by rw [hiz]; simpa using h1)
    refine ⟨.value (.slice (some ⟨c.w.heap.size, 0, none⟩) n n), _, c.w, arr, e0, by simp [execOp, ho, hb], rfl, rfl, rfl, rfl, rfl, by rw [chunks_len, h2.1, hflat]; exact Nat.le_refl _, fun i e' hi j x hx => ?_, n, rfl, Nat.le_refl _, by rw [h2.1, hflat]; exact Nat.le_refl _⟩
    have hin : i < n := by
      have := (List.getElem?_eq_some_iff.1 hi).1
      rwa [chunks_len] at this
    rw [chunks_get z n cs i hin] at hi
    cases hi
    have hj : j < z := by
      have := (List.getElem?_eq_some_iff.1 hx).1
      simp at this; omega
    rw [List.getElem?_take, if_pos hj, List.getElem?_drop] at hx
    exact h2.2 _ _ hx
section
variable {P : Program} {n : Nat} {Q : Exit → Act → World → Prop}
theorem litOne_sound {o : Oper} {dst : Option Nat} {K : AAct → AHeap → Prop} {K' : Act → World → Prop} {a : AAct} {C : Cfg} {act : Act} {z m : Nat} {zero : List AV} {ps : List (Nat × Nat × AOpnd)} {cs : List AV} (hc : compileOp P o.op o.type = some (.bslice z m zero ps)) (hd : dst = o.dst) (S : St C a act) (hn : n ≤ C.h.length)
    (hf : fillA (evA a) (List.replicate m zero).flatten ps = some cs) (H : K (putA a dst (.sl C.h.length z 0 m)) (C.h ++ [.live z (chunks z m cs)])) (hK : ∀ a' D act', K a' D.h → St D a' act' → Ext n C D → n ≤ D.h.length → K' act' D.w) : o.wp P act C.w K' Q := by
  have hs := snd_bsliceO (h := C.h) hc hf
  obtain ⟨nx, cv, D, g1, g2, g3, g4, g5, g6⟩ := hs C act.eval S.rel (fun _ _ _ h => h) S.ev C.h.length ((Res.new (some m) z (chunks z m cs)).push C.h) (fun hu => absurd (Cfg.used_lt hu) (Nat.lt_irrefl _)) (by
    refine ⟨by simp [Res.push], fun s x hs hx => ?_⟩
    simp only [Res.push]
    by_cases hlt : s < C.h.length
    · rw [List.getElem?_append_left hlt]
    · rw [List.getElem?_append_right (by omega), List.getElem?_eq_none (show C.h.length ≤ s by omega)]
      rw [show s - C.h.length = (s - C.h.length - 1) + 1 by omega]
      simp)
  have hk : K' (act.put o.dst cv) D.w := by
    refine hK _ D _ ?_ ((S.ext g3 g4).put o.dst g6) (g4.mono hn) ?_
    · rw [g5, ← hd]
      obtain ⟨_, _, _, _, _, _, _, _, hz0, _⟩ := compile_bslice hc
      have hb : Nat.beq z 0 = false := by cases z with | zero => omega | succ z => rfl
      show K (putA a dst (match Nat.beq z 0 with | true => .mapr C.h.length | false => .sl C.h.length z 0 m)) _
      rw [hb]; exact H
    · rw [g5]; simp [Res.push]; omega
  unfold Oper.wp
  rw [g1]
  cases nx <;> simp only [nxVal, Option.some.injEq, reduceCtorEq] at g2
  · subst g2; exact hk
  · subst g2; exact hk
/-- A slice that is written out only to be put behind another one. -/
def litArg (d : Option Nat) (rest : List AOper) : Bool :=
  match d with
  | some t => rest.any fun o => match o.op with | .app _ _ _ (.tmp u) => Nat.beq t u | _ => false
  | none => false
/-- Operations of which those that write a slice out give an own one. -/
def vcOpsL (w : Prims) (P : Program) (el : List Nat) (K : AAct → AHeap → Prop) : List AOper → AAct → AHeap → Prop
  | [], a, h => K a h
  | o :: rest, a, h =>
    match o.guard with
    | some _ => False
    | none =>
      match o.op with
      | .bslice z m zero ps => (match litArg o.dst rest with
        | true => vcOneY w P el o (vcOpsL w P el K rest) a h
        | false => (match fillA (evA a) (List.replicate m zero).flatten ps with | some cs => vcOpsL w P el K rest (putA a o.dst (.sl h.length z 0 m)) (h ++ [.live z (chunks z m cs)]) | none => False))
      | _ => vcOneY w P el o (vcOpsL w P el K rest) a h
theorem vcOpsL_sound {el : List Nat} {K : AAct → AHeap → Prop} {l0 : List Oper} : ∀ {l : List Oper} {al : List AOper} {a : AAct} {C : Cfg} {act : Act}, cOpers P l0 l = some al → St C a act → n ≤ C.h.length → vcOpsL std P el K al a C.h →
    (∀ a' D act', K a' D.h → St D a' act' → Ext n C D → n ≤ D.h.length → Q .normal act' D.w) → wpList P l0.toArray Q l act C.w
  | [], al, a, C, act, hc, S, hn, H, hK => by
    simp only [cOpers, Option.some.injEq] at hc
    subst hc
    exact hK a C act H S (Ext.refl _ _) hn
  | o :: l, al, a, C, act, hc, S, hn, H, hK => by
    simp only [cOpers] at hc
    split at hc
    · rename_i ao al' hao hal
      simp only [Option.some.injEq] at hc
      subst hc
      obtain ⟨h1, h2, h3⟩ := cOper_spec hao
      have next : ∀ a' D act', vcOpsL std P el K al' a' D.h → St D a' act' → Ext n C D → n ≤ D.h.length → wpList P l0.toArray Q l act' D.w := fun a'' D act' k1 k2 k3 k4 =>
        vcOpsL_sound hal k2 k4 k1 fun a3 D3 act3 m1 m2 m3 m4 => hK a3 D3 act3 m1 m2 (k3.trans m3) m4
      unfold wpList
      simp only [vcOpsL] at H
      rcases h3 with ⟨g1, g2⟩ | ⟨j, want, t, g1, g2, g3⟩
      · simp only [g2] at H
        rw [if_pos (by simp [Region.wanted, g1])]
        refine .inl ?_
        split at H
        · rename_i z m zero ps hop
          split at H
          · exact vcOne_sound h1 h2 S hn (vcOneY_sound H fun a h hr => hr) next
          · split at H
            · rename_i cs hcs
              exact litOne_sound (by rw [← hop]; exact h1) h2 S hn hcs H next
            · exact H.elim
        · exact vcOne_sound h1 h2 S hn (vcOneY_sound H fun a h hr => hr) next
      · simp only [g3] at H
    · cases hc
def hasLit (l : List AOper) : Bool := l.any fun o => match o.op with | .bslice _ _ _ _ => true | _ => false
end
/-- The text's spine: there a slice that is written out is an own one. -/
def vcSp (w : Prims) (P : Program) (el : List Nat) (n : Nat) : ACode → APost → AAct → AHeap → Prop
  | .seq x y, Q, a, h => vcSp w P el n x (thenA (vcSp w P el n y Q) Q) a h
  | .ops l, Q, a, h => (match hasLit l with | true => vcOpsL w P el (Q .normal) l a h | false => vcOpsY w P el (Q .normal) l a h)
  | c, Q, a, h => vcCodeY w P el n c Q a h
theorem vcSp_sound {P : Program} {el : List Nat} {n : Nat} : ∀ {code : Code} {c : ACode} {Q Q' : APost} {a : AAct} {h : AHeap}, compileCode P code = some c → drawsB P code = true → (∀ e a h, Q e a h → Q' e a h) → vcSp std P el n c Q a h → AWp P n code Q' a h
  | .seq x y, c, Q, Q', a, h, hc, hd, hq, H => by
    simp only [compileCode] at hc
    split at hc
    · rename_i p q hp hq2
      simp only [Option.some.injEq] at hc
      subst hc
      simp only [drawsB, Bool.and_eq_true] at hd
      refine AWp.seq (vcSp_sound hp hd.1 (fun e a h hr => ?_) H)
      cases e with
      | normal => exact vcSp_sound hq2 hd.2 hq hr
      | _ => exact hq _ _ _ hr
    · cases hc
  | .region id ops false, c, Q, Q', a, h, hc, hd, hq, H => by
    simp only [compileCode] at hc
    cases hx : cOpers P ops.toList ops.toList with
    | none =>
      simp only [hx, Option.map_none, orBad, Option.some.injEq] at hc
      subst hc
      exact (H : False).elim
    | some al =>
      simp only [hx, Option.map_some, orBad, Option.some.injEq] at hc
      subst hc
      simp only [vcSp] at H
      split at H
      · intro C act hC S hn
        refine wp_region_list ?_
        have := vcOpsL_sound (Q := CPost n C Q') (n := n) hx S (hC ▸ hn) (by subst hC; exact H) fun a3 D3 act3 m1 m2 m3 m4 => ⟨a3, D3, hq _ _ _ m1, rfl, m2, m3, m4⟩
        simpa using this
      · have hH : vcCodeY std P el n (.ops al) Q a h := H
        exact vc_sound (by simp only [compileCode, hx, Option.map_some, orBad]) hd (vcCodeY_sound hq hH)
  | .skip, c, Q, Q', a, h, hc, hd, hq, H => vc_sound hc hd (vcCodeY_sound hq (by simp only [compileCode, Option.some.injEq] at hc; subst hc; exact H))
  | .ret, c, Q, Q', a, h, hc, hd, hq, H => vc_sound hc hd (vcCodeY_sound hq (by simp only [compileCode, Option.some.injEq] at hc; subst hc; exact H))
  | .exit id, c, Q, Q', a, h, hc, hd, hq, H => vc_sound hc hd (vcCodeY_sound hq (by simp only [compileCode, Option.some.injEq] at hc; subst hc; exact H))
  | .cond x p q, c, Q, Q', a, h, hc, hd, hq, H => by
    have hc0 := hc
    simp only [compileCode] at hc
    split at hc
    · simp only [Option.some.injEq] at hc
      subst hc
      exact vc_sound hc0 hd (vcCodeY_sound hq H)
    · cases hc
  | .block id x, c, Q, Q', a, h, hc, hd, hq, H => by
    have hc0 := hc
    simp only [compileCode] at hc
    cases hx : compileCode P x with
    | none => simp [hx] at hc
    | some y =>
      simp only [hx, Option.map_some, Option.some.injEq] at hc
      subst hc
      exact vc_sound hc0 hd (vcCodeY_sound hq H)
  | .loop x, c, Q, Q', a, h, hc, hd, hq, H => by
    have hc0 := hc
    simp only [compileCode] at hc
    cases hx : compileCode P x with
    | none => simp [hx] at hc
    | some y =>
      simp only [hx, Option.map_some, Option.some.injEq] at hc
      subst hc
      exact vc_sound hc0 hd (vcCodeY_sound hq H)
  | .region id ops true, c, Q, Q', a, h, hc, hd, hq, H => by
    have hc0 := hc
    simp only [compileCode] at hc
    split at hc
    · cases hx : cOpers P ops.toList ops.toList with
      | none =>
        simp only [hx, Option.map_none, orBad, Option.some.injEq] at hc
        subst hc
        exact vc_sound hc0 hd (vcCodeY_sound hq H)
      | some al =>
        simp only [hx, Option.map_some, orBad, Option.some.injEq] at hc
        subst hc
        exact vc_sound hc0 hd (vcCodeY_sound hq H)
    · cases hx : cOpers P (reord ops.toList) (reord ops.toList) with
      | none =>
        simp only [hx, Option.map_none, orBad, Option.some.injEq] at hc
        subst hc
        exact vc_sound hc0 hd (vcCodeY_sound hq H)
      | some al =>
        simp only [hx, Option.map_some, orBad, Option.some.injEq] at hc
        subst hc
        exact vc_sound hc0 hd (vcCodeY_sound hq H)
  | .rangeFunc _ _ _ _, c, Q, Q', a, h, hc, hd, hq, H => by
    simp only [compileCode, Option.some.injEq] at hc
    subst hc
    exact (H : False).elim
  | .scope _, c, Q, Q', a, h, hc, hd, hq, H => by
    simp only [compileCode, Option.some.injEq] at hc
    subst hc
    exact (H : False).elim
  | .label _, c, Q, Q', a, h, hc, hd, hq, H => by
    simp only [compileCode, Option.some.injEq] at hc
    subst hc
    exact (H : False).elim
  | .goto _, c, Q, Q', a, h, hc, hd, hq, H => by
    simp only [compileCode, Option.some.injEq] at hc
    subst hc
    exact (H : False).elim
  | .refuse _, c, Q, Q', a, h, hc, hd, hq, H => by
    simp only [compileCode, Option.some.injEq] at hc
    subst hc
    exact (H : False).elim
def vcFunL (w : Prims) (F : Option AFun) (P : Program) (args : List AV) (R : AV → Prop) : Prop :=
  match F with
  | some F => vcSp w P (elems [] F.code) 0 F.code (retQX F.rets R) (initA args F.n) []
  | none => False
theorem PCalls.ofL {P : Program} {g : FuncId} {fn : Func} {args : List AV} {R : AV → Prop} (hf : P.funcs[g]? = some fn) (hname : (fn.name == "runtime.NumGoroutine") = false) (hdr : drawsF P fn = true) (H : ∀ w, w = std → ∀ R' : AV → Prop, (∀ r, R r → R' r) → vcFunL w (compileF P fn) P args R') : PCalls P g args R := by
  have H := H std rfl R fun _ h => h
  unfold vcFunL at H
  split at H
  · rename_i F hc
    unfold compileF at hc
    split at hc
    · rename_i code hb
      split at hc
      · rename_i c r hcc hr
        simp only [Option.some.injEq] at hc
        subst hc
        have HA : AWp P 0 code (retQ r R) (initA args fn.ntmps) [] := vcSp_sound hcc (by unfold drawsF at hdr; rw [hb] at hdr; exact hdr) (fun e a h hr => retQX_std e a h hr) H
        refine ⟨⟨fn, hf, by simp [hb], hname⟩, fun C vs hC RC hv => ?_⟩
        refine calls_of_wp hf hb ?_
        refine wp_mono (HA C _ hC (init_st RC hv fn.ntmps) (Nat.zero_le _)) fun e act' w' ⟨a', D, h1, h2, h3, h4, h5⟩ => ?_
        have fin : (∃ l, retVs a' D.h r = some l ∧ ∃ x, Vw D.h (retOne l) x ∧ R x) → act'.defers = [] ∧ ∃ v, (results fn act'.tmps).run P w' = .ok v w' ∧
            ∃ v' r D, Ending.returned v = .returned v' ∧ R r ∧ D.h = [] ∧ D.w = w' ∧ Rel D ∧ VR D r v' ∧ Ext 0 C D := by
          rintro ⟨l, hl, x, hx, hRx⟩
          obtain ⟨u, k1, k2⟩ := run_results hr h3 hl
          subst h2
          refine ⟨h3.nodef, u, k1, u, x, { D with h := [] }, rfl, hRx, rfl, rfl, ?_, hx D rfl h3.rel u k2, ?_⟩
          · exact ⟨fun s z es h => by simp at h, fun s t ⟨z, es, h⟩ => by simp at h, h3.rel.olt, fun p hp => (h3.rel.glo p hp).recfg (C := D) (D := { D with h := [] }) rfl (fun b hb => hb.elim .inl fun ⟨s, ⟨z, es, h⟩, _⟩ => by simp at h) (gs_upto hp 0), h3.rel.gsz⟩
          · exact ⟨h4.O, h4.os, h4.tape, h4.output, h4.size, fun s hs => absurd hs (Nat.not_lt_zero _), fun b hb hno => ⟨(h4.keep b hb hno).1, fun ⟨s, ⟨z, es, h⟩, _⟩ => by simp at h⟩, h4.shape⟩
        cases e with
        | normal => exact fin h1
        | ret => exact fin h1
        | exit id => exact h1.elim
        | goto l => exact h1.elim
        | panic c => exact h1.elim
        | outgrown => exact h1.elim
      · cases hc
    · cases hc
  · exact H.elim
end Go.Eng
