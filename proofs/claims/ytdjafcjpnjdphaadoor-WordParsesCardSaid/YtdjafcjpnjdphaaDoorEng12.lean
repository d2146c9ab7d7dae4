/- The engine, part 12: what is to be shown of a function's text, and that it suffices. -/
import Derived.Test.YtdjafcjpnjdphaaDoorEng11
set_option linter.unusedVariables false
set_option linter.unusedSimpArgs false
namespace Go.Eng
open Go Go.RowKit

/-! ### Calls -/
def Enters (P : Program) (g : FuncId) : Prop := ∃ fn, P.funcs[g]? = some fn ∧ fn.body.isNone = false ∧ (fn.name == "runtime.NumGoroutine") = false
/-- A call that needs nothing of the own heap. -/
def PCalls (P : Program) (g : FuncId) (args : List AV) (R : AV → Prop) : Prop :=
  Enters P g ∧ ∀ (C : Cfg) (vs : Array Value), C.h = [] → Rel C → VRs C args vs → Calls P g vs C.w fun e w' => ∃ v r D, e = .returned v ∧ R r ∧ D.h = [] ∧ D.w = w' ∧ Rel D ∧ VR D r v ∧ Ext 0 C D
/-- A call at some heap. -/
def ACall (P : Program) (g : FuncId) (args : List AV) (h : AHeap) (K : AV → AHeap → Prop) : Prop :=
  Enters P g ∧ ∀ (C : Cfg) (vs : Array Value), C.h = h → Rel C → VRs C args vs → Calls P g vs C.w fun e w' => ∃ v r D, e = .returned v ∧ K r D.h ∧ D.w = w' ∧ Rel D ∧ VR D r v ∧ Ext h.length C D ∧ h.length ≤ D.h.length

/-- An operation as the model has it, wherever it is met; what comes of it may hang on the tape. -/
def AX (P : Program) (op : Op) (ty : TypeId) (xs : List AV) (h : AHeap) (K : AV → AHeap → Prop) : Prop :=
  ∀ (C : Cfg) (e : Operand → Value) (o : Oper), o.op = op → o.type = ty → C.h = h → Rel C → VRs C xs (op.operands.map e) → ∃ nx cv r D, (execOp e o).run P C.w = .ok nx D.w ∧ nxVal nx = some cv ∧ K r D.h ∧ Rel D ∧ VR D r cv ∧ Ext h.length C D ∧ h.length ≤ D.h.length
theorem compile_xop {P : Program} {op op' : Op} {ty ty' : TypeId} {xs : List AOpnd} (hc : compileOp P op ty = some (.xop op' ty' xs)) : op' = op ∧ ty' = ty ∧ cOpnds op.operands.toList = some xs := by
  cases op <;> simp only [compileOp] at hc
  case range t x =>
    cases hx : cOpnd x with
    | none => simp [hx] at hc
    | some y =>
      simp only [hx, Option.map_some, Option.some.injEq, AOp.xop.injEq] at hc
      obtain ⟨rfl, rfl, rfl⟩ := hc
      exact ⟨rfl, rfl, by simp [Op.operands, cOpnds, hx]⟩
  case next x s =>
    cases hx : cOpnd x with
    | none => simp [hx] at hc
    | some y =>
      simp only [hx, Option.map_some, Option.some.injEq, AOp.xop.injEq] at hc
      obtain ⟨rfl, rfl, rfl⟩ := hc
      exact ⟨rfl, rfl, by simp [Op.operands, cOpnds, hx]⟩
  case convert s d x =>
    split at hc
    · cases hx : cOpnd x <;> simp [hx] at hc
    · cases hx : cOpnd x <;> simp [hx] at hc
    · split at hc <;> (try (cases hx : cOpnd x <;> simp [hx] at hc)) <;> (try cases hc)
    · split at hc <;> (try (cases hx : cOpnd x <;> simp [hx] at hc)) <;> (try cases hc)
    · split at hc
      · cases hx : cOpnd x with
        | none => simp [hx] at hc
        | some y =>
          simp only [hx, Option.map_some, Option.some.injEq, AOp.xop.injEq] at hc
          obtain ⟨rfl, rfl, rfl⟩ := hc
          exact ⟨rfl, rfl, by simp [Op.operands, cOpnds, hx]⟩
      · cases hc
    · cases hc
  case entry x =>
    cases hx : cOpnd x with
    | none => simp [hx] at hc
    | some y =>
      simp only [hx, Option.map_some, Option.some.injEq, AOp.xop.injEq] at hc
      obtain ⟨rfl, rfl, rfl⟩ := hc
      exact ⟨rfl, rfl, by simp [Op.operands, cOpnds, hx]⟩
  case call cl =>
    split at hc
    · rename_i y hy
      simp only [Option.some.injEq, AOp.xop.injEq] at hc
      obtain ⟨rfl, rfl, rfl⟩ := hc
      refine ⟨rfl, rfl, ?_⟩
      unfold lenMap at hy
      split at hy
      · rename_i x t hb hx ht
        split at hy
        · have ha : (Op.call cl).operands.toList = [x] := by simp [Op.operands, Call.operands, hb, hx]
          rw [ha]
          simp [cOpnds, hy]
        · cases hy
      · cases hy
    · split at hc
      · rename_i ys hy
        simp only [Option.some.injEq, AOp.xop.injEq] at hc
        obtain ⟨rfl, rfl, rfl⟩ := hc
        refine ⟨rfl, rfl, ?_⟩
        unfold copyOf at hy
        split at hy
        · rename_i x y hb hx
          have ha : (Op.call cl).operands.toList = [x, y] := by simp [Op.operands, Call.operands, hb, hx]
          rw [ha]; exact hy
        · cases hy
      · exfalso
        unfold compileCall at hc
        repeat' (split at hc)
        all_goals first
          | (simp_all; done)
          | (cases hc; done)
  all_goals (exfalso; repeat' (split at hc))
  all_goals first
    | (simp_all; done)
    | (cases hc; done)
/-- The state as one sees it who owns nothing of it. -/
def Cfg.shut (C : Cfg) : Cfg := { O := C.own, r := C.r, h := [], w := C.w }
theorem shut_own (C : Cfg) (b : Nat) : C.shut.own b ↔ C.own b := by
  constructor
  · rintro (h | ⟨s, ⟨z, es, hs⟩, _⟩)
    · exact h
    · simp [Cfg.shut] at hs
  · exact fun h => .inl h
/-- A value that names no slot reads in one state as in another one with the same memory and fewer owners. -/
theorem VR.recfg {C D : Cfg} (hw : D.w = C.w) (ho : ∀ b, D.own b → C.own b) {x : AV} {v : Value} (h : VR C x v) : x.upto 0 = true → VR D x v := by
  induction h with
  | any v => exact fun _ => .any v
  | bool b => exact fun _ => .bool b
  | int k n => exact fun _ => .int k n
  | str s => exact fun _ => .str s
  | nilp => exact fun _ => .nilp
  | nils => exact fun _ => .nils
  | emp a => exact fun _ => .emp a
  | nilFunc => exact fun _ => .nilFunc
  | nilIface => exact fun _ => .nilIface
  | agg cs vs hl h ih => exact fun hb => .agg cs vs hl fun i x hi => ih i x hi (uptoL_get hb hi)
  | tuple cs vs hl h ih => exact fun hb => .tuple cs vs hl fun i x hi => ih i x hi (uptoL_get hb hi)
  | list z es a m cap f hn hc ha hz hcell hown hv ih =>
    intro hb
    exact .list z es a m cap f hn hc ha hz (fun i j hi hj => by rw [hw]; exact hcell i j hi hj) (fun h1 h2 h3 => hown h1 h2 (ho _ h3)) fun i e he j x hx => ih i e he j x hx (uptoL_get (uptoLL_get hb he) hx)
  | listNil z a cap => exact fun _ => .listNil z a cap
  | sl s z i m cap hs hc hsz => intro hb; simp [AV.upto] at hb
  | ref s z i o hs => intro hb; simp [AV.upto] at hb
  | mapr s hs => intro hb; simp [AV.upto] at hb
  | cref cs a f ha hcell hown hv ih =>
    intro hb
    exact .cref cs a f ha (fun j hj => by rw [hw]; exact hcell j hj) (fun h1 h3 => hown h1 (ho _ h3)) fun j x hx => ih j x hx (uptoL_get hb hx)
  | func fn first caps vf vc hf hc h1 h2 ih1 ih2 =>
    intro hb
    simp only [AV.upto, Bool.and_eq_true] at hb
    exact .func fn first caps vf vc hf hc (fun i x hi => ih1 i x hi (uptoL_get hb.1 hi)) fun i x hi => ih2 i x hi (uptoL_get hb.2 hi)
  | iface t x v h ih => exact fun hb => .iface t x v (ih hb)
theorem Rel.shut {C : Cfg} (R : Rel C) : Rel C.shut := by
  refine ⟨fun s z es h => by simp [Cfg.shut] at h, fun s t ⟨z, es, h⟩ => by simp [Cfg.shut] at h, fun b hb => ?_, fun p hp => ?_, R.gsz⟩
  rotate_left 1
  · exact (R.glo p hp).recfg (C := C) (D := C.shut) rfl (fun b hb => (shut_own C b).1 hb) (gs_upto hp 0)
  rcases hb with hb | hb
  · exact R.olt b hb
  · exact R.lown_lt hb
theorem VRs.recfg {C D : Cfg} (hw : D.w = C.w) (ho : ∀ b, D.own b → C.own b) {l : List AV} {vs : Array Value} (h : VRs C l vs) (hl : uptoL 0 l = true) : VRs D l vs :=
  ⟨h.1, fun i x hx => (h.2 i x hx).recfg hw ho (uptoL_get hl hx)⟩
/-- Back in the caller's state. -/
theorem Rel.back {C D : Cfg} (R : Rel C) (hD : D.h = []) (E : Ext 0 C.shut D) : Rel { C with w := D.w } ∧ Ext C.h.length C { C with w := D.w } ∧ ∀ b, Cfg.own { C with w := D.w } b ↔ D.own b := by
  have hno : ∀ b, ¬ C.shut.lown b := by
    rintro b ⟨s, ⟨z, es, hs⟩, _⟩
    simp [Cfg.shut] at hs
  have he : ∀ n, Ext n C { C with w := D.w } := fun n => ⟨rfl, E.os, E.tape, E.output, E.size, fun s _ h => ⟨h, rfl⟩, fun b hb hl => ⟨(E.keep b hb (hno b)).1, hl⟩, E.shape⟩
  refine ⟨R.of_ext (he _) (fun s z es hl => .inl ⟨hl, rfl, (E.keep _ (R.lown_lt ⟨s, ⟨z, es, hl⟩, rfl⟩) (hno _)).1⟩) R.inj, he _, fun b => ?_⟩
  have hDo : D.O = C.own := E.O
  constructor
  · intro h
    exact .inl (by rw [hDo]; exact h)
  · rintro (h | ⟨s, ⟨z, es, hs⟩, _⟩)
    · rw [hDo] at h; exact h
    · rw [hD] at hs; simp at hs
theorem ACall.of_pure {P : Program} {g : FuncId} {args : List AV} {R : AV → Prop} {h : AHeap} {K : AV → AHeap → Prop} (H : PCalls P g args R) (ha : uptoL 0 args = true) (hK : ∀ r, R r → K r h) : ACall P g args h K := by
  refine ⟨H.1, fun C vs hC RC hv => ?_⟩
  refine (H.2 C.shut vs rfl RC.shut (hv.recfg (C := C) (D := C.shut) rfl (fun b hb => (shut_own C b).1 hb) ha)).mono fun e w' ⟨v, r, D, h1, h2, h3, h4, h5, h6, h7⟩ => ?_
  obtain ⟨R1, E1, O1⟩ := RC.back h3 h7
  subst h4
  have hup : r.upto 0 = true := by have := h6.upto; rwa [h3] at this
  subst hC
  exact ⟨v, r, { C with w := D.w }, h1, hK r h2, rfl, R1, h6.recfg (C := D) (D := { C with w := D.w }) rfl (fun b hb => (O1 b).1 hb) hup, E1, Nat.le_refl _⟩
theorem PCalls.mono {P : Program} {g : FuncId} {args : List AV} {R R' : AV → Prop} (H : PCalls P g args R) (hr : ∀ r, R r → R' r) : PCalls P g args R' :=
  ⟨H.1, fun C vs hC RC hv => (H.2 C vs hC RC hv).mono fun e w' ⟨v, r, D, h1, h2, h3⟩ => ⟨v, r, D, h1, hr r h2, h3⟩⟩

/-! ### What is to be shown -/
def fin (K : AAct → AHeap → Prop) (a : AAct) (dst : Option Nat) (h : AHeap) : Res → Prop := fun r => K (putA a dst (r.at h.length)) (r.push h)
def callK (K : AAct → AHeap → Prop) (a : AAct) (dst : Option Nat) : AV → AHeap → Prop := fun r h => K (putA a dst r) h
def vcOne (P : Program) (o : AOper) (K : AAct → AHeap → Prop) (a : AAct) (h : AHeap) : Prop :=
  match o.op with
  | .call f xs => (match evA a f with | .func (.func g) first caps => ACall P g (first ++ evs (evA a) xs ++ caps) h (callK K a o.dst) | _ => False)
  | .xop op ty xs => AX P op ty (evs (evA a) xs) h (callK K a o.dst)
  | op => vcOp op (evA a) h (fin K a o.dst h)
def vcOps (P : Program) (K : AAct → AHeap → Prop) : List AOper → AAct → AHeap → Prop
  | [], a, h => K a h
  | o :: rest, a, h =>
    match o.guard with
    | none => vcOne P o (vcOps P K rest) a h
    | some (t, want) =>
      match a.getD t .any with
      | .bool b => (b = want → vcOne P o (vcOps P K rest) (a.set t (.bool want)) h) ∧ (b = !want → vcOps P K rest (putA (a.set t (.bool (!want))) o.dst .undef) h)
      | .tuple [] => vcOps P K rest (putA a o.dst .undef) h
      | _ => False

def cOper (P : Program) (ops : List Oper) (o : Oper) : Option AOper :=
  match compileOp P o.op o.type with
  | some ao =>
    match o.guard with
    | none => some ⟨o.dst, ao, none⟩
    | some (j, want) =>
      match (ops[j]?).bind (·.dst) with
      | some t => some ⟨o.dst, ao, some (t, want)⟩
      | none => none
  | none => none
def cOpers (P : Program) (ops : List Oper) : List Oper → Option (List AOper)
  | [] => some []
  | o :: l =>
    match cOper P ops o, cOpers P ops l with
    | some x, some y => some (x :: y)
    | _, _ => none

theorem VRs.app {C : Cfg} {l m : List AV} {u v : Array Value} (h : VRs C l u) (k : VRs C m v) : VRs C (l ++ m) (u ++ v) := by
  refine ⟨by simp [h.1, k.1], fun i x hx => ?_⟩
  rw [Array.getD_eq_getD_getElem?]
  by_cases hi : i < l.length
  · rw [List.getElem?_append_left hi] at hx
    have := h.2 i x hx
    rw [Array.getD_eq_getD_getElem?] at this
    rwa [Array.getElem?_append_left (by rw [h.1]; exact hi)]
  · rw [List.getElem?_append_right (by omega)] at hx
    have := k.2 _ x hx
    rw [Array.getD_eq_getD_getElem?] at this
    rwa [Array.getElem?_append_right (by rw [h.1]; omega), h.1]
theorem run_callFunc {P : Program} {g : FuncId} (h : Enters P g) (vs : Array Value) (w : World) : (callFunc g vs).run P w = .ok (.enter g vs) w := by
  obtain ⟨fn, h1, h2, h3⟩ := h
  unfold callFunc
  simp only [Sem.run_bind, run_program, Result.andThen_ok, h1, h2, h3, Bool.false_eq_true, if_false, Sem.run_pure]

section
variable {P : Program} {Q : Exit → Act → World → Prop} {ops : Array Oper} {n : Nat}
theorem St.not_wanted {C : Cfg} {a : AAct} {act : Act} (S : St C a act) : True := trivial

theorem compile_call {op : Op} {ty : TypeId} {f : AOpnd} {xs : List AOpnd} (hc : compileOp P op ty = some (.call f xs)) : ∃ cl fo, op = .call cl ∧ cl.callee = .value fo ∧ cOpnd fo = some f ∧ cOpnds cl.args.toList = some xs := by
  cases op <;> simp only [compileOp] at hc
  case call cl =>
    split at hc
    · cases hc
    split at hc
    · cases hc
    unfold compileCall at hc
    split at hc
    · rename_i fo hcal
      split at hc
      · rename_i g' ys hg hys
        simp only [Option.some.injEq, AOp.call.injEq] at hc
        obtain ⟨rfl, rfl⟩ := hc
        exact ⟨cl, fo, rfl, hcal, hg, hys⟩
      · cases hc
    · cases hc
    · exfalso
      repeat' (split at hc)
      all_goals simp_all
  all_goals (exfalso; repeat' (split at hc))
  all_goals first
    | (simp_all; done)
    | (cases hc; done)
/-- One operation. -/
theorem vcOne_sound {o : Oper} {ao : AOper} {K : AAct → AHeap → Prop} {K' : Act → World → Prop} {a : AAct} {C : Cfg} {act : Act} (hc : compileOp P o.op o.type = some ao.op) (hd : ao.dst = o.dst) (S : St C a act) (hn : n ≤ C.h.length)
    (H : vcOne P ao K a C.h) (hK : ∀ a' D act', K a' D.h → St D a' act' → Ext n C D → n ≤ D.h.length → K' act' D.w) : o.wp P act C.w K' Q := by
  have other : vcOp ao.op (evA a) C.h (fin K a ao.dst C.h) → o.wp P act C.w K' Q := by
    intro H
    obtain ⟨r, hr, hs⟩ := sound hc H
    have hlen : C.h.length ≤ (r.push C.h).length := by cases r <;> simp [Res.push]
    obtain ⟨nx, cv, D, g1, g2, g3, g4, g5, g6⟩ := hs C act.eval S.rel (fun _ _ _ h => h) S.ev C.h.length (r.push C.h) (fun hu => absurd (Cfg.used_lt hu) (Nat.lt_irrefl _)) (by
      cases r with
      | val v => rfl
      | new sl z es =>
        refine ⟨by simp [Res.push], fun s x hs hx => ?_⟩
        simp only [Res.push]
        by_cases hlt : s < C.h.length
        · rw [List.getElem?_append_left hlt]
        · rw [List.getElem?_append_right (by omega), List.getElem?_eq_none (show C.h.length ≤ s by omega)]
          rw [show s - C.h.length = (s - C.h.length - 1) + 1 by omega]
          simp
      | upd s z es => rfl
      | repl s z es =>
        refine ⟨by simp [Res.push], fun hs => by simp only [Res.push]; rw [List.getElem?_append_left (by simpa using hs), List.getElem?_set_self hs], fun k x hk hks hx => ?_⟩
        simp only [Res.push]
        by_cases hlt : k < C.h.length
        · rw [List.getElem?_append_left (by simpa using hlt), List.getElem?_set_ne (Ne.symm hks)]
        · rw [List.getElem?_append_right (by simp; omega), List.getElem?_eq_none (show C.h.length ≤ k by omega)]
          simp only [List.length_set]
          rw [show k - C.h.length = (k - C.h.length - 1) + 1 by omega]
          simp)
    have hk : K' (act.put o.dst cv) D.w := by
      refine hK _ D _ ?_ ((S.ext g3 g4).put o.dst g6) (g4.mono hn) ?_
      · have : fin K a ao.dst C.h r := hr
        unfold fin at this
        rw [g5, ← hd]; exact this
      · rw [g5]; omega
    unfold Oper.wp
    rw [g1]
    cases nx <;> simp only [nxVal, Option.some.injEq, reduceCtorEq] at g2
    · subst g2; exact hk
    · subst g2; exact hk
  unfold vcOne at H
  split at H
  · rename_i f xs hop
    split at H
    · rename_i g first caps hf
      rw [hop] at hc
      obtain ⟨cl, fo, hoo, hcal, hg, hys⟩ := compile_call hc
      obtain ⟨vf, vc, hfe, hvf, hvc⟩ := (hf ▸ S.ev fo f hg : VR C _ (act.eval fo)).func'
      have hargs := S.ev.opnds hys
      have e1 : (cl.args.toList.map act.eval).toArray = cl.args.map act.eval := by apply Array.ext'; simp
      rw [e1] at hargs
      obtain ⟨hent, hcalls⟩ := H
      have hrun : (execOp act.eval o).run P C.w = .ok (.enter g (vf ++ cl.args.map act.eval ++ vc)) C.w := by
        simp only [execOp, hoo, resolve, hcal, hfe, Deferred.ofValue, Sem.run_bind, Sem.run_pure, Result.andThen_ok, invoke]
        exact run_callFunc hent _ _
      unfold Oper.wp
      rw [hrun]
      refine (hcalls C _ rfl S.rel ((hvf.app hargs).app hvc)).mono fun e w' ⟨v, r, D, h1, h2, h3, h4, h5, h6, h7⟩ => ?_
      subst h1
      subst h3
      have := hK _ D _ h2 ((S.ext h4 h6).put ao.dst h5) (h6.mono hn) (by omega)
      rw [hd] at this
      exact this
    · exact H.elim
  · rename_i op ty xs hop
    rw [hop] at hc
    obtain ⟨rfl, rfl, hys⟩ := compile_xop hc
    have hargs := S.ev.opnds hys
    have e1 : (o.op.operands.toList.map act.eval).toArray = o.op.operands.map act.eval := by apply Array.ext'; simp
    rw [e1] at hargs
    obtain ⟨nx, cv, r, D, g1, g2, g3, g4, g5, g6, g7⟩ := H C act.eval o rfl rfl rfl S.rel hargs
    have hk := hK _ D _ g3 ((S.ext g4 g6).put ao.dst g5) (g6.mono hn) (by omega)
    rw [hd] at hk
    unfold Oper.wp
    rw [g1]
    cases nx <;> simp only [nxVal, Option.some.injEq, reduceCtorEq] at g2
    · subst g2; exact hk
    · subst g2; exact hk
  · exact other H

theorem cOper_spec {l : List Oper} {o : Oper} {ao : AOper} (h : cOper P l o = some ao) : compileOp P o.op o.type = some ao.op ∧ ao.dst = o.dst ∧
    ((o.guard = none ∧ ao.guard = none) ∨ ∃ j want t, o.guard = some (j, want) ∧ (l[j]?).bind (·.dst) = some t ∧ ao.guard = some (t, want)) := by
  unfold cOper at h
  split at h
  · rename_i op hop
    split at h
    · rename_i hg
      simp only [Option.some.injEq] at h
      subst h
      exact ⟨hop, rfl, .inl ⟨hg, rfl⟩⟩
    · rename_i j want hg
      split at h
      · rename_i t ht
        simp only [Option.some.injEq] at h
        subst h
        exact ⟨hop, rfl, .inr ⟨j, want, t, hg, ht, rfl⟩⟩
      · cases h
  · cases h
theorem yielded_bool {l : List Oper} {j t : Nat} (ht : (l[j]?).bind (·.dst) = some t) {C : Cfg} {a : AAct} {act : Act} (S : St C a act) {b : Bool} (hb : a.getD t .any = .bool b) : yielded l.toArray act.tmps j = some b := by
  have h1 := (hb ▸ S.vrs.get t : VR C (.bool b) _).bool'
  have h2 : act.tmps[t]? = some (.bool b) := by
    rw [Array.getD_eq_getD_getElem?] at h1
    cases hx : act.tmps[t]? with
    | none => rw [hx] at h1; simp [undef] at h1
    | some u => rw [hx] at h1; simp at h1; rw [h1]
  unfold yielded
  have : ((l.toArray[j]?).bind (·.dst)) = some t := by simpa using ht
  rw [this]
  simp [h2]
theorem yielded_undef {l : List Oper} {j t : Nat} (ht : (l[j]?).bind (·.dst) = some t) {C : Cfg} {a : AAct} {act : Act} (S : St C a act) (hb : a.getD t .any = .tuple []) : yielded l.toArray act.tmps j = none := by
  obtain ⟨vs, h1, h3⟩ := (hb ▸ S.vrs.get t : VR C (.tuple []) _).tuple'
  unfold yielded
  have : ((l.toArray[j]?).bind (·.dst)) = some t := by simpa using ht
  rw [this]
  cases hx : act.tmps[t]? with
  | none => simp [hx]
  | some u =>
    have : u = .tuple vs := by rw [Array.getD_eq_getD_getElem?, hx] at h1; simpa using h1
    subst this
    simp [hx]
theorem St.setB {C : Cfg} {a : AAct} {act : Act} (S : St C a act) {t : Nat} {b : Bool} (hb : a.getD t .any = .bool b) : St C (a.set t (.bool b)) act := by
  refine ⟨S.rel, ⟨by simpa using S.vrs.1, fun i x hx => ?_⟩, S.nodef⟩
  by_cases hti : t = i
  · subst hti
    have hlt : t < a.length := by
      have := (List.getElem?_eq_some_iff.1 hx).1
      simpa using this
    rw [List.getElem?_set_self hlt] at hx
    cases hx
    have := S.vrs.get t
    rwa [hb] at this
  · rw [List.getElem?_set_ne hti] at hx
    exact S.vrs.2 i x hx

/-- A statement whose operations come in the text's order. -/
theorem vcOps_sound {K : AAct → AHeap → Prop} {l0 : List Oper} : ∀ {l : List Oper} {al : List AOper} {a : AAct} {C : Cfg} {act : Act}, cOpers P l0 l = some al → St C a act → n ≤ C.h.length → vcOps P K al a C.h →
    (∀ a' D act', K a' D.h → St D a' act' → Ext n C D → n ≤ D.h.length → Q .normal act' D.w) → wpList P l0.toArray Q l act C.w
  | [], al, a, C, act, hc, S, hn, H, hK => by
    simp only [cOpers, Option.some.injEq] at hc
    subst hc
    exact hK a C act H S (Ext.refl _ _) hn
  | o :: l, al, a, C, act, hc, S, hn, H, hK => by
    simp only [cOpers] at hc
    split at hc
    · rename_i ao al' hao hal
      simp only [Option.some.injEq] at hc
      subst hc
      obtain ⟨h1, h2, h3⟩ := cOper_spec hao
      have go : ∀ a', St C a' act → vcOne P ao (vcOps P K al') a' C.h → o.wp P act C.w (wpList P l0.toArray Q l) Q := fun a' S' H' =>
        vcOne_sound h1 h2 S' hn H' fun a'' D act' k1 k2 k3 k4 => vcOps_sound hal k2 k4 k1 fun a3 D3 act3 m1 m2 m3 m4 => hK a3 D3 act3 m1 m2 (k3.trans m3) m4
      have skip : ∀ a', St C a' act → vcOps P K al' (putA a' ao.dst .undef) C.h → wpList P l0.toArray Q l (act.put o.dst undef) C.w := fun a' S' H' => by
        refine vcOps_sound hal ?_ hn H' hK
        rw [h2]
        exact S'.put o.dst (vr_undef C)
      unfold wpList
      simp only [vcOps] at H
      rcases h3 with ⟨g1, g2⟩ | ⟨j, want, t, g1, g2, g3⟩
      · simp only [g2] at H
        rw [if_pos (by simp [Region.wanted, g1])]
        exact .inl (go a S H)
      · simp only [g3] at H
        split at H
        · rename_i b hb
          have hy := yielded_bool g2 S hb
          by_cases hbw : b = want
          · rw [if_pos (by simp [Region.wanted, g1, hy, hbw])]
            exact .inl (go _ (S.setB (by rw [hb, hbw])) (H.1 hbw))
          · rw [if_neg (by simp [Region.wanted, g1, hy, hbw])]
            have hbn : b = !want := by cases b <;> cases want <;> simp_all
            exact skip _ (S.setB (by rw [hb, hbn])) (H.2 hbn)
        · rename_i hb
          have hy := yielded_undef g2 S hb
          rw [if_neg (by simp [Region.wanted, g1, hy])]
          exact skip _ S H
        · exact H.elim
    · cases hc
end
end Go.Eng
