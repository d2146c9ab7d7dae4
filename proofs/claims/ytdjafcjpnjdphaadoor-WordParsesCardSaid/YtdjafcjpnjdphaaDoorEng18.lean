/- The engine, part 18: functions from their texts; states that say less. -/
import Derived.Test.YtdjafcjpnjdphaaDoorEng17
set_option linter.unusedVariables false
set_option linter.unusedSimpArgs false
namespace Go.Eng
open Go Go.RowKit

inductive ARet where
  | tmp (t : Nat)
  | cell (t : Nat) (g : Bool) (k : Nat)
def cRet (P : Program) : ResultVar → Option ARet
  | .tmp t => some (.tmp t)
  | .cell a t => match aggOf P t, szOf P t with
    | some g, some k => if (g = true ∨ k = 1) ∧ 0 < k then some (.cell a g k) else none
    | _, _ => none
def cRets (P : Program) : List ResultVar → Option (List ARet)
  | [] => some []
  | x :: xs => match cRet P x, cRets P xs with
    | some y, some ys => some (y :: ys)
    | _, _ => none
def retV (a : AAct) (h : AHeap) : ARet → Option AV
  | .tmp t => some (a.getD t .any)
  | .cell t g k =>
    match a.getD t .any with
    | .ref s z i o =>
      match h[s]? with
      | some (.live z' es) => if z' = z ∧ i < es.length ∧ o + k ≤ z then some (partA g k (es.getD i []) o) else none
      | _ => none
    | _ => none
def retVs (a : AAct) (h : AHeap) : List ARet → Option (List AV)
  | [] => some []
  | x :: xs => match retV a h x, retVs a h xs with
    | some y, some ys => some (y :: ys)
    | _, _ => none
def retOne : List AV → AV
  | [x] => x
  | l => .tuple l
/-- A value as it reads when nothing is owned any more. -/
def Vw (h : AHeap) (v r : AV) : Prop := ∀ (C : Cfg), C.h = h → Rel C → ∀ u, VR C v u → VR { C with h := [] } r u
def retQ (rs : List ARet) (R : AV → Prop) : APost
  | .normal, a, h => ∃ l, retVs a h rs = some l ∧ ∃ r, Vw h (retOne l) r ∧ R r
  | .ret, a, h => ∃ l, retVs a h rs = some l ∧ ∃ r, Vw h (retOne l) r ∧ R r
  | _, _, _ => False

def resSem (tmps : Array Value) : ResultVar → Sem Value
  | .tmp t => pure (tmps.getD t undef)
  | .cell a t => do loadVar t (← asAddr (tmps.getD a undef))
theorem results_eq (fn : Func) (tmps : Array Value) : results fn tmps = (do
  let vs ← fn.results.mapM (resSem tmps)
  pure (if h : vs.size = 1 then vs[0] else .tuple vs)) := by
  unfold results
  congr 1
theorem retV_sound {P : Program} {x : ResultVar} {y : ARet} {a : AAct} {C : Cfg} {act : Act} {v : AV} (hc : cRet P x = some y) (S : St C a act) (h : retV a C.h y = some v) :
    ∃ u, (resSem act.tmps x).run P C.w = .ok u C.w ∧ VR C v u := by
  cases x with
  | tmp t =>
    simp only [cRet, Option.some.injEq] at hc
    subst hc
    simp only [retV, Option.some.injEq] at h
    subst h
    exact ⟨_, by simp [resSem], S.vrs.get t⟩
  | cell ad t =>
    simp only [cRet] at hc
    split at hc
    · rename_i g k hg hk
      split at hc
      · rename_i hgk
        simp only [Option.some.injEq] at hc
        subst hc
        simp only [retV] at h
        split at h
        · rename_i s z i off hy
          split at h
          · rename_i z' es hs
            split at h
            · rename_i hcond
              obtain ⟨rfl, hi, hok⟩ := hcond
              simp only [Option.some.injEq] at h
              subst h
              obtain ⟨hu, hv⟩ := (hy ▸ S.vrs.get ad : VR C _ _).ref'
              obtain ⟨hgk, hk0⟩ := hgk
              obtain ⟨hz, _, hes, vs, ty, fz, hh, hfz, hsz, hvr⟩ := S.rel.live s z' es hs (by omega)
              have hrow : (es.getD i []).length = z' := hes _ (List.mem_of_getElem? (getD_get [] hi))
              have hlt := row_lt (i := i) (n := es.length) (z := z') hi (j := z' - 1) (by omega)
              obtain ⟨cv, h1, h2⟩ := run_loadV (P := P) C (cs := es.getD i []) (f := fun j => vs.getD (i * z' + off + j) undef) ⟨C.r s, i * z' + off, none⟩ rfl hg hk hgk off (by omega) (fun j hj => by
                  have : i * z' + off + j < vs.size := by omega
                  unfold World.cell?
                  rw [hh]
                  simp [this, Array.getD_eq_getD_getElem?])
                (fun j x hj hx => by
                  have := hvr i _ (getD_get [] hi) (off + j) x hx
                  rwa [← Nat.add_assoc] at this)
              refine ⟨cv, ?_, h2⟩
              have h1' : (loadVar t ⟨C.r s, i * z' + off, none⟩).run P C.w = .ok cv C.w := by simpa [Instr.loadAt, Instr.sureAddr] using h1
              simp [resSem, hv, asAddr, h1']
            · cases h
          · cases h
        · cases h
      · cases hc
    · cases hc
theorem retVs_sound {P : Program} {a : AAct} {C : Cfg} {act : Act} (S : St C a act) : ∀ {xs : List ResultVar} {ys : List ARet} {l : List AV}, cRets P xs = some ys → retVs a C.h ys = some l →
    ∃ us : List Value, (xs.mapM (resSem act.tmps)).run P C.w = .ok us C.w ∧ VRs C l us.toArray
  | [], ys, l, hc, h => by
    simp only [cRets, Option.some.injEq] at hc
    subst hc
    simp only [retVs, Option.some.injEq] at h
    subst h
    exact ⟨[], by simp, rfl, fun i x hx => by simp at hx⟩
  | x :: xs, ys, l, hc, h => by
    simp only [cRets] at hc
    split at hc
    · rename_i y ys' hy hys
      simp only [Option.some.injEq] at hc
      subst hc
      simp only [retVs] at h
      split at h
      · rename_i v vs hv hvs
        simp only [Option.some.injEq] at h
        subst h
        obtain ⟨u, h1, h2⟩ := retV_sound hy S hv
        obtain ⟨us, h3, h4⟩ := retVs_sound S hys hvs
        refine ⟨u :: us, ?_, by simpa using h4.1, fun i z hz => ?_⟩
        · rw [List.mapM_cons]
          simp only [Sem.run_bind, h1, h3, Result.andThen_ok, Sem.run_pure]
        · cases i with
          | zero => simp at hz; subst hz; simpa using h2
          | succ i =>
            have := h4.2 i z (by simpa using hz)
            simpa [Array.getD_eq_getD_getElem?] using this
      · cases h
    · cases hc
theorem run_results {P : Program} {fn : Func} {ys : List ARet} {a : AAct} {C : Cfg} {act : Act} {l : List AV} (hc : cRets P fn.results.toList = some ys) (S : St C a act) (h : retVs a C.h ys = some l) :
    ∃ u, (results fn act.tmps).run P C.w = .ok u C.w ∧ VR C (retOne l) u := by
  obtain ⟨us, h1, h2⟩ := retVs_sound S hc h
  have e : (fn.results.mapM (resSem act.tmps)).run P C.w = .ok us.toArray C.w := by
    rw [Array.mapM_eq_mapM_toList, Sem.run_map, h1]
    rfl
  have hl : us.length = l.length := by simpa using h2.1
  by_cases h0 : us.length = 1
  · obtain ⟨u, rfl⟩ := List.length_eq_one_iff.1 h0
    obtain ⟨x, rfl⟩ := List.length_eq_one_iff.1 (hl ▸ h0)
    refine ⟨u, ?_, by simpa [retOne] using h2.2 0 x rfl⟩
    rw [results_eq]
    simp only [Sem.run_bind, e]
    simp
  · refine ⟨.tuple us.toArray, ?_, ?_⟩
    · rw [results_eq]
      simp only [Sem.run_bind, e]
      simp [h0]
    · have : retOne l = .tuple l := by
        match l, hl, h0 with
        | [], _, _ => rfl
        | [x], hl, h0 => exact absurd hl h0
        | x :: y :: l, _, _ => rfl
      rw [this]
      exact .tuple _ _ h2.1 h2.2

structure AFun where
  code : ACode
  rets : List ARet
  n : Nat
def compileF (P : Program) (fn : Func) : Option AFun :=
  match fn.body with
  | some c => match compileCode P c, cRets P fn.results.toList with
    | some c, some r => some ⟨c, r, fn.ntmps⟩
    | _, _ => none
  | none => none
def drawsF (P : Program) (fn : Func) : Bool := match fn.body with | some c => drawsB P c | none => true
def initA (args : List AV) (n : Nat) : AAct := args ++ List.replicate (n - args.length) .undef
theorem init_st {C : Cfg} {args : List AV} {vs : Array Value} (R : Rel C) (hv : VRs C args vs) (n : Nat) : St C (initA args n) { tmps := vs ++ Array.replicate (n - vs.size) undef, defers := [] } := by
  refine ⟨R, ?_, rfl⟩
  unfold initA
  rw [hv.1]
  refine hv.app ⟨by simp, fun i x hx => ?_⟩
  rw [List.getElem?_replicate] at hx
  split at hx
  · rename_i hi
    cases hx
    have : (Array.replicate (n - args.length) undef).getD i undef = undef := by simp [Array.getD_eq_getD_getElem?, hi]
    rw [this]
    exact vr_undef C
  · cases hx
theorem PCalls.of_fun {P : Program} {g : FuncId} {fn : Func} {F : AFun} {args : List AV} {R : AV → Prop} (hf : P.funcs[g]? = some fn) (hname : (fn.name == "runtime.NumGoroutine") = false) (hc : compileF P fn = some F) (hdr : drawsF P fn = true)
    (H : vcCode P 0 F.code (retQ F.rets R) (initA args F.n) []) : PCalls P g args R := by
  unfold compileF at hc
  split at hc
  · rename_i code hb
    split at hc
    · rename_i c r hcc hr
      simp only [Option.some.injEq] at hc
      subst hc
      refine ⟨⟨fn, hf, by simp [hb], hname⟩, fun C vs hC RC hv => ?_⟩
      refine calls_of_wp hf hb ?_
      refine wp_mono (vc_sound hcc (by unfold drawsF at hdr; rw [hb] at hdr; exact hdr) H C _ hC (init_st RC hv fn.ntmps) (Nat.zero_le _)) fun e act' w' ⟨a', D, h1, h2, h3, h4, h5⟩ => ?_
      have fin : (∃ l, retVs a' D.h r = some l ∧ ∃ x, Vw D.h (retOne l) x ∧ R x) → act'.defers = [] ∧ ∃ v, (results fn act'.tmps).run P w' = .ok v w' ∧
          ∃ v' r D, Ending.returned v = .returned v' ∧ R r ∧ D.h = [] ∧ D.w = w' ∧ Rel D ∧ VR D r v' ∧ Ext 0 C D := by
        rintro ⟨l, hl, x, hx, hRx⟩
        obtain ⟨u, k1, k2⟩ := run_results hr h3 hl
        subst h2
        refine ⟨h3.nodef, u, k1, u, x, { D with h := [] }, rfl, hRx, rfl, rfl, ?_, hx D rfl h3.rel u k2, ?_⟩
        · exact ⟨fun s z es h => by simp at h, fun s t ⟨z, es, h⟩ => by simp at h, h3.rel.olt, fun p hp => (h3.rel.glo p hp).recfg (C := D) (D := { D with h := [] }) rfl (fun b hb => hb.elim .inl fun ⟨s, ⟨z, es, h⟩, _⟩ => by simp at h) (gs_upto hp 0), h3.rel.gsz⟩
        · exact ⟨h4.O, h4.os, h4.tape, h4.output, h4.size, fun s hs => absurd hs (Nat.not_lt_zero _), fun b hb hno => ⟨(h4.keep b hb hno).1, fun ⟨s, ⟨z, es, h⟩, _⟩ => by simp at h⟩, h4.shape⟩
      cases e with
      | normal => exact fin h1
      | ret => exact fin h1
      | exit id => exact h1.elim
      | goto l => exact h1.elim
      | panic c => exact h1.elim
      | outgrown => exact h1.elim
    · cases hc
  · cases hc

/-! ### Views -/
theorem Vw.same {h : AHeap} {v : AV} (hv : v.upto 0 = true) : Vw h v v := fun C hC R u hu => hu.recfg (C := C) (D := { C with h := [] }) rfl (fun b hb => by
  rcases hb with hb | ⟨s, ⟨z, es, hs⟩, _⟩
  · exact .inl hb
  · simp at hs) hv
theorem Vw.nil {h : AHeap} (z : Nat) : Vw h .nils (.list z []) := fun C hC R u hu => by
  rw [hu.nils']
  exact .listNil z _ _
theorem Vw.sl {h : AHeap} {s z i n : Nat} {es : List (List AV)} (hs : h[s]? = some (.live z es)) (hu : uptoLL 0 es = true) (hi : i + n ≤ es.length) : Vw h (.sl s z i n) (.list z ((es.drop i).take n)) := by
  intro C hC R u hv
  subst hC
  obtain ⟨cap, rfl, hus, hnc, _, _, hshp, _⟩ := hv.sls
  obtain ⟨hz, hO, hes, vs, ty, fz, hh, hfz, hsz, hvr⟩ := R.live s z es hs (R.pos hs hshp)
  have hlen : ((es.drop i).take n).length = n := by simp; omega
  refine .list z _ _ n cap (fun q j => vs.getD ((i + q) * z + j) undef) hlen hnc rfl (fun e he => hes e (List.mem_of_mem_drop (List.mem_of_mem_take he))) (fun q j hq hj => ?_) (fun _ _ hown => ?_) fun q e he j x hx => ?_
  · have hlt := row_lt (i := i + q) (n := es.length) (z := z) (by omega) hj
    have : i * z + (q * z + j) = (i + q) * z + j := by rw [Nat.add_mul]; omega
    show C.w.cell? _ = _
    unfold World.cell?
    simp only [hh, this]
    have h2 : (i + q) * z + j < vs.size := by omega
    simp [h2, Array.getD_eq_getD_getElem?]
  · rcases hown with hb | ⟨s, ⟨z, es, hs⟩, _⟩
    · exact hO hb
    · simp at hs
  · have hqn : q < n := by
      have := (List.getElem?_eq_some_iff.1 he).1
      omega
    rw [List.getElem?_take, if_pos hqn, List.getElem?_drop] at he
    have hup := uptoL_get (uptoLL_get hu he) hx
    exact Vw.same (h := C.h) hup C rfl R _ (hvr (i + q) e he j x hx)
def VwL (h : AHeap) : List AV → List AV → Prop
  | [], [] => True
  | v :: vs, r :: rs => Vw h v r ∧ VwL h vs rs
  | _, _ => False
theorem VwL.get {h : AHeap} : ∀ {vs rs : List AV}, VwL h vs rs → vs.length = rs.length ∧ ∀ (i : Nat) (r : AV), rs[i]? = some r → ∃ v, vs[i]? = some v ∧ Vw h v r
  | [], [], _ => ⟨rfl, fun i r hr => by simp at hr⟩
  | v :: vs, r :: rs, h => by
    obtain ⟨h1, h2⟩ := VwL.get h.2
    refine ⟨by simp [h1], fun i x hx => ?_⟩
    cases i with
    | zero => simp at hx; subst hx; exact ⟨v, rfl, h.1⟩
    | succ i => simpa using h2 i x (by simpa using hx)
theorem Vw.tuple {h : AHeap} {vs rs : List AV} (H : VwL h vs rs) : Vw h (.tuple vs) (.tuple rs) := by
  intro C hC R u hu
  obtain ⟨us, rfl, hU⟩ := hu.tuple'
  obtain ⟨h1, h2⟩ := H.get
  refine .tuple _ _ (by rw [hU.1, h1]) fun i x hx => ?_
  obtain ⟨v, hv, hw⟩ := h2 i x hx
  exact hw C hC R _ (hU.2 i v hv)
theorem Vw.agg {h : AHeap} {vs rs : List AV} (H : VwL h vs rs) : Vw h (.agg vs) (.agg rs) := by
  intro C hC R u hu
  obtain ⟨us, rfl, hU⟩ := hu.agg'
  obtain ⟨h1, h2⟩ := H.get
  refine .agg _ _ (by rw [hU.1, h1]) fun i x hx => ?_
  obtain ⟨v, hv, hw⟩ := h2 i x hx
  exact hw C hC R _ (hU.2 i v hv)
end Go.Eng
