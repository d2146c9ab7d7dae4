/- The engine, part 2: each operation does to the model's values what it does to pure ones. -/
import Derived.Test.YtdjafcjpnjdphaaDoorEng1
set_option linter.unusedVariables false
set_option linter.unusedSimpArgs false
namespace Go.Eng
open Go Go.RowKit

def nxVal : Next → Option Value
  | .value v => some v
  | .skip => some undef
  | _ => none
/-- What is live here is so there. -/
def HSub (h k : AHeap) : Prop := ∀ (s z : Nat) (es : List (List AV)), h[s]? = some (.live z es) → k[s]? = some (.live z es)
def EvOk (c : Cfg) (ev : AOpnd → AV) (e : Operand → Value) : Prop := ∀ x y, cOpnd x = some y → VR c (ev y) (e x)
def OSound (P : Program) (o : Oper) (ev : AOpnd → AV) (h : AHeap) (r : Res) : Prop :=
  ∀ (c : Cfg) (e : Operand → Value), Rel c → HSub h c.h → EvOk c ev e → ∀ t h', ¬ c.used t → r.heap t c.h h' →
    ∃ nx cv d, (execOp e o).run P c.w = .ok nx d.w ∧ nxVal nx = some cv ∧ Rel d ∧ Ext c.h.length c d ∧ d.h = h' ∧ VR d (r.at t) cv

theorem OSound.val {P : Program} {o : Oper} {ev : AOpnd → AV} {h : AHeap} {v : AV}
    (H : ∀ (c : Cfg) (e : Operand → Value), Rel c → HSub h c.h → EvOk c ev e → ∃ cv, (execOp e o).run P c.w = .ok (.value cv) c.w ∧ VR c v cv) : OSound P o ev h (.val v) := by
  intro c e R hs he t h' ht hh
  obtain ⟨cv, h1, h2⟩ := H c e R hs he
  have hh : h' = c.h := hh
  subst hh
  exact ⟨.value cv, cv, c, h1, rfl, R, Ext.refl _ _, rfl, h2⟩

/-! ### Values that are known -/
theorem ofCell_vr (c : Cfg) (v : Value) : VR c (AV.ofCell v) v := by
  unfold AV.ofCell
  split
  · exact .bool _
  · exact .int _ _
  · exact .str _
  · exact .nilp
  · exact .nils
  · exact .nilFunc
  · exact .nilIface
  · exact .any _
theorem ofVal_vr (c : Cfg) (v : Value) : VR c (AV.ofVal v) v := by
  unfold AV.ofVal
  split
  · rename_i cs
    refine .agg _ _ (by simp) fun i x hx => ?_
    rw [List.getElem?_map] at hx
    cases hi : cs[i]? with
    | none => simp [hi] at hx
    | some u =>
      simp [hi] at hx
      subst hx
      simpa [Array.getD_eq_getD_getElem?, hi] using ofCell_vr c u
  · rename_i cs
    refine .tuple _ _ (by simp) fun i x hx => ?_
    rw [List.getElem?_map] at hx
    cases hi : cs[i]? with
    | none => simp [hi] at hx
    | some u =>
      simp [hi] at hx
      subst hx
      simpa [Array.getD_eq_getD_getElem?, hi] using ofCell_vr c u
  · exact ofCell_vr c _
theorem VR.bool' {c : Cfg} {b : Bool} {v : Value} (h : VR c (.bool b) v) : v = .bool b := by cases h; rfl
theorem VR.int' {c : Cfg} {k : IntKind} {n : Int} {v : Value} (h : VR c (.int k n) v) : v = .int k n := by cases h; rfl
theorem VR.str' {c : Cfg} {s : ByteArray} {v : Value} (h : VR c (.str s) v) : v = .string s := by cases h; rfl
theorem VR.nilp' {c : Cfg} {v : Value} (h : VR c .nilp v) : v = .pointer none := by cases h; rfl
theorem VR.emp' {c : Cfg} {v : Value} (h : VR c .emp v) : ∃ a, v = .slice (some a) 0 0 := by cases h with | emp a => exact ⟨a, rfl⟩
theorem VR.nils' {c : Cfg} {v : Value} (h : VR c .nils v) : v = .slice none 0 0 := by cases h; rfl
theorem VR.agg' {c : Cfg} {cs : List AV} {v : Value} (h : VR c (.agg cs) v) : ∃ vs, v = .agg vs ∧ VRs c cs vs := by
  cases h with | agg _ vs hl h => exact ⟨vs, rfl, hl, h⟩
theorem VR.tuple' {c : Cfg} {cs : List AV} {v : Value} (h : VR c (.tuple cs) v) : ∃ vs, v = .tuple vs ∧ VRs c cs vs := by
  cases h with | tuple _ vs hl h => exact ⟨vs, rfl, hl, h⟩
theorem add_none (b o n : Nat) : Addr.add ⟨b, o, none⟩ n = ⟨b, o + n, none⟩ := by
  unfold Addr.add
  split
  · subst_vars; rfl
  · rfl
theorem add_spot (a : Addr) (n : Nat) (h : a.spot = none) : a.add n = ⟨a.block, a.off + n, none⟩ := by
  obtain ⟨b, o, s⟩ := a
  simp only at h
  subst h
  exact add_none _ _ _
theorem VR.ref' {c : Cfg} {s z i o : Nat} {v : Value} (h : VR c (.ref s z i o) v) : c.used s ∧ v = .pointer (some ⟨c.r s, i * z + o, none⟩) := by cases h; exact ⟨‹_›, rfl⟩
theorem VR.cref' {c : Cfg} {cs : List AV} {v : Value} (h : VR c (.cref cs) v) : ∃ a, v = .pointer (some a) ∧ ∀ n, VR c (.cref (cs.drop n)) (.pointer (some (a.add n))) := by
  cases h with
  | cref _ a f ha hcell hown hv =>
    refine ⟨a, rfl, fun n => ?_⟩
    rw [add_spot a n ha]
    refine .cref _ _ (fun j => f (n + j)) rfl (fun j hj => ?_) (fun hl => hown (by simp at hl; omega)) fun j x hx => hv (n + j) x (by simpa using hx)
    have := hcell (n + j) (by simp at hj; omega)
    simpa [Nat.add_assoc] using this
theorem VR.crefs {c : Cfg} {cs : List AV} {v : Value} (h : VR c (.cref cs) v) : ∃ (a : Addr) (f : Nat → Value), v = .pointer (some a) ∧ a.spot = none ∧ (∀ j, j < cs.length → c.w.cell? ⟨a.block, a.off + j, none⟩ = some (f j)) ∧
    (0 < cs.length → ¬ c.own a.block) ∧ ∀ (j : Nat) (x : AV), cs[j]? = some x → VR c x (f j) := by
  cases h with
  | cref _ a f ha hcell hown hv => exact ⟨a, f, rfl, ha, hcell, hown, hv⟩
theorem VR.func' {c : Cfg} {fn : Fn} {a b : List AV} {v : Value} (h : VR c (.func fn a b) v) : ∃ vf vc, v = .func fn vf vc ∧ VRs c a vf ∧ VRs c b vc := by
  cases h with | func _ _ _ vf vc hf hc h1 h2 => exact ⟨vf, vc, rfl, ⟨hf, h1⟩, ⟨hc, h2⟩⟩
theorem VR.iface' {c : Cfg} {t : TypeId} {x : AV} {v : Value} (h : VR c (.iface t x) v) : ∃ u, v = .iface t u ∧ VR c x u := by
  cases h with | iface _ _ v h => exact ⟨v, rfl, h⟩
theorem VR.cell {c : Cfg} {x : AV} {v : Value} (h : VR c x v) (hx : x.isCell = true) : v.oneCell' = true := by
  cases h <;> first | rfl | (simp [AV.isCell] at hx)
theorem VRs.toList {c : Cfg} {l : List AV} {vs : Array Value} (h : VRs c l vs) : ∀ (i : Nat) (x : AV), l[i]? = some x → VR c x (vs.toList.getD i undef) := by
  intro i x hx
  have := h.2 i x hx
  simpa [Array.getD_eq_getD_getElem?, List.getD_eq_getElem?_getD] using this
/-- A value's cells. -/
theorem VR.cells {c : Cfg} {x : AV} {v : Value} {cs : List AV} (h : VR c x v) (hx : x.cellsOf = some cs) : VRs c cs v.cells := by
  cases h <;> simp only [AV.cellsOf, Option.some.injEq, reduceCtorEq] at hx <;> subst hx <;> first
    | (refine ⟨rfl, fun i y hy => ?_⟩; cases i with
      | zero => (simp only [List.getElem?_cons_zero, Option.some.injEq] at hy; subst hy; simp only [Value.cells]; first | exact .bool _ | exact .int _ _ | exact .str _ | exact .nilp | exact .nils | exact .nilFunc | exact .nilIface | exact .listNil _ _ _ | (constructor <;> assumption))
      | succ i => simp at hy)
    | (rename_i hl h; exact ⟨hl, h⟩)
theorem cellsOk_get : ∀ {cs : List AV} {i : Nat} {x : AV}, cellsOk cs = true → cs[i]? = some x → x.isCell = true
  | [], i, x, _, h => by simp at h
  | c :: cs, 0, x, hb, h => by
    simp only [List.getElem?_cons_zero, Option.some.injEq] at h
    subst h
    simp only [cellsOk, Bool.and_eq_true] at hb
    exact hb.1
  | c :: cs, i + 1, x, hb, h => by
    simp only [cellsOk, Bool.and_eq_true] at hb
    exact cellsOk_get hb.2 (by simpa using h)
theorem VRs.oneCell {c : Cfg} {cs : List AV} {vs : Array Value} (h : VRs c cs vs) (hk : cellsOk cs = true) : ∀ v, v ∈ vs.toList → v.oneCell' = true := by
  intro v hv
  obtain ⟨i, hi⟩ := List.mem_iff_getElem?.1 hv
  have hlt : i < cs.length := by
    have := (List.getElem?_eq_some_iff.1 hi).1
    rw [← h.1]; simpa using this
  have hx : cs[i]? = some cs[i] := by simp [hlt]
  have := h.2 i _ hx
  have hg : vs.getD i undef = v := by
    rw [Array.getD_eq_getD_getElem?]
    have : vs[i]? = some v := by simpa using hi
    simp [this]
  rw [hg] at this
  exact this.cell (cellsOk_get hk hx)

/-! ### Operands -/
theorem EvOk.opnds {c : Cfg} {ev : AOpnd → AV} {e : Operand → Value} (he : EvOk c ev e) : ∀ {xs : List Operand} {ys : List AOpnd}, cOpnds xs = some ys → VRs c (evs ev ys) (xs.map e).toArray
  | [], ys, h => by simp only [cOpnds, Option.some.injEq] at h; subst h; exact ⟨rfl, fun i x hx => by simp [evs] at hx⟩
  | x :: xs, ys, h => by
    simp only [cOpnds] at h
    split at h
    · rename_i y ys' hy hys
      simp only [Option.some.injEq] at h
      subst h
      have ih := he.opnds hys
      refine ⟨by simpa [evs] using ih.1, fun i v hv => ?_⟩
      cases i with
      | zero => simp only [evs, List.map_cons, List.getElem?_cons_zero, Option.some.injEq] at hv; subst hv; exact he x y hy
      | succ i =>
        have := ih.2 i v (by simpa [evs] using hv)
        simpa [Array.getD_eq_getD_getElem?] using this
    · cases h

/-! ### Small runs -/
section
variable {P : Program}
theorem run_und {t : TypeId} {d : TypeDesc} (w : World) (h : P.underlying t = some d) : (underlying t).run P w = .ok d w := by simp [underlying, h]
theorem run_info {t : TypeId} {i : TypeInfo} (w : World) (h : P.info? t = some i) : (typeInfo t).run P w = .ok i w := by simp [typeInfo, h]
theorem run_size {t : TypeId} {k : Nat} (w : World) (h : szOf P t = some k) : (sizeOf t).run P w = .ok k w := by
  unfold szOf at h
  cases hi : P.info? t with
  | none => simp [hi] at h
  | some i => simp [hi] at h; subst h; simp [sizeOf, typeInfo, hi]
theorem run_agg {t : TypeId} {g : Bool} (w : World) (h : aggOf P t = some g) : (isAgg t).run P w = .ok g w := by
  unfold aggOf at h
  split at h
  · rename_i hu; simp at h; subst h; simp [isAgg, run_und w hu]
  · rename_i hu; simp at h; subst h; simp [isAgg, run_und w hu]
  · rename_i d h1 h2 hu
    simp at h; subst h
    simp only [isAgg, Sem.run_bind, run_und w hu, Result.andThen_ok]
    rfl
  · cases h
theorem run_zero {t : TypeId} {zs : List AV} (w : World) (h : zeroOf P t = some zs) : ∃ z, (zeroValue t).run P w = .ok z w ∧ zs = z.cells.toList.map AV.ofCell := by
  unfold zeroOf at h
  split at h
  · rename_i i hi
    split at h
    · rename_i z hz
      simp only [Option.some.injEq] at h
      exact ⟨z, by simp [zeroValue, typeInfo, hi, hz], h.symm⟩
    · cases h
  · cases h
theorem vrs_ofCells (c : Cfg) (z : Array Value) : VRs c (z.toList.map AV.ofCell) z := by
  refine ⟨by simp, fun i x hx => ?_⟩
  rw [List.getElem?_map] at hx
  cases hi : z[i]? with
  | none => simp [hi] at hx
  | some u =>
    simp [hi] at hx
    subst hx
    simpa [Array.getD_eq_getD_getElem?, hi] using ofCell_vr c u
/-- A part of a row of cells. -/
theorem run_part {t : TypeId} {g : Bool} {k : Nat} (c : Cfg) {cs : List AV} {vs : Array Value} (hg : aggOf P t = some g) (hk : szOf P t = some k) (hgk : g = true ∨ k = 1) (h : VRs c cs vs) (o : Nat) (ho : o + k ≤ cs.length) :
    ∃ cv, (part t vs o).run P c.w = .ok cv c.w ∧ VR c (partA g k cs o) cv := by
  cases g with
  | true =>
    refine ⟨.agg (vs.extract o (o + k)), by simp [part, run_agg c.w hg, run_size c.w hk], ?_⟩
    refine .agg _ _ ?_ fun i x hx => ?_
    · have := h.1
      simp; omega
    · have hik : i < k := by
        have := (List.getElem?_eq_some_iff.1 hx).1
        simp at this; omega
      have hx' : cs[o + i]? = some x := by
        rw [List.getElem?_take] at hx
        simpa [hik] using hx
      have := h.2 (o + i) x hx'
      have hoi : o + i < vs.size := by rw [h.1]; omega
      simp only [Array.getD_eq_getD_getElem?] at this ⊢
      rw [Array.getElem?_extract]
      rw [if_pos (by omega)]
      exact this
  | false =>
    have hk1 : k = 1 := by simpa using hgk
    subst hk1
    have hx : cs[o]? = some cs[o] := by simp [show o < cs.length by omega]
    have hv := h.2 o _ hx
    have hlt : o < vs.size := by rw [h.1]; omega
    refine ⟨vs[o], by simp [part, run_agg c.w hg, hlt], ?_⟩
    simp only [partA, Bool.false_eq_true, if_false]
    have e1 : cs.getD o .any = cs[o] := by simp [List.getD_eq_getElem?_getD, show o < cs.length by omega]
    have e2 : vs.getD o undef = vs[o] := by simp [Array.getD_eq_getD_getElem?, hlt]
    rw [e1, ← e2]
    exact hv
/-- A variable read. -/
theorem run_loadV {t : TypeId} {g : Bool} {k : Nat} (c : Cfg) {cs : List AV} {f : Nat → Value} (a : Addr) (ha : a.spot = none) (hg : aggOf P t = some g) (hk : szOf P t = some k) (hgk : g = true ∨ k = 1)
    (o : Nat) (ho : o + k ≤ cs.length) (hcell : ∀ j, j < k → c.w.cell? ⟨a.block, a.off + j, none⟩ = some (f j)) (hv : ∀ (j : Nat) (x : AV), j < k → cs[o + j]? = some x → VR c x (f j)) :
    ∃ cv, (Instr.loadAt t (.pointer (some a))).run P c.w = .ok cv c.w ∧ VR c (partA g k cs o) cv := by
  have hadd : ∀ j, (a.add j) = ⟨a.block, a.off + j, none⟩ := fun j => by
    obtain ⟨b, o', s⟩ := a
    simp only at ha
    subst ha
    unfold Addr.add; split <;> simp_all
  cases g with
  | true =>
    have hl := run_loadCells (P := P) c.w a k f (fun j hj => by rw [hadd]; exact hcell j hj)
    refine ⟨.agg ((List.range k).map f).toArray, by simp [Instr.loadAt, Instr.sureAddr, loadVar, run_agg c.w hg, run_size c.w hk, hl], ?_⟩
    refine .agg _ _ (by simp; omega) fun i x hx => ?_
    have hik : i < k := by
      have := (List.getElem?_eq_some_iff.1 hx).1
      simp at this; omega
    have hx' : cs[o + i]? = some x := by
      rw [List.getElem?_take] at hx
      simpa [hik] using hx
    have := hv i x hik hx'
    simpa [Array.getD_eq_getD_getElem?, hik] using this
  | false =>
    have hk1 : k = 1 := by simpa using hgk
    subst hk1
    have h0 := hcell 0 (by omega)
    have h0' : c.w.cell? a = some (f 0) := by
      have := hadd 0
      simp [Addr.add] at this
      rw [this]; exact h0
    refine ⟨f 0, by simp [Instr.loadAt, Instr.sureAddr, loadVar, run_agg c.w hg, h0'], ?_⟩
    simp only [partA, Bool.false_eq_true, if_false]
    have e1 : cs.getD o .any = cs[o] := by simp [List.getD_eq_getElem?_getD, show o < cs.length by omega]
    rw [e1]
    exact hv 0 _ (by omega) (by simp [show o < cs.length by omega])
end
end Go.Eng
