/- The engine, part 5: new rows, reading and writing. -/
import Derived.Test.YtdjafcjpnjdphaaDoorEngEq
set_option linter.unusedVariables false
set_option linter.unusedSimpArgs false
namespace Go.Eng
open Go Go.RowKit
variable {P : Program} {o : Oper} {ev : AOpnd → AV} {h : AHeap}

theorem vrs_row1 {c : Cfg} {cs : List AV} {vs : Array Value} (hv : VRs c cs vs) (z : Nat) : ∀ (i : Nat) (e : List AV), [cs][i]? = some e → ∀ (j : Nat) (x : AV), e[j]? = some x → VR c x (vs.getD (i * z + j) undef) := by
  intro i e hi j x hx
  cases i with
  | zero =>
    simp only [List.getElem?_cons_zero, Option.some.injEq] at hi
    subst hi
    simpa using hv.2 j x hx
  | succ i => simp at hi
/-- A new row in a slot of its own. -/
theorem OSound.fresh {z : Nat} {es : List (List AV)} (sl : Option Nat) (hz : 0 < z) (hes : ∀ e, e ∈ es → e.length = z)
    (H : ∀ (c : Cfg) (e : Operand → Value), Rel c → HSub h c.h → EvOk c ev e → ∃ (nx : Next) (cv : Value) (w : World) (vs : Array Value) (ty : TypeId), (execOp e o).run P c.w = .ok nx (w.alloc (.cells vs ty)) ∧ nxVal nx = some cv ∧ w.heap = c.w.heap ∧ w.os = c.w.os ∧ w.tape = c.w.tape ∧ w.output = c.w.output ∧
      es.length * z ≤ vs.size ∧ (∀ (i : Nat) (e : List AV), es[i]? = some e → ∀ (j : Nat) (x : AV), e[j]? = some x → VR c x (vs.getD (i * z + j) undef)) ∧
      (match sl with | none => cv = .pointer (some ⟨c.w.heap.size, 0, none⟩) | some n => ∃ cap, cv = .slice (some ⟨c.w.heap.size, 0, none⟩) n cap ∧ n ≤ cap ∧ cap * z ≤ vs.size)) : OSound P o ev h (.new sl z es) := by
  intro c e R hs he t h' ht hh
  obtain ⟨nx, cv, w, vs, ty, hrun, hnx, hw1, hw2, hw3, hw4, hsz, hv, hsl⟩ := H c e R hs he
  obtain ⟨R1, E1⟩ := R.sameHeap hw1 hw2 hw3 hw4 c.h.length
  have ht1 : ¬ Cfg.used { c with w := w } t := ht
  obtain ⟨R2, E2⟩ := Rel.fresh R1 t h' z es vs ty c.h.length ht1 hh.1 hh.2 hz hes hsz (fun i e hi j x hx => E1.vr' (hv i e hi j x hx))
  refine ⟨nx, cv, _, hrun, hnx, R2, E1.trans E2, rfl, ?_⟩
  have hu : Cfg.used { c with w := w.alloc (.cells vs ty), r := fun s => if s = t then w.heap.size else c.r s, h := h' } t := ⟨_, hh.1, by simp⟩
  cases sl with
  | none =>
    simp only at hsl
    subst hsl
    have := VR.ref (c := { c with w := w.alloc (.cells vs ty), r := fun s => if s = t then w.heap.size else c.r s, h := h' }) t z 0 0 hu
    simpa [hw1, Res.at] using this
  | some n =>
    obtain ⟨cap, rfl, hc, hcz⟩ := hsl
    have := VR.sl (c := { c with w := w.alloc (.cells vs ty), r := fun s => if s = t then w.heap.size else c.r s, h := h' }) t z 0 n cap hu hc ⟨ty, vs.size, by
      have := heap_alloc_new w (.cells vs ty)
      simp only [if_true]
      unfold World.shape?
      rw [this], by simpa using hcz⟩
    obtain ⟨z', rfl⟩ : ∃ z', z = z' + 1 := ⟨z - 1, by omega⟩
    simpa [hw1, Res.at, Nat.beq] using this

theorem snd_new {t : TypeId} {zs : List AV} {k : Nat} (ho : o.op = .alloc t) (hz : zeroOf P t = some zs) (hl : zs.length = k) (hk : 0 < k) : OSound P o ev h (.new none k [zs]) := by
  refine OSound.fresh none hk (by simp [hl]) fun c e R hs he => ?_
  obtain ⟨z, hz', rfl⟩ := run_zero c.w hz
  refine ⟨.value (.pointer (some ⟨c.w.heap.size, 0, none⟩)), _, c.w, z.cells, t, by simp [execOp, ho, Instr.alloc, hz', newVar, newRow], rfl, rfl, rfl, rfl, rfl, by simp at hl; simp [hl], vrs_row1 (vrs_ofCells c z.cells) k, rfl⟩
theorem snd_box {t : TypeId} {x : Operand} {y : AOpnd} {z : Nat} {K : Res → Prop} (ho : o.op = .box t x) (hx : cOpnd x = some y) (hz : 0 < z) (hK : vcOp (.box z y) ev h K) : ∃ r, K r ∧ OSound P o ev h r := by
  simp only [vcOp] at hK
  split at hK
  · rename_i cs hcs
    obtain ⟨⟨h1, h2⟩, hK⟩ := hK
    refine ⟨_, hK, OSound.fresh none hz (by simp [h1]) fun c e R hs he => ?_⟩
    have hV := (he x y hx).cells hcs
    exact ⟨.value (.pointer (some ⟨c.w.heap.size, 0, none⟩)), _, c.w, (e x).cells, t, by simp [execOp, ho, Instr.box, newVar, newRow], rfl, rfl, rfl, rfl, rfl, by simp [hV.1, h1], vrs_row1 hV z, rfl⟩
  · exact hK.elim

theorem Rel.not_own_new {c : Cfg} (R : Rel c) : ¬ c.own c.w.heap.size := by
  rintro (h | h)
  · have := R.olt _ h; omega
  · have := R.lown_lt h; omega
theorem chunks_len (z : Nat) : ∀ (n : Nat) (l : List AV), (chunks z n l).length = n
  | 0, l => rfl
  | n + 1, l => by simp [chunks, chunks_len z n]
theorem chunks_get (z : Nat) : ∀ (n : Nat) (l : List AV) (i : Nat), i < n → (chunks z n l)[i]? = some ((l.drop (i * z)).take z)
  | 0, l, i, h => by omega
  | n + 1, l, 0, h => by simp [chunks]
  | n + 1, l, i + 1, h => by
    simp only [chunks, List.getElem?_cons_succ]
    rw [chunks_get z n _ i (by omega), List.drop_drop]
    congr 3
    rw [Nat.succ_mul]; omega
theorem row_lt {i n j z : Nat} (hi : i < n) (hj : j < z) : i * z + j < n * z := by
  have : (i + 1) * z ≤ n * z := Nat.mul_le_mul_right z hi
  rw [Nat.succ_mul] at this
  omega
theorem cell_of_alloc (w : World) (vs : Array Value) (ty : TypeId) (i : Nat) (hi : i < vs.size) : (w.alloc (.cells vs ty)).cell? ⟨w.heap.size, i, none⟩ = some (vs.getD i undef) := by
  have := heap_alloc_new w (.cells vs ty)
  unfold World.cell?
  rw [this]
  simp [hi, Array.getD_eq_getD_getElem?]
/-- A new row that nobody will write to. -/
theorem OSound.listed {z : Nat} {es : List (List AV)} (hes : ∀ e, e ∈ es → e.length = z)
    (H : ∀ (c : Cfg) (e : Operand → Value), Rel c → HSub h c.h → EvOk c ev e → ∃ (cap : Nat) (vs : Array Value) (ty : TypeId), (execOp e o).run P c.w = .ok (.value (.slice (some ⟨c.w.heap.size, 0, none⟩) es.length cap)) (c.w.alloc (.cells vs ty)) ∧ es.length ≤ cap ∧
      es.length * z ≤ vs.size ∧ (∀ (i : Nat) (e : List AV), es[i]? = some e → ∀ (j : Nat) (x : AV), e[j]? = some x → VR c x (vs.getD (i * z + j) undef))) : OSound P o ev h (.val (.list z es)) := by
  intro c e R hs he t h' ht hh
  obtain ⟨cap, vs, ty, hrun, hcap, hsz, hv⟩ := H c e R hs he
  obtain ⟨R1, E1⟩ := R.alloc (.cells vs ty) c.h.length
  have hh : h' = c.h := hh
  subst hh
  refine ⟨_, _, _, hrun, rfl, R1, E1, rfl, ?_⟩
  exact .list z es ⟨c.w.heap.size, 0, none⟩ es.length cap (fun i j => vs.getD (i * z + j) undef) rfl hcap rfl hes (fun i j hi hj => by
      simp only [Nat.zero_add]
      exact cell_of_alloc _ _ _ _ (Nat.lt_of_lt_of_le (row_lt hi hj) hsz)) (fun _ _ => R.not_own_new) fun i e hi j x hx => E1.vr' (hv i e hi j x hx)
theorem snd_bslice {t e0 : TypeId} {parts : Array (Nat × Operand)} {n z : Nat} {zs : List AV} {ps : List (Nat × Nat × AOpnd)} {K : Res → Prop} (ho : o.op = .buildSlice t n parts) (hu : P.underlying t = some (.slice e0)) (hz : zeroOf P e0 = some zs) (hk : szOf P e0 = some z)
    (hzl : zs.length = z) (hz0 : 0 < z) (hn0 : 0 < n) (hnz : n * z ≤ 16777216) (hf : cFill (fun i => some (i * z, z)) parts.toList = some ps) (hK : vcOp (.bslice z n zs ps) ev h K) : ∃ r, K r ∧ OSound P o ev h r := by
  simp only [vcOp] at hK
  split at hK
  · rename_i cs hcs
    obtain ⟨it, zv, hi, hzz, rfl⟩ := zeroOf_info hz
    obtain ⟨ie, hie, hiz⟩ := szOf_info hk
    rw [hi] at hie
    cases hie
    have hzc : zv.cells.size = z := by simpa using hzl
    have hlen : ∀ c : Cfg, VRs c (List.replicate n (zv.cells.toList.map AV.ofCell)).flatten ((Array.range (n * z)).map (zv.cells[· % zv.cells.size]!)) := by
      intro c
      refine ⟨by simp [hzc], fun i x hx => ?_⟩
      have hlt : i < n * z := by
        have := (List.getElem?_eq_some_iff.1 hx).1
        simpa [hzc] using this
      have hmod : i % z < z := Nat.mod_lt _ hz0
      have hget : ∀ (m i : Nat), i < m * z → (List.replicate m (zv.cells.toList.map AV.ofCell)).flatten[i]? = some (AV.ofCell (zv.cells.getD (i % z) undef)) := by
        intro m
        induction m with
        | zero => intro i hi; omega
        | succ m ih =>
          intro i hi
          rw [List.replicate_succ, List.flatten_cons]
          by_cases hiz : i < z
          · rw [List.getElem?_append_left (by simp [hzc]; exact hiz), Nat.mod_eq_of_lt hiz]
            simp [Array.getD_eq_getD_getElem?, show i < zv.cells.size by omega]
          · rw [List.getElem?_append_right (by simp [hzc]; omega), ih]
            · simp only [List.length_map, Array.length_toList, hzc]
              have hm : (i - z) % z = i % z := (Nat.mod_eq_sub_mod (Nat.le_of_not_lt hiz)).symm
              rw [hm]
            · simp only [List.length_map, Array.length_toList, hzc]
              rw [Nat.succ_mul] at hi; omega
      rw [hget n i hlt] at hx
      simp only [Option.some.injEq] at hx
      subst hx
      have : (Array.map (zv.cells[· % zv.cells.size]!) (Array.range (n * z))).getD i undef = zv.cells.getD (i % z) undef := by
        simp [Array.getD_eq_getD_getElem?, hlt, hzc]
        simp [hmod, hzc]
      rw [this]
      exact ofCell_vr c _
    have hflat : cs.length = n * z := by
      have : ∀ c : Cfg, Rel c → True := fun _ _ => trivial
      have hl0 : (List.replicate n (zv.cells.toList.map AV.ofCell)).flatten.length = n * z := by simp [hzc]
      rw [← hl0]
      exact fillA_len hcs
    refine ⟨_, hK, OSound.listed (fun e he => ?_) fun c e R hs he => ?_⟩
    · obtain ⟨i, hi⟩ := List.mem_iff_getElem?.1 he
      have hin : i < n := by
        have := (List.getElem?_eq_some_iff.1 hi).1
        rwa [chunks_len] at this
      rw [chunks_get z n cs i hin] at hi
      cases hi
      have : (i + 1) * z ≤ n * z := Nat.mul_le_mul_right z hin
      rw [Nat.succ_mul] at this
      simp; omega
    · obtain ⟨arr, h1, h2, h3⟩ := fill_ok he _ hf (hlen c) hcs
      have hb := run_buildSlice (P := P) c.w t e0 n (parts.map fun (i, x) => (i, e x)) arr it zv hu hi hzz (by rw [hiz]; simp; omega) (by rw [hiz]; exact Nat.ne_of_gt (Nat.mul_pos hn0 hz0)) (by rw [hiz]; simpa using h1)
      refine ⟨n, arr, e0, by rw [chunks_len]; simp [execOp, ho, hb], by rw [chunks_len]; exact Nat.le_refl _, by rw [chunks_len, h2.1, hflat]; exact Nat.le_refl _, fun i e' hi j x hx => ?_⟩
      have hin : i < n := by
        have := (List.getElem?_eq_some_iff.1 hi).1
        rwa [chunks_len] at this
      rw [chunks_get z n cs i hin] at hi
      cases hi
      have hj : j < z := by
        have := (List.getElem?_eq_some_iff.1 hx).1
        simp at this; omega
      rw [List.getElem?_take, if_pos hj, List.getElem?_drop] at hx
      exact h2.2 _ _ hx
  · exact hK.elim
end Go.Eng
