/- The engine: maps gone through, in whichever order; a map's length. -/
import Derived.Test.YtdjafcjpnjdphaaDoorEngF
import Derived.Maps.RangeRun
set_option linter.unusedVariables false
set_option linter.unusedSimpArgs false
namespace Go.Eng
open Go Go.RowKit
open Go.ChangeMaps (setBlock)
variable {P : Program}
theorem VRs.one' {C : Cfg} {x : AV} {v : Value} (h : VRs C [x] #[v]) : VR C x v := by
  have := h.2 0 x rfl
  simpa using this
/-- The length of a map. -/
theorem Xo.lenm {c : Go.Call} {ty t kt et : TypeId} {x : Operand} {s : Nat} {es : List (List AV)} {h : AHeap} {K : AV → AHeap → Prop} (hb : c.callee = .builtin .len) (ha : c.args = #[x]) (ht : c.argTypes = #[t]) (hu : P.underlying t = some (.map kt et)) (hs : h[s]? = some (.live 0 es)) (h2 : ∀ e, e ∈ es → e.length = 2)
    (n : Int) (hn : n = es.length) (hk : K (.int .i64 n) h) : Xo P (.call c) ty [.mapr s] h K := by
  refine ⟨fun C e o ho hty hC RC hv => ?_⟩
  subst hC
  have hop : (Op.call c).operands.map e = #[e x] := by simp [Op.operands, Call.operands, hb, ha]
  rw [hop] at hv
  have hx := hv.one'.mapr'
  obtain ⟨hO, ents, hheap, hl, hbn, hrow⟩ := RC.map hs h2
  have hg : (getObj (C.r s)).run P C.w = .ok (.map ents ents.size) C.w := MapKept.run_getObj_map hheap
  have hrun : (execOp e o).run P C.w = .ok (.value (.int .i64 (ents.size : Nat))) C.w := by
    simp [execOp, ho, resolve, hb, ha, ht, invoke, builtin, Builtin.len_, run_und C.w hu, goInt, hx.2, hg]
  exact ⟨_, _, _, C, hrun, rfl, hk, RC, by rw [hn, ← hl]; exact .int _ _, Ext.refl _ _, Nat.le_refl _⟩
/-- What an iterator's block holds, as rows. -/
theorem it_rows {c : Cfg} {s N : Nat} {n : Int} (hn : n = N) (hu : c.used s) (L : List Nat) :
    Holds 0 (.mapIter (some (c.r s)) N L.toArray N) ([.mapr s, .int .i64 n, .int .i64 n] :: L.map fun k : Nat => [AV.int .i64 (k : Int)]) (fun i j => (([Value.map (some (c.r s)), .int .i64 N, .int .i64 N] :: L.map fun k : Nat => [Value.int .i64 (k : Int)]).getD i []).getD j undef) ∧
    ∀ (i : Nat) (e : List AV), ([AV.mapr s, .int .i64 n, .int .i64 n] :: L.map fun k : Nat => [AV.int .i64 (k : Int)])[i]? = some e → ∀ (j : Nat) (x : AV), e[j]? = some x → VR c x ((([Value.map (some (c.r s)), .int .i64 N, .int .i64 N] :: L.map fun k : Nat => [Value.int .i64 (k : Int)]).getD i []).getD j undef) := by
  subst hn
  refine ⟨.inr ⟨rfl, _, rfl, by simp, fun i e he => ?_, rfl⟩, fun i e he j x hx => ?_⟩
  · match i, he with
    | 0, he => simp at he; subst he; rfl
    | i + 1, he =>
      simp only [List.getElem?_cons_succ, List.getElem?_map] at he
      cases hl : L[i]? with
      | none => rw [hl] at he; cases he
      | some k =>
        rw [hl] at he
        simp only [Option.map_some, Option.some.injEq] at he
        subst he
        simp [List.getD_eq_getElem?_getD, hl]
  · match i, he with
    | 0, he =>
      simp at he; subst he
      match j, hx with
      | 0, hx => simp at hx; subst hx; exact .mapr s hu
      | 1, hx => simp at hx; subst hx; exact .int _ _
      | 2, hx => simp at hx; subst hx; exact .int _ _
      | j + 3, hx => simp at hx
    | i + 1, he =>
      simp only [List.getElem?_cons_succ, List.getElem?_map] at he
      cases hl : L[i]? with
      | none => rw [hl] at he; cases he
      | some k =>
        rw [hl] at he
        simp only [Option.map_some, Option.some.injEq] at he
        subst he
        match j, hx with
        | 0, hx => simp at hx; subst hx; simp [List.getD_eq_getElem?_getD, hl]; exact .int _ _
        | j + 1, hx => simp at hx
/-- A map's iterator is made. -/
theorem Xo.range {ty t kt et : TypeId} {x : Operand} {s : Nat} {es : List (List AV)} {h : AHeap} {K : AV → AHeap → Prop} (hu : P.underlying t = some (.map kt et)) (hs : h[s]? = some (.live 0 es)) (h2 : ∀ e, e ∈ es → e.length = 2)
    (n : Int) (hn : n = es.length) (hk : K (.ref h.length 0 0 0) (h ++ [.live 0 [[.mapr s, .int .i64 n, .int .i64 n]]])) : Xo P (.range t x) ty [.mapr s] h K := by
  refine ⟨fun C e o ho hty hC RC hv => ?_⟩
  subst hC
  have hop : (Op.range t x).operands.map e = #[e x] := by simp [Op.operands]
  rw [hop] at hv
  have hx := hv.one'.mapr'
  obtain ⟨hO, ents, hheap, hl, hbn, hrow⟩ := RC.map hs h2
  have hg : (getObj (C.r s)).run P C.w = .ok (.map ents ents.size) C.w := MapKept.run_getObj_map hheap
  have hlt : s < C.h.length := (List.getElem?_eq_some_iff.1 hs).1
  have hrun : (execOp e o).run P C.w = .ok (.value (.pointer (some ⟨C.w.heap.size, 0, none⟩))) (C.w.alloc (.mapIter (some (C.r s)) ents.size #[] ents.size)) := by
    simp [execOp, ho, Instr.range, run_und C.w hu, hx.2, hg, newObj]
    rfl
  have hnot : ¬ C.used C.h.length := fun hu => absurd (Cfg.used_lt hu) (Nat.lt_irrefl _)
  obtain ⟨H1, H2⟩ := it_rows (c := C) (N := ents.size) (n := n) (by omega) hx.1 []
  obtain ⟨R1, E1⟩ := Rel.freshX RC C.h.length (C.h ++ [.live 0 [[.mapr s, .int .i64 n, .int .i64 n]]]) 0 _ _ _ C.h.length hnot (by simp) (fun q y hq hy => by
    by_cases hql : q < C.h.length
    · rw [List.getElem?_append_left hql]
    · rw [List.getElem?_eq_none (by simp; omega), List.getElem?_eq_none (by omega)]) H1 H2
  refine ⟨_, _, _, _, hrun, rfl, hk, R1, ?_, E1, by simp⟩
  have := VR.ref (c := { C with r := fun s => if s = C.h.length then C.w.heap.size else C.r s, h := C.h ++ [.live 0 [[.mapr s, .int .i64 n, .int .i64 n]]], w := C.w.alloc (.mapIter (some (C.r s)) ents.size #[] ents.size) }) C.h.length 0 0 0 ⟨_, by simp; rfl, by simp⟩
  simpa using this
/-- What an iterator's slot is. -/
theorem Rel.iter {c : Cfg} (R : Rel c) {it s : Nat} {n : Int} {sr : List (List AV)} (hs : c.h[it]? = some (.live 0 ([.mapr s, .int .i64 n, .int .i64 n] :: sr))) {sn : List Nat} (hsr : sr = sn.map fun k : Nat => [AV.int .i64 (k : Int)]) :
    ∃ N : Nat, n = N ∧ c.w.heap[c.r it]? = some (.mapIter (some (c.r s)) N sn.toArray N) := by
  obtain ⟨h1, o, g, h3, h4, h5⟩ := R.livx it 0 _ hs
  rcases h4 with ⟨k0, _⟩ | ⟨_, vss, k1, k2, k3, rfl⟩
  · omega
  cases o <;> try (simp [objRows] at k1; done)
  · rename_i ents clock
    obtain ⟨rfl, hb, rfl⟩ := objRows_map k1
    have := k3 0 _ rfl
    exfalso
    cases hl : ents.toList with
    | nil => rw [hl] at this; simp at this
    | cons a l => rw [hl] at this; simp at this
  · rename_i m since seen last
    cases m with
    | none => simp [objRows] at k1
    | some b =>
      simp only [objRows, Option.some.injEq] at k1
      subst k1
      have a0 := (h5 0 _ rfl 0 _ rfl).mapr'
      have a1 := (h5 0 _ rfl 1 _ rfl).int'
      have a2 := (h5 0 _ rfl 2 _ rfl).int'
      simp at a0 a1 a2
      refine ⟨since, a1.symm, ?_⟩
      have hseen : seen = sn.toArray := by
        subst hsr
        simp at k2
        apply Array.ext'
        apply List.ext_getElem?
        intro i
        by_cases hi : i < sn.length
        · have a3 := (h5 (i + 1) [AV.int .i64 (sn[i] : Int)] (by simp [hi]) 0 _ rfl).int'
          have hi2 : i < seen.size := by omega
          simp [List.getD_eq_getElem?_getD, hi2] at a3
          simp [hi, hi2]; omega
        · rw [List.getElem?_eq_none (by simp; omega), List.getElem?_eq_none (by simp; omega)]
      rw [h3, hseen]
      have e1 : last = since := by omega
      rw [e1, a0.2]
/-- A step: nothing is left; or whichever entry is left. -/
theorem Xo.next {ty : TypeId} {x : Operand} {it s : Nat} {n : Int} {es sr : List (List AV)} {sn : List Nat} {h : AHeap} {K : AV → AHeap → Prop} (hit : h[it]? = some (.live 0 ([.mapr s, .int .i64 n, .int .i64 n] :: sr))) (hs : h[s]? = some (.live 0 es)) (h2 : ∀ e, e ∈ es → e.length = 2) (hn : n = es.length)
    (hsr : sr = sn.map fun k : Nat => [AV.int .i64 (k : Int)]) (hK0 : (∀ i, i < es.length → i ∈ sn) → K (.tuple [.bool false]) h)
    (hK1 : ∀ (i : Nat) (k v : AV), i ∉ sn → es[i]? = some [k, v] → K (.tuple [.bool true, k, v]) (h.set it (.live 0 ([.mapr s, .int .i64 n, .int .i64 n] :: (sr ++ [[.int .i64 (i : Int)]]))))) : Xo P (.next x false) ty [.ref it 0 0 0] h K := by
  refine ⟨fun C e o ho hty hC RC hv => ?_⟩
  subst hC
  have hop : (Op.next x false).operands.map e = #[e x] := by simp [Op.operands]
  rw [hop] at hv
  have hx := hv.one'.ref'
  obtain ⟨hO, ents, hheap, hl, hbn, hrow⟩ := RC.map hs h2
  obtain ⟨N, hN, hiter⟩ := RC.iter hit hsr
  have hNe : N = ents.size := by omega
  subst hNe
  have hlt : it < C.h.length := (List.getElem?_eq_some_iff.1 hit).1
  have hex : ∀ (w : World) (nx : Value) (w' : World), (Instr.next (.pointer (some ⟨C.r it, 0, none⟩)) false o.type).run P w = .ok nx w' → (execOp e o).run P w = .ok (.value nx) w' := by
    intro w nx w' h
    simp [execOp, ho, hx.2, h]
  have hbl : ∀ m, m ∈ ents.toList → m.born < ents.size := fun m hm => by
    obtain ⟨i, hi⟩ := List.mem_iff_getElem?.1 hm
    have hi' : ents[i]? = some m := by simpa using hi
    rw [hbn i m hi']
    exact (Array.getElem?_eq_some_iff.1 hi').1
  rcases run_next_at (P := P) C.w o.type (C.r it) (C.r s) ents.size ents.size sn.toArray ents ents.size hiter hheap hbl (Nat.le_refl _) with ⟨h0, hr⟩ | ⟨m, hm, w1, hw1, hr⟩
  · refine ⟨_, _, _, C, hex _ _ _ hr, rfl, hK0 fun i hi => ?_, RC, ?_, Ext.refl _ _, Nat.le_refl _⟩
    · rw [← hl] at hi
      by_cases hin : i ∈ sn
      · exact hin
      · exfalso
        have hmem : ents[i] ∈ leftOf ents sn.toArray := by
          unfold leftOf
          rw [Array.mem_filter]
          refine ⟨by simp, ?_⟩
          rw [hbn i _ (Array.getElem?_eq_getElem hi)]
          simpa using hin
        rw [Array.eq_empty_of_size_eq_zero h0] at hmem
        simp at hmem
    · exact .tuple _ _ rfl fun i y hy => by
        match i, hy with
        | 0, hy => simp at hy; subst hy; exact .bool _
  · have hm2 : m ∈ leftOf ents sn.toArray := by simpa using hm
    unfold leftOf at hm2
    rw [Array.mem_filter] at hm2
    obtain ⟨hme, hmn⟩ := hm2
    obtain ⟨i, hi, hie⟩ := Array.mem_iff_getElem.1 hme
    have hi' : ents[i]? = some m := by rw [Array.getElem?_eq_getElem hi, hie]
    have hborn := hbn i m hi'
    have hni : i ∉ sn := by rw [hborn] at hmn; simpa using hmn
    have hil : i < es.length := by omega
    obtain ⟨k, v, hkv⟩ : ∃ k v, es[i]? = some [k, v] := by
      have := h2 es[i] (List.getElem_mem hil)
      rw [List.getElem?_eq_getElem hil]
      match es[i], this with
      | [k, v], _ => exact ⟨k, v, rfl⟩
    obtain ⟨m', hm', hk1, hv1⟩ := hrow i k v hkv
    rw [hi'] at hm'
    cases hm'
    obtain ⟨hw1h, hw1o, hw1t, hw1p⟩ : w1.heap = C.w.heap ∧ w1.os = C.w.os ∧ w1.tape = C.w.tape ∧ w1.output = C.w.output := by rcases hw1 with rfl | rfl <;> exact ⟨rfl, rfl, rfl, rfl⟩
    have hiter1 : w1.heap[C.r it]? = some (.mapIter (some (C.r s)) ents.size sn.toArray ents.size) := by rw [hw1h]; exact hiter
    have hilt : C.r it < C.w.heap.size := (Array.getElem?_eq_some_iff.1 hiter).1
    have hset : ∀ b, b ≠ C.r it → (setBlock w1 (C.r it) (.mapIter (some (C.r s)) ents.size (sn.toArray.push m.born) ents.size)).heap[b]? = C.w.heap[b]? := fun b hb => by
      show (w1.heap.setIfInBounds _ _)[b]? = _
      rw [hw1h, Array.getElem?_setIfInBounds_ne (Ne.symm hb)]
    have hget : (setBlock w1 (C.r it) (.mapIter (some (C.r s)) ents.size (sn.toArray.push m.born) ents.size)).heap[C.r it]? = some (.mapIter (some (C.r s)) ents.size (sn.toArray.push m.born) ents.size) := by
      show (w1.heap.setIfInBounds _ _)[_]? = _
      rw [hw1h, Array.getElem?_setIfInBounds_self_of_lt hilt]
    have hrows : ([AV.mapr s, .int .i64 n, .int .i64 n] :: (sr ++ [[.int .i64 (i : Int)]])) = ([AV.mapr s, .int .i64 n, .int .i64 n] :: (sn ++ [i]).map fun k : Nat => [AV.int .i64 (k : Int)]) := by rw [hsr]; simp
    have hs1 : C.used s := ⟨_, hs, by simp⟩
    obtain ⟨H1, H2⟩ := it_rows (c := C) (N := ents.size) (n := n) hN hs1 (sn ++ [i])
    rw [← hrows] at H1 H2
    have hpush : sn.toArray.push m.born = (sn ++ [i]).toArray := by rw [hborn]; simp
    rw [hpush] at hset hget hr
    obtain ⟨R1, E1⟩ := Rel.writeX RC it (C.h.set it (.live 0 ([.mapr s, .int .i64 n, .int .i64 n] :: (sr ++ [[.int .i64 (i : Int)]])))) (setBlock w1 (C.r it) (.mapIter (some (C.r s)) ents.size (sn ++ [i]).toArray ents.size)) _ _ _ _ C.h.length
      hit (List.getElem?_set_self hlt) (fun q hq => List.getElem?_set_ne (Ne.symm hq)) hget hset hw1o hw1t hw1p (by show (w1.heap.setIfInBounds _ _).size = _; rw [Array.size_setIfInBounds, hw1h]) H1 H2
    refine ⟨_, _, _, _, hex _ _ _ hr, rfl, hK1 i k v hni hkv, R1, ?_, E1, by simp⟩
    exact .tuple _ _ rfl fun q y hy => by
      match q, hy with
      | 0, hy => simp at hy; subst hy; exact .bool _
      | 1, hy => simp at hy; subst hy; exact E1.vr' hk1
      | 2, hy => simp at hy; subst hy; exact E1.vr' hv1
/-- The entry of the last step. -/
theorem Xo.entry {ty : TypeId} {x : Operand} {it s i : Nat} {n : Int} {k v : AV} {es sr sr0 : List (List AV)} {sn : List Nat} {h : AHeap} {K : AV → AHeap → Prop} (hit : h[it]? = some (.live 0 ([.mapr s, .int .i64 n, .int .i64 n] :: sr))) (hs : h[s]? = some (.live 0 es)) (h2 : ∀ e, e ∈ es → e.length = 2) (hn : n = es.length)
    (hsr0 : sr0 = sn.map fun k : Nat => [AV.int .i64 (k : Int)]) (hsr : sr = sr0 ++ [[.int .i64 (i : Int)]]) (hi : es[i]? = some [k, v]) (hK : K (.tuple [k, v]) h) : Xo P (.entry x) ty [.ref it 0 0 0] h K := by
  refine ⟨fun C e o ho hty hC RC hv => ?_⟩
  subst hC
  have hop : (Op.entry x).operands.map e = #[e x] := by simp [Op.operands]
  rw [hop] at hv
  have hx := hv.one'.ref'
  obtain ⟨hO, ents, hheap, hl, hbn, hrow⟩ := RC.map hs h2
  have hsr2 : sr = (sn ++ [i]).map fun k : Nat => [AV.int .i64 (k : Int)] := by rw [hsr, hsr0]; simp
  obtain ⟨N, hN, hiter⟩ := RC.iter hit hsr2
  have hNe : N = ents.size := by omega
  subst hNe
  obtain ⟨m, hm, hk1, hv1⟩ := hrow i k v hi
  have hborn := hbn i m hm
  have hpush : (sn ++ [i]).toArray = sn.toArray.push m.born := by rw [hborn]; simp
  rw [hpush] at hiter
  have hnd : (ents.toList.map (·.born)).Nodup := by
    have : ents.toList.map (·.born) = List.range ents.size := by
      apply List.ext_getElem?
      intro j
      rw [List.getElem?_map]
      by_cases hj : j < ents.size
      · have h1 : ents.toList[j]? = some ents[j] := by simp [hj]
        rw [h1, List.getElem?_range hj]
        simp only [Option.map_some, Option.some.injEq]
        exact hbn j _ (Array.getElem?_eq_getElem hj)
      · rw [List.getElem?_eq_none (by simpa using hj), List.getElem?_eq_none (by simpa using hj)]
        rfl
    rw [this]; exact List.nodup_range
  have hr := run_entry_at (P := P) C.w (C.r it) (C.r s) ents.size sn.toArray ents ents.size m hiter hheap (by
    have := List.mem_of_getElem? (show ents.toList[i]? = some m by simpa using hm)
    exact this) hnd
  have hrun : (execOp e o).run P C.w = .ok (.value (.tuple #[m.key, m.val])) C.w := by
    simp [execOp, ho, hx.2, hr]
  refine ⟨_, _, _, C, hrun, rfl, hK, RC, ?_, Ext.refl _ _, Nat.le_refl _⟩
  exact .tuple _ _ rfl fun q y hy => by
    match q, hy with
    | 0, hy => simp at hy; subst hy; exact hk1
    | 1, hy => simp at hy; subst hy; exact hv1
end Go.Eng
