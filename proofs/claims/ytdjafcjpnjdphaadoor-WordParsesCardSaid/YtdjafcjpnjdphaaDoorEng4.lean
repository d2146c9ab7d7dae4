/- The engine, part 4: the operations on memory. -/
import Derived.Test.YtdjafcjpnjdphaaDoorEng3
import Derived.Laws.Tables
import Derived.Great.BuildSlice
set_option linter.unusedVariables false
set_option linter.unusedSimpArgs false
namespace Go.Eng
open Go Go.RowKit
variable {P : Program} {o : Oper} {ev : AOpnd → AV} {h : AHeap}

theorem put_cells (off : Nat) : ∀ (l : List Value) (st : Nat) (cs : Array Value),
    ((l.zipIdx st).foldl (fun cs (x : Value × Nat) => cs.setIfInBounds (off + x.2) x.1) cs).size = cs.size ∧
    ∀ i, ((l.zipIdx st).foldl (fun cs (x : Value × Nat) => cs.setIfInBounds (off + x.2) x.1) cs)[i]? = if off + st ≤ i ∧ i < off + st + l.length ∧ i < cs.size then l[i - (off + st)]? else cs[i]?
  | [], st, cs => by
    refine ⟨rfl, fun i => ?_⟩
    rw [if_neg (by simp; omega)]
    rfl
  | v :: l, st, cs => by
    have ih := put_cells off l (st + 1) (cs.setIfInBounds (off + st) v)
    simp only [List.zipIdx_cons, List.foldl_cons]
    refine ⟨by rw [ih.1]; simp, fun i => ?_⟩
    rw [ih.2 i]
    simp only [Array.size_setIfInBounds, List.length_cons]
    by_cases h1 : off + (st + 1) ≤ i ∧ i < off + (st + 1) + l.length ∧ i < cs.size
    · rw [if_pos h1, if_pos (by omega)]
      have : i - (off + st) = (i - (off + (st + 1))) + 1 := by omega
      rw [this, List.getElem?_cons_succ]
    · rw [if_neg h1]
      by_cases h2 : i = off + st
      · subst h2
        by_cases h3 : off + st < cs.size
        · rw [if_pos (by omega)]
          simp [h3]
        · rw [if_neg (by omega)]
          simp [h3]
      · rw [if_neg (by omega)]
        rw [Array.getElem?_setIfInBounds_ne (by omega)]
theorem splice_get (row : List AV) (o : Nat) (cs : List AV) (ho : o + cs.length ≤ row.length) (i : Nat) : (splice row o cs)[i]? = if o ≤ i ∧ i < o + cs.length then cs[i - o]? else row[i]? := by
  unfold splice
  have hl : (row.take o).length = o := by simp; omega
  by_cases h1 : i < o
  · rw [if_neg (by omega), List.append_assoc, List.getElem?_append_left (by omega), List.getElem?_take, if_pos h1]
  · rw [List.append_assoc, List.getElem?_append_right (by omega), hl]
    by_cases h2 : i < o + cs.length
    · rw [if_pos (by omega), List.getElem?_append_left (by omega)]
    · rw [if_neg (by omega), List.getElem?_append_right (by omega), List.getElem?_drop]
      congr 1
      omega
theorem splice_len (row : List AV) (o : Nat) (cs : List AV) (ho : o + cs.length ≤ row.length) : (splice row o cs).length = row.length := by
  unfold splice; simp; omega
theorem getD_of {a : Array Value} {i : Nat} {v : Value} (h : a[i]? = some v) : a.getD i undef = v := by simp [Array.getD_eq_getD_getElem?, h]
theorem vrs_splice {c : Cfg} {cs : List AV} {arr : Array Value} {xs : List AV} {vs : Array Value} (off : Nat) (h : VRs c cs arr) (hx : VRs c xs vs) (ho : off + xs.length ≤ cs.length) (arr' : Array Value)
    (hs : arr'.size = arr.size) (hg : ∀ i, i < arr.size → arr'[i]? = if off ≤ i ∧ i < off + vs.size then vs[i - off]? else arr[i]?) : VRs c (splice cs off xs) arr' := by
  refine ⟨by rw [hs, h.1, splice_len _ _ _ ho], fun i x hi => ?_⟩
  have hlt : i < arr.size := by
    have := (List.getElem?_eq_some_iff.1 hi).1
    rw [splice_len _ _ _ ho] at this; rw [h.1]; exact this
  rw [splice_get _ _ _ ho] at hi
  rw [Array.getD_eq_getD_getElem?, hg i hlt]
  by_cases hin : off ≤ i ∧ i < off + xs.length
  · rw [if_pos hin] at hi
    rw [if_pos (by rw [hx.1]; exact hin)]
    have := hx.2 _ _ hi
    rwa [Array.getD_eq_getD_getElem?] at this
  · rw [if_neg hin] at hi
    rw [if_neg (by rw [hx.1]; exact hin)]
    have := h.2 _ _ hi
    rwa [Array.getD_eq_getD_getElem?] at this

theorem fill_ok {c : Cfg} {e : Operand → Value} (he : EvOk c ev e) (place : Nat → Option (Nat × Nat)) : ∀ {parts : List (Nat × Operand)} {ps : List (Nat × Nat × AOpnd)} {cs cs' : List AV} {arr : Array Value},
    cFill place parts = some ps → VRs c cs arr → fillA ev cs ps = some cs' → ∃ arr', Instr.fill place arr (parts.map fun (i, x) => (i, e x)) = some arr' ∧ VRs c cs' arr' ∧ cs'.length = cs.length
  | [], ps, cs, cs', arr, hc, hv, hf => by
    simp only [cFill, Option.some.injEq] at hc
    subst hc
    simp only [fillA, Option.some.injEq] at hf
    subst hf
    exact ⟨arr, rfl, hv, rfl⟩
  | (i, x) :: parts, ps, cs, cs', arr, hc, hv, hf => by
    simp only [cFill] at hc
    split at hc
    · rename_i off k y r hp hy hr
      simp only [Option.some.injEq] at hc
      subst hc
      simp only [fillA] at hf
      split at hf
      · rename_i xs hxs
        split at hf
        · rename_i hcond
          obtain ⟨h1, h2, h3⟩ := hcond
          have hV := (he x y hy).cells hxs
          have hput := put_cells off (e x).cells.toList 0 arr
          have hvs := vrs_splice off hv hV (by omega) _ hput.1 (fun i hi => by
            rw [hput.2 i]
            by_cases hin : off ≤ i ∧ i < off + (e x).cells.size
            · rw [if_pos (by simp; omega), if_pos hin]; simp
            · rw [if_neg (by simp; omega), if_neg hin])
          obtain ⟨arr', g1, g2, g3⟩ := fill_ok he place hr hvs hf
          refine ⟨arr', ?_, g2, by rw [g3, splice_len _ _ _ (by omega)]⟩
          have hsz : (e x).cells.size = k := by rw [hV.1]; exact h1
          have hle : ¬ (off + (e x).cells.size > arr.size) := by rw [hsz, hv.1]; omega
          simp only [List.map_cons, Instr.fill, hp]
          rw [if_neg (by simp [hsz]; rw [hv.1]; omega)]
          rw [← g1]
          congr 1
          rw [← Array.foldl_toList, Array.toList_zipIdx]
        · cases hf
      · cases hf
    · cases hc

theorem fillA_len : ∀ {ps : List (Nat × Nat × AOpnd)} {cs cs' : List AV}, fillA ev cs ps = some cs' → cs'.length = cs.length
  | [], cs, cs', hf => by simp only [fillA, Option.some.injEq] at hf; rw [hf]
  | (off, k, y) :: ps, cs, cs', hf => by
    simp only [fillA] at hf
    split at hf
    · split at hf
      · rename_i xs hxs hcond
        rw [fillA_len hf, splice_len _ _ _ (by omega)]
      · cases hf
    · cases hf
theorem szOf_info {t : TypeId} {k : Nat} (h : szOf P t = some k) : ∃ i, P.info? t = some i ∧ i.size = k := by
  unfold szOf at h
  cases hi : P.info? t with
  | none => simp [hi] at h
  | some i => simp [hi] at h; exact ⟨i, rfl, h⟩
theorem zeroOf_info {t : TypeId} {zs : List AV} (h : zeroOf P t = some zs) : ∃ i z, P.info? t = some i ∧ i.zero = some z ∧ zs = z.cells.toList.map AV.ofCell := by
  unfold zeroOf at h
  split at h
  · rename_i i hi
    split at h
    · rename_i z hz
      simp only [Option.some.injEq] at h
      exact ⟨i, z, hi, hz, h.symm⟩
    · cases h
  · cases h

theorem snd_build {t : TypeId} {parts : Array (Nat × Operand)} {zs : List AV} {ps : List (Nat × Nat × AOpnd)} {K : Res → Prop} (ho : o.op = .build t parts) (hz : zeroOf P t = some zs)
    (hp : (∃ fs pl, P.underlying t = some (.struct fs) ∧ placesOf P fs = some pl ∧ cFill (pl.toArray[·]?) parts.toList = some ps) ∨ (∃ n e k, P.underlying t = some (.array n e) ∧ szOf P e = some k ∧ cFill (fun i => some (i * k, k)) parts.toList = some ps))
    (hK : vcOp (.build zs ps) ev h K) : ∃ r, K r ∧ OSound P o ev h r := by
  simp only [vcOp] at hK
  split at hK
  · rename_i cs hcs
    refine ⟨_, hK, OSound.val fun c e R hs he => ?_⟩
    obtain ⟨it, z, hi, hzz, rfl⟩ := zeroOf_info hz
    rcases hp with ⟨fs, pl, hu, hpl, hf⟩ | ⟨n, el, k, hu, hk, hf⟩
    · obtain ⟨arr, h1, h2, _⟩ := fill_ok he _ hf (vrs_ofCells c z.cells) hcs
      have hb := run_build (P := P) c.w t (parts.map fun (i, x) => (i, e x)) arr (by
        unfold Program.built
        simp only [hi, hu, hzz]
        unfold placesOf at hpl
        rw [hpl]
        simpa using h1)
      exact ⟨.agg arr, by simp [execOp, ho, hb], .agg _ _ h2.1 h2.2⟩
    · obtain ⟨arr, h1, h2, _⟩ := fill_ok he _ hf (vrs_ofCells c z.cells) hcs
      obtain ⟨ie, hie, rfl⟩ := szOf_info hk
      have hb := run_build (P := P) c.w t (parts.map fun (i, x) => (i, e x)) arr (by
        unfold Program.built
        simp only [hi, hu, hzz, hie]
        simpa using h1)
      exact ⟨.agg arr, by simp [execOp, ho, hb], .agg _ _ h2.1 h2.2⟩
  · exact hK.elim
end Go.Eng
