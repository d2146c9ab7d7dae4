/- The engine: copies between rows; a row that is named a string's bytes. -/
import Derived.Test.YtekhigoblbkiaaaEngX
set_option linter.unusedVariables false
set_option linter.unusedSimpArgs false
namespace Go.Eng
open Go Go.RowKit
variable {P : Program}
/-- A slice of bytes becomes a slice of bytes. -/
theorem Xo.mark {s e0 ty : TypeId} {x : Operand} {q i n : Nat} {es : List (List AV)} {h : AHeap} {K : AV → AHeap → Prop} (hu : P.underlying s = some (.slice e0)) (h8 : P.underlying e0 = some (.int .u8)) (hs : h[q]? = some (.live 1 es)) (hk : K (.sl q 1 i n) h) : Xo P (.convert s s x) ty [.sl q 1 i n] h K := by
  refine ⟨fun C e o ho hty hC RC hv => ?_⟩
  subst hC
  have hop : (Op.convert s s x).operands.map e = #[e x] := by simp [Op.operands]
  rw [hop] at hv
  have hV := hv.one'
  obtain ⟨cap, g1, hus, hcap, _⟩ := hV.sls
  obtain ⟨_, hO, hes, vs, t0, fz, hh, hfz, hsz, hvr⟩ := RC.live q 1 es hs (by omega)
  obtain ⟨fz', efz⟩ : ∃ z, z = (if fz.1 == fz.2 then (vs.size, vs.size + 1) else (min fz.1 vs.size, max fz.2 (vs.size + 1))) := ⟨_, rfl⟩
  have hfz' : FzOk vs fz' := by
    rw [efz]
    unfold FzOk at hfz ⊢
    split
    · exact .inr (Nat.le_refl _)
    · rename_i hne
      simp only [beq_iff_eq] at hne
      right
      simp only
      omega
  have hw1 : (C.w.freeze ⟨C.r q, vs.size, none⟩ 1).heap[C.r q]? = some (.cells vs t0 fz') := by
    unfold World.freeze
    rw [if_neg (by decide)]
    obtain ⟨a, b⟩ := fz
    simp [Array.getElem?_modify, hh, efz]
  have hw2 : ∀ b, b ≠ C.r q → (C.w.freeze ⟨C.r q, vs.size, none⟩ 1).heap[b]? = C.w.heap[b]? := fun b hb => by
    unfold World.freeze
    rw [if_neg (by decide)]
    simp [Array.getElem?_modify, Ne.symm hb]
  have hsame : ∀ w : World, (w.freeze ⟨C.r q, vs.size, none⟩ 1).os = w.os ∧ (w.freeze ⟨C.r q, vs.size, none⟩ 1).tape = w.tape ∧ (w.freeze ⟨C.r q, vs.size, none⟩ 1).output = w.output ∧ (w.freeze ⟨C.r q, vs.size, none⟩ 1).heap.size = w.heap.size := fun w => by
    unfold World.freeze
    rw [if_neg (by decide)]
    simp
  obtain ⟨f1, f2, f3, f4⟩ := hsame C.w
  obtain ⟨R1, E1⟩ := Rel.write RC q C.h _ 1 es es vs vs t0 C.h.length (by omega) hs hs (fun k _ => rfl) hfz' hh hw1 rfl hw2 f1 f2 f3 f4 hes hsz hvr
  have hsh : C.w.shape? (C.r q) = some (t0, vs.size) := by unfold World.shape?; rw [hh]
  have hrun : (execOp e o).run P C.w = .ok (.value (e x)) (C.w.freeze ⟨C.r q, vs.size, none⟩ 1) := by
    simp [execOp, ho, g1, convert, run_und C.w hu, run_und C.w h8, markStringish, hsh]
  exact ⟨.value (e x), e x, .sl q 1 i n, { C with w := C.w.freeze ⟨C.r q, vs.size, none⟩ 1 }, hrun, rfl, hk, R1, E1.vr' hV, E1, Nat.le_refl _⟩
/-- What is copied, as one reads it. -/
def Reads (P : Program) (Y : AV) (h : AHeap) (z : Nat) (fs : List (List AV)) : Prop :=
  ∀ (C : Cfg) (sv : Value) (k : Nat), C.h = h → Rel C → VR C Y sv → k ≤ fs.length → (Builtin.lenOf sv).run P C.w = .ok fs.length C.w ∧ ∃ news : List Value, (Builtin.firstCells z k sv).run P C.w = .ok news.toArray C.w ∧ news.length = k * z ∧
      (∀ (i : Nat) (r : List AV), (fs.take k)[i]? = some r → ∀ (j : Nat) (u : AV), r[j]? = some u → ∃ v, news[i * z + j]? = some v ∧ VR C u v) ∧ (∀ r, r ∈ fs.take k → r.length = z)
/-- Rows are copied into an own slice. -/
theorem Xo.copyG {c : Go.Call} {ty t u e0 : TypeId} {x y : Operand} {q z i n : Nat} {es fs : List (List AV)} {h : AHeap} {K : AV → AHeap → Prop} (hb : c.callee = .builtin .copy) (ha : c.args = #[x, y]) (ht : c.argTypes = #[t, u]) (hu : P.underlying t = some (.slice e0))
    (hk : szOf P e0 = some z) (hz : 0 < z) (hs : h[q]? = some (.live z es)) (hin : i + n ≤ es.length) (hok : rowsOk fs = true) {Y : AV} (read : Reads P Y h z fs) (gs' : List (List AV)) (hg : gs' = es.take i ++ fs.take n ++ es.drop (i + min fs.length n)) (m : Int) (hm : m = (min fs.length n : Nat))
    (hK : K (.int .i64 m) (h.set q (.live z gs'))) : Xo P (.call c) ty [.sl q z i n, Y] h K := by
  refine ⟨fun C e o ho hty hC RC hv => ?_⟩
  subst hC
  have hop : (Op.call c).operands.map e = #[e x, e y] := by simp [Op.operands, Call.operands, hb, ha]
  rw [hop] at hv
  have hX : VR C (.sl q z i n) (e x) := by simpa using hv.2 0 _ rfl
  have hY : VR C Y (e y) := by simpa using hv.2 1 _ rfl
  obtain ⟨cap, g1, hus, hcap, _⟩ := hX.sls
  obtain ⟨_, hO, hes, vs, t0, fz, hh, hfz, hsz, hvr⟩ := RC.live q z es hs hz
  obtain ⟨ie, hie, hiz⟩ := szOf_info hk
  have hqlt : q < C.h.length := (List.getElem?_eq_some_iff.1 hs).1
  obtain ⟨k, ek⟩ : ∃ k, k = min fs.length n := ⟨_, rfl⟩
  have hkl : k ≤ fs.length ∧ k ≤ n := by omega
  have hkz : (i + k) * z ≤ vs.size := Nat.le_trans (Nat.mul_le_mul_right z (by omega)) hsz
  rw [Nat.add_mul] at hkz
  obtain ⟨hlen, news, hfirst, n1, n3, hzf⟩ := read C (e y) k rfl RC hY hkl.1
  obtain ⟨sv, hsv⟩ : ∃ sv, e y = sv := ⟨_, rfl⟩
  rw [hsv] at hlen hfirst
  have htl : (fs.take k).length = k := by simp; omega
  have hone : ∀ v, v ∈ news → v.oneCell' = true := by
    intro v hv'
    obtain ⟨p, hp⟩ := List.mem_iff_getElem?.1 hv'
    have hpl : p < k * z := by rw [← n1]; exact (List.getElem?_eq_some_iff.1 hp).1
    have h1 : p / z < (fs.take k).length := by rw [htl]; exact (Nat.div_lt_iff_lt_mul hz).2 hpl
    have hrow' := getD_get (l := fs.take k) [] h1
    have hlen := hzf _ (List.mem_of_getElem? hrow')
    have h2 : p % z < ((fs.take k).getD (p / z) []).length := by rw [hlen]; exact Nat.mod_lt _ hz
    obtain ⟨u, hu1, hu2⟩ := n3 _ _ hrow' _ _ (getD_get .any h2)
    rw [Nat.mul_comm, Nat.div_add_mod, hp] at hu1
    cases hu1
    have hrow2 : fs[p / z]? = some ((fs.take k).getD (p / z) []) := by rw [List.getElem?_take] at hrow'; split at hrow'; exact hrow'; cases hrow'
    exact hu2.cell (cellsOk_get (rowsOk_get hok hrow2) (getD_get .any h2))
  have hfit : i * z + 0 + news.length ≤ vs.size := by rw [n1]; omega
  have hst := run_storeF P (C.r q) (i * z) t0 fz news 0 vs C.w hh hfz hfit hone
  simp only [Nat.add_zero] at hst hfit
  obtain ⟨vs', evs⟩ : ∃ vs', vs' = (vs.toList.take (i * z) ++ news ++ vs.toList.drop (i * z + news.length)).toArray := ⟨_, rfl⟩
  rw [← evs] at hst
  have hsize : vs'.size = vs.size := by rw [evs]; simp; omega
  have hmin : (vs.toList.take (i * z)).length = i * z := by simp; omega
  have hget : ∀ p, vs'[p]? = if p < i * z then vs[p]? else if p < i * z + k * z then news[p - i * z]? else vs[p]? := by
    intro p
    rw [evs, List.getElem?_toArray, List.append_assoc]
    by_cases h1 : p < i * z
    · rw [if_pos h1, List.getElem?_append_left (by rw [hmin]; exact h1), List.getElem?_take, if_pos h1]; simp
    · rw [if_neg h1, List.getElem?_append_right (by rw [hmin]; omega), hmin]
      by_cases h2 : p < i * z + k * z
      · rw [if_pos h2, List.getElem?_append_left (by rw [n1]; omega)]
      · rw [if_neg h2, List.getElem?_append_right (by rw [n1]; omega), List.getElem?_drop, n1]
        rw [show i * z + k * z + (p - i * z - k * z) = p by omega]; simp
  have hfn : fs.take n = fs.take k := by
    rw [ek]
    by_cases hc : fs.length ≤ n
    · rw [List.take_of_length_le hc, Nat.min_eq_left hc, List.take_of_length_le (Nat.le_refl _)]
    · rw [Nat.min_eq_right (by omega)]
  rw [← ek] at hg hm
  rw [hfn] at hg
  have hgl : gs'.length = es.length := by rw [hg]; simp; omega
  have hgi : ∀ p, gs'[p]? = if p < i then es[p]? else if p < i + k then (fs.take k)[p - i]? else es[p]? := by
    intro p
    have hmi : (es.take i).length = i := by simp; omega
    rw [hg, List.append_assoc]
    by_cases h1 : p < i
    · rw [if_pos h1, List.getElem?_append_left (by rw [hmi]; exact h1), List.getElem?_take, if_pos h1]
    · rw [if_neg h1, List.getElem?_append_right (by rw [hmi]; omega), hmi]
      by_cases h2 : p < i + k
      · rw [if_pos h2, List.getElem?_append_left (by rw [htl]; omega)]
      · rw [if_neg h2, List.getElem?_append_right (by rw [htl]; omega), List.getElem?_drop, htl]
        rw [show i + k + (p - i - k) = p by omega]
  have hgz : ∀ r, r ∈ gs' → r.length = z := by
    intro r hr
    rw [hg] at hr
    rcases List.mem_append.1 hr with hr | hr
    · rcases List.mem_append.1 hr with hr | hr
      · exact hes r (List.mem_of_mem_take hr)
      · exact hzf r hr
    · exact hes r (List.mem_of_mem_drop hr)
  obtain ⟨R1, E1⟩ := Rel.write RC q (C.h.set q (.live z gs')) (C.w.setRow (C.r q) vs') z es gs' vs vs' t0 C.h.length hz hs (by simp [hqlt]) (fun p hp => by rw [List.getElem?_set_ne (Ne.symm hp)]) hfz hh (setRow_heap _ _ _ _ _ _ hh) hsize
    (fun b hb => setRow_other _ _ _ _ (by omega)) rfl rfl rfl (setRow_size _ _ _) hgz (by rw [hgl, hsize]; exact hsz) (fun p r hr j w hw => by
      have hjz : j < z := by
        have h1 := (List.getElem?_eq_some_iff.1 hw).1
        rwa [hgz r (List.mem_of_getElem? hr)] at h1
      rw [Array.getD_eq_getD_getElem?, hget]
      rw [hgi] at hr
      have lo : ∀ {a b : Nat}, a < b → a * z + j < b * z := fun {a b} hab => by
        have := Nat.mul_le_mul_right z (show a + 1 ≤ b from hab)
        rw [Nat.succ_mul] at this; omega
      have hi' : ∀ {a b : Nat}, b ≤ a → b * z ≤ a * z + j := fun {a b} hab => Nat.le_trans (Nat.mul_le_mul_right z hab) (Nat.le_add_right _ _)
      by_cases h1 : p < i
      · rw [if_pos h1] at hr
        rw [if_pos (lo h1)]
        have := hvr p r hr j w hw
        rwa [Array.getD_eq_getD_getElem?] at this
      · rw [if_neg h1] at hr
        have q1 := hi' (show i ≤ p by omega)
        rw [if_neg (by omega)]
        by_cases h2 : p < i + k
        · rw [if_pos h2] at hr
          have q2 := lo h2
          rw [Nat.add_mul] at q2
          rw [if_pos q2]
          obtain ⟨v, hv1, hv2⟩ := n3 _ r hr j w hw
          have q3 : p * z + j - i * z = (p - i) * z + j := by
            have : p = i + (p - i) := by omega
            rw [this, Nat.add_mul]; simp; omega
          rw [q3, hv1]
          exact hv2
        · rw [if_neg h2] at hr
          have q2 := hi' (show i + k ≤ p by omega)
          rw [Nat.add_mul] at q2
          rw [if_neg (by omega)]
          have := hvr p r hr j w hw
          rwa [Array.getD_eq_getD_getElem?] at this)
  have hrun : (execOp e o).run P C.w = .ok (.value (.int .i64 (k : Nat))) (C.w.setRow (C.r q) vs') := by
    have hmin2 : Nat.min fs.length n = k := ek.symm
    rw [← hiz] at hfirst
    simp [execOp, ho, resolve, hb, ha, ht, invoke, builtin, Builtin.copy_, run_und C.w hu, g1, hsv, hlen, hmin2, sizeOf, typeInfo, hie, hfirst, hst, goInt]
  exact ⟨_, _, _, _, hrun, rfl, hK, R1, by rw [hm]; exact .int _ _, E1, by simp⟩
theorem Reads.list {h : AHeap} {z : Nat} {fs : List (List AV)} (hz : 0 < z) : Reads P (.list z fs) h z fs := by
  intro C sv k hC RC hY hk
  have htl : (fs.take k).length = k := by simp; omega
  rcases hY.lists with ⟨⟨a0, c0, k1⟩, k2⟩ | ⟨a, cap', f, k1, hcap', hsp, hzz, hcell, hown, hvv⟩
  · subst k2
    have hk0 : k = 0 := by simpa using hk
    refine ⟨by rw [k1]; simp [Builtin.lenOf], [], ?_, by rw [hk0]; simp, fun i r hr => by simp at hr, fun r hr => by simp at hr⟩
    rw [hk0, k1]
    cases a0 <;> simp [Builtin.firstCells, loadCells, loadCellsFrom]
  · have hzz' : ∀ r, r ∈ fs.take k → r.length = z := fun r hr => hzz r (List.mem_of_mem_take hr)
    obtain ⟨news, n1, n2, n3⟩ := VR.news (c := C) (es := fs.take k) (a := a) (f := f) hz hsp hzz' (fun i j hi hj => hcell i j (by rw [htl] at hi; omega) hj) (fun i r hr => hvv i r (by rw [List.getElem?_take] at hr; split at hr; exact hr; cases hr))
    rw [htl] at n1
    rw [k1]
    exact ⟨by simp [Builtin.lenOf], news, run_firstCells_some (P := P) C.w z k a fs.length cap' news n1 n2, n1, n3, hzz'⟩
theorem Reads.sl {h : AHeap} {z p i n : Nat} {es : List (List AV)} (hz : 0 < z) (hp : h[p]? = some (.live z es)) (hin : i + n ≤ es.length) : Reads P (.sl p z i n) h z ((es.drop i).take n) := by
  intro C sv k hC RC hY hk
  subst hC
  obtain ⟨cap, k1, hus, hcap, _⟩ := hY.sls
  obtain ⟨_, hO, hes, vs, t0, fz, hh, hfz, hsz, hvr⟩ := RC.live p z es hp hz
  have hnl : ((es.drop i).take n).length = n := by simp; omega
  have hkn : k ≤ n := by omega
  have hget : ∀ q r, (((es.drop i).take n).take k)[q]? = some r → es[i + q]? = some r := fun q r hr => by
    rw [List.getElem?_take] at hr
    split at hr
    · rw [List.getElem?_take] at hr
      split at hr
      · rwa [List.getElem?_drop] at hr
      · cases hr
    · cases hr
  have hzz' : ∀ r, r ∈ ((es.drop i).take n).take k → r.length = z := fun r hr => hes r (List.mem_of_mem_drop (List.mem_of_mem_take (List.mem_of_mem_take hr)))
  have htl : (((es.drop i).take n).take k).length = k := by simp; omega
  obtain ⟨news, n1, n2, n3⟩ := VR.news (c := C) (es := ((es.drop i).take n).take k) (a := ⟨C.r p, i * z, none⟩) (f := fun q j => vs.getD ((i + q) * z + j) undef) hz rfl hzz' (fun q j hq hj => by
      rw [htl] at hq
      have hlt := row_lt (i := i + q) (n := es.length) (z := z) (by omega) hj
      have e1 : i * z + (q * z + j) = (i + q) * z + j := by rw [Nat.add_mul]; omega
      show C.w.cell? ⟨C.r p, i * z + (q * z + j), none⟩ = _
      rw [e1]
      unfold World.cell?
      have h2 : (i + q) * z + j < vs.size := by omega
      simp [hh, h2, Array.getD_eq_getD_getElem?])
    (fun q r hr j x hx => hvr (i + q) r (hget q r hr) j x hx)
  rw [htl] at n1
  rw [k1]
  refine ⟨by rw [hnl]; simp [Builtin.lenOf], news, run_firstCells_some (P := P) C.w z k _ n cap news n1 n2, n1, n3, hzz'⟩
theorem Xo.copy {c : Go.Call} {ty t u e0 : TypeId} {x y : Operand} {q z i n : Nat} {es fs : List (List AV)} {h : AHeap} {K : AV → AHeap → Prop} (hb : c.callee = .builtin .copy) (ha : c.args = #[x, y]) (ht : c.argTypes = #[t, u]) (hu : P.underlying t = some (.slice e0))
    (hk : szOf P e0 = some z) (hz : 0 < z) (hs : h[q]? = some (.live z es)) (hin : i + n ≤ es.length) (hok : rowsOk fs = true) (gs' : List (List AV)) (hg : gs' = es.take i ++ fs.take n ++ es.drop (i + min fs.length n)) (m : Int) (hm : m = (min fs.length n : Nat))
    (hK : K (.int .i64 m) (h.set q (.live z gs'))) : Xo P (.call c) ty [.sl q z i n, .list z fs] h K := Xo.copyG hb ha ht hu hk hz hs hin hok (Reads.list hz) gs' hg m hm hK
/-- From an own slice. -/
theorem Xo.copyS {c : Go.Call} {ty t u e0 : TypeId} {x y : Operand} {q z i n p i2 n2 : Nat} {es fs ps : List (List AV)} {h : AHeap} {K : AV → AHeap → Prop} (hb : c.callee = .builtin .copy) (ha : c.args = #[x, y]) (ht : c.argTypes = #[t, u]) (hu : P.underlying t = some (.slice e0))
    (hk : szOf P e0 = some z) (hz : 0 < z) (hs : h[q]? = some (.live z es)) (hp : h[p]? = some (.live z ps)) (hpn : i2 + n2 ≤ ps.length) (hfs : fs = (ps.drop i2).take n2) (hin : i + n ≤ es.length) (hok : rowsOk fs = true) (gs' : List (List AV)) (hg : gs' = es.take i ++ fs.take n ++ es.drop (i + min fs.length n)) (m : Int) (hm : m = (min fs.length n : Nat))
    (hK : K (.int .i64 m) (h.set q (.live z gs'))) : Xo P (.call c) ty [.sl q z i n, .sl p z i2 n2] h K := by
  subst hfs
  exact Xo.copyG hb ha ht hu hk hz hs hin hok (Reads.sl hz hp hpn) gs' hg m hm hK
end Go.Eng
