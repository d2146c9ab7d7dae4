/- The engine, part 9: make, append. -/
import Derived.Test.YtdjafcjpnjdphaaDoorEng8
set_option linter.unusedVariables false
set_option linter.unusedSimpArgs false
namespace Go.Eng
open Go Go.RowKit
variable {P : Program} {o : Oper} {ev : AOpnd → AV} {h : AHeap}

theorem zeros_get {zs : Array Value} {k n : Nat} (hk : zs.size = k) (hk0 : 0 < k) (i : Nat) (hi : i < n) : ((Array.range n).map (zs[· % zs.size]!)).getD i undef = zs.getD (i % k) undef := by
  have hmod : i % k < k := Nat.mod_lt _ hk0
  simp [Array.getD_eq_getD_getElem?, hi, hk, hmod]
theorem snd_mk {t e0 : TypeId} {it : TypeInfo} {zs : List AV} {l c : Operand} {l' c' : AOpnd} {K : Res → Prop} (ho : o.op = .makeSlice t l c) (hu : P.underlying t = some (.slice e0)) (hi : P.info? e0 = some it) (hz : zeroOf P e0 = some zs)
    (hzl : zs.length = it.size) (hz0 : 0 < it.size) (hl : cOpnd l = some l') (hc : cOpnd c = some c') (hK : vcOp (.mk it.size it.bytes zs l' c') ev h K) : ∃ r, K r ∧ OSound P o ev h r := by
  simp only [vcOp] at hK
  split at hK
  · rename_i a b ha hb
    obtain ⟨⟨h0, h1, h2, h3⟩, hK⟩ := hK
    refine ⟨_, hK, OSound.fresh _ hz0 (fun e he => by rw [(List.mem_replicate.1 he).2]; exact hzl) fun cf e R hs he => ?_⟩
    have g1 := (ha ▸ he l l' hl : VR cf _ (e l)).int'
    have g2 := (hb ▸ he c c' hc : VR cf _ (e c)).int'
    obtain ⟨it', z, hi', hzz, rfl⟩ := zeroOf_info hz
    rw [hi] at hi'
    cases hi'
    have hzc : z.cells.size = it.size := by simpa using hzl
    have w1 : IntKind.i64.wrap a = a := by simp only [IntKind.wrap, IntKind.bits, IntKind.signed]; simp; split <;> omega
    have w2 : IntKind.i64.wrap b = b := by simp only [IntKind.wrap, IntKind.bits, IntKind.signed]; simp; split <;> omega
    have c1 : ¬ (b < 0) := by omega
    have c2 : ¬ (a < 0) := by omega
    have c3 : ¬ (a > b) := by omega
    have c4 : ¬ ((it.bytes : Int) * b > 281474976710656) := by rw [Int.mul_comm]; omega
    refine ⟨.value (.slice (some ⟨cf.w.heap.size, 0, none⟩) a.toNat b.toNat), _, cf.w, (Array.range (b.toNat * it.size)).map (z.cells[· % z.cells.size]!), e0, ?_, rfl, rfl, rfl, rfl, rfl, ?_, ?_, ?_⟩
    · by_cases hb0 : b.toNat * it.size = 0
      · simp [execOp, ho, g1, g2, Instr.makeSlice, run_und cf.w hu, asInt, asIntOf, run_info cf.w hi, w1, w2, c1, c2, c3, c4, sizeOf, hb0, newRow]
        rw [show (Array.range 0) = #[] from rfl]
        simp
      · simp [execOp, ho, g1, g2, Instr.makeSlice, run_und cf.w hu, asInt, asIntOf, run_info cf.w hi, w1, w2, c1, c2, c3, c4, sizeOf, hb0, newRow, zeroValue, hzz]
    · simp
      exact Nat.mul_le_mul_right _ (by omega)
    · intro i e' hi' j x hx
      have hil : i < a.toNat := by
        have := (List.getElem?_eq_some_iff.1 hi').1
        simpa using this
      rw [List.getElem?_replicate, if_pos hil] at hi'
      cases hi'
      have hj : j < it.size := by
        have := (List.getElem?_eq_some_iff.1 hx).1
        omega
      have hlt := row_lt (n := b.toNat) (z := it.size) (i := i) (j := j) (by omega) hj
      rw [zeros_get hzc hz0 _ hlt]
      have : (i * it.size + j) % it.size = j := by rw [Nat.mul_comm, Nat.mul_add_mod]; exact Nat.mod_eq_of_lt hj
      rw [this]
      exact (vrs_ofCells cf z.cells).2 j x hx
    · exact ⟨b.toNat, rfl, by omega, by simp⟩
  · exact hK.elim

/-- The cells of a list. -/
theorem VR.news {c : Cfg} {z : Nat} {es : List (List AV)} {a : Addr} {f : Nat → Nat → Value} (hz0 : 0 < z) (ha : a.spot = none) (hz : ∀ e, e ∈ es → e.length = z)
    (hcell : ∀ i j, i < es.length → j < z → c.w.cell? ⟨a.block, a.off + (i * z + j), none⟩ = some (f i j))
    (hv : ∀ (i : Nat) (e : List AV), es[i]? = some e → ∀ (j : Nat) (x : AV), e[j]? = some x → VR c x (f i j)) :
    ∃ news : List Value, news.length = es.length * z ∧ (∀ j v, news[j]? = some v → c.w.cell? (a.add j) = some v) ∧ ∀ (i : Nat) (e : List AV), es[i]? = some e → ∀ (j : Nat) (x : AV), e[j]? = some x → ∃ v, news[i * z + j]? = some v ∧ VR c x v := by
  refine ⟨(List.range (es.length * z)).map fun q => f (q / z) (q % z), by simp, fun j v hj => ?_, fun i e he j x hx => ?_⟩
  · rw [List.getElem?_map] at hj
    have hlt : j < es.length * z := by
      rcases Nat.lt_or_ge j (es.length * z) with h | h
      · exact h
      · rw [List.getElem?_eq_none (by simpa using h)] at hj; cases hj
    rw [List.getElem?_range hlt] at hj
    simp only [Option.map_some, Option.some.injEq] at hj
    subst hj
    have h1 : j / z < es.length := (Nat.div_lt_iff_lt_mul hz0).2 hlt
    have := hcell (j / z) (j % z) h1 (Nat.mod_lt _ hz0)
    rw [Nat.mul_comm, Nat.div_add_mod] at this
    rw [add_spot a j ha]
    exact this
  · have hi : i < es.length := (List.getElem?_eq_some_iff.1 he).1
    have hj : j < z := by
      have := (List.getElem?_eq_some_iff.1 hx).1
      have := hz e (List.mem_of_getElem? he)
      omega
    have hlt := row_lt hi hj
    have e1 : (i * z + j) / z = i := by rw [Nat.mul_comm, Nat.mul_add_div hz0, Nat.div_eq_of_lt hj, Nat.add_zero]
    have e2 : (i * z + j) % z = j := by rw [Nat.mul_comm, Nat.mul_add_mod]; exact Nat.mod_eq_of_lt hj
    exact ⟨f i j, by rw [List.getElem?_map, List.getElem?_range hlt]; simp [e1, e2], hv i e he j x hx⟩
theorem rowsOk_get : ∀ {es : List (List AV)} {i : Nat} {e : List AV}, rowsOk es = true → es[i]? = some e → cellsOk e = true
  | [], i, x, _, h => by simp at h
  | c :: cs, 0, x, hb, h => by
    simp only [List.getElem?_cons_zero, Option.some.injEq] at h
    subst h
    simp only [rowsOk, Bool.and_eq_true] at hb
    exact hb.1
  | c :: cs, i + 1, x, hb, h => by
    simp only [rowsOk, Bool.and_eq_true] at hb
    exact rowsOk_get hb.2 (by simpa using h)

/-- A row that has gone over into another slot, in its own block. -/
theorem Rel.move {c : Cfg} (R : Rel c) (s t : Nat) (h' : AHeap) (w : World) (z : Nat) (es es' : List (List AV)) (vs vs' : Array Value) (ty : TypeId)
    (hz : 0 < z) (hs : c.h[s]? = some (.live z es)) (ht : ¬ c.used t) (h1 : h'[t]? = some (.live z es')) (h1' : h'[s]? = some .dead) (h2 : ∀ k x, k ≠ t → k ≠ s → x ≠ .free → (h'[k]? = some x ↔ c.h[k]? = some x))
    {fz : Nat × Nat} (hfz : FzOk vs fz) (hw0 : c.w.heap[c.r s]? = some (.cells vs ty fz)) (hw1 : w.heap[c.r s]? = some (.cells vs' ty fz)) (hvs : vs'.size = vs.size) (hw2 : ∀ b, b ≠ c.r s → w.heap[b]? = c.w.heap[b]?)
    (ho : w.os = c.w.os) (htp : w.tape = c.w.tape) (hp : w.output = c.w.output) (hsz : w.heap.size = c.w.heap.size)
    (hes : ∀ e, e ∈ es' → e.length = z) (hle : es'.length * z ≤ vs'.size) (hv : ∀ (i : Nat) (e : List AV), es'[i]? = some e → ∀ (j : Nat) (x : AV), e[j]? = some x → VR c x (vs'.getD (i * z + j) undef)) (n : Nat) :
    Rel { c with r := fun k => if k = t then c.r s else c.r k, h := h', w := w } ∧ Ext n c { c with r := fun k => if k = t then c.r s else c.r k, h := h', w := w } := by
  have hl : c.live s := ⟨z, es, hs⟩
  have hst : s ≠ t := fun e => ht (e ▸ Cfg.used_of_live hl)
  have hlive : ∀ k, k ≠ t → Cfg.live { c with r := fun k => if k = t then c.r s else c.r k, h := h', w := w } k → c.live k ∧ k ≠ s := by
    rintro k hk ⟨a, b, hx⟩
    by_cases hks : k = s
    · subst hks
      have : some (Slot.live a b) = some .dead := hx.symm.trans h1'
      cases this
    · exact ⟨⟨a, b, (h2 k _ hk hks (by simp)).1 hx⟩, hks⟩
  have he : ∀ n, Ext n c { c with r := fun k => if k = t then c.r s else c.r k, h := h', w := w } := by
    intro n
    refine ⟨rfl, ho, htp, hp, by simp [hsz], fun k _ hu => ?_, fun b hb hno => ⟨hw2 b fun e => hno ⟨s, hl, e.symm⟩, ?_⟩, fun b x hx => ?_⟩
    · have hkt : k ≠ t := fun e => ht (e ▸ hu)
      refine ⟨?_, by simp [hkt]⟩
      by_cases hks : k = s
      · subst hks; exact ⟨_, h1', by simp⟩
      · obtain ⟨x, hx, hf⟩ := hu; exact ⟨x, (h2 k x hkt hks hf).2 hx, hf⟩
    · rintro ⟨k, hk, hkb⟩
      by_cases hkt : k = t
      · subst hkt; simp at hkb; exact hno ⟨s, hl, hkb⟩
      · simp only [hkt, if_false] at hkb
        exact hno ⟨k, (hlive k hkt hk).1, hkb⟩
    · by_cases hb : b = c.r s
      · subst hb
        unfold World.shape? at hx ⊢
        simp only [hw0] at hx
        simp only [hw1, hvs]
        exact hx
      · unfold World.shape? at hx ⊢
        simp only [hw2 b hb]
        exact hx
  obtain ⟨a1, a2, a3, _⟩ := R.live s z es hs hz
  refine ⟨R.of_ext (he _) (fun k z' e' hk => ?_) (fun a b ha hb hr => ?_), he n⟩
  · by_cases hkt : k = t
    · subst hkt
      have : Slot.live z es' = Slot.live z' e' := by
        have : some (Slot.live z es') = some (Slot.live z' e') := h1.symm.trans hk
        simpa using this
      cases this
      exact .inr (Slot.Ok.cells a1 (by simpa using a2) hes ⟨vs', ty, fz, by simpa using hw1, by unfold FzOk at hfz ⊢; rw [hvs]; exact hfz, hle, fun i e he' j x hx => (he c.h.length).vr' (hv i e he' j x hx)⟩)
    · obtain ⟨h3, h4⟩ := hlive k hkt ⟨z', e', hk⟩
      have hk' := (h2 k _ hkt h4 (by simp)).1 hk
      exact .inl ⟨hk', by simp [hkt], hw2 _ fun e => h4 (R.inj k s h3 hl e)⟩
  · by_cases hat : a = t <;> by_cases hbt : b = t
    · omega
    · obtain ⟨h3, h4⟩ := hlive b hbt hb
      simp [hat, hbt] at hr
      exact absurd (R.inj s b hl h3 hr).symm h4
    · obtain ⟨h3, h4⟩ := hlive a hat ha
      simp [hat, hbt] at hr
      exact absurd (R.inj a s h3 hl hr) h4
    · simp [hat, hbt] at hr
      exact R.inj a b (hlive a hat ha).1 (hlive b hbt hb).1 hr

theorem snd_app {t e0 : TypeId} {it : TypeInfo} {zv : Value} {cl : Call} {x y : Operand} {x' y' : AOpnd} {K : Res → Prop} (ho : o.op = .call cl) (hc1 : cl.callee = .builtin .append) (hc2 : cl.args = #[x, y]) (hc3 : cl.argTypes = #[t, t])
    (hu : P.underlying t = some (.slice e0)) (hi : P.info? e0 = some it) (hz : it.zero = some zv) (hzs : zv.cells.size = it.size) (hz0 : 0 < it.size) (hx : cOpnd x = some x') (hy : cOpnd y = some y')
    (hK : vcOp (.app it.size it.bytes x' y') ev h K) : ∃ r, K r ∧ OSound P o ev h r := by
  have run : ∀ (w w' : World) (e : Operand → Value) (a b r : Value), e x = a → e y = b → (Builtin.append_ #[t, t] o.type #[a, b]).run P w = .ok r w' → (execOp e o).run P w = .ok (.value r) w' := by
    intro w w' e a b r ha hb hr
    simp [execOp, ho, resolve, hc1, hc2, hc3, invoke, builtin, ha, hb, hr]
  -- nothing is appended
  have runE : ∀ (w : World) (a : Option Addr) (n cap : Nat) (b : Option Addr) (m : Nat), n ≤ cap → (Builtin.append_ #[t, t] o.type #[.slice a n cap, .slice b 0 m]).run P w = .ok (.slice a n cap) w := by
    intro w a n cap b m hn
    cases a <;> cases b <;> simp [Builtin.append_, run_und w hu, run_info w hi, sizeOf, Builtin.lenOf, hn, Builtin.firstCells, loadCells, loadCellsFrom, storeCells]
  simp only [vcOp] at hK
  split at hK
  · rename_i hye
    split at hK
    · rename_i hxe
      refine ⟨_, hK, OSound.val fun c e R hs he => ⟨.slice none 0 0, ?_, .nils⟩⟩
      exact run _ _ _ _ _ _ (hxe ▸ he x x' hx : VR c _ (e x)).nils' (hye ▸ he y y' hy : VR c _ (e y)).nils' (runE _ _ _ _ _ _ (Nat.le_refl _))
    · rename_i s z' i n hxe
      refine ⟨_, hK, OSound.val fun c e R hs he => ?_⟩
      have hV := (hxe ▸ he x x' hx : VR c _ (e x))
      obtain ⟨cap, g1, g2, g3, g4⟩ := hV.sls
      exact ⟨_, run _ _ _ _ _ _ g1 (hye ▸ he y y' hy : VR c _ (e y)).nils' (runE _ _ _ _ _ _ g3), by rw [← g1]; exact hV⟩
    · exact hK.elim
  · rename_i z' new hye
    split at hK
    · rename_i hxe
      by_cases hnew : new = []
      · refine ⟨_, hK.1 hnew, OSound.val fun c e R hs he => ?_⟩
        subst hnew
        obtain ⟨ae, g0⟩ := (hxe ▸ he x x' hx : VR c _ (e x)).emp'
        rcases (hye ▸ he y y' hy : VR c _ (e y)).lists with ⟨⟨a0, c0, g1⟩, g2⟩ | ⟨a, cap, f, g1, hcap, hsp, hzz, hcell, hown, hv⟩
        · exact ⟨_, run _ _ _ _ _ _ g0 g1 (runE _ _ _ _ _ _ (Nat.le_refl _)), .emp _⟩
        · exact ⟨_, run _ _ _ _ _ _ g0 g1 (runE _ _ _ _ _ _ (Nat.le_refl _)), .emp _⟩
      · have hK2 := hK.2 hnew
        clear hK
        obtain ⟨⟨rfl, h1, h2⟩, hK⟩ := hK2
        have hpos : 0 < new.length := List.length_pos_iff.2 hnew
        refine ⟨_, hK, ?_⟩
        intro c e R hs he tt h' ht hh
        obtain ⟨ae, g0⟩ := (hxe ▸ he x x' hx : VR c _ (e x)).emp'
        rcases (hye ▸ he y y' hy : VR c _ (e y)).lists with ⟨⟨a0, c0, g1⟩, g2⟩ | ⟨a, cap, f, g1, hcap, hsp, hzz, hcell, hown, hv⟩
        · exact absurd g2 hnew
        · obtain ⟨news, n1, n2, n3⟩ := VR.news hz0 hsp hzz hcell hv
          have hr := run_append_grow (P := P) c.w t o.type e0 it zv hu hi hz ae 0 0 [] (by simp) (by simp) a new.length cap news n1 n2 (by omega) (by omega) (by rw [Nat.zero_add, nextslicecap_zero hpos]; omega)
          simp only [Nat.zero_add, Array.empty_append] at hr
          have hge := grownCap_ge c.w new.length 0 e0
          have hsz : (news.toArray ++ Builtin.zeroCells zv.cells (grownCap c.w new.length 0 e0 - new.length)).size = grownCap c.w new.length 0 e0 * it.size := by
            simp only [Array.size_append, List.size_toArray, size_zeroCells, hzs, n1, ← Nat.add_mul]
            congr 1; omega
          obtain ⟨R1, E1⟩ := R.sameHeap (w := c.w.drew) rfl rfl rfl rfl c.h.length
          have ht1 : ¬ Cfg.used { c with w := c.w.drew } tt := ht
          have hnz : new.length * it.size ≤ (news.toArray ++ Builtin.zeroCells zv.cells (grownCap c.w new.length 0 e0 - new.length)).size := by rw [hsz]; exact Nat.mul_le_mul_right _ hge
          obtain ⟨R2, E2⟩ := Rel.fresh R1 tt h' it.size new (news.toArray ++ Builtin.zeroCells zv.cells (grownCap c.w new.length 0 e0 - new.length)) e0 c.h.length ht1 hh.1 hh.2 hz0 hzz hnz (fun i q hq j u hu' => by
            obtain ⟨v, hv1, hv2⟩ := n3 i q hq j u hu'
            have hjl := (List.getElem?_eq_some_iff.1 hv1).1
            have : (news.toArray ++ Builtin.zeroCells zv.cells (grownCap c.w new.length 0 e0 - new.length)).getD (i * it.size + j) undef = v := by
              rw [Array.getD_eq_getD_getElem?, Array.getElem?_append_left (by simpa using hjl)]
              simp [hv1]
            rw [this]
            exact E1.vr' hv2)
          refine ⟨_, _, _, run _ _ _ _ _ _ g0 g1 hr, rfl, R2, E1.trans E2, rfl, ?_⟩
          have := VR.sl (c := { c with w := c.w.drew.alloc (.cells (news.toArray ++ Builtin.zeroCells zv.cells (grownCap c.w new.length 0 e0 - new.length)) e0), r := fun s => if s = tt then c.w.heap.size else c.r s, h := h' }) tt it.size 0 new.length (grownCap c.w new.length 0 e0)
            ⟨_, hh.1, by simp⟩ hge ⟨e0, _, by
              have := heap_alloc_new c.w.drew (.cells (news.toArray ++ Builtin.zeroCells zv.cells (grownCap c.w new.length 0 e0 - new.length)) e0)
              simp only [if_true]
              unfold World.shape?
              rw [show c.w.drew.heap.size = c.w.heap.size from rfl] at this
              rw [this], by rw [hsz]; simp⟩
          (obtain ⟨zz, hzz1⟩ : ∃ zz, it.size = zz + 1 := ⟨it.size - 1, by omega⟩; rw [hzz1] at this ⊢; simpa [Res.at, Nat.beq] using this)
    · rename_i hxe
      by_cases hnew : new = []
      · refine ⟨_, hK.1 hnew, OSound.val fun c e R hs he => ?_⟩
        subst hnew
        have g0 := (hxe ▸ he x x' hx : VR c _ (e x)).nils'
        rcases (hye ▸ he y y' hy : VR c _ (e y)).lists with ⟨⟨a0, c0, g1⟩, g2⟩ | ⟨a, cap, f, g1, hcap, hsp, hzz, hcell, hown, hv⟩
        · exact ⟨_, run _ _ _ _ _ _ g0 g1 (runE _ _ _ _ _ _ (Nat.le_refl _)), .nils⟩
        · exact ⟨_, run _ _ _ _ _ _ g0 g1 (runE _ _ _ _ _ _ (Nat.le_refl _)), .nils⟩
      · have hK2 := hK.2 hnew
        clear hK
        obtain ⟨⟨rfl, h1, h2⟩, hK⟩ := hK2
        have hpos : 0 < new.length := List.length_pos_iff.2 hnew
        refine ⟨_, hK, ?_⟩
        intro c e R hs he tt h' ht hh
        have g0 := (hxe ▸ he x x' hx : VR c _ (e x)).nils'
        rcases (hye ▸ he y y' hy : VR c _ (e y)).lists with ⟨⟨a0, c0, g1⟩, g2⟩ | ⟨a, cap, f, g1, hcap, hsp, hzz, hcell, hown, hv⟩
        · exact absurd g2 hnew
        · obtain ⟨news, n1, n2, n3⟩ := VR.news hz0 hsp hzz hcell hv
          have hr := run_append_nil (P := P) c.w t o.type e0 it zv hu hi hz a new.length cap news n1 n2 hpos (by omega) (by omega)
          have hge := grownCap_ge c.w new.length 0 e0
          have hsz : (news.toArray ++ Builtin.zeroCells zv.cells (grownCap c.w new.length 0 e0 - new.length)).size = grownCap c.w new.length 0 e0 * it.size := by
            simp only [Array.size_append, List.size_toArray, size_zeroCells, hzs, n1, ← Nat.add_mul]
            congr 1; omega
          obtain ⟨R1, E1⟩ := R.sameHeap (w := c.w.drew) rfl rfl rfl rfl c.h.length
          have ht1 : ¬ Cfg.used { c with w := c.w.drew } tt := ht
          have hnz : new.length * it.size ≤ (news.toArray ++ Builtin.zeroCells zv.cells (grownCap c.w new.length 0 e0 - new.length)).size := by rw [hsz]; exact Nat.mul_le_mul_right _ hge
          obtain ⟨R2, E2⟩ := Rel.fresh R1 tt h' it.size new (news.toArray ++ Builtin.zeroCells zv.cells (grownCap c.w new.length 0 e0 - new.length)) e0 c.h.length ht1 hh.1 hh.2 hz0 hzz hnz (fun i q hq j u hu' => by
            obtain ⟨v, hv1, hv2⟩ := n3 i q hq j u hu'
            have hjl := (List.getElem?_eq_some_iff.1 hv1).1
            have : (news.toArray ++ Builtin.zeroCells zv.cells (grownCap c.w new.length 0 e0 - new.length)).getD (i * it.size + j) undef = v := by
              rw [Array.getD_eq_getD_getElem?, Array.getElem?_append_left (by simpa using hjl)]
              simp [hv1]
            rw [this]
            exact E1.vr' hv2)
          refine ⟨_, _, _, run _ _ _ _ _ _ g0 g1 hr, rfl, R2, E1.trans E2, rfl, ?_⟩
          have := VR.sl (c := { c with w := c.w.drew.alloc (.cells (news.toArray ++ Builtin.zeroCells zv.cells (grownCap c.w new.length 0 e0 - new.length)) e0), r := fun s => if s = tt then c.w.heap.size else c.r s, h := h' }) tt it.size 0 new.length (grownCap c.w new.length 0 e0)
            ⟨_, hh.1, by simp⟩ hge ⟨e0, _, by
              have := heap_alloc_new c.w.drew (.cells (news.toArray ++ Builtin.zeroCells zv.cells (grownCap c.w new.length 0 e0 - new.length)) e0)
              simp only [if_true]
              unfold World.shape?
              rw [show c.w.drew.heap.size = c.w.heap.size from rfl] at this
              rw [this], by rw [hsz]; simp⟩
          (obtain ⟨zz, hzz1⟩ : ∃ zz, it.size = zz + 1 := ⟨it.size - 1, by omega⟩; rw [hzz1] at this ⊢; simpa [Res.at, Nat.beq] using this)
    · rename_i s z'' i n hxe
      split at hK
      · rename_i w0 es hs0
        by_cases hnew : new = []
        · rcases hK.1 hnew with hK0 | ⟨⟨rfl, rfl, rfl, rfl⟩, hK0⟩
          rotate_left 1
          · refine ⟨_, hK0, ?_⟩
            subst hnew
            intro c e R hs he tt h' ht hh
            obtain ⟨cap, g1, hus, hnc, e1, m1, hsh, hm1⟩ := (hxe ▸ he x x' hx : VR c _ (e x)).sls
            simp only [Nat.zero_mul, Nat.zero_add] at g1 hm1
            have hs0' := hs _ _ _ hs0
            obtain ⟨_, hO, hes, vs, ty, fz, hh0, hfz, hsz, hvr⟩ := R.live s _ es hs0' hz0
            have hslt : s < c.h.length := (List.getElem?_eq_some_iff.1 hs0').1
            obtain ⟨hh1, hh2', hh3⟩ := hh
            obtain ⟨R1, E1⟩ := Rel.move R s tt h' c.w _ es es vs vs ty hz0 hs0' ht hh1 (hh2' hslt) hh3 hfz hh0 hh0 rfl (fun b _ => rfl) rfl rfl rfl rfl hes hsz hvr c.h.length
            have hrun : ∃ b m, e y = .slice b 0 m := by
              rcases (hye ▸ he y y' hy : VR c _ (e y)).lists with ⟨⟨a0, c0, k1⟩, k2⟩ | ⟨a, cap', f, k1, hcap, hsp, hzz, hcell, hown, hv⟩
              · exact ⟨_, _, k1⟩
              · exact ⟨_, _, k1⟩
            obtain ⟨b, m, k1⟩ := hrun
            refine ⟨_, _, { c with r := fun k => if k = tt then c.r s else c.r k, h := h', w := c.w }, run _ _ _ _ _ _ g1 k1 (runE _ _ _ _ _ _ hnc), rfl, R1, E1, rfl, ?_⟩
            have := VR.sl (c := { c with r := fun k => if k = tt then c.r s else c.r k, h := h', w := c.w }) tt it.size 0 es.length cap ⟨_, hh1, by simp⟩ hnc ⟨e1, m1, by simp only [if_true]; exact hsh, by simpa using hm1⟩
            (obtain ⟨zz, hzz1⟩ : ∃ zz, it.size = zz + 1 := ⟨it.size - 1, by omega⟩; rw [hzz1] at this ⊢; simpa [Res.at, Nat.beq] using this)
          refine ⟨_, hK0, OSound.val fun c e R hs he => ?_⟩
          subst hnew
          have hV := (hxe ▸ he x x' hx : VR c _ (e x))
          obtain ⟨cap, g1, g2, g3, g4⟩ := hV.sls
          rcases (hye ▸ he y y' hy : VR c _ (e y)).lists with ⟨⟨a0, c0, k1⟩, k2⟩ | ⟨a, cap', f, k1, hcap, hsp, hzz, hcell, hown, hv⟩
          · exact ⟨_, run _ _ _ _ _ _ g1 k1 (runE _ _ _ _ _ _ g3), by rw [← g1]; exact hV⟩
          · exact ⟨_, run _ _ _ _ _ _ g1 k1 (runE _ _ _ _ _ _ g3), by rw [← g1]; exact hV⟩
        · have hK2 := hK.2 hnew
          clear hK
          obtain ⟨⟨rfl, rfl, rfl, rfl, rfl, hrow, h63, h47⟩, hK⟩ := hK2
          have hpos : 0 < new.length := List.length_pos_iff.2 hnew
          refine ⟨_, hK, ?_⟩
          intro c e R hs he tt h' ht hh
          obtain ⟨cap, g1, hus, hnc, e1, m1, hsh, hm1⟩ := (hxe ▸ he x x' hx : VR c _ (e x)).sls
          simp only [Nat.zero_mul, Nat.zero_add] at g1 hm1
          have hs0' := hs _ _ _ hs0
          obtain ⟨_, hO, hes, vs, ty, fz, hh0, hfz, hsz, hvr⟩ := R.live s _ es hs0' hz0
          have hm2 : m1 = vs.size := by
            unfold World.shape? at hsh
            simp only [hh0, Option.some.injEq, Prod.mk.injEq] at hsh
            exact hsh.2.symm
          subst hm2
          have hslt : s < c.h.length := (List.getElem?_eq_some_iff.1 hs0').1
          have hl : c.live s := ⟨_, _, hs0'⟩
          have hst : s ≠ tt := fun q => ht (q ▸ Cfg.used_of_live hl)
          obtain ⟨hh1, hh2', hh3⟩ := hh
          have hh2 := hh2' hslt
          rcases (hye ▸ he y y' hy : VR c _ (e y)).lists with ⟨⟨a0, c0, k1⟩, k2⟩ | ⟨a, cap', f, k1, hcap, hsp, hzz, hcell, hown, hv⟩
          · exact absurd k2 hnew
          obtain ⟨news, n1, n2, n3⟩ := VR.news hz0 hsp hzz hcell hv
          have hes' : ∀ q, q ∈ es ++ new → q.length = it.size := fun q hq => by
            rcases List.mem_append.1 hq with hq | hq
            · exact hes q hq
            · exact hzz q hq
          have hone : ∀ v, v ∈ news → v.oneCell' = true := by
            intro v hv'
            obtain ⟨q, hq⟩ := List.mem_iff_getElem?.1 hv'
            have hql : q < new.length * it.size := by rw [← n1]; exact (List.getElem?_eq_some_iff.1 hq).1
            have h1 : q / it.size < new.length := (Nat.div_lt_iff_lt_mul hz0).2 hql
            have hrow' := getD_get (l := new) [] h1
            have hlen := hzz _ (List.mem_of_getElem? hrow')
            have h2 : q % it.size < (new.getD (q / it.size) []).length := by rw [hlen]; exact Nat.mod_lt _ hz0
            obtain ⟨u, hu1, hu2⟩ := n3 _ _ hrow' _ _ (getD_get .any h2)
            rw [Nat.mul_comm, Nat.div_add_mod, hq] at hu1
            cases hu1
            exact hu2.cell (cellsOk_get (rowsOk_get hrow hrow') (getD_get .any h2))
          -- what the new row holds, wherever it lies
          have hcont : ∀ (d : Cfg) (arr : Array Value), (∀ (x : AV) (v : Value), VR c x v → VR d x v) → (∀ q, q < es.length * it.size → arr[q]? = vs[q]?) → (∀ q, q < new.length * it.size → arr[es.length * it.size + q]? = news[q]?) →
              ∀ (i : Nat) (r : List AV), (es ++ new)[i]? = some r → ∀ (j : Nat) (u : AV), r[j]? = some u → VR d u (arr.getD (i * it.size + j) undef) := by
            intro d arr hd ha1 ha2 i r hi' j u hj
            have hjz : j < it.size := by
              have h1 := (List.getElem?_eq_some_iff.1 hj).1
              have := hes' r (List.mem_of_getElem? hi')
              omega
            by_cases hin : i < es.length
            · rw [List.getElem?_append_left hin] at hi'
              have := hvr i r hi' j u hj
              rw [Array.getD_eq_getD_getElem?] at this ⊢
              rw [ha1 _ (row_lt hin hjz)]
              exact hd _ _ this
            · rw [List.getElem?_append_right (by omega)] at hi'
              obtain ⟨v, hv1, hv2⟩ := n3 _ r hi' j u hj
              have hlt := (List.getElem?_eq_some_iff.1 hv1).1
              have hidx : i * it.size + j = es.length * it.size + ((i - es.length) * it.size + j) := by
                have : i = es.length + (i - es.length) := by omega
                rw [this, Nat.add_mul]; simp; omega
              rw [Array.getD_eq_getD_getElem?, hidx, ha2 _ (by rw [← n1]; exact hlt), hv1]
              exact hd _ _ hv2
          by_cases hroom : es.length + new.length ≤ cap
          · have hfit : es.length * it.size + news.length ≤ vs.size := by
              rw [n1, ← Nat.add_mul]
              exact Nat.le_trans (Nat.mul_le_mul_right _ hroom) hm1
            have hst' := run_storeF P (c.r s) (es.length * it.size) ty fz news 0 vs c.w hh0 hfz (by omega) hone
            have hf := run_firstCells_some (P := P) c.w it.size new.length a new.length cap' news n1 n2
            simp only [Nat.add_zero] at hst'
            have hr : (Builtin.append_ #[t, t] o.type #[.slice (some ⟨c.r s, 0, none⟩) es.length cap, .slice (some a) new.length cap']).run P c.w = .ok (.slice (some ⟨c.r s, 0, none⟩) (es.length + new.length) cap)
                (c.w.setRow (c.r s) (vs.toList.take (es.length * it.size) ++ news ++ vs.toList.drop (es.length * it.size + news.length)).toArray) := by
              simp [Builtin.append_, run_und c.w hu, sizeOf, typeInfo, hi, Builtin.lenOf, hroom, hf, add_none, hst']
            have hsize : (vs.toList.take (es.length * it.size) ++ news ++ vs.toList.drop (es.length * it.size + news.length)).toArray.size = vs.size := by
              simp; omega
            have hmin : (vs.toList.take (es.length * it.size)).length = es.length * it.size := by simp; omega
            obtain ⟨R1, E1⟩ := Rel.move R s tt h' _ it.size es (es ++ new) vs _ ty hz0 hs0' ht hh1 hh2 hh3 hfz hh0 (setRow_heap _ _ _ _ _ _ hh0) hsize (fun b hb => setRow_other _ _ _ _ (by omega)) rfl rfl rfl (setRow_size _ _ _) hes'
              (by rw [hsize, List.length_append, Nat.add_mul, ← n1]; exact hfit)
              (hcont c _ (fun _ _ h => h) (fun q hq => by
                rw [List.getElem?_toArray, List.append_assoc, List.getElem?_append_left (by omega), List.getElem?_take, if_pos hq]; simp) (fun q hq => by
                rw [List.getElem?_toArray, List.append_assoc, List.getElem?_append_right (by omega), hmin, List.getElem?_append_left (by omega)]
                congr 1; omega)) c.h.length
            refine ⟨_, _, _, run _ _ _ _ _ _ g1 k1 hr, rfl, R1, E1, rfl, ?_⟩
            have := VR.sl (c := { c with r := fun k => if k = tt then c.r s else c.r k, h := h', w := (c.w.setRow (c.r s) (vs.toList.take (es.length * it.size) ++ news ++ vs.toList.drop (es.length * it.size + news.length)).toArray) }) tt it.size 0 (es ++ new).length cap
              ⟨_, hh1, by simp⟩ (by simpa using hroom) ⟨ty, vs.size, by
                simp only [if_true]
                unfold World.shape?
                rw [setRow_heap _ _ _ _ _ _ hh0]
                simp only [hsize], by simpa using hm1⟩
            (obtain ⟨zz, hzz1⟩ : ∃ zz, it.size = zz + 1 := ⟨it.size - 1, by omega⟩; rw [hzz1] at this ⊢; simpa [Res.at, Nat.beq] using this)
          · have holds : ∀ j v, (vs.toList.take (es.length * it.size))[j]? = some v → c.w.cell? ((⟨c.r s, 0, none⟩ : Addr).add j) = some v := by
              intro j v hj
              rw [add_none, Nat.zero_add]
              rw [List.getElem?_take] at hj
              split at hj
              · unfold World.cell?
                rw [hh0]
                simpa using hj
              · cases hj
            have hmin : (vs.toList.take (es.length * it.size)).length = es.length * it.size := by simp; omega
            have hr := run_append_grow (P := P) c.w t o.type e0 it zv hu hi hz ⟨c.r s, 0, none⟩ es.length cap (vs.toList.take (es.length * it.size)) hmin holds a new.length cap' news n1 n2 (by omega) (by omega) (growslice_fits (by omega) h47)
            have hge := grownCap_ge c.w (es.length + new.length) cap e0
            obtain ⟨R0, E0⟩ := Rel.leave R (c.h.set s .dead) c.h.length (fun k x hk => by
                by_cases hks : k = s
                · subst hks; rw [List.getElem?_set_self hslt] at hk; cases hk; exact .inr rfl
                · rw [List.getElem?_set_ne (Ne.symm hks)] at hk; exact .inl hk)
              (fun k hk x hx hf => by
                by_cases hks : k = s
                · subst hks; exact ⟨.dead, List.getElem?_set_self hslt, by simp⟩
                · exact ⟨x, by rw [List.getElem?_set_ne (Ne.symm hks)]; exact hx, hf⟩) (Nat.le_refl _)
              (fun k z' e' hk q hq u hu' => by
                by_cases hks : k = s
                · subst hks; rw [List.getElem?_set_self hslt] at hk; cases hk
                · rw [List.getElem?_set_ne (Ne.symm hks)] at hk
                  obtain ⟨_, _, _, _, _, hvr'⟩ := R.livx k z' e' hk
                  obtain ⟨i, hi'⟩ := List.mem_iff_getElem?.1 hq
                  obtain ⟨j, hj⟩ := List.mem_iff_getElem?.1 hu'
                  exact (hvr' i q hi' j u hj).upto)
            obtain ⟨R1, E1⟩ := R0.sameHeap (w := c.w.drew) rfl rfl rfl rfl c.h.length
            have ht1 : ¬ Cfg.used { c with h := c.h.set s .dead, w := c.w.drew } tt := by
              rintro ⟨x, hx, hf⟩
              have hx' : (c.h.set s .dead)[tt]? = some x := hx
              rw [List.getElem?_set_ne hst] at hx'
              exact ht ⟨x, hx', hf⟩
            have hsize : ((vs.toList.take (es.length * it.size)).toArray ++ news.toArray ++ Builtin.zeroCells zv.cells (grownCap c.w (es.length + new.length) cap e0 - (es.length + new.length))).size = grownCap c.w (es.length + new.length) cap e0 * it.size := by
              simp only [Array.size_append, List.size_toArray, size_zeroCells, hzs, n1, hmin, ← Nat.add_mul]
              congr 1; omega
            have E01 := E0.trans E1
            obtain ⟨R2, E2⟩ := Rel.fresh R1 tt h' it.size (es ++ new) _ e0 c.h.length ht1 hh1 (fun k x hk hf => by
                show h'[k]? = some x ↔ (c.h.set s .dead)[k]? = some x
                by_cases hks : k = s
                · subst hks; rw [hh2, List.getElem?_set_self hslt]
                · rw [List.getElem?_set_ne (Ne.symm hks)]; exact hh3 k x hk hks hf) hz0 hes'
              (by rw [hsize, List.length_append]; exact Nat.mul_le_mul_right _ hge)
              (hcont _ ((vs.toList.take (es.length * it.size)).toArray ++ news.toArray ++ Builtin.zeroCells zv.cells (grownCap c.w (es.length + new.length) cap e0 - (es.length + new.length))) (fun x v hv' => E01.vr' hv') (fun q hq => by
                rw [Array.append_assoc, Array.getElem?_append_left (by simpa using (by omega : q < (vs.toList.take (es.length * it.size)).length)), List.getElem?_toArray, List.getElem?_take, if_pos hq]; simp) (fun q hq => by
                rw [Array.append_assoc, Array.getElem?_append_right (by simp; omega)]
                simp only [List.size_toArray, hmin]
                rw [Array.getElem?_append_left (by simp; omega), List.getElem?_toArray]
                congr 1; omega))
            refine ⟨_, _, _, run _ _ _ _ _ _ g1 k1 hr, rfl, R2, E01.trans E2, rfl, ?_⟩
            have := VR.sl (c := { c with w := c.w.drew.alloc (.cells ((vs.toList.take (es.length * it.size)).toArray ++ news.toArray ++ Builtin.zeroCells zv.cells (grownCap c.w (es.length + new.length) cap e0 - (es.length + new.length))) e0), r := fun s => if s = tt then c.w.heap.size else c.r s, h := h' })
              tt it.size 0 (es ++ new).length (grownCap c.w (es.length + new.length) cap e0)
              ⟨_, hh1, by simp⟩ (by simpa using hge) ⟨e0, _, by
                have := heap_alloc_new c.w.drew (.cells ((vs.toList.take (es.length * it.size)).toArray ++ news.toArray ++ Builtin.zeroCells zv.cells (grownCap c.w (es.length + new.length) cap e0 - (es.length + new.length))) e0)
                simp only [if_true]
                unfold World.shape?
                rw [show c.w.drew.heap.size = c.w.heap.size from rfl] at this
                rw [this], by rw [hsize]; simp⟩
            (obtain ⟨zz, hzz1⟩ : ∃ zz, it.size = zz + 1 := ⟨it.size - 1, by omega⟩; rw [hzz1] at this ⊢; simpa [Res.at, Nat.beq] using this)
      · exact hK.elim
    · exact hK.elim
  · exact hK.elim
end Go.Eng
