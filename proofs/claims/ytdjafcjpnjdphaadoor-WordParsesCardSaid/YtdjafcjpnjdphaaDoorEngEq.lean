/- The engine: structs and arrays that are the same. -/
import Derived.Test.YtdjafcjpnjdphaaDoorEng4
import Derived.Laws.StructEq
import Derived.ChangeKeysEq
set_option linter.unusedVariables false
set_option linter.unusedSimpArgs false
namespace Go.Eng
open Go Go.RowKit
variable {P : Program}

theorem eqOffs_app {xs ys : List AV} : ∀ {a b : List (Nat × Nat)} {r : Bool}, eqOffs xs ys (a ++ b) = some r → ∃ p q, eqOffs xs ys a = some p ∧ eqOffs xs ys b = some q ∧ r = (p && q)
  | [], b, r, h => ⟨true, r, rfl, h, by simp⟩
  | (o, qq) :: a, b, r, h => by
    simp only [List.cons_append, eqOffs] at h
    split at h
    · rename_i x y hx hy
      simp only [Option.some.injEq] at h
      obtain ⟨p, q, h1, h2, h3⟩ := eqOffs_app hy
      exact ⟨x && p, q, by simp only [eqOffs, hx, h1], h2, by rw [← h, h3, Bool.and_assoc]⟩
    · cases h
theorem eqOffs_part {xs ys : List AV} {base k : Nat} : ∀ {os : List (Nat × Nat)}, (∀ o, o ∈ os → o.1 < k) → eqOffs xs ys (shiftO base os) = eqOffs ((xs.drop base).take k) ((ys.drop base).take k) os
  | [], _ => rfl
  | (o, qq) :: os, h => by
    have ho : o < k := h (o, qq) (by simp)
    have ih := eqOffs_part (xs := xs) (ys := ys) (base := base) (k := k) (os := os) (fun o' h' => h o' (by simp [h']))
    have e : ∀ l : List AV, ((l.drop base).take k).getD o .any = l.getD (base + o) .any := fun l => by
      rw [List.getD_eq_getElem?_getD, List.getElem?_take, if_pos ho, List.getElem?_drop, List.getD_eq_getElem?_getD]
    unfold shiftO at ih ⊢
    simp only [List.map_cons, eqOffs, ih, e]
/-- Two of one type: the model's answer is that of their cells. -/
def EqOk (P : Program) (m : Nat) (t : TypeId) : Prop :=
  ∀ (d : Nat) (os : List (Nat × Nat)) (xs ys : List AV) (r : Bool) (c : Cfg) (g : Bool) (k : Nat) (a b : Value), m ≤ d → leaves P m t = some os → eqOffs xs ys os = some r → aggOf P t = some g → szOf P t = some k → (g = true ∨ k = 1) → xs.length = k → ys.length = k →
    VR c (partA g k xs 0) a → VR c (partA g k ys 0) b → (Op.equalIn d t a b).run P c.w = .ok r c.w
theorem leaf_ok {m : Nat} {t : TypeId} {os : List (Nat × Nat)} (hu : P.underlying t = some .bool ∨ (∃ k, P.underlying t = some (.int k)) ∨ P.underlying t = some .string) (hos : leaves P (m + 1) t = some os) :
    aggOf P t = some false ∧ ((os = [(0, 0)] ∧ P.underlying t = some .bool) ∨ (os = [(0, 1)] ∧ ∃ k, P.underlying t = some (.int k)) ∨ (os = [(0, 2)] ∧ P.underlying t = some .string)) := by
  unfold leaves at hos
  unfold aggOf
  rcases hu with hu | ⟨k, hu⟩ | hu <;> rw [hu] at hos ⊢ <;> simp only [Option.some.injEq] at hos
  · exact ⟨rfl, .inl ⟨hos.symm, rfl⟩⟩
  · exact ⟨rfl, .inr (.inl ⟨hos.symm, k, rfl⟩)⟩
  · exact ⟨rfl, .inr (.inr ⟨hos.symm, rfl⟩)⟩
theorem eqFields_ok {m d : Nat} {c : Cfg} {xs ys : List AV} {va vb : Array Value} (hva : VRs c xs va) (hvb : VRs c ys vb) (hd : m ≤ d) (IH : ∀ t, EqOk P m t) (hlen : xs.length = ys.length) : ∀ {fs : List Field} {os : List (Nat × Nat)} {r : Bool},
    leavesF (fun u => match leaves P m u, szOf P u with | some os, some k => if os.all (fun o => decide (o.1 < k)) = true ∧ (aggOf P u = some true ∨ k = 1) then some os else none | _, _ => none) fs = some os →
    (∀ f, f ∈ fs → ∀ k, szOf P f.type = some k → f.offset + k ≤ xs.length) → eqOffs xs ys os = some r → (Op.eqFields d va vb fs).run P c.w = .ok r c.w
  | [], os, r, h, _, he => by
    simp only [leavesF, Option.some.injEq] at h
    subst h
    simp only [eqOffs, Option.some.injEq] at he
    subst he
    simp [Op.eqFields]
  | f :: fs, os, r, h, hb, he => by
    simp only [leavesF] at h
    split at h
    · rename_i la lb ha hb'
      split at h
      · rename_i hname
        simp only [Option.some.injEq] at h
        subst h
        obtain ⟨p, q, h1, h2, h3⟩ := eqOffs_app he
        split at ha
        · rename_i os' k hos hk
          split at ha
          · rename_i hcond
            simp only [Option.some.injEq] at ha
            subst ha
            obtain ⟨hlt, hgk⟩ := hcond
            have hlt' : ∀ o, o ∈ os' → o.1 < k := fun o ho => by simpa using List.all_eq_true.1 hlt o ho
            have hbd := hb f (by simp) k hk
            rw [eqOffs_part hlt'] at h1
            have hg : ∃ g, aggOf P f.type = some g ∧ (g = true ∨ k = 1) := by
              cases hag : aggOf P f.type with
              | none =>
                exfalso
                unfold aggOf at hag
                split at hag <;> simp at hag
                rename_i hun
                cases m with
                | zero => simp [leaves] at hos
                | succ m => unfold leaves at hos; rw [hun] at hos; simp at hos
              | some g => exact ⟨g, rfl, by rcases hgk with h | h; · rw [hag] at h; simp at h; exact .inl h
                                            · exact .inr h⟩
            obtain ⟨g, hg, hgk'⟩ := hg
            obtain ⟨ca, p1, v1⟩ := run_part (P := P) c hg hk hgk' hva f.offset hbd
            obtain ⟨cb, p2, v2⟩ := run_part (P := P) c hg hk hgk' hvb f.offset (by omega)
            have e : ∀ l : List AV, partA g k ((l.drop f.offset).take k) 0 = partA g k l f.offset := fun l => by
              cases g with
              | true => simp [partA, List.take_take]
              | false =>
                have : k = 1 := by simpa using hgk'
                subst this
                simp [partA, List.getD_eq_getElem?_getD, List.getElem?_take, List.getElem?_drop]
            have h4 := IH f.type d os' _ _ p c g k ca cb hd hos h1 hg hk hgk' (by simp; omega) (by simp; omega) (by rw [e]; exact v1) (by rw [e]; exact v2)
            have h5 := eqFields_ok (fs := fs) hva hvb hd IH hlen hb' (fun f' hf' => hb f' (by simp [hf'])) h2
            subst h3
            simp only [Op.eqFields, hname, ne_eq, not_false_eq_true, if_true, Sem.run_bind, p1, p2, h4, Result.andThen_ok]
            cases p <;> simp [h5]
          · cases ha
        · cases ha
      · cases h
    · cases h
theorem eqItems_ok {m d : Nat} {c : Cfg} {e : TypeId} {xs ys : List AV} {va vb : Array Value} (hva : VRs c xs va) (hvb : VRs c ys vb) (hd : m ≤ d) (IH : EqOk P m e) (hlen : xs.length = ys.length) {os' : List (Nat × Nat)} {k : Nat} {g : Bool} (hos : leaves P m e = some os') (hk : szOf P e = some k)
    (hg : aggOf P e = some g) (hgk : g = true ∨ k = 1) (hlt : ∀ o, o ∈ os' → o.1 < k) : ∀ {is : List Nat} {r : Bool}, (∀ i, i ∈ is → i * k + k ≤ xs.length) → eqOffs xs ys (is.flatMap fun i => shiftO (i * k) os') = some r → (Op.eqItems d e (P.cellsOf e) va vb is).run P c.w = .ok r c.w
  | [], r, _, he => by
    simp only [List.flatMap_nil, eqOffs, Option.some.injEq] at he
    subst he
    simp [Op.eqItems]
  | i :: is, r, hb, he => by
    rw [List.flatMap_cons] at he
    obtain ⟨p, q, h1, h2, h3⟩ := eqOffs_app he
    rw [eqOffs_part hlt] at h1
    have hbd := hb i (by simp)
    have hcell : P.cellsOf e = k := by unfold Program.cellsOf; unfold szOf at hk; rw [hk]; rfl
    obtain ⟨ca, p1, v1⟩ := run_part (P := P) c hg hk hgk hva (i * k) hbd
    obtain ⟨cb, p2, v2⟩ := run_part (P := P) c hg hk hgk hvb (i * k) (by omega)
    have e1 : ∀ l : List AV, partA g k ((l.drop (i * k)).take k) 0 = partA g k l (i * k) := fun l => by
      cases g with
      | true => simp [partA, List.take_take]
      | false =>
        have : k = 1 := by simpa using hgk
        subst this
        simp [partA, List.getD_eq_getElem?_getD, List.getElem?_take, List.getElem?_drop]
    have h4 := IH d os' _ _ p c g k ca cb hd hos h1 hg hk hgk (by simp; omega) (by simp; omega) (by rw [e1]; exact v1) (by rw [e1]; exact v2)
    have h5 := eqItems_ok (is := is) hva hvb hd IH hlen hos hk hg hgk hlt (fun j hj => hb j (by simp [hj])) h2
    subst h3
    simp only [Op.eqItems, hcell, Sem.run_bind, p1, p2, h4, Result.andThen_ok] at h5 ⊢
    cases p <;> simp [h5]
theorem eqOk (P : Program) : ∀ (m : Nat) (t : TypeId), EqOk P m t
  | 0, t => fun d os xs ys r c g k a b hd hl => by simp [leaves] at hl
  | m + 1, t => by
    intro d os xs ys r c g k a b hd hl he hg hk hgk hx hy va vb
    obtain ⟨d, rfl⟩ : ∃ d', d = d' + 1 := ⟨d - 1, by omega⟩
    have leaf : (P.underlying t = some .bool ∨ (∃ k, P.underlying t = some (.int k)) ∨ P.underlying t = some .string) → (Op.equalIn (d + 1) t a b).run P c.w = .ok r c.w := by
      intro hu
      obtain ⟨hga, hk3⟩ := leaf_ok hu hl
      rw [hga] at hg
      cases hg
      simp only [partA, Bool.false_eq_true, if_false] at va vb
      have key : ∀ q, eqOffs xs ys [(0, q)] = some r → eqA q (xs.getD 0 .any) (ys.getD 0 .any) = some r := fun q h => by
        simp only [eqOffs] at h
        split at h
        · rename_i x y hx hy
          simp only [Option.some.injEq] at hy
          subst hy
          rw [hx]
          simpa using h
        · cases h
      rcases hk3 with ⟨rfl, hu⟩ | ⟨rfl, kk, hu⟩ | ⟨rfl, hu⟩
      · have he := key _ he
        cases hx0 : xs.getD 0 .any <;> cases hy0 : ys.getD 0 .any <;> rw [hx0, hy0] at he <;> simp only [eqA, Option.some.injEq, reduceCtorEq] at he
        rw [hx0] at va
        rw [hy0] at vb
        have h1 := va.bool'
        have h2 := vb.bool'
        subst h1; subst h2; subst he
        exact run_equalIn_bool' c.w d t _ _ hu
      · have he := key _ he
        cases hx0 : xs.getD 0 .any <;> cases hy0 : ys.getD 0 .any <;> rw [hx0, hy0] at he <;> simp only [eqA, Option.some.injEq, reduceCtorEq] at he
        rw [hx0] at va
        rw [hy0] at vb
        have h1 := va.int'
        have h2 := vb.int'
        split at he
        · rename_i hkk
          subst hkk
          simp only [Option.some.injEq] at he
          subst h1; subst h2; subst he
          exact run_equalIn_int c.w d t _ _ _ _ hu
        · cases he
      · have he := key _ he
        cases hx0 : xs.getD 0 .any <;> cases hy0 : ys.getD 0 .any <;> rw [hx0, hy0] at he <;> simp only [eqA, Option.some.injEq, reduceCtorEq] at he
        rw [hx0] at va
        rw [hy0] at vb
        have h1 := va.str'
        have h2 := vb.str'
        subst h1; subst h2; subst he
        exact run_equalIn_string c.w d t _ _ hu
    unfold leaves at hl
    split at hl
    · rename_i hu; exact leaf (.inl hu)
    · rename_i k hu; exact leaf (.inr (.inl ⟨k, hu⟩))
    · rename_i hu; exact leaf (.inr (.inr hu))
    · rename_i fs hu
      split at hl
      · rename_i hcond
        have hg' : g = true := by unfold aggOf at hg; rw [hu] at hg; simpa using hg.symm
        subst hg'
        simp only [partA, if_true, List.drop_zero] at va vb
        rw [List.take_of_length_le (by omega)] at va vb
        obtain ⟨ua, rfl, hua⟩ := va.agg'
        obtain ⟨ub, rfl, hub⟩ := vb.agg'
        have hfs : P.fieldsOf t = fs := by simp [Program.fieldsOf, hu]
        rw [run_equalIn_struct c.w d t ua ub (by rw [hfs]; exact hu) hcond.1, hfs]
        refine eqFields_ok hua hub (by omega) (eqOk P m) (by omega) hl (fun f hf k' hk' => ?_) he
        have := List.all_eq_true.1 hcond.2 f hf
        simp only [hk', hk, decide_eq_true_eq] at this
        omega
      · cases hl
    · rename_i n e hu
      split at hl
      · rename_i os' k' hos hk'
        split at hl
        · rename_i hcond
          simp only [Option.some.injEq] at hl
          subst hl
          have hg' : g = true := by unfold aggOf at hg; rw [hu] at hg; simpa using hg.symm
          subst hg'
          simp only [partA, if_true, List.drop_zero] at va vb
          rw [List.take_of_length_le (by omega)] at va vb
          obtain ⟨ua, rfl, hua⟩ := va.agg'
          obtain ⟨ub, rfl, hub⟩ := vb.agg'
          obtain ⟨i, hi, _⟩ := szOf_info hk'
          rw [run_equalIn_array c.w d ua ub hu hi]
          obtain ⟨hc1, hc2, hc3⟩ := hcond
          simp only [arrFits, hk, decide_eq_true_eq] at hc3
          have hge : ∃ g, aggOf P e = some g ∧ (g = true ∨ k' = 1) := by
            cases hag : aggOf P e with
            | none =>
              exfalso
              unfold aggOf at hag
              split at hag <;> simp at hag
              rename_i hun
              cases m with
              | zero => simp [leaves] at hos
              | succ m => unfold leaves at hos; rw [hun] at hos; simp at hos
            | some g => exact ⟨g, rfl, by rcases hc2 with h | h; · rw [hag] at h; simp at h; exact .inl h
                                          · exact .inr h⟩
          obtain ⟨g, hg2, hgk2⟩ := hge
          refine eqItems_ok hua hub (by omega) (eqOk P m e) (by omega) hos hk' hg2 hgk2 (fun o ho => by simpa using List.all_eq_true.1 hc1 o ho) (fun i hi => ?_) he
          have := Nat.mul_le_mul_right k' (show i + 1 ≤ n from List.mem_range.1 hi)
          rw [Nat.succ_mul] at this
          omega
        · cases hl
      · cases hl
    · cases hl
theorem eqGuard_plain (P : Program) : ∀ (m d : Nat) (t : TypeId) (os : List (Nat × Nat)), m ≤ d → leaves P m t = some os → P.eqGuardType d t = false
  | 0, d, t, os, _, h => by simp [leaves] at h
  | m + 1, d, t, os, hd, h => by
    obtain ⟨d, rfl⟩ : ∃ d', d = d' + 1 := ⟨d - 1, by omega⟩
    unfold leaves at h
    unfold Program.eqGuardType
    split at h
    · rename_i hu; simp [hu]
    · rename_i k hu; simp [hu]
    · rename_i hu; simp [hu]
    · rename_i fs hu
      split at h
      · simp only [hu]
        have : ∀ (fs : List Field) (os : List (Nat × Nat)), leavesF (fun u => match leaves P m u, szOf P u with | some os, some k => if os.all (fun o => decide (o.1 < k)) = true ∧ (aggOf P u = some true ∨ k = 1) then some os else none | _, _ => none) fs = some os →
            ∀ f, f ∈ fs → P.eqGuardType d f.type = false := by
          intro fs
          induction fs with
          | nil => intro os _ f hf; cases hf
          | cons g fs ih =>
            intro os h f hf
            simp only [leavesF] at h
            split at h
            · rename_i la lb ha hb
              rcases List.mem_cons.1 hf with rfl | hf
              · split at ha
                · rename_i os' k' hos _
                  exact eqGuard_plain P m d _ os' (by omega) hos
                · cases ha
              · exact ih lb hb f hf
            · cases h
        rw [← Array.any_toList, List.any_eq_false]
        intro f hf
        simp [this _ _ h f hf]
      · cases h
    · rename_i n e hu
      simp only [hu]
      split at h
      · rename_i os' k' hos _
        exact eqGuard_plain P m d _ os' (by omega) hos
      · cases h
    · cases h
theorem snd_eqs {o : Oper} {ev : AOpnd → AV} {h : AHeap} {op : BinOp} {t u : TypeId} {x y : Operand} {x' y' : AOpnd} {n : Nat} {os : List (Nat × Nat)} {K : Res → Prop} (neq : Bool) (hop : op = if neq then .neq else .eql) (ho : o.op = .binOp op t x y u)
    (hag : aggOf P t = some true) (hn : szOf P t = some n) (hl : leaves P 8 t = some os) (hx : cOpnd x = some x') (hy : cOpnd y = some y') (hK : vcOp (.eqs neq n os x' y') ev h K) : ∃ r, K r ∧ OSound P o ev h r := by
  simp only [vcOp] at hK
  split at hK
  · rename_i a b hxa hyb
    obtain ⟨⟨h1, h2⟩, hK⟩ := hK
    split at hK
    · rename_i r hr
      refine ⟨_, hK, OSound.val fun c e R hs he => ⟨_, ?_, .bool _⟩⟩
      have va := (hxa ▸ he x x' hx : VR c _ (e x))
      have vb := (hyb ▸ he y y' hy : VR c _ (e y))
      obtain ⟨ua, hua, _⟩ := va.agg'
      obtain ⟨ub, hub, _⟩ := vb.agg'
      have e1 : partA true n a 0 = .agg a := by simp [partA, ← h1]
      have e2 : partA true n b 0 = .agg b := by simp [partA, ← h2]
      have hq := eqOk P 8 t 10000 os a b r c true n (e x) (e y) (by omega) hl hr hag hn (.inl rfl) h1 h2 (by rw [e1]; exact va) (by rw [e2]; exact vb)
      have hgd : (eqGuard op t x y (e x) (e y)).run P c.w = .ok () c.w := by
        rw [hua, hub]
        refine run_eqGuard_agg c.w op t x y ua ub (eqGuard_plain P 8 _ t os ?_ hl)
        unfold Program.depth Made.depth; omega
      rw [hua, hub] at hq hgd
      cases neq <;> simp only [Bool.false_eq_true, if_false, if_true] at hop <;> subst hop
      · have := run_eql_struct (P := P) c.w t ua ub
        rw [hq] at this
        simp only [execOp, ho, Sem.run_bind, hua, hub, hgd, Result.andThen_ok, this, Sem.run_pure, Bool.false_eq_true, if_false]
      · have := run_neq_struct (P := P) c.w t ua ub
        rw [hq] at this
        simp only [execOp, ho, Sem.run_bind, hua, hub, hgd, Result.andThen_ok, this, Sem.run_pure, if_true]
    · exact hK.elim
  · exact hK.elim
end Go.Eng
