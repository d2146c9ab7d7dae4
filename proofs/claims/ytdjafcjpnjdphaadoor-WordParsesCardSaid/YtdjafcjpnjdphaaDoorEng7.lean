/- The engine, part 7: indexes, lengths, the greatest and the least. -/
import Derived.Test.YtdjafcjpnjdphaaDoorEng6
set_option linter.unusedVariables false
set_option linter.unusedSimpArgs false
namespace Go.Eng
open Go Go.RowKit
variable {P : Program} {o : Oper} {ev : AOpnd → AV} {h : AHeap}

theorem VR.lists {c : Cfg} {z : Nat} {es : List (List AV)} {v : Value} (h : VR c (.list z es) v) : ((∃ (a : Option Addr) (cap : Nat), v = .slice a 0 cap) ∧ es = []) ∨
    ∃ (a : Addr) (cap : Nat) (f : Nat → Nat → Value), v = .slice (some a) es.length cap ∧ es.length ≤ cap ∧ a.spot = none ∧ (∀ e, e ∈ es → e.length = z) ∧
      (∀ i j, i < es.length → j < z → c.w.cell? ⟨a.block, a.off + (i * z + j), none⟩ = some (f i j)) ∧ (0 < es.length → 0 < z → ¬ c.own a.block) ∧
      ∀ (i : Nat) (e : List AV), es[i]? = some e → ∀ (j : Nat) (x : AV), e[j]? = some x → VR c x (f i j) := by
  cases h with
  | listNil => exact .inl ⟨⟨_, _, rfl⟩, rfl⟩
  | list _ _ a n cap f hn hc ha hz hcell hown hv => subst hn; exact .inr ⟨a, cap, f, rfl, hc, ha, hz, hcell, hown, hv⟩
theorem VR.sls {c : Cfg} {s z i n : Nat} {v : Value} (h : VR c (.sl s z i n) v) : ∃ cap, v = .slice (some ⟨c.r s, i * z, none⟩) n cap ∧ c.used s ∧ n ≤ cap ∧ ∃ e m, c.w.shape? (c.r s) = some (e, m) ∧ (i + cap) * z ≤ m := by
  cases h with | sl _ _ _ _ cap hs hc hsz => exact ⟨cap, rfl, hs, hc, hsz⟩
theorem VR.drop {c : Cfg} {z : Nat} {es : List (List AV)} {a : Addr} {f : Nat → Nat → Value} {i : Nat} (ha : a.spot = none) (hz : ∀ e, e ∈ es → e.length = z) (hi : i < es.length)
    (hcell : ∀ i j, i < es.length → j < z → c.w.cell? ⟨a.block, a.off + (i * z + j), none⟩ = some (f i j)) (hown : 0 < es.length → 0 < z → ¬ c.own a.block)
    (hv : ∀ (i : Nat) (e : List AV), es[i]? = some e → ∀ (j : Nat) (x : AV), e[j]? = some x → VR c x (f i j)) : VR c (.cref (es.getD i [])) (.pointer (some (a.add (i * z)))) := by
  have hrow : (es.getD i []).length = z := hz _ (List.mem_of_getElem? (getD_get [] hi))
  rw [add_spot a _ ha]
  refine .cref _ _ (fun j => f i j) rfl (fun j hj => ?_) (fun hl => hown (by omega) (by omega)) fun j x hx => hv i _ (getD_get [] hi) j x hx
  have := hcell i j hi (by omega)
  simpa [Nat.add_assoc] using this

theorem snd_iadA {t e0 : TypeId} {n z : Nat} {x i : Operand} {y q : AOpnd} {K : Res → Prop} (ho : o.op = .indexAddr t x i) (hu : P.underlying t = some (.array n e0)) (hk : szOf P e0 = some z) (hx : cOpnd x = some y) (hi : cOpnd i = some q)
    (hK : vcOp (.iadA n z y q) ev h K) : ∃ r, K r ∧ OSound P o ev h r := by
  have run : ∀ (w : World) (a : Addr) (k : IntKind) (q : Int), 0 ≤ q → q < n → (Instr.indexAt t (.pointer (some a)) (.int k q)).run P w = .ok (.pointer (some (a.add (q.toNat * z)))) w := by
    intro w a k q h0 h1
    simp [Instr.indexAt, asIntOf, run_und w hu, Instr.sureAddr, run_size w hk, h0, h1]
  simp only [vcOp] at hK
  split at hK
  · rename_i s z' j off k b hy hq
    obtain ⟨⟨h0, h1⟩, hK⟩ := hK
    refine ⟨_, hK, OSound.val fun c e R hs he => ?_⟩
    obtain ⟨g1, g2⟩ := (hy ▸ he x y hx : VR c _ (e x)).ref'
    have g3 := (hq ▸ he i q hi : VR c _ (e i)).int'
    exact ⟨.pointer (some ⟨c.r s, j * z' + (off + b.toNat * z), none⟩), by simp only [execOp, ho, g2, g3, Sem.run_bind, run _ _ _ _ h0 h1, Result.andThen_ok, Sem.run_pure, add_none, Nat.add_assoc], .ref _ _ _ _ g1⟩
  · rename_i cs k b hy hq
    obtain ⟨⟨h0, h1⟩, hK⟩ := hK
    refine ⟨_, hK, OSound.val fun c e R hs he => ?_⟩
    obtain ⟨a, g2, hd⟩ := (hy ▸ he x y hx : VR c _ (e x)).cref'
    have g3 := (hq ▸ he i q hi : VR c _ (e i)).int'
    exact ⟨.pointer (some (a.add (b.toNat * z))), by simp only [execOp, ho, g2, g3, Sem.run_bind, run _ _ _ _ h0 h1, Result.andThen_ok, Sem.run_pure], hd _⟩
  · exact hK.elim
theorem snd_iadS {t e0 : TypeId} {z : Nat} {x i : Operand} {y q : AOpnd} {K : Res → Prop} (ho : o.op = .indexAddr t x i) (hu : P.underlying t = some (.slice e0)) (hk : szOf P e0 = some z) (hx : cOpnd x = some y) (hi : cOpnd i = some q)
    (hK : vcOp (.iadS z y q) ev h K) : ∃ r, K r ∧ OSound P o ev h r := by
  have run : ∀ (w : World) (a : Addr) (k : IntKind) (q : Int) (n cap : Nat), 0 ≤ q → q < n → (Instr.indexAt t (.slice (some a) n cap) (.int k q)).run P w = .ok (.pointer (some (a.add (q.toNat * z)))) w := by
    intro w a k q n cap h0 h1
    simp [Instr.indexAt, asIntOf, run_und w hu, run_size w hk, h0, h1]
  simp only [vcOp] at hK
  split at hK
  · rename_i z' es k b hy hq
    obtain ⟨⟨rfl, h0, h1⟩, hK⟩ := hK
    refine ⟨_, hK, OSound.val fun c e R hs he => ?_⟩
    have g3 := (hq ▸ he i q hi : VR c _ (e i)).int'
    rcases (hy ▸ he x y hx : VR c _ (e x)).lists with ⟨⟨a0, c0, g1⟩, g2⟩ | ⟨a, cap, f, g1, hcap, hsp, hz, hcell, hown, hv⟩
    · subst g2; simp at h1; omega
    · exact ⟨.pointer (some (a.add (b.toNat * z'))), by simp only [execOp, ho, g1, g3, Sem.run_bind, run _ _ _ _ _ _ h0 h1, Result.andThen_ok, Sem.run_pure], VR.drop hsp hz (by omega) hcell hown hv⟩
  · rename_i s z' j n k b hy hq
    obtain ⟨⟨rfl, h0, h1⟩, hK⟩ := hK
    refine ⟨_, hK, OSound.val fun c e R hs he => ?_⟩
    have g3 := (hq ▸ he i q hi : VR c _ (e i)).int'
    obtain ⟨cap, g1, hus, hcap, _⟩ := (hy ▸ he x y hx : VR c _ (e x)).sls
    have h1' : b < (n : Int) := h1
    refine ⟨.pointer (some ⟨c.r s, (j + b.toNat) * z' + 0, none⟩), ?_, .ref _ _ _ _ hus⟩
    simp only [execOp, ho, g1, g3, Sem.run_bind, run _ _ _ _ _ _ h0 h1', Result.andThen_ok, Sem.run_pure, add_none, Nat.add_mul, Nat.add_zero]
  · exact hK.elim
theorem snd_idx {t e0 : TypeId} {n k : Nat} {g : Bool} {x i : Operand} {y q : AOpnd} {K : Res → Prop} (ho : o.op = .index t x i) (hu : P.underlying t = some (.array n e0)) (hk : szOf P e0 = some k) (hg : aggOf P e0 = some g) (hgk : g = true ∨ k = 1) (hx : cOpnd x = some y)
    (hi : cOpnd i = some q) (hK : vcOp (.idx g n k y q) ev h K) : ∃ r, K r ∧ OSound P o ev h r := by
  simp only [vcOp] at hK
  split at hK
  · rename_i cs k' b hy hq
    obtain ⟨⟨h0, h1, h2⟩, hK⟩ := hK
    refine ⟨_, hK, OSound.val fun c e R hs he => ?_⟩
    have g3 := (hq ▸ he i q hi : VR c _ (e i)).int'
    obtain ⟨vs, hvs, hV⟩ := (hy ▸ he x y hx : VR c _ (e x)).agg'
    have hb : b.toNat < n := by omega
    have := Nat.mul_le_mul_right k (show b.toNat + 1 ≤ n from hb)
    rw [Nat.succ_mul] at this
    obtain ⟨cv, h3, h4⟩ := run_part (P := P) c hg hk hgk hV (b.toNat * k) (by omega)
    exact ⟨cv, by simp [execOp, ho, hvs, g3, Instr.index, asIntOf, run_und c.w hu, run_size c.w hk, h0, h1, h3], h4⟩
  · exact hK.elim
theorem snd_idxStr {t : TypeId} {x i : Operand} {y q : AOpnd} {K : Res → Prop} (ho : o.op = .index t x i) (hu : P.underlying t = some .string) (hx : cOpnd x = some y) (hi : cOpnd i = some q) (hK : vcOp (.idxStr y q) ev h K) :
    ∃ r, K r ∧ OSound P o ev h r := by
  simp only [vcOp] at hK
  split at hK
  · rename_i s k' b hy hq
    obtain ⟨⟨h0, h1⟩, hK⟩ := hK
    refine ⟨_, hK, OSound.val fun c e R hs he => ⟨_, ?_, .int _ _⟩⟩
    have g3 := (hq ▸ he i q hi : VR c _ (e i)).int'
    have g1 := (hy ▸ he x y hx : VR c _ (e x)).str'
    have hlt : b.toNat < s.size := by omega
    have hlt' : b.toNat < s.data.size := hlt
    have e1 : s[b.toNat]? = some (s.data.toList.getD b.toNat 0) := by
      rw [getElem?_pos s b.toNat hlt]
      have e2 : s.data.toList.getD b.toNat 0 = s.data[b.toNat] := by
        have e3 : s.data.toList[b.toNat]? = some s.data[b.toNat] := by rw [Array.getElem?_toList]; exact Array.getElem?_eq_getElem hlt'
        rw [List.getD_eq_getElem?_getD, e3]; rfl
      rw [e2]
      rfl
    simp [execOp, ho, g1, g3, Instr.index, asIntOf, run_und c.w hu, h0, e1]
  · exact hK.elim
theorem snd_lenx {t e0 : TypeId} {cl : Call} {x : Operand} {y : AOpnd} {K : Res → Prop} (ho : o.op = .call cl) (hc1 : cl.callee = .builtin .len) (hc2 : cl.args = #[x]) (hc3 : cl.argTypes = #[t]) (hu : P.underlying t = some (.slice e0)) (hx : cOpnd x = some y)
    (hK : vcOp (.lenx y) ev h K) : ∃ r, K r ∧ OSound P o ev h r := by
  have run : ∀ (w : World) (a : Option Addr) (n cap : Nat) (e : Operand → Value), e x = .slice a n cap → (execOp e o).run P w = .ok (.value (.int .i64 n)) w := by
    intro w a n cap e hv
    simp [execOp, ho, resolve, hc1, hc2, hc3, invoke, builtin, Builtin.len_, run_und w hu, goInt, hv]
  simp only [vcOp] at hK
  split at hK
  · rename_i z es hy
    refine ⟨_, hK, OSound.val fun c e R hs he => ?_⟩
    rcases (hy ▸ he x y hx : VR c _ (e x)).lists with ⟨⟨a0, c0, g1⟩, g2⟩ | ⟨a, cap, f, g1, _⟩
    · subst g2; exact ⟨_, run _ _ _ _ _ g1, .int _ _⟩
    · exact ⟨_, run _ _ _ _ _ g1, .int _ _⟩
  · rename_i s z i n hy
    refine ⟨_, hK, OSound.val fun c e R hs he => ?_⟩
    obtain ⟨cap, g1, _⟩ := (hy ▸ he x y hx : VR c _ (e x)).sls
    exact ⟨_, run _ _ _ _ _ g1, .int _ _⟩
  · rename_i hy
    refine ⟨_, hK, OSound.val fun c e R hs he => ?_⟩
    have g1 := (hy ▸ he x y hx : VR c _ (e x)).nils'
    exact ⟨_, run _ _ _ _ _ g1, .int _ _⟩
  · rename_i hy
    refine ⟨_, hK, OSound.val fun c e R hs he => ?_⟩
    obtain ⟨a, g1⟩ := (hy ▸ he x y hx : VR c _ (e x)).emp'
    exact ⟨_, run _ _ _ _ _ g1, .int _ _⟩
  · exact hK.elim
theorem snd_lens {t : TypeId} {cl : Call} {x : Operand} {y : AOpnd} {K : Res → Prop} (ho : o.op = .call cl) (hc1 : cl.callee = .builtin .len) (hc2 : cl.args = #[x]) (hc3 : cl.argTypes = #[t]) (hu : P.underlying t = some .string) (hx : cOpnd x = some y)
    (hK : vcOp (.lens y) ev h K) : ∃ r, K r ∧ OSound P o ev h r := by
  simp only [vcOp] at hK
  split at hK
  · rename_i s hy
    refine ⟨_, hK, OSound.val fun c e R hs he => ⟨_, ?_, .int _ _⟩⟩
    have g1 := (hy ▸ he x y hx : VR c _ (e x)).str'
    simp [execOp, ho, resolve, hc1, hc2, hc3, invoke, builtin, Builtin.len_, run_und c.w hu, goInt, g1]
  · exact hK.elim
theorem snd_lenc {t e0 : TypeId} {n : Nat} {cl : Call} {x : Operand} {K : Res → Prop} (ho : o.op = .call cl) (hc1 : cl.callee = .builtin .len) (hc2 : cl.args = #[x]) (hc3 : cl.argTypes = #[t]) (hu : P.underlying t = some (.array n e0)) (hK : vcOp (.lenc n) ev h K) :
    ∃ r, K r ∧ OSound P o ev h r := by
  simp only [vcOp] at hK
  refine ⟨_, hK, OSound.val fun c e R hs he => ⟨_, ?_, .int _ _⟩⟩
  simp [execOp, ho, resolve, hc1, hc2, hc3, invoke, builtin, Builtin.len_, run_und c.w hu, goInt]

theorem run_max {c : Cfg} {e : Operand → Value} (he : EvOk c ev e) (w : World) : ∀ {xs : List Operand} {ys : List AOpnd} {v : AV} {u : AV} {a : Value}, cOpnds xs = some ys → VR c v a → mmA true ev v ys = some u →
    ∃ b, ((xs.map e).foldlM Builtin.max2 a).run P w = .ok b w ∧ VR c u b
  | [], ys, v, u, a, hc, hv, hm => by
    simp only [cOpnds, Option.some.injEq] at hc
    subst hc
    cases v <;> simp only [mmA, Option.some.injEq] at hm <;> subst hm <;> exact ⟨a, by simp, hv⟩
  | x :: xs, ys, v, u, a, hc, hv, hm => by
    simp only [cOpnds] at hc
    split at hc
    · rename_i y ys' hy hys
      simp only [Option.some.injEq] at hc
      subst hc
      cases v <;> simp only [mmA, reduceCtorEq] at hm
      rename_i k n
      split at hm
      · rename_i k' m hym
        split at hm
        · rename_i hkk
          subst hkk
          have h1 := hv.int'
          have h2 := (hym ▸ he x y hy : VR c _ (e x)).int'
          subst h1
          obtain ⟨b, g1, g2⟩ := run_max he w (a := .int k (maxI true n m)) hys (.int _ _) hm
          refine ⟨b, ?_, g2⟩
          simp only [List.map_cons, List.foldlM_cons, h2, Builtin.max2, Sem.run_bind, Sem.run_pure, Result.andThen_ok]
          simpa [maxI] using g1
        · cases hm
      · cases hm
    · cases hc
theorem run_min {c : Cfg} {e : Operand → Value} (he : EvOk c ev e) (w : World) : ∀ {xs : List Operand} {ys : List AOpnd} {v : AV} {u : AV} {a : Value}, cOpnds xs = some ys → VR c v a → mmA false ev v ys = some u →
    ∃ b, ((xs.map e).foldlM Builtin.min2 a).run P w = .ok b w ∧ VR c u b
  | [], ys, v, u, a, hc, hv, hm => by
    simp only [cOpnds, Option.some.injEq] at hc
    subst hc
    cases v <;> simp only [mmA, Option.some.injEq] at hm <;> subst hm <;> exact ⟨a, by simp, hv⟩
  | x :: xs, ys, v, u, a, hc, hv, hm => by
    simp only [cOpnds] at hc
    split at hc
    · rename_i y ys' hy hys
      simp only [Option.some.injEq] at hc
      subst hc
      cases v <;> simp only [mmA, reduceCtorEq] at hm
      rename_i k n
      split at hm
      · rename_i k' m hym
        split at hm
        · rename_i hkk
          subst hkk
          have h1 := hv.int'
          have h2 := (hym ▸ he x y hy : VR c _ (e x)).int'
          subst h1
          obtain ⟨b, g1, g2⟩ := run_min he w (a := .int k (maxI false n m)) hys (.int _ _) hm
          refine ⟨b, ?_, g2⟩
          simp only [List.map_cons, List.foldlM_cons, h2, Builtin.min2, Sem.run_bind, Sem.run_pure, Result.andThen_ok]
          simpa [maxI] using g1
        · cases hm
      · cases hm
    · cases hc
theorem snd_mm {isMax : Bool} {cl : Call} {x : Operand} {xs : List Operand} {y : AOpnd} {ys : List AOpnd} {K : Res → Prop} (ho : o.op = .call cl) (hc1 : cl.callee = .builtin (if isMax then .max else .min)) (hc2 : cl.args.toList = x :: xs) (hx : cOpnd x = some y) (hxs : cOpnds xs = some ys)
    (hK : vcOp (.mm isMax y ys) ev h K) : ∃ r, K r ∧ OSound P o ev h r := by
  simp only [vcOp] at hK
  split at hK
  · rename_i v hv
    refine ⟨_, hK, OSound.val fun c e R hs he => ?_⟩
    have ha : (cl.args.map e).toList = e x :: xs.map e := by simp [hc2]
    cases isMax with
    | true =>
      obtain ⟨b, g1, g2⟩ := run_max (P := P) he c.w hxs (he x y hx) hv
      exact ⟨b, by simp only [execOp, ho, resolve, hc1, if_true, Sem.run_bind, Sem.run_pure, Result.andThen_ok, invoke, builtin, Builtin.max_, ha, g1], g2⟩
    | false =>
      obtain ⟨b, g1, g2⟩ := run_min (P := P) he c.w hxs (he x y hx) hv
      exact ⟨b, by simp only [execOp, ho, resolve, hc1, Bool.false_eq_true, if_false, Sem.run_bind, Sem.run_pure, Result.andThen_ok, invoke, builtin, Builtin.min_, ha, g1], g2⟩
  · exact hK.elim
end Go.Eng
