/- The engine, part 8: slices of slices, make, append. -/
import Derived.Test.YtdjafcjpnjdphaaDoorEng7
set_option linter.unusedVariables false
set_option linter.unusedSimpArgs false
namespace Go.Eng
open Go Go.RowKit
variable {P : Program} {o : Oper} {ev : AOpnd → AV} {h : AHeap}

/-- A piece of a list. -/
theorem VR.piece {c : Cfg} {z : Nat} {es : List (List AV)} {a : Addr} {cap : Nat} {f : Nat → Nat → Value} {lo hi : Nat} (hc : es.length ≤ cap) (ha : a.spot = none) (hz : ∀ e, e ∈ es → e.length = z)
    (hcell : ∀ i j, i < es.length → j < z → c.w.cell? ⟨a.block, a.off + (i * z + j), none⟩ = some (f i j)) (hown : 0 < es.length → 0 < z → ¬ c.own a.block)
    (hv : ∀ (i : Nat) (e : List AV), es[i]? = some e → ∀ (j : Nat) (x : AV), e[j]? = some x → VR c x (f i j)) (h1 : lo ≤ hi) (h2 : hi ≤ es.length) :
    VR c (.list z ((es.take hi).drop lo)) (.slice (some (if cap = lo then a else a.add (lo * z))) (hi - lo) (cap - lo)) := by
  have hlen : ((es.take hi).drop lo).length = hi - lo := by simp; omega
  by_cases hcl : cap = lo
  · have : hi - lo = 0 := by omega
    have hnil : (es.take hi).drop lo = [] := List.eq_nil_of_length_eq_zero (by omega)
    rw [if_pos hcl, hnil, this]
    exact .list z [] a 0 _ (fun _ _ => undef) rfl (by omega) ha (by simp) (fun i j hi => by omega) (fun h => by omega) (fun i e he => by simp at he)
  · rw [if_neg hcl, add_spot a _ ha]
    refine .list z _ _ _ _ (fun i j => f (lo + i) j) hlen (by omega) rfl (fun e he => hz e (List.mem_of_mem_take (List.mem_of_mem_drop he))) (fun i j hi hj => ?_) (fun h0 hz0 => hown (by omega) hz0) fun i e he j x hx => hv (lo + i) e ?_ j x hx
    · have := hcell (lo + i) j (by omega) hj
      rw [Nat.add_mul] at this
      simpa [Nat.add_assoc] using this
    · rw [List.getElem?_drop, List.getElem?_take] at he
      split at he
      · exact he
      · cases he
theorem run_bound {x : Value} {k : IntKind} {q : Int} (w : World) (y : Nat) (code : BoundsCode) (hx : x = .int k q) (h0 : 0 ≤ q) (h1 : q ≤ y) : (Instr.sliceBound x y code).run P w = .ok q.toNat w := by
  simp [Instr.sliceBound, hx, asIntOf, h0, h1]
theorem snd_slc {t e0 : TypeId} {z : Nat} {x : Operand} {y : AOpnd} {lo hi : Option Operand} {lo' hi' : Option AOpnd} {K : Res → Prop} (ho : o.op = .slice t x lo hi none) (hu : P.underlying t = some (.slice e0)) (hk : szOf P e0 = some z)
    (hx : cOpnd x = some y) (hlo : cOpt lo = some lo') (hhi : cOpt hi = some hi') (hK : vcOp (.slc z y lo' hi') ev h K) : ∃ r, K r ∧ OSound P o ev h r := by
  have run : ∀ (w : World) (e : Operand → Value) (a : Option Addr) (n cap l h : Nat), e x = .slice a n cap → (Instr.sliceBounds true n cap (lo.map e) (hi.map e) none).run P w = .ok (l, h, cap) w →
      (execOp e o).run P w = .ok (.value (.slice (if cap = l then a else a.map (·.add (l * z))) (h - l) (cap - l))) w := by
    intro w e a n cap l h hv hb
    simp [execOp, ho, Instr.sliceAt, Instr.slice, run_und w hu, run_size w hk, hv, hb]
  -- the bounds, as the operands have them
  have step : ∀ (l hh : Nat) (z' : Nat) (es : List (List AV)) (r : AV), ev y = .list z es → l ≤ hh → hh ≤ es.length → r = .list z ((es.take hh).drop l) →
      (∀ (c : Cfg) (e : Operand → Value), EvOk c ev e → ∀ cap, es.length ≤ cap → (Instr.sliceBounds true es.length cap (lo.map e) (hi.map e) none).run P c.w = .ok (l, hh, cap) c.w) → OSound P o ev h (.val r) := by
    intro l hh z' es r hy hl hhh hr hb
    refine OSound.val fun c e R hs he => ?_
    subst hr
    rcases (hy ▸ he x y hx : VR c _ (e x)).lists with ⟨⟨a0, c0, g1⟩, g2⟩ | ⟨a, cap, f, g1, hcap, hsp, hz, hcell, hown, hv⟩
    · subst g2
      have := run c.w e a0 0 c0 l hh g1 (hb c e he c0 (Nat.zero_le _))
      have h0 : hh = 0 := by simpa using hhh
      subst h0
      have h0 : l = 0 := by omega
      subst h0
      exact ⟨_, this, by simpa using VR.listNil z _ _⟩
    · refine ⟨_, run c.w e (some a) _ cap l hh g1 (hb c e he cap hcap), ?_⟩
      have := VR.piece hcap hsp hz hcell hown hv hl hhh
      split
      · rename_i hc; simpa [hc] using this
      · rename_i hc; simpa [hc] using this
  simp only [vcOp] at hK
  split at hK
  · rename_i z' es hy
    cases lo with
    | none =>
      simp only [cOpt, Option.some.injEq] at hlo
      subst hlo
      cases hi with
      | none =>
        simp only [cOpt, Option.some.injEq] at hhi
        subst hhi
        simp only [Option.map_none] at hK
        obtain ⟨rfl, hK⟩ := hK
        exact ⟨_, hK, step 0 es.length z' es _ hy (Nat.zero_le _) (Nat.le_refl _) (by simp) fun c e he cap hcap => by simp [Instr.sliceBounds]⟩
      | some b =>
        simp only [cOpt] at hhi
        cases hb : cOpnd b with
        | none => simp [hb] at hhi
        | some b' =>
          simp only [hb, Option.map_some, Option.some.injEq] at hhi
          subst hhi
          simp only [Option.map_none, Option.map_some] at hK
          cases hbv : ev b' <;> simp only [hbv] at hK <;> try exact hK.elim
          rename_i k q
          obtain ⟨⟨rfl, h0, h1⟩, hK⟩ := hK
          exact ⟨_, hK, step 0 q.toNat z' es _ hy (Nat.zero_le _) (by omega) (by simp) fun c e he cap hcap => by
            have := (hbv ▸ he b b' hb : VR c _ (e b)).int'
            simp [Instr.sliceBounds, run_bound (P := P) c.w cap .sliceAcap this h0 (by omega)]⟩
    | some a =>
      simp only [cOpt] at hlo
      cases ha : cOpnd a with
      | none => simp [ha] at hlo
      | some a' =>
        simp only [ha, Option.map_some, Option.some.injEq] at hlo
        subst hlo
        cases hi with
        | none =>
          simp only [cOpt, Option.some.injEq] at hhi
          subst hhi
          simp only [Option.map_none, Option.map_some] at hK
          cases hav : ev a' <;> simp only [hav] at hK <;> try exact hK.elim
          rename_i k q
          obtain ⟨⟨rfl, h0, h1⟩, hK⟩ := hK
          exact ⟨_, hK, step q.toNat es.length z' es _ hy (by omega) (Nat.le_refl _) (by simp) fun c e he cap hcap => by
            have := (hav ▸ he a a' ha : VR c _ (e a)).int'
            simp [Instr.sliceBounds, run_bound (P := P) c.w es.length .sliceB this h0 (by omega)]⟩
        | some b =>
          simp only [cOpt] at hhi
          cases hb : cOpnd b with
          | none => simp [hb] at hhi
          | some b' =>
            simp only [hb, Option.map_some, Option.some.injEq] at hhi
            subst hhi
            simp only [Option.map_some] at hK
            cases hav : ev a' <;> simp only [hav] at hK <;> try exact hK.elim
            rename_i k q
            cases hbv : ev b' <;> simp only [hbv] at hK <;> try exact hK.elim
            rename_i k2 q2
            obtain ⟨⟨rfl, h0, h1, h2⟩, hK⟩ := hK
            exact ⟨_, hK, step q.toNat q2.toNat z' es _ hy (by omega) (by omega) rfl fun c e he cap hcap => by
              have g1 := (hav ▸ he a a' ha : VR c _ (e a)).int'
              have g2 := (hbv ▸ he b b' hb : VR c _ (e b)).int'
              have e1 := run_bound (P := P) c.w cap .sliceAcap g2 (by omega) (by omega)
              have e2 := run_bound (P := P) c.w q2.toNat .sliceB g1 h0 (by omega)
              simp [Instr.sliceBounds, e1, e2]⟩
  · exact hK.elim
end Go.Eng
