/- The engine: strings: their pieces, bytes to and fro; rows of which a mark behind the end is kept. -/
import Derived.Test.YtdjafcjpnjdphaaDoorEng8
import Derived.Laws.IdiomStrings
set_option linter.unusedVariables false
set_option linter.unusedSimpArgs false
namespace Go.Eng
open Go Go.RowKit
variable {P : Program} {o : Oper} {ev : AOpnd → AV} {h : AHeap}

theorem run_boundsS {w : World} (n : Nat) (lo hi : Option Value) (l h' : Nat) (hh : (hi = none ∧ h' = n) ∨ ∃ k, hi = some (.int k h') ∧ h' ≤ n) (hl : (lo = none ∧ l = 0) ∨ ∃ k, lo = some (.int k l) ∧ l ≤ h') :
    (Instr.sliceBounds false n n lo hi none).run P w = .ok (l, h', n) w := by
  rcases hh with ⟨rfl, rfl⟩ | ⟨k, rfl, h2⟩ <;> rcases hl with ⟨rfl, rfl⟩ | ⟨k2, rfl, h4⟩
  · simp [Instr.sliceBounds]
  · simp [Instr.sliceBounds, Instr.sliceBound, asIntOf, h4]
  · simp [Instr.sliceBounds, Instr.sliceBound, asIntOf, h2]
  · simp [Instr.sliceBounds, Instr.sliceBound, asIntOf, h2, h4]
theorem snd_slcS {t : TypeId} {x : Operand} {y : AOpnd} {lo hi : Option Operand} {lo' hi' : Option AOpnd} {K : Res → Prop} (ho : o.op = .slice t x lo hi none) (hu : P.underlying t = some .string)
    (hx : cOpnd x = some y) (hlo : cOpt lo = some lo') (hhi : cOpt hi = some hi') (hK : vcOp (.slcS y lo' hi') ev h K) : ∃ r, K r ∧ OSound P o ev h r := by
  simp only [vcOp] at hK
  split at hK
  · rename_i s hy
    have go : ∀ (l hh : Nat), (∀ (c : Cfg) (e : Operand → Value), Rel c → EvOk c ev e → (Instr.sliceBounds false s.size s.size (lo.map e) (hi.map e) none).run P c.w = .ok (l, hh, s.size) c.w) → OSound P o ev h (.val (.str (s.extract l hh))) := by
      intro l hh H
      refine OSound.val fun c e R hs he => ⟨_, ?_, .str _⟩
      have g1 := (hy ▸ he x y hx : VR c _ (e x)).str'
      simp [execOp, ho, Instr.sliceAt, Instr.slice, run_und c.w hu, g1, H c e R he]
    have opt : ∀ {q : Option Operand} {q' : Option AOpnd} {k : IntKind} {b : Int}, cOpt q = some q' → q'.map ev = some (.int k b) → ∀ (c : Cfg) (e : Operand → Value), EvOk c ev e → q.map e = some (.int k b) := by
      intro q q' k b hq hb c e he
      cases q with
      | none => simp only [cOpt, Option.some.injEq] at hq; subst hq; cases hb
      | some q0 =>
        simp only [cOpt, Option.map_eq_some_iff] at hq
        obtain ⟨q1, h1, rfl⟩ := hq
        simp only [Option.map_some, Option.some.injEq] at hb
        rw [Option.map_some, (hb ▸ he q0 q1 h1 : VR c _ (e q0)).int']
    have opn : ∀ {q : Option Operand} {q' : Option AOpnd}, cOpt q = some q' → q'.map ev = none → q = none := by
      intro q q' hq hb
      cases q with
      | none => rfl
      | some q0 =>
        simp only [cOpt, Option.map_eq_some_iff] at hq
        obtain ⟨q1, h1, rfl⟩ := hq
        cases hb
    split at hK
    · rename_i k b h1 h2
      obtain ⟨⟨b0, b1⟩, hK⟩ := hK
      refine ⟨_, hK, go _ _ fun c e R he => ?_⟩
      rw [opt hhi h2 c e he, opn hlo h1]
      exact run_boundsS _ _ _ _ _ (.inr ⟨k, by rw [Int.toNat_of_nonneg b0], by omega⟩) (.inl ⟨rfl, rfl⟩)
    · rename_i k a h1 h2
      obtain ⟨⟨b0, b1⟩, hK⟩ := hK
      refine ⟨_, hK, go _ _ fun c e R he => ?_⟩
      rw [opt hlo h1 c e he, opn hhi h2]
      exact run_boundsS _ _ _ _ _ (.inl ⟨rfl, rfl⟩) (.inr ⟨k, by rw [Int.toNat_of_nonneg b0], by omega⟩)
    · rename_i k a k2 b h1 h2
      obtain ⟨⟨b0, b1, b2⟩, hK⟩ := hK
      refine ⟨_, hK, go _ _ fun c e R he => ?_⟩
      rw [opt hlo h1 c e he, opt hhi h2 c e he]
      exact run_boundsS _ _ _ _ _ (.inr ⟨k2, by rw [Int.toNat_of_nonneg (by omega)], by omega⟩) (.inr ⟨k, by rw [Int.toNat_of_nonneg b0], by omega⟩)
    · rename_i h1 h2
      refine ⟨_, hK, go _ _ fun c e R he => ?_⟩
      rw [opn hlo h1, opn hhi h2]
      exact run_boundsS _ _ _ _ _ (.inl ⟨rfl, rfl⟩) (.inl ⟨rfl, rfl⟩)
    · exact hK.elim
  · exact hK.elim

theorem bytesRows_len (s : ByteArray) : (bytesRows s).length = s.size := by
  unfold bytesRows
  rw [List.length_map, Array.length_toList]; rfl
theorem bytesRows_get {s : ByteArray} {j : Nat} (hj : j < s.data.toList.length) : (bytesRows s)[j]? = some [.int .u8 (s.data.toList[j].toNat : Int)] := by
  unfold bytesRows
  rw [List.getElem?_map, List.getElem?_eq_getElem hj]; rfl
theorem bytes_sz (s : ByteArray) : s.data.toList.length = s.size := by rw [Array.length_toList]; rfl
theorem bytes_mk (s : ByteArray) : (⟨s.data.toList.toArray⟩ : ByteArray) = s := by
  show ByteArray.mk (s.data.toList.toArray) = s
  rw [Array.toArray_toList]
theorem snd_toS {s d e0 : TypeId} {x : Operand} {y : AOpnd} {K : Res → Prop} (ho : o.op = .convert s d x) (hs : P.underlying s = some (.slice e0)) (h8 : P.underlying e0 = some (.int .u8)) (hd : P.underlying d = some .string) (hx : cOpnd x = some y)
    (hK : vcOp (.toS y) ev h K) : ∃ r, K r ∧ OSound P o ev h r := by
  simp only [vcOp] at hK
  split at hK
  · rename_i z es hy
    obtain ⟨b, ⟨rfl, rfl⟩, hK⟩ := hK
    refine ⟨_, hK, OSound.val fun c e R hsub he => ⟨_, ?_, .str _⟩⟩
    rcases (hy ▸ he x y hx : VR c _ (e x)).lists with ⟨⟨a0, c0, g1⟩, g2⟩ | ⟨a, cap, f, g1, hcap, hsp, hz, hcell, hown, hv⟩
    · have hb : b = .empty := by
        have h1 := bytesRows_len b
        rw [g2] at h1
        simp only [List.length_nil] at h1
        exact ByteArray.ext (Array.eq_empty_of_size_eq_zero h1.symm)
      subst hb
      cases a0 with
      | none => simp [execOp, ho, g1, convert, run_und c.w hs, run_und c.w hd, run_und c.w h8, Conv.bytesToString]
      | some a =>
        have := run_convert_bytes_back (P := P) c.w s d e0 a c0 [] hs h8 hd (fun j hj => absurd hj (Nat.not_lt_zero _))
        simp only [List.length_nil] at this
        simp [execOp, ho, g1, this]
        rfl
    · have hl : (bytesRows b).length = b.data.toList.length := by unfold bytesRows; rw [List.length_map]
      have := run_convert_bytes_back (P := P) c.w s d e0 a cap b.data.toList hs h8 hd (fun j hj => by
        have h1 := hcell j 0 (by omega) (by omega)
        have h2 := (hv j _ (bytesRows_get hj) 0 _ rfl).int'
        have h3 : a.add j = ⟨a.block, a.off + (j * 1 + 0), none⟩ := by
          cases a with | mk q w sp => simp only at hsp; subst hsp; simp [Addr.add]
        rw [h3, h1, h2])
      rw [bytes_mk, bytes_sz] at this
      rw [hl, bytes_sz] at g1
      simp [execOp, ho, g1, this]
  · rename_i q z i n hy
    split at hK
    · rename_i z' es hq
      obtain ⟨b, ⟨rfl, rfl, hin, hb⟩, hK⟩ := hK
      refine ⟨_, hK, OSound.val fun c e R hsub he => ⟨_, ?_, .str _⟩⟩
      obtain ⟨cap, g1, hus, hcap, _⟩ := (hy ▸ he x y hx : VR c _ (e x)).sls
      obtain ⟨_, hO, hes, vs, ty, fz, hh, hfz, hsz, hvr⟩ := R.live q 1 es (hsub _ _ _ hq) (by omega)
      have hl : b.data.toList.length = n := by
        have h1 : (bytesRows b).length = b.data.toList.length := by unfold bytesRows; rw [List.length_map]
        rw [← h1, ← hb]; simp; omega
      have := run_convert_bytes_back (P := P) c.w s d e0 ⟨c.r q, i * 1, none⟩ cap b.data.toList hs h8 hd (fun j hj => by
        have h1 : es[i + j]? = some [.int .u8 (b.data.toList[j].toNat : Int)] := by
          have h2 := bytesRows_get hj
          rw [← hb, List.getElem?_take, if_pos (by omega), List.getElem?_drop] at h2
          exact h2
        have h2 := (hvr (i + j) _ h1 0 _ rfl).int'
        have h4 := (List.getElem?_eq_some_iff.1 h1).1
        have h3 : (⟨c.r q, i * 1, none⟩ : Addr).add j = ⟨c.r q, i + j, none⟩ := by simp [Addr.add]
        rw [h3, World.cell?]
        simp only [hh]
        have h5 : i + j < vs.size := by omega
        simp only [Nat.mul_one, Nat.add_zero, Array.getD_eq_getD_getElem?] at h2
        rw [Array.getElem?_eq_getElem h5] at h2 ⊢
        simp only [Option.getD_some] at h2
        simp [h2])
      rw [bytes_mk, hl] at this
      simp only [Nat.mul_one] at g1 this
      simp [execOp, ho, g1, this]
    · exact hK.elim
  · rename_i hy
    refine ⟨_, hK, OSound.val fun c e R hsub he => ⟨_, ?_, .str _⟩⟩
    have g1 := (hy ▸ he x y hx : VR c _ (e x)).nils'
    simp [execOp, ho, g1, convert, run_und c.w hs, run_und c.w hd, run_und c.w h8, Conv.bytesToString]
  · rename_i hy
    refine ⟨_, hK, OSound.val fun c e R hsub he => ⟨_, ?_, .str _⟩⟩
    obtain ⟨a, g1⟩ := (hy ▸ he x y hx : VR c _ (e x)).emp'
    have := run_convert_bytes_back (P := P) c.w s d e0 a 0 [] hs h8 hd (fun j hj => absurd hj (Nat.not_lt_zero _))
    simp only [List.length_nil] at this
    simp [execOp, ho, g1, this]
    rfl
  · exact hK.elim

theorem snd_ofS {s d e0 : TypeId} {x : Operand} {y : AOpnd} {K : Res → Prop} (ho : o.op = .convert s d x) (hs : P.underlying s = some .string) (h8 : P.underlying e0 = some (.int .u8)) (hd : P.underlying d = some (.slice e0)) (hx : cOpnd x = some y)
    (hK : vcOp (.ofS y) ev h K) : ∃ r, K r ∧ OSound P o ev h r := by
  simp only [vcOp] at hK
  split at hK
  · rename_i b hy
    refine ⟨_, hK, ?_⟩
    intro c e R hsub he t h' ht hh
    obtain ⟨hh1, hh2⟩ := hh
    have g1 := (hy ▸ he x y hx : VR c _ (e x)).str'
    obtain ⟨cap, ecap⟩ : ∃ cap, cap = grownCap c.w b.size 0 e0 := ⟨_, rfl⟩
    obtain ⟨vs, evs⟩ : ∃ vs, vs = bytesRow b cap := ⟨_, rfl⟩
    have hrun := run_bytes_of_string (P := P) c.w s d e0 b hs hd h8
    rw [← ecap, ← evs] at hrun
    have hcap : b.size ≤ cap := by rw [ecap]; exact grownCap_ge _ _ _ _
    have hvs : vs.size = cap := by rw [evs]; unfold bytesRow; simp; show b.size + _ = _; omega
    have hbl : b.data.toList.length = b.size := by rw [Array.length_toList]; rfl
    have hvj : ∀ j (hj : j < b.data.toList.length), vs.getD j undef = .int .u8 (b.data.toList[j].toNat : Int) := by
      intro j hj
      have hj' : j < b.data.size := by rw [Array.length_toList] at hj; exact hj
      rw [evs]
      unfold bytesRow
      rw [Array.getD_eq_getD_getElem?, Array.getElem?_append_left (by simpa using hj')]
      simp [Array.getElem?_eq_getElem hj']
    obtain ⟨R1, E1⟩ := R.drew (c.w.drawn + 1) c.h.length
    have R1 : Rel { c with w := c.w.drew } := R1
    have E1 : Ext c.h.length c { c with w := c.w.drew } := E1
    obtain ⟨R2, E2⟩ := Rel.freshX R1 t h' 1 (bytesRows b) (.cells vs e0 (vs.size, vs.size + 1)) (fun i j => vs.getD (i * 1 + j) undef) c.h.length ht hh1 (fun q y hq hy => hh2 q y hq hy)
      (.inl ⟨Nat.one_pos, fun e he => by unfold bytesRows at he; obtain ⟨u, _, rfl⟩ := List.mem_map.1 he; rfl, vs, e0, _, rfl, .inr (Nat.le_refl _), by rw [bytesRows_len]; omega, rfl⟩)
      (fun i e hi j u hj => by
        have hil := (List.getElem?_eq_some_iff.1 hi).1
        have hil : i < b.data.toList.length := by unfold bytesRows at hil; rwa [List.length_map] at hil
        rw [bytesRows_get hil] at hi
        cases hi
        match j, hj with
        | 0, hj =>
          simp only [List.getElem?_cons_zero, Option.some.injEq] at hj
          subst hj
          show VR _ _ (vs.getD (i * 1 + 0) undef)
          rw [show i * 1 + 0 = i by omega, hvj i hil]
          exact .int _ _
        | j + 1, hj => simp at hj)
    refine ⟨.value (.slice (some ⟨c.w.heap.size, 0, none⟩) b.size cap), _, _, ?_, rfl, R2, E1.trans E2, rfl, ?_⟩
    · show (execOp e o).run P c.w = _
      simp only [execOp, ho, g1]
      simp [hrun]
    · have q := VR.sl (c := { c with r := fun s => if s = t then c.w.drew.heap.size else c.r s, h := h', w := c.w.drew.alloc (.cells vs e0 (vs.size, vs.size + 1)) }) t 1 0 b.size cap ⟨_, hh1, by simp⟩ hcap ⟨e0, vs.size, by
        unfold World.shape?
        simp [World.drew, World.alloc, -World.alloc_eq, -World.drew_eq], by omega⟩
      have e2 : (Value.slice (some ⟨c.w.heap.size, 0, none⟩) b.size cap) = Value.slice (some ⟨if t = t then c.w.drew.heap.size else c.r t, 0 * 1, none⟩) b.size cap := by rw [if_pos rfl]; rfl
      rw [e2]
      exact q
  · exact hK.elim
/-- A slice without elements that is written out. -/
theorem snd_bemp {t e0 : TypeId} {parts : Array (Nat × Operand)} {z : Nat} {K : Res → Prop} (ho : o.op = .buildSlice t 0 parts) (hu : P.underlying t = some (.slice e0)) (hk : szOf P e0 = some z) (hp : parts.size = 0)
    (hK : vcOp .bemp ev h K) : ∃ r, K r ∧ OSound P o ev h r := by
  simp only [vcOp] at hK
  refine ⟨_, hK, ?_⟩
  intro c e R hs he t' h' ht hh
  have hh : h' = c.h := hh
  subst hh
  obtain ⟨ie, hie, hiz⟩ := szOf_info hk
  have hpn : parts = #[] := Array.eq_empty_of_size_eq_zero hp
  subst hpn
  obtain ⟨R1, E1⟩ := R.alloc (.cells #[] e0) c.h.length
  refine ⟨.value (.slice (some ⟨c.w.heap.size, 0, none⟩) 0 0), .slice (some ⟨c.w.heap.size, 0, none⟩) 0 0, _, ?_, rfl, R1, E1, rfl, .emp _⟩
  show (execOp e o).run P c.w = _
  simp [execOp, ho, Instr.buildSlice, run_und c.w hu, sizeOf, typeInfo, hie, Instr.fill, newRow]
  have : Array.map (fun x : Nat => (default : Value)) (Array.range 0) = #[] := Array.eq_empty_of_size_eq_zero (by simp)
  rw [this]
end Go.Eng
