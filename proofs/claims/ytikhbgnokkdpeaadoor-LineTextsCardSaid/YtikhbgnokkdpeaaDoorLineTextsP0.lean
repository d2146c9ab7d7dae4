/- Texts of the proof of LineTexts, joined by wip/tools/pack.py. -/
import Derived.LaidLaws
import Derived.Test.YtikhbgnokkdpeaaDoorEng23
import Derived.RowKit
import Derived.LaidHandle
import Derived.LaidSub
import Derived.Lib.LaidTab
import Derived.Lib.ItoaLen
import Derived.Lib.Join
import Derived.Test.YtikhbgnokkdpeaaDoorBase
import Derived.Shelf.Strconv.Itoa4
import Derived.Shelf.Strings.OnBuilder
import Derived.Test.YtikhbgnokkdpeaaDoorProg
import Derived.KernelRfl
import Derived.Test.YtikhbgnokkdpeaaDoorEng30
import Derived.Test.YtikhbgnokkdpeaaDoorEng31
import Derived.Test.YtikhbgnokkdpeaaDoorEngW
import Derived.Test.YtikhbgnokkdpeaaDoorEngL
import Derived.Test.YtikhbgnokkdpeaaDoorEngV
import Derived.Test.YtikhbgnokkdpeaaDoorEngD
/- What the package's laid variables hold: rows of numbers and of texts. -/
set_option linter.unusedVariables false
set_option linter.unusedSimpArgs false
namespace Go.Proofs.YtikhbgnokkdpeaaDoor
open Go
theorem mapM_get {α β : Type} {f : α → Option β} : ∀ {l : List α} {xs : List β}, l.mapM f = some xs → xs.length = l.length ∧ ∀ (i : Nat) (a : α), l[i]? = some a → ∃ y, f a = some y ∧ xs[i]? = some y
  | [], xs, h => by
    simp only [List.mapM_nil, Option.pure_def, Option.some.injEq] at h
    subst h
    exact ⟨rfl, fun i a hi => by simp at hi⟩
  | b :: l, xs, h => by
    simp only [List.mapM_cons, Option.bind_eq_bind, Option.bind_eq_some_iff, Option.pure_def, Option.some.injEq] at h
    obtain ⟨y, hy, ys, hys, rfl⟩ := h
    obtain ⟨h1, h2⟩ := mapM_get hys
    refine ⟨by simp [h1], fun i a hi => ?_⟩
    cases i with
    | zero => simp at hi; subst hi; exact ⟨y, hy, rfl⟩
    | succ i => exact h2 i a (by simpa using hi)
theorem trod_int1 {H : Type} {enc : TypeId × Value → H} {P : Program} {w : World} {base : Nat} {sp : Nat → Bool} {held : Bool} {fuel : Nat} {t : TypeId} {k : IntKind} {c : Value} {y : DataW H × List MemPlace} (ht : P.underlying t = some (.int k))
    (h : DataW.trod enc P w base sp held fuel t [c] = some y) : ∃ n, c = .int k n ∧ y = (.lit (.int k n), []) := by
  cases fuel with
  | zero => simp [DataW.trod] at h
  | succ fuel =>
    cases c <;> simp [DataW.trod, ht] at h
    rename_i k' n
    obtain ⟨⟨rfl, _⟩, rfl⟩ := h
    exact ⟨n, rfl, rfl⟩
theorem trod_ints {H : Type} {enc : TypeId × Value → H} {P : Program} {w : World} {base : Nat} {sp : Nat → Bool} {held : Bool} {fuel n : Nat} {t et : TypeId} {k : IntKind} (ht : P.underlying t = some (.array n et)) (he : P.underlying et = some (.int k)) (hc : P.cellsOf et = 1) (hct : P.cellsOf t = n)
    {cs : List Value} {ls : List Int} {ps : List MemPlace} (h : DataW.trod enc P w base sp held fuel t cs = some (.agg (ls.map fun x => .lit (.int k x)), ps)) : cs = ls.map (Value.int k) := by
  cases fuel with
  | zero => simp [DataW.trod] at h
  | succ fuel =>
    simp only [DataW.trod, ht, hct, hc] at h
    split at h
    · rename_i hl
      simp only [Option.map_eq_some_iff, Prod.mk.injEq, DataW.agg.injEq] at h
      obtain ⟨xs, hx, he1, _⟩ := h
      obtain ⟨h1, h2⟩ := mapM_get hx
      have hll : ls.length = n := by have := congrArg List.length he1; simp at this; simp at h1; omega
      apply List.ext_getElem?
      intro i
      by_cases hi : i < n
      · obtain ⟨y, hy, hyi⟩ := h2 i i (List.getElem?_range hi)
        have hd : (cs.drop (i * 1)).take 1 = [cs[i]'(by omega)] := by
          rw [Nat.mul_one, List.drop_eq_getElem_cons (by omega)]; rfl
        rw [hd] at hy
        obtain ⟨m, hm, rfl⟩ := trod_int1 he hy
        have hmi : (xs.map (·.1))[i]? = some (.lit (.int k m)) := by rw [List.getElem?_map, hyi]; rfl
        rw [he1, List.getElem?_map] at hmi
        obtain ⟨q, hq, e⟩ := Option.map_eq_some_iff.1 hmi
        simp only [DataW.lit.injEq, Lit.int.injEq, true_and] at e
        rw [List.getElem?_eq_getElem (by omega), hm, List.getElem?_map, hq, ← e]; rfl
      · rw [List.getElem?_eq_none (by omega), List.getElem?_eq_none (by simp; omega)]
    · cases h
theorem laid_mem {P : Program} {w : World} {n : String} {d : DataW Unit} : ∀ {l : List (String × DataW Unit)} {ps : List MemPlace}, DataW.LaidVars P w l ps → (n, d) ∈ l → ∃ g t cs fuel p, P.globalNamed n = some g ∧ (P.globals[g]?).map (·.type) = some t ∧ w.var? P n = some cs ∧ DataW.trod (fun _ => ()) P w 0 (fun _ => true) false fuel t cs.toList = some (d, p)
  | [], _, _, hm => by cases hm
  | (m, e) :: l, ps, h, hm => by
    obtain ⟨g, t, cs, fuel, p, q, h1, h2, h3, h4, h5, _⟩ := h
    rcases List.mem_cons.1 hm with hm | hm
    · obtain ⟨rfl, rfl⟩ := Prod.mk.inj hm
      exact ⟨g, t, cs, fuel, p, h1, h2, h3, h4⟩
    · exact laid_mem h5 hm
end Go.Proofs.YtikhbgnokkdpeaaDoor

/- What the package's laid variables hold, as the engine has it. -/
set_option linter.unusedVariables false
set_option linter.unusedSimpArgs false
namespace Go.Proofs.YtikhbgnokkdpeaaDoor
open Go Go.RowKit Go.Eng
theorem glo_ints {P : Program} {W : World} {name : String} {g : Nat} {cs : Array Value} {k : IntKind} {ls : List Int} (hg : P.globalNamed name = some g) (hv : W.var? P name = some cs) (hcs : cs.toList = ls.map (Value.int k)) :
    VR (cfg0 W) (.cref (ls.map (AV.int k))) (.pointer (some ⟨g, 0, none⟩)) ∧ ∃ ty, W.shape? g = some (ty, (ls.map (AV.int k)).length) := by
  have hsz : cs.size = ls.length := by rw [← Array.length_toList, hcs]; simp
  have hj : ∀ j, j < ls.length → cs[j]? = some (.int k (ls.getD j 0)) := fun j hj => by
    rw [← Array.getElem?_toList, hcs, List.getElem?_map, List.getD_eq_getElem?_getD, List.getElem?_eq_getElem hj]; rfl
  refine ⟨?_, ?_⟩
  rotate_left 1
  · simp only [World.var?, hg, Option.bind_some] at hv
    split at hv
    · rename_i c1 el fz1 heq
      simp only [Option.some.injEq] at hv
      subst hv
      unfold World.shape?
      rw [heq]
      exact ⟨el, by rw [List.length_map, ← hsz]⟩
    · cases hv
  refine .cref _ _ (fun j => .int k (ls.getD j 0)) rfl (fun j hjl => ?_) (fun _ h => ?_) fun j x hx => ?_
  · have := World.var?_cell hg hv j
    simp only [List.length_map] at hjl
    show W.cell? ⟨g, 0 + j, none⟩ = _
    rw [Nat.zero_add, this, hj j hjl]
  · rcases h with h | ⟨s, ⟨z, es, h⟩, _⟩
    · exact h
    · simp [cfg0] at h
  · rw [List.getElem?_map] at hx
    obtain ⟨q, hq, rfl⟩ := Option.map_eq_some_iff.1 hx
    rw [List.getD_eq_getElem?_getD, hq]
    exact .int k q
theorem VR.int_inv {C : Cfg} {k : IntKind} {n : Int} {v : Value} (h : VR C (.int k n) v) : v = .int k n := by cases h; rfl
/-- A laid table reads in the world as it was laid. -/
theorem tab_of_rel {P : Program} {C : Cfg} (R : Rel C) {name : String} {g : Nat} {k : IntKind} {ls : List Int} (hg : P.globalNamed name = some g) (hm : (g, ls.map (AV.int k)) ∈ gs) : Lib.TabIs P C.w name k ls := by
  obtain ⟨ty, hs⟩ := R.gsz _ hm
  have hv := R.glo _ hm
  unfold World.shape? at hs
  split at hs
  · rename_i c elem fz heq
    simp only [Option.some.injEq, Prod.mk.injEq, List.length_map] at hs
    have hsz : c.size = ls.length := hs.2
    have heq : C.w.heap[g]? = some (.cells c elem fz) := heq
    have hc : c = (ls.map fun z => Value.int k z).toArray := by
      cases hv with
      | cref _ _ f ha hcell hown hx =>
        apply Array.ext_getElem?
        intro j
        by_cases hj : j < ls.length
        · have h1 := hcell j (by simpa using hj)
          have h2 := hx j (.int k (ls[j]'hj)) (by rw [List.getElem?_map, List.getElem?_eq_getElem hj]; rfl)
          have h3 := VR.int_inv h2
          rw [h3] at h1
          have h4 : c[j]? = some (Value.int k (ls[j]'hj)) := by
            have h5 : C.w.cell? ⟨g, 0 + j, none⟩ = c[j]? := by
              simp only [World.cell?, heq, Nat.zero_add, Option.isSome_none, Bool.false_eq_true, if_false]
            rw [← h5]; exact h1
          rw [h4]
          simp [hj]
        · rw [Array.getElem?_eq_none (by omega), List.getElem?_toArray, List.getElem?_eq_none (by rw [List.length_map]; omega)]
    unfold Lib.TabIs World.var?
    simp only [hg, Option.bind_some, heq, hc]
  · cases hs
end Go.Proofs.YtikhbgnokkdpeaaDoor

/- A contract of the library whose result is plain and that keeps what was there, as a contract of the engine. -/
set_option linter.unusedVariables false
set_option linter.unusedSimpArgs false
namespace Go.Eng
open Go Go.RowKit
theorem PCalls.of_below {P : Program} {g : FuncId} {args : List AV} {R : AV → Prop} (hE : Enters P g)
    (H : ∀ (C : Cfg) (vs : Array Value), C.h = [] → Rel C → VRs C args vs → Calls P g vs C.w fun e w' => ∃ v r, e = .returned v ∧ R r ∧ (∀ D : Cfg, VR D r v) ∧ Below C.w.heap.size C.w w') : PCalls P g args R := by
  refine ⟨hE, fun C vs h0 hR hv => (H C vs h0 hR hv).mono fun e w' ⟨v, r, he, hr, hvr, hb⟩ => ?_⟩
  obtain ⟨b1, b2, b3, b4, b5⟩ := hb
  have hx : Ext 0 C { C with w := w' } := by
    refine ⟨rfl, b1, b2, b3, b4, fun s hs => absurd hs (Nat.not_lt_zero _), fun b hbk hno => ⟨b5 b hbk, hno⟩, fun b x hs => ?_⟩
    have hlt : b < C.w.heap.size := by
      unfold World.shape? at hs
      split at hs
      · rename_i heq; exact (Array.getElem?_eq_some_iff.1 heq).1
      · cases hs
    unfold World.shape? at hs ⊢
    show (match w'.heap[b]? with | some (.cells c elem _) => some (elem, c.size) | _ => none) = some x
    rw [b5 b hlt]
    exact hs
  refine ⟨v, r, { C with w := w' }, he, hr, h0, rfl, ?_, hvr _, hx⟩
  have hl0 : C.h.length = 0 := by rw [h0]; rfl
  refine hR.of_ext (by rw [hl0]; exact hx) (fun s z es hl => ?_) (fun s t ⟨z, es, hs⟩ => ?_)
  · rw [show ({ C with w := w' } : Cfg).h = [] from h0] at hl; simp at hl
  · rw [show ({ C with w := w' } : Cfg).h = [] from h0] at hs; simp at hs
end Go.Eng

/- Numbers as words, plainly. -/
set_option linter.unusedVariables false
set_option linter.unusedSimpArgs false
namespace Go.Proofs.YtikhbgnokkdpeaaDoor
open Go
def itb (n : Int) : ByteArray := ⟨(Lib.itoa n).toArray⟩
/-- A text's bytes. -/
def tx (s : ByteArray) : List UInt8 := s.data.toList
theorem tx_ext {a b : ByteArray} (h : tx a = tx b) : a = b := by
  cases a with | mk a => cases b with | mk b =>
  unfold tx at h
  simp only at h
  rw [Array.toList_inj.1 h]
theorem tx_app (a b : ByteArray) : tx (a ++ b) = tx a ++ tx b := by
  unfold tx
  rw [ByteArray.data_append, Array.toList_append]
theorem tx_mk (l : List UInt8) : tx ⟨l.toArray⟩ = l := rfl
theorem tx_itb (n : Int) : tx (itb n) = Lib.itoa n := rfl
theorem itoa_small {n : Int} (h0 : 0 ≤ n) (h1 : n < 10) : Lib.itoa n = [UInt8.ofNat (48 + n.toNat)] := by
  obtain ⟨u, rfl⟩ : ∃ u : Nat, n = u := ⟨n.toNat, by omega⟩
  rw [Lib.itoa_nonneg, Lib.decDigits_one (by omega)]; rfl
theorem itoa_big {n : Int} (h : 10 ≤ n) : Lib.itoa n = Lib.itoa (n / 10) ++ Lib.itoa (n % 10) := by
  obtain ⟨u, rfl⟩ : ∃ u : Nat, n = u := ⟨n.toNat, by omega⟩
  have e1 : ((u : Int) / 10) = ((u / 10 : Nat) : Int) := by omega
  have e2 : ((u : Int) % 10) = ((u % 10 : Nat) : Int) := by omega
  rw [e1, e2, Lib.itoa_nonneg, Lib.itoa_nonneg, Lib.itoa_nonneg, Lib.decDigits, dif_neg (by omega), Lib.decDigits_one (i := u % 10) (by omega)]
theorem itoa_neg' {n : Int} (h : n < 0) : Lib.itoa n = 45 :: Lib.itoa (-n) := by
  obtain ⟨u, rfl⟩ : ∃ u : Nat, n = -(u : Int) := ⟨n.natAbs, by omega⟩
  rw [Lib.itoa_neg u (by omega), Int.neg_neg, Lib.itoa_nonneg]
theorem itb_big {n : Int} (h : 10 ≤ n) : itb (n / 10) ++ itb (n % 10) = itb n := by
  apply tx_ext
  rw [tx_app, tx_itb, tx_itb, tx_itb, itoa_big h]
theorem itb_neg {n : Int} (h : n < 0) : (⟨#[45]⟩ : ByteArray) ++ itb (-n) = itb n := by
  apply tx_ext
  rw [tx_app, tx_itb, tx_itb, itoa_neg' h]; rfl
theorem itb_negbig {n : Int} (h : n ≤ -10) : ((⟨#[45]⟩ : ByteArray) ++ itb (-n / 10)) ++ itb (-n % 10) = itb n := by
  apply tx_ext
  rw [tx_app, tx_app, tx_itb, tx_itb, tx_itb, itoa_neg' (n := n) (by omega), itoa_big (n := -n) (by omega)]; rfl
/-- The bytes of a numeral. -/
theorem dec_bytes : ∀ (k u : Nat), u ≤ k → ∀ b, b ∈ Lib.decDigits u → 48 ≤ b.toNat ∧ b.toNat ≤ 57
  | 0, u, hu, b, hb => by
    rw [Lib.decDigits_one (by omega)] at hb
    simp only [List.mem_cons, List.not_mem_nil, or_false] at hb
    subst hb
    rw [UInt8.toNat_ofNat']; omega
  | k + 1, u, hu, b, hb => by
    by_cases h : u < 10
    · rw [Lib.decDigits_one h] at hb
      simp only [List.mem_cons, List.not_mem_nil, or_false] at hb
      subst hb
      rw [UInt8.toNat_ofNat']; omega
    · rw [Lib.decDigits, dif_neg h, List.mem_append] at hb
      rcases hb with hb | hb
      · exact dec_bytes k (u / 10) (by omega) b hb
      · simp only [List.mem_cons, List.not_mem_nil, or_false] at hb
        subst hb
        rw [UInt8.toNat_ofNat']; omega
theorem itoa_bytes {n : Int} {b : UInt8} (h : b ∈ Lib.itoa n) : b.toNat = 45 ∨ (48 ≤ b.toNat ∧ b.toNat ≤ 57) := by
  unfold Lib.itoa at h
  split at h
  · rcases List.mem_cons.1 h with rfl | h
    · exact .inl rfl
    · exact .inr (dec_bytes _ _ (Nat.le_refl _) _ h)
  · exact .inr (dec_bytes _ _ (Nat.le_refl _) _ h)
/-- The number that digits say. -/
def decVal (l : List UInt8) : Nat := l.foldl (fun a b => a * 10 + (b.toNat - 48)) 0
theorem decVal_dec : ∀ (k u : Nat), u ≤ k → decVal (Lib.decDigits u) = u
  | 0, u, hu => by
    rw [Lib.decDigits_one (by omega)]
    simp only [decVal, List.foldl_cons, List.foldl_nil, UInt8.toNat_ofNat']; omega
  | k + 1, u, hu => by
    by_cases h : u < 10
    · rw [Lib.decDigits_one h]
      simp only [decVal, List.foldl_cons, List.foldl_nil, UInt8.toNat_ofNat']; omega
    · rw [Lib.decDigits, dif_neg h]
      have ih := decVal_dec k (u / 10) (by omega)
      unfold decVal at ih ⊢
      rw [List.foldl_append, ih]
      simp only [List.foldl_cons, List.foldl_nil, UInt8.toNat_ofNat']; omega
theorem dec_inj {u v : Nat} (h : Lib.decDigits u = Lib.decDigits v) : u = v := by
  rw [← decVal_dec u u (Nat.le_refl _), h, decVal_dec v v (Nat.le_refl _)]
theorem itoa_inj {a b : Int} (h : Lib.itoa a = Lib.itoa b) : a = b := by
  have hd : ∀ u : Nat, ∀ l, Lib.decDigits u ≠ 45 :: l := fun u l h => by
    have := dec_bytes u u (Nat.le_refl _) 45 (by rw [h]; simp)
    simp at this
  unfold Lib.itoa at h
  split at h <;> split at h
  · have := dec_inj (List.cons.inj h).2; omega
  · exact absurd h.symm (hd _ _)
  · exact absurd h (hd _ _)
  · have := dec_inj h; omega
theorem sz_itb {n : Int} (h0 : -9223372036854775808 ≤ n) (h1 : n ≤ 9223372036854775807) : ((itb n).size : Int) ≤ 21 := by
  have := Lib.itoa_length_le n h0 h1
  have e : (itb n).size = (Lib.itoa n).length := rfl
  omega
/-- A text that is short enough. -/
def Sz (b : ByteArray) : Prop := b.size ≤ 1000000000
theorem Sz.le {b : ByteArray} (h : Sz b) : (fun s : ByteArray => (s.size : Int)) b ≤ 9223372036854775807 := by
  unfold Sz at h
  simp only
  omega
theorem sz_num {n : Int} {b : ByteArray} (h0 : -9223372036854775808 ≤ n) (h1 : n ≤ 9223372036854775807) (eb : b = itb n) : Sz b := by
  have := sz_itb h0 h1
  subst eb
  unfold Sz
  omega
theorem len_join (xs : List (List UInt8)) (c : UInt8) : (Lib.join xs [c]).length ≤ Lib.lens xs + xs.length := by
  cases xs with
  | nil => simp [Lib.join_nil, Lib.lens]
  | cons x r =>
    rw [Lib.join_cons, List.length_append, Lib.joinTail_length]
    simp only [Lib.lens, List.map_cons, List.sum_cons, List.length_cons, List.length_nil]
    omega
theorem lens_le {m : Nat} : ∀ (xs : List (List UInt8)), (∀ x, x ∈ xs → x.length ≤ m) → Lib.lens xs ≤ m * xs.length
  | [], _ => by simp [Lib.lens]
  | x :: r, h => by
    have h1 := h x (by simp)
    have h2 := lens_le r fun y hy => h y (by simp [hy])
    simp only [Lib.lens, List.map_cons, List.sum_cons, List.length_cons] at h2 ⊢
    rw [Nat.mul_succ]; omega
def In64 (n : Int) : Prop := -9223372036854775808 ≤ n ∧ n ≤ 9223372036854775807
theorem len_itoa {n : Int} (h : In64 n) : (Lib.itoa n).length ≤ 21 := Lib.itoa_length_le n h.1 h.2
/-- A span's ends, a route, as words. -/
def endsL (a b : Int) : List UInt8 := Lib.itoa a ++ [46, 46] ++ Lib.itoa b
def pathL (l : List Int) : List UInt8 := Lib.join (l.map Lib.itoa) [45]
theorem len_path {l : List Int} (h : ∀ n, n ∈ l → In64 n) : (pathL l).length ≤ 22 * l.length := by
  have h1 := len_join (l.map Lib.itoa) 45
  have h2 := lens_le (m := 21) (l.map Lib.itoa) fun x hx => by
    obtain ⟨n, hn, rfl⟩ := List.mem_map.1 hx
    exact len_itoa (h n hn)
  rw [List.length_map] at h1 h2
  unfold pathL
  omega
def bk (l : List UInt8) : ByteArray := ⟨l.toArray⟩
theorem tx_bk (l : List UInt8) : tx (bk l) = l := rfl
theorem bk_app (a b : List UInt8) : bk a ++ bk b = bk (a ++ b) := by
  apply tx_ext
  rw [tx_app, tx_bk, tx_bk, tx_bk]
theorem sz_bk {l : List UInt8} {b : ByteArray} (h : l.length ≤ 1000000000) (e : b = bk l) : Sz b := by
  subst e; exact h
/-- What is told of a train. -/
structure Lr where
  c : Int
  m : Int
  g : Int
  lo : Int
  hi : Int
  est : Int
  slo : Int
  shi : Int
  nom : Int
  dist : Int
  rs : List (List Int)
  fit : Int
  b1 : Bool
  b2 : Bool
  s0 : Int
  s1 : Int
  b3 : Bool
  b4 : Bool
  b5 : Bool
  b6 : Bool
  b7 : Bool
  mlo : Int
  mhi : Int
  perm : Int
  c0 : Int
  c1 : Int
  c2 : Int
  c3 : Int
  k0 : Int
  k1 : Int
  k2 : Int
  k3 : Int
structure LrOk (o : Lr) : Prop where
  c : In64 o.c
  g : In64 o.g
  lo : In64 o.lo
  hi : In64 o.hi
  est : In64 o.est
  slo : In64 o.slo
  shi : In64 o.shi
  fit : In64 o.fit
  s0 : In64 o.s0
  s1 : In64 o.s1
  rs : ∀ r, r ∈ o.rs → ∀ n, n ∈ r → In64 n
def modeL (m : Int) : List UInt8 := if m = 1 then [117, 110, 108, 111, 99, 97, 116, 101, 100] else if m = 2 then [108, 111, 99, 97, 116, 101, 100] else if m = 3 then [100, 101, 103, 114, 97, 100, 101, 100] else if m = 4 then [102, 97, 105, 108, 101, 100] else []
def waysL (rs : List (List Int)) : List UInt8 := Lib.join (rs.map pathL) [44]
def placedL (o : Lr) : List (List UInt8) := if o.g = 0 then [] else [[103, 114, 111, 117, 112], Lib.itoa o.g, [97, 116], endsL o.lo o.hi, [101, 115, 116], Lib.itoa o.est, [119, 97, 121, 115], waysL o.rs]
def saidL (l : List (Bool × List UInt8)) : List (List UInt8) := (l.filter (·.1)).map (·.2)
def flagsL (o : Lr) : List (Bool × List UInt8) := [(o.b1, [99, 108, 101, 97, 110]), (o.b2, [99, 111, 110, 102, 108, 105, 99, 116]), (o.b3, [97, 99, 99, 101, 112, 116, 101, 100]), (o.b4, [102, 97, 117, 108, 116]), (o.b5, [115, 116, 105, 108, 108]), (o.b6, [114, 111, 108, 108]), (o.b7, [111, 118, 101, 114])]
def slipL (o : Lr) : List (List UInt8) := if o.s0 = 0 ∧ o.s1 = 0 then [] else [[115, 108, 105, 112], Lib.itoa o.s0, Lib.itoa o.s1]
def wordsL (o : Lr) : List (List UInt8) := [Lib.itoa o.c, modeL o.m] ++ placedL o ++ [[115, 112, 101, 101, 100], endsL o.slo o.shi, [102, 105, 116], Lib.itoa o.fit] ++ slipL o ++ saidL (flagsL o)
def lineB (o : Lr) : ByteArray := bk (Lib.join (wordsL o) [32])
theorem join_snoc (xs : List (List UInt8)) (y : List UInt8) (c : UInt8) (h : xs ≠ []) : Lib.join (xs ++ [y]) [c] = Lib.join xs [c] ++ [c] ++ y := by
  cases xs with
  | nil => exact absurd rfl h
  | cons x r =>
    rw [List.cons_append, Lib.join_cons, Lib.join_cons]
    simp [Lib.joinTail]
theorem itoa_ne_nil (n : Int) : Lib.itoa n ≠ [] := by
  unfold Lib.itoa
  split
  · simp
  · intro h
    have := Lib.decDigits_length n.toNat
    rw [h] at this
    have := Lib.nDigits_pos n.toNat
    simp at *
    omega
/-- Two pieces ahead of a byte that is in none of them. -/
theorem cut_inj {c : UInt8} : ∀ {a b x y : List UInt8}, c ∉ a → c ∉ b → a ++ c :: x = b ++ c :: y → a = b ∧ x = y
  | [], [], x, y, _, _, h => ⟨rfl, by simpa using h⟩
  | [], d :: b, x, y, _, hb, h => by
    simp only [List.nil_append, List.cons_append, List.cons.injEq] at h
    exact absurd (by rw [← h.1]; simp) hb
  | d :: a, [], x, y, ha, _, h => by
    simp only [List.nil_append, List.cons_append, List.cons.injEq] at h
    exact absurd (by rw [h.1]; simp) ha
  | d :: a, e :: b, x, y, ha, hb, h => by
    simp only [List.cons_append, List.cons.injEq] at h
    obtain ⟨h1, h2⟩ := cut_inj (fun h => ha (by simp [h])) (fun h => hb (by simp [h])) h.2
    exact ⟨by rw [h.1, h1], h2⟩
theorem join_inj {c : UInt8} : ∀ {xs ys : List (List UInt8)}, xs ≠ [] → ys ≠ [] → (∀ x, x ∈ xs → c ∉ x) → (∀ x, x ∈ ys → c ∉ x) → Lib.join xs [c] = Lib.join ys [c] → xs = ys
  | [], _, h, _, _, _, _ => absurd rfl h
  | _ :: _, [], _, h, _, _, _ => absurd rfl h
  | [x], [y], _, _, _, _, h => by rw [Lib.join_one, Lib.join_one] at h; rw [h]
  | [x], y :: z :: r, _, _, hx, _, h => by
    rw [Lib.join_one, Lib.join_cons] at h
    exact absurd (by rw [h]; simp [Lib.joinTail]) (hx x (by simp))
  | x :: z :: r, [y], _, _, _, hy, h => by
    rw [Lib.join_one, Lib.join_cons] at h
    exact absurd (by rw [← h]; simp [Lib.joinTail]) (hy y (by simp))
  | x :: z :: r, y :: z2 :: s, _, _, hx, hy, h => by
    have e : ∀ (a b : List UInt8) (l : List (List UInt8)), Lib.join (a :: b :: l) [c] = a ++ c :: Lib.join (b :: l) [c] := fun a b l => by
      rw [Lib.join_cons, Lib.join_cons]
      simp [Lib.joinTail]
    rw [e, e] at h
    obtain ⟨h1, h2⟩ := cut_inj (hx x (by simp)) (hy y (by simp)) h
    rw [h1, join_inj (by simp) (by simp) (fun a ha => hx a (by simp [ha])) (fun a ha => hy a (by simp [ha])) h2]
end Go.Proofs.YtikhbgnokkdpeaaDoor

/- The shelf's contracts at this dump, in plain words (printed by the kit's lay-plain.mjs). -/
namespace Go.Proofs
open Go.Shelf
def Tryd.itoaL_ren : Go.Shelf.Ren := ⟨fun | 171 => 8 | 243 => 17 | 246 => 23 | 283 => 27 | 284 => 28 | 285 => 29 | 286 => 30 | 129 => 34 | 317 => 33 | 318 => 35 | 319 => 36 | 320 => 37 | 337 => 38 | 338 => 39 | n => n, fun | 3 => 3 | 9 => 9 | 2 => 2 | 4 => 4 | 171 => 67 | 0 => 0 | 53 => 68 | 37 => 56 | 5 => 5 | 173 => 71 | 212 => 78 | 51 => 79 | 20 => 20 | 213 => 80 | 46 => 82 | 232 => 85 | 233 => 86 | n => n, fun | 17 => 0 | 18 => 2 | 19 => 3 | n => n⟩
theorem Tryd.itoaL : Go.Proofs.LaysM.n171 Tryd.prog Tryd.itoaL_ren := {
  mixed := by kernel_rfl
  f129 := Tryd.func34.trans (congrArg some (by kernel_rfl))
  f171 := Tryd.func8.trans (congrArg some (by kernel_rfl))
  f243 := Tryd.func17.trans (congrArg some (by kernel_rfl))
  f246 := Tryd.func23.trans (congrArg some (by kernel_rfl))
  f283 := Tryd.func27.trans (congrArg some (by kernel_rfl))
  f284 := Tryd.func28.trans (congrArg some (by kernel_rfl))
  f285 := Tryd.func29.trans (congrArg some (by kernel_rfl))
  f286 := Tryd.func30.trans (congrArg some (by kernel_rfl))
  f317 := Tryd.func33.trans (congrArg some (by kernel_rfl))
  f318 := Tryd.func35.trans (congrArg some (by kernel_rfl))
  f319 := Tryd.func36.trans (congrArg some (by kernel_rfl))
  f320 := Tryd.func37.trans (congrArg some (by kernel_rfl))
  f337 := Tryd.func38.trans (congrArg some (by kernel_rfl))
  f338 := Tryd.func39.trans (congrArg some (by kernel_rfl))
  t0 := Tryd.underlying0
  a0 := Tryd.isAgg0
  z0 := Tryd.sizeOf0
  v0 := Tryd.zeroValue0
  t2 := Tryd.underlying2
  a2 := Tryd.isAgg2
  z2 := Tryd.sizeOf2
  v2 := Tryd.zeroValue2
  t3 := Tryd.underlying3
  a3 := Tryd.isAgg3
  z3 := Tryd.sizeOf3
  v3 := Tryd.zeroValue3
  t4 := Tryd.underlying4
  a4 := Tryd.isAgg4
  z4 := Tryd.sizeOf4
  v4 := Tryd.zeroValue4
  t5 := Tryd.underlying5
  a5 := Tryd.isAgg5
  z5 := Tryd.sizeOf5
  v5 := Tryd.zeroValue5
  t9 := Tryd.underlying9
  a9 := Tryd.isAgg9
  z9 := Tryd.sizeOf9
  v9 := Tryd.zeroValue9
  t20 := Tryd.underlying20
  a20 := Tryd.isAgg20
  z20 := Tryd.sizeOf20
  v20 := Tryd.zeroValue20
  t37 := Tryd.underlying56
  a37 := Tryd.isAgg56
  z37 := Tryd.sizeOf56
  v37 := Tryd.zeroValue56
  t46 := Tryd.underlying82
  a46 := Tryd.isAgg82
  z46 := Tryd.sizeOf82
  v46 := Tryd.zeroValue82
  t51 := Tryd.underlying79
  a51 := Tryd.isAgg79
  z51 := Tryd.sizeOf79
  v51 := Tryd.zeroValue79
  t53 := Tryd.underlying68
  a53 := Tryd.isAgg68
  z53 := Tryd.sizeOf68
  v53 := Tryd.zeroValue68
  t171 := Tryd.underlying67
  a171 := Tryd.isAgg67
  z171 := Tryd.sizeOf67
  v171 := Tryd.zeroValue67
  t173 := Tryd.underlying71
  a173 := Tryd.isAgg71
  z173 := Tryd.sizeOf71
  v173 := Tryd.zeroValue71
  t212 := Tryd.underlying78
  a212 := Tryd.isAgg78
  z212 := Tryd.sizeOf78
  v212 := Tryd.zeroValue78
  t213 := Tryd.underlying80
  a213 := Tryd.isAgg80
  z213 := Tryd.sizeOf80
  t232 := Tryd.underlying85
  a232 := Tryd.isAgg85
  z232 := Tryd.sizeOf85
  v232 := Tryd.zeroValue85
  t233 := Tryd.underlying86
  a233 := Tryd.isAgg86
  z233 := Tryd.sizeOf86
  v233 := Tryd.zeroValue86
  g17 := by kernel_rfl
  g18 := by kernel_rfl
  g19 := by kernel_rfl
  i0 := by kernel_rfl
  i2 := by kernel_rfl
  i3 := by kernel_rfl
  i4 := by kernel_rfl
  i5 := by kernel_rfl
  i9 := by kernel_rfl
  i20 := by kernel_rfl
  i37 := by kernel_rfl
  i46 := by kernel_rfl
  i51 := by kernel_rfl
  i53 := by kernel_rfl
  i171 := by kernel_rfl
  i173 := by kernel_rfl
  i212 := by kernel_rfl
  i232 := by kernel_rfl
  i233 := by kernel_rfl
  m17 := by kernel_rfl
  m18 := by kernel_rfl
  m19 := by kernel_rfl }
def Tryd.formatL_ren : Go.Shelf.Ren := ⟨fun | 173 => 24 | 246 => 23 | 283 => 27 | 284 => 28 | 285 => 29 | 286 => 30 | 129 => 34 | 317 => 33 | 318 => 35 | 319 => 36 | 320 => 37 | 337 => 38 | 338 => 39 | n => n, fun | 2 => 2 | 3 => 3 | 9 => 9 | 4 => 4 | 171 => 67 | 0 => 0 | 53 => 68 | 37 => 56 | 5 => 5 | 173 => 71 | 212 => 78 | 51 => 79 | 20 => 20 | 213 => 80 | 46 => 82 | 232 => 85 | 233 => 86 | n => n, fun | 17 => 0 | 18 => 2 | 19 => 3 | n => n⟩
theorem Tryd.formatL : Go.Proofs.LaysM.n173 Tryd.prog Tryd.formatL_ren := {
  mixed := by kernel_rfl
  f129 := Tryd.func34.trans (congrArg some (by kernel_rfl))
  f173 := Tryd.func24.trans (congrArg some (by kernel_rfl))
  f246 := Tryd.func23.trans (congrArg some (by kernel_rfl))
  f283 := Tryd.func27.trans (congrArg some (by kernel_rfl))
  f284 := Tryd.func28.trans (congrArg some (by kernel_rfl))
  f285 := Tryd.func29.trans (congrArg some (by kernel_rfl))
  f286 := Tryd.func30.trans (congrArg some (by kernel_rfl))
  f317 := Tryd.func33.trans (congrArg some (by kernel_rfl))
  f318 := Tryd.func35.trans (congrArg some (by kernel_rfl))
  f319 := Tryd.func36.trans (congrArg some (by kernel_rfl))
  f320 := Tryd.func37.trans (congrArg some (by kernel_rfl))
  f337 := Tryd.func38.trans (congrArg some (by kernel_rfl))
  f338 := Tryd.func39.trans (congrArg some (by kernel_rfl))
  t0 := Tryd.underlying0
  a0 := Tryd.isAgg0
  z0 := Tryd.sizeOf0
  v0 := Tryd.zeroValue0
  t2 := Tryd.underlying2
  a2 := Tryd.isAgg2
  z2 := Tryd.sizeOf2
  v2 := Tryd.zeroValue2
  t3 := Tryd.underlying3
  a3 := Tryd.isAgg3
  z3 := Tryd.sizeOf3
  v3 := Tryd.zeroValue3
  t4 := Tryd.underlying4
  a4 := Tryd.isAgg4
  z4 := Tryd.sizeOf4
  v4 := Tryd.zeroValue4
  t5 := Tryd.underlying5
  a5 := Tryd.isAgg5
  z5 := Tryd.sizeOf5
  v5 := Tryd.zeroValue5
  t9 := Tryd.underlying9
  a9 := Tryd.isAgg9
  z9 := Tryd.sizeOf9
  v9 := Tryd.zeroValue9
  t20 := Tryd.underlying20
  a20 := Tryd.isAgg20
  z20 := Tryd.sizeOf20
  v20 := Tryd.zeroValue20
  t37 := Tryd.underlying56
  a37 := Tryd.isAgg56
  z37 := Tryd.sizeOf56
  v37 := Tryd.zeroValue56
  t46 := Tryd.underlying82
  a46 := Tryd.isAgg82
  z46 := Tryd.sizeOf82
  v46 := Tryd.zeroValue82
  t51 := Tryd.underlying79
  a51 := Tryd.isAgg79
  z51 := Tryd.sizeOf79
  v51 := Tryd.zeroValue79
  t53 := Tryd.underlying68
  a53 := Tryd.isAgg68
  z53 := Tryd.sizeOf68
  v53 := Tryd.zeroValue68
  t171 := Tryd.underlying67
  a171 := Tryd.isAgg67
  z171 := Tryd.sizeOf67
  v171 := Tryd.zeroValue67
  t173 := Tryd.underlying71
  a173 := Tryd.isAgg71
  z173 := Tryd.sizeOf71
  v173 := Tryd.zeroValue71
  t212 := Tryd.underlying78
  a212 := Tryd.isAgg78
  z212 := Tryd.sizeOf78
  v212 := Tryd.zeroValue78
  t213 := Tryd.underlying80
  a213 := Tryd.isAgg80
  z213 := Tryd.sizeOf80
  t232 := Tryd.underlying85
  a232 := Tryd.isAgg85
  z232 := Tryd.sizeOf85
  v232 := Tryd.zeroValue85
  t233 := Tryd.underlying86
  a233 := Tryd.isAgg86
  z233 := Tryd.sizeOf86
  v233 := Tryd.zeroValue86
  g17 := by kernel_rfl
  g18 := by kernel_rfl
  g19 := by kernel_rfl
  i0 := by kernel_rfl
  i2 := by kernel_rfl
  i3 := by kernel_rfl
  i4 := by kernel_rfl
  i5 := by kernel_rfl
  i9 := by kernel_rfl
  i20 := by kernel_rfl
  i37 := by kernel_rfl
  i46 := by kernel_rfl
  i51 := by kernel_rfl
  i53 := by kernel_rfl
  i171 := by kernel_rfl
  i173 := by kernel_rfl
  i212 := by kernel_rfl
  i232 := by kernel_rfl
  i233 := by kernel_rfl
  m17 := by kernel_rfl
  m18 := by kernel_rfl
  m19 := by kernel_rfl }
def Tryd.joinL_ren : Go.Shelf.Ren := ⟨fun | 156 => 13 | 165 => 20 | 166 => 21 | 169 => 22 | 240 => 25 | 241 => 26 | 276 => 31 | 277 => 32 | n => n, fun | 31 => 41 | 9 => 9 | 3 => 3 | 4 => 4 | 0 => 0 | 20 => 20 | 72 => 58 | 76 => 62 | 70 => 55 | 37 => 56 | 75 => 61 | 127 => 66 | 164 => 73 | 5 => 5 | 80 => 64 | n => n, fun | n => n⟩
theorem Tryd.joinL : Go.Proofs.Lays.n156 Tryd.prog Tryd.joinL_ren := {
  mixed := by kernel_rfl
  f156 := Tryd.func13.trans (congrArg some (by kernel_rfl))
  f165 := Tryd.func20.trans (congrArg some (by kernel_rfl))
  f166 := Tryd.func21.trans (congrArg some (by kernel_rfl))
  f169 := Tryd.func22.trans (congrArg some (by kernel_rfl))
  f240 := Tryd.func25.trans (congrArg some (by kernel_rfl))
  f241 := Tryd.func26.trans (congrArg some (by kernel_rfl))
  f276 := Tryd.func31.trans (congrArg some (by kernel_rfl))
  f277 := Tryd.func32.trans (congrArg some (by kernel_rfl))
  t0 := Tryd.underlying0
  a0 := Tryd.isAgg0
  z0 := Tryd.sizeOf0
  v0 := Tryd.zeroValue0
  t3 := Tryd.underlying3
  a3 := Tryd.isAgg3
  z3 := Tryd.sizeOf3
  v3 := Tryd.zeroValue3
  t4 := Tryd.underlying4
  a4 := Tryd.isAgg4
  z4 := Tryd.sizeOf4
  v4 := Tryd.zeroValue4
  t9 := Tryd.underlying9
  a9 := Tryd.isAgg9
  z9 := Tryd.sizeOf9
  v9 := Tryd.zeroValue9
  t20 := Tryd.underlying20
  a20 := Tryd.isAgg20
  z20 := Tryd.sizeOf20
  v20 := Tryd.zeroValue20
  t31 := Tryd.underlying41
  a31 := Tryd.isAgg41
  z31 := Tryd.sizeOf41
  v31 := Tryd.zeroValue41
  t37 := Tryd.underlying56
  a37 := Tryd.isAgg56
  z37 := Tryd.sizeOf56
  v37 := Tryd.zeroValue56
  t70 := Tryd.underlying55
  a70 := Tryd.isAgg55
  z70 := Tryd.sizeOf55
  v70 := Tryd.zeroValue55
  t72 := Tryd.underlying58
  a72 := Tryd.isAgg58
  z72 := Tryd.sizeOf58
  v72 := Tryd.zeroValue58
  t75 := Tryd.underlying61
  a75 := Tryd.isAgg61
  z75 := Tryd.sizeOf61
  v75 := Tryd.zeroValue61
  t76 := Tryd.underlying62
  a76 := Tryd.isAgg62
  z76 := Tryd.sizeOf62
  v76 := Tryd.zeroValue62
  t127 := Tryd.underlying66
  a127 := Tryd.isAgg66
  z127 := Tryd.sizeOf66
  v127 := Tryd.zeroValue66
  t164 := Tryd.underlying73
  a164 := Tryd.isAgg73
  z164 := Tryd.sizeOf73
  v164 := Tryd.zeroValue73 }
end Go.Proofs

/- The library's words of numbers and joined texts, as contracts of the engine. -/
set_option linter.unusedVariables false
set_option linter.unusedSimpArgs false
namespace Go.Proofs.YtikhbgnokkdpeaaDoor
open Go Go.RowKit Go.Eng Go.Shelf Go.Sort
set_option maxRecDepth 100000
theorem below_gr (w : World) (k : Nat) (os : Array Obj) : Below w.heap.size w (grow (w.drewN k) os) :=
  ⟨rfl, rfl, rfl, by simp [grow], fun b hb => by simp only [grow]; rw [Array.getElem?_append_left (by simpa using hb)]; rfl⟩
theorem vrs1 {C : Cfg} {x : AV} {vs : Array Value} (h : VRs C [x] vs) : ∃ v, vs = #[v] ∧ VR C x v := by
  obtain ⟨h1, h2⟩ := h
  match vs, h1 with
  | ⟨[v]⟩, _ => exact ⟨v, rfl, h2 0 x rfl⟩
theorem vrs2 {C : Cfg} {x y : AV} {vs : Array Value} (h : VRs C [x, y] vs) : ∃ u v, vs = #[u, v] ∧ VR C x u ∧ VR C y v := by
  obtain ⟨h1, h2⟩ := h
  match vs, h1 with
  | ⟨[u, v]⟩, _ => exact ⟨u, v, rfl, h2 0 x rfl, h2 1 y rfl⟩
theorem ent {P : Program} {g : FuncId} (h : (match P.funcs[g]? with | some fn => !fn.body.isNone && !(fn.name == "runtime.NumGoroutine") | none => false) = true) : Eng.Enters P g := by
  split at h
  · rename_i fn hf
    simp only [Bool.and_eq_true, Bool.not_eq_true'] at h
    exact ⟨fn, hf, h.1, h.2⟩
  · cases h
theorem e_itoa (n : Int) (h0 : -9223372036854775808 ≤ n) (h1 : n ≤ 9223372036854775807) : PCalls Tryd.prog 8 [.int .i64 n] (· = .str (itb n)) := by
  refine PCalls.of_below (ent (by kernel_rfl)) fun C vs hC RC hv => ?_
  obtain ⟨v, rfl, hV⟩ := vrs1 hv
  obtain rfl := hV.int'
  refine (Any.strconv_Itoa Tryd.itoaL n h0 h1 C.w (tab_of_rel (g := 0) RC (by kernel_rfl) (by rw [show Lib.pow10Tab.map (AV.int .u64) = _ from rfl]; exact List.mem_cons_self ..))).mono ?_
  rintro e w' ⟨rfl, k, os, rfl⟩
  exact ⟨_, _, rfl, rfl, fun D => .str _, below_gr _ _ _⟩
theorem e_format (n : Int) (h0 : -9223372036854775808 ≤ n) (h1 : n ≤ 9223372036854775807) : PCalls Tryd.prog 24 [.int .i64 n, .int .i64 10] (· = .str (itb n)) := by
  refine PCalls.of_below (ent (by kernel_rfl)) fun C vs hC RC hv => ?_
  obtain ⟨v, u, rfl, hV, hU⟩ := vrs2 hv
  obtain rfl := hV.int'
  obtain rfl := hU.int'
  refine (Any.strconv_FormatInt_10 Tryd.formatL n h0 h1 C.w (tab_of_rel (g := 0) RC (by kernel_rfl) (by rw [show Lib.pow10Tab.map (AV.int .u64) = _ from rfl]; exact List.mem_cons_self ..))).mono ?_
  rintro e w' ⟨rfl, k, os, rfl⟩
  exact ⟨_, _, rfl, rfl, fun D => .str _, below_gr _ _ _⟩
theorem joinX : Builder.Extra Tryd.prog Tryd.joinL_ren where
  sizeBuilder := by kernel_rfl
  liesBuilder := by kernel_rfl
  t5 := Tryd.underlying5
  a5 := Tryd.isAgg5
  z5 := Tryd.sizeOf5
  v5 := Tryd.zeroValue5
  infoByte := by kernel_rfl
  cellsByte := by kernel_rfl
  sizeByte := by kernel_rfl
  neB5 := by decide
def sRow (s : List UInt8) : List AV := [.str ⟨s.toArray⟩]
def jn (xs : List (List UInt8)) (c : UInt8) : ByteArray := ⟨(Lib.join xs [c]).toArray⟩
theorem e_join (xs : List (List UInt8)) (c : UInt8) (es : List (List AV)) (hes : es = xs.map sRow) (hN : xs.length ≤ 140737488355328) (hl : (Lib.join xs [c]).length ≤ 140737488355328) :
    PCalls Tryd.prog 13 [.list 1 es, .str ⟨#[c]⟩] (· = .str (jn xs c)) := by
  refine PCalls.of_below (ent (by kernel_rfl)) fun C vs hC RC hv => ?_
  obtain ⟨v, u, rfl, hV, hU⟩ := vrs2 hv
  obtain rfl := hU.str'
  rcases hV.lists with ⟨⟨a, cap, rfl⟩, he⟩ | ⟨a, cap, f, rfl, hcap, hsp, hz, hcell, hown, hvv⟩
  · have hx : xs = [] := by rw [hes] at he; exact List.map_eq_nil_iff.1 he
    subst hx
    refine (Any.strings_Join_none Tryd.joinL joinX a cap ⟨#[c]⟩ C.w).mono ?_
    rintro e w' ⟨rfl, rfl⟩
    exact ⟨_, _, rfl, rfl, fun D => .str _, Below.refl _ _⟩
  · have hel : es.length = xs.length := by rw [hes]; simp
    obtain ⟨bk, o, sp⟩ := a
    simp only at hsp
    subst hsp
    by_cases hx0 : xs = []
    · subst hx0
      have : es.length = 0 := hel
      rw [this]
      refine (Any.strings_Join_none Tryd.joinL joinX (some ⟨bk, o, none⟩) cap ⟨#[c]⟩ C.w).mono ?_
      rintro e w' ⟨rfl, rfl⟩
      exact ⟨_, _, rfl, rfl, fun D => .str _, Below.refl _ _⟩
    have hpos : 0 < es.length := by rw [hel]; exact List.length_pos_iff.2 hx0
    have hcells : ∀ (j : Nat) (x : ByteArray), (xs.map fun s => (⟨s.toArray⟩ : ByteArray))[j]? = some x → C.w.cell? ⟨bk, o + j, none⟩ = some (.string x) := fun j x hj => by
      rw [List.getElem?_map] at hj
      obtain ⟨s, hs, rfl⟩ := Option.map_eq_some_iff.1 hj
      have hjl : j < es.length := by rw [hel]; exact (List.getElem?_eq_some_iff.1 hs).1
      have h1 := hcell j 0 hjl (by decide)
      have h2 := hvv j (sRow s) (by rw [hes, List.getElem?_map, hs]; rfl) 0 _ rfl
      rw [h2.str'] at h1
      simpa using h1
    have hbk : bk < C.w.heap.size := World.block_lt_of_cell? _ _ (hcell 0 0 hpos (by decide))
    have hmm : (xs.map fun s => (⟨s.toArray⟩ : ByteArray)).map (·.data.toList) = xs := by
      rw [List.map_map]
      exact List.map_id'' (fun s => rfl) xs
    have hll : (xs.map fun s => (⟨s.toArray⟩ : ByteArray)).length = es.length := by rw [List.length_map, hel]
    have := Any.strings_Join Tryd.joinL joinX bk o cap (xs.map fun s => ⟨s.toArray⟩) ⟨#[c]⟩ C.w hcells hbk (by rw [List.length_map]; exact hN) (by rw [hll]; exact hcap) (by rw [hmm]; exact hl)
    rw [hmm, hll] at this
    refine this.mono ?_
    rintro e w' ⟨rfl, hb⟩
    exact ⟨_, _, rfl, rfl, fun D => .str _, hb⟩
end Go.Proofs.YtikhbgnokkdpeaaDoor

/- Numbers of 64 bits that do not go beyond. -/
set_option linter.unusedVariables false
namespace Go.Proofs.YtikhbgnokkdpeaaDoor
open Go Go.RowKit Go.Eng
theorem add64n {a b : Int} (h1 : -9223372036854775808 ≤ a + b) (h2 : a + b < 9223372036854775808) : std.1 .add .i64 a b = a + b := by
  show IntKind.i64.wrap (a + b) = _
  rw [IntKind.wrap_i64]; omega
theorem i_add {a b : Int} (h1 : -9223372036854775808 ≤ a + b) (h2 : a + b < 9223372036854775808) : binStd .add .i64 a b = a + b := add64n h1 h2
theorem i_sub {a b : Int} (h1 : -9223372036854775808 ≤ a - b) (h2 : a - b < 9223372036854775808) : binStd .sub .i64 a b = a - b := by
  show IntKind.i64.wrap (a - b) = _
  rw [IntKind.wrap_i64]; omega
theorem i_mul {a b : Int} (h1 : -9223372036854775808 ≤ a * b) (h2 : a * b < 9223372036854775808) : binStd .mul .i64 a b = a * b := by
  show IntKind.i64.wrap (a * b) = _
  rw [IntKind.wrap_i64]; omega
theorem i_neg {a : Int} (h1 : -9223372036854775808 < a) (h2 : a < 9223372036854775808) : unStd .neg .i64 a = -a := by
  show IntKind.i64.wrap (0 - a) = _
  rw [IntKind.wrap_i64]; omega
theorem i_quo {a b : Int} (h0 : 0 ≤ a) (h1 : 0 < b) (h2 : a < 9223372036854775808) : binStd .quo .i64 a b = a / b := by
  show IntKind.i64.wrap (a.tdiv b) = _
  rw [Int.tdiv_eq_ediv_of_nonneg h0]
  have h3 : a / b ≤ a := Int.ediv_le_self _ h0
  have h4 : 0 ≤ a / b := Int.ediv_nonneg h0 (by omega)
  rw [IntKind.wrap_i64]; omega
end Go.Proofs.YtikhbgnokkdpeaaDoor

/- Lists that are built row by row. -/
set_option linter.unusedVariables false
namespace Go.Proofs.YtikhbgnokkdpeaaDoor
open Go Go.RowKit Go.Eng
/-- Where a list is being built, row by row. -/
inductive Bd where
  | start
  | more (i : Int) (n : Nat) (fs : List (List AV))
def Bd.Ok (es : List (List AV)) : Bd → Prop
  | .start => True
  | .more i n fs => 0 < i ∧ i.toNat ≤ es.length ∧ fs = es.take i.toNat ∧ n = fs.length ∧ Up0 fs
def Bd.left (es : List (List AV)) : Bd → Nat
  | .start => es.length
  | .more i _ _ => es.length - i.toNat
theorem up_take {es : List (List AV)} (h : Up0 es) (n : Nat) : Up0 (es.take n) := by
  obtain ⟨h⟩ := h
  refine ⟨?_⟩
  induction es generalizing n with
  | nil => simpa using h
  | cons e t ih =>
    cases n with
    | zero => rfl
    | succ n =>
      simp only [uptoLL, Bool.and_eq_true] at h
      simp only [List.take_succ_cons, uptoLL, Bool.and_eq_true]
      exact ⟨h.1, ih n h.2⟩
theorem take_row {es : List (List AV)} {i : Int} {row : List AV} (h0 : 0 ≤ i) (hr : es[i.toNat]? = some row) : es.take (i + 1).toNat = es.take i.toNat ++ [row] := by
  rw [show (i + 1).toNat = i.toNat + 1 by omega, List.take_add_one, hr]; rfl
theorem up_map {D : Type} {f : D → List AV} (hf : ∀ d, uptoL 0 (f d) = true) (ds : List D) : Up0 (ds.map f) := by
  refine ⟨?_⟩
  induction ds with
  | nil => rfl
  | cons d t ih => exact Bool.and_eq_true_iff.mpr ⟨hf d, ih⟩
theorem get_map {D : Type} {f : D → List AV} {ds : List D} {i : Int} (h0 : 0 ≤ i) (h : i.toNat < ds.length) : ∃ d, ds[i.toNat]? = some d ∧ (ds.map f)[i.toNat]? = some (f d) := by
  have h1 := h
  exact ⟨ds[i.toNat], by rw [List.getElem?_eq_getElem h1], by simp [h1]⟩
end Go.Proofs.YtikhbgnokkdpeaaDoor

/- Digits, as the document has them, by the engine. -/
set_option linter.unusedVariables false
set_option linter.unusedSimpArgs false
namespace Go.Proofs.YtikhbgnokkdpeaaDoor
open Go Go.RowKit Go.Eng
set_option maxRecDepth 100000
theorem e_dig0 (n : Int) (h0 : 0 ≤ n) (h1 : n < 10) (b : ByteArray) (eb : b = itb n) : PCalls Tryd.prog 14 [.int .i64 n] (· = .str b) := by
  (refine PCalls.ofY Tryd.func14 (by kernel_rfl) (by kernel_rfl) fun w hw R hR => ?_); (obtain ⟨wbin, wcmp, wun, wconv, wnot, wbeq, wmm, wscmp, wsadd, wslen, wsat, weqs, wlen, wnlen, wofNat, wtake, wdrop, wapp, wzero, wnat⟩ := w); (have hbin : wbin = binStd := congrArg Prims.bin hw); (have hcmp : wcmp = cmpStd := congrArg Prims.cmp hw); (have hun : wun = unStd := congrArg Prims.un hw); (have hconv : wconv = fun k n => k.wrap n := congrArg Prims.conv hw); (have hnot : wnot = fun b => !b := congrArg Prims.not hw); (have hbeq : wbeq = fun a b => a == b := congrArg Prims.beq hw); (have hmm : wmm = maxI := congrArg Prims.mm hw); (have hscmp : wscmp = scmpStd := congrArg Prims.scmp hw); (have hsadd : wsadd = fun x y => x ++ y := congrArg Prims.sadd hw); (have hslen : wslen = fun s => (s.size : Int) := congrArg Prims.slen hw); (have hsat : wsat = std.sat := congrArg Prims.sat hw); (have heqs : weqs = fun a b os => (eqOffs a b os).getD false := congrArg Prims.eqs hw); (have hlen : wlen = fun es => (es.length : Int) := congrArg Prims.len hw); (have hnlen : wnlen = fun es => es.length := congrArg Prims.nlen hw); (have hofNat : wofNat = (fun n : Nat => (n : Int)) := congrArg Prims.ofNat hw); (have htake : wtake = fun es b => es.take b.toNat := congrArg Prims.take hw); (have hdrop : wdrop = fun es a => es.drop a.toNat := congrArg Prims.drop hw); (have happ : wapp = fun a b => a ++ b := congrArg Prims.app hw); (have hzero : wzero = fun n z => List.replicate n.toNat z := congrArg Prims.zero hw); (have hnat : wnat = fun n => n.toNat := congrArg Prims.nat hw); (conv => arg 2; cbv); (generalize hP : Tryd.prog = P); cbv
  have a1 : wcmp .leq n (-10) = false := by rw [hcmp]; simp [cmpStd]; omega
  have a2 : wcmp .lss n 0 = false := by rw [hcmp]; simp [cmpStd]; omega
  have a3 : wcmp .lss n 10 = true := by rw [hcmp]; simp [cmpStd]; omega
  repeat' (first
    | (simp only [a1]; cbv)
    | (simp only [a2]; cbv)
    | (simp only [a3]; cbv))
  refine ToS.mk b rfl ?_ ?_
  · have c1 : wconv .u8 (wbin .add .i64 48 n) = 48 + n := by
      rw [hbin, i_add (by omega) (by omega), hconv]; show IntKind.u8.wrap (48 + n) = _; rw [IntKind.wrap_u8]; omega
    have e : itb n = ⟨#[UInt8.ofNat (48 + n.toNat)]⟩ := by
      apply tx_ext
      rw [tx_itb, itoa_small h0 h1]; rfl
    rw [c1, eb, e]
    show _ = [[AV.int .u8 ((UInt8.ofNat (48 + n.toNat)).toNat : Int)]]
    rw [UInt8.toNat_ofNat']
    congr 3
    omega
  cbv
  exact ⟨_, Vw.same rfl, hR _ rfl⟩
theorem i_rem {a b : Int} (h0 : 0 ≤ a) (h1 : 0 < b) (h2 : a < 9223372036854775808) : binStd .rem .i64 a b = a % b := by
  show a.tmod b = _
  exact Int.tmod_eq_emod_of_nonneg h0
theorem e_dig1 (n q d : Int) (h0 : 10 ≤ n) (h1 : n < 9223372036854775808) (eq : q = n / 10) (ed : d = n % 10) (b bq bd : ByteArray) (eb : b = itb n) (ebq : bq = itb q) (ebd : bd = itb d) (ih : PCalls Tryd.prog 14 [.int .i64 q] (· = .str bq)) : PCalls Tryd.prog 14 [.int .i64 n] (· = .str b) := by
  have ih2 := e_dig0 d (by omega) (by omega) bd ebd
  (refine PCalls.ofY Tryd.func14 (by kernel_rfl) (by kernel_rfl) fun w hw R hR => ?_); (obtain ⟨wbin, wcmp, wun, wconv, wnot, wbeq, wmm, wscmp, wsadd, wslen, wsat, weqs, wlen, wnlen, wofNat, wtake, wdrop, wapp, wzero, wnat⟩ := w); (have hbin : wbin = binStd := congrArg Prims.bin hw); (have hcmp : wcmp = cmpStd := congrArg Prims.cmp hw); (have hun : wun = unStd := congrArg Prims.un hw); (have hconv : wconv = fun k n => k.wrap n := congrArg Prims.conv hw); (have hnot : wnot = fun b => !b := congrArg Prims.not hw); (have hbeq : wbeq = fun a b => a == b := congrArg Prims.beq hw); (have hmm : wmm = maxI := congrArg Prims.mm hw); (have hscmp : wscmp = scmpStd := congrArg Prims.scmp hw); (have hsadd : wsadd = fun x y => x ++ y := congrArg Prims.sadd hw); (have hslen : wslen = fun s => (s.size : Int) := congrArg Prims.slen hw); (have hsat : wsat = std.sat := congrArg Prims.sat hw); (have heqs : weqs = fun a b os => (eqOffs a b os).getD false := congrArg Prims.eqs hw); (have hlen : wlen = fun es => (es.length : Int) := congrArg Prims.len hw); (have hnlen : wnlen = fun es => es.length := congrArg Prims.nlen hw); (have hofNat : wofNat = (fun n : Nat => (n : Int)) := congrArg Prims.ofNat hw); (have htake : wtake = fun es b => es.take b.toNat := congrArg Prims.take hw); (have hdrop : wdrop = fun es a => es.drop a.toNat := congrArg Prims.drop hw); (have happ : wapp = fun a b => a ++ b := congrArg Prims.app hw); (have hzero : wzero = fun n z => List.replicate n.toNat z := congrArg Prims.zero hw); (have hnat : wnat = fun n => n.toNat := congrArg Prims.nat hw); (conv => arg 2; cbv); (generalize hP : Tryd.prog = P); cbv
  have a1 : wcmp .leq n (-10) = false := by rw [hcmp]; simp [cmpStd]; omega
  have a2 : wcmp .lss n 0 = false := by rw [hcmp]; simp [cmpStd]; omega
  have a3 : wcmp .lss n 10 = false := by rw [hcmp]; simp [cmpStd]; omega
  have b1 : wbin .quo .i64 n 10 = q := by rw [hbin, i_quo (by omega) (by decide) h1, eq]
  have b2 : wbin .rem .i64 n 10 = d := by rw [hbin, i_rem (by omega) (by decide) h1, ed]
  have s1 : wsadd bq bd = b := by rw [hsadd, ebq, ebd, eq, ed, eb]; exact itb_big h0
  repeat' (first
    | (simp only [a1]; cbv)
    | (simp only [a2]; cbv)
    | (simp only [a3]; cbv)
    | (refine Nz.mk (by decide) ?_)
    | (simp only [b1]; cbv)
    | (simp only [b2]; cbv)
    | (refine Call.stepE (by rw [← hP]; exact ih) rfl ?_; cbv)
    | (refine Call.stepE (by rw [← hP]; exact ih2) rfl ?_; cbv)
    | (simp only [s1])
    | (refine Le.mk (by rw [hslen]; exact (sz_num (n := n) (by omega) (by omega) eb).le) ?_))
  exact ⟨_, Vw.same rfl, hR _ rfl⟩
/-- All that aren't below 0. -/
theorem e_digN : ∀ (k n : Nat), n ≤ k → n < 9223372036854775808 → PCalls Tryd.prog 14 [.int .i64 n] (· = .str (itb n))
  | 0, n, h, _ => e_dig0 n (by omega) (by omega) _ rfl
  | k + 1, n, h, hm => by
    by_cases hn : n < 10
    · exact e_dig0 n (by omega) (by omega) _ rfl
    · have ih := e_digN k (n / 10) (by omega) (by omega)
      have e1 : ((n / 10 : Nat) : Int) = (n : Int) / 10 := by omega
      rw [e1] at ih
      exact e_dig1 n _ _ (by omega) (by omega) rfl rfl _ _ _ rfl rfl rfl ih
theorem e_digP (n : Int) (h0 : 0 ≤ n) (h1 : n < 9223372036854775808) : PCalls Tryd.prog 14 [.int .i64 n] (· = .str (itb n)) := by
  obtain ⟨u, rfl⟩ : ∃ u : Nat, n = u := ⟨n.toNat, by omega⟩
  exact e_digN u u (Nat.le_refl _) (by omega)
theorem i_quon {a b : Int} (h0 : a ≤ 0) (h1 : 0 < b) (h2 : -9223372036854775808 ≤ a) : binStd .quo .i64 a b = -(-a / b) := by
  show IntKind.i64.wrap (a.tdiv b) = _
  obtain ⟨u, rfl⟩ : ∃ u : Int, a = -u := ⟨-a, by omega⟩
  rw [Int.neg_tdiv, Int.tdiv_eq_ediv_of_nonneg (by omega), Int.neg_neg]
  have h3 : u / b ≤ u := Int.ediv_le_self _ (by omega)
  have h4 : 0 ≤ u / b := Int.ediv_nonneg (by omega) (by omega)
  rw [IntKind.wrap_i64]; omega
theorem i_remn {a b : Int} (h0 : a ≤ 0) (h1 : 0 < b) (h2 : -9223372036854775808 ≤ a) : binStd .rem .i64 a b = -(-a % b) := by
  show a.tmod b = _
  obtain ⟨u, rfl⟩ : ∃ u : Int, a = -u := ⟨-a, by omega⟩
  rw [Int.neg_tmod, Int.tmod_eq_emod_of_nonneg (by omega), Int.neg_neg]
theorem e_digM (n m : Int) (h0 : -10 < n) (h1 : n < 0) (em : m = -n) (b bm : ByteArray) (eb : b = itb n) (ebm : bm = itb m) : PCalls Tryd.prog 14 [.int .i64 n] (· = .str b) := by
  have ih := e_digP m (by omega) (by omega)
  rw [← ebm] at ih
  (refine PCalls.ofY Tryd.func14 (by kernel_rfl) (by kernel_rfl) fun w hw R hR => ?_); (obtain ⟨wbin, wcmp, wun, wconv, wnot, wbeq, wmm, wscmp, wsadd, wslen, wsat, weqs, wlen, wnlen, wofNat, wtake, wdrop, wapp, wzero, wnat⟩ := w); (have hbin : wbin = binStd := congrArg Prims.bin hw); (have hcmp : wcmp = cmpStd := congrArg Prims.cmp hw); (have hun : wun = unStd := congrArg Prims.un hw); (have hconv : wconv = fun k n => k.wrap n := congrArg Prims.conv hw); (have hnot : wnot = fun b => !b := congrArg Prims.not hw); (have hbeq : wbeq = fun a b => a == b := congrArg Prims.beq hw); (have hmm : wmm = maxI := congrArg Prims.mm hw); (have hscmp : wscmp = scmpStd := congrArg Prims.scmp hw); (have hsadd : wsadd = fun x y => x ++ y := congrArg Prims.sadd hw); (have hslen : wslen = fun s => (s.size : Int) := congrArg Prims.slen hw); (have hsat : wsat = std.sat := congrArg Prims.sat hw); (have heqs : weqs = fun a b os => (eqOffs a b os).getD false := congrArg Prims.eqs hw); (have hlen : wlen = fun es => (es.length : Int) := congrArg Prims.len hw); (have hnlen : wnlen = fun es => es.length := congrArg Prims.nlen hw); (have hofNat : wofNat = (fun n : Nat => (n : Int)) := congrArg Prims.ofNat hw); (have htake : wtake = fun es b => es.take b.toNat := congrArg Prims.take hw); (have hdrop : wdrop = fun es a => es.drop a.toNat := congrArg Prims.drop hw); (have happ : wapp = fun a b => a ++ b := congrArg Prims.app hw); (have hzero : wzero = fun n z => List.replicate n.toNat z := congrArg Prims.zero hw); (have hnat : wnat = fun n => n.toNat := congrArg Prims.nat hw); (conv => arg 2; cbv); (generalize hP : Tryd.prog = P); cbv
  have a1 : wcmp .leq n (-10) = false := by rw [hcmp]; simp [cmpStd]; omega
  have a2 : wcmp .lss n 0 = true := by rw [hcmp]; simp [cmpStd]; omega
  have b1 : wun .neg .i64 n = m := by rw [hun, i_neg (by omega) (by omega), em]
  have s1 : wsadd ⟨#[45]⟩ bm = b := by rw [hsadd, ebm, eb, em]; exact itb_neg h1
  repeat' (first
    | (simp only [a1]; cbv)
    | (simp only [a2]; cbv)
    | (simp only [b1]; cbv)
    | (refine Call.stepE (by rw [← hP]; exact ih) rfl ?_; cbv)
    | (simp only [s1])
    | (refine Le.mk (by rw [hslen]; exact (sz_num (n := n) (by omega) (by omega) eb).le) ?_))
  exact ⟨_, Vw.same rfl, hR _ rfl⟩
theorem e_digL (n q d : Int) (h0 : n ≤ -10) (h1 : -9223372036854775808 ≤ n) (eq : q = -n / 10) (ed : d = -n % 10) (b bq bd : ByteArray) (eb : b = itb n) (ebq : bq = itb q) (ebd : bd = itb d) : PCalls Tryd.prog 14 [.int .i64 n] (· = .str b) := by
  have ih := e_digP q (by omega) (by omega)
  rw [← ebq] at ih
  have ih2 := e_digP d (by omega) (by omega)
  rw [← ebd] at ih2
  obtain ⟨q2, eq2⟩ : ∃ z, z = -q := ⟨_, rfl⟩
  obtain ⟨d2, ed2⟩ : ∃ z, z = -d := ⟨_, rfl⟩
  (refine PCalls.ofY Tryd.func14 (by kernel_rfl) (by kernel_rfl) fun w hw R hR => ?_); (obtain ⟨wbin, wcmp, wun, wconv, wnot, wbeq, wmm, wscmp, wsadd, wslen, wsat, weqs, wlen, wnlen, wofNat, wtake, wdrop, wapp, wzero, wnat⟩ := w); (have hbin : wbin = binStd := congrArg Prims.bin hw); (have hcmp : wcmp = cmpStd := congrArg Prims.cmp hw); (have hun : wun = unStd := congrArg Prims.un hw); (have hconv : wconv = fun k n => k.wrap n := congrArg Prims.conv hw); (have hnot : wnot = fun b => !b := congrArg Prims.not hw); (have hbeq : wbeq = fun a b => a == b := congrArg Prims.beq hw); (have hmm : wmm = maxI := congrArg Prims.mm hw); (have hscmp : wscmp = scmpStd := congrArg Prims.scmp hw); (have hsadd : wsadd = fun x y => x ++ y := congrArg Prims.sadd hw); (have hslen : wslen = fun s => (s.size : Int) := congrArg Prims.slen hw); (have hsat : wsat = std.sat := congrArg Prims.sat hw); (have heqs : weqs = fun a b os => (eqOffs a b os).getD false := congrArg Prims.eqs hw); (have hlen : wlen = fun es => (es.length : Int) := congrArg Prims.len hw); (have hnlen : wnlen = fun es => es.length := congrArg Prims.nlen hw); (have hofNat : wofNat = (fun n : Nat => (n : Int)) := congrArg Prims.ofNat hw); (have htake : wtake = fun es b => es.take b.toNat := congrArg Prims.take hw); (have hdrop : wdrop = fun es a => es.drop a.toNat := congrArg Prims.drop hw); (have happ : wapp = fun a b => a ++ b := congrArg Prims.app hw); (have hzero : wzero = fun n z => List.replicate n.toNat z := congrArg Prims.zero hw); (have hnat : wnat = fun n => n.toNat := congrArg Prims.nat hw); (conv => arg 2; cbv); (generalize hP : Tryd.prog = P); cbv
  have a1 : wcmp .leq n (-10) = true := by rw [hcmp]; simp [cmpStd]; omega
  have b1 : wbin .quo .i64 n 10 = q2 := by rw [hbin, i_quon (by omega) (by decide) h1, eq2, eq]
  have b2 : wbin .rem .i64 n 10 = d2 := by rw [hbin, i_remn (by omega) (by decide) h1, ed2, ed]
  have b3 : wun .neg .i64 q2 = q := by rw [hun, i_neg (by omega) (by omega)]; omega
  have b4 : wun .neg .i64 d2 = d := by rw [hun, i_neg (by omega) (by omega)]; omega
  obtain ⟨bp, ebp⟩ : ∃ z, z = (⟨#[45]⟩ : ByteArray) ++ bq := ⟨_, rfl⟩
  have hS : Sz bp := by
    have h1 := sz_itb (n := q) (by omega) (by omega)
    rw [← ebq] at h1
    have h2 : bp.size = (⟨#[45]⟩ : ByteArray).size + bq.size := by rw [ebp, ByteArray.size_append]
    have h3 : (⟨#[45]⟩ : ByteArray).size = 1 := rfl
    unfold Sz
    omega
  have s2 : wsadd ⟨#[45]⟩ bq = bp := by rw [hsadd, ebp]
  have s1 : wsadd bp bd = b := by rw [hsadd, ebp, ebq, ebd, eq, ed, eb]; exact itb_negbig h0
  repeat' (first
    | (simp only [a1]; cbv)
    | (refine Nz.mk (by decide) ?_)
    | (simp only [b1]; cbv)
    | (simp only [b2]; cbv)
    | (simp only [b3]; cbv)
    | (simp only [b4]; cbv)
    | (refine Call.stepE (by rw [← hP]; exact ih) rfl ?_; cbv)
    | (refine Call.stepE (by rw [← hP]; exact ih2) rfl ?_; cbv)
    | (simp only [s1, s2])
    | (refine Le.mk (by rw [hslen]; first | exact hS.le | exact (sz_num (n := n) h1 (by omega) eb).le) ?_))
  exact ⟨_, Vw.same rfl, hR _ rfl⟩
theorem e_dig (n : Int) (h0 : -9223372036854775808 ≤ n) (h1 : n ≤ 9223372036854775807) (b : ByteArray) (eb : b = itb n) : PCalls Tryd.prog 14 [.int .i64 n] (· = .str b) := by
  by_cases h : 0 ≤ n
  · rw [eb]; exact e_digP n h (by omega)
  · by_cases h2 : -10 < n
    · exact e_digM n _ h2 (by omega) rfl _ _ eb rfl
    · exact e_digL n _ _ (by omega) h0 rfl rfl _ _ _ eb rfl rfl
end Go.Proofs.YtikhbgnokkdpeaaDoor

/- A track: segments, pieces, groups. -/
set_option linter.unusedVariables false
namespace Go.Proofs.YtikhbgnokkdpeaaDoor
open Go Go.RowKit Go.Eng
/-- A segment. -/
structure Sg where
  len : Int
  ps : List (Int × Int)
  nx : List Int
/-- A group. -/
structure Gr where
  id : Int
  seg : Int
  off : Int
  acc : Int
  sl : Int
def pcRow (p : Int × Int) : List AV := [.int .i64 p.1, .int .i64 p.2]
def nxRow (n : Int) : List AV := [.int .i64 n]
def sgRow (s : Sg) : List AV := [.int .i64 s.len, .list 2 (s.ps.map pcRow), .list 1 (s.nx.map nxRow)]
def grRow (g : Gr) : List AV := [.int .i64 g.id, .int .i64 g.seg, .int .i64 g.off, .int .i64 g.acc, .int .i64 g.sl]
theorem up_segRow {len : Int} {q n : List (List AV)} (hq : Up0 q) (hn : Up0 n) : uptoL 0 [.int .i64 len, .list 2 q, .list 1 n] = true :=
  Bool.and_eq_true_iff.mpr ⟨rfl, Up0.one hq (Up0.one hn rfl)⟩
theorem up_seg {len : Int} {q n : List (List AV)} (hq : Up0 q) (hn : Up0 n) : Up0 [[.int .i64 len, .list 2 q, .list 1 n]] :=
  ⟨Bool.and_eq_true_iff.mpr ⟨up_segRow hq hn, rfl⟩⟩
theorem up_pc (ps : List (Int × Int)) : Up0 (ps.map pcRow) := up_map (f := pcRow) (fun d => rfl) ps
theorem up_nx (ns : List Int) : Up0 (ns.map nxRow) := up_map (f := nxRow) (fun d => rfl) ns
theorem up_gr (gs : List Gr) : Up0 (gs.map grRow) := up_map (f := grRow) (fun d => rfl) gs
theorem up_sg (ss : List Sg) : Up0 (ss.map sgRow) := up_map (f := sgRow) (fun s => up_segRow (up_pc s.ps) (up_nx s.nx)) ss
end Go.Proofs.YtikhbgnokkdpeaaDoor

/- Lines, by the engine. -/
set_option linter.unusedVariables false
set_option linter.unusedSimpArgs false
namespace Go.Proofs.YtikhbgnokkdpeaaDoor
open Go Go.RowKit Go.Eng
set_option maxRecDepth 100000
def lrRow (o : Lr) (qs : List (List AV)) : List AV := [.int .i64 o.c, .int .i64 o.m, .int .i64 o.g, .int .i64 o.lo, .int .i64 o.hi, .int .i64 o.est, .int .i64 o.slo, .int .i64 o.shi, .int .i64 o.nom, .int .i64 o.dist, .list 1 qs, .int .i64 o.fit, .bool o.b1, .bool o.b2, .int .i64 o.s0, .int .i64 o.s1, .bool o.b3, .bool o.b4, .bool o.b5, .bool o.b6, .bool o.b7, .int .i64 o.mlo, .int .i64 o.mhi, .int .i64 o.perm, .int .i64 o.c0, .int .i64 o.c1, .int .i64 o.c2, .int .i64 o.c3, .int .i64 o.k0, .int .i64 o.k1, .int .i64 o.k2, .int .i64 o.k3]
theorem e_num (n : Int) (h : In64 n) (b : ByteArray) (eb : b = itb n) : PCalls Tryd.prog 19 [.int .i64 n] (· = .str b) := by
  have ih := e_format n h.1 h.2
  rw [← eb] at ih
  (refine PCalls.ofY Tryd.func19 (by kernel_rfl) (by kernel_rfl) fun w hw R hR => ?_); (obtain ⟨wbin, wcmp, wun, wconv, wnot, wbeq, wmm, wscmp, wsadd, wslen, wsat, weqs, wlen, wnlen, wofNat, wtake, wdrop, wapp, wzero, wnat⟩ := w); (have hbin : wbin = binStd := congrArg Prims.bin hw); (have hcmp : wcmp = cmpStd := congrArg Prims.cmp hw); (have hun : wun = unStd := congrArg Prims.un hw); (have hconv : wconv = fun k n => k.wrap n := congrArg Prims.conv hw); (have hnot : wnot = fun b => !b := congrArg Prims.not hw); (have hbeq : wbeq = fun a b => a == b := congrArg Prims.beq hw); (have hmm : wmm = maxI := congrArg Prims.mm hw); (have hscmp : wscmp = scmpStd := congrArg Prims.scmp hw); (have hsadd : wsadd = fun x y => x ++ y := congrArg Prims.sadd hw); (have hslen : wslen = fun s => (s.size : Int) := congrArg Prims.slen hw); (have hsat : wsat = std.sat := congrArg Prims.sat hw); (have heqs : weqs = fun a b os => (eqOffs a b os).getD false := congrArg Prims.eqs hw); (have hlen : wlen = fun es => (es.length : Int) := congrArg Prims.len hw); (have hnlen : wnlen = fun es => es.length := congrArg Prims.nlen hw); (have hofNat : wofNat = (fun n : Nat => (n : Int)) := congrArg Prims.ofNat hw); (have htake : wtake = fun es b => es.take b.toNat := congrArg Prims.take hw); (have hdrop : wdrop = fun es a => es.drop a.toNat := congrArg Prims.drop hw); (have happ : wapp = fun a b => a ++ b := congrArg Prims.app hw); (have hzero : wzero = fun n z => List.replicate n.toNat z := congrArg Prims.zero hw); (have hnat : wnat = fun n => n.toNat := congrArg Prims.nat hw); (conv => arg 2; cbv); (generalize hP : Tryd.prog = P); cbv
  refine Call.stepE (by rw [← hP]; exact ih) rfl ?_
  cbv
  exact ⟨_, Vw.same rfl, hR _ rfl⟩
theorem e_ends (x y : Int) (hx : In64 x) (hy : In64 y) (b : ByteArray) (eb : b = bk (endsL x y)) : PCalls Tryd.prog 11 [.agg [.int .i64 x, .int .i64 y]] (· = .str b) := by
  obtain ⟨bx, ebx⟩ : ∃ z, z = itb x := ⟨_, rfl⟩
  obtain ⟨by_, eby⟩ : ∃ z, z = itb y := ⟨_, rfl⟩
  obtain ⟨bp, ebp⟩ : ∃ z, z = bx ++ (⟨#[46, 46]⟩ : ByteArray) := ⟨_, rfl⟩
  have h1 := e_num x hx bx ebx
  have h2 := e_num y hy by_ eby
  have l1 := len_itoa hx
  have l2 := len_itoa hy
  have ep : bp = bk (Lib.itoa x ++ [46, 46]) := by rw [ebp, ebx]; exact bk_app _ _
  have z1 : Sz bp := sz_bk (by rw [List.length_append]; simp only [List.length_cons, List.length_nil]; omega) ep
  have z2 : Sz b := sz_bk (by unfold endsL; rw [List.length_append, List.length_append]; simp only [List.length_cons, List.length_nil]; omega) eb
  have f : bp ++ by_ = b := by rw [ep, eby, eb]; exact bk_app _ _
  clear l1 l2
  (refine PCalls.ofY Tryd.func11 (by kernel_rfl) (by kernel_rfl) fun w hw R hR => ?_); (obtain ⟨wbin, wcmp, wun, wconv, wnot, wbeq, wmm, wscmp, wsadd, wslen, wsat, weqs, wlen, wnlen, wofNat, wtake, wdrop, wapp, wzero, wnat⟩ := w); (have hbin : wbin = binStd := congrArg Prims.bin hw); (have hcmp : wcmp = cmpStd := congrArg Prims.cmp hw); (have hun : wun = unStd := congrArg Prims.un hw); (have hconv : wconv = fun k n => k.wrap n := congrArg Prims.conv hw); (have hnot : wnot = fun b => !b := congrArg Prims.not hw); (have hbeq : wbeq = fun a b => a == b := congrArg Prims.beq hw); (have hmm : wmm = maxI := congrArg Prims.mm hw); (have hscmp : wscmp = scmpStd := congrArg Prims.scmp hw); (have hsadd : wsadd = fun x y => x ++ y := congrArg Prims.sadd hw); (have hslen : wslen = fun s => (s.size : Int) := congrArg Prims.slen hw); (have hsat : wsat = std.sat := congrArg Prims.sat hw); (have heqs : weqs = fun a b os => (eqOffs a b os).getD false := congrArg Prims.eqs hw); (have hlen : wlen = fun es => (es.length : Int) := congrArg Prims.len hw); (have hnlen : wnlen = fun es => es.length := congrArg Prims.nlen hw); (have hofNat : wofNat = (fun n : Nat => (n : Int)) := congrArg Prims.ofNat hw); (have htake : wtake = fun es b => es.take b.toNat := congrArg Prims.take hw); (have hdrop : wdrop = fun es a => es.drop a.toNat := congrArg Prims.drop hw); (have happ : wapp = fun a b => a ++ b := congrArg Prims.app hw); (have hzero : wzero = fun n z => List.replicate n.toNat z := congrArg Prims.zero hw); (have hnat : wnat = fun n => n.toNat := congrArg Prims.nat hw); (conv => arg 2; cbv); (generalize hP : Tryd.prog = P); cbv
  have s1 : wsadd bx ⟨#[46, 46]⟩ = bp := by rw [hsadd, ebp]
  have s2 : wsadd bp by_ = b := by rw [hsadd]; exact f
  repeat' (first
    | (refine QCal.stepE (by rw [← hP]; exact h1) rfl ?_; cbv)
    | (refine QCal.stepE (by rw [← hP]; exact h2) rfl ?_; cbv)
    | (simp only [s1]; cbv)
    | (simp only [s2]; cbv)
    | (refine Le.mk (by rw [hslen]; first | exact z1.le | exact z2.le) ?_))
  exact ⟨_, Vw.same rfl, hR _ rfl⟩
theorem e_name (m : Int) (b : ByteArray) (eb : b = bk (modeL m)) : PCalls Tryd.prog 9 [.int .i64 m] (· = .str b) := by
  by_cases h : 1 ≤ m ∧ m ≤ 4
  · have hm : m = 1 ∨ m = 2 ∨ m = 3 ∨ m = 4 := by omega
    rcases hm with rfl | rfl | rfl | rfl
    all_goals
      subst eb
      (refine PCalls.ofY Tryd.func9 (by kernel_rfl) (by kernel_rfl) fun w hw R hR => ?_); (subst hw); (conv => arg 2; cbv); (generalize hP : Tryd.prog = P); cbv
      refine InN.mk (by decide) (by decide) ?_
      exact ⟨_, Vw.same rfl, hR _ rfl⟩
  · have e : b = ⟨#[]⟩ := by rw [eb]; unfold modeL; rw [if_neg (by omega), if_neg (by omega), if_neg (by omega), if_neg (by omega)]; rfl
    subst e
    clear eb
    (refine PCalls.ofY Tryd.func9 (by kernel_rfl) (by kernel_rfl) fun w hw R hR => ?_); (obtain ⟨wbin, wcmp, wun, wconv, wnot, wbeq, wmm, wscmp, wsadd, wslen, wsat, weqs, wlen, wnlen, wofNat, wtake, wdrop, wapp, wzero, wnat⟩ := w); (have hbin : wbin = binStd := congrArg Prims.bin hw); (have hcmp : wcmp = cmpStd := congrArg Prims.cmp hw); (have hun : wun = unStd := congrArg Prims.un hw); (have hconv : wconv = fun k n => k.wrap n := congrArg Prims.conv hw); (have hnot : wnot = fun b => !b := congrArg Prims.not hw); (have hbeq : wbeq = fun a b => a == b := congrArg Prims.beq hw); (have hmm : wmm = maxI := congrArg Prims.mm hw); (have hscmp : wscmp = scmpStd := congrArg Prims.scmp hw); (have hsadd : wsadd = fun x y => x ++ y := congrArg Prims.sadd hw); (have hslen : wslen = fun s => (s.size : Int) := congrArg Prims.slen hw); (have hsat : wsat = std.sat := congrArg Prims.sat hw); (have heqs : weqs = fun a b os => (eqOffs a b os).getD false := congrArg Prims.eqs hw); (have hlen : wlen = fun es => (es.length : Int) := congrArg Prims.len hw); (have hnlen : wnlen = fun es => es.length := congrArg Prims.nlen hw); (have hofNat : wofNat = (fun n : Nat => (n : Int)) := congrArg Prims.ofNat hw); (have htake : wtake = fun es b => es.take b.toNat := congrArg Prims.take hw); (have hdrop : wdrop = fun es a => es.drop a.toNat := congrArg Prims.drop hw); (have happ : wapp = fun a b => a ++ b := congrArg Prims.app hw); (have hzero : wzero = fun n z => List.replicate n.toNat z := congrArg Prims.zero hw); (have hnat : wnat = fun n => n.toNat := congrArg Prims.nat hw); (conv => arg 2; cbv); (generalize hP : Tryd.prog = P); cbv
    repeat' (split <;> rename_i h0 <;> (try (simp only [hbin, hcmp, hun, hconv, hnot, hbeq, hmm, hscmp, hsadd, hslen, hsat, heqs, hofNat, binStd, cmpStd, unStd, scmpStd, maxI, Bool.not_eq_true', Bool.not_eq_false', decide_eq_true_eq, decide_eq_false_iff_not, Int.not_lt, Int.not_le, if_true, if_false, Bool.false_eq_true, beq_iff_eq, bne_iff_ne, ne_eq, Bool.not_eq_eq_eq_not, Bool.not_true, Bool.not_false, beq_eq_false_iff_ne, bne_eq_false_iff_eq, Int.ofNat_eq_natCast, Bool.not_not, not_true_eq_false, not_false_eq_true, reduceCtorEq] at h0)) <;> (try cbv))
    all_goals first | (exact ⟨_, Vw.same rfl, hR _ rfl⟩) | (exfalso; omega)
def wRow (n : Int) : List AV := sRow (Lib.itoa n)
theorem up_s (xs : List (List UInt8)) : Up0 (xs.map sRow) := up_map (f := sRow) (fun d => rfl) xs
theorem e_path (l : List Int) (hl : ∀ n, n ∈ l → In64 n) (hn : l.length ≤ 1000000) (es : List (List AV)) (hes : es = l.map nxRow) (b : ByteArray) (eb : b = bk (pathL l)) : PCalls Tryd.prog 18 [.list 1 es] (· = .str b) := by
  have hu : Up0 es := by rw [hes]; exact up_nx l
  have hel : es.length = l.length := by rw [hes]; simp
  obtain ⟨ws, ews⟩ : ∃ z, z = l.map wRow := ⟨_, rfl⟩
  have huw : Up0 ws := by rw [ews]; exact up_map (f := wRow) (fun d => rfl) l
  have hj := e_join (l.map Lib.itoa) 45 ws (by rw [ews, List.map_map]; rfl) (by rw [List.length_map]; omega) (by have := len_path hl; unfold pathL at this; omega)
  rw [show jn (l.map Lib.itoa) 45 = b by rw [eb]; rfl] at hj
  have hwl : ws.length = l.length := by rw [ews]; simp
  have hget : ∀ i : Nat, i < l.length → ∃ (n : Int) (bn : ByteArray), l[i]? = some n ∧ es[i]? = some [.int .i64 n] ∧ In64 n ∧ bn = itb n ∧ ws.take (i + 1) = ws.take i ++ [[.str bn]] := fun i hi => by
    obtain ⟨n, hni⟩ : ∃ n, l[i]? = some n := ⟨_, List.getElem?_eq_getElem hi⟩
    refine ⟨n, _, hni, by rw [hes, List.getElem?_map, hni]; rfl, hl n (List.mem_of_getElem? hni), rfl, ?_⟩
    rw [List.take_add_one, ews, List.getElem?_map, hni]; rfl
  (refine PCalls.ofY Tryd.func18 (by kernel_rfl) (by kernel_rfl) fun w hw R hR => ?_); (obtain ⟨wbin, wcmp, wun, wconv, wnot, wbeq, wmm, wscmp, wsadd, wslen, wsat, weqs, wlen, wnlen, wofNat, wtake, wdrop, wapp, wzero, wnat⟩ := w); (have hbin : wbin = binStd := congrArg Prims.bin hw); (have hcmp : wcmp = cmpStd := congrArg Prims.cmp hw); (have hun : wun = unStd := congrArg Prims.un hw); (have hconv : wconv = fun k n => k.wrap n := congrArg Prims.conv hw); (have hnot : wnot = fun b => !b := congrArg Prims.not hw); (have hbeq : wbeq = fun a b => a == b := congrArg Prims.beq hw); (have hmm : wmm = maxI := congrArg Prims.mm hw); (have hscmp : wscmp = scmpStd := congrArg Prims.scmp hw); (have hsadd : wsadd = fun x y => x ++ y := congrArg Prims.sadd hw); (have hslen : wslen = fun s => (s.size : Int) := congrArg Prims.slen hw); (have hsat : wsat = std.sat := congrArg Prims.sat hw); (have heqs : weqs = fun a b os => (eqOffs a b os).getD false := congrArg Prims.eqs hw); (have hlen : wlen = fun es => (es.length : Int) := congrArg Prims.len hw); (have hnlen : wnlen = fun es => es.length := congrArg Prims.nlen hw); (have hofNat : wofNat = (fun n : Nat => (n : Int)) := congrArg Prims.ofNat hw); (have htake : wtake = fun es b => es.take b.toNat := congrArg Prims.take hw); (have hdrop : wdrop = fun es a => es.drop a.toNat := congrArg Prims.drop hw); (have happ : wapp = fun a b => a ++ b := congrArg Prims.app hw); (have hzero : wzero = fun n z => List.replicate n.toNat z := congrArg Prims.zero hw); (have hnat : wnat = fun n => n.toNat := congrArg Prims.nat hw); (conv => arg 2; cbv); (generalize hP : Tryd.prog = P); cbv
  (obtain ⟨L, eL, L0, Ln⟩ : ∃ L : Int, wlen es = L ∧ 0 ≤ L ∧ L.toNat = es.length := ⟨(es.length : Int), by rw [hlen], Int.natCast_nonneg _, Int.toNat_natCast _⟩)
  simp only [eL]
  refine Loop.data hw (S := Option (Int × Nat × List (List AV))) (fun s => match s with
      | none => fr 20 [(0, .list 1 es), (3, .nils), (6, .list 1 es), (7, .int .i64 L), (8, .int .i64 0)]
      | some (i, k, w) => fr 20 [(0, .list 1 es), (3, .sl 0 1 0 k), (6, .list 1 es), (7, .int .i64 L), (8, .int .i64 i)])
    (fun s => match s with
      | none => []
      | some (i, k, w) => [.live 1 w])
    (fun s => match s with
      | none => True
      | some (i, k, w) => 0 < i ∧ i ≤ L ∧ w = ws.take i.toNat ∧ Up0 w ∧ k = w.length) (fun s => match s with | none => L.toNat + 1 | some (i, _) => (L - i).toNat) none (by (refine Wk.eqz (id) (by first | exact fun i _ j _ e => e | (simp only [List.length_cons, List.length_nil]; decide)) ?_; cbv; (repeat' (first | exact trivial | rfl | assumption | apply And.intro | (simp only [hbin, hcmp, hun, hconv, hnot, hbeq, hmm, hscmp, hsadd, hslen, hsat, heqs, hofNat, binStd, cmpStd, unStd, scmpStd, maxI, Bool.not_eq_true', Bool.not_eq_false', decide_eq_true_eq, decide_eq_false_iff_not, Int.not_lt, Int.not_le, if_true, if_false, Bool.false_eq_true, beq_iff_eq, bne_iff_ne, ne_eq, Bool.not_eq_eq_eq_not, Bool.not_true, Bool.not_false, beq_eq_false_iff_ne, bne_eq_false_iff_eq, Int.ofNat_eq_natCast, Bool.not_not, not_true_eq_false, not_false_eq_true, reduceCtorEq]; first | done | assumption) | exact RowsZ.same (by assumption) (by first | assumption | rfl) | exact FzL.mk rfl rfl rfl (by assumption) (by first | assumption | rfl) (by decide) | (refine RowsZ.one ?_; cbv))))) trivial ?_
  rintro (_ | ⟨i, k, w⟩) hinv Q' hN hE hR'
  · cbv
    (split <;> rename_i hc <;> (try (simp only [hbin, hcmp, hun, hconv, hnot, hbeq, hmm, hscmp, hsadd, hslen, hsat, heqs, hofNat, binStd, cmpStd, unStd, scmpStd, maxI, Bool.not_eq_true', Bool.not_eq_false', decide_eq_true_eq, decide_eq_false_iff_not, Int.not_lt, Int.not_le, if_true, if_false, Bool.false_eq_true, beq_iff_eq, bne_iff_ne, ne_eq, Bool.not_eq_eq_eq_not, Bool.not_true, Bool.not_false, beq_eq_false_iff_ne, bne_eq_false_iff_eq, Int.ofNat_eq_natCast, Bool.not_not, not_true_eq_false, not_false_eq_true, reduceCtorEq] at hc)) <;> (try cbv))
    · obtain ⟨n, bn, g1, g2, g3, g4, g5⟩ := hget 0 (by omega)
      have a4 : wbin .add .i64 0 1 = 1 := by rw [hbin]; rfl
      have hi := e_itoa n g3.1 g3.2
      rw [← g4] at hi
      refine Idx.mk _ (by decide) g2 ?_
      cbv
      refine Call.stepE (by rw [← hP]; exact hi) rfl ?_
      cbv
      refine Ob.mk (by decide) ?_
      cbv
      simp only [a4]
      refine hN (some (1, 1, [[.str bn]])) _ _ ?hx ?hi ?ht
      case hx => (refine Wk.eqz (fun j => [0].getD j 0) (by first | exact fun i _ j _ e => e | (simp only [List.length_cons, List.length_nil]; decide)) ?_; cbv; (repeat' (first | exact trivial | rfl | assumption | apply And.intro | (simp only [hbin, hcmp, hun, hconv, hnot, hbeq, hmm, hscmp, hsadd, hslen, hsat, heqs, hofNat, binStd, cmpStd, unStd, scmpStd, maxI, Bool.not_eq_true', Bool.not_eq_false', decide_eq_true_eq, decide_eq_false_iff_not, Int.not_lt, Int.not_le, if_true, if_false, Bool.false_eq_true, beq_iff_eq, bne_iff_ne, ne_eq, Bool.not_eq_eq_eq_not, Bool.not_true, Bool.not_false, beq_eq_false_iff_ne, bne_eq_false_iff_eq, Int.ofNat_eq_natCast, Bool.not_not, not_true_eq_false, not_false_eq_true, reduceCtorEq]; first | done | assumption) | exact RowsZ.same (by assumption) (by first | assumption | rfl) | exact FzL.mk rfl rfl rfl (by assumption) (by first | assumption | rfl) (by decide) | (refine RowsZ.one ?_; cbv))))
      case hi => exact ⟨by decide, by omega, by rw [show (1 : Int).toNat = 0 + 1 from rfl, g5]; rfl, ⟨rfl⟩, rfl⟩
      case ht => show (L - 1).toNat < L.toNat + 1; omega
    · refine hE _ _ _ ?_
      cbv
      have e0 : ws = [] := List.length_eq_zero_iff.1 (by omega)
      subst e0
      refine Call.view (args' := [.list 1 [], .str ⟨#[45]⟩]) (by rw [← hP]; exact hj) ⟨Vw.nil 1, Vw.same rfl, trivial⟩ ?_
      rintro r rfl
      refine ⟨rfl, ?_⟩
      cbv
      exact ⟨_, Vw.same rfl, hR _ rfl⟩
  · have hinv : 0 < i ∧ i ≤ L ∧ w = ws.take i.toNat ∧ Up0 w ∧ k = w.length := hinv
    cbv
    obtain ⟨h0, h1, hw1, hw2, hk⟩ := hinv
    have hkl : w.length ≤ l.length := by rw [hw1, List.length_take]; omega
    (split <;> rename_i hc <;> (try (simp only [hbin, hcmp, hun, hconv, hnot, hbeq, hmm, hscmp, hsadd, hslen, hsat, heqs, hofNat, binStd, cmpStd, unStd, scmpStd, maxI, Bool.not_eq_true', Bool.not_eq_false', decide_eq_true_eq, decide_eq_false_iff_not, Int.not_lt, Int.not_le, if_true, if_false, Bool.false_eq_true, beq_iff_eq, bne_iff_ne, ne_eq, Bool.not_eq_eq_eq_not, Bool.not_true, Bool.not_false, beq_eq_false_iff_ne, bne_eq_false_iff_eq, Int.ofNat_eq_natCast, Bool.not_not, not_true_eq_false, not_false_eq_true, reduceCtorEq] at hc)) <;> (try cbv))
    · obtain ⟨n, bn, g1, g2, g3, g4, g5⟩ := hget i.toNat (by omega)
      obtain ⟨i2, ei2⟩ : ∃ z, z = i + 1 := ⟨_, rfl⟩
      have a4 : wbin .add .i64 i 1 = i2 := by rw [hbin, i_add (by omega) (by omega), ei2]
      have hi := e_itoa n g3.1 g3.2
      rw [← g4] at hi
      refine Idx.mk _ (by omega) g2 ?_
      cbv
      refine Call.stepE (by rw [← hP]; exact hi) rfl ?_
      cbv
      obtain ⟨w2, ew2⟩ : ∃ z, z = w ++ [[AV.str bn]] := ⟨_, rfl⟩
      obtain ⟨k2, ek2⟩ : ∃ z, z = k + 1 := ⟨_, rfl⟩
      have ht2 : w2 = ws.take i2.toNat := by rw [ew2, hw1, ei2, show (i + 1).toNat = i.toNat + 1 by omega, g5]
      have hu2 : Up0 w2 := by rw [ht2]; exact up_take huw _
      have hl2 : w2.length = k2 := by rw [ew2, ek2, hk]; simp
      refine App.mk w2 k2 ew2 hk ek2 (by omega) (by omega) ?_
      cbv
      simp only [a4]
      refine hN (some (i2, k2, w2)) _ _ ?hx ?hi ?ht
      case hx => (refine Wk.eqz (fun j => [1].getD j 0) (by first | exact fun i _ j _ e => e | (simp only [List.length_cons, List.length_nil]; decide)) ?_; cbv; (repeat' (first | exact trivial | rfl | assumption | apply And.intro | (simp only [hbin, hcmp, hun, hconv, hnot, hbeq, hmm, hscmp, hsadd, hslen, hsat, heqs, hofNat, binStd, cmpStd, unStd, scmpStd, maxI, Bool.not_eq_true', Bool.not_eq_false', decide_eq_true_eq, decide_eq_false_iff_not, Int.not_lt, Int.not_le, if_true, if_false, Bool.false_eq_true, beq_iff_eq, bne_iff_ne, ne_eq, Bool.not_eq_eq_eq_not, Bool.not_true, Bool.not_false, beq_eq_false_iff_ne, bne_eq_false_iff_eq, Int.ofNat_eq_natCast, Bool.not_not, not_true_eq_false, not_false_eq_true, reduceCtorEq]; first | done | assumption) | exact RowsZ.same (by assumption) (by first | assumption | rfl) | exact FzL.mk rfl rfl rfl (by assumption) (by first | assumption | rfl) (by decide) | (refine RowsZ.one ?_; cbv))))
      case hi => exact ⟨by omega, by omega, ht2, hu2, hl2.symm⟩
      case ht => show (L - i2).toNat < (L - i).toNat; omega
    · refine hE _ _ _ ?_
      cbv
      have e0 : w = ws := by rw [hw1, List.take_of_length_le (by omega)]
      subst e0
      refine Call.view (args' := [.list 1 ((w.drop 0).take k), .str ⟨#[45]⟩]) (by rw [← hP, List.drop_zero, List.take_of_length_le (by omega)]; exact hj) ⟨Vw.sl rfl hw2.get (by omega), Vw.same rfl, trivial⟩ ?_
      rintro r rfl
      refine ⟨rfl, ?_⟩
      cbv
      exact ⟨_, Vw.same rfl, hR _ rfl⟩
end Go.Proofs.YtikhbgnokkdpeaaDoor

/- Lines, by the engine: what is said, and a place. -/
set_option linter.unusedVariables false
set_option linter.unusedSimpArgs false
namespace Go.Proofs.YtikhbgnokkdpeaaDoor
open Go Go.RowKit Go.Eng
set_option maxRecDepth 100000
def fgRow (f : Bool × List UInt8) : List AV := [.bool f.1, .str ⟨f.2.toArray⟩]
theorem said_none {l : List (Bool × List UInt8)} {i : Nat} {x : List UInt8} (h : l[i]? = some (false, x)) : saidL (l.take (i + 1)) = saidL (l.take i) := by
  rw [List.take_add_one, h]; simp [saidL]
theorem said_some {l : List (Bool × List UInt8)} {i : Nat} {x : List UInt8} (h : l[i]? = some (true, x)) : saidL (l.take (i + 1)) = saidL (l.take i) ++ [x] := by
  rw [List.take_add_one, h]; simp [saidL]
def SaidO (l : List (Bool × List UInt8)) (i : Int) : Option (Nat × List (List AV)) → Prop
  | none => saidL (l.take i.toNat) = []
  | some (k, w) => w = (saidL (l.take i.toNat)).map sRow ∧ Up0 w ∧ k = w.length ∧ k ≤ i.toNat
theorem e_said (l : List (Bool × List UInt8)) (hl : l.length ≤ 1000) (es : List (List AV)) (hes : es = l.map fgRow) (ws : List (List AV)) (ews : ws = (saidL l).map sRow) : PCalls Tryd.prog 12 [.list 2 es] (· = .list 1 ws) := by
  have hu : Up0 es := by rw [hes]; exact up_map (f := fgRow) (fun d => rfl) l
  have hel : es.length = l.length := by rw [hes]; simp
  have hget : ∀ i : Nat, i < l.length → ∃ (c : Bool) (x : List UInt8) (b : ByteArray), l[i]? = some (c, x) ∧ es[i]? = some [.bool c, .str b] ∧ b = ⟨x.toArray⟩ := fun i hi => by
    obtain ⟨⟨c, x⟩, hni⟩ : ∃ n, l[i]? = some n := ⟨_, List.getElem?_eq_getElem hi⟩
    exact ⟨c, x, _, hni, by rw [hes, List.getElem?_map, hni]; rfl, rfl⟩
  (refine PCalls.ofY Tryd.func12 (by kernel_rfl) (by kernel_rfl) fun w hw R hR => ?_); (obtain ⟨wbin, wcmp, wun, wconv, wnot, wbeq, wmm, wscmp, wsadd, wslen, wsat, weqs, wlen, wnlen, wofNat, wtake, wdrop, wapp, wzero, wnat⟩ := w); (have hbin : wbin = binStd := congrArg Prims.bin hw); (have hcmp : wcmp = cmpStd := congrArg Prims.cmp hw); (have hun : wun = unStd := congrArg Prims.un hw); (have hconv : wconv = fun k n => k.wrap n := congrArg Prims.conv hw); (have hnot : wnot = fun b => !b := congrArg Prims.not hw); (have hbeq : wbeq = fun a b => a == b := congrArg Prims.beq hw); (have hmm : wmm = maxI := congrArg Prims.mm hw); (have hscmp : wscmp = scmpStd := congrArg Prims.scmp hw); (have hsadd : wsadd = fun x y => x ++ y := congrArg Prims.sadd hw); (have hslen : wslen = fun s => (s.size : Int) := congrArg Prims.slen hw); (have hsat : wsat = std.sat := congrArg Prims.sat hw); (have heqs : weqs = fun a b os => (eqOffs a b os).getD false := congrArg Prims.eqs hw); (have hlen : wlen = fun es => (es.length : Int) := congrArg Prims.len hw); (have hnlen : wnlen = fun es => es.length := congrArg Prims.nlen hw); (have hofNat : wofNat = (fun n : Nat => (n : Int)) := congrArg Prims.ofNat hw); (have htake : wtake = fun es b => es.take b.toNat := congrArg Prims.take hw); (have hdrop : wdrop = fun es a => es.drop a.toNat := congrArg Prims.drop hw); (have happ : wapp = fun a b => a ++ b := congrArg Prims.app hw); (have hzero : wzero = fun n z => List.replicate n.toNat z := congrArg Prims.zero hw); (have hnat : wnat = fun n => n.toNat := congrArg Prims.nat hw); (conv => arg 2; cbv); (generalize hP : Tryd.prog = P); cbv
  (obtain ⟨L, eL, L0, Ln⟩ : ∃ L : Int, wlen es = L ∧ 0 ≤ L ∧ L.toNat = es.length := ⟨(es.length : Int), by rw [hlen], Int.natCast_nonneg _, Int.toNat_natCast _⟩)
  simp only [eL]
  refine Loop.data hw (S := Int × Option (Nat × List (List AV))) (fun s => match s.2 with
      | none => fr 21 [(0, .list 2 es), (3, .nils), (6, .list 2 es), (7, .int .i64 L), (8, .int .i64 s.1)]
      | some (k, w) => fr 21 [(0, .list 2 es), (3, .sl 0 1 0 k), (6, .list 2 es), (7, .int .i64 L), (8, .int .i64 s.1)])
    (fun s => match s.2 with
      | none => []
      | some (k, w) => [.live 1 w])
    (fun s => 0 ≤ s.1 ∧ s.1 ≤ L ∧ SaidO l s.1 s.2) (fun s => (L - s.1).toNat) (0, none) (by (refine Wk.eqz (id) (by first | exact fun i _ j _ e => e | (simp only [List.length_cons, List.length_nil]; decide)) ?_; cbv; (repeat' (first | exact trivial | rfl | assumption | apply And.intro | (simp only [hbin, hcmp, hun, hconv, hnot, hbeq, hmm, hscmp, hsadd, hslen, hsat, heqs, hofNat, binStd, cmpStd, unStd, scmpStd, maxI, Bool.not_eq_true', Bool.not_eq_false', decide_eq_true_eq, decide_eq_false_iff_not, Int.not_lt, Int.not_le, if_true, if_false, Bool.false_eq_true, beq_iff_eq, bne_iff_ne, ne_eq, Bool.not_eq_eq_eq_not, Bool.not_true, Bool.not_false, beq_eq_false_iff_ne, bne_eq_false_iff_eq, Int.ofNat_eq_natCast, Bool.not_not, not_true_eq_false, not_false_eq_true, reduceCtorEq]; first | done | assumption) | exact RowsZ.same (by assumption) (by first | assumption | rfl) | exact FzL.mk rfl rfl rfl (by assumption) (by first | assumption | rfl) (by decide) | (refine RowsZ.one ?_; cbv))))) ⟨by decide, L0, rfl⟩ ?_
  rintro ⟨i, _ | ⟨k, w⟩⟩ hinv Q' hN hE hR'
  · have hinv : 0 ≤ i ∧ i ≤ L ∧ saidL (l.take i.toNat) = [] := hinv
    cbv
    obtain ⟨h0, h1, h2⟩ := hinv
    (split <;> rename_i hc <;> (try (simp only [hbin, hcmp, hun, hconv, hnot, hbeq, hmm, hscmp, hsadd, hslen, hsat, heqs, hofNat, binStd, cmpStd, unStd, scmpStd, maxI, Bool.not_eq_true', Bool.not_eq_false', decide_eq_true_eq, decide_eq_false_iff_not, Int.not_lt, Int.not_le, if_true, if_false, Bool.false_eq_true, beq_iff_eq, bne_iff_ne, ne_eq, Bool.not_eq_eq_eq_not, Bool.not_true, Bool.not_false, beq_eq_false_iff_ne, bne_eq_false_iff_eq, Int.ofNat_eq_natCast, Bool.not_not, not_true_eq_false, not_false_eq_true, reduceCtorEq] at hc)) <;> (try cbv))
    · obtain ⟨c, x, b, g1, g2, g3⟩ := hget i.toNat (by omega)
      obtain ⟨i2, ei2⟩ : ∃ z, z = i + 1 := ⟨_, rfl⟩
      have a4 : wbin .add .i64 i 1 = i2 := by rw [hbin, i_add (by omega) (by omega), ei2]
      have hT : (L - i2).toNat < (L - i).toNat := by omega
      have hI : i2.toNat = i.toNat + 1 := by omega
      refine Idx.mk _ h0 g2 ?_
      cases c
      · cbv
        simp only [a4]
        refine hN (i2, none) _ _ ?hx ?hi hT
        case hx => (refine Wk.eqz (id) (by first | exact fun i _ j _ e => e | (simp only [List.length_cons, List.length_nil]; decide)) ?_; cbv; (repeat' (first | exact trivial | rfl | assumption | apply And.intro | (simp only [hbin, hcmp, hun, hconv, hnot, hbeq, hmm, hscmp, hsadd, hslen, hsat, heqs, hofNat, binStd, cmpStd, unStd, scmpStd, maxI, Bool.not_eq_true', Bool.not_eq_false', decide_eq_true_eq, decide_eq_false_iff_not, Int.not_lt, Int.not_le, if_true, if_false, Bool.false_eq_true, beq_iff_eq, bne_iff_ne, ne_eq, Bool.not_eq_eq_eq_not, Bool.not_true, Bool.not_false, beq_eq_false_iff_ne, bne_eq_false_iff_eq, Int.ofNat_eq_natCast, Bool.not_not, not_true_eq_false, not_false_eq_true, reduceCtorEq]; first | done | assumption) | exact RowsZ.same (by assumption) (by first | assumption | rfl) | exact FzL.mk rfl rfl rfl (by assumption) (by first | assumption | rfl) (by decide) | (refine RowsZ.one ?_; cbv))))
        case hi => exact ⟨by simp only; omega, by simp only; omega, by show saidL (l.take i2.toNat) = []; rw [hI, said_none g1, h2]⟩
      · cbv
        refine Ob.mk (by decide) ?_
        cbv
        simp only [a4]
        refine hN (i2, some (1, [[.str b]])) _ _ ?hx ?hi hT
        case hx => (refine Wk.eqz (fun j => [1].getD j 0) (by first | exact fun i _ j _ e => e | (simp only [List.length_cons, List.length_nil]; decide)) ?_; cbv; (repeat' (first | exact trivial | rfl | assumption | apply And.intro | (simp only [hbin, hcmp, hun, hconv, hnot, hbeq, hmm, hscmp, hsadd, hslen, hsat, heqs, hofNat, binStd, cmpStd, unStd, scmpStd, maxI, Bool.not_eq_true', Bool.not_eq_false', decide_eq_true_eq, decide_eq_false_iff_not, Int.not_lt, Int.not_le, if_true, if_false, Bool.false_eq_true, beq_iff_eq, bne_iff_ne, ne_eq, Bool.not_eq_eq_eq_not, Bool.not_true, Bool.not_false, beq_eq_false_iff_ne, bne_eq_false_iff_eq, Int.ofNat_eq_natCast, Bool.not_not, not_true_eq_false, not_false_eq_true, reduceCtorEq]; first | done | assumption) | exact RowsZ.same (by assumption) (by first | assumption | rfl) | exact FzL.mk rfl rfl rfl (by assumption) (by first | assumption | rfl) (by decide) | (refine RowsZ.one ?_; cbv))))
        case hi => exact ⟨by simp only; omega, by simp only; omega, by rw [hI, said_some g1, h2, g3]; rfl, ⟨rfl⟩, rfl, by omega⟩
    · refine hE _ _ _ ?_
      cbv
      have : saidL l = [] := by rw [← h2, List.take_of_length_le (by omega)]
      exact ⟨_, Vw.nil 1, hR _ (by rw [ews, this]; rfl)⟩
  · have hinv : 0 ≤ i ∧ i ≤ L ∧ w = (saidL (l.take i.toNat)).map sRow ∧ Up0 w ∧ k = w.length ∧ k ≤ i.toNat := hinv
    cbv
    obtain ⟨h0, h1, h2, h3, h4, h5⟩ := hinv
    (split <;> rename_i hc <;> (try (simp only [hbin, hcmp, hun, hconv, hnot, hbeq, hmm, hscmp, hsadd, hslen, hsat, heqs, hofNat, binStd, cmpStd, unStd, scmpStd, maxI, Bool.not_eq_true', Bool.not_eq_false', decide_eq_true_eq, decide_eq_false_iff_not, Int.not_lt, Int.not_le, if_true, if_false, Bool.false_eq_true, beq_iff_eq, bne_iff_ne, ne_eq, Bool.not_eq_eq_eq_not, Bool.not_true, Bool.not_false, beq_eq_false_iff_ne, bne_eq_false_iff_eq, Int.ofNat_eq_natCast, Bool.not_not, not_true_eq_false, not_false_eq_true, reduceCtorEq] at hc)) <;> (try cbv))
    · obtain ⟨c, x, b, g1, g2, g3⟩ := hget i.toNat (by omega)
      obtain ⟨i2, ei2⟩ : ∃ z, z = i + 1 := ⟨_, rfl⟩
      have a4 : wbin .add .i64 i 1 = i2 := by rw [hbin, i_add (by omega) (by omega), ei2]
      have hT : (L - i2).toNat < (L - i).toNat := by omega
      have hI : i2.toNat = i.toNat + 1 := by omega
      obtain ⟨w2, ew2⟩ : ∃ z, z = w ++ [[AV.str b]] := ⟨_, rfl⟩
      obtain ⟨k2, ek2⟩ : ∃ z, z = k + 1 := ⟨_, rfl⟩
      refine Idx.mk _ h0 g2 ?_
      cases c
      · cbv
        simp only [a4]
        refine hN (i2, some (k, w)) _ _ ?hx ?hi hT
        case hx => (refine Wk.eqz (id) (by first | exact fun i _ j _ e => e | (simp only [List.length_cons, List.length_nil]; decide)) ?_; cbv; (repeat' (first | exact trivial | rfl | assumption | apply And.intro | (simp only [hbin, hcmp, hun, hconv, hnot, hbeq, hmm, hscmp, hsadd, hslen, hsat, heqs, hofNat, binStd, cmpStd, unStd, scmpStd, maxI, Bool.not_eq_true', Bool.not_eq_false', decide_eq_true_eq, decide_eq_false_iff_not, Int.not_lt, Int.not_le, if_true, if_false, Bool.false_eq_true, beq_iff_eq, bne_iff_ne, ne_eq, Bool.not_eq_eq_eq_not, Bool.not_true, Bool.not_false, beq_eq_false_iff_ne, bne_eq_false_iff_eq, Int.ofNat_eq_natCast, Bool.not_not, not_true_eq_false, not_false_eq_true, reduceCtorEq]; first | done | assumption) | exact RowsZ.same (by assumption) (by first | assumption | rfl) | exact FzL.mk rfl rfl rfl (by assumption) (by first | assumption | rfl) (by decide) | (refine RowsZ.one ?_; cbv))))
        case hi => exact ⟨by simp only; omega, by simp only; omega, by rw [hI, said_none g1, h2], h3, h4, by omega⟩
      · have e2 : w2 = (saidL (l.take i2.toNat)).map sRow := by rw [ew2, h2, hI, said_some g1, List.map_append, g3]; rfl
        have hu2 : Up0 w2 := by rw [e2]; exact up_s _
        have hl2 : k2 = w2.length := by rw [ew2, ek2, h4]; simp
        cbv
        refine App.mk w2 k2 ew2 h4 ek2 (by omega) (by omega) ?_
        cbv
        simp only [a4]
        refine hN (i2, some (k2, w2)) _ _ ?hx ?hi hT
        case hx => (refine Wk.eqz (fun j => [2].getD j 0) (by first | exact fun i _ j _ e => e | (simp only [List.length_cons, List.length_nil]; decide)) ?_; cbv; (repeat' (first | exact trivial | rfl | assumption | apply And.intro | (simp only [hbin, hcmp, hun, hconv, hnot, hbeq, hmm, hscmp, hsadd, hslen, hsat, heqs, hofNat, binStd, cmpStd, unStd, scmpStd, maxI, Bool.not_eq_true', Bool.not_eq_false', decide_eq_true_eq, decide_eq_false_iff_not, Int.not_lt, Int.not_le, if_true, if_false, Bool.false_eq_true, beq_iff_eq, bne_iff_ne, ne_eq, Bool.not_eq_eq_eq_not, Bool.not_true, Bool.not_false, beq_eq_false_iff_ne, bne_eq_false_iff_eq, Int.ofNat_eq_natCast, Bool.not_not, not_true_eq_false, not_false_eq_true, reduceCtorEq]; first | done | assumption) | exact RowsZ.same (by assumption) (by first | assumption | rfl) | exact FzL.mk rfl rfl rfl (by assumption) (by first | assumption | rfl) (by decide) | (refine RowsZ.one ?_; cbv))))
        case hi => exact ⟨by simp only; omega, by simp only; omega, e2, hu2, hl2, by omega⟩
    · refine hE _ _ _ ?_
      cbv
      refine ⟨_, Vw.sl rfl h3.get (by omega), hR _ ?_⟩
      rw [List.drop_zero, List.take_of_length_le (by omega), h2, ews, List.take_of_length_le (by omega)]
theorem e_placed0 (o : Lr) (h0 : o.g = 0) (qs : List (List AV)) : PCalls Tryd.prog 10 [.agg (lrRow o qs)] (· = .list 1 []) := by
  obtain ⟨c, m, g, lo, hi, est, slo, shi, nom, dist, rs, fit, b1, b2, s0, s1, b3, b4, b5, b6, b7, mlo, mhi, perm, c0, c1, c2, c3, k0, k1, k2, k3⟩ := o
  have hg : g = 0 := h0
  subst hg
  (refine PCalls.ofY Tryd.func10 (by kernel_rfl) (by kernel_rfl) fun w hw R hR => ?_); (obtain ⟨wbin, wcmp, wun, wconv, wnot, wbeq, wmm, wscmp, wsadd, wslen, wsat, weqs, wlen, wnlen, wofNat, wtake, wdrop, wapp, wzero, wnat⟩ := w); (have hbin : wbin = binStd := congrArg Prims.bin hw); (have hcmp : wcmp = cmpStd := congrArg Prims.cmp hw); (have hun : wun = unStd := congrArg Prims.un hw); (have hconv : wconv = fun k n => k.wrap n := congrArg Prims.conv hw); (have hnot : wnot = fun b => !b := congrArg Prims.not hw); (have hbeq : wbeq = fun a b => a == b := congrArg Prims.beq hw); (have hmm : wmm = maxI := congrArg Prims.mm hw); (have hscmp : wscmp = scmpStd := congrArg Prims.scmp hw); (have hsadd : wsadd = fun x y => x ++ y := congrArg Prims.sadd hw); (have hslen : wslen = fun s => (s.size : Int) := congrArg Prims.slen hw); (have hsat : wsat = std.sat := congrArg Prims.sat hw); (have heqs : weqs = fun a b os => (eqOffs a b os).getD false := congrArg Prims.eqs hw); (have hlen : wlen = fun es => (es.length : Int) := congrArg Prims.len hw); (have hnlen : wnlen = fun es => es.length := congrArg Prims.nlen hw); (have hofNat : wofNat = (fun n : Nat => (n : Int)) := congrArg Prims.ofNat hw); (have htake : wtake = fun es b => es.take b.toNat := congrArg Prims.take hw); (have hdrop : wdrop = fun es a => es.drop a.toNat := congrArg Prims.drop hw); (have happ : wapp = fun a b => a ++ b := congrArg Prims.app hw); (have hzero : wzero = fun n z => List.replicate n.toNat z := congrArg Prims.zero hw); (have hnat : wnat = fun n => n.toNat := congrArg Prims.nat hw); (conv => arg 2; cbv); (generalize hP : Tryd.prog = P); cbv
  have c1 : wcmp .eql 0 0 = true := by rw [hcmp]; rfl
  simp only [c1]
  cbv
  exact ⟨_, Vw.nil 1, hR _ rfl⟩
theorem e_placed1 (o : Lr) (h : LrOk o) (hn : o.rs.length ≤ 1000) (hr : ∀ r, r ∈ o.rs → r.length ≤ 1000) (qs : List (List AV)) (hqs : qs = o.rs.map (fun r => [AV.list 1 (r.map nxRow)])) (ws : List (List AV)) (ews : ws = (placedL o).map sRow) : PCalls Tryd.prog 10 [.agg (lrRow o qs)] (· = .list 1 ws) := by
  obtain ⟨c, m, g, lo, hi, est, slo, shi, nom, dist, rs, fit, b1, b2, s0, s1, b3, b4, b5, b6, b7, mlo, mhi, perm, c0, c1, c2, c3, k0, k1, k2, k3⟩ := o
  have ho : LrOk ⟨c, m, g, lo, hi, est, slo, shi, nom, dist, rs, fit, b1, b2, s0, s1, b3, b4, b5, b6, b7, mlo, mhi, perm, c0, c1, c2, c3, k0, k1, k2, k3⟩ := h
  have hg : In64 g := h.g
  have hrs : ∀ r, r ∈ rs → ∀ n, n ∈ r → In64 n := h.rs
  have hlo : In64 lo := h.lo
  have hhi : In64 hi := h.hi
  have hest : In64 est := h.est
  have hn : rs.length ≤ 1000 := hn
  have hr : ∀ r, r ∈ rs → r.length ≤ 1000 := hr
  have hqs : qs = rs.map (fun r => [AV.list 1 (r.map nxRow)]) := hqs
  have p0 : g = 0 → ws = [] := fun e => by rw [ews]; simp [placedL, e]
  have p1 : g ≠ 0 → ws = [[.str ⟨#[103, 114, 111, 117, 112]⟩], [.str (itb g)], [.str ⟨#[97, 116]⟩], [.str (bk (endsL lo hi))], [.str ⟨#[101, 115, 116]⟩], [.str (itb est)], [.str ⟨#[119, 97, 121, 115]⟩], [.str (bk (waysL rs))]] := fun e => by rw [ews]; simp only [placedL, if_neg e]; rfl
  obtain ⟨bg, ebg⟩ : ∃ z, z = itb g := ⟨_, rfl⟩
  obtain ⟨bp, ebp⟩ : ∃ z, z = bk (endsL lo hi) := ⟨_, rfl⟩
  obtain ⟨be, ebe⟩ : ∃ z, z = itb est := ⟨_, rfl⟩
  obtain ⟨bw, ebw⟩ : ∃ z, z = bk (waysL rs) := ⟨_, rfl⟩
  rw [← ebg, ← ebp, ← ebe, ← ebw] at p1
  have q1 := e_itoa g hg.1 hg.2
  rw [← ebg] at q1
  have q2 := e_ends lo hi hlo hhi bp ebp
  have q3 := e_num est hest be ebe
  obtain ⟨xs, exs⟩ : ∃ z, z = rs.map (fun r => sRow (pathL r)) := ⟨_, rfl⟩
  have hux : Up0 xs := by rw [exs]; exact up_map (f := fun r => sRow (pathL r)) (fun d => rfl) rs
  have hxl : xs.length = rs.length := by rw [exs]; simp
  have hql : qs.length = rs.length := by rw [hqs]; simp
  have huq : Up0 qs := by rw [hqs]; exact up_map (f := fun r => [AV.list 1 (r.map nxRow)]) (fun d => Up0.one (up_nx d) rfl) rs
  have hj := e_join (rs.map pathL) 44 xs (by rw [exs, List.map_map]; rfl) (by rw [List.length_map]; omega) (by
    have a1 := len_join (rs.map pathL) 44
    have a2 := lens_le (m := 22000) (rs.map pathL) fun x hx => by
      obtain ⟨r, hrr, rfl⟩ := List.mem_map.1 hx
      have := len_path (hrs r hrr)
      have := hr r hrr
      omega
    rw [List.length_map] at a1 a2
    omega)
  rw [show jn (rs.map pathL) 44 = bw by rw [ebw]; rfl] at hj
  have hget : ∀ i : Nat, i < rs.length → ∃ (r : List Int) (es : List (List AV)) (b : ByteArray), es = r.map nxRow ∧ Up0 es ∧ qs[i]? = some [.list 1 es] ∧ b = bk (pathL r) ∧ (∀ n, n ∈ r → In64 n) ∧ r.length ≤ 1000 ∧ xs.take (i + 1) = xs.take i ++ [[.str b]] := fun i hi => by
    obtain ⟨r, hri⟩ : ∃ n, rs[i]? = some n := ⟨_, List.getElem?_eq_getElem hi⟩
    have hm := List.mem_of_getElem? hri
    refine ⟨r, _, _, rfl, up_nx r, by rw [hqs, List.getElem?_map, hri]; rfl, rfl, hrs r hm, hr r hm, ?_⟩
    rw [List.take_add_one, exs, List.getElem?_map, hri]; rfl
  clear hqs exs ebw ebe ebp ebg ews h ho hrs hr
  (refine PCalls.ofL Tryd.func10 (by kernel_rfl) (by kernel_rfl) fun w hw R hR => ?_); (obtain ⟨wbin, wcmp, wun, wconv, wnot, wbeq, wmm, wscmp, wsadd, wslen, wsat, weqs, wlen, wnlen, wofNat, wtake, wdrop, wapp, wzero, wnat⟩ := w); (have hbin : wbin = binStd := congrArg Prims.bin hw); (have hcmp : wcmp = cmpStd := congrArg Prims.cmp hw); (have hun : wun = unStd := congrArg Prims.un hw); (have hconv : wconv = fun k n => k.wrap n := congrArg Prims.conv hw); (have hnot : wnot = fun b => !b := congrArg Prims.not hw); (have hbeq : wbeq = fun a b => a == b := congrArg Prims.beq hw); (have hmm : wmm = maxI := congrArg Prims.mm hw); (have hscmp : wscmp = scmpStd := congrArg Prims.scmp hw); (have hsadd : wsadd = fun x y => x ++ y := congrArg Prims.sadd hw); (have hslen : wslen = fun s => (s.size : Int) := congrArg Prims.slen hw); (have hsat : wsat = std.sat := congrArg Prims.sat hw); (have heqs : weqs = fun a b os => (eqOffs a b os).getD false := congrArg Prims.eqs hw); (have hlen : wlen = fun es => (es.length : Int) := congrArg Prims.len hw); (have hnlen : wnlen = fun es => es.length := congrArg Prims.nlen hw); (have hofNat : wofNat = (fun n : Nat => (n : Int)) := congrArg Prims.ofNat hw); (have htake : wtake = fun es b => es.take b.toNat := congrArg Prims.take hw); (have hdrop : wdrop = fun es a => es.drop a.toNat := congrArg Prims.drop hw); (have happ : wapp = fun a b => a ++ b := congrArg Prims.app hw); (have hzero : wzero = fun n z => List.replicate n.toNat z := congrArg Prims.zero hw); (have hnat : wnat = fun n => n.toNat := congrArg Prims.nat hw); (conv => arg 2; cbv); (generalize hP : Tryd.prog = P); cbv
  (split <;> rename_i h0 <;> (try (simp only [hbin, hcmp, hun, hconv, hnot, hbeq, hmm, hscmp, hsadd, hslen, hsat, heqs, hofNat, binStd, cmpStd, unStd, scmpStd, maxI, Bool.not_eq_true', Bool.not_eq_false', decide_eq_true_eq, decide_eq_false_iff_not, Int.not_lt, Int.not_le, if_true, if_false, Bool.false_eq_true, beq_iff_eq, bne_iff_ne, ne_eq, Bool.not_eq_eq_eq_not, Bool.not_true, Bool.not_false, beq_eq_false_iff_ne, bne_eq_false_iff_eq, Int.ofNat_eq_natCast, Bool.not_not, not_true_eq_false, not_false_eq_true, reduceCtorEq] at h0)) <;> (try cbv))
  · exact ⟨_, Vw.nil 1, hR _ (by rw [p0 (by omega)])⟩
  (obtain ⟨L, eL, L0, Ln⟩ : ∃ L : Int, wlen qs = L ∧ 0 ≤ L ∧ L.toNat = qs.length := ⟨(qs.length : Int), by rw [hlen], Int.natCast_nonneg _, Int.toNat_natCast _⟩)
  simp only [eL]
  refine Loop.data hw (S := Option (Int × Nat × List (List AV))) (fun s => match s with
      | none => fr 34 [(1, .ref 0 32 0 0), (3, .nils), (10, .list 1 qs), (11, .int .i64 L), (12, .int .i64 0)]
      | some (i, k, w) => fr 34 [(1, .ref 0 32 0 0), (3, .sl 1 1 0 k), (10, .list 1 qs), (11, .int .i64 L), (12, .int .i64 i)])
    (fun s => match s with
      | none => [.live 32 [[.int .i64 c, .int .i64 m, .int .i64 g, .int .i64 lo, .int .i64 hi, .int .i64 est, .int .i64 slo, .int .i64 shi, .int .i64 nom, .int .i64 dist, .list 1 qs, .int .i64 fit, .bool b1, .bool b2, .int .i64 s0, .int .i64 s1, .bool b3, .bool b4, .bool b5, .bool b6, .bool b7, .int .i64 mlo, .int .i64 mhi, .int .i64 perm, .int .i64 c0, .int .i64 c1, .int .i64 c2, .int .i64 c3, .int .i64 k0, .int .i64 k1, .int .i64 k2, .int .i64 k3]]]
      | some (i, k, w) => [.live 32 [[.int .i64 c, .int .i64 m, .int .i64 g, .int .i64 lo, .int .i64 hi, .int .i64 est, .int .i64 slo, .int .i64 shi, .int .i64 nom, .int .i64 dist, .list 1 qs, .int .i64 fit, .bool b1, .bool b2, .int .i64 s0, .int .i64 s1, .bool b3, .bool b4, .bool b5, .bool b6, .bool b7, .int .i64 mlo, .int .i64 mhi, .int .i64 perm, .int .i64 c0, .int .i64 c1, .int .i64 c2, .int .i64 c3, .int .i64 k0, .int .i64 k1, .int .i64 k2, .int .i64 k3]], .live 1 w])
    (fun s => match s with
      | none => True
      | some (i, k, w) => 0 < i ∧ i ≤ L ∧ w = xs.take i.toNat ∧ Up0 w ∧ k = w.length) (fun s => match s with | none => L.toNat + 1 | some (i, _) => (L - i).toNat) none (by (refine Wk.eqz (id) (by first | exact fun i _ j _ e => e | (simp only [List.length_cons, List.length_nil]; decide)) ?_; cbv; (repeat' (first | exact trivial | rfl | assumption | apply And.intro | (simp only [hbin, hcmp, hun, hconv, hnot, hbeq, hmm, hscmp, hsadd, hslen, hsat, heqs, hofNat, binStd, cmpStd, unStd, scmpStd, maxI, Bool.not_eq_true', Bool.not_eq_false', decide_eq_true_eq, decide_eq_false_iff_not, Int.not_lt, Int.not_le, if_true, if_false, Bool.false_eq_true, beq_iff_eq, bne_iff_ne, ne_eq, Bool.not_eq_eq_eq_not, Bool.not_true, Bool.not_false, beq_eq_false_iff_ne, bne_eq_false_iff_eq, Int.ofNat_eq_natCast, Bool.not_not, not_true_eq_false, not_false_eq_true, reduceCtorEq]; first | done | assumption) | exact RowsZ.same (by assumption) (by first | assumption | rfl) | exact FzL.mk rfl rfl rfl (by assumption) (by first | assumption | rfl) (by decide) | (refine RowsZ.one ?_; cbv))))) trivial ?_
  rintro (_ | ⟨i, k, w⟩) hinv Q' hN hE hR'
  · cbv
    (split <;> rename_i hc <;> (try (simp only [hbin, hcmp, hun, hconv, hnot, hbeq, hmm, hscmp, hsadd, hslen, hsat, heqs, hofNat, binStd, cmpStd, unStd, scmpStd, maxI, Bool.not_eq_true', Bool.not_eq_false', decide_eq_true_eq, decide_eq_false_iff_not, Int.not_lt, Int.not_le, if_true, if_false, Bool.false_eq_true, beq_iff_eq, bne_iff_ne, ne_eq, Bool.not_eq_eq_eq_not, Bool.not_true, Bool.not_false, beq_eq_false_iff_ne, bne_eq_false_iff_eq, Int.ofNat_eq_natCast, Bool.not_not, not_true_eq_false, not_false_eq_true, reduceCtorEq] at hc)) <;> (try cbv))
    · obtain ⟨r, es, b, g1, g2, g3, g4, g5, g6, g7⟩ := hget 0 (by omega)
      have a4 : wbin .add .i64 0 1 = 1 := by rw [hbin]; rfl
      have hi := e_path r g5 (by omega) es g1 b g4
      refine Idx.mk _ (by decide) g3 ?_
      cbv
      refine Call.stepE (by rw [← hP]; exact hi) (by exact Up0.one g2 rfl) ?_
      cbv
      refine Ob.mk (by decide) ?_
      cbv
      simp only [a4]
      refine hN (some (1, 1, [[.str b]])) _ _ ?hx ?hi ?ht
      case hx => (refine Wk.eqz (id) (by first | exact fun i _ j _ e => e | (simp only [List.length_cons, List.length_nil]; decide)) ?_; cbv; (repeat' (first | exact trivial | rfl | assumption | apply And.intro | (simp only [hbin, hcmp, hun, hconv, hnot, hbeq, hmm, hscmp, hsadd, hslen, hsat, heqs, hofNat, binStd, cmpStd, unStd, scmpStd, maxI, Bool.not_eq_true', Bool.not_eq_false', decide_eq_true_eq, decide_eq_false_iff_not, Int.not_lt, Int.not_le, if_true, if_false, Bool.false_eq_true, beq_iff_eq, bne_iff_ne, ne_eq, Bool.not_eq_eq_eq_not, Bool.not_true, Bool.not_false, beq_eq_false_iff_ne, bne_eq_false_iff_eq, Int.ofNat_eq_natCast, Bool.not_not, not_true_eq_false, not_false_eq_true, reduceCtorEq]; first | done | assumption) | exact RowsZ.same (by assumption) (by first | assumption | rfl) | exact FzL.mk rfl rfl rfl (by assumption) (by first | assumption | rfl) (by decide) | (refine RowsZ.one ?_; cbv))))
      case hi => exact ⟨by decide, by omega, by rw [show (1 : Int).toNat = 0 + 1 from rfl, g7]; rfl, ⟨rfl⟩, rfl⟩
      case ht => show (L - 1).toNat < L.toNat + 1; omega
    · refine hE _ _ _ ?_
      cbv
      have e0 : xs = [] := List.length_eq_zero_iff.1 (by omega)
      subst e0
      refine QCal.stepE (by rw [← hP]; exact q1) rfl ?_
      cbv
      refine QCal.stepE (by rw [← hP]; exact q2) rfl ?_
      cbv
      refine QCal.stepE (by rw [← hP]; exact q3) rfl ?_
      cbv
      refine QCal.view (args' := [.list 1 [], .str ⟨#[44]⟩]) (by rw [← hP]; exact hj) (fun h hh => ⟨Vw.nil 1, Vw.same rfl, trivial⟩) rfl ?_
      cbv
      exact ⟨_, Vw.same rfl, hR _ (by rw [p1 (by omega)]; rfl)⟩
  · have hinv : 0 < i ∧ i ≤ L ∧ w = xs.take i.toNat ∧ Up0 w ∧ k = w.length := hinv
    cbv
    obtain ⟨h1, h2, hw1, hw2, hk⟩ := hinv
    have hkl : w.length ≤ rs.length := by rw [hw1, List.length_take]; omega
    (split <;> rename_i hc <;> (try (simp only [hbin, hcmp, hun, hconv, hnot, hbeq, hmm, hscmp, hsadd, hslen, hsat, heqs, hofNat, binStd, cmpStd, unStd, scmpStd, maxI, Bool.not_eq_true', Bool.not_eq_false', decide_eq_true_eq, decide_eq_false_iff_not, Int.not_lt, Int.not_le, if_true, if_false, Bool.false_eq_true, beq_iff_eq, bne_iff_ne, ne_eq, Bool.not_eq_eq_eq_not, Bool.not_true, Bool.not_false, beq_eq_false_iff_ne, bne_eq_false_iff_eq, Int.ofNat_eq_natCast, Bool.not_not, not_true_eq_false, not_false_eq_true, reduceCtorEq] at hc)) <;> (try cbv))
    · obtain ⟨r, es, b, g1, g2, g3, g4, g5, g6, g7⟩ := hget i.toNat (by omega)
      obtain ⟨i2, ei2⟩ : ∃ z, z = i + 1 := ⟨_, rfl⟩
      have a4 : wbin .add .i64 i 1 = i2 := by rw [hbin, i_add (by omega) (by omega), ei2]
      have hi := e_path r g5 (by omega) es g1 b g4
      refine Idx.mk _ (by omega) g3 ?_
      cbv
      refine Call.stepE (by rw [← hP]; exact hi) (by exact Up0.one g2 rfl) ?_
      cbv
      obtain ⟨w2, ew2⟩ : ∃ z, z = w ++ [[AV.str b]] := ⟨_, rfl⟩
      obtain ⟨k2, ek2⟩ : ∃ z, z = k + 1 := ⟨_, rfl⟩
      have ht2 : w2 = xs.take i2.toNat := by rw [ew2, hw1, ei2, show (i + 1).toNat = i.toNat + 1 by omega, g7]
      have hu2 : Up0 w2 := by rw [ht2]; exact up_take hux _
      have hl2 : w2.length = k2 := by rw [ew2, ek2, hk]; simp
      refine App.mk w2 k2 ew2 hk ek2 (by omega) (by omega) ?_
      cbv
      simp only [a4]
      refine hN (some (i2, k2, w2)) _ _ ?hx ?hi ?ht
      case hx => (refine Wk.eqz (fun j => [0, 2].getD j 0) (by first | exact fun i _ j _ e => e | (simp only [List.length_cons, List.length_nil]; decide)) ?_; cbv; (repeat' (first | exact trivial | rfl | assumption | apply And.intro | (simp only [hbin, hcmp, hun, hconv, hnot, hbeq, hmm, hscmp, hsadd, hslen, hsat, heqs, hofNat, binStd, cmpStd, unStd, scmpStd, maxI, Bool.not_eq_true', Bool.not_eq_false', decide_eq_true_eq, decide_eq_false_iff_not, Int.not_lt, Int.not_le, if_true, if_false, Bool.false_eq_true, beq_iff_eq, bne_iff_ne, ne_eq, Bool.not_eq_eq_eq_not, Bool.not_true, Bool.not_false, beq_eq_false_iff_ne, bne_eq_false_iff_eq, Int.ofNat_eq_natCast, Bool.not_not, not_true_eq_false, not_false_eq_true, reduceCtorEq]; first | done | assumption) | exact RowsZ.same (by assumption) (by first | assumption | rfl) | exact FzL.mk rfl rfl rfl (by assumption) (by first | assumption | rfl) (by decide) | (refine RowsZ.one ?_; cbv))))
      case hi => exact ⟨by omega, by omega, ht2, hu2, hl2.symm⟩
      case ht => show (L - i2).toNat < (L - i).toNat; omega
    · refine hE _ _ _ ?_
      cbv
      have e0 : w = xs := by rw [hw1, List.take_of_length_le (by omega)]
      subst e0
      refine QCal.stepE (by rw [← hP]; exact q1) rfl ?_
      cbv
      refine QCal.stepE (by rw [← hP]; exact q2) rfl ?_
      cbv
      refine QCal.stepE (by rw [← hP]; exact q3) rfl ?_
      cbv
      refine QCal.view (args' := [.list 1 ((w.drop 0).take k), .str ⟨#[44]⟩]) (by rw [← hP, List.drop_zero, List.take_of_length_le (by omega)]; exact hj) (fun h hh => ⟨Vw.sl (hh 1 1 w rfl) hw2.get (by omega), Vw.same rfl, trivial⟩) rfl ?_
      cbv
      exact ⟨_, Vw.same rfl, hR _ (by rw [p1 (by omega)]; rfl)⟩
/-- Not too much is told of a place. -/
structure LrSmall (o : Lr) : Prop where
  n : o.g ≠ 0 → o.rs.length ≤ 1000
  r : o.g ≠ 0 → ∀ r, r ∈ o.rs → r.length ≤ 1000
theorem e_placed (o : Lr) (h : LrOk o) (hs : LrSmall o) (qs : List (List AV)) (hqs : qs = o.rs.map (fun r => [AV.list 1 (r.map nxRow)])) (ws : List (List AV)) (ews : ws = (placedL o).map sRow) : PCalls Tryd.prog 10 [.agg (lrRow o qs)] (· = .list 1 ws) := by
  by_cases hg : o.g = 0
  · have : ws = [] := by rw [ews]; simp [placedL, hg]
    rw [this]
    exact e_placed0 o hg qs
  · exact e_placed1 o h (hs.n hg) (hs.r hg) qs hqs ws ews
theorem rows_s (xs : List (List UInt8)) : Eng.rowsOk (xs.map sRow) = true := by
  induction xs with
  | nil => rfl
  | cons x l ih => simp only [List.map_cons, Eng.rowsOk, ih]; rfl
end Go.Proofs.YtikhbgnokkdpeaaDoor

/- Lines, by the engine: a report's. -/
set_option linter.unusedVariables false
set_option linter.unusedSimpArgs false
namespace Go.Proofs.YtikhbgnokkdpeaaDoor
open Go Go.RowKit Go.Eng
set_option maxRecDepth 100000
theorem uptoLL_app0 : ∀ (a b : List (List AV)), uptoLL 0 (a ++ b) = (uptoLL 0 a && uptoLL 0 b)
  | [], b => rfl
  | x :: a, b => by simp only [List.cons_append, uptoLL, uptoLL_app0 a b, Bool.and_assoc]
theorem up_app0 {a b : List (List AV)} (ha : Up0 a) (hb : Up0 b) : Up0 (a ++ b) := ⟨by rw [uptoLL_app0, ha.get, hb.get]; rfl⟩
theorem len_ends {a b : Int} (ha : In64 a) (hb : In64 b) : (endsL a b).length ≤ 44 := by
  have := len_itoa ha
  have := len_itoa hb
  unfold endsL
  simp only [List.length_append, List.length_cons, List.length_nil]; omega
theorem len_words {o : Lr} (h : LrOk o) (hs : LrSmall o) : (wordsL o).length ≤ 24 ∧ ∀ x, x ∈ wordsL o → x.length ≤ 22002000 := by
  have hw : o.g ≠ 0 → (waysL o.rs).length ≤ 22001000 := fun hg => by
    have a1 := len_join (o.rs.map pathL) 44
    have a2 := lens_le (m := 22000) (o.rs.map pathL) fun x hx => by
      obtain ⟨r, hrr, rfl⟩ := List.mem_map.1 hx
      have := len_path (h.rs r hrr)
      have := hs.r hg r hrr
      omega
    rw [List.length_map] at a1 a2
    have := hs.n hg
    unfold waysL
    omega
  have hi : ∀ n, In64 n → (Lib.itoa n).length ≤ 21 := fun n hn => len_itoa hn
  have i1 := hi _ h.c
  have i2 := hi _ h.g
  have i3 := hi _ h.est
  have i4 := hi _ h.fit
  have i5 := hi _ h.s0
  have i6 := hi _ h.s1
  have i7 := len_ends h.lo h.hi
  have i8 := len_ends h.slo h.shi
  have hm : (modeL o.m).length ≤ 9 := by unfold modeL; (repeat' split) <;> simp
  have hsl : (saidL (flagsL o)).length ≤ 7 ∧ ∀ x, x ∈ saidL (flagsL o) → x.length ≤ 10 := by
    refine ⟨?_, fun x hx => ?_⟩
    · unfold saidL; rw [List.length_map]; exact List.length_filter_le _ _
    · unfold saidL at hx
      obtain ⟨f, hf, rfl⟩ := List.mem_map.1 hx
      have := (List.mem_filter.1 hf).1
      unfold flagsL at this
      simp only [List.mem_cons, List.not_mem_nil, or_false] at this
      rcases this with rfl | rfl | rfl | rfl | rfl | rfl | rfl <;> simp
  refine ⟨?_, fun x hx => ?_⟩
  · have e1 : (placedL o).length ≤ 8 := by unfold placedL; split <;> simp
    have e2 : (slipL o).length ≤ 3 := by unfold slipL; split <;> simp
    unfold wordsL
    simp only [List.length_append, List.length_cons, List.length_nil]
    omega
  · unfold wordsL at hx
    simp only [List.mem_append] at hx
    rcases hx with (((hx | hx) | hx) | hx) | hx
    · simp only [List.mem_cons, List.not_mem_nil, or_false] at hx
      rcases hx with rfl | rfl <;> omega
    · unfold placedL at hx
      split at hx
      · cases hx
      · rename_i hg
        have hw := hw hg
        simp only [List.mem_cons, List.not_mem_nil, or_false] at hx
        rcases hx with rfl | rfl | rfl | rfl | rfl | rfl | rfl | rfl <;> first | omega | (simp; done)
    · simp only [List.mem_cons, List.not_mem_nil, or_false] at hx
      rcases hx with rfl | rfl | rfl | rfl <;> first | omega | (simp; done)
    · unfold slipL at hx
      split at hx
      · cases hx
      · simp only [List.mem_cons, List.not_mem_nil, or_false] at hx
        rcases hx with rfl | rfl | rfl <;> first | omega | (simp; done)
    · have := hsl.2 x hx; omega
set_option maxHeartbeats 1000000 in
theorem e_text (o : Lr) (h : LrOk o) (hs : LrSmall o) (qs : List (List AV)) (hqs : qs = o.rs.map (fun r => [AV.list 1 (r.map nxRow)])) (t : ByteArray) (et : t = lineB o) : PCalls Tryd.prog 6 [.agg (lrRow o qs)] (· = .str t) := by
  obtain ⟨c, m, g, lo, hi, est, slo, shi, nom, dist, rs, fit, b1, b2, s0, s1, b3, b4, b5, b6, b7, mlo, mhi, perm, c0, c1, c2, c3, k0, k1, k2, k3⟩ := o
  obtain ⟨o, eo⟩ : ∃ o : Lr, o = ⟨c, m, g, lo, hi, est, slo, shi, nom, dist, rs, fit, b1, b2, s0, s1, b3, b4, b5, b6, b7, mlo, mhi, perm, c0, c1, c2, c3, k0, k1, k2, k3⟩ := ⟨_, rfl⟩
  rw [← eo] at h hs hqs et
  have hc : In64 c := by have := h.c; rw [eo] at this; exact this
  have hfit : In64 fit := by have := h.fit; rw [eo] at this; exact this
  have hs0 : In64 s0 := by have := h.s0; rw [eo] at this; exact this
  have hs1 : In64 s1 := by have := h.s1; rw [eo] at this; exact this
  have hslo : In64 slo := by have := h.slo; rw [eo] at this; exact this
  have hshi : In64 shi := by have := h.shi; rw [eo] at this; exact this
  have huq : Up0 qs := by rw [hqs]; exact up_map (f := fun r => [AV.list 1 (r.map nxRow)]) (fun d => Up0.one (up_nx d) rfl) o.rs
  obtain ⟨bc, ebc⟩ : ∃ z, z = itb c := ⟨_, rfl⟩
  obtain ⟨bm, ebm⟩ : ∃ z, z = bk (modeL m) := ⟨_, rfl⟩
  obtain ⟨bs, ebs⟩ : ∃ z, z = bk (endsL slo shi) := ⟨_, rfl⟩
  obtain ⟨bf, ebf⟩ : ∃ z, z = itb fit := ⟨_, rfl⟩
  obtain ⟨bs0, ebs0⟩ : ∃ z, z = itb s0 := ⟨_, rfl⟩
  obtain ⟨bs1, ebs1⟩ : ∃ z, z = itb s1 := ⟨_, rfl⟩
  obtain ⟨pw, epw⟩ : ∃ z, z = (placedL o).map sRow := ⟨_, rfl⟩
  obtain ⟨sw, esw⟩ : ∃ z, z = (saidL (flagsL o)).map sRow := ⟨_, rfl⟩
  obtain ⟨fr_, efr⟩ : ∃ z, z = (flagsL o).map fgRow := ⟨_, rfl⟩
  have q1 := e_itoa c hc.1 hc.2
  rw [← ebc] at q1
  have q2 := e_name m bm ebm
  have q3 := e_placed o h hs qs hqs pw epw
  rw [show lrRow o qs = [.int .i64 c, .int .i64 m, .int .i64 g, .int .i64 lo, .int .i64 hi, .int .i64 est, .int .i64 slo, .int .i64 shi, .int .i64 nom, .int .i64 dist, .list 1 qs, .int .i64 fit, .bool b1, .bool b2, .int .i64 s0, .int .i64 s1, .bool b3, .bool b4, .bool b5, .bool b6, .bool b7, .int .i64 mlo, .int .i64 mhi, .int .i64 perm, .int .i64 c0, .int .i64 c1, .int .i64 c2, .int .i64 c3, .int .i64 k0, .int .i64 k1, .int .i64 k2, .int .i64 k3] by rw [eo]; rfl] at q3
  have q4 := e_ends slo shi hslo hshi bs ebs
  have q5 := e_itoa fit hfit.1 hfit.2
  rw [← ebf] at q5
  have q6 := e_itoa s0 hs0.1 hs0.2
  rw [← ebs0] at q6
  have q7 := e_itoa s1 hs1.1 hs1.2
  rw [← ebs1] at q7
  have q8 := e_said (flagsL o) (by unfold flagsL; simp) fr_ efr sw esw
  have efr2 : fr_ = [[.bool b1, .str ⟨#[99, 108, 101, 97, 110]⟩], [.bool b2, .str ⟨#[99, 111, 110, 102, 108, 105, 99, 116]⟩], [.bool b3, .str ⟨#[97, 99, 99, 101, 112, 116, 101, 100]⟩], [.bool b4, .str ⟨#[102, 97, 117, 108, 116]⟩], [.bool b5, .str ⟨#[115, 116, 105, 108, 108]⟩], [.bool b6, .str ⟨#[114, 111, 108, 108]⟩], [.bool b7, .str ⟨#[111, 118, 101, 114]⟩]] := by rw [efr, eo]; rfl
  rw [efr2] at q8
  have hupw : Up0 pw := by rw [epw]; exact up_s _
  have husw : Up0 sw := by rw [esw]; exact up_s _
  have rpw : Eng.rowsOk pw = true := by rw [epw]; exact rows_s _
  have rsw : Eng.rowsOk sw = true := by rw [esw]; exact rows_s _
  have lpw : pw.length ≤ 8 := by rw [epw, List.length_map]; unfold placedL; split <;> simp
  have lsw : sw.length ≤ 7 := by
    rw [esw, List.length_map]; unfold saidL; rw [List.length_map]
    exact List.length_filter_le _ _
  have hj := e_join (wordsL o) 32 ((wordsL o).map sRow) rfl (by have := (len_words h hs).1; omega) (by
    have a1 := len_join (wordsL o) 32
    have a2 := lens_le (wordsL o) (len_words h hs).2
    have a3 := (len_words h hs).1
    have a4 : 22002000 * (wordsL o).length ≤ 22002000 * 24 := Nat.mul_le_mul_left _ a3
    omega)
  rw [show jn (wordsL o) 32 = t by rw [et]; rfl] at hj
  have e1 : (wordsL o).map sRow = [[.str bc], [.str bm]] ++ pw ++ [[.str ⟨#[115, 112, 101, 101, 100]⟩], [.str bs], [.str ⟨#[102, 105, 116]⟩], [.str bf]] ++ (if s0 = 0 ∧ s1 = 0 then [] else [[.str ⟨#[115, 108, 105, 112]⟩], [.str bs0], [.str bs1]]) ++ sw := by
    have e2 : slipL o = if s0 = 0 ∧ s1 = 0 then [] else [[115, 108, 105, 112], Lib.itoa s0, Lib.itoa s1] := by rw [eo]; rfl
    unfold wordsL
    rw [e2]
    simp only [List.map_append, ← epw, ← esw]
    rw [eo, ebc, ebm, ebs, ebf, ebs0, ebs1]
    split <;> rfl
  rw [e1] at hj
  clear e1 et efr2 efr esw epw ebs1 ebs0 ebf ebs ebm ebc hqs hs h eo
  (refine PCalls.ofD Tryd.func6 (by kernel_rfl) (by kernel_rfl) fun w hw R hR => ?_); (obtain ⟨wbin, wcmp, wun, wconv, wnot, wbeq, wmm, wscmp, wsadd, wslen, wsat, weqs, wlen, wnlen, wofNat, wtake, wdrop, wapp, wzero, wnat⟩ := w); (have hbin : wbin = binStd := congrArg Prims.bin hw); (have hcmp : wcmp = cmpStd := congrArg Prims.cmp hw); (have hun : wun = unStd := congrArg Prims.un hw); (have hconv : wconv = fun k n => k.wrap n := congrArg Prims.conv hw); (have hnot : wnot = fun b => !b := congrArg Prims.not hw); (have hbeq : wbeq = fun a b => a == b := congrArg Prims.beq hw); (have hmm : wmm = maxI := congrArg Prims.mm hw); (have hscmp : wscmp = scmpStd := congrArg Prims.scmp hw); (have hsadd : wsadd = fun x y => x ++ y := congrArg Prims.sadd hw); (have hslen : wslen = fun s => (s.size : Int) := congrArg Prims.slen hw); (have hsat : wsat = std.sat := congrArg Prims.sat hw); (have heqs : weqs = fun a b os => (eqOffs a b os).getD false := congrArg Prims.eqs hw); (have hlen : wlen = fun es => (es.length : Int) := congrArg Prims.len hw); (have hnlen : wnlen = fun es => es.length := congrArg Prims.nlen hw); (have hofNat : wofNat = (fun n : Nat => (n : Int)) := congrArg Prims.ofNat hw); (have htake : wtake = fun es b => es.take b.toNat := congrArg Prims.take hw); (have hdrop : wdrop = fun es a => es.drop a.toNat := congrArg Prims.drop hw); (have happ : wapp = fun a b => a ++ b := congrArg Prims.app hw); (have hzero : wzero = fun n z => List.replicate n.toNat z := congrArg Prims.zero hw); (have hnat : wnat = fun n => n.toNat := congrArg Prims.nat hw); (conv => arg 2; cbv); (generalize hP : Tryd.prog = P); cbv
  refine QCal.stepE (by rw [← hP]; exact q1) rfl ?_
  cbv
  refine QCal.stepE (by rw [← hP]; exact q2) rfl ?_
  cbv
  refine Call.stepE (by rw [← hP]; exact q3) (by exact Bool.and_eq_true_iff.mpr ⟨Up0.one huq rfl, rfl⟩) ?_
  cbv
  obtain ⟨f1, ef1⟩ : ∃ z, z = [[AV.str bc], [.str bm]] ++ pw := ⟨_, rfl⟩
  obtain ⟨n1, en1⟩ : ∃ z, z = 2 + pw.length := ⟨_, rfl⟩
  refine AppL.mk f1 n1 ef1 rfl en1 rpw (by omega) (by omega) ?_
  cbv
  refine QCal.stepE (by rw [← hP]; exact q4) rfl ?_
  cbv
  refine QCal.stepE (by rw [← hP]; exact q5) rfl ?_
  cbv
  have hl1 : f1.length = n1 := by rw [ef1, en1, List.length_append]; rfl
  obtain ⟨f2, ef2⟩ : ∃ z, z = f1 ++ [[AV.str ⟨#[115, 112, 101, 101, 100]⟩], [.str bs], [.str ⟨#[102, 105, 116]⟩], [.str bf]] := ⟨_, rfl⟩
  obtain ⟨n2, en2⟩ : ∃ z, z = n1 + 4 := ⟨_, rfl⟩
  refine AppL.mk f2 n2 ef2 hl1.symm en2 rfl (by omega) (by omega) ?_
  have hl2 : f2.length = n2 := by rw [ef2, en2, List.length_append, hl1]; rfl
  cbv
  have zz : weqs [AV.int .i64 s0, .int .i64 s1] [AV.int .i64 0, .int .i64 0] [(0, 1), (1, 1)] = decide (s0 = 0 ∧ s1 = 0) := by
    rw [heqs]; simp [eqOffs, eqA]; by_cases h1 : s0 = 0 <;> by_cases h2 : s1 = 0 <;> simp [h1, h2]
  by_cases hz : s0 = 0 ∧ s1 = 0
  · rw [if_pos hz] at hj
    have z1 : wnot (weqs [AV.int .i64 s0, .int .i64 s1] [AV.int .i64 0, .int .i64 0] [(0, 1), (1, 1)]) = false := by rw [zz, hnot]; simp [hz]
    simp only [z1]
    cbv
    refine Call.stepE (by rw [← hP]; exact q8) rfl ?_
    cbv
    obtain ⟨f4, ef4⟩ : ∃ z, z = f2 ++ sw := ⟨_, rfl⟩
    obtain ⟨n4, en4⟩ : ∃ z, z = n2 + sw.length := ⟨_, rfl⟩
    refine AppL.mk f4 n4 ef4 hl2.symm en4 rsw (by omega) (by omega) ?_
    cbv
    have hl4 : f4.length = n4 := by rw [ef4, en4, List.length_append, hl2]
    have hu4 : Up0 f4 := by rw [ef4, ef2, ef1]; exact up_app0 (up_app0 (up_app0 ⟨rfl⟩ hupw) ⟨rfl⟩) husw
    have e4 : f4 = [[AV.str bc], [AV.str bm]] ++ pw ++ [[AV.str ⟨#[115, 112, 101, 101, 100]⟩], [.str bs], [.str ⟨#[102, 105, 116]⟩], [.str bf]] ++ [] ++ sw := by rw [ef4, ef2, ef1]; try simp only [List.append_assoc, List.nil_append]
    refine Call.view (args' := [.list 1 ((f4.drop 0).take n4), .str ⟨#[32]⟩]) (by rw [← hP, List.drop_zero, List.take_of_length_le (by omega), e4]; exact hj) ⟨Vw.sl rfl hu4.get (by omega), Vw.same rfl, trivial⟩ ?_
    rintro r rfl
    refine ⟨rfl, ?_⟩
    cbv
    exact ⟨_, Vw.same rfl, hR _ rfl⟩
  · rw [if_neg hz] at hj
    have z1 : wnot (weqs [AV.int .i64 s0, .int .i64 s1] [AV.int .i64 0, .int .i64 0] [(0, 1), (1, 1)]) = true := by rw [zz, hnot]; simp [hz]
    simp only [z1]
    cbv
    refine InN.mk (by decide) (by decide) ?_
    refine QCal.stepE (by rw [← hP]; exact q6) rfl ?_
    cbv
    refine InN.mk (by decide) (by decide) ?_
    refine QCal.stepE (by rw [← hP]; exact q7) rfl ?_
    cbv
    obtain ⟨f3, ef3⟩ : ∃ z, z = f2 ++ [[AV.str ⟨#[115, 108, 105, 112]⟩], [.str bs0], [.str bs1]] := ⟨_, rfl⟩
    obtain ⟨n3, en3⟩ : ∃ z, z = n2 + 3 := ⟨_, rfl⟩
    refine AppL.mk f3 n3 ef3 hl2.symm en3 rfl (by omega) (by omega) ?_
    have hl3 : f3.length = n3 := by rw [ef3, en3, List.length_append, hl2]; rfl
    cbv
    refine Call.stepE (by rw [← hP]; exact q8) rfl ?_
    cbv
    obtain ⟨f4, ef4⟩ : ∃ z, z = f3 ++ sw := ⟨_, rfl⟩
    obtain ⟨n4, en4⟩ : ∃ z, z = n3 + sw.length := ⟨_, rfl⟩
    refine AppL.mk f4 n4 ef4 hl3.symm en4 rsw (by omega) (by omega) ?_
    cbv
    have hl4 : f4.length = n4 := by rw [ef4, en4, List.length_append, hl3]
    have hu4 : Up0 f4 := by rw [ef4, ef3, ef2, ef1]; exact up_app0 (up_app0 (up_app0 (up_app0 ⟨rfl⟩ hupw) ⟨rfl⟩) ⟨rfl⟩) husw
    have e4 : f4 = [[AV.str bc], [AV.str bm]] ++ pw ++ [[AV.str ⟨#[115, 112, 101, 101, 100]⟩], [.str bs], [.str ⟨#[102, 105, 116]⟩], [.str bf]] ++ [[AV.str ⟨#[115, 108, 105, 112]⟩], [.str bs0], [.str bs1]] ++ sw := by rw [ef4, ef3, ef2, ef1]; try simp only [List.append_assoc, List.nil_append]
    refine Call.view (args' := [.list 1 ((f4.drop 0).take n4), .str ⟨#[32]⟩]) (by rw [← hP, List.drop_zero, List.take_of_length_le (by omega), e4]; exact hj) ⟨Vw.sl rfl hu4.get (by omega), Vw.same rfl, trivial⟩ ?_
    rintro r rfl
    refine ⟨rfl, ?_⟩
    cbv
    exact ⟨_, Vw.same rfl, hR _ rfl⟩
end Go.Proofs.YtikhbgnokkdpeaaDoor

/- Lines as the document has them, by the engine. -/
set_option linter.unusedVariables false
set_option linter.unusedSimpArgs false
namespace Go.Proofs.YtikhbgnokkdpeaaDoor
open Go Go.RowKit Go.Eng
set_option maxRecDepth 100000
theorem e_rends (x y : Int) (hx : In64 x) (hy : In64 y) (b : ByteArray) (eb : b = bk (endsL x y)) : PCalls Tryd.prog 15 [.agg [.int .i64 x, .int .i64 y]] (· = .str b) := by
  obtain ⟨bx, ebx⟩ : ∃ z, z = itb x := ⟨_, rfl⟩
  obtain ⟨by_, eby⟩ : ∃ z, z = itb y := ⟨_, rfl⟩
  obtain ⟨bp, ebp⟩ : ∃ z, z = bx ++ (⟨#[46, 46]⟩ : ByteArray) := ⟨_, rfl⟩
  have h1 := e_dig x hx.1 hx.2 bx ebx
  have h2 := e_dig y hy.1 hy.2 by_ eby
  have l1 := len_itoa hx
  have l2 := len_itoa hy
  have ep : bp = bk (Lib.itoa x ++ [46, 46]) := by rw [ebp, ebx]; exact bk_app _ _
  have z1 : Sz bp := sz_bk (by rw [List.length_append]; simp only [List.length_cons, List.length_nil]; omega) ep
  have z2 : Sz b := sz_bk (by unfold endsL; rw [List.length_append, List.length_append]; simp only [List.length_cons, List.length_nil]; omega) eb
  have f : bp ++ by_ = b := by rw [ep, eby, eb]; exact bk_app _ _
  clear l1 l2
  (refine PCalls.ofY Tryd.func15 (by kernel_rfl) (by kernel_rfl) fun w hw R hR => ?_); (obtain ⟨wbin, wcmp, wun, wconv, wnot, wbeq, wmm, wscmp, wsadd, wslen, wsat, weqs, wlen, wnlen, wofNat, wtake, wdrop, wapp, wzero, wnat⟩ := w); (have hbin : wbin = binStd := congrArg Prims.bin hw); (have hcmp : wcmp = cmpStd := congrArg Prims.cmp hw); (have hun : wun = unStd := congrArg Prims.un hw); (have hconv : wconv = fun k n => k.wrap n := congrArg Prims.conv hw); (have hnot : wnot = fun b => !b := congrArg Prims.not hw); (have hbeq : wbeq = fun a b => a == b := congrArg Prims.beq hw); (have hmm : wmm = maxI := congrArg Prims.mm hw); (have hscmp : wscmp = scmpStd := congrArg Prims.scmp hw); (have hsadd : wsadd = fun x y => x ++ y := congrArg Prims.sadd hw); (have hslen : wslen = fun s => (s.size : Int) := congrArg Prims.slen hw); (have hsat : wsat = std.sat := congrArg Prims.sat hw); (have heqs : weqs = fun a b os => (eqOffs a b os).getD false := congrArg Prims.eqs hw); (have hlen : wlen = fun es => (es.length : Int) := congrArg Prims.len hw); (have hnlen : wnlen = fun es => es.length := congrArg Prims.nlen hw); (have hofNat : wofNat = (fun n : Nat => (n : Int)) := congrArg Prims.ofNat hw); (have htake : wtake = fun es b => es.take b.toNat := congrArg Prims.take hw); (have hdrop : wdrop = fun es a => es.drop a.toNat := congrArg Prims.drop hw); (have happ : wapp = fun a b => a ++ b := congrArg Prims.app hw); (have hzero : wzero = fun n z => List.replicate n.toNat z := congrArg Prims.zero hw); (have hnat : wnat = fun n => n.toNat := congrArg Prims.nat hw); (conv => arg 2; cbv); (generalize hP : Tryd.prog = P); cbv
  have s1 : wsadd bx ⟨#[46, 46]⟩ = bp := by rw [hsadd, ebp]
  have s2 : wsadd bp by_ = b := by rw [hsadd]; exact f
  repeat' (first
    | (refine InN.mk (by decide) (by decide) ?_)
    | (refine QCal.stepE (by rw [← hP]; exact h1) rfl ?_; cbv)
    | (refine QCal.stepE (by rw [← hP]; exact h2) rfl ?_; cbv)
    | (simp only [s1]; cbv)
    | (simp only [s2]; cbv)
    | (refine Le.mk (by rw [hslen]; first | exact z1.le | exact z2.le) ?_))
  exact ⟨_, Vw.same rfl, hR _ rfl⟩
def sepL (n : Nat) (c : UInt8) : List UInt8 := if 0 < n then [c] else []
theorem len_sep (n : Nat) (c : UInt8) : (sepL n c).length ≤ 1 := by unfold sepL; split <;> simp
theorem ways_step {rs : List (List Int)} {r : List Int} {i : Nat} (h : rs[i]? = some r) : waysL (rs.take (i + 1)) = waysL (rs.take i) ++ sepL i 44 ++ pathL r := by
  have e : rs.take (i + 1) = rs.take i ++ [r] := by rw [List.take_add_one, h]; rfl
  unfold waysL
  rw [e, List.map_append, List.map_cons, List.map_nil]
  unfold sepL
  by_cases h0 : 0 < i
  · rw [if_pos h0, join_snoc]
    intro hn
    have := congrArg List.length hn
    have hl := (List.getElem?_eq_some_iff.1 h).1
    rw [List.length_map, List.length_take, List.length_nil] at this
    omega
  · have : i = 0 := by omega
    subst this
    rw [if_neg h0]
    simp [Lib.join_one, Lib.join_nil]
theorem path_step {r : List Int} {k : Nat} {n : Int} (h : r[k]? = some n) : pathL (r.take (k + 1)) = pathL (r.take k) ++ sepL k 45 ++ Lib.itoa n := by
  have e : r.take (k + 1) = r.take k ++ [n] := by rw [List.take_add_one, h]; rfl
  unfold pathL
  rw [e, List.map_append, List.map_cons, List.map_nil]
  unfold sepL
  by_cases h0 : 0 < k
  · rw [if_pos h0, join_snoc]
    intro hn
    have := congrArg List.length hn
    have hl := (List.getElem?_eq_some_iff.1 h).1
    rw [List.length_map, List.length_take, List.length_nil] at this
    omega
  · have : k = 0 := by omega
    subst this
    rw [if_neg h0]
    simp [Lib.join_one, Lib.join_nil]
theorem len_ways {rs : List (List Int)} (h : ∀ r, r ∈ rs → ∀ n, n ∈ r → In64 n) (hn : rs.length ≤ 1000) (hr : ∀ r, r ∈ rs → r.length ≤ 1000) : (waysL rs).length ≤ 22001000 := by
  have a1 := len_join (rs.map pathL) 44
  have a2 := lens_le (m := 22000) (rs.map pathL) fun x hx => by
    obtain ⟨r, hrr, rfl⟩ := List.mem_map.1 hx
    have := len_path (h r hrr)
    have := hr r hrr
    omega
  rw [List.length_map] at a1 a2
  unfold waysL
  omega
theorem e_ways (rs : List (List Int)) (hrs : ∀ r, r ∈ rs → ∀ n, n ∈ r → In64 n) (hn : rs.length ≤ 1000) (hr : ∀ r, r ∈ rs → r.length ≤ 1000) (qs : List (List AV)) (hqs : qs = rs.map (fun r => [AV.list 1 (r.map nxRow)])) (b : ByteArray) (eb : b = bk (waysL rs)) : PCalls Tryd.prog 16 [.list 1 qs] (· = .str b) := by
  have huq : Up0 qs := by rw [hqs]; exact up_map (f := fun r => [AV.list 1 (r.map nxRow)]) (fun d => Up0.one (up_nx d) rfl) rs
  have hql : qs.length = rs.length := by rw [hqs]; simp
  have hget : ∀ i : Nat, i < rs.length → ∃ (r : List Int) (es : List (List AV)), rs[i]? = some r ∧ es = r.map nxRow ∧ Up0 es ∧ es.length = r.length ∧ qs[i]? = some [.list 1 es] ∧ (∀ n, n ∈ r → In64 n) ∧ r.length ≤ 1000 := fun i hi => by
    obtain ⟨r, hri⟩ : ∃ n, rs[i]? = some n := ⟨_, List.getElem?_eq_getElem hi⟩
    have hm := List.mem_of_getElem? hri
    exact ⟨r, _, hri, rfl, up_nx r, by simp, by rw [hqs, List.getElem?_map, hri]; rfl, hrs r hm, hr r hm⟩
  have hwl : ∀ i, (waysL (rs.take i)).length ≤ 22001000 := fun i => len_ways (fun r h => hrs r (List.mem_of_mem_take h)) (by rw [List.length_take]; omega) (fun r h => hr r (List.mem_of_mem_take h))
  (refine PCalls.ofY Tryd.func16 (by kernel_rfl) (by kernel_rfl) fun w hw R hR => ?_); (obtain ⟨wbin, wcmp, wun, wconv, wnot, wbeq, wmm, wscmp, wsadd, wslen, wsat, weqs, wlen, wnlen, wofNat, wtake, wdrop, wapp, wzero, wnat⟩ := w); (have hbin : wbin = binStd := congrArg Prims.bin hw); (have hcmp : wcmp = cmpStd := congrArg Prims.cmp hw); (have hun : wun = unStd := congrArg Prims.un hw); (have hconv : wconv = fun k n => k.wrap n := congrArg Prims.conv hw); (have hnot : wnot = fun b => !b := congrArg Prims.not hw); (have hbeq : wbeq = fun a b => a == b := congrArg Prims.beq hw); (have hmm : wmm = maxI := congrArg Prims.mm hw); (have hscmp : wscmp = scmpStd := congrArg Prims.scmp hw); (have hsadd : wsadd = fun x y => x ++ y := congrArg Prims.sadd hw); (have hslen : wslen = fun s => (s.size : Int) := congrArg Prims.slen hw); (have hsat : wsat = std.sat := congrArg Prims.sat hw); (have heqs : weqs = fun a b os => (eqOffs a b os).getD false := congrArg Prims.eqs hw); (have hlen : wlen = fun es => (es.length : Int) := congrArg Prims.len hw); (have hnlen : wnlen = fun es => es.length := congrArg Prims.nlen hw); (have hofNat : wofNat = (fun n : Nat => (n : Int)) := congrArg Prims.ofNat hw); (have htake : wtake = fun es b => es.take b.toNat := congrArg Prims.take hw); (have hdrop : wdrop = fun es a => es.drop a.toNat := congrArg Prims.drop hw); (have happ : wapp = fun a b => a ++ b := congrArg Prims.app hw); (have hzero : wzero = fun n z => List.replicate n.toNat z := congrArg Prims.zero hw); (have hnat : wnat = fun n => n.toNat := congrArg Prims.nat hw); (conv => arg 2; cbv); (generalize hP : Tryd.prog = P); cbv
  (obtain ⟨L, eL, L0, Ln⟩ : ∃ L : Int, wlen qs = L ∧ 0 ≤ L ∧ L.toNat = qs.length := ⟨(qs.length : Int), by rw [hlen], Int.natCast_nonneg _, Int.toNat_natCast _⟩)
  refine Loop.data hw (S := Int × ByteArray) (fun s => fr 40 [(0, .list 1 qs), (3, .str s.2), (4, .int .i64 s.1)]) (fun s => [])
    (fun s => 0 ≤ s.1 ∧ s.1 ≤ L ∧ s.2 = bk (waysL (rs.take s.1.toNat))) (fun s => (L - s.1).toNat) (0, ⟨#[]⟩) (by (refine Wk.eqz (id) (by first | exact fun i _ j _ e => e | (simp only [List.length_cons, List.length_nil]; decide)) ?_; cbv; (repeat' (first | exact trivial | rfl | assumption | apply And.intro | (simp only [hbin, hcmp, hun, hconv, hnot, hbeq, hmm, hscmp, hsadd, hslen, hsat, heqs, hofNat, binStd, cmpStd, unStd, scmpStd, maxI, Bool.not_eq_true', Bool.not_eq_false', decide_eq_true_eq, decide_eq_false_iff_not, Int.not_lt, Int.not_le, if_true, if_false, Bool.false_eq_true, beq_iff_eq, bne_iff_ne, ne_eq, Bool.not_eq_eq_eq_not, Bool.not_true, Bool.not_false, beq_eq_false_iff_ne, bne_eq_false_iff_eq, Int.ofNat_eq_natCast, Bool.not_not, not_true_eq_false, not_false_eq_true, reduceCtorEq]; first | done | assumption) | exact RowsZ.same (by assumption) (by first | assumption | rfl) | exact FzL.mk rfl rfl rfl (by assumption) (by first | assumption | rfl) (by decide) | (refine RowsZ.one ?_; cbv))))) ⟨by decide, L0, rfl⟩ ?_
  rintro ⟨i, t⟩ hinv Q' hN hE hR'
  have hinv : 0 ≤ i ∧ i ≤ L ∧ t = bk (waysL (rs.take i.toNat)) := hinv
  cbv
  obtain ⟨hi0, hi1, ht⟩ := hinv
  have szt : Sz t := sz_bk (by have := hwl i.toNat; omega) ht
  simp only [eL]
  (split <;> rename_i hc <;> (try (simp only [hbin, hcmp, hun, hconv, hnot, hbeq, hmm, hscmp, hsadd, hslen, hsat, heqs, hofNat, binStd, cmpStd, unStd, scmpStd, maxI, Bool.not_eq_true', Bool.not_eq_false', decide_eq_true_eq, decide_eq_false_iff_not, Int.not_lt, Int.not_le, if_true, if_false, Bool.false_eq_true, beq_iff_eq, bne_iff_ne, ne_eq, Bool.not_eq_eq_eq_not, Bool.not_true, Bool.not_false, beq_eq_false_iff_ne, bne_eq_false_iff_eq, Int.ofNat_eq_natCast, Bool.not_not, not_true_eq_false, not_false_eq_true, reduceCtorEq] at hc)) <;> (try cbv))
  · obtain ⟨r, es, g1, g2, g3, g3l, g4, g5, g6⟩ := hget i.toNat (by omega)
    obtain ⟨i2, ei2⟩ : ∃ z, z = i + 1 := ⟨_, rfl⟩
    have a4 : wbin .add .i64 i 1 = i2 := by rw [hbin, i_add (by omega) (by omega), ei2]
    have hT : (L - i2).toNat < (L - i).toNat := by omega
    have hws : waysL (rs.take i2.toNat) = waysL (rs.take i.toNat) ++ sepL i.toNat 44 ++ pathL r := by rw [show i2.toNat = i.toNat + 1 by omega]; exact ways_step g1
    obtain ⟨tc, etc⟩ : ∃ z : ByteArray, z = if 0 < i.toNat then t ++ ⟨#[44]⟩ else t := ⟨_, rfl⟩
    have htc : tc = bk (waysL (rs.take i.toNat) ++ sepL i.toNat 44) := by
      rw [etc, ht]
      unfold sepL
      split
      · exact bk_app _ _
      · simp
    have szc : Sz tc := sz_bk (by have := hwl i.toNat; have := len_sep i.toNat 44; rw [List.length_append]; omega) htc
    have f1 : 0 < i → wsadd t ⟨#[44]⟩ = tc := fun h => by rw [hsadd, etc, if_pos (by omega)]
    have f2 : ¬ 0 < i → t = tc := fun h => by rw [etc, if_neg (by omega)]
    have hpl : ∀ k, (waysL (rs.take i.toNat) ++ sepL i.toNat 44 ++ pathL (r.take k)).length ≤ 22030000 ∧ (waysL (rs.take i.toNat) ++ sepL i.toNat 44 ++ pathL (r.take k) ++ [45]).length ≤ 22030001 := fun k => by
      have h1 := hwl i.toNat
      have h2 := len_path (l := r.take k) fun n hn => g5 n (List.mem_of_mem_take hn)
      have h3 : (r.take k).length ≤ 1000 := by rw [List.length_take]; omega
      have h4 := len_sep i.toNat 44
      simp only [List.length_append, List.length_cons, List.length_nil]
      omega
    clear etc
    obtain ⟨pre, epre⟩ : ∃ z, z = waysL (rs.take i.toNat) ++ sepL i.toNat 44 := ⟨_, rfl⟩
    rw [← epre] at htc hws
    simp only [← epre] at hpl
    (split <;> rename_i h1 <;> (try (simp only [hbin, hcmp, hun, hconv, hnot, hbeq, hmm, hscmp, hsadd, hslen, hsat, heqs, hofNat, binStd, cmpStd, unStd, scmpStd, maxI, Bool.not_eq_true', Bool.not_eq_false', decide_eq_true_eq, decide_eq_false_iff_not, Int.not_lt, Int.not_le, if_true, if_false, Bool.false_eq_true, beq_iff_eq, bne_iff_ne, ne_eq, Bool.not_eq_eq_eq_not, Bool.not_true, Bool.not_false, beq_eq_false_iff_ne, bne_eq_false_iff_eq, Int.ofNat_eq_natCast, Bool.not_not, not_true_eq_false, not_false_eq_true, reduceCtorEq] at h1)) <;> (try cbv))
    · simp only [f1 (by omega)]
      refine Le.mk (by rw [hslen]; exact szc.le) ?_
      cbv
      refine Loop.data hw (S := Int × ByteArray) (fun s => fr 40 [(0, .list 1 qs), (3, .str s.2), (4, .int .i64 i), (5, .int .i64 s.1)]) (fun s => [])
        (fun s => 0 ≤ s.1 ∧ s.1.toNat ≤ r.length ∧ s.2 = bk (pre ++ pathL (r.take s.1.toNat))) (fun s => r.length - s.1.toNat) (0, tc) (by (refine Wk.eqz (id) (by first | exact fun i _ j _ e => e | (simp only [List.length_cons, List.length_nil]; decide)) ?_; cbv; (repeat' (first | exact trivial | rfl | assumption | apply And.intro | (simp only [hbin, hcmp, hun, hconv, hnot, hbeq, hmm, hscmp, hsadd, hslen, hsat, heqs, hofNat, binStd, cmpStd, unStd, scmpStd, maxI, Bool.not_eq_true', Bool.not_eq_false', decide_eq_true_eq, decide_eq_false_iff_not, Int.not_lt, Int.not_le, if_true, if_false, Bool.false_eq_true, beq_iff_eq, bne_iff_ne, ne_eq, Bool.not_eq_eq_eq_not, Bool.not_true, Bool.not_false, beq_eq_false_iff_ne, bne_eq_false_iff_eq, Int.ofNat_eq_natCast, Bool.not_not, not_true_eq_false, not_false_eq_true, reduceCtorEq]; first | done | assumption) | exact RowsZ.same (by assumption) (by first | assumption | rfl) | exact FzL.mk rfl rfl rfl (by assumption) (by first | assumption | rfl) (by decide) | (refine RowsZ.one ?_; cbv))))) ⟨Int.le_refl 0, Nat.zero_le _, by rw [htc]; simp [pathL, Lib.join_nil]⟩ ?_
      rintro ⟨k, u⟩ hinv2 Q2 hN2 hE2 hR2
      have hinv2 : 0 ≤ k ∧ k.toNat ≤ r.length ∧ u = bk (pre ++ pathL (r.take k.toNat)) := hinv2
      cbv
      obtain ⟨hk0, hk1, hu⟩ := hinv2
      refine Idx.mk _ hi0 g4 ?_
      cbv
      (obtain ⟨R, eR, R0, Rn⟩ : ∃ L : Int, wlen es = L ∧ 0 ≤ L ∧ L.toNat = es.length := ⟨(es.length : Int), by rw [hlen], Int.natCast_nonneg _, Int.toNat_natCast _⟩)
      simp only [eR]
      (split <;> rename_i hk <;> (try (simp only [hbin, hcmp, hun, hconv, hnot, hbeq, hmm, hscmp, hsadd, hslen, hsat, heqs, hofNat, binStd, cmpStd, unStd, scmpStd, maxI, Bool.not_eq_true', Bool.not_eq_false', decide_eq_true_eq, decide_eq_false_iff_not, Int.not_lt, Int.not_le, if_true, if_false, Bool.false_eq_true, beq_iff_eq, bne_iff_ne, ne_eq, Bool.not_eq_eq_eq_not, Bool.not_true, Bool.not_false, beq_eq_false_iff_ne, bne_eq_false_iff_eq, Int.ofNat_eq_natCast, Bool.not_not, not_true_eq_false, not_false_eq_true, reduceCtorEq] at hk)) <;> (try cbv))
      · obtain ⟨n, hn⟩ : ∃ n, r[k.toNat]? = some n := ⟨_, List.getElem?_eq_getElem (by omega)⟩
        have hin := g5 n (List.mem_of_getElem? hn)
        have hes : es[k.toNat]? = some [.int .i64 n] := by rw [g2, List.getElem?_map, hn]; rfl
        obtain ⟨bn, ebn⟩ : ∃ z, z = itb n := ⟨_, rfl⟩
        have hd := e_dig n hin.1 hin.2 bn ebn
        obtain ⟨k2, ek2⟩ : ∃ z, z = k + 1 := ⟨_, rfl⟩
        have a5 : wbin .add .i64 k 1 = k2 := by rw [hbin, i_add (by omega) (by omega), ek2]
        have hps : pathL (r.take k2.toNat) = pathL (r.take k.toNat) ++ sepL k.toNat 45 ++ Lib.itoa n := by rw [show k2.toNat = k.toNat + 1 by omega]; exact path_step hn
        obtain ⟨uc, euc⟩ : ∃ z : ByteArray, z = if 0 < k.toNat then u ++ ⟨#[45]⟩ else u := ⟨_, rfl⟩
        have huc : uc = bk (pre ++ pathL (r.take k.toNat) ++ sepL k.toNat 45) := by
          rw [euc, hu]
          unfold sepL
          split
          · exact bk_app _ _
          · simp
        have hl1 := (hpl k.toNat).2
        have hl2 := (hpl k2.toNat).1
        have szu : Sz uc := sz_bk (by have := len_sep k.toNat 45; simp only [List.length_append, List.length_cons, List.length_nil] at hl1 ⊢; omega) huc
        obtain ⟨u2, eu2⟩ : ∃ z, z = uc ++ bn := ⟨_, rfl⟩
        have hu2 : u2 = bk (pre ++ pathL (r.take k2.toNat)) := by
          rw [eu2, huc, ebn, hps]
          exact (bk_app _ _).trans (by simp only [List.append_assoc])
        have szu2 : Sz u2 := sz_bk (by omega) hu2
        have q1 : 0 < k → wsadd u ⟨#[45]⟩ = uc := fun h => by rw [hsadd, euc, if_pos (by omega)]
        have q2 : ¬ 0 < k → u = uc := fun h => by rw [euc, if_neg (by omega)]
        have q3 : wsadd uc bn = u2 := by rw [hsadd, eu2]
        clear euc
        have hT2 : r.length - k2.toNat < r.length - k.toNat := by omega
        (split <;> rename_i h2 <;> (try (simp only [hbin, hcmp, hun, hconv, hnot, hbeq, hmm, hscmp, hsadd, hslen, hsat, heqs, hofNat, binStd, cmpStd, unStd, scmpStd, maxI, Bool.not_eq_true', Bool.not_eq_false', decide_eq_true_eq, decide_eq_false_iff_not, Int.not_lt, Int.not_le, if_true, if_false, Bool.false_eq_true, beq_iff_eq, bne_iff_ne, ne_eq, Bool.not_eq_eq_eq_not, Bool.not_true, Bool.not_false, beq_eq_false_iff_ne, bne_eq_false_iff_eq, Int.ofNat_eq_natCast, Bool.not_not, not_true_eq_false, not_false_eq_true, reduceCtorEq] at h2)) <;> (try cbv))
        · simp only [q1 (by omega)]
          refine Le.mk (by rw [hslen]; exact szu.le) ?_
          cbv
          refine Idx.mk _ hi0 g4 ?_
          cbv
          refine Idx.mk _ hk0 hes ?_
          cbv
          refine Call.stepE (by rw [← hP]; exact hd) rfl ?_
          cbv
          simp only [q3]
          refine Le.mk (by rw [hslen]; exact szu2.le) ?_
          simp only [a5]
          refine hN2 (k2, u2) _ _ ?hx ?hi hT2
          case hx => (refine Wk.eqz (id) (by first | exact fun i _ j _ e => e | (simp only [List.length_cons, List.length_nil]; decide)) ?_; cbv; (repeat' (first | exact trivial | rfl | assumption | apply And.intro | (simp only [hbin, hcmp, hun, hconv, hnot, hbeq, hmm, hscmp, hsadd, hslen, hsat, heqs, hofNat, binStd, cmpStd, unStd, scmpStd, maxI, Bool.not_eq_true', Bool.not_eq_false', decide_eq_true_eq, decide_eq_false_iff_not, Int.not_lt, Int.not_le, if_true, if_false, Bool.false_eq_true, beq_iff_eq, bne_iff_ne, ne_eq, Bool.not_eq_eq_eq_not, Bool.not_true, Bool.not_false, beq_eq_false_iff_ne, bne_eq_false_iff_eq, Int.ofNat_eq_natCast, Bool.not_not, not_true_eq_false, not_false_eq_true, reduceCtorEq]; first | done | assumption) | exact RowsZ.same (by assumption) (by first | assumption | rfl) | exact FzL.mk rfl rfl rfl (by assumption) (by first | assumption | rfl) (by decide) | (refine RowsZ.one ?_; cbv))))
          case hi => exact ⟨by simp only; omega, by simp only; omega, hu2⟩
        · simp only [q2 (by omega)]
          cbv
          refine Idx.mk _ hi0 g4 ?_
          cbv
          refine Idx.mk _ hk0 hes ?_
          cbv
          refine Call.stepE (by rw [← hP]; exact hd) rfl ?_
          cbv
          simp only [q3]
          refine Le.mk (by rw [hslen]; exact szu2.le) ?_
          simp only [a5]
          refine hN2 (k2, u2) _ _ ?hx ?hi hT2
          case hx => (refine Wk.eqz (id) (by first | exact fun i _ j _ e => e | (simp only [List.length_cons, List.length_nil]; decide)) ?_; cbv; (repeat' (first | exact trivial | rfl | assumption | apply And.intro | (simp only [hbin, hcmp, hun, hconv, hnot, hbeq, hmm, hscmp, hsadd, hslen, hsat, heqs, hofNat, binStd, cmpStd, unStd, scmpStd, maxI, Bool.not_eq_true', Bool.not_eq_false', decide_eq_true_eq, decide_eq_false_iff_not, Int.not_lt, Int.not_le, if_true, if_false, Bool.false_eq_true, beq_iff_eq, bne_iff_ne, ne_eq, Bool.not_eq_eq_eq_not, Bool.not_true, Bool.not_false, beq_eq_false_iff_ne, bne_eq_false_iff_eq, Int.ofNat_eq_natCast, Bool.not_not, not_true_eq_false, not_false_eq_true, reduceCtorEq]; first | done | assumption) | exact RowsZ.same (by assumption) (by first | assumption | rfl) | exact FzL.mk rfl rfl rfl (by assumption) (by first | assumption | rfl) (by decide) | (refine RowsZ.one ?_; cbv))))
          case hi => exact ⟨by simp only; omega, by simp only; omega, hu2⟩
      · refine hE2 _ _ _ ?_
        cbv
        simp only [a4]
        refine hN (i2, u) _ _ ?hx ?hi hT
        case hx => (refine Wk.eqz (id) (by first | exact fun i _ j _ e => e | (simp only [List.length_cons, List.length_nil]; decide)) ?_; cbv; (repeat' (first | exact trivial | rfl | assumption | apply And.intro | (simp only [hbin, hcmp, hun, hconv, hnot, hbeq, hmm, hscmp, hsadd, hslen, hsat, heqs, hofNat, binStd, cmpStd, unStd, scmpStd, maxI, Bool.not_eq_true', Bool.not_eq_false', decide_eq_true_eq, decide_eq_false_iff_not, Int.not_lt, Int.not_le, if_true, if_false, Bool.false_eq_true, beq_iff_eq, bne_iff_ne, ne_eq, Bool.not_eq_eq_eq_not, Bool.not_true, Bool.not_false, beq_eq_false_iff_ne, bne_eq_false_iff_eq, Int.ofNat_eq_natCast, Bool.not_not, not_true_eq_false, not_false_eq_true, reduceCtorEq]; first | done | assumption) | exact RowsZ.same (by assumption) (by first | assumption | rfl) | exact FzL.mk rfl rfl rfl (by assumption) (by first | assumption | rfl) (by decide) | (refine RowsZ.one ?_; cbv))))
        case hi => exact ⟨by simp only; omega, by simp only; omega, by rw [hu, hws, List.take_of_length_le (by omega)]⟩
    · simp only [f2 (by omega)]
      cbv
      refine Loop.data hw (S := Int × ByteArray) (fun s => fr 40 [(0, .list 1 qs), (3, .str s.2), (4, .int .i64 i), (5, .int .i64 s.1)]) (fun s => [])
        (fun s => 0 ≤ s.1 ∧ s.1.toNat ≤ r.length ∧ s.2 = bk (pre ++ pathL (r.take s.1.toNat))) (fun s => r.length - s.1.toNat) (0, tc) (by (refine Wk.eqz (id) (by first | exact fun i _ j _ e => e | (simp only [List.length_cons, List.length_nil]; decide)) ?_; cbv; (repeat' (first | exact trivial | rfl | assumption | apply And.intro | (simp only [hbin, hcmp, hun, hconv, hnot, hbeq, hmm, hscmp, hsadd, hslen, hsat, heqs, hofNat, binStd, cmpStd, unStd, scmpStd, maxI, Bool.not_eq_true', Bool.not_eq_false', decide_eq_true_eq, decide_eq_false_iff_not, Int.not_lt, Int.not_le, if_true, if_false, Bool.false_eq_true, beq_iff_eq, bne_iff_ne, ne_eq, Bool.not_eq_eq_eq_not, Bool.not_true, Bool.not_false, beq_eq_false_iff_ne, bne_eq_false_iff_eq, Int.ofNat_eq_natCast, Bool.not_not, not_true_eq_false, not_false_eq_true, reduceCtorEq]; first | done | assumption) | exact RowsZ.same (by assumption) (by first | assumption | rfl) | exact FzL.mk rfl rfl rfl (by assumption) (by first | assumption | rfl) (by decide) | (refine RowsZ.one ?_; cbv))))) ⟨Int.le_refl 0, Nat.zero_le _, by rw [htc]; simp [pathL, Lib.join_nil]⟩ ?_
      rintro ⟨k, u⟩ hinv2 Q2 hN2 hE2 hR2
      have hinv2 : 0 ≤ k ∧ k.toNat ≤ r.length ∧ u = bk (pre ++ pathL (r.take k.toNat)) := hinv2
      cbv
      obtain ⟨hk0, hk1, hu⟩ := hinv2
      refine Idx.mk _ hi0 g4 ?_
      cbv
      (obtain ⟨R, eR, R0, Rn⟩ : ∃ L : Int, wlen es = L ∧ 0 ≤ L ∧ L.toNat = es.length := ⟨(es.length : Int), by rw [hlen], Int.natCast_nonneg _, Int.toNat_natCast _⟩)
      simp only [eR]
      (split <;> rename_i hk <;> (try (simp only [hbin, hcmp, hun, hconv, hnot, hbeq, hmm, hscmp, hsadd, hslen, hsat, heqs, hofNat, binStd, cmpStd, unStd, scmpStd, maxI, Bool.not_eq_true', Bool.not_eq_false', decide_eq_true_eq, decide_eq_false_iff_not, Int.not_lt, Int.not_le, if_true, if_false, Bool.false_eq_true, beq_iff_eq, bne_iff_ne, ne_eq, Bool.not_eq_eq_eq_not, Bool.not_true, Bool.not_false, beq_eq_false_iff_ne, bne_eq_false_iff_eq, Int.ofNat_eq_natCast, Bool.not_not, not_true_eq_false, not_false_eq_true, reduceCtorEq] at hk)) <;> (try cbv))
      · obtain ⟨n, hn⟩ : ∃ n, r[k.toNat]? = some n := ⟨_, List.getElem?_eq_getElem (by omega)⟩
        have hin := g5 n (List.mem_of_getElem? hn)
        have hes : es[k.toNat]? = some [.int .i64 n] := by rw [g2, List.getElem?_map, hn]; rfl
        obtain ⟨bn, ebn⟩ : ∃ z, z = itb n := ⟨_, rfl⟩
        have hd := e_dig n hin.1 hin.2 bn ebn
        obtain ⟨k2, ek2⟩ : ∃ z, z = k + 1 := ⟨_, rfl⟩
        have a5 : wbin .add .i64 k 1 = k2 := by rw [hbin, i_add (by omega) (by omega), ek2]
        have hps : pathL (r.take k2.toNat) = pathL (r.take k.toNat) ++ sepL k.toNat 45 ++ Lib.itoa n := by rw [show k2.toNat = k.toNat + 1 by omega]; exact path_step hn
        obtain ⟨uc, euc⟩ : ∃ z : ByteArray, z = if 0 < k.toNat then u ++ ⟨#[45]⟩ else u := ⟨_, rfl⟩
        have huc : uc = bk (pre ++ pathL (r.take k.toNat) ++ sepL k.toNat 45) := by
          rw [euc, hu]
          unfold sepL
          split
          · exact bk_app _ _
          · simp
        have hl1 := (hpl k.toNat).2
        have hl2 := (hpl k2.toNat).1
        have szu : Sz uc := sz_bk (by have := len_sep k.toNat 45; simp only [List.length_append, List.length_cons, List.length_nil] at hl1 ⊢; omega) huc
        obtain ⟨u2, eu2⟩ : ∃ z, z = uc ++ bn := ⟨_, rfl⟩
        have hu2 : u2 = bk (pre ++ pathL (r.take k2.toNat)) := by
          rw [eu2, huc, ebn, hps]
          exact (bk_app _ _).trans (by simp only [List.append_assoc])
        have szu2 : Sz u2 := sz_bk (by omega) hu2
        have q1 : 0 < k → wsadd u ⟨#[45]⟩ = uc := fun h => by rw [hsadd, euc, if_pos (by omega)]
        have q2 : ¬ 0 < k → u = uc := fun h => by rw [euc, if_neg (by omega)]
        have q3 : wsadd uc bn = u2 := by rw [hsadd, eu2]
        clear euc
        have hT2 : r.length - k2.toNat < r.length - k.toNat := by omega
        (split <;> rename_i h2 <;> (try (simp only [hbin, hcmp, hun, hconv, hnot, hbeq, hmm, hscmp, hsadd, hslen, hsat, heqs, hofNat, binStd, cmpStd, unStd, scmpStd, maxI, Bool.not_eq_true', Bool.not_eq_false', decide_eq_true_eq, decide_eq_false_iff_not, Int.not_lt, Int.not_le, if_true, if_false, Bool.false_eq_true, beq_iff_eq, bne_iff_ne, ne_eq, Bool.not_eq_eq_eq_not, Bool.not_true, Bool.not_false, beq_eq_false_iff_ne, bne_eq_false_iff_eq, Int.ofNat_eq_natCast, Bool.not_not, not_true_eq_false, not_false_eq_true, reduceCtorEq] at h2)) <;> (try cbv))
        · simp only [q1 (by omega)]
          refine Le.mk (by rw [hslen]; exact szu.le) ?_
          cbv
          refine Idx.mk _ hi0 g4 ?_
          cbv
          refine Idx.mk _ hk0 hes ?_
          cbv
          refine Call.stepE (by rw [← hP]; exact hd) rfl ?_
          cbv
          simp only [q3]
          refine Le.mk (by rw [hslen]; exact szu2.le) ?_
          simp only [a5]
          refine hN2 (k2, u2) _ _ ?hx ?hi hT2
          case hx => (refine Wk.eqz (id) (by first | exact fun i _ j _ e => e | (simp only [List.length_cons, List.length_nil]; decide)) ?_; cbv; (repeat' (first | exact trivial | rfl | assumption | apply And.intro | (simp only [hbin, hcmp, hun, hconv, hnot, hbeq, hmm, hscmp, hsadd, hslen, hsat, heqs, hofNat, binStd, cmpStd, unStd, scmpStd, maxI, Bool.not_eq_true', Bool.not_eq_false', decide_eq_true_eq, decide_eq_false_iff_not, Int.not_lt, Int.not_le, if_true, if_false, Bool.false_eq_true, beq_iff_eq, bne_iff_ne, ne_eq, Bool.not_eq_eq_eq_not, Bool.not_true, Bool.not_false, beq_eq_false_iff_ne, bne_eq_false_iff_eq, Int.ofNat_eq_natCast, Bool.not_not, not_true_eq_false, not_false_eq_true, reduceCtorEq]; first | done | assumption) | exact RowsZ.same (by assumption) (by first | assumption | rfl) | exact FzL.mk rfl rfl rfl (by assumption) (by first | assumption | rfl) (by decide) | (refine RowsZ.one ?_; cbv))))
          case hi => exact ⟨by simp only; omega, by simp only; omega, hu2⟩
        · simp only [q2 (by omega)]
          cbv
          refine Idx.mk _ hi0 g4 ?_
          cbv
          refine Idx.mk _ hk0 hes ?_
          cbv
          refine Call.stepE (by rw [← hP]; exact hd) rfl ?_
          cbv
          simp only [q3]
          refine Le.mk (by rw [hslen]; exact szu2.le) ?_
          simp only [a5]
          refine hN2 (k2, u2) _ _ ?hx ?hi hT2
          case hx => (refine Wk.eqz (id) (by first | exact fun i _ j _ e => e | (simp only [List.length_cons, List.length_nil]; decide)) ?_; cbv; (repeat' (first | exact trivial | rfl | assumption | apply And.intro | (simp only [hbin, hcmp, hun, hconv, hnot, hbeq, hmm, hscmp, hsadd, hslen, hsat, heqs, hofNat, binStd, cmpStd, unStd, scmpStd, maxI, Bool.not_eq_true', Bool.not_eq_false', decide_eq_true_eq, decide_eq_false_iff_not, Int.not_lt, Int.not_le, if_true, if_false, Bool.false_eq_true, beq_iff_eq, bne_iff_ne, ne_eq, Bool.not_eq_eq_eq_not, Bool.not_true, Bool.not_false, beq_eq_false_iff_ne, bne_eq_false_iff_eq, Int.ofNat_eq_natCast, Bool.not_not, not_true_eq_false, not_false_eq_true, reduceCtorEq]; first | done | assumption) | exact RowsZ.same (by assumption) (by first | assumption | rfl) | exact FzL.mk rfl rfl rfl (by assumption) (by first | assumption | rfl) (by decide) | (refine RowsZ.one ?_; cbv))))
          case hi => exact ⟨by simp only; omega, by simp only; omega, hu2⟩
      · refine hE2 _ _ _ ?_
        cbv
        simp only [a4]
        refine hN (i2, u) _ _ ?hx ?hi hT
        case hx => (refine Wk.eqz (id) (by first | exact fun i _ j _ e => e | (simp only [List.length_cons, List.length_nil]; decide)) ?_; cbv; (repeat' (first | exact trivial | rfl | assumption | apply And.intro | (simp only [hbin, hcmp, hun, hconv, hnot, hbeq, hmm, hscmp, hsadd, hslen, hsat, heqs, hofNat, binStd, cmpStd, unStd, scmpStd, maxI, Bool.not_eq_true', Bool.not_eq_false', decide_eq_true_eq, decide_eq_false_iff_not, Int.not_lt, Int.not_le, if_true, if_false, Bool.false_eq_true, beq_iff_eq, bne_iff_ne, ne_eq, Bool.not_eq_eq_eq_not, Bool.not_true, Bool.not_false, beq_eq_false_iff_ne, bne_eq_false_iff_eq, Int.ofNat_eq_natCast, Bool.not_not, not_true_eq_false, not_false_eq_true, reduceCtorEq]; first | done | assumption) | exact RowsZ.same (by assumption) (by first | assumption | rfl) | exact FzL.mk rfl rfl rfl (by assumption) (by first | assumption | rfl) (by decide) | (refine RowsZ.one ?_; cbv))))
        case hi => exact ⟨by simp only; omega, by simp only; omega, by rw [hu, hws, List.take_of_length_le (by omega)]⟩
  · refine hE _ _ _ ?_
    cbv
    exact ⟨_, Vw.same rfl, hR _ (by rw [eb, ht, List.take_of_length_le (by omega)]; rfl)⟩
end Go.Proofs.YtikhbgnokkdpeaaDoor

/- A report's line as the document has it, by the engine. Printed by genrtext.py. -/
set_option linter.unusedVariables false
set_option linter.unusedSimpArgs false
namespace Go.Proofs.YtikhbgnokkdpeaaDoor
open Go Go.RowKit Go.Eng
set_option maxRecDepth 100000
def jt (l : List (List UInt8)) : List UInt8 := Lib.joinTail [32] l
theorem jt_app (a b : List (List UInt8)) : jt (a ++ b) = jt a ++ jt b := by simp [jt, Lib.joinTail]
theorem jt_nil : jt [] = [] := rfl
theorem jt_cons (x : List UInt8) (l : List (List UInt8)) : jt (x :: l) = [32] ++ x ++ jt l := by simp [jt, Lib.joinTail]
def l4 (o : Lr) : List UInt8 := Lib.itoa o.c ++ [32] ++ modeL o.m ++ jt (placedL o) ++ jt [[115, 112, 101, 101, 100], endsL o.slo o.shi, [102, 105, 116], Lib.itoa o.fit]
theorem line_jt (o : Lr) : lineB o = bk (l4 o ++ jt (slipL o) ++ jt (saidL (flagsL o))) := by
  unfold lineB wordsL l4
  congr 1
  rw [List.append_assoc, List.append_assoc, List.append_assoc]
  simp only [List.cons_append, List.nil_append]
  rw [Lib.join_cons]
  show _ ++ jt _ = _
  simp only [jt_cons, jt_app, List.append_assoc, List.cons_append, List.nil_append, jt_nil, List.append_nil]
def flN (o : Lr) (i : Int) : List UInt8 := jt (saidL ((flagsL o).take i.toNat))
theorem len_fl (o : Lr) (i : Int) : (flN o i).length ≤ 70 := by
  have h1 : ∀ l : List (List UInt8), l.length ≤ 7 → (∀ x, x ∈ l → x.length ≤ 9) → (jt l).length ≤ 10 * l.length := fun l => by
    induction l with
    | nil => intro _ _; simp [jt_nil]
    | cons x l ih =>
      intro h1 h2
      have := ih (by simp at h1; omega) (fun y hy => h2 y (by simp [hy]))
      have := h2 x (by simp)
      rw [jt_cons]
      simp only [List.length_append, List.length_cons, List.length_nil]
      omega
  have h2 : (saidL ((flagsL o).take i.toNat)).length ≤ 7 := by
    unfold saidL; rw [List.length_map]
    refine Nat.le_trans (List.length_filter_le _ _) ?_
    rw [List.length_take]
    have : (flagsL o).length = 7 := rfl
    omega
  have := h1 _ h2 fun x hx => by
    unfold saidL at hx
    obtain ⟨f, hf, rfl⟩ := List.mem_map.1 hx
    have := List.mem_of_mem_take (List.mem_filter.1 hf).1
    unfold flagsL at this
    simp only [List.mem_cons, List.not_mem_nil, or_false] at this
    rcases this with rfl | rfl | rfl | rfl | rfl | rfl | rfl <;> simp
  unfold flN
  omega
theorem fl_none {o : Lr} {i : Nat} {x : List UInt8} (h : (flagsL o)[i]? = some (false, x)) : flN o ((i : Int) + 1) = flN o i := by
  unfold flN
  rw [show ((i : Int) + 1).toNat = i + 1 by omega, show ((i : Int)).toNat = i by omega, said_none h]
theorem fl_some {o : Lr} {i : Nat} {x : List UInt8} (h : (flagsL o)[i]? = some (true, x)) : flN o ((i : Int) + 1) = flN o i ++ ([32] ++ x) := by
  unfold flN
  rw [show ((i : Int) + 1).toNat = i + 1 by omega, show ((i : Int)).toNat = i by omega, said_some h, jt_app, jt_cons, jt_nil, List.append_nil]
structure FlOk (o : Lr) (f0 f1 f2 f3 f4 f5 f6 : Int) : Prop where
  h0 : f0 = 1 ↔ o.b1 = true
  h1 : f1 = 1 ↔ o.b2 = true
  h2 : f2 = 1 ↔ o.b3 = true
  h3 : f3 = 1 ↔ o.b4 = true
  h4 : f4 = 1 ↔ o.b5 = true
  h5 : f5 = 1 ↔ o.b6 = true
  h6 : f6 = 1 ↔ o.b7 = true
end Go.Proofs.YtikhbgnokkdpeaaDoor

/- A report's line as the document has it, by the engine. Printed by genrtext.py. -/
set_option linter.unusedVariables false
set_option linter.unusedSimpArgs false
namespace Go.Proofs.YtikhbgnokkdpeaaDoor
open Go Go.RowKit Go.Eng
set_option maxRecDepth 100000
set_option maxHeartbeats 8000000 in
theorem e_rtext0 (o : Lr) (h : LrOk o) (hs : LrSmall o) (c m g fit lo hi slo shi est s0 s1 f0 f1 f2 f3 f4 f5 f6 : Int) (rs : List (List Int)) (e1 : o.c = c) (e2 : o.m = m) (e3 : o.g = g) (e4 : o.fit = fit) (e5 : o.lo = lo) (e6 : o.hi = hi) (e7 : o.slo = slo) (e8 : o.shi = shi) (e9 : o.est = est) (e10 : o.s0 = s0) (e11 : o.s1 = s1) (e12 : o.rs = rs) (hf : FlOk o f0 f1 f2 f3 f4 f5 f6) (hm : m < 1) (qs : List (List AV)) (hqs : qs = rs.map (fun r => [AV.list 1 (r.map nxRow)])) (t : ByteArray) (et : t = lineB o) :
    PCalls Tryd.prog 7 [.agg [.int .i64 c, .int .i64 m, .int .i64 g, .int .i64 fit, .int .i64 lo, .int .i64 hi, .int .i64 slo, .int .i64 shi, .int .i64 est, .list 1 qs, .int .i64 s0, .int .i64 s1, .int .i64 f0, .int .i64 f1, .int .i64 f2, .int .i64 f3, .int .i64 f4, .int .i64 f5, .int .i64 f6]] (· = .str t) := by
  have hc : In64 c := e1 ▸ h.c
  have hg : In64 g := e3 ▸ h.g
  have hfit : In64 fit := e4 ▸ h.fit
  have hlo : In64 lo := e5 ▸ h.lo
  have hhi : In64 hi := e6 ▸ h.hi
  have hslo : In64 slo := e7 ▸ h.slo
  have hshi : In64 shi := e8 ▸ h.shi
  have hest : In64 est := e9 ▸ h.est
  have hs0 : In64 s0 := e10 ▸ h.s0
  have hs1 : In64 s1 := e11 ▸ h.s1
  have hrs : ∀ r, r ∈ rs → ∀ n, n ∈ r → In64 n := e12 ▸ h.rs
  have huq : Up0 qs := by rw [hqs]; exact up_map (f := fun r => [AV.list 1 (r.map nxRow)]) (fun d => Up0.one (up_nx d) rfl) rs
  obtain ⟨ways, eways⟩ : ∃ w, w = if g = 0 then [] else waysL rs := ⟨_, rfl⟩
  have nways : ways.length ≤ 22001000 := by
    rw [eways]; split
    · simp
    · rename_i hg0; exact len_ways hrs (by have := hs.n (by rw [e3]; exact hg0); rw [e12] at this; exact this) (by have := hs.r (by rw [e3]; exact hg0); rw [e12] at this; exact this)
  have nm : (modeL m).length ≤ 9 := by unfold modeL; (repeat' split) <;> simp
  obtain ⟨Lt0, eLt0⟩ : ∃ z, z = Lib.itoa c := ⟨_, rfl⟩
  obtain ⟨t0, et0⟩ : ∃ z, z = bk Lt0 := ⟨_, rfl⟩
  have nt0 : Lt0.length ≤ 21 := by rw [eLt0]; exact len_itoa hc
  obtain ⟨bm, ebm⟩ : ∃ z, z = bk (modeL m) := ⟨_, rfl⟩
  obtain ⟨bg, ebg⟩ : ∃ z, z = bk (Lib.itoa g) := ⟨_, rfl⟩
  obtain ⟨bp, ebp⟩ : ∃ z, z = bk (endsL lo hi) := ⟨_, rfl⟩
  obtain ⟨be, ebe⟩ : ∃ z, z = bk (Lib.itoa est) := ⟨_, rfl⟩
  obtain ⟨bw, ebw⟩ : ∃ z, z = bk ways := ⟨_, rfl⟩
  obtain ⟨bs, ebs⟩ : ∃ z, z = bk (endsL slo shi) := ⟨_, rfl⟩
  obtain ⟨bf, ebf⟩ : ∃ z, z = bk (Lib.itoa fit) := ⟨_, rfl⟩
  obtain ⟨bs0, ebs0⟩ : ∃ z, z = bk (Lib.itoa s0) := ⟨_, rfl⟩
  obtain ⟨bs1, ebs1⟩ : ∃ z, z = bk (Lib.itoa s1) := ⟨_, rfl⟩
  have d0 := e_dig c hc.1 hc.2 t0 (by rw [et0, eLt0]; rfl)
  have dg := e_dig g hg.1 hg.2 bg ebg
  have dp := e_rends lo hi hlo hhi bp ebp
  have de := e_dig est hest.1 hest.2 be ebe
  have ds := e_rends slo shi hslo hshi bs ebs
  have df := e_dig fit hfit.1 hfit.2 bf ebf
  have ds0 := e_dig s0 hs0.1 hs0.2 bs0 ebs0
  have ds1 := e_dig s1 hs1.1 hs1.2 bs1 ebs1
  have dw : g ≠ 0 → PCalls Tryd.prog 16 [.list 1 qs] (· = .str bw) := fun hg0 => e_ways rs hrs (by have := hs.n (by rw [e3]; exact hg0); rw [e12] at this; exact this) (by have := hs.r (by rw [e3]; exact hg0); rw [e12] at this; exact this) qs hqs bw (by rw [ebw, eways, if_neg hg0])
  have nitoa : ∀ n, In64 n → (Lib.itoa n).length ≤ 21 := fun n hn => len_itoa hn
  obtain ⟨Lt1, eLt1⟩ : ∃ z : List UInt8, z = Lt0 ++ [32] := ⟨_, rfl⟩
  have nt1 : Lt1.length ≤ 22 := by rw [eLt1, List.length_append]; simp only [List.length_cons, List.length_nil]; omega
  obtain ⟨t1, et1⟩ : ∃ z, z = bk Lt1 := ⟨_, rfl⟩
  have zt1 : Sz t1 := sz_bk (by omega) et1
  have Ft1 : t0 ++ (⟨#[32]⟩ : ByteArray) = t1 := by rw [et0, et1, eLt1]; exact bk_app _ _
  obtain ⟨Lt2, eLt2⟩ : ∃ z : List UInt8, z = Lt1 ++ modeL m := ⟨_, rfl⟩
  have nt2 : Lt2.length ≤ 31 := by rw [eLt2, List.length_append]; omega
  obtain ⟨t2, et2⟩ : ∃ z, z = bk Lt2 := ⟨_, rfl⟩
  have zt2 : Sz t2 := sz_bk (by omega) et2
  have Ft2 : t1 ++ bm = t2 := by rw [et1, ebm, et2, eLt2]; exact bk_app _ _
  obtain ⟨Lp1, eLp1⟩ : ∃ z : List UInt8, z = Lt2 ++ [32, 103, 114, 111, 117, 112, 32] := ⟨_, rfl⟩
  have np1 : Lp1.length ≤ 38 := by rw [eLp1, List.length_append]; simp only [List.length_cons, List.length_nil]; omega
  obtain ⟨p1, ep1⟩ : ∃ z, z = bk Lp1 := ⟨_, rfl⟩
  have zp1 : Sz p1 := sz_bk (by omega) ep1
  have Fp1 : t2 ++ (⟨#[32, 103, 114, 111, 117, 112, 32]⟩ : ByteArray) = p1 := by rw [et2, ep1, eLp1]; exact bk_app _ _
  obtain ⟨Lp2, eLp2⟩ : ∃ z : List UInt8, z = Lp1 ++ Lib.itoa g := ⟨_, rfl⟩
  have np2 : Lp2.length ≤ 59 := by rw [eLp2, List.length_append]; have := nitoa g hg; omega
  obtain ⟨p2, ep2⟩ : ∃ z, z = bk Lp2 := ⟨_, rfl⟩
  have zp2 : Sz p2 := sz_bk (by omega) ep2
  have Fp2 : p1 ++ bg = p2 := by rw [ep1, ebg, ep2, eLp2]; exact bk_app _ _
  obtain ⟨Lp3, eLp3⟩ : ∃ z : List UInt8, z = Lp2 ++ [32, 97, 116, 32] := ⟨_, rfl⟩
  have np3 : Lp3.length ≤ 63 := by rw [eLp3, List.length_append]; simp only [List.length_cons, List.length_nil]; omega
  obtain ⟨p3, ep3⟩ : ∃ z, z = bk Lp3 := ⟨_, rfl⟩
  have zp3 : Sz p3 := sz_bk (by omega) ep3
  have Fp3 : p2 ++ (⟨#[32, 97, 116, 32]⟩ : ByteArray) = p3 := by rw [ep2, ep3, eLp3]; exact bk_app _ _
  obtain ⟨Lp4, eLp4⟩ : ∃ z : List UInt8, z = Lp3 ++ endsL lo hi := ⟨_, rfl⟩
  have np4 : Lp4.length ≤ 107 := by rw [eLp4, List.length_append]; have := len_ends hlo hhi; omega
  obtain ⟨p4, ep4⟩ : ∃ z, z = bk Lp4 := ⟨_, rfl⟩
  have zp4 : Sz p4 := sz_bk (by omega) ep4
  have Fp4 : p3 ++ bp = p4 := by rw [ep3, ebp, ep4, eLp4]; exact bk_app _ _
  obtain ⟨Lp5, eLp5⟩ : ∃ z : List UInt8, z = Lp4 ++ [32, 101, 115, 116, 32] := ⟨_, rfl⟩
  have np5 : Lp5.length ≤ 112 := by rw [eLp5, List.length_append]; simp only [List.length_cons, List.length_nil]; omega
  obtain ⟨p5, ep5⟩ : ∃ z, z = bk Lp5 := ⟨_, rfl⟩
  have zp5 : Sz p5 := sz_bk (by omega) ep5
  have Fp5 : p4 ++ (⟨#[32, 101, 115, 116, 32]⟩ : ByteArray) = p5 := by rw [ep4, ep5, eLp5]; exact bk_app _ _
  obtain ⟨Lp6, eLp6⟩ : ∃ z : List UInt8, z = Lp5 ++ Lib.itoa est := ⟨_, rfl⟩
  have np6 : Lp6.length ≤ 133 := by rw [eLp6, List.length_append]; have := nitoa est hest; omega
  obtain ⟨p6, ep6⟩ : ∃ z, z = bk Lp6 := ⟨_, rfl⟩
  have zp6 : Sz p6 := sz_bk (by omega) ep6
  have Fp6 : p5 ++ be = p6 := by rw [ep5, ebe, ep6, eLp6]; exact bk_app _ _
  obtain ⟨Lp7, eLp7⟩ : ∃ z : List UInt8, z = Lp6 ++ [32, 119, 97, 121, 115, 32] := ⟨_, rfl⟩
  have np7 : Lp7.length ≤ 139 := by rw [eLp7, List.length_append]; simp only [List.length_cons, List.length_nil]; omega
  obtain ⟨p7, ep7⟩ : ∃ z, z = bk Lp7 := ⟨_, rfl⟩
  have zp7 : Sz p7 := sz_bk (by omega) ep7
  have Fp7 : p6 ++ (⟨#[32, 119, 97, 121, 115, 32]⟩ : ByteArray) = p7 := by rw [ep6, ep7, eLp7]; exact bk_app _ _
  obtain ⟨Lp8, eLp8⟩ : ∃ z : List UInt8, z = Lp7 ++ ways := ⟨_, rfl⟩
  have np8 : Lp8.length ≤ 22001139 := by rw [eLp8, List.length_append]; omega
  obtain ⟨p8, ep8⟩ : ∃ z, z = bk Lp8 := ⟨_, rfl⟩
  have zp8 : Sz p8 := sz_bk (by omega) ep8
  have Fp8 : p7 ++ bw = p8 := by rw [ep7, ebw, ep8, eLp8]; exact bk_app _ _
  obtain ⟨Lt3, eLt3⟩ : ∃ z, z = if g = 0 then Lt2 else Lp8 := ⟨_, rfl⟩
  have nt3 : Lt3.length ≤ 22002000 := by rw [eLt3]; split <;> omega
  obtain ⟨t3, et3⟩ : ∃ z, z = bk Lt3 := ⟨_, rfl⟩
  obtain ⟨Lu1, eLu1⟩ : ∃ z : List UInt8, z = Lt3 ++ [32, 115, 112, 101, 101, 100, 32] := ⟨_, rfl⟩
  have nu1 : Lu1.length ≤ 22002007 := by rw [eLu1, List.length_append]; simp only [List.length_cons, List.length_nil]; omega
  obtain ⟨u1, eu1⟩ : ∃ z, z = bk Lu1 := ⟨_, rfl⟩
  have zu1 : Sz u1 := sz_bk (by omega) eu1
  have Fu1 : t3 ++ (⟨#[32, 115, 112, 101, 101, 100, 32]⟩ : ByteArray) = u1 := by rw [et3, eu1, eLu1]; exact bk_app _ _
  obtain ⟨Lu2, eLu2⟩ : ∃ z : List UInt8, z = Lu1 ++ endsL slo shi := ⟨_, rfl⟩
  have nu2 : Lu2.length ≤ 22002051 := by rw [eLu2, List.length_append]; have := len_ends hslo hshi; omega
  obtain ⟨u2, eu2⟩ : ∃ z, z = bk Lu2 := ⟨_, rfl⟩
  have zu2 : Sz u2 := sz_bk (by omega) eu2
  have Fu2 : u1 ++ bs = u2 := by rw [eu1, ebs, eu2, eLu2]; exact bk_app _ _
  obtain ⟨Lu3, eLu3⟩ : ∃ z : List UInt8, z = Lu2 ++ [32, 102, 105, 116, 32] := ⟨_, rfl⟩
  have nu3 : Lu3.length ≤ 22002056 := by rw [eLu3, List.length_append]; simp only [List.length_cons, List.length_nil]; omega
  obtain ⟨u3, eu3⟩ : ∃ z, z = bk Lu3 := ⟨_, rfl⟩
  have zu3 : Sz u3 := sz_bk (by omega) eu3
  have Fu3 : u2 ++ (⟨#[32, 102, 105, 116, 32]⟩ : ByteArray) = u3 := by rw [eu2, eu3, eLu3]; exact bk_app _ _
  obtain ⟨Lu4, eLu4⟩ : ∃ z : List UInt8, z = Lu3 ++ Lib.itoa fit := ⟨_, rfl⟩
  have nu4 : Lu4.length ≤ 22002077 := by rw [eLu4, List.length_append]; have := nitoa fit hfit; omega
  obtain ⟨u4, eu4⟩ : ∃ z, z = bk Lu4 := ⟨_, rfl⟩
  have zu4 : Sz u4 := sz_bk (by omega) eu4
  have Fu4 : u3 ++ bf = u4 := by rw [eu3, ebf, eu4, eLu4]; exact bk_app _ _
  obtain ⟨Lv1, eLv1⟩ : ∃ z : List UInt8, z = Lu4 ++ [32, 115, 108, 105, 112, 32] := ⟨_, rfl⟩
  have nv1 : Lv1.length ≤ 22002083 := by rw [eLv1, List.length_append]; simp only [List.length_cons, List.length_nil]; omega
  obtain ⟨v1, ev1⟩ : ∃ z, z = bk Lv1 := ⟨_, rfl⟩
  have zv1 : Sz v1 := sz_bk (by omega) ev1
  have Fv1 : u4 ++ (⟨#[32, 115, 108, 105, 112, 32]⟩ : ByteArray) = v1 := by rw [eu4, ev1, eLv1]; exact bk_app _ _
  obtain ⟨Lv2, eLv2⟩ : ∃ z : List UInt8, z = Lv1 ++ Lib.itoa s0 := ⟨_, rfl⟩
  have nv2 : Lv2.length ≤ 22002104 := by rw [eLv2, List.length_append]; have := nitoa s0 hs0; omega
  obtain ⟨v2, ev2⟩ : ∃ z, z = bk Lv2 := ⟨_, rfl⟩
  have zv2 : Sz v2 := sz_bk (by omega) ev2
  have Fv2 : v1 ++ bs0 = v2 := by rw [ev1, ebs0, ev2, eLv2]; exact bk_app _ _
  obtain ⟨Lv3, eLv3⟩ : ∃ z : List UInt8, z = Lv2 ++ [32] := ⟨_, rfl⟩
  have nv3 : Lv3.length ≤ 22002105 := by rw [eLv3, List.length_append]; simp only [List.length_cons, List.length_nil]; omega
  obtain ⟨v3, ev3⟩ : ∃ z, z = bk Lv3 := ⟨_, rfl⟩
  have zv3 : Sz v3 := sz_bk (by omega) ev3
  have Fv3 : v2 ++ (⟨#[32]⟩ : ByteArray) = v3 := by rw [ev2, ev3, eLv3]; exact bk_app _ _
  obtain ⟨Lv4, eLv4⟩ : ∃ z : List UInt8, z = Lv3 ++ Lib.itoa s1 := ⟨_, rfl⟩
  have nv4 : Lv4.length ≤ 22002126 := by rw [eLv4, List.length_append]; have := nitoa s1 hs1; omega
  obtain ⟨v4, ev4⟩ : ∃ z, z = bk Lv4 := ⟨_, rfl⟩
  have zv4 : Sz v4 := sz_bk (by omega) ev4
  have Fv4 : v3 ++ bs1 = v4 := by rw [ev3, ebs1, ev4, eLv4]; exact bk_app _ _
  obtain ⟨L5, eL5⟩ : ∃ z, z = if s0 = 0 ∧ s1 = 0 then Lu4 else Lv4 := ⟨_, rfl⟩
  have n5 : L5.length ≤ 22003000 := by rw [eL5]; split <;> omega
  obtain ⟨t5, et5⟩ : ∃ z, z = bk L5 := ⟨_, rfl⟩
  have hL5 : L5 = l4 o ++ jt (slipL o) := by
    unfold l4 slipL placedL
    rw [e1, e2, e3, e4, e5, e6, e7, e8, e9, e10, e11, e12, eL5, eLv4, eLv3, eLv2, eLv1, eLu4, eLu3, eLu2, eLu1, eLt3, eLp8, eLp7, eLp6, eLp5, eLp4, eLp3, eLp2, eLp1, eLt2, eLt1, eLt0, eways]
    by_cases hg0 : g = 0 <;> by_cases hz : s0 = 0 ∧ s1 = 0
    · rw [if_pos hg0, if_pos hz, if_pos hg0, if_pos hz]
      simp only [jt_cons, jt_nil, List.append_assoc, List.cons_append, List.nil_append, List.append_nil]
    · rw [if_pos hg0, if_neg hz, if_pos hg0, if_neg hz]
      simp only [jt_cons, jt_nil, List.append_assoc, List.cons_append, List.nil_append, List.append_nil]
    · rw [if_neg hg0, if_neg hg0, if_pos hz, if_neg hg0, if_pos hz]
      simp only [jt_cons, jt_nil, List.append_assoc, List.cons_append, List.nil_append, List.append_nil]
    · rw [if_neg hg0, if_neg hg0, if_neg hz, if_neg hg0, if_neg hz]
      simp only [jt_cons, jt_nil, List.append_assoc, List.cons_append, List.nil_append, List.append_nil]
  have g0 : g = 0 → t2 = t3 := fun e => by rw [et2, et3, eLt3, if_pos e]
  have g1 : g ≠ 0 → p8 = t3 := fun e => by rw [ep8, et3, eLt3, if_neg e]
  have k0 : (s0 = 0 ∧ s1 = 0) → u4 = t5 := fun e => by rw [eu4, et5, eL5, if_pos e]
  have k1 : ¬ (s0 = 0 ∧ s1 = 0) → v4 = t5 := fun e => by rw [ev4, et5, eL5, if_neg e]
  have et' : t = bk (L5 ++ flN o 7) := by rw [et, line_jt, hL5]; rfl
  have bm0 : t1 = t2 := by rw [et1, et2, eLt2]; unfold modeL; rw [if_neg (by omega), if_neg (by omega), if_neg (by omega), if_neg (by omega), List.append_nil]
  clear eLt1 nt1 et1 eLt2 nt2 et2 eLp1 np1 ep1 eLp2 np2 ep2 eLp3 np3 ep3 eLp4 np4 ep4 eLp5 np5 ep5 eLp6 np6 ep6 eLp7 np7 ep7 eLp8 np8 ep8 eLu1 nu1 eu1 eLu2 nu2 eu2 eLu3 nu3 eu3 eLu4 nu4 eu4 eLv1 nv1 ev1 eLv2 nv2 ev2 eLv3 nv3 ev3 eLv4 nv4 ev4 eLt3 nt3 et3 et eLt0 et0 nt0 ebm ebg ebp ebe ebw ebs ebf ebs0 ebs1 nm nitoa eways nways hqs hrs hs h hL5
  (refine PCalls.ofY Tryd.func7 (by kernel_rfl) (by kernel_rfl) fun w hw R hR => ?_); (obtain ⟨wbin, wcmp, wun, wconv, wnot, wbeq, wmm, wscmp, wsadd, wslen, wsat, weqs, wlen, wnlen, wofNat, wtake, wdrop, wapp, wzero, wnat⟩ := w); (have hbin : wbin = binStd := congrArg Prims.bin hw); (have hcmp : wcmp = cmpStd := congrArg Prims.cmp hw); (have hun : wun = unStd := congrArg Prims.un hw); (have hconv : wconv = fun k n => k.wrap n := congrArg Prims.conv hw); (have hnot : wnot = fun b => !b := congrArg Prims.not hw); (have hbeq : wbeq = fun a b => a == b := congrArg Prims.beq hw); (have hmm : wmm = maxI := congrArg Prims.mm hw); (have hscmp : wscmp = scmpStd := congrArg Prims.scmp hw); (have hsadd : wsadd = fun x y => x ++ y := congrArg Prims.sadd hw); (have hslen : wslen = fun s => (s.size : Int) := congrArg Prims.slen hw); (have hsat : wsat = std.sat := congrArg Prims.sat hw); (have heqs : weqs = fun a b os => (eqOffs a b os).getD false := congrArg Prims.eqs hw); (have hlen : wlen = fun es => (es.length : Int) := congrArg Prims.len hw); (have hnlen : wnlen = fun es => es.length := congrArg Prims.nlen hw); (have hofNat : wofNat = (fun n : Nat => (n : Int)) := congrArg Prims.ofNat hw); (have htake : wtake = fun es b => es.take b.toNat := congrArg Prims.take hw); (have hdrop : wdrop = fun es a => es.drop a.toNat := congrArg Prims.drop hw); (have happ : wapp = fun a b => a ++ b := congrArg Prims.app hw); (have hzero : wzero = fun n z => List.replicate n.toNat z := congrArg Prims.zero hw); (have hnat : wnat = fun n => n.toNat := congrArg Prims.nat hw); (conv => arg 2; cbv); (generalize hP : Tryd.prog = P); cbv
  have st1 : wsadd t0 (⟨#[32]⟩ : ByteArray) = t1 := by rw [hsadd]; exact Ft1
  have st2 : wsadd t1 bm = t2 := by rw [hsadd]; exact Ft2
  have sp1 : wsadd t2 (⟨#[32, 103, 114, 111, 117, 112, 32]⟩ : ByteArray) = p1 := by rw [hsadd]; exact Fp1
  have sp2 : wsadd p1 bg = p2 := by rw [hsadd]; exact Fp2
  have sp3 : wsadd p2 (⟨#[32, 97, 116, 32]⟩ : ByteArray) = p3 := by rw [hsadd]; exact Fp3
  have sp4 : wsadd p3 bp = p4 := by rw [hsadd]; exact Fp4
  have sp5 : wsadd p4 (⟨#[32, 101, 115, 116, 32]⟩ : ByteArray) = p5 := by rw [hsadd]; exact Fp5
  have sp6 : wsadd p5 be = p6 := by rw [hsadd]; exact Fp6
  have sp7 : wsadd p6 (⟨#[32, 119, 97, 121, 115, 32]⟩ : ByteArray) = p7 := by rw [hsadd]; exact Fp7
  have sp8 : wsadd p7 bw = p8 := by rw [hsadd]; exact Fp8
  have su1 : wsadd t3 (⟨#[32, 115, 112, 101, 101, 100, 32]⟩ : ByteArray) = u1 := by rw [hsadd]; exact Fu1
  have su2 : wsadd u1 bs = u2 := by rw [hsadd]; exact Fu2
  have su3 : wsadd u2 (⟨#[32, 102, 105, 116, 32]⟩ : ByteArray) = u3 := by rw [hsadd]; exact Fu3
  have su4 : wsadd u3 bf = u4 := by rw [hsadd]; exact Fu4
  have sv1 : wsadd u4 (⟨#[32, 115, 108, 105, 112, 32]⟩ : ByteArray) = v1 := by rw [hsadd]; exact Fv1
  have sv2 : wsadd v1 bs0 = v2 := by rw [hsadd]; exact Fv2
  have sv3 : wsadd v2 (⟨#[32]⟩ : ByteArray) = v3 := by rw [hsadd]; exact Fv3
  have sv4 : wsadd v3 bs1 = v4 := by rw [hsadd]; exact Fv4
  clear Ft1 Ft2 Fp1 Fp2 Fp3 Fp4 Fp5 Fp6 Fp7 Fp8 Fu1 Fu2 Fu3 Fu4 Fv1 Fv2 Fv3 Fv4
  have m1 : wcmp .geq m 1 = false := by rw [hcmp]; simp [cmpStd]; omega
  have m2 : wnot (wnot true) = true := by rw [hnot]; rfl
  have cases : (s0 = 0 ∧ s1 = 0) ∨ (s0 = 0 ∧ ¬ s1 = 0) ∨ ¬ s0 = 0 := by omega
  rcases Classical.em (g = 0) with hg0 | hg0 <;> rcases cases with hz | hz | hz
  all_goals
    first
      | (have gg := g0 hg0)
      | (have gg := g1 hg0)
    first
      | (have cg : wcmp .neq g 0 = false := by (rw [hcmp]; simp [cmpStd, hg0]; done))
      | (have cg : wcmp .neq g 0 = true := by (rw [hcmp]; simp [cmpStd, hg0]; done))
    first
      | (have kk := k0 hz)
      | (have kk := k1 (by omega))
    first
      | (have cz0 : wcmp .neq s0 0 = false := by (rw [hcmp]; simp [cmpStd, hz]; done))
      | (have cz0 : wcmp .neq s0 0 = true := by (rw [hcmp]; simp [cmpStd, hz]; done))
    first
      | (have cz1 : wcmp .neq s1 0 = false := by (rw [hcmp]; simp [cmpStd, hz]; done))
      | (have cz1 : wcmp .neq s1 0 = true := by (rw [hcmp]; simp [cmpStd, hz]; done))
      | (have cz1 : wnot (wnot true) = true := by (rw [hnot]; rfl))
    try (have dw := dw hg0)
    repeat' (first
      | (refine InN.mk (by decide) (by decide) ?_)
      | (refine Le.mk (by rw [hslen]; exact Sz.le (by assumption)) ?_)
      | (simp only [st1, st2, sp1, sp2, sp3, sp4, sp5, sp6, sp7, sp8, su1, su2, su3, su4, sv1, sv2, sv3, sv4])
      | (simp only [bm0])
      | (simp only [gg])
      | (simp only [kk])
      | (simp only [cg]; cbv)
      | (simp only [cz0]; cbv)
      | (simp only [cz1]; cbv)
      | (simp only [m1]; cbv)
      | (simp only [m2]; cbv)
      | (refine Call.stepE (by rw [← hP]; exact d0) rfl ?_; cbv)
      | (refine QCal.stepE (by rw [← hP]; exact dg) rfl ?_; cbv)
      | (refine QCal.stepE (by rw [← hP]; exact dp) rfl ?_; cbv)
      | (refine QCal.stepE (by rw [← hP]; exact de) rfl ?_; cbv)
      | (refine QCal.stepE (by rw [← hP]; exact dw) (by exact Up0.one huq rfl) ?_; cbv)
      | (refine QCal.stepE (by rw [← hP]; exact ds) rfl ?_; cbv)
      | (refine QCal.stepE (by rw [← hP]; exact df) rfl ?_; cbv)
      | (refine QCal.stepE (by rw [← hP]; exact ds0) rfl ?_; cbv)
      | (refine QCal.stepE (by rw [← hP]; exact ds1) rfl ?_; cbv))
    refine Loop.data hw (S := Int × ByteArray) (fun s => fr 101 [(1, .ref 0 19 0 0), (4, .ref 2 7 0 0), (5, .str s.2), (6, .int .i64 s.1)])
      (fun s => [.live 19 [[.int .i64 c, .int .i64 m, .int .i64 g, .int .i64 fit, .int .i64 lo, .int .i64 hi, .int .i64 slo, .int .i64 shi, .int .i64 est, .list 1 qs, .int .i64 s0, .int .i64 s1, .int .i64 f0, .int .i64 f1, .int .i64 f2, .int .i64 f3, .int .i64 f4, .int .i64 f5, .int .i64 f6]], .live 5 [[.str ⟨#[]⟩, .str ⟨#[117, 110, 108, 111, 99, 97, 116, 101, 100]⟩, .str ⟨#[108, 111, 99, 97, 116, 101, 100]⟩, .str ⟨#[100, 101, 103, 114, 97, 100, 101, 100]⟩, .str ⟨#[102, 97, 105, 108, 101, 100]⟩]], .live 7 [[.str ⟨#[99, 108, 101, 97, 110]⟩, .str ⟨#[99, 111, 110, 102, 108, 105, 99, 116]⟩, .str ⟨#[97, 99, 99, 101, 112, 116, 101, 100]⟩, .str ⟨#[102, 97, 117, 108, 116]⟩, .str ⟨#[115, 116, 105, 108, 108]⟩, .str ⟨#[114, 111, 108, 108]⟩, .str ⟨#[111, 118, 101, 114]⟩]]])
      (fun s => 0 ≤ s.1 ∧ s.1 ≤ 7 ∧ s.2 = bk (L5 ++ flN o s.1)) (fun s => (7 - s.1).toNat) (0, t5) (by (refine Wk.eqz (id) (by first | exact fun i _ j _ e => e | (simp only [List.length_cons, List.length_nil]; decide)) ?_; cbv; (repeat' (first | exact trivial | rfl | assumption | apply And.intro | (simp only [hbin, hcmp, hun, hconv, hnot, hbeq, hmm, hscmp, hsadd, hslen, hsat, heqs, hofNat, binStd, cmpStd, unStd, scmpStd, maxI, Bool.not_eq_true', Bool.not_eq_false', decide_eq_true_eq, decide_eq_false_iff_not, Int.not_lt, Int.not_le, if_true, if_false, Bool.false_eq_true, beq_iff_eq, bne_iff_ne, ne_eq, Bool.not_eq_eq_eq_not, Bool.not_true, Bool.not_false, beq_eq_false_iff_ne, bne_eq_false_iff_eq, Int.ofNat_eq_natCast, Bool.not_not, not_true_eq_false, not_false_eq_true, reduceCtorEq]; first | done | assumption) | exact RowsZ.same (by assumption) (by first | assumption | rfl) | exact FzL.mk rfl rfl rfl (by assumption) (by first | assumption | rfl) (by decide) | (refine RowsZ.one ?_; cbv))))) ⟨Int.le_refl 0, (show (0 : Int) ≤ 7 by decide), by rw [et5]; simp [flN, saidL, jt_nil]⟩ ?_
    rintro ⟨i, u⟩ hinv Q2 hN2 hE2 hR2
    have hinv : 0 ≤ i ∧ i ≤ 7 ∧ u = bk (L5 ++ flN o i) := hinv
    cbv
    obtain ⟨hi0, hi7, hu⟩ := hinv
    (split <;> rename_i hc <;> (try (simp only [hbin, hcmp, hun, hconv, hnot, hbeq, hmm, hscmp, hsadd, hslen, hsat, heqs, hofNat, binStd, cmpStd, unStd, scmpStd, maxI, Bool.not_eq_true', Bool.not_eq_false', decide_eq_true_eq, decide_eq_false_iff_not, Int.not_lt, Int.not_le, if_true, if_false, Bool.false_eq_true, beq_iff_eq, bne_iff_ne, ne_eq, Bool.not_eq_eq_eq_not, Bool.not_true, Bool.not_false, beq_eq_false_iff_ne, bne_eq_false_iff_eq, Int.ofNat_eq_natCast, Bool.not_not, not_true_eq_false, not_false_eq_true, reduceCtorEq] at hc)) <;> (try cbv))
    · have hi : i = 0 ∨ i = 1 ∨ i = 2 ∨ i = 3 ∨ i = 4 ∨ i = 5 ∨ i = 6 := by omega
      rcases hi with rfl | rfl | rfl | rfl | rfl | rfl | rfl
      · cbv
        have ca : wbin .add .i64 0 1 = 1 := by rw [hbin]; rfl
        by_cases hb : f0 = 1
        · have cb : wcmp .eql f0 1 = true := by rw [hcmp]; simp [cmpStd, hb]
          have hbt := hf.h0.1 hb
          obtain ⟨ua, ea⟩ : ∃ z, z = u ++ (⟨#[32]⟩ : ByteArray) := ⟨_, rfl⟩
          obtain ⟨ub, eb⟩ : ∃ z, z = ua ++ (⟨#[99, 108, 101, 97, 110]⟩ : ByteArray) := ⟨_, rfl⟩
          have hfl : flN o 1 = flN o 0 ++ ([32] ++ [99, 108, 101, 97, 110]) := fl_some (o := o) (i := 0) (by show some (o.b1, _) = _; rw [hbt])
          have hub : ub = bk (L5 ++ flN o 1) := by rw [eb, ea, hu, hfl]; exact (congrArg (· ++ (⟨#[99, 108, 101, 97, 110]⟩ : ByteArray)) (bk_app (L5 ++ flN o 0) [32])).trans ((bk_app _ [99, 108, 101, 97, 110]).trans (by simp only [List.append_assoc]))
          have hua : ua = bk (L5 ++ flN o 0 ++ [32]) := by rw [ea, hu]; exact bk_app _ _
          have za : Sz ua := sz_bk (by have := len_fl o 0; simp only [List.length_append, List.length_cons, List.length_nil]; omega) hua
          have zb : Sz ub := sz_bk (by have := len_fl o 1; rw [List.length_append]; omega) hub
          have cu : wsadd u ⟨#[32]⟩ = ua := by rw [hsadd, ea]
          have cv : wsadd ua ⟨#[99, 108, 101, 97, 110]⟩ = ub := by rw [hsadd, eb]
          repeat' (first
            | (refine InN.mk (by decide) (by decide) ?_)
            | (refine Le.mk (by rw [hslen]; exact Sz.le (by assumption)) ?_; try cbv)
            | (simp only [cu, cv])
            | (simp only [cb]; cbv))
          simp only [ca]
          refine hN2 (1, ub) _ _ ?hx ?hi (show ((7 : Int) - 1).toNat < ((7 : Int) - 0).toNat by decide)
          case hx => (refine Wk.eqz (id) (by first | exact fun i _ j _ e => e | (simp only [List.length_cons, List.length_nil]; decide)) ?_; cbv; (repeat' (first | exact trivial | rfl | assumption | apply And.intro | (simp only [hbin, hcmp, hun, hconv, hnot, hbeq, hmm, hscmp, hsadd, hslen, hsat, heqs, hofNat, binStd, cmpStd, unStd, scmpStd, maxI, Bool.not_eq_true', Bool.not_eq_false', decide_eq_true_eq, decide_eq_false_iff_not, Int.not_lt, Int.not_le, if_true, if_false, Bool.false_eq_true, beq_iff_eq, bne_iff_ne, ne_eq, Bool.not_eq_eq_eq_not, Bool.not_true, Bool.not_false, beq_eq_false_iff_ne, bne_eq_false_iff_eq, Int.ofNat_eq_natCast, Bool.not_not, not_true_eq_false, not_false_eq_true, reduceCtorEq]; first | done | assumption) | exact RowsZ.same (by assumption) (by first | assumption | rfl) | exact FzL.mk rfl rfl rfl (by assumption) (by first | assumption | rfl) (by decide) | (refine RowsZ.one ?_; cbv))))
          case hi => exact ⟨(show (0 : Int) ≤ 1 by decide), (show (1 : Int) ≤ 7 by decide), hub⟩
        · have cb : wcmp .eql f0 1 = false := by rw [hcmp]; simp [cmpStd, hb]
          have hbt : o.b1 = false := by
            cases hx : o.b1
            · rfl
            · exact absurd (hf.h0.2 hx) hb
          have hfl : flN o 1 = flN o 0 := fl_none (o := o) (i := 0) (x := [99, 108, 101, 97, 110]) (by show some (o.b1, _) = _; rw [hbt])
          repeat' (first
            | (refine InN.mk (by decide) (by decide) ?_)
            | (simp only [cb]; cbv))
          simp only [ca]
          refine hN2 (1, u) _ _ ?hx ?hi (show ((7 : Int) - 1).toNat < ((7 : Int) - 0).toNat by decide)
          case hx => (refine Wk.eqz (id) (by first | exact fun i _ j _ e => e | (simp only [List.length_cons, List.length_nil]; decide)) ?_; cbv; (repeat' (first | exact trivial | rfl | assumption | apply And.intro | (simp only [hbin, hcmp, hun, hconv, hnot, hbeq, hmm, hscmp, hsadd, hslen, hsat, heqs, hofNat, binStd, cmpStd, unStd, scmpStd, maxI, Bool.not_eq_true', Bool.not_eq_false', decide_eq_true_eq, decide_eq_false_iff_not, Int.not_lt, Int.not_le, if_true, if_false, Bool.false_eq_true, beq_iff_eq, bne_iff_ne, ne_eq, Bool.not_eq_eq_eq_not, Bool.not_true, Bool.not_false, beq_eq_false_iff_ne, bne_eq_false_iff_eq, Int.ofNat_eq_natCast, Bool.not_not, not_true_eq_false, not_false_eq_true, reduceCtorEq]; first | done | assumption) | exact RowsZ.same (by assumption) (by first | assumption | rfl) | exact FzL.mk rfl rfl rfl (by assumption) (by first | assumption | rfl) (by decide) | (refine RowsZ.one ?_; cbv))))
          case hi => exact ⟨(show (0 : Int) ≤ 1 by decide), (show (1 : Int) ≤ 7 by decide), by rw [hu, hfl]⟩
      · cbv
        have ca : wbin .add .i64 1 1 = 2 := by rw [hbin]; rfl
        by_cases hb : f1 = 1
        · have cb : wcmp .eql f1 1 = true := by rw [hcmp]; simp [cmpStd, hb]
          have hbt := hf.h1.1 hb
          obtain ⟨ua, ea⟩ : ∃ z, z = u ++ (⟨#[32]⟩ : ByteArray) := ⟨_, rfl⟩
          obtain ⟨ub, eb⟩ : ∃ z, z = ua ++ (⟨#[99, 111, 110, 102, 108, 105, 99, 116]⟩ : ByteArray) := ⟨_, rfl⟩
          have hfl : flN o 2 = flN o 1 ++ ([32] ++ [99, 111, 110, 102, 108, 105, 99, 116]) := fl_some (o := o) (i := 1) (by show some (o.b2, _) = _; rw [hbt])
          have hub : ub = bk (L5 ++ flN o 2) := by rw [eb, ea, hu, hfl]; exact (congrArg (· ++ (⟨#[99, 111, 110, 102, 108, 105, 99, 116]⟩ : ByteArray)) (bk_app (L5 ++ flN o 1) [32])).trans ((bk_app _ [99, 111, 110, 102, 108, 105, 99, 116]).trans (by simp only [List.append_assoc]))
          have hua : ua = bk (L5 ++ flN o 1 ++ [32]) := by rw [ea, hu]; exact bk_app _ _
          have za : Sz ua := sz_bk (by have := len_fl o 1; simp only [List.length_append, List.length_cons, List.length_nil]; omega) hua
          have zb : Sz ub := sz_bk (by have := len_fl o 2; rw [List.length_append]; omega) hub
          have cu : wsadd u ⟨#[32]⟩ = ua := by rw [hsadd, ea]
          have cv : wsadd ua ⟨#[99, 111, 110, 102, 108, 105, 99, 116]⟩ = ub := by rw [hsadd, eb]
          repeat' (first
            | (refine InN.mk (by decide) (by decide) ?_)
            | (refine Le.mk (by rw [hslen]; exact Sz.le (by assumption)) ?_; try cbv)
            | (simp only [cu, cv])
            | (simp only [cb]; cbv))
          simp only [ca]
          refine hN2 (2, ub) _ _ ?hx ?hi (show ((7 : Int) - 2).toNat < ((7 : Int) - 1).toNat by decide)
          case hx => (refine Wk.eqz (id) (by first | exact fun i _ j _ e => e | (simp only [List.length_cons, List.length_nil]; decide)) ?_; cbv; (repeat' (first | exact trivial | rfl | assumption | apply And.intro | (simp only [hbin, hcmp, hun, hconv, hnot, hbeq, hmm, hscmp, hsadd, hslen, hsat, heqs, hofNat, binStd, cmpStd, unStd, scmpStd, maxI, Bool.not_eq_true', Bool.not_eq_false', decide_eq_true_eq, decide_eq_false_iff_not, Int.not_lt, Int.not_le, if_true, if_false, Bool.false_eq_true, beq_iff_eq, bne_iff_ne, ne_eq, Bool.not_eq_eq_eq_not, Bool.not_true, Bool.not_false, beq_eq_false_iff_ne, bne_eq_false_iff_eq, Int.ofNat_eq_natCast, Bool.not_not, not_true_eq_false, not_false_eq_true, reduceCtorEq]; first | done | assumption) | exact RowsZ.same (by assumption) (by first | assumption | rfl) | exact FzL.mk rfl rfl rfl (by assumption) (by first | assumption | rfl) (by decide) | (refine RowsZ.one ?_; cbv))))
          case hi => exact ⟨(show (0 : Int) ≤ 2 by decide), (show (2 : Int) ≤ 7 by decide), hub⟩
        · have cb : wcmp .eql f1 1 = false := by rw [hcmp]; simp [cmpStd, hb]
          have hbt : o.b2 = false := by
            cases hx : o.b2
            · rfl
            · exact absurd (hf.h1.2 hx) hb
          have hfl : flN o 2 = flN o 1 := fl_none (o := o) (i := 1) (x := [99, 111, 110, 102, 108, 105, 99, 116]) (by show some (o.b2, _) = _; rw [hbt])
          repeat' (first
            | (refine InN.mk (by decide) (by decide) ?_)
            | (simp only [cb]; cbv))
          simp only [ca]
          refine hN2 (2, u) _ _ ?hx ?hi (show ((7 : Int) - 2).toNat < ((7 : Int) - 1).toNat by decide)
          case hx => (refine Wk.eqz (id) (by first | exact fun i _ j _ e => e | (simp only [List.length_cons, List.length_nil]; decide)) ?_; cbv; (repeat' (first | exact trivial | rfl | assumption | apply And.intro | (simp only [hbin, hcmp, hun, hconv, hnot, hbeq, hmm, hscmp, hsadd, hslen, hsat, heqs, hofNat, binStd, cmpStd, unStd, scmpStd, maxI, Bool.not_eq_true', Bool.not_eq_false', decide_eq_true_eq, decide_eq_false_iff_not, Int.not_lt, Int.not_le, if_true, if_false, Bool.false_eq_true, beq_iff_eq, bne_iff_ne, ne_eq, Bool.not_eq_eq_eq_not, Bool.not_true, Bool.not_false, beq_eq_false_iff_ne, bne_eq_false_iff_eq, Int.ofNat_eq_natCast, Bool.not_not, not_true_eq_false, not_false_eq_true, reduceCtorEq]; first | done | assumption) | exact RowsZ.same (by assumption) (by first | assumption | rfl) | exact FzL.mk rfl rfl rfl (by assumption) (by first | assumption | rfl) (by decide) | (refine RowsZ.one ?_; cbv))))
          case hi => exact ⟨(show (0 : Int) ≤ 2 by decide), (show (2 : Int) ≤ 7 by decide), by rw [hu, hfl]⟩
      · cbv
        have ca : wbin .add .i64 2 1 = 3 := by rw [hbin]; rfl
        by_cases hb : f2 = 1
        · have cb : wcmp .eql f2 1 = true := by rw [hcmp]; simp [cmpStd, hb]
          have hbt := hf.h2.1 hb
          obtain ⟨ua, ea⟩ : ∃ z, z = u ++ (⟨#[32]⟩ : ByteArray) := ⟨_, rfl⟩
          obtain ⟨ub, eb⟩ : ∃ z, z = ua ++ (⟨#[97, 99, 99, 101, 112, 116, 101, 100]⟩ : ByteArray) := ⟨_, rfl⟩
          have hfl : flN o 3 = flN o 2 ++ ([32] ++ [97, 99, 99, 101, 112, 116, 101, 100]) := fl_some (o := o) (i := 2) (by show some (o.b3, _) = _; rw [hbt])
          have hub : ub = bk (L5 ++ flN o 3) := by rw [eb, ea, hu, hfl]; exact (congrArg (· ++ (⟨#[97, 99, 99, 101, 112, 116, 101, 100]⟩ : ByteArray)) (bk_app (L5 ++ flN o 2) [32])).trans ((bk_app _ [97, 99, 99, 101, 112, 116, 101, 100]).trans (by simp only [List.append_assoc]))
          have hua : ua = bk (L5 ++ flN o 2 ++ [32]) := by rw [ea, hu]; exact bk_app _ _
          have za : Sz ua := sz_bk (by have := len_fl o 2; simp only [List.length_append, List.length_cons, List.length_nil]; omega) hua
          have zb : Sz ub := sz_bk (by have := len_fl o 3; rw [List.length_append]; omega) hub
          have cu : wsadd u ⟨#[32]⟩ = ua := by rw [hsadd, ea]
          have cv : wsadd ua ⟨#[97, 99, 99, 101, 112, 116, 101, 100]⟩ = ub := by rw [hsadd, eb]
          repeat' (first
            | (refine InN.mk (by decide) (by decide) ?_)
            | (refine Le.mk (by rw [hslen]; exact Sz.le (by assumption)) ?_; try cbv)
            | (simp only [cu, cv])
            | (simp only [cb]; cbv))
          simp only [ca]
          refine hN2 (3, ub) _ _ ?hx ?hi (show ((7 : Int) - 3).toNat < ((7 : Int) - 2).toNat by decide)
          case hx => (refine Wk.eqz (id) (by first | exact fun i _ j _ e => e | (simp only [List.length_cons, List.length_nil]; decide)) ?_; cbv; (repeat' (first | exact trivial | rfl | assumption | apply And.intro | (simp only [hbin, hcmp, hun, hconv, hnot, hbeq, hmm, hscmp, hsadd, hslen, hsat, heqs, hofNat, binStd, cmpStd, unStd, scmpStd, maxI, Bool.not_eq_true', Bool.not_eq_false', decide_eq_true_eq, decide_eq_false_iff_not, Int.not_lt, Int.not_le, if_true, if_false, Bool.false_eq_true, beq_iff_eq, bne_iff_ne, ne_eq, Bool.not_eq_eq_eq_not, Bool.not_true, Bool.not_false, beq_eq_false_iff_ne, bne_eq_false_iff_eq, Int.ofNat_eq_natCast, Bool.not_not, not_true_eq_false, not_false_eq_true, reduceCtorEq]; first | done | assumption) | exact RowsZ.same (by assumption) (by first | assumption | rfl) | exact FzL.mk rfl rfl rfl (by assumption) (by first | assumption | rfl) (by decide) | (refine RowsZ.one ?_; cbv))))
          case hi => exact ⟨(show (0 : Int) ≤ 3 by decide), (show (3 : Int) ≤ 7 by decide), hub⟩
        · have cb : wcmp .eql f2 1 = false := by rw [hcmp]; simp [cmpStd, hb]
          have hbt : o.b3 = false := by
            cases hx : o.b3
            · rfl
            · exact absurd (hf.h2.2 hx) hb
          have hfl : flN o 3 = flN o 2 := fl_none (o := o) (i := 2) (x := [97, 99, 99, 101, 112, 116, 101, 100]) (by show some (o.b3, _) = _; rw [hbt])
          repeat' (first
            | (refine InN.mk (by decide) (by decide) ?_)
            | (simp only [cb]; cbv))
          simp only [ca]
          refine hN2 (3, u) _ _ ?hx ?hi (show ((7 : Int) - 3).toNat < ((7 : Int) - 2).toNat by decide)
          case hx => (refine Wk.eqz (id) (by first | exact fun i _ j _ e => e | (simp only [List.length_cons, List.length_nil]; decide)) ?_; cbv; (repeat' (first | exact trivial | rfl | assumption | apply And.intro | (simp only [hbin, hcmp, hun, hconv, hnot, hbeq, hmm, hscmp, hsadd, hslen, hsat, heqs, hofNat, binStd, cmpStd, unStd, scmpStd, maxI, Bool.not_eq_true', Bool.not_eq_false', decide_eq_true_eq, decide_eq_false_iff_not, Int.not_lt, Int.not_le, if_true, if_false, Bool.false_eq_true, beq_iff_eq, bne_iff_ne, ne_eq, Bool.not_eq_eq_eq_not, Bool.not_true, Bool.not_false, beq_eq_false_iff_ne, bne_eq_false_iff_eq, Int.ofNat_eq_natCast, Bool.not_not, not_true_eq_false, not_false_eq_true, reduceCtorEq]; first | done | assumption) | exact RowsZ.same (by assumption) (by first | assumption | rfl) | exact FzL.mk rfl rfl rfl (by assumption) (by first | assumption | rfl) (by decide) | (refine RowsZ.one ?_; cbv))))
          case hi => exact ⟨(show (0 : Int) ≤ 3 by decide), (show (3 : Int) ≤ 7 by decide), by rw [hu, hfl]⟩
      · cbv
        have ca : wbin .add .i64 3 1 = 4 := by rw [hbin]; rfl
        by_cases hb : f3 = 1
        · have cb : wcmp .eql f3 1 = true := by rw [hcmp]; simp [cmpStd, hb]
          have hbt := hf.h3.1 hb
          obtain ⟨ua, ea⟩ : ∃ z, z = u ++ (⟨#[32]⟩ : ByteArray) := ⟨_, rfl⟩
          obtain ⟨ub, eb⟩ : ∃ z, z = ua ++ (⟨#[102, 97, 117, 108, 116]⟩ : ByteArray) := ⟨_, rfl⟩
          have hfl : flN o 4 = flN o 3 ++ ([32] ++ [102, 97, 117, 108, 116]) := fl_some (o := o) (i := 3) (by show some (o.b4, _) = _; rw [hbt])
          have hub : ub = bk (L5 ++ flN o 4) := by rw [eb, ea, hu, hfl]; exact (congrArg (· ++ (⟨#[102, 97, 117, 108, 116]⟩ : ByteArray)) (bk_app (L5 ++ flN o 3) [32])).trans ((bk_app _ [102, 97, 117, 108, 116]).trans (by simp only [List.append_assoc]))
          have hua : ua = bk (L5 ++ flN o 3 ++ [32]) := by rw [ea, hu]; exact bk_app _ _
          have za : Sz ua := sz_bk (by have := len_fl o 3; simp only [List.length_append, List.length_cons, List.length_nil]; omega) hua
          have zb : Sz ub := sz_bk (by have := len_fl o 4; rw [List.length_append]; omega) hub
          have cu : wsadd u ⟨#[32]⟩ = ua := by rw [hsadd, ea]
          have cv : wsadd ua ⟨#[102, 97, 117, 108, 116]⟩ = ub := by rw [hsadd, eb]
          repeat' (first
            | (refine InN.mk (by decide) (by decide) ?_)
            | (refine Le.mk (by rw [hslen]; exact Sz.le (by assumption)) ?_; try cbv)
            | (simp only [cu, cv])
            | (simp only [cb]; cbv))
          simp only [ca]
          refine hN2 (4, ub) _ _ ?hx ?hi (show ((7 : Int) - 4).toNat < ((7 : Int) - 3).toNat by decide)
          case hx => (refine Wk.eqz (id) (by first | exact fun i _ j _ e => e | (simp only [List.length_cons, List.length_nil]; decide)) ?_; cbv; (repeat' (first | exact trivial | rfl | assumption | apply And.intro | (simp only [hbin, hcmp, hun, hconv, hnot, hbeq, hmm, hscmp, hsadd, hslen, hsat, heqs, hofNat, binStd, cmpStd, unStd, scmpStd, maxI, Bool.not_eq_true', Bool.not_eq_false', decide_eq_true_eq, decide_eq_false_iff_not, Int.not_lt, Int.not_le, if_true, if_false, Bool.false_eq_true, beq_iff_eq, bne_iff_ne, ne_eq, Bool.not_eq_eq_eq_not, Bool.not_true, Bool.not_false, beq_eq_false_iff_ne, bne_eq_false_iff_eq, Int.ofNat_eq_natCast, Bool.not_not, not_true_eq_false, not_false_eq_true, reduceCtorEq]; first | done | assumption) | exact RowsZ.same (by assumption) (by first | assumption | rfl) | exact FzL.mk rfl rfl rfl (by assumption) (by first | assumption | rfl) (by decide) | (refine RowsZ.one ?_; cbv))))
          case hi => exact ⟨(show (0 : Int) ≤ 4 by decide), (show (4 : Int) ≤ 7 by decide), hub⟩
        · have cb : wcmp .eql f3 1 = false := by rw [hcmp]; simp [cmpStd, hb]
          have hbt : o.b4 = false := by
            cases hx : o.b4
            · rfl
            · exact absurd (hf.h3.2 hx) hb
          have hfl : flN o 4 = flN o 3 := fl_none (o := o) (i := 3) (x := [102, 97, 117, 108, 116]) (by show some (o.b4, _) = _; rw [hbt])
          repeat' (first
            | (refine InN.mk (by decide) (by decide) ?_)
            | (simp only [cb]; cbv))
          simp only [ca]
          refine hN2 (4, u) _ _ ?hx ?hi (show ((7 : Int) - 4).toNat < ((7 : Int) - 3).toNat by decide)
          case hx => (refine Wk.eqz (id) (by first | exact fun i _ j _ e => e | (simp only [List.length_cons, List.length_nil]; decide)) ?_; cbv; (repeat' (first | exact trivial | rfl | assumption | apply And.intro | (simp only [hbin, hcmp, hun, hconv, hnot, hbeq, hmm, hscmp, hsadd, hslen, hsat, heqs, hofNat, binStd, cmpStd, unStd, scmpStd, maxI, Bool.not_eq_true', Bool.not_eq_false', decide_eq_true_eq, decide_eq_false_iff_not, Int.not_lt, Int.not_le, if_true, if_false, Bool.false_eq_true, beq_iff_eq, bne_iff_ne, ne_eq, Bool.not_eq_eq_eq_not, Bool.not_true, Bool.not_false, beq_eq_false_iff_ne, bne_eq_false_iff_eq, Int.ofNat_eq_natCast, Bool.not_not, not_true_eq_false, not_false_eq_true, reduceCtorEq]; first | done | assumption) | exact RowsZ.same (by assumption) (by first | assumption | rfl) | exact FzL.mk rfl rfl rfl (by assumption) (by first | assumption | rfl) (by decide) | (refine RowsZ.one ?_; cbv))))
          case hi => exact ⟨(show (0 : Int) ≤ 4 by decide), (show (4 : Int) ≤ 7 by decide), by rw [hu, hfl]⟩
      · cbv
        have ca : wbin .add .i64 4 1 = 5 := by rw [hbin]; rfl
        by_cases hb : f4 = 1
        · have cb : wcmp .eql f4 1 = true := by rw [hcmp]; simp [cmpStd, hb]
          have hbt := hf.h4.1 hb
          obtain ⟨ua, ea⟩ : ∃ z, z = u ++ (⟨#[32]⟩ : ByteArray) := ⟨_, rfl⟩
          obtain ⟨ub, eb⟩ : ∃ z, z = ua ++ (⟨#[115, 116, 105, 108, 108]⟩ : ByteArray) := ⟨_, rfl⟩
          have hfl : flN o 5 = flN o 4 ++ ([32] ++ [115, 116, 105, 108, 108]) := fl_some (o := o) (i := 4) (by show some (o.b5, _) = _; rw [hbt])
          have hub : ub = bk (L5 ++ flN o 5) := by rw [eb, ea, hu, hfl]; exact (congrArg (· ++ (⟨#[115, 116, 105, 108, 108]⟩ : ByteArray)) (bk_app (L5 ++ flN o 4) [32])).trans ((bk_app _ [115, 116, 105, 108, 108]).trans (by simp only [List.append_assoc]))
          have hua : ua = bk (L5 ++ flN o 4 ++ [32]) := by rw [ea, hu]; exact bk_app _ _
          have za : Sz ua := sz_bk (by have := len_fl o 4; simp only [List.length_append, List.length_cons, List.length_nil]; omega) hua
          have zb : Sz ub := sz_bk (by have := len_fl o 5; rw [List.length_append]; omega) hub
          have cu : wsadd u ⟨#[32]⟩ = ua := by rw [hsadd, ea]
          have cv : wsadd ua ⟨#[115, 116, 105, 108, 108]⟩ = ub := by rw [hsadd, eb]
          repeat' (first
            | (refine InN.mk (by decide) (by decide) ?_)
            | (refine Le.mk (by rw [hslen]; exact Sz.le (by assumption)) ?_; try cbv)
            | (simp only [cu, cv])
            | (simp only [cb]; cbv))
          simp only [ca]
          refine hN2 (5, ub) _ _ ?hx ?hi (show ((7 : Int) - 5).toNat < ((7 : Int) - 4).toNat by decide)
          case hx => (refine Wk.eqz (id) (by first | exact fun i _ j _ e => e | (simp only [List.length_cons, List.length_nil]; decide)) ?_; cbv; (repeat' (first | exact trivial | rfl | assumption | apply And.intro | (simp only [hbin, hcmp, hun, hconv, hnot, hbeq, hmm, hscmp, hsadd, hslen, hsat, heqs, hofNat, binStd, cmpStd, unStd, scmpStd, maxI, Bool.not_eq_true', Bool.not_eq_false', decide_eq_true_eq, decide_eq_false_iff_not, Int.not_lt, Int.not_le, if_true, if_false, Bool.false_eq_true, beq_iff_eq, bne_iff_ne, ne_eq, Bool.not_eq_eq_eq_not, Bool.not_true, Bool.not_false, beq_eq_false_iff_ne, bne_eq_false_iff_eq, Int.ofNat_eq_natCast, Bool.not_not, not_true_eq_false, not_false_eq_true, reduceCtorEq]; first | done | assumption) | exact RowsZ.same (by assumption) (by first | assumption | rfl) | exact FzL.mk rfl rfl rfl (by assumption) (by first | assumption | rfl) (by decide) | (refine RowsZ.one ?_; cbv))))
          case hi => exact ⟨(show (0 : Int) ≤ 5 by decide), (show (5 : Int) ≤ 7 by decide), hub⟩
        · have cb : wcmp .eql f4 1 = false := by rw [hcmp]; simp [cmpStd, hb]
          have hbt : o.b5 = false := by
            cases hx : o.b5
            · rfl
            · exact absurd (hf.h4.2 hx) hb
          have hfl : flN o 5 = flN o 4 := fl_none (o := o) (i := 4) (x := [115, 116, 105, 108, 108]) (by show some (o.b5, _) = _; rw [hbt])
          repeat' (first
            | (refine InN.mk (by decide) (by decide) ?_)
            | (simp only [cb]; cbv))
          simp only [ca]
          refine hN2 (5, u) _ _ ?hx ?hi (show ((7 : Int) - 5).toNat < ((7 : Int) - 4).toNat by decide)
          case hx => (refine Wk.eqz (id) (by first | exact fun i _ j _ e => e | (simp only [List.length_cons, List.length_nil]; decide)) ?_; cbv; (repeat' (first | exact trivial | rfl | assumption | apply And.intro | (simp only [hbin, hcmp, hun, hconv, hnot, hbeq, hmm, hscmp, hsadd, hslen, hsat, heqs, hofNat, binStd, cmpStd, unStd, scmpStd, maxI, Bool.not_eq_true', Bool.not_eq_false', decide_eq_true_eq, decide_eq_false_iff_not, Int.not_lt, Int.not_le, if_true, if_false, Bool.false_eq_true, beq_iff_eq, bne_iff_ne, ne_eq, Bool.not_eq_eq_eq_not, Bool.not_true, Bool.not_false, beq_eq_false_iff_ne, bne_eq_false_iff_eq, Int.ofNat_eq_natCast, Bool.not_not, not_true_eq_false, not_false_eq_true, reduceCtorEq]; first | done | assumption) | exact RowsZ.same (by assumption) (by first | assumption | rfl) | exact FzL.mk rfl rfl rfl (by assumption) (by first | assumption | rfl) (by decide) | (refine RowsZ.one ?_; cbv))))
          case hi => exact ⟨(show (0 : Int) ≤ 5 by decide), (show (5 : Int) ≤ 7 by decide), by rw [hu, hfl]⟩
      · cbv
        have ca : wbin .add .i64 5 1 = 6 := by rw [hbin]; rfl
        by_cases hb : f5 = 1
        · have cb : wcmp .eql f5 1 = true := by rw [hcmp]; simp [cmpStd, hb]
          have hbt := hf.h5.1 hb
          obtain ⟨ua, ea⟩ : ∃ z, z = u ++ (⟨#[32]⟩ : ByteArray) := ⟨_, rfl⟩
          obtain ⟨ub, eb⟩ : ∃ z, z = ua ++ (⟨#[114, 111, 108, 108]⟩ : ByteArray) := ⟨_, rfl⟩
          have hfl : flN o 6 = flN o 5 ++ ([32] ++ [114, 111, 108, 108]) := fl_some (o := o) (i := 5) (by show some (o.b6, _) = _; rw [hbt])
          have hub : ub = bk (L5 ++ flN o 6) := by rw [eb, ea, hu, hfl]; exact (congrArg (· ++ (⟨#[114, 111, 108, 108]⟩ : ByteArray)) (bk_app (L5 ++ flN o 5) [32])).trans ((bk_app _ [114, 111, 108, 108]).trans (by simp only [List.append_assoc]))
          have hua : ua = bk (L5 ++ flN o 5 ++ [32]) := by rw [ea, hu]; exact bk_app _ _
          have za : Sz ua := sz_bk (by have := len_fl o 5; simp only [List.length_append, List.length_cons, List.length_nil]; omega) hua
          have zb : Sz ub := sz_bk (by have := len_fl o 6; rw [List.length_append]; omega) hub
          have cu : wsadd u ⟨#[32]⟩ = ua := by rw [hsadd, ea]
          have cv : wsadd ua ⟨#[114, 111, 108, 108]⟩ = ub := by rw [hsadd, eb]
          repeat' (first
            | (refine InN.mk (by decide) (by decide) ?_)
            | (refine Le.mk (by rw [hslen]; exact Sz.le (by assumption)) ?_; try cbv)
            | (simp only [cu, cv])
            | (simp only [cb]; cbv))
          simp only [ca]
          refine hN2 (6, ub) _ _ ?hx ?hi (show ((7 : Int) - 6).toNat < ((7 : Int) - 5).toNat by decide)
          case hx => (refine Wk.eqz (id) (by first | exact fun i _ j _ e => e | (simp only [List.length_cons, List.length_nil]; decide)) ?_; cbv; (repeat' (first | exact trivial | rfl | assumption | apply And.intro | (simp only [hbin, hcmp, hun, hconv, hnot, hbeq, hmm, hscmp, hsadd, hslen, hsat, heqs, hofNat, binStd, cmpStd, unStd, scmpStd, maxI, Bool.not_eq_true', Bool.not_eq_false', decide_eq_true_eq, decide_eq_false_iff_not, Int.not_lt, Int.not_le, if_true, if_false, Bool.false_eq_true, beq_iff_eq, bne_iff_ne, ne_eq, Bool.not_eq_eq_eq_not, Bool.not_true, Bool.not_false, beq_eq_false_iff_ne, bne_eq_false_iff_eq, Int.ofNat_eq_natCast, Bool.not_not, not_true_eq_false, not_false_eq_true, reduceCtorEq]; first | done | assumption) | exact RowsZ.same (by assumption) (by first | assumption | rfl) | exact FzL.mk rfl rfl rfl (by assumption) (by first | assumption | rfl) (by decide) | (refine RowsZ.one ?_; cbv))))
          case hi => exact ⟨(show (0 : Int) ≤ 6 by decide), (show (6 : Int) ≤ 7 by decide), hub⟩
        · have cb : wcmp .eql f5 1 = false := by rw [hcmp]; simp [cmpStd, hb]
          have hbt : o.b6 = false := by
            cases hx : o.b6
            · rfl
            · exact absurd (hf.h5.2 hx) hb
          have hfl : flN o 6 = flN o 5 := fl_none (o := o) (i := 5) (x := [114, 111, 108, 108]) (by show some (o.b6, _) = _; rw [hbt])
          repeat' (first
            | (refine InN.mk (by decide) (by decide) ?_)
            | (simp only [cb]; cbv))
          simp only [ca]
          refine hN2 (6, u) _ _ ?hx ?hi (show ((7 : Int) - 6).toNat < ((7 : Int) - 5).toNat by decide)
          case hx => (refine Wk.eqz (id) (by first | exact fun i _ j _ e => e | (simp only [List.length_cons, List.length_nil]; decide)) ?_; cbv; (repeat' (first | exact trivial | rfl | assumption | apply And.intro | (simp only [hbin, hcmp, hun, hconv, hnot, hbeq, hmm, hscmp, hsadd, hslen, hsat, heqs, hofNat, binStd, cmpStd, unStd, scmpStd, maxI, Bool.not_eq_true', Bool.not_eq_false', decide_eq_true_eq, decide_eq_false_iff_not, Int.not_lt, Int.not_le, if_true, if_false, Bool.false_eq_true, beq_iff_eq, bne_iff_ne, ne_eq, Bool.not_eq_eq_eq_not, Bool.not_true, Bool.not_false, beq_eq_false_iff_ne, bne_eq_false_iff_eq, Int.ofNat_eq_natCast, Bool.not_not, not_true_eq_false, not_false_eq_true, reduceCtorEq]; first | done | assumption) | exact RowsZ.same (by assumption) (by first | assumption | rfl) | exact FzL.mk rfl rfl rfl (by assumption) (by first | assumption | rfl) (by decide) | (refine RowsZ.one ?_; cbv))))
          case hi => exact ⟨(show (0 : Int) ≤ 6 by decide), (show (6 : Int) ≤ 7 by decide), by rw [hu, hfl]⟩
      · cbv
        have ca : wbin .add .i64 6 1 = 7 := by rw [hbin]; rfl
        by_cases hb : f6 = 1
        · have cb : wcmp .eql f6 1 = true := by rw [hcmp]; simp [cmpStd, hb]
          have hbt := hf.h6.1 hb
          obtain ⟨ua, ea⟩ : ∃ z, z = u ++ (⟨#[32]⟩ : ByteArray) := ⟨_, rfl⟩
          obtain ⟨ub, eb⟩ : ∃ z, z = ua ++ (⟨#[111, 118, 101, 114]⟩ : ByteArray) := ⟨_, rfl⟩
          have hfl : flN o 7 = flN o 6 ++ ([32] ++ [111, 118, 101, 114]) := fl_some (o := o) (i := 6) (by show some (o.b7, _) = _; rw [hbt])
          have hub : ub = bk (L5 ++ flN o 7) := by rw [eb, ea, hu, hfl]; exact (congrArg (· ++ (⟨#[111, 118, 101, 114]⟩ : ByteArray)) (bk_app (L5 ++ flN o 6) [32])).trans ((bk_app _ [111, 118, 101, 114]).trans (by simp only [List.append_assoc]))
          have hua : ua = bk (L5 ++ flN o 6 ++ [32]) := by rw [ea, hu]; exact bk_app _ _
          have za : Sz ua := sz_bk (by have := len_fl o 6; simp only [List.length_append, List.length_cons, List.length_nil]; omega) hua
          have zb : Sz ub := sz_bk (by have := len_fl o 7; rw [List.length_append]; omega) hub
          have cu : wsadd u ⟨#[32]⟩ = ua := by rw [hsadd, ea]
          have cv : wsadd ua ⟨#[111, 118, 101, 114]⟩ = ub := by rw [hsadd, eb]
          repeat' (first
            | (refine InN.mk (by decide) (by decide) ?_)
            | (refine Le.mk (by rw [hslen]; exact Sz.le (by assumption)) ?_; try cbv)
            | (simp only [cu, cv])
            | (simp only [cb]; cbv))
          simp only [ca]
          refine hN2 (7, ub) _ _ ?hx ?hi (show ((7 : Int) - 7).toNat < ((7 : Int) - 6).toNat by decide)
          case hx => (refine Wk.eqz (id) (by first | exact fun i _ j _ e => e | (simp only [List.length_cons, List.length_nil]; decide)) ?_; cbv; (repeat' (first | exact trivial | rfl | assumption | apply And.intro | (simp only [hbin, hcmp, hun, hconv, hnot, hbeq, hmm, hscmp, hsadd, hslen, hsat, heqs, hofNat, binStd, cmpStd, unStd, scmpStd, maxI, Bool.not_eq_true', Bool.not_eq_false', decide_eq_true_eq, decide_eq_false_iff_not, Int.not_lt, Int.not_le, if_true, if_false, Bool.false_eq_true, beq_iff_eq, bne_iff_ne, ne_eq, Bool.not_eq_eq_eq_not, Bool.not_true, Bool.not_false, beq_eq_false_iff_ne, bne_eq_false_iff_eq, Int.ofNat_eq_natCast, Bool.not_not, not_true_eq_false, not_false_eq_true, reduceCtorEq]; first | done | assumption) | exact RowsZ.same (by assumption) (by first | assumption | rfl) | exact FzL.mk rfl rfl rfl (by assumption) (by first | assumption | rfl) (by decide) | (refine RowsZ.one ?_; cbv))))
          case hi => exact ⟨(show (0 : Int) ≤ 7 by decide), (show (7 : Int) ≤ 7 by decide), hub⟩
        · have cb : wcmp .eql f6 1 = false := by rw [hcmp]; simp [cmpStd, hb]
          have hbt : o.b7 = false := by
            cases hx : o.b7
            · rfl
            · exact absurd (hf.h6.2 hx) hb
          have hfl : flN o 7 = flN o 6 := fl_none (o := o) (i := 6) (x := [111, 118, 101, 114]) (by show some (o.b7, _) = _; rw [hbt])
          repeat' (first
            | (refine InN.mk (by decide) (by decide) ?_)
            | (simp only [cb]; cbv))
          simp only [ca]
          refine hN2 (7, u) _ _ ?hx ?hi (show ((7 : Int) - 7).toNat < ((7 : Int) - 6).toNat by decide)
          case hx => (refine Wk.eqz (id) (by first | exact fun i _ j _ e => e | (simp only [List.length_cons, List.length_nil]; decide)) ?_; cbv; (repeat' (first | exact trivial | rfl | assumption | apply And.intro | (simp only [hbin, hcmp, hun, hconv, hnot, hbeq, hmm, hscmp, hsadd, hslen, hsat, heqs, hofNat, binStd, cmpStd, unStd, scmpStd, maxI, Bool.not_eq_true', Bool.not_eq_false', decide_eq_true_eq, decide_eq_false_iff_not, Int.not_lt, Int.not_le, if_true, if_false, Bool.false_eq_true, beq_iff_eq, bne_iff_ne, ne_eq, Bool.not_eq_eq_eq_not, Bool.not_true, Bool.not_false, beq_eq_false_iff_ne, bne_eq_false_iff_eq, Int.ofNat_eq_natCast, Bool.not_not, not_true_eq_false, not_false_eq_true, reduceCtorEq]; first | done | assumption) | exact RowsZ.same (by assumption) (by first | assumption | rfl) | exact FzL.mk rfl rfl rfl (by assumption) (by first | assumption | rfl) (by decide) | (refine RowsZ.one ?_; cbv))))
          case hi => exact ⟨(show (0 : Int) ≤ 7 by decide), (show (7 : Int) ≤ 7 by decide), by rw [hu, hfl]⟩
    · refine hE2 _ _ _ ?_
      cbv
      have e7 : i = 7 := by omega
      subst e7
      exact ⟨_, Vw.same rfl, hR _ (by rw [et', hu]; rfl)⟩
end Go.Proofs.YtikhbgnokkdpeaaDoor

