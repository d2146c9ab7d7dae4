/- Texts of the proof of LineApart, joined by wip/tools/pack.py. -/
import Derived.LaidLaws
import Derived.Test.YtikhbgnokkdpeaaDoorEng23
import Derived.RowKit
import Derived.LaidHandle
import Derived.LaidSub
import Derived.Lib.LaidTab
import Derived.Lib.ItoaLen
import Derived.Lib.Join
import Derived.Test.YtikhbgnokkdpeaaDoorBase
import Derived.Shelf.Strconv.Itoa4
import Derived.Shelf.Strings.OnBuilder
import Derived.Test.YtikhbgnokkdpeaaDoorProg
import Derived.KernelRfl
import Derived.Test.YtikhbgnokkdpeaaDoorEng30
import Derived.Test.YtikhbgnokkdpeaaDoorEng31
import Derived.Test.YtikhbgnokkdpeaaDoorEngW
import Derived.Test.YtikhbgnokkdpeaaDoorEngL
import Derived.Test.YtikhbgnokkdpeaaDoorEngV
import Derived.Test.YtikhbgnokkdpeaaDoorEngD
import Derived.Test.YtikhbgnokkdpeaaDoorEng28
import Derived.MakeChecks
import Derived.Test.YtikhbgnokkdpeaaDoorRows
/- What the package's laid variables hold: rows of numbers and of texts. -/
set_option linter.unusedVariables false
set_option linter.unusedSimpArgs false
namespace Go.Proofs.YtikhbgnokkdpeaaDoor
open Go
theorem mapM_get {α β : Type} {f : α → Option β} : ∀ {l : List α} {xs : List β}, l.mapM f = some xs → xs.length = l.length ∧ ∀ (i : Nat) (a : α), l[i]? = some a → ∃ y, f a = some y ∧ xs[i]? = some y
  | [], xs, h => by
    simp only [List.mapM_nil, Option.pure_def, Option.some.injEq] at h
    subst h
    exact ⟨rfl, fun i a hi => by simp at hi⟩
  | b :: l, xs, h => by
    simp only [List.mapM_cons, Option.bind_eq_bind, Option.bind_eq_some_iff, Option.pure_def, Option.some.injEq] at h
    obtain ⟨y, hy, ys, hys, rfl⟩ := h
    obtain ⟨h1, h2⟩ := mapM_get hys
    refine ⟨by simp [h1], fun i a hi => ?_⟩
    cases i with
    | zero => simp at hi; subst hi; exact ⟨y, hy, rfl⟩
    | succ i => exact h2 i a (by simpa using hi)
theorem trod_int1 {H : Type} {enc : TypeId × Value → H} {P : Program} {w : World} {base : Nat} {sp : Nat → Bool} {held : Bool} {fuel : Nat} {t : TypeId} {k : IntKind} {c : Value} {y : DataW H × List MemPlace} (ht : P.underlying t = some (.int k))
    (h : DataW.trod enc P w base sp held fuel t [c] = some y) : ∃ n, c = .int k n ∧ y = (.lit (.int k n), []) := by
  cases fuel with
  | zero => simp [DataW.trod] at h
  | succ fuel =>
    cases c <;> simp [DataW.trod, ht] at h
    rename_i k' n
    obtain ⟨⟨rfl, _⟩, rfl⟩ := h
    exact ⟨n, rfl, rfl⟩
theorem trod_ints {H : Type} {enc : TypeId × Value → H} {P : Program} {w : World} {base : Nat} {sp : Nat → Bool} {held : Bool} {fuel n : Nat} {t et : TypeId} {k : IntKind} (ht : P.underlying t = some (.array n et)) (he : P.underlying et = some (.int k)) (hc : P.cellsOf et = 1) (hct : P.cellsOf t = n)
    {cs : List Value} {ls : List Int} {ps : List MemPlace} (h : DataW.trod enc P w base sp held fuel t cs = some (.agg (ls.map fun x => .lit (.int k x)), ps)) : cs = ls.map (Value.int k) := by
  cases fuel with
  | zero => simp [DataW.trod] at h
  | succ fuel =>
    simp only [DataW.trod, ht, hct, hc] at h
    split at h
    · rename_i hl
      simp only [Option.map_eq_some_iff, Prod.mk.injEq, DataW.agg.injEq] at h
      obtain ⟨xs, hx, he1, _⟩ := h
      obtain ⟨h1, h2⟩ := mapM_get hx
      have hll : ls.length = n := by have := congrArg List.length he1; simp at this; simp at h1; omega
      apply List.ext_getElem?
      intro i
      by_cases hi : i < n
      · obtain ⟨y, hy, hyi⟩ := h2 i i (List.getElem?_range hi)
        have hd : (cs.drop (i * 1)).take 1 = [cs[i]'(by omega)] := by
          rw [Nat.mul_one, List.drop_eq_getElem_cons (by omega)]; rfl
        rw [hd] at hy
        obtain ⟨m, hm, rfl⟩ := trod_int1 he hy
        have hmi : (xs.map (·.1))[i]? = some (.lit (.int k m)) := by rw [List.getElem?_map, hyi]; rfl
        rw [he1, List.getElem?_map] at hmi
        obtain ⟨q, hq, e⟩ := Option.map_eq_some_iff.1 hmi
        simp only [DataW.lit.injEq, Lit.int.injEq, true_and] at e
        rw [List.getElem?_eq_getElem (by omega), hm, List.getElem?_map, hq, ← e]; rfl
      · rw [List.getElem?_eq_none (by omega), List.getElem?_eq_none (by simp; omega)]
    · cases h
theorem laid_mem {P : Program} {w : World} {n : String} {d : DataW Unit} : ∀ {l : List (String × DataW Unit)} {ps : List MemPlace}, DataW.LaidVars P w l ps → (n, d) ∈ l → ∃ g t cs fuel p, P.globalNamed n = some g ∧ (P.globals[g]?).map (·.type) = some t ∧ w.var? P n = some cs ∧ DataW.trod (fun _ => ()) P w 0 (fun _ => true) false fuel t cs.toList = some (d, p)
  | [], _, _, hm => by cases hm
  | (m, e) :: l, ps, h, hm => by
    obtain ⟨g, t, cs, fuel, p, q, h1, h2, h3, h4, h5, _⟩ := h
    rcases List.mem_cons.1 hm with hm | hm
    · obtain ⟨rfl, rfl⟩ := Prod.mk.inj hm
      exact ⟨g, t, cs, fuel, p, h1, h2, h3, h4⟩
    · exact laid_mem h5 hm
end Go.Proofs.YtikhbgnokkdpeaaDoor

/- What the package's laid variables hold, as the engine has it. -/
set_option linter.unusedVariables false
set_option linter.unusedSimpArgs false
namespace Go.Proofs.YtikhbgnokkdpeaaDoor
open Go Go.RowKit Go.Eng
theorem glo_ints {P : Program} {W : World} {name : String} {g : Nat} {cs : Array Value} {k : IntKind} {ls : List Int} (hg : P.globalNamed name = some g) (hv : W.var? P name = some cs) (hcs : cs.toList = ls.map (Value.int k)) :
    VR (cfg0 W) (.cref (ls.map (AV.int k))) (.pointer (some ⟨g, 0, none⟩)) ∧ ∃ ty, W.shape? g = some (ty, (ls.map (AV.int k)).length) := by
  have hsz : cs.size = ls.length := by rw [← Array.length_toList, hcs]; simp
  have hj : ∀ j, j < ls.length → cs[j]? = some (.int k (ls.getD j 0)) := fun j hj => by
    rw [← Array.getElem?_toList, hcs, List.getElem?_map, List.getD_eq_getElem?_getD, List.getElem?_eq_getElem hj]; rfl
  refine ⟨?_, ?_⟩
  rotate_left 1
  · simp only [World.var?, hg, Option.bind_some] at hv
    split at hv
    · rename_i c1 el fz1 heq
      simp only [Option.some.injEq] at hv
      subst hv
      unfold World.shape?
      rw [heq]
      exact ⟨el, by rw [List.length_map, ← hsz]⟩
    · cases hv
  refine .cref _ _ (fun j => .int k (ls.getD j 0)) rfl (fun j hjl => ?_) (fun _ h => ?_) fun j x hx => ?_
  · have := World.var?_cell hg hv j
    simp only [List.length_map] at hjl
    show W.cell? ⟨g, 0 + j, none⟩ = _
    rw [Nat.zero_add, this, hj j hjl]
  · rcases h with h | ⟨s, ⟨z, es, h⟩, _⟩
    · exact h
    · simp [cfg0] at h
  · rw [List.getElem?_map] at hx
    obtain ⟨q, hq, rfl⟩ := Option.map_eq_some_iff.1 hx
    rw [List.getD_eq_getElem?_getD, hq]
    exact .int k q
theorem VR.int_inv {C : Cfg} {k : IntKind} {n : Int} {v : Value} (h : VR C (.int k n) v) : v = .int k n := by cases h; rfl
/-- A laid table reads in the world as it was laid. -/
theorem tab_of_rel {P : Program} {C : Cfg} (R : Rel C) {name : String} {g : Nat} {k : IntKind} {ls : List Int} (hg : P.globalNamed name = some g) (hm : (g, ls.map (AV.int k)) ∈ gs) : Lib.TabIs P C.w name k ls := by
  obtain ⟨ty, hs⟩ := R.gsz _ hm
  have hv := R.glo _ hm
  unfold World.shape? at hs
  split at hs
  · rename_i c elem fz heq
    simp only [Option.some.injEq, Prod.mk.injEq, List.length_map] at hs
    have hsz : c.size = ls.length := hs.2
    have heq : C.w.heap[g]? = some (.cells c elem fz) := heq
    have hc : c = (ls.map fun z => Value.int k z).toArray := by
      cases hv with
      | cref _ _ f ha hcell hown hx =>
        apply Array.ext_getElem?
        intro j
        by_cases hj : j < ls.length
        · have h1 := hcell j (by simpa using hj)
          have h2 := hx j (.int k (ls[j]'hj)) (by rw [List.getElem?_map, List.getElem?_eq_getElem hj]; rfl)
          have h3 := VR.int_inv h2
          rw [h3] at h1
          have h4 : c[j]? = some (Value.int k (ls[j]'hj)) := by
            have h5 : C.w.cell? ⟨g, 0 + j, none⟩ = c[j]? := by
              simp only [World.cell?, heq, Nat.zero_add, Option.isSome_none, Bool.false_eq_true, if_false]
            rw [← h5]; exact h1
          rw [h4]
          simp [hj]
        · rw [Array.getElem?_eq_none (by omega), List.getElem?_toArray, List.getElem?_eq_none (by rw [List.length_map]; omega)]
    unfold Lib.TabIs World.var?
    simp only [hg, Option.bind_some, heq, hc]
  · cases hs
end Go.Proofs.YtikhbgnokkdpeaaDoor

/- A contract of the library whose result is plain and that keeps what was there, as a contract of the engine. -/
set_option linter.unusedVariables false
set_option linter.unusedSimpArgs false
namespace Go.Eng
open Go Go.RowKit
theorem PCalls.of_below {P : Program} {g : FuncId} {args : List AV} {R : AV → Prop} (hE : Enters P g)
    (H : ∀ (C : Cfg) (vs : Array Value), C.h = [] → Rel C → VRs C args vs → Calls P g vs C.w fun e w' => ∃ v r, e = .returned v ∧ R r ∧ (∀ D : Cfg, VR D r v) ∧ Below C.w.heap.size C.w w') : PCalls P g args R := by
  refine ⟨hE, fun C vs h0 hR hv => (H C vs h0 hR hv).mono fun e w' ⟨v, r, he, hr, hvr, hb⟩ => ?_⟩
  obtain ⟨b1, b2, b3, b4, b5⟩ := hb
  have hx : Ext 0 C { C with w := w' } := by
    refine ⟨rfl, b1, b2, b3, b4, fun s hs => absurd hs (Nat.not_lt_zero _), fun b hbk hno => ⟨b5 b hbk, hno⟩, fun b x hs => ?_⟩
    have hlt : b < C.w.heap.size := by
      unfold World.shape? at hs
      split at hs
      · rename_i heq; exact (Array.getElem?_eq_some_iff.1 heq).1
      · cases hs
    unfold World.shape? at hs ⊢
    show (match w'.heap[b]? with | some (.cells c elem _) => some (elem, c.size) | _ => none) = some x
    rw [b5 b hlt]
    exact hs
  refine ⟨v, r, { C with w := w' }, he, hr, h0, rfl, ?_, hvr _, hx⟩
  have hl0 : C.h.length = 0 := by rw [h0]; rfl
  refine hR.of_ext (by rw [hl0]; exact hx) (fun s z es hl => ?_) (fun s t ⟨z, es, hs⟩ => ?_)
  · rw [show ({ C with w := w' } : Cfg).h = [] from h0] at hl; simp at hl
  · rw [show ({ C with w := w' } : Cfg).h = [] from h0] at hs; simp at hs
end Go.Eng

/- Numbers as words, plainly. -/
set_option linter.unusedVariables false
set_option linter.unusedSimpArgs false
namespace Go.Proofs.YtikhbgnokkdpeaaDoor
open Go
def itb (n : Int) : ByteArray := ⟨(Lib.itoa n).toArray⟩
/-- A text's bytes. -/
def tx (s : ByteArray) : List UInt8 := s.data.toList
theorem tx_ext {a b : ByteArray} (h : tx a = tx b) : a = b := by
  cases a with | mk a => cases b with | mk b =>
  unfold tx at h
  simp only at h
  rw [Array.toList_inj.1 h]
theorem tx_app (a b : ByteArray) : tx (a ++ b) = tx a ++ tx b := by
  unfold tx
  rw [ByteArray.data_append, Array.toList_append]
theorem tx_mk (l : List UInt8) : tx ⟨l.toArray⟩ = l := rfl
theorem tx_itb (n : Int) : tx (itb n) = Lib.itoa n := rfl
theorem itoa_small {n : Int} (h0 : 0 ≤ n) (h1 : n < 10) : Lib.itoa n = [UInt8.ofNat (48 + n.toNat)] := by
  obtain ⟨u, rfl⟩ : ∃ u : Nat, n = u := ⟨n.toNat, by omega⟩
  rw [Lib.itoa_nonneg, Lib.decDigits_one (by omega)]; rfl
theorem itoa_big {n : Int} (h : 10 ≤ n) : Lib.itoa n = Lib.itoa (n / 10) ++ Lib.itoa (n % 10) := by
  obtain ⟨u, rfl⟩ : ∃ u : Nat, n = u := ⟨n.toNat, by omega⟩
  have e1 : ((u : Int) / 10) = ((u / 10 : Nat) : Int) := by omega
  have e2 : ((u : Int) % 10) = ((u % 10 : Nat) : Int) := by omega
  rw [e1, e2, Lib.itoa_nonneg, Lib.itoa_nonneg, Lib.itoa_nonneg, Lib.decDigits, dif_neg (by omega), Lib.decDigits_one (i := u % 10) (by omega)]
theorem itoa_neg' {n : Int} (h : n < 0) : Lib.itoa n = 45 :: Lib.itoa (-n) := by
  obtain ⟨u, rfl⟩ : ∃ u : Nat, n = -(u : Int) := ⟨n.natAbs, by omega⟩
  rw [Lib.itoa_neg u (by omega), Int.neg_neg, Lib.itoa_nonneg]
theorem itb_big {n : Int} (h : 10 ≤ n) : itb (n / 10) ++ itb (n % 10) = itb n := by
  apply tx_ext
  rw [tx_app, tx_itb, tx_itb, tx_itb, itoa_big h]
theorem itb_neg {n : Int} (h : n < 0) : (⟨#[45]⟩ : ByteArray) ++ itb (-n) = itb n := by
  apply tx_ext
  rw [tx_app, tx_itb, tx_itb, itoa_neg' h]; rfl
theorem itb_negbig {n : Int} (h : n ≤ -10) : ((⟨#[45]⟩ : ByteArray) ++ itb (-n / 10)) ++ itb (-n % 10) = itb n := by
  apply tx_ext
  rw [tx_app, tx_app, tx_itb, tx_itb, tx_itb, itoa_neg' (n := n) (by omega), itoa_big (n := -n) (by omega)]; rfl
/-- The bytes of a numeral. -/
theorem dec_bytes : ∀ (k u : Nat), u ≤ k → ∀ b, b ∈ Lib.decDigits u → 48 ≤ b.toNat ∧ b.toNat ≤ 57
  | 0, u, hu, b, hb => by
    rw [Lib.decDigits_one (by omega)] at hb
    simp only [List.mem_cons, List.not_mem_nil, or_false] at hb
    subst hb
    rw [UInt8.toNat_ofNat']; omega
  | k + 1, u, hu, b, hb => by
    by_cases h : u < 10
    · rw [Lib.decDigits_one h] at hb
      simp only [List.mem_cons, List.not_mem_nil, or_false] at hb
      subst hb
      rw [UInt8.toNat_ofNat']; omega
    · rw [Lib.decDigits, dif_neg h, List.mem_append] at hb
      rcases hb with hb | hb
      · exact dec_bytes k (u / 10) (by omega) b hb
      · simp only [List.mem_cons, List.not_mem_nil, or_false] at hb
        subst hb
        rw [UInt8.toNat_ofNat']; omega
theorem itoa_bytes {n : Int} {b : UInt8} (h : b ∈ Lib.itoa n) : b.toNat = 45 ∨ (48 ≤ b.toNat ∧ b.toNat ≤ 57) := by
  unfold Lib.itoa at h
  split at h
  · rcases List.mem_cons.1 h with rfl | h
    · exact .inl rfl
    · exact .inr (dec_bytes _ _ (Nat.le_refl _) _ h)
  · exact .inr (dec_bytes _ _ (Nat.le_refl _) _ h)
/-- The number that digits say. -/
def decVal (l : List UInt8) : Nat := l.foldl (fun a b => a * 10 + (b.toNat - 48)) 0
theorem decVal_dec : ∀ (k u : Nat), u ≤ k → decVal (Lib.decDigits u) = u
  | 0, u, hu => by
    rw [Lib.decDigits_one (by omega)]
    simp only [decVal, List.foldl_cons, List.foldl_nil, UInt8.toNat_ofNat']; omega
  | k + 1, u, hu => by
    by_cases h : u < 10
    · rw [Lib.decDigits_one h]
      simp only [decVal, List.foldl_cons, List.foldl_nil, UInt8.toNat_ofNat']; omega
    · rw [Lib.decDigits, dif_neg h]
      have ih := decVal_dec k (u / 10) (by omega)
      unfold decVal at ih ⊢
      rw [List.foldl_append, ih]
      simp only [List.foldl_cons, List.foldl_nil, UInt8.toNat_ofNat']; omega
theorem dec_inj {u v : Nat} (h : Lib.decDigits u = Lib.decDigits v) : u = v := by
  rw [← decVal_dec u u (Nat.le_refl _), h, decVal_dec v v (Nat.le_refl _)]
theorem itoa_inj {a b : Int} (h : Lib.itoa a = Lib.itoa b) : a = b := by
  have hd : ∀ u : Nat, ∀ l, Lib.decDigits u ≠ 45 :: l := fun u l h => by
    have := dec_bytes u u (Nat.le_refl _) 45 (by rw [h]; simp)
    simp at this
  unfold Lib.itoa at h
  split at h <;> split at h
  · have := dec_inj (List.cons.inj h).2; omega
  · exact absurd h.symm (hd _ _)
  · exact absurd h (hd _ _)
  · have := dec_inj h; omega
theorem sz_itb {n : Int} (h0 : -9223372036854775808 ≤ n) (h1 : n ≤ 9223372036854775807) : ((itb n).size : Int) ≤ 21 := by
  have := Lib.itoa_length_le n h0 h1
  have e : (itb n).size = (Lib.itoa n).length := rfl
  omega
/-- A text that is short enough. -/
def Sz (b : ByteArray) : Prop := b.size ≤ 1000000000
theorem Sz.le {b : ByteArray} (h : Sz b) : (fun s : ByteArray => (s.size : Int)) b ≤ 9223372036854775807 := by
  unfold Sz at h
  simp only
  omega
theorem sz_num {n : Int} {b : ByteArray} (h0 : -9223372036854775808 ≤ n) (h1 : n ≤ 9223372036854775807) (eb : b = itb n) : Sz b := by
  have := sz_itb h0 h1
  subst eb
  unfold Sz
  omega
theorem len_join (xs : List (List UInt8)) (c : UInt8) : (Lib.join xs [c]).length ≤ Lib.lens xs + xs.length := by
  cases xs with
  | nil => simp [Lib.join_nil, Lib.lens]
  | cons x r =>
    rw [Lib.join_cons, List.length_append, Lib.joinTail_length]
    simp only [Lib.lens, List.map_cons, List.sum_cons, List.length_cons, List.length_nil]
    omega
theorem lens_le {m : Nat} : ∀ (xs : List (List UInt8)), (∀ x, x ∈ xs → x.length ≤ m) → Lib.lens xs ≤ m * xs.length
  | [], _ => by simp [Lib.lens]
  | x :: r, h => by
    have h1 := h x (by simp)
    have h2 := lens_le r fun y hy => h y (by simp [hy])
    simp only [Lib.lens, List.map_cons, List.sum_cons, List.length_cons] at h2 ⊢
    rw [Nat.mul_succ]; omega
def In64 (n : Int) : Prop := -9223372036854775808 ≤ n ∧ n ≤ 9223372036854775807
theorem len_itoa {n : Int} (h : In64 n) : (Lib.itoa n).length ≤ 21 := Lib.itoa_length_le n h.1 h.2
/-- A span's ends, a route, as words. -/
def endsL (a b : Int) : List UInt8 := Lib.itoa a ++ [46, 46] ++ Lib.itoa b
def pathL (l : List Int) : List UInt8 := Lib.join (l.map Lib.itoa) [45]
theorem len_path {l : List Int} (h : ∀ n, n ∈ l → In64 n) : (pathL l).length ≤ 22 * l.length := by
  have h1 := len_join (l.map Lib.itoa) 45
  have h2 := lens_le (m := 21) (l.map Lib.itoa) fun x hx => by
    obtain ⟨n, hn, rfl⟩ := List.mem_map.1 hx
    exact len_itoa (h n hn)
  rw [List.length_map] at h1 h2
  unfold pathL
  omega
def bk (l : List UInt8) : ByteArray := ⟨l.toArray⟩
theorem tx_bk (l : List UInt8) : tx (bk l) = l := rfl
theorem bk_app (a b : List UInt8) : bk a ++ bk b = bk (a ++ b) := by
  apply tx_ext
  rw [tx_app, tx_bk, tx_bk, tx_bk]
theorem sz_bk {l : List UInt8} {b : ByteArray} (h : l.length ≤ 1000000000) (e : b = bk l) : Sz b := by
  subst e; exact h
/-- What is told of a train. -/
structure Lr where
  c : Int
  m : Int
  g : Int
  lo : Int
  hi : Int
  est : Int
  slo : Int
  shi : Int
  nom : Int
  dist : Int
  rs : List (List Int)
  fit : Int
  b1 : Bool
  b2 : Bool
  s0 : Int
  s1 : Int
  b3 : Bool
  b4 : Bool
  b5 : Bool
  b6 : Bool
  b7 : Bool
  mlo : Int
  mhi : Int
  perm : Int
  c0 : Int
  c1 : Int
  c2 : Int
  c3 : Int
  k0 : Int
  k1 : Int
  k2 : Int
  k3 : Int
structure LrOk (o : Lr) : Prop where
  c : In64 o.c
  g : In64 o.g
  lo : In64 o.lo
  hi : In64 o.hi
  est : In64 o.est
  slo : In64 o.slo
  shi : In64 o.shi
  fit : In64 o.fit
  s0 : In64 o.s0
  s1 : In64 o.s1
  rs : ∀ r, r ∈ o.rs → ∀ n, n ∈ r → In64 n
def modeL (m : Int) : List UInt8 := if m = 1 then [117, 110, 108, 111, 99, 97, 116, 101, 100] else if m = 2 then [108, 111, 99, 97, 116, 101, 100] else if m = 3 then [100, 101, 103, 114, 97, 100, 101, 100] else if m = 4 then [102, 97, 105, 108, 101, 100] else []
def waysL (rs : List (List Int)) : List UInt8 := Lib.join (rs.map pathL) [44]
def placedL (o : Lr) : List (List UInt8) := if o.g = 0 then [] else [[103, 114, 111, 117, 112], Lib.itoa o.g, [97, 116], endsL o.lo o.hi, [101, 115, 116], Lib.itoa o.est, [119, 97, 121, 115], waysL o.rs]
def saidL (l : List (Bool × List UInt8)) : List (List UInt8) := (l.filter (·.1)).map (·.2)
def flagsL (o : Lr) : List (Bool × List UInt8) := [(o.b1, [99, 108, 101, 97, 110]), (o.b2, [99, 111, 110, 102, 108, 105, 99, 116]), (o.b3, [97, 99, 99, 101, 112, 116, 101, 100]), (o.b4, [102, 97, 117, 108, 116]), (o.b5, [115, 116, 105, 108, 108]), (o.b6, [114, 111, 108, 108]), (o.b7, [111, 118, 101, 114])]
def slipL (o : Lr) : List (List UInt8) := if o.s0 = 0 ∧ o.s1 = 0 then [] else [[115, 108, 105, 112], Lib.itoa o.s0, Lib.itoa o.s1]
def wordsL (o : Lr) : List (List UInt8) := [Lib.itoa o.c, modeL o.m] ++ placedL o ++ [[115, 112, 101, 101, 100], endsL o.slo o.shi, [102, 105, 116], Lib.itoa o.fit] ++ slipL o ++ saidL (flagsL o)
def lineB (o : Lr) : ByteArray := bk (Lib.join (wordsL o) [32])
theorem join_snoc (xs : List (List UInt8)) (y : List UInt8) (c : UInt8) (h : xs ≠ []) : Lib.join (xs ++ [y]) [c] = Lib.join xs [c] ++ [c] ++ y := by
  cases xs with
  | nil => exact absurd rfl h
  | cons x r =>
    rw [List.cons_append, Lib.join_cons, Lib.join_cons]
    simp [Lib.joinTail]
theorem itoa_ne_nil (n : Int) : Lib.itoa n ≠ [] := by
  unfold Lib.itoa
  split
  · simp
  · intro h
    have := Lib.decDigits_length n.toNat
    rw [h] at this
    have := Lib.nDigits_pos n.toNat
    simp at *
    omega
/-- Two pieces ahead of a byte that is in none of them. -/
theorem cut_inj {c : UInt8} : ∀ {a b x y : List UInt8}, c ∉ a → c ∉ b → a ++ c :: x = b ++ c :: y → a = b ∧ x = y
  | [], [], x, y, _, _, h => ⟨rfl, by simpa using h⟩
  | [], d :: b, x, y, _, hb, h => by
    simp only [List.nil_append, List.cons_append, List.cons.injEq] at h
    exact absurd (by rw [← h.1]; simp) hb
  | d :: a, [], x, y, ha, _, h => by
    simp only [List.nil_append, List.cons_append, List.cons.injEq] at h
    exact absurd (by rw [h.1]; simp) ha
  | d :: a, e :: b, x, y, ha, hb, h => by
    simp only [List.cons_append, List.cons.injEq] at h
    obtain ⟨h1, h2⟩ := cut_inj (fun h => ha (by simp [h])) (fun h => hb (by simp [h])) h.2
    exact ⟨by rw [h.1, h1], h2⟩
theorem join_inj {c : UInt8} : ∀ {xs ys : List (List UInt8)}, xs ≠ [] → ys ≠ [] → (∀ x, x ∈ xs → c ∉ x) → (∀ x, x ∈ ys → c ∉ x) → Lib.join xs [c] = Lib.join ys [c] → xs = ys
  | [], _, h, _, _, _, _ => absurd rfl h
  | _ :: _, [], _, h, _, _, _ => absurd rfl h
  | [x], [y], _, _, _, _, h => by rw [Lib.join_one, Lib.join_one] at h; rw [h]
  | [x], y :: z :: r, _, _, hx, _, h => by
    rw [Lib.join_one, Lib.join_cons] at h
    exact absurd (by rw [h]; simp [Lib.joinTail]) (hx x (by simp))
  | x :: z :: r, [y], _, _, _, hy, h => by
    rw [Lib.join_one, Lib.join_cons] at h
    exact absurd (by rw [← h]; simp [Lib.joinTail]) (hy y (by simp))
  | x :: z :: r, y :: z2 :: s, _, _, hx, hy, h => by
    have e : ∀ (a b : List UInt8) (l : List (List UInt8)), Lib.join (a :: b :: l) [c] = a ++ c :: Lib.join (b :: l) [c] := fun a b l => by
      rw [Lib.join_cons, Lib.join_cons]
      simp [Lib.joinTail]
    rw [e, e] at h
    obtain ⟨h1, h2⟩ := cut_inj (hx x (by simp)) (hy y (by simp)) h
    rw [h1, join_inj (by simp) (by simp) (fun a ha => hx a (by simp [ha])) (fun a ha => hy a (by simp [ha])) h2]
end Go.Proofs.YtikhbgnokkdpeaaDoor

/- The shelf's contracts at this dump, in plain words (printed by the kit's lay-plain.mjs). -/
namespace Go.Proofs
open Go.Shelf
def Tryd.itoaL_ren : Go.Shelf.Ren := ⟨fun | 171 => 8 | 243 => 17 | 246 => 23 | 283 => 27 | 284 => 28 | 285 => 29 | 286 => 30 | 129 => 34 | 317 => 33 | 318 => 35 | 319 => 36 | 320 => 37 | 337 => 38 | 338 => 39 | n => n, fun | 3 => 3 | 9 => 9 | 2 => 2 | 4 => 4 | 171 => 67 | 0 => 0 | 53 => 68 | 37 => 56 | 5 => 5 | 173 => 71 | 212 => 78 | 51 => 79 | 20 => 20 | 213 => 80 | 46 => 82 | 232 => 85 | 233 => 86 | n => n, fun | 17 => 0 | 18 => 2 | 19 => 3 | n => n⟩
theorem Tryd.itoaL : Go.Proofs.LaysM.n171 Tryd.prog Tryd.itoaL_ren := {
  mixed := by kernel_rfl
  f129 := Tryd.func34.trans (congrArg some (by kernel_rfl))
  f171 := Tryd.func8.trans (congrArg some (by kernel_rfl))
  f243 := Tryd.func17.trans (congrArg some (by kernel_rfl))
  f246 := Tryd.func23.trans (congrArg some (by kernel_rfl))
  f283 := Tryd.func27.trans (congrArg some (by kernel_rfl))
  f284 := Tryd.func28.trans (congrArg some (by kernel_rfl))
  f285 := Tryd.func29.trans (congrArg some (by kernel_rfl))
  f286 := Tryd.func30.trans (congrArg some (by kernel_rfl))
  f317 := Tryd.func33.trans (congrArg some (by kernel_rfl))
  f318 := Tryd.func35.trans (congrArg some (by kernel_rfl))
  f319 := Tryd.func36.trans (congrArg some (by kernel_rfl))
  f320 := Tryd.func37.trans (congrArg some (by kernel_rfl))
  f337 := Tryd.func38.trans (congrArg some (by kernel_rfl))
  f338 := Tryd.func39.trans (congrArg some (by kernel_rfl))
  t0 := Tryd.underlying0
  a0 := Tryd.isAgg0
  z0 := Tryd.sizeOf0
  v0 := Tryd.zeroValue0
  t2 := Tryd.underlying2
  a2 := Tryd.isAgg2
  z2 := Tryd.sizeOf2
  v2 := Tryd.zeroValue2
  t3 := Tryd.underlying3
  a3 := Tryd.isAgg3
  z3 := Tryd.sizeOf3
  v3 := Tryd.zeroValue3
  t4 := Tryd.underlying4
  a4 := Tryd.isAgg4
  z4 := Tryd.sizeOf4
  v4 := Tryd.zeroValue4
  t5 := Tryd.underlying5
  a5 := Tryd.isAgg5
  z5 := Tryd.sizeOf5
  v5 := Tryd.zeroValue5
  t9 := Tryd.underlying9
  a9 := Tryd.isAgg9
  z9 := Tryd.sizeOf9
  v9 := Tryd.zeroValue9
  t20 := Tryd.underlying20
  a20 := Tryd.isAgg20
  z20 := Tryd.sizeOf20
  v20 := Tryd.zeroValue20
  t37 := Tryd.underlying56
  a37 := Tryd.isAgg56
  z37 := Tryd.sizeOf56
  v37 := Tryd.zeroValue56
  t46 := Tryd.underlying82
  a46 := Tryd.isAgg82
  z46 := Tryd.sizeOf82
  v46 := Tryd.zeroValue82
  t51 := Tryd.underlying79
  a51 := Tryd.isAgg79
  z51 := Tryd.sizeOf79
  v51 := Tryd.zeroValue79
  t53 := Tryd.underlying68
  a53 := Tryd.isAgg68
  z53 := Tryd.sizeOf68
  v53 := Tryd.zeroValue68
  t171 := Tryd.underlying67
  a171 := Tryd.isAgg67
  z171 := Tryd.sizeOf67
  v171 := Tryd.zeroValue67
  t173 := Tryd.underlying71
  a173 := Tryd.isAgg71
  z173 := Tryd.sizeOf71
  v173 := Tryd.zeroValue71
  t212 := Tryd.underlying78
  a212 := Tryd.isAgg78
  z212 := Tryd.sizeOf78
  v212 := Tryd.zeroValue78
  t213 := Tryd.underlying80
  a213 := Tryd.isAgg80
  z213 := Tryd.sizeOf80
  t232 := Tryd.underlying85
  a232 := Tryd.isAgg85
  z232 := Tryd.sizeOf85
  v232 := Tryd.zeroValue85
  t233 := Tryd.underlying86
  a233 := Tryd.isAgg86
  z233 := Tryd.sizeOf86
  v233 := Tryd.zeroValue86
  g17 := by kernel_rfl
  g18 := by kernel_rfl
  g19 := by kernel_rfl
  i0 := by kernel_rfl
  i2 := by kernel_rfl
  i3 := by kernel_rfl
  i4 := by kernel_rfl
  i5 := by kernel_rfl
  i9 := by kernel_rfl
  i20 := by kernel_rfl
  i37 := by kernel_rfl
  i46 := by kernel_rfl
  i51 := by kernel_rfl
  i53 := by kernel_rfl
  i171 := by kernel_rfl
  i173 := by kernel_rfl
  i212 := by kernel_rfl
  i232 := by kernel_rfl
  i233 := by kernel_rfl
  m17 := by kernel_rfl
  m18 := by kernel_rfl
  m19 := by kernel_rfl }
def Tryd.formatL_ren : Go.Shelf.Ren := ⟨fun | 173 => 24 | 246 => 23 | 283 => 27 | 284 => 28 | 285 => 29 | 286 => 30 | 129 => 34 | 317 => 33 | 318 => 35 | 319 => 36 | 320 => 37 | 337 => 38 | 338 => 39 | n => n, fun | 2 => 2 | 3 => 3 | 9 => 9 | 4 => 4 | 171 => 67 | 0 => 0 | 53 => 68 | 37 => 56 | 5 => 5 | 173 => 71 | 212 => 78 | 51 => 79 | 20 => 20 | 213 => 80 | 46 => 82 | 232 => 85 | 233 => 86 | n => n, fun | 17 => 0 | 18 => 2 | 19 => 3 | n => n⟩
theorem Tryd.formatL : Go.Proofs.LaysM.n173 Tryd.prog Tryd.formatL_ren := {
  mixed := by kernel_rfl
  f129 := Tryd.func34.trans (congrArg some (by kernel_rfl))
  f173 := Tryd.func24.trans (congrArg some (by kernel_rfl))
  f246 := Tryd.func23.trans (congrArg some (by kernel_rfl))
  f283 := Tryd.func27.trans (congrArg some (by kernel_rfl))
  f284 := Tryd.func28.trans (congrArg some (by kernel_rfl))
  f285 := Tryd.func29.trans (congrArg some (by kernel_rfl))
  f286 := Tryd.func30.trans (congrArg some (by kernel_rfl))
  f317 := Tryd.func33.trans (congrArg some (by kernel_rfl))
  f318 := Tryd.func35.trans (congrArg some (by kernel_rfl))
  f319 := Tryd.func36.trans (congrArg some (by kernel_rfl))
  f320 := Tryd.func37.trans (congrArg some (by kernel_rfl))
  f337 := Tryd.func38.trans (congrArg some (by kernel_rfl))
  f338 := Tryd.func39.trans (congrArg some (by kernel_rfl))
  t0 := Tryd.underlying0
  a0 := Tryd.isAgg0
  z0 := Tryd.sizeOf0
  v0 := Tryd.zeroValue0
  t2 := Tryd.underlying2
  a2 := Tryd.isAgg2
  z2 := Tryd.sizeOf2
  v2 := Tryd.zeroValue2
  t3 := Tryd.underlying3
  a3 := Tryd.isAgg3
  z3 := Tryd.sizeOf3
  v3 := Tryd.zeroValue3
  t4 := Tryd.underlying4
  a4 := Tryd.isAgg4
  z4 := Tryd.sizeOf4
  v4 := Tryd.zeroValue4
  t5 := Tryd.underlying5
  a5 := Tryd.isAgg5
  z5 := Tryd.sizeOf5
  v5 := Tryd.zeroValue5
  t9 := Tryd.underlying9
  a9 := Tryd.isAgg9
  z9 := Tryd.sizeOf9
  v9 := Tryd.zeroValue9
  t20 := Tryd.underlying20
  a20 := Tryd.isAgg20
  z20 := Tryd.sizeOf20
  v20 := Tryd.zeroValue20
  t37 := Tryd.underlying56
  a37 := Tryd.isAgg56
  z37 := Tryd.sizeOf56
  v37 := Tryd.zeroValue56
  t46 := Tryd.underlying82
  a46 := Tryd.isAgg82
  z46 := Tryd.sizeOf82
  v46 := Tryd.zeroValue82
  t51 := Tryd.underlying79
  a51 := Tryd.isAgg79
  z51 := Tryd.sizeOf79
  v51 := Tryd.zeroValue79
  t53 := Tryd.underlying68
  a53 := Tryd.isAgg68
  z53 := Tryd.sizeOf68
  v53 := Tryd.zeroValue68
  t171 := Tryd.underlying67
  a171 := Tryd.isAgg67
  z171 := Tryd.sizeOf67
  v171 := Tryd.zeroValue67
  t173 := Tryd.underlying71
  a173 := Tryd.isAgg71
  z173 := Tryd.sizeOf71
  v173 := Tryd.zeroValue71
  t212 := Tryd.underlying78
  a212 := Tryd.isAgg78
  z212 := Tryd.sizeOf78
  v212 := Tryd.zeroValue78
  t213 := Tryd.underlying80
  a213 := Tryd.isAgg80
  z213 := Tryd.sizeOf80
  t232 := Tryd.underlying85
  a232 := Tryd.isAgg85
  z232 := Tryd.sizeOf85
  v232 := Tryd.zeroValue85
  t233 := Tryd.underlying86
  a233 := Tryd.isAgg86
  z233 := Tryd.sizeOf86
  v233 := Tryd.zeroValue86
  g17 := by kernel_rfl
  g18 := by kernel_rfl
  g19 := by kernel_rfl
  i0 := by kernel_rfl
  i2 := by kernel_rfl
  i3 := by kernel_rfl
  i4 := by kernel_rfl
  i5 := by kernel_rfl
  i9 := by kernel_rfl
  i20 := by kernel_rfl
  i37 := by kernel_rfl
  i46 := by kernel_rfl
  i51 := by kernel_rfl
  i53 := by kernel_rfl
  i171 := by kernel_rfl
  i173 := by kernel_rfl
  i212 := by kernel_rfl
  i232 := by kernel_rfl
  i233 := by kernel_rfl
  m17 := by kernel_rfl
  m18 := by kernel_rfl
  m19 := by kernel_rfl }
def Tryd.joinL_ren : Go.Shelf.Ren := ⟨fun | 156 => 13 | 165 => 20 | 166 => 21 | 169 => 22 | 240 => 25 | 241 => 26 | 276 => 31 | 277 => 32 | n => n, fun | 31 => 41 | 9 => 9 | 3 => 3 | 4 => 4 | 0 => 0 | 20 => 20 | 72 => 58 | 76 => 62 | 70 => 55 | 37 => 56 | 75 => 61 | 127 => 66 | 164 => 73 | 5 => 5 | 80 => 64 | n => n, fun | n => n⟩
theorem Tryd.joinL : Go.Proofs.Lays.n156 Tryd.prog Tryd.joinL_ren := {
  mixed := by kernel_rfl
  f156 := Tryd.func13.trans (congrArg some (by kernel_rfl))
  f165 := Tryd.func20.trans (congrArg some (by kernel_rfl))
  f166 := Tryd.func21.trans (congrArg some (by kernel_rfl))
  f169 := Tryd.func22.trans (congrArg some (by kernel_rfl))
  f240 := Tryd.func25.trans (congrArg some (by kernel_rfl))
  f241 := Tryd.func26.trans (congrArg some (by kernel_rfl))
  f276 := Tryd.func31.trans (congrArg some (by kernel_rfl))
  f277 := Tryd.func32.trans (congrArg some (by kernel_rfl))
  t0 := Tryd.underlying0
  a0 := Tryd.isAgg0
  z0 := Tryd.sizeOf0
  v0 := Tryd.zeroValue0
  t3 := Tryd.underlying3
  a3 := Tryd.isAgg3
  z3 := Tryd.sizeOf3
  v3 := Tryd.zeroValue3
  t4 := Tryd.underlying4
  a4 := Tryd.isAgg4
  z4 := Tryd.sizeOf4
  v4 := Tryd.zeroValue4
  t9 := Tryd.underlying9
  a9 := Tryd.isAgg9
  z9 := Tryd.sizeOf9
  v9 := Tryd.zeroValue9
  t20 := Tryd.underlying20
  a20 := Tryd.isAgg20
  z20 := Tryd.sizeOf20
  v20 := Tryd.zeroValue20
  t31 := Tryd.underlying41
  a31 := Tryd.isAgg41
  z31 := Tryd.sizeOf41
  v31 := Tryd.zeroValue41
  t37 := Tryd.underlying56
  a37 := Tryd.isAgg56
  z37 := Tryd.sizeOf56
  v37 := Tryd.zeroValue56
  t70 := Tryd.underlying55
  a70 := Tryd.isAgg55
  z70 := Tryd.sizeOf55
  v70 := Tryd.zeroValue55
  t72 := Tryd.underlying58
  a72 := Tryd.isAgg58
  z72 := Tryd.sizeOf58
  v72 := Tryd.zeroValue58
  t75 := Tryd.underlying61
  a75 := Tryd.isAgg61
  z75 := Tryd.sizeOf61
  v75 := Tryd.zeroValue61
  t76 := Tryd.underlying62
  a76 := Tryd.isAgg62
  z76 := Tryd.sizeOf62
  v76 := Tryd.zeroValue62
  t127 := Tryd.underlying66
  a127 := Tryd.isAgg66
  z127 := Tryd.sizeOf66
  v127 := Tryd.zeroValue66
  t164 := Tryd.underlying73
  a164 := Tryd.isAgg73
  z164 := Tryd.sizeOf73
  v164 := Tryd.zeroValue73 }
end Go.Proofs

/- The library's words of numbers and joined texts, as contracts of the engine. -/
set_option linter.unusedVariables false
set_option linter.unusedSimpArgs false
namespace Go.Proofs.YtikhbgnokkdpeaaDoor
open Go Go.RowKit Go.Eng Go.Shelf Go.Sort
set_option maxRecDepth 100000
theorem below_gr (w : World) (k : Nat) (os : Array Obj) : Below w.heap.size w (grow (w.drewN k) os) :=
  ⟨rfl, rfl, rfl, by simp [grow], fun b hb => by simp only [grow]; rw [Array.getElem?_append_left (by simpa using hb)]; rfl⟩
theorem vrs1 {C : Cfg} {x : AV} {vs : Array Value} (h : VRs C [x] vs) : ∃ v, vs = #[v] ∧ VR C x v := by
  obtain ⟨h1, h2⟩ := h
  match vs, h1 with
  | ⟨[v]⟩, _ => exact ⟨v, rfl, h2 0 x rfl⟩
theorem vrs2 {C : Cfg} {x y : AV} {vs : Array Value} (h : VRs C [x, y] vs) : ∃ u v, vs = #[u, v] ∧ VR C x u ∧ VR C y v := by
  obtain ⟨h1, h2⟩ := h
  match vs, h1 with
  | ⟨[u, v]⟩, _ => exact ⟨u, v, rfl, h2 0 x rfl, h2 1 y rfl⟩
theorem ent {P : Program} {g : FuncId} (h : (match P.funcs[g]? with | some fn => !fn.body.isNone && !(fn.name == "runtime.NumGoroutine") | none => false) = true) : Eng.Enters P g := by
  split at h
  · rename_i fn hf
    simp only [Bool.and_eq_true, Bool.not_eq_true'] at h
    exact ⟨fn, hf, h.1, h.2⟩
  · cases h
theorem e_itoa (n : Int) (h0 : -9223372036854775808 ≤ n) (h1 : n ≤ 9223372036854775807) : PCalls Tryd.prog 8 [.int .i64 n] (· = .str (itb n)) := by
  refine PCalls.of_below (ent (by kernel_rfl)) fun C vs hC RC hv => ?_
  obtain ⟨v, rfl, hV⟩ := vrs1 hv
  obtain rfl := hV.int'
  refine (Any.strconv_Itoa Tryd.itoaL n h0 h1 C.w (tab_of_rel (g := 0) RC (by kernel_rfl) (by rw [show Lib.pow10Tab.map (AV.int .u64) = _ from rfl]; exact List.mem_cons_self ..))).mono ?_
  rintro e w' ⟨rfl, k, os, rfl⟩
  exact ⟨_, _, rfl, rfl, fun D => .str _, below_gr _ _ _⟩
theorem e_format (n : Int) (h0 : -9223372036854775808 ≤ n) (h1 : n ≤ 9223372036854775807) : PCalls Tryd.prog 24 [.int .i64 n, .int .i64 10] (· = .str (itb n)) := by
  refine PCalls.of_below (ent (by kernel_rfl)) fun C vs hC RC hv => ?_
  obtain ⟨v, u, rfl, hV, hU⟩ := vrs2 hv
  obtain rfl := hV.int'
  obtain rfl := hU.int'
  refine (Any.strconv_FormatInt_10 Tryd.formatL n h0 h1 C.w (tab_of_rel (g := 0) RC (by kernel_rfl) (by rw [show Lib.pow10Tab.map (AV.int .u64) = _ from rfl]; exact List.mem_cons_self ..))).mono ?_
  rintro e w' ⟨rfl, k, os, rfl⟩
  exact ⟨_, _, rfl, rfl, fun D => .str _, below_gr _ _ _⟩
theorem joinX : Builder.Extra Tryd.prog Tryd.joinL_ren where
  sizeBuilder := by kernel_rfl
  liesBuilder := by kernel_rfl
  t5 := Tryd.underlying5
  a5 := Tryd.isAgg5
  z5 := Tryd.sizeOf5
  v5 := Tryd.zeroValue5
  infoByte := by kernel_rfl
  cellsByte := by kernel_rfl
  sizeByte := by kernel_rfl
  neB5 := by decide
def sRow (s : List UInt8) : List AV := [.str ⟨s.toArray⟩]
def jn (xs : List (List UInt8)) (c : UInt8) : ByteArray := ⟨(Lib.join xs [c]).toArray⟩
theorem e_join (xs : List (List UInt8)) (c : UInt8) (es : List (List AV)) (hes : es = xs.map sRow) (hN : xs.length ≤ 140737488355328) (hl : (Lib.join xs [c]).length ≤ 140737488355328) :
    PCalls Tryd.prog 13 [.list 1 es, .str ⟨#[c]⟩] (· = .str (jn xs c)) := by
  refine PCalls.of_below (ent (by kernel_rfl)) fun C vs hC RC hv => ?_
  obtain ⟨v, u, rfl, hV, hU⟩ := vrs2 hv
  obtain rfl := hU.str'
  rcases hV.lists with ⟨⟨a, cap, rfl⟩, he⟩ | ⟨a, cap, f, rfl, hcap, hsp, hz, hcell, hown, hvv⟩
  · have hx : xs = [] := by rw [hes] at he; exact List.map_eq_nil_iff.1 he
    subst hx
    refine (Any.strings_Join_none Tryd.joinL joinX a cap ⟨#[c]⟩ C.w).mono ?_
    rintro e w' ⟨rfl, rfl⟩
    exact ⟨_, _, rfl, rfl, fun D => .str _, Below.refl _ _⟩
  · have hel : es.length = xs.length := by rw [hes]; simp
    obtain ⟨bk, o, sp⟩ := a
    simp only at hsp
    subst hsp
    by_cases hx0 : xs = []
    · subst hx0
      have : es.length = 0 := hel
      rw [this]
      refine (Any.strings_Join_none Tryd.joinL joinX (some ⟨bk, o, none⟩) cap ⟨#[c]⟩ C.w).mono ?_
      rintro e w' ⟨rfl, rfl⟩
      exact ⟨_, _, rfl, rfl, fun D => .str _, Below.refl _ _⟩
    have hpos : 0 < es.length := by rw [hel]; exact List.length_pos_iff.2 hx0
    have hcells : ∀ (j : Nat) (x : ByteArray), (xs.map fun s => (⟨s.toArray⟩ : ByteArray))[j]? = some x → C.w.cell? ⟨bk, o + j, none⟩ = some (.string x) := fun j x hj => by
      rw [List.getElem?_map] at hj
      obtain ⟨s, hs, rfl⟩ := Option.map_eq_some_iff.1 hj
      have hjl : j < es.length := by rw [hel]; exact (List.getElem?_eq_some_iff.1 hs).1
      have h1 := hcell j 0 hjl (by decide)
      have h2 := hvv j (sRow s) (by rw [hes, List.getElem?_map, hs]; rfl) 0 _ rfl
      rw [h2.str'] at h1
      simpa using h1
    have hbk : bk < C.w.heap.size := World.block_lt_of_cell? _ _ (hcell 0 0 hpos (by decide))
    have hmm : (xs.map fun s => (⟨s.toArray⟩ : ByteArray)).map (·.data.toList) = xs := by
      rw [List.map_map]
      exact List.map_id'' (fun s => rfl) xs
    have hll : (xs.map fun s => (⟨s.toArray⟩ : ByteArray)).length = es.length := by rw [List.length_map, hel]
    have := Any.strings_Join Tryd.joinL joinX bk o cap (xs.map fun s => ⟨s.toArray⟩) ⟨#[c]⟩ C.w hcells hbk (by rw [List.length_map]; exact hN) (by rw [hll]; exact hcap) (by rw [hmm]; exact hl)
    rw [hmm, hll] at this
    refine this.mono ?_
    rintro e w' ⟨rfl, hb⟩
    exact ⟨_, _, rfl, rfl, fun D => .str _, hb⟩
end Go.Proofs.YtikhbgnokkdpeaaDoor

/- Numbers of 64 bits that do not go beyond. -/
set_option linter.unusedVariables false
namespace Go.Proofs.YtikhbgnokkdpeaaDoor
open Go Go.RowKit Go.Eng
theorem add64n {a b : Int} (h1 : -9223372036854775808 ≤ a + b) (h2 : a + b < 9223372036854775808) : std.1 .add .i64 a b = a + b := by
  show IntKind.i64.wrap (a + b) = _
  rw [IntKind.wrap_i64]; omega
theorem i_add {a b : Int} (h1 : -9223372036854775808 ≤ a + b) (h2 : a + b < 9223372036854775808) : binStd .add .i64 a b = a + b := add64n h1 h2
theorem i_sub {a b : Int} (h1 : -9223372036854775808 ≤ a - b) (h2 : a - b < 9223372036854775808) : binStd .sub .i64 a b = a - b := by
  show IntKind.i64.wrap (a - b) = _
  rw [IntKind.wrap_i64]; omega
theorem i_mul {a b : Int} (h1 : -9223372036854775808 ≤ a * b) (h2 : a * b < 9223372036854775808) : binStd .mul .i64 a b = a * b := by
  show IntKind.i64.wrap (a * b) = _
  rw [IntKind.wrap_i64]; omega
theorem i_neg {a : Int} (h1 : -9223372036854775808 < a) (h2 : a < 9223372036854775808) : unStd .neg .i64 a = -a := by
  show IntKind.i64.wrap (0 - a) = _
  rw [IntKind.wrap_i64]; omega
theorem i_quo {a b : Int} (h0 : 0 ≤ a) (h1 : 0 < b) (h2 : a < 9223372036854775808) : binStd .quo .i64 a b = a / b := by
  show IntKind.i64.wrap (a.tdiv b) = _
  rw [Int.tdiv_eq_ediv_of_nonneg h0]
  have h3 : a / b ≤ a := Int.ediv_le_self _ h0
  have h4 : 0 ≤ a / b := Int.ediv_nonneg h0 (by omega)
  rw [IntKind.wrap_i64]; omega
end Go.Proofs.YtikhbgnokkdpeaaDoor

/- Lists that are built row by row. -/
set_option linter.unusedVariables false
namespace Go.Proofs.YtikhbgnokkdpeaaDoor
open Go Go.RowKit Go.Eng
/-- Where a list is being built, row by row. -/
inductive Bd where
  | start
  | more (i : Int) (n : Nat) (fs : List (List AV))
def Bd.Ok (es : List (List AV)) : Bd → Prop
  | .start => True
  | .more i n fs => 0 < i ∧ i.toNat ≤ es.length ∧ fs = es.take i.toNat ∧ n = fs.length ∧ Up0 fs
def Bd.left (es : List (List AV)) : Bd → Nat
  | .start => es.length
  | .more i _ _ => es.length - i.toNat
theorem up_take {es : List (List AV)} (h : Up0 es) (n : Nat) : Up0 (es.take n) := by
  obtain ⟨h⟩ := h
  refine ⟨?_⟩
  induction es generalizing n with
  | nil => simpa using h
  | cons e t ih =>
    cases n with
    | zero => rfl
    | succ n =>
      simp only [uptoLL, Bool.and_eq_true] at h
      simp only [List.take_succ_cons, uptoLL, Bool.and_eq_true]
      exact ⟨h.1, ih n h.2⟩
theorem take_row {es : List (List AV)} {i : Int} {row : List AV} (h0 : 0 ≤ i) (hr : es[i.toNat]? = some row) : es.take (i + 1).toNat = es.take i.toNat ++ [row] := by
  rw [show (i + 1).toNat = i.toNat + 1 by omega, List.take_add_one, hr]; rfl
theorem up_map {D : Type} {f : D → List AV} (hf : ∀ d, uptoL 0 (f d) = true) (ds : List D) : Up0 (ds.map f) := by
  refine ⟨?_⟩
  induction ds with
  | nil => rfl
  | cons d t ih => exact Bool.and_eq_true_iff.mpr ⟨hf d, ih⟩
theorem get_map {D : Type} {f : D → List AV} {ds : List D} {i : Int} (h0 : 0 ≤ i) (h : i.toNat < ds.length) : ∃ d, ds[i.toNat]? = some d ∧ (ds.map f)[i.toNat]? = some (f d) := by
  have h1 := h
  exact ⟨ds[i.toNat], by rw [List.getElem?_eq_getElem h1], by simp [h1]⟩
end Go.Proofs.YtikhbgnokkdpeaaDoor

/- Digits, as the document has them, by the engine. -/
set_option linter.unusedVariables false
set_option linter.unusedSimpArgs false
namespace Go.Proofs.YtikhbgnokkdpeaaDoor
open Go Go.RowKit Go.Eng
set_option maxRecDepth 100000
theorem e_dig0 (n : Int) (h0 : 0 ≤ n) (h1 : n < 10) (b : ByteArray) (eb : b = itb n) : PCalls Tryd.prog 14 [.int .i64 n] (· = .str b) := by
  (refine PCalls.ofY Tryd.func14 (by kernel_rfl) (by kernel_rfl) fun w hw R hR => ?_); (obtain ⟨wbin, wcmp, wun, wconv, wnot, wbeq, wmm, wscmp, wsadd, wslen, wsat, weqs, wlen, wnlen, wofNat, wtake, wdrop, wapp, wzero, wnat⟩ := w); (have hbin : wbin = binStd := congrArg Prims.bin hw); (have hcmp : wcmp = cmpStd := congrArg Prims.cmp hw); (have hun : wun = unStd := congrArg Prims.un hw); (have hconv : wconv = fun k n => k.wrap n := congrArg Prims.conv hw); (have hnot : wnot = fun b => !b := congrArg Prims.not hw); (have hbeq : wbeq = fun a b => a == b := congrArg Prims.beq hw); (have hmm : wmm = maxI := congrArg Prims.mm hw); (have hscmp : wscmp = scmpStd := congrArg Prims.scmp hw); (have hsadd : wsadd = fun x y => x ++ y := congrArg Prims.sadd hw); (have hslen : wslen = fun s => (s.size : Int) := congrArg Prims.slen hw); (have hsat : wsat = std.sat := congrArg Prims.sat hw); (have heqs : weqs = fun a b os => (eqOffs a b os).getD false := congrArg Prims.eqs hw); (have hlen : wlen = fun es => (es.length : Int) := congrArg Prims.len hw); (have hnlen : wnlen = fun es => es.length := congrArg Prims.nlen hw); (have hofNat : wofNat = (fun n : Nat => (n : Int)) := congrArg Prims.ofNat hw); (have htake : wtake = fun es b => es.take b.toNat := congrArg Prims.take hw); (have hdrop : wdrop = fun es a => es.drop a.toNat := congrArg Prims.drop hw); (have happ : wapp = fun a b => a ++ b := congrArg Prims.app hw); (have hzero : wzero = fun n z => List.replicate n.toNat z := congrArg Prims.zero hw); (have hnat : wnat = fun n => n.toNat := congrArg Prims.nat hw); (conv => arg 2; cbv); (generalize hP : Tryd.prog = P); cbv
  have a1 : wcmp .leq n (-10) = false := by rw [hcmp]; simp [cmpStd]; omega
  have a2 : wcmp .lss n 0 = false := by rw [hcmp]; simp [cmpStd]; omega
  have a3 : wcmp .lss n 10 = true := by rw [hcmp]; simp [cmpStd]; omega
  repeat' (first
    | (simp only [a1]; cbv)
    | (simp only [a2]; cbv)
    | (simp only [a3]; cbv))
  refine ToS.mk b rfl ?_ ?_
  · have c1 : wconv .u8 (wbin .add .i64 48 n) = 48 + n := by
      rw [hbin, i_add (by omega) (by omega), hconv]; show IntKind.u8.wrap (48 + n) = _; rw [IntKind.wrap_u8]; omega
    have e : itb n = ⟨#[UInt8.ofNat (48 + n.toNat)]⟩ := by
      apply tx_ext
      rw [tx_itb, itoa_small h0 h1]; rfl
    rw [c1, eb, e]
    show _ = [[AV.int .u8 ((UInt8.ofNat (48 + n.toNat)).toNat : Int)]]
    rw [UInt8.toNat_ofNat']
    congr 3
    omega
  cbv
  exact ⟨_, Vw.same rfl, hR _ rfl⟩
theorem i_rem {a b : Int} (h0 : 0 ≤ a) (h1 : 0 < b) (h2 : a < 9223372036854775808) : binStd .rem .i64 a b = a % b := by
  show a.tmod b = _
  exact Int.tmod_eq_emod_of_nonneg h0
theorem e_dig1 (n q d : Int) (h0 : 10 ≤ n) (h1 : n < 9223372036854775808) (eq : q = n / 10) (ed : d = n % 10) (b bq bd : ByteArray) (eb : b = itb n) (ebq : bq = itb q) (ebd : bd = itb d) (ih : PCalls Tryd.prog 14 [.int .i64 q] (· = .str bq)) : PCalls Tryd.prog 14 [.int .i64 n] (· = .str b) := by
  have ih2 := e_dig0 d (by omega) (by omega) bd ebd
  (refine PCalls.ofY Tryd.func14 (by kernel_rfl) (by kernel_rfl) fun w hw R hR => ?_); (obtain ⟨wbin, wcmp, wun, wconv, wnot, wbeq, wmm, wscmp, wsadd, wslen, wsat, weqs, wlen, wnlen, wofNat, wtake, wdrop, wapp, wzero, wnat⟩ := w); (have hbin : wbin = binStd := congrArg Prims.bin hw); (have hcmp : wcmp = cmpStd := congrArg Prims.cmp hw); (have hun : wun = unStd := congrArg Prims.un hw); (have hconv : wconv = fun k n => k.wrap n := congrArg Prims.conv hw); (have hnot : wnot = fun b => !b := congrArg Prims.not hw); (have hbeq : wbeq = fun a b => a == b := congrArg Prims.beq hw); (have hmm : wmm = maxI := congrArg Prims.mm hw); (have hscmp : wscmp = scmpStd := congrArg Prims.scmp hw); (have hsadd : wsadd = fun x y => x ++ y := congrArg Prims.sadd hw); (have hslen : wslen = fun s => (s.size : Int) := congrArg Prims.slen hw); (have hsat : wsat = std.sat := congrArg Prims.sat hw); (have heqs : weqs = fun a b os => (eqOffs a b os).getD false := congrArg Prims.eqs hw); (have hlen : wlen = fun es => (es.length : Int) := congrArg Prims.len hw); (have hnlen : wnlen = fun es => es.length := congrArg Prims.nlen hw); (have hofNat : wofNat = (fun n : Nat => (n : Int)) := congrArg Prims.ofNat hw); (have htake : wtake = fun es b => es.take b.toNat := congrArg Prims.take hw); (have hdrop : wdrop = fun es a => es.drop a.toNat := congrArg Prims.drop hw); (have happ : wapp = fun a b => a ++ b := congrArg Prims.app hw); (have hzero : wzero = fun n z => List.replicate n.toNat z := congrArg Prims.zero hw); (have hnat : wnat = fun n => n.toNat := congrArg Prims.nat hw); (conv => arg 2; cbv); (generalize hP : Tryd.prog = P); cbv
  have a1 : wcmp .leq n (-10) = false := by rw [hcmp]; simp [cmpStd]; omega
  have a2 : wcmp .lss n 0 = false := by rw [hcmp]; simp [cmpStd]; omega
  have a3 : wcmp .lss n 10 = false := by rw [hcmp]; simp [cmpStd]; omega
  have b1 : wbin .quo .i64 n 10 = q := by rw [hbin, i_quo (by omega) (by decide) h1, eq]
  have b2 : wbin .rem .i64 n 10 = d := by rw [hbin, i_rem (by omega) (by decide) h1, ed]
  have s1 : wsadd bq bd = b := by rw [hsadd, ebq, ebd, eq, ed, eb]; exact itb_big h0
  repeat' (first
    | (simp only [a1]; cbv)
    | (simp only [a2]; cbv)
    | (simp only [a3]; cbv)
    | (refine Nz.mk (by decide) ?_)
    | (simp only [b1]; cbv)
    | (simp only [b2]; cbv)
    | (refine Call.stepE (by rw [← hP]; exact ih) rfl ?_; cbv)
    | (refine Call.stepE (by rw [← hP]; exact ih2) rfl ?_; cbv)
    | (simp only [s1])
    | (refine Le.mk (by rw [hslen]; exact (sz_num (n := n) (by omega) (by omega) eb).le) ?_))
  exact ⟨_, Vw.same rfl, hR _ rfl⟩
/-- All that aren't below 0. -/
theorem e_digN : ∀ (k n : Nat), n ≤ k → n < 9223372036854775808 → PCalls Tryd.prog 14 [.int .i64 n] (· = .str (itb n))
  | 0, n, h, _ => e_dig0 n (by omega) (by omega) _ rfl
  | k + 1, n, h, hm => by
    by_cases hn : n < 10
    · exact e_dig0 n (by omega) (by omega) _ rfl
    · have ih := e_digN k (n / 10) (by omega) (by omega)
      have e1 : ((n / 10 : Nat) : Int) = (n : Int) / 10 := by omega
      rw [e1] at ih
      exact e_dig1 n _ _ (by omega) (by omega) rfl rfl _ _ _ rfl rfl rfl ih
theorem e_digP (n : Int) (h0 : 0 ≤ n) (h1 : n < 9223372036854775808) : PCalls Tryd.prog 14 [.int .i64 n] (· = .str (itb n)) := by
  obtain ⟨u, rfl⟩ : ∃ u : Nat, n = u := ⟨n.toNat, by omega⟩
  exact e_digN u u (Nat.le_refl _) (by omega)
theorem i_quon {a b : Int} (h0 : a ≤ 0) (h1 : 0 < b) (h2 : -9223372036854775808 ≤ a) : binStd .quo .i64 a b = -(-a / b) := by
  show IntKind.i64.wrap (a.tdiv b) = _
  obtain ⟨u, rfl⟩ : ∃ u : Int, a = -u := ⟨-a, by omega⟩
  rw [Int.neg_tdiv, Int.tdiv_eq_ediv_of_nonneg (by omega), Int.neg_neg]
  have h3 : u / b ≤ u := Int.ediv_le_self _ (by omega)
  have h4 : 0 ≤ u / b := Int.ediv_nonneg (by omega) (by omega)
  rw [IntKind.wrap_i64]; omega
theorem i_remn {a b : Int} (h0 : a ≤ 0) (h1 : 0 < b) (h2 : -9223372036854775808 ≤ a) : binStd .rem .i64 a b = -(-a % b) := by
  show a.tmod b = _
  obtain ⟨u, rfl⟩ : ∃ u : Int, a = -u := ⟨-a, by omega⟩
  rw [Int.neg_tmod, Int.tmod_eq_emod_of_nonneg (by omega), Int.neg_neg]
theorem e_digM (n m : Int) (h0 : -10 < n) (h1 : n < 0) (em : m = -n) (b bm : ByteArray) (eb : b = itb n) (ebm : bm = itb m) : PCalls Tryd.prog 14 [.int .i64 n] (· = .str b) := by
  have ih := e_digP m (by omega) (by omega)
  rw [← ebm] at ih
  (refine PCalls.ofY Tryd.func14 (by kernel_rfl) (by kernel_rfl) fun w hw R hR => ?_); (obtain ⟨wbin, wcmp, wun, wconv, wnot, wbeq, wmm, wscmp, wsadd, wslen, wsat, weqs, wlen, wnlen, wofNat, wtake, wdrop, wapp, wzero, wnat⟩ := w); (have hbin : wbin = binStd := congrArg Prims.bin hw); (have hcmp : wcmp = cmpStd := congrArg Prims.cmp hw); (have hun : wun = unStd := congrArg Prims.un hw); (have hconv : wconv = fun k n => k.wrap n := congrArg Prims.conv hw); (have hnot : wnot = fun b => !b := congrArg Prims.not hw); (have hbeq : wbeq = fun a b => a == b := congrArg Prims.beq hw); (have hmm : wmm = maxI := congrArg Prims.mm hw); (have hscmp : wscmp = scmpStd := congrArg Prims.scmp hw); (have hsadd : wsadd = fun x y => x ++ y := congrArg Prims.sadd hw); (have hslen : wslen = fun s => (s.size : Int) := congrArg Prims.slen hw); (have hsat : wsat = std.sat := congrArg Prims.sat hw); (have heqs : weqs = fun a b os => (eqOffs a b os).getD false := congrArg Prims.eqs hw); (have hlen : wlen = fun es => (es.length : Int) := congrArg Prims.len hw); (have hnlen : wnlen = fun es => es.length := congrArg Prims.nlen hw); (have hofNat : wofNat = (fun n : Nat => (n : Int)) := congrArg Prims.ofNat hw); (have htake : wtake = fun es b => es.take b.toNat := congrArg Prims.take hw); (have hdrop : wdrop = fun es a => es.drop a.toNat := congrArg Prims.drop hw); (have happ : wapp = fun a b => a ++ b := congrArg Prims.app hw); (have hzero : wzero = fun n z => List.replicate n.toNat z := congrArg Prims.zero hw); (have hnat : wnat = fun n => n.toNat := congrArg Prims.nat hw); (conv => arg 2; cbv); (generalize hP : Tryd.prog = P); cbv
  have a1 : wcmp .leq n (-10) = false := by rw [hcmp]; simp [cmpStd]; omega
  have a2 : wcmp .lss n 0 = true := by rw [hcmp]; simp [cmpStd]; omega
  have b1 : wun .neg .i64 n = m := by rw [hun, i_neg (by omega) (by omega), em]
  have s1 : wsadd ⟨#[45]⟩ bm = b := by rw [hsadd, ebm, eb, em]; exact itb_neg h1
  repeat' (first
    | (simp only [a1]; cbv)
    | (simp only [a2]; cbv)
    | (simp only [b1]; cbv)
    | (refine Call.stepE (by rw [← hP]; exact ih) rfl ?_; cbv)
    | (simp only [s1])
    | (refine Le.mk (by rw [hslen]; exact (sz_num (n := n) (by omega) (by omega) eb).le) ?_))
  exact ⟨_, Vw.same rfl, hR _ rfl⟩
theorem e_digL (n q d : Int) (h0 : n ≤ -10) (h1 : -9223372036854775808 ≤ n) (eq : q = -n / 10) (ed : d = -n % 10) (b bq bd : ByteArray) (eb : b = itb n) (ebq : bq = itb q) (ebd : bd = itb d) : PCalls Tryd.prog 14 [.int .i64 n] (· = .str b) := by
  have ih := e_digP q (by omega) (by omega)
  rw [← ebq] at ih
  have ih2 := e_digP d (by omega) (by omega)
  rw [← ebd] at ih2
  obtain ⟨q2, eq2⟩ : ∃ z, z = -q := ⟨_, rfl⟩
  obtain ⟨d2, ed2⟩ : ∃ z, z = -d := ⟨_, rfl⟩
  (refine PCalls.ofY Tryd.func14 (by kernel_rfl) (by kernel_rfl) fun w hw R hR => ?_); (obtain ⟨wbin, wcmp, wun, wconv, wnot, wbeq, wmm, wscmp, wsadd, wslen, wsat, weqs, wlen, wnlen, wofNat, wtake, wdrop, wapp, wzero, wnat⟩ := w); (have hbin : wbin = binStd := congrArg Prims.bin hw); (have hcmp : wcmp = cmpStd := congrArg Prims.cmp hw); (have hun : wun = unStd := congrArg Prims.un hw); (have hconv : wconv = fun k n => k.wrap n := congrArg Prims.conv hw); (have hnot : wnot = fun b => !b := congrArg Prims.not hw); (have hbeq : wbeq = fun a b => a == b := congrArg Prims.beq hw); (have hmm : wmm = maxI := congrArg Prims.mm hw); (have hscmp : wscmp = scmpStd := congrArg Prims.scmp hw); (have hsadd : wsadd = fun x y => x ++ y := congrArg Prims.sadd hw); (have hslen : wslen = fun s => (s.size : Int) := congrArg Prims.slen hw); (have hsat : wsat = std.sat := congrArg Prims.sat hw); (have heqs : weqs = fun a b os => (eqOffs a b os).getD false := congrArg Prims.eqs hw); (have hlen : wlen = fun es => (es.length : Int) := congrArg Prims.len hw); (have hnlen : wnlen = fun es => es.length := congrArg Prims.nlen hw); (have hofNat : wofNat = (fun n : Nat => (n : Int)) := congrArg Prims.ofNat hw); (have htake : wtake = fun es b => es.take b.toNat := congrArg Prims.take hw); (have hdrop : wdrop = fun es a => es.drop a.toNat := congrArg Prims.drop hw); (have happ : wapp = fun a b => a ++ b := congrArg Prims.app hw); (have hzero : wzero = fun n z => List.replicate n.toNat z := congrArg Prims.zero hw); (have hnat : wnat = fun n => n.toNat := congrArg Prims.nat hw); (conv => arg 2; cbv); (generalize hP : Tryd.prog = P); cbv
  have a1 : wcmp .leq n (-10) = true := by rw [hcmp]; simp [cmpStd]; omega
  have b1 : wbin .quo .i64 n 10 = q2 := by rw [hbin, i_quon (by omega) (by decide) h1, eq2, eq]
  have b2 : wbin .rem .i64 n 10 = d2 := by rw [hbin, i_remn (by omega) (by decide) h1, ed2, ed]
  have b3 : wun .neg .i64 q2 = q := by rw [hun, i_neg (by omega) (by omega)]; omega
  have b4 : wun .neg .i64 d2 = d := by rw [hun, i_neg (by omega) (by omega)]; omega
  obtain ⟨bp, ebp⟩ : ∃ z, z = (⟨#[45]⟩ : ByteArray) ++ bq := ⟨_, rfl⟩
  have hS : Sz bp := by
    have h1 := sz_itb (n := q) (by omega) (by omega)
    rw [← ebq] at h1
    have h2 : bp.size = (⟨#[45]⟩ : ByteArray).size + bq.size := by rw [ebp, ByteArray.size_append]
    have h3 : (⟨#[45]⟩ : ByteArray).size = 1 := rfl
    unfold Sz
    omega
  have s2 : wsadd ⟨#[45]⟩ bq = bp := by rw [hsadd, ebp]
  have s1 : wsadd bp bd = b := by rw [hsadd, ebp, ebq, ebd, eq, ed, eb]; exact itb_negbig h0
  repeat' (first
    | (simp only [a1]; cbv)
    | (refine Nz.mk (by decide) ?_)
    | (simp only [b1]; cbv)
    | (simp only [b2]; cbv)
    | (simp only [b3]; cbv)
    | (simp only [b4]; cbv)
    | (refine Call.stepE (by rw [← hP]; exact ih) rfl ?_; cbv)
    | (refine Call.stepE (by rw [← hP]; exact ih2) rfl ?_; cbv)
    | (simp only [s1, s2])
    | (refine Le.mk (by rw [hslen]; first | exact hS.le | exact (sz_num (n := n) h1 (by omega) eb).le) ?_))
  exact ⟨_, Vw.same rfl, hR _ rfl⟩
theorem e_dig (n : Int) (h0 : -9223372036854775808 ≤ n) (h1 : n ≤ 9223372036854775807) (b : ByteArray) (eb : b = itb n) : PCalls Tryd.prog 14 [.int .i64 n] (· = .str b) := by
  by_cases h : 0 ≤ n
  · rw [eb]; exact e_digP n h (by omega)
  · by_cases h2 : -10 < n
    · exact e_digM n _ h2 (by omega) rfl _ _ eb rfl
    · exact e_digL n _ _ (by omega) h0 rfl rfl _ _ _ eb rfl rfl
end Go.Proofs.YtikhbgnokkdpeaaDoor

/- A track: segments, pieces, groups. -/
set_option linter.unusedVariables false
namespace Go.Proofs.YtikhbgnokkdpeaaDoor
open Go Go.RowKit Go.Eng
/-- A segment. -/
structure Sg where
  len : Int
  ps : List (Int × Int)
  nx : List Int
/-- A group. -/
structure Gr where
  id : Int
  seg : Int
  off : Int
  acc : Int
  sl : Int
def pcRow (p : Int × Int) : List AV := [.int .i64 p.1, .int .i64 p.2]
def nxRow (n : Int) : List AV := [.int .i64 n]
def sgRow (s : Sg) : List AV := [.int .i64 s.len, .list 2 (s.ps.map pcRow), .list 1 (s.nx.map nxRow)]
def grRow (g : Gr) : List AV := [.int .i64 g.id, .int .i64 g.seg, .int .i64 g.off, .int .i64 g.acc, .int .i64 g.sl]
theorem up_segRow {len : Int} {q n : List (List AV)} (hq : Up0 q) (hn : Up0 n) : uptoL 0 [.int .i64 len, .list 2 q, .list 1 n] = true :=
  Bool.and_eq_true_iff.mpr ⟨rfl, Up0.one hq (Up0.one hn rfl)⟩
theorem up_seg {len : Int} {q n : List (List AV)} (hq : Up0 q) (hn : Up0 n) : Up0 [[.int .i64 len, .list 2 q, .list 1 n]] :=
  ⟨Bool.and_eq_true_iff.mpr ⟨up_segRow hq hn, rfl⟩⟩
theorem up_pc (ps : List (Int × Int)) : Up0 (ps.map pcRow) := up_map (f := pcRow) (fun d => rfl) ps
theorem up_nx (ns : List Int) : Up0 (ns.map nxRow) := up_map (f := nxRow) (fun d => rfl) ns
theorem up_gr (gs : List Gr) : Up0 (gs.map grRow) := up_map (f := grRow) (fun d => rfl) gs
theorem up_sg (ss : List Sg) : Up0 (ss.map sgRow) := up_map (f := sgRow) (fun s => up_segRow (up_pc s.ps) (up_nx s.nx)) ss
end Go.Proofs.YtikhbgnokkdpeaaDoor

/- Lines, by the engine. -/
set_option linter.unusedVariables false
set_option linter.unusedSimpArgs false
namespace Go.Proofs.YtikhbgnokkdpeaaDoor
open Go Go.RowKit Go.Eng
set_option maxRecDepth 100000
def lrRow (o : Lr) (qs : List (List AV)) : List AV := [.int .i64 o.c, .int .i64 o.m, .int .i64 o.g, .int .i64 o.lo, .int .i64 o.hi, .int .i64 o.est, .int .i64 o.slo, .int .i64 o.shi, .int .i64 o.nom, .int .i64 o.dist, .list 1 qs, .int .i64 o.fit, .bool o.b1, .bool o.b2, .int .i64 o.s0, .int .i64 o.s1, .bool o.b3, .bool o.b4, .bool o.b5, .bool o.b6, .bool o.b7, .int .i64 o.mlo, .int .i64 o.mhi, .int .i64 o.perm, .int .i64 o.c0, .int .i64 o.c1, .int .i64 o.c2, .int .i64 o.c3, .int .i64 o.k0, .int .i64 o.k1, .int .i64 o.k2, .int .i64 o.k3]
theorem e_num (n : Int) (h : In64 n) (b : ByteArray) (eb : b = itb n) : PCalls Tryd.prog 19 [.int .i64 n] (· = .str b) := by
  have ih := e_format n h.1 h.2
  rw [← eb] at ih
  (refine PCalls.ofY Tryd.func19 (by kernel_rfl) (by kernel_rfl) fun w hw R hR => ?_); (obtain ⟨wbin, wcmp, wun, wconv, wnot, wbeq, wmm, wscmp, wsadd, wslen, wsat, weqs, wlen, wnlen, wofNat, wtake, wdrop, wapp, wzero, wnat⟩ := w); (have hbin : wbin = binStd := congrArg Prims.bin hw); (have hcmp : wcmp = cmpStd := congrArg Prims.cmp hw); (have hun : wun = unStd := congrArg Prims.un hw); (have hconv : wconv = fun k n => k.wrap n := congrArg Prims.conv hw); (have hnot : wnot = fun b => !b := congrArg Prims.not hw); (have hbeq : wbeq = fun a b => a == b := congrArg Prims.beq hw); (have hmm : wmm = maxI := congrArg Prims.mm hw); (have hscmp : wscmp = scmpStd := congrArg Prims.scmp hw); (have hsadd : wsadd = fun x y => x ++ y := congrArg Prims.sadd hw); (have hslen : wslen = fun s => (s.size : Int) := congrArg Prims.slen hw); (have hsat : wsat = std.sat := congrArg Prims.sat hw); (have heqs : weqs = fun a b os => (eqOffs a b os).getD false := congrArg Prims.eqs hw); (have hlen : wlen = fun es => (es.length : Int) := congrArg Prims.len hw); (have hnlen : wnlen = fun es => es.length := congrArg Prims.nlen hw); (have hofNat : wofNat = (fun n : Nat => (n : Int)) := congrArg Prims.ofNat hw); (have htake : wtake = fun es b => es.take b.toNat := congrArg Prims.take hw); (have hdrop : wdrop = fun es a => es.drop a.toNat := congrArg Prims.drop hw); (have happ : wapp = fun a b => a ++ b := congrArg Prims.app hw); (have hzero : wzero = fun n z => List.replicate n.toNat z := congrArg Prims.zero hw); (have hnat : wnat = fun n => n.toNat := congrArg Prims.nat hw); (conv => arg 2; cbv); (generalize hP : Tryd.prog = P); cbv
  refine Call.stepE (by rw [← hP]; exact ih) rfl ?_
  cbv
  exact ⟨_, Vw.same rfl, hR _ rfl⟩
theorem e_ends (x y : Int) (hx : In64 x) (hy : In64 y) (b : ByteArray) (eb : b = bk (endsL x y)) : PCalls Tryd.prog 11 [.agg [.int .i64 x, .int .i64 y]] (· = .str b) := by
  obtain ⟨bx, ebx⟩ : ∃ z, z = itb x := ⟨_, rfl⟩
  obtain ⟨by_, eby⟩ : ∃ z, z = itb y := ⟨_, rfl⟩
  obtain ⟨bp, ebp⟩ : ∃ z, z = bx ++ (⟨#[46, 46]⟩ : ByteArray) := ⟨_, rfl⟩
  have h1 := e_num x hx bx ebx
  have h2 := e_num y hy by_ eby
  have l1 := len_itoa hx
  have l2 := len_itoa hy
  have ep : bp = bk (Lib.itoa x ++ [46, 46]) := by rw [ebp, ebx]; exact bk_app _ _
  have z1 : Sz bp := sz_bk (by rw [List.length_append]; simp only [List.length_cons, List.length_nil]; omega) ep
  have z2 : Sz b := sz_bk (by unfold endsL; rw [List.length_append, List.length_append]; simp only [List.length_cons, List.length_nil]; omega) eb
  have f : bp ++ by_ = b := by rw [ep, eby, eb]; exact bk_app _ _
  clear l1 l2
  (refine PCalls.ofY Tryd.func11 (by kernel_rfl) (by kernel_rfl) fun w hw R hR => ?_); (obtain ⟨wbin, wcmp, wun, wconv, wnot, wbeq, wmm, wscmp, wsadd, wslen, wsat, weqs, wlen, wnlen, wofNat, wtake, wdrop, wapp, wzero, wnat⟩ := w); (have hbin : wbin = binStd := congrArg Prims.bin hw); (have hcmp : wcmp = cmpStd := congrArg Prims.cmp hw); (have hun : wun = unStd := congrArg Prims.un hw); (have hconv : wconv = fun k n => k.wrap n := congrArg Prims.conv hw); (have hnot : wnot = fun b => !b := congrArg Prims.not hw); (have hbeq : wbeq = fun a b => a == b := congrArg Prims.beq hw); (have hmm : wmm = maxI := congrArg Prims.mm hw); (have hscmp : wscmp = scmpStd := congrArg Prims.scmp hw); (have hsadd : wsadd = fun x y => x ++ y := congrArg Prims.sadd hw); (have hslen : wslen = fun s => (s.size : Int) := congrArg Prims.slen hw); (have hsat : wsat = std.sat := congrArg Prims.sat hw); (have heqs : weqs = fun a b os => (eqOffs a b os).getD false := congrArg Prims.eqs hw); (have hlen : wlen = fun es => (es.length : Int) := congrArg Prims.len hw); (have hnlen : wnlen = fun es => es.length := congrArg Prims.nlen hw); (have hofNat : wofNat = (fun n : Nat => (n : Int)) := congrArg Prims.ofNat hw); (have htake : wtake = fun es b => es.take b.toNat := congrArg Prims.take hw); (have hdrop : wdrop = fun es a => es.drop a.toNat := congrArg Prims.drop hw); (have happ : wapp = fun a b => a ++ b := congrArg Prims.app hw); (have hzero : wzero = fun n z => List.replicate n.toNat z := congrArg Prims.zero hw); (have hnat : wnat = fun n => n.toNat := congrArg Prims.nat hw); (conv => arg 2; cbv); (generalize hP : Tryd.prog = P); cbv
  have s1 : wsadd bx ⟨#[46, 46]⟩ = bp := by rw [hsadd, ebp]
  have s2 : wsadd bp by_ = b := by rw [hsadd]; exact f
  repeat' (first
    | (refine QCal.stepE (by rw [← hP]; exact h1) rfl ?_; cbv)
    | (refine QCal.stepE (by rw [← hP]; exact h2) rfl ?_; cbv)
    | (simp only [s1]; cbv)
    | (simp only [s2]; cbv)
    | (refine Le.mk (by rw [hslen]; first | exact z1.le | exact z2.le) ?_))
  exact ⟨_, Vw.same rfl, hR _ rfl⟩
theorem e_name (m : Int) (b : ByteArray) (eb : b = bk (modeL m)) : PCalls Tryd.prog 9 [.int .i64 m] (· = .str b) := by
  by_cases h : 1 ≤ m ∧ m ≤ 4
  · have hm : m = 1 ∨ m = 2 ∨ m = 3 ∨ m = 4 := by omega
    rcases hm with rfl | rfl | rfl | rfl
    all_goals
      subst eb
      (refine PCalls.ofY Tryd.func9 (by kernel_rfl) (by kernel_rfl) fun w hw R hR => ?_); (subst hw); (conv => arg 2; cbv); (generalize hP : Tryd.prog = P); cbv
      refine InN.mk (by decide) (by decide) ?_
      exact ⟨_, Vw.same rfl, hR _ rfl⟩
  · have e : b = ⟨#[]⟩ := by rw [eb]; unfold modeL; rw [if_neg (by omega), if_neg (by omega), if_neg (by omega), if_neg (by omega)]; rfl
    subst e
    clear eb
    (refine PCalls.ofY Tryd.func9 (by kernel_rfl) (by kernel_rfl) fun w hw R hR => ?_); (obtain ⟨wbin, wcmp, wun, wconv, wnot, wbeq, wmm, wscmp, wsadd, wslen, wsat, weqs, wlen, wnlen, wofNat, wtake, wdrop, wapp, wzero, wnat⟩ := w); (have hbin : wbin = binStd := congrArg Prims.bin hw); (have hcmp : wcmp = cmpStd := congrArg Prims.cmp hw); (have hun : wun = unStd := congrArg Prims.un hw); (have hconv : wconv = fun k n => k.wrap n := congrArg Prims.conv hw); (have hnot : wnot = fun b => !b := congrArg Prims.not hw); (have hbeq : wbeq = fun a b => a == b := congrArg Prims.beq hw); (have hmm : wmm = maxI := congrArg Prims.mm hw); (have hscmp : wscmp = scmpStd := congrArg Prims.scmp hw); (have hsadd : wsadd = fun x y => x ++ y := congrArg Prims.sadd hw); (have hslen : wslen = fun s => (s.size : Int) := congrArg Prims.slen hw); (have hsat : wsat = std.sat := congrArg Prims.sat hw); (have heqs : weqs = fun a b os => (eqOffs a b os).getD false := congrArg Prims.eqs hw); (have hlen : wlen = fun es => (es.length : Int) := congrArg Prims.len hw); (have hnlen : wnlen = fun es => es.length := congrArg Prims.nlen hw); (have hofNat : wofNat = (fun n : Nat => (n : Int)) := congrArg Prims.ofNat hw); (have htake : wtake = fun es b => es.take b.toNat := congrArg Prims.take hw); (have hdrop : wdrop = fun es a => es.drop a.toNat := congrArg Prims.drop hw); (have happ : wapp = fun a b => a ++ b := congrArg Prims.app hw); (have hzero : wzero = fun n z => List.replicate n.toNat z := congrArg Prims.zero hw); (have hnat : wnat = fun n => n.toNat := congrArg Prims.nat hw); (conv => arg 2; cbv); (generalize hP : Tryd.prog = P); cbv
    repeat' (split <;> rename_i h0 <;> (try (simp only [hbin, hcmp, hun, hconv, hnot, hbeq, hmm, hscmp, hsadd, hslen, hsat, heqs, hofNat, binStd, cmpStd, unStd, scmpStd, maxI, Bool.not_eq_true', Bool.not_eq_false', decide_eq_true_eq, decide_eq_false_iff_not, Int.not_lt, Int.not_le, if_true, if_false, Bool.false_eq_true, beq_iff_eq, bne_iff_ne, ne_eq, Bool.not_eq_eq_eq_not, Bool.not_true, Bool.not_false, beq_eq_false_iff_ne, bne_eq_false_iff_eq, Int.ofNat_eq_natCast, Bool.not_not, not_true_eq_false, not_false_eq_true, reduceCtorEq] at h0)) <;> (try cbv))
    all_goals first | (exact ⟨_, Vw.same rfl, hR _ rfl⟩) | (exfalso; omega)
def wRow (n : Int) : List AV := sRow (Lib.itoa n)
theorem up_s (xs : List (List UInt8)) : Up0 (xs.map sRow) := up_map (f := sRow) (fun d => rfl) xs
theorem e_path (l : List Int) (hl : ∀ n, n ∈ l → In64 n) (hn : l.length ≤ 1000000) (es : List (List AV)) (hes : es = l.map nxRow) (b : ByteArray) (eb : b = bk (pathL l)) : PCalls Tryd.prog 18 [.list 1 es] (· = .str b) := by
  have hu : Up0 es := by rw [hes]; exact up_nx l
  have hel : es.length = l.length := by rw [hes]; simp
  obtain ⟨ws, ews⟩ : ∃ z, z = l.map wRow := ⟨_, rfl⟩
  have huw : Up0 ws := by rw [ews]; exact up_map (f := wRow) (fun d => rfl) l
  have hj := e_join (l.map Lib.itoa) 45 ws (by rw [ews, List.map_map]; rfl) (by rw [List.length_map]; omega) (by have := len_path hl; unfold pathL at this; omega)
  rw [show jn (l.map Lib.itoa) 45 = b by rw [eb]; rfl] at hj
  have hwl : ws.length = l.length := by rw [ews]; simp
  have hget : ∀ i : Nat, i < l.length → ∃ (n : Int) (bn : ByteArray), l[i]? = some n ∧ es[i]? = some [.int .i64 n] ∧ In64 n ∧ bn = itb n ∧ ws.take (i + 1) = ws.take i ++ [[.str bn]] := fun i hi => by
    obtain ⟨n, hni⟩ : ∃ n, l[i]? = some n := ⟨_, List.getElem?_eq_getElem hi⟩
    refine ⟨n, _, hni, by rw [hes, List.getElem?_map, hni]; rfl, hl n (List.mem_of_getElem? hni), rfl, ?_⟩
    rw [List.take_add_one, ews, List.getElem?_map, hni]; rfl
  (refine PCalls.ofY Tryd.func18 (by kernel_rfl) (by kernel_rfl) fun w hw R hR => ?_); (obtain ⟨wbin, wcmp, wun, wconv, wnot, wbeq, wmm, wscmp, wsadd, wslen, wsat, weqs, wlen, wnlen, wofNat, wtake, wdrop, wapp, wzero, wnat⟩ := w); (have hbin : wbin = binStd := congrArg Prims.bin hw); (have hcmp : wcmp = cmpStd := congrArg Prims.cmp hw); (have hun : wun = unStd := congrArg Prims.un hw); (have hconv : wconv = fun k n => k.wrap n := congrArg Prims.conv hw); (have hnot : wnot = fun b => !b := congrArg Prims.not hw); (have hbeq : wbeq = fun a b => a == b := congrArg Prims.beq hw); (have hmm : wmm = maxI := congrArg Prims.mm hw); (have hscmp : wscmp = scmpStd := congrArg Prims.scmp hw); (have hsadd : wsadd = fun x y => x ++ y := congrArg Prims.sadd hw); (have hslen : wslen = fun s => (s.size : Int) := congrArg Prims.slen hw); (have hsat : wsat = std.sat := congrArg Prims.sat hw); (have heqs : weqs = fun a b os => (eqOffs a b os).getD false := congrArg Prims.eqs hw); (have hlen : wlen = fun es => (es.length : Int) := congrArg Prims.len hw); (have hnlen : wnlen = fun es => es.length := congrArg Prims.nlen hw); (have hofNat : wofNat = (fun n : Nat => (n : Int)) := congrArg Prims.ofNat hw); (have htake : wtake = fun es b => es.take b.toNat := congrArg Prims.take hw); (have hdrop : wdrop = fun es a => es.drop a.toNat := congrArg Prims.drop hw); (have happ : wapp = fun a b => a ++ b := congrArg Prims.app hw); (have hzero : wzero = fun n z => List.replicate n.toNat z := congrArg Prims.zero hw); (have hnat : wnat = fun n => n.toNat := congrArg Prims.nat hw); (conv => arg 2; cbv); (generalize hP : Tryd.prog = P); cbv
  (obtain ⟨L, eL, L0, Ln⟩ : ∃ L : Int, wlen es = L ∧ 0 ≤ L ∧ L.toNat = es.length := ⟨(es.length : Int), by rw [hlen], Int.natCast_nonneg _, Int.toNat_natCast _⟩)
  simp only [eL]
  refine Loop.data hw (S := Option (Int × Nat × List (List AV))) (fun s => match s with
      | none => fr 20 [(0, .list 1 es), (3, .nils), (6, .list 1 es), (7, .int .i64 L), (8, .int .i64 0)]
      | some (i, k, w) => fr 20 [(0, .list 1 es), (3, .sl 0 1 0 k), (6, .list 1 es), (7, .int .i64 L), (8, .int .i64 i)])
    (fun s => match s with
      | none => []
      | some (i, k, w) => [.live 1 w])
    (fun s => match s with
      | none => True
      | some (i, k, w) => 0 < i ∧ i ≤ L ∧ w = ws.take i.toNat ∧ Up0 w ∧ k = w.length) (fun s => match s with | none => L.toNat + 1 | some (i, _) => (L - i).toNat) none (by (refine Wk.eqz (id) (by first | exact fun i _ j _ e => e | (simp only [List.length_cons, List.length_nil]; decide)) ?_; cbv; (repeat' (first | exact trivial | rfl | assumption | apply And.intro | (simp only [hbin, hcmp, hun, hconv, hnot, hbeq, hmm, hscmp, hsadd, hslen, hsat, heqs, hofNat, binStd, cmpStd, unStd, scmpStd, maxI, Bool.not_eq_true', Bool.not_eq_false', decide_eq_true_eq, decide_eq_false_iff_not, Int.not_lt, Int.not_le, if_true, if_false, Bool.false_eq_true, beq_iff_eq, bne_iff_ne, ne_eq, Bool.not_eq_eq_eq_not, Bool.not_true, Bool.not_false, beq_eq_false_iff_ne, bne_eq_false_iff_eq, Int.ofNat_eq_natCast, Bool.not_not, not_true_eq_false, not_false_eq_true, reduceCtorEq]; first | done | assumption) | exact RowsZ.same (by assumption) (by first | assumption | rfl) | exact FzL.mk rfl rfl rfl (by assumption) (by first | assumption | rfl) (by decide) | (refine RowsZ.one ?_; cbv))))) trivial ?_
  rintro (_ | ⟨i, k, w⟩) hinv Q' hN hE hR'
  · cbv
    (split <;> rename_i hc <;> (try (simp only [hbin, hcmp, hun, hconv, hnot, hbeq, hmm, hscmp, hsadd, hslen, hsat, heqs, hofNat, binStd, cmpStd, unStd, scmpStd, maxI, Bool.not_eq_true', Bool.not_eq_false', decide_eq_true_eq, decide_eq_false_iff_not, Int.not_lt, Int.not_le, if_true, if_false, Bool.false_eq_true, beq_iff_eq, bne_iff_ne, ne_eq, Bool.not_eq_eq_eq_not, Bool.not_true, Bool.not_false, beq_eq_false_iff_ne, bne_eq_false_iff_eq, Int.ofNat_eq_natCast, Bool.not_not, not_true_eq_false, not_false_eq_true, reduceCtorEq] at hc)) <;> (try cbv))
    · obtain ⟨n, bn, g1, g2, g3, g4, g5⟩ := hget 0 (by omega)
      have a4 : wbin .add .i64 0 1 = 1 := by rw [hbin]; rfl
      have hi := e_itoa n g3.1 g3.2
      rw [← g4] at hi
      refine Idx.mk _ (by decide) g2 ?_
      cbv
      refine Call.stepE (by rw [← hP]; exact hi) rfl ?_
      cbv
      refine Ob.mk (by decide) ?_
      cbv
      simp only [a4]
      refine hN (some (1, 1, [[.str bn]])) _ _ ?hx ?hi ?ht
      case hx => (refine Wk.eqz (fun j => [0].getD j 0) (by first | exact fun i _ j _ e => e | (simp only [List.length_cons, List.length_nil]; decide)) ?_; cbv; (repeat' (first | exact trivial | rfl | assumption | apply And.intro | (simp only [hbin, hcmp, hun, hconv, hnot, hbeq, hmm, hscmp, hsadd, hslen, hsat, heqs, hofNat, binStd, cmpStd, unStd, scmpStd, maxI, Bool.not_eq_true', Bool.not_eq_false', decide_eq_true_eq, decide_eq_false_iff_not, Int.not_lt, Int.not_le, if_true, if_false, Bool.false_eq_true, beq_iff_eq, bne_iff_ne, ne_eq, Bool.not_eq_eq_eq_not, Bool.not_true, Bool.not_false, beq_eq_false_iff_ne, bne_eq_false_iff_eq, Int.ofNat_eq_natCast, Bool.not_not, not_true_eq_false, not_false_eq_true, reduceCtorEq]; first | done | assumption) | exact RowsZ.same (by assumption) (by first | assumption | rfl) | exact FzL.mk rfl rfl rfl (by assumption) (by first | assumption | rfl) (by decide) | (refine RowsZ.one ?_; cbv))))
      case hi => exact ⟨by decide, by omega, by rw [show (1 : Int).toNat = 0 + 1 from rfl, g5]; rfl, ⟨rfl⟩, rfl⟩
      case ht => show (L - 1).toNat < L.toNat + 1; omega
    · refine hE _ _ _ ?_
      cbv
      have e0 : ws = [] := List.length_eq_zero_iff.1 (by omega)
      subst e0
      refine Call.view (args' := [.list 1 [], .str ⟨#[45]⟩]) (by rw [← hP]; exact hj) ⟨Vw.nil 1, Vw.same rfl, trivial⟩ ?_
      rintro r rfl
      refine ⟨rfl, ?_⟩
      cbv
      exact ⟨_, Vw.same rfl, hR _ rfl⟩
  · have hinv : 0 < i ∧ i ≤ L ∧ w = ws.take i.toNat ∧ Up0 w ∧ k = w.length := hinv
    cbv
    obtain ⟨h0, h1, hw1, hw2, hk⟩ := hinv
    have hkl : w.length ≤ l.length := by rw [hw1, List.length_take]; omega
    (split <;> rename_i hc <;> (try (simp only [hbin, hcmp, hun, hconv, hnot, hbeq, hmm, hscmp, hsadd, hslen, hsat, heqs, hofNat, binStd, cmpStd, unStd, scmpStd, maxI, Bool.not_eq_true', Bool.not_eq_false', decide_eq_true_eq, decide_eq_false_iff_not, Int.not_lt, Int.not_le, if_true, if_false, Bool.false_eq_true, beq_iff_eq, bne_iff_ne, ne_eq, Bool.not_eq_eq_eq_not, Bool.not_true, Bool.not_false, beq_eq_false_iff_ne, bne_eq_false_iff_eq, Int.ofNat_eq_natCast, Bool.not_not, not_true_eq_false, not_false_eq_true, reduceCtorEq] at hc)) <;> (try cbv))
    · obtain ⟨n, bn, g1, g2, g3, g4, g5⟩ := hget i.toNat (by omega)
      obtain ⟨i2, ei2⟩ : ∃ z, z = i + 1 := ⟨_, rfl⟩
      have a4 : wbin .add .i64 i 1 = i2 := by rw [hbin, i_add (by omega) (by omega), ei2]
      have hi := e_itoa n g3.1 g3.2
      rw [← g4] at hi
      refine Idx.mk _ (by omega) g2 ?_
      cbv
      refine Call.stepE (by rw [← hP]; exact hi) rfl ?_
      cbv
      obtain ⟨w2, ew2⟩ : ∃ z, z = w ++ [[AV.str bn]] := ⟨_, rfl⟩
      obtain ⟨k2, ek2⟩ : ∃ z, z = k + 1 := ⟨_, rfl⟩
      have ht2 : w2 = ws.take i2.toNat := by rw [ew2, hw1, ei2, show (i + 1).toNat = i.toNat + 1 by omega, g5]
      have hu2 : Up0 w2 := by rw [ht2]; exact up_take huw _
      have hl2 : w2.length = k2 := by rw [ew2, ek2, hk]; simp
      refine App.mk w2 k2 ew2 hk ek2 (by omega) (by omega) ?_
      cbv
      simp only [a4]
      refine hN (some (i2, k2, w2)) _ _ ?hx ?hi ?ht
      case hx => (refine Wk.eqz (fun j => [1].getD j 0) (by first | exact fun i _ j _ e => e | (simp only [List.length_cons, List.length_nil]; decide)) ?_; cbv; (repeat' (first | exact trivial | rfl | assumption | apply And.intro | (simp only [hbin, hcmp, hun, hconv, hnot, hbeq, hmm, hscmp, hsadd, hslen, hsat, heqs, hofNat, binStd, cmpStd, unStd, scmpStd, maxI, Bool.not_eq_true', Bool.not_eq_false', decide_eq_true_eq, decide_eq_false_iff_not, Int.not_lt, Int.not_le, if_true, if_false, Bool.false_eq_true, beq_iff_eq, bne_iff_ne, ne_eq, Bool.not_eq_eq_eq_not, Bool.not_true, Bool.not_false, beq_eq_false_iff_ne, bne_eq_false_iff_eq, Int.ofNat_eq_natCast, Bool.not_not, not_true_eq_false, not_false_eq_true, reduceCtorEq]; first | done | assumption) | exact RowsZ.same (by assumption) (by first | assumption | rfl) | exact FzL.mk rfl rfl rfl (by assumption) (by first | assumption | rfl) (by decide) | (refine RowsZ.one ?_; cbv))))
      case hi => exact ⟨by omega, by omega, ht2, hu2, hl2.symm⟩
      case ht => show (L - i2).toNat < (L - i).toNat; omega
    · refine hE _ _ _ ?_
      cbv
      have e0 : w = ws := by rw [hw1, List.take_of_length_le (by omega)]
      subst e0
      refine Call.view (args' := [.list 1 ((w.drop 0).take k), .str ⟨#[45]⟩]) (by rw [← hP, List.drop_zero, List.take_of_length_le (by omega)]; exact hj) ⟨Vw.sl rfl hw2.get (by omega), Vw.same rfl, trivial⟩ ?_
      rintro r rfl
      refine ⟨rfl, ?_⟩
      cbv
      exact ⟨_, Vw.same rfl, hR _ rfl⟩
end Go.Proofs.YtikhbgnokkdpeaaDoor

/- Lines, by the engine: what is said, and a place. -/
set_option linter.unusedVariables false
set_option linter.unusedSimpArgs false
namespace Go.Proofs.YtikhbgnokkdpeaaDoor
open Go Go.RowKit Go.Eng
set_option maxRecDepth 100000
def fgRow (f : Bool × List UInt8) : List AV := [.bool f.1, .str ⟨f.2.toArray⟩]
theorem said_none {l : List (Bool × List UInt8)} {i : Nat} {x : List UInt8} (h : l[i]? = some (false, x)) : saidL (l.take (i + 1)) = saidL (l.take i) := by
  rw [List.take_add_one, h]; simp [saidL]
theorem said_some {l : List (Bool × List UInt8)} {i : Nat} {x : List UInt8} (h : l[i]? = some (true, x)) : saidL (l.take (i + 1)) = saidL (l.take i) ++ [x] := by
  rw [List.take_add_one, h]; simp [saidL]
def SaidO (l : List (Bool × List UInt8)) (i : Int) : Option (Nat × List (List AV)) → Prop
  | none => saidL (l.take i.toNat) = []
  | some (k, w) => w = (saidL (l.take i.toNat)).map sRow ∧ Up0 w ∧ k = w.length ∧ k ≤ i.toNat
theorem e_said (l : List (Bool × List UInt8)) (hl : l.length ≤ 1000) (es : List (List AV)) (hes : es = l.map fgRow) (ws : List (List AV)) (ews : ws = (saidL l).map sRow) : PCalls Tryd.prog 12 [.list 2 es] (· = .list 1 ws) := by
  have hu : Up0 es := by rw [hes]; exact up_map (f := fgRow) (fun d => rfl) l
  have hel : es.length = l.length := by rw [hes]; simp
  have hget : ∀ i : Nat, i < l.length → ∃ (c : Bool) (x : List UInt8) (b : ByteArray), l[i]? = some (c, x) ∧ es[i]? = some [.bool c, .str b] ∧ b = ⟨x.toArray⟩ := fun i hi => by
    obtain ⟨⟨c, x⟩, hni⟩ : ∃ n, l[i]? = some n := ⟨_, List.getElem?_eq_getElem hi⟩
    exact ⟨c, x, _, hni, by rw [hes, List.getElem?_map, hni]; rfl, rfl⟩
  (refine PCalls.ofY Tryd.func12 (by kernel_rfl) (by kernel_rfl) fun w hw R hR => ?_); (obtain ⟨wbin, wcmp, wun, wconv, wnot, wbeq, wmm, wscmp, wsadd, wslen, wsat, weqs, wlen, wnlen, wofNat, wtake, wdrop, wapp, wzero, wnat⟩ := w); (have hbin : wbin = binStd := congrArg Prims.bin hw); (have hcmp : wcmp = cmpStd := congrArg Prims.cmp hw); (have hun : wun = unStd := congrArg Prims.un hw); (have hconv : wconv = fun k n => k.wrap n := congrArg Prims.conv hw); (have hnot : wnot = fun b => !b := congrArg Prims.not hw); (have hbeq : wbeq = fun a b => a == b := congrArg Prims.beq hw); (have hmm : wmm = maxI := congrArg Prims.mm hw); (have hscmp : wscmp = scmpStd := congrArg Prims.scmp hw); (have hsadd : wsadd = fun x y => x ++ y := congrArg Prims.sadd hw); (have hslen : wslen = fun s => (s.size : Int) := congrArg Prims.slen hw); (have hsat : wsat = std.sat := congrArg Prims.sat hw); (have heqs : weqs = fun a b os => (eqOffs a b os).getD false := congrArg Prims.eqs hw); (have hlen : wlen = fun es => (es.length : Int) := congrArg Prims.len hw); (have hnlen : wnlen = fun es => es.length := congrArg Prims.nlen hw); (have hofNat : wofNat = (fun n : Nat => (n : Int)) := congrArg Prims.ofNat hw); (have htake : wtake = fun es b => es.take b.toNat := congrArg Prims.take hw); (have hdrop : wdrop = fun es a => es.drop a.toNat := congrArg Prims.drop hw); (have happ : wapp = fun a b => a ++ b := congrArg Prims.app hw); (have hzero : wzero = fun n z => List.replicate n.toNat z := congrArg Prims.zero hw); (have hnat : wnat = fun n => n.toNat := congrArg Prims.nat hw); (conv => arg 2; cbv); (generalize hP : Tryd.prog = P); cbv
  (obtain ⟨L, eL, L0, Ln⟩ : ∃ L : Int, wlen es = L ∧ 0 ≤ L ∧ L.toNat = es.length := ⟨(es.length : Int), by rw [hlen], Int.natCast_nonneg _, Int.toNat_natCast _⟩)
  simp only [eL]
  refine Loop.data hw (S := Int × Option (Nat × List (List AV))) (fun s => match s.2 with
      | none => fr 21 [(0, .list 2 es), (3, .nils), (6, .list 2 es), (7, .int .i64 L), (8, .int .i64 s.1)]
      | some (k, w) => fr 21 [(0, .list 2 es), (3, .sl 0 1 0 k), (6, .list 2 es), (7, .int .i64 L), (8, .int .i64 s.1)])
    (fun s => match s.2 with
      | none => []
      | some (k, w) => [.live 1 w])
    (fun s => 0 ≤ s.1 ∧ s.1 ≤ L ∧ SaidO l s.1 s.2) (fun s => (L - s.1).toNat) (0, none) (by (refine Wk.eqz (id) (by first | exact fun i _ j _ e => e | (simp only [List.length_cons, List.length_nil]; decide)) ?_; cbv; (repeat' (first | exact trivial | rfl | assumption | apply And.intro | (simp only [hbin, hcmp, hun, hconv, hnot, hbeq, hmm, hscmp, hsadd, hslen, hsat, heqs, hofNat, binStd, cmpStd, unStd, scmpStd, maxI, Bool.not_eq_true', Bool.not_eq_false', decide_eq_true_eq, decide_eq_false_iff_not, Int.not_lt, Int.not_le, if_true, if_false, Bool.false_eq_true, beq_iff_eq, bne_iff_ne, ne_eq, Bool.not_eq_eq_eq_not, Bool.not_true, Bool.not_false, beq_eq_false_iff_ne, bne_eq_false_iff_eq, Int.ofNat_eq_natCast, Bool.not_not, not_true_eq_false, not_false_eq_true, reduceCtorEq]; first | done | assumption) | exact RowsZ.same (by assumption) (by first | assumption | rfl) | exact FzL.mk rfl rfl rfl (by assumption) (by first | assumption | rfl) (by decide) | (refine RowsZ.one ?_; cbv))))) ⟨by decide, L0, rfl⟩ ?_
  rintro ⟨i, _ | ⟨k, w⟩⟩ hinv Q' hN hE hR'
  · have hinv : 0 ≤ i ∧ i ≤ L ∧ saidL (l.take i.toNat) = [] := hinv
    cbv
    obtain ⟨h0, h1, h2⟩ := hinv
    (split <;> rename_i hc <;> (try (simp only [hbin, hcmp, hun, hconv, hnot, hbeq, hmm, hscmp, hsadd, hslen, hsat, heqs, hofNat, binStd, cmpStd, unStd, scmpStd, maxI, Bool.not_eq_true', Bool.not_eq_false', decide_eq_true_eq, decide_eq_false_iff_not, Int.not_lt, Int.not_le, if_true, if_false, Bool.false_eq_true, beq_iff_eq, bne_iff_ne, ne_eq, Bool.not_eq_eq_eq_not, Bool.not_true, Bool.not_false, beq_eq_false_iff_ne, bne_eq_false_iff_eq, Int.ofNat_eq_natCast, Bool.not_not, not_true_eq_false, not_false_eq_true, reduceCtorEq] at hc)) <;> (try cbv))
    · obtain ⟨c, x, b, g1, g2, g3⟩ := hget i.toNat (by omega)
      obtain ⟨i2, ei2⟩ : ∃ z, z = i + 1 := ⟨_, rfl⟩
      have a4 : wbin .add .i64 i 1 = i2 := by rw [hbin, i_add (by omega) (by omega), ei2]
      have hT : (L - i2).toNat < (L - i).toNat := by omega
      have hI : i2.toNat = i.toNat + 1 := by omega
      refine Idx.mk _ h0 g2 ?_
      cases c
      · cbv
        simp only [a4]
        refine hN (i2, none) _ _ ?hx ?hi hT
        case hx => (refine Wk.eqz (id) (by first | exact fun i _ j _ e => e | (simp only [List.length_cons, List.length_nil]; decide)) ?_; cbv; (repeat' (first | exact trivial | rfl | assumption | apply And.intro | (simp only [hbin, hcmp, hun, hconv, hnot, hbeq, hmm, hscmp, hsadd, hslen, hsat, heqs, hofNat, binStd, cmpStd, unStd, scmpStd, maxI, Bool.not_eq_true', Bool.not_eq_false', decide_eq_true_eq, decide_eq_false_iff_not, Int.not_lt, Int.not_le, if_true, if_false, Bool.false_eq_true, beq_iff_eq, bne_iff_ne, ne_eq, Bool.not_eq_eq_eq_not, Bool.not_true, Bool.not_false, beq_eq_false_iff_ne, bne_eq_false_iff_eq, Int.ofNat_eq_natCast, Bool.not_not, not_true_eq_false, not_false_eq_true, reduceCtorEq]; first | done | assumption) | exact RowsZ.same (by assumption) (by first | assumption | rfl) | exact FzL.mk rfl rfl rfl (by assumption) (by first | assumption | rfl) (by decide) | (refine RowsZ.one ?_; cbv))))
        case hi => exact ⟨by simp only; omega, by simp only; omega, by show saidL (l.take i2.toNat) = []; rw [hI, said_none g1, h2]⟩
      · cbv
        refine Ob.mk (by decide) ?_
        cbv
        simp only [a4]
        refine hN (i2, some (1, [[.str b]])) _ _ ?hx ?hi hT
        case hx => (refine Wk.eqz (fun j => [1].getD j 0) (by first | exact fun i _ j _ e => e | (simp only [List.length_cons, List.length_nil]; decide)) ?_; cbv; (repeat' (first | exact trivial | rfl | assumption | apply And.intro | (simp only [hbin, hcmp, hun, hconv, hnot, hbeq, hmm, hscmp, hsadd, hslen, hsat, heqs, hofNat, binStd, cmpStd, unStd, scmpStd, maxI, Bool.not_eq_true', Bool.not_eq_false', decide_eq_true_eq, decide_eq_false_iff_not, Int.not_lt, Int.not_le, if_true, if_false, Bool.false_eq_true, beq_iff_eq, bne_iff_ne, ne_eq, Bool.not_eq_eq_eq_not, Bool.not_true, Bool.not_false, beq_eq_false_iff_ne, bne_eq_false_iff_eq, Int.ofNat_eq_natCast, Bool.not_not, not_true_eq_false, not_false_eq_true, reduceCtorEq]; first | done | assumption) | exact RowsZ.same (by assumption) (by first | assumption | rfl) | exact FzL.mk rfl rfl rfl (by assumption) (by first | assumption | rfl) (by decide) | (refine RowsZ.one ?_; cbv))))
        case hi => exact ⟨by simp only; omega, by simp only; omega, by rw [hI, said_some g1, h2, g3]; rfl, ⟨rfl⟩, rfl, by omega⟩
    · refine hE _ _ _ ?_
      cbv
      have : saidL l = [] := by rw [← h2, List.take_of_length_le (by omega)]
      exact ⟨_, Vw.nil 1, hR _ (by rw [ews, this]; rfl)⟩
  · have hinv : 0 ≤ i ∧ i ≤ L ∧ w = (saidL (l.take i.toNat)).map sRow ∧ Up0 w ∧ k = w.length ∧ k ≤ i.toNat := hinv
    cbv
    obtain ⟨h0, h1, h2, h3, h4, h5⟩ := hinv
    (split <;> rename_i hc <;> (try (simp only [hbin, hcmp, hun, hconv, hnot, hbeq, hmm, hscmp, hsadd, hslen, hsat, heqs, hofNat, binStd, cmpStd, unStd, scmpStd, maxI, Bool.not_eq_true', Bool.not_eq_false', decide_eq_true_eq, decide_eq_false_iff_not, Int.not_lt, Int.not_le, if_true, if_false, Bool.false_eq_true, beq_iff_eq, bne_iff_ne, ne_eq, Bool.not_eq_eq_eq_not, Bool.not_true, Bool.not_false, beq_eq_false_iff_ne, bne_eq_false_iff_eq, Int.ofNat_eq_natCast, Bool.not_not, not_true_eq_false, not_false_eq_true, reduceCtorEq] at hc)) <;> (try cbv))
    · obtain ⟨c, x, b, g1, g2, g3⟩ := hget i.toNat (by omega)
      obtain ⟨i2, ei2⟩ : ∃ z, z = i + 1 := ⟨_, rfl⟩
      have a4 : wbin .add .i64 i 1 = i2 := by rw [hbin, i_add (by omega) (by omega), ei2]
      have hT : (L - i2).toNat < (L - i).toNat := by omega
      have hI : i2.toNat = i.toNat + 1 := by omega
      obtain ⟨w2, ew2⟩ : ∃ z, z = w ++ [[AV.str b]] := ⟨_, rfl⟩
      obtain ⟨k2, ek2⟩ : ∃ z, z = k + 1 := ⟨_, rfl⟩
      refine Idx.mk _ h0 g2 ?_
      cases c
      · cbv
        simp only [a4]
        refine hN (i2, some (k, w)) _ _ ?hx ?hi hT
        case hx => (refine Wk.eqz (id) (by first | exact fun i _ j _ e => e | (simp only [List.length_cons, List.length_nil]; decide)) ?_; cbv; (repeat' (first | exact trivial | rfl | assumption | apply And.intro | (simp only [hbin, hcmp, hun, hconv, hnot, hbeq, hmm, hscmp, hsadd, hslen, hsat, heqs, hofNat, binStd, cmpStd, unStd, scmpStd, maxI, Bool.not_eq_true', Bool.not_eq_false', decide_eq_true_eq, decide_eq_false_iff_not, Int.not_lt, Int.not_le, if_true, if_false, Bool.false_eq_true, beq_iff_eq, bne_iff_ne, ne_eq, Bool.not_eq_eq_eq_not, Bool.not_true, Bool.not_false, beq_eq_false_iff_ne, bne_eq_false_iff_eq, Int.ofNat_eq_natCast, Bool.not_not, not_true_eq_false, not_false_eq_true, reduceCtorEq]; first | done | assumption) | exact RowsZ.same (by assumption) (by first | assumption | rfl) | exact FzL.mk rfl rfl rfl (by assumption) (by first | assumption | rfl) (by decide) | (refine RowsZ.one ?_; cbv))))
        case hi => exact ⟨by simp only; omega, by simp only; omega, by rw [hI, said_none g1, h2], h3, h4, by omega⟩
      · have e2 : w2 = (saidL (l.take i2.toNat)).map sRow := by rw [ew2, h2, hI, said_some g1, List.map_append, g3]; rfl
        have hu2 : Up0 w2 := by rw [e2]; exact up_s _
        have hl2 : k2 = w2.length := by rw [ew2, ek2, h4]; simp
        cbv
        refine App.mk w2 k2 ew2 h4 ek2 (by omega) (by omega) ?_
        cbv
        simp only [a4]
        refine hN (i2, some (k2, w2)) _ _ ?hx ?hi hT
        case hx => (refine Wk.eqz (fun j => [2].getD j 0) (by first | exact fun i _ j _ e => e | (simp only [List.length_cons, List.length_nil]; decide)) ?_; cbv; (repeat' (first | exact trivial | rfl | assumption | apply And.intro | (simp only [hbin, hcmp, hun, hconv, hnot, hbeq, hmm, hscmp, hsadd, hslen, hsat, heqs, hofNat, binStd, cmpStd, unStd, scmpStd, maxI, Bool.not_eq_true', Bool.not_eq_false', decide_eq_true_eq, decide_eq_false_iff_not, Int.not_lt, Int.not_le, if_true, if_false, Bool.false_eq_true, beq_iff_eq, bne_iff_ne, ne_eq, Bool.not_eq_eq_eq_not, Bool.not_true, Bool.not_false, beq_eq_false_iff_ne, bne_eq_false_iff_eq, Int.ofNat_eq_natCast, Bool.not_not, not_true_eq_false, not_false_eq_true, reduceCtorEq]; first | done | assumption) | exact RowsZ.same (by assumption) (by first | assumption | rfl) | exact FzL.mk rfl rfl rfl (by assumption) (by first | assumption | rfl) (by decide) | (refine RowsZ.one ?_; cbv))))
        case hi => exact ⟨by simp only; omega, by simp only; omega, e2, hu2, hl2, by omega⟩
    · refine hE _ _ _ ?_
      cbv
      refine ⟨_, Vw.sl rfl h3.get (by omega), hR _ ?_⟩
      rw [List.drop_zero, List.take_of_length_le (by omega), h2, ews, List.take_of_length_le (by omega)]
theorem e_placed0 (o : Lr) (h0 : o.g = 0) (qs : List (List AV)) : PCalls Tryd.prog 10 [.agg (lrRow o qs)] (· = .list 1 []) := by
  obtain ⟨c, m, g, lo, hi, est, slo, shi, nom, dist, rs, fit, b1, b2, s0, s1, b3, b4, b5, b6, b7, mlo, mhi, perm, c0, c1, c2, c3, k0, k1, k2, k3⟩ := o
  have hg : g = 0 := h0
  subst hg
  (refine PCalls.ofY Tryd.func10 (by kernel_rfl) (by kernel_rfl) fun w hw R hR => ?_); (obtain ⟨wbin, wcmp, wun, wconv, wnot, wbeq, wmm, wscmp, wsadd, wslen, wsat, weqs, wlen, wnlen, wofNat, wtake, wdrop, wapp, wzero, wnat⟩ := w); (have hbin : wbin = binStd := congrArg Prims.bin hw); (have hcmp : wcmp = cmpStd := congrArg Prims.cmp hw); (have hun : wun = unStd := congrArg Prims.un hw); (have hconv : wconv = fun k n => k.wrap n := congrArg Prims.conv hw); (have hnot : wnot = fun b => !b := congrArg Prims.not hw); (have hbeq : wbeq = fun a b => a == b := congrArg Prims.beq hw); (have hmm : wmm = maxI := congrArg Prims.mm hw); (have hscmp : wscmp = scmpStd := congrArg Prims.scmp hw); (have hsadd : wsadd = fun x y => x ++ y := congrArg Prims.sadd hw); (have hslen : wslen = fun s => (s.size : Int) := congrArg Prims.slen hw); (have hsat : wsat = std.sat := congrArg Prims.sat hw); (have heqs : weqs = fun a b os => (eqOffs a b os).getD false := congrArg Prims.eqs hw); (have hlen : wlen = fun es => (es.length : Int) := congrArg Prims.len hw); (have hnlen : wnlen = fun es => es.length := congrArg Prims.nlen hw); (have hofNat : wofNat = (fun n : Nat => (n : Int)) := congrArg Prims.ofNat hw); (have htake : wtake = fun es b => es.take b.toNat := congrArg Prims.take hw); (have hdrop : wdrop = fun es a => es.drop a.toNat := congrArg Prims.drop hw); (have happ : wapp = fun a b => a ++ b := congrArg Prims.app hw); (have hzero : wzero = fun n z => List.replicate n.toNat z := congrArg Prims.zero hw); (have hnat : wnat = fun n => n.toNat := congrArg Prims.nat hw); (conv => arg 2; cbv); (generalize hP : Tryd.prog = P); cbv
  have c1 : wcmp .eql 0 0 = true := by rw [hcmp]; rfl
  simp only [c1]
  cbv
  exact ⟨_, Vw.nil 1, hR _ rfl⟩
theorem e_placed1 (o : Lr) (h : LrOk o) (hn : o.rs.length ≤ 1000) (hr : ∀ r, r ∈ o.rs → r.length ≤ 1000) (qs : List (List AV)) (hqs : qs = o.rs.map (fun r => [AV.list 1 (r.map nxRow)])) (ws : List (List AV)) (ews : ws = (placedL o).map sRow) : PCalls Tryd.prog 10 [.agg (lrRow o qs)] (· = .list 1 ws) := by
  obtain ⟨c, m, g, lo, hi, est, slo, shi, nom, dist, rs, fit, b1, b2, s0, s1, b3, b4, b5, b6, b7, mlo, mhi, perm, c0, c1, c2, c3, k0, k1, k2, k3⟩ := o
  have ho : LrOk ⟨c, m, g, lo, hi, est, slo, shi, nom, dist, rs, fit, b1, b2, s0, s1, b3, b4, b5, b6, b7, mlo, mhi, perm, c0, c1, c2, c3, k0, k1, k2, k3⟩ := h
  have hg : In64 g := h.g
  have hrs : ∀ r, r ∈ rs → ∀ n, n ∈ r → In64 n := h.rs
  have hlo : In64 lo := h.lo
  have hhi : In64 hi := h.hi
  have hest : In64 est := h.est
  have hn : rs.length ≤ 1000 := hn
  have hr : ∀ r, r ∈ rs → r.length ≤ 1000 := hr
  have hqs : qs = rs.map (fun r => [AV.list 1 (r.map nxRow)]) := hqs
  have p0 : g = 0 → ws = [] := fun e => by rw [ews]; simp [placedL, e]
  have p1 : g ≠ 0 → ws = [[.str ⟨#[103, 114, 111, 117, 112]⟩], [.str (itb g)], [.str ⟨#[97, 116]⟩], [.str (bk (endsL lo hi))], [.str ⟨#[101, 115, 116]⟩], [.str (itb est)], [.str ⟨#[119, 97, 121, 115]⟩], [.str (bk (waysL rs))]] := fun e => by rw [ews]; simp only [placedL, if_neg e]; rfl
  obtain ⟨bg, ebg⟩ : ∃ z, z = itb g := ⟨_, rfl⟩
  obtain ⟨bp, ebp⟩ : ∃ z, z = bk (endsL lo hi) := ⟨_, rfl⟩
  obtain ⟨be, ebe⟩ : ∃ z, z = itb est := ⟨_, rfl⟩
  obtain ⟨bw, ebw⟩ : ∃ z, z = bk (waysL rs) := ⟨_, rfl⟩
  rw [← ebg, ← ebp, ← ebe, ← ebw] at p1
  have q1 := e_itoa g hg.1 hg.2
  rw [← ebg] at q1
  have q2 := e_ends lo hi hlo hhi bp ebp
  have q3 := e_num est hest be ebe
  obtain ⟨xs, exs⟩ : ∃ z, z = rs.map (fun r => sRow (pathL r)) := ⟨_, rfl⟩
  have hux : Up0 xs := by rw [exs]; exact up_map (f := fun r => sRow (pathL r)) (fun d => rfl) rs
  have hxl : xs.length = rs.length := by rw [exs]; simp
  have hql : qs.length = rs.length := by rw [hqs]; simp
  have huq : Up0 qs := by rw [hqs]; exact up_map (f := fun r => [AV.list 1 (r.map nxRow)]) (fun d => Up0.one (up_nx d) rfl) rs
  have hj := e_join (rs.map pathL) 44 xs (by rw [exs, List.map_map]; rfl) (by rw [List.length_map]; omega) (by
    have a1 := len_join (rs.map pathL) 44
    have a2 := lens_le (m := 22000) (rs.map pathL) fun x hx => by
      obtain ⟨r, hrr, rfl⟩ := List.mem_map.1 hx
      have := len_path (hrs r hrr)
      have := hr r hrr
      omega
    rw [List.length_map] at a1 a2
    omega)
  rw [show jn (rs.map pathL) 44 = bw by rw [ebw]; rfl] at hj
  have hget : ∀ i : Nat, i < rs.length → ∃ (r : List Int) (es : List (List AV)) (b : ByteArray), es = r.map nxRow ∧ Up0 es ∧ qs[i]? = some [.list 1 es] ∧ b = bk (pathL r) ∧ (∀ n, n ∈ r → In64 n) ∧ r.length ≤ 1000 ∧ xs.take (i + 1) = xs.take i ++ [[.str b]] := fun i hi => by
    obtain ⟨r, hri⟩ : ∃ n, rs[i]? = some n := ⟨_, List.getElem?_eq_getElem hi⟩
    have hm := List.mem_of_getElem? hri
    refine ⟨r, _, _, rfl, up_nx r, by rw [hqs, List.getElem?_map, hri]; rfl, rfl, hrs r hm, hr r hm, ?_⟩
    rw [List.take_add_one, exs, List.getElem?_map, hri]; rfl
  clear hqs exs ebw ebe ebp ebg ews h ho hrs hr
  (refine PCalls.ofL Tryd.func10 (by kernel_rfl) (by kernel_rfl) fun w hw R hR => ?_); (obtain ⟨wbin, wcmp, wun, wconv, wnot, wbeq, wmm, wscmp, wsadd, wslen, wsat, weqs, wlen, wnlen, wofNat, wtake, wdrop, wapp, wzero, wnat⟩ := w); (have hbin : wbin = binStd := congrArg Prims.bin hw); (have hcmp : wcmp = cmpStd := congrArg Prims.cmp hw); (have hun : wun = unStd := congrArg Prims.un hw); (have hconv : wconv = fun k n => k.wrap n := congrArg Prims.conv hw); (have hnot : wnot = fun b => !b := congrArg Prims.not hw); (have hbeq : wbeq = fun a b => a == b := congrArg Prims.beq hw); (have hmm : wmm = maxI := congrArg Prims.mm hw); (have hscmp : wscmp = scmpStd := congrArg Prims.scmp hw); (have hsadd : wsadd = fun x y => x ++ y := congrArg Prims.sadd hw); (have hslen : wslen = fun s => (s.size : Int) := congrArg Prims.slen hw); (have hsat : wsat = std.sat := congrArg Prims.sat hw); (have heqs : weqs = fun a b os => (eqOffs a b os).getD false := congrArg Prims.eqs hw); (have hlen : wlen = fun es => (es.length : Int) := congrArg Prims.len hw); (have hnlen : wnlen = fun es => es.length := congrArg Prims.nlen hw); (have hofNat : wofNat = (fun n : Nat => (n : Int)) := congrArg Prims.ofNat hw); (have htake : wtake = fun es b => es.take b.toNat := congrArg Prims.take hw); (have hdrop : wdrop = fun es a => es.drop a.toNat := congrArg Prims.drop hw); (have happ : wapp = fun a b => a ++ b := congrArg Prims.app hw); (have hzero : wzero = fun n z => List.replicate n.toNat z := congrArg Prims.zero hw); (have hnat : wnat = fun n => n.toNat := congrArg Prims.nat hw); (conv => arg 2; cbv); (generalize hP : Tryd.prog = P); cbv
  (split <;> rename_i h0 <;> (try (simp only [hbin, hcmp, hun, hconv, hnot, hbeq, hmm, hscmp, hsadd, hslen, hsat, heqs, hofNat, binStd, cmpStd, unStd, scmpStd, maxI, Bool.not_eq_true', Bool.not_eq_false', decide_eq_true_eq, decide_eq_false_iff_not, Int.not_lt, Int.not_le, if_true, if_false, Bool.false_eq_true, beq_iff_eq, bne_iff_ne, ne_eq, Bool.not_eq_eq_eq_not, Bool.not_true, Bool.not_false, beq_eq_false_iff_ne, bne_eq_false_iff_eq, Int.ofNat_eq_natCast, Bool.not_not, not_true_eq_false, not_false_eq_true, reduceCtorEq] at h0)) <;> (try cbv))
  · exact ⟨_, Vw.nil 1, hR _ (by rw [p0 (by omega)])⟩
  (obtain ⟨L, eL, L0, Ln⟩ : ∃ L : Int, wlen qs = L ∧ 0 ≤ L ∧ L.toNat = qs.length := ⟨(qs.length : Int), by rw [hlen], Int.natCast_nonneg _, Int.toNat_natCast _⟩)
  simp only [eL]
  refine Loop.data hw (S := Option (Int × Nat × List (List AV))) (fun s => match s with
      | none => fr 34 [(1, .ref 0 32 0 0), (3, .nils), (10, .list 1 qs), (11, .int .i64 L), (12, .int .i64 0)]
      | some (i, k, w) => fr 34 [(1, .ref 0 32 0 0), (3, .sl 1 1 0 k), (10, .list 1 qs), (11, .int .i64 L), (12, .int .i64 i)])
    (fun s => match s with
      | none => [.live 32 [[.int .i64 c, .int .i64 m, .int .i64 g, .int .i64 lo, .int .i64 hi, .int .i64 est, .int .i64 slo, .int .i64 shi, .int .i64 nom, .int .i64 dist, .list 1 qs, .int .i64 fit, .bool b1, .bool b2, .int .i64 s0, .int .i64 s1, .bool b3, .bool b4, .bool b5, .bool b6, .bool b7, .int .i64 mlo, .int .i64 mhi, .int .i64 perm, .int .i64 c0, .int .i64 c1, .int .i64 c2, .int .i64 c3, .int .i64 k0, .int .i64 k1, .int .i64 k2, .int .i64 k3]]]
      | some (i, k, w) => [.live 32 [[.int .i64 c, .int .i64 m, .int .i64 g, .int .i64 lo, .int .i64 hi, .int .i64 est, .int .i64 slo, .int .i64 shi, .int .i64 nom, .int .i64 dist, .list 1 qs, .int .i64 fit, .bool b1, .bool b2, .int .i64 s0, .int .i64 s1, .bool b3, .bool b4, .bool b5, .bool b6, .bool b7, .int .i64 mlo, .int .i64 mhi, .int .i64 perm, .int .i64 c0, .int .i64 c1, .int .i64 c2, .int .i64 c3, .int .i64 k0, .int .i64 k1, .int .i64 k2, .int .i64 k3]], .live 1 w])
    (fun s => match s with
      | none => True
      | some (i, k, w) => 0 < i ∧ i ≤ L ∧ w = xs.take i.toNat ∧ Up0 w ∧ k = w.length) (fun s => match s with | none => L.toNat + 1 | some (i, _) => (L - i).toNat) none (by (refine Wk.eqz (id) (by first | exact fun i _ j _ e => e | (simp only [List.length_cons, List.length_nil]; decide)) ?_; cbv; (repeat' (first | exact trivial | rfl | assumption | apply And.intro | (simp only [hbin, hcmp, hun, hconv, hnot, hbeq, hmm, hscmp, hsadd, hslen, hsat, heqs, hofNat, binStd, cmpStd, unStd, scmpStd, maxI, Bool.not_eq_true', Bool.not_eq_false', decide_eq_true_eq, decide_eq_false_iff_not, Int.not_lt, Int.not_le, if_true, if_false, Bool.false_eq_true, beq_iff_eq, bne_iff_ne, ne_eq, Bool.not_eq_eq_eq_not, Bool.not_true, Bool.not_false, beq_eq_false_iff_ne, bne_eq_false_iff_eq, Int.ofNat_eq_natCast, Bool.not_not, not_true_eq_false, not_false_eq_true, reduceCtorEq]; first | done | assumption) | exact RowsZ.same (by assumption) (by first | assumption | rfl) | exact FzL.mk rfl rfl rfl (by assumption) (by first | assumption | rfl) (by decide) | (refine RowsZ.one ?_; cbv))))) trivial ?_
  rintro (_ | ⟨i, k, w⟩) hinv Q' hN hE hR'
  · cbv
    (split <;> rename_i hc <;> (try (simp only [hbin, hcmp, hun, hconv, hnot, hbeq, hmm, hscmp, hsadd, hslen, hsat, heqs, hofNat, binStd, cmpStd, unStd, scmpStd, maxI, Bool.not_eq_true', Bool.not_eq_false', decide_eq_true_eq, decide_eq_false_iff_not, Int.not_lt, Int.not_le, if_true, if_false, Bool.false_eq_true, beq_iff_eq, bne_iff_ne, ne_eq, Bool.not_eq_eq_eq_not, Bool.not_true, Bool.not_false, beq_eq_false_iff_ne, bne_eq_false_iff_eq, Int.ofNat_eq_natCast, Bool.not_not, not_true_eq_false, not_false_eq_true, reduceCtorEq] at hc)) <;> (try cbv))
    · obtain ⟨r, es, b, g1, g2, g3, g4, g5, g6, g7⟩ := hget 0 (by omega)
      have a4 : wbin .add .i64 0 1 = 1 := by rw [hbin]; rfl
      have hi := e_path r g5 (by omega) es g1 b g4
      refine Idx.mk _ (by decide) g3 ?_
      cbv
      refine Call.stepE (by rw [← hP]; exact hi) (by exact Up0.one g2 rfl) ?_
      cbv
      refine Ob.mk (by decide) ?_
      cbv
      simp only [a4]
      refine hN (some (1, 1, [[.str b]])) _ _ ?hx ?hi ?ht
      case hx => (refine Wk.eqz (id) (by first | exact fun i _ j _ e => e | (simp only [List.length_cons, List.length_nil]; decide)) ?_; cbv; (repeat' (first | exact trivial | rfl | assumption | apply And.intro | (simp only [hbin, hcmp, hun, hconv, hnot, hbeq, hmm, hscmp, hsadd, hslen, hsat, heqs, hofNat, binStd, cmpStd, unStd, scmpStd, maxI, Bool.not_eq_true', Bool.not_eq_false', decide_eq_true_eq, decide_eq_false_iff_not, Int.not_lt, Int.not_le, if_true, if_false, Bool.false_eq_true, beq_iff_eq, bne_iff_ne, ne_eq, Bool.not_eq_eq_eq_not, Bool.not_true, Bool.not_false, beq_eq_false_iff_ne, bne_eq_false_iff_eq, Int.ofNat_eq_natCast, Bool.not_not, not_true_eq_false, not_false_eq_true, reduceCtorEq]; first | done | assumption) | exact RowsZ.same (by assumption) (by first | assumption | rfl) | exact FzL.mk rfl rfl rfl (by assumption) (by first | assumption | rfl) (by decide) | (refine RowsZ.one ?_; cbv))))
      case hi => exact ⟨by decide, by omega, by rw [show (1 : Int).toNat = 0 + 1 from rfl, g7]; rfl, ⟨rfl⟩, rfl⟩
      case ht => show (L - 1).toNat < L.toNat + 1; omega
    · refine hE _ _ _ ?_
      cbv
      have e0 : xs = [] := List.length_eq_zero_iff.1 (by omega)
      subst e0
      refine QCal.stepE (by rw [← hP]; exact q1) rfl ?_
      cbv
      refine QCal.stepE (by rw [← hP]; exact q2) rfl ?_
      cbv
      refine QCal.stepE (by rw [← hP]; exact q3) rfl ?_
      cbv
      refine QCal.view (args' := [.list 1 [], .str ⟨#[44]⟩]) (by rw [← hP]; exact hj) (fun h hh => ⟨Vw.nil 1, Vw.same rfl, trivial⟩) rfl ?_
      cbv
      exact ⟨_, Vw.same rfl, hR _ (by rw [p1 (by omega)]; rfl)⟩
  · have hinv : 0 < i ∧ i ≤ L ∧ w = xs.take i.toNat ∧ Up0 w ∧ k = w.length := hinv
    cbv
    obtain ⟨h1, h2, hw1, hw2, hk⟩ := hinv
    have hkl : w.length ≤ rs.length := by rw [hw1, List.length_take]; omega
    (split <;> rename_i hc <;> (try (simp only [hbin, hcmp, hun, hconv, hnot, hbeq, hmm, hscmp, hsadd, hslen, hsat, heqs, hofNat, binStd, cmpStd, unStd, scmpStd, maxI, Bool.not_eq_true', Bool.not_eq_false', decide_eq_true_eq, decide_eq_false_iff_not, Int.not_lt, Int.not_le, if_true, if_false, Bool.false_eq_true, beq_iff_eq, bne_iff_ne, ne_eq, Bool.not_eq_eq_eq_not, Bool.not_true, Bool.not_false, beq_eq_false_iff_ne, bne_eq_false_iff_eq, Int.ofNat_eq_natCast, Bool.not_not, not_true_eq_false, not_false_eq_true, reduceCtorEq] at hc)) <;> (try cbv))
    · obtain ⟨r, es, b, g1, g2, g3, g4, g5, g6, g7⟩ := hget i.toNat (by omega)
      obtain ⟨i2, ei2⟩ : ∃ z, z = i + 1 := ⟨_, rfl⟩
      have a4 : wbin .add .i64 i 1 = i2 := by rw [hbin, i_add (by omega) (by omega), ei2]
      have hi := e_path r g5 (by omega) es g1 b g4
      refine Idx.mk _ (by omega) g3 ?_
      cbv
      refine Call.stepE (by rw [← hP]; exact hi) (by exact Up0.one g2 rfl) ?_
      cbv
      obtain ⟨w2, ew2⟩ : ∃ z, z = w ++ [[AV.str b]] := ⟨_, rfl⟩
      obtain ⟨k2, ek2⟩ : ∃ z, z = k + 1 := ⟨_, rfl⟩
      have ht2 : w2 = xs.take i2.toNat := by rw [ew2, hw1, ei2, show (i + 1).toNat = i.toNat + 1 by omega, g7]
      have hu2 : Up0 w2 := by rw [ht2]; exact up_take hux _
      have hl2 : w2.length = k2 := by rw [ew2, ek2, hk]; simp
      refine App.mk w2 k2 ew2 hk ek2 (by omega) (by omega) ?_
      cbv
      simp only [a4]
      refine hN (some (i2, k2, w2)) _ _ ?hx ?hi ?ht
      case hx => (refine Wk.eqz (fun j => [0, 2].getD j 0) (by first | exact fun i _ j _ e => e | (simp only [List.length_cons, List.length_nil]; decide)) ?_; cbv; (repeat' (first | exact trivial | rfl | assumption | apply And.intro | (simp only [hbin, hcmp, hun, hconv, hnot, hbeq, hmm, hscmp, hsadd, hslen, hsat, heqs, hofNat, binStd, cmpStd, unStd, scmpStd, maxI, Bool.not_eq_true', Bool.not_eq_false', decide_eq_true_eq, decide_eq_false_iff_not, Int.not_lt, Int.not_le, if_true, if_false, Bool.false_eq_true, beq_iff_eq, bne_iff_ne, ne_eq, Bool.not_eq_eq_eq_not, Bool.not_true, Bool.not_false, beq_eq_false_iff_ne, bne_eq_false_iff_eq, Int.ofNat_eq_natCast, Bool.not_not, not_true_eq_false, not_false_eq_true, reduceCtorEq]; first | done | assumption) | exact RowsZ.same (by assumption) (by first | assumption | rfl) | exact FzL.mk rfl rfl rfl (by assumption) (by first | assumption | rfl) (by decide) | (refine RowsZ.one ?_; cbv))))
      case hi => exact ⟨by omega, by omega, ht2, hu2, hl2.symm⟩
      case ht => show (L - i2).toNat < (L - i).toNat; omega
    · refine hE _ _ _ ?_
      cbv
      have e0 : w = xs := by rw [hw1, List.take_of_length_le (by omega)]
      subst e0
      refine QCal.stepE (by rw [← hP]; exact q1) rfl ?_
      cbv
      refine QCal.stepE (by rw [← hP]; exact q2) rfl ?_
      cbv
      refine QCal.stepE (by rw [← hP]; exact q3) rfl ?_
      cbv
      refine QCal.view (args' := [.list 1 ((w.drop 0).take k), .str ⟨#[44]⟩]) (by rw [← hP, List.drop_zero, List.take_of_length_le (by omega)]; exact hj) (fun h hh => ⟨Vw.sl (hh 1 1 w rfl) hw2.get (by omega), Vw.same rfl, trivial⟩) rfl ?_
      cbv
      exact ⟨_, Vw.same rfl, hR _ (by rw [p1 (by omega)]; rfl)⟩
/-- Not too much is told of a place. -/
structure LrSmall (o : Lr) : Prop where
  n : o.g ≠ 0 → o.rs.length ≤ 1000
  r : o.g ≠ 0 → ∀ r, r ∈ o.rs → r.length ≤ 1000
theorem e_placed (o : Lr) (h : LrOk o) (hs : LrSmall o) (qs : List (List AV)) (hqs : qs = o.rs.map (fun r => [AV.list 1 (r.map nxRow)])) (ws : List (List AV)) (ews : ws = (placedL o).map sRow) : PCalls Tryd.prog 10 [.agg (lrRow o qs)] (· = .list 1 ws) := by
  by_cases hg : o.g = 0
  · have : ws = [] := by rw [ews]; simp [placedL, hg]
    rw [this]
    exact e_placed0 o hg qs
  · exact e_placed1 o h (hs.n hg) (hs.r hg) qs hqs ws ews
theorem rows_s (xs : List (List UInt8)) : Eng.rowsOk (xs.map sRow) = true := by
  induction xs with
  | nil => rfl
  | cons x l ih => simp only [List.map_cons, Eng.rowsOk, ih]; rfl
end Go.Proofs.YtikhbgnokkdpeaaDoor

/- Lines, by the engine: a report's. -/
set_option linter.unusedVariables false
set_option linter.unusedSimpArgs false
namespace Go.Proofs.YtikhbgnokkdpeaaDoor
open Go Go.RowKit Go.Eng
set_option maxRecDepth 100000
theorem uptoLL_app0 : ∀ (a b : List (List AV)), uptoLL 0 (a ++ b) = (uptoLL 0 a && uptoLL 0 b)
  | [], b => rfl
  | x :: a, b => by simp only [List.cons_append, uptoLL, uptoLL_app0 a b, Bool.and_assoc]
theorem up_app0 {a b : List (List AV)} (ha : Up0 a) (hb : Up0 b) : Up0 (a ++ b) := ⟨by rw [uptoLL_app0, ha.get, hb.get]; rfl⟩
theorem len_ends {a b : Int} (ha : In64 a) (hb : In64 b) : (endsL a b).length ≤ 44 := by
  have := len_itoa ha
  have := len_itoa hb
  unfold endsL
  simp only [List.length_append, List.length_cons, List.length_nil]; omega
theorem len_words {o : Lr} (h : LrOk o) (hs : LrSmall o) : (wordsL o).length ≤ 24 ∧ ∀ x, x ∈ wordsL o → x.length ≤ 22002000 := by
  have hw : o.g ≠ 0 → (waysL o.rs).length ≤ 22001000 := fun hg => by
    have a1 := len_join (o.rs.map pathL) 44
    have a2 := lens_le (m := 22000) (o.rs.map pathL) fun x hx => by
      obtain ⟨r, hrr, rfl⟩ := List.mem_map.1 hx
      have := len_path (h.rs r hrr)
      have := hs.r hg r hrr
      omega
    rw [List.length_map] at a1 a2
    have := hs.n hg
    unfold waysL
    omega
  have hi : ∀ n, In64 n → (Lib.itoa n).length ≤ 21 := fun n hn => len_itoa hn
  have i1 := hi _ h.c
  have i2 := hi _ h.g
  have i3 := hi _ h.est
  have i4 := hi _ h.fit
  have i5 := hi _ h.s0
  have i6 := hi _ h.s1
  have i7 := len_ends h.lo h.hi
  have i8 := len_ends h.slo h.shi
  have hm : (modeL o.m).length ≤ 9 := by unfold modeL; (repeat' split) <;> simp
  have hsl : (saidL (flagsL o)).length ≤ 7 ∧ ∀ x, x ∈ saidL (flagsL o) → x.length ≤ 10 := by
    refine ⟨?_, fun x hx => ?_⟩
    · unfold saidL; rw [List.length_map]; exact List.length_filter_le _ _
    · unfold saidL at hx
      obtain ⟨f, hf, rfl⟩ := List.mem_map.1 hx
      have := (List.mem_filter.1 hf).1
      unfold flagsL at this
      simp only [List.mem_cons, List.not_mem_nil, or_false] at this
      rcases this with rfl | rfl | rfl | rfl | rfl | rfl | rfl <;> simp
  refine ⟨?_, fun x hx => ?_⟩
  · have e1 : (placedL o).length ≤ 8 := by unfold placedL; split <;> simp
    have e2 : (slipL o).length ≤ 3 := by unfold slipL; split <;> simp
    unfold wordsL
    simp only [List.length_append, List.length_cons, List.length_nil]
    omega
  · unfold wordsL at hx
    simp only [List.mem_append] at hx
    rcases hx with (((hx | hx) | hx) | hx) | hx
    · simp only [List.mem_cons, List.not_mem_nil, or_false] at hx
      rcases hx with rfl | rfl <;> omega
    · unfold placedL at hx
      split at hx
      · cases hx
      · rename_i hg
        have hw := hw hg
        simp only [List.mem_cons, List.not_mem_nil, or_false] at hx
        rcases hx with rfl | rfl | rfl | rfl | rfl | rfl | rfl | rfl <;> first | omega | (simp; done)
    · simp only [List.mem_cons, List.not_mem_nil, or_false] at hx
      rcases hx with rfl | rfl | rfl | rfl <;> first | omega | (simp; done)
    · unfold slipL at hx
      split at hx
      · cases hx
      · simp only [List.mem_cons, List.not_mem_nil, or_false] at hx
        rcases hx with rfl | rfl | rfl <;> first | omega | (simp; done)
    · have := hsl.2 x hx; omega
set_option maxHeartbeats 1000000 in
theorem e_text (o : Lr) (h : LrOk o) (hs : LrSmall o) (qs : List (List AV)) (hqs : qs = o.rs.map (fun r => [AV.list 1 (r.map nxRow)])) (t : ByteArray) (et : t = lineB o) : PCalls Tryd.prog 6 [.agg (lrRow o qs)] (· = .str t) := by
  obtain ⟨c, m, g, lo, hi, est, slo, shi, nom, dist, rs, fit, b1, b2, s0, s1, b3, b4, b5, b6, b7, mlo, mhi, perm, c0, c1, c2, c3, k0, k1, k2, k3⟩ := o
  obtain ⟨o, eo⟩ : ∃ o : Lr, o = ⟨c, m, g, lo, hi, est, slo, shi, nom, dist, rs, fit, b1, b2, s0, s1, b3, b4, b5, b6, b7, mlo, mhi, perm, c0, c1, c2, c3, k0, k1, k2, k3⟩ := ⟨_, rfl⟩
  rw [← eo] at h hs hqs et
  have hc : In64 c := by have := h.c; rw [eo] at this; exact this
  have hfit : In64 fit := by have := h.fit; rw [eo] at this; exact this
  have hs0 : In64 s0 := by have := h.s0; rw [eo] at this; exact this
  have hs1 : In64 s1 := by have := h.s1; rw [eo] at this; exact this
  have hslo : In64 slo := by have := h.slo; rw [eo] at this; exact this
  have hshi : In64 shi := by have := h.shi; rw [eo] at this; exact this
  have huq : Up0 qs := by rw [hqs]; exact up_map (f := fun r => [AV.list 1 (r.map nxRow)]) (fun d => Up0.one (up_nx d) rfl) o.rs
  obtain ⟨bc, ebc⟩ : ∃ z, z = itb c := ⟨_, rfl⟩
  obtain ⟨bm, ebm⟩ : ∃ z, z = bk (modeL m) := ⟨_, rfl⟩
  obtain ⟨bs, ebs⟩ : ∃ z, z = bk (endsL slo shi) := ⟨_, rfl⟩
  obtain ⟨bf, ebf⟩ : ∃ z, z = itb fit := ⟨_, rfl⟩
  obtain ⟨bs0, ebs0⟩ : ∃ z, z = itb s0 := ⟨_, rfl⟩
  obtain ⟨bs1, ebs1⟩ : ∃ z, z = itb s1 := ⟨_, rfl⟩
  obtain ⟨pw, epw⟩ : ∃ z, z = (placedL o).map sRow := ⟨_, rfl⟩
  obtain ⟨sw, esw⟩ : ∃ z, z = (saidL (flagsL o)).map sRow := ⟨_, rfl⟩
  obtain ⟨fr_, efr⟩ : ∃ z, z = (flagsL o).map fgRow := ⟨_, rfl⟩
  have q1 := e_itoa c hc.1 hc.2
  rw [← ebc] at q1
  have q2 := e_name m bm ebm
  have q3 := e_placed o h hs qs hqs pw epw
  rw [show lrRow o qs = [.int .i64 c, .int .i64 m, .int .i64 g, .int .i64 lo, .int .i64 hi, .int .i64 est, .int .i64 slo, .int .i64 shi, .int .i64 nom, .int .i64 dist, .list 1 qs, .int .i64 fit, .bool b1, .bool b2, .int .i64 s0, .int .i64 s1, .bool b3, .bool b4, .bool b5, .bool b6, .bool b7, .int .i64 mlo, .int .i64 mhi, .int .i64 perm, .int .i64 c0, .int .i64 c1, .int .i64 c2, .int .i64 c3, .int .i64 k0, .int .i64 k1, .int .i64 k2, .int .i64 k3] by rw [eo]; rfl] at q3
  have q4 := e_ends slo shi hslo hshi bs ebs
  have q5 := e_itoa fit hfit.1 hfit.2
  rw [← ebf] at q5
  have q6 := e_itoa s0 hs0.1 hs0.2
  rw [← ebs0] at q6
  have q7 := e_itoa s1 hs1.1 hs1.2
  rw [← ebs1] at q7
  have q8 := e_said (flagsL o) (by unfold flagsL; simp) fr_ efr sw esw
  have efr2 : fr_ = [[.bool b1, .str ⟨#[99, 108, 101, 97, 110]⟩], [.bool b2, .str ⟨#[99, 111, 110, 102, 108, 105, 99, 116]⟩], [.bool b3, .str ⟨#[97, 99, 99, 101, 112, 116, 101, 100]⟩], [.bool b4, .str ⟨#[102, 97, 117, 108, 116]⟩], [.bool b5, .str ⟨#[115, 116, 105, 108, 108]⟩], [.bool b6, .str ⟨#[114, 111, 108, 108]⟩], [.bool b7, .str ⟨#[111, 118, 101, 114]⟩]] := by rw [efr, eo]; rfl
  rw [efr2] at q8
  have hupw : Up0 pw := by rw [epw]; exact up_s _
  have husw : Up0 sw := by rw [esw]; exact up_s _
  have rpw : Eng.rowsOk pw = true := by rw [epw]; exact rows_s _
  have rsw : Eng.rowsOk sw = true := by rw [esw]; exact rows_s _
  have lpw : pw.length ≤ 8 := by rw [epw, List.length_map]; unfold placedL; split <;> simp
  have lsw : sw.length ≤ 7 := by
    rw [esw, List.length_map]; unfold saidL; rw [List.length_map]
    exact List.length_filter_le _ _
  have hj := e_join (wordsL o) 32 ((wordsL o).map sRow) rfl (by have := (len_words h hs).1; omega) (by
    have a1 := len_join (wordsL o) 32
    have a2 := lens_le (wordsL o) (len_words h hs).2
    have a3 := (len_words h hs).1
    have a4 : 22002000 * (wordsL o).length ≤ 22002000 * 24 := Nat.mul_le_mul_left _ a3
    omega)
  rw [show jn (wordsL o) 32 = t by rw [et]; rfl] at hj
  have e1 : (wordsL o).map sRow = [[.str bc], [.str bm]] ++ pw ++ [[.str ⟨#[115, 112, 101, 101, 100]⟩], [.str bs], [.str ⟨#[102, 105, 116]⟩], [.str bf]] ++ (if s0 = 0 ∧ s1 = 0 then [] else [[.str ⟨#[115, 108, 105, 112]⟩], [.str bs0], [.str bs1]]) ++ sw := by
    have e2 : slipL o = if s0 = 0 ∧ s1 = 0 then [] else [[115, 108, 105, 112], Lib.itoa s0, Lib.itoa s1] := by rw [eo]; rfl
    unfold wordsL
    rw [e2]
    simp only [List.map_append, ← epw, ← esw]
    rw [eo, ebc, ebm, ebs, ebf, ebs0, ebs1]
    split <;> rfl
  rw [e1] at hj
  clear e1 et efr2 efr esw epw ebs1 ebs0 ebf ebs ebm ebc hqs hs h eo
  (refine PCalls.ofD Tryd.func6 (by kernel_rfl) (by kernel_rfl) fun w hw R hR => ?_); (obtain ⟨wbin, wcmp, wun, wconv, wnot, wbeq, wmm, wscmp, wsadd, wslen, wsat, weqs, wlen, wnlen, wofNat, wtake, wdrop, wapp, wzero, wnat⟩ := w); (have hbin : wbin = binStd := congrArg Prims.bin hw); (have hcmp : wcmp = cmpStd := congrArg Prims.cmp hw); (have hun : wun = unStd := congrArg Prims.un hw); (have hconv : wconv = fun k n => k.wrap n := congrArg Prims.conv hw); (have hnot : wnot = fun b => !b := congrArg Prims.not hw); (have hbeq : wbeq = fun a b => a == b := congrArg Prims.beq hw); (have hmm : wmm = maxI := congrArg Prims.mm hw); (have hscmp : wscmp = scmpStd := congrArg Prims.scmp hw); (have hsadd : wsadd = fun x y => x ++ y := congrArg Prims.sadd hw); (have hslen : wslen = fun s => (s.size : Int) := congrArg Prims.slen hw); (have hsat : wsat = std.sat := congrArg Prims.sat hw); (have heqs : weqs = fun a b os => (eqOffs a b os).getD false := congrArg Prims.eqs hw); (have hlen : wlen = fun es => (es.length : Int) := congrArg Prims.len hw); (have hnlen : wnlen = fun es => es.length := congrArg Prims.nlen hw); (have hofNat : wofNat = (fun n : Nat => (n : Int)) := congrArg Prims.ofNat hw); (have htake : wtake = fun es b => es.take b.toNat := congrArg Prims.take hw); (have hdrop : wdrop = fun es a => es.drop a.toNat := congrArg Prims.drop hw); (have happ : wapp = fun a b => a ++ b := congrArg Prims.app hw); (have hzero : wzero = fun n z => List.replicate n.toNat z := congrArg Prims.zero hw); (have hnat : wnat = fun n => n.toNat := congrArg Prims.nat hw); (conv => arg 2; cbv); (generalize hP : Tryd.prog = P); cbv
  refine QCal.stepE (by rw [← hP]; exact q1) rfl ?_
  cbv
  refine QCal.stepE (by rw [← hP]; exact q2) rfl ?_
  cbv
  refine Call.stepE (by rw [← hP]; exact q3) (by exact Bool.and_eq_true_iff.mpr ⟨Up0.one huq rfl, rfl⟩) ?_
  cbv
  obtain ⟨f1, ef1⟩ : ∃ z, z = [[AV.str bc], [.str bm]] ++ pw := ⟨_, rfl⟩
  obtain ⟨n1, en1⟩ : ∃ z, z = 2 + pw.length := ⟨_, rfl⟩
  refine AppL.mk f1 n1 ef1 rfl en1 rpw (by omega) (by omega) ?_
  cbv
  refine QCal.stepE (by rw [← hP]; exact q4) rfl ?_
  cbv
  refine QCal.stepE (by rw [← hP]; exact q5) rfl ?_
  cbv
  have hl1 : f1.length = n1 := by rw [ef1, en1, List.length_append]; rfl
  obtain ⟨f2, ef2⟩ : ∃ z, z = f1 ++ [[AV.str ⟨#[115, 112, 101, 101, 100]⟩], [.str bs], [.str ⟨#[102, 105, 116]⟩], [.str bf]] := ⟨_, rfl⟩
  obtain ⟨n2, en2⟩ : ∃ z, z = n1 + 4 := ⟨_, rfl⟩
  refine AppL.mk f2 n2 ef2 hl1.symm en2 rfl (by omega) (by omega) ?_
  have hl2 : f2.length = n2 := by rw [ef2, en2, List.length_append, hl1]; rfl
  cbv
  have zz : weqs [AV.int .i64 s0, .int .i64 s1] [AV.int .i64 0, .int .i64 0] [(0, 1), (1, 1)] = decide (s0 = 0 ∧ s1 = 0) := by
    rw [heqs]; simp [eqOffs, eqA]; by_cases h1 : s0 = 0 <;> by_cases h2 : s1 = 0 <;> simp [h1, h2]
  by_cases hz : s0 = 0 ∧ s1 = 0
  · rw [if_pos hz] at hj
    have z1 : wnot (weqs [AV.int .i64 s0, .int .i64 s1] [AV.int .i64 0, .int .i64 0] [(0, 1), (1, 1)]) = false := by rw [zz, hnot]; simp [hz]
    simp only [z1]
    cbv
    refine Call.stepE (by rw [← hP]; exact q8) rfl ?_
    cbv
    obtain ⟨f4, ef4⟩ : ∃ z, z = f2 ++ sw := ⟨_, rfl⟩
    obtain ⟨n4, en4⟩ : ∃ z, z = n2 + sw.length := ⟨_, rfl⟩
    refine AppL.mk f4 n4 ef4 hl2.symm en4 rsw (by omega) (by omega) ?_
    cbv
    have hl4 : f4.length = n4 := by rw [ef4, en4, List.length_append, hl2]
    have hu4 : Up0 f4 := by rw [ef4, ef2, ef1]; exact up_app0 (up_app0 (up_app0 ⟨rfl⟩ hupw) ⟨rfl⟩) husw
    have e4 : f4 = [[AV.str bc], [AV.str bm]] ++ pw ++ [[AV.str ⟨#[115, 112, 101, 101, 100]⟩], [.str bs], [.str ⟨#[102, 105, 116]⟩], [.str bf]] ++ [] ++ sw := by rw [ef4, ef2, ef1]; try simp only [List.append_assoc, List.nil_append]
    refine Call.view (args' := [.list 1 ((f4.drop 0).take n4), .str ⟨#[32]⟩]) (by rw [← hP, List.drop_zero, List.take_of_length_le (by omega), e4]; exact hj) ⟨Vw.sl rfl hu4.get (by omega), Vw.same rfl, trivial⟩ ?_
    rintro r rfl
    refine ⟨rfl, ?_⟩
    cbv
    exact ⟨_, Vw.same rfl, hR _ rfl⟩
  · rw [if_neg hz] at hj
    have z1 : wnot (weqs [AV.int .i64 s0, .int .i64 s1] [AV.int .i64 0, .int .i64 0] [(0, 1), (1, 1)]) = true := by rw [zz, hnot]; simp [hz]
    simp only [z1]
    cbv
    refine InN.mk (by decide) (by decide) ?_
    refine QCal.stepE (by rw [← hP]; exact q6) rfl ?_
    cbv
    refine InN.mk (by decide) (by decide) ?_
    refine QCal.stepE (by rw [← hP]; exact q7) rfl ?_
    cbv
    obtain ⟨f3, ef3⟩ : ∃ z, z = f2 ++ [[AV.str ⟨#[115, 108, 105, 112]⟩], [.str bs0], [.str bs1]] := ⟨_, rfl⟩
    obtain ⟨n3, en3⟩ : ∃ z, z = n2 + 3 := ⟨_, rfl⟩
    refine AppL.mk f3 n3 ef3 hl2.symm en3 rfl (by omega) (by omega) ?_
    have hl3 : f3.length = n3 := by rw [ef3, en3, List.length_append, hl2]; rfl
    cbv
    refine Call.stepE (by rw [← hP]; exact q8) rfl ?_
    cbv
    obtain ⟨f4, ef4⟩ : ∃ z, z = f3 ++ sw := ⟨_, rfl⟩
    obtain ⟨n4, en4⟩ : ∃ z, z = n3 + sw.length := ⟨_, rfl⟩
    refine AppL.mk f4 n4 ef4 hl3.symm en4 rsw (by omega) (by omega) ?_
    cbv
    have hl4 : f4.length = n4 := by rw [ef4, en4, List.length_append, hl3]
    have hu4 : Up0 f4 := by rw [ef4, ef3, ef2, ef1]; exact up_app0 (up_app0 (up_app0 (up_app0 ⟨rfl⟩ hupw) ⟨rfl⟩) ⟨rfl⟩) husw
    have e4 : f4 = [[AV.str bc], [AV.str bm]] ++ pw ++ [[AV.str ⟨#[115, 112, 101, 101, 100]⟩], [.str bs], [.str ⟨#[102, 105, 116]⟩], [.str bf]] ++ [[AV.str ⟨#[115, 108, 105, 112]⟩], [.str bs0], [.str bs1]] ++ sw := by rw [ef4, ef3, ef2, ef1]; try simp only [List.append_assoc, List.nil_append]
    refine Call.view (args' := [.list 1 ((f4.drop 0).take n4), .str ⟨#[32]⟩]) (by rw [← hP, List.drop_zero, List.take_of_length_le (by omega), e4]; exact hj) ⟨Vw.sl rfl hu4.get (by omega), Vw.same rfl, trivial⟩ ?_
    rintro r rfl
    refine ⟨rfl, ?_⟩
    cbv
    exact ⟨_, Vw.same rfl, hR _ rfl⟩
end Go.Proofs.YtikhbgnokkdpeaaDoor

/- Lines, plainly: what a line tells. -/
set_option linter.unusedVariables false
set_option linter.unusedSimpArgs false
namespace Go.Proofs.YtikhbgnokkdpeaaDoor
open Go
theorem no_byte {n : Int} {b : UInt8} (h1 : b.toNat ≠ 45) (h2 : b.toNat < 48 ∨ 57 < b.toNat) : b ∉ Lib.itoa n := fun h => by
  have := itoa_bytes h
  omega
theorem ends_inj {a b c d : Int} (h : endsL a b = endsL c d) : a = c ∧ b = d := by
  unfold endsL at h
  simp only [List.append_assoc, List.cons_append, List.nil_append] at h
  obtain ⟨h1, h2⟩ := cut_inj (no_byte (by decide) (by decide)) (no_byte (by decide) (by decide)) h
  exact ⟨itoa_inj h1, itoa_inj (List.cons.inj h2).2⟩
theorem said_mem {l : List (Bool × List UInt8)} {w : List UInt8} : w ∈ saidL l ↔ (true, w) ∈ l := by
  unfold saidL
  rw [List.mem_map]
  constructor
  · rintro ⟨⟨b, x⟩, h, rfl⟩
    obtain ⟨h1, h2⟩ := List.mem_filter.1 h
    simp only at h2
    subst h2
    exact h1
  · intro h
    exact ⟨(true, w), List.mem_filter.2 ⟨h, rfl⟩, rfl⟩
theorem said_words {o : Lr} {w : List UInt8} (h : w ∈ saidL (flagsL o)) : w = [99, 108, 101, 97, 110] ∨ w = [99, 111, 110, 102, 108, 105, 99, 116] ∨ w = [97, 99, 99, 101, 112, 116, 101, 100] ∨ w = [102, 97, 117, 108, 116] ∨ w = [115, 116, 105, 108, 108] ∨ w = [114, 111, 108, 108] ∨ w = [111, 118, 101, 114] := by
  rw [said_mem] at h
  unfold flagsL at h
  simp only [List.mem_cons, Prod.mk.injEq, List.not_mem_nil, or_false] at h
  rcases h with h | h | h | h | h | h | h
  · exact .inl h.2
  · exact .inr (.inl h.2)
  · exact .inr (.inr (.inl h.2))
  · exact .inr (.inr (.inr (.inl h.2)))
  · exact .inr (.inr (.inr (.inr (.inl h.2))))
  · exact .inr (.inr (.inr (.inr (.inr (.inl h.2)))))
  · exact .inr (.inr (.inr (.inr (.inr (.inr h.2)))))
theorem flag_mem (o : Lr) : (([99, 108, 101, 97, 110] ∈ saidL (flagsL o)) ↔ o.b1 = true) ∧ (([99, 111, 110, 102, 108, 105, 99, 116] ∈ saidL (flagsL o)) ↔ o.b2 = true) ∧ (([97, 99, 99, 101, 112, 116, 101, 100] ∈ saidL (flagsL o)) ↔ o.b3 = true) ∧ (([102, 97, 117, 108, 116] ∈ saidL (flagsL o)) ↔ o.b4 = true) ∧
    (([115, 116, 105, 108, 108] ∈ saidL (flagsL o)) ↔ o.b5 = true) ∧ (([114, 111, 108, 108] ∈ saidL (flagsL o)) ↔ o.b6 = true) ∧ (([111, 118, 101, 114] ∈ saidL (flagsL o)) ↔ o.b7 = true) := by
  simp only [said_mem]
  unfold flagsL
  refine ⟨?_, ?_, ?_, ?_, ?_, ?_, ?_⟩
  all_goals
    constructor
    · intro h
      simp only [List.mem_cons, Prod.mk.injEq, List.not_mem_nil, or_false] at h
      rcases h with h | h | h | h | h | h | h <;> first | exact h.1.symm | exact absurd h.2 (by decide)
    · intro h
      simp [h]
def sameB (o p : Lr) : Prop := o.c = p.c ∧ o.m = p.m ∧ o.slo = p.slo ∧ o.shi = p.shi ∧ o.fit = p.fit ∧ o.s0 = p.s0 ∧ o.s1 = p.s1 ∧ o.b1 = p.b1 ∧ o.b2 = p.b2 ∧ o.b3 = p.b3 ∧ o.b4 = p.b4 ∧ o.b5 = p.b5 ∧ o.b6 = p.b6 ∧ o.b7 = p.b7
theorem bool_iff {a b : Bool} {P : Prop} (h : P ↔ a = true) (k : P ↔ b = true) : a = b := by
  have e : a = true ↔ b = true := h.symm.trans k
  cases a <;> cases b <;> simp at e <;> rfl
theorem said_inj {o p : Lr} (h : saidL (flagsL o) = saidL (flagsL p)) : o.b1 = p.b1 ∧ o.b2 = p.b2 ∧ o.b3 = p.b3 ∧ o.b4 = p.b4 ∧ o.b5 = p.b5 ∧ o.b6 = p.b6 ∧ o.b7 = p.b7 := by
  obtain ⟨a1, a2, a3, a4, a5, a6, a7⟩ := flag_mem o
  obtain ⟨c1, c2, c3, c4, c5, c6, c7⟩ := flag_mem p
  rw [h] at a1 a2 a3 a4 a5 a6 a7
  exact ⟨bool_iff a1 c1, bool_iff a2 c2, bool_iff a3 c3, bool_iff a4 c4, bool_iff a5 c5, bool_iff a6 c6, bool_iff a7 c7⟩
theorem no32 {o : Lr} (hg : o.g = 0) : ∀ x, x ∈ wordsL o → (32 : UInt8) ∉ x := by
  have hi : ∀ n : Int, (32 : UInt8) ∉ Lib.itoa n := fun n => no_byte (by decide) (by decide)
  intro x hx
  unfold wordsL at hx
  simp only [List.mem_append] at hx
  rcases hx with (((hx | hx) | hx) | hx) | hx
  · simp only [List.mem_cons, List.not_mem_nil, or_false] at hx
    rcases hx with rfl | rfl
    · exact hi _
    · unfold modeL
      (repeat' split) <;> decide
  · unfold placedL at hx
    rw [if_pos hg] at hx
    cases hx
  · simp only [List.mem_cons, List.not_mem_nil, or_false] at hx
    rcases hx with rfl | rfl | rfl | rfl
    · decide
    · unfold endsL
      simp only [List.mem_append]
      rintro ((h | h) | h)
      · exact hi _ h
      · revert h; decide
      · exact hi _ h
    · decide
    · exact hi _
  · unfold slipL at hx
    split at hx
    · cases hx
    · simp only [List.mem_cons, List.not_mem_nil, or_false] at hx
      rcases hx with rfl | rfl | rfl
      · decide
      · exact hi _
      · exact hi _
  · rcases said_words hx with rfl | rfl | rfl | rfl | rfl | rfl | rfl <;> decide
theorem mode_inj {a b : Int} (ha : 1 ≤ a ∧ a ≤ 4) (hb : 1 ≤ b ∧ b ≤ 4) (h : modeL a = modeL b) : a = b := by
  have ha : a = 1 ∨ a = 2 ∨ a = 3 ∨ a = 4 := by omega
  have hb : b = 1 ∨ b = 2 ∨ b = 3 ∨ b = 4 := by omega
  rcases ha with rfl | rfl | rfl | rfl <;> rcases hb with rfl | rfl | rfl | rfl <;> first | rfl | (revert h; decide)
theorem line_inj {o p : Lr} (ho : o.g = 0) (hp : p.g = 0) (hm : 1 ≤ o.m ∧ o.m ≤ 4) (hn : 1 ≤ p.m ∧ p.m ≤ 4) (h : lineB o = lineB p) : sameB o p := by
  have h1 : Lib.join (wordsL o) [32] = Lib.join (wordsL p) [32] := congrArg tx h
  have h2 := join_inj (by unfold wordsL; simp) (by unfold wordsL; simp) (no32 ho) (no32 hp) h1
  unfold wordsL placedL at h2
  rw [if_pos ho, if_pos hp] at h2
  simp only [List.append_assoc, List.cons_append, List.nil_append, List.cons.injEq, true_and] at h2
  obtain ⟨k1, k2, k3, k4, k5⟩ := h2
  obtain ⟨k6, k7⟩ := ends_inj k3
  have hsl : ∀ (q : Lr) (l : List (List UInt8)), saidL (flagsL q) ≠ [115, 108, 105, 112] :: l := fun q l e => by
    have := said_words (o := q) (w := [115, 108, 105, 112]) (by rw [e]; simp)
    revert this; decide
  unfold slipL at k5
  split at k5 <;> split at k5
  · rename_i e1 e2
    obtain ⟨b1, b2, b3, b4, b5, b6, b7⟩ := said_inj k5
    exact ⟨itoa_inj k1, mode_inj hm hn k2, k6, k7, itoa_inj k4, by omega, by omega, b1, b2, b3, b4, b5, b6, b7⟩
  · exact absurd k5 (hsl _ _)
  · exact absurd k5.symm (hsl _ _)
  · simp only [List.cons_append, List.nil_append, List.cons.injEq, true_and] at k5
    obtain ⟨c1, c2, c3⟩ := k5
    obtain ⟨b1, b2, b3, b4, b5, b6, b7⟩ := said_inj c3
    exact ⟨itoa_inj k1, mode_inj hm hn k2, k6, k7, itoa_inj k4, itoa_inj c1, itoa_inj c2, b1, b2, b3, b4, b5, b6, b7⟩
theorem line_same {o p : Lr} (ho : o.g = 0) (hp : p.g = 0) (h : sameB o p) : lineB o = lineB p := by
  obtain ⟨h1, h2, h3, h4, h5, h6, h7, h8, h9, h10, h11, h12, h13, h14⟩ := h
  unfold lineB wordsL placedL slipL flagsL
  rw [if_pos ho, if_pos hp, h1, h2, h3, h4, h5, h6, h7, h8, h9, h10, h11, h12, h13, h14]
end Go.Proofs.YtikhbgnokkdpeaaDoor

/- The example, and lines that are apart, by the engine. -/
set_option linter.unusedVariables false
set_option linter.unusedSimpArgs false
namespace Go.Proofs.YtikhbgnokkdpeaaDoor
open Go Go.RowKit Go.Eng
set_option maxRecDepth 100000
def exR : Lr := ⟨3, 2, 7, -5, 25, 10, 9, 11, 0, 0, [[0, 1], [0, 2]], 3, true, false, 0, 0, false, false, false, false, false, 0, 0, 0, 0, 0, 0, 0, 0, 0, 0, 0⟩
def exS : ByteArray := ⟨#[51, 32, 108, 111, 99, 97, 116, 101, 100, 32, 103, 114, 111, 117, 112, 32, 55, 32, 97, 116, 32, 45, 53, 46, 46, 50, 53, 32, 101, 115, 116, 32, 49, 48, 32, 119, 97, 121, 115, 32, 48, 45, 49, 44, 48, 45, 50, 32, 115, 112, 101, 101, 100, 32, 57, 46, 46, 49, 49, 32, 102, 105, 116, 32, 51, 32, 99, 108, 101, 97, 110]⟩
theorem ex_line : lineB exR = exS := by
  have i0 : Lib.itoa 0 = [48] := by rw [itoa_small (by decide) (by decide)]; rfl
  have i1 : Lib.itoa 1 = [49] := by rw [itoa_small (by decide) (by decide)]; rfl
  have i2 : Lib.itoa 2 = [50] := by rw [itoa_small (by decide) (by decide)]; rfl
  have i3 : Lib.itoa 3 = [51] := by rw [itoa_small (by decide) (by decide)]; rfl
  have i5 : Lib.itoa 5 = [53] := by rw [itoa_small (by decide) (by decide)]; rfl
  have i7 : Lib.itoa 7 = [55] := by rw [itoa_small (by decide) (by decide)]; rfl
  have i9 : Lib.itoa 9 = [57] := by rw [itoa_small (by decide) (by decide)]; rfl
  have i10 : Lib.itoa 10 = [49, 48] := by rw [itoa_big (by decide)]; show Lib.itoa 1 ++ Lib.itoa 0 = _; rw [i1, i0]; rfl
  have i11 : Lib.itoa 11 = [49, 49] := by rw [itoa_big (by decide)]; show Lib.itoa 1 ++ Lib.itoa 1 = _; rw [i1]; rfl
  have i25 : Lib.itoa 25 = [50, 53] := by rw [itoa_big (by decide)]; show Lib.itoa 2 ++ Lib.itoa 5 = _; rw [i2, i5]; rfl
  have im5 : Lib.itoa (-5) = [45, 53] := by rw [itoa_neg' (by decide)]; show 45 :: Lib.itoa 5 = _; rw [i5]
  unfold lineB wordsL placedL slipL flagsL exR endsL waysL pathL
  simp only [List.map_cons, List.map_nil, i0, i1, i2, i3, i7, i9, i10, i11, i25, im5]
  rfl
theorem ex_ok : LrOk exR := by
  refine ⟨?_, ?_, ?_, ?_, ?_, ?_, ?_, ?_, ?_, ?_, fun r hr n hn => ?_⟩
  all_goals try (unfold In64 exR; decide)
  unfold exR at hr
  simp only [List.mem_cons, List.not_mem_nil, or_false] at hr
  rcases hr with rfl | rfl <;> (simp only [List.mem_cons, List.not_mem_nil, or_false] at hn; rcases hn with rfl | rfl <;> (unfold In64; decide))
theorem e_anchor25 : PCalls Tryd.prog 5 [] (· = .bool true) := by
  have ht := e_text exR ex_ok ⟨fun _ => by decide, fun _ r hr => by unfold exR at hr; simp only [List.mem_cons, List.not_mem_nil, or_false] at hr; rcases hr with rfl | rfl <;> decide⟩ _ rfl _ rfl
  rw [ex_line] at ht
  (refine PCalls.ofY Tryd.func5 (by kernel_rfl) (by kernel_rfl) fun w hw R hR => ?_); (subst hw); (conv => arg 2; cbv); (generalize hP : Tryd.prog = P); cbv
  refine Call.stepE (by rw [← hP]; exact ht) rfl ?_
  cbv
  exact ⟨_, Vw.same rfl, hR _ rfl⟩
theorem scmp_eql (a b : ByteArray) : scmpStd .eql a b = decide (a = b) := by
  have : scmpStd .eql a b = (a.toList == b.toList) := rfl
  rw [this]
  by_cases h : a = b
  · subst h; simp
  · have : ¬ a.toList = b.toList := fun e => h (Go.Eng.toList_inj e)
    simp [h, this]
theorem e_apart (o p : Lr) (ho : LrOk o) (hp : LrOk p) (qs ps : List (List AV)) (hqs : qs = o.rs.map (fun r => [AV.list 1 (r.map nxRow)])) (hps : ps = p.rs.map (fun r => [AV.list 1 (r.map nxRow)])) : PCalls Tryd.prog 4 [.agg (lrRow o qs), .agg (lrRow p ps)] (· = .bool true) := by
  obtain ⟨c, m, g, lo, hi, est, slo, shi, nom, dist, rs, fit, b1, b2, s0, s1, b3, b4, b5, b6, b7, mlo, mhi, perm, c0, c1, c2, c3, k0, k1, k2, k3⟩ := o
  obtain ⟨xc, xm, xg, xlo, xhi, xest, xslo, xshi, xnom, xdist, xrs, xfit, xb1, xb2, xs0, xs1, xb3, xb4, xb5, xb6, xb7, xmlo, xmhi, xperm, xc0, xc1, xc2, xc3, xk0, xk1, xk2, xk3⟩ := p
  obtain ⟨ta, eta⟩ : ∃ t, t = lineB ⟨c, m, 0, lo, hi, est, slo, shi, nom, dist, rs, fit, b1, b2, s0, s1, b3, b4, b5, b6, b7, mlo, mhi, perm, c0, c1, c2, c3, k0, k1, k2, k3⟩ := ⟨_, rfl⟩
  obtain ⟨tb, etb⟩ : ∃ t, t = lineB ⟨xc, xm, 0, xlo, xhi, xest, xslo, xshi, xnom, xdist, xrs, xfit, xb1, xb2, xs0, xs1, xb3, xb4, xb5, xb6, xb7, xmlo, xmhi, xperm, xc0, xc1, xc2, xc3, xk0, xk1, xk2, xk3⟩ := ⟨_, rfl⟩
  have qa := e_text ⟨c, m, 0, lo, hi, est, slo, shi, nom, dist, rs, fit, b1, b2, s0, s1, b3, b4, b5, b6, b7, mlo, mhi, perm, c0, c1, c2, c3, k0, k1, k2, k3⟩ ⟨ho.c, show In64 0 by unfold In64; decide, ho.lo, ho.hi, ho.est, ho.slo, ho.shi, ho.fit, ho.s0, ho.s1, ho.rs⟩ ⟨fun h => absurd rfl h, fun h => absurd rfl h⟩ qs hqs ta eta
  have qb := e_text ⟨xc, xm, 0, xlo, xhi, xest, xslo, xshi, xnom, xdist, xrs, xfit, xb1, xb2, xs0, xs1, xb3, xb4, xb5, xb6, xb7, xmlo, xmhi, xperm, xc0, xc1, xc2, xc3, xk0, xk1, xk2, xk3⟩ ⟨hp.c, show In64 0 by unfold In64; decide, hp.lo, hp.hi, hp.est, hp.slo, hp.shi, hp.fit, hp.s0, hp.s1, hp.rs⟩ ⟨fun h => absurd rfl h, fun h => absurd rfl h⟩ ps hps tb etb
  have huq : Up0 qs := by rw [hqs]; exact up_map (f := fun r => [AV.list 1 (r.map nxRow)]) (fun d => Up0.one (up_nx d) rfl) rs
  have hup : Up0 ps := by rw [hps]; exact up_map (f := fun r => [AV.list 1 (r.map nxRow)]) (fun d => Up0.one (up_nx d) rfl) xrs
  have hsame : 1 ≤ m → m ≤ 4 → 1 ≤ xm → xm ≤ 4 → (ta = tb ↔ (c = xc ∧ m = xm ∧ slo = xslo ∧ shi = xshi ∧ fit = xfit ∧ s0 = xs0 ∧ s1 = xs1 ∧ b1 = xb1 ∧ b2 = xb2 ∧ b3 = xb3 ∧ b4 = xb4 ∧ b5 = xb5 ∧ b6 = xb6 ∧ b7 = xb7)) := fun h1 h2 h3 h4 => by
    rw [eta, etb]
    exact ⟨fun h => line_inj rfl rfl ⟨h1, h2⟩ ⟨h3, h4⟩ h, fun h => line_same rfl rfl h⟩
  clear ho hp hqs hps eta etb
  (refine PCalls.ofY Tryd.func4 (by kernel_rfl) (by kernel_rfl) fun w hw R hR => ?_); (obtain ⟨wbin, wcmp, wun, wconv, wnot, wbeq, wmm, wscmp, wsadd, wslen, wsat, weqs, wlen, wnlen, wofNat, wtake, wdrop, wapp, wzero, wnat⟩ := w); (have hbin : wbin = binStd := congrArg Prims.bin hw); (have hcmp : wcmp = cmpStd := congrArg Prims.cmp hw); (have hun : wun = unStd := congrArg Prims.un hw); (have hconv : wconv = fun k n => k.wrap n := congrArg Prims.conv hw); (have hnot : wnot = fun b => !b := congrArg Prims.not hw); (have hbeq : wbeq = fun a b => a == b := congrArg Prims.beq hw); (have hmm : wmm = maxI := congrArg Prims.mm hw); (have hscmp : wscmp = scmpStd := congrArg Prims.scmp hw); (have hsadd : wsadd = fun x y => x ++ y := congrArg Prims.sadd hw); (have hslen : wslen = fun s => (s.size : Int) := congrArg Prims.slen hw); (have hsat : wsat = std.sat := congrArg Prims.sat hw); (have heqs : weqs = fun a b os => (eqOffs a b os).getD false := congrArg Prims.eqs hw); (have hlen : wlen = fun es => (es.length : Int) := congrArg Prims.len hw); (have hnlen : wnlen = fun es => es.length := congrArg Prims.nlen hw); (have hofNat : wofNat = (fun n : Nat => (n : Int)) := congrArg Prims.ofNat hw); (have htake : wtake = fun es b => es.take b.toNat := congrArg Prims.take hw); (have hdrop : wdrop = fun es a => es.drop a.toNat := congrArg Prims.drop hw); (have happ : wapp = fun a b => a ++ b := congrArg Prims.app hw); (have hzero : wzero = fun n z => List.replicate n.toNat z := congrArg Prims.zero hw); (have hnat : wnat = fun n => n.toNat := congrArg Prims.nat hw); (conv => arg 2; cbv); (generalize hP : Tryd.prog = P); cbv
  refine Call.stepE (by rw [← hP]; exact e_anchor25) rfl ?_
  cbv
  have n1 : wnot true = false := by rw [hnot]; rfl
  simp only [n1]
  cbv
  obtain ⟨e1, he1⟩ : ∃ e, weqs [.int .i64 slo, .int .i64 shi] [.int .i64 xslo, .int .i64 xshi] [(0, 1), (1, 1)] = e := ⟨_, rfl⟩
  obtain ⟨e2, he2⟩ : ∃ e, weqs [.int .i64 s0, .int .i64 s1] [.int .i64 xs0, .int .i64 xs1] [(0, 1), (1, 1)] = e := ⟨_, rfl⟩
  obtain ⟨e3, he3⟩ : ∃ e, weqs [.bool b1, .bool b2, .bool b3, .bool b4, .bool b5, .bool b6, .bool b7] [.bool xb1, .bool xb2, .bool xb3, .bool xb4, .bool xb5, .bool xb6, .bool xb7] [(0, 0), (1, 0), (2, 0), (3, 0), (4, 0), (5, 0), (6, 0)] = e := ⟨_, rfl⟩
  have g1 : e1 = true ↔ (slo = xslo ∧ shi = xshi) := by rw [← he1, heqs]; simp [eqOffs, eqA]
  have g2 : e2 = true ↔ (s0 = xs0 ∧ s1 = xs1) := by rw [← he2, heqs]; simp [eqOffs, eqA]
  have g3 : e3 = true ↔ (b1 = xb1 ∧ b2 = xb2 ∧ b3 = xb3 ∧ b4 = xb4 ∧ b5 = xb5 ∧ b6 = xb6 ∧ b7 = xb7) := by rw [← he3, heqs]; simp [eqOffs, eqA]
  have fin : ∀ X : Bool, (ta = tb ↔ X = true) → wbeq (wscmp .eql ta tb) X = true := fun X h => by
    rw [hbeq, hscmp]
    cases X
    · have : ¬ ta = tb := fun e => by simpa using h.1 e
      have h2 : scmpStd .eql ta tb = false := by rw [scmp_eql]; simp [this]
      simp [h2]
    · have h2 : scmpStd .eql ta tb = true := by rw [scmp_eql]; simp [h.2 rfl]
      simp [h2]
  repeat' (first
    | (exact ⟨_, Vw.same rfl, hR _ rfl⟩)
    | (split <;> rename_i h1 <;> (try (simp only [he1, he2] at h1)) <;> (try (simp only [hbin, hcmp, hun, hconv, hnot, hbeq, hmm, hscmp, hsadd, hslen, hsat, heqs, hofNat, binStd, cmpStd, unStd, scmpStd, maxI, Bool.not_eq_true', Bool.not_eq_false', decide_eq_true_eq, decide_eq_false_iff_not, Int.not_lt, Int.not_le, if_true, if_false, Bool.false_eq_true, beq_iff_eq, bne_iff_ne, ne_eq, Bool.not_eq_eq_eq_not, Bool.not_true, Bool.not_false, beq_eq_false_iff_ne, bne_eq_false_iff_eq, Int.ofNat_eq_natCast, Bool.not_not, not_true_eq_false, not_false_eq_true, reduceCtorEq] at h1)) <;> (try cbv)))
  all_goals
    simp only [he3]
    refine QCal.stepE (by rw [← hP]; exact qa) (by exact Bool.and_eq_true_iff.mpr ⟨Up0.one huq rfl, rfl⟩) ?_
    cbv
    refine QCal.stepE (by rw [← hP]; exact qb) (by exact Bool.and_eq_true_iff.mpr ⟨Up0.one hup rfl, rfl⟩) ?_
    cbv
    have hs := hsame (by omega) (by omega) (by omega) (by omega)
    refine ⟨_, Vw.same rfl, hR _ ?_⟩
    simp only [retOne]
    congr 1
    refine fin _ ?_
    rw [hs]
  all_goals first
    | (constructor
       · rintro ⟨a1, a2, a3, a4, a5, a6, a7, a8, a9, a10, a11, a12, a13, a14⟩
         exact g3.2 ⟨a8, a9, a10, a11, a12, a13, a14⟩
       · intro h
         obtain ⟨d1, d2, d3, d4, d5, d6, d7⟩ := g3.1 h
         obtain ⟨k1, k2⟩ := g1.1 (by assumption)
         obtain ⟨k3, k4⟩ := g2.1 (by assumption)
         exact ⟨by assumption, by assumption, k1, k2, by assumption, k3, k4, d1, d2, d3, d4, d5, d6, d7⟩)
    | (constructor
       · rintro ⟨a1, a2, a3, a4, a5, a6, a7, a8, a9, a10, a11, a12, a13, a14⟩
         first
           | (exfalso; omega)
           | exact h1.symm.trans (g1.2 ⟨a3, a4⟩)
           | exact h1.symm.trans (g2.2 ⟨a6, a7⟩)
       · intro h
         cases h)
end Go.Proofs.YtikhbgnokkdpeaaDoor

/- What a configuration is. -/
set_option linter.unusedVariables false
set_option linter.unusedSimpArgs false
namespace Go.Proofs.YtikhbgnokkdpeaaDoor
open Go Go.RowKit Go.Eng
set_option maxRecDepth 100000
theorem ok_int {k : IntKind} {l : List Sh} {xs : List AV} (h : OkL (.int k :: l) xs) : ∃ n y, xs = .int k n :: y ∧ (Lit.int k n).wf = true ∧ OkL l y := by
  unfold OkL at h
  obtain ⟨x, y, rfl, h1, h2⟩ := h
  unfold Sh.Ok at h1
  obtain ⟨n, rfl, hn⟩ := h1
  exact ⟨n, y, rfl, hn, h2⟩
theorem ok_bool {l : List Sh} {xs : List AV} (h : OkL (.bool :: l) xs) : ∃ b y, xs = .bool b :: y ∧ OkL l y := by
  unfold OkL at h
  obtain ⟨x, y, rfl, h1, h2⟩ := h
  unfold Sh.Ok at h1
  obtain ⟨n, rfl⟩ := h1
  exact ⟨n, y, rfl, h2⟩
theorem ok_list {z : Nat} {row l : List Sh} {xs : List AV} (h : OkL (.list z row :: l) xs) : ∃ es y, xs = .list z es :: y ∧ es.length ≤ maxS ∧ (∀ r, r ∈ es → OkL row r) ∧ OkL l y := by
  unfold OkL at h
  obtain ⟨x, y, rfl, h1, h2⟩ := h
  unfold Sh.Ok at h1
  obtain ⟨n, rfl, h3, h4⟩ := h1
  exact ⟨n, y, rfl, h3, h4, h2⟩
theorem ok_nil {xs : List AV} (h : OkL [] xs) : xs = [] := by unfold OkL at h; exact h
theorem wf64 {n : Int} (h : (Lit.int .i64 n).wf = true) : -9223372036854775808 ≤ n ∧ n ≤ 9223372036854775807 := by
  simp [Lit.wf, IntKind.min, IntKind.max, IntKind.signed, IntKind.bits] at h
  omega
end Go.Proofs.YtikhbgnokkdpeaaDoor

/- What an int64 is. -/
set_option linter.unusedVariables false
set_option maxRecDepth 100000
namespace Go.Proofs.YtikhbgnokkdpeaaDoor
open Go Go.RowKit Go.Eng
theorem ty_i64 (x : AV) (h : TyV Tryd.prog 8 2 x) : ∃ n, x = .int .i64 n ∧ -9223372036854775808 ≤ n ∧ n ≤ 9223372036854775807 := by
  have h := h.one (by kernel_rfl) (show shOf Tryd.prog 8 2 = some [.int .i64] from by kernel_rfl)
  unfold Sh.Ok at h
  obtain ⟨n, rfl, hn⟩ := h
  exact ⟨n, rfl, wf64 hn⟩
end Go.Proofs.YtikhbgnokkdpeaaDoor

/- What a report is. -/
set_option linter.unusedVariables false
set_option maxRecDepth 100000
namespace Go.Proofs.YtikhbgnokkdpeaaDoor
open Go Go.RowKit Go.Eng
theorem rows_ofL {D : Type} {f : D → List AV} {p : D → Prop} : ∀ {es : List (List AV)}, (∀ r, r ∈ es → ∃ d, r = f d ∧ p d) → ∃ ds : List D, es = ds.map f ∧ ∀ d, d ∈ ds → p d
  | [], _ => ⟨[], rfl, fun d hd => by cases hd⟩
  | r :: es, h => by
    obtain ⟨d, h1, h2⟩ := h r (by simp)
    obtain ⟨ds, h3, h4⟩ := rows_ofL (es := es) fun x hx => h x (by simp [hx])
    exact ⟨d :: ds, by rw [h1, h3]; rfl, fun x hx => by
      rcases List.mem_cons.1 hx with rfl | hx
      · exact h2
      · exact h4 x hx⟩
theorem ty_lr (x : AV) (h : TyV Tryd.prog 8 28 x) : ∃ o : Lr, x = .agg (lrRow o (o.rs.map (fun r => [AV.list 1 (r.map nxRow)]))) ∧ LrOk o ∧ ∀ r, r ∈ o.rs → r.length ≤ 140737488355328 := by
  obtain ⟨cs, rfl, k0⟩ := h.agg (by kernel_rfl) (show shOf Tryd.prog 8 28 = some [.int .i64, .int .i64, .int .i64, .int .i64, .int .i64, .int .i64, .int .i64, .int .i64, .int .i64, .int .i64, .list 1 [.list 1 [.int .i64]], .int .i64, .bool, .bool, .int .i64, .int .i64, .bool, .bool, .bool, .bool, .bool, .int .i64, .int .i64, .int .i64, .int .i64, .int .i64, .int .i64, .int .i64, .int .i64, .int .i64, .int .i64, .int .i64] from by kernel_rfl)
  obtain ⟨c, _, rfl, wc, k1⟩ := ok_int k0
  clear k0
  obtain ⟨m, _, rfl, wm, k2⟩ := ok_int k1
  clear k1
  obtain ⟨g, _, rfl, wg, k3⟩ := ok_int k2
  clear k2
  obtain ⟨lo, _, rfl, wlo, k4⟩ := ok_int k3
  clear k3
  obtain ⟨hi, _, rfl, whi, k5⟩ := ok_int k4
  clear k4
  obtain ⟨est, _, rfl, west, k6⟩ := ok_int k5
  clear k5
  obtain ⟨slo, _, rfl, wslo, k7⟩ := ok_int k6
  clear k6
  obtain ⟨shi, _, rfl, wshi, k8⟩ := ok_int k7
  clear k7
  obtain ⟨nom, _, rfl, wnom, k9⟩ := ok_int k8
  clear k8
  obtain ⟨dist, _, rfl, wdist, k10⟩ := ok_int k9
  clear k9
  obtain ⟨qs, _, rfl, _, hq, k11⟩ := ok_list k10
  clear k10
  obtain ⟨fit, _, rfl, wfit, k12⟩ := ok_int k11
  clear k11
  obtain ⟨b1, _, rfl, k13⟩ := ok_bool k12
  clear k12
  obtain ⟨b2, _, rfl, k14⟩ := ok_bool k13
  clear k13
  obtain ⟨s0, _, rfl, ws0, k15⟩ := ok_int k14
  clear k14
  obtain ⟨s1, _, rfl, ws1, k16⟩ := ok_int k15
  clear k15
  obtain ⟨b3, _, rfl, k17⟩ := ok_bool k16
  clear k16
  obtain ⟨b4, _, rfl, k18⟩ := ok_bool k17
  clear k17
  obtain ⟨b5, _, rfl, k19⟩ := ok_bool k18
  clear k18
  obtain ⟨b6, _, rfl, k20⟩ := ok_bool k19
  clear k19
  obtain ⟨b7, _, rfl, k21⟩ := ok_bool k20
  clear k20
  obtain ⟨mlo, _, rfl, wmlo, k22⟩ := ok_int k21
  clear k21
  obtain ⟨mhi, _, rfl, wmhi, k23⟩ := ok_int k22
  clear k22
  obtain ⟨perm, _, rfl, wperm, k24⟩ := ok_int k23
  clear k23
  obtain ⟨c0, _, rfl, wc0, k25⟩ := ok_int k24
  clear k24
  obtain ⟨c1, _, rfl, wc1, k26⟩ := ok_int k25
  clear k25
  obtain ⟨c2, _, rfl, wc2, k27⟩ := ok_int k26
  clear k26
  obtain ⟨c3, _, rfl, wc3, k28⟩ := ok_int k27
  clear k27
  obtain ⟨j0, _, rfl, wj0, k29⟩ := ok_int k28
  clear k28
  obtain ⟨j1, _, rfl, wj1, k30⟩ := ok_int k29
  clear k29
  obtain ⟨j2, _, rfl, wj2, k31⟩ := ok_int k30
  clear k30
  obtain ⟨j3, _, rfl, wj3, k32⟩ := ok_int k31
  clear k31
  obtain rfl := ok_nil k32
  obtain ⟨rs, rfl, hrs⟩ := rows_ofL (f := fun r : List Int => [AV.list 1 (r.map nxRow)]) (p := fun r => (∀ n, n ∈ r → In64 n) ∧ r.length ≤ 140737488355328) (es := qs) fun r hr => by
    obtain ⟨es, _, rfl, hlen, h1, k1⟩ := ok_list (hq r hr)
    obtain rfl := ok_nil k1
    obtain ⟨l, rfl, hl⟩ := rows_ofL (f := nxRow) (p := In64) (es := es) fun r hr => by
      obtain ⟨n, _, rfl, hw, k1⟩ := ok_int (h1 r hr)
      obtain rfl := ok_nil k1
      exact ⟨n, rfl, wf64 hw⟩
    exact ⟨l, rfl, hl, by unfold maxS at hlen; simpa using hlen⟩
  exact ⟨⟨c, m, g, lo, hi, est, slo, shi, nom, dist, rs, fit, b1, b2, s0, s1, b3, b4, b5, b6, b7, mlo, mhi, perm, c0, c1, c2, c3, j0, j1, j2, j3⟩, rfl, ⟨wf64 wc, wf64 wg, wf64 wlo, wf64 whi, wf64 west, wf64 wslo, wf64 wshi, wf64 wfit, wf64 ws0, wf64 ws1, fun r hr => (hrs r hr).1⟩, fun r hr => (hrs r hr).2⟩
end Go.Proofs.YtikhbgnokkdpeaaDoor

/- The powers of ten, out of the row's own condition. -/
set_option linter.unusedVariables false
set_option linter.unusedSimpArgs false
namespace Go.Proofs.YtikhbgnokkdpeaaDoor
open Go Go.RowKit Go.Eng
set_option maxRecDepth 100000
def pows : List Int := [1, 10, 100, 1000, 10000, 100000, 1000000, 10000000, 100000000, 1000000000, 10000000000, 100000000000, 1000000000000, 10000000000000, 100000000000000, 1000000000000000, 10000000000000000, 100000000000000000, 1000000000000000000, 10000000000000000000]
theorem glo_pow {W : World} {l : List (String × DataW Unit)} (hp : (l.all fun x => x.2.handleName?.isNone) = true) {nm : String} {g : Nat} (hm : (nm, Rows.laid_internal_strconv_uint64pow10) ∈ l) (h : laidMetH Tryd.prog l W) (hg : Tryd.prog.globalNamed nm = some g) (hT : (Tryd.prog.globals[g]?).map (·.type) = some 78) :
    VR (cfg0 W) (.cref (pows.map (AV.int .u64))) (.pointer (some ⟨g, 0, none⟩)) ∧ ∃ ty, W.shape? g = some (ty, (pows.map (AV.int .u64)).length) := by
  rw [Go.MakeChecks.laidMetH_plain _ _ _ hp] at h
  obtain ⟨ps, hl, _⟩ := h
  obtain ⟨g', t, cs, fuel, p, h1, h2, h3, h4⟩ := laid_mem hl hm
  rw [hg] at h1
  obtain rfl := Option.some.inj h1
  rw [hT] at h2
  obtain rfl := Option.some.inj h2
  refine glo_ints hg h3 ?_
  have e : (Rows.laid_internal_strconv_uint64pow10 : DataW Unit) = .agg (pows.map fun x => .lit (.int .u64 x)) := rfl
  rw [e] at h4
  exact trod_ints (n := 20) (et := 68) (by kernel_rfl) (by kernel_rfl) (by kernel_rfl) (by kernel_rfl) h4
end Go.Proofs.YtikhbgnokkdpeaaDoor

/- LineApart, joined. -/
set_option linter.unusedVariables false
set_option maxRecDepth 100000
namespace Go.Proofs.YtikhbgnokkdpeaaDoor
open Go Go.RowKit Go.Eng
theorem walk_LineApart (x0 x1 : AV) (h0 : TyV Tryd.prog 8 28 x0) (h1 : TyV Tryd.prog 8 28 x1) : PCalls Tryd.prog 4 [x0, x1] (fun r => r = .bool true) := by
  obtain ⟨o, rfl, ho, _⟩ := ty_lr x0 h0
  obtain ⟨p, rfl, hp, _⟩ := ty_lr x1 h1
  exact e_apart o p ho hp _ _ rfl rfl
theorem glo_LineApart {W : World} (h : laidMetH Tryd.prog Rows.lineApartRow.laid W) : Glo W := by
  have hk : ∃ i nm, Rows.lineApartRow.laid[i]? = some (nm, Rows.laid_internal_strconv_uint64pow10) ∧ Tryd.prog.globalNamed nm = some 0 := ⟨2, _, rfl, by kernel_rfl⟩
  obtain ⟨i, nm, hi, hg⟩ := hk
  have h2 := glo_pow (by kernel_rfl) (List.mem_of_getElem? hi) h hg (by kernel_rfl)
  intro p hp
  have hp : p ∈ [((0 : Nat), pows.map (AV.int .u64))] := hp
  obtain rfl := List.mem_singleton.1 hp
  exact h2
end Go.Proofs.YtikhbgnokkdpeaaDoor

