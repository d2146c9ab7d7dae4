/- Texts of the proof, joined by wip/tools/pack3.py. -/
import Derived.Test.YtpiocfmdjgbamaaBase
import Derived.StillTail
import Derived.Below
import Derived.Sort.Grow
import Derived.Test.YtpiocfmdjgbamaaEng30
import Derived.Test.YtpiocfmdjgbamaaEng31
import Derived.Test.YtpiocfmdjgbamaaEng33
import Derived.OwnWalk
import Derived.KernelRfl
import Derived.Shelf.SlSortCmp.WholeK
import Derived.Shelf.SlicesE.Clone
import Derived.Shelf.SlicesE.Compact
import Derived.Shelf.SortM.Plain
import Derived.Shelf.SortM.SortNone
import Derived.Ground.SlsfProg
import Derived.Ground.SlgnProg
import Derived.Ground.SlgmProg
import Derived.Test.YtpiocfmdjgbamaaProg
import Derived.WalkKit
import Derived.ProofKit
import Derived.LoopN
import Derived.Test.YtpiocfmdjgbamaaEngX
import Derived.Test.YtpiocfmdjgbamaaEngG
set_option linter.unusedVariables false
set_option linter.unusedSimpArgs false
namespace Go.Eng.Z
open Go Go.Eng
theorem z1 : ∀ (b : Bool), ((!b) = true) = (b = false) := @Bool.not_eq_true'
theorem z2 : ∀ (b : Bool), ((!b) = false) = (b = true) := @Bool.not_eq_false'
theorem z3 : ∀ {p : Prop} [inst : Decidable p], (decide p = true) = p := @decide_eq_true_eq
theorem z4 : ∀ {p : Prop} {x : Decidable p}, decide p = false ↔ ¬p := @decide_eq_false_iff_not
theorem z5 : ∀ {a b : Int}, ¬a < b ↔ b ≤ a := @Int.not_lt
theorem z6 : ∀ {a b : Int}, ¬a ≤ b ↔ b < a := @Int.not_le
theorem z7 : (false = true) = False := @Bool.false_eq_true
theorem z8 : ∀ {a b : Bool}, (!a) = b ↔ a = !b := @Bool.not_eq_eq_eq_not
theorem z9 : (!true) = false := @Bool.not_true
theorem y1 : (!false) = true := @Bool.not_false
theorem y2 : ∀ (n : Nat), Int.ofNat n = (n : Int) := @Int.ofNat_eq_natCast
theorem y3 : ∀ (b : Bool), (!!b) = b := @Bool.not_not
theorem y4 : (¬True) = False := @not_true_eq_false
theorem y5 : (¬False) = True := @not_false_eq_true
theorem a : (∀ (b : Bool), ((!b) = true) = (b = false)) ∧ (∀ (b : Bool), ((!b) = false) = (b = true)) ∧ (∀ {p : Prop} [inst : Decidable p], (decide p = true) = p) ∧ (∀ {p : Prop} {x : Decidable p}, decide p = false ↔ ¬p) ∧ (∀ {a b : Int}, ¬a < b ↔ b ≤ a) ∧ (∀ {a b : Int}, ¬a ≤ b ↔ b < a) ∧ ((false = true) = False) ∧ (∀ {a b : Bool}, (!a) = b ↔ a = !b) ∧ ((!true) = false) ∧ ((!false) = true) ∧ (∀ (n : Nat), Int.ofNat n = (n : Int)) ∧ (∀ (b : Bool), (!!b) = b) ∧ ((¬True) = False) ∧ ((¬False) = True) ∧ (∀ {α : Type} {h : Decidable True} (t e : α), (@ite α True h t e) = t) ∧ (∀ {α : Type} {h : Decidable False} (t e : α), (@ite α False h t e) = e) ∧ (∀ {α : Type} [BEq α] [LawfulBEq α] {a b : α}, (a == b) = true ↔ a = b) ∧ (∀ {α : Type} [BEq α] [LawfulBEq α] {a b : α}, (a != b) = true ↔ a ≠ b) ∧ (∀ {α : Type} (a b : α), (a ≠ b) = ¬a = b) ∧ (∀ {α : Type} [BEq α] [LawfulBEq α] {a b : α}, (a == b) = false ↔ a ≠ b) ∧ (∀ {α : Type} [BEq α] [LawfulBEq α] {a b : α}, (a != b) = false ↔ a = b) := ⟨@Bool.not_eq_true', @Bool.not_eq_false', @decide_eq_true_eq, @decide_eq_false_iff_not, @Int.not_lt, @Int.not_le, @Bool.false_eq_true, @Bool.not_eq_eq_eq_not, @Bool.not_true, @Bool.not_false, @Int.ofNat_eq_natCast, @Bool.not_not, @not_true_eq_false, @not_false_eq_true, @if_true, @if_false, @beq_iff_eq, @bne_iff_ne, @ne_eq, @beq_eq_false_iff_ne, @bne_eq_false_iff_eq⟩
section
variable {wbin wcmp wun wconv wnot wbeq wmm wscmp wsadd wslen wsat weqs wlen wnlen wofNat wtake wdrop wapp wzero wnat} (hw : (⟨wbin, wcmp, wun, wconv, wnot, wbeq, wmm, wscmp, wsadd, wslen, wsat, weqs, wlen, wnlen, wofNat, wtake, wdrop, wapp, wzero, wnat⟩ : Prims) = std)
include hw
theorem w1 : wbin = binStd := congrArg Prims.bin hw
theorem w2 : wcmp = cmpStd := congrArg Prims.cmp hw
theorem w3 : wun = unStd := congrArg Prims.un hw
theorem w4 : wconv = fun k n => k.wrap n := congrArg Prims.conv hw
theorem w5 : wnot = fun b => !b := congrArg Prims.not hw
theorem w6 : wbeq = fun a b => a == b := congrArg Prims.beq hw
theorem w7 : wmm = maxI := congrArg Prims.mm hw
theorem w8 : wscmp = scmpStd := congrArg Prims.scmp hw
theorem w9 : wsadd = fun x y => x ++ y := congrArg Prims.sadd hw
theorem w10 : wslen = fun s => (s.size : Int) := congrArg Prims.slen hw
theorem w11 : wsat = std.sat := congrArg Prims.sat hw
theorem w12 : weqs = fun a b os => (eqOffs a b os).getD false := congrArg Prims.eqs hw
theorem w13 : wlen = fun es => (es.length : Int) := congrArg Prims.len hw
theorem w14 : wnlen = fun es => es.length := congrArg Prims.nlen hw
theorem w15 : wofNat = (fun n : Nat => (n : Int)) := congrArg Prims.ofNat hw
theorem w16 : wtake = fun es b => es.take b.toNat := congrArg Prims.take hw
theorem w17 : wdrop = fun es a => es.drop a.toNat := congrArg Prims.drop hw
theorem w18 : wapp = fun a b => a ++ b := congrArg Prims.app hw
theorem w19 : wzero = fun n z => List.replicate n.toNat z := congrArg Prims.zero hw
theorem w20 : wnat = fun n => n.toNat := congrArg Prims.nat hw
theorem z : wbin = binStd ∧ wcmp = cmpStd ∧ wun = unStd ∧ (wconv = fun k n => k.wrap n) ∧ (wnot = fun b => !b) ∧ (wbeq = fun a b => a == b) ∧ wmm = maxI ∧ wscmp = scmpStd ∧ (wsadd = fun x y => x ++ y) ∧ (wslen = fun s => (s.size : Int)) ∧ wsat = std.sat ∧ (weqs = fun a b os => (eqOffs a b os).getD false) ∧ (wofNat = (fun n : Nat => (n : Int))) :=
  ⟨w1 hw, w2 hw, w3 hw, w4 hw, w5 hw, w6 hw, w7 hw, w8 hw, w9 hw, w10 hw, w11 hw, w12 hw, w15 hw⟩
end
end Go.Eng.Z
/- (Draws counted.) A statement that leaves its order open, operation by operation: what each leaves is told by a predicate that later growth of the world keeps; then it holds of all of them behind the statement, in whatever order they were carried out. -/
set_option linter.unusedVariables false
set_option linter.unusedSimpArgs false
namespace Go.LD
open Go Go.RowKit
structure BelD (w w' : World) : Prop where
  b : Below w.heap.size w w'
  d : w.drawn ≤ w'.drawn
theorem BelD.refl (w : World) : BelD w w := ⟨Below.refl _ _, Nat.le_refl _⟩
theorem BelD.trans {a b c : World} (h : BelD a b) (k : BelD b c) : BelD a c := ⟨h.b.trans (k.b.mono h.b.size), Nat.le_trans h.d k.d⟩
theorem BelD.grown {w w' : World} (h : BelD w w') : ∃ q os, w' = Go.Sort.grow (w.drewN q) os := by
  refine ⟨w'.drawn - w.drawn, w'.heap.extract w.heap.size w'.heap.size, ?_⟩
  have e : w'.heap = w.heap ++ w'.heap.extract w.heap.size w'.heap.size := by
    apply Array.ext_getElem?
    intro i
    have hs := h.b.size
    by_cases hi : i < w.heap.size
    · rw [h.b.block i hi, Array.getElem?_append_left hi]
    · rw [Array.getElem?_append_right (by omega), Array.getElem?_extract]
      by_cases hj : i < w'.heap.size
      · rw [if_pos (by omega)]
        congr 1
        omega
      · rw [if_neg (by omega), Array.getElem?_eq_none (by omega)]
  have hd := h.d
  have h1 := h.b.os
  have h2 := h.b.tape
  have h3 := h.b.output
  cases w' with
  | mk hp tp dr os out =>
    cases w with
    | mk hp0 tp0 dr0 os0 out0 =>
      simp only at h1 h2 h3 e hd
      subst h1 h2 h3
      simp only [Go.Sort.grow, World.drewN, World.mk.injEq, true_and, and_true]
      exact ⟨e, by omega⟩
section
variable {P : Program} {ops : Array Oper}

def leftBy (o : Oper) (a : Act) : Value := match o.dst with | some d => a.tmps.getD d undef | none => undef
def ordB (ops : Array Oper) (n : Nat) : Bool := (List.range n).all fun i => match ops[i]? with | some o => o.guard.isNone && o.dst.isSome && o.after.all fun e => !Region.binds .any e || decide (e.on < i) | none => false
def dstB (ops : Array Oper) (n : Nat) : Bool := (List.range n).all fun i => (List.range n).all fun j => i == j || (((ops[i]?).bind (·.dst)).isNone || ((ops[i]?).bind (·.dst)) != ((ops[j]?).bind (·.dst)))

structure LInv (ops : Array Oper) (n : Nat) (D : Nat → Prop) (V : Nat → Value → World → Prop) (a0 : Act) (w0 : World) (listed : Array Bool) (a : Act) (w : World) : Prop where
  head : HeadInv .any ops n listed
  ext : BelD w0 w
  spec : ∀ i o, i < n → ops[i]? = some o → listed.getD i false = true → V i (leftBy o a) w
  frame : ∀ t, (∀ i o, i < n → ops[i]? = some o → o.dst ≠ some t) → a.tmps.getD t undef = a0.tmps.getD t undef
  size : a.tmps.size = a0.tmps.size
  defers : a.defers = a0.defers
  ptr : ∀ i o, i < n → ops[i]? = some o → D i → listed.getD i false = true → ∃ b, leftBy o a = .pointer (some ⟨b, 0, none⟩) ∧ b < w.heap.size
  apart : ∀ i j oi oj, i < n → j < n → i ≠ j → ops[i]? = some oi → ops[j]? = some oj → D i → D j → listed.getD i false = true → listed.getD j false = true → leftBy oi a ≠ leftBy oj a

theorem getD_put_ne (a : Act) (d t : Tmp) (v : Value) (h : d ≠ t) : (a.put (some d) v).tmps.getD t undef = a.tmps.getD t undef := by
  simp only [Act.put]
  rw [Array.getD_eq_getD_getElem?, Array.getD_eq_getD_getElem?, Array.getElem?_setIfInBounds, if_neg (fun e => h e)]
theorem getD_put_eq (a : Act) (d : Tmp) (v : Value) (h : d < a.tmps.size) : (a.put (some d) v).tmps.getD d undef = v := by
  simp only [Act.put]
  rw [Array.getD_eq_getD_getElem?, Array.getElem?_setIfInBounds, if_pos rfl, if_pos h]
  rfl

theorem wp_region_local {id : Nat} {Q : Exit → Act → World → Prop} {a0 : Act} {w0 : World} {l : List Oper} (n : Nat) (D : Nat → Prop) (V : Nat → Value → World → Prop)
    (hm : P.follows .mixedOrders = true)
    (hB : (ordB l.toArray n && dstB l.toArray n && (decide (n = l.length) || (decide (n < l.length) && Region.sinkB .any l.toArray n && Region.chainB .any l.toArray n))
      && Region.seqB .any l.toArray (l.length - n) n (List.replicate n true ++ List.replicate (l.length - n) false).toArray && (l.take n).all fun o => o.dst.all fun d => decide (d < a0.tmps.size)) = true)
    (hV : ∀ i v w w', V i v w → BelD w w' → V i v w')
    (hop : ∀ i o, i < n → l.toArray[i]? = some o → ∀ a w, BelD w0 w → a.tmps.size = a0.tmps.size → (∀ t, (∀ i o, i < n → l.toArray[i]? = some o → o.dst ≠ some t) → a.tmps.getD t undef = a0.tmps.getD t undef) →
      (∀ e ∈ o.after, Region.binds .any e = true → ∀ oe, l.toArray[e.on]? = some oe → V e.on (leftBy oe a) w) →
      ∀ K : Act → World → Prop, (∀ v w', BelD w w' → V i v w' → (D i → ∃ b, v = .pointer (some ⟨b, 0, none⟩) ∧ w.heap.size ≤ b ∧ b < w'.heap.size) → K (a.put o.dst v) w') → o.wp P a w K Q)
    (hend : ∀ a w, BelD w0 w → a.tmps.size = a0.tmps.size → a.defers = a0.defers → (∀ t, (∀ i o, i < n → l.toArray[i]? = some o → o.dst ≠ some t) → a.tmps.getD t undef = a0.tmps.getD t undef) →
      (∀ i o, i < n → l.toArray[i]? = some o → V i (leftBy o a) w) → (∀ i j oi oj, i < n → j < n → i ≠ j → l.toArray[i]? = some oi → l.toArray[j]? = some oj → D i → D j → leftBy oi a ≠ leftBy oj a) → wpList P l.toArray Q (l.drop n) a w) :
    (Code.region id l.toArray true).wp P Q a0 w0 := by
  simp only [Bool.and_eq_true] at hB
  obtain ⟨⟨⟨⟨hord, hdst⟩, htl⟩, hseq⟩, hin⟩ := hB
  have hnl : n ≤ l.length := by
    simp only [Bool.or_eq_true, Bool.and_eq_true, decide_eq_true_eq] at htl
    omega
  have ord : ∀ i o, i < n → l.toArray[i]? = some o → (o.guard = none ∧ o.dst.isSome = true) ∧ ∀ e ∈ o.after, Region.binds .any e = true → e.on < i := by
    intro i o hi ho
    have h := List.all_eq_true.1 hord i (List.mem_range.2 hi)
    rw [ho] at h
    simp only [Bool.and_eq_true, Option.isNone_iff_eq_none] at h
    refine ⟨h.1, fun e he hb => ?_⟩
    have h2 := Array.all_eq_true'.1 h.2 e he
    simpa [hb] using h2
  have dst : ∀ i j oi oj d, i < n → j < n → i ≠ j → l.toArray[i]? = some oi → l.toArray[j]? = some oj → oi.dst = some d → oj.dst ≠ some d := by
    intro i j oi oj d hi hj hij hoi hoj hd hd'
    have h := List.all_eq_true.1 (List.all_eq_true.1 hdst i (List.mem_range.2 hi)) j (List.mem_range.2 hj)
    rw [hoi, hoj] at h
    simp [hd, hd', hij] at h
  have hin' : ∀ i o d, i < n → l.toArray[i]? = some o → o.dst = some d → d < a0.tmps.size := by
    intro i o d hi ho hd
    have hmem : o ∈ l.take n := by
      have : (l.take n)[i]? = some o := by rw [List.getElem?_take, if_pos hi]; simpa using ho
      exact List.mem_of_getElem? this
    have h := List.all_eq_true.1 hin o hmem
    simpa [hd] using h
  have waits : ∀ listed, HeadInv .any l.toArray n listed → ∀ i, i < n → listed.getD i true = false → ∀ t, n ≤ t → t ∉ Region.ready .any l.toArray listed := by
    intro listed inv i hi hun t ht hr
    simp only [Bool.or_eq_true, Bool.and_eq_true, decide_eq_true_eq] at htl
    rcases htl with h | ⟨⟨h1, h2⟩, h3⟩
    · obtain ⟨_, o, ho, _⟩ := mem_ready.1 hr
      have := (Array.getElem?_eq_some_iff.1 ho).1
      simp at this
      omega
    · exact tail_waits h2 h3 (by simpa using h1) inv _ i rfl hi hun t ht hr
  have main : ∀ (f : Nat) (listed : Array Bool) (a : Act) (w : World), listed.toList.count false = f → LInv l.toArray n D V a0 w0 listed a w → wpAny P .any l.toArray Q f listed a w := by
    intro f
    induction f with
    | zero =>
      intro listed a w hc inv
      have hall : ∀ i, i < l.length → listed.getD i false = true := by
        intro i hi
        have hs : i < listed.size := by rw [inv.head.size]; simpa using hi
        have h0 := List.count_eq_zero.1 hc
        cases h : listed[i] with
        | true => simp [hs, h]
        | false => exact absurd (by rw [← h]; simp) h0
      have hn : n = l.length := by
        refine Classical.byContradiction fun hne => ?_
        have h1 := inv.head.tail n (Nat.le_refl _) (by simp; omega)
        have h2 := hall n (by omega)
        have hs : n < listed.size := by rw [inv.head.size]; simp; omega
        simp [hs] at h1 h2
        rw [h1] at h2
        cases h2
      have hw := hend a w inv.ext inv.size inv.defers inv.frame (fun i o hi ho => inv.spec i o hi ho (hall i (by omega))) (fun i j oi oj hi hj hij hoi hoj h1 h2 => inv.apart i j oi oj hi hj hij hoi hoj h1 h2 (hall i (by omega)) (hall j (by omega)))
      refine ⟨?_, ?_⟩
      · refine List.eq_nil_iff_forall_not_mem.2 fun j hj => ?_
        obtain ⟨h1, o, ho, _⟩ := mem_ready.1 hj
        have hj' : j < l.length := by have := (Array.getElem?_eq_some_iff.1 ho).1; simpa using this
        have h2 := hall j hj'
        have hs : j < listed.size := by rw [inv.head.size]; simpa using hj'
        simp [hs] at h1 h2
        rw [h1] at h2
        cases h2
      · rw [hn, List.drop_length] at hw
        exact hw
    | succ f ih =>
      intro listed a w hc inv
      by_cases hex : ∃ i, i < n ∧ listed.getD i false = false
      · have key : ∀ j ∈ Region.ready .any l.toArray listed, wpOp P l.toArray Q j (wpAny P .any l.toArray Q f (listed.setIfInBounds j true)) a w := by
          intro j hj
          obtain ⟨i, hi, hiu⟩ := hex
          have his : i < listed.size := by rw [inv.head.size]; simp; omega
          have hjn : j < n := Nat.lt_of_not_le fun h => waits listed inv.head i hi (getD_in his hiu) j h hj
          obtain ⟨hju, o, ho, hall⟩ := mem_ready.1 hj
          have hjs : j < listed.size := by rw [inv.head.size]; simp; omega
          obtain ⟨⟨hg, hdsome⟩, hlt⟩ := ord j o hjn ho
          refine wpOp_step ho fun K' hK => ?_
          rw [if_pos (by simp [Region.wanted, hg])]
          refine hop j o hjn ho a w inv.ext inv.size inv.frame (fun e he hb oe hoe => inv.spec e.on oe (Nat.lt_trans (hlt e he hb) hjn) hoe (hall e he hb)) K' fun v w' hbw hv hp => hK _ _ (ih _ _ _ ?_ ?_)
          · have hf : listed.toList[j]'(by simpa using hjs) = false := by simp [hjs] at hju; simpa using hju
            have h1 := List.count_set (a := true) (b := false) (l := listed.toList) (i := j) (by simpa using hjs)
            rw [hf, hc] at h1
            rw [Array.toList_setIfInBounds, h1]
            rfl
          · have keepL : ∀ k ok, k < n → l.toArray[k]? = some ok → k ≠ j → leftBy ok (a.put o.dst v) = leftBy ok a := by
              intro k ok hk hok hkj
              unfold leftBy
              cases hd : ok.dst with
              | none => rfl
              | some d =>
                simp only
                cases hd2 : o.dst with
                | none => rfl
                | some d2 =>
                  refine getD_put_ne a d2 d v fun e => ?_
                  subst e
                  exact dst j k o ok d2 hjn hk (fun e => hkj e.symm) ho hok hd2 hd
            have newL : leftBy o (a.put o.dst v) = v := by
              unfold leftBy
              cases hd : o.dst with
              | none => rw [hd] at hdsome; cases hdsome
              | some d =>
                simp only
                exact getD_put_eq a d v (by rw [inv.size]; exact hin' j o d hjn ho hd)
            refine ⟨inv.head.set hj hjn, inv.ext.trans hbw, ?_, ?_, ?_, ?_, ?_, ?_⟩
            · intro k ok hk hok hkl
              by_cases hkj : k = j
              · subst hkj
                have : ok = o := Option.some.inj (hok.symm.trans ho)
                subst this
                rw [newL]
                exact hv
              · have hkl' : listed.getD k false = true := by rwa [getD_set_ne false (fun e => hkj e.symm)] at hkl
                rw [keepL k ok hk hok hkj]
                exact hV k _ w w' (inv.spec k ok hk hok hkl') hbw
            · intro t ht
              rw [← inv.frame t ht]
              cases hd : o.dst with
              | none => rfl
              | some d => exact getD_put_ne a d t v fun e => ht j o hjn ho (by rw [hd, e])
            · rw [← inv.size]
              cases o.dst <;> simp [Act.put]
            · rw [← inv.defers]
              cases o.dst <;> simp [Act.put]
            · intro k ok hk hok hD hkl
              by_cases hkj : k = j
              · subst hkj
                have : ok = o := Option.some.inj (hok.symm.trans ho)
                subst this
                rw [newL]
                obtain ⟨b, h1, _, h3⟩ := hp hD
                exact ⟨b, h1, h3⟩
              · have hkl' : listed.getD k false = true := by rwa [getD_set_ne false (fun e => hkj e.symm)] at hkl
                rw [keepL k ok hk hok hkj]
                obtain ⟨b, h1, h2⟩ := inv.ptr k ok hk hok hD hkl'
                exact ⟨b, h1, Nat.lt_of_lt_of_le h2 hbw.b.size⟩
            · intro k m ok om hk hm hkm hok hom hDk hDm hkl hml
              have old : ∀ k ok, k < n → l.toArray[k]? = some ok → D k → k ≠ j → (listed.setIfInBounds j true).getD k false = true → ∃ b, leftBy ok (a.put o.dst v) = .pointer (some ⟨b, 0, none⟩) ∧ b < w.heap.size := by
                intro k ok hk hok hD hkj hkl
                have hkl' : listed.getD k false = true := by rwa [getD_set_ne false (fun e => hkj e.symm)] at hkl
                rw [keepL k ok hk hok hkj]
                exact inv.ptr k ok hk hok hD hkl'
              by_cases hkj : k = j
              · subst hkj
                have : ok = o := Option.some.inj (hok.symm.trans ho)
                subst this
                obtain ⟨b, h1, h2, h3⟩ := hp hDk
                obtain ⟨b', h1', h2'⟩ := old m om hm hom hDm (fun e => hkm e.symm) hml
                rw [newL, h1', h1]
                intro e
                cases e
                omega
              · by_cases hmj : m = j
                · subst hmj
                  have : om = o := Option.some.inj (hom.symm.trans ho)
                  subst this
                  obtain ⟨b, h1, h2, h3⟩ := hp hDm
                  obtain ⟨b', h1', h2'⟩ := old k ok hk hok hDk hkm hkl
                  rw [newL, h1', h1]
                  intro e
                  cases e
                  omega
                · have hkl' : listed.getD k false = true := by rwa [getD_set_ne false (fun e => hkj e.symm)] at hkl
                  have hml' : listed.getD m false = true := by rwa [getD_set_ne false (fun e => hmj e.symm)] at hml
                  rw [keepL k ok hk hok hkj, keepL m om hm hom hmj]
                  exact inv.apart k m ok om hk hm hkm hok hom hDk hDm hkl' hml'
        refine ⟨fun h0 => ?_, key⟩
        -- something of the head may come up
        exfalso
        obtain ⟨i, hi, hiu⟩ := hex
        have hmin : ∀ d i, i ≤ d → i < n → listed.getD i false = false → ∃ j, j ∈ Region.ready .any l.toArray listed := by
          intro d
          induction d using Nat.strongRecOn with
          | _ d ihd =>
            intro i hid hin hun
            have his : i < listed.size := by rw [inv.head.size]; simp; omega
            have ho : l.toArray[i]? = some l[i] := by simp
            by_cases hr : ∀ e ∈ (l[i]).after, Region.binds .any e = true → listed.getD e.on false = true
            · exact ⟨i, mem_ready.2 ⟨getD_in his hun, _, ho, hr⟩⟩
            · obtain ⟨e, he⟩ := Classical.not_forall.1 hr
              obtain ⟨he1, he2⟩ := Classical.not_forall.1 he
              obtain ⟨hb, hl⟩ := Classical.not_forall.1 he2
              have hlt := (ord i _ hin ho).2 e he1 hb
              have hl' : listed.getD e.on false = false := by simpa using hl
              exact ihd e.on (by omega) e.on (Nat.le_refl _) (by omega) hl'
        obtain ⟨j, hj⟩ := hmin i i (Nat.le_refl _) hi hiu
        rw [h0] at hj
        cases hj
      · have hall : ∀ i, i < n → listed.getD i false = true := by
          intro i hi
          cases h : listed.getD i false with
          | true => rfl
          | false => exact absurd ⟨i, hi, h⟩ hex
        have hlisted : listed.toList = List.replicate n true ++ List.replicate (l.length - n) false := by
          apply List.ext_getElem
          · have := inv.head.size; simp at this ⊢; omega
          · intro i h1 h2
            have h1' : i < l.length := by have := inv.head.size; simp at this h1; omega
            by_cases hi : i < n
            · have := hall i hi
              simp at h1
              simp [h1] at this
              simp [this, hi, List.getElem_append]
            · have := inv.head.tail i (by omega) (by simpa using h1')
              simp at h1
              simp [h1] at this
              simp [this, hi, List.getElem_append]
        have hw := hend a w inv.ext inv.size inv.defers inv.frame (fun i o hi ho => inv.spec i o hi ho (hall i hi)) (fun i j oi oj hi hj hij hoi hoj h1 h2 => inv.apart i j oi oj hi hj hij hoi hoj h1 h2 (hall i hi) (hall j hj))
        have h := wpAny_of_seq (md := .any) (Q' := Q) (P := P) (ops := l.toArray) (l.drop n) n listed a w (fun j => by simp [List.getElem?_drop]) (by rw [show listed = (List.replicate n true ++ List.replicate (l.length - n) false).toArray by rw [← hlisted]]; simpa using hseq) hw
        have hlen : (l.drop n).length = f + 1 := by
          rw [← hc, hlisted, List.count_append, List.count_replicate, List.count_replicate]
          simp
        rw [hlen] at h
        exact h
  refine wp_region_any hm (main _ _ _ _ ?_ ?_)
  · simp
  · refine ⟨⟨by simp, fun j oj _ hl => (by rw [getD_replicate_false] at hl; cases hl), fun t _ ht => getD_in (by simpa using ht) (getD_replicate_false _ _)⟩, ?_, fun i o _ _ hl => (by rw [getD_replicate_false] at hl; cases hl), fun _ _ => rfl, rfl, rfl, fun i o _ _ _ hl => (by rw [getD_replicate_false] at hl; cases hl), fun i j _ _ _ _ _ _ _ _ _ hl => (by rw [getD_replicate_false] at hl; cases hl)⟩
    exact ⟨⟨rfl, rfl, rfl, Nat.le_refl _, fun _ _ => rfl⟩, Nat.le_succ _⟩
end
end Go.LD

/- Numbers of 64 bits that do not go beyond. -/
namespace Go.Proofs.Ytpiocfmdjgbamaa
open Go Go.RowKit Go.Eng
theorem add64n {a b : Int} (h1 : -9223372036854775808 ≤ a + b) (h2 : a + b < 9223372036854775808) : std.1 .add .i64 a b = a + b := by
  show IntKind.i64.wrap (a + b) = _
  rw [IntKind.wrap_i64]; omega
theorem i_add {a b : Int} (h1 : -9223372036854775808 ≤ a + b) (h2 : a + b < 9223372036854775808) : binStd .add .i64 a b = a + b := add64n h1 h2
theorem i_sub {a b : Int} (h1 : -9223372036854775808 ≤ a - b) (h2 : a - b < 9223372036854775808) : binStd .sub .i64 a b = a - b := by
  show IntKind.i64.wrap (a - b) = _
  rw [IntKind.wrap_i64]; omega
theorem i_mul {a b : Int} (h1 : -9223372036854775808 ≤ a * b) (h2 : a * b < 9223372036854775808) : binStd .mul .i64 a b = a * b := by
  show IntKind.i64.wrap (a * b) = _
  rw [IntKind.wrap_i64]; omega
theorem i_neg {a : Int} (h1 : -9223372036854775808 < a) (h2 : a < 9223372036854775808) : unStd .neg .i64 a = -a := by
  show IntKind.i64.wrap (0 - a) = _
  rw [IntKind.wrap_i64]; omega
theorem i_quo {a b : Int} (h0 : 0 ≤ a) (h1 : 0 < b) (h2 : a < 9223372036854775808) : binStd .quo .i64 a b = a / b := by
  show IntKind.i64.wrap (a.tdiv b) = _
  rw [Int.tdiv_eq_ediv_of_nonneg h0]
  have h3 : a / b ≤ a := Int.ediv_le_self _ h0
  have h4 : 0 ≤ a / b := Int.ediv_nonneg h0 (by omega)
  rw [IntKind.wrap_i64]; omega
end Go.Proofs.Ytpiocfmdjgbamaa

/- Lists that are built row by row. -/
namespace Go.Proofs.Ytpiocfmdjgbamaa
open Go Go.RowKit Go.Eng
inductive Bd where
  | start
  | more (i : Int) (n : Nat) (fs : List (List AV))
def Bd.Ok (es : List (List AV)) : Bd → Prop
  | .start => True
  | .more i n fs => 0 < i ∧ i.toNat ≤ es.length ∧ fs = es.take i.toNat ∧ n = fs.length ∧ Up0 fs
def Bd.left (es : List (List AV)) : Bd → Nat
  | .start => es.length
  | .more i _ _ => es.length - i.toNat
theorem up_take {es : List (List AV)} (h : Up0 es) (n : Nat) : Up0 (es.take n) := by
  obtain ⟨h⟩ := h
  refine ⟨?_⟩
  induction es generalizing n with
  | nil => simpa using h
  | cons e t ih =>
    cases n with
    | zero => rfl
    | succ n =>
      simp only [uptoLL, Bool.and_eq_true] at h
      simp only [List.take_succ_cons, uptoLL, Bool.and_eq_true]
      exact ⟨h.1, ih n h.2⟩
theorem take_row {es : List (List AV)} {i : Int} {row : List AV} (h0 : 0 ≤ i) (hr : es[i.toNat]? = some row) : es.take (i + 1).toNat = es.take i.toNat ++ [row] := by
  rw [show (i + 1).toNat = i.toNat + 1 by omega, List.take_add_one, hr]; rfl
theorem up_map {D : Type} {f : D → List AV} (hf : ∀ d, uptoL 0 (f d) = true) (ds : List D) : Up0 (ds.map f) := by
  refine ⟨?_⟩
  induction ds with
  | nil => rfl
  | cons d t ih => exact Bool.and_eq_true_iff.mpr ⟨hf d, ih⟩
theorem get_map {D : Type} {f : D → List AV} {ds : List D} {i : Int} (h0 : 0 ≤ i) (h : i.toNat < ds.length) : ∃ d, ds[i.toNat]? = some d ∧ (ds.map f)[i.toNat]? = some (f d) := by
  have h1 := h
  exact ⟨ds[i.toNat], by rw [List.getElem?_eq_getElem h1], by simp [h1]⟩
end Go.Proofs.Ytpiocfmdjgbamaa

/- A track: segments, pieces, groups. -/
namespace Go.Proofs.Ytpiocfmdjgbamaa
open Go Go.RowKit Go.Eng
structure Sg where
  len : Int
  ps : List (Int × Int)
  nx : List Int
structure Gr where
  id : Int
  seg : Int
  off : Int
  acc : Int
  sl : Int
def pcRow (p : Int × Int) : List AV := [.int .i64 p.1, .int .i64 p.2]
def nxRow (n : Int) : List AV := [.int .i64 n]
def sgRow (s : Sg) : List AV := [.int .i64 s.len, .list 2 (s.ps.map pcRow), .list 1 (s.nx.map nxRow)]
def grRow (g : Gr) : List AV := [.int .i64 g.id, .int .i64 g.seg, .int .i64 g.off, .int .i64 g.acc, .int .i64 g.sl]
theorem up_segRow {len : Int} {q n : List (List AV)} (hq : Up0 q) (hn : Up0 n) : uptoL 0 [.int .i64 len, .list 2 q, .list 1 n] = true :=
  Bool.and_eq_true_iff.mpr ⟨rfl, Up0.one hq (Up0.one hn rfl)⟩
theorem up_seg {len : Int} {q n : List (List AV)} (hq : Up0 q) (hn : Up0 n) : Up0 [[.int .i64 len, .list 2 q, .list 1 n]] :=
  ⟨Bool.and_eq_true_iff.mpr ⟨up_segRow hq hn, rfl⟩⟩
theorem up_pc (ps : List (Int × Int)) : Up0 (ps.map pcRow) := up_map (f := pcRow) (fun d => rfl) ps
theorem up_nx (ns : List Int) : Up0 (ns.map nxRow) := up_map (f := nxRow) (fun d => rfl) ns
theorem up_gr (gs : List Gr) : Up0 (gs.map grRow) := up_map (f := grRow) (fun d => rfl) gs
theorem up_sg (ss : List Sg) : Up0 (ss.map sgRow) := up_map (f := sgRow) (fun s => up_segRow (up_pc s.ps) (up_nx s.nx)) ss
end Go.Proofs.Ytpiocfmdjgbamaa

/- What a call hands back that only makes memory, seen in the caller's state; a map's keys, sorted. -/
namespace Go.Proofs.Ytpiocfmdjgbamaa
open Go Go.RowKit Go.Eng
set_option maxRecDepth 100000
theorem Rel.below {C : Cfg} (R : Rel C) {w' : World} (hb : Below C.w.heap.size C.w w') : Rel { C with w := w' } ∧ ∀ n, Ext n C { C with w := w' } := by
  have he : ∀ n, Ext n C { C with w := w' } := fun n => ⟨rfl, hb.os, hb.tape, hb.output, hb.size, fun s _ h => ⟨h, rfl⟩, fun b hlt ho => ⟨hb.block b hlt, ho⟩, fun b x hx => by
    have hlt : b < C.w.heap.size := by
      unfold World.shape? at hx
      split at hx
      · rename_i c el fz he; exact (Array.getElem?_eq_some_iff.1 he).1
      · cases hx
    unfold World.shape? at hx ⊢
    show (match w'.heap[b]? with | some (.cells c elem _) => some (elem, c.size) | _ => none) = some x
    rw [hb.block b hlt]
    exact hx⟩
  exact ⟨R.of_ext (he _) (fun s z es hl => .inl ⟨hl, rfl, hb.block _ (R.lown_lt ⟨s, ⟨z, es, hl⟩, rfl⟩)⟩) R.inj, he⟩
theorem not_own_ge {C : Cfg} (R : Rel C) {w' : World} {g : Nat} (hg : C.w.heap.size ≤ g) : ¬ Cfg.own { C with w := w' } g := by
  rintro (ho | ⟨s, ⟨z, es, hs⟩, hr⟩)
  · have := R.olt _ ho; omega
  · have := R.lown_lt ⟨s, ⟨z, es, hs⟩, rfl⟩
    simp only at hr
    omega
theorem row_list {C : Cfg} (R : Rel C) {w' : World} {e : TypeId} {z : Nat} {v : Value} {es : List (List AV)} {xs : List Value} (hz0 : 0 < z) (ho : w'.ownsRow C.w.heap.size e z v es.length xs) (hz : ∀ r, r ∈ es → r.length = z)
    (hv : ∀ (i : Nat) (r : List AV), es[i]? = some r → ∀ (j : Nat) (x : AV), r[j]? = some x → VR { C with w := w' } x (xs.getD (i * z + j) undef)) : VR { C with w := w' } (.list z es) v := by
  obtain ⟨hxl, ⟨rfl, h0⟩ | ⟨g, cap, cur, rfl, hg, hcell, hn, hcap, hsz, htake⟩⟩ := ho
  · have : es = [] := List.length_eq_zero_iff.1 h0
    subst this
    exact .listNil z none 0
  · refine .list z _ ⟨g, 0, none⟩ es.length cap (fun i j => xs.getD (i * z + j) undef) rfl hn rfl hz (fun i j hi hj => ?_) (fun _ _ ho => not_own_ge R hg ho) hv
    have hlt := row_lt (n := es.length) (z := z) hi hj
    have hcz : es.length * z ≤ cap * z := Nat.mul_le_mul_right z hn
    show w'.cell? _ = _
    have h1 : cur[i * z + j]? = xs[i * z + j]? := by
      rw [← htake, List.getElem?_take, if_pos hlt, Array.getElem?_toList]
    have h2 : xs[i * z + j]? = some (xs.getD (i * z + j) undef) := getD_get undef (by omega)
    rw [← h2, ← h1]
    unfold World.cell?
    simp only [hcell, Nat.zero_add, Option.isSome_none, Bool.false_eq_true, if_false]
theorem ints_list {C : Cfg} (R : Rel C) {w' : World} {e : TypeId} {v : Value} {ns : List Int} (ho : w'.ownsRow C.w.heap.size e 1 v ns.length (ns.map (Value.int .i64))) : VR { C with w := w' } (.list 1 (ns.map nxRow)) v := by
  refine row_list R (z := 1) (es := ns.map nxRow) (by decide) (by simpa using ho) (fun r hr => ?_) fun i r hr j x hx => ?_
  · obtain ⟨y, _, rfl⟩ := List.mem_map.1 hr; rfl
  · rw [List.getElem?_map] at hr
    cases hi : ns[i]? with
    | none => rw [hi] at hr; cases hr
    | some y =>
      rw [hi] at hr
      simp only [Option.map_some, Option.some.injEq] at hr
      subst hr
      cases j with
      | zero =>
        simp only [nxRow, List.getElem?_cons_zero, Option.some.injEq] at hx
        subst hx
        have : (ns.map (Value.int .i64)).getD (i * 1 + 0) undef = .int .i64 y := by simp [List.getD_eq_getElem?_getD, hi]
        rw [this]; exact .int _ _
      | succ j => simp [nxRow] at hx
theorem ownsRow_rel {w : World} {b b' : Nat} (h : b' ≤ b) {e : TypeId} {z n : Nat} {v : Value} {xs : List Value} (ho : w.ownsRow b e z v n xs) : w.ownsRow b' e z v n xs := by
  obtain ⟨h1, h2 | ⟨g, cap, cur, h3, h4, h5⟩⟩ := ho
  · exact ⟨h1, .inl h2⟩
  · exact ⟨h1, .inr ⟨g, cap, cur, h3, by omega, h5⟩⟩
end Go.Proofs.Ytpiocfmdjgbamaa

/- The shelf's contracts at this dump, in plain words (printed by the kit's lay-plain.mjs). -/
namespace Go.Proofs
open Go.Shelf
def Try.sortFL_ren : Go.Shelf.Ren := ⟨fun | 6 => 56 | 15 => 86 | 14 => 85 | 28 => 111 | 29 => 112 | 20 => 103 | 21 => 104 | 22 => 105 | 23 => 106 | 24 => 107 | 25 => 108 | 26 => 109 | 27 => 110 | 46 => 125 | 47 => 126 | 48 => 127 | 49 => 128 | 50 => 129 | 57 => 135 | n => n, fun | 22 => 29 | 24 => 39 | 25 => 126 | 3 => 3 | 39 => 151 | 0 => 0 | 53 => 175 | 55 => 177 | 4 => 4 | 46 => 168 | 45 => 167 | 50 => 172 | 5 => 5 | 9 => 9 | 66 => 189 | 70 => 192 | 76 => 197 | 77 => 111 | n => n, fun | n => n⟩
theorem Try.sortFL : Go.Proofs.SlLaysF0.n6 Try.prog Try.sortFL_ren := {
  mixed := by kernel_rfl
  f6 := ⟨Try.f56.name, by decide, Try.func56.trans (congrArg some (by kernel_rfl))⟩
  f14 := ⟨Try.f85.name, by decide, Try.func85.trans (congrArg some (by kernel_rfl))⟩
  f15 := Try.func86.trans (congrArg some (by kernel_rfl))
  f20 := ⟨Try.f103.name, by decide, Try.func103.trans (congrArg some (by kernel_rfl))⟩
  f21 := ⟨Try.f104.name, by decide, Try.func104.trans (congrArg some (by kernel_rfl))⟩
  f22 := ⟨Try.f105.name, by decide, Try.func105.trans (congrArg some (by kernel_rfl))⟩
  f23 := ⟨Try.f106.name, by decide, Try.func106.trans (congrArg some (by kernel_rfl))⟩
  f24 := ⟨Try.f107.name, by decide, Try.func107.trans (congrArg some (by kernel_rfl))⟩
  f25 := ⟨Try.f108.name, by decide, Try.func108.trans (congrArg some (by kernel_rfl))⟩
  f26 := ⟨Try.f109.name, by decide, Try.func109.trans (congrArg some (by kernel_rfl))⟩
  f27 := ⟨Try.f110.name, by decide, Try.func110.trans (congrArg some (by kernel_rfl))⟩
  f28 := Try.func111.trans (congrArg some (by kernel_rfl))
  f29 := Try.func112.trans (congrArg some (by kernel_rfl))
  f46 := ⟨Try.f125.name, by decide, Try.func125.trans (congrArg some (by kernel_rfl))⟩
  f47 := Try.func126.trans (congrArg some (by kernel_rfl))
  f48 := Try.func127.trans (congrArg some (by kernel_rfl))
  f49 := ⟨Try.f128.name, by decide, Try.func128.trans (congrArg some (by kernel_rfl))⟩
  f50 := ⟨Try.f129.name, by decide, Try.func129.trans (congrArg some (by kernel_rfl))⟩
  f57 := ⟨Try.f135.name, by decide, Try.func135.trans (congrArg some (by kernel_rfl))⟩
  t0 := Try.underlying0
  a0 := Try.isAgg0
  z0 := Try.sizeOf0
  v0 := Try.zeroValue0
  t3 := Try.underlying3
  a3 := Try.isAgg3
  z3 := Try.sizeOf3
  v3 := Try.zeroValue3
  t4 := Try.underlying4
  a4 := Try.isAgg4
  z4 := Try.sizeOf4
  v4 := Try.zeroValue4
  t5 := Try.underlying5
  a5 := Try.isAgg5
  z5 := Try.sizeOf5
  v5 := Try.zeroValue5
  t9 := Try.underlying9
  a9 := Try.isAgg9
  z9 := Try.sizeOf9
  v9 := Try.zeroValue9
  t22 := Try.underlying29
  a22 := Try.isAgg29
  z22 := Try.sizeOf29
  v22 := Try.zeroValue29
  t25 := Try.underlying126
  a25 := Try.isAgg126
  z25 := Try.sizeOf126
  v25 := Try.zeroValue126
  t39 := Try.underlying151
  a39 := Try.isAgg151
  z39 := Try.sizeOf151
  v39 := Try.zeroValue151
  t45 := Try.underlying167
  a45 := Try.isAgg167
  z45 := Try.sizeOf167
  v45 := Try.zeroValue167
  t46 := Try.underlying168
  a46 := Try.isAgg168
  z46 := Try.sizeOf168
  v46 := Try.zeroValue168
  t50 := Try.underlying172
  a50 := Try.isAgg172
  z50 := Try.sizeOf172
  v50 := Try.zeroValue172
  t53 := Try.underlying175
  a53 := Try.isAgg175
  z53 := Try.sizeOf175
  v53 := Try.zeroValue175
  t55 := Try.underlying177
  a55 := Try.isAgg177
  z55 := Try.sizeOf177
  v55 := Try.zeroValue177
  t66 := Try.underlying189
  a66 := Try.isAgg189
  z66 := Try.sizeOf189
  v66 := Try.zeroValue189
  t70 := Try.underlying192
  a70 := Try.isAgg192
  z70 := Try.sizeOf192
  v70 := Try.zeroValue192
  t76 := Try.underlying197
  a76 := Try.isAgg197
  z76 := Try.sizeOf197
  v76 := Try.zeroValue197
  t77 := Try.underlying111
  a77 := Try.isAgg111
  z77 := Try.sizeOf111
  v77 := Try.zeroValue111 }
def Try.cloneL_ren : Go.Shelf.Ren := ⟨fun | 41 => 84 | n => n, fun | 22 => 47 | 23 => 3 | 4 => 4 | n => n, fun | n => n⟩
theorem Try.cloneL : Go.Proofs.SlLaysE0.n41 Try.prog Try.cloneL_ren := {
  mixed := by kernel_rfl
  f41 := ⟨Try.f84.name, by decide, Try.func84.trans (congrArg some (by kernel_rfl))⟩
  t4 := Try.underlying4
  a4 := Try.isAgg4
  z4 := Try.sizeOf4
  v4 := Try.zeroValue4
  t22 := Try.underlying47
  a22 := Try.isAgg47
  z22 := Try.sizeOf47
  v22 := Try.zeroValue47 }
def Try.sortL64_ren : Go.Shelf.Ren := ⟨fun | 5 => 77 | 8 => 86 | 7 => 100 | 19 => 111 | 20 => 112 | 10 => 116 | 11 => 117 | 12 => 118 | 13 => 119 | 14 => 120 | 15 => 121 | 16 => 122 | 17 => 123 | 18 => 124 | 30 => 131 | 31 => 126 | 32 => 127 | 33 => 132 | 34 => 133 | 35 => 134 | 40 => 136 | n => n, fun | 23 => 88 | 25 => 2 | 3 => 3 | 32 => 151 | 22 => 88 | 0 => 0 | 44 => 175 | 46 => 177 | 4 => 4 | 36 => 168 | 35 => 167 | 41 => 172 | 5 => 5 | 9 => 9 | 53 => 189 | 57 => 192 | 63 => 197 | 64 => 111 | n => n, fun | n => n⟩
theorem Try.sortL64 : Go.Proofs.SlLaysM.n5 Try.prog Try.sortL64_ren := {
  mixed := by kernel_rfl
  f5 := ⟨Try.f77.name, by decide, Try.func77.trans (congrArg some (by kernel_rfl))⟩
  f7 := ⟨Try.f100.name, by decide, Try.func100.trans (congrArg some (by kernel_rfl))⟩
  f8 := Try.func86.trans (congrArg some (by kernel_rfl))
  f10 := ⟨Try.f116.name, by decide, Try.func116.trans (congrArg some (by kernel_rfl))⟩
  f11 := ⟨Try.f117.name, by decide, Try.func117.trans (congrArg some (by kernel_rfl))⟩
  f12 := ⟨Try.f118.name, by decide, Try.func118.trans (congrArg some (by kernel_rfl))⟩
  f13 := ⟨Try.f119.name, by decide, Try.func119.trans (congrArg some (by kernel_rfl))⟩
  f14 := ⟨Try.f120.name, by decide, Try.func120.trans (congrArg some (by kernel_rfl))⟩
  f15 := ⟨Try.f121.name, by decide, Try.func121.trans (congrArg some (by kernel_rfl))⟩
  f16 := ⟨Try.f122.name, by decide, Try.func122.trans (congrArg some (by kernel_rfl))⟩
  f17 := ⟨Try.f123.name, by decide, Try.func123.trans (congrArg some (by kernel_rfl))⟩
  f18 := ⟨Try.f124.name, by decide, Try.func124.trans (congrArg some (by kernel_rfl))⟩
  f19 := Try.func111.trans (congrArg some (by kernel_rfl))
  f20 := Try.func112.trans (congrArg some (by kernel_rfl))
  f30 := ⟨Try.f131.name, by decide, Try.func131.trans (congrArg some (by kernel_rfl))⟩
  f31 := Try.func126.trans (congrArg some (by kernel_rfl))
  f32 := Try.func127.trans (congrArg some (by kernel_rfl))
  f33 := ⟨Try.f132.name, by decide, Try.func132.trans (congrArg some (by kernel_rfl))⟩
  f34 := ⟨Try.f133.name, by decide, Try.func133.trans (congrArg some (by kernel_rfl))⟩
  f35 := ⟨Try.f134.name, by decide, Try.func134.trans (congrArg some (by kernel_rfl))⟩
  f40 := ⟨Try.f136.name, by decide, Try.func136.trans (congrArg some (by kernel_rfl))⟩
  t0 := Try.underlying0
  a0 := Try.isAgg0
  z0 := Try.sizeOf0
  v0 := Try.zeroValue0
  t3 := Try.underlying3
  a3 := Try.isAgg3
  z3 := Try.sizeOf3
  v3 := Try.zeroValue3
  t4 := Try.underlying4
  a4 := Try.isAgg4
  z4 := Try.sizeOf4
  v4 := Try.zeroValue4
  t5 := Try.underlying5
  a5 := Try.isAgg5
  z5 := Try.sizeOf5
  v5 := Try.zeroValue5
  t9 := Try.underlying9
  a9 := Try.isAgg9
  z9 := Try.sizeOf9
  v9 := Try.zeroValue9
  t22 := Try.underlying88
  a22 := Try.isAgg88
  z22 := Try.sizeOf88
  v22 := Try.zeroValue88
  t23 := Try.underlying88
  a23 := Try.isAgg88
  z23 := Try.sizeOf88
  v23 := Try.zeroValue88
  t25 := Try.underlying2
  a25 := Try.isAgg2
  z25 := Try.sizeOf2
  v25 := Try.zeroValue2
  t32 := Try.underlying151
  a32 := Try.isAgg151
  z32 := Try.sizeOf151
  v32 := Try.zeroValue151
  t35 := Try.underlying167
  a35 := Try.isAgg167
  z35 := Try.sizeOf167
  v35 := Try.zeroValue167
  t36 := Try.underlying168
  a36 := Try.isAgg168
  z36 := Try.sizeOf168
  v36 := Try.zeroValue168
  t41 := Try.underlying172
  a41 := Try.isAgg172
  z41 := Try.sizeOf172
  v41 := Try.zeroValue172
  t44 := Try.underlying175
  a44 := Try.isAgg175
  z44 := Try.sizeOf175
  v44 := Try.zeroValue175
  t46 := Try.underlying177
  a46 := Try.isAgg177
  z46 := Try.sizeOf177
  v46 := Try.zeroValue177
  t53 := Try.underlying189
  a53 := Try.isAgg189
  z53 := Try.sizeOf189
  v53 := Try.zeroValue189
  t57 := Try.underlying192
  a57 := Try.isAgg192
  z57 := Try.sizeOf192
  v57 := Try.zeroValue192
  t63 := Try.underlying197
  a63 := Try.isAgg197
  z63 := Try.sizeOf197
  v63 := Try.zeroValue197
  t64 := Try.underlying111
  a64 := Try.isAgg111
  z64 := Try.sizeOf111
  v64 := Try.zeroValue111 }
def Try.compactL_ren : Go.Shelf.Ren := ⟨fun | 43 => 78 | n => n, fun | 22 => 88 | 23 => 2 | 3 => 3 | 4 => 4 | 0 => 0 | n => n, fun | n => n⟩
theorem Try.compactL : Go.Proofs.SlLaysE.n43 Try.prog Try.compactL_ren := {
  mixed := by kernel_rfl
  f43 := ⟨Try.f78.name, by decide, Try.func78.trans (congrArg some (by kernel_rfl))⟩
  t0 := Try.underlying0
  a0 := Try.isAgg0
  z0 := Try.sizeOf0
  v0 := Try.zeroValue0
  t3 := Try.underlying3
  a3 := Try.isAgg3
  z3 := Try.sizeOf3
  v3 := Try.zeroValue3
  t4 := Try.underlying4
  a4 := Try.isAgg4
  z4 := Try.sizeOf4
  v4 := Try.zeroValue4
  t22 := Try.underlying88
  a22 := Try.isAgg88
  z22 := Try.sizeOf88
  v22 := Try.zeroValue88
  a23 := Try.isAgg2
  z23 := Try.sizeOf2 }
end Go.Proofs

/- A route's segments: by the kit's walk, as a contract of the engine. -/
namespace Go.Proofs.Ytpiocfmdjgbamaa
open Go Go.RowKit Go.Eng Go.Shelf
set_option maxRecDepth 100000
noncomputable def infI : TypeInfo := (Try.prog.info? 3).get (by kernel_rfl)
theorem c_clone (b off n c : Nat) (news : List Value) (w : World) (hl : news.length = n) (hn : n ≤ 12) (hc : ∀ j u, news[j]? = some u → w.cell? ⟨b, off + j, none⟩ = some u) (h1 : ∀ u ∈ news, u.oneCell' = true) :
    Calls Try.prog 84 #[.slice (some ⟨b, off, none⟩) n c] w fun e w' => ∃ v', e = .returned v' ∧ w'.ownsRow w.heap.size 3 1 v' n news ∧ v' ≠ .slice none 0 0 ∧ Below w.heap.size w w' :=
  AnyE.slices_Clone Try.cloneL infI (.int .i64 0) 1 8 (by kernel_rfl) (by kernel_rfl) (by kernel_rfl) (by kernel_rfl) rfl (by decide) Try.sizeOf3 b off n c news w (by omega) (by unfold maxLen; omega) (by omega) hc h1
theorem clone_box (vs : Array Value) (ty : TypeId) (k : Nat) (hk : k ≤ 12) (hv : vs.size = 13) (h1 : ∀ u ∈ vs.toList, u.oneCell' = true) (w : World) (news : List Value) (hnews : news = (vs.toList.drop 1).take k) :
    Calls Try.prog 84 #[.slice (some ⟨w.heap.size, 1, none⟩) k 12] (w.alloc (.cells vs ty)) fun e w' => ∃ v', e = .returned v' ∧ w'.ownsRow w.heap.size 3 1 v' k news ∧ Below w.heap.size w w' := by
  refine (c_clone w.heap.size 1 k 12 news _ (by rw [hnews]; simp; omega) hk (fun j u hj => ?_) (fun u hu => ?_)).mono ?_
  · rw [hnews, List.getElem?_take] at hj
    split at hj
    · rw [List.getElem?_drop] at hj
      have h2 : vs[1 + j]? = some u := by simpa using hj
      unfold World.cell?
      have h3 : (w.alloc (.cells vs ty)).heap[w.heap.size]? = some (.cells vs ty (0, 0)) := heap_alloc_new w _
      simp only [h3, Option.isSome_none, Bool.false_eq_true, if_false]
      exact h2
    · cases hj
  · rw [hnews] at hu
    exact h1 u (List.mem_of_mem_drop (List.mem_of_mem_take hu))
  · rintro e w' ⟨v', rfl, hown, _, hbel⟩
    exact ⟨v', rfl, ownsRow_rel (by simp) hown, ((Below.refl _ w).alloc (Nat.le_refl _) _).trans (hbel.mono (by simp))⟩
theorem path_walk0 (N s0 s1 s2 s3 s4 s5 s6 s7 s8 s9 s10 s11 : Int) (hk : min (max N 0) 12 = 0) (w : World) :
    Calls Try.prog 54 #[.agg #[.int .i64 N, .int .i64 s0, .int .i64 s1, .int .i64 s2, .int .i64 s3, .int .i64 s4, .int .i64 s5, .int .i64 s6, .int .i64 s7, .int .i64 s8, .int .i64 s9, .int .i64 s10, .int .i64 s11]] w fun e w' => ∃ v', e = .returned v' ∧ w'.ownsRow w.heap.size 3 1 v' 0 [] ∧ Below w.heap.size w w' := by
  have hc := clone_box #[.int .i64 N, .int .i64 s0, .int .i64 s1, .int .i64 s2, .int .i64 s3, .int .i64 s4, .int .i64 s5, .int .i64 s6, .int .i64 s7, .int .i64 s8, .int .i64 s9, .int .i64 s10, .int .i64 s11] 39 0 (by decide) rfl (fun u hu => by simp at hu; rcases hu with rfl | rfl | rfl | rfl | rfl | rfl | rfl | rfl | rfl | rfl | rfl | rfl | rfl <;> rfl) w [] rfl
  go_enter Try.func54, Try.ntmps54
  go_wp2_with (go_at_call 84; refine hc.mono ?_; rintro e w' ⟨v', rfl, hown, hbel⟩)
  go_ret
  exact ⟨_, rfl, hown, hbel⟩
theorem path_walk1 (N s0 s1 s2 s3 s4 s5 s6 s7 s8 s9 s10 s11 : Int) (hk : min (max N 0) 12 = 1) (w : World) :
    Calls Try.prog 54 #[.agg #[.int .i64 N, .int .i64 s0, .int .i64 s1, .int .i64 s2, .int .i64 s3, .int .i64 s4, .int .i64 s5, .int .i64 s6, .int .i64 s7, .int .i64 s8, .int .i64 s9, .int .i64 s10, .int .i64 s11]] w fun e w' => ∃ v', e = .returned v' ∧ w'.ownsRow w.heap.size 3 1 v' 1 [.int .i64 s0] ∧ Below w.heap.size w w' := by
  have hc := clone_box #[.int .i64 N, .int .i64 s0, .int .i64 s1, .int .i64 s2, .int .i64 s3, .int .i64 s4, .int .i64 s5, .int .i64 s6, .int .i64 s7, .int .i64 s8, .int .i64 s9, .int .i64 s10, .int .i64 s11] 39 1 (by decide) rfl (fun u hu => by simp at hu; rcases hu with rfl | rfl | rfl | rfl | rfl | rfl | rfl | rfl | rfl | rfl | rfl | rfl | rfl <;> rfl) w [.int .i64 s0] rfl
  go_enter Try.func54, Try.ntmps54
  go_wp2_with (go_at_call 84; refine hc.mono ?_; rintro e w' ⟨v', rfl, hown, hbel⟩)
  go_ret
  exact ⟨_, rfl, hown, hbel⟩
theorem path_walk2 (N s0 s1 s2 s3 s4 s5 s6 s7 s8 s9 s10 s11 : Int) (hk : min (max N 0) 12 = 2) (w : World) :
    Calls Try.prog 54 #[.agg #[.int .i64 N, .int .i64 s0, .int .i64 s1, .int .i64 s2, .int .i64 s3, .int .i64 s4, .int .i64 s5, .int .i64 s6, .int .i64 s7, .int .i64 s8, .int .i64 s9, .int .i64 s10, .int .i64 s11]] w fun e w' => ∃ v', e = .returned v' ∧ w'.ownsRow w.heap.size 3 1 v' 2 [.int .i64 s0, .int .i64 s1] ∧ Below w.heap.size w w' := by
  have hc := clone_box #[.int .i64 N, .int .i64 s0, .int .i64 s1, .int .i64 s2, .int .i64 s3, .int .i64 s4, .int .i64 s5, .int .i64 s6, .int .i64 s7, .int .i64 s8, .int .i64 s9, .int .i64 s10, .int .i64 s11] 39 2 (by decide) rfl (fun u hu => by simp at hu; rcases hu with rfl | rfl | rfl | rfl | rfl | rfl | rfl | rfl | rfl | rfl | rfl | rfl | rfl <;> rfl) w [.int .i64 s0, .int .i64 s1] rfl
  go_enter Try.func54, Try.ntmps54
  go_wp2_with (go_at_call 84; refine hc.mono ?_; rintro e w' ⟨v', rfl, hown, hbel⟩)
  go_ret
  exact ⟨_, rfl, hown, hbel⟩
theorem path_walk3 (N s0 s1 s2 s3 s4 s5 s6 s7 s8 s9 s10 s11 : Int) (hk : min (max N 0) 12 = 3) (w : World) :
    Calls Try.prog 54 #[.agg #[.int .i64 N, .int .i64 s0, .int .i64 s1, .int .i64 s2, .int .i64 s3, .int .i64 s4, .int .i64 s5, .int .i64 s6, .int .i64 s7, .int .i64 s8, .int .i64 s9, .int .i64 s10, .int .i64 s11]] w fun e w' => ∃ v', e = .returned v' ∧ w'.ownsRow w.heap.size 3 1 v' 3 [.int .i64 s0, .int .i64 s1, .int .i64 s2] ∧ Below w.heap.size w w' := by
  have hc := clone_box #[.int .i64 N, .int .i64 s0, .int .i64 s1, .int .i64 s2, .int .i64 s3, .int .i64 s4, .int .i64 s5, .int .i64 s6, .int .i64 s7, .int .i64 s8, .int .i64 s9, .int .i64 s10, .int .i64 s11] 39 3 (by decide) rfl (fun u hu => by simp at hu; rcases hu with rfl | rfl | rfl | rfl | rfl | rfl | rfl | rfl | rfl | rfl | rfl | rfl | rfl <;> rfl) w [.int .i64 s0, .int .i64 s1, .int .i64 s2] rfl
  go_enter Try.func54, Try.ntmps54
  go_wp2_with (go_at_call 84; refine hc.mono ?_; rintro e w' ⟨v', rfl, hown, hbel⟩)
  go_ret
  exact ⟨_, rfl, hown, hbel⟩
theorem path_walk4 (N s0 s1 s2 s3 s4 s5 s6 s7 s8 s9 s10 s11 : Int) (hk : min (max N 0) 12 = 4) (w : World) :
    Calls Try.prog 54 #[.agg #[.int .i64 N, .int .i64 s0, .int .i64 s1, .int .i64 s2, .int .i64 s3, .int .i64 s4, .int .i64 s5, .int .i64 s6, .int .i64 s7, .int .i64 s8, .int .i64 s9, .int .i64 s10, .int .i64 s11]] w fun e w' => ∃ v', e = .returned v' ∧ w'.ownsRow w.heap.size 3 1 v' 4 [.int .i64 s0, .int .i64 s1, .int .i64 s2, .int .i64 s3] ∧ Below w.heap.size w w' := by
  have hc := clone_box #[.int .i64 N, .int .i64 s0, .int .i64 s1, .int .i64 s2, .int .i64 s3, .int .i64 s4, .int .i64 s5, .int .i64 s6, .int .i64 s7, .int .i64 s8, .int .i64 s9, .int .i64 s10, .int .i64 s11] 39 4 (by decide) rfl (fun u hu => by simp at hu; rcases hu with rfl | rfl | rfl | rfl | rfl | rfl | rfl | rfl | rfl | rfl | rfl | rfl | rfl <;> rfl) w [.int .i64 s0, .int .i64 s1, .int .i64 s2, .int .i64 s3] rfl
  go_enter Try.func54, Try.ntmps54
  go_wp2_with (go_at_call 84; refine hc.mono ?_; rintro e w' ⟨v', rfl, hown, hbel⟩)
  go_ret
  exact ⟨_, rfl, hown, hbel⟩
theorem path_walk5 (N s0 s1 s2 s3 s4 s5 s6 s7 s8 s9 s10 s11 : Int) (hk : min (max N 0) 12 = 5) (w : World) :
    Calls Try.prog 54 #[.agg #[.int .i64 N, .int .i64 s0, .int .i64 s1, .int .i64 s2, .int .i64 s3, .int .i64 s4, .int .i64 s5, .int .i64 s6, .int .i64 s7, .int .i64 s8, .int .i64 s9, .int .i64 s10, .int .i64 s11]] w fun e w' => ∃ v', e = .returned v' ∧ w'.ownsRow w.heap.size 3 1 v' 5 [.int .i64 s0, .int .i64 s1, .int .i64 s2, .int .i64 s3, .int .i64 s4] ∧ Below w.heap.size w w' := by
  have hc := clone_box #[.int .i64 N, .int .i64 s0, .int .i64 s1, .int .i64 s2, .int .i64 s3, .int .i64 s4, .int .i64 s5, .int .i64 s6, .int .i64 s7, .int .i64 s8, .int .i64 s9, .int .i64 s10, .int .i64 s11] 39 5 (by decide) rfl (fun u hu => by simp at hu; rcases hu with rfl | rfl | rfl | rfl | rfl | rfl | rfl | rfl | rfl | rfl | rfl | rfl | rfl <;> rfl) w [.int .i64 s0, .int .i64 s1, .int .i64 s2, .int .i64 s3, .int .i64 s4] rfl
  go_enter Try.func54, Try.ntmps54
  go_wp2_with (go_at_call 84; refine hc.mono ?_; rintro e w' ⟨v', rfl, hown, hbel⟩)
  go_ret
  exact ⟨_, rfl, hown, hbel⟩
theorem path_walk6 (N s0 s1 s2 s3 s4 s5 s6 s7 s8 s9 s10 s11 : Int) (hk : min (max N 0) 12 = 6) (w : World) :
    Calls Try.prog 54 #[.agg #[.int .i64 N, .int .i64 s0, .int .i64 s1, .int .i64 s2, .int .i64 s3, .int .i64 s4, .int .i64 s5, .int .i64 s6, .int .i64 s7, .int .i64 s8, .int .i64 s9, .int .i64 s10, .int .i64 s11]] w fun e w' => ∃ v', e = .returned v' ∧ w'.ownsRow w.heap.size 3 1 v' 6 [.int .i64 s0, .int .i64 s1, .int .i64 s2, .int .i64 s3, .int .i64 s4, .int .i64 s5] ∧ Below w.heap.size w w' := by
  have hc := clone_box #[.int .i64 N, .int .i64 s0, .int .i64 s1, .int .i64 s2, .int .i64 s3, .int .i64 s4, .int .i64 s5, .int .i64 s6, .int .i64 s7, .int .i64 s8, .int .i64 s9, .int .i64 s10, .int .i64 s11] 39 6 (by decide) rfl (fun u hu => by simp at hu; rcases hu with rfl | rfl | rfl | rfl | rfl | rfl | rfl | rfl | rfl | rfl | rfl | rfl | rfl <;> rfl) w [.int .i64 s0, .int .i64 s1, .int .i64 s2, .int .i64 s3, .int .i64 s4, .int .i64 s5] rfl
  go_enter Try.func54, Try.ntmps54
  go_wp2_with (go_at_call 84; refine hc.mono ?_; rintro e w' ⟨v', rfl, hown, hbel⟩)
  go_ret
  exact ⟨_, rfl, hown, hbel⟩
theorem path_walk7 (N s0 s1 s2 s3 s4 s5 s6 s7 s8 s9 s10 s11 : Int) (hk : min (max N 0) 12 = 7) (w : World) :
    Calls Try.prog 54 #[.agg #[.int .i64 N, .int .i64 s0, .int .i64 s1, .int .i64 s2, .int .i64 s3, .int .i64 s4, .int .i64 s5, .int .i64 s6, .int .i64 s7, .int .i64 s8, .int .i64 s9, .int .i64 s10, .int .i64 s11]] w fun e w' => ∃ v', e = .returned v' ∧ w'.ownsRow w.heap.size 3 1 v' 7 [.int .i64 s0, .int .i64 s1, .int .i64 s2, .int .i64 s3, .int .i64 s4, .int .i64 s5, .int .i64 s6] ∧ Below w.heap.size w w' := by
  have hc := clone_box #[.int .i64 N, .int .i64 s0, .int .i64 s1, .int .i64 s2, .int .i64 s3, .int .i64 s4, .int .i64 s5, .int .i64 s6, .int .i64 s7, .int .i64 s8, .int .i64 s9, .int .i64 s10, .int .i64 s11] 39 7 (by decide) rfl (fun u hu => by simp at hu; rcases hu with rfl | rfl | rfl | rfl | rfl | rfl | rfl | rfl | rfl | rfl | rfl | rfl | rfl <;> rfl) w [.int .i64 s0, .int .i64 s1, .int .i64 s2, .int .i64 s3, .int .i64 s4, .int .i64 s5, .int .i64 s6] rfl
  go_enter Try.func54, Try.ntmps54
  go_wp2_with (go_at_call 84; refine hc.mono ?_; rintro e w' ⟨v', rfl, hown, hbel⟩)
  go_ret
  exact ⟨_, rfl, hown, hbel⟩
theorem path_walk8 (N s0 s1 s2 s3 s4 s5 s6 s7 s8 s9 s10 s11 : Int) (hk : min (max N 0) 12 = 8) (w : World) :
    Calls Try.prog 54 #[.agg #[.int .i64 N, .int .i64 s0, .int .i64 s1, .int .i64 s2, .int .i64 s3, .int .i64 s4, .int .i64 s5, .int .i64 s6, .int .i64 s7, .int .i64 s8, .int .i64 s9, .int .i64 s10, .int .i64 s11]] w fun e w' => ∃ v', e = .returned v' ∧ w'.ownsRow w.heap.size 3 1 v' 8 [.int .i64 s0, .int .i64 s1, .int .i64 s2, .int .i64 s3, .int .i64 s4, .int .i64 s5, .int .i64 s6, .int .i64 s7] ∧ Below w.heap.size w w' := by
  have hc := clone_box #[.int .i64 N, .int .i64 s0, .int .i64 s1, .int .i64 s2, .int .i64 s3, .int .i64 s4, .int .i64 s5, .int .i64 s6, .int .i64 s7, .int .i64 s8, .int .i64 s9, .int .i64 s10, .int .i64 s11] 39 8 (by decide) rfl (fun u hu => by simp at hu; rcases hu with rfl | rfl | rfl | rfl | rfl | rfl | rfl | rfl | rfl | rfl | rfl | rfl | rfl <;> rfl) w [.int .i64 s0, .int .i64 s1, .int .i64 s2, .int .i64 s3, .int .i64 s4, .int .i64 s5, .int .i64 s6, .int .i64 s7] rfl
  go_enter Try.func54, Try.ntmps54
  go_wp2_with (go_at_call 84; refine hc.mono ?_; rintro e w' ⟨v', rfl, hown, hbel⟩)
  go_ret
  exact ⟨_, rfl, hown, hbel⟩
theorem path_walk9 (N s0 s1 s2 s3 s4 s5 s6 s7 s8 s9 s10 s11 : Int) (hk : min (max N 0) 12 = 9) (w : World) :
    Calls Try.prog 54 #[.agg #[.int .i64 N, .int .i64 s0, .int .i64 s1, .int .i64 s2, .int .i64 s3, .int .i64 s4, .int .i64 s5, .int .i64 s6, .int .i64 s7, .int .i64 s8, .int .i64 s9, .int .i64 s10, .int .i64 s11]] w fun e w' => ∃ v', e = .returned v' ∧ w'.ownsRow w.heap.size 3 1 v' 9 [.int .i64 s0, .int .i64 s1, .int .i64 s2, .int .i64 s3, .int .i64 s4, .int .i64 s5, .int .i64 s6, .int .i64 s7, .int .i64 s8] ∧ Below w.heap.size w w' := by
  have hc := clone_box #[.int .i64 N, .int .i64 s0, .int .i64 s1, .int .i64 s2, .int .i64 s3, .int .i64 s4, .int .i64 s5, .int .i64 s6, .int .i64 s7, .int .i64 s8, .int .i64 s9, .int .i64 s10, .int .i64 s11] 39 9 (by decide) rfl (fun u hu => by simp at hu; rcases hu with rfl | rfl | rfl | rfl | rfl | rfl | rfl | rfl | rfl | rfl | rfl | rfl | rfl <;> rfl) w [.int .i64 s0, .int .i64 s1, .int .i64 s2, .int .i64 s3, .int .i64 s4, .int .i64 s5, .int .i64 s6, .int .i64 s7, .int .i64 s8] rfl
  go_enter Try.func54, Try.ntmps54
  go_wp2_with (go_at_call 84; refine hc.mono ?_; rintro e w' ⟨v', rfl, hown, hbel⟩)
  go_ret
  exact ⟨_, rfl, hown, hbel⟩
theorem path_walk10 (N s0 s1 s2 s3 s4 s5 s6 s7 s8 s9 s10 s11 : Int) (hk : min (max N 0) 12 = 10) (w : World) :
    Calls Try.prog 54 #[.agg #[.int .i64 N, .int .i64 s0, .int .i64 s1, .int .i64 s2, .int .i64 s3, .int .i64 s4, .int .i64 s5, .int .i64 s6, .int .i64 s7, .int .i64 s8, .int .i64 s9, .int .i64 s10, .int .i64 s11]] w fun e w' => ∃ v', e = .returned v' ∧ w'.ownsRow w.heap.size 3 1 v' 10 [.int .i64 s0, .int .i64 s1, .int .i64 s2, .int .i64 s3, .int .i64 s4, .int .i64 s5, .int .i64 s6, .int .i64 s7, .int .i64 s8, .int .i64 s9] ∧ Below w.heap.size w w' := by
  have hc := clone_box #[.int .i64 N, .int .i64 s0, .int .i64 s1, .int .i64 s2, .int .i64 s3, .int .i64 s4, .int .i64 s5, .int .i64 s6, .int .i64 s7, .int .i64 s8, .int .i64 s9, .int .i64 s10, .int .i64 s11] 39 10 (by decide) rfl (fun u hu => by simp at hu; rcases hu with rfl | rfl | rfl | rfl | rfl | rfl | rfl | rfl | rfl | rfl | rfl | rfl | rfl <;> rfl) w [.int .i64 s0, .int .i64 s1, .int .i64 s2, .int .i64 s3, .int .i64 s4, .int .i64 s5, .int .i64 s6, .int .i64 s7, .int .i64 s8, .int .i64 s9] rfl
  go_enter Try.func54, Try.ntmps54
  go_wp2_with (go_at_call 84; refine hc.mono ?_; rintro e w' ⟨v', rfl, hown, hbel⟩)
  go_ret
  exact ⟨_, rfl, hown, hbel⟩
theorem path_walk11 (N s0 s1 s2 s3 s4 s5 s6 s7 s8 s9 s10 s11 : Int) (hk : min (max N 0) 12 = 11) (w : World) :
    Calls Try.prog 54 #[.agg #[.int .i64 N, .int .i64 s0, .int .i64 s1, .int .i64 s2, .int .i64 s3, .int .i64 s4, .int .i64 s5, .int .i64 s6, .int .i64 s7, .int .i64 s8, .int .i64 s9, .int .i64 s10, .int .i64 s11]] w fun e w' => ∃ v', e = .returned v' ∧ w'.ownsRow w.heap.size 3 1 v' 11 [.int .i64 s0, .int .i64 s1, .int .i64 s2, .int .i64 s3, .int .i64 s4, .int .i64 s5, .int .i64 s6, .int .i64 s7, .int .i64 s8, .int .i64 s9, .int .i64 s10] ∧ Below w.heap.size w w' := by
  have hc := clone_box #[.int .i64 N, .int .i64 s0, .int .i64 s1, .int .i64 s2, .int .i64 s3, .int .i64 s4, .int .i64 s5, .int .i64 s6, .int .i64 s7, .int .i64 s8, .int .i64 s9, .int .i64 s10, .int .i64 s11] 39 11 (by decide) rfl (fun u hu => by simp at hu; rcases hu with rfl | rfl | rfl | rfl | rfl | rfl | rfl | rfl | rfl | rfl | rfl | rfl | rfl <;> rfl) w [.int .i64 s0, .int .i64 s1, .int .i64 s2, .int .i64 s3, .int .i64 s4, .int .i64 s5, .int .i64 s6, .int .i64 s7, .int .i64 s8, .int .i64 s9, .int .i64 s10] rfl
  go_enter Try.func54, Try.ntmps54
  go_wp2_with (go_at_call 84; refine hc.mono ?_; rintro e w' ⟨v', rfl, hown, hbel⟩)
  go_ret
  exact ⟨_, rfl, hown, hbel⟩
theorem path_walk12 (N s0 s1 s2 s3 s4 s5 s6 s7 s8 s9 s10 s11 : Int) (hk : min (max N 0) 12 = 12) (w : World) :
    Calls Try.prog 54 #[.agg #[.int .i64 N, .int .i64 s0, .int .i64 s1, .int .i64 s2, .int .i64 s3, .int .i64 s4, .int .i64 s5, .int .i64 s6, .int .i64 s7, .int .i64 s8, .int .i64 s9, .int .i64 s10, .int .i64 s11]] w fun e w' => ∃ v', e = .returned v' ∧ w'.ownsRow w.heap.size 3 1 v' 12 [.int .i64 s0, .int .i64 s1, .int .i64 s2, .int .i64 s3, .int .i64 s4, .int .i64 s5, .int .i64 s6, .int .i64 s7, .int .i64 s8, .int .i64 s9, .int .i64 s10, .int .i64 s11] ∧ Below w.heap.size w w' := by
  have hc := clone_box #[.int .i64 N, .int .i64 s0, .int .i64 s1, .int .i64 s2, .int .i64 s3, .int .i64 s4, .int .i64 s5, .int .i64 s6, .int .i64 s7, .int .i64 s8, .int .i64 s9, .int .i64 s10, .int .i64 s11] 39 12 (by decide) rfl (fun u hu => by simp at hu; rcases hu with rfl | rfl | rfl | rfl | rfl | rfl | rfl | rfl | rfl | rfl | rfl | rfl | rfl <;> rfl) w [.int .i64 s0, .int .i64 s1, .int .i64 s2, .int .i64 s3, .int .i64 s4, .int .i64 s5, .int .i64 s6, .int .i64 s7, .int .i64 s8, .int .i64 s9, .int .i64 s10, .int .i64 s11] rfl
  go_enter Try.func54, Try.ntmps54
  go_wp2_with (go_at_call 84; refine hc.mono ?_; rintro e w' ⟨v', rfl, hown, hbel⟩)
  go_ret
  exact ⟨_, rfl, hown, hbel⟩
theorem vrs_ints {C : Cfg} {ns : List Int} {us : Array Value} (h : VRs C (ns.map (AV.int .i64)) us) : us = (ns.map (Value.int .i64)).toArray := by
  obtain ⟨h1, h2⟩ := h
  apply Array.ext
  · simpa using h1
  · intro i hi hi2
    have hil : i < ns.length := by simpa using hi2
    have := (h2 i (.int .i64 ns[i]) (by simp [hil])).int'
    simp [hi] at this
    simp [this]
theorem vrs1 {C : Cfg} {x : AV} {vs : Array Value} (h : VRs C [x] vs) : ∃ v, vs = #[v] ∧ VR C x v := by
  obtain ⟨h1, h2⟩ := h
  have h3 := h2 0 x rfl
  obtain ⟨l⟩ := vs
  match l, h1 with
  | [v], _ => exact ⟨v, rfl, by simpa using h3⟩
theorem path_pure (cells : List Int) (N : Int) (k : Nat) (l : List Int) (hk : l.length = k) (H : ∀ w : World, Calls Try.prog 54 #[.agg (((N :: cells).map (Value.int .i64)).toArray)] w fun e w' => ∃ v', e = .returned v' ∧ w'.ownsRow w.heap.size 3 1 v' k (l.map (Value.int .i64)) ∧ Below w.heap.size w w') :
    PCalls Try.prog 54 [.agg ((N :: cells).map (AV.int .i64))] (· = .list 1 (l.map nxRow)) := by
  refine ⟨⟨_, Try.func54, by kernel_rfl, by kernel_rfl⟩, fun C vs hC RC hv => ?_⟩
  obtain ⟨v, rfl, hv1⟩ := vrs1 hv
  obtain ⟨us, rfl, hus⟩ := hv1.agg'
  rw [vrs_ints hus]
  refine (H C.w).mono ?_
  rintro e w' ⟨v', rfl, hown, hbel⟩
  obtain ⟨R1, E1⟩ := Rel.below RC hbel
  subst hk
  exact ⟨v', _, { C with w := w' }, rfl, rfl, hC, rfl, R1, ints_list RC hown, E1 _⟩
theorem e_path (N s0 s1 s2 s3 s4 s5 s6 s7 s8 s9 s10 s11 : Int) (l : List Int) (hl : l = [s0, s1, s2, s3, s4, s5, s6, s7, s8, s9, s10, s11].take (min (max N 0) 12).toNat) :
    PCalls Try.prog 54 [.agg [.int .i64 N, .int .i64 s0, .int .i64 s1, .int .i64 s2, .int .i64 s3, .int .i64 s4, .int .i64 s5, .int .i64 s6, .int .i64 s7, .int .i64 s8, .int .i64 s9, .int .i64 s10, .int .i64 s11]] (· = .list 1 (l.map nxRow)) := by
  have hc : min (max N 0) 12 = 0 ∨ min (max N 0) 12 = 1 ∨ min (max N 0) 12 = 2 ∨ min (max N 0) 12 = 3 ∨ min (max N 0) 12 = 4 ∨ min (max N 0) 12 = 5 ∨ min (max N 0) 12 = 6 ∨ min (max N 0) 12 = 7 ∨ min (max N 0) 12 = 8 ∨ min (max N 0) 12 = 9 ∨ min (max N 0) 12 = 10 ∨ min (max N 0) 12 = 11 ∨ min (max N 0) 12 = 12 := by omega
  rcases hc with hc | hc | hc | hc | hc | hc | hc | hc | hc | hc | hc | hc | hc <;> rw [hc] at hl
  · exact path_pure [s0, s1, s2, s3, s4, s5, s6, s7, s8, s9, s10, s11] N 0 l (by rw [hl]; rfl) fun w => by rw [hl]; exact path_walk0 N s0 s1 s2 s3 s4 s5 s6 s7 s8 s9 s10 s11 hc w
  · exact path_pure [s0, s1, s2, s3, s4, s5, s6, s7, s8, s9, s10, s11] N 1 l (by rw [hl]; rfl) fun w => by rw [hl]; exact path_walk1 N s0 s1 s2 s3 s4 s5 s6 s7 s8 s9 s10 s11 hc w
  · exact path_pure [s0, s1, s2, s3, s4, s5, s6, s7, s8, s9, s10, s11] N 2 l (by rw [hl]; rfl) fun w => by rw [hl]; exact path_walk2 N s0 s1 s2 s3 s4 s5 s6 s7 s8 s9 s10 s11 hc w
  · exact path_pure [s0, s1, s2, s3, s4, s5, s6, s7, s8, s9, s10, s11] N 3 l (by rw [hl]; rfl) fun w => by rw [hl]; exact path_walk3 N s0 s1 s2 s3 s4 s5 s6 s7 s8 s9 s10 s11 hc w
  · exact path_pure [s0, s1, s2, s3, s4, s5, s6, s7, s8, s9, s10, s11] N 4 l (by rw [hl]; rfl) fun w => by rw [hl]; exact path_walk4 N s0 s1 s2 s3 s4 s5 s6 s7 s8 s9 s10 s11 hc w
  · exact path_pure [s0, s1, s2, s3, s4, s5, s6, s7, s8, s9, s10, s11] N 5 l (by rw [hl]; rfl) fun w => by rw [hl]; exact path_walk5 N s0 s1 s2 s3 s4 s5 s6 s7 s8 s9 s10 s11 hc w
  · exact path_pure [s0, s1, s2, s3, s4, s5, s6, s7, s8, s9, s10, s11] N 6 l (by rw [hl]; rfl) fun w => by rw [hl]; exact path_walk6 N s0 s1 s2 s3 s4 s5 s6 s7 s8 s9 s10 s11 hc w
  · exact path_pure [s0, s1, s2, s3, s4, s5, s6, s7, s8, s9, s10, s11] N 7 l (by rw [hl]; rfl) fun w => by rw [hl]; exact path_walk7 N s0 s1 s2 s3 s4 s5 s6 s7 s8 s9 s10 s11 hc w
  · exact path_pure [s0, s1, s2, s3, s4, s5, s6, s7, s8, s9, s10, s11] N 8 l (by rw [hl]; rfl) fun w => by rw [hl]; exact path_walk8 N s0 s1 s2 s3 s4 s5 s6 s7 s8 s9 s10 s11 hc w
  · exact path_pure [s0, s1, s2, s3, s4, s5, s6, s7, s8, s9, s10, s11] N 9 l (by rw [hl]; rfl) fun w => by rw [hl]; exact path_walk9 N s0 s1 s2 s3 s4 s5 s6 s7 s8 s9 s10 s11 hc w
  · exact path_pure [s0, s1, s2, s3, s4, s5, s6, s7, s8, s9, s10, s11] N 10 l (by rw [hl]; rfl) fun w => by rw [hl]; exact path_walk10 N s0 s1 s2 s3 s4 s5 s6 s7 s8 s9 s10 s11 hc w
  · exact path_pure [s0, s1, s2, s3, s4, s5, s6, s7, s8, s9, s10, s11] N 11 l (by rw [hl]; rfl) fun w => by rw [hl]; exact path_walk11 N s0 s1 s2 s3 s4 s5 s6 s7 s8 s9 s10 s11 hc w
  · exact path_pure [s0, s1, s2, s3, s4, s5, s6, s7, s8, s9, s10, s11] N 12 l (by rw [hl]; rfl) fun w => by rw [hl]; exact path_walk12 N s0 s1 s2 s3 s4 s5 s6 s7 s8 s9 s10 s11 hc w
end Go.Proofs.Ytpiocfmdjgbamaa

/- The order of two routes: by the kit's walk. -/
namespace Go.Proofs.Ytpiocfmdjgbamaa
open Go Go.RowKit Go.Eng Go.Shelf
set_option maxRecDepth 100000
def cmpI' (x y : Int) : Int := if x < y then -1 else if y < x then 1 else 0
theorem c_nan (a : Int) (w : World) : Calls Try.prog 113 #[.int .i64 a] w fun e w' => e = .returned (.bool false) ∧ w' = w := by
  go_enter Try.func113, Try.ntmps113
  go_wp2
  go_ret
  simp
theorem c_cmpc (a b : Int) (w : World) : Calls Try.prog 89 #[.int .i64 a, .int .i64 b] w fun e w' => e = .returned (.int .i64 (cmpI' a b)) ∧ w' = w := by
  go_enter Try.func89, Try.ntmps89
  go_wp2_with (go_at_call 113; refine (c_nan _ _).mono ?_; rintro e w' ⟨rfl, rfl⟩)
  all_goals go_ret
  all_goals (refine ⟨?_, rfl⟩; unfold cmpI'; (repeat' split) <;> first | rfl | omega)
def cmpL : List Int → List Int → Int
  | a :: l, b :: m => if cmpI' a b = 0 then cmpL l m else cmpI' a b
  | _, _ => 0
theorem c_compare (p q : Nat) (a0 a1 a2 a3 a4 a5 a6 a7 a8 a9 a10 a11 b0 b1 b2 b3 b4 b5 b6 b7 b8 b9 b10 b11 : Int) (w : World)
    (hp0 : w.cell? ⟨p, 1, none⟩ = some (.int .i64 a0)) (hq0 : w.cell? ⟨q, 1, none⟩ = some (.int .i64 b0))
    (hp1 : w.cell? ⟨p, 2, none⟩ = some (.int .i64 a1)) (hq1 : w.cell? ⟨q, 2, none⟩ = some (.int .i64 b1))
    (hp2 : w.cell? ⟨p, 3, none⟩ = some (.int .i64 a2)) (hq2 : w.cell? ⟨q, 3, none⟩ = some (.int .i64 b2))
    (hp3 : w.cell? ⟨p, 4, none⟩ = some (.int .i64 a3)) (hq3 : w.cell? ⟨q, 4, none⟩ = some (.int .i64 b3))
    (hp4 : w.cell? ⟨p, 5, none⟩ = some (.int .i64 a4)) (hq4 : w.cell? ⟨q, 5, none⟩ = some (.int .i64 b4))
    (hp5 : w.cell? ⟨p, 6, none⟩ = some (.int .i64 a5)) (hq5 : w.cell? ⟨q, 6, none⟩ = some (.int .i64 b5))
    (hp6 : w.cell? ⟨p, 7, none⟩ = some (.int .i64 a6)) (hq6 : w.cell? ⟨q, 7, none⟩ = some (.int .i64 b6))
    (hp7 : w.cell? ⟨p, 8, none⟩ = some (.int .i64 a7)) (hq7 : w.cell? ⟨q, 8, none⟩ = some (.int .i64 b7))
    (hp8 : w.cell? ⟨p, 9, none⟩ = some (.int .i64 a8)) (hq8 : w.cell? ⟨q, 9, none⟩ = some (.int .i64 b8))
    (hp9 : w.cell? ⟨p, 10, none⟩ = some (.int .i64 a9)) (hq9 : w.cell? ⟨q, 10, none⟩ = some (.int .i64 b9))
    (hp10 : w.cell? ⟨p, 11, none⟩ = some (.int .i64 a10)) (hq10 : w.cell? ⟨q, 11, none⟩ = some (.int .i64 b10))
    (hp11 : w.cell? ⟨p, 12, none⟩ = some (.int .i64 a11)) (hq11 : w.cell? ⟨q, 12, none⟩ = some (.int .i64 b11))
    : Calls Try.prog 88 #[.slice (some ⟨p, 1, none⟩) 12 12, .slice (some ⟨q, 1, none⟩) 12 12] w fun e w' => e = .returned (.int .i64 (cmpL [a0, a1, a2, a3, a4, a5, a6, a7, a8, a9, a10, a11] [b0, b1, b2, b3, b4, b5, b6, b7, b8, b9, b10, b11])) ∧ w' = w := by
  go_enter Try.func88, Try.ntmps88
  go_wp2_with (fail)
  refine wp_loop_rounds 13 ?_
  go_wp2_with (first | (with_reducible refine rounds_mk ?_) | (go_at_call 89; refine (c_cmpc _ _ _).mono ?_; rintro e w' ⟨rfl, rfl⟩))
  all_goals go_ret
  all_goals (clear hp0 hq0 hp1 hq1 hp2 hq2 hp3 hq3 hp4 hq4 hp5 hq5 hp6 hq6 hp7 hq7 hp8 hq8 hp9 hq9 hp10 hq10 hp11 hq11)
  all_goals simp only [bne_iff_ne, ne_eq, bne_eq_false_iff_eq] at *
  all_goals (simp only [cmpL, *]; simp)
end Go.Proofs.Ytpiocfmdjgbamaa

/- The order of two routes, and their sorting: by the kit's walk. -/
namespace Go.Proofs.Ytpiocfmdjgbamaa
open Go Go.RowKit Go.Eng Go.Shelf Go.Sort
set_option maxRecDepth 100000
theorem c_or (p : Nat) (a b : Int) (w : World) (h0 : w.cell? ⟨p, 0, none⟩ = some (.int .i64 a)) (h1 : w.cell? ⟨p, 1, none⟩ = some (.int .i64 b)) :
    Calls Try.prog 87 #[.slice (some ⟨p, 0, none⟩) 2 2] w fun e w' => e = .returned (.int .i64 (if a = 0 then b else a)) ∧ w' = w := by
  go_enter Try.func87, Try.ntmps87
  go_wp2_with (fail)
  refine wp_loop_rounds 3 ?_
  go_wp2_with (first | (with_reducible refine rounds_mk ?_))
  all_goals go_ret
  all_goals (clear h0 h1)
  all_goals simp only [bne_iff_ne, ne_eq, bne_eq_false_iff_eq] at *
  all_goals first | (simp [*]; done) | (simp [*]; omega) | omega
theorem alloc2 (w : World) (A B : Array Value) (ty : TypeId) : Go.LD.BelD w ((w.alloc (.cells A ty)).alloc (.cells B ty)) ∧ (∀ i, ((w.alloc (.cells A ty)).alloc (.cells B ty)).cell? ⟨w.heap.size, i, none⟩ = A[i]?) ∧ (∀ i, ((w.alloc (.cells A ty)).alloc (.cells B ty)).cell? ⟨w.heap.size + 1, i, none⟩ = B[i]?) := by
  have e1 : ((w.alloc (.cells A ty)).alloc (.cells B ty)).heap[w.heap.size]? = some (.cells A ty (0, 0)) := by
    rw [Below.heap_alloc _ _ _ (by simp)]; exact heap_alloc_new w _
  have e2 : ((w.alloc (.cells A ty)).alloc (.cells B ty)).heap[w.heap.size + 1]? = some (.cells B ty (0, 0)) := by
    have := heap_alloc_new (w.alloc (.cells A ty)) (.cells B ty)
    simpa using this
  refine ⟨⟨((Below.refl _ w).alloc (Nat.le_refl _) _).alloc (by simp) _, Nat.le_refl _⟩, fun i => ?_, fun i => ?_⟩
  · unfold World.cell?; simp only [e1, Option.isSome_none, Bool.false_eq_true, if_false]
  · unfold World.cell?; simp only [e2, Option.isSome_none, Bool.false_eq_true, if_false]
def evO (p b : Nat) (M N C D : Int) : Operand → Value
  | .tmp 2 => .pointer (some ⟨p, 0, none⟩)
  | .tmp 3 => .pointer (some ⟨p + 1, 0, none⟩)
  | .tmp 5 => .pointer (some ⟨p, 1, none⟩)
  | .tmp 6 => .slice (some ⟨p, 1, none⟩) 12 12
  | .tmp 7 => .pointer (some ⟨p + 1, 1, none⟩)
  | .tmp 8 => .slice (some ⟨p + 1, 1, none⟩) 12 12
  | .tmp 9 => .int .i64 C
  | .tmp 10 => .pointer (some ⟨p, 0, none⟩)
  | .tmp 11 => .int .i64 M
  | .tmp 12 => .pointer (some ⟨p + 1, 0, none⟩)
  | .tmp 13 => .int .i64 N
  | .tmp 14 => .int .i64 D
  | .tmp 15 => .slice (some ⟨b, 0, none⟩) 2 2
  | .tmp 16 => .int .i64 (if C = 0 then D else C)
  | .func f => .func (.func f) #[] #[]
  | _ => undef
theorem order_walk (M a0 a1 a2 a3 a4 a5 a6 a7 a8 a9 a10 a11 N b0 b1 b2 b3 b4 b5 b6 b7 b8 b9 b10 b11 : Int) (w : World) :
    Calls Try.prog 57 #[.agg #[.int .i64 M, .int .i64 a0, .int .i64 a1, .int .i64 a2, .int .i64 a3, .int .i64 a4, .int .i64 a5, .int .i64 a6, .int .i64 a7, .int .i64 a8, .int .i64 a9, .int .i64 a10, .int .i64 a11], .agg #[.int .i64 N, .int .i64 b0, .int .i64 b1, .int .i64 b2, .int .i64 b3, .int .i64 b4, .int .i64 b5, .int .i64 b6, .int .i64 b7, .int .i64 b8, .int .i64 b9, .int .i64 b10, .int .i64 b11]] w fun e w' => e = .returned (.int .i64 (if cmpL [a0, a1, a2, a3, a4, a5, a6, a7, a8, a9, a10, a11] [b0, b1, b2, b3, b4, b5, b6, b7, b8, b9, b10, b11] = 0 then cmpI' M N else cmpL [a0, a1, a2, a3, a4, a5, a6, a7, a8, a9, a10, a11] [b0, b1, b2, b3, b4, b5, b6, b7, b8, b9, b10, b11])) ∧ ∃ q os', w' = grow (w.drewN q) os' := by
  obtain ⟨hW0, hA, hB⟩ := alloc2 w #[.int .i64 M, .int .i64 a0, .int .i64 a1, .int .i64 a2, .int .i64 a3, .int .i64 a4, .int .i64 a5, .int .i64 a6, .int .i64 a7, .int .i64 a8, .int .i64 a9, .int .i64 a10, .int .i64 a11] #[.int .i64 N, .int .i64 b0, .int .i64 b1, .int .i64 b2, .int .i64 b3, .int .i64 b4, .int .i64 b5, .int .i64 b6, .int .i64 b7, .int .i64 b8, .int .i64 b9, .int .i64 b10, .int .i64 b11] 39
  go_enter Try.func57, Try.ntmps57
  go_wp2_with (fail)
  generalize World.alloc (World.alloc w _) _ = W at *
  obtain ⟨p, ep⟩ : ∃ x, w.heap.size = x := ⟨_, rfl⟩
  rw [ep] at hA hB
  simp only [ep]
  obtain ⟨C, eC⟩ : ∃ x, cmpL [a0, a1, a2, a3, a4, a5, a6, a7, a8, a9, a10, a11] [b0, b1, b2, b3, b4, b5, b6, b7, b8, b9, b10, b11] = x := ⟨_, rfl⟩
  obtain ⟨D, eD⟩ : ∃ x, cmpI' M N = x := ⟨_, rfl⟩
  refine Go.LD.wp_region_local 13 (fun _ => False) (fun i v w => match i with
    | 0 => v = .pointer (some ⟨p, 1, none⟩)
    | 1 => v = .slice (some ⟨p, 1, none⟩) 12 12
    | 2 => v = .pointer (some ⟨p + 1, 1, none⟩)
    | 3 => v = .slice (some ⟨p + 1, 1, none⟩) 12 12
    | 4 => v = .int .i64 C
    | 5 => v = .pointer (some ⟨p, 0, none⟩)
    | 6 => v = .int .i64 M
    | 7 => v = .pointer (some ⟨p + 1, 0, none⟩)
    | 8 => v = .int .i64 N
    | 9 => v = .int .i64 D
    | 10 => ∃ b, v = .slice (some ⟨b, 0, none⟩) 2 2 ∧ w.cell? ⟨b, 0, none⟩ = some (.int .i64 C) ∧ w.cell? ⟨b, 1, none⟩ = some (.int .i64 D)
    | _ => v = .int .i64 (if C = 0 then D else C)) (by kernel_rfl) (by kernel_rfl) ?hV ?hop ?hend
  case hV =>
    intro i v w1 w2 hv hb
    match i, hv with
    | 10, hv =>
      obtain ⟨b, h1, h2, h3⟩ := hv
      have hlt := World.block_lt_of_cell? _ _ h2
      exact ⟨b, h1, by rw [World.cell?_of_block (hb.b.block b hlt)]; exact h2, by rw [World.cell?_of_block (hb.b.block b hlt)]; exact h3⟩
    | 0, hv => exact hv
    | 1, hv => exact hv
    | 2, hv => exact hv
    | 3, hv => exact hv
    | 4, hv => exact hv
    | 5, hv => exact hv
    | 6, hv => exact hv
    | 7, hv => exact hv
    | 8, hv => exact hv
    | 9, hv => exact hv
    | i + 11, hv => exact hv
  case hop =>
    intro i o hi ho a w1 hb hsz hfr hdep K hK
    have f2 : a.tmps.getD 2 undef = .pointer (some ⟨p, 0, none⟩) := hfr 2 (fun j o hj ho => by
      match j, hj, ho with
      | 0, hj, ho => simp at ho; subst ho; decide
      | 1, hj, ho => simp at ho; subst ho; decide
      | 2, hj, ho => simp at ho; subst ho; decide
      | 3, hj, ho => simp at ho; subst ho; decide
      | 4, hj, ho => simp at ho; subst ho; decide
      | 5, hj, ho => simp at ho; subst ho; decide
      | 6, hj, ho => simp at ho; subst ho; decide
      | 7, hj, ho => simp at ho; subst ho; decide
      | 8, hj, ho => simp at ho; subst ho; decide
      | 9, hj, ho => simp at ho; subst ho; decide
      | 10, hj, ho => simp at ho; subst ho; decide
      | 11, hj, ho => simp at ho; subst ho; decide
      | 12, hj, ho => simp at ho; subst ho; decide
      | j + 13, hj, ho => omega)
    have f3 : a.tmps.getD 3 undef = .pointer (some ⟨p + 1, 0, none⟩) := hfr 3 (fun j o hj ho => by
      match j, hj, ho with
      | 0, hj, ho => simp at ho; subst ho; decide
      | 1, hj, ho => simp at ho; subst ho; decide
      | 2, hj, ho => simp at ho; subst ho; decide
      | 3, hj, ho => simp at ho; subst ho; decide
      | 4, hj, ho => simp at ho; subst ho; decide
      | 5, hj, ho => simp at ho; subst ho; decide
      | 6, hj, ho => simp at ho; subst ho; decide
      | 7, hj, ho => simp at ho; subst ho; decide
      | 8, hj, ho => simp at ho; subst ho; decide
      | 9, hj, ho => simp at ho; subst ho; decide
      | 10, hj, ho => simp at ho; subst ho; decide
      | 11, hj, ho => simp at ho; subst ho; decide
      | 12, hj, ho => simp at ho; subst ho; decide
      | j + 13, hj, ho => omega)
    clear hfr
    have hcp : ∀ (c i : Nat) (v : Value), W.cell? ⟨c, i, none⟩ = some v → w1.cell? ⟨c, i, none⟩ = some v := fun c i v h => by
      rw [World.cell?_of_block (hb.b.block c (World.block_lt_of_cell? _ _ h))]; exact h
    have ev : ∀ (b : Nat) (o : Oper) (hs : ∀ cs b, o.op ≠ .select cs b), (∀ x ∈ o.op.operands, a.eval x = evO p b M N C D x) → execOp a.eval o = execOp (evO p b M N C D) o := fun b o hs h => execOp_congr o hs h
    match i, hi, ho with
    | 0, hi, ho =>
      simp only [List.getElem?_toArray, List.getElem?_cons_zero, List.getElem?_cons_succ, Option.some.injEq] at ho
      subst ho
      unfold Oper.wp
      rw [ev 0]
      rotate_left 1
      · intro cs b h; cases h
      · intro x hx; simp [Op.operands, Call.operands] at hx; (first | (rcases hx with rfl) | subst hx) <;> first | rfl | exact f2
      clear ev hdep
      simp only [execOp, evO]
      go_simp
      exact hK _ _ (Go.LD.BelD.refl _) rfl (fun h => h.elim)
    | 1, hi, ho =>
      simp only [List.getElem?_toArray, List.getElem?_cons_zero, List.getElem?_cons_succ, Option.some.injEq] at ho
      subst ho
      have f5 := hdep ⟨0, .data⟩ (by simp) (by rfl) _ rfl
      unfold Oper.wp
      rw [ev 0]
      rotate_left 1
      · intro cs b h; cases h
      · intro x hx; simp [Op.operands, Call.operands] at hx; (first | (rcases hx with rfl) | subst hx) <;> first | rfl | exact f5
      clear ev hdep
      simp only [execOp, evO]
      go_simp
      exact hK _ _ (Go.LD.BelD.refl _) rfl (fun h => h.elim)
    | 2, hi, ho =>
      simp only [List.getElem?_toArray, List.getElem?_cons_zero, List.getElem?_cons_succ, Option.some.injEq] at ho
      subst ho
      unfold Oper.wp
      rw [ev 0]
      rotate_left 1
      · intro cs b h; cases h
      · intro x hx; simp [Op.operands, Call.operands] at hx; (first | (rcases hx with rfl) | subst hx) <;> first | rfl | exact f3
      clear ev hdep
      simp only [execOp, evO]
      go_simp
      exact hK _ _ (Go.LD.BelD.refl _) rfl (fun h => h.elim)
    | 3, hi, ho =>
      simp only [List.getElem?_toArray, List.getElem?_cons_zero, List.getElem?_cons_succ, Option.some.injEq] at ho
      subst ho
      have f7 := hdep ⟨2, .data⟩ (by simp) (by rfl) _ rfl
      unfold Oper.wp
      rw [ev 0]
      rotate_left 1
      · intro cs b h; cases h
      · intro x hx; simp [Op.operands, Call.operands] at hx; (first | (rcases hx with rfl) | subst hx) <;> first | rfl | exact f7
      clear ev hdep
      simp only [execOp, evO]
      go_simp
      exact hK _ _ (Go.LD.BelD.refl _) rfl (fun h => h.elim)
    | 4, hi, ho =>
      simp only [List.getElem?_toArray, List.getElem?_cons_zero, List.getElem?_cons_succ, Option.some.injEq] at ho
      subst ho
      have f6 := hdep ⟨1, .data⟩ (by simp) (by rfl) _ rfl
      have f8 := hdep ⟨3, .data⟩ (by simp) (by rfl) _ rfl
      unfold Oper.wp
      rw [ev 0]
      rotate_left 1
      · intro cs b h; cases h
      · intro x hx; simp [Op.operands, Call.operands] at hx; (first | (rcases hx with rfl | rfl | rfl) | subst hx) <;> first | rfl | exact f6 | exact f8
      clear ev hdep
      simp only [execOp, evO]
      go_simp
      simp only [evO]
      go_simp
      refine (c_compare p (p + 1) a0 a1 a2 a3 a4 a5 a6 a7 a8 a9 a10 a11 b0 b1 b2 b3 b4 b5 b6 b7 b8 b9 b10 b11 w1 (hcp p 1 _ (hA 1)) (hcp (p + 1) 1 _ (hB 1)) (hcp p 2 _ (hA 2)) (hcp (p + 1) 2 _ (hB 2)) (hcp p 3 _ (hA 3)) (hcp (p + 1) 3 _ (hB 3)) (hcp p 4 _ (hA 4)) (hcp (p + 1) 4 _ (hB 4)) (hcp p 5 _ (hA 5)) (hcp (p + 1) 5 _ (hB 5)) (hcp p 6 _ (hA 6)) (hcp (p + 1) 6 _ (hB 6)) (hcp p 7 _ (hA 7)) (hcp (p + 1) 7 _ (hB 7)) (hcp p 8 _ (hA 8)) (hcp (p + 1) 8 _ (hB 8)) (hcp p 9 _ (hA 9)) (hcp (p + 1) 9 _ (hB 9)) (hcp p 10 _ (hA 10)) (hcp (p + 1) 10 _ (hB 10)) (hcp p 11 _ (hA 11)) (hcp (p + 1) 11 _ (hB 11)) (hcp p 12 _ (hA 12)) (hcp (p + 1) 12 _ (hB 12))).mono ?_
      rintro e w' ⟨rfl, rfl⟩
      exact hK _ _ (Go.LD.BelD.refl _) (by rw [eC]; exact rfl) (fun h => h.elim)
    | 5, hi, ho =>
      simp only [List.getElem?_toArray, List.getElem?_cons_zero, List.getElem?_cons_succ, Option.some.injEq] at ho
      subst ho
      unfold Oper.wp
      rw [ev 0]
      rotate_left 1
      · intro cs b h; cases h
      · intro x hx; simp [Op.operands, Call.operands] at hx; (first | (rcases hx with rfl) | subst hx) <;> first | rfl | exact f2
      clear ev hdep
      simp only [execOp, evO]
      go_simp
      exact hK _ _ (Go.LD.BelD.refl _) rfl (fun h => h.elim)
    | 6, hi, ho =>
      simp only [List.getElem?_toArray, List.getElem?_cons_zero, List.getElem?_cons_succ, Option.some.injEq] at ho
      subst ho
      have f10 := hdep ⟨5, .data⟩ (by simp) (by rfl) _ rfl
      unfold Oper.wp
      rw [ev 0]
      rotate_left 1
      · intro cs b h; cases h
      · intro x hx; simp [Op.operands, Call.operands] at hx; (first | (rcases hx with rfl) | subst hx) <;> first | rfl | exact f10
      clear ev hdep
      have hc := hcp p 0 _ (hA 0)
      simp only [execOp, evO]
      go_simp
      exact hK _ _ (Go.LD.BelD.refl _) rfl (fun h => h.elim)
    | 7, hi, ho =>
      simp only [List.getElem?_toArray, List.getElem?_cons_zero, List.getElem?_cons_succ, Option.some.injEq] at ho
      subst ho
      unfold Oper.wp
      rw [ev 0]
      rotate_left 1
      · intro cs b h; cases h
      · intro x hx; simp [Op.operands, Call.operands] at hx; (first | (rcases hx with rfl) | subst hx) <;> first | rfl | exact f3
      clear ev hdep
      simp only [execOp, evO]
      go_simp
      exact hK _ _ (Go.LD.BelD.refl _) rfl (fun h => h.elim)
    | 8, hi, ho =>
      simp only [List.getElem?_toArray, List.getElem?_cons_zero, List.getElem?_cons_succ, Option.some.injEq] at ho
      subst ho
      have f12 := hdep ⟨7, .data⟩ (by simp) (by rfl) _ rfl
      unfold Oper.wp
      rw [ev 0]
      rotate_left 1
      · intro cs b h; cases h
      · intro x hx; simp [Op.operands, Call.operands] at hx; (first | (rcases hx with rfl) | subst hx) <;> first | rfl | exact f12
      clear ev hdep
      have hc := hcp (p + 1) 0 _ (hB 0)
      simp only [execOp, evO]
      go_simp
      exact hK _ _ (Go.LD.BelD.refl _) rfl (fun h => h.elim)
    | 9, hi, ho =>
      simp only [List.getElem?_toArray, List.getElem?_cons_zero, List.getElem?_cons_succ, Option.some.injEq] at ho
      subst ho
      have f11 := hdep ⟨6, .data⟩ (by simp) (by rfl) _ rfl
      have f13 := hdep ⟨8, .data⟩ (by simp) (by rfl) _ rfl
      unfold Oper.wp
      rw [ev 0]
      rotate_left 1
      · intro cs b h; cases h
      · intro x hx; simp [Op.operands, Call.operands] at hx; (first | (rcases hx with rfl | rfl | rfl) | subst hx) <;> first | rfl | exact f11 | exact f13
      clear ev hdep
      simp only [execOp, evO]
      go_simp
      simp only [evO]
      go_simp
      refine (c_cmpc M N w1).mono ?_
      rintro e w' ⟨rfl, rfl⟩
      exact hK _ _ (Go.LD.BelD.refl _) (by rw [eD]; exact rfl) (fun h => h.elim)
    | 10, hi, ho =>
      simp only [List.getElem?_toArray, List.getElem?_cons_zero, List.getElem?_cons_succ, Option.some.injEq] at ho
      subst ho
      have f9 := hdep ⟨4, .data⟩ (by simp) (by rfl) _ rfl
      have f14 := hdep ⟨9, .data⟩ (by simp) (by rfl) _ rfl
      unfold Oper.wp
      rw [ev 0]
      rotate_left 1
      · intro cs b h; cases h
      · intro x hx; simp [Op.operands, Call.operands] at hx; (first | (rcases hx with rfl | rfl) | subst hx) <;> first | rfl | exact f9 | exact f14
      clear ev hdep
      simp only [execOp, evO]
      go_simp
      refine hK _ _ ⟨(Below.refl _ w1).alloc (Nat.le_refl _) _, Nat.le_refl _⟩ ⟨w1.heap.size, rfl, ?_, ?_⟩ (fun h => h.elim)
      · unfold World.cell?; simp only [heap_alloc_new, Option.isSome_none, Bool.false_eq_true, if_false]; rfl
      · unfold World.cell?; simp only [heap_alloc_new, Option.isSome_none, Bool.false_eq_true, if_false]; rfl
    | 11, hi, ho =>
      simp only [List.getElem?_toArray, List.getElem?_cons_zero, List.getElem?_cons_succ, Option.some.injEq] at ho
      subst ho
      have f15 := hdep ⟨10, .data⟩ (by simp) (by rfl) _ rfl
      obtain ⟨b, f15, h2, h3⟩ := f15
      unfold Oper.wp
      rw [ev b]
      rotate_left 1
      · intro cs b h; cases h
      · intro x hx; simp [Op.operands, Call.operands] at hx; (first | (rcases hx with rfl | rfl) | subst hx) <;> first | rfl | exact f15
      clear ev hdep
      simp only [execOp, evO]
      go_simp
      simp only [evO]
      go_simp
      refine (c_or b C D w1 h2 h3).mono ?_
      rintro e w' ⟨rfl, rfl⟩
      exact hK _ _ (Go.LD.BelD.refl _) rfl (fun h => h.elim)
    | 12, hi, ho =>
      simp only [List.getElem?_toArray, List.getElem?_cons_zero, List.getElem?_cons_succ, Option.some.injEq] at ho
      subst ho
      have f16 := hdep ⟨11, .data⟩ (by simp) (by rfl) _ rfl
      unfold Oper.wp
      rw [ev 0]
      rotate_left 1
      · intro cs b h; cases h
      · intro x hx; simp [Op.operands, Call.operands] at hx; (first | (rcases hx with rfl) | subst hx) <;> first | rfl | exact f16
      clear ev hdep
      simp only [execOp, evO]
      go_simp
      exact hK _ _ (Go.LD.BelD.refl _) rfl (fun h => h.elim)
    | i + 13, hi, ho => omega
  case hend =>
    intro a w2 hb hsz hdf hfr hspec hap
    have f4 : a.tmps.getD 4 undef = .int .i64 (if C = 0 then D else C) := hspec 12 _ (by decide) rfl
    have hD := Go.LD.BelD.grown (hW0.trans hb)
    clear hspec hfr hA hB hap
    simp only [List.drop_succ_cons, List.drop_zero, List.drop_nil, wpList]
    rename_i Kx hKx
    show Kx a w2
    refine hKx a w2 ?_
    refine wp_ret ?_
    refine bodyPost_ret (results_tmp rfl _ _ _) hdf ?_
    show _ ∧ _
    refine ⟨?_, hD⟩
    show Ending.returned (a.tmps.getD 4 undef) = _
    rw [f4, eC, eD]
end Go.Proofs.Ytpiocfmdjgbamaa

/- slices.SortFunc at routes in an own slot: a contract of the engine. -/
namespace Go.Proofs.Ytpiocfmdjgbamaa
open Go Go.RowKit Go.Eng Go.Shelf Go.Sort
set_option maxRecDepth 100000
structure R13 where
  n : Int
  s0 : Int
  s1 : Int
  s2 : Int
  s3 : Int
  s4 : Int
  s5 : Int
  s6 : Int
  s7 : Int
  s8 : Int
  s9 : Int
  s10 : Int
  s11 : Int
  deriving Inhabited, DecidableEq
def R13.segs (x : R13) : List Int := [x.s0, x.s1, x.s2, x.s3, x.s4, x.s5, x.s6, x.s7, x.s8, x.s9, x.s10, x.s11]
def R13.enc (x : R13) : List Value := [.int .i64 x.n, .int .i64 x.s0, .int .i64 x.s1, .int .i64 x.s2, .int .i64 x.s3, .int .i64 x.s4, .int .i64 x.s5, .int .i64 x.s6, .int .i64 x.s7, .int .i64 x.s8, .int .i64 x.s9, .int .i64 x.s10, .int .i64 x.s11]
def R13.row (x : R13) : List AV := [.int .i64 x.n, .int .i64 x.s0, .int .i64 x.s1, .int .i64 x.s2, .int .i64 x.s3, .int .i64 x.s4, .int .i64 x.s5, .int .i64 x.s6, .int .i64 x.s7, .int .i64 x.s8, .int .i64 x.s9, .int .i64 x.s10, .int .i64 x.s11]
def R13.cf (x y : R13) : Int := if cmpL x.segs y.segs = 0 then cmpI' x.n y.n else cmpL x.segs y.segs
theorem cmpI_lt {a b : Int} : cmpI' a b < 0 ↔ a < b := by unfold cmpI'; (repeat' split) <;> omega
theorem cmpI_eq {a b : Int} : cmpI' a b = 0 ↔ a = b := by unfold cmpI'; (repeat' split) <;> omega
theorem cmpL_snoc : ∀ (l m : List Int) (M N : Int), l.length = m.length → cmpL (l ++ [M]) (m ++ [N]) = if cmpL l m = 0 then cmpI' M N else cmpL l m
  | [], [], M, N, _ => by
    simp only [List.nil_append, cmpL]
    split <;> simp_all
  | a :: l, b :: m, M, N, h => by
    have ih := cmpL_snoc l m M N (by simpa using h)
    simp only [List.cons_append, cmpL]
    rw [ih]
    by_cases hc : cmpI' a b = 0
    · simp only [hc, if_true]
    · simp only [hc, if_false]
def ltL : List Int → List Int → Prop
  | a :: l, b :: m => a < b ∨ a = b ∧ ltL l m
  | _, _ => False
theorem cmpL_lt : ∀ (l m : List Int), cmpL l m < 0 ↔ ltL l m
  | [], [] => by simp [cmpL, ltL]
  | [], _ :: _ => by simp [cmpL, ltL]
  | _ :: _, [] => by simp [cmpL, ltL]
  | a :: l, b :: m => by
    have ih := cmpL_lt l m
    simp only [cmpL, ltL]
    by_cases hc : cmpI' a b = 0
    · rw [if_pos hc]
      have := cmpI_eq.1 hc
      subst this
      rw [ih]
      constructor
      · exact fun h => .inr ⟨rfl, h⟩
      · rintro (h | h)
        · omega
        · exact h.2
    · rw [if_neg hc, cmpI_lt]
      have hne : a ≠ b := fun e => hc (cmpI_eq.2 e)
      constructor
      · exact fun h => .inl h
      · rintro (h | h)
        · exact h
        · exact absurd h.1 hne
theorem ltL_irrefl : ∀ l : List Int, ¬ ltL l l
  | [] => fun h => h
  | a :: l => by
    rintro (h | h)
    · omega
    · exact ltL_irrefl l h.2
theorem ltL_trans : ∀ l m k : List Int, ltL l m → ltL m k → ltL l k
  | a :: l, b :: m, c :: k, h1, h2 => by
    rcases h1 with h1 | ⟨rfl, h1⟩
    · rcases h2 with h2 | ⟨rfl, h2⟩
      · exact .inl (by omega)
      · exact .inl h1
    · rcases h2 with h2 | ⟨rfl, h2⟩
      · exact .inl h2
      · exact .inr ⟨rfl, ltL_trans l m k h1 h2⟩
  | [], _, _, h, _ => h.elim
  | _ :: _, [], _, h, _ => h.elim
  | _ :: _, _ :: _, [], _, h => h.elim
theorem ltL_total : ∀ l m : List Int, l.length = m.length → ltL l m ∨ l = m ∨ ltL m l
  | [], [], _ => .inr (.inl rfl)
  | a :: l, b :: m, h => by
    rcases Int.lt_trichotomy a b with hab | rfl | hab
    · exact .inl (.inl hab)
    · rcases ltL_total l m (by simpa using h) with h1 | rfl | h1
      · exact .inl (.inr ⟨rfl, h1⟩)
      · exact .inr (.inl rfl)
      · exact .inr (.inr (.inr ⟨rfl, h1⟩))
    · exact .inr (.inr (.inl hab))
def R13.key (x : R13) : List Int := x.segs ++ [x.n]
theorem R13.cf_lt (x y : R13) : ltOf R13.cf x y = true ↔ ltL x.key y.key := by
  unfold ltOf R13.cf R13.key
  rw [← cmpL_snoc x.segs y.segs x.n y.n rfl, decide_eq_true_iff, cmpL_lt]
theorem R13.key_inj {x y : R13} (h : x.key = y.key) : x = y := by
  cases x; cases y
  simp [R13.key, R13.segs] at h
  simp [h]
theorem R13.swo : SWO (ltOf R13.cf) where
  irrefl x := by rw [Bool.eq_false_iff]; intro h; exact ltL_irrefl _ ((R13.cf_lt x x).1 h)
  trans x y z h1 h2 := (R13.cf_lt x z).2 (ltL_trans _ _ _ ((R13.cf_lt x y).1 h1) ((R13.cf_lt y z).1 h2))
  ntrans x y z h1 h2 := by
    rw [Bool.eq_false_iff] at *
    intro h3
    have h3 := (R13.cf_lt x z).1 h3
    rcases ltL_total y.key z.key rfl with h | h | h
    · exact h2 ((R13.cf_lt y z).2 h)
    · rw [← h] at h3; exact h1 ((R13.cf_lt x y).2 h3)
    · exact h1 ((R13.cf_lt x y).2 (ltL_trans _ _ _ h3 h))
theorem r13_lays (blk off size : Nat) (w : World) : CmpLays Try.prog 57 #[] R13.enc 13 R13.cf blk off size w :=
  fun _ _ _ _ x y => order_walk x.n x.s0 x.s1 x.s2 x.s3 x.s4 x.s5 x.s6 x.s7 x.s8 x.s9 x.s10 x.s11 y.n y.s0 y.s1 y.s2 y.s3 y.s4 y.s5 y.s6 y.s7 y.s8 y.s9 y.s10 y.s11 _
theorem c_sortF (blk off cap : Nat) (d : Array R13) (w : World) (hH : HoldsK R13.enc 13 w blk off d) (hblk : blk < w.heap.size) (hsz : d.size < 4611686018427387904) :
    Calls Try.prog 56 #[.slice (some ⟨blk, off, none⟩) d.size cap, .func (.func 57) #[] #[]] w fun e w' => e = .returned (.tuple #[]) ∧ ∃ d' n os, PermIn 0 d.size d d' ∧ SortedIn (ltOf R13.cf) 0 d.size d' ∧ w' = sortWorldK R13.enc 13 w blk off n d' os := by
  have eg : ∀ args w, (callFunc 57 args).run Try.prog w = .ok (.enter 57 args) w := enters_of Try.func57 (by kernel_rfl) rfl
  exact AnyQ.slices_SortFunc Try.sortFL 13 Try.isAgg39 Try.sizeOf39 R13.enc (fun _ => rfl) (fun x v hv => by simp only [R13.enc, List.mem_cons, List.not_mem_nil, or_false] at hv; rcases hv with rfl | rfl | rfl | rfl | rfl | rfl | rfl | rfl | rfl | rfl | rfl | rfl | rfl <;> rfl) R13.cf R13.swo 57 #[] blk off cap d w eg (r13_lays blk off d.size w) hH hblk hsz
end Go.Proofs.Ytpiocfmdjgbamaa

/- slices.SortFunc at an own slot of routes. -/
namespace Go.Proofs.Ytpiocfmdjgbamaa
open Go Go.RowKit Go.Eng Go.Shelf Go.Sort
set_option maxRecDepth 100000
theorem R13.enc_row (x : R13) (c : Nat) (hc : c < 13) : ∃ n, x.enc[c]! = .int .i64 n ∧ x.row[c]? = some (.int .i64 n) := by
  match c, hc with
  | 0, _ => exact ⟨_, rfl, rfl⟩
  | 1, _ => exact ⟨_, rfl, rfl⟩
  | 2, _ => exact ⟨_, rfl, rfl⟩
  | 3, _ => exact ⟨_, rfl, rfl⟩
  | 4, _ => exact ⟨_, rfl, rfl⟩
  | 5, _ => exact ⟨_, rfl, rfl⟩
  | 6, _ => exact ⟨_, rfl, rfl⟩
  | 7, _ => exact ⟨_, rfl, rfl⟩
  | 8, _ => exact ⟨_, rfl, rfl⟩
  | 9, _ => exact ⟨_, rfl, rfl⟩
  | 10, _ => exact ⟨_, rfl, rfl⟩
  | 11, _ => exact ⟨_, rfl, rfl⟩
  | 12, _ => exact ⟨_, rfl, rfl⟩
theorem frozen_blk {w : World} {b : Nat} {cs : Array Value} {t : TypeId} (h : w.heap[b]? = some (.cells cs t (0, 0))) (i : Nat) : w.frozen? ⟨b, i, none⟩ = false := by
  unfold World.frozen?
  simp [h]
theorem call_sortF {P : Program} (hP : Try.prog = P) {h : AHeap} {K : AV → AHeap → Prop} {s n : Nat} {es : List (List AV)} {rs : List R13} (hs : h[s]? = some (.live 13 es)) (hes : es = rs.map R13.row) (hn : n = rs.length) (hsz : rs.length ≤ 1000000)
    (hK : ∀ rs' : List R13, rs'.Perm rs → rs'.Pairwise (fun x y => ¬ ltL y.key x.key) → K (.tuple []) (h.set s (.live 13 (rs'.map R13.row)))) :
    ACall P 56 [.sl s 13 0 n, .func (.func 57) [] []] h K := by
  subst hP
  refine ⟨⟨_, Try.func56, by kernel_rfl, by kernel_rfl⟩, fun C vs hC RC hv => ?_⟩
  subst hC
  obtain ⟨hvl, hv0⟩ := hv
  have hvs : vs = #[vs.getD 0 undef, vs.getD 1 undef] := by
    have hn : vs.size = 2 := by simpa using hvl
    obtain ⟨l⟩ := vs
    match l, hn with
    | [x, y], _ => rfl
  obtain ⟨cap, e0, hus, hnc, _⟩ := (hv0 0 _ rfl).sls
  obtain ⟨vf, vc, e1, hvf, hvc⟩ := (hv0 1 _ rfl).func'
  obtain rfl : vf = #[] := Array.eq_empty_of_size_eq_zero (by simpa using hvf.1)
  obtain rfl : vc = #[] := Array.eq_empty_of_size_eq_zero (by simpa using hvc.1)
  rw [hvs, e0, e1]
  obtain ⟨_, hO, hrl, us, ty, hcell, hul, hur⟩ := RC.live s 13 es hs (by decide)
  have hBm : C.r s < C.w.heap.size := (Array.getElem?_eq_some_iff.1 hcell).1
  have hel : es.length = rs.length := by rw [hes]; simp
  have cellOf : ∀ i c, i < rs.length → c < 13 → us.getD (i * 13 + c) undef = (R13.enc rs[i]!)[c]! := by
    intro i c hi hc
    obtain ⟨m, h1, h2⟩ := R13.enc_row rs[i]! c hc
    have := (hur i (R13.row rs[i]!) (by rw [hes]; simp [hi]) c _ h2).int'
    rw [this, h1]
  have hH : HoldsK R13.enc 13 C.w (C.r s) 0 rs.toArray := by
    intro j hj
    rw [size_flatK] at hj
    simp only [List.size_toArray] at hj
    refine ⟨?_, frozen_blk hcell _⟩
    have hi : j / 13 < rs.length := by omega
    have hc : j % 13 < 13 := by omega
    have h1 := cellOf (j / 13) (j % 13) hi hc
    rw [show j / 13 * 13 + j % 13 = j by omega] at h1
    have h2 := get_flatK R13.enc 13 rs.toArray j (by simpa using hj)
    unfold World.cell?
    simp only [hcell, Option.isSome_none, Bool.false_eq_true, if_false, Nat.zero_add]
    have hju : j < us.size := by omega
    rw [Array.getD_eq_getD_getElem?, Array.getElem?_eq_getElem hju] at h1
    rw [Array.getElem?_eq_getElem hju]
    simp only [Option.getD_some] at h1
    rw [h1]
    simp only [id, h2]
    simp [hi]
  have hcall := c_sortF (C.r s) 0 cap rs.toArray C.w hH hBm (by simp; omega)
  rw [show rs.toArray.size = n by simp [hn]] at hcall
  refine hcall.mono ?_
  rintro e w' ⟨rfl, d', m, os, hperm, hsort, rfl⟩
  obtain ⟨hps, _, hpp⟩ := hperm
  have hds : d'.size = n := by rw [hps]; simp [hn]
  have hp2 : d'.toList.Perm rs := by
    have e1 : d'.extract 0 n = d' := by rw [← hds]; simp
    have e2 : rs.toArray.extract 0 n = rs.toArray := by rw [show n = rs.toArray.size by simp [hn]]; simp
    rw [e1, e2] at hpp
    simpa using hpp
  have hsorted : d'.toList.Pairwise (fun x y => ¬ ltL y.key x.key) := by
    rw [List.pairwise_iff_getElem]
    intro i j hi hj hij
    simp only [Array.length_toList] at hi hj
    have := hsort i j (Nat.zero_le _) hij (by omega)
    rw [Bool.eq_false_iff] at this
    intro hl
    apply this
    rw [R13.cf_lt]
    simpa [hi, hj] using hl
  have hF : (flatK R13.enc 13 d').size = n * 13 := by simp [hds]
  -- the sorted row
  have hw1 : (putRowK R13.enc 13 (Sort.ahead C.w m) (C.r s) 0 d').heap[C.r s]? = some (.cells (putCells id 0 (flatK R13.enc 13 d') us) ty (0, 0)) := by
    simp only [putRowK, putRow, mapBlock, Sort.ahead, Array.getElem?_modify, if_true, hcell, Option.map_some, onCells]
  have hw2 : ∀ b, b ≠ C.r s → (putRowK R13.enc 13 (Sort.ahead C.w m) (C.r s) 0 d').heap[b]? = C.w.heap[b]? := fun b hb => by
    simp only [putRowK, putRow, mapBlock, Sort.ahead, Array.getElem?_modify, if_neg (Ne.symm hb)]
  have hnew : ∀ i c, i < n → c < 13 → (putCells id 0 (flatK R13.enc 13 d') us).getD (i * 13 + c) undef = (R13.enc d'[i]!)[c]! := by
    intro i c hi hc
    have hk : i * 13 + c < us.size := by omega
    rw [Array.getD_eq_getD_getElem?]
    unfold putCells
    rw [Array.getElem?_mapIdx, Array.getElem?_eq_getElem hk]
    simp only [Option.map_some, Option.getD_some, Nat.zero_le, true_and, Nat.zero_add, Nat.sub_zero, id]
    rw [if_pos (by omega), get_flatK _ _ _ _ (by omega), show (i * 13 + c) / 13 = i by omega, show (i * 13 + c) % 13 = c by omega]
  have hslt : s < C.h.length := (List.getElem?_eq_some_iff.1 hs).1
  obtain ⟨R1, E1⟩ := Rel.write RC s (C.h.set s (.live 13 (d'.toList.map R13.row))) (putRowK R13.enc 13 (Sort.ahead C.w m) (C.r s) 0 d') 13 es (d'.toList.map R13.row) us (putCells id 0 (flatK R13.enc 13 d') us) ty C.h.length (by decide) hs
    (List.getElem?_set_self hslt) (fun k hk => List.getElem?_set_ne (Ne.symm hk)) hcell hw1 (by simp [putCells]) hw2 rfl rfl rfl (by simp [putRowK, putRow, mapBlock, Sort.ahead])
    (fun e he => by obtain ⟨x, _, rfl⟩ := List.mem_map.1 he; rfl) (by simp [putCells, hds]; omega) (fun i e he j x hx => by
      rw [List.getElem?_map] at he
      cases hd : d'.toList[i]? with
      | none => rw [hd] at he; cases he
      | some y =>
        rw [hd] at he
        simp only [Option.map_some, Option.some.injEq] at he
        subst he
        have hil : i < d'.size := by simpa using (List.getElem?_eq_some_iff.1 hd).1
        have hj : j < 13 := by
          have := (List.getElem?_eq_some_iff.1 hx).1
          simpa [R13.row] using this
        obtain ⟨k, h1, h2⟩ := R13.enc_row y j hj
        rw [h2] at hx
        simp only [Option.some.injEq] at hx
        subst hx
        rw [hnew i j (by omega) hj]
        have : d'[i]! = y := by
          have := (List.getElem?_eq_some_iff.1 hd).2
          simp at this
          simp [hil, this]
        rw [this, h1]
        exact .int _ _)
  have hbel : Below (putRowK R13.enc 13 (Sort.ahead C.w m) (C.r s) 0 d').heap.size (putRowK R13.enc 13 (Sort.ahead C.w m) (C.r s) 0 d') (sortWorldK R13.enc 13 C.w (C.r s) 0 m d' os) :=
    ⟨rfl, rfl, rfl, by simp [sortWorldK, Go.Sort.grow], fun b hb => by simp only [sortWorldK, Go.Sort.grow]; rw [Array.getElem?_append_left hb]⟩
  obtain ⟨R2, E2⟩ := Rel.below R1 hbel
  refine ⟨_, _, _, rfl, hK d'.toList hp2 hsorted, rfl, R2, .tuple [] #[] rfl (fun i x hx => by simp at hx), E1.trans (E2 _), by simp⟩
end Go.Proofs.Ytpiocfmdjgbamaa

/- A track that may be, by the engine. -/
namespace Go.Proofs.Ytpiocfmdjgbamaa
open Go Go.RowKit Go.Eng
set_option maxRecDepth 100000
def PcOk (ps : List (Int × Int)) (len : Int) (j : Nat) : Prop :=
  ∀ p, ps[j]? = some p → -1048576 ≤ p.2 ∧ p.2 ≤ 1048576 ∧ p.1 < len ∧ (0 < j → ∀ o, ps[j - 1]? = some o → o.1 < p.1)
structure MayOk (ps : List (Int × Int)) (len : Int) : Prop where
  ne : 1 ≤ ps.length
  le : ps.length ≤ 64
  zero : ∀ p, ps[0]? = some p → p.1 = 0
  all : ∀ j, j < ps.length → PcOk ps len j
theorem all_step {P : Nat → Prop} {i : Int} (h0 : 0 ≤ i) (h : ∀ j, j < i.toNat → P j) (hi : P i.toNat) : ∀ j, j < (i + 1).toNat → P j := by
  intro j hj
  by_cases e : j = i.toNat
  · rw [e]; exact hi
  · exact h j (by omega)
theorem e_may10 (ps : List (Int × Int)) (q : List (List AV)) (hq : q = ps.map pcRow) (len : Int) : PCalls Try.prog 102 [.list 2 q, .int .i64 len] (fun r => ∃ o : Bool, r = .bool o ∧ (o = true ↔ MayOk ps len)) := by
  have hu : Up0 q := by rw [hq]; exact up_pc ps
  have hql : q.length = ps.length := by rw [hq]; simp
  (refine PCalls.ofY Try.func102 (by kernel_rfl) (by kernel_rfl) fun w hw R hR => ?_); (obtain ⟨wbin, wcmp, wun, wconv, wnot, wbeq, wmm, wscmp, wsadd, wslen, wsat, weqs, wlen, wnlen, wofNat, wtake, wdrop, wapp, wzero, wnat⟩ := w); (have hbin := Z.w1 hw); (have hcmp := Z.w2 hw); (have hun := Z.w3 hw); (have hconv := Z.w4 hw); (have hnot := Z.w5 hw); (have hbeq := Z.w6 hw); (have hmm := Z.w7 hw); (have hscmp := Z.w8 hw); (have hsadd := Z.w9 hw); (have hslen := Z.w10 hw); (have hsat := Z.w11 hw); (have heqs := Z.w12 hw); (have hlen := Z.w13 hw); (have hnlen := Z.w14 hw); (have hofNat := Z.w15 hw); (have htake := Z.w16 hw); (have hdrop := Z.w17 hw); (have happ := Z.w18 hw); (have hzero := Z.w19 hw); (have hnat := Z.w20 hw); (have hz := Z.z hw); (conv => arg 2; cbv); (generalize hP : Try.prog = P); cbv
  (obtain ⟨L, eL, L0, Ln⟩ : ∃ L : Int, wlen q = L ∧ 0 ≤ L ∧ L.toNat = q.length := ⟨(q.length : Int), by rw [hlen], Int.natCast_nonneg _, Int.toNat_natCast _⟩)
  have hF : ¬ MayOk ps len → R (.bool false) := fun hn => hR _ ⟨_, rfl, ⟨fun h => (by cases h), fun h => absurd h hn⟩⟩
  (split <;> rename_i h1 <;> (try (simp only [eL] at h1)) <;> (try (simp only [hz, Z.a, binStd, cmpStd, unStd, scmpStd, maxI, reduceCtorEq] at h1)) <;> (try cbv))
  · exact ⟨_, Vw.same rfl, hF fun hM => (by have := hM.ne; omega)⟩
  (split <;> rename_i h2 <;> (try (simp only [eL] at h2)) <;> (try (simp only [hz, Z.a, binStd, cmpStd, unStd, scmpStd, maxI, reduceCtorEq] at h2)) <;> (try cbv))
  · exact ⟨_, Vw.same rfl, hF fun hM => (by have := hM.le; omega)⟩
  obtain ⟨⟨x, y⟩, hd, hrow⟩ := get_map (f := pcRow) (ds := ps) (i := 0) (Int.le_refl 0) (by omega)
  have hrow : q[(0 : Int).toNat]? = some [.int .i64 x, .int .i64 y] := by rw [hq]; exact hrow
  refine Idx.mk [.int .i64 x, .int .i64 y] (by decide) hrow ?_
  cbv
  (split <;> rename_i h3 <;> (try (simp only [hz, Z.a, binStd, cmpStd, unStd, scmpStd, maxI, reduceCtorEq] at h3)) <;> (try cbv))
  · exact ⟨_, Vw.same rfl, hF fun hM => h3 (hM.zero _ hd)⟩
  refine Loop.data hw (S := Int) (fun i => fr 66 [(0, .list 2 q), (1, .int .i64 len), (5, .int .i64 i)]) (fun i => []) (fun i => 0 ≤ i ∧ i ≤ L ∧ ∀ j, j < i.toNat → PcOk ps len j) (fun i => (L - i).toNat) 0 (by (refine Wk.eqz (id) (by first | exact fun i _ j _ e => e | (simp only [List.length_cons, List.length_nil]; decide)) ?_; cbv; (repeat' (first | exact trivial | rfl | assumption | apply And.intro | (simp only [hz, Z.a, binStd, cmpStd, unStd, scmpStd, maxI, reduceCtorEq]; first | done | assumption) | exact RowsZ.same (by assumption) (by first | assumption | rfl) | exact FzL.mk rfl rfl rfl (by assumption) (by first | assumption | rfl) (by decide) | (refine RowsZ.one ?_; cbv))))) ⟨Int.le_refl _, L0, fun j hj => (by simp at hj)⟩ ?_
  rintro i hinv Q' hN hE hR'
  have hinv : 0 ≤ i ∧ i ≤ L ∧ ∀ j, j < i.toNat → PcOk ps len j := hinv
  cbv
  obtain ⟨hi0, hi1, hl⟩ := hinv
  (split <;> rename_i hc <;> (try (simp only [eL] at hc)) <;> (try (simp only [hz, Z.a, binStd, cmpStd, unStd, scmpStd, maxI, reduceCtorEq] at hc)) <;> (try cbv))
  · obtain ⟨⟨a, b⟩, hd2, hrow2⟩ := get_map (f := pcRow) (ds := ps) (i := i) hi0 (by omega)
    have hrow2 : q[i.toNat]? = some [.int .i64 a, .int .i64 b] := by rw [hq]; exact hrow2
    obtain ⟨i', ei'⟩ : ∃ x, i + 1 = x := ⟨_, rfl⟩
    obtain ⟨im, eim⟩ : ∃ x, i - 1 = x := ⟨_, rfl⟩
    have ei : wbin .add .i64 i 1 = i' := by rw [hbin, i_add (by omega) (by omega)]; exact ei'
    have em : wbin .sub .i64 i 1 = im := by rw [hbin, i_sub (by omega) (by omega)]; exact eim
    have hT : (L - i').toNat < (L - i).toNat := by omega
    obtain ⟨a', b', hp'⟩ : ∃ a' b', 0 < i → 0 ≤ im ∧ ps[i.toNat - 1]? = some (a', b') ∧ q[im.toNat]? = some [.int .i64 a', .int .i64 b'] := by
      by_cases h : 0 < i
      · obtain ⟨⟨a', b'⟩, k1, k2⟩ := get_map (f := pcRow) (ds := ps) (i := im) (by omega) (by omega)
        exact ⟨a', b', fun _ => ⟨by omega, by rw [← k1]; congr 1; omega, by rw [hq]; exact k2⟩⟩
      · exact ⟨0, 0, fun h' => absurd h' h⟩
    have fin : (-1048576 ≤ b ∧ b ≤ 1048576 ∧ a < len ∧ (0 < i → a' < a)) → ∀ j, j < i'.toNat → PcOk ps len j := by
      intro hh
      rw [← ei']
      refine all_step hi0 hl fun p hp => ?_
      rw [hd2] at hp
      obtain rfl : (a, b) = p := by simpa using hp
      refine ⟨hh.1, hh.2.1, hh.2.2.1, fun hj o ho => ?_⟩
      rw [(hp' (by omega)).2.1] at ho
      obtain rfl : (a', b') = o := by simpa using ho
      exact hh.2.2.2 (by omega)
    have bad : MayOk ps len → -1048576 ≤ b ∧ b ≤ 1048576 ∧ a < len ∧ (0 < i → a' < a) := by
      intro hM
      obtain ⟨m1, m2, m3, m4⟩ := hM.all i.toNat (by omega) _ hd2
      exact ⟨m1, m2, m3, fun h => m4 (by omega) _ (hp' h).2.1⟩
    repeat' (first
      | (refine hR' _ _ ⟨_, Vw.same rfl, hF fun hM => ?_⟩; obtain ⟨m1, m2, m3, m4⟩ := bad hM; clear hN hE hR' hR hF; omega)
      | (refine Idx.mk [.int .i64 a, .int .i64 b] hi0 hrow2 ?_; cbv)
      | (simp only [em]; refine Idx.mk [.int .i64 a', .int .i64 b'] (hp' (by assumption)).1 (hp' (by assumption)).2.2 ?_; cbv)
      | (split <;> rename_i h <;> (try (simp only [hz, Z.a, binStd, cmpStd, unStd, scmpStd, maxI, reduceCtorEq] at h)) <;> (try cbv)))
    all_goals
      refine hN i' _ _ ?hx ?hi hT
      case hx => (refine Wk.eqz (id) (by first | exact fun i _ j _ e => e | (simp only [List.length_cons, List.length_nil]; decide)) ?_; cbv; (repeat' (first | exact trivial | rfl | assumption | apply And.intro | (simp only [hz, Z.a, binStd, cmpStd, unStd, scmpStd, maxI, reduceCtorEq]; first | done | assumption) | exact RowsZ.same (by assumption) (by first | assumption | rfl) | exact FzL.mk rfl rfl rfl (by assumption) (by first | assumption | rfl) (by decide) | (refine RowsZ.one ?_; cbv))))
      case hi => exact ⟨by omega, by omega, fin ⟨by omega, by omega, by omega, by omega⟩⟩
  · refine hE _ _ _ ?_
    cbv
    exact ⟨_, Vw.same rfl, hR _ ⟨_, rfl, ⟨fun _ => ⟨by omega, by omega, fun p hp => (by rw [show ps[0]? = some (x, y) from hd] at hp; obtain rfl : (x, y) = p := (by simpa using hp); exact h3), fun j hj => hl j (by omega)⟩, fun _ => rfl⟩⟩⟩
structure SegOk (s : Sg) (many : Int) : Prop where
  pos : 1 ≤ s.len
  le : s.len ≤ 1099511627776
  may : MayOk s.ps s.len
  two : s.nx.length ≤ 2
  nx : ∀ j, j < s.nx.length → ∀ n, s.nx[j]? = some n → 0 ≤ n ∧ n < many
  lt : ∀ a b, s.nx[0]? = some a → s.nx[1]? = some b → a < b
theorem e_seg11 (s : Sg) (q n1 : List (List AV)) (hq : q = s.ps.map pcRow) (hn1 : n1 = s.nx.map nxRow) (many : Int) : PCalls Try.prog 83 [.agg [.int .i64 s.len, .list 2 q, .list 1 n1], .int .i64 many] (fun r => ∃ o : Bool, r = .bool o ∧ (o = true ↔ SegOk s many)) := by
  obtain ⟨len, ps, nx⟩ := s
  have hq : q = ps.map pcRow := hq
  have hn1 : n1 = nx.map nxRow := hn1
  have hu : Up0 q := by rw [hq]; exact up_pc ps
  have hun : Up0 n1 := by rw [hn1]; exact up_nx nx
  have hnl : n1.length = nx.length := by rw [hn1]; simp
  (refine PCalls.ofY Try.func83 (by kernel_rfl) (by kernel_rfl) fun w hw R hR => ?_); (obtain ⟨wbin, wcmp, wun, wconv, wnot, wbeq, wmm, wscmp, wsadd, wslen, wsat, weqs, wlen, wnlen, wofNat, wtake, wdrop, wapp, wzero, wnat⟩ := w); (have hbin := Z.w1 hw); (have hcmp := Z.w2 hw); (have hun := Z.w3 hw); (have hconv := Z.w4 hw); (have hnot := Z.w5 hw); (have hbeq := Z.w6 hw); (have hmm := Z.w7 hw); (have hscmp := Z.w8 hw); (have hsadd := Z.w9 hw); (have hslen := Z.w10 hw); (have hsat := Z.w11 hw); (have heqs := Z.w12 hw); (have hlen := Z.w13 hw); (have hnlen := Z.w14 hw); (have hofNat := Z.w15 hw); (have htake := Z.w16 hw); (have hdrop := Z.w17 hw); (have happ := Z.w18 hw); (have hzero := Z.w19 hw); (have hnat := Z.w20 hw); (have hz := Z.z hw); (conv => arg 2; cbv); (generalize hP : Try.prog = P); cbv
  (obtain ⟨L, eL, L0, Ln⟩ : ∃ L : Int, wlen n1 = L ∧ 0 ≤ L ∧ L.toNat = n1.length := ⟨(n1.length : Int), by rw [hlen], Int.natCast_nonneg _, Int.toNat_natCast _⟩)
  have hF : ¬ SegOk ⟨len, ps, nx⟩ many → R (.bool false) := fun hn => hR _ ⟨_, rfl, ⟨fun h => (by cases h), fun h => absurd h hn⟩⟩
  (split <;> rename_i h1 <;> (try (simp only [hz, Z.a, binStd, cmpStd, unStd, scmpStd, maxI, reduceCtorEq] at h1)) <;> (try cbv))
  · exact ⟨_, Vw.same rfl, hF fun hM => (by have k : 1 ≤ len := hM.pos; omega)⟩
  (split <;> rename_i h2 <;> (try (simp only [hz, Z.a, binStd, cmpStd, unStd, scmpStd, maxI, reduceCtorEq] at h2)) <;> (try cbv))
  · exact ⟨_, Vw.same rfl, hF fun hM => (by have k : len ≤ 1099511627776 := hM.le; omega)⟩
  refine Call.step (by rw [← hP]; exact e_may10 ps q hq len) (by exact Up0.one hu rfl) ?_
  rintro r ⟨o, rfl, hmay⟩
  cbv
  (split <;> rename_i h3 <;> (try (simp only [hz, Z.a, binStd, cmpStd, unStd, scmpStd, maxI, reduceCtorEq] at h3)) <;> (try cbv))
  · exact ⟨_, Vw.same rfl, hF fun hM => (by rw [hmay.2 hM.may] at h3; cases h3)⟩
  have hmay := hmay.1 (by assumption)
  (split <;> rename_i h4 <;> (try (simp only [eL] at h4)) <;> (try (simp only [hz, Z.a, binStd, cmpStd, unStd, scmpStd, maxI, reduceCtorEq] at h4)) <;> (try cbv))
  · exact ⟨_, Vw.same rfl, hF fun hM => (by have k : nx.length ≤ 2 := hM.two; omega)⟩
  refine Loop.data hw (S := Int) (fun i => fr 65 [(1, .int .i64 many), (2, .ref 0 3 0 0), (5, .int .i64 i)]) (fun i => [.live 3 [[.int .i64 len, .list 2 q, .list 1 n1]]]) (fun i => 0 ≤ i ∧ i ≤ L ∧ ∀ j, j < i.toNat → ∀ n, nx[j]? = some n → 0 ≤ n ∧ n < many) (fun i => (L - i).toNat) 0 (by (refine Wk.eqz (id) (by first | exact fun i _ j _ e => e | (simp only [List.length_cons, List.length_nil]; decide)) ?_; cbv; (repeat' (first | exact trivial | rfl | assumption | apply And.intro | (simp only [hz, Z.a, binStd, cmpStd, unStd, scmpStd, maxI, reduceCtorEq]; first | done | assumption) | exact RowsZ.same (by assumption) (by first | assumption | rfl) | exact FzL.mk rfl rfl rfl (by assumption) (by first | assumption | rfl) (by decide) | (refine RowsZ.one ?_; cbv))))) ⟨Int.le_refl _, L0, fun j hj => (by simp at hj)⟩ ?_
  rintro i hinv Q' hN hE hR'
  have hinv : 0 ≤ i ∧ i ≤ L ∧ ∀ j, j < i.toNat → ∀ n, nx[j]? = some n → 0 ≤ n ∧ n < many := hinv
  cbv
  obtain ⟨hi0, hi1, hl⟩ := hinv
  (split <;> rename_i hc <;> (try (simp only [eL] at hc)) <;> (try (simp only [hz, Z.a, binStd, cmpStd, unStd, scmpStd, maxI, reduceCtorEq] at hc)) <;> (try cbv))
  · obtain ⟨n, hd2, hrow2⟩ := get_map (f := nxRow) (ds := nx) (i := i) hi0 (by omega)
    have hrow2 : n1[i.toNat]? = some [.int .i64 n] := by rw [hn1]; exact hrow2
    obtain ⟨i', ei'⟩ : ∃ x, i + 1 = x := ⟨_, rfl⟩
    have ei : wbin .add .i64 i 1 = i' := by rw [hbin, i_add (by omega) (by omega)]; exact ei'
    have hT : (L - i').toNat < (L - i).toNat := by omega
    have bad : SegOk ⟨len, ps, nx⟩ many → 0 ≤ n ∧ n < many := fun hM => hM.nx i.toNat (show i.toNat < nx.length by omega) n hd2
    repeat' (first
      | (refine hR' _ _ ⟨_, Vw.same rfl, hF fun hM => ?_⟩; obtain ⟨m1, m2⟩ := bad hM; clear hN hE hR' hR hF; omega)
      | (refine Idx.mk [.int .i64 n] hi0 hrow2 ?_; cbv)
      | (split <;> rename_i h <;> (try (simp only [hz, Z.a, binStd, cmpStd, unStd, scmpStd, maxI, reduceCtorEq] at h)) <;> (try cbv)))
    refine hN i' _ _ ?hx ?hi hT
    case hx => (refine Wk.eqz (id) (by first | exact fun i _ j _ e => e | (simp only [List.length_cons, List.length_nil]; decide)) ?_; cbv; (repeat' (first | exact trivial | rfl | assumption | apply And.intro | (simp only [hz, Z.a, binStd, cmpStd, unStd, scmpStd, maxI, reduceCtorEq]; first | done | assumption) | exact RowsZ.same (by assumption) (by first | assumption | rfl) | exact FzL.mk rfl rfl rfl (by assumption) (by first | assumption | rfl) (by decide) | (refine RowsZ.one ?_; cbv))))
    case hi =>
      refine ⟨by omega, by omega, ?_⟩
      rw [← ei']
      refine all_step hi0 hl fun m hm => ?_
      rw [hd2] at hm
      obtain rfl : n = m := by simpa using hm
      exact ⟨by omega, by omega⟩
  · refine hE _ _ _ ?_
    cbv
    have fin : (∀ a b, nx[0]? = some a → nx[1]? = some b → a < b) → SegOk ⟨len, ps, nx⟩ many := fun hlt => ⟨h1, by omega, hmay, by simp only; omega, fun j hj n hn => hl j (by simp only at hj; omega) n hn, hlt⟩
    (split <;> rename_i h5 <;> (try (simp only [eL] at h5)) <;> (try (simp only [hz, Z.a, binStd, cmpStd, unStd, scmpStd, maxI, reduceCtorEq] at h5)) <;> (try cbv))
    · refine ⟨_, Vw.same rfl, hR _ ⟨_, rfl, ⟨fun _ => fin fun a b ha hb => ?_, fun _ => rfl⟩⟩⟩
      have := (List.getElem?_eq_some_iff.1 hb).1
      omega
    · obtain ⟨x, hdx, hrx⟩ := get_map (f := nxRow) (ds := nx) (i := 0) (Int.le_refl 0) (by omega)
      obtain ⟨y, hdy, hry⟩ := get_map (f := nxRow) (ds := nx) (i := 1) (by decide) (by omega)
      refine Idx.mk [.int .i64 x] (by decide) (by rw [hn1]; exact hrx) ?_
      cbv
      refine Idx.mk [.int .i64 y] (by decide) (by rw [hn1]; exact hry) ?_
      cbv
      have k1 : nx[0]? = some x := hdx
      have k2 : nx[1]? = some y := hdy
      refine ⟨_, Vw.same rfl, hR _ ⟨_, rfl, ⟨fun ho => fin fun a b ha hb => ?_, fun hM => ?_⟩⟩⟩
      rotate_left
      · have := hM.lt x y k1 k2
        rw [hcmp]; simp [cmpStd]; omega
      rw [k1] at ha
      rw [k2] at hb
      rw [hcmp] at ho
      simp [cmpStd] at ho ha hb
      omega
theorem e_seg11V (s : Sg) (q n1 : List (List AV)) (hq : q = s.ps.map pcRow) (hn1 : n1 = s.nx.map nxRow) (many : Int) : ∃ o : Bool, PCalls Try.prog 83 [.agg [.int .i64 s.len, .list 2 q, .list 1 n1], .int .i64 many] (· = .bool o) ∧ (o = true ↔ SegOk s many) := by
  by_cases h : SegOk s many
  · refine ⟨true, (e_seg11 s q n1 hq hn1 many).mono ?_, by simp [h]⟩
    rintro r ⟨o, rfl, ho⟩
    rw [ho.2 h]
  · refine ⟨false, (e_seg11 s q n1 hq hn1 many).mono ?_, by simp [h]⟩
    rintro r ⟨o, rfl, ho⟩
    cases o with
    | false => rfl
    | true => exact absurd (ho.1 rfl) h
def GrOk (ss : List Sg) (gs : List Gr) (j : Nat) : Prop :=
  ∀ g, gs[j]? = some g → 0 < g.id ∧ g.id ≤ 65535 ∧ 0 ≤ g.seg ∧ g.seg.toNat < ss.length ∧ 0 ≤ g.off ∧ (∀ s, ss[g.seg.toNat]? = some s → g.off ≤ s.len) ∧ 0 ≤ g.acc ∧ g.acc ≤ 1048576 ∧ 0 ≤ g.sl ∧ g.sl ≤ 16777216 ∧ (0 < j → ∀ o, gs[j - 1]? = some o → o.id < g.id)
structure TrackOk (ss : List Sg) (gs : List Gr) : Prop where
  ne : 1 ≤ ss.length
  le : ss.length ≤ 200
  gle : gs.length ≤ 400
  seg : ∀ j, j < ss.length → ∀ s, ss[j]? = some s → SegOk s ss.length
  grp : ∀ j, j < gs.length → GrOk ss gs j
set_option maxHeartbeats 1000000 in
theorem e_check11 (ss : List Sg) (gs : List Gr) (es ds : List (List AV)) (hes : es = ss.map sgRow) (hds : ds = gs.map grRow) : PCalls Try.prog 52 [.agg [.list 3 es, .list 5 ds]] (fun r => ∃ e i, r = .tuple [.int .i64 e, .int .i64 i] ∧ (e = 0 → TrackOk ss gs)) := by
  have hu : Up0 es := by rw [hes]; exact up_sg ss
  have hud : Up0 ds := by rw [hds]; exact up_gr gs
  have hel : es.length = ss.length := by rw [hes]; simp
  have hdl : ds.length = gs.length := by rw [hds]; simp
  (refine PCalls.ofY Try.func52 (by kernel_rfl) (by kernel_rfl) fun w hw R hR => ?_); (obtain ⟨wbin, wcmp, wun, wconv, wnot, wbeq, wmm, wscmp, wsadd, wslen, wsat, weqs, wlen, wnlen, wofNat, wtake, wdrop, wapp, wzero, wnat⟩ := w); (have hbin := Z.w1 hw); (have hcmp := Z.w2 hw); (have hun := Z.w3 hw); (have hconv := Z.w4 hw); (have hnot := Z.w5 hw); (have hbeq := Z.w6 hw); (have hmm := Z.w7 hw); (have hscmp := Z.w8 hw); (have hsadd := Z.w9 hw); (have hslen := Z.w10 hw); (have hsat := Z.w11 hw); (have heqs := Z.w12 hw); (have hlen := Z.w13 hw); (have hnlen := Z.w14 hw); (have hofNat := Z.w15 hw); (have htake := Z.w16 hw); (have hdrop := Z.w17 hw); (have happ := Z.w18 hw); (have hzero := Z.w19 hw); (have hnat := Z.w20 hw); (have hz := Z.z hw); (conv => arg 2; cbv); (generalize hP : Try.prog = P); cbv
  (obtain ⟨L, eL, L0, Ln⟩ : ∃ L : Int, wlen es = L ∧ 0 ≤ L ∧ L.toNat = es.length := ⟨(es.length : Int), by rw [hlen], Int.natCast_nonneg _, Int.toNat_natCast _⟩)
  (obtain ⟨J, eJ, J0, Jn⟩ : ∃ L : Int, wlen ds = L ∧ 0 ≤ L ∧ L.toNat = ds.length := ⟨(ds.length : Int), by rw [hlen], Int.natCast_nonneg _, Int.toNat_natCast _⟩)
  have hF : ∀ e i : Int, e ≠ 0 → R (.tuple [.int .i64 e, .int .i64 i]) := fun e i he => hR _ ⟨_, _, rfl, fun h => absurd h he⟩
  (split <;> rename_i h1 <;> (try (simp only [eL] at h1)) <;> (try (simp only [hz, Z.a, binStd, cmpStd, unStd, scmpStd, maxI, reduceCtorEq] at h1)) <;> (try cbv))
  · exact ⟨_, Vw.same rfl, hF _ _ (by decide)⟩
  (split <;> rename_i h2 <;> (try (simp only [eL] at h2)) <;> (try (simp only [hz, Z.a, binStd, cmpStd, unStd, scmpStd, maxI, reduceCtorEq] at h2)) <;> (try cbv))
  · exact ⟨_, Vw.same rfl, hF _ _ (by decide)⟩
  (split <;> rename_i h3 <;> (try (simp only [eJ] at h3)) <;> (try (simp only [hz, Z.a, binStd, cmpStd, unStd, scmpStd, maxI, reduceCtorEq] at h3)) <;> (try cbv))
  · exact ⟨_, Vw.same rfl, hF _ _ (by decide)⟩
  refine Loop.data hw (S := Int) (fun i => fr 115 [(1, .ref 0 2 0 0), (4, .int .i64 i)]) (fun i => [.live 2 [[.list 3 es, .list 5 ds]]]) (fun i => 0 ≤ i ∧ i ≤ L ∧ ∀ j, j < i.toNat → ∀ s, ss[j]? = some s → SegOk s L) (fun i => (L - i).toNat) 0 (by (refine Wk.eqz (id) (by first | exact fun i _ j _ e => e | (simp only [List.length_cons, List.length_nil]; decide)) ?_; cbv; (repeat' (first | exact trivial | rfl | assumption | apply And.intro | (simp only [hz, Z.a, binStd, cmpStd, unStd, scmpStd, maxI, reduceCtorEq]; first | done | assumption) | exact RowsZ.same (by assumption) (by first | assumption | rfl) | exact FzL.mk rfl rfl rfl (by assumption) (by first | assumption | rfl) (by decide) | (refine RowsZ.one ?_; cbv))))) ⟨Int.le_refl _, L0, fun j hj => (by simp at hj)⟩ ?_
  rintro i hinv Q' hN hE hR'
  have hinv : 0 ≤ i ∧ i ≤ L ∧ ∀ j, j < i.toNat → ∀ s, ss[j]? = some s → SegOk s L := hinv
  cbv
  obtain ⟨hi0, hi1, hl⟩ := hinv
  (split <;> rename_i hc <;> (try (simp only [eL] at hc)) <;> (try (simp only [hz, Z.a, binStd, cmpStd, unStd, scmpStd, maxI, reduceCtorEq] at hc)) <;> (try cbv))
  · obtain ⟨⟨len, ps, nx⟩, hd, hrow⟩ := get_map (f := sgRow) (ds := ss) (i := i) hi0 (by omega)
    obtain ⟨q1, eq1⟩ : ∃ x, ps.map pcRow = x := ⟨_, rfl⟩
    obtain ⟨n1, en1⟩ : ∃ x, nx.map nxRow = x := ⟨_, rfl⟩
    have hrow : es[i.toNat]? = some [.int .i64 len, .list 2 q1, .list 1 n1] := by rw [hes, ← eq1, ← en1]; exact hrow
    have huq : Up0 q1 := by rw [← eq1]; exact up_pc ps
    have hun : Up0 n1 := by rw [← en1]; exact up_nx nx
    obtain ⟨i', ei'⟩ : ∃ x, i + 1 = x := ⟨_, rfl⟩
    have ei : wbin .add .i64 i 1 = i' := by rw [hbin, i_add (by omega) (by omega)]; exact ei'
    have hT : (L - i').toNat < (L - i).toNat := by omega
    refine Idx.mk [.int .i64 len, .list 2 q1, .list 1 n1] hi0 hrow ?_
    cbv
    simp only [eL]
    obtain ⟨o, hseg, ho⟩ := e_seg11V ⟨len, ps, nx⟩ q1 n1 eq1.symm en1.symm L
    refine QCal.stepE (by rw [← hP]; exact hseg) (by exact Bool.and_eq_true_iff.mpr ⟨up_segRow huq hun, rfl⟩) ?_
    cbv
    (split <;> rename_i h <;> (try (simp only [hz, Z.a, binStd, cmpStd, unStd, scmpStd, maxI, reduceCtorEq] at h)) <;> (try cbv))
    · exact hR' _ _ ⟨_, Vw.same rfl, hF _ _ (by decide)⟩
    refine hN i' _ _ ?hx ?hi hT
    case hx => (refine Wk.eqz (id) (by first | exact fun i _ j _ e => e | (simp only [List.length_cons, List.length_nil]; decide)) ?_; cbv; (repeat' (first | exact trivial | rfl | assumption | apply And.intro | (simp only [hz, Z.a, binStd, cmpStd, unStd, scmpStd, maxI, reduceCtorEq]; first | done | assumption) | exact RowsZ.same (by assumption) (by first | assumption | rfl) | exact FzL.mk rfl rfl rfl (by assumption) (by first | assumption | rfl) (by decide) | (refine RowsZ.one ?_; cbv))))
    case hi =>
      refine ⟨by omega, by omega, ?_⟩
      rw [← ei']
      refine all_step hi0 hl fun m hm => ?_
      rw [hd] at hm
      obtain rfl : (⟨len, ps, nx⟩ : Sg) = m := by simpa using hm
      exact ho.1 h
  refine hE _ _ _ ?_
  cbv
  have hseg : ∀ j, j < ss.length → ∀ s, ss[j]? = some s → SegOk s L := fun j hj => hl j (by omega)
  clear hl hN hE hR'
  refine Loop.data hw (S := Int × Int) (fun s => fr 115 [(1, .ref 0 2 0 0), (5, .int .i64 s.2), (6, .int .i64 s.1)]) (fun s => [.live 2 [[.list 3 es, .list 5 ds]]]) (fun s => 0 ≤ s.1 ∧ s.1 ≤ J ∧ 0 ≤ s.2 ∧ (0 < s.1 → ∀ o, gs[s.1.toNat - 1]? = some o → s.2 = o.id) ∧ ∀ j, j < s.1.toNat → GrOk ss gs j) (fun s => (J - s.1).toNat) (0, 0) (by (refine Wk.eqz (id) (by first | exact fun i _ j _ e => e | (simp only [List.length_cons, List.length_nil]; decide)) ?_; cbv; (repeat' (first | exact trivial | rfl | assumption | apply And.intro | (simp only [hz, Z.a, binStd, cmpStd, unStd, scmpStd, maxI, reduceCtorEq]; first | done | assumption) | exact RowsZ.same (by assumption) (by first | assumption | rfl) | exact FzL.mk rfl rfl rfl (by assumption) (by first | assumption | rfl) (by decide) | (refine RowsZ.one ?_; cbv))))) ⟨Int.le_refl _, J0, Int.le_refl _, fun h => absurd h (by decide), fun j hj => (by simp at hj)⟩ ?_
  rintro ⟨i, last⟩ hinv Q' hN hE hR'
  have hinv : 0 ≤ i ∧ i ≤ J ∧ 0 ≤ last ∧ (0 < i → ∀ o, gs[i.toNat - 1]? = some o → last = o.id) ∧ ∀ j, j < i.toNat → GrOk ss gs j := hinv
  cbv
  obtain ⟨hi0, hi1, hla, hlo, hl⟩ := hinv
  (split <;> rename_i hc <;> (try (simp only [eJ] at hc)) <;> (try (simp only [hz, Z.a, binStd, cmpStd, unStd, scmpStd, maxI, reduceCtorEq] at hc)) <;> (try cbv))
  · obtain ⟨⟨g1, g2, g3, g4, g5⟩, hd, hrow⟩ := get_map (f := grRow) (ds := gs) (i := i) hi0 (by omega)
    have hrow : ds[i.toNat]? = some [.int .i64 g1, .int .i64 g2, .int .i64 g3, .int .i64 g4, .int .i64 g5] := by rw [hds]; exact hrow
    obtain ⟨i', ei'⟩ : ∃ x, i + 1 = x := ⟨_, rfl⟩
    have ei : wbin .add .i64 i 1 = i' := by rw [hbin, i_add (by omega) (by omega)]; exact ei'
    have hT : (J - i').toNat < (J - i).toNat := by omega
    refine Idx.mk [.int .i64 g1, .int .i64 g2, .int .i64 g3, .int .i64 g4, .int .i64 g5] hi0 hrow ?_
    cbv
    obtain ⟨len, q1, n1, hrs⟩ : ∃ len q1 n1, 0 ≤ g2 ∧ g2 < L → es[g2.toNat]? = some [.int .i64 len, .list 2 q1, .list 1 n1] ∧ ∀ s, ss[g2.toNat]? = some s → s.len = len := by
      by_cases h : 0 ≤ g2 ∧ g2 < L
      · obtain ⟨⟨len, ps, nx⟩, k1, k2⟩ := get_map (f := sgRow) (ds := ss) (i := g2) h.1 (by omega)
        exact ⟨len, _, _, fun _ => ⟨by rw [hes]; exact k2, fun s hs => by rw [k1] at hs; obtain rfl : (⟨len, ps, nx⟩ : Sg) = s := (by simpa using hs); rfl⟩⟩
      · exact ⟨0, [], [], fun h' => absurd h' h⟩
    repeat' (first
      | exact hR' _ _ ⟨_, Vw.same rfl, hF _ _ (by decide)⟩
      | (refine Idx.mk [.int .i64 len, .list 2 q1, .list 1 n1] (by assumption) (hrs ⟨by assumption, by assumption⟩).1 ?_; cbv)
      | (split <;> rename_i h <;> (try (simp only [eL] at h)) <;> (try (simp only [hz, Z.a, binStd, cmpStd, unStd, scmpStd, maxI, reduceCtorEq] at h)) <;> (try cbv)))
    all_goals
      refine hN (i', g1) _ _ ?hx ?hi hT
      case hx => (refine Wk.eqz (id) (by first | exact fun i _ j _ e => e | (simp only [List.length_cons, List.length_nil]; decide)) ?_; cbv; (repeat' (first | exact trivial | rfl | assumption | apply And.intro | (simp only [hz, Z.a, binStd, cmpStd, unStd, scmpStd, maxI, reduceCtorEq]; first | done | assumption) | exact RowsZ.same (by assumption) (by first | assumption | rfl) | exact FzL.mk rfl rfl rfl (by assumption) (by first | assumption | rfl) (by decide) | (refine RowsZ.one ?_; cbv))))
      case hi =>
        refine ⟨by simp only; omega, by simp only; omega, by simp only; omega, fun _ o ho => ?_, ?_⟩
        · simp only at ho
          rw [show i'.toNat - 1 = i.toNat by omega, hd] at ho
          obtain rfl : (⟨g1, g2, g3, g4, g5⟩ : Gr) = o := by simpa using ho
          rfl
        · simp only
          rw [← ei']
          refine all_step hi0 hl fun g hg => ?_
          rw [hd] at hg
          obtain rfl : (⟨g1, g2, g3, g4, g5⟩ : Gr) = g := by simpa using hg
          refine ⟨by simp only; omega, by simp only; omega, by simp only; omega, by simp only; omega, by simp only; omega, fun s hs => ?_, by simp only; omega, by simp only; omega, by simp only; omega, by simp only; omega, fun hj o ho => ?_⟩
          · rw [(hrs ⟨by omega, by omega⟩).2 s hs]; assumption
          · have := hlo (by omega) o ho
            simp only; omega
  refine hE _ _ _ ?_
  cbv
  have eLL : L = ss.length := by omega
  exact ⟨_, Vw.same rfl, hR _ ⟨_, _, rfl, fun _ => ⟨by omega, by omega, by omega, fun j hj s hs => (by rw [← eLL]; exact hseg j hj s hs), fun j hj => hl j (by omega)⟩⟩⟩
end Go.Proofs.Ytpiocfmdjgbamaa

/- A track's lengths, and ways as lists: what the texts on routes need. -/
namespace Go.Proofs.Ytpiocfmdjgbamaa
open Go Go.RowKit Go.Eng
def lenAt (ss : List Sg) (n : Int) : Int := match ss[n.toNat]? with | some s => s.len | none => 0
def rtRow (l : List Int) : List AV := [.list 1 (l.map nxRow)]
theorem up_rt (rs : List (List Int)) : Up0 (rs.map rtRow) := up_map (f := rtRow) (fun d => Up0.one (up_nx d) rfl) rs
theorem take_next {α : Type} {l : List α} {i : Int} {a : α} (h0 : 0 ≤ i) (hr : l[i.toNat]? = some a) : l.take (i + 1).toNat = l.take i.toNat ++ [a] := by
  rw [show (i + 1).toNat = i.toNat + 1 by omega, List.take_add_one, hr]; rfl
structure LensOk (ss : List Sg) : Prop where
  pos : ∀ s, s ∈ ss → 1 ≤ s.len ∧ s.len ≤ 1099511627776
end Go.Proofs.Ytpiocfmdjgbamaa

/- Routes, plainly: what a way grows to. -/
namespace Go.Proofs.Ytpiocfmdjgbamaa
open Go Go.RowKit Go.Eng
set_option maxRecDepth 100000
def lenI : List Int → Int
  | [] => 0
  | _ :: l => lenI l + 1
theorem lenI_len : ∀ l : List Int, lenI l = l.length
  | [] => rfl
  | _ :: l => by simp only [lenI, lenI_len l, List.length_cons]; omega
theorem lenI_nn (l : List Int) : 0 ≤ lenI l ∧ (lenI l).toNat = l.length := by rw [lenI_len]; omega
def toR (l : List Int) : R13 := ⟨lenI l, l.getD 0 0, l.getD 1 0, l.getD 2 0, l.getD 3 0, l.getD 4 0, l.getD 5 0, l.getD 6 0, l.getD 7 0, l.getD 8 0, l.getD 9 0, l.getD 10 0, l.getD 11 0⟩
def rtC (l : List Int) : List AV := (toR l).row
theorem toR_inj {l m : List Int} (hl : l.length ≤ 12) (hm : m.length ≤ 12) (h : toR l = toR m) : l = m := by
  simp only [toR, R13.mk.injEq] at h
  obtain ⟨h0, k0, k1, k2, k3, k4, k5, k6, k7, k8, k9, k10, k11⟩ := h
  rw [lenI_len, lenI_len] at h0
  apply List.ext_getElem
  · omega
  · intro i hi hj
    have key : ∀ j, j < 12 → l.getD j 0 = m.getD j 0 := by
      intro j hj
      match j, hj with
      | 0, _ => exact k0
      | 1, _ => exact k1
      | 2, _ => exact k2
      | 3, _ => exact k3
      | 4, _ => exact k4
      | 5, _ => exact k5
      | 6, _ => exact k6
      | 7, _ => exact k7
      | 8, _ => exact k8
      | 9, _ => exact k9
      | 10, _ => exact k10
      | 11, _ => exact k11
    have := key i (by omega)
    simpa [List.getD_eq_getElem?_getD, hi, hj] using this
theorem toR_eq {l m : List Int} (hl : l.length ≤ 12) (hm : m.length ≤ 12) : toR l = toR m ↔ l = m := ⟨toR_inj hl hm, fun h => by rw [h]⟩
def os13 : List (Nat × Nat) := [(0, 1), (1, 1), (2, 1), (3, 1), (4, 1), (5, 1), (6, 1), (7, 1), (8, 1), (9, 1), (10, 1), (11, 1), (12, 1)]
theorem key_r13 (x y : R13) : keyEq true 13 os13 (.agg x.row) (.agg y.row) = some (decide (x = y)) := by
  obtain ⟨n, s0, s1, s2, s3, s4, s5, s6, s7, s8, s9, s10, s11⟩ := x
  obtain ⟨n', s0', s1', s2', s3', s4', s5', s6', s7', s8', s9', s10', s11'⟩ := y
  simp only [keyEq, keyCells, R13.row, List.length_cons, List.length_nil, if_true, os13]
  simp only [eqOffs, eqA, List.getD_cons_zero, List.getD_cons_succ, if_true, Option.some.injEq, Bool.and_true]
  rw [Bool.eq_iff_iff]
  simp only [Bool.and_eq_true, beq_iff_eq, decide_eq_true_eq, R13.mk.injEq, and_assoc]
def enR (l : List Int) : List AV := [.agg (rtC l), .int .i64 (lenI l)]
def ents (m : List (List Int)) : List (List AV) := m.map enR
theorem up_enR (l : List Int) : uptoL 0 (enR l) = true := rfl
theorem up_ents (m : List (List Int)) : Up0 (ents m) := up_map (f := enR) (fun d => rfl) m
theorem ents_two (m : List (List Int)) : ∀ e, e ∈ ents m → e.length = 2 := fun e he => by obtain ⟨l, _, rfl⟩ := List.mem_map.1 he; rfl
theorem ents_len (m : List (List Int)) : (ents m).length = m.length := by simp [ents]
def putL (m : List (List Int)) (l : List Int) : List (List Int) := if l ∈ m then m else m ++ [l]
theorem put_ents : ∀ (m : List (List Int)) (l : List Int), l.length ≤ 12 → (∀ k, k ∈ m → k.length ≤ 12) → putR true 13 os13 (ents m) (.agg (rtC l)) (.int .i64 (lenI l)) = some (ents (putL m l))
  | [], l, hl, hm => rfl
  | k :: m, l, hl, hm => by
    have hk := hm k List.mem_cons_self
    have ih := put_ents m l hl fun j hj => hm j (List.mem_cons_of_mem _ hj)
    have e : keyEq true 13 os13 (.agg (rtC l)) (.agg (rtC k)) = some (decide (l = k)) := by
      have := key_r13 (toR l) (toR k)
      rw [show decide (toR l = toR k) = decide (l = k) by rw [Bool.eq_iff_iff, decide_eq_true_iff, decide_eq_true_iff, toR_eq hl hk]] at this
      exact this
    have e2 : putR true 13 os13 (ents (k :: m)) (.agg (rtC l)) (.int .i64 (lenI l)) = (match keyEq true 13 os13 (.agg (rtC l)) (.agg (rtC k)) with
      | some true => some ([.agg (rtC l), .int .i64 (lenI l)] :: ents m)
      | some false => (match putR true 13 os13 (ents m) (.agg (rtC l)) (.int .i64 (lenI l)) with | some r => some (enR k :: r) | none => none)
      | none => none) := rfl
    rw [e2, e]
    by_cases h : l = k
    · subst h
      simp only [decide_true]
      simp [putL, ents, enR]
    · have hd : decide (l = k) = false := by simp [h]
      rw [hd]
      simp only [ih]
      unfold putL
      by_cases hm2 : l ∈ m
      · rw [if_pos hm2, if_pos (List.mem_cons_of_mem _ hm2)]; rfl
      · rw [if_neg hm2, if_neg (by simp [h, hm2])]; simp [ents]
def nxAt (ss : List Sg) (n : Int) : List Int := match ss[n.toNat]? with | some s => s.nx | none => []
def lastI : List Int → Int
  | [] => 0
  | [a] => a
  | _ :: b :: l => lastI (b :: l)
def growF (ss : List Sg) (lo hi : Int) : Nat → List Int → Int → Int × List (List Int) → Int × List (List Int)
  | 0, _, _, s => s
  | f + 1, l, en, s =>
    if s.1 ≠ 0 then s
    else if hi ≤ en ∨ nxAt ss (lastI l) = [] then
      (if 16 < (if lo ≤ en then putL s.2 l else s.2).length then 13 else 0, if lo ≤ en then putL s.2 l else s.2)
    else if l.length = 12 then (13, s.2)
    else (nxAt ss (lastI l)).foldl (fun s n => growF ss lo hi f (l ++ [n]) (en + lenAt ss n) s) s
structure NextOk (ss : List Sg) : Prop where
  all : ∀ s, s ∈ ss → s.nx.length ≤ 2 ∧ ∀ n, n ∈ s.nx → 0 ≤ n ∧ n.toNat < ss.length
theorem TrackOk.nextOk {ss : List Sg} {gs : List Gr} (h : TrackOk ss gs) : NextOk ss := ⟨fun s hs => by
  obtain ⟨j, hj⟩ := List.mem_iff_getElem?.1 hs
  have := h.seg j (List.getElem?_eq_some_iff.1 hj).1 s hj
  refine ⟨this.two, fun n hn => ?_⟩
  obtain ⟨k, hk⟩ := List.mem_iff_getElem?.1 hn
  have := this.nx k (List.getElem?_eq_some_iff.1 hk).1 n hk
  omega⟩
theorem TrackOk.lensOk {ss : List Sg} {gs : List Gr} (h : TrackOk ss gs) : LensOk ss := ⟨fun s hs => by
  obtain ⟨j, hj⟩ := List.mem_iff_getElem?.1 hs
  have := h.seg j (List.getElem?_eq_some_iff.1 hj).1 s hj
  exact ⟨this.pos, this.le⟩⟩
theorem nxAt_ok {ss : List Sg} (h : NextOk ss) {q n : Int} (hn : n ∈ nxAt ss q) : 0 ≤ n ∧ n.toNat < ss.length := by
  unfold nxAt at hn
  split at hn
  · rename_i s hs; exact (h.all s (List.mem_of_getElem? hs)).2 n hn
  · cases hn
theorem nxAt_two {ss : List Sg} (h : NextOk ss) (q : Int) : (nxAt ss q).length ≤ 2 := by
  unfold nxAt
  split
  · rename_i s hs; exact (h.all s (List.mem_of_getElem? hs)).1
  · simp
theorem putL_len (m : List (List Int)) (l : List Int) : (putL m l).length ≤ m.length + 1 := by unfold putL; split <;> simp
theorem putL_mem {m : List (List Int)} {l k : List Int} : k ∈ putL m l ↔ k ∈ m ∨ k = l := by
  unfold putL
  split
  · rename_i h
    exact ⟨fun h => .inl h, fun h' => h'.elim id fun e => e ▸ h⟩
  · simp
structure GOk (s : Int × List (List Int)) : Prop where
  len : s.2.length ≤ 17
  few : s.1 = 0 → s.2.length ≤ 16
  all : ∀ k, k ∈ s.2 → k.length ≤ 12 ∧ 1 ≤ k.length
  nd : s.2.Nodup
theorem GOk.put {s : Int × List (List Int)} (h : GOk s) (h0 : s.1 = 0) {l : List Int} (hl : l.length ≤ 12 ∧ 1 ≤ l.length) : GOk (if 16 < (putL s.2 l).length then 13 else 0, putL s.2 l) := by
  have := putL_len s.2 l
  have := h.few h0
  refine ⟨by simp only; omega, fun e => by simp only at e ⊢; split at e <;> omega, fun k hk => ?_, ?_⟩
  · rcases putL_mem.1 hk with hk | rfl
    · exact h.all k hk
    · exact hl
  · show (putL s.2 l).Nodup
    unfold putL
    split
    · exact h.nd
    · rename_i hn
      exact List.nodup_append.2 ⟨h.nd, by simp, fun a ha b hb => by simp at hb; subst hb; exact fun e => hn (e ▸ ha)⟩
theorem growF_ok (ss : List Sg) (lo hi : Int) : ∀ (f : Nat) (l : List Int) (en : Int) (s : Int × List (List Int)), GOk s → (l.length ≤ 12 ∧ 1 ≤ l.length) → GOk (growF ss lo hi f l en s)
  | 0, l, en, s, h, hl => h
  | f + 1, l, en, s, h, hl => by
    unfold growF
    split
    · exact h
    · rename_i h0
      have h0 : s.1 = 0 := Classical.not_not.1 h0
      split
      · by_cases hlo : lo ≤ en
        · simp only [if_pos hlo]; exact h.put h0 hl
        · simp only [if_neg hlo]
          have := h.few h0
          exact ⟨h.len, fun _ => this, h.all, h.nd⟩
      · split
        · exact ⟨h.len, fun e => (by cases e), h.all, h.nd⟩
        · rename_i h12
          generalize nxAt ss (lastI l) = ns
          have step : ∀ (ns : List Int) (s : Int × List (List Int)), GOk s → GOk (ns.foldl (fun s n => growF ss lo hi f (l ++ [n]) (en + lenAt ss n) s) s) := by
            intro ns
            induction ns with
            | nil => intro s h; exact h
            | cons n ns ih => intro s h; exact ih _ (growF_ok ss lo hi f (l ++ [n]) _ s h (by simp; omega))
          exact step ns s h
theorem growF_e (ss : List Sg) (lo hi : Int) : ∀ (f : Nat) (l : List Int) (en : Int) (s : Int × List (List Int)), (s.1 = 0 ∨ s.1 = 13) → ((growF ss lo hi f l en s).1 = 0 ∨ (growF ss lo hi f l en s).1 = 13)
  | 0, l, en, s, h => h
  | f + 1, l, en, s, h => by
    unfold growF
    split
    · exact h
    · split
      · show (if 16 < (if lo ≤ en then putL s.2 l else s.2).length then (13 : Int) else 0) = 0 ∨ (if 16 < (if lo ≤ en then putL s.2 l else s.2).length then (13 : Int) else 0) = 13
        by_cases hq : 16 < (if lo ≤ en then putL s.2 l else s.2).length
        · rw [if_pos hq]; exact .inr rfl
        · rw [if_neg hq]; exact .inl rfl
      · split
        · exact .inr rfl
        · generalize nxAt ss (lastI l) = ns
          have step : ∀ (ns : List Int) (s : Int × List (List Int)), (s.1 = 0 ∨ s.1 = 13) → ((ns.foldl (fun s n => growF ss lo hi f (l ++ [n]) (en + lenAt ss n) s) s).1 = 0 ∨ (ns.foldl (fun s n => growF ss lo hi f (l ++ [n]) (en + lenAt ss n) s) s).1 = 13) := by
            intro ns
            induction ns with
            | nil => intro s h; exact h
            | cons n ns ih => intro s h; exact ih _ (growF_e ss lo hi f (l ++ [n]) _ s h)
          exact step ns s h
end Go.Proofs.Ytpiocfmdjgbamaa

/- route.grower.grow: what it does; at the greatest depth. Printed by wip/tools/genroute.py. -/
namespace Go.Proofs.Ytpiocfmdjgbamaa
open Go Go.RowKit Go.Eng
set_option maxRecDepth 100000
abbrev gRow (es ds : List (List AV)) (lo hi : Int) (sm : Nat) (e : Int) : List AV := [.list 3 es, .list 5 ds, .int .i64 lo, .int .i64 hi, .mapr sm, .int .i64 e]
def GrowC (ss : List Sg) (es ds : List (List AV)) (lo hi : Int) (f : Nat) (l : List Int) : Prop :=
  ∀ (en : Int) (e : Int) (m : List (List Int)), GOk (e, m) → (e = 0 ∨ e = 13) → (-1099511627776 ≤ en ∧ en ≤ lenI l * 1099511627776) → (∀ n, n ∈ l → 0 ≤ n ∧ n.toNat < ss.length) → ∀ K : AV → AHeap → Prop,
    (∀ j, K (.tuple []) (.live 6 [gRow es ds lo hi 1 (growF ss lo hi f l en (e, m)).1] :: .live 0 (ents (growF ss lo hi f l en (e, m)).2) :: j)) →
    ACall Try.prog 55 [.ref 0 6 0 0, .agg (rtC l), .int .i64 en] [.live 6 [gRow es ds lo hi 1 e], .live 0 (ents m)] K
theorem ren_list {f : Nat → Nat} {es : List (List AV)} (h : Up0 es) : renLL f es = es := renLL_upto f es h.get
theorem GrowC.call {ss : List Sg} {es ds : List (List AV)} (hu : Up0 es) (hud : Up0 ds) {lo hi : Int} {f : Nat} {l : List Int} (H : GrowC ss es ds lo hi f l) {P : Program} (hP : Try.prog = P) {h : AHeap} {sg sm : Nat} (hne : sg ≠ sm) {en e : Int} {m : List (List Int)} (hg : h[sg]? = some (.live 6 [gRow es ds lo hi sm e])) (hm : h[sm]? = some (.live 0 (ents m)))
    (hok : GOk (e, m)) (he : e = 0 ∨ e = 13) (hen : -1099511627776 ≤ en ∧ en ≤ lenI l * 1099511627776) (hl : ∀ n, n ∈ l → 0 ≤ n ∧ n.toNat < ss.length) {K : AV → AHeap → Prop}
    (hK : K (.tuple []) ((h.set sg (.live 6 [gRow es ds lo hi sm (growF ss lo hi f l en (e, m)).1])).set sm (.live 0 (ents (growF ss lo hi f l en (e, m)).2)))) :
    ACall P 55 [.ref sg 6 0 0, .agg (rtC l), .int .i64 en] h K := by
  subst hP
  have u0 : ∀ e' : Int, uptoLL 2 [gRow es ds lo hi 1 e'] = true := fun e' => by
    simp only [uptoLL, uptoL, AV.upto, uptoLL_m 2 es hu.get, uptoLL_m 2 ds hud.get]; rfl
  have u1 : ∀ m, uptoLL 2 (ents m) = true := fun m => uptoLL_m 2 _ (up_ents m).get
  have r0 : ∀ e' : Int, renLL (fun i => if i = 0 then sg else sm) [gRow es ds lo hi 1 e'] = [gRow es ds lo hi sm e'] := fun e' => by
    simp only [renLL, renL, AV.ren, ren_list hu, ren_list hud]; rfl
  have r1 : ∀ m, renLL (fun i => if i = 0 then sg else sm) (ents m) = ents m := fun m => ren_list (up_ents m)
  refine ACall.frame (fun i => if i = 0 then sg else sm) (H en e m hok he hen hl (fun r hD => r = .tuple [] ∧ ∃ j, hD = .live 6 [gRow es ds lo hi 1 (growF ss lo hi f l en (e, m)).1] :: .live 0 (ents (growF ss lo hi f l en (e, m)).2) :: j) fun j => ⟨rfl, j, rfl⟩) ?_ ?_ ?_ ?_ ?_
  · intro i hi j hj hij
    simp only [List.length_cons, List.length_nil] at hi hj
    by_cases h1 : i = 0 <;> by_cases h2 : j = 0 <;> simp [h1, h2] at hij <;> omega
  · intro i hi
    match i, hi with
    | 0, _ => exact ⟨6, _, rfl, u0 e, by rw [r0]; exact hg⟩
    | 1, _ => exact ⟨0, _, rfl, u1 m, by rw [r1]; exact hm⟩
    | i + 2, hi => simp only [List.length_cons, List.length_nil] at hi; omega
  · rfl
  · rfl
  · rintro r hD ⟨rfl, j, rfl⟩
    refine ⟨rfl, fun i hi => ?_, ?_⟩
    · match i, hi with
      | 0, _ => exact ⟨6, _, rfl, u0 _⟩
      | 1, _ => exact ⟨0, _, rfl, u1 _⟩
      | i + 2, hi => simp only [List.length_cons, List.length_nil] at hi; omega
    · simp only [List.length_cons, List.length_nil, updH, renS, List.getD_cons_zero, List.getD_cons_succ, r0, r1]
      exact hK
set_option maxHeartbeats 2000000 in
theorem e_grow12 (ss : List Sg) (gs : List Gr) (es ds : List (List AV)) (hes : es = ss.map sgRow) (hds : ds = gs.map grRow) (hln : LensOk ss) (hnx : NextOk ss) (lo hi : Int) (x0 x1 x2 x3 x4 x5 x6 x7 x8 x9 x10 x11 : Int) : GrowC ss es ds lo hi 1 [x0, x1, x2, x3, x4, x5, x6, x7, x8, x9, x10, x11] := by
  have hu : Up0 es := by rw [hes]; exact up_sg ss
  have hud : Up0 ds := by rw [hds]; exact up_gr gs
  intro en e m hok he hen hl K hK
  have hlast := hl x11 (by simp)
  obtain ⟨sg0, hd0, hrow0⟩ := get_map (f := sgRow) (ds := ss) (i := x11) hlast.1 hlast.2
  have hnxe : nxAt ss x11 = sg0.nx := by unfold nxAt; rw [hd0]
  have hnx0 : ∀ n, n ∈ sg0.nx → 0 ≤ n ∧ n.toNat < ss.length := fun n hn => nxAt_ok hnx (by rw [hnxe]; exact hn)
  have hnx2 : sg0.nx.length ≤ 2 := by have := nxAt_two hnx x11; rw [hnxe] at this; exact this
  have hF : growF ss lo hi 1 [x0, x1, x2, x3, x4, x5, x6, x7, x8, x9, x10, x11] en (e, m) = (if e ≠ 0 then (e, m) else if hi ≤ en ∨ sg0.nx = [] then (if 16 < (if lo ≤ en then putL m [x0, x1, x2, x3, x4, x5, x6, x7, x8, x9, x10, x11] else m).length then 13 else 0, if lo ≤ en then putL m [x0, x1, x2, x3, x4, x5, x6, x7, x8, x9, x10, x11] else m) else (13, m)) := by
    rw [← hnxe]; rfl
  rw [hF] at hK
  obtain ⟨len, pcs, nx⟩ := sg0
  obtain ⟨q0, eq0⟩ : ∃ x, pcs.map pcRow = x := ⟨_, rfl⟩
  obtain ⟨ns, ens⟩ : ∃ x, nx.map nxRow = x := ⟨_, rfl⟩
  have huns : Up0 ns := by rw [← ens]; exact up_nx nx
  have hnl : ns.length = nx.length := by rw [← ens]; simp
  have hrow0 : es[x11.toNat]? = some [.int .i64 len, .list 2 q0, .list 1 ns] := by rw [hes, ← eq0, ← ens]; exact hrow0
  have hput := put_ents m [x0, x1, x2, x3, x4, x5, x6, x7, x8, x9, x10, x11] (by simp only [List.length_cons, List.length_nil]; omega) (fun j hj => (hok.all j hj).1)
  obtain ⟨em, eem⟩ : ∃ x, ents m = x := ⟨_, rfl⟩
  obtain ⟨em2, eem2⟩ : ∃ x, ents (putL m [x0, x1, x2, x3, x4, x5, x6, x7, x8, x9, x10, x11]) = x := ⟨_, rfl⟩
  have hum : Up0 em := by rw [← eem]; exact up_ents m
  have htwo : ∀ e, e ∈ em → e.length = 2 := by rw [← eem]; exact ents_two m
  have htwo2 : ∀ e, e ∈ em2 → e.length = 2 := by rw [← eem2]; exact ents_two _
  have heml : em.length = m.length := by rw [← eem]; exact ents_len m
  have heml2 : em2.length = (putL m [x0, x1, x2, x3, x4, x5, x6, x7, x8, x9, x10, x11]).length := by rw [← eem2]; exact ents_len _
  rw [eem, eem2] at hput
  rw [eem]
  have hnxs : ∀ n, n ∈ nx → 0 ≤ n ∧ n.toNat < ss.length := hnx0
  have hnx2 : nx.length ≤ 2 := hnx2
  show ACall Try.prog 55 [.ref 0 6 0 0, .agg [.int .i64 12, .int .i64 x0, .int .i64 x1, .int .i64 x2, .int .i64 x3, .int .i64 x4, .int .i64 x5, .int .i64 x6, .int .i64 x7, .int .i64 x8, .int .i64 x9, .int .i64 x10, .int .i64 x11], .int .i64 en] [.live 6 [gRow es ds lo hi 1 e], .live 0 em] K
  (refine ACall.ofI Try.func55 (by kernel_rfl) (by kernel_rfl) fun w hw => ?_); (obtain ⟨wbin, wcmp, wun, wconv, wnot, wbeq, wmm, wscmp, wsadd, wslen, wsat, weqs, wlen, wnlen, wofNat, wtake, wdrop, wapp, wzero, wnat⟩ := w); (have hbin := Z.w1 hw); (have hcmp := Z.w2 hw); (have hun := Z.w3 hw); (have hconv := Z.w4 hw); (have hnot := Z.w5 hw); (have hbeq := Z.w6 hw); (have hmm := Z.w7 hw); (have hscmp := Z.w8 hw); (have hsadd := Z.w9 hw); (have hslen := Z.w10 hw); (have hsat := Z.w11 hw); (have heqs := Z.w12 hw); (have hlen := Z.w13 hw); (have hnlen := Z.w14 hw); (have hofNat := Z.w15 hw); (have htake := Z.w16 hw); (have hdrop := Z.w17 hw); (have happ := Z.w18 hw); (have hzero := Z.w19 hw); (have hnat := Z.w20 hw); (have hz := Z.z hw); (conv => arg 2; cbv); (generalize hP : Try.prog = P); cbv
  have s1 : wbin .sub .i64 12 1 = 11 := by rw [hbin]; rfl
  simp only [s1]
  refine InN.mk (by decide) (by decide) ?_
  cbv
  repeat' (first
    | (refine RowOf.mk _ rfl ?_; cbv)
    | (refine Idx.mk _ hlast.1 hrow0 ?_; cbv))
  have hKz : e = 0 → (hi ≤ en ∨ nx = []) → ∀ j, K (.tuple []) (.live 6 [gRow es ds lo hi 1 (if 16 < (if lo ≤ en then putL m [x0, x1, x2, x3, x4, x5, x6, x7, x8, x9, x10, x11] else m).length then 13 else 0)] :: .live 0 (ents (if lo ≤ en then putL m [x0, x1, x2, x3, x4, x5, x6, x7, x8, x9, x10, x11] else m)) :: j) := fun h0 hc j => by
    have := hK j
    rw [if_neg (by simp [h0]), if_pos hc] at this
    exact this
  rcases he with rfl | rfl
  rotate_left 1
  · have c0 : wcmp .neq 13 0 = true := by rw [hcmp]; rfl
    simp only [c0]
    cbv
    have := hK [.live 13 [[.int .i64 12, .int .i64 x0, .int .i64 x1, .int .i64 x2, .int .i64 x3, .int .i64 x4, .int .i64 x5, .int .i64 x6, .int .i64 x7, .int .i64 x8, .int .i64 x9, .int .i64 x10, .int .i64 x11]]]
    rw [if_pos (by decide), eem] at this
    exact this
  have c0 : wcmp .neq 0 0 = false := by rw [hcmp]; rfl
  simp only [c0]
  cbv
  (obtain ⟨L, eL, L0, Ln⟩ : ∃ L : Int, wlen ns = L ∧ 0 ≤ L ∧ L.toNat = ns.length := ⟨(ns.length : Int), by rw [hlen], Int.natCast_nonneg _, Int.toNat_natCast _⟩)
  have hKz := hKz rfl
  have n0 : nx = [] ↔ L = 0 := by rw [← List.length_eq_zero_iff, ← hnl, ← Ln]; omega
  have blockA : (hi ≤ en ∨ nx = []) → (lo ≤ en → ∀ j, K (.tuple []) (.live 6 [gRow es ds lo hi 1 (if (16 : Int) < em2.length then 13 else 0)] :: .live 0 em2 :: j)) ∧ (en < lo → ∀ j, K (.tuple []) (.live 6 [gRow es ds lo hi 1 0] :: .live 0 em :: j)) := fun hA => by
    refine ⟨fun hlo j => ?_, fun hlo j => ?_⟩
    · have := hKz hA j
      rw [if_pos hlo, eem2] at this
      by_cases hq : 16 < (putL m [x0, x1, x2, x3, x4, x5, x6, x7, x8, x9, x10, x11]).length
      · rw [if_pos hq] at this
        rw [if_pos (by rw [heml2]; omega)]
        exact this
      · rw [if_neg hq] at this
        rw [if_neg (by rw [heml2]; omega)]
        exact this
    · have := hKz hA j
      rw [if_neg (show ¬ lo ≤ en by omega), eem, if_neg (show ¬ 16 < m.length by have := hok.few rfl; simp only at this; omega)] at this
      exact this
  obtain ⟨n1, en1⟩ : ∃ n : Int, n = em.length := ⟨_, rfl⟩
  obtain ⟨n2, en2⟩ : ∃ n : Int, n = em2.length := ⟨_, rfl⟩
  have h16 : n1 ≤ 16 := by have := hok.few rfl; simp only at this; omega
  simp only [← en2] at blockA
  have lm1 : ∀ {K' : AV → AHeap → Prop} {hp : AHeap} {c : Go.Call} {ty t kt et : TypeId} {x : Operand}, hp[1]? = some (.live 0 em) → c.callee = .builtin .len → c.args = #[x] → c.argTypes = #[t] → P.underlying t = some (.map kt et) → K' (.int .i64 n1) hp → Xo P (.call c) ty [.mapr 1] hp K' := fun h1 h2 h3 h4 h5 h6 => Xo.lenm h2 h3 h4 h5 h1 htwo n1 en1 h6
  have lm2 : ∀ {K' : AV → AHeap → Prop} {hp : AHeap} {c : Go.Call} {ty t kt et : TypeId} {x : Operand}, hp[1]? = some (.live 0 em2) → c.callee = .builtin .len → c.args = #[x] → c.argTypes = #[t] → P.underlying t = some (.map kt et) → K' (.int .i64 n2) hp → Xo P (.call c) ty [.mapr 1] hp K' := fun h1 h2 h3 h4 h5 h6 => Xo.lenm h2 h3 h4 h5 h1 htwo2 n2 en2 h6
  (split <;> rename_i h1 <;> (try (simp only [hz, Z.a, binStd, cmpStd, unStd, scmpStd, maxI, reduceCtorEq] at h1)) <;> (try cbv))
  · obtain ⟨hy, hno⟩ := blockA (.inl h1)
    clear blockA hKz
    (split <;> rename_i h3 <;> (try (simp only [hz, Z.a, binStd, cmpStd, unStd, scmpStd, maxI, reduceCtorEq] at h3)) <;> (try cbv))
    · refine Put.mk em2 rfl hput ?_
      cbv
      refine lm2 (kt := 39) (et := 3) rfl rfl rfl rfl (by rw [← hP]; kernel_rfl) ?_
      cbv
      (split <;> rename_i h4 <;> (try (simp only [hz, Z.a, binStd, cmpStd, unStd, scmpStd, maxI, reduceCtorEq] at h4)) <;> (try cbv))
      · have := hy h3 [.live 13 [[.int .i64 12, .int .i64 x0, .int .i64 x1, .int .i64 x2, .int .i64 x3, .int .i64 x4, .int .i64 x5, .int .i64 x6, .int .i64 x7, .int .i64 x8, .int .i64 x9, .int .i64 x10, .int .i64 x11]]]
        rw [if_pos (by omega)] at this
        exact this
      · have := hy h3 [.live 13 [[.int .i64 12, .int .i64 x0, .int .i64 x1, .int .i64 x2, .int .i64 x3, .int .i64 x4, .int .i64 x5, .int .i64 x6, .int .i64 x7, .int .i64 x8, .int .i64 x9, .int .i64 x10, .int .i64 x11]]]
        rw [if_neg (by omega)] at this
        exact this
    · refine lm1 (kt := 39) (et := 3) rfl rfl rfl rfl (by rw [← hP]; kernel_rfl) ?_
      cbv
      (split <;> rename_i h4 <;> (try (simp only [hz, Z.a, binStd, cmpStd, unStd, scmpStd, maxI, reduceCtorEq] at h4)) <;> (try cbv))
      · exfalso; omega
      · exact hno h3 [.live 13 [[.int .i64 12, .int .i64 x0, .int .i64 x1, .int .i64 x2, .int .i64 x3, .int .i64 x4, .int .i64 x5, .int .i64 x6, .int .i64 x7, .int .i64 x8, .int .i64 x9, .int .i64 x10, .int .i64 x11]]]
  · simp only [eL]
    (split <;> rename_i h2 <;> (try (simp only [hz, Z.a, binStd, cmpStd, unStd, scmpStd, maxI, reduceCtorEq] at h2)) <;> (try cbv))
    · obtain ⟨hy, hno⟩ := blockA (.inr (n0.2 h2))
      clear blockA hKz
      (split <;> rename_i h3 <;> (try (simp only [hz, Z.a, binStd, cmpStd, unStd, scmpStd, maxI, reduceCtorEq] at h3)) <;> (try cbv))
      · refine Put.mk em2 rfl hput ?_
        cbv
        refine lm2 (kt := 39) (et := 3) rfl rfl rfl rfl (by rw [← hP]; kernel_rfl) ?_
        cbv
        (split <;> rename_i h4 <;> (try (simp only [hz, Z.a, binStd, cmpStd, unStd, scmpStd, maxI, reduceCtorEq] at h4)) <;> (try cbv))
        · have := hy h3 [.live 13 [[.int .i64 12, .int .i64 x0, .int .i64 x1, .int .i64 x2, .int .i64 x3, .int .i64 x4, .int .i64 x5, .int .i64 x6, .int .i64 x7, .int .i64 x8, .int .i64 x9, .int .i64 x10, .int .i64 x11]]]
          rw [if_pos (by omega)] at this
          exact this
        · have := hy h3 [.live 13 [[.int .i64 12, .int .i64 x0, .int .i64 x1, .int .i64 x2, .int .i64 x3, .int .i64 x4, .int .i64 x5, .int .i64 x6, .int .i64 x7, .int .i64 x8, .int .i64 x9, .int .i64 x10, .int .i64 x11]]]
          rw [if_neg (by omega)] at this
          exact this
      · refine lm1 (kt := 39) (et := 3) rfl rfl rfl rfl (by rw [← hP]; kernel_rfl) ?_
        cbv
        (split <;> rename_i h4 <;> (try (simp only [hz, Z.a, binStd, cmpStd, unStd, scmpStd, maxI, reduceCtorEq] at h4)) <;> (try cbv))
        · exfalso; omega
        · exact hno h3 [.live 13 [[.int .i64 12, .int .i64 x0, .int .i64 x1, .int .i64 x2, .int .i64 x3, .int .i64 x4, .int .i64 x5, .int .i64 x6, .int .i64 x7, .int .i64 x8, .int .i64 x9, .int .i64 x10, .int .i64 x11]]]
    · have hK := hK
      have c12 : wcmp .eql 12 12 = true := by rw [hcmp]; rfl
      simp only [c12]
      cbv
      have := hK [.live 13 [[.int .i64 12, .int .i64 x0, .int .i64 x1, .int .i64 x2, .int .i64 x3, .int .i64 x4, .int .i64 x5, .int .i64 x6, .int .i64 x7, .int .i64 x8, .int .i64 x9, .int .i64 x10, .int .i64 x11]]]
      rw [if_neg (by decide), if_neg (show ¬ (hi ≤ en ∨ nx = []) by rw [n0]; omega), eem] at this
      exact this
end Go.Proofs.Ytpiocfmdjgbamaa

/- route.grower.grow at depth 11. Printed by wip/tools/genroute.py. -/
namespace Go.Proofs.Ytpiocfmdjgbamaa
open Go Go.RowKit Go.Eng
set_option maxRecDepth 100000
set_option maxHeartbeats 2000000 in
theorem e_grow11 (ss : List Sg) (gs : List Gr) (es ds : List (List AV)) (hes : es = ss.map sgRow) (hds : ds = gs.map grRow) (hln : LensOk ss) (hnx : NextOk ss) (lo hi : Int) (x0 x1 x2 x3 x4 x5 x6 x7 x8 x9 x10 : Int) : GrowC ss es ds lo hi 2 [x0, x1, x2, x3, x4, x5, x6, x7, x8, x9, x10] := by
  have hu : Up0 es := by rw [hes]; exact up_sg ss
  have hud : Up0 ds := by rw [hds]; exact up_gr gs
  intro en e m hok he hen hl K hK
  have hlast := hl x10 (by simp)
  obtain ⟨sg0, hd0, hrow0⟩ := get_map (f := sgRow) (ds := ss) (i := x10) hlast.1 hlast.2
  have hnxe : nxAt ss x10 = sg0.nx := by unfold nxAt; rw [hd0]
  have hnx0 : ∀ n, n ∈ sg0.nx → 0 ≤ n ∧ n.toNat < ss.length := fun n hn => nxAt_ok hnx (by rw [hnxe]; exact hn)
  have hnx2 : sg0.nx.length ≤ 2 := by have := nxAt_two hnx x10; rw [hnxe] at this; exact this
  have hF : growF ss lo hi 2 [x0, x1, x2, x3, x4, x5, x6, x7, x8, x9, x10] en (e, m) = (if e ≠ 0 then (e, m) else if hi ≤ en ∨ sg0.nx = [] then (if 16 < (if lo ≤ en then putL m [x0, x1, x2, x3, x4, x5, x6, x7, x8, x9, x10] else m).length then 13 else 0, if lo ≤ en then putL m [x0, x1, x2, x3, x4, x5, x6, x7, x8, x9, x10] else m) else sg0.nx.foldl (fun s n => growF ss lo hi 1 [x0, x1, x2, x3, x4, x5, x6, x7, x8, x9, x10, n] (en + lenAt ss n) s) (e, m)) := by
    rw [← hnxe]; rfl
  rw [hF] at hK
  obtain ⟨len, pcs, nx⟩ := sg0
  obtain ⟨q0, eq0⟩ : ∃ x, pcs.map pcRow = x := ⟨_, rfl⟩
  obtain ⟨ns, ens⟩ : ∃ x, nx.map nxRow = x := ⟨_, rfl⟩
  have huns : Up0 ns := by rw [← ens]; exact up_nx nx
  have hnl : ns.length = nx.length := by rw [← ens]; simp
  have hrow0 : es[x10.toNat]? = some [.int .i64 len, .list 2 q0, .list 1 ns] := by rw [hes, ← eq0, ← ens]; exact hrow0
  have hput := put_ents m [x0, x1, x2, x3, x4, x5, x6, x7, x8, x9, x10] (by simp only [List.length_cons, List.length_nil]; omega) (fun j hj => (hok.all j hj).1)
  obtain ⟨em, eem⟩ : ∃ x, ents m = x := ⟨_, rfl⟩
  obtain ⟨em2, eem2⟩ : ∃ x, ents (putL m [x0, x1, x2, x3, x4, x5, x6, x7, x8, x9, x10]) = x := ⟨_, rfl⟩
  have hum : Up0 em := by rw [← eem]; exact up_ents m
  have htwo : ∀ e, e ∈ em → e.length = 2 := by rw [← eem]; exact ents_two m
  have htwo2 : ∀ e, e ∈ em2 → e.length = 2 := by rw [← eem2]; exact ents_two _
  have heml : em.length = m.length := by rw [← eem]; exact ents_len m
  have heml2 : em2.length = (putL m [x0, x1, x2, x3, x4, x5, x6, x7, x8, x9, x10]).length := by rw [← eem2]; exact ents_len _
  rw [eem, eem2] at hput
  rw [eem]
  have hnxs : ∀ n, n ∈ nx → 0 ≤ n ∧ n.toNat < ss.length := hnx0
  have hnx2 : nx.length ≤ 2 := hnx2
  show ACall Try.prog 55 [.ref 0 6 0 0, .agg [.int .i64 11, .int .i64 x0, .int .i64 x1, .int .i64 x2, .int .i64 x3, .int .i64 x4, .int .i64 x5, .int .i64 x6, .int .i64 x7, .int .i64 x8, .int .i64 x9, .int .i64 x10, .int .i64 0], .int .i64 en] [.live 6 [gRow es ds lo hi 1 e], .live 0 em] K
  (refine ACall.ofI Try.func55 (by kernel_rfl) (by kernel_rfl) fun w hw => ?_); (obtain ⟨wbin, wcmp, wun, wconv, wnot, wbeq, wmm, wscmp, wsadd, wslen, wsat, weqs, wlen, wnlen, wofNat, wtake, wdrop, wapp, wzero, wnat⟩ := w); (have hbin := Z.w1 hw); (have hcmp := Z.w2 hw); (have hun := Z.w3 hw); (have hconv := Z.w4 hw); (have hnot := Z.w5 hw); (have hbeq := Z.w6 hw); (have hmm := Z.w7 hw); (have hscmp := Z.w8 hw); (have hsadd := Z.w9 hw); (have hslen := Z.w10 hw); (have hsat := Z.w11 hw); (have heqs := Z.w12 hw); (have hlen := Z.w13 hw); (have hnlen := Z.w14 hw); (have hofNat := Z.w15 hw); (have htake := Z.w16 hw); (have hdrop := Z.w17 hw); (have happ := Z.w18 hw); (have hzero := Z.w19 hw); (have hnat := Z.w20 hw); (have hz := Z.z hw); (conv => arg 2; cbv); (generalize hP : Try.prog = P); cbv
  have s1 : wbin .sub .i64 11 1 = 10 := by rw [hbin]; rfl
  simp only [s1]
  refine InN.mk (by decide) (by decide) ?_
  cbv
  repeat' (first
    | (refine RowOf.mk _ rfl ?_; cbv)
    | (refine Idx.mk _ hlast.1 hrow0 ?_; cbv))
  have hKz : e = 0 → (hi ≤ en ∨ nx = []) → ∀ j, K (.tuple []) (.live 6 [gRow es ds lo hi 1 (if 16 < (if lo ≤ en then putL m [x0, x1, x2, x3, x4, x5, x6, x7, x8, x9, x10] else m).length then 13 else 0)] :: .live 0 (ents (if lo ≤ en then putL m [x0, x1, x2, x3, x4, x5, x6, x7, x8, x9, x10] else m)) :: j) := fun h0 hc j => by
    have := hK j
    rw [if_neg (by simp [h0]), if_pos hc] at this
    exact this
  rcases he with rfl | rfl
  rotate_left 1
  · have c0 : wcmp .neq 13 0 = true := by rw [hcmp]; rfl
    simp only [c0]
    cbv
    have := hK [.live 13 [[.int .i64 11, .int .i64 x0, .int .i64 x1, .int .i64 x2, .int .i64 x3, .int .i64 x4, .int .i64 x5, .int .i64 x6, .int .i64 x7, .int .i64 x8, .int .i64 x9, .int .i64 x10, .int .i64 0]]]
    rw [if_pos (by decide), eem] at this
    exact this
  have c0 : wcmp .neq 0 0 = false := by rw [hcmp]; rfl
  simp only [c0]
  cbv
  (obtain ⟨L, eL, L0, Ln⟩ : ∃ L : Int, wlen ns = L ∧ 0 ≤ L ∧ L.toNat = ns.length := ⟨(ns.length : Int), by rw [hlen], Int.natCast_nonneg _, Int.toNat_natCast _⟩)
  have hKz := hKz rfl
  have n0 : nx = [] ↔ L = 0 := by rw [← List.length_eq_zero_iff, ← hnl, ← Ln]; omega
  have blockA : (hi ≤ en ∨ nx = []) → (lo ≤ en → ∀ j, K (.tuple []) (.live 6 [gRow es ds lo hi 1 (if (16 : Int) < em2.length then 13 else 0)] :: .live 0 em2 :: j)) ∧ (en < lo → ∀ j, K (.tuple []) (.live 6 [gRow es ds lo hi 1 0] :: .live 0 em :: j)) := fun hA => by
    refine ⟨fun hlo j => ?_, fun hlo j => ?_⟩
    · have := hKz hA j
      rw [if_pos hlo, eem2] at this
      by_cases hq : 16 < (putL m [x0, x1, x2, x3, x4, x5, x6, x7, x8, x9, x10]).length
      · rw [if_pos hq] at this
        rw [if_pos (by rw [heml2]; omega)]
        exact this
      · rw [if_neg hq] at this
        rw [if_neg (by rw [heml2]; omega)]
        exact this
    · have := hKz hA j
      rw [if_neg (show ¬ lo ≤ en by omega), eem, if_neg (show ¬ 16 < m.length by have := hok.few rfl; simp only at this; omega)] at this
      exact this
  obtain ⟨n1, en1⟩ : ∃ n : Int, n = em.length := ⟨_, rfl⟩
  obtain ⟨n2, en2⟩ : ∃ n : Int, n = em2.length := ⟨_, rfl⟩
  have h16 : n1 ≤ 16 := by have := hok.few rfl; simp only at this; omega
  simp only [← en2] at blockA
  have lm1 : ∀ {K' : AV → AHeap → Prop} {hp : AHeap} {c : Go.Call} {ty t kt et : TypeId} {x : Operand}, hp[1]? = some (.live 0 em) → c.callee = .builtin .len → c.args = #[x] → c.argTypes = #[t] → P.underlying t = some (.map kt et) → K' (.int .i64 n1) hp → Xo P (.call c) ty [.mapr 1] hp K' := fun h1 h2 h3 h4 h5 h6 => Xo.lenm h2 h3 h4 h5 h1 htwo n1 en1 h6
  have lm2 : ∀ {K' : AV → AHeap → Prop} {hp : AHeap} {c : Go.Call} {ty t kt et : TypeId} {x : Operand}, hp[1]? = some (.live 0 em2) → c.callee = .builtin .len → c.args = #[x] → c.argTypes = #[t] → P.underlying t = some (.map kt et) → K' (.int .i64 n2) hp → Xo P (.call c) ty [.mapr 1] hp K' := fun h1 h2 h3 h4 h5 h6 => Xo.lenm h2 h3 h4 h5 h1 htwo2 n2 en2 h6
  (split <;> rename_i h1 <;> (try (simp only [hz, Z.a, binStd, cmpStd, unStd, scmpStd, maxI, reduceCtorEq] at h1)) <;> (try cbv))
  · obtain ⟨hy, hno⟩ := blockA (.inl h1)
    clear blockA hKz
    (split <;> rename_i h3 <;> (try (simp only [hz, Z.a, binStd, cmpStd, unStd, scmpStd, maxI, reduceCtorEq] at h3)) <;> (try cbv))
    · refine Put.mk em2 rfl hput ?_
      cbv
      refine lm2 (kt := 39) (et := 3) rfl rfl rfl rfl (by rw [← hP]; kernel_rfl) ?_
      cbv
      (split <;> rename_i h4 <;> (try (simp only [hz, Z.a, binStd, cmpStd, unStd, scmpStd, maxI, reduceCtorEq] at h4)) <;> (try cbv))
      · have := hy h3 [.live 13 [[.int .i64 11, .int .i64 x0, .int .i64 x1, .int .i64 x2, .int .i64 x3, .int .i64 x4, .int .i64 x5, .int .i64 x6, .int .i64 x7, .int .i64 x8, .int .i64 x9, .int .i64 x10, .int .i64 0]]]
        rw [if_pos (by omega)] at this
        exact this
      · have := hy h3 [.live 13 [[.int .i64 11, .int .i64 x0, .int .i64 x1, .int .i64 x2, .int .i64 x3, .int .i64 x4, .int .i64 x5, .int .i64 x6, .int .i64 x7, .int .i64 x8, .int .i64 x9, .int .i64 x10, .int .i64 0]]]
        rw [if_neg (by omega)] at this
        exact this
    · refine lm1 (kt := 39) (et := 3) rfl rfl rfl rfl (by rw [← hP]; kernel_rfl) ?_
      cbv
      (split <;> rename_i h4 <;> (try (simp only [hz, Z.a, binStd, cmpStd, unStd, scmpStd, maxI, reduceCtorEq] at h4)) <;> (try cbv))
      · exfalso; omega
      · exact hno h3 [.live 13 [[.int .i64 11, .int .i64 x0, .int .i64 x1, .int .i64 x2, .int .i64 x3, .int .i64 x4, .int .i64 x5, .int .i64 x6, .int .i64 x7, .int .i64 x8, .int .i64 x9, .int .i64 x10, .int .i64 0]]]
  · simp only [eL]
    (split <;> rename_i h2 <;> (try (simp only [hz, Z.a, binStd, cmpStd, unStd, scmpStd, maxI, reduceCtorEq] at h2)) <;> (try cbv))
    · obtain ⟨hy, hno⟩ := blockA (.inr (n0.2 h2))
      clear blockA hKz
      (split <;> rename_i h3 <;> (try (simp only [hz, Z.a, binStd, cmpStd, unStd, scmpStd, maxI, reduceCtorEq] at h3)) <;> (try cbv))
      · refine Put.mk em2 rfl hput ?_
        cbv
        refine lm2 (kt := 39) (et := 3) rfl rfl rfl rfl (by rw [← hP]; kernel_rfl) ?_
        cbv
        (split <;> rename_i h4 <;> (try (simp only [hz, Z.a, binStd, cmpStd, unStd, scmpStd, maxI, reduceCtorEq] at h4)) <;> (try cbv))
        · have := hy h3 [.live 13 [[.int .i64 11, .int .i64 x0, .int .i64 x1, .int .i64 x2, .int .i64 x3, .int .i64 x4, .int .i64 x5, .int .i64 x6, .int .i64 x7, .int .i64 x8, .int .i64 x9, .int .i64 x10, .int .i64 0]]]
          rw [if_pos (by omega)] at this
          exact this
        · have := hy h3 [.live 13 [[.int .i64 11, .int .i64 x0, .int .i64 x1, .int .i64 x2, .int .i64 x3, .int .i64 x4, .int .i64 x5, .int .i64 x6, .int .i64 x7, .int .i64 x8, .int .i64 x9, .int .i64 x10, .int .i64 0]]]
          rw [if_neg (by omega)] at this
          exact this
      · refine lm1 (kt := 39) (et := 3) rfl rfl rfl rfl (by rw [← hP]; kernel_rfl) ?_
        cbv
        (split <;> rename_i h4 <;> (try (simp only [hz, Z.a, binStd, cmpStd, unStd, scmpStd, maxI, reduceCtorEq] at h4)) <;> (try cbv))
        · exfalso; omega
        · exact hno h3 [.live 13 [[.int .i64 11, .int .i64 x0, .int .i64 x1, .int .i64 x2, .int .i64 x3, .int .i64 x4, .int .i64 x5, .int .i64 x6, .int .i64 x7, .int .i64 x8, .int .i64 x9, .int .i64 x10, .int .i64 0]]]
    · have hK := hK
      have ck : wcmp .eql 11 12 = false := by rw [hcmp]; rfl
      have a1 : wbin .add .i64 11 1 = 12 := by rw [hbin]; rfl
      have a2 : wbin .sub .i64 12 1 = 11 := by rw [hbin]; rfl
      have hnh : ¬ (hi ≤ en ∨ nx = []) := by rw [n0]; omega
      have hen' : -1099511627776 ≤ en ∧ en ≤ 11 * 1099511627776 := hen
      have hKl : ∀ s', s' = nx.foldl (fun s n => growF ss lo hi 1 [x0, x1, x2, x3, x4, x5, x6, x7, x8, x9, x10, n] (en + lenAt ss n) s) (0, m) → ∀ j, K (.tuple []) (.live 6 [gRow es ds lo hi 1 s'.1] :: .live 0 (ents s'.2) :: j) := fun s' hs' j => by
        have := hK j
        rw [if_neg (by decide), if_neg hnh] at this
        rw [hs']
        exact this
      clear hK blockA hKz lm1 lm2
      simp only [ck]
      cbv
      simp only [a1]
      repeat' (first
        | (refine RowOf.mk _ rfl ?_; cbv)
        | (simp only [a1]; cbv)
        | (refine SetRow.mk _ _ rfl rfl ?_; cbv))
      simp only [eL]
      refine Loop.dataN hw (S := Int × Int × (Int × List (List Int)) × List (List AV)) (fun s => fr 103 [(0, .ref 0 6 0 0), (2, .int .i64 en), (4, .ref 2 13 0 0), (76, .list 1 ns), (77, .int .i64 L), (78, .int .i64 s.1)])
        (fun s => [.live 6 [[.list 3 es, .list 5 ds, .int .i64 lo, .int .i64 hi, .mapr 1, .int .i64 s.2.2.1.1]], .live 0 s.2.2.2, .live 13 [[.int .i64 12, .int .i64 x0, .int .i64 x1, .int .i64 x2, .int .i64 x3, .int .i64 x4, .int .i64 x5, .int .i64 x6, .int .i64 x7, .int .i64 x8, .int .i64 x9, .int .i64 x10, .int .i64 s.2.1]]])
        (fun s => 0 ≤ s.1 ∧ s.1 ≤ L ∧ s.2.2.1 = (nx.take s.1.toNat).foldl (fun s n => growF ss lo hi 1 [x0, x1, x2, x3, x4, x5, x6, x7, x8, x9, x10, n] (en + lenAt ss n) s) (0, m) ∧ GOk s.2.2.1 ∧ (s.2.2.1.1 = 0 ∨ s.2.2.1.1 = 13) ∧ s.2.2.2 = ents s.2.2.1.2 ∧ Up0 s.2.2.2) (fun s => (L - s.1).toNat) (0, 0, (0, m), em) (by (refine Wk.eqzN (id) (by intro i hi; first | rfl | (have hh : i = 0 ∨ i = 1 := (by omega); rcases hh with hh | hh <;> subst hh <;> rfl)) (Nat.le_of_ble_eq_true rfl) (by first | exact fun i _ j _ e => e | (simp only [List.length_cons, List.length_nil]; decide)) ?_; cbv; (repeat' (first | exact trivial | rfl | assumption | apply And.intro | (simp only [hz, Z.a, binStd, cmpStd, unStd, scmpStd, maxI, reduceCtorEq]; first | done | assumption) | exact RowsZ.same (by assumption) (by first | assumption | rfl) | exact FzL.mk rfl rfl rfl (by assumption) (by first | assumption | rfl) (by decide) | (refine RowsZ.one ?_; cbv))))) ⟨Int.le_refl _, L0, rfl, hok, .inl rfl, eem.symm, hum⟩ ?_
      rintro ⟨i, y, ⟨e, m'⟩, em'⟩ hinv Q' hN hE hR'
      have hinv : 0 ≤ i ∧ i ≤ L ∧ (e, m') = (nx.take i.toNat).foldl (fun s n => growF ss lo hi 1 [x0, x1, x2, x3, x4, x5, x6, x7, x8, x9, x10, n] (en + lenAt ss n) s) (0, m) ∧ GOk (e, m') ∧ (e = 0 ∨ e = 13) ∧ em' = ents m' ∧ Up0 em' := hinv
      cbv
      obtain ⟨hi0, hi1, hfold, hok', he', hem', hum'⟩ := hinv
      (split <;> rename_i hc <;> (try (simp only [hz, Z.a, binStd, cmpStd, unStd, scmpStd, maxI, reduceCtorEq] at hc)) <;> (try cbv))
      · have hit : i.toNat < nx.length := by omega
        obtain ⟨n, hn⟩ : ∃ n, nx[i.toNat]? = some n := ⟨_, List.getElem?_eq_getElem hit⟩
        have hni : ns[i.toNat]? = some (nxRow n) := by rw [← ens, List.getElem?_map, hn]; rfl
        have hnb := hnxs n (List.mem_of_getElem? hn)
        obtain ⟨sg1, hd1, hrow1⟩ := get_map (f := sgRow) (ds := ss) (i := n) hnb.1 hnb.2
        have hle : lenAt ss n = sg1.len := by unfold lenAt; rw [hd1]
        have hl1 := hln.pos sg1 (List.mem_of_getElem? hd1)
        obtain ⟨len1, pcs1, nx1⟩ := sg1
        have hl1 : 1 ≤ len1 ∧ len1 ≤ 1099511627776 := hl1
        have hle : lenAt ss n = len1 := hle
        obtain ⟨q1, eq1⟩ : ∃ x, pcs1.map pcRow = x := ⟨_, rfl⟩
        obtain ⟨q2, eq2⟩ : ∃ x, nx1.map nxRow = x := ⟨_, rfl⟩
        have hrow1 : es[n.toNat]? = some [.int .i64 len1, .list 2 q1, .list 1 q2] := by rw [hes, ← eq1, ← eq2]; exact hrow1
        have hs2 : (growF ss lo hi 1 [x0, x1, x2, x3, x4, x5, x6, x7, x8, x9, x10, n] (en + len1) (e, m')) = (nx.take (i + 1).toNat).foldl (fun s n => growF ss lo hi 1 [x0, x1, x2, x3, x4, x5, x6, x7, x8, x9, x10, n] (en + lenAt ss n) s) (0, m) := by
          rw [take_next hi0 hn, List.foldl_append, ← hfold, List.foldl_cons, List.foldl_nil, hle]
        have hok2 := growF_ok ss lo hi 1 [x0, x1, x2, x3, x4, x5, x6, x7, x8, x9, x10, n] (en + len1) (e, m') hok' (by simp only [List.length_cons, List.length_nil]; omega)
        have he2 := growF_e ss lo hi 1 [x0, x1, x2, x3, x4, x5, x6, x7, x8, x9, x10, n] (en + len1) (e, m') he'
        have a3 : wbin .add .i64 en len1 = en + len1 := by rw [hbin]; show IntKind.i64.wrap (en + len1) = en + len1; rw [IntKind.wrap_i64]; omega
        obtain ⟨en2, een2⟩ : ∃ z, z = en + len1 := ⟨_, rfl⟩
        rw [← een2] at hs2 hok2 he2 a3
        have hen2 : -1099511627776 ≤ en2 ∧ en2 ≤ lenI [x0, x1, x2, x3, x4, x5, x6, x7, x8, x9, x10, n] * 1099511627776 := by simp only [lenI]; omega
        have hl2 : ∀ x, x ∈ [x0, x1, x2, x3, x4, x5, x6, x7, x8, x9, x10, n] → 0 ≤ x ∧ x.toNat < ss.length := fun x hx => by
          have : x ∈ [x0, x1, x2, x3, x4, x5, x6, x7, x8, x9, x10] ∨ x = n := by simpa [or_assoc] using hx
          rcases this with h | rfl
          · exact hl x h
          · exact hnb
        obtain ⟨⟨e3, m3⟩, es3⟩ : ∃ s', growF ss lo hi 1 [x0, x1, x2, x3, x4, x5, x6, x7, x8, x9, x10, n] en2 (e, m') = s' := ⟨_, rfl⟩
        obtain ⟨em3, eem3⟩ : ∃ x, x = ents m3 := ⟨_, rfl⟩
        have hum3 : Up0 em3 := by rw [eem3]; exact up_ents m3
        rw [es3] at hs2 hok2 he2
        refine Idx.mk _ hi0 hni ?_
        cbv
        repeat' (first
          | (refine RowOf.mk _ rfl ?_; cbv)
          | (simp only [a2]; cbv)
          | (refine InN.mk (by decide) (by decide) ?_; cbv)
          | (refine SetRow.mk _ _ rfl rfl ?_; cbv)
          | (refine Idx.mk _ hnb.1 hrow1 ?_; cbv))
        simp only [a3]
        refine Call.of (GrowC.call hu hud (e_grow12 ss gs es ds hes hds hln hnx lo hi x0 x1 x2 x3 x4 x5 x6 x7 x8 x9 x10 n) hP (sg := 0) (sm := 1) (h := [.live 6 [gRow es ds lo hi 1 e], .live 0 em', .live 13 [[.int .i64 12, .int .i64 x0, .int .i64 x1, .int .i64 x2, .int .i64 x3, .int .i64 x4, .int .i64 x5, .int .i64 x6, .int .i64 x7, .int .i64 x8, .int .i64 x9, .int .i64 x10, .int .i64 n]]]) (by decide) rfl (by rw [← hem']; rfl) hok' he' hen2 hl2 ?_)
        rw [es3, ← eem3]
        have a4 : wbin .add .i64 i 1 = i + 1 := by rw [hbin]; show IntKind.i64.wrap (i + 1) = i + 1; rw [IntKind.wrap_i64]; omega
        cbv
        simp only [a4]
        refine hN (i + 1, n, (e3, m3), em3) _ _ (by (refine Wk.eqzN (id) (by intro i hi; first | rfl | (have hh : i = 0 ∨ i = 1 := (by omega); rcases hh with hh | hh <;> subst hh <;> rfl)) (Nat.le_of_ble_eq_true rfl) (by first | exact fun i _ j _ e => e | (simp only [List.length_cons, List.length_nil]; decide)) ?_; cbv; (repeat' (first | exact trivial | rfl | assumption | apply And.intro | (simp only [hz, Z.a, binStd, cmpStd, unStd, scmpStd, maxI, reduceCtorEq]; first | done | assumption) | exact RowsZ.same (by assumption) (by first | assumption | rfl) | exact FzL.mk rfl rfl rfl (by assumption) (by first | assumption | rfl) (by decide) | (refine RowsZ.one ?_; cbv))))) ⟨by simp only; omega, by simp only; omega, hs2, hok2, he2, eem3, hum3⟩ ?_
        simp only
        omega
      · refine hE _ _ _ ?_
        cbv
        have := hKl (e, m') (by rw [hfold, List.take_of_length_le (by omega)]) [.live 13 [[.int .i64 12, .int .i64 x0, .int .i64 x1, .int .i64 x2, .int .i64 x3, .int .i64 x4, .int .i64 x5, .int .i64 x6, .int .i64 x7, .int .i64 x8, .int .i64 x9, .int .i64 x10, .int .i64 y]]]
        rw [← hem'] at this
        exact this
end Go.Proofs.Ytpiocfmdjgbamaa

/- route.grower.grow at depth 10. Printed by wip/tools/genroute.py. -/
namespace Go.Proofs.Ytpiocfmdjgbamaa
open Go Go.RowKit Go.Eng
set_option maxRecDepth 100000
set_option maxHeartbeats 2000000 in
theorem e_grow10 (ss : List Sg) (gs : List Gr) (es ds : List (List AV)) (hes : es = ss.map sgRow) (hds : ds = gs.map grRow) (hln : LensOk ss) (hnx : NextOk ss) (lo hi : Int) (x0 x1 x2 x3 x4 x5 x6 x7 x8 x9 : Int) : GrowC ss es ds lo hi 3 [x0, x1, x2, x3, x4, x5, x6, x7, x8, x9] := by
  have hu : Up0 es := by rw [hes]; exact up_sg ss
  have hud : Up0 ds := by rw [hds]; exact up_gr gs
  intro en e m hok he hen hl K hK
  have hlast := hl x9 (by simp)
  obtain ⟨sg0, hd0, hrow0⟩ := get_map (f := sgRow) (ds := ss) (i := x9) hlast.1 hlast.2
  have hnxe : nxAt ss x9 = sg0.nx := by unfold nxAt; rw [hd0]
  have hnx0 : ∀ n, n ∈ sg0.nx → 0 ≤ n ∧ n.toNat < ss.length := fun n hn => nxAt_ok hnx (by rw [hnxe]; exact hn)
  have hnx2 : sg0.nx.length ≤ 2 := by have := nxAt_two hnx x9; rw [hnxe] at this; exact this
  have hF : growF ss lo hi 3 [x0, x1, x2, x3, x4, x5, x6, x7, x8, x9] en (e, m) = (if e ≠ 0 then (e, m) else if hi ≤ en ∨ sg0.nx = [] then (if 16 < (if lo ≤ en then putL m [x0, x1, x2, x3, x4, x5, x6, x7, x8, x9] else m).length then 13 else 0, if lo ≤ en then putL m [x0, x1, x2, x3, x4, x5, x6, x7, x8, x9] else m) else sg0.nx.foldl (fun s n => growF ss lo hi 2 [x0, x1, x2, x3, x4, x5, x6, x7, x8, x9, n] (en + lenAt ss n) s) (e, m)) := by
    rw [← hnxe]; rfl
  rw [hF] at hK
  obtain ⟨len, pcs, nx⟩ := sg0
  obtain ⟨q0, eq0⟩ : ∃ x, pcs.map pcRow = x := ⟨_, rfl⟩
  obtain ⟨ns, ens⟩ : ∃ x, nx.map nxRow = x := ⟨_, rfl⟩
  have huns : Up0 ns := by rw [← ens]; exact up_nx nx
  have hnl : ns.length = nx.length := by rw [← ens]; simp
  have hrow0 : es[x9.toNat]? = some [.int .i64 len, .list 2 q0, .list 1 ns] := by rw [hes, ← eq0, ← ens]; exact hrow0
  have hput := put_ents m [x0, x1, x2, x3, x4, x5, x6, x7, x8, x9] (by simp only [List.length_cons, List.length_nil]; omega) (fun j hj => (hok.all j hj).1)
  obtain ⟨em, eem⟩ : ∃ x, ents m = x := ⟨_, rfl⟩
  obtain ⟨em2, eem2⟩ : ∃ x, ents (putL m [x0, x1, x2, x3, x4, x5, x6, x7, x8, x9]) = x := ⟨_, rfl⟩
  have hum : Up0 em := by rw [← eem]; exact up_ents m
  have htwo : ∀ e, e ∈ em → e.length = 2 := by rw [← eem]; exact ents_two m
  have htwo2 : ∀ e, e ∈ em2 → e.length = 2 := by rw [← eem2]; exact ents_two _
  have heml : em.length = m.length := by rw [← eem]; exact ents_len m
  have heml2 : em2.length = (putL m [x0, x1, x2, x3, x4, x5, x6, x7, x8, x9]).length := by rw [← eem2]; exact ents_len _
  rw [eem, eem2] at hput
  rw [eem]
  have hnxs : ∀ n, n ∈ nx → 0 ≤ n ∧ n.toNat < ss.length := hnx0
  have hnx2 : nx.length ≤ 2 := hnx2
  show ACall Try.prog 55 [.ref 0 6 0 0, .agg [.int .i64 10, .int .i64 x0, .int .i64 x1, .int .i64 x2, .int .i64 x3, .int .i64 x4, .int .i64 x5, .int .i64 x6, .int .i64 x7, .int .i64 x8, .int .i64 x9, .int .i64 0, .int .i64 0], .int .i64 en] [.live 6 [gRow es ds lo hi 1 e], .live 0 em] K
  (refine ACall.ofI Try.func55 (by kernel_rfl) (by kernel_rfl) fun w hw => ?_); (obtain ⟨wbin, wcmp, wun, wconv, wnot, wbeq, wmm, wscmp, wsadd, wslen, wsat, weqs, wlen, wnlen, wofNat, wtake, wdrop, wapp, wzero, wnat⟩ := w); (have hbin := Z.w1 hw); (have hcmp := Z.w2 hw); (have hun := Z.w3 hw); (have hconv := Z.w4 hw); (have hnot := Z.w5 hw); (have hbeq := Z.w6 hw); (have hmm := Z.w7 hw); (have hscmp := Z.w8 hw); (have hsadd := Z.w9 hw); (have hslen := Z.w10 hw); (have hsat := Z.w11 hw); (have heqs := Z.w12 hw); (have hlen := Z.w13 hw); (have hnlen := Z.w14 hw); (have hofNat := Z.w15 hw); (have htake := Z.w16 hw); (have hdrop := Z.w17 hw); (have happ := Z.w18 hw); (have hzero := Z.w19 hw); (have hnat := Z.w20 hw); (have hz := Z.z hw); (conv => arg 2; cbv); (generalize hP : Try.prog = P); cbv
  have s1 : wbin .sub .i64 10 1 = 9 := by rw [hbin]; rfl
  simp only [s1]
  refine InN.mk (by decide) (by decide) ?_
  cbv
  repeat' (first
    | (refine RowOf.mk _ rfl ?_; cbv)
    | (refine Idx.mk _ hlast.1 hrow0 ?_; cbv))
  have hKz : e = 0 → (hi ≤ en ∨ nx = []) → ∀ j, K (.tuple []) (.live 6 [gRow es ds lo hi 1 (if 16 < (if lo ≤ en then putL m [x0, x1, x2, x3, x4, x5, x6, x7, x8, x9] else m).length then 13 else 0)] :: .live 0 (ents (if lo ≤ en then putL m [x0, x1, x2, x3, x4, x5, x6, x7, x8, x9] else m)) :: j) := fun h0 hc j => by
    have := hK j
    rw [if_neg (by simp [h0]), if_pos hc] at this
    exact this
  rcases he with rfl | rfl
  rotate_left 1
  · have c0 : wcmp .neq 13 0 = true := by rw [hcmp]; rfl
    simp only [c0]
    cbv
    have := hK [.live 13 [[.int .i64 10, .int .i64 x0, .int .i64 x1, .int .i64 x2, .int .i64 x3, .int .i64 x4, .int .i64 x5, .int .i64 x6, .int .i64 x7, .int .i64 x8, .int .i64 x9, .int .i64 0, .int .i64 0]]]
    rw [if_pos (by decide), eem] at this
    exact this
  have c0 : wcmp .neq 0 0 = false := by rw [hcmp]; rfl
  simp only [c0]
  cbv
  (obtain ⟨L, eL, L0, Ln⟩ : ∃ L : Int, wlen ns = L ∧ 0 ≤ L ∧ L.toNat = ns.length := ⟨(ns.length : Int), by rw [hlen], Int.natCast_nonneg _, Int.toNat_natCast _⟩)
  have hKz := hKz rfl
  have n0 : nx = [] ↔ L = 0 := by rw [← List.length_eq_zero_iff, ← hnl, ← Ln]; omega
  have blockA : (hi ≤ en ∨ nx = []) → (lo ≤ en → ∀ j, K (.tuple []) (.live 6 [gRow es ds lo hi 1 (if (16 : Int) < em2.length then 13 else 0)] :: .live 0 em2 :: j)) ∧ (en < lo → ∀ j, K (.tuple []) (.live 6 [gRow es ds lo hi 1 0] :: .live 0 em :: j)) := fun hA => by
    refine ⟨fun hlo j => ?_, fun hlo j => ?_⟩
    · have := hKz hA j
      rw [if_pos hlo, eem2] at this
      by_cases hq : 16 < (putL m [x0, x1, x2, x3, x4, x5, x6, x7, x8, x9]).length
      · rw [if_pos hq] at this
        rw [if_pos (by rw [heml2]; omega)]
        exact this
      · rw [if_neg hq] at this
        rw [if_neg (by rw [heml2]; omega)]
        exact this
    · have := hKz hA j
      rw [if_neg (show ¬ lo ≤ en by omega), eem, if_neg (show ¬ 16 < m.length by have := hok.few rfl; simp only at this; omega)] at this
      exact this
  obtain ⟨n1, en1⟩ : ∃ n : Int, n = em.length := ⟨_, rfl⟩
  obtain ⟨n2, en2⟩ : ∃ n : Int, n = em2.length := ⟨_, rfl⟩
  have h16 : n1 ≤ 16 := by have := hok.few rfl; simp only at this; omega
  simp only [← en2] at blockA
  have lm1 : ∀ {K' : AV → AHeap → Prop} {hp : AHeap} {c : Go.Call} {ty t kt et : TypeId} {x : Operand}, hp[1]? = some (.live 0 em) → c.callee = .builtin .len → c.args = #[x] → c.argTypes = #[t] → P.underlying t = some (.map kt et) → K' (.int .i64 n1) hp → Xo P (.call c) ty [.mapr 1] hp K' := fun h1 h2 h3 h4 h5 h6 => Xo.lenm h2 h3 h4 h5 h1 htwo n1 en1 h6
  have lm2 : ∀ {K' : AV → AHeap → Prop} {hp : AHeap} {c : Go.Call} {ty t kt et : TypeId} {x : Operand}, hp[1]? = some (.live 0 em2) → c.callee = .builtin .len → c.args = #[x] → c.argTypes = #[t] → P.underlying t = some (.map kt et) → K' (.int .i64 n2) hp → Xo P (.call c) ty [.mapr 1] hp K' := fun h1 h2 h3 h4 h5 h6 => Xo.lenm h2 h3 h4 h5 h1 htwo2 n2 en2 h6
  (split <;> rename_i h1 <;> (try (simp only [hz, Z.a, binStd, cmpStd, unStd, scmpStd, maxI, reduceCtorEq] at h1)) <;> (try cbv))
  · obtain ⟨hy, hno⟩ := blockA (.inl h1)
    clear blockA hKz
    (split <;> rename_i h3 <;> (try (simp only [hz, Z.a, binStd, cmpStd, unStd, scmpStd, maxI, reduceCtorEq] at h3)) <;> (try cbv))
    · refine Put.mk em2 rfl hput ?_
      cbv
      refine lm2 (kt := 39) (et := 3) rfl rfl rfl rfl (by rw [← hP]; kernel_rfl) ?_
      cbv
      (split <;> rename_i h4 <;> (try (simp only [hz, Z.a, binStd, cmpStd, unStd, scmpStd, maxI, reduceCtorEq] at h4)) <;> (try cbv))
      · have := hy h3 [.live 13 [[.int .i64 10, .int .i64 x0, .int .i64 x1, .int .i64 x2, .int .i64 x3, .int .i64 x4, .int .i64 x5, .int .i64 x6, .int .i64 x7, .int .i64 x8, .int .i64 x9, .int .i64 0, .int .i64 0]]]
        rw [if_pos (by omega)] at this
        exact this
      · have := hy h3 [.live 13 [[.int .i64 10, .int .i64 x0, .int .i64 x1, .int .i64 x2, .int .i64 x3, .int .i64 x4, .int .i64 x5, .int .i64 x6, .int .i64 x7, .int .i64 x8, .int .i64 x9, .int .i64 0, .int .i64 0]]]
        rw [if_neg (by omega)] at this
        exact this
    · refine lm1 (kt := 39) (et := 3) rfl rfl rfl rfl (by rw [← hP]; kernel_rfl) ?_
      cbv
      (split <;> rename_i h4 <;> (try (simp only [hz, Z.a, binStd, cmpStd, unStd, scmpStd, maxI, reduceCtorEq] at h4)) <;> (try cbv))
      · exfalso; omega
      · exact hno h3 [.live 13 [[.int .i64 10, .int .i64 x0, .int .i64 x1, .int .i64 x2, .int .i64 x3, .int .i64 x4, .int .i64 x5, .int .i64 x6, .int .i64 x7, .int .i64 x8, .int .i64 x9, .int .i64 0, .int .i64 0]]]
  · simp only [eL]
    (split <;> rename_i h2 <;> (try (simp only [hz, Z.a, binStd, cmpStd, unStd, scmpStd, maxI, reduceCtorEq] at h2)) <;> (try cbv))
    · obtain ⟨hy, hno⟩ := blockA (.inr (n0.2 h2))
      clear blockA hKz
      (split <;> rename_i h3 <;> (try (simp only [hz, Z.a, binStd, cmpStd, unStd, scmpStd, maxI, reduceCtorEq] at h3)) <;> (try cbv))
      · refine Put.mk em2 rfl hput ?_
        cbv
        refine lm2 (kt := 39) (et := 3) rfl rfl rfl rfl (by rw [← hP]; kernel_rfl) ?_
        cbv
        (split <;> rename_i h4 <;> (try (simp only [hz, Z.a, binStd, cmpStd, unStd, scmpStd, maxI, reduceCtorEq] at h4)) <;> (try cbv))
        · have := hy h3 [.live 13 [[.int .i64 10, .int .i64 x0, .int .i64 x1, .int .i64 x2, .int .i64 x3, .int .i64 x4, .int .i64 x5, .int .i64 x6, .int .i64 x7, .int .i64 x8, .int .i64 x9, .int .i64 0, .int .i64 0]]]
          rw [if_pos (by omega)] at this
          exact this
        · have := hy h3 [.live 13 [[.int .i64 10, .int .i64 x0, .int .i64 x1, .int .i64 x2, .int .i64 x3, .int .i64 x4, .int .i64 x5, .int .i64 x6, .int .i64 x7, .int .i64 x8, .int .i64 x9, .int .i64 0, .int .i64 0]]]
          rw [if_neg (by omega)] at this
          exact this
      · refine lm1 (kt := 39) (et := 3) rfl rfl rfl rfl (by rw [← hP]; kernel_rfl) ?_
        cbv
        (split <;> rename_i h4 <;> (try (simp only [hz, Z.a, binStd, cmpStd, unStd, scmpStd, maxI, reduceCtorEq] at h4)) <;> (try cbv))
        · exfalso; omega
        · exact hno h3 [.live 13 [[.int .i64 10, .int .i64 x0, .int .i64 x1, .int .i64 x2, .int .i64 x3, .int .i64 x4, .int .i64 x5, .int .i64 x6, .int .i64 x7, .int .i64 x8, .int .i64 x9, .int .i64 0, .int .i64 0]]]
    · have hK := hK
      have ck : wcmp .eql 10 12 = false := by rw [hcmp]; rfl
      have a1 : wbin .add .i64 10 1 = 11 := by rw [hbin]; rfl
      have a2 : wbin .sub .i64 11 1 = 10 := by rw [hbin]; rfl
      have hnh : ¬ (hi ≤ en ∨ nx = []) := by rw [n0]; omega
      have hen' : -1099511627776 ≤ en ∧ en ≤ 10 * 1099511627776 := hen
      have hKl : ∀ s', s' = nx.foldl (fun s n => growF ss lo hi 2 [x0, x1, x2, x3, x4, x5, x6, x7, x8, x9, n] (en + lenAt ss n) s) (0, m) → ∀ j, K (.tuple []) (.live 6 [gRow es ds lo hi 1 s'.1] :: .live 0 (ents s'.2) :: j) := fun s' hs' j => by
        have := hK j
        rw [if_neg (by decide), if_neg hnh] at this
        rw [hs']
        exact this
      clear hK blockA hKz lm1 lm2
      simp only [ck]
      cbv
      simp only [a1]
      repeat' (first
        | (refine RowOf.mk _ rfl ?_; cbv)
        | (simp only [a1]; cbv)
        | (refine SetRow.mk _ _ rfl rfl ?_; cbv))
      simp only [eL]
      refine Loop.dataN hw (S := Int × Int × (Int × List (List Int)) × List (List AV)) (fun s => fr 103 [(0, .ref 0 6 0 0), (2, .int .i64 en), (4, .ref 2 13 0 0), (76, .list 1 ns), (77, .int .i64 L), (78, .int .i64 s.1)])
        (fun s => [.live 6 [[.list 3 es, .list 5 ds, .int .i64 lo, .int .i64 hi, .mapr 1, .int .i64 s.2.2.1.1]], .live 0 s.2.2.2, .live 13 [[.int .i64 11, .int .i64 x0, .int .i64 x1, .int .i64 x2, .int .i64 x3, .int .i64 x4, .int .i64 x5, .int .i64 x6, .int .i64 x7, .int .i64 x8, .int .i64 x9, .int .i64 s.2.1, .int .i64 0]]])
        (fun s => 0 ≤ s.1 ∧ s.1 ≤ L ∧ s.2.2.1 = (nx.take s.1.toNat).foldl (fun s n => growF ss lo hi 2 [x0, x1, x2, x3, x4, x5, x6, x7, x8, x9, n] (en + lenAt ss n) s) (0, m) ∧ GOk s.2.2.1 ∧ (s.2.2.1.1 = 0 ∨ s.2.2.1.1 = 13) ∧ s.2.2.2 = ents s.2.2.1.2 ∧ Up0 s.2.2.2) (fun s => (L - s.1).toNat) (0, 0, (0, m), em) (by (refine Wk.eqzN (id) (by intro i hi; first | rfl | (have hh : i = 0 ∨ i = 1 := (by omega); rcases hh with hh | hh <;> subst hh <;> rfl)) (Nat.le_of_ble_eq_true rfl) (by first | exact fun i _ j _ e => e | (simp only [List.length_cons, List.length_nil]; decide)) ?_; cbv; (repeat' (first | exact trivial | rfl | assumption | apply And.intro | (simp only [hz, Z.a, binStd, cmpStd, unStd, scmpStd, maxI, reduceCtorEq]; first | done | assumption) | exact RowsZ.same (by assumption) (by first | assumption | rfl) | exact FzL.mk rfl rfl rfl (by assumption) (by first | assumption | rfl) (by decide) | (refine RowsZ.one ?_; cbv))))) ⟨Int.le_refl _, L0, rfl, hok, .inl rfl, eem.symm, hum⟩ ?_
      rintro ⟨i, y, ⟨e, m'⟩, em'⟩ hinv Q' hN hE hR'
      have hinv : 0 ≤ i ∧ i ≤ L ∧ (e, m') = (nx.take i.toNat).foldl (fun s n => growF ss lo hi 2 [x0, x1, x2, x3, x4, x5, x6, x7, x8, x9, n] (en + lenAt ss n) s) (0, m) ∧ GOk (e, m') ∧ (e = 0 ∨ e = 13) ∧ em' = ents m' ∧ Up0 em' := hinv
      cbv
      obtain ⟨hi0, hi1, hfold, hok', he', hem', hum'⟩ := hinv
      (split <;> rename_i hc <;> (try (simp only [hz, Z.a, binStd, cmpStd, unStd, scmpStd, maxI, reduceCtorEq] at hc)) <;> (try cbv))
      · have hit : i.toNat < nx.length := by omega
        obtain ⟨n, hn⟩ : ∃ n, nx[i.toNat]? = some n := ⟨_, List.getElem?_eq_getElem hit⟩
        have hni : ns[i.toNat]? = some (nxRow n) := by rw [← ens, List.getElem?_map, hn]; rfl
        have hnb := hnxs n (List.mem_of_getElem? hn)
        obtain ⟨sg1, hd1, hrow1⟩ := get_map (f := sgRow) (ds := ss) (i := n) hnb.1 hnb.2
        have hle : lenAt ss n = sg1.len := by unfold lenAt; rw [hd1]
        have hl1 := hln.pos sg1 (List.mem_of_getElem? hd1)
        obtain ⟨len1, pcs1, nx1⟩ := sg1
        have hl1 : 1 ≤ len1 ∧ len1 ≤ 1099511627776 := hl1
        have hle : lenAt ss n = len1 := hle
        obtain ⟨q1, eq1⟩ : ∃ x, pcs1.map pcRow = x := ⟨_, rfl⟩
        obtain ⟨q2, eq2⟩ : ∃ x, nx1.map nxRow = x := ⟨_, rfl⟩
        have hrow1 : es[n.toNat]? = some [.int .i64 len1, .list 2 q1, .list 1 q2] := by rw [hes, ← eq1, ← eq2]; exact hrow1
        have hs2 : (growF ss lo hi 2 [x0, x1, x2, x3, x4, x5, x6, x7, x8, x9, n] (en + len1) (e, m')) = (nx.take (i + 1).toNat).foldl (fun s n => growF ss lo hi 2 [x0, x1, x2, x3, x4, x5, x6, x7, x8, x9, n] (en + lenAt ss n) s) (0, m) := by
          rw [take_next hi0 hn, List.foldl_append, ← hfold, List.foldl_cons, List.foldl_nil, hle]
        have hok2 := growF_ok ss lo hi 2 [x0, x1, x2, x3, x4, x5, x6, x7, x8, x9, n] (en + len1) (e, m') hok' (by simp only [List.length_cons, List.length_nil]; omega)
        have he2 := growF_e ss lo hi 2 [x0, x1, x2, x3, x4, x5, x6, x7, x8, x9, n] (en + len1) (e, m') he'
        have a3 : wbin .add .i64 en len1 = en + len1 := by rw [hbin]; show IntKind.i64.wrap (en + len1) = en + len1; rw [IntKind.wrap_i64]; omega
        obtain ⟨en2, een2⟩ : ∃ z, z = en + len1 := ⟨_, rfl⟩
        rw [← een2] at hs2 hok2 he2 a3
        have hen2 : -1099511627776 ≤ en2 ∧ en2 ≤ lenI [x0, x1, x2, x3, x4, x5, x6, x7, x8, x9, n] * 1099511627776 := by simp only [lenI]; omega
        have hl2 : ∀ x, x ∈ [x0, x1, x2, x3, x4, x5, x6, x7, x8, x9, n] → 0 ≤ x ∧ x.toNat < ss.length := fun x hx => by
          have : x ∈ [x0, x1, x2, x3, x4, x5, x6, x7, x8, x9] ∨ x = n := by simpa [or_assoc] using hx
          rcases this with h | rfl
          · exact hl x h
          · exact hnb
        obtain ⟨⟨e3, m3⟩, es3⟩ : ∃ s', growF ss lo hi 2 [x0, x1, x2, x3, x4, x5, x6, x7, x8, x9, n] en2 (e, m') = s' := ⟨_, rfl⟩
        obtain ⟨em3, eem3⟩ : ∃ x, x = ents m3 := ⟨_, rfl⟩
        have hum3 : Up0 em3 := by rw [eem3]; exact up_ents m3
        rw [es3] at hs2 hok2 he2
        refine Idx.mk _ hi0 hni ?_
        cbv
        repeat' (first
          | (refine RowOf.mk _ rfl ?_; cbv)
          | (simp only [a2]; cbv)
          | (refine InN.mk (by decide) (by decide) ?_; cbv)
          | (refine SetRow.mk _ _ rfl rfl ?_; cbv)
          | (refine Idx.mk _ hnb.1 hrow1 ?_; cbv))
        simp only [a3]
        refine Call.of (GrowC.call hu hud (e_grow11 ss gs es ds hes hds hln hnx lo hi x0 x1 x2 x3 x4 x5 x6 x7 x8 x9 n) hP (sg := 0) (sm := 1) (h := [.live 6 [gRow es ds lo hi 1 e], .live 0 em', .live 13 [[.int .i64 11, .int .i64 x0, .int .i64 x1, .int .i64 x2, .int .i64 x3, .int .i64 x4, .int .i64 x5, .int .i64 x6, .int .i64 x7, .int .i64 x8, .int .i64 x9, .int .i64 n, .int .i64 0]]]) (by decide) rfl (by rw [← hem']; rfl) hok' he' hen2 hl2 ?_)
        rw [es3, ← eem3]
        have a4 : wbin .add .i64 i 1 = i + 1 := by rw [hbin]; show IntKind.i64.wrap (i + 1) = i + 1; rw [IntKind.wrap_i64]; omega
        cbv
        simp only [a4]
        refine hN (i + 1, n, (e3, m3), em3) _ _ (by (refine Wk.eqzN (id) (by intro i hi; first | rfl | (have hh : i = 0 ∨ i = 1 := (by omega); rcases hh with hh | hh <;> subst hh <;> rfl)) (Nat.le_of_ble_eq_true rfl) (by first | exact fun i _ j _ e => e | (simp only [List.length_cons, List.length_nil]; decide)) ?_; cbv; (repeat' (first | exact trivial | rfl | assumption | apply And.intro | (simp only [hz, Z.a, binStd, cmpStd, unStd, scmpStd, maxI, reduceCtorEq]; first | done | assumption) | exact RowsZ.same (by assumption) (by first | assumption | rfl) | exact FzL.mk rfl rfl rfl (by assumption) (by first | assumption | rfl) (by decide) | (refine RowsZ.one ?_; cbv))))) ⟨by simp only; omega, by simp only; omega, hs2, hok2, he2, eem3, hum3⟩ ?_
        simp only
        omega
      · refine hE _ _ _ ?_
        cbv
        have := hKl (e, m') (by rw [hfold, List.take_of_length_le (by omega)]) [.live 13 [[.int .i64 11, .int .i64 x0, .int .i64 x1, .int .i64 x2, .int .i64 x3, .int .i64 x4, .int .i64 x5, .int .i64 x6, .int .i64 x7, .int .i64 x8, .int .i64 x9, .int .i64 y, .int .i64 0]]]
        rw [← hem'] at this
        exact this
end Go.Proofs.Ytpiocfmdjgbamaa

/- route.grower.grow at depth 9. Printed by wip/tools/genroute.py. -/
namespace Go.Proofs.Ytpiocfmdjgbamaa
open Go Go.RowKit Go.Eng
set_option maxRecDepth 100000
set_option maxHeartbeats 2000000 in
theorem e_grow9 (ss : List Sg) (gs : List Gr) (es ds : List (List AV)) (hes : es = ss.map sgRow) (hds : ds = gs.map grRow) (hln : LensOk ss) (hnx : NextOk ss) (lo hi : Int) (x0 x1 x2 x3 x4 x5 x6 x7 x8 : Int) : GrowC ss es ds lo hi 4 [x0, x1, x2, x3, x4, x5, x6, x7, x8] := by
  have hu : Up0 es := by rw [hes]; exact up_sg ss
  have hud : Up0 ds := by rw [hds]; exact up_gr gs
  intro en e m hok he hen hl K hK
  have hlast := hl x8 (by simp)
  obtain ⟨sg0, hd0, hrow0⟩ := get_map (f := sgRow) (ds := ss) (i := x8) hlast.1 hlast.2
  have hnxe : nxAt ss x8 = sg0.nx := by unfold nxAt; rw [hd0]
  have hnx0 : ∀ n, n ∈ sg0.nx → 0 ≤ n ∧ n.toNat < ss.length := fun n hn => nxAt_ok hnx (by rw [hnxe]; exact hn)
  have hnx2 : sg0.nx.length ≤ 2 := by have := nxAt_two hnx x8; rw [hnxe] at this; exact this
  have hF : growF ss lo hi 4 [x0, x1, x2, x3, x4, x5, x6, x7, x8] en (e, m) = (if e ≠ 0 then (e, m) else if hi ≤ en ∨ sg0.nx = [] then (if 16 < (if lo ≤ en then putL m [x0, x1, x2, x3, x4, x5, x6, x7, x8] else m).length then 13 else 0, if lo ≤ en then putL m [x0, x1, x2, x3, x4, x5, x6, x7, x8] else m) else sg0.nx.foldl (fun s n => growF ss lo hi 3 [x0, x1, x2, x3, x4, x5, x6, x7, x8, n] (en + lenAt ss n) s) (e, m)) := by
    rw [← hnxe]; rfl
  rw [hF] at hK
  obtain ⟨len, pcs, nx⟩ := sg0
  obtain ⟨q0, eq0⟩ : ∃ x, pcs.map pcRow = x := ⟨_, rfl⟩
  obtain ⟨ns, ens⟩ : ∃ x, nx.map nxRow = x := ⟨_, rfl⟩
  have huns : Up0 ns := by rw [← ens]; exact up_nx nx
  have hnl : ns.length = nx.length := by rw [← ens]; simp
  have hrow0 : es[x8.toNat]? = some [.int .i64 len, .list 2 q0, .list 1 ns] := by rw [hes, ← eq0, ← ens]; exact hrow0
  have hput := put_ents m [x0, x1, x2, x3, x4, x5, x6, x7, x8] (by simp only [List.length_cons, List.length_nil]; omega) (fun j hj => (hok.all j hj).1)
  obtain ⟨em, eem⟩ : ∃ x, ents m = x := ⟨_, rfl⟩
  obtain ⟨em2, eem2⟩ : ∃ x, ents (putL m [x0, x1, x2, x3, x4, x5, x6, x7, x8]) = x := ⟨_, rfl⟩
  have hum : Up0 em := by rw [← eem]; exact up_ents m
  have htwo : ∀ e, e ∈ em → e.length = 2 := by rw [← eem]; exact ents_two m
  have htwo2 : ∀ e, e ∈ em2 → e.length = 2 := by rw [← eem2]; exact ents_two _
  have heml : em.length = m.length := by rw [← eem]; exact ents_len m
  have heml2 : em2.length = (putL m [x0, x1, x2, x3, x4, x5, x6, x7, x8]).length := by rw [← eem2]; exact ents_len _
  rw [eem, eem2] at hput
  rw [eem]
  have hnxs : ∀ n, n ∈ nx → 0 ≤ n ∧ n.toNat < ss.length := hnx0
  have hnx2 : nx.length ≤ 2 := hnx2
  show ACall Try.prog 55 [.ref 0 6 0 0, .agg [.int .i64 9, .int .i64 x0, .int .i64 x1, .int .i64 x2, .int .i64 x3, .int .i64 x4, .int .i64 x5, .int .i64 x6, .int .i64 x7, .int .i64 x8, .int .i64 0, .int .i64 0, .int .i64 0], .int .i64 en] [.live 6 [gRow es ds lo hi 1 e], .live 0 em] K
  (refine ACall.ofI Try.func55 (by kernel_rfl) (by kernel_rfl) fun w hw => ?_); (obtain ⟨wbin, wcmp, wun, wconv, wnot, wbeq, wmm, wscmp, wsadd, wslen, wsat, weqs, wlen, wnlen, wofNat, wtake, wdrop, wapp, wzero, wnat⟩ := w); (have hbin := Z.w1 hw); (have hcmp := Z.w2 hw); (have hun := Z.w3 hw); (have hconv := Z.w4 hw); (have hnot := Z.w5 hw); (have hbeq := Z.w6 hw); (have hmm := Z.w7 hw); (have hscmp := Z.w8 hw); (have hsadd := Z.w9 hw); (have hslen := Z.w10 hw); (have hsat := Z.w11 hw); (have heqs := Z.w12 hw); (have hlen := Z.w13 hw); (have hnlen := Z.w14 hw); (have hofNat := Z.w15 hw); (have htake := Z.w16 hw); (have hdrop := Z.w17 hw); (have happ := Z.w18 hw); (have hzero := Z.w19 hw); (have hnat := Z.w20 hw); (have hz := Z.z hw); (conv => arg 2; cbv); (generalize hP : Try.prog = P); cbv
  have s1 : wbin .sub .i64 9 1 = 8 := by rw [hbin]; rfl
  simp only [s1]
  refine InN.mk (by decide) (by decide) ?_
  cbv
  repeat' (first
    | (refine RowOf.mk _ rfl ?_; cbv)
    | (refine Idx.mk _ hlast.1 hrow0 ?_; cbv))
  have hKz : e = 0 → (hi ≤ en ∨ nx = []) → ∀ j, K (.tuple []) (.live 6 [gRow es ds lo hi 1 (if 16 < (if lo ≤ en then putL m [x0, x1, x2, x3, x4, x5, x6, x7, x8] else m).length then 13 else 0)] :: .live 0 (ents (if lo ≤ en then putL m [x0, x1, x2, x3, x4, x5, x6, x7, x8] else m)) :: j) := fun h0 hc j => by
    have := hK j
    rw [if_neg (by simp [h0]), if_pos hc] at this
    exact this
  rcases he with rfl | rfl
  rotate_left 1
  · have c0 : wcmp .neq 13 0 = true := by rw [hcmp]; rfl
    simp only [c0]
    cbv
    have := hK [.live 13 [[.int .i64 9, .int .i64 x0, .int .i64 x1, .int .i64 x2, .int .i64 x3, .int .i64 x4, .int .i64 x5, .int .i64 x6, .int .i64 x7, .int .i64 x8, .int .i64 0, .int .i64 0, .int .i64 0]]]
    rw [if_pos (by decide), eem] at this
    exact this
  have c0 : wcmp .neq 0 0 = false := by rw [hcmp]; rfl
  simp only [c0]
  cbv
  (obtain ⟨L, eL, L0, Ln⟩ : ∃ L : Int, wlen ns = L ∧ 0 ≤ L ∧ L.toNat = ns.length := ⟨(ns.length : Int), by rw [hlen], Int.natCast_nonneg _, Int.toNat_natCast _⟩)
  have hKz := hKz rfl
  have n0 : nx = [] ↔ L = 0 := by rw [← List.length_eq_zero_iff, ← hnl, ← Ln]; omega
  have blockA : (hi ≤ en ∨ nx = []) → (lo ≤ en → ∀ j, K (.tuple []) (.live 6 [gRow es ds lo hi 1 (if (16 : Int) < em2.length then 13 else 0)] :: .live 0 em2 :: j)) ∧ (en < lo → ∀ j, K (.tuple []) (.live 6 [gRow es ds lo hi 1 0] :: .live 0 em :: j)) := fun hA => by
    refine ⟨fun hlo j => ?_, fun hlo j => ?_⟩
    · have := hKz hA j
      rw [if_pos hlo, eem2] at this
      by_cases hq : 16 < (putL m [x0, x1, x2, x3, x4, x5, x6, x7, x8]).length
      · rw [if_pos hq] at this
        rw [if_pos (by rw [heml2]; omega)]
        exact this
      · rw [if_neg hq] at this
        rw [if_neg (by rw [heml2]; omega)]
        exact this
    · have := hKz hA j
      rw [if_neg (show ¬ lo ≤ en by omega), eem, if_neg (show ¬ 16 < m.length by have := hok.few rfl; simp only at this; omega)] at this
      exact this
  obtain ⟨n1, en1⟩ : ∃ n : Int, n = em.length := ⟨_, rfl⟩
  obtain ⟨n2, en2⟩ : ∃ n : Int, n = em2.length := ⟨_, rfl⟩
  have h16 : n1 ≤ 16 := by have := hok.few rfl; simp only at this; omega
  simp only [← en2] at blockA
  have lm1 : ∀ {K' : AV → AHeap → Prop} {hp : AHeap} {c : Go.Call} {ty t kt et : TypeId} {x : Operand}, hp[1]? = some (.live 0 em) → c.callee = .builtin .len → c.args = #[x] → c.argTypes = #[t] → P.underlying t = some (.map kt et) → K' (.int .i64 n1) hp → Xo P (.call c) ty [.mapr 1] hp K' := fun h1 h2 h3 h4 h5 h6 => Xo.lenm h2 h3 h4 h5 h1 htwo n1 en1 h6
  have lm2 : ∀ {K' : AV → AHeap → Prop} {hp : AHeap} {c : Go.Call} {ty t kt et : TypeId} {x : Operand}, hp[1]? = some (.live 0 em2) → c.callee = .builtin .len → c.args = #[x] → c.argTypes = #[t] → P.underlying t = some (.map kt et) → K' (.int .i64 n2) hp → Xo P (.call c) ty [.mapr 1] hp K' := fun h1 h2 h3 h4 h5 h6 => Xo.lenm h2 h3 h4 h5 h1 htwo2 n2 en2 h6
  (split <;> rename_i h1 <;> (try (simp only [hz, Z.a, binStd, cmpStd, unStd, scmpStd, maxI, reduceCtorEq] at h1)) <;> (try cbv))
  · obtain ⟨hy, hno⟩ := blockA (.inl h1)
    clear blockA hKz
    (split <;> rename_i h3 <;> (try (simp only [hz, Z.a, binStd, cmpStd, unStd, scmpStd, maxI, reduceCtorEq] at h3)) <;> (try cbv))
    · refine Put.mk em2 rfl hput ?_
      cbv
      refine lm2 (kt := 39) (et := 3) rfl rfl rfl rfl (by rw [← hP]; kernel_rfl) ?_
      cbv
      (split <;> rename_i h4 <;> (try (simp only [hz, Z.a, binStd, cmpStd, unStd, scmpStd, maxI, reduceCtorEq] at h4)) <;> (try cbv))
      · have := hy h3 [.live 13 [[.int .i64 9, .int .i64 x0, .int .i64 x1, .int .i64 x2, .int .i64 x3, .int .i64 x4, .int .i64 x5, .int .i64 x6, .int .i64 x7, .int .i64 x8, .int .i64 0, .int .i64 0, .int .i64 0]]]
        rw [if_pos (by omega)] at this
        exact this
      · have := hy h3 [.live 13 [[.int .i64 9, .int .i64 x0, .int .i64 x1, .int .i64 x2, .int .i64 x3, .int .i64 x4, .int .i64 x5, .int .i64 x6, .int .i64 x7, .int .i64 x8, .int .i64 0, .int .i64 0, .int .i64 0]]]
        rw [if_neg (by omega)] at this
        exact this
    · refine lm1 (kt := 39) (et := 3) rfl rfl rfl rfl (by rw [← hP]; kernel_rfl) ?_
      cbv
      (split <;> rename_i h4 <;> (try (simp only [hz, Z.a, binStd, cmpStd, unStd, scmpStd, maxI, reduceCtorEq] at h4)) <;> (try cbv))
      · exfalso; omega
      · exact hno h3 [.live 13 [[.int .i64 9, .int .i64 x0, .int .i64 x1, .int .i64 x2, .int .i64 x3, .int .i64 x4, .int .i64 x5, .int .i64 x6, .int .i64 x7, .int .i64 x8, .int .i64 0, .int .i64 0, .int .i64 0]]]
  · simp only [eL]
    (split <;> rename_i h2 <;> (try (simp only [hz, Z.a, binStd, cmpStd, unStd, scmpStd, maxI, reduceCtorEq] at h2)) <;> (try cbv))
    · obtain ⟨hy, hno⟩ := blockA (.inr (n0.2 h2))
      clear blockA hKz
      (split <;> rename_i h3 <;> (try (simp only [hz, Z.a, binStd, cmpStd, unStd, scmpStd, maxI, reduceCtorEq] at h3)) <;> (try cbv))
      · refine Put.mk em2 rfl hput ?_
        cbv
        refine lm2 (kt := 39) (et := 3) rfl rfl rfl rfl (by rw [← hP]; kernel_rfl) ?_
        cbv
        (split <;> rename_i h4 <;> (try (simp only [hz, Z.a, binStd, cmpStd, unStd, scmpStd, maxI, reduceCtorEq] at h4)) <;> (try cbv))
        · have := hy h3 [.live 13 [[.int .i64 9, .int .i64 x0, .int .i64 x1, .int .i64 x2, .int .i64 x3, .int .i64 x4, .int .i64 x5, .int .i64 x6, .int .i64 x7, .int .i64 x8, .int .i64 0, .int .i64 0, .int .i64 0]]]
          rw [if_pos (by omega)] at this
          exact this
        · have := hy h3 [.live 13 [[.int .i64 9, .int .i64 x0, .int .i64 x1, .int .i64 x2, .int .i64 x3, .int .i64 x4, .int .i64 x5, .int .i64 x6, .int .i64 x7, .int .i64 x8, .int .i64 0, .int .i64 0, .int .i64 0]]]
          rw [if_neg (by omega)] at this
          exact this
      · refine lm1 (kt := 39) (et := 3) rfl rfl rfl rfl (by rw [← hP]; kernel_rfl) ?_
        cbv
        (split <;> rename_i h4 <;> (try (simp only [hz, Z.a, binStd, cmpStd, unStd, scmpStd, maxI, reduceCtorEq] at h4)) <;> (try cbv))
        · exfalso; omega
        · exact hno h3 [.live 13 [[.int .i64 9, .int .i64 x0, .int .i64 x1, .int .i64 x2, .int .i64 x3, .int .i64 x4, .int .i64 x5, .int .i64 x6, .int .i64 x7, .int .i64 x8, .int .i64 0, .int .i64 0, .int .i64 0]]]
    · have hK := hK
      have ck : wcmp .eql 9 12 = false := by rw [hcmp]; rfl
      have a1 : wbin .add .i64 9 1 = 10 := by rw [hbin]; rfl
      have a2 : wbin .sub .i64 10 1 = 9 := by rw [hbin]; rfl
      have hnh : ¬ (hi ≤ en ∨ nx = []) := by rw [n0]; omega
      have hen' : -1099511627776 ≤ en ∧ en ≤ 9 * 1099511627776 := hen
      have hKl : ∀ s', s' = nx.foldl (fun s n => growF ss lo hi 3 [x0, x1, x2, x3, x4, x5, x6, x7, x8, n] (en + lenAt ss n) s) (0, m) → ∀ j, K (.tuple []) (.live 6 [gRow es ds lo hi 1 s'.1] :: .live 0 (ents s'.2) :: j) := fun s' hs' j => by
        have := hK j
        rw [if_neg (by decide), if_neg hnh] at this
        rw [hs']
        exact this
      clear hK blockA hKz lm1 lm2
      simp only [ck]
      cbv
      simp only [a1]
      repeat' (first
        | (refine RowOf.mk _ rfl ?_; cbv)
        | (simp only [a1]; cbv)
        | (refine SetRow.mk _ _ rfl rfl ?_; cbv))
      simp only [eL]
      refine Loop.dataN hw (S := Int × Int × (Int × List (List Int)) × List (List AV)) (fun s => fr 103 [(0, .ref 0 6 0 0), (2, .int .i64 en), (4, .ref 2 13 0 0), (76, .list 1 ns), (77, .int .i64 L), (78, .int .i64 s.1)])
        (fun s => [.live 6 [[.list 3 es, .list 5 ds, .int .i64 lo, .int .i64 hi, .mapr 1, .int .i64 s.2.2.1.1]], .live 0 s.2.2.2, .live 13 [[.int .i64 10, .int .i64 x0, .int .i64 x1, .int .i64 x2, .int .i64 x3, .int .i64 x4, .int .i64 x5, .int .i64 x6, .int .i64 x7, .int .i64 x8, .int .i64 s.2.1, .int .i64 0, .int .i64 0]]])
        (fun s => 0 ≤ s.1 ∧ s.1 ≤ L ∧ s.2.2.1 = (nx.take s.1.toNat).foldl (fun s n => growF ss lo hi 3 [x0, x1, x2, x3, x4, x5, x6, x7, x8, n] (en + lenAt ss n) s) (0, m) ∧ GOk s.2.2.1 ∧ (s.2.2.1.1 = 0 ∨ s.2.2.1.1 = 13) ∧ s.2.2.2 = ents s.2.2.1.2 ∧ Up0 s.2.2.2) (fun s => (L - s.1).toNat) (0, 0, (0, m), em) (by (refine Wk.eqzN (id) (by intro i hi; first | rfl | (have hh : i = 0 ∨ i = 1 := (by omega); rcases hh with hh | hh <;> subst hh <;> rfl)) (Nat.le_of_ble_eq_true rfl) (by first | exact fun i _ j _ e => e | (simp only [List.length_cons, List.length_nil]; decide)) ?_; cbv; (repeat' (first | exact trivial | rfl | assumption | apply And.intro | (simp only [hz, Z.a, binStd, cmpStd, unStd, scmpStd, maxI, reduceCtorEq]; first | done | assumption) | exact RowsZ.same (by assumption) (by first | assumption | rfl) | exact FzL.mk rfl rfl rfl (by assumption) (by first | assumption | rfl) (by decide) | (refine RowsZ.one ?_; cbv))))) ⟨Int.le_refl _, L0, rfl, hok, .inl rfl, eem.symm, hum⟩ ?_
      rintro ⟨i, y, ⟨e, m'⟩, em'⟩ hinv Q' hN hE hR'
      have hinv : 0 ≤ i ∧ i ≤ L ∧ (e, m') = (nx.take i.toNat).foldl (fun s n => growF ss lo hi 3 [x0, x1, x2, x3, x4, x5, x6, x7, x8, n] (en + lenAt ss n) s) (0, m) ∧ GOk (e, m') ∧ (e = 0 ∨ e = 13) ∧ em' = ents m' ∧ Up0 em' := hinv
      cbv
      obtain ⟨hi0, hi1, hfold, hok', he', hem', hum'⟩ := hinv
      (split <;> rename_i hc <;> (try (simp only [hz, Z.a, binStd, cmpStd, unStd, scmpStd, maxI, reduceCtorEq] at hc)) <;> (try cbv))
      · have hit : i.toNat < nx.length := by omega
        obtain ⟨n, hn⟩ : ∃ n, nx[i.toNat]? = some n := ⟨_, List.getElem?_eq_getElem hit⟩
        have hni : ns[i.toNat]? = some (nxRow n) := by rw [← ens, List.getElem?_map, hn]; rfl
        have hnb := hnxs n (List.mem_of_getElem? hn)
        obtain ⟨sg1, hd1, hrow1⟩ := get_map (f := sgRow) (ds := ss) (i := n) hnb.1 hnb.2
        have hle : lenAt ss n = sg1.len := by unfold lenAt; rw [hd1]
        have hl1 := hln.pos sg1 (List.mem_of_getElem? hd1)
        obtain ⟨len1, pcs1, nx1⟩ := sg1
        have hl1 : 1 ≤ len1 ∧ len1 ≤ 1099511627776 := hl1
        have hle : lenAt ss n = len1 := hle
        obtain ⟨q1, eq1⟩ : ∃ x, pcs1.map pcRow = x := ⟨_, rfl⟩
        obtain ⟨q2, eq2⟩ : ∃ x, nx1.map nxRow = x := ⟨_, rfl⟩
        have hrow1 : es[n.toNat]? = some [.int .i64 len1, .list 2 q1, .list 1 q2] := by rw [hes, ← eq1, ← eq2]; exact hrow1
        have hs2 : (growF ss lo hi 3 [x0, x1, x2, x3, x4, x5, x6, x7, x8, n] (en + len1) (e, m')) = (nx.take (i + 1).toNat).foldl (fun s n => growF ss lo hi 3 [x0, x1, x2, x3, x4, x5, x6, x7, x8, n] (en + lenAt ss n) s) (0, m) := by
          rw [take_next hi0 hn, List.foldl_append, ← hfold, List.foldl_cons, List.foldl_nil, hle]
        have hok2 := growF_ok ss lo hi 3 [x0, x1, x2, x3, x4, x5, x6, x7, x8, n] (en + len1) (e, m') hok' (by simp only [List.length_cons, List.length_nil]; omega)
        have he2 := growF_e ss lo hi 3 [x0, x1, x2, x3, x4, x5, x6, x7, x8, n] (en + len1) (e, m') he'
        have a3 : wbin .add .i64 en len1 = en + len1 := by rw [hbin]; show IntKind.i64.wrap (en + len1) = en + len1; rw [IntKind.wrap_i64]; omega
        obtain ⟨en2, een2⟩ : ∃ z, z = en + len1 := ⟨_, rfl⟩
        rw [← een2] at hs2 hok2 he2 a3
        have hen2 : -1099511627776 ≤ en2 ∧ en2 ≤ lenI [x0, x1, x2, x3, x4, x5, x6, x7, x8, n] * 1099511627776 := by simp only [lenI]; omega
        have hl2 : ∀ x, x ∈ [x0, x1, x2, x3, x4, x5, x6, x7, x8, n] → 0 ≤ x ∧ x.toNat < ss.length := fun x hx => by
          have : x ∈ [x0, x1, x2, x3, x4, x5, x6, x7, x8] ∨ x = n := by simpa [or_assoc] using hx
          rcases this with h | rfl
          · exact hl x h
          · exact hnb
        obtain ⟨⟨e3, m3⟩, es3⟩ : ∃ s', growF ss lo hi 3 [x0, x1, x2, x3, x4, x5, x6, x7, x8, n] en2 (e, m') = s' := ⟨_, rfl⟩
        obtain ⟨em3, eem3⟩ : ∃ x, x = ents m3 := ⟨_, rfl⟩
        have hum3 : Up0 em3 := by rw [eem3]; exact up_ents m3
        rw [es3] at hs2 hok2 he2
        refine Idx.mk _ hi0 hni ?_
        cbv
        repeat' (first
          | (refine RowOf.mk _ rfl ?_; cbv)
          | (simp only [a2]; cbv)
          | (refine InN.mk (by decide) (by decide) ?_; cbv)
          | (refine SetRow.mk _ _ rfl rfl ?_; cbv)
          | (refine Idx.mk _ hnb.1 hrow1 ?_; cbv))
        simp only [a3]
        refine Call.of (GrowC.call hu hud (e_grow10 ss gs es ds hes hds hln hnx lo hi x0 x1 x2 x3 x4 x5 x6 x7 x8 n) hP (sg := 0) (sm := 1) (h := [.live 6 [gRow es ds lo hi 1 e], .live 0 em', .live 13 [[.int .i64 10, .int .i64 x0, .int .i64 x1, .int .i64 x2, .int .i64 x3, .int .i64 x4, .int .i64 x5, .int .i64 x6, .int .i64 x7, .int .i64 x8, .int .i64 n, .int .i64 0, .int .i64 0]]]) (by decide) rfl (by rw [← hem']; rfl) hok' he' hen2 hl2 ?_)
        rw [es3, ← eem3]
        have a4 : wbin .add .i64 i 1 = i + 1 := by rw [hbin]; show IntKind.i64.wrap (i + 1) = i + 1; rw [IntKind.wrap_i64]; omega
        cbv
        simp only [a4]
        refine hN (i + 1, n, (e3, m3), em3) _ _ (by (refine Wk.eqzN (id) (by intro i hi; first | rfl | (have hh : i = 0 ∨ i = 1 := (by omega); rcases hh with hh | hh <;> subst hh <;> rfl)) (Nat.le_of_ble_eq_true rfl) (by first | exact fun i _ j _ e => e | (simp only [List.length_cons, List.length_nil]; decide)) ?_; cbv; (repeat' (first | exact trivial | rfl | assumption | apply And.intro | (simp only [hz, Z.a, binStd, cmpStd, unStd, scmpStd, maxI, reduceCtorEq]; first | done | assumption) | exact RowsZ.same (by assumption) (by first | assumption | rfl) | exact FzL.mk rfl rfl rfl (by assumption) (by first | assumption | rfl) (by decide) | (refine RowsZ.one ?_; cbv))))) ⟨by simp only; omega, by simp only; omega, hs2, hok2, he2, eem3, hum3⟩ ?_
        simp only
        omega
      · refine hE _ _ _ ?_
        cbv
        have := hKl (e, m') (by rw [hfold, List.take_of_length_le (by omega)]) [.live 13 [[.int .i64 10, .int .i64 x0, .int .i64 x1, .int .i64 x2, .int .i64 x3, .int .i64 x4, .int .i64 x5, .int .i64 x6, .int .i64 x7, .int .i64 x8, .int .i64 y, .int .i64 0, .int .i64 0]]]
        rw [← hem'] at this
        exact this
end Go.Proofs.Ytpiocfmdjgbamaa

/- route.grower.grow at depth 8. Printed by wip/tools/genroute.py. -/
namespace Go.Proofs.Ytpiocfmdjgbamaa
open Go Go.RowKit Go.Eng
set_option maxRecDepth 100000
set_option maxHeartbeats 2000000 in
theorem e_grow8 (ss : List Sg) (gs : List Gr) (es ds : List (List AV)) (hes : es = ss.map sgRow) (hds : ds = gs.map grRow) (hln : LensOk ss) (hnx : NextOk ss) (lo hi : Int) (x0 x1 x2 x3 x4 x5 x6 x7 : Int) : GrowC ss es ds lo hi 5 [x0, x1, x2, x3, x4, x5, x6, x7] := by
  have hu : Up0 es := by rw [hes]; exact up_sg ss
  have hud : Up0 ds := by rw [hds]; exact up_gr gs
  intro en e m hok he hen hl K hK
  have hlast := hl x7 (by simp)
  obtain ⟨sg0, hd0, hrow0⟩ := get_map (f := sgRow) (ds := ss) (i := x7) hlast.1 hlast.2
  have hnxe : nxAt ss x7 = sg0.nx := by unfold nxAt; rw [hd0]
  have hnx0 : ∀ n, n ∈ sg0.nx → 0 ≤ n ∧ n.toNat < ss.length := fun n hn => nxAt_ok hnx (by rw [hnxe]; exact hn)
  have hnx2 : sg0.nx.length ≤ 2 := by have := nxAt_two hnx x7; rw [hnxe] at this; exact this
  have hF : growF ss lo hi 5 [x0, x1, x2, x3, x4, x5, x6, x7] en (e, m) = (if e ≠ 0 then (e, m) else if hi ≤ en ∨ sg0.nx = [] then (if 16 < (if lo ≤ en then putL m [x0, x1, x2, x3, x4, x5, x6, x7] else m).length then 13 else 0, if lo ≤ en then putL m [x0, x1, x2, x3, x4, x5, x6, x7] else m) else sg0.nx.foldl (fun s n => growF ss lo hi 4 [x0, x1, x2, x3, x4, x5, x6, x7, n] (en + lenAt ss n) s) (e, m)) := by
    rw [← hnxe]; rfl
  rw [hF] at hK
  obtain ⟨len, pcs, nx⟩ := sg0
  obtain ⟨q0, eq0⟩ : ∃ x, pcs.map pcRow = x := ⟨_, rfl⟩
  obtain ⟨ns, ens⟩ : ∃ x, nx.map nxRow = x := ⟨_, rfl⟩
  have huns : Up0 ns := by rw [← ens]; exact up_nx nx
  have hnl : ns.length = nx.length := by rw [← ens]; simp
  have hrow0 : es[x7.toNat]? = some [.int .i64 len, .list 2 q0, .list 1 ns] := by rw [hes, ← eq0, ← ens]; exact hrow0
  have hput := put_ents m [x0, x1, x2, x3, x4, x5, x6, x7] (by simp only [List.length_cons, List.length_nil]; omega) (fun j hj => (hok.all j hj).1)
  obtain ⟨em, eem⟩ : ∃ x, ents m = x := ⟨_, rfl⟩
  obtain ⟨em2, eem2⟩ : ∃ x, ents (putL m [x0, x1, x2, x3, x4, x5, x6, x7]) = x := ⟨_, rfl⟩
  have hum : Up0 em := by rw [← eem]; exact up_ents m
  have htwo : ∀ e, e ∈ em → e.length = 2 := by rw [← eem]; exact ents_two m
  have htwo2 : ∀ e, e ∈ em2 → e.length = 2 := by rw [← eem2]; exact ents_two _
  have heml : em.length = m.length := by rw [← eem]; exact ents_len m
  have heml2 : em2.length = (putL m [x0, x1, x2, x3, x4, x5, x6, x7]).length := by rw [← eem2]; exact ents_len _
  rw [eem, eem2] at hput
  rw [eem]
  have hnxs : ∀ n, n ∈ nx → 0 ≤ n ∧ n.toNat < ss.length := hnx0
  have hnx2 : nx.length ≤ 2 := hnx2
  show ACall Try.prog 55 [.ref 0 6 0 0, .agg [.int .i64 8, .int .i64 x0, .int .i64 x1, .int .i64 x2, .int .i64 x3, .int .i64 x4, .int .i64 x5, .int .i64 x6, .int .i64 x7, .int .i64 0, .int .i64 0, .int .i64 0, .int .i64 0], .int .i64 en] [.live 6 [gRow es ds lo hi 1 e], .live 0 em] K
  (refine ACall.ofI Try.func55 (by kernel_rfl) (by kernel_rfl) fun w hw => ?_); (obtain ⟨wbin, wcmp, wun, wconv, wnot, wbeq, wmm, wscmp, wsadd, wslen, wsat, weqs, wlen, wnlen, wofNat, wtake, wdrop, wapp, wzero, wnat⟩ := w); (have hbin := Z.w1 hw); (have hcmp := Z.w2 hw); (have hun := Z.w3 hw); (have hconv := Z.w4 hw); (have hnot := Z.w5 hw); (have hbeq := Z.w6 hw); (have hmm := Z.w7 hw); (have hscmp := Z.w8 hw); (have hsadd := Z.w9 hw); (have hslen := Z.w10 hw); (have hsat := Z.w11 hw); (have heqs := Z.w12 hw); (have hlen := Z.w13 hw); (have hnlen := Z.w14 hw); (have hofNat := Z.w15 hw); (have htake := Z.w16 hw); (have hdrop := Z.w17 hw); (have happ := Z.w18 hw); (have hzero := Z.w19 hw); (have hnat := Z.w20 hw); (have hz := Z.z hw); (conv => arg 2; cbv); (generalize hP : Try.prog = P); cbv
  have s1 : wbin .sub .i64 8 1 = 7 := by rw [hbin]; rfl
  simp only [s1]
  refine InN.mk (by decide) (by decide) ?_
  cbv
  repeat' (first
    | (refine RowOf.mk _ rfl ?_; cbv)
    | (refine Idx.mk _ hlast.1 hrow0 ?_; cbv))
  have hKz : e = 0 → (hi ≤ en ∨ nx = []) → ∀ j, K (.tuple []) (.live 6 [gRow es ds lo hi 1 (if 16 < (if lo ≤ en then putL m [x0, x1, x2, x3, x4, x5, x6, x7] else m).length then 13 else 0)] :: .live 0 (ents (if lo ≤ en then putL m [x0, x1, x2, x3, x4, x5, x6, x7] else m)) :: j) := fun h0 hc j => by
    have := hK j
    rw [if_neg (by simp [h0]), if_pos hc] at this
    exact this
  rcases he with rfl | rfl
  rotate_left 1
  · have c0 : wcmp .neq 13 0 = true := by rw [hcmp]; rfl
    simp only [c0]
    cbv
    have := hK [.live 13 [[.int .i64 8, .int .i64 x0, .int .i64 x1, .int .i64 x2, .int .i64 x3, .int .i64 x4, .int .i64 x5, .int .i64 x6, .int .i64 x7, .int .i64 0, .int .i64 0, .int .i64 0, .int .i64 0]]]
    rw [if_pos (by decide), eem] at this
    exact this
  have c0 : wcmp .neq 0 0 = false := by rw [hcmp]; rfl
  simp only [c0]
  cbv
  (obtain ⟨L, eL, L0, Ln⟩ : ∃ L : Int, wlen ns = L ∧ 0 ≤ L ∧ L.toNat = ns.length := ⟨(ns.length : Int), by rw [hlen], Int.natCast_nonneg _, Int.toNat_natCast _⟩)
  have hKz := hKz rfl
  have n0 : nx = [] ↔ L = 0 := by rw [← List.length_eq_zero_iff, ← hnl, ← Ln]; omega
  have blockA : (hi ≤ en ∨ nx = []) → (lo ≤ en → ∀ j, K (.tuple []) (.live 6 [gRow es ds lo hi 1 (if (16 : Int) < em2.length then 13 else 0)] :: .live 0 em2 :: j)) ∧ (en < lo → ∀ j, K (.tuple []) (.live 6 [gRow es ds lo hi 1 0] :: .live 0 em :: j)) := fun hA => by
    refine ⟨fun hlo j => ?_, fun hlo j => ?_⟩
    · have := hKz hA j
      rw [if_pos hlo, eem2] at this
      by_cases hq : 16 < (putL m [x0, x1, x2, x3, x4, x5, x6, x7]).length
      · rw [if_pos hq] at this
        rw [if_pos (by rw [heml2]; omega)]
        exact this
      · rw [if_neg hq] at this
        rw [if_neg (by rw [heml2]; omega)]
        exact this
    · have := hKz hA j
      rw [if_neg (show ¬ lo ≤ en by omega), eem, if_neg (show ¬ 16 < m.length by have := hok.few rfl; simp only at this; omega)] at this
      exact this
  obtain ⟨n1, en1⟩ : ∃ n : Int, n = em.length := ⟨_, rfl⟩
  obtain ⟨n2, en2⟩ : ∃ n : Int, n = em2.length := ⟨_, rfl⟩
  have h16 : n1 ≤ 16 := by have := hok.few rfl; simp only at this; omega
  simp only [← en2] at blockA
  have lm1 : ∀ {K' : AV → AHeap → Prop} {hp : AHeap} {c : Go.Call} {ty t kt et : TypeId} {x : Operand}, hp[1]? = some (.live 0 em) → c.callee = .builtin .len → c.args = #[x] → c.argTypes = #[t] → P.underlying t = some (.map kt et) → K' (.int .i64 n1) hp → Xo P (.call c) ty [.mapr 1] hp K' := fun h1 h2 h3 h4 h5 h6 => Xo.lenm h2 h3 h4 h5 h1 htwo n1 en1 h6
  have lm2 : ∀ {K' : AV → AHeap → Prop} {hp : AHeap} {c : Go.Call} {ty t kt et : TypeId} {x : Operand}, hp[1]? = some (.live 0 em2) → c.callee = .builtin .len → c.args = #[x] → c.argTypes = #[t] → P.underlying t = some (.map kt et) → K' (.int .i64 n2) hp → Xo P (.call c) ty [.mapr 1] hp K' := fun h1 h2 h3 h4 h5 h6 => Xo.lenm h2 h3 h4 h5 h1 htwo2 n2 en2 h6
  (split <;> rename_i h1 <;> (try (simp only [hz, Z.a, binStd, cmpStd, unStd, scmpStd, maxI, reduceCtorEq] at h1)) <;> (try cbv))
  · obtain ⟨hy, hno⟩ := blockA (.inl h1)
    clear blockA hKz
    (split <;> rename_i h3 <;> (try (simp only [hz, Z.a, binStd, cmpStd, unStd, scmpStd, maxI, reduceCtorEq] at h3)) <;> (try cbv))
    · refine Put.mk em2 rfl hput ?_
      cbv
      refine lm2 (kt := 39) (et := 3) rfl rfl rfl rfl (by rw [← hP]; kernel_rfl) ?_
      cbv
      (split <;> rename_i h4 <;> (try (simp only [hz, Z.a, binStd, cmpStd, unStd, scmpStd, maxI, reduceCtorEq] at h4)) <;> (try cbv))
      · have := hy h3 [.live 13 [[.int .i64 8, .int .i64 x0, .int .i64 x1, .int .i64 x2, .int .i64 x3, .int .i64 x4, .int .i64 x5, .int .i64 x6, .int .i64 x7, .int .i64 0, .int .i64 0, .int .i64 0, .int .i64 0]]]
        rw [if_pos (by omega)] at this
        exact this
      · have := hy h3 [.live 13 [[.int .i64 8, .int .i64 x0, .int .i64 x1, .int .i64 x2, .int .i64 x3, .int .i64 x4, .int .i64 x5, .int .i64 x6, .int .i64 x7, .int .i64 0, .int .i64 0, .int .i64 0, .int .i64 0]]]
        rw [if_neg (by omega)] at this
        exact this
    · refine lm1 (kt := 39) (et := 3) rfl rfl rfl rfl (by rw [← hP]; kernel_rfl) ?_
      cbv
      (split <;> rename_i h4 <;> (try (simp only [hz, Z.a, binStd, cmpStd, unStd, scmpStd, maxI, reduceCtorEq] at h4)) <;> (try cbv))
      · exfalso; omega
      · exact hno h3 [.live 13 [[.int .i64 8, .int .i64 x0, .int .i64 x1, .int .i64 x2, .int .i64 x3, .int .i64 x4, .int .i64 x5, .int .i64 x6, .int .i64 x7, .int .i64 0, .int .i64 0, .int .i64 0, .int .i64 0]]]
  · simp only [eL]
    (split <;> rename_i h2 <;> (try (simp only [hz, Z.a, binStd, cmpStd, unStd, scmpStd, maxI, reduceCtorEq] at h2)) <;> (try cbv))
    · obtain ⟨hy, hno⟩ := blockA (.inr (n0.2 h2))
      clear blockA hKz
      (split <;> rename_i h3 <;> (try (simp only [hz, Z.a, binStd, cmpStd, unStd, scmpStd, maxI, reduceCtorEq] at h3)) <;> (try cbv))
      · refine Put.mk em2 rfl hput ?_
        cbv
        refine lm2 (kt := 39) (et := 3) rfl rfl rfl rfl (by rw [← hP]; kernel_rfl) ?_
        cbv
        (split <;> rename_i h4 <;> (try (simp only [hz, Z.a, binStd, cmpStd, unStd, scmpStd, maxI, reduceCtorEq] at h4)) <;> (try cbv))
        · have := hy h3 [.live 13 [[.int .i64 8, .int .i64 x0, .int .i64 x1, .int .i64 x2, .int .i64 x3, .int .i64 x4, .int .i64 x5, .int .i64 x6, .int .i64 x7, .int .i64 0, .int .i64 0, .int .i64 0, .int .i64 0]]]
          rw [if_pos (by omega)] at this
          exact this
        · have := hy h3 [.live 13 [[.int .i64 8, .int .i64 x0, .int .i64 x1, .int .i64 x2, .int .i64 x3, .int .i64 x4, .int .i64 x5, .int .i64 x6, .int .i64 x7, .int .i64 0, .int .i64 0, .int .i64 0, .int .i64 0]]]
          rw [if_neg (by omega)] at this
          exact this
      · refine lm1 (kt := 39) (et := 3) rfl rfl rfl rfl (by rw [← hP]; kernel_rfl) ?_
        cbv
        (split <;> rename_i h4 <;> (try (simp only [hz, Z.a, binStd, cmpStd, unStd, scmpStd, maxI, reduceCtorEq] at h4)) <;> (try cbv))
        · exfalso; omega
        · exact hno h3 [.live 13 [[.int .i64 8, .int .i64 x0, .int .i64 x1, .int .i64 x2, .int .i64 x3, .int .i64 x4, .int .i64 x5, .int .i64 x6, .int .i64 x7, .int .i64 0, .int .i64 0, .int .i64 0, .int .i64 0]]]
    · have hK := hK
      have ck : wcmp .eql 8 12 = false := by rw [hcmp]; rfl
      have a1 : wbin .add .i64 8 1 = 9 := by rw [hbin]; rfl
      have a2 : wbin .sub .i64 9 1 = 8 := by rw [hbin]; rfl
      have hnh : ¬ (hi ≤ en ∨ nx = []) := by rw [n0]; omega
      have hen' : -1099511627776 ≤ en ∧ en ≤ 8 * 1099511627776 := hen
      have hKl : ∀ s', s' = nx.foldl (fun s n => growF ss lo hi 4 [x0, x1, x2, x3, x4, x5, x6, x7, n] (en + lenAt ss n) s) (0, m) → ∀ j, K (.tuple []) (.live 6 [gRow es ds lo hi 1 s'.1] :: .live 0 (ents s'.2) :: j) := fun s' hs' j => by
        have := hK j
        rw [if_neg (by decide), if_neg hnh] at this
        rw [hs']
        exact this
      clear hK blockA hKz lm1 lm2
      simp only [ck]
      cbv
      simp only [a1]
      repeat' (first
        | (refine RowOf.mk _ rfl ?_; cbv)
        | (simp only [a1]; cbv)
        | (refine SetRow.mk _ _ rfl rfl ?_; cbv))
      simp only [eL]
      refine Loop.dataN hw (S := Int × Int × (Int × List (List Int)) × List (List AV)) (fun s => fr 103 [(0, .ref 0 6 0 0), (2, .int .i64 en), (4, .ref 2 13 0 0), (76, .list 1 ns), (77, .int .i64 L), (78, .int .i64 s.1)])
        (fun s => [.live 6 [[.list 3 es, .list 5 ds, .int .i64 lo, .int .i64 hi, .mapr 1, .int .i64 s.2.2.1.1]], .live 0 s.2.2.2, .live 13 [[.int .i64 9, .int .i64 x0, .int .i64 x1, .int .i64 x2, .int .i64 x3, .int .i64 x4, .int .i64 x5, .int .i64 x6, .int .i64 x7, .int .i64 s.2.1, .int .i64 0, .int .i64 0, .int .i64 0]]])
        (fun s => 0 ≤ s.1 ∧ s.1 ≤ L ∧ s.2.2.1 = (nx.take s.1.toNat).foldl (fun s n => growF ss lo hi 4 [x0, x1, x2, x3, x4, x5, x6, x7, n] (en + lenAt ss n) s) (0, m) ∧ GOk s.2.2.1 ∧ (s.2.2.1.1 = 0 ∨ s.2.2.1.1 = 13) ∧ s.2.2.2 = ents s.2.2.1.2 ∧ Up0 s.2.2.2) (fun s => (L - s.1).toNat) (0, 0, (0, m), em) (by (refine Wk.eqzN (id) (by intro i hi; first | rfl | (have hh : i = 0 ∨ i = 1 := (by omega); rcases hh with hh | hh <;> subst hh <;> rfl)) (Nat.le_of_ble_eq_true rfl) (by first | exact fun i _ j _ e => e | (simp only [List.length_cons, List.length_nil]; decide)) ?_; cbv; (repeat' (first | exact trivial | rfl | assumption | apply And.intro | (simp only [hz, Z.a, binStd, cmpStd, unStd, scmpStd, maxI, reduceCtorEq]; first | done | assumption) | exact RowsZ.same (by assumption) (by first | assumption | rfl) | exact FzL.mk rfl rfl rfl (by assumption) (by first | assumption | rfl) (by decide) | (refine RowsZ.one ?_; cbv))))) ⟨Int.le_refl _, L0, rfl, hok, .inl rfl, eem.symm, hum⟩ ?_
      rintro ⟨i, y, ⟨e, m'⟩, em'⟩ hinv Q' hN hE hR'
      have hinv : 0 ≤ i ∧ i ≤ L ∧ (e, m') = (nx.take i.toNat).foldl (fun s n => growF ss lo hi 4 [x0, x1, x2, x3, x4, x5, x6, x7, n] (en + lenAt ss n) s) (0, m) ∧ GOk (e, m') ∧ (e = 0 ∨ e = 13) ∧ em' = ents m' ∧ Up0 em' := hinv
      cbv
      obtain ⟨hi0, hi1, hfold, hok', he', hem', hum'⟩ := hinv
      (split <;> rename_i hc <;> (try (simp only [hz, Z.a, binStd, cmpStd, unStd, scmpStd, maxI, reduceCtorEq] at hc)) <;> (try cbv))
      · have hit : i.toNat < nx.length := by omega
        obtain ⟨n, hn⟩ : ∃ n, nx[i.toNat]? = some n := ⟨_, List.getElem?_eq_getElem hit⟩
        have hni : ns[i.toNat]? = some (nxRow n) := by rw [← ens, List.getElem?_map, hn]; rfl
        have hnb := hnxs n (List.mem_of_getElem? hn)
        obtain ⟨sg1, hd1, hrow1⟩ := get_map (f := sgRow) (ds := ss) (i := n) hnb.1 hnb.2
        have hle : lenAt ss n = sg1.len := by unfold lenAt; rw [hd1]
        have hl1 := hln.pos sg1 (List.mem_of_getElem? hd1)
        obtain ⟨len1, pcs1, nx1⟩ := sg1
        have hl1 : 1 ≤ len1 ∧ len1 ≤ 1099511627776 := hl1
        have hle : lenAt ss n = len1 := hle
        obtain ⟨q1, eq1⟩ : ∃ x, pcs1.map pcRow = x := ⟨_, rfl⟩
        obtain ⟨q2, eq2⟩ : ∃ x, nx1.map nxRow = x := ⟨_, rfl⟩
        have hrow1 : es[n.toNat]? = some [.int .i64 len1, .list 2 q1, .list 1 q2] := by rw [hes, ← eq1, ← eq2]; exact hrow1
        have hs2 : (growF ss lo hi 4 [x0, x1, x2, x3, x4, x5, x6, x7, n] (en + len1) (e, m')) = (nx.take (i + 1).toNat).foldl (fun s n => growF ss lo hi 4 [x0, x1, x2, x3, x4, x5, x6, x7, n] (en + lenAt ss n) s) (0, m) := by
          rw [take_next hi0 hn, List.foldl_append, ← hfold, List.foldl_cons, List.foldl_nil, hle]
        have hok2 := growF_ok ss lo hi 4 [x0, x1, x2, x3, x4, x5, x6, x7, n] (en + len1) (e, m') hok' (by simp only [List.length_cons, List.length_nil]; omega)
        have he2 := growF_e ss lo hi 4 [x0, x1, x2, x3, x4, x5, x6, x7, n] (en + len1) (e, m') he'
        have a3 : wbin .add .i64 en len1 = en + len1 := by rw [hbin]; show IntKind.i64.wrap (en + len1) = en + len1; rw [IntKind.wrap_i64]; omega
        obtain ⟨en2, een2⟩ : ∃ z, z = en + len1 := ⟨_, rfl⟩
        rw [← een2] at hs2 hok2 he2 a3
        have hen2 : -1099511627776 ≤ en2 ∧ en2 ≤ lenI [x0, x1, x2, x3, x4, x5, x6, x7, n] * 1099511627776 := by simp only [lenI]; omega
        have hl2 : ∀ x, x ∈ [x0, x1, x2, x3, x4, x5, x6, x7, n] → 0 ≤ x ∧ x.toNat < ss.length := fun x hx => by
          have : x ∈ [x0, x1, x2, x3, x4, x5, x6, x7] ∨ x = n := by simpa [or_assoc] using hx
          rcases this with h | rfl
          · exact hl x h
          · exact hnb
        obtain ⟨⟨e3, m3⟩, es3⟩ : ∃ s', growF ss lo hi 4 [x0, x1, x2, x3, x4, x5, x6, x7, n] en2 (e, m') = s' := ⟨_, rfl⟩
        obtain ⟨em3, eem3⟩ : ∃ x, x = ents m3 := ⟨_, rfl⟩
        have hum3 : Up0 em3 := by rw [eem3]; exact up_ents m3
        rw [es3] at hs2 hok2 he2
        refine Idx.mk _ hi0 hni ?_
        cbv
        repeat' (first
          | (refine RowOf.mk _ rfl ?_; cbv)
          | (simp only [a2]; cbv)
          | (refine InN.mk (by decide) (by decide) ?_; cbv)
          | (refine SetRow.mk _ _ rfl rfl ?_; cbv)
          | (refine Idx.mk _ hnb.1 hrow1 ?_; cbv))
        simp only [a3]
        refine Call.of (GrowC.call hu hud (e_grow9 ss gs es ds hes hds hln hnx lo hi x0 x1 x2 x3 x4 x5 x6 x7 n) hP (sg := 0) (sm := 1) (h := [.live 6 [gRow es ds lo hi 1 e], .live 0 em', .live 13 [[.int .i64 9, .int .i64 x0, .int .i64 x1, .int .i64 x2, .int .i64 x3, .int .i64 x4, .int .i64 x5, .int .i64 x6, .int .i64 x7, .int .i64 n, .int .i64 0, .int .i64 0, .int .i64 0]]]) (by decide) rfl (by rw [← hem']; rfl) hok' he' hen2 hl2 ?_)
        rw [es3, ← eem3]
        have a4 : wbin .add .i64 i 1 = i + 1 := by rw [hbin]; show IntKind.i64.wrap (i + 1) = i + 1; rw [IntKind.wrap_i64]; omega
        cbv
        simp only [a4]
        refine hN (i + 1, n, (e3, m3), em3) _ _ (by (refine Wk.eqzN (id) (by intro i hi; first | rfl | (have hh : i = 0 ∨ i = 1 := (by omega); rcases hh with hh | hh <;> subst hh <;> rfl)) (Nat.le_of_ble_eq_true rfl) (by first | exact fun i _ j _ e => e | (simp only [List.length_cons, List.length_nil]; decide)) ?_; cbv; (repeat' (first | exact trivial | rfl | assumption | apply And.intro | (simp only [hz, Z.a, binStd, cmpStd, unStd, scmpStd, maxI, reduceCtorEq]; first | done | assumption) | exact RowsZ.same (by assumption) (by first | assumption | rfl) | exact FzL.mk rfl rfl rfl (by assumption) (by first | assumption | rfl) (by decide) | (refine RowsZ.one ?_; cbv))))) ⟨by simp only; omega, by simp only; omega, hs2, hok2, he2, eem3, hum3⟩ ?_
        simp only
        omega
      · refine hE _ _ _ ?_
        cbv
        have := hKl (e, m') (by rw [hfold, List.take_of_length_le (by omega)]) [.live 13 [[.int .i64 9, .int .i64 x0, .int .i64 x1, .int .i64 x2, .int .i64 x3, .int .i64 x4, .int .i64 x5, .int .i64 x6, .int .i64 x7, .int .i64 y, .int .i64 0, .int .i64 0, .int .i64 0]]]
        rw [← hem'] at this
        exact this
end Go.Proofs.Ytpiocfmdjgbamaa

/- route.grower.grow at depth 7. Printed by wip/tools/genroute.py. -/
namespace Go.Proofs.Ytpiocfmdjgbamaa
open Go Go.RowKit Go.Eng
set_option maxRecDepth 100000
set_option maxHeartbeats 2000000 in
theorem e_grow7 (ss : List Sg) (gs : List Gr) (es ds : List (List AV)) (hes : es = ss.map sgRow) (hds : ds = gs.map grRow) (hln : LensOk ss) (hnx : NextOk ss) (lo hi : Int) (x0 x1 x2 x3 x4 x5 x6 : Int) : GrowC ss es ds lo hi 6 [x0, x1, x2, x3, x4, x5, x6] := by
  have hu : Up0 es := by rw [hes]; exact up_sg ss
  have hud : Up0 ds := by rw [hds]; exact up_gr gs
  intro en e m hok he hen hl K hK
  have hlast := hl x6 (by simp)
  obtain ⟨sg0, hd0, hrow0⟩ := get_map (f := sgRow) (ds := ss) (i := x6) hlast.1 hlast.2
  have hnxe : nxAt ss x6 = sg0.nx := by unfold nxAt; rw [hd0]
  have hnx0 : ∀ n, n ∈ sg0.nx → 0 ≤ n ∧ n.toNat < ss.length := fun n hn => nxAt_ok hnx (by rw [hnxe]; exact hn)
  have hnx2 : sg0.nx.length ≤ 2 := by have := nxAt_two hnx x6; rw [hnxe] at this; exact this
  have hF : growF ss lo hi 6 [x0, x1, x2, x3, x4, x5, x6] en (e, m) = (if e ≠ 0 then (e, m) else if hi ≤ en ∨ sg0.nx = [] then (if 16 < (if lo ≤ en then putL m [x0, x1, x2, x3, x4, x5, x6] else m).length then 13 else 0, if lo ≤ en then putL m [x0, x1, x2, x3, x4, x5, x6] else m) else sg0.nx.foldl (fun s n => growF ss lo hi 5 [x0, x1, x2, x3, x4, x5, x6, n] (en + lenAt ss n) s) (e, m)) := by
    rw [← hnxe]; rfl
  rw [hF] at hK
  obtain ⟨len, pcs, nx⟩ := sg0
  obtain ⟨q0, eq0⟩ : ∃ x, pcs.map pcRow = x := ⟨_, rfl⟩
  obtain ⟨ns, ens⟩ : ∃ x, nx.map nxRow = x := ⟨_, rfl⟩
  have huns : Up0 ns := by rw [← ens]; exact up_nx nx
  have hnl : ns.length = nx.length := by rw [← ens]; simp
  have hrow0 : es[x6.toNat]? = some [.int .i64 len, .list 2 q0, .list 1 ns] := by rw [hes, ← eq0, ← ens]; exact hrow0
  have hput := put_ents m [x0, x1, x2, x3, x4, x5, x6] (by simp only [List.length_cons, List.length_nil]; omega) (fun j hj => (hok.all j hj).1)
  obtain ⟨em, eem⟩ : ∃ x, ents m = x := ⟨_, rfl⟩
  obtain ⟨em2, eem2⟩ : ∃ x, ents (putL m [x0, x1, x2, x3, x4, x5, x6]) = x := ⟨_, rfl⟩
  have hum : Up0 em := by rw [← eem]; exact up_ents m
  have htwo : ∀ e, e ∈ em → e.length = 2 := by rw [← eem]; exact ents_two m
  have htwo2 : ∀ e, e ∈ em2 → e.length = 2 := by rw [← eem2]; exact ents_two _
  have heml : em.length = m.length := by rw [← eem]; exact ents_len m
  have heml2 : em2.length = (putL m [x0, x1, x2, x3, x4, x5, x6]).length := by rw [← eem2]; exact ents_len _
  rw [eem, eem2] at hput
  rw [eem]
  have hnxs : ∀ n, n ∈ nx → 0 ≤ n ∧ n.toNat < ss.length := hnx0
  have hnx2 : nx.length ≤ 2 := hnx2
  show ACall Try.prog 55 [.ref 0 6 0 0, .agg [.int .i64 7, .int .i64 x0, .int .i64 x1, .int .i64 x2, .int .i64 x3, .int .i64 x4, .int .i64 x5, .int .i64 x6, .int .i64 0, .int .i64 0, .int .i64 0, .int .i64 0, .int .i64 0], .int .i64 en] [.live 6 [gRow es ds lo hi 1 e], .live 0 em] K
  (refine ACall.ofI Try.func55 (by kernel_rfl) (by kernel_rfl) fun w hw => ?_); (obtain ⟨wbin, wcmp, wun, wconv, wnot, wbeq, wmm, wscmp, wsadd, wslen, wsat, weqs, wlen, wnlen, wofNat, wtake, wdrop, wapp, wzero, wnat⟩ := w); (have hbin := Z.w1 hw); (have hcmp := Z.w2 hw); (have hun := Z.w3 hw); (have hconv := Z.w4 hw); (have hnot := Z.w5 hw); (have hbeq := Z.w6 hw); (have hmm := Z.w7 hw); (have hscmp := Z.w8 hw); (have hsadd := Z.w9 hw); (have hslen := Z.w10 hw); (have hsat := Z.w11 hw); (have heqs := Z.w12 hw); (have hlen := Z.w13 hw); (have hnlen := Z.w14 hw); (have hofNat := Z.w15 hw); (have htake := Z.w16 hw); (have hdrop := Z.w17 hw); (have happ := Z.w18 hw); (have hzero := Z.w19 hw); (have hnat := Z.w20 hw); (have hz := Z.z hw); (conv => arg 2; cbv); (generalize hP : Try.prog = P); cbv
  have s1 : wbin .sub .i64 7 1 = 6 := by rw [hbin]; rfl
  simp only [s1]
  refine InN.mk (by decide) (by decide) ?_
  cbv
  repeat' (first
    | (refine RowOf.mk _ rfl ?_; cbv)
    | (refine Idx.mk _ hlast.1 hrow0 ?_; cbv))
  have hKz : e = 0 → (hi ≤ en ∨ nx = []) → ∀ j, K (.tuple []) (.live 6 [gRow es ds lo hi 1 (if 16 < (if lo ≤ en then putL m [x0, x1, x2, x3, x4, x5, x6] else m).length then 13 else 0)] :: .live 0 (ents (if lo ≤ en then putL m [x0, x1, x2, x3, x4, x5, x6] else m)) :: j) := fun h0 hc j => by
    have := hK j
    rw [if_neg (by simp [h0]), if_pos hc] at this
    exact this
  rcases he with rfl | rfl
  rotate_left 1
  · have c0 : wcmp .neq 13 0 = true := by rw [hcmp]; rfl
    simp only [c0]
    cbv
    have := hK [.live 13 [[.int .i64 7, .int .i64 x0, .int .i64 x1, .int .i64 x2, .int .i64 x3, .int .i64 x4, .int .i64 x5, .int .i64 x6, .int .i64 0, .int .i64 0, .int .i64 0, .int .i64 0, .int .i64 0]]]
    rw [if_pos (by decide), eem] at this
    exact this
  have c0 : wcmp .neq 0 0 = false := by rw [hcmp]; rfl
  simp only [c0]
  cbv
  (obtain ⟨L, eL, L0, Ln⟩ : ∃ L : Int, wlen ns = L ∧ 0 ≤ L ∧ L.toNat = ns.length := ⟨(ns.length : Int), by rw [hlen], Int.natCast_nonneg _, Int.toNat_natCast _⟩)
  have hKz := hKz rfl
  have n0 : nx = [] ↔ L = 0 := by rw [← List.length_eq_zero_iff, ← hnl, ← Ln]; omega
  have blockA : (hi ≤ en ∨ nx = []) → (lo ≤ en → ∀ j, K (.tuple []) (.live 6 [gRow es ds lo hi 1 (if (16 : Int) < em2.length then 13 else 0)] :: .live 0 em2 :: j)) ∧ (en < lo → ∀ j, K (.tuple []) (.live 6 [gRow es ds lo hi 1 0] :: .live 0 em :: j)) := fun hA => by
    refine ⟨fun hlo j => ?_, fun hlo j => ?_⟩
    · have := hKz hA j
      rw [if_pos hlo, eem2] at this
      by_cases hq : 16 < (putL m [x0, x1, x2, x3, x4, x5, x6]).length
      · rw [if_pos hq] at this
        rw [if_pos (by rw [heml2]; omega)]
        exact this
      · rw [if_neg hq] at this
        rw [if_neg (by rw [heml2]; omega)]
        exact this
    · have := hKz hA j
      rw [if_neg (show ¬ lo ≤ en by omega), eem, if_neg (show ¬ 16 < m.length by have := hok.few rfl; simp only at this; omega)] at this
      exact this
  obtain ⟨n1, en1⟩ : ∃ n : Int, n = em.length := ⟨_, rfl⟩
  obtain ⟨n2, en2⟩ : ∃ n : Int, n = em2.length := ⟨_, rfl⟩
  have h16 : n1 ≤ 16 := by have := hok.few rfl; simp only at this; omega
  simp only [← en2] at blockA
  have lm1 : ∀ {K' : AV → AHeap → Prop} {hp : AHeap} {c : Go.Call} {ty t kt et : TypeId} {x : Operand}, hp[1]? = some (.live 0 em) → c.callee = .builtin .len → c.args = #[x] → c.argTypes = #[t] → P.underlying t = some (.map kt et) → K' (.int .i64 n1) hp → Xo P (.call c) ty [.mapr 1] hp K' := fun h1 h2 h3 h4 h5 h6 => Xo.lenm h2 h3 h4 h5 h1 htwo n1 en1 h6
  have lm2 : ∀ {K' : AV → AHeap → Prop} {hp : AHeap} {c : Go.Call} {ty t kt et : TypeId} {x : Operand}, hp[1]? = some (.live 0 em2) → c.callee = .builtin .len → c.args = #[x] → c.argTypes = #[t] → P.underlying t = some (.map kt et) → K' (.int .i64 n2) hp → Xo P (.call c) ty [.mapr 1] hp K' := fun h1 h2 h3 h4 h5 h6 => Xo.lenm h2 h3 h4 h5 h1 htwo2 n2 en2 h6
  (split <;> rename_i h1 <;> (try (simp only [hz, Z.a, binStd, cmpStd, unStd, scmpStd, maxI, reduceCtorEq] at h1)) <;> (try cbv))
  · obtain ⟨hy, hno⟩ := blockA (.inl h1)
    clear blockA hKz
    (split <;> rename_i h3 <;> (try (simp only [hz, Z.a, binStd, cmpStd, unStd, scmpStd, maxI, reduceCtorEq] at h3)) <;> (try cbv))
    · refine Put.mk em2 rfl hput ?_
      cbv
      refine lm2 (kt := 39) (et := 3) rfl rfl rfl rfl (by rw [← hP]; kernel_rfl) ?_
      cbv
      (split <;> rename_i h4 <;> (try (simp only [hz, Z.a, binStd, cmpStd, unStd, scmpStd, maxI, reduceCtorEq] at h4)) <;> (try cbv))
      · have := hy h3 [.live 13 [[.int .i64 7, .int .i64 x0, .int .i64 x1, .int .i64 x2, .int .i64 x3, .int .i64 x4, .int .i64 x5, .int .i64 x6, .int .i64 0, .int .i64 0, .int .i64 0, .int .i64 0, .int .i64 0]]]
        rw [if_pos (by omega)] at this
        exact this
      · have := hy h3 [.live 13 [[.int .i64 7, .int .i64 x0, .int .i64 x1, .int .i64 x2, .int .i64 x3, .int .i64 x4, .int .i64 x5, .int .i64 x6, .int .i64 0, .int .i64 0, .int .i64 0, .int .i64 0, .int .i64 0]]]
        rw [if_neg (by omega)] at this
        exact this
    · refine lm1 (kt := 39) (et := 3) rfl rfl rfl rfl (by rw [← hP]; kernel_rfl) ?_
      cbv
      (split <;> rename_i h4 <;> (try (simp only [hz, Z.a, binStd, cmpStd, unStd, scmpStd, maxI, reduceCtorEq] at h4)) <;> (try cbv))
      · exfalso; omega
      · exact hno h3 [.live 13 [[.int .i64 7, .int .i64 x0, .int .i64 x1, .int .i64 x2, .int .i64 x3, .int .i64 x4, .int .i64 x5, .int .i64 x6, .int .i64 0, .int .i64 0, .int .i64 0, .int .i64 0, .int .i64 0]]]
  · simp only [eL]
    (split <;> rename_i h2 <;> (try (simp only [hz, Z.a, binStd, cmpStd, unStd, scmpStd, maxI, reduceCtorEq] at h2)) <;> (try cbv))
    · obtain ⟨hy, hno⟩ := blockA (.inr (n0.2 h2))
      clear blockA hKz
      (split <;> rename_i h3 <;> (try (simp only [hz, Z.a, binStd, cmpStd, unStd, scmpStd, maxI, reduceCtorEq] at h3)) <;> (try cbv))
      · refine Put.mk em2 rfl hput ?_
        cbv
        refine lm2 (kt := 39) (et := 3) rfl rfl rfl rfl (by rw [← hP]; kernel_rfl) ?_
        cbv
        (split <;> rename_i h4 <;> (try (simp only [hz, Z.a, binStd, cmpStd, unStd, scmpStd, maxI, reduceCtorEq] at h4)) <;> (try cbv))
        · have := hy h3 [.live 13 [[.int .i64 7, .int .i64 x0, .int .i64 x1, .int .i64 x2, .int .i64 x3, .int .i64 x4, .int .i64 x5, .int .i64 x6, .int .i64 0, .int .i64 0, .int .i64 0, .int .i64 0, .int .i64 0]]]
          rw [if_pos (by omega)] at this
          exact this
        · have := hy h3 [.live 13 [[.int .i64 7, .int .i64 x0, .int .i64 x1, .int .i64 x2, .int .i64 x3, .int .i64 x4, .int .i64 x5, .int .i64 x6, .int .i64 0, .int .i64 0, .int .i64 0, .int .i64 0, .int .i64 0]]]
          rw [if_neg (by omega)] at this
          exact this
      · refine lm1 (kt := 39) (et := 3) rfl rfl rfl rfl (by rw [← hP]; kernel_rfl) ?_
        cbv
        (split <;> rename_i h4 <;> (try (simp only [hz, Z.a, binStd, cmpStd, unStd, scmpStd, maxI, reduceCtorEq] at h4)) <;> (try cbv))
        · exfalso; omega
        · exact hno h3 [.live 13 [[.int .i64 7, .int .i64 x0, .int .i64 x1, .int .i64 x2, .int .i64 x3, .int .i64 x4, .int .i64 x5, .int .i64 x6, .int .i64 0, .int .i64 0, .int .i64 0, .int .i64 0, .int .i64 0]]]
    · have hK := hK
      have ck : wcmp .eql 7 12 = false := by rw [hcmp]; rfl
      have a1 : wbin .add .i64 7 1 = 8 := by rw [hbin]; rfl
      have a2 : wbin .sub .i64 8 1 = 7 := by rw [hbin]; rfl
      have hnh : ¬ (hi ≤ en ∨ nx = []) := by rw [n0]; omega
      have hen' : -1099511627776 ≤ en ∧ en ≤ 7 * 1099511627776 := hen
      have hKl : ∀ s', s' = nx.foldl (fun s n => growF ss lo hi 5 [x0, x1, x2, x3, x4, x5, x6, n] (en + lenAt ss n) s) (0, m) → ∀ j, K (.tuple []) (.live 6 [gRow es ds lo hi 1 s'.1] :: .live 0 (ents s'.2) :: j) := fun s' hs' j => by
        have := hK j
        rw [if_neg (by decide), if_neg hnh] at this
        rw [hs']
        exact this
      clear hK blockA hKz lm1 lm2
      simp only [ck]
      cbv
      simp only [a1]
      repeat' (first
        | (refine RowOf.mk _ rfl ?_; cbv)
        | (simp only [a1]; cbv)
        | (refine SetRow.mk _ _ rfl rfl ?_; cbv))
      simp only [eL]
      refine Loop.dataN hw (S := Int × Int × (Int × List (List Int)) × List (List AV)) (fun s => fr 103 [(0, .ref 0 6 0 0), (2, .int .i64 en), (4, .ref 2 13 0 0), (76, .list 1 ns), (77, .int .i64 L), (78, .int .i64 s.1)])
        (fun s => [.live 6 [[.list 3 es, .list 5 ds, .int .i64 lo, .int .i64 hi, .mapr 1, .int .i64 s.2.2.1.1]], .live 0 s.2.2.2, .live 13 [[.int .i64 8, .int .i64 x0, .int .i64 x1, .int .i64 x2, .int .i64 x3, .int .i64 x4, .int .i64 x5, .int .i64 x6, .int .i64 s.2.1, .int .i64 0, .int .i64 0, .int .i64 0, .int .i64 0]]])
        (fun s => 0 ≤ s.1 ∧ s.1 ≤ L ∧ s.2.2.1 = (nx.take s.1.toNat).foldl (fun s n => growF ss lo hi 5 [x0, x1, x2, x3, x4, x5, x6, n] (en + lenAt ss n) s) (0, m) ∧ GOk s.2.2.1 ∧ (s.2.2.1.1 = 0 ∨ s.2.2.1.1 = 13) ∧ s.2.2.2 = ents s.2.2.1.2 ∧ Up0 s.2.2.2) (fun s => (L - s.1).toNat) (0, 0, (0, m), em) (by (refine Wk.eqzN (id) (by intro i hi; first | rfl | (have hh : i = 0 ∨ i = 1 := (by omega); rcases hh with hh | hh <;> subst hh <;> rfl)) (Nat.le_of_ble_eq_true rfl) (by first | exact fun i _ j _ e => e | (simp only [List.length_cons, List.length_nil]; decide)) ?_; cbv; (repeat' (first | exact trivial | rfl | assumption | apply And.intro | (simp only [hz, Z.a, binStd, cmpStd, unStd, scmpStd, maxI, reduceCtorEq]; first | done | assumption) | exact RowsZ.same (by assumption) (by first | assumption | rfl) | exact FzL.mk rfl rfl rfl (by assumption) (by first | assumption | rfl) (by decide) | (refine RowsZ.one ?_; cbv))))) ⟨Int.le_refl _, L0, rfl, hok, .inl rfl, eem.symm, hum⟩ ?_
      rintro ⟨i, y, ⟨e, m'⟩, em'⟩ hinv Q' hN hE hR'
      have hinv : 0 ≤ i ∧ i ≤ L ∧ (e, m') = (nx.take i.toNat).foldl (fun s n => growF ss lo hi 5 [x0, x1, x2, x3, x4, x5, x6, n] (en + lenAt ss n) s) (0, m) ∧ GOk (e, m') ∧ (e = 0 ∨ e = 13) ∧ em' = ents m' ∧ Up0 em' := hinv
      cbv
      obtain ⟨hi0, hi1, hfold, hok', he', hem', hum'⟩ := hinv
      (split <;> rename_i hc <;> (try (simp only [hz, Z.a, binStd, cmpStd, unStd, scmpStd, maxI, reduceCtorEq] at hc)) <;> (try cbv))
      · have hit : i.toNat < nx.length := by omega
        obtain ⟨n, hn⟩ : ∃ n, nx[i.toNat]? = some n := ⟨_, List.getElem?_eq_getElem hit⟩
        have hni : ns[i.toNat]? = some (nxRow n) := by rw [← ens, List.getElem?_map, hn]; rfl
        have hnb := hnxs n (List.mem_of_getElem? hn)
        obtain ⟨sg1, hd1, hrow1⟩ := get_map (f := sgRow) (ds := ss) (i := n) hnb.1 hnb.2
        have hle : lenAt ss n = sg1.len := by unfold lenAt; rw [hd1]
        have hl1 := hln.pos sg1 (List.mem_of_getElem? hd1)
        obtain ⟨len1, pcs1, nx1⟩ := sg1
        have hl1 : 1 ≤ len1 ∧ len1 ≤ 1099511627776 := hl1
        have hle : lenAt ss n = len1 := hle
        obtain ⟨q1, eq1⟩ : ∃ x, pcs1.map pcRow = x := ⟨_, rfl⟩
        obtain ⟨q2, eq2⟩ : ∃ x, nx1.map nxRow = x := ⟨_, rfl⟩
        have hrow1 : es[n.toNat]? = some [.int .i64 len1, .list 2 q1, .list 1 q2] := by rw [hes, ← eq1, ← eq2]; exact hrow1
        have hs2 : (growF ss lo hi 5 [x0, x1, x2, x3, x4, x5, x6, n] (en + len1) (e, m')) = (nx.take (i + 1).toNat).foldl (fun s n => growF ss lo hi 5 [x0, x1, x2, x3, x4, x5, x6, n] (en + lenAt ss n) s) (0, m) := by
          rw [take_next hi0 hn, List.foldl_append, ← hfold, List.foldl_cons, List.foldl_nil, hle]
        have hok2 := growF_ok ss lo hi 5 [x0, x1, x2, x3, x4, x5, x6, n] (en + len1) (e, m') hok' (by simp only [List.length_cons, List.length_nil]; omega)
        have he2 := growF_e ss lo hi 5 [x0, x1, x2, x3, x4, x5, x6, n] (en + len1) (e, m') he'
        have a3 : wbin .add .i64 en len1 = en + len1 := by rw [hbin]; show IntKind.i64.wrap (en + len1) = en + len1; rw [IntKind.wrap_i64]; omega
        obtain ⟨en2, een2⟩ : ∃ z, z = en + len1 := ⟨_, rfl⟩
        rw [← een2] at hs2 hok2 he2 a3
        have hen2 : -1099511627776 ≤ en2 ∧ en2 ≤ lenI [x0, x1, x2, x3, x4, x5, x6, n] * 1099511627776 := by simp only [lenI]; omega
        have hl2 : ∀ x, x ∈ [x0, x1, x2, x3, x4, x5, x6, n] → 0 ≤ x ∧ x.toNat < ss.length := fun x hx => by
          have : x ∈ [x0, x1, x2, x3, x4, x5, x6] ∨ x = n := by simpa [or_assoc] using hx
          rcases this with h | rfl
          · exact hl x h
          · exact hnb
        obtain ⟨⟨e3, m3⟩, es3⟩ : ∃ s', growF ss lo hi 5 [x0, x1, x2, x3, x4, x5, x6, n] en2 (e, m') = s' := ⟨_, rfl⟩
        obtain ⟨em3, eem3⟩ : ∃ x, x = ents m3 := ⟨_, rfl⟩
        have hum3 : Up0 em3 := by rw [eem3]; exact up_ents m3
        rw [es3] at hs2 hok2 he2
        refine Idx.mk _ hi0 hni ?_
        cbv
        repeat' (first
          | (refine RowOf.mk _ rfl ?_; cbv)
          | (simp only [a2]; cbv)
          | (refine InN.mk (by decide) (by decide) ?_; cbv)
          | (refine SetRow.mk _ _ rfl rfl ?_; cbv)
          | (refine Idx.mk _ hnb.1 hrow1 ?_; cbv))
        simp only [a3]
        refine Call.of (GrowC.call hu hud (e_grow8 ss gs es ds hes hds hln hnx lo hi x0 x1 x2 x3 x4 x5 x6 n) hP (sg := 0) (sm := 1) (h := [.live 6 [gRow es ds lo hi 1 e], .live 0 em', .live 13 [[.int .i64 8, .int .i64 x0, .int .i64 x1, .int .i64 x2, .int .i64 x3, .int .i64 x4, .int .i64 x5, .int .i64 x6, .int .i64 n, .int .i64 0, .int .i64 0, .int .i64 0, .int .i64 0]]]) (by decide) rfl (by rw [← hem']; rfl) hok' he' hen2 hl2 ?_)
        rw [es3, ← eem3]
        have a4 : wbin .add .i64 i 1 = i + 1 := by rw [hbin]; show IntKind.i64.wrap (i + 1) = i + 1; rw [IntKind.wrap_i64]; omega
        cbv
        simp only [a4]
        refine hN (i + 1, n, (e3, m3), em3) _ _ (by (refine Wk.eqzN (id) (by intro i hi; first | rfl | (have hh : i = 0 ∨ i = 1 := (by omega); rcases hh with hh | hh <;> subst hh <;> rfl)) (Nat.le_of_ble_eq_true rfl) (by first | exact fun i _ j _ e => e | (simp only [List.length_cons, List.length_nil]; decide)) ?_; cbv; (repeat' (first | exact trivial | rfl | assumption | apply And.intro | (simp only [hz, Z.a, binStd, cmpStd, unStd, scmpStd, maxI, reduceCtorEq]; first | done | assumption) | exact RowsZ.same (by assumption) (by first | assumption | rfl) | exact FzL.mk rfl rfl rfl (by assumption) (by first | assumption | rfl) (by decide) | (refine RowsZ.one ?_; cbv))))) ⟨by simp only; omega, by simp only; omega, hs2, hok2, he2, eem3, hum3⟩ ?_
        simp only
        omega
      · refine hE _ _ _ ?_
        cbv
        have := hKl (e, m') (by rw [hfold, List.take_of_length_le (by omega)]) [.live 13 [[.int .i64 8, .int .i64 x0, .int .i64 x1, .int .i64 x2, .int .i64 x3, .int .i64 x4, .int .i64 x5, .int .i64 x6, .int .i64 y, .int .i64 0, .int .i64 0, .int .i64 0, .int .i64 0]]]
        rw [← hem'] at this
        exact this
end Go.Proofs.Ytpiocfmdjgbamaa

