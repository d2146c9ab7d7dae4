/- Worlds that have grown: new blocks and draws alone. And two rules for a statement that leaves its order open: all its operations but a forced tail read, or call what only makes memory. -/
import Derived.Test.YtkkjdodolnpfmaaBase
import Derived.StillTail
set_option linter.unusedVariables false
set_option linter.unusedSimpArgs false
namespace Go
open Go.RowKit

theorem nat_pos_or (a b : Nat) : (0 < a + b) = (0 < a ∨ 0 < b) := by rw [eq_iff_iff]; omega
theorem nat_lt_lit (c d r : Nat) (h : c < d) : (c < d + r) = True := eq_true (Nat.lt_of_lt_of_le h (Nat.le_add_right d r))
@[simp] theorem isSome_setCell (w : World) (a b : Addr) (v : Value) : ((w.setCell a v).cell? b).isSome = (w.cell? b).isSome := by
  by_cases h : a = b
  · subst h
    cases hc : w.cell? a with
    | some u => rw [World.cell?_setCell_same (u := u) (h := hc)]; rfl
    | none =>
      unfold World.cell? at hc ⊢
      simp only [World.setCell, Array.getElem?_modify, ↓reduceIte]
      cases hh : w.heap[a.block]? with
      | none => simp
      | some x =>
        cases x <;> simp only [Option.map_some, hh] at hc ⊢ <;> try rfl
        split at hc
        · rename_i hs; simp [hs]
        · rename_i hs; simp only [hs]; simp at hc ⊢; exact hc
  · rw [World.cell?_setCell_other w a b v h]
@[simp] theorem setCell_there (w : World) (a : Addr) (v : Value) (h : (w.cell? a).isSome = true) : (w.setCell a v).cell? a = some v := by
  obtain ⟨u, hu⟩ := Option.isSome_iff_exists.1 h
  exact World.cell?_setCell_same (u := u) (h := hu) (v := v)
/-- What a call may add to a world: blocks, and a count of draws. -/
structure Ext where
  objs : Array Obj
  drawn : Nat
instance : Inhabited Ext := ⟨⟨#[], 0⟩⟩
def World.grow (w : World) (x : Ext) : World := { w with heap := w.heap ++ x.objs, drawn := x.drawn }

theorem size_drewN' (w : World) (n : Nat) : (w.drewN n).heap.size = w.heap.size := rfl
theorem grow_of_below {w w' : World} (h : Below w.heap.size w w') : ∃ x, w' = w.grow x := by
  refine ⟨⟨w'.heap.extract w.heap.size w'.heap.size, w'.drawn⟩, ?_⟩
  have e : w'.heap = w.heap ++ w'.heap.extract w.heap.size w'.heap.size := by
    apply Array.ext_getElem?
    intro i
    have hs := h.size
    by_cases hi : i < w.heap.size
    · rw [h.block i hi, Array.getElem?_append_left hi]
    · rw [Array.getElem?_append_right (by omega), Array.getElem?_extract]
      by_cases hj : i < w'.heap.size
      · rw [if_pos (by omega)]
        congr 1
        omega
      · rw [if_neg (by omega), Array.getElem?_eq_none (by omega)]
  cases w' with
  | mk hp tp dr os out =>
    cases w with
    | mk hp0 tp0 dr0 os0 out0 =>
      have h1 := h.os
      have h2 := h.tape
      have h3 := h.output
      simp only at h1 h2 h3 e
      subst h1 h2 h3
      simp only [World.grow]
      rw [← e]

theorem grow_block (w : World) (x : Ext) (k : Nat) (h : k < w.heap.size) : (w.grow x).heap[k]? = w.heap[k]? := by
  simp only [World.grow]
  rw [Array.getElem?_append_left h]
theorem below_grow (w : World) (x : Ext) : Below w.heap.size w (w.grow x) :=
  ⟨rfl, rfl, rfl, by simp [World.grow], fun k hk => grow_block w x k hk⟩
theorem below_grown {B : Nat} {a w : World} (h : Below B a w) (hB : B ≤ w.heap.size) (x : Ext) : Below B a (w.grow x) :=
  h.trans ((below_grow w x).mono hB)
@[simp] theorem size_grow (w : World) (x : Ext) : (w.grow x).heap.size = w.heap.size + x.objs.size := by simp [World.grow]
@[simp] theorem tape_grow (w : World) (x : Ext) : (w.grow x).tape = w.tape := rfl
theorem cell_grow_lt (w : World) (x : Ext) (a : Addr) (h : a.block < w.heap.size) : (w.grow x).cell? a = w.cell? a :=
  World.cell?_of_block (w := w) (grow_block w x _ h)
theorem cell_grow (w : World) (x : Ext) (a : Addr) (h : (w.cell? a).isSome = true) : (w.grow x).cell? a = w.cell? a := by
  obtain ⟨u, hu⟩ := Option.isSome_iff_exists.1 h
  exact cell_grow_lt w x a (World.block_lt_of_cell? w a hu)
theorem frozen_grow_lt (w : World) (x : Ext) (a : Addr) (h : a.block < w.heap.size) : (w.grow x).frozen? a = w.frozen? a :=
  World.frozen?_of_block (w := w) (grow_block w x _ h)
theorem frozen_grow (w : World) (x : Ext) (a : Addr) (h : (w.cell? a).isSome = true) : (w.grow x).frozen? a = w.frozen? a := by
  obtain ⟨u, hu⟩ := Option.isSome_iff_exists.1 h
  exact frozen_grow_lt w x a (World.block_lt_of_cell? w a hu)
theorem grow_grow (w : World) (x y : Ext) : (w.grow x).grow y = w.grow ⟨x.objs ++ y.objs, y.drawn⟩ := by
  simp [World.grow, Array.append_assoc]
theorem drewN_grow (w : World) (n : Nat) : w.drewN n = w.grow ⟨#[], w.drawn + n⟩ := by
  simp [World.grow, World.drewN]

/-- A callee's contract, met in a grown world. -/
theorem Calls.grown_of {P : Program} {f : FuncId} {args : Array Value} {w : World} {x : Ext} {v : Value}
    (h : Calls P f args (w.grow x) fun e w' => e = .returned v ∧ ∃ y, w' = (w.grow x).grow y) : Calls P f args (w.grow x) fun e w'' => e = .returned v ∧ ∃ m, w'' = w.grow m :=
  h.mono fun _ _ ⟨he, y, hy⟩ => ⟨he, _, hy.trans (grow_grow _ _ _)⟩
theorem Calls.grown_below {P : Program} {f : FuncId} {args : Array Value} {w : World} {x : Ext} {v : Value}
    (h : Calls P f args (w.grow x) fun e w' => e = .returned v ∧ Below (w.grow x).heap.size (w.grow x) w') : Calls P f args (w.grow x) fun e w'' => e = .returned v ∧ ∃ m, w'' = w.grow m :=
  Calls.grown_of (h.mono fun _ _ ⟨he, hb⟩ => ⟨he, grow_of_below hb⟩)
theorem Calls.grown_same {P : Program} {f : FuncId} {args : Array Value} {w : World} {x : Ext} {v : Value}
    (h : Calls P f args (w.grow x) fun e w' => e = .returned v ∧ w.grow x = w') : Calls P f args (w.grow x) fun e w'' => e = .returned v ∧ ∃ m, w'' = w.grow m :=
  h.mono fun _ _ ⟨he, hb⟩ => ⟨he, x, hb.symm⟩
theorem Calls.to_grow {P : Program} {f : FuncId} {args : Array Value} {w : World} {v : Value}
    (h : Calls P f args w fun e w' => e = .returned v ∧ Below w.heap.size w w') : Calls P f args w fun e w'' => e = .returned v ∧ ∃ m, w'' = w.grow m :=
  h.mono fun _ _ ⟨he, hb⟩ => ⟨he, grow_of_below hb⟩

/-- What is kept of a block: its cells and its marks, in every grown world. -/
def Kept (w : World) (b : Nat) : Prop := (∀ (x : Ext) (o : Nat), (w.grow x).cell? ⟨b, o, none⟩ = w.cell? ⟨b, o, none⟩) ∧ ∀ (x : Ext) (o : Nat), (w.grow x).frozen? ⟨b, o, none⟩ = w.frozen? ⟨b, o, none⟩
theorem kept_of_lt {w : World} {b : Nat} (h : b < w.heap.size) : Kept w b := ⟨fun x o => cell_grow_lt w x ⟨b, o, none⟩ h, fun x o => frozen_grow_lt w x ⟨b, o, none⟩ h⟩
def AllKept (w : World) : List Nat → Prop
  | [] => True
  | b :: bs => (∀ (x : Ext) (o : Nat), (w.grow x).cell? ⟨b, o, none⟩ = w.cell? ⟨b, o, none⟩) ∧ (∀ (x : Ext) (o : Nat), (w.grow x).frozen? ⟨b, o, none⟩ = w.frozen? ⟨b, o, none⟩) ∧ AllKept w bs
def AllLt (n : Nat) : List Nat → Prop
  | [] => True
  | b :: bs => b < n ∧ AllLt n bs
theorem allKept {w : World} : ∀ {bs : List Nat}, AllLt w.heap.size bs → AllKept w bs
  | [], _ => trivial
  | b :: _, ⟨h, hs⟩ => ⟨fun x o => cell_grow_lt w x ⟨b, o, none⟩ h, fun x o => frozen_grow_lt w x ⟨b, o, none⟩ h, allKept hs⟩
def AllSame (w w' : World) : List Nat → Prop
  | [] => True
  | b :: bs => (∀ (o : Nat), w'.cell? ⟨b, o, none⟩ = w.cell? ⟨b, o, none⟩) ∧ (∀ (o : Nat), w'.frozen? ⟨b, o, none⟩ = w.frozen? ⟨b, o, none⟩) ∧ AllSame w w' bs
theorem allSame {w w' : World} (h : Below w.heap.size w w') : ∀ {bs : List Nat}, AllLt w.heap.size bs → AllSame w w' bs
  | [], _ => trivial
  | b :: _, ⟨hb, hs⟩ => ⟨fun o => h.cell (p := ⟨b, o, none⟩) hb, fun o => h.frozen (p := ⟨b, o, none⟩) hb, allSame h hs⟩

theorem Calls.to_kept {P : Program} {f : FuncId} {args : Array Value} {w : World} {v : Value} (bs : List Nat)
    (h : Calls P f args w fun e w' => e = .returned v ∧ Below w.heap.size w w') (hbs : AllLt w.heap.size bs) : Calls P f args w fun e w'' => e = .returned v ∧ ∃ m, w'' = w.grow m ∧ AllKept w bs :=
  h.mono fun _ _ ⟨he, hb⟩ => ⟨he, by obtain ⟨m, hm⟩ := grow_of_below hb; exact ⟨m, hm, allKept hbs⟩⟩

/-- A region that draws its order, each of whose operations yields one value in every grown world. -/
theorem wp_region_grow {P : Program} {id : Nat} {Q : Exit → Act → World → Prop} {a : Act} {w : World} {l : List Oper} (bs : List Nat) (hm : P.follows .mixedOrders = true) (hB : Region.lexB .any l.toArray = true)
    (hbs : AllLt w.heap.size bs)
    (h : AllKept w bs → wpQuiet P l.toArray (fun w' => ∃ x, w' = w.grow x) (fun a' => ∀ w', (∃ x, w' = w.grow x) → Q .normal a' w') l a) : (Code.region id l.toArray true).wp P Q a w :=
  wp_region_quiet (C := fun w' => ∃ x, w' = w.grow x) hm hB ⟨⟨#[], w.drawn + 1⟩, by simp [World.grow]⟩ (by simpa using h (allKept hbs))

/-! ### The same with a tail that waits for all the rest -/
section
variable {P : Program} {ops : Array Oper} {C : World → Prop}

def wpHeadQ (P : Program) (ops : Array Oper) (C : World → Prop) (n : Nat) (L : Array Bool → Act → Prop) : Nat → Array Bool → Act → Prop
  | 0, listed, a => L listed a
  | f + 1, listed, a => Region.ready .any ops listed ≠ [] ∧ ∀ i ∈ Region.ready .any ops listed, i < n ∧ qOp P ops C i (wpHeadQ P ops C n L f (listed.setIfInBounds i true)) a

theorem wpAny_of_headQ {n g : Nat} {L : Array Bool → Act → Prop} {Q' : Exit → Act → World → Prop} (hL : ∀ listed a w, C w → L listed a → wpAny P .any ops Q' g listed a w) (f : Nat) :
    ∀ (listed : Array Bool) (a : Act) (w : World), C w → wpHeadQ P ops C n L f listed a → wpAny P .any ops Q' (f + g) listed a w := by
  induction f with
  | zero => intro listed a w hw h; rw [Nat.zero_add]; exact hL _ _ _ hw h
  | succ f ih =>
    intro listed a w hw h
    rw [Nat.succ_add]
    exact ⟨fun h0 => (h.1 h0).elim, fun i hi => wpOp_of_qOp hw (fun a' w' hw' h' => ih _ a' w' hw' h') (h.2 i hi).2⟩

theorem wpHeadQ_first {n i : Nat} {oi : Oper} {v : Value} {L : Array Bool → Act → Prop} (hi : ops[i]? = some oi) (hsel : ∀ (j : Nat) (o : Oper) cs b, ops[j]? = some o → o.op ≠ .select cs b)
    (hs : Region.sinkB .any ops n = true) (hc : Region.chainB .any ops n = true) (hn : n < ops.size) (hin : i < n)
    (hdone : ∀ listed a, L listed a → ∀ j ∈ Region.ready .any ops listed, n ≤ j) (f : Nat) :
    ∀ (listed : Array Bool) (a : Act), HeadInv .any ops n listed →
      (∀ j oj, ops[j]? = some oj → j ≠ i → listed.getD j true = false → (∀ e ∈ oj.after, Region.binds .any e = true → e.on ≠ i) → oi.apart ops oj = true) →
      i ∈ Region.ready .any ops listed → YieldsIn P ops C oi v a →
      wpHeadQ P ops C n L f (listed.setIfInBounds i true) (a.put oi.dst v) → wpHeadQ P ops C n L (f + 1) listed a := by
  induction f with
  | zero =>
    intro listed a inv _ hr hy H
    refine ⟨fun h => (by rw [h] at hr; cases hr), fun j hj => ?_⟩
    have hjn : j < n := Nat.lt_of_not_le fun h => tail_waits hs hc hn inv _ i rfl hin (mem_ready.1 hr).1 j h hj
    by_cases hji : j = i
    · subst hji; exact ⟨hjn, hy.qOp hi H⟩
    · have := hdone _ _ H j (ready_mono hj hji); omega
  | succ f ih =>
    intro listed a inv hfree hr hy H
    refine ⟨fun h => (by rw [h] at hr; cases hr), fun j hj => ?_⟩
    have hjn : j < n := Nat.lt_of_not_le fun h => tail_waits hs hc hn inv _ i rfl hin (mem_ready.1 hr).1 j h hj
    by_cases hji : j = i
    · subst hji; exact ⟨hjn, hy.qOp hi H⟩
    · obtain ⟨hjun, oj, hoj, hall⟩ := mem_ready.1 hj
      have hnot : ∀ e ∈ oj.after, Region.binds .any e = true → e.on ≠ i := fun e he hb heq => by
        have h1 := hall e he hb
        rw [heq, getD_both (mem_ready.1 hr).1] at h1
        cases h1
      refine ⟨hjn, qOp_mono (fun a' h3 => ?_) (qOp_put hoj (hfree j oj hoj hji hjun hnot) (fun cs b => hsel i oi cs b hi) (fun cs b => hsel j oj cs b hoj) hy (H.2 j (ready_mono hj hji)).2)⟩
      refine ih (listed.setIfInBounds j true) a' (inv.set hj hjn) (fun k ok hk hki hun hno => hfree k ok hk hki ?_ hno) (ready_mono hr (Ne.symm hji)) h3.1 (by rw [Array.setIfInBounds_comm _ _ hji]; exact h3.2)
      by_cases hjk : j = k
      · subst hjk; exact hjun
      · rwa [getD_set_ne true hjk] at hun

theorem wpHeadQ_lex {n g : Nat} {Lq : Act → Prop} (hsel : Region.noSelect ops = true) (hs : Region.sinkB .any ops n = true) (hc : Region.chainB .any ops n = true) (hn : n < ops.size) (l : List Oper) :
    ∀ (k : Nat) (listed : Array Bool) (a : Act), (∀ j, j < l.length → l[j]? = ops[k + j]?) → k + l.length = n → HeadInv .any ops n listed →
    Region.lexHead .any ops g l.length k listed = true → wpQuiet P ops C Lq l a →
    wpHeadQ P ops C n (fun listed' a' => Region.seqB .any ops g n listed' = true ∧ Lq a') l.length listed a := by
  induction l with
  | nil =>
    intro k listed a _ hk _ hB h
    have hk' : k = n := by simpa using hk
    subst hk'
    exact ⟨by simpa [Region.lexHead] using hB, h⟩
  | cons o l ih =>
    intro k listed a hl hk inv hB h
    have h0 : ops[k]? = some o := by simpa using (hl 0 (by simp)).symm
    simp only [List.length_cons, Region.lexHead, Bool.and_eq_true] at hB hk
    have hr : k ∈ Region.ready .any ops listed := by simpa using hB.1.1
    obtain ⟨v, hy, hK⟩ := yieldsIn_of_qOp (i := k) (K := wpQuiet P ops C Lq l) h0 (by unfold qOp; simp only [h0]; exact h)
    exact wpHeadQ_first h0 (Region.noSelect_spec hsel) hs hc hn (by omega) (fun _ _ hL => seqB_ready hL.1) l.length listed a inv (Region.free_spec h0 hB.1.2) hr hy
      (ih (k + 1) _ _ (fun j hj => by have := hl (j + 1) (by simp; omega); simpa [Nat.add_assoc, Nat.add_comm 1 j] using this) (by omega) (inv.set hr (by omega)) hB.2 hK)

/-- The first n operations yield one value each in every world of the class; the rest wait for them, one behind the other. -/
theorem wp_region_quiet_tail {id : Nat} {Q : Exit → Act → World → Prop} {a : Act} {w : World} {l : List Oper} (n : Nat) (hm : P.follows .mixedOrders = true) (hB : Region.lexTailB .any l.toArray n = true)
    (hC : C { w with drawn := w.drawn + 1 })
    (h : wpQuiet P l.toArray C (fun a' => ∀ w', C w' → wpList P l.toArray Q (l.drop n) a' w') (l.take n) a) : (Code.region id l.toArray true).wp P Q a w := by
  simp only [Region.lexTailB, Bool.and_eq_true, decide_eq_true_eq] at hB
  obtain ⟨⟨⟨⟨hsel, hn⟩, hs⟩, hc⟩, hlex⟩ := hB
  have hn' : n < l.length := by simpa using hn
  have htl : (l.take n).length = n := by simp; omega
  have hdl : (l.drop n).length = l.toArray.size - n := by simp
  have inv0 : HeadInv .any l.toArray n (Array.replicate l.toArray.size false) :=
    ⟨by simp, fun j oj _ hl => (by rw [getD_replicate_false] at hl; cases hl), fun t _ ht => getD_in (by simpa using ht) (getD_replicate_false _ _)⟩
  have H := wpHeadQ_lex (P := P) (C := C) (g := l.toArray.size - n) hsel hs hc hn (l.take n) 0 _ a (fun j hj => by
    rw [htl] at hj
    simp [hj]) (by simpa using htl) inv0 (by rw [htl]; exact hlex) h
  rw [htl] at H
  refine wp_region_any hm ?_
  have H2 := wpAny_of_headQ (Q' := Q) (g := l.toArray.size - n) (fun listed a' w' hw hL => by
    have := wpAny_of_seq (md := .any) (Q' := Q) (l.drop n) n listed a' w' (fun j => by simp [List.getElem?_drop]) (by rw [hdl]; exact hL.1) (hL.2 w' hw)
    rwa [hdl] at this) _ _ _ _ hC H
  rwa [show n + (l.toArray.size - n) = l.toArray.size by omega] at H2

theorem wp_region_grow_tail {id : Nat} {Q : Exit → Act → World → Prop} {a : Act} {w : World} {l : List Oper} (n : Nat) (bs : List Nat) (hm : P.follows .mixedOrders = true) (hB : Region.lexTailB .any l.toArray n = true)
    (hbs : AllLt w.heap.size bs)
    (h : AllKept w bs → wpQuiet P l.toArray (fun w' => ∃ x, w' = w.grow x) (fun a' => ∀ w', (∃ x, w' = w.grow x) → wpList P l.toArray Q (l.drop n) a' w') (l.take n) a) : (Code.region id l.toArray true).wp P Q a w :=
  wp_region_quiet_tail (C := fun w' => ∃ x, w' = w.grow x) n hm hB ⟨⟨#[], w.drawn + 1⟩, by simp [World.grow]⟩ (h (allKept hbs))
end
end Go
