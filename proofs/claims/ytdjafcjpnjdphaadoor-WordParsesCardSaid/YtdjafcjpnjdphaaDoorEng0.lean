/- The engine, part 0: pure values, and how they stand to the values and the memory of the model. -/
import Derived.Test.YtdjafcjpnjdphaaDoorBase
set_option linter.unusedVariables false
set_option linter.unusedSimpArgs false
namespace Go.Eng
open Go Go.RowKit

/-- A pure value. 'any': nothing is known. 'list': a slice that nobody writes to. 'sl', 'ref': into a slot of the own heap. 'cref': a pointer to cells that nobody writes to. 'mapr': a map (or an iterator's object) in a slot of the own heap. -/
inductive AV where
  | any
  | bool (b : Bool)
  | int (k : IntKind) (n : Int)
  | str (s : ByteArray)
  | nilp
  | nils
  | emp
  | nilFunc
  | nilIface
  | agg (cs : List AV)
  | tuple (vs : List AV)
  | list (z : Nat) (es : List (List AV))
  | sl (s z i n : Nat)
  | ref (s z i o : Nat)
  | cref (cs : List AV)
  | mapr (s : Nat)
  | func (fn : Fn) (first caps : List AV)
  | iface (t : TypeId) (v : AV)

instance : Inhabited AV := ⟨.any⟩
abbrev AV.undef : AV := .tuple []

/-- A slot of the own heap: not yet taken, left, or a row of elements of z cells each. With z = 0 it is a map: a row for each entry, its key and its value; or a map's iterator. -/
inductive Slot where
  | free
  | dead
  | live (z : Nat) (es : List (List AV))
abbrev AHeap := List Slot
/-- The variables of the package that start as the text lays them, and what they hold. -/
def gs : List (Nat × List AV) := [(0, [.str ⟨#[112, 117, 108, 115, 101, 115]⟩, .str ⟨#[99, 105, 114, 99, 45, 108, 111]⟩, .str ⟨#[99, 105, 114, 99, 45, 104, 105]⟩, .str ⟨#[114, 97, 100, 45, 98, 97, 115, 101]⟩, .str ⟨#[114, 97, 100, 45, 112, 97, 114, 116]⟩, .str ⟨#[97, 99, 99, 45, 101, 114, 114]⟩, .str ⟨#[109, 97, 120, 45, 115, 112, 101, 101, 100]⟩, .str ⟨#[109, 97, 120, 45, 97, 99, 99, 101, 108]⟩, .str ⟨#[97, 110, 116, 101, 110, 110, 97]⟩, .str ⟨#[115, 116, 105, 108, 108]⟩, .str ⟨#[115, 116, 105, 108, 108, 45, 115, 112, 101, 101, 100]⟩, .str ⟨#[114, 111, 108, 108]⟩, .str ⟨#[116, 105, 109, 101, 111, 117, 116]⟩, .str ⟨#[98, 114, 97, 107, 101]⟩, .str ⟨#[101, 110, 100]⟩]), (1, [.int .u64 1, .int .u64 10, .int .u64 100, .int .u64 1000, .int .u64 10000, .int .u64 100000, .int .u64 1000000, .int .u64 10000000, .int .u64 100000000, .int .u64 1000000000, .int .u64 10000000000, .int .u64 100000000000, .int .u64 1000000000000, .int .u64 10000000000000, .int .u64 100000000000000, .int .u64 1000000000000000, .int .u64 10000000000000000, .int .u64 100000000000000000, .int .u64 1000000000000000000, .int .u64 10000000000000000000]), (3, [.iface 109 .any]), (4, [.iface 109 .any])]

structure Cfg where
  O : Nat → Prop
  r : Nat → Nat
  h : AHeap
  w : World

def Cfg.live (c : Cfg) (s : Nat) : Prop := ∃ z es, c.h[s]? = some (.live z es)
def Cfg.lown (c : Cfg) (b : Nat) : Prop := ∃ s, c.live s ∧ c.r s = b
def Cfg.own (c : Cfg) (b : Nat) : Prop := c.O b ∨ c.lown b
def Cfg.used (c : Cfg) (s : Nat) : Prop := ∃ x, c.h[s]? = some x ∧ x ≠ .free

inductive VR (c : Cfg) : AV → Value → Prop where
  | any (v : Value) : VR c .any v
  | bool (b : Bool) : VR c (.bool b) (.bool b)
  | int (k : IntKind) (n : Int) : VR c (.int k n) (.int k n)
  | str (s : ByteArray) : VR c (.str s) (.string s)
  | nilp : VR c .nilp (.pointer none)
  | nils : VR c .nils (.slice none 0 0)
  | emp (a : Addr) : VR c .emp (.slice (some a) 0 0)
  | nilFunc : VR c .nilFunc .nilFunc
  | nilIface : VR c .nilIface .nilIface
  | agg (cs : List AV) (vs : Array Value) (hl : vs.size = cs.length) (h : ∀ (i : Nat) (x : AV), cs[i]? = some x → VR c x (vs.getD i undef)) : VR c (.agg cs) (.agg vs)
  | tuple (cs : List AV) (vs : Array Value) (hl : vs.size = cs.length) (h : ∀ (i : Nat) (x : AV), cs[i]? = some x → VR c x (vs.getD i undef)) : VR c (.tuple cs) (.tuple vs)
  | list (z : Nat) (es : List (List AV)) (a : Addr) (n cap : Nat) (f : Nat → Nat → Value) (hn : es.length = n) (hc : n ≤ cap) (ha : a.spot = none) (hz : ∀ e, e ∈ es → e.length = z)
      (hcell : ∀ i j, i < n → j < z → c.w.cell? ⟨a.block, a.off + (i * z + j), none⟩ = some (f i j)) (hown : 0 < n → 0 < z → ¬ c.own a.block)
      (hv : ∀ (i : Nat) (e : List AV), es[i]? = some e → ∀ (j : Nat) (x : AV), e[j]? = some x → VR c x (f i j)) : VR c (.list z es) (.slice (some a) n cap)
  | listNil (z : Nat) (a : Option Addr) (cap : Nat) : VR c (.list z []) (.slice a 0 cap)
  | sl (s z i n cap : Nat) (hs : c.used s) (hc : n ≤ cap) (hsz : ∃ e m, c.w.shape? (c.r s) = some (e, m) ∧ (i + cap) * z ≤ m) : VR c (.sl s z i n) (.slice (some ⟨c.r s, i * z, none⟩) n cap)
  | ref (s z i o : Nat) (hs : c.used s) : VR c (.ref s z i o) (.pointer (some ⟨c.r s, i * z + o, none⟩))
  | cref (cs : List AV) (a : Addr) (f : Nat → Value) (ha : a.spot = none) (hcell : ∀ j, j < cs.length → c.w.cell? ⟨a.block, a.off + j, none⟩ = some (f j)) (hown : 0 < cs.length → ¬ c.own a.block)
      (hv : ∀ (j : Nat) (x : AV), cs[j]? = some x → VR c x (f j)) : VR c (.cref cs) (.pointer (some a))
  | mapr (s : Nat) (hs : c.used s) : VR c (.mapr s) (.map (some (c.r s)))
  | func (fn : Fn) (first caps : List AV) (vf vc : Array Value) (hf : vf.size = first.length) (hc : vc.size = caps.length) (h1 : ∀ (i : Nat) (x : AV), first[i]? = some x → VR c x (vf.getD i undef))
      (h2 : ∀ (i : Nat) (x : AV), caps[i]? = some x → VR c x (vc.getD i undef)) : VR c (.func fn first caps) (.func fn vf vc)
  | iface (t : TypeId) (x : AV) (v : Value) (h : VR c x v) : VR c (.iface t x) (.iface t v)

/-- Lists of values, the one as the other. -/
def VRs (c : Cfg) (l : List AV) (vs : Array Value) : Prop := vs.size = l.length ∧ ∀ (i : Nat) (x : AV), l[i]? = some x → VR c x (vs.getD i undef)

/-- What a map, or an iterator over a map, holds, as rows. -/
def objRows : Obj → Option (List (List Value))
  | .map ents clock => if clock = ents.size ∧ ∀ i : Fin ents.size, (ents[i]).born = i then some (ents.toList.map fun e => [e.key, e.val]) else none
  | .mapIter (some b) since seen last => some ([.map (some b), .int .i64 since, .int .i64 last] :: seen.toList.map fun n => [.int .i64 (n : Nat)])
  | _ => none
/-- Nothing of a row is kept from being written. -/
def FzOk (vs : Array Value) (fz : Nat × Nat) : Prop := fz.1 = fz.2 ∨ vs.size ≤ fz.1
/-- How rows lie in an object: in cells, or (z = 0) as a map's entries. -/
def Holds (z : Nat) (o : Obj) (es : List (List AV)) (g : Nat → Nat → Value) : Prop :=
  (0 < z ∧ (∀ e, e ∈ es → e.length = z) ∧ ∃ vs ty fz, o = .cells vs ty fz ∧ FzOk vs fz ∧ es.length * z ≤ vs.size ∧ g = fun i j => vs.getD (i * z + j) undef) ∨
  (z = 0 ∧ ∃ vss, objRows o = some vss ∧ vss.length = es.length ∧ (∀ (i : Nat) (e : List AV), es[i]? = some e → e.length = (vss.getD i []).length) ∧ g = fun i j => (vss.getD i []).getD j undef)
theorem Holds.congr {z : Nat} {o : Obj} {es fs : List (List AV)} {g : Nat → Nat → Value} (h : Holds z o fs g) (hl : es.length = fs.length) (hr : ∀ (i : Nat) (e : List AV), es[i]? = some e → ∃ f, fs[i]? = some f ∧ e.length = f.length) : Holds z o es g := by
  rcases h with ⟨h0, h1, h2⟩ | ⟨h0, vss, h1, h2, h3, h4⟩
  · refine .inl ⟨h0, fun e he => ?_, by rw [hl]; exact h2⟩
    obtain ⟨i, hi⟩ := List.mem_iff_getElem?.1 he
    obtain ⟨f, hf, hlen⟩ := hr i e hi
    rw [hlen]; exact h1 f (List.mem_of_getElem? hf)
  · refine .inr ⟨h0, vss, h1, by rw [hl]; exact h2, fun i e hi => ?_, h4⟩
    obtain ⟨f, hf, hlen⟩ := hr i e hi
    rw [hlen]; exact h3 i f hf
structure Rel (c : Cfg) : Prop where
  livx : ∀ s z es, c.h[s]? = some (.live z es) → ¬ c.O (c.r s) ∧ ∃ o g, c.w.heap[c.r s]? = some o ∧ Holds z o es g ∧ ∀ (i : Nat) (e : List AV), es[i]? = some e → ∀ (j : Nat) (x : AV), e[j]? = some x → VR c x (g i j)
  inj : ∀ s t, c.live s → c.live t → c.r s = c.r t → s = t
  olt : ∀ b, c.O b → b < c.w.heap.size
  glo : ∀ p, p ∈ gs → VR c (.cref p.2) (.pointer (some ⟨p.1, 0, none⟩))
  gsz : ∀ p, p ∈ gs → ∃ ty, c.w.shape? p.1 = some (ty, p.2.length)
theorem Rel.live {c : Cfg} (R : Rel c) (s z : Nat) (es : List (List AV)) (h : c.h[s]? = some (.live z es)) (hz : 0 < z) : 0 < z ∧ ¬ c.O (c.r s) ∧ (∀ e, e ∈ es → e.length = z) ∧ ∃ vs ty fz, c.w.heap[c.r s]? = some (.cells vs ty fz) ∧ FzOk vs fz ∧ es.length * z ≤ vs.size ∧
    ∀ (i : Nat) (e : List AV), es[i]? = some e → ∀ (j : Nat) (x : AV), e[j]? = some x → VR c x (vs.getD (i * z + j) undef) := by
  obtain ⟨h1, o, g, h2, h3, h4⟩ := R.livx s z es h
  rcases h3 with ⟨_, k1, vs, ty, fz, rfl, kf, k2, rfl⟩ | ⟨k0, _⟩
  · exact ⟨hz, h1, k1, vs, ty, fz, h2, kf, k2, h4⟩
  · omega
/-- A slot whose block is a row of cells. -/
theorem Rel.pos {c : Cfg} (R : Rel c) {s z : Nat} {es : List (List AV)} (h : c.h[s]? = some (.live z es)) {x : TypeId × Nat} (hs : c.w.shape? (c.r s) = some x) : 0 < z := by
  obtain ⟨h1, o, g, h2, h3, h4⟩ := R.livx s z es h
  rcases h3 with ⟨k0, _⟩ | ⟨k0, vss, k1, _⟩
  · exact k0
  · exfalso
    unfold World.shape? at hs
    rw [h2] at hs
    cases o <;> simp at hs <;> simp [objRows] at k1

/-- What becomes of a state as far as anyone else may see it, and the slots below n. -/
structure Ext (n : Nat) (c d : Cfg) : Prop where
  O : d.O = c.O
  os : d.w.os = c.w.os
  tape : d.w.tape = c.w.tape
  output : d.w.output = c.w.output
  size : c.w.heap.size ≤ d.w.heap.size
  used : ∀ s, s < n → c.used s → d.used s ∧ d.r s = c.r s
  keep : ∀ b, b < c.w.heap.size → ¬ c.lown b → d.w.heap[b]? = c.w.heap[b]? ∧ ¬ d.lown b
  shape : ∀ b x, c.w.shape? b = some x → d.w.shape? b = some x

theorem Ext.refl (n : Nat) (c : Cfg) : Ext n c c := ⟨rfl, rfl, rfl, rfl, Nat.le_refl _, fun s _ h => ⟨h, rfl⟩, fun b _ h => ⟨rfl, h⟩, fun _ _ h => h⟩
theorem Ext.trans {n : Nat} {c d e : Cfg} (h : Ext n c d) (k : Ext n d e) : Ext n c e := by
  refine ⟨k.O.trans h.O, k.os.trans h.os, k.tape.trans h.tape, k.output.trans h.output, Nat.le_trans h.size k.size, fun s hs hu => ?_, fun b hb ho => ?_, fun b x hx => k.shape b x (h.shape b x hx)⟩
  · obtain ⟨h1, h2⟩ := h.used s hs hu
    obtain ⟨k1, k2⟩ := k.used s hs h1
    exact ⟨k1, k2.trans h2⟩
  · obtain ⟨h1, h2⟩ := h.keep b hb ho
    obtain ⟨k1, k2⟩ := k.keep b (Nat.lt_of_lt_of_le hb h.size) h2
    exact ⟨k1.trans h1, k2⟩
theorem Ext.mono {n m : Nat} {c d : Cfg} (h : Ext n c d) (hm : m ≤ n) : Ext m c d :=
  ⟨h.O, h.os, h.tape, h.output, h.size, fun s hs => h.used s (by omega), h.keep, h.shape⟩

theorem Cfg.used_lt {c : Cfg} {s : Nat} (h : c.used s) : s < c.h.length := by
  obtain ⟨x, hx, _⟩ := h
  exact (List.getElem?_eq_some_iff.1 hx).1
theorem Cfg.used_of_live {c : Cfg} {s : Nat} (h : c.live s) : c.used s := by
  obtain ⟨z, es, hx⟩ := h
  exact ⟨_, hx, by simp⟩

theorem Ext.not_own {n : Nat} {c d : Cfg} (h : Ext n c d) {b : Nat} (hb : b < c.w.heap.size) (ho : ¬ c.own b) : ¬ d.own b := by
  intro hd
  rcases hd with hd | hd
  · rw [h.O] at hd; exact ho (.inl hd)
  · exact (h.keep b hb (fun hl => ho (.inr hl))).2 hd
theorem Ext.cell {n : Nat} {c d : Cfg} (h : Ext n c d) {a : Addr} {v : Value} (hc : c.w.cell? a = some v) (ho : ¬ c.own a.block) : d.w.cell? a = some v := by
  have hb := World.block_lt_of_cell? _ _ hc
  have hk := (h.keep a.block hb (fun hl => ho (.inr hl))).1
  rw [← hc]
  exact World.cell?_of_block hk

mutual
/-- All slots that a value names are below n. -/
def AV.upto (n : Nat) : AV → Bool
  | .agg cs => uptoL n cs
  | .tuple cs => uptoL n cs
  | .list _ es => uptoLL n es
  | .sl s _ _ _ => decide (s < n)
  | .ref s _ _ _ => decide (s < n)
  | .cref cs => uptoL n cs
  | .mapr s => decide (s < n)
  | .func _ f c => uptoL n f && uptoL n c
  | .iface _ v => v.upto n
  | _ => true
def uptoL (n : Nat) : List AV → Bool
  | [] => true
  | c :: cs => c.upto n && uptoL n cs
def uptoLL (n : Nat) : List (List AV) → Bool
  | [] => true
  | c :: cs => uptoL n c && uptoLL n cs
end
theorem uptoL_get {n : Nat} : ∀ {cs : List AV} {i : Nat} {x : AV}, uptoL n cs = true → cs[i]? = some x → x.upto n = true
  | [], i, x, _, h => by simp at h
  | c :: cs, 0, x, hb, h => by
    simp only [List.getElem?_cons_zero, Option.some.injEq] at h
    subst h
    simp only [uptoL, Bool.and_eq_true] at hb
    exact hb.1
  | c :: cs, i + 1, x, hb, h => by
    simp only [uptoL, Bool.and_eq_true] at hb
    exact uptoL_get hb.2 (by simpa using h)
theorem uptoL_of {n : Nat} : ∀ {cs : List AV}, (∀ x, x ∈ cs → x.upto n = true) → uptoL n cs = true
  | [], _ => rfl
  | c :: cs, h => by
    simp only [uptoL, Bool.and_eq_true]
    exact ⟨h c (by simp), uptoL_of fun x hx => h x (by simp [hx])⟩
theorem uptoLL_get {n : Nat} : ∀ {cs : List (List AV)} {i : Nat} {x : List AV}, uptoLL n cs = true → cs[i]? = some x → uptoL n x = true
  | [], i, x, _, h => by simp at h
  | c :: cs, 0, x, hb, h => by
    simp only [List.getElem?_cons_zero, Option.some.injEq] at h
    subst h
    simp only [uptoLL, Bool.and_eq_true] at hb
    exact hb.1
  | c :: cs, i + 1, x, hb, h => by
    simp only [uptoLL, Bool.and_eq_true] at hb
    exact uptoLL_get hb.2 (by simpa using h)
theorem uptoLL_of {n : Nat} : ∀ {cs : List (List AV)}, (∀ x, x ∈ cs → uptoL n x = true) → uptoLL n cs = true
  | [], _ => rfl
  | c :: cs, h => by
    simp only [uptoLL, Bool.and_eq_true]
    exact ⟨h c (by simp), uptoLL_of fun x hx => h x (by simp [hx])⟩

/-- A value that stands in a state names its slots only. -/
theorem VR.upto {c : Cfg} {x : AV} {v : Value} (h : VR c x v) : x.upto c.h.length = true := by
  induction h with
  | agg cs vs hl h ih => exact uptoL_of fun x hx => by obtain ⟨i, hi⟩ := List.mem_iff_getElem?.1 hx; exact ih i x hi
  | tuple cs vs hl h ih => exact uptoL_of fun x hx => by obtain ⟨i, hi⟩ := List.mem_iff_getElem?.1 hx; exact ih i x hi
  | list z es a n cap f hn hc ha hz hcell hown hv ih =>
    refine uptoLL_of fun e he => uptoL_of fun x hx => ?_
    obtain ⟨i, hi⟩ := List.mem_iff_getElem?.1 he
    obtain ⟨j, hj⟩ := List.mem_iff_getElem?.1 hx
    exact ih i e hi j x hj
  | sl s z i n cap hs hc hsz => simpa [AV.upto] using Cfg.used_lt hs
  | ref s z i o hs => simpa [AV.upto] using Cfg.used_lt hs
  | mapr s hs => simpa [AV.upto] using Cfg.used_lt hs
  | cref cs a f ha hcell hown hv ih => exact uptoL_of fun x hx => by obtain ⟨i, hi⟩ := List.mem_iff_getElem?.1 hx; exact ih i x hi
  | func fn first caps vf vc hf hc h1 h2 ih1 ih2 =>
    simp only [AV.upto, Bool.and_eq_true]
    exact ⟨uptoL_of fun x hx => by obtain ⟨i, hi⟩ := List.mem_iff_getElem?.1 hx; exact ih1 i x hi, uptoL_of fun x hx => by obtain ⟨i, hi⟩ := List.mem_iff_getElem?.1 hx; exact ih2 i x hi⟩
  | iface t x v h ih => exact ih
  | listNil z a cap => rfl
  | _ => rfl

theorem gs_up (n : Nat) : gs.all (fun p => uptoL n p.2) = true := rfl
theorem gs_upto {p : Nat × List AV} (hp : p ∈ gs) (n : Nat) : (AV.cref p.2).upto n = true := List.all_eq_true.1 (gs_up n) p hp
/-- What stands in a state stands in all that come of it. -/
theorem Ext.vr {n : Nat} {c d : Cfg} (h : Ext n c d) {x : AV} {v : Value} (hv : VR c x v) : x.upto n = true → VR d x v := by
  induction hv with
  | any v => exact fun _ => .any v
  | bool b => exact fun _ => .bool b
  | int k n => exact fun _ => .int k n
  | str s => exact fun _ => .str s
  | nilp => exact fun _ => .nilp
  | nils => exact fun _ => .nils
  | emp a => exact fun _ => .emp a
  | nilFunc => exact fun _ => .nilFunc
  | nilIface => exact fun _ => .nilIface
  | agg cs vs hl h ih => exact fun hb => .agg cs vs hl fun i x hi => ih i x hi (uptoL_get hb hi)
  | tuple cs vs hl h ih => exact fun hb => .tuple cs vs hl fun i x hi => ih i x hi (uptoL_get hb hi)
  | list z es a m cap f hn hc ha hz hcell hown hv ih =>
    intro hb
    refine .list z es a m cap f hn hc ha hz (fun i j hi hj => h.cell (hcell i j hi hj) (hown (by omega) (by omega))) (fun hm hzp => ?_) fun i e he j x hx => ih i e he j x hx (uptoL_get (uptoLL_get hb he) hx)
    exact h.not_own (World.block_lt_of_cell? _ ⟨a.block, _, none⟩ (hcell 0 0 hm hzp)) (hown hm hzp)
  | listNil z a cap => exact fun _ => .listNil z a cap
  | sl s z i m cap hs hc hsz =>
    intro hb
    simp only [AV.upto, decide_eq_true_eq] at hb
    obtain ⟨h1, h2⟩ := h.used s hb hs
    rw [← h2]
    refine .sl s z i m cap h1 hc ?_
    obtain ⟨e, k, hk, hle⟩ := hsz
    exact ⟨e, k, by rw [h2]; exact h.shape _ _ hk, hle⟩
  | ref s z i o hs =>
    intro hb
    simp only [AV.upto, decide_eq_true_eq] at hb
    obtain ⟨h1, h2⟩ := h.used s hb hs
    rw [← h2]
    exact .ref s z i o h1
  | mapr s hs =>
    intro hb
    simp only [AV.upto, decide_eq_true_eq] at hb
    obtain ⟨h1, h2⟩ := h.used s hb hs
    rw [← h2]
    exact .mapr s h1
  | cref cs a f ha hcell hown hv ih =>
    intro hb
    refine .cref cs a f ha (fun j hj => h.cell (hcell j hj) (hown (by omega))) (fun hm => ?_) fun j x hx => ih j x hx (uptoL_get hb hx)
    exact h.not_own (World.block_lt_of_cell? _ ⟨a.block, _, none⟩ (hcell 0 hm)) (hown hm)
  | func fn first caps vf vc hf hc h1 h2 ih1 ih2 =>
    intro hb
    simp only [AV.upto, Bool.and_eq_true] at hb
    exact .func fn first caps vf vc hf hc (fun i x hi => ih1 i x hi (uptoL_get hb.1 hi)) fun i x hi => ih2 i x hi (uptoL_get hb.2 hi)
  | iface t x v h ih => exact fun hb => .iface t x v (ih hb)

theorem Ext.vr' {c d : Cfg} (h : Ext c.h.length c d) {x : AV} {v : Value} (hv : VR c x v) : VR d x v := h.vr hv hv.upto
theorem Ext.vrs {c d : Cfg} (h : Ext c.h.length c d) {l : List AV} {vs : Array Value} (hv : VRs c l vs) : VRs d l vs := ⟨hv.1, fun i x hx => h.vr' (hv.2 i x hx)⟩

/-- What a live slot owes. -/
def Slot.Ok (c : Cfg) (s z : Nat) (es : List (List AV)) : Prop := ¬ c.O (c.r s) ∧ ∃ o g, c.w.heap[c.r s]? = some o ∧ Holds z o es g ∧ ∀ (i : Nat) (e : List AV), es[i]? = some e → ∀ (j : Nat) (x : AV), e[j]? = some x → VR c x (g i j)
theorem Slot.Ok.cells {c : Cfg} {s z : Nat} {es : List (List AV)} (h0 : 0 < z) (h1 : ¬ c.O (c.r s)) (h2 : ∀ e, e ∈ es → e.length = z) (h : ∃ vs ty fz, c.w.heap[c.r s]? = some (.cells vs ty fz) ∧ FzOk vs fz ∧ es.length * z ≤ vs.size ∧
    ∀ (i : Nat) (e : List AV), es[i]? = some e → ∀ (j : Nat) (x : AV), e[j]? = some x → VR c x (vs.getD (i * z + j) undef)) : Slot.Ok c s z es := by
  obtain ⟨vs, ty, fz, h3, h4, h5, h6⟩ := h
  exact ⟨h1, _, _, h3, .inl ⟨h0, h2, vs, ty, fz, rfl, h4, h5, rfl⟩, h6⟩
theorem Rel.lown_lt {c : Cfg} (R : Rel c) {b : Nat} (h : c.lown b) : b < c.w.heap.size := by
  obtain ⟨s, ⟨z, es, hs⟩, rfl⟩ := h
  obtain ⟨_, o, g, hh, _⟩ := R.livx s z es hs
  rcases Nat.lt_or_ge (c.r s) c.w.heap.size with h | h
  · exact h
  · rw [Array.getElem?_eq_none h] at hh; cases hh
/-- A state that comes of another one is in order, if its slots are those that were, with their blocks, or owe nothing. -/
theorem Rel.of_ext {c d : Cfg} (R : Rel c) (h : Ext c.h.length c d) (hs : ∀ s z es, d.h[s]? = some (.live z es) → (c.h[s]? = some (.live z es) ∧ d.r s = c.r s ∧ d.w.heap[c.r s]? = c.w.heap[c.r s]?) ∨ Slot.Ok d s z es)
    (hi : ∀ s t, d.live s → d.live t → d.r s = d.r t → s = t) : Rel d := by
  refine ⟨fun s z es hl => ?_, hi, fun b hb => Nat.lt_of_lt_of_le (R.olt b (by rw [← h.O]; exact hb)) h.size, fun p hp => h.vr' (R.glo p hp), fun p hp => (R.gsz p hp).imp fun _ h1 => h.shape _ _ h1⟩
  rcases hs s z es hl with ⟨h1, h2, h3⟩ | h1
  · obtain ⟨a2, o, g, a4, a5, a6⟩ := R.livx s z es h1
    exact ⟨by rw [h2, h.O]; exact a2, o, g, by rw [h2, h3]; exact a4, a5, fun i e he j x hx => h.vr' (a6 i e he j x hx)⟩
  · exact h1

/-- Another world with the same memory. -/
theorem Rel.sameHeap {c : Cfg} (R : Rel c) {w : World} (hh : w.heap = c.w.heap) (ho : w.os = c.w.os) (ht : w.tape = c.w.tape) (hp : w.output = c.w.output) (n : Nat) : Rel { c with w := w } ∧ Ext n c { c with w := w } := by
  have he : ∀ n, Ext n c { c with w := w } := fun n => ⟨rfl, ho, ht, hp, by simp [hh], fun s _ h => ⟨h, rfl⟩, fun b _ hb => ⟨by simp [hh], hb⟩, fun b x hx => by simpa [World.shape?, hh] using hx⟩
  exact ⟨R.of_ext (he _) (fun s z es hl => .inl ⟨hl, rfl, by simp [hh]⟩) R.inj, he n⟩
theorem Rel.drew {c : Cfg} (R : Rel c) (k n : Nat) : Rel { c with w := { c.w with drawn := k } } ∧ Ext n c { c with w := { c.w with drawn := k } } := R.sameHeap (w := { c.w with drawn := k }) rfl rfl rfl rfl n

theorem shape_alloc (w : World) (o : Obj) (b : Nat) (x : TypeId × Nat) (h : w.shape? b = some x) : (w.alloc o).shape? b = some x := by
  unfold World.shape? at h ⊢
  have hb : b < w.heap.size := by
    rcases Nat.lt_or_ge b w.heap.size with h' | h'
    · exact h'
    · rw [Array.getElem?_eq_none h'] at h; cases h
  rw [Below.heap_alloc _ _ _ hb]; exact h

/-- A new block that nobody owns. -/
theorem Rel.alloc {c : Cfg} (R : Rel c) (o : Obj) (n : Nat) : Rel { c with w := c.w.alloc o } ∧ Ext n c { c with w := c.w.alloc o } := by
  have he : ∀ n, Ext n c { c with w := c.w.alloc o } := fun n => ⟨rfl, rfl, rfl, rfl, by simp, fun s _ h => ⟨h, rfl⟩, fun b hb ho => ⟨Below.heap_alloc _ _ _ hb, ho⟩, fun b x hx => shape_alloc _ _ _ _ hx⟩
  refine ⟨R.of_ext (he _) (fun s z es hl => .inl ⟨hl, rfl, ?_⟩) R.inj, he n⟩
  exact Below.heap_alloc _ _ _ (R.lown_lt ⟨s, ⟨z, es, hl⟩, rfl⟩)

/-- A new block in a slot that was not taken. -/
theorem Rel.fresh {c : Cfg} (R : Rel c) (t : Nat) (h' : AHeap) (z : Nat) (es : List (List AV)) (vs : Array Value) (ty : TypeId) (n : Nat)
    (ht : ¬ c.used t) (h1 : h'[t]? = some (.live z es)) (h2 : ∀ s x, s ≠ t → x ≠ .free → (h'[s]? = some x ↔ c.h[s]? = some x))
    (hz : 0 < z) (hes : ∀ e, e ∈ es → e.length = z) (hsz : es.length * z ≤ vs.size) (hv : ∀ (i : Nat) (e : List AV), es[i]? = some e → ∀ (j : Nat) (x : AV), e[j]? = some x → VR c x (vs.getD (i * z + j) undef)) :
    Rel { c with r := fun s => if s = t then c.w.heap.size else c.r s, h := h', w := c.w.alloc (.cells vs ty) } ∧ Ext n c { c with r := fun s => if s = t then c.w.heap.size else c.r s, h := h', w := c.w.alloc (.cells vs ty) } := by
  have hlive : ∀ s, s ≠ t → (Cfg.live { c with r := fun s => if s = t then c.w.heap.size else c.r s, h := h', w := c.w.alloc (.cells vs ty) } s ↔ c.live s) := by
    intro s hs
    constructor
    · rintro ⟨z, es, hx⟩; exact ⟨z, es, (h2 s _ hs (by simp)).1 hx⟩
    · rintro ⟨z, es, hx⟩; exact ⟨z, es, (h2 s _ hs (by simp)).2 hx⟩
  have he : ∀ n, Ext n c { c with r := fun s => if s = t then c.w.heap.size else c.r s, h := h', w := c.w.alloc (.cells vs ty) } := by
    intro n
    refine ⟨rfl, rfl, rfl, rfl, by simp, fun s _ hu => ?_, fun b hb ho => ⟨Below.heap_alloc _ _ _ hb, ?_⟩, fun b x hx => shape_alloc _ _ _ _ hx⟩
    · have hst : s ≠ t := fun e => ht (e ▸ hu)
      obtain ⟨x, hx, hf⟩ := hu
      exact ⟨⟨x, (h2 s x hst hf).2 hx, hf⟩, by simp [hst]⟩
    · rintro ⟨s, hs, hb'⟩
      by_cases hst : s = t
      · subst hst; simp at hb'; omega
      · simp only [hst, if_false] at hb'
        exact ho ⟨s, (hlive s hst).1 hs, hb'⟩
  refine ⟨R.of_ext (he _) (fun s z' es' hl => ?_) (fun s s' hs hs' hr => ?_), he n⟩
  · by_cases hst : s = t
    · subst hst
      have : Slot.live z es = Slot.live z' es' := by simpa [h1] using hl
      cases this
      refine .inr (Slot.Ok.cells hz ?_ hes ⟨vs, ty, (0, 0), ?_, .inl rfl, hsz, fun i e he' j x hx => (he c.h.length).vr' (hv i e he' j x hx)⟩)
      · intro hO
        have := R.olt _ hO
        simp at this
      · simpa using heap_alloc_new c.w (.cells vs ty)
    · have hl' := (h2 s _ hst (by simp)).1 hl
      exact .inl ⟨hl', by simp [hst], Below.heap_alloc _ _ _ (R.lown_lt ⟨s, ⟨z', es', hl'⟩, rfl⟩)⟩
  · by_cases hst : s = t <;> by_cases hst' : s' = t
    · omega
    · exfalso
      have hl' := R.lown_lt ⟨s', (hlive s' hst').1 hs', rfl⟩
      simp [hst, hst'] at hr; omega
    · exfalso
      have hl' := R.lown_lt ⟨s, (hlive s hst).1 hs, rfl⟩
      simp [hst, hst'] at hr; omega
    · simp [hst, hst'] at hr
      exact R.inj s s' ((hlive s hst).1 hs) ((hlive s' hst').1 hs') hr

/-- Other contents of a slot's block. -/
theorem Rel.write {c : Cfg} (R : Rel c) (s : Nat) (h' : AHeap) (w : World) (z : Nat) (es es' : List (List AV)) (vs vs' : Array Value) (ty : TypeId) (n : Nat)
    (hz : 0 < z) (hs : c.h[s]? = some (.live z es)) (h1 : h'[s]? = some (.live z es')) (h2 : ∀ k, k ≠ s → h'[k]? = c.h[k]?) {fz0 fz : Nat × Nat} (hfz : FzOk vs fz)
    (hw0 : c.w.heap[c.r s]? = some (.cells vs ty fz0)) (hw1 : w.heap[c.r s]? = some (.cells vs' ty fz)) (hvs : vs'.size = vs.size) (hw2 : ∀ b, b ≠ c.r s → w.heap[b]? = c.w.heap[b]?)
    (ho : w.os = c.w.os) (ht : w.tape = c.w.tape) (hp : w.output = c.w.output) (hsz : w.heap.size = c.w.heap.size)
    (hes : ∀ e, e ∈ es' → e.length = z) (hle : es'.length * z ≤ vs'.size) (hv : ∀ (i : Nat) (e : List AV), es'[i]? = some e → ∀ (j : Nat) (x : AV), e[j]? = some x → VR c x (vs'.getD (i * z + j) undef)) :
    Rel { c with h := h', w := w } ∧ Ext n c { c with h := h', w := w } := by
  have hlive : ∀ k, (Cfg.live { c with h := h', w := w } k ↔ c.live k) := by
    intro k
    by_cases hk : k = s
    · subst hk; exact ⟨fun _ => ⟨z, es, hs⟩, fun _ => ⟨z, es', h1⟩⟩
    · constructor
      · rintro ⟨a, b, hx⟩; exact ⟨a, b, (h2 k hk) ▸ hx⟩
      · rintro ⟨a, b, hx⟩; exact ⟨a, b, (h2 k hk).symm ▸ hx⟩
  have hl : c.live s := ⟨z, es, hs⟩
  have he : ∀ n, Ext n c { c with h := h', w := w } := by
    intro n
    refine ⟨rfl, ho, ht, hp, by simp [hsz], fun k _ hu => ⟨?_, rfl⟩, fun b hb hno => ⟨hw2 b fun e => hno ⟨s, hl, e.symm⟩, fun ⟨k, hk, hkb⟩ => hno ⟨k, (hlive k).1 hk, hkb⟩⟩, fun b x hx => ?_⟩
    · by_cases hk : k = s
      · subst hk; exact ⟨_, h1, by simp⟩
      · obtain ⟨x, hx, hf⟩ := hu; exact ⟨x, (h2 k hk).symm ▸ hx, hf⟩
    · by_cases hb : b = c.r s
      · subst hb
        unfold World.shape? at hx ⊢
        simp only [hw0] at hx
        simp only [hw1, hvs]
        exact hx
      · unfold World.shape? at hx ⊢
        simp only [hw2 b hb]
        exact hx
  refine ⟨R.of_ext (he _) (fun k z' e' hk => ?_) (fun a b ha hb hr => R.inj a b ((hlive a).1 ha) ((hlive b).1 hb) hr), he n⟩
  by_cases hks : k = s
  · subst hks
    have : Slot.live z es' = Slot.live z' e' := by simpa [h1] using hk
    cases this
    obtain ⟨a1, a2, a3, _⟩ := R.live k z es hs hz
    exact .inr (Slot.Ok.cells a1 a2 hes ⟨vs', ty, fz, hw1, by unfold FzOk at hfz ⊢; rw [hvs]; exact hfz, hle, fun i e he' j x hx => (he c.h.length).vr' (hv i e he' j x hx)⟩)
  · have hk' : c.h[k]? = some (.live z' e') := (h2 k hks) ▸ hk
    refine .inl ⟨hk', rfl, hw2 _ fun e => hks (R.inj k s ⟨_, _, hk'⟩ hl e)⟩

/-- A slot that is left. -/
theorem Rel.leave {c : Cfg} (R : Rel c) (h' : AHeap) (n : Nat) (hk : ∀ (s : Nat) (x : Slot), h'[s]? = some x → c.h[s]? = some x ∨ x = .dead) (hu : ∀ s, s < n → ∀ x : Slot, c.h[s]? = some x → x ≠ .free → ∃ y, h'[s]? = some y ∧ y ≠ .free)
    (hn : n ≤ c.h.length) (hc : ∀ (s z : Nat) (es : List (List AV)), h'[s]? = some (Slot.live z es) → ∀ e, e ∈ es → ∀ x : AV, x ∈ e → x.upto n = true) : Rel { c with h := h' } ∧ Ext n c { c with h := h' } := by
  have hlive : ∀ k, Cfg.live { c with h := h' } k → c.live k := by
    rintro k ⟨a, b, hx⟩
    rcases hk k _ hx with h | h
    · exact ⟨a, b, h⟩
    · cases h
  have he : Ext n c { c with h := h' } := by
    refine ⟨rfl, rfl, rfl, rfl, Nat.le_refl _, fun k hkn ⟨x, hx, hf⟩ => ⟨?_, rfl⟩, fun b hb hno => ⟨rfl, fun ⟨k, hk, hkb⟩ => hno ⟨k, hlive k hk, hkb⟩⟩, fun b x hx => hx⟩
    obtain ⟨y, hy, hy'⟩ := hu k hkn x hx hf
    exact ⟨y, hy, hy'⟩
  refine ⟨⟨fun s z es hl => ?_, fun a b ha hb hr => R.inj a b (hlive a ha) (hlive b hb) hr, R.olt, fun p hp => he.vr (R.glo p hp) (gs_upto hp n), R.gsz⟩, he⟩
  rcases hk s _ hl with h | h
  · obtain ⟨a2, o, g, a4, a5, a6⟩ := R.livx s z es h
    refine ⟨a2, o, g, a4, a5, fun i e hi j x hx => he.vr (a6 i e hi j x hx) (hc s z es hl e (List.mem_of_getElem? hi) x (List.mem_of_getElem? hx))⟩
  · cases h

/-- A new object (a map, an iterator) in a slot that was not taken. -/
theorem Rel.freshX {c : Cfg} (R : Rel c) (t : Nat) (h' : AHeap) (z : Nat) (es : List (List AV)) (o : Obj) (g : Nat → Nat → Value) (n : Nat)
    (ht : ¬ c.used t) (h1 : h'[t]? = some (.live z es)) (h2 : ∀ s x, s ≠ t → x ≠ .free → (h'[s]? = some x ↔ c.h[s]? = some x))
    (hh : Holds z o es g) (hv : ∀ (i : Nat) (e : List AV), es[i]? = some e → ∀ (j : Nat) (x : AV), e[j]? = some x → VR c x (g i j)) :
    Rel { c with r := fun s => if s = t then c.w.heap.size else c.r s, h := h', w := c.w.alloc o } ∧ Ext n c { c with r := fun s => if s = t then c.w.heap.size else c.r s, h := h', w := c.w.alloc o } := by
  have hlive : ∀ s, s ≠ t → (Cfg.live { c with r := fun s => if s = t then c.w.heap.size else c.r s, h := h', w := c.w.alloc o } s ↔ c.live s) := by
    intro s hs
    constructor
    · rintro ⟨z, es, hx⟩; exact ⟨z, es, (h2 s _ hs (by simp)).1 hx⟩
    · rintro ⟨z, es, hx⟩; exact ⟨z, es, (h2 s _ hs (by simp)).2 hx⟩
  have he : ∀ n, Ext n c { c with r := fun s => if s = t then c.w.heap.size else c.r s, h := h', w := c.w.alloc o } := by
    intro n
    refine ⟨rfl, rfl, rfl, rfl, by simp, fun s _ hu => ?_, fun b hb ho => ⟨Below.heap_alloc _ _ _ hb, ?_⟩, fun b x hx => shape_alloc _ _ _ _ hx⟩
    · have hst : s ≠ t := fun e => ht (e ▸ hu)
      obtain ⟨x, hx, hf⟩ := hu
      exact ⟨⟨x, (h2 s x hst hf).2 hx, hf⟩, by simp [hst]⟩
    · rintro ⟨s, hs, hb'⟩
      by_cases hst : s = t
      · subst hst; simp at hb'; omega
      · simp only [hst, if_false] at hb'
        exact ho ⟨s, (hlive s hst).1 hs, hb'⟩
  refine ⟨R.of_ext (he _) (fun s z' es' hl => ?_) (fun s s' hs hs' hr => ?_), he n⟩
  · by_cases hst : s = t
    · subst hst
      have : Slot.live z es = Slot.live z' es' := by simpa [h1] using hl
      cases this
      refine .inr ⟨?_, o, g, ?_, hh, fun i e he' j x hx => (he c.h.length).vr' (hv i e he' j x hx)⟩
      · intro hO
        have := R.olt _ hO
        simp at this
      · simpa using heap_alloc_new c.w o
    · have hl' := (h2 s _ hst (by simp)).1 hl
      exact .inl ⟨hl', by simp [hst], Below.heap_alloc _ _ _ (R.lown_lt ⟨s, ⟨z', es', hl'⟩, rfl⟩)⟩
  · by_cases hst : s = t <;> by_cases hst' : s' = t
    · omega
    · exfalso
      have hl' := R.lown_lt ⟨s', (hlive s' hst').1 hs', rfl⟩
      simp [hst, hst'] at hr; omega
    · exfalso
      have hl' := R.lown_lt ⟨s, (hlive s hst).1 hs, rfl⟩
      simp [hst, hst'] at hr; omega
    · simp [hst, hst'] at hr
      exact R.inj s s' ((hlive s hst).1 hs) ((hlive s' hst').1 hs') hr
/-- Other contents of a slot's object. -/
theorem Rel.writeX {c : Cfg} (R : Rel c) (s : Nat) (h' : AHeap) (w : World) (es es' : List (List AV)) (o : Obj) (g : Nat → Nat → Value) (n : Nat)
    (hs : c.h[s]? = some (.live 0 es)) (h1 : h'[s]? = some (.live 0 es')) (h2 : ∀ k, k ≠ s → h'[k]? = c.h[k]?)
    (hw1 : w.heap[c.r s]? = some o) (hw2 : ∀ b, b ≠ c.r s → w.heap[b]? = c.w.heap[b]?)
    (ho : w.os = c.w.os) (ht : w.tape = c.w.tape) (hp : w.output = c.w.output) (hsz : w.heap.size = c.w.heap.size)
    (hh : Holds 0 o es' g) (hv : ∀ (i : Nat) (e : List AV), es'[i]? = some e → ∀ (j : Nat) (x : AV), e[j]? = some x → VR c x (g i j)) :
    Rel { c with h := h', w := w } ∧ Ext n c { c with h := h', w := w } := by
  have hlive : ∀ k, (Cfg.live { c with h := h', w := w } k ↔ c.live k) := by
    intro k
    by_cases hk : k = s
    · subst hk; exact ⟨fun _ => ⟨0, es, hs⟩, fun _ => ⟨0, es', h1⟩⟩
    · constructor
      · rintro ⟨a, b, hx⟩; exact ⟨a, b, (h2 k hk) ▸ hx⟩
      · rintro ⟨a, b, hx⟩; exact ⟨a, b, (h2 k hk).symm ▸ hx⟩
  have hl : c.live s := ⟨0, es, hs⟩
  have hsh : ∀ x, c.w.shape? (c.r s) ≠ some x := fun x hx => Nat.lt_irrefl _ (R.pos hs hx)
  have he : ∀ n, Ext n c { c with h := h', w := w } := by
    intro n
    refine ⟨rfl, ho, ht, hp, by simp [hsz], fun k _ hu => ⟨?_, rfl⟩, fun b hb hno => ⟨hw2 b fun e => hno ⟨s, hl, e.symm⟩, fun ⟨k, hk, hkb⟩ => hno ⟨k, (hlive k).1 hk, hkb⟩⟩, fun b x hx => ?_⟩
    · by_cases hk : k = s
      · subst hk; exact ⟨_, h1, by simp⟩
      · obtain ⟨x, hx, hf⟩ := hu; exact ⟨x, (h2 k hk).symm ▸ hx, hf⟩
    · by_cases hb : b = c.r s
      · subst hb; exact absurd hx (hsh x)
      · unfold World.shape? at hx ⊢
        simp only [hw2 b hb]
        exact hx
  refine ⟨R.of_ext (he _) (fun k z' e' hk => ?_) (fun a b ha hb hr => R.inj a b ((hlive a).1 ha) ((hlive b).1 hb) hr), he n⟩
  by_cases hks : k = s
  · subst hks
    have : Slot.live 0 es' = Slot.live z' e' := by simpa [h1] using hk
    cases this
    obtain ⟨a2, _⟩ := R.livx k 0 es hs
    exact .inr ⟨a2, o, g, hw1, hh, fun i e he' j x hx => (he c.h.length).vr' (hv i e he' j x hx)⟩
  · have hk' : c.h[k]? = some (.live z' e') := (h2 k hks) ▸ hk
    refine .inl ⟨hk', rfl, hw2 _ fun e => hks (R.inj k s ⟨_, _, hk'⟩ hl e)⟩
end Go.Eng
