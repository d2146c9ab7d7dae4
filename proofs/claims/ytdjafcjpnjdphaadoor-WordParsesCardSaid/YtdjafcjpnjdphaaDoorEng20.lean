/- The engine, part 20: the same conditions in a form that is reckoned fast: what is not known stands behind a variable, and at each decision, call, loop and reading of a list the reckoning stops. -/
import Derived.Test.YtdjafcjpnjdphaaDoorEng19
set_option linter.unusedVariables false
set_option linter.unusedSimpArgs false
namespace Go.Eng
open Go Go.RowKit

structure Prims where
  bin : BinOp → IntKind → Int → Int → Int
  cmp : BinOp → Int → Int → Bool
  un : UnOp → IntKind → Int → Int
  conv : IntKind → Int → Int
  not : Bool → Bool
  beq : Bool → Bool → Bool
  mm : Bool → Int → Int → Int
  scmp : BinOp → ByteArray → ByteArray → Bool
  sadd : ByteArray → ByteArray → ByteArray
  slen : ByteArray → Int
  sat : ByteArray → Int → Int
  eqs : List AV → List AV → List (Nat × Nat) → Bool
  len : List (List AV) → Int
  nlen : List (List AV) → Nat
  ofNat : Nat → Int
  take : List (List AV) → Int → List (List AV)
  drop : List (List AV) → Int → List (List AV)
  app : List (List AV) → List (List AV) → List (List AV)
  zero : Int → List AV → List (List AV)
  nat : Int → Nat
def binStd (op : BinOp) (k : IntKind) (x y : Int) : Int :=
  match op with
  | .add => k.wrap (x + y)
  | .sub => k.wrap (x - y)
  | .mul => k.wrap (x * y)
  | .quo => k.wrap (x.tdiv y)
  | .rem => x.tmod y
  | .and => k.wrap (BitVec.ofInt k.bits x &&& BitVec.ofInt k.bits y).toNat
  | .or => k.wrap (BitVec.ofInt k.bits x ||| BitVec.ofInt k.bits y).toNat
  | .xor => k.wrap (BitVec.ofInt k.bits x ^^^ BitVec.ofInt k.bits y).toNat
  | .andNot => k.wrap (BitVec.ofInt k.bits x &&& ~~~ BitVec.ofInt k.bits y).toNat
  | .shl => k.wrap (x * 2 ^ (min y.toNat k.bits))
  | .shr => x.fdiv (2 ^ (min y.toNat k.bits))
  | _ => 0
def cmpStd (op : BinOp) (x y : Int) : Bool :=
  match op with
  | .eql => x == y
  | .neq => x != y
  | .lss => decide (x < y)
  | .leq => decide (x ≤ y)
  | .gtr => decide (y < x)
  | .geq => decide (y ≤ x)
  | _ => false
def unStd (op : UnOp) (k : IntKind) (n : Int) : Int :=
  match op with
  | .neg => k.wrap (0 - n)
  | .xor => k.wrap (BitVec.ofInt k.bits (if k.signed then -1 else k.max) ^^^ BitVec.ofInt k.bits n).toNat
  | _ => 0
def scmpStd (op : BinOp) (x y : ByteArray) : Bool :=
  match op with
  | .eql => x.toList == y.toList
  | .neq => !(x.toList == y.toList)
  | .lss => Op.bytesLess x.toList y.toList
  | .leq => Op.bytesLess x.toList y.toList || x.toList == y.toList
  | .gtr => !(Op.bytesLess x.toList y.toList || x.toList == y.toList)
  | .geq => !(Op.bytesLess x.toList y.toList)
  | _ => false
def std : Prims where
  bin := binStd
  cmp := cmpStd
  un := unStd
  conv := fun k n => k.wrap n
  not := fun b => !b
  beq := fun a b => a == b
  mm := maxI
  scmp := scmpStd
  sadd := fun x y => x ++ y
  slen := fun s => s.size
  sat := fun s q => (s.data.toList.getD q.toNat 0).toNat
  eqs := fun a b os => (eqOffs a b os).getD false
  len := fun es => es.length
  nlen := fun es => es.length
  ofNat := fun n => n
  take := fun es b => es.take b.toNat
  drop := fun es a => es.drop a.toNat
  app := fun a b => a ++ b
  zero := fun n z => List.replicate n.toNat z
  nat := fun n => n.toNat

/-- A thing that is owed, and what follows. -/
inductive Ob (c : Unit → Prop) (k : Prop) : Prop where
  | mk (h : c ()) (k : k)
/-- What is owed of numbers that are not known. -/
inductive Nz (y : Int) (k : Prop) : Prop where
  | mk (h : y ≠ 0) (k : k)
inductive Nn (y : Int) (k : Prop) : Prop where
  | mk (h : 0 ≤ y) (k : k)
inductive In (q : Int) (n : Int) (k : Prop) : Prop where
  | mk (h0 : 0 ≤ q) (h1 : q < n) (k : k)
inductive Le (q : Int) (n : Int) (k : Prop) : Prop where
  | mk (h : q ≤ n) (k : k)
inductive EqN (q : Nat) (n : Nat) (k : Prop) : Prop where
  | mk (h : q = n) (k : k)
inductive EqK (q : IntKind) (n : IntKind) (k : Prop) : Prop where
  | mk (h : q = n) (k : k)
/-- A decision. -/
def br (b : Bool) (p q : Prop) : Prop := match b with | true => p | false => q
theorem br_intro {b : Bool} {p q : Prop} (h1 : b = true → p) (h2 : b = false → q) : (match b with | true => p | false => q) := by
  cases b
  · exact h2 rfl
  · exact h1 rfl
theorem br_iff {b : Bool} {p q : Prop} (h : br b p q) : (b = true → p) ∧ (b = false → q) := by
  cases b
  · exact ⟨fun h => (by cases h), fun _ => h⟩
  · exact ⟨fun _ => h, fun h => (by cases h)⟩
/-- A list is read at some place: the row is to be told. -/
inductive Idx (es : List (List AV)) (q : Int) (K : List AV → Prop) : Prop where
  | mk (row : List AV) (h0 : 0 ≤ q) (h : es[q.toNat]? = some row) (k : K row)
/-- The rest as it stands. -/
inductive Fb (k : Unit → Prop) : Prop where
  | mk (h : k ())
inductive Ret (l : List AV) (h : AHeap) (R : AV → Prop) : Prop where
  | mk (r : AV) (hv : Vw h (retOne l) r) (hR : R r)
inductive Call (P : Program) (g : FuncId) (args : List AV) (h : AHeap) (K : AV → AHeap → Prop) : Prop where
  | mk (c : ACall P g args h K)
inductive QCal (P : Program) (g : FuncId) (args : List AV) (h0 : AHeap) (K : AV → Prop) : Prop where
  | mk (c : HCall P g args h0 K)
inductive Loop (P : Program) (n : Nat) (c : ACode) (Q : APost) (a : AAct) (h : AHeap) : Prop where
  | mk (c : ALoop P n c Q a h)

def kindEq : IntKind → IntKind → Bool
  | .i8, .i8 => true
  | .i16, .i16 => true
  | .i32, .i32 => true
  | .i64, .i64 => true
  | .u8, .u8 => true
  | .u16, .u16 => true
  | .u32, .u32 => true
  | .u64, .u64 => true
  | _, _ => false
theorem kindEq_spec {a b : IntKind} (h : kindEq a b = true) : a = b := by cases a <;> cases b <;> first | rfl | cases h

variable (w : Prims)
def arithB : BinOp → Bool
  | .add => true
  | .sub => true
  | .mul => true
  | .and => true
  | .or => true
  | .xor => true
  | .andNot => true
  | _ => false
def cmpB : BinOp → Bool
  | .eql => true
  | .neq => true
  | .lss => true
  | .leq => true
  | .gtr => true
  | .geq => true
  | _ => false
def mmX (isMax : Bool) (ev : AOpnd → AV) : AV → List AOpnd → Option AV
  | v, [] => some v
  | .int k x, y :: ys =>
    match ev y with
    | .int k' y => match kindEq k k' with | true => mmX isMax ev (.int k (w.mm isMax x y)) ys | false => none
    | _ => none
  | _, _ => none
def binX (op : BinOp) (k k' : IntKind) (x y : Int) (K : Res → Prop) : Prop :=
  match AOp.isShift op with
  | true => Nn y (K (.val (.int k (w.bin op k x y))))
  | false =>
    match kindEq k' k with
    | false => False
    | true =>
      match arithB op with
      | true => K (.val (.int k (w.bin op k x y)))
      | false =>
        match cmpB op with
        | true => K (.val (.bool (w.cmp op x y)))
        | false =>
          match op with
          | .quo => Nz y (K (.val (.int k (w.bin .quo k x y))))
          | .rem => Nz y (K (.val (.int k (w.bin .rem k x y))))
          | _ => False
def binSX (op : BinOp) (x y : ByteArray) (K : Res → Prop) : Prop :=
  match cmpB op with
  | true => K (.val (.bool (w.scmp op x y)))
  | false => match op with
    | .add => Le (w.slen (w.sadd x y)) 9223372036854775807 (K (.val (.str (w.sadd x y))))
    | _ => False
/-- Whether two rows of cells can be held against each other. -/
def eqCan : Nat → AV → AV → Bool
  | 0, .bool _, .bool _ => true
  | 1, .int k _, .int k' _ => kindEq k k'
  | 2, .str _, .str _ => true
  | _, _, _ => false
def eqCans (xs ys : List AV) : List (Nat × Nat) → Bool
  | [] => true
  | (o, q) :: os => match eqCan q (xs.getD o .any) (ys.getD o .any) with | true => eqCans xs ys os | false => false

def vcOpX (o : AOp) (ev : AOpnd → AV) (h : AHeap) (fb : Unit → Prop) (K : Res → Prop) : Prop :=
  match o with
  | .mv x => K (.val (ev x))
  | .pick c a b => (match ev c with | .bool t => br t (K (.val (ev a))) (K (.val (ev b))) | _ => False)
  | .new z e => K (.new none z [e])
  | .box z x => (match (ev x).cellsOf with | some cs => (match Nat.beq cs.length z, cellsOk cs with | true, true => K (.new none z [cs]) | _, _ => False) | none => False)
  | .build zero ps => (match fillA ev zero ps with | some cs => K (.val (.agg cs)) | none => False)
  | .bslice z n zero ps => (match fillA ev (List.replicate n zero).flatten ps with | some cs => K (.val (.list z (chunks z n cs))) | none => False)
  | .load g k a =>
    (match ev a with
    | .ref s z i o => (match h[s]? with
      | some (.live z' es) => (match Nat.beq z' z, es, Nat.beq i 0, Nat.ble (o + k) z with | true, [row], true, true => K (.val (partA g k row o)) | _, _, _, _ => False)
      | _ => False)
    | .cref cs => (match Nat.ble k cs.length with | true => K (.val (partA g k cs 0)) | false => False)
    | _ => False)
  | .store k a x =>
    (match ev a with
    | .ref s z i o => (match h[s]? with
      | some (.live z' es) => (match (ev x).cellsOf with
        | some cs => (match Nat.beq z' z, es, Nat.beq i 0, Nat.beq cs.length k, Nat.ble (o + k) z, cellsOk cs with
          | true, [row], true, true, true, true => K (.upd s z [splice row o cs])
          | _, _, _, _, _, _ => False)
        | none => False)
      | _ => False)
    | _ => False)
  | .nilc x =>
    (match ev x with
    | .ref s z i o => K (.val (.ref s z i o))
    | .cref cs => K (.val (.cref cs))
    | .func (.func f) a b => K (.val (.func (.func f) a b))
    | .iface t v => K (.val (.iface t v))
    | _ => False)
  | .bin op x y =>
    (match ev x, ev y with
    | .int k a, .int k' b => binX w op k k' a b K
    | .str a, .str b => binSX w op a b K
    | _, _ => False)
  | .eqb neq x y => (match ev x, ev y with | .bool a, .bool b => K (.val (.bool (match neq with | true => w.not (w.beq a b) | false => w.beq a b))) | _, _ => False)
  | .mvs x => (match ev x with | .str s => K (.val (.str s)) | _ => False)
  | .eqs neq n os x y =>
    (match ev x, ev y with
    | .agg a, .agg b => (match Nat.beq a.length n, Nat.beq b.length n, eqCans a b os with
      | true, true, true => K (.val (.bool (match neq with | true => w.not (w.eqs a b os) | false => w.eqs a b os)))
      | _, _, _ => False)
    | _, _ => False)
  | .un op x =>
    (match op, ev x with
    | .neg, .int k n => K (.val (.int k (w.un .neg k n)))
    | .not, .bool b => K (.val (.bool (w.not b)))
    | .xor, .int k n => K (.val (.int k (w.un .xor k n)))
    | _, _ => False)
  | .conv k x => (match ev x with | .int _ n => K (.val (.int k (w.conv k n))) | _ => False)
  | .fadr off x =>
    (match ev x with
    | .ref s z i o => K (.val (.ref s z i (o + off)))
    | .cref cs => K (.val (.cref (cs.drop off)))
    | _ => False)
  | .fld g off k x => (match ev x with | .agg cs => (match Nat.ble (off + k) cs.length with | true => K (.val (partA g k cs off)) | false => False) | _ => False)
  | .iadS z x i =>
    (match ev x, ev i with
    | .list z' es, .int _ q => (match Nat.beq z' z with | true => Idx es q (fun row => K (.val (.cref row))) | false => False)
    | _, _ => Fb fb)
  | .lenx x =>
    (match ev x with
    | .list _ es => K (.val (.int .i64 (w.len es)))
    | .sl _ _ _ n => K (.val (.int .i64 (w.ofNat n)))
    | .nils => K (.val (.int .i64 (w.ofNat 0)))
    | .emp => K (.val (.int .i64 (w.ofNat 0)))
    | _ => False)
  | .lens x => (match ev x with | .str s => K (.val (.int .i64 (w.slen s))) | _ => False)
  | .lenc n => K (.val (.int .i64 (w.ofNat n)))
  | .mm isMax x xs => (match mmX w isMax ev (ev x) xs with | some v => K (.val v) | none => False)
  | .app z bytes x y =>
    (match ev y with
    | .list z' [row] =>
      (match ev x, Nat.beq z' z, cellsOk row with
      | .nils, true, _ => Ob (fun _ => 1 * bytes ≤ 140737488355328) (K (.new (some 1) z [row]))
      | .emp, _, _ => Fb fb
      | .sl s z'' i n, true, true => (match h[s]?, Nat.beq z'' z, Nat.beq i 0 with
        | some (.live ww es), true, true => (match Nat.beq ww z with
          | true => Ob (fun _ => n = es.length ∧ es.length + 1 ≤ 9223372036854775807 ∧ (es.length + 1) * bytes ≤ 140737488355328) (K (.repl s z (w.app es [row])))
          | false => False)
        | _, _, _ => False)
      | _, _, _ => False)
    | _ => Fb fb)
  | .slc z x lo hi =>
    (match ev x with
    | .list z' es =>
      (match Nat.beq z' z, lo.map ev, hi.map ev with
      | true, none, some (.int _ b) => Nn b (Le b (w.len es) (K (.val (.list z (w.take es b)))))
      | true, some (.int _ a), none => Nn a (Le a (w.len es) (K (.val (.list z (w.drop es a)))))
      | true, some (.int _ a), some (.int _ b) => Nn a (Le a b (Le b (w.len es) (K (.val (.list z (w.drop (w.take es b) a))))))
      | true, none, none => K (.val (.list z es))
      | _, _, _ => False)
    | _ => Fb fb)
  | .ext x i => (match ev x with | .tuple vs => (match Nat.ble (i + 1) vs.length with | true => K (.val (vs.getD i .any)) | false => False) | _ => False)
  | .mkf fn first caps => K (.val (.func fn (evs ev first) (evs ev caps)))
  | .bemp => K (.val .emp)
  | _ => Fb fb
end Go.Eng
