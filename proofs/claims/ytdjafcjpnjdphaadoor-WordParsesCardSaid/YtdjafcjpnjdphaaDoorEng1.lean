/- The engine, part 1: operations with their types resolved, what they do to pure values, and how the model's operations are turned into them. -/
import Derived.Test.YtdjafcjpnjdphaaDoorEng0
set_option linter.unusedVariables false
set_option linter.unusedSimpArgs false
namespace Go.Eng
open Go Go.RowKit

inductive AOpnd where
  | tmp (t : Nat)
  | const (v : AV)
  | func (f : FuncId)

inductive AOp where
  | mv (x : AOpnd)
  | pick (c a b : AOpnd)
  | new (z : Nat) (e : List AV)
  | box (z : Nat) (x : AOpnd)
  | build (zero : List AV) (ps : List (Nat × Nat × AOpnd))
  | bslice (z n : Nat) (zero : List AV) (ps : List (Nat × Nat × AOpnd))
  | load (g : Bool) (k : Nat) (a : AOpnd)
  | store (k : Nat) (a x : AOpnd)
  | nilc (x : AOpnd)
  | bin (op : BinOp) (x y : AOpnd)
  | eqb (neq : Bool) (x y : AOpnd)
  | mvs (x : AOpnd)
  | eqs (neq : Bool) (n : Nat) (os : List (Nat × Nat)) (x y : AOpnd)
  | un (op : UnOp) (x : AOpnd)
  | conv (k : IntKind) (x : AOpnd)
  | fadr (off : Nat) (x : AOpnd)
  | fld (g : Bool) (off k : Nat) (x : AOpnd)
  | iadA (n z : Nat) (x i : AOpnd)
  | iadS (z : Nat) (x i : AOpnd)
  | idx (g : Bool) (n k : Nat) (x i : AOpnd)
  | idxStr (x i : AOpnd)
  | lenx (x : AOpnd)
  | lens (x : AOpnd)
  | lenc (n : Nat)
  | mm (isMax : Bool) (x : AOpnd) (xs : List AOpnd)
  | app (z bytes : Nat) (x y : AOpnd)
  | slc (z : Nat) (x : AOpnd) (lo hi : Option AOpnd)
  | mk (z bytes : Nat) (zero : List AV) (l c : AOpnd)
  | ext (x : AOpnd) (i : Nat)
  | mkf (fn : Fn) (first caps : List AOpnd)
  | call (f : AOpnd) (xs : List AOpnd)
  | mkm
  | look (g : Bool) (n : Nat) (os : List (Nat × Nat)) (zero : AV) (ok : Bool) (x k : AOpnd)
  | mput (g : Bool) (n : Nat) (os : List (Nat × Nat)) (x k v : AOpnd)
  | slcS (x : AOpnd) (lo hi : Option AOpnd)
  | toS (x : AOpnd)
  | bemp
  | ofS (x : AOpnd)
  | xop (o : Op) (ty : TypeId) (xs : List AOpnd)

structure AOper where
  dst : Option Nat
  op : AOp
  guard : Option (Nat × Bool)

/-- What an operation comes to: a value; a new row in a slot of its own; other contents of a slot; a row that is gone over into another slot. -/
inductive Res where
  | val (v : AV)
  | new (sl : Option Nat) (z : Nat) (es : List (List AV))
  | upd (s z : Nat) (es : List (List AV))
  | repl (s z : Nat) (es : List (List AV))

def Res.at (t : Nat) : Res → AV
  | .val v => v
  | .new none z _ => .ref t z 0 0
  | .new (some n) z _ => (match Nat.beq z 0 with | true => .mapr t | false => .sl t z 0 n)
  | .upd _ _ _ => .undef
  | .repl _ z es => .sl t z 0 es.length
/-- The heap behind it, with t for the slot of its own. -/
def Res.heap (t : Nat) (h h' : AHeap) : Res → Prop
  | .val _ => h' = h
  | .new _ z es => h'[t]? = some (.live z es) ∧ ∀ s x, s ≠ t → x ≠ .free → (h'[s]? = some x ↔ h[s]? = some x)
  | .upd s z es => h' = h.set s (.live z es)
  | .repl s z es => h'[t]? = some (.live z es) ∧ (s < h.length → h'[s]? = some .dead) ∧ ∀ k x, k ≠ t → k ≠ s → x ≠ .free → (h'[k]? = some x ↔ h[k]? = some x)
/-- The same behind all slots there are. -/
def Res.push (h : AHeap) : Res → AHeap
  | .val _ => h
  | .new _ z es => h ++ [.live z es]
  | .upd s z es => h.set s (.live z es)
  | .repl s z es => h.set s .dead ++ [.live z es]

def AV.isCell : AV → Bool
  | .any => false
  | .agg _ => false
  | .tuple _ => false
  | _ => true
def cellsOk : List AV → Bool
  | [] => true
  | c :: cs => c.isCell && cellsOk cs
/-- A value's cells, if they are known. -/
def AV.cellsOf : AV → Option (List AV)
  | .any => none
  | .agg cs => some cs
  | v => some [v]
def partA (g : Bool) (k : Nat) (cs : List AV) (o : Nat) : AV := if g then .agg ((cs.drop o).take k) else cs.getD o .any
def splice (row : List AV) (o : Nat) (cs : List AV) : List AV := row.take o ++ cs ++ row.drop (o + cs.length)
def fillA (ev : AOpnd → AV) : List AV → List (Nat × Nat × AOpnd) → Option (List AV)
  | cs, [] => some cs
  | cs, (o, k, x) :: ps =>
    match (ev x).cellsOf with
    | some xs => if xs.length = k ∧ o + k ≤ cs.length ∧ cellsOk xs = true then fillA ev (splice cs o xs) ps else none
    | none => none
def chunks (z : Nat) : Nat → List AV → List (List AV)
  | 0, _ => []
  | n + 1, l => l.take z :: chunks z n (l.drop z)
def rowsOk : List (List AV) → Bool
  | [] => true
  | e :: es => cellsOk e && rowsOk es
def maxI (isMax : Bool) (x y : Int) : Int := if isMax then (if y > x then y else x) else (if y < x then y else x)
def mmA (isMax : Bool) (ev : AOpnd → AV) : AV → List AOpnd → Option AV
  | v, [] => some v
  | .int k x, y :: ys =>
    match ev y with
    | .int k' y => if k = k' then mmA isMax ev (.int k (maxI isMax x y)) ys else none
    | _ => none
  | _, _ => none
def evs (ev : AOpnd → AV) (xs : List AOpnd) : List AV := xs.map ev

/-- Numbers. -/
def binI (op : BinOp) (k : IntKind) (x y : Int) (K : Res → Prop) : Prop :=
  match op with
  | .add => K (.val (.int k (k.wrap (x + y))))
  | .sub => K (.val (.int k (k.wrap (x - y))))
  | .mul => K (.val (.int k (k.wrap (x * y))))
  | .quo => y ≠ 0 ∧ K (.val (.int k (k.wrap (x.tdiv y))))
  | .rem => y ≠ 0 ∧ K (.val (.int k (x.tmod y)))
  | .and => K (.val (.int k (k.wrap (BitVec.ofInt k.bits x &&& BitVec.ofInt k.bits y).toNat)))
  | .or => K (.val (.int k (k.wrap (BitVec.ofInt k.bits x ||| BitVec.ofInt k.bits y).toNat)))
  | .xor => K (.val (.int k (k.wrap (BitVec.ofInt k.bits x ^^^ BitVec.ofInt k.bits y).toNat)))
  | .andNot => K (.val (.int k (k.wrap (BitVec.ofInt k.bits x &&& ~~~ BitVec.ofInt k.bits y).toNat)))
  | .eql => K (.val (.bool (x == y)))
  | .neq => K (.val (.bool (x != y)))
  | .lss => K (.val (.bool (decide (x < y))))
  | .leq => K (.val (.bool (decide (x ≤ y))))
  | .gtr => K (.val (.bool (decide (y < x))))
  | .geq => K (.val (.bool (decide (y ≤ x))))
  | _ => False
def shiftI (op : BinOp) (k : IntKind) (x y : Int) (K : Res → Prop) : Prop :=
  match op with
  | .shl => 0 ≤ y ∧ K (.val (.int k (k.wrap (x * 2 ^ (min y.toNat k.bits)))))
  | .shr => 0 ≤ y ∧ K (.val (.int k (x.fdiv (2 ^ (min y.toNat k.bits)))))
  | _ => False
def binS (op : BinOp) (x y : ByteArray) (K : Res → Prop) : Prop :=
  match op with
  | .add => ((x.size + y.size : Nat) : Int) ≤ 9223372036854775807 ∧ K (.val (.str (x ++ y)))
  | .eql => K (.val (.bool (x.toList == y.toList)))
  | .neq => K (.val (.bool (!(x.toList == y.toList))))
  | .lss => K (.val (.bool (Op.bytesLess x.toList y.toList)))
  | .leq => K (.val (.bool (Op.bytesLess x.toList y.toList || x.toList == y.toList)))
  | .gtr => K (.val (.bool (!(Op.bytesLess x.toList y.toList || x.toList == y.toList))))
  | .geq => K (.val (.bool (!(Op.bytesLess x.toList y.toList))))
  | _ => False
def AOp.isShift : BinOp → Bool
  | .shl => true
  | .shr => true
  | _ => false
/-- Two cells: whether they are the same (0: bools, 1: numbers, 2: texts). -/
def eqA : Nat → AV → AV → Option Bool
  | 0, .bool a, .bool b => some (a == b)
  | 1, .int k a, .int k' b => if k = k' then some (a == b) else none
  | 2, .str a, .str b => some (a.toList == b.toList)
  | _, _, _ => none
def eqOffs (xs ys : List AV) : List (Nat × Nat) → Option Bool
  | [] => some true
  | (o, q) :: os =>
    match eqA q (xs.getD o .any) (ys.getD o .any), eqOffs xs ys os with
    | some a, some b => some (a && b)
    | _, _ => none
/-- A key's cells. -/
def keyCells (g : Bool) (n : Nat) (v : AV) : Option (List AV) :=
  match g with
  | true => (match v with | .agg cs => if cs.length = n then some cs else none | _ => none)
  | false => if n = 1 ∧ v.isCell = true then some [v] else none
/-- Two keys: whether they are the same. -/
def keyEq (g : Bool) (n : Nat) (os : List (Nat × Nat)) (a b : AV) : Option Bool :=
  match keyCells g n a, keyCells g n b with
  | some xs, some ys => eqOffs xs ys os
  | _, _ => none
/-- A map's entry for a key, if the keys can be told apart. -/
def findR (g : Bool) (n : Nat) (os : List (Nat × Nat)) : List (List AV) → AV → Option (Option AV)
  | [], _ => some none
  | e :: es, k => (match e with
    | [k', v] => (match keyEq g n os k k' with
      | some true => some (some v)
      | some false => findR g n os es k
      | none => none)
    | _ => none)
/-- A map's entries behind a store. -/
def putR (g : Bool) (n : Nat) (os : List (Nat × Nat)) : List (List AV) → AV → AV → Option (List (List AV))
  | [], k, v => some [[k, v]]
  | e :: es, k, v => (match e with
    | [k', v'] => (match keyEq g n os k k' with
      | some true => some ([k, v] :: es)
      | some false => (match putR g n os es k v with | some r => some ([k', v'] :: r) | none => none)
      | none => none)
    | _ => none)
def lookV (ok : Bool) (zero : AV) : Option AV → AV
  | some v => if ok then .tuple [v, .bool true] else v
  | none => if ok then .tuple [zero, .bool false] else zero
/-- A string's bytes, as rows. -/
def bytesRows (s : ByteArray) : List (List AV) := s.data.toList.map fun b => [.int .u8 (b.toNat : Int)]
def vcOp (o : AOp) (ev : AOpnd → AV) (h : AHeap) (K : Res → Prop) : Prop :=
  match o with
  | .mv x => K (.val (ev x))
  | .pick c a b => (match ev c with | .bool t => K (.val (if t then ev a else ev b)) | _ => False)
  | .new z e => K (.new none z [e])
  | .box z x => (match (ev x).cellsOf with | some cs => (cs.length = z ∧ cellsOk cs = true) ∧ K (.new none z [cs]) | none => False)
  | .build zero ps => (match fillA ev zero ps with | some cs => K (.val (.agg cs)) | none => False)
  | .bslice z n zero ps => (match fillA ev (List.replicate n zero).flatten ps with | some cs => K (.val (.list z (chunks z n cs))) | none => False)
  | .load g k a =>
    (match ev a with
    | .ref s z i o => (match h[s]? with | some (.live z' es) => (z' = z ∧ i < es.length ∧ o + k ≤ z) ∧ K (.val (partA g k (es.getD i []) o)) | _ => False)
    | .cref cs => k ≤ cs.length ∧ K (.val (partA g k cs 0))
    | _ => False)
  | .store k a x =>
    (match ev a with
    | .ref s z i o => (match h[s]? with
      | some (.live z' es) => (match (ev x).cellsOf with
        | some cs => (z' = z ∧ i < es.length ∧ cs.length = k ∧ o + k ≤ z ∧ cellsOk cs = true) ∧ K (.upd s z (es.set i (splice (es.getD i []) o cs)))
        | none => False)
      | _ => False)
    | _ => False)
  | .nilc x =>
    (match ev x with
    | .ref s z i o => K (.val (.ref s z i o))
    | .cref cs => K (.val (.cref cs))
    | .func (.func f) a b => K (.val (.func (.func f) a b))
    | .iface t v => K (.val (.iface t v))
    | _ => False)
  | .bin op x y =>
    (match ev x, ev y with
    | .int k a, .int k' b => if AOp.isShift op then shiftI op k a b K else k' = k ∧ binI op k a b K
    | .str a, .str b => binS op a b K
    | _, _ => False)
  | .eqb neq x y => (match ev x, ev y with | .bool a, .bool b => K (.val (.bool (if neq then !(a == b) else (a == b)))) | _, _ => False)
  | .mvs x => (match ev x with | .str s => K (.val (.str s)) | _ => False)
  | .eqs neq n os x y =>
    (match ev x, ev y with
    | .agg a, .agg b => (a.length = n ∧ b.length = n) ∧ (match eqOffs a b os with | some t => K (.val (.bool (if neq then !t else t))) | none => False)
    | _, _ => False)
  | .un op x =>
    (match op, ev x with
    | .neg, .int k n => K (.val (.int k (k.wrap (0 - n))))
    | .not, .bool b => K (.val (.bool !b))
    | .xor, .int k n => K (.val (.int k (k.wrap (BitVec.ofInt k.bits (if k.signed then -1 else k.max) ^^^ BitVec.ofInt k.bits n).toNat)))
    | _, _ => False)
  | .conv k x => (match ev x with | .int _ n => K (.val (.int k (k.wrap n))) | _ => False)
  | .fadr off x =>
    (match ev x with
    | .ref s z i o => K (.val (.ref s z i (o + off)))
    | .cref cs => K (.val (.cref (cs.drop off)))
    | _ => False)
  | .fld g off k x => (match ev x with | .agg cs => off + k ≤ cs.length ∧ K (.val (partA g k cs off)) | _ => False)
  | .iadA n z x i =>
    (match ev x, ev i with
    | .ref s z' j o, .int _ q => (0 ≤ q ∧ q < n) ∧ K (.val (.ref s z' j (o + q.toNat * z)))
    | .cref cs, .int _ q => (0 ≤ q ∧ q < n) ∧ K (.val (.cref (cs.drop (q.toNat * z))))
    | _, _ => False)
  | .iadS z x i =>
    (match ev x, ev i with
    | .list z' es, .int _ q => (z' = z ∧ 0 ≤ q ∧ q < es.length) ∧ K (.val (.cref (es.getD q.toNat [])))
    | .sl s z' j n, .int _ q => (z' = z ∧ 0 ≤ q ∧ q < n) ∧ K (.val (.ref s z (j + q.toNat) 0))
    | _, _ => False)
  | .idx g n k x i => (match ev x, ev i with | .agg cs, .int _ q => (0 ≤ q ∧ q < n ∧ n * k ≤ cs.length) ∧ K (.val (partA g k cs (q.toNat * k))) | _, _ => False)
  | .idxStr x i => (match ev x, ev i with | .str s, .int _ q => (0 ≤ q ∧ q < s.size) ∧ K (.val (.int .u8 (s.data.toList.getD q.toNat 0).toNat)) | _, _ => False)
  | .lenx x =>
    (match ev x with
    | .list _ es => K (.val (.int .i64 es.length))
    | .sl _ _ _ n => K (.val (.int .i64 n))
    | .nils => K (.val (.int .i64 (0 : Nat)))
    | .emp => K (.val (.int .i64 (0 : Nat)))
    | _ => False)
  | .lens x => (match ev x with | .str s => K (.val (.int .i64 s.size)) | _ => False)
  | .lenc n => K (.val (.int .i64 n))
  | .mm isMax x xs => (match mmA isMax ev (ev x) xs with | some v => K (.val v) | none => False)
  | .app z bytes x y =>
    (match ev y with
    | .nils => (match ev x with | .nils => K (.val .nils) | .sl s z' i n => K (.val (.sl s z' i n)) | _ => False)
    | .list z' new =>
      (match ev x with
      | .emp => (new = [] → K (.val .emp)) ∧ (new ≠ [] → (z' = z ∧ new.length ≤ 9223372036854775807 ∧ new.length * bytes ≤ 140737488355328) ∧ K (.new (some new.length) z new))
      | .nils => (new = [] → K (.val .nils)) ∧ (new ≠ [] → (z' = z ∧ new.length ≤ 9223372036854775807 ∧ new.length * bytes ≤ 140737488355328) ∧ K (.new (some new.length) z new))
      | .sl s z'' i n => (match h[s]? with
        | some (.live w es) => (new = [] → K (.val (.sl s z'' i n)) ∨ ((z'' = z ∧ w = z ∧ i = 0 ∧ n = es.length) ∧ K (.repl s z es))) ∧
            (new ≠ [] → (z' = z ∧ z'' = z ∧ w = z ∧ i = 0 ∧ n = es.length ∧ rowsOk new = true ∧ es.length + new.length ≤ 9223372036854775807 ∧ (es.length + new.length) * bytes ≤ 140737488355328) ∧ K (.repl s z (es ++ new)))
        | _ => False)
      | _ => False)
    | _ => False)
  | .slc z x lo hi =>
    (match ev x with
    | .list z' es =>
      (match lo.map ev, hi.map ev with
      | none, some (.int _ b) => (z' = z ∧ 0 ≤ b ∧ b ≤ es.length) ∧ K (.val (.list z (es.take b.toNat)))
      | some (.int _ a), none => (z' = z ∧ 0 ≤ a ∧ a ≤ es.length) ∧ K (.val (.list z (es.drop a.toNat)))
      | some (.int _ a), some (.int _ b) => (z' = z ∧ 0 ≤ a ∧ a ≤ b ∧ b ≤ es.length) ∧ K (.val (.list z ((es.take b.toNat).drop a.toNat)))
      | none, none => z' = z ∧ K (.val (.list z es))
      | _, _ => False)
    | _ => False)
  | .mk z bytes zero l c =>
    (match ev l, ev c with
    | .int .i64 l, .int .i64 c => (0 ≤ l ∧ l ≤ c ∧ c ≤ 9223372036854775807 ∧ c * bytes ≤ 140737488355328) ∧ K (.new (some l.toNat) z (List.replicate l.toNat zero))
    | _, _ => False)
  | .ext x i => (match ev x with | .tuple vs => i < vs.length ∧ K (.val (vs.getD i .any)) | _ => False)
  | .mkf fn first caps => K (.val (.func fn (evs ev first) (evs ev caps)))
  | .call _ _ => False
  | .mkm => K (.new (some 0) 0 [])
  | .look g n os zero ok x k =>
    (match ev x with
    | .mapr s => (match h[s]? with
      | some (.live 0 es) => (match keyCells g n (ev k), findR g n os es (ev k) with
        | some _, some r => K (.val (lookV ok zero r))
        | _, _ => False)
      | _ => False)
    | _ => False)
  | .mput g n os x k v =>
    (match ev x with
    | .mapr s => (match h[s]? with
      | some (.live 0 es) => (match keyCells g n (ev k), putR g n os es (ev k) (ev v) with
        | some _, some fs => K (.upd s 0 fs)
        | _, _ => False)
      | _ => False)
    | _ => False)
  | .slcS x lo hi =>
    (match ev x with
    | .str s =>
      (match lo.map ev, hi.map ev with
      | none, some (.int _ b) => (0 ≤ b ∧ b ≤ s.size) ∧ K (.val (.str (s.extract 0 b.toNat)))
      | some (.int _ a), none => (0 ≤ a ∧ a ≤ s.size) ∧ K (.val (.str (s.extract a.toNat s.size)))
      | some (.int _ a), some (.int _ b) => (0 ≤ a ∧ a ≤ b ∧ b ≤ s.size) ∧ K (.val (.str (s.extract a.toNat b.toNat)))
      | none, none => K (.val (.str (s.extract 0 s.size)))
      | _, _ => False)
    | _ => False)
  | .toS x =>
    (match ev x with
    | .list z es => ∃ s, (z = 1 ∧ es = bytesRows s) ∧ K (.val (.str s))
    | .sl q z i n => (match h[q]? with | some (.live z' es) => ∃ s, (z = 1 ∧ z' = 1 ∧ i + n ≤ es.length ∧ (es.drop i).take n = bytesRows s) ∧ K (.val (.str s)) | _ => False)
    | .nils => K (.val (.str .empty))
    | .emp => K (.val (.str .empty))
    | _ => False)
  | .bemp => K (.val .emp)
  | .ofS x => (match ev x with | .str s => K (.new (some s.size) 1 (bytesRows s)) | _ => False)
  | .xop _ _ _ => False

/-! ### From the model's operations -/
def AV.ofCell : Value → AV
  | .bool b => .bool b
  | .int k n => .int k n
  | .string s => .str s
  | .pointer none => .nilp
  | .slice none 0 0 => .nils
  | .nilFunc => .nilFunc
  | .nilIface => .nilIface
  | _ => .any
def AV.ofVal : Value → AV
  | .agg cs => .agg (cs.toList.map AV.ofCell)
  | .tuple cs => .tuple (cs.toList.map AV.ofCell)
  | v => AV.ofCell v
def gsGet : List (Nat × List AV) → Nat → Option (List AV)
  | [], _ => none
  | (k, cs) :: l, g => (match Nat.beq k g with | true => some cs | false => gsGet l g)
def cOpnd : Operand → Option AOpnd
  | .tmp t => some (.tmp t)
  | .const v => some (.const (AV.ofVal v))
  | .func f => some (.func f)
  | .global g => (match gsGet gs g with | some cs => some (.const (.cref cs)) | none => none)
def cOpnds : List Operand → Option (List AOpnd)
  | [] => some []
  | x :: xs =>
    match cOpnd x, cOpnds xs with
    | some y, some ys => some (y :: ys)
    | _, _ => none
def cOpt : Option Operand → Option (Option AOpnd)
  | none => some none
  | some x => (cOpnd x).map some
def cFill (sz : Nat → Option (Nat × Nat)) : List (Nat × Operand) → Option (List (Nat × Nat × AOpnd))
  | [] => some []
  | (i, x) :: ps =>
    match sz i, cOpnd x, cFill sz ps with
    | some (o, k), some y, some r => some ((o, k, y) :: r)
    | _, _, _ => none
variable (P : Program)
def szOf (t : TypeId) : Option Nat := (P.info? t).map (·.size)
def aggOf (t : TypeId) : Option Bool :=
  match P.underlying t with
  | some (.struct _) => some true
  | some (.array _ _) => some true
  | some _ => some false
  | none => none
def zeroOf (t : TypeId) : Option (List AV) :=
  match P.info? t with
  | some i => (match i.zero with | some z => some (z.cells.toList.map AV.ofCell) | none => none)
  | none => none
def arrFits (t : TypeId) (n k : Nat) : Bool := match szOf P t with | some K => decide (n * k ≤ K) | none => false
def strFits (t : TypeId) (fs : List Field) : Bool := fs.all fun f => match szOf P f.type, szOf P t with | some k, some K => decide (f.offset + k ≤ K) | _, _ => false
/-- The places of a type's cells, if they are numbers, texts and bools alone. -/
def shiftO (n : Nat) (l : List (Nat × Nat)) : List (Nat × Nat) := l.map fun p => (n + p.1, p.2)
def leavesF (L : TypeId → Option (List (Nat × Nat))) : List Field → Option (List (Nat × Nat))
  | [] => some []
  | f :: fs =>
    match L f.type, leavesF L fs with
    | some a, some b => if f.name ≠ "_" then some (shiftO f.offset a ++ b) else none
    | _, _ => none
def leaves : Nat → TypeId → Option (List (Nat × Nat))
  | 0, _ => none
  | m + 1, t =>
    match P.underlying t with
    | some .bool => some [(0, 0)]
    | some (.int _) => some [(0, 1)]
    | some .string => some [(0, 2)]
    | some (.struct fs) => if P.stoodInHeld t = false ∧ strFits P t fs.toList = true then leavesF (fun u => match leaves m u, szOf P u with | some os, some k => if os.all (fun o => decide (o.1 < k)) = true ∧ (aggOf P u = some true ∨ k = 1) then some os else none | _, _ => none) fs.toList else none
    | some (.array n e) =>
      (match leaves m e, szOf P e with
      | some os, some k => if os.all (fun o => decide (o.1 < k)) = true ∧ (aggOf P e = some true ∨ k = 1) ∧ arrFits P t n k = true then some ((List.range n).flatMap fun i => shiftO (i * k) os) else none
      | _, _ => none)
    | _ => none
def placesOf (fs : Array Field) : Option (List (Nat × Nat)) := fs.toList.mapM (fun f => (P.info? f.type).map fun i => (f.offset, i.size))
def fieldIn (s : TypeId) (f : Nat) : Option (Nat × Nat × Bool) :=
  match P.underlying s with
  | some (.struct fs) =>
    match fs[f]? with
    | some f =>
      match szOf P f.type, aggOf P f.type with
      | some k, some g => some (f.offset, k, g)
      | _, _ => none
    | none => none
  | _ => none
/-- Is it the length of a map that is asked? Its operand. -/
def lenMap (c : Call) : Option AOpnd :=
  match c.callee, c.args.toList, c.argTypes.toList with
  | .builtin .len, [x], [t] => (match P.underlying t with | some (.map _ _) => cOpnd x | _ => none)
  | _, _, _ => none
/-- The builtin copy. -/
def copyOf (c : Call) : Option (List AOpnd) :=
  match c.callee, c.args.toList with
  | .builtin .copy, [x, y] => cOpnds [x, y]
  | _, _ => none
def compileCall (c : Call) (type : TypeId) : Option AOp :=
  match c.callee with
  | .value f => (match cOpnd f, cOpnds c.args.toList with | some g, some xs => some (.call g xs) | _, _ => none)
  | .invoke _ _ => none
  | .builtin b =>
    match b, c.args.toList, c.argTypes.toList with
    | .len, [x], [t] =>
      (match P.underlying t with
      | some (.array n _) => some (.lenc n)
      | some (.slice _) => (cOpnd x).map .lenx
      | some .string => (cOpnd x).map .lens
      | _ => none)
    | .max, x :: xs, _ => (match cOpnd x, cOpnds xs with | some y, some ys => some (.mm true y ys) | _, _ => none)
    | .min, x :: xs, _ => (match cOpnd x, cOpnds xs with | some y, some ys => some (.mm false y ys) | _, _ => none)
    | .append, [x, y], [t, u] =>
      (match P.underlying t with
      | some (.slice e) => if t = u then
          (match P.info? e with
          | some i => if i.zero.isSome && decide (0 < i.size) && decide ((i.zero.map (·.cells.size)) = some i.size) then (match cOpnd x, cOpnd y with | some a, some b => some (.app i.size i.bytes a b) | _, _ => none) else none
          | none => none) else none
      | _ => none)
    | _, _, _ => none
/-- A key's type: is it an aggregate, its cells, and where they lie (all of them). -/
def keyOfT (t : TypeId) : Option (Bool × Nat × List (Nat × Nat)) :=
  match aggOf P t, szOf P t, leaves P 8 t with
  | some g, some n, some os => if (g = true ∨ n = 1) ∧ os.map (·.1) = List.range n then some (g, n, os) else none
  | _, _, _ => none
def zeroAV (t : TypeId) : Option AV :=
  match P.info? t with
  | some i => (match i.zero with | some z => some (AV.ofVal z) | none => none)
  | none => none
def compileOp (o : Op) (type : TypeId) : Option AOp :=
  match o with
  | .move x => (cOpnd x).map .mv
  | .assign x => (cOpnd x).map .mv
  | .pick c a b => (match cOpnd c, cOpnd a, cOpnd b with | some c, some a, some b => some (.pick c a b) | _, _, _ => none)
  | .alloc e => (match zeroOf P e, szOf P e with | some zs, some k => if zs.length = k ∧ 0 < k ∧ cellsOk zs = true then some (.new k zs) else none | _, _ => none)
  | .box e x => (match cOpnd x, szOf P e with | some x, some k => if 0 < k then some (.box k x) else none | _, _ => none)
  | .build t parts =>
    (match P.underlying t, zeroOf P t with
    | some (.struct fs), some zs => (match placesOf P fs with | some pl => (cFill (pl.toArray[·]?) parts.toList).map (.build zs) | none => none)
    | some (.array _ e), some zs => (match szOf P e with | some k => (cFill (fun i => some (i * k, k)) parts.toList).map (.build zs) | none => none)
    | _, _ => none)
  | .buildSlice t n parts =>
    (match P.underlying t with
    | some (.slice e) => (match zeroOf P e, szOf P e with
      | some zs, some k => if n = 0 ∧ zs.length = k ∧ parts.size = 0 then some .bemp else if zs.length = k ∧ 0 < k ∧ 0 < n ∧ n * k ≤ 16777216 then (cFill (fun i => some (i * k, k)) parts.toList).map (.bslice k n zs) else none
      | _, _ => none)
    | _ => none)
  | .load t a => (match aggOf P t, szOf P t, cOpnd a with | some g, some k, some a => if (g = true ∨ k = 1) ∧ 0 < k then some (.load g k a) else none | _, _, _ => none)
  | .store t a x => (match szOf P t, cOpnd a, cOpnd x with | some k, some a, some x => if 0 < k then some (.store k a x) else none | _, _, _ => none)
  | .nilCheck x => (cOpnd x).map .nilc
  | .binOp op t x y _ =>
    (match cOpnd x, cOpnd y with
    | some x, some y =>
      (match P.underlying t with
      | some (.int _) => some (.bin op x y)
      | some .string => some (.bin op x y)
      | some .bool => (match op with | .eql => some (.eqb false x y) | .neq => some (.eqb true x y) | _ => none)
      | some (.struct _) => (match op, szOf P t, leaves P 8 t with | .eql, some n, some os => some (.eqs false n os x y) | .neq, some n, some os => some (.eqs true n os x y) | _, _, _ => none)
      | some (.array _ _) => (match op, szOf P t, leaves P 8 t with | .eql, some n, some os => some (.eqs false n os x y) | .neq, some n, some os => some (.eqs true n os x y) | _, _, _ => none)
      | _ => none)
    | _, _ => none)
  | .unOp op _ x => (cOpnd x).map (.un op)
  | .convert s d x =>
    (match P.underlying s, P.underlying d with
    | some (.int _), some (.int k) => (cOpnd x).map (.conv k)
    | some .string, some .string => (cOpnd x).map .mvs
    | some (.slice e), some .string => (match P.underlying e with | some (.int .u8) => (cOpnd x).map .toS | _ => none)
    | some .string, some (.slice e) => (match P.underlying e with | some (.int .u8) => (cOpnd x).map .ofS | _ => none)
    | some (.slice e), some (.slice _) => (match Nat.beq s d, P.underlying e with | true, some (.int .u8) => (cOpnd x).map fun y => .xop (.convert s d x) type [y] | _, _ => none)
    | _, _ => none)
  | .fieldAddr s x f =>
    (match fieldIn P s f, cOpnd x with
    | some (off, k, g), some x => if 0 < k then some (.fadr off x) else none
    | _, _ => none)
  | .field s x f =>
    (match fieldIn P s f, cOpnd x with
    | some (off, k, g), some x => if g = true ∨ k = 1 then some (.fld g off k x) else none
    | _, _ => none)
  | .indexAddr t x i =>
    (match P.underlying t, cOpnd x, cOpnd i with
    | some (.array n e), some x, some i => (szOf P e).map fun k => .iadA n k x i
    | some (.slice e), some x, some i => (match szOf P e with | some k => if 0 < k then some (.iadS k x i) else none | none => none)
    | _, _, _ => none)
  | .index t x i =>
    (match P.underlying t, cOpnd x, cOpnd i with
    | some (.array n e), some x, some i => (match szOf P e, aggOf P e with | some k, some g => if g = true ∨ k = 1 then some (.idx g n k x i) else none | _, _ => none)
    | some .string, some x, some i => some (.idxStr x i)
    | _, _, _ => none)
  | .slice t x lo hi none =>
    (match P.underlying t with
    | some (.slice e) => (match szOf P e, cOpnd x, cOpt lo, cOpt hi with | some k, some x, some lo, some hi => some (.slc k x lo hi) | _, _, _, _ => none)
    | some .string => (match cOpnd x, cOpt lo, cOpt hi with | some x, some lo, some hi => some (.slcS x lo hi) | _, _, _ => none)
    | _ => none)
  | .makeSlice t l c =>
    (match P.underlying t with
    | some (.slice e) => (match P.info? e, zeroOf P e, cOpnd l, cOpnd c with
      | some i, some zs, some l, some c => if zs.length = i.size ∧ 0 < i.size then some (.mk i.size i.bytes zs l c) else none
      | _, _, _, _ => none)
    | _ => none)
  | .extract x i => (cOpnd x).map fun y => .ext y i
  | .makeFunc fn first caps => (match cOpnds first.toList, cOpnds caps.toList with | some a, some b => some (.mkf fn a b) | _, _ => none)
  | .call c => (match lenMap P c with | some y => some (.xop (.call c) type [y]) | none => (match copyOf c with | some ys => some (.xop (.call c) type ys) | none => compileCall P c type))
  | .makeMap _ none => some .mkm
  | .lookup t x k ok =>
    (match P.underlying t, cOpnd x, cOpnd k with
    | some (.map kt et), some x, some k => (match keyOfT P kt, zeroAV P et with
      | some (g, n, os), some z => some (.look g n os z ok x k)
      | _, _ => none)
    | _, _, _ => none)
  | .mapUpdate t x k v =>
    (match P.underlying t, cOpnd x, cOpnd k, cOpnd v with
    | some (.map kt _), some x, some k, some v => (match keyOfT P kt with
      | some (g, n, os) => some (.mput g n os x k v)
      | none => none)
    | _, _, _, _ => none)
  | .range t x => (cOpnd x).map fun y => .xop (.range t x) type [y]
  | .next x s => (cOpnd x).map fun y => .xop (.next x s) type [y]
  | .entry x => (cOpnd x).map fun y => .xop (.entry x) type [y]
  | _ => none
end Go.Eng
