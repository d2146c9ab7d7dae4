/- The engine, part 27: the fast form once more, but a branch is gone into only when its condition is known; else the reckoning stops before it. -/
import Derived.Test.YtdjafcjpnjdphaaDoorEng24
set_option linter.unusedVariables false
set_option linter.unusedSimpArgs false
namespace Go.Eng
open Go Go.RowKit

def brL (b : Bool) (p q : Unit → Prop) : Prop := match b with | true => p () | false => q ()
theorem brL_iff {b : Bool} {p q : Unit → Prop} (h : brL b p q) : (b = true → p ()) ∧ (b = false → q ()) := by
  cases b
  · exact ⟨fun h => (by cases h), fun _ => h⟩
  · exact ⟨fun _ => h, fun h => (by cases h)⟩
/-- A row is put behind an own slice: the new rows are to be told. -/
inductive App (es : List (List AV)) (row : List AV) (bytes n : Nat) (K : List (List AV) → Nat → Prop) : Prop where
  | mk (fs : List (List AV)) (n' : Nat) (h : fs = es ++ [row]) (hn : n = es.length) (hn' : n' = n + 1) (hm : n + 1 ≤ 9223372036854775807) (hb : (n + 1) * bytes ≤ 140737488355328) (k : K fs n')
/-- Rows are put behind an own slice: the new rows are to be told. -/
inductive AppL (es new : List (List AV)) (bytes n : Nat) (K : List (List AV) → Nat → Prop) : Prop where
  | mk (fs : List (List AV)) (n' : Nat) (h : fs = es ++ new) (hn : n = es.length) (hn' : n' = n + new.length) (ho : rowsOk new = true) (hm : n' ≤ 9223372036854775807) (hb : n' * bytes ≤ 140737488355328) (k : K fs n')
/-- Rows are put behind nothing. -/
inductive AppN (new : List (List AV)) (bytes : Nat) (K0 : Prop) (K : Nat → Prop) : Prop where
  | nil (h : new = []) (k : K0)
  | mk (n : Nat) (hn : n = new.length) (h0 : new ≠ []) (hm : n ≤ 9223372036854775807) (hb : n * bytes ≤ 140737488355328) (k : K n)
/-- The place of an element of an own slice: its number is to be told. -/
inductive At (q : Int) (j n : Nat) (K : Nat → Prop) : Prop where
  | mk (k : Nat) (h0 : 0 ≤ q) (h1 : q < n) (hk : j + q.toNat = k) (k1 : K k)
/-- A row of an own slice is read. -/
inductive RowOf (es : List (List AV)) (i : Nat) (K : List AV → Prop) : Prop where
  | mk (row : List AV) (h : es[i]? = some row) (k : K row)
/-- A row of an own slice is written: the new rows are to be told. -/
inductive SetRow (es : List (List AV)) (i o : Nat) (cs : List AV) (K : List (List AV) → Prop) : Prop where
  | mk (row : List AV) (fs : List (List AV)) (h : es[i]? = some row) (hf : fs = es.set i (splice row o cs)) (k : K fs)
/-- A slice is made. -/
inductive Mk (l c : Int) (bytes : Nat) (zero : List AV) (K : List (List AV) → Nat → Prop) : Prop where
  | mk (es : List (List AV)) (n : Nat) (h0 : 0 ≤ l) (h1 : l ≤ c) (h2 : c ≤ 9223372036854775807) (h3 : c * bytes ≤ 140737488355328) (hn : n = l.toNat) (he : es = List.replicate n zero) (k : K es n)
/-- A piece of a string: which one is to be told. -/
inductive SlcS (s : ByteArray) (lo hi : Option AV) (K : ByteArray → Prop) : Prop where
  | all (t : ByteArray) (hlo : lo = none) (hhi : hi = none) (h : s.extract 0 s.size = t) (k1 : K t)
  | to_ {k : IntKind} {b : Int} (t : ByteArray) (hlo : lo = none) (hhi : hi = some (.int k b)) (h0 : 0 ≤ b) (h1 : b ≤ s.size) (h : s.extract 0 b.toNat = t) (k1 : K t)
  | from_ {k : IntKind} {a : Int} (t : ByteArray) (hlo : lo = some (.int k a)) (hhi : hi = none) (h0 : 0 ≤ a) (h1 : a ≤ s.size) (h : s.extract a.toNat s.size = t) (k1 : K t)
  | both {k k2 : IntKind} {a b : Int} (t : ByteArray) (hlo : lo = some (.int k a)) (hhi : hi = some (.int k2 b)) (h0 : 0 ≤ a) (h1 : a ≤ b) (h2 : b ≤ s.size) (h : s.extract a.toNat b.toNat = t) (k1 : K t)
/-- Bytes become a string: which one is to be told. -/
inductive ToS (z : Nat) (es : List (List AV)) (K : ByteArray → Prop) : Prop where
  | mk (s : ByteArray) (hz : z = 1) (h : es = bytesRows s) (k : K s)
inductive ToSl (z z' i n : Nat) (es : List (List AV)) (K : ByteArray → Prop) : Prop where
  | mk (s : ByteArray) (hz : z = 1) (hz' : z' = 1) (hn : i + n ≤ es.length) (h : (es.drop i).take n = bytesRows s) (k : K s)
/-- A byte of a string. -/
inductive IdxS (s : ByteArray) (q : Int) (K : Int → Prop) : Prop where
  | mk (c : Int) (h0 : 0 ≤ q) (h1 : q < s.size) (h : ((s.data.toList.getD q.toNat 0).toNat : Int) = c) (k : K c)
/-- A string becomes bytes, in a row of its own. -/
inductive OfS (s : ByteArray) (K : List (List AV) → Nat → Prop) : Prop where
  | mk (es : List (List AV)) (n : Nat) (h : es = bytesRows s) (hn : n = s.size) (k : K es n)
/-- A number is one of an array's. -/
inductive InN (q : Int) (n : Nat) (k : Prop) : Prop where
  | mk (h0 : 0 ≤ q) (h1 : q < n) (k1 : k)
/-- A map is asked for a key: what stands there is to be told. -/
inductive Look (g : Bool) (n : Nat) (os : List (Nat × Nat)) (z : AV) (ok : Bool) (es : List (List AV)) (key : AV) (K : AV → Prop) : Prop where
  | hit (v : AV) (h0 : (keyCells g n key).isSome = true) (h : findR g n os es key = some (some v)) (k : K (lookV ok z (some v)))
  | miss (h0 : (keyCells g n key).isSome = true) (h : findR g n os es key = some none) (k : K (lookV ok z none))
/-- A map is written at a key: the new entries are to be told. -/
inductive Put (g : Bool) (n : Nat) (os : List (Nat × Nat)) (es : List (List AV)) (key v : AV) (K : List (List AV) → Prop) : Prop where
  | mk (fs : List (List AV)) (h0 : (keyCells g n key).isSome = true) (h : putR g n os es key v = some fs) (k : K fs)
/-- The temporaries that hold places of elements. -/
def elOps : List Nat → List AOper → List Nat
  | acc, [] => acc
  | acc, o :: l => elOps (match o.dst with
    | some d => (match o.op with
      | .iadS _ _ _ => d :: acc
      | .bslice _ m _ _ => (match Nat.beq m 1 with | true => (1000000 + d) :: acc | false => acc)
      | .fadr _ x => (match x with | .tmp t => (match acc.elem t with | true => d :: acc | false => acc) | _ => acc)
      | _ => acc)
    | none => acc) l
def elems : List Nat → ACode → List Nat
  | acc, .ops l => elOps acc l
  | acc, .draw hd tl => elOps (elOps acc hd) tl
  | acc, .any al _ => elOps acc al
  | acc, .seq x y => elems (elems acc x) y
  | acc, .cond _ p q => elems (elems acc p) q
  | acc, .block _ c => elems acc c
  | acc, .loop c => elems acc c
  | acc, _ => acc
/-- A row of one element that is written out. -/
def isLit (el : List Nat) : AOpnd → Bool
  | .tmp t => el.elem (1000000 + t)
  | _ => false
def isEl (el : List Nat) : AOpnd → Bool
  | .tmp t => el.elem t
  | _ => false
/-- Own slices: places, elements read. -/
def rdY (el : List Nat) (o : AOp) (ev : AOpnd → AV) (h : AHeap) (Kv : AV → Prop) (fb : Prop) : Prop :=
  match o with
  | .iadS z x i => (match ev x with
    | .sl s z' j n => (match ev i, Nat.beq z' z with | .int _ q, true => At q j n (fun k => Kv (.ref s z k 0)) | _, _ => False)
    | _ => fb)
  | .load g k x => (match isEl el x with
    | true => (match ev x with
      | .ref s z i o => (match h[s]? with
        | some (.live z' es) => (match Nat.beq z' z, Nat.ble (o + k) z with | true, true => RowOf es i (fun row => Kv (partA g k row o)) | _, _ => False)
        | _ => False)
      | _ => fb)
    | false => fb)
  | .idx g n k x i => (match ev x with
    | .agg cs => (match ev i, Nat.ble (n * k) cs.length with | .int _ q, true => InN q n (Kv (partA g k cs (q.toNat * k))) | _, _ => False)
    | _ => fb)
  | .iadA n z x i => (match ev x with
    | .ref s z' j o => (match ev i with | .int _ q => InN q n (Kv (.ref s z' j (o + q.toNat * z))) | _ => False)
    | .cref cs => (match ev i with | .int _ q => InN q n (Kv (.cref (cs.drop (q.toNat * z)))) | _ => False)
    | _ => fb)
  | .look g n os z ok x k => (match ev x with
    | .mapr s => (match h[s]? with
      | some (.live zz es) => (match zz with | 0 => Look g n os z ok es (ev k) Kv | _ => False)
      | _ => False)
    | _ => fb)
  | .slcS x lo hi => (match ev x with | .str s => SlcS s (lo.map ev) (hi.map ev) (fun t => Kv (.str t)) | _ => fb)
  | .toS x => (match ev x with
    | .list z es => ToS z es (fun s => Kv (.str s))
    | .sl q z i n => (match h[q]? with | some (.live z' es) => ToSl z z' i n es (fun s => Kv (.str s)) | _ => False)
    | .nils => Kv (.str .empty)
    | .emp => Kv (.str .empty)
    | _ => fb)
  | .idxStr x i => (match ev x with | .str s => (match ev i with | .int _ q => IdxS s q (fun c => Kv (.int .u8 c)) | _ => fb) | _ => fb)
  | _ => fb
/-- Own slices: elements written, slices made. -/
def wrY (el : List Nat) (o : AOp) (ev : AOpnd → AV) (h : AHeap) (Kh : AV → AHeap → Prop) (fb : Prop) : Prop :=
  match o with
  | .store k x y => (match isEl el x with
    | true => (match ev x with
      | .ref s z i o => (match h[s]? with
        | some (.live z' es) => (match (ev y).cellsOf with
          | some cs => (match Nat.beq z' z, Nat.beq cs.length k, Nat.ble (o + k) z, cellsOk cs with | true, true, true, true => SetRow es i o cs (fun fs => Kh .undef (h.set s (.live z fs))) | _, _, _, _ => False)
          | none => False)
        | _ => False)
      | _ => fb)
    | false => fb)
  | .mk z bytes zero l c => (match ev l, ev c with
    | .int .i64 l, .int .i64 c => (match Nat.beq z 0 with | true => False | false => Mk l c bytes zero (fun es n => Kh (.sl h.length z 0 n) (h ++ [.live z es])))
    | _, _ => False)
  | .mkm => Kh (.mapr h.length) (h ++ [.live 0 []])
  | .mput g n os x k v => (match ev x with
    | .mapr s => (match h[s]? with
      | some (.live zz es) => (match zz with | 0 => Put g n os es (ev k) (ev v) (fun fs => Kh .undef (h.set s (.live 0 fs))) | _ => False)
      | _ => False)
    | _ => fb)
  | .ofS x => (match ev x with | .str s => OfS s (fun es n => Kh (.sl h.length 1 0 n) (h ++ [.live 1 es])) | _ => fb)
  | _ => fb
theorem rdY_sound {el : List Nat} {o : AOp} {ev : AOpnd → AV} {h : AHeap} {Kv : AV → Prop} {fb : Prop} {K : Res → Prop} (H : rdY el o ev h Kv fb) (hk : ∀ v, Kv v → K (.val v)) (hf : fb → vcOp o ev h K) : vcOp o ev h K := by
  unfold rdY at H
  split at H
  · rename_i z x i
    split at H
    · rename_i s z' j n e
      split at H
      · rename_i q e2 e3
        obtain ⟨k, h0, h1, rfl, hK⟩ := H
        simp only [vcOp, e, e2]
        exact ⟨⟨Nat.eq_of_beq_eq_true e3, h0, h1⟩, hk _ hK⟩
      · exact H.elim
    · exact hf H
  · rename_i g k x
    split at H
    · split at H
      · rename_i s z i o e
        split at H
        · rename_i z' es e2
          split at H
          · rename_i e3 e4
            obtain ⟨row, hrow, hK⟩ := H
            have hi := (List.getElem?_eq_some_iff.1 hrow).1
            simp only [vcOp, e, e2]
            refine ⟨⟨Nat.eq_of_beq_eq_true e3, hi, Nat.le_of_ble_eq_true e4⟩, ?_⟩
            have : es.getD i [] = row := by rw [List.getD_eq_getElem?_getD, hrow]; rfl
            rw [this]
            exact hk _ hK
          · exact H.elim
        · exact H.elim
      · exact hf H
    · exact hf H
  · rename_i g n k x i
    split at H
    · rename_i cs e
      split at H
      · rename_i q e2 e3
        obtain ⟨h0, h1, hK⟩ := H
        simp only [vcOp, e, e2]
        exact ⟨⟨h0, h1, Nat.le_of_ble_eq_true e3⟩, hk _ hK⟩
      · exact H.elim
    · exact hf H
  · rename_i n z x i
    split at H
    · rename_i s z' j o e
      split at H
      · rename_i q e2
        obtain ⟨h0, h1, hK⟩ := H
        simp only [vcOp, e, e2]
        exact ⟨⟨h0, h1⟩, hk _ hK⟩
      · exact H.elim
    · rename_i cs e
      split at H
      · rename_i q e2
        obtain ⟨h0, h1, hK⟩ := H
        simp only [vcOp, e, e2]
        exact ⟨⟨h0, h1⟩, hk _ hK⟩
      · exact H.elim
    · exact hf H
  · rename_i g n os z ok x k
    split at H
    · rename_i s e
      split at H
      · rename_i zz es e2
        split at H
        · cases H with
          | hit v h0 h1 hK =>
            obtain ⟨ks, hks⟩ := Option.isSome_iff_exists.1 h0
            simp only [vcOp, e, e2]
            rw [hks, h1]
            exact hk _ hK
          | miss h0 h1 hK =>
            obtain ⟨ks, hks⟩ := Option.isSome_iff_exists.1 h0
            simp only [vcOp, e, e2]
            rw [hks, h1]
            exact hk _ hK
        · exact H.elim
      · exact H.elim
    · exact hf H
  · rename_i x lo hi
    split at H
    · rename_i s e
      simp only [vcOp, e]
      cases H with
      | all t hlo hhi h k1 => rw [hlo, hhi]; subst h; exact hk _ k1
      | to_ t hlo hhi h0 h1 h k1 => rw [hlo, hhi]; subst h; exact ⟨⟨h0, h1⟩, hk _ k1⟩
      | from_ t hlo hhi h0 h1 h k1 => rw [hlo, hhi]; subst h; exact ⟨⟨h0, h1⟩, hk _ k1⟩
      | both t hlo hhi h0 h1 h2 h k1 => rw [hlo, hhi]; subst h; exact ⟨⟨h0, h1, h2⟩, hk _ k1⟩
    · exact hf H
  · rename_i x
    split at H
    · rename_i z es e
      obtain ⟨s, hz, h, hK⟩ := H
      simp only [vcOp, e]
      exact ⟨s, ⟨hz, h⟩, hk _ hK⟩
    · rename_i q z i n e
      split at H
      · rename_i z' es e2
        obtain ⟨s, hz, hz', hn, h, hK⟩ := H
        simp only [vcOp, e, e2]
        exact ⟨s, ⟨hz, hz', hn, h⟩, hk _ hK⟩
      · exact H.elim
    · rename_i e
      simp only [vcOp, e]
      exact hk _ H
    · rename_i e
      simp only [vcOp, e]
      exact hk _ H
    · exact hf H
  · rename_i x i
    split at H
    · rename_i s e
      split at H
      · rename_i k q e2
        obtain ⟨c, h0, h1, rfl, hK⟩ := H
        simp only [vcOp, e, e2]
        exact ⟨⟨h0, h1⟩, hk _ hK⟩
      · exact hf H
    · exact hf H
  · exact hf H
theorem wrY_sound {el : List Nat} {o : AOp} {ev : AOpnd → AV} {h : AHeap} {Kh : AV → AHeap → Prop} {fb : Prop} {K : Res → Prop} (H : wrY el o ev h Kh fb) (hk : ∀ r, Kh (Res.at h.length r) (Res.push h r) → K r) (hf : fb → vcOp o ev h K) : vcOp o ev h K := by
  unfold wrY at H
  split at H
  · rename_i k x y
    split at H
    · split at H
      · rename_i s z i o e
        split at H
        · rename_i z' es e2
          split at H
          · rename_i cs e5
            split at H
            · rename_i e3 e4 e6 e7
              obtain ⟨row, fs, hrow, rfl, hK⟩ := H
              have hi := (List.getElem?_eq_some_iff.1 hrow).1
              simp only [vcOp, e, e2, e5]
              refine ⟨⟨Nat.eq_of_beq_eq_true e3, hi, Nat.eq_of_beq_eq_true e4, Nat.le_of_ble_eq_true e6, e7⟩, ?_⟩
              have : es.getD i [] = row := by rw [List.getD_eq_getElem?_getD, hrow]; rfl
              rw [this]
              exact hk (.upd s z _) hK
            · exact H.elim
          · exact H.elim
        · exact H.elim
      · exact hf H
    · exact hf H
  · rename_i z bytes zero l c
    split at H
    · rename_i l' c' e1 e2
      split at H
      · exact H.elim
      · rename_i hz0
        obtain ⟨es, n, h0, h1, h2, h3, rfl, rfl, hK⟩ := H
        simp only [vcOp, e1, e2]
        exact ⟨⟨h0, h1, h2, h3⟩, hk (.new (some l'.toNat) z _) (by simp only [Res.at, hz0]; exact hK)⟩
    · exact H.elim
  · exact hk (.new (some 0) 0 []) H
  · rename_i g n os x k v
    split at H
    · rename_i s e
      split at H
      · rename_i zz es e2
        split at H
        · obtain ⟨fs, h0, h1, hK⟩ := H
          simp only [vcOp, e, e2]
          obtain ⟨ks, hks⟩ := Option.isSome_iff_exists.1 h0
          rw [hks, h1]
          exact hk (.upd s 0 _) hK
        · exact H.elim
      · exact H.elim
    · exact hf H
  · rename_i x
    split at H
    · rename_i s e
      obtain ⟨es, n, rfl, rfl, hK⟩ := H
      simp only [vcOp, e]
      exact hk (.new (some s.size) 1 (bytesRows s)) hK
    · exact hf H
  · exact hf H
section
variable (w : Prims) (P : Program) (el : List Nat)
def appZ (z bytes : Nat) (x y : AV) (dst : Option Nat) (fb : Prop) (K : AAct → AHeap → Prop) (a : AAct) (h : AHeap) : Prop :=
  match y with
  | .list z' [row] =>
    (match x, Nat.beq z' z, cellsOk row with
    | .emp, _, _ => fb
    | .nils, true, _ => (match Nat.beq z 0 with | true => False | false => Ob (fun _ => 1 * bytes ≤ 140737488355328) (K (putA a dst (.sl h.length z 0 1)) (h ++ [.live z [row]])))
    | .sl s z'' i n, true, true => (match h[s]?, Nat.beq z'' z, Nat.beq i 0 with
      | some (.live ww es), true, true => (match Nat.beq ww z with
        | true => App es row bytes n (fun fs n' => K (putA a dst (.sl h.length z 0 n')) (h.set s .dead ++ [.live z fs]))
        | false => False)
      | _, _, _ => False)
    | _, _, _ => False)
  | _ => fb
def appV (z bytes : Nat) (x y : AV) (dst : Option Nat) (fb : Prop) (K : AAct → AHeap → Prop) (a : AAct) (h : AHeap) : Prop :=
  match y with
  | .list z' new =>
    (match x, Nat.beq z' z with
    | .emp, true => AppN new bytes (K (putA a dst .emp) h) (fun n => (match Nat.beq z 0 with | true => False | false => K (putA a dst (.sl h.length z 0 n)) (h ++ [.live z new])))
    | .nils, true => AppN new bytes (K (putA a dst .nils) h) (fun n => (match Nat.beq z 0 with | true => False | false => K (putA a dst (.sl h.length z 0 n)) (h ++ [.live z new])))
    | .sl s z'' i n, true => (match h[s]?, Nat.beq z'' z, Nat.beq i 0 with
      | some (.live ww es), true, true => (match Nat.beq ww z with
        | true => AppL es new bytes n (fun fs n' => K (putA a dst (.sl h.length z 0 n')) (h.set s .dead ++ [.live z fs]))
        | false => False)
      | _, _, _ => fb)
    | _, _ => fb)
  | _ => fb
def appY (one : Bool) (z bytes : Nat) (x y : AV) (dst : Option Nat) (fb : Prop) (K : AAct → AHeap → Prop) (a : AAct) (h : AHeap) : Prop :=
  match one with | true => appZ z bytes x y dst fb K a h | false => appV z bytes x y dst fb K a h
def vcOneY (o : AOper) (K : AAct → AHeap → Prop) (a : AAct) (h : AHeap) : Prop :=
  match o.op with
  | .call f xs => (match evA a f with | .func (.func g) first caps => Call P g (first ++ evs (evA a) xs ++ caps) h (callK K a o.dst) | _ => False)
  | .xop op ty xs => Xo P op ty (evs (evA a) xs) h (callK K a o.dst)
  | .pick c x y => (match evA a c with | .bool t => brL t (fun _ => K (putA a o.dst (evA a x)) h) (fun _ => K (putA a o.dst (evA a y)) h) | _ => False)
  | .app z bytes x y => appY (isLit el y) z bytes (evA a x) (evA a y) o.dst (Fb (fun _ => vcOp (.app z bytes x y) (evA a) h (fin K a o.dst h))) K a h
  | op => wrY el op (evA a) h (fun v h' => K (putA a o.dst v) h') (rdY el op (evA a) h (fun v => K (putA a o.dst v) h) (vcOpX w op (evA a) h (fun _ => vcOp op (evA a) h (fin K a o.dst h)) (fin K a o.dst h)))
def vcOpsY (K : AAct → AHeap → Prop) : List AOper → AAct → AHeap → Prop
  | [], a, h => K a h
  | o :: rest, a, h =>
    match o.guard with
    | none => vcOneY w P el o (vcOpsY K rest) a h
    | some (t, want) =>
      match a.getD t .any with
      | .bool b =>
        match want with
        | true => brL b (fun _ => vcOneY w P el o (vcOpsY K rest) (a.set t (.bool true)) h) (fun _ => vcOpsY K rest (putA (a.set t (.bool false)) o.dst .undef) h)
        | false => brL b (fun _ => vcOpsY K rest (putA (a.set t (.bool true)) o.dst .undef) h) (fun _ => vcOneY w P el o (vcOpsY K rest) (a.set t (.bool false)) h)
      | .tuple [] => vcOpsY K rest (putA a o.dst .undef) h
      | _ => False
def vcHOneY (o : AOper) (h0 : AHeap) (K : AAct → AHeap → Prop) (a : AAct) (news : AHeap) : Prop :=
  match o.op with
  | .call f xs => (match evA a f with | .func (.func g) first caps => QCal P g (first ++ evs (evA a) xs ++ caps) h0 (callH K a o.dst news) | _ => False)
  | .pick c x y => (match evA a c with | .bool t => brL t (fun _ => K (putA a o.dst (evA a x)) news) (fun _ => K (putA a o.dst (evA a y)) news) | _ => False)
  | op => rdY el op (evA a) h0 (fun v => K (putA a o.dst v) news) (vcOpX w op (evA a) h0 (fun _ => vcOp op (evA a) h0 (finHX K a o.dst (h0.length + news.length) op.slots news)) (finHX K a o.dst (h0.length + news.length) op.slots news))
def vcHeadY (h0 : AHeap) (K : AAct → AHeap → Prop) : List AOper → AAct → AHeap → Prop
  | [], a, news => K a news
  | o :: rest, a, news =>
    match o.guard with
    | none => vcHOneY w P el o h0 (vcHeadY h0 K rest) a news
    | some (t, want) =>
      match a.getD t .any with
      | .bool b =>
        match want with
        | true => brL b (fun _ => vcHOneY w P el o h0 (vcHeadY h0 K rest) (a.set t (.bool true)) news) (fun _ => vcHeadY h0 K rest (putA (a.set t (.bool false)) o.dst .undef) (news ++ List.replicate o.op.slots .free))
        | false => brL b (fun _ => vcHeadY h0 K rest (putA (a.set t (.bool true)) o.dst .undef) (news ++ List.replicate o.op.slots .free)) (fun _ => vcHOneY w P el o h0 (vcHeadY h0 K rest) (a.set t (.bool false)) news)
      | .tuple [] => vcHeadY h0 K rest (putA a o.dst .undef) (news ++ List.replicate o.op.slots .free)
      | _ => False
def tailKY (K : AAct → AHeap → Prop) (h : AHeap) (tl : List AOper) : AAct → AHeap → Prop := fun a news => vcOpsY w P el K tl a (h ++ news)
def vcAnyY (K : AAct → AHeap → Prop) (al : List AOper) (deps : List (List Nat)) : Nat → List Nat → AAct → AHeap → Prop
  | 0, done, a, h => if (rdyGo done 0 deps).isEmpty then K a h else False
  | f + 1, done, a, h => if (rdyGo done 0 deps).isEmpty then K a h else allI (rdyGo done 0 deps) fun i => match al[i]? with | some o => vcOpsY w P el (vcAnyY K al deps f (i :: done)) [o] a h | none => False
def vcCodeY (n : Nat) : ACode → APost → AAct → AHeap → Prop
  | .skip, Q, a, h => Q .normal a h
  | .ops l, Q, a, h => vcOpsY w P el (Q .normal) l a h
  | .draw hd tl, Q, a, h => vcHeadY w P el h (tailKY w P el (Q .normal) h tl) hd a []
  | .any al deps, Q, a, h => vcAnyY w P el (Q .normal) al deps al.length [] a h
  | .bad, Q, a, h => False
  | .seq x y, Q, a, h => vcCodeY n x (thenA (vcCodeY n y Q) Q) a h
  | .cond x p q, Q, a, h => (match evA a x with | .bool t => brL t (fun _ => vcCodeY n p Q (setC a x true) h) (fun _ => vcCodeY n q Q (setC a x false) h) | _ => False)
  | .block id c, Q, a, h => vcCodeY n c (inBlockA id Q) a h
  | .loop c, Q, a, h => Loop P n c Q a h
  | .exit id, Q, a, h => Q (.exit id) a h
  | .ret, Q, a, h => Q .ret a h
end
def vcFunY (w : Prims) (F : Option AFun) (P : Program) (args : List AV) (R : AV → Prop) : Prop :=
  match F with
  | some F => vcCodeY w P (elems [] F.code) 0 F.code (retQX F.rets R) (initA args F.n) []
  | none => False

section
variable {P : Program} {el : List Nat}
theorem brL_br {b : Bool} {p q : Unit → Prop} {p' q' : Prop} (h : brL b p q) (hp : p () → p') (hq : q () → q') : br b p' q' := by
  cases b
  · exact hq h
  · exact hp h
theorem appZ_X {z bytes : Nat} {x y : AOpnd} {dst : Option Nat} {K : AAct → AHeap → Prop} {a : AAct} {h : AHeap} (H : appZ z bytes (evA a x) (evA a y) dst (Fb (fun _ => vcOp (.app z bytes x y) (evA a) h (fin K a dst h))) K a h) : vcOpX std (.app z bytes x y) (evA a) h (fun _ => vcOp (.app z bytes x y) (evA a) h (fin K a dst h)) (fin K a dst h) := by
  unfold appZ at H
  simp only [vcOpX]
  split at H
  · rename_i z' row e
    rw [e]
    simp only
    split at H
    · rename_i h1
      rw [h1]
      exact H
    · rename_i h1 h2
      rw [h1, h2]
      split at H
      · exact H.elim
      · rename_i hz0
        simp only [fin, Res.at, hz0]
        exact H
    · rename_i s z'' i n h1 h2 h3
      rw [h1, h2, h3]
      simp only
      split at H
      · rename_i ww es k1 k2 k3
        rw [k1, k2, k3]
        simp only
        split at H
        · rename_i hz
          rw [hz]
          simp only
          obtain ⟨fs, n', rfl, rfl, rfl, h6, h7, h8⟩ := H
          refine Ob.mk ⟨rfl, h6, h7⟩ ?_
          show K _ _
          have e : (std.app es [row]).length = es.length + 1 := by show (es ++ [row]).length = _; simp
          simp only [Res.at, Res.push, e]
          exact h8
        · exact H.elim
      · exact H.elim
    · exact H.elim
  · rename_i hne
    split
    · rename_i z' row e; exact absurd e (hne z' row)
    · exact H
theorem appV_op {z bytes : Nat} {x y : AOpnd} {dst : Option Nat} {K : AAct → AHeap → Prop} {a : AAct} {h : AHeap} (H : appV z bytes (evA a x) (evA a y) dst (Fb (fun _ => vcOp (.app z bytes x y) (evA a) h (fin K a dst h))) K a h) : vcOp (.app z bytes x y) (evA a) h (fin K a dst h) := by
  unfold appV at H
  split at H
  · rename_i z' new e
    split at H
    · rename_i e1 hz
      have hz := Nat.eq_of_beq_eq_true hz
      subst hz
      simp only [vcOp, e, e1]
      cases H with
      | nil h k => subst h; exact ⟨fun _ => k, fun h => absurd rfl h⟩
      | mk n hn h0 hm hb k =>
        subst hn
        refine ⟨fun h => absurd h h0, fun _ => ⟨⟨trivial, hm, hb⟩, ?_⟩⟩
        split at k
        · exact k.elim
        · rename_i hz0
          simp only [fin, Res.at, hz0]
          exact k
    · rename_i e1 hz
      have hz := Nat.eq_of_beq_eq_true hz
      subst hz
      simp only [vcOp, e, e1]
      cases H with
      | nil h k => subst h; exact ⟨fun _ => k, fun h => absurd rfl h⟩
      | mk n hn h0 hm hb k =>
        subst hn
        refine ⟨fun h => absurd h h0, fun _ => ⟨⟨trivial, hm, hb⟩, ?_⟩⟩
        split at k
        · exact k.elim
        · rename_i hz0
          simp only [fin, Res.at, hz0]
          exact k
    · rename_i s z'' i n e1 hz
      have hz := Nat.eq_of_beq_eq_true hz
      subst hz
      split at H
      · rename_i ww es g1 g2 g3
        split at H
        · rename_i g4
          have g2 := Nat.eq_of_beq_eq_true g2
          have g3 := Nat.eq_of_beq_eq_true g3
          have g4 := Nat.eq_of_beq_eq_true g4
          subst g2 g3 g4
          obtain ⟨fs, n', rfl, rfl, rfl, ho, hm, hb, k⟩ := H
          simp only [vcOp, e, e1, g1]
          have hK : fin K a dst h (.repl s ww (es ++ new)) := by
            simp only [fin, Res.at, Res.push, List.length_append]
            exact k
          refine ⟨fun hnew => .inr ⟨⟨trivial, trivial, trivial, trivial⟩, ?_⟩, fun hnew => ⟨⟨trivial, trivial, trivial, trivial, trivial, ho, hm, hb⟩, hK⟩⟩
          subst hnew
          rwa [List.append_nil] at hK
        · exact H.elim
      · exact H.1
    · exact H.1
  · exact H.1
theorem vcOneY_sound {o : AOper} {K K' : AAct → AHeap → Prop} {a : AAct} {h : AHeap} (H : vcOneY std P el o K a h) (hk : ∀ a h, K a h → K' a h) : vcOne P o K' a h := by
  have viaX : vcOneX std P o K a h → vcOne P o K' a h := fun H => vcOneX_sound H hk
  unfold vcOneY at H
  split at H
  · rename_i f xs e
    exact viaX (by unfold vcOneX; rw [e]; exact H)
  · rename_i op ty xs e
    exact viaX (by unfold vcOneX; rw [e]; exact H)
  · rename_i c x y e
    refine viaX ?_
    unfold vcOneX
    rw [e]
    simp only [vcOpX]
    split at H
    · rename_i t e2
      rw [e2]
      exact brL_br H (fun h => h) (fun h => h)
    · exact H.elim
  · rename_i z bytes x y e
    unfold appY at H
    split at H
    · exact viaX (by unfold vcOneX; rw [e]; exact appZ_X H)
    · unfold vcOne
      rw [e]
      exact vcOp_mono (fun r hr => hk _ _ hr) (appV_op H)
  · rename_i h1 hx h2 h3
    unfold vcOne
    split
    · rename_i f xs e; exact absurd e (h1 f xs)
    · rename_i op ty xs e; exact absurd e (hx op ty xs)
    · refine vcOp_mono (fun r hr => hk _ _ hr) (wrY_sound H (fun r hr => hr) fun H => rdY_sound H (fun v hv => hv) fun H => vcOpX_sound H fun h => h)
theorem vcOpsY_sound {K K' : AAct → AHeap → Prop} (hk : ∀ a h, K a h → K' a h) : ∀ {l : List AOper} {a : AAct} {h : AHeap}, vcOpsY std P el K l a h → vcOps P K' l a h
  | [], a, h, H => hk _ _ H
  | o :: rest, a, h, H => by
    simp only [vcOpsY, vcOps] at H ⊢
    split at H
    · rename_i e; rw [e]; exact vcOneY_sound H fun a h => vcOpsY_sound hk
    · rename_i t want e
      rw [e]
      simp only
      split at H
      · rename_i b e2
        rw [e2]
        cases want with
        | true =>
          obtain ⟨h1, h2⟩ := brL_iff H
          exact ⟨fun e => vcOneY_sound (h1 e) fun a h => vcOpsY_sound hk, fun e => vcOpsY_sound hk (h2 e)⟩
        | false =>
          obtain ⟨h1, h2⟩ := brL_iff H
          exact ⟨fun e => vcOneY_sound (h2 e) fun a h => vcOpsY_sound hk, fun e => vcOpsY_sound hk (h1 e)⟩
      · rename_i e2
        rw [e2]
        exact vcOpsY_sound hk H
      · exact H.elim
theorem slots_rd {el : List Nat} {o : AOp} {ev : AOpnd → AV} {h : AHeap} {Kv : AV → Prop} {fb : Prop} (H : rdY el o ev h Kv fb) : (o.slots = 0 ∧ rdY el o ev h Kv fb) ∨ fb := by
  cases o <;> first | exact .inr H | exact .inl ⟨rfl, H⟩
theorem vcHOneY_sound {o : AOper} {h0 : AHeap} {K K' : AAct → AHeap → Prop} {a : AAct} {news : AHeap} (H : vcHOneY std P el o h0 K a news) (hk : ∀ a h, K a h → K' a h) : vcHOne P o h0 K' a news := by
  have viaX : vcHOneX std P o h0 K a news → vcHOne P o h0 K' a news := fun H => vcHOneX_sound H hk
  unfold vcHOneY at H
  split at H
  · rename_i f xs e
    exact viaX (by unfold vcHOneX; rw [e]; exact H)
  · rename_i c x y e
    refine viaX ?_
    unfold vcHOneX
    rw [e]
    simp only [vcOpX]
    split at H
    · rename_i t e2
      rw [e2]
      exact brL_br H (fun h => h) (fun h => h)
    · exact H.elim
  · rename_i h1 h2
    have alt : vcOpX std o.op (evA a) h0 (fun _ => vcOp o.op (evA a) h0 (finHX K a o.dst (h0.length + news.length) o.op.slots news)) (finHX K a o.dst (h0.length + news.length) o.op.slots news) → vcHOne P o h0 K' a news := fun H => by
      unfold vcHOne
      split
      · rename_i f xs e; exact absurd e (h1 f xs)
      · exact vcOp_mono (fun r hr => finH_mono hk (finHX_std hr)) (vcOpX_sound H fun h => h)
    rcases slots_rd H with ⟨hs, H⟩ | H
    · unfold vcHOne
      split
      · rename_i f xs e; exact absurd e (h1 f xs)
      · refine vcOp_mono (fun r hr => finH_mono hk (finHX_std hr)) (rdY_sound (K := finHX K a o.dst (h0.length + news.length) o.op.slots news) H (fun v hv => ?_) fun H => vcOpX_sound H fun h => h)
        rw [hs]; exact hv
    · exact alt H
theorem vcHeadY_sound {h0 : AHeap} {K K' : AAct → AHeap → Prop} (hk : ∀ a h, K a h → K' a h) : ∀ {l : List AOper} {a : AAct} {news : AHeap}, vcHeadY std P el h0 K l a news → vcHead P h0 K' l a news
  | [], a, h, H => hk _ _ H
  | o :: rest, a, h, H => by
    simp only [vcHeadY, vcHead] at H ⊢
    split at H
    · rename_i e; rw [e]; exact vcHOneY_sound H fun a h => vcHeadY_sound hk
    · rename_i t want e
      rw [e]
      simp only
      split at H
      · rename_i b e2
        rw [e2]
        cases want with
        | true =>
          obtain ⟨h1, h2⟩ := brL_iff H
          exact ⟨fun e => vcHOneY_sound (h1 e) fun a h => vcHeadY_sound hk, fun e => vcHeadY_sound hk (h2 e)⟩
        | false =>
          obtain ⟨h1, h2⟩ := brL_iff H
          exact ⟨fun e => vcHOneY_sound (h2 e) fun a h => vcHeadY_sound hk, fun e => vcHeadY_sound hk (h1 e)⟩
      · rename_i e2
        rw [e2]
        exact vcHeadY_sound hk H
      · exact H.elim
theorem vcAnyY_sound {K K' : AAct → AHeap → Prop} {al : List AOper} {deps : List (List Nat)} (hk : ∀ a h, K a h → K' a h) : ∀ {f : Nat} {done : List Nat} {a : AAct} {h : AHeap}, vcAnyY std P el K al deps f done a h → vcAny P K' al deps f done a h
  | 0, done, a, h, H => by
    simp only [vcAnyY, vcAny] at H ⊢
    split at H
    · rename_i he; rw [if_pos he]; exact hk _ _ H
    · exact H.elim
  | f + 1, done, a, h, H => by
    simp only [vcAnyY, vcAny] at H ⊢
    split at H
    · rename_i he; rw [if_pos he]; exact hk _ _ H
    · rename_i he
      rw [if_neg he]
      refine allI_map (fun i hi => ?_) H
      split at hi
      · rename_i e1
        rw [e1]
        exact vcOpsY_sound (fun a h hh => vcAnyY_sound hk hh) hi
      · exact hi.elim
theorem vcCodeY_sound {n : Nat} : ∀ {c : ACode} {Q Q' : APost} {a : AAct} {h : AHeap}, (∀ e a h, Q e a h → Q' e a h) → vcCodeY std P el n c Q a h → vcCode P n c Q' a h
  | .skip, Q, Q', a, h, hq, H => hq _ _ _ H
  | .ops l, Q, Q', a, h, hq, H => vcOpsY_sound (fun a h hr => hq _ _ _ hr) H
  | .any al deps, Q, Q', a, h, hq, H => vcAnyY_sound (fun a h hr => hq _ _ _ hr) H
  | .bad, Q, Q', a, h, hq, H => H.elim
  | .draw hd tl, Q, Q', a, h, hq, H => vcHeadY_sound (fun a news hr => vcOpsY_sound (fun a h hr => hq _ _ _ hr) hr) H
  | .seq x y, Q, Q', a, h, hq, H => vcCodeY_sound (c := x) (fun e a h hr => by
      cases e with
      | normal => exact vcCodeY_sound (c := y) hq hr
      | _ => exact hq _ _ _ hr) H
  | .cond x p q, Q, Q', a, h, hq, H => by
    simp only [vcCodeY, vcCode] at H ⊢
    split at H
    · rename_i t e
      obtain ⟨h1, h2⟩ := brL_iff H
      rw [e]
      exact ⟨fun e => vcCodeY_sound (c := p) hq (h1 e), fun e => vcCodeY_sound (c := q) hq (h2 e)⟩
    · exact H.elim
  | .block id c, Q, Q', a, h, hq, H => vcCodeY_sound (c := c) (fun e a h hr => by
      cases e with
      | exit i =>
        simp only [inBlockA] at hr ⊢
        split at hr
        · rename_i hi; rw [if_pos hi]; exact hq _ _ _ hr
        · rename_i hi; rw [if_neg hi]; exact hq _ _ _ hr
      | _ => exact hq _ _ _ hr) H
  | .loop c, Q, Q', a, h, hq, H => by
    obtain ⟨hl⟩ := H
    exact fun code hc hd => (hl code hc hd).mono hq
  | .exit id, Q, Q', a, h, hq, H => hq _ _ _ H
  | .ret, Q, Q', a, h, hq, H => hq _ _ _ H
theorem vcFunY_sound {F : Option AFun} {args : List AV} {R : AV → Prop} (H : vcFunY std F P args R) : vcFun F P args R := by
  unfold vcFunY at H
  unfold vcFun
  split at H
  · exact vcCodeY_sound (fun e a h hr => retQX_std e a h hr) H
  · exact H.elim
/-- A function's contract, from the lazy fast form. -/
theorem PCalls.ofY {g : FuncId} {fn : Func} {args : List AV} {R : AV → Prop} (hf : P.funcs[g]? = some fn) (hname : (fn.name == "runtime.NumGoroutine") = false) (hdr : drawsF P fn = true) (H : ∀ w, w = std → ∀ R' : AV → Prop, (∀ r, R r → R' r) → vcFunY w (compileF P fn) P args R') : PCalls P g args R :=
  PCalls.of hf hname hdr (vcFunY_sound (H std rfl R fun _ h => h))
theorem Loop.introY {c : ACode} {Q : APost} {a : AAct} {h : AHeap} (I : AAct → AHeap → Prop) (m : AAct → AHeap → Nat) (a' : AAct) (h' : AHeap) (hw : Wk 0 a h a' h') (h0 : I a' h')
    (round : ∀ a h, I a h → ∀ w, w = std → ∀ Q' : APost, (∀ a1 h1 a2 h2, Wk 0 a1 h1 a2 h2 → I a2 h2 → m a2 h2 < m a h → Q' .normal a1 h1) → (∀ k a1 h1, Q (.exit k) a1 h1 → Q' (.exit k) a1 h1) → (∀ a1 h1, Q .ret a1 h1 → Q' .ret a1 h1) → vcCodeY w P (elems [] c) 0 c Q' a h) : Loop P 0 c Q a h :=
  ⟨ALoop.intro I m a' h' hw h0 fun a h hI => vcCodeY_sound (fun _ _ _ h => h) (round a h hI std rfl _ (fun a1 h1 a2 h2 w2 i2 m2 => ⟨a2, h2, w2, i2, m2⟩) (fun k a1 h1 hq => hq) (fun a1 h1 hq => hq))⟩
end
end Go.Eng
