/- The engine, part 15: every order comes to the same. -/
import Derived.Test.YtdjafcjpnjdphaaDoorEng14
set_option linter.unusedVariables false
set_option linter.unusedSimpArgs false
namespace Go.Eng
open Go Go.RowKit
variable {P : Program} {h0 : AHeap}

def dstOf (al : List AOper) (i : Nat) : Option Nat := (al[i]?).bind (·.dst)
def looksOf (al : List AOper) (i : Nat) : List Nat := match al[i]? with | some o => o.looks | none => []
def clash (al : List AOper) (i j : Nat) : Bool :=
  (match dstOf al i with | some d => (looksOf al j).contains d || dstOf al j == some d | none => false) || (match dstOf al j with | some d => (looksOf al i).contains d | none => false)
def listedN (n m : Nat) : Array Bool := Array.replicate n true ++ Array.replicate (m - n) false
/-- An operation that only takes a part of what another one gave: it may come late. -/
def lateB (ops : Array Oper) (n j : Nat) : Bool := match ops[j]? with
  | some o => (match o.op with | .extract _ _ => true | _ => false) && o.guard.isNone && Region.noSelect ops &&
    (List.range ops.size).all (fun i => i == j || Region.waitsFor .any ops j i || Region.waitsFor .any ops i j || match ops[i]? with | some oi => o.apart ops oi | none => true) &&
    o.after.all (fun e => !Region.binds .any e || Region.waitsFor .any ops n e.on)
  | none => false
def sinkL (ops : Array Oper) (n : Nat) : Bool := (List.range n).all fun i => (List.range (n + 1)).any (fun j => decide (i < j) && Region.waitsFor .any ops j i) || lateB ops n i
def headB (ops : List Oper) (al : List AOper) : Bool :=
  (List.range al.length).all (fun i => (match ops[i]? with | some o => o.after.all (fun e => !Region.binds .any e || decide (e.on < i)) | none => false) &&
    (List.range al.length).all (fun j => !decide (i < j) || !clash al i j || Region.waitsFor .any ops.toArray j i)) &&
  (decide (al.length = ops.length) || (decide (al.length < ops.length) && sinkL ops.toArray al.length && Region.chainB .any ops.toArray al.length)) &&
  Region.seqB .any ops.toArray (ops.length - al.length) al.length (listedN al.length ops.length)

def cur (dst : Nat → Option Nat) (val : Nat → AV) (S : Nat → Bool) (g : Nat → AV) : Nat → Nat → AV
  | 0, t => g t
  | m + 1, t => if S m = true ∧ dst m = some t then val m else cur dst val S g m t
theorem cur_reads {dst : Nat → Option Nat} {val : Nat → AV} {S : Nat → Bool} {g : Nat → AV} {n j u : Nat} (hj : j ≤ n) (h1 : ∀ i, i < j → dst i = some u → S i = true) (h2 : ∀ i, j ≤ i → i < n → S i = true → dst i ≠ some u) :
    cur dst val S g n u = cur dst val (fun _ => true) g j u := by
  have e1 : ∀ m, j ≤ m → m ≤ n → cur dst val S g m u = cur dst val S g j u := by
    intro m
    induction m with
    | zero => intro h _; have : j = 0 := by omega
              subst this; rfl
    | succ m ih =>
      intro hm hmn
      by_cases hjm : j = m + 1
      · subst hjm; rfl
      · rw [cur, if_neg (fun hh => h2 m (by omega) (by omega) hh.1 hh.2)]
        exact ih (by omega) (by omega)
  rw [e1 n hj (Nat.le_refl _)]
  have e2 : ∀ m, m ≤ j → cur dst val S g m u = cur dst val (fun _ => true) g m u := by
    intro m
    induction m with
    | zero => intro _; rfl
    | succ m ih =>
      intro hm
      rw [cur, cur, ih (by omega)]
      by_cases hd : dst m = some u
      · rw [if_pos ⟨h1 m (by omega) hd, hd⟩, if_pos ⟨rfl, hd⟩]
      · rw [if_neg (fun h => hd h.2), if_neg (fun h => hd h.2)]
  exact e2 j (Nat.le_refl _)
def addS (S : Nat → Bool) (j : Nat) : Nat → Bool := fun i => if i = j then true else S i
theorem cur_hit {dst : Nat → Option Nat} {val : Nat → AV} {S : Nat → Bool} {g : Nat → AV} {n j t : Nat} (hj : j < n) (hd : dst j = some t) (h2 : ∀ i, j < i → i < n → S i = true → dst i ≠ some t) : cur dst val (addS S j) g n t = val j := by
  have e1 : ∀ m, j < m → m ≤ n → cur dst val (addS S j) g m t = val j := by
    intro m
    induction m with
    | zero => intro h _; omega
    | succ m ih =>
      intro hm hmn
      by_cases hjm : j = m
      · subst hjm; rw [cur, if_pos ⟨by simp [addS], hd⟩]
      · rw [cur, if_neg (fun hh => h2 m (by omega) (by omega) (by have := hh.1; simpa [addS, Ne.symm hjm] using this) hh.2)]
        exact ih (by omega) (by omega)
  exact e1 n hj (Nat.le_refl _)
theorem cur_miss {dst : Nat → Option Nat} {val : Nat → AV} {S : Nat → Bool} {g : Nat → AV} {j t : Nat} (hd : dst j ≠ some t) : ∀ n, cur dst val (addS S j) g n t = cur dst val S g n t := by
  intro m
  induction m with
  | zero => rfl
  | succ m ih =>
    rw [cur, cur, ih]
    by_cases hjm : m = j
    · subst hjm; rw [if_neg (fun h => hd h.2), if_neg (fun h => hd h.2)]
    · simp [addS, hjm]
theorem cur_all {dst : Nat → Option Nat} {val : Nat → AV} {S : Nat → Bool} {g : Nat → AV} {n t : Nat} (h : ∀ i, i < n → S i = true) : cur dst val S g n t = cur dst val (fun _ => true) g n t :=
  cur_reads (Nat.le_refl _) (fun i hi _ => h i hi) fun i h1 h2 => by omega

def valOf (rs : List (AV × List Slot)) (i : Nat) : AV := match rs[i]? with | some x => x.1 | none => .any
def slotsOf (rs : List (AV × List Slot)) (i : Nat) : List Slot := match rs[i]? with | some x => x.2 | none => []
def posOf : List (AV × List Slot) → Nat → Nat
  | _, 0 => 0
  | [], _ + 1 => 0
  | x :: rs, i + 1 => x.2.length + posOf rs i
theorem putA_len (a : AAct) (d : Option Nat) (v : AV) : (putA a d v).length = a.length := by cases d <;> simp [putA]
theorem putA_get (a : AAct) (d : Option Nat) (v : AV) (t : Nat) (ht : t < a.length) : (putA a d v).getD t .any = if d = some t then v else a.getD t .any := by
  cases d with
  | none => simp [putA]
  | some d =>
    simp only [putA, Option.some.injEq]
    by_cases h : d = t
    · subst h; rw [if_pos rfl, List.getD_eq_getElem?_getD, List.getElem?_set_self ht]; rfl
    · rw [if_neg h, List.getD_eq_getElem?_getD, List.getElem?_set_ne h, List.getD_eq_getElem?_getD]
theorem cur_shift (dst : Nat → Option Nat) (val : Nat → AV) (S : Nat → Bool) (g : Nat → AV) (t : Nat) : ∀ m, cur dst val S g (m + 1) t = cur (fun i => dst (i + 1)) (fun i => val (i + 1)) (fun i => S (i + 1)) (fun u => if S 0 = true ∧ dst 0 = some u then val 0 else g u) m t
  | 0 => rfl
  | m + 1 => by rw [cur, cur_shift dst val S g t m, cur]
theorem cur_cong {dst dst' : Nat → Option Nat} {val val' : Nat → AV} {S : Nat → Bool} {g g' : Nat → AV} {t : Nat} (hg : g t = g' t) : ∀ m, (∀ i, i < m → dst i = dst' i) → (∀ i, i < m → val i = val' i) → cur dst val S g m t = cur dst' val' S g' m t
  | 0, _, _ => hg
  | m + 1, h1, h2 => by rw [cur, cur, cur_cong hg m (fun i hi => h1 i (by omega)) (fun i hi => h2 i (by omega)), h1 m (by omega), h2 m (by omega)]

/-- What a chain says of its i-th operation. -/
theorem Chain.at {l0 : List Oper} {l : List Oper} {al : List AOper} {a : AAct} {news : AHeap} {rs : List (AV × List Slot)} {a' : AAct} {news' : AHeap} (h : Chain P h0 l0 l al a news rs a' news') :
    l.length = al.length ∧ rs.length = al.length ∧ a'.length = a.length ∧ (∀ t, t < a.length → a'.getD t .any = cur (dstOf al) (valOf rs) (fun _ => true) (fun u => a.getD u .any) al.length t) ∧ news' = news ++ (rs.map (·.2)).flatten ∧
    ∀ i, i < al.length → ∃ o ao ai, l[i]? = some o ∧ al[i]? = some ao ∧ ao.dst = o.dst ∧ (slotsOf rs i).length ≤ 1 ∧ ai.length = a.length ∧ (∀ t, t < a.length → ai.getD t .any = cur (dstOf al) (valOf rs) (fun _ => true) (fun u => a.getD u .any) i t) ∧
      Yield P h0 l0 o ao.looks ai (h0.length + news.length + posOf rs i) (valOf rs i) (slotsOf rs i) := by
  induction h with
  | nil a news => exact ⟨rfl, rfl, rfl, fun t ht => rfl, by simp, fun i hi => by simp at hi⟩
  | cons o ao l al a news v s rs a' news' hy hd hs hs1 ht ih =>
    obtain ⟨i1, i2, i3, i4, i5, i6⟩ := ih
    rw [putA_len] at i3 i4
    have hg : ∀ t, t < a.length → (putA a o.dst v).getD t .any = if (fun _ : Nat => true) 0 = true ∧ dstOf (ao :: al) 0 = some t then valOf ((v, s) :: rs) 0 else a.getD t .any := by
      intro t ht'
      rw [putA_get _ _ _ _ ht', ← hd]
      simp [dstOf, valOf]
    have hcur : ∀ t, t < a.length → ∀ m, cur (dstOf al) (valOf rs) (fun _ => true) (fun u => (putA a o.dst v).getD u .any) m t = cur (dstOf (ao :: al)) (valOf ((v, s) :: rs)) (fun _ => true) (fun u => a.getD u .any) (m + 1) t := by
      intro t ht' m
      rw [cur_shift]
      exact cur_cong (hg t ht') m (fun i _ => by simp [dstOf]) (fun i _ => by simp [valOf])
    refine ⟨by simp [i1], by simp [i2], i3, fun t ht' => ?_, by simp [i5], fun i hi => ?_⟩
    · rw [i4 t ht', hcur t ht']; rfl
    · cases i with
      | zero => exact ⟨o, ao, a, rfl, rfl, hd, by simpa [slotsOf] using hs1, rfl, fun t ht' => rfl, by simpa [posOf, valOf, slotsOf] using hy⟩
      | succ i =>
        obtain ⟨o', ao', ai, k1, k2, k3, k4, k5, k6, k7⟩ := i6 i (by simpa using hi)
        rw [putA_len] at k5 k6
        refine ⟨o', ao', ai, by simpa using k1, by simpa using k2, k3, by simpa [slotsOf] using k4, k5, fun t ht' => ?_, ?_⟩
        · rw [k6 t ht', hcur t ht']
        · have : h0.length + (news ++ s).length + posOf rs i = h0.length + news.length + posOf ((v, s) :: rs) (i + 1) := by simp [posOf]; omega
          rw [this] at k7
          simpa [valOf, slotsOf] using k7
theorem posOf_lt : ∀ {rs : List (AV × List Slot)} {i j : Nat}, i < j → slotsOf rs i ≠ [] → posOf rs i < posOf rs j
  | [], i, j, _, h => by simp [slotsOf] at h
  | x :: rs, 0, j + 1, _, h => by
    simp only [slotsOf, List.getElem?_cons_zero] at h
    have := List.length_pos_iff.2 h
    simp only [posOf]; omega
  | x :: rs, i + 1, j + 1, hij, h => by
    have := posOf_lt (rs := rs) (i := i) (j := j) (by omega) (by simpa [slotsOf] using h)
    simp only [posOf]; omega
theorem posOf_ne {rs : List (AV × List Slot)} {i j : Nat} (hij : i ≠ j) (hi : slotsOf rs i ≠ []) (hj : slotsOf rs j ≠ []) : posOf rs i ≠ posOf rs j := by
  rcases Nat.lt_or_gt_of_ne hij with h | h
  · have := posOf_lt h hi; omega
  · have := posOf_lt h hj; omega
theorem posOf_get : ∀ {rs : List (AV × List Slot)} {i : Nat} {x : Slot}, slotsOf rs i = [x] → (rs.map (·.2)).flatten[posOf rs i]? = some x
  | [], i, x, h => by simp [slotsOf] at h
  | y :: rs, 0, x, h => by
    have : y.2 = [x] := by simpa [slotsOf] using h
    simp [posOf, this]
  | y :: rs, i + 1, x, h => by
    have ih := posOf_get (rs := rs) (i := i) (x := x) (by simpa [slotsOf] using h)
    simp only [List.map_cons, List.flatten_cons, posOf]
    rw [List.getElem?_append_right (by omega)]
    rw [show y.2.length + posOf rs i - y.2.length = posOf rs i by omega]
    exact ih
/-- Every new slot is some operation's. -/
theorem pos_ex : ∀ {rs : List (AV × List Slot)} {k : Nat}, (∀ i, (slotsOf rs i).length ≤ 1) → k < (rs.map (·.2)).flatten.length → ∃ i x, i < rs.length ∧ slotsOf rs i = [x] ∧ posOf rs i = k
  | [], k, _, h => by simp at h
  | y :: rs, k, h1, h => by
    have hy : y.2.length ≤ 1 := by have := h1 0; simpa [slotsOf] using this
    have h1' : ∀ i, (slotsOf rs i).length ≤ 1 := fun i => by have := h1 (i + 1); simpa [slotsOf] using this
    by_cases hk : k < y.2.length
    · have h1 : y.2.length = 1 := by omega
      obtain ⟨x, hx⟩ := List.length_eq_one_iff.1 h1
      exact ⟨0, x, by simp, by simpa [slotsOf] using hx, by simp [posOf]; omega⟩
    · obtain ⟨i, x, h2, h3, h4⟩ := pos_ex (rs := rs) (k := k - y.2.length) h1' (by simp at h ⊢; omega)
      exact ⟨i + 1, x, by simpa using h2, by simpa [slotsOf] using h3, by simp [posOf, h4]; omega⟩
end Go.Eng
