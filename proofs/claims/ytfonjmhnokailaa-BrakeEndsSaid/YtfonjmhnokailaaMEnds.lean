/- The least ways to a dead end: rounds in place and rounds out of place come to the same (plain). -/
import Derived.Test.YtfonjmhnokailaaBase
import Derived.Test.YtfonjmhnokailaaSmall22
import Derived.KernelRfl
import Derived.Test.YtfonjmhnokailaaTrack0
import Derived.Test.YtfonjmhnokailaaTyInt
import Derived.Test.YtfonjmhnokailaaBrake1
set_option linter.unusedVariables false
set_option linter.unusedSectionVars false
namespace Go.Proofs.Ytfonjmhnokailaa
/-- No further: -1 is: no way. -/
def lq (a b : Int) : Prop := b < 0 ∨ (0 ≤ a ∧ a ≤ b)
theorem lq_refl (a : Int) : lq a a := by unfold lq; omega
theorem lq_trans {a b c : Int} (h : lq a b) (h' : lq b c) : lq a c := by unfold lq at *; omega
theorem lq_anti {a b : Int} (ha : -1 ≤ a) (hb : -1 ≤ b) (h : lq a b) (h' : lq b a) : a = b := by unfold lq at *; omega
def bst (b c l : Int) : Int := if 0 ≤ c ∧ (b < 0 ∨ c + l < b) then c + l else b
theorem bst_mono {b b' c c' l : Int} (h : lq b b') (h' : lq c c') (hl : 0 ≤ l) : lq (bst b c l) (bst b' c' l) := by
  unfold lq bst at *; split <;> split <;> omega
theorem bst_le {b c l : Int} (hl : 0 ≤ l) : lq (bst b c l) b := by unfold lq bst; split <;> omega
theorem bst_le2 {b c l : Int} (hl : 0 ≤ l) (hc : 0 ≤ c) (hb : -1 ≤ b) : lq (bst b c l) (c + l) := by unfold lq bst; split <;> omega
theorem bst_ge {b c l : Int} (hl : 0 ≤ l) (hb : -1 ≤ b) : -1 ≤ bst b c l := by unfold bst; split <;> omega
section
variable (n : Nat) (nx : Nat → List Int) (L : Nat → Int)
def fld (cur : Nat → Int) (b : Int) (l : List Int) : Int := l.foldl (fun b j => bst b (cur j.toNat) (L j.toNat)) b
def jac (cur : Nat → Int) (i : Nat) : Int := fld L cur (cur i) (nx i)
def J : Nat → Nat → Int
  | 0, i => if (nx i).isEmpty then 0 else -1
  | r + 1, i => jac nx L (J r) i
end
section
variable {n : Nat} {nx : Nat → List Int} {L : Nat → Int}
theorem fld_le {cur : Nat → Int} : ∀ {l : List Int} {b : Int}, (∀ j, j ∈ l → 0 ≤ L j.toNat) → lq (fld L cur b l) b
  | [], b, h => lq_refl b
  | j :: l, b, h => lq_trans (fld_le (l := l) (b := bst b (cur j.toNat) (L j.toNat)) fun k hk => h k (List.mem_cons_of_mem _ hk)) (bst_le (h j (List.mem_cons_self ..)))
theorem fld_ge {cur : Nat → Int} : ∀ {l : List Int} {b : Int}, (∀ j, j ∈ l → 0 ≤ L j.toNat) → -1 ≤ b → -1 ≤ fld L cur b l
  | [], b, h, hb => hb
  | j :: l, b, h, hb => fld_ge (l := l) (fun k hk => h k (List.mem_cons_of_mem _ hk)) (bst_ge (h j (List.mem_cons_self ..)) hb)
theorem fld_le2 {cur : Nat → Int} : ∀ {l : List Int} {b : Int}, (∀ j, j ∈ l → 0 ≤ L j.toNat) → -1 ≤ b → ∀ j, j ∈ l → 0 ≤ cur j.toNat → lq (fld L cur b l) (cur j.toNat + L j.toNat)
  | [], b, h, hb, j, hj, hc => by cases hj
  | k :: l, b, h, hb, j, hj, hc => by
    have hk := h k (List.mem_cons_self ..)
    have ht : ∀ j, j ∈ l → 0 ≤ L j.toNat := fun j hj => h j (List.mem_cons_of_mem _ hj)
    rcases List.mem_cons.1 hj with rfl | hj
    · exact lq_trans (fld_le (l := l) (b := bst b (cur j.toNat) (L j.toNat)) ht) (bst_le2 hk hc hb)
    · exact fld_le2 (l := l) ht (bst_ge hk hb) j hj hc
theorem fld_is {cur : Nat → Int} : ∀ {l : List Int} {b : Int}, fld L cur b l = b ∨ ∃ j, j ∈ l ∧ 0 ≤ cur j.toNat ∧ fld L cur b l = cur j.toNat + L j.toNat
  | [], b => .inl rfl
  | k :: l, b => by
    rcases fld_is (cur := cur) (l := l) (b := bst b (cur k.toNat) (L k.toNat)) with h | ⟨j, h1, h2, h3⟩
    · have e : fld L cur b (k :: l) = bst b (cur k.toNat) (L k.toNat) := h
      rw [e]
      unfold bst
      split
      · rename_i hc; exact .inr ⟨k, List.mem_cons_self .., hc.1, rfl⟩
      · exact .inl rfl
    · exact .inr ⟨j, List.mem_cons_of_mem _ h1, h2, h3⟩
variable (hin : ∀ i, i < n → ∀ j, j ∈ nx i → j.toNat < n) (hL : ∀ i, i < n → 1 ≤ L i)
include hin hL
theorem nx_pos {i : Nat} (hi : i < n) : ∀ j, j ∈ nx i → 0 ≤ L j.toNat := fun j hj => by have := hL _ (hin i hi j hj); omega
theorem J_ge : ∀ (r : Nat) {i : Nat}, i < n → -1 ≤ J nx L r i
  | 0, i, hi => by unfold J; split <;> omega
  | r + 1, i, hi => fld_ge (nx_pos hin hL hi) (J_ge r hi)
theorem J_down (r : Nat) {i : Nat} (hi : i < n) : lq (J nx L (r + 1) i) (J nx L r i) := fld_le (nx_pos hin hL hi)
theorem J_downs (r : Nat) {i : Nat} (hi : i < n) : ∀ d, lq (J nx L (r + d) i) (J nx L r i)
  | 0 => lq_refl _
  | d + 1 => lq_trans (J_down hin hL (r + d) hi) (J_downs r hi d)
theorem J_edge (r : Nat) {i : Nat} (hi : i < n) {j : Int} (hj : j ∈ nx i) (hc : 0 ≤ J nx L r j.toNat) : lq (J nx L (r + 1) i) (J nx L r j.toNat + L j.toNat) :=
  fld_le2 (nx_pos hin hL hi) (J_ge hin hL r hi) j hj hc
theorem J_new (r : Nat) {i : Nat} (hi : i < n) (h : J nx L (r + 1) i ≠ J nx L r i) : ∃ j, j ∈ nx i ∧ 0 ≤ J nx L r j.toNat ∧ J nx L (r + 1) i = J nx L r j.toNat + L j.toNat := by
  rcases fld_is (L := L) (cur := J nx L r) (l := nx i) (b := J nx L r i) with h' | h'
  · exact absurd h' h
  · exact h'
theorem J_chain : ∀ (r i : Nat), i < n → J nx L (r + 1) i ≠ J nx L r i → ∃ c : Nat → Nat, c r = i ∧ (∀ s, s ≤ r → c s < n ∧ 0 ≤ J nx L (s + 1) (c s)) ∧ ∀ s, s < r → J nx L (s + 1) (c s) < J nx L (s + 2) (c (s + 1)) := by
  intro r
  induction r with
  | zero =>
    intro i hi h
    obtain ⟨j, h1, h2, h3⟩ := J_new hin hL 0 hi h
    have := hL _ (hin i hi j h1)
    refine ⟨fun _ => i, rfl, fun s hs => ⟨hi, ?_⟩, fun s hs => by omega⟩
    obtain rfl : s = 0 := by omega
    show 0 ≤ J nx L 1 i
    rw [h3]; omega
  | succ r ih =>
    intro i hi h
    obtain ⟨j, h1, h2, h3⟩ := J_new hin hL (r + 1) hi h
    have hjn := hin i hi j h1
    have hLj := hL _ hjn
    have hup : J nx L (r + 1) j.toNat ≠ J nx L r j.toNat := by
      intro e
      rw [e] at h2 h3
      have k1 := J_edge hin hL r hi h1 h2
      rw [← h3] at k1
      exact h (lq_anti (J_ge hin hL (r + 2) hi) (J_ge hin hL (r + 1) hi) (J_down hin hL (r + 1) hi) k1)
    obtain ⟨c, c1, c2, c3⟩ := ih j.toNat hjn hup
    refine ⟨fun s => if s = r + 1 then i else c s, by simp, fun s hs => ?_, fun s hs => ?_⟩
    · by_cases hsr : s = r + 1
      · subst hsr
        simp only [if_true]
        exact ⟨hi, by rw [h3]; omega⟩
      · simp only [hsr, if_false]
        exact c2 s (by omega)
    · have hs1 : s ≠ r + 1 := by omega
      simp only [hs1, if_false]
      by_cases hsr : s = r
      · subst hsr
        simp only [if_true]
        rw [c1, h3]
        omega
      · have : s + 1 ≠ r + 1 := by omega
        simp only [this, if_false]
        exact c3 s (by omega)
omit hin hL in
theorem pigeon : ∀ (n : Nat) (f : Nat → Nat), (∀ k, k ≤ n → f k < n) → ∃ a b, a < b ∧ b ≤ n ∧ f a = f b
  | 0, f, h => by have := h 0 (by omega); omega
  | n + 1, f, h => by
    by_cases hx : ∃ a, a ≤ n ∧ f a = f (n + 1)
    · obtain ⟨a, h1, h2⟩ := hx
      exact ⟨a, n + 1, by omega, by omega, h2⟩
    · -- give the value n the place of the last one
      have hx : ∀ a, a ≤ n → f a ≠ f (n + 1) := fun a ha e => hx ⟨a, ha, e⟩
      obtain ⟨a, b, h1, h2, h3⟩ := pigeon n (fun k => if f k = n then f (n + 1) else f k) (fun k hk => by
        have h1 := h k (by omega)
        have h2 := h (n + 1) (by omega)
        have h3 := hx k hk
        show (if f k = n then f (n + 1) else f k) < n
        split <;> omega)
      refine ⟨a, b, h1, by omega, ?_⟩
      have ha := hx a (by omega)
      have hb := hx b (by omega)
      have h3 : (if f a = n then f (n + 1) else f a) = (if f b = n then f (n + 1) else f b) := h3
      split at h3 <;> split at h3 <;> omega
/-- After as many rounds as there are segments nothing changes any more. -/
theorem J_fix {i : Nat} (hi : i < n) : J nx L (n + 1) i = J nx L n i := by
  refine Classical.byContradiction fun h => ?_
  obtain ⟨c, c1, c2, c3⟩ := J_chain hin hL n i hi h
  obtain ⟨a, b, h1, h2, h3⟩ := pigeon n c fun k hk => (c2 k hk).1
  have up : ∀ d, a + d ≤ n → J nx L (a + 1) (c a) + d ≤ J nx L (a + d + 1) (c (a + d)) := by
    intro d
    induction d with
    | zero => intro _; show J nx L (a + 1) (c a) + 0 ≤ J nx L (a + 1) (c a); omega
    | succ d ih =>
      intro hd
      have := ih (by omega)
      have k := c3 (a + d) (by omega)
      have e : a + (d + 1) = a + d + 1 := by omega
      rw [e]
      have e2 : a + d + 1 + 1 = a + d + 2 := by omega
      rw [e2]
      omega
  have k1 := up (b - a) (by omega)
  have e : a + (b - a) = b := by omega
  rw [e] at k1
  have k2 := J_downs hin hL (a + 1) (c2 b h2).1 (b - a)
  have e2 : a + 1 + (b - a) = b + 1 := by omega
  rw [e2, ← h3] at k2
  rw [← h3] at k1
  have k3 := (c2 a (by omega)).2
  unfold lq at k2
  omega
/-- The least ways: no edge makes them less. -/
theorem J_low {i : Nat} (hi : i < n) {j : Int} (hj : j ∈ nx i) {ci cj : Int} (h1 : lq (J nx L n i) ci) (h2 : lq (J nx L n j.toNat) cj) : lq (J nx L n i) (bst ci cj (L j.toNat)) := by
  have hl := hL _ (hin i hi j hj)
  unfold bst
  split
  · rename_i hc
    have h3 : 0 ≤ J nx L n j.toNat ∧ J nx L n j.toNat ≤ cj := by unfold lq at h2; omega
    have k := J_edge hin hL n hi hj h3.1
    rw [J_fix hin hL hi] at k
    unfold lq at *
    omega
  · exact h1
theorem J_start {i : Nat} (hi : i < n) : lq (J nx L n i) (J nx L 0 i) := by
  have := J_downs hin hL 0 hi n
  rw [Nat.zero_add] at this
  exact this
end
end Go.Proofs.Ytfonjmhnokailaa


set_option linter.unusedVariables false
set_option linter.unusedSectionVars false
namespace Go.Proofs.Ytfonjmhnokailaa
/-- In place: in the round behind the r-th, at segment i, behind k of its next ones. -/
structure Gs (n : Nat) (nx : Nat → List Int) (L : Nat → Int) (r i k : Nat) (B : Int) (f : Nat → Int) : Prop where
  lo : ∀ x, x < n → lq (J nx L n x) (f x)
  ge : ∀ x, x < n → -1 ≤ f x ∧ f x ≤ B
  old : ∀ x, x < i → x < n → lq (f x) (J nx L (r + 1) x)
  new : ∀ x, i < x → x < n → lq (f x) (J nx L r x)
  at_ : i < n → lq (f i) (fld L (J nx L r) (J nx L r i) ((nx i).take k))
structure Gr0 (n : Nat) (nx : Nat → List Int) (L : Nat → Int) (r : Nat) (B : Int) (f : Nat → Int) : Prop where
  lo : ∀ x, x < n → lq (J nx L n x) (f x)
  ge : ∀ x, x < n → -1 ≤ f x ∧ f x ≤ B
  up : ∀ x, x < n → lq (f x) (J nx L r x)
def upd (f : Nat → Int) (i : Nat) (v : Int) : Nat → Int := fun x => if x = i then v else f x
section
variable {n : Nat} {nx : Nat → List Int} {L : Nat → Int} (hin : ∀ i, i < n → ∀ j, j ∈ nx i → j.toNat < n) (hL : ∀ i, i < n → 1 ≤ L i) {r i k : Nat} {B : Int} {f : Nat → Int}
include hin hL
theorem gs_first (hB : 0 ≤ B) (hf : ∀ x, x < n → f x = J nx L 0 x) : Gr0 n nx L 0 B f := by
  refine ⟨fun x hx => by rw [hf x hx]; exact J_start hin hL hx, fun x hx => ?_, fun x hx => by rw [hf x hx]; exact lq_refl _⟩
  rw [hf x hx]; unfold J; split <;> omega
theorem gs_start (h : Gr0 n nx L r B f) : Gs n nx L r 0 0 B f :=
  ⟨h.lo, h.ge, fun x hx => by omega, fun x _ hx => h.up x hx, fun hi => h.up 0 hi⟩
theorem gs_round (h : Gs n nx L r n 0 B f) : Gr0 n nx L (r + 1) B f := ⟨h.lo, h.ge, fun x hx => h.old x hx hx⟩
theorem gs_next (hi : i < n) (h : Gs n nx L r i (nx i).length B f) : Gs n nx L r (i + 1) 0 B f := by
  refine ⟨h.lo, h.ge, fun x hx hn => ?_, fun x hx hn => h.new x (by omega) hn, fun hn => h.new (i + 1) (by omega) hn⟩
  by_cases hxi : x = i
  · subst hxi
    have := h.at_ hi
    rw [List.take_length] at this
    exact this
  · exact h.old x (by omega) hn
theorem gs_of (hi : i < n) (h : Gs n nx L r i k B f) {x : Nat} (hx : x < n) : lq (f x) (J nx L r x) := by
  rcases Nat.lt_trichotomy x i with h1 | h1 | h1
  · exact lq_trans (h.old x h1 hx) (J_down hin hL r hx)
  · subst h1
    exact lq_trans (h.at_ hi) (fld_le fun j hj => nx_pos hin hL hi j (List.mem_of_mem_take hj))
  · exact h.new x h1 hx
/-- One edge more. -/
theorem gs_edge (hi : i < n) (h : Gs n nx L r i k B f) {j : Int} (hj : (nx i)[k]? = some j) {B' : Int} (hB : B + L j.toNat ≤ B') (hB0 : 0 ≤ L j.toNat) {g : Nat → Int} (hg : ∀ x, x < n → g x = if x = i then bst (f i) (f j.toNat) (L j.toNat) else f x) : Gs n nx L r i (k + 1) B' g := by
  have hm : j ∈ nx i := List.mem_of_getElem? hj
  have hjn := hin i hi j hm
  have hl := hL _ hjn
  have e : (nx i).take (k + 1) = (nx i).take k ++ [j] := by rw [List.take_add_one, hj]; rfl
  refine ⟨fun x hx => ?_, fun x hx => ?_, fun x hxi hx => ?_, fun x hxi hx => ?_, fun _ => ?_⟩
  · rw [hg x hx]
    split
    · rename_i e; subst e
      exact J_low hin hL hx hm (h.lo x hx) (h.lo _ hjn)
    · exact h.lo x hx
  · rw [hg x hx]
    have h1 := h.ge x hx
    have h2 := h.ge _ hjn
    have h3 := h.ge i hi
    split
    · unfold bst; split <;> omega
    · omega
  · rw [hg x hx, if_neg (by omega)]; exact h.old x hxi hx
  · rw [hg x hx, if_neg (by omega)]; exact h.new x hxi hx
  · rw [hg i hi, if_pos rfl, e]
    unfold fld
    rw [List.foldl_append]
    exact bst_mono (h.at_ hi) (gs_of hin hL hi h hjn) (by omega)
theorem gs_end (h : Gr0 n nx L n B f) {x : Nat} (hx : x < n) : f x = J nx L n x :=
  lq_anti (h.ge x hx).1 (J_ge hin hL n hx) (h.up x hx) (h.lo x hx)
end
end Go.Proofs.Ytfonjmhnokailaa


set_option linter.unusedVariables false
set_option linter.unusedSimpArgs false
namespace Go.Proofs.Ytfonjmhnokailaa
open Go Go.RowKit Go.Eng
set_option maxRecDepth 100000
def nxF (ss : List Sg) (i : Nat) : List Int := match ss[i]? with | some s => s.nx | none => []
def lenF (ss : List Sg) (i : Nat) : Int := match ss[i]? with | some s => s.len | none => 1
theorem nx_in {ss : List Sg} {gs : List Gr} (h : TrackOk ss gs) : ∀ i, i < ss.length → ∀ j, j ∈ nxF ss i → j.toNat < ss.length := by
  intro i hi j hj
  unfold nxF at hj
  rw [List.getElem?_eq_getElem hi] at hj
  obtain ⟨k, hk⟩ := List.mem_iff_getElem?.1 hj
  have := (h.seg i hi ss[i] (List.getElem?_eq_getElem hi)).nx k (List.getElem?_eq_some_iff.1 hk).1 j hk
  omega
theorem len_pos {ss : List Sg} {gs : List Gr} (h : TrackOk ss gs) : ∀ i, i < ss.length → 1 ≤ lenF ss i := by
  intro i hi
  unfold lenF
  rw [List.getElem?_eq_getElem hi]
  exact (h.seg i hi ss[i] (List.getElem?_eq_getElem hi)).pos
/-- A list of numbers, told by their places. -/
structure Own (n : Nat) (os : List (List AV)) (f : Nat → Int) : Prop where
  len : os.length = n
  at_ : ∀ x, x < n → os[x]? = some [.int .i64 (f x)]
theorem Own.set {n : Nat} {os : List (List AV)} {f : Nat → Int} (h : Own n os f) {i : Nat} (v : Int) : Own n (os.set i [.int .i64 v]) (upd f i v) := by
  refine ⟨by rw [List.length_set]; exact h.len, fun x hx => ?_⟩
  unfold upd
  by_cases hxi : x = i
  · subst hxi
    rw [if_pos rfl, List.getElem?_set_self (by rw [h.len]; exact hx)]
  · rw [if_neg hxi, List.getElem?_set_ne (Ne.symm hxi)]
    exact h.at_ x hx
theorem Own.up {n : Nat} {os : List (List AV)} {f : Nat → Int} (h : Own n os f) : Up0 os := by
  have e : os = (List.range n).map fun x => [AV.int .i64 (f x)] := by
    apply List.ext_getElem?
    intro x
    by_cases hx : x < n
    · rw [h.at_ x hx, List.getElem?_map, List.getElem?_range hx]; rfl
    · rw [List.getElem?_eq_none (by rw [h.len]; omega), List.getElem?_eq_none (by rw [List.length_map, List.length_range]; omega)]
  rw [e]
  exact up_map (f := fun x => [AV.int .i64 (f x)]) (fun d => rfl) _
theorem Own.rep (n : Nat) : Own n (List.replicate n [.int .i64 0]) (fun _ => 0) := ⟨by simp, fun x hx => by simp [hx]⟩
theorem e_ends (ss : List Sg) (gs : List Gr) (es ds : List (List AV)) (hes : es = ss.map sgRow) (hds : ds = gs.map grRow) (hok : TrackOk ss gs) : PCalls Try.prog 8 [.agg [.list 3 es, .list 5 ds]] (fun r => ∃ os, r = .list 1 os ∧ Own ss.length os (J (nxF ss) (lenF ss) ss.length)) := by
  have hu : Up0 es := by rw [hes]; exact up_sg ss
  have hud : Up0 ds := by rw [hds]; exact up_gr gs
  have hel : es.length = ss.length := by rw [hes]; simp
  have hin := nx_in hok
  have hL := len_pos hok
  (refine PCalls.ofY Try.func8 (by kernel_rfl) (by kernel_rfl) fun w hw R hR => ?_); (obtain ⟨wbin, wcmp, wun, wconv, wnot, wbeq, wmm, wscmp, wsadd, wslen, wsat, weqs, wlen, wnlen, wofNat, wtake, wdrop, wapp, wzero, wnat⟩ := w); (have hbin : wbin = binStd := congrArg Prims.bin hw); (have hcmp : wcmp = cmpStd := congrArg Prims.cmp hw); (have hun : wun = unStd := congrArg Prims.un hw); (have hconv : wconv = fun k n => k.wrap n := congrArg Prims.conv hw); (have hnot : wnot = fun b => !b := congrArg Prims.not hw); (have hbeq : wbeq = fun a b => a == b := congrArg Prims.beq hw); (have hmm : wmm = maxI := congrArg Prims.mm hw); (have hscmp : wscmp = scmpStd := congrArg Prims.scmp hw); (have hsadd : wsadd = fun x y => x ++ y := congrArg Prims.sadd hw); (have hslen : wslen = fun s => (s.size : Int) := congrArg Prims.slen hw); (have hsat : wsat = std.sat := congrArg Prims.sat hw); (have heqs : weqs = fun a b os => (eqOffs a b os).getD false := congrArg Prims.eqs hw); (have hlen : wlen = fun es => (es.length : Int) := congrArg Prims.len hw); (have hnlen : wnlen = fun es => es.length := congrArg Prims.nlen hw); (have hofNat : wofNat = (fun n : Nat => (n : Int)) := congrArg Prims.ofNat hw); (have htake : wtake = fun es b => es.take b.toNat := congrArg Prims.take hw); (have hdrop : wdrop = fun es a => es.drop a.toNat := congrArg Prims.drop hw); (have happ : wapp = fun a b => a ++ b := congrArg Prims.app hw); (have hzero : wzero = fun n z => List.replicate n.toNat z := congrArg Prims.zero hw); (have hnat : wnat = fun n => n.toNat := congrArg Prims.nat hw); (conv => arg 2; cbv); (generalize hP : Try.prog = P); cbv
  (obtain ⟨L, eL, L0, Ln⟩ : ∃ L : Int, wlen es = L ∧ 0 ≤ L ∧ L.toNat = es.length := ⟨(es.length : Int), by rw [hlen], Int.natCast_nonneg _, Int.toNat_natCast _⟩)
  simp only [eL]
  refine Mk.mk (List.replicate L.toNat [.int .i64 0]) L.toNat L0 (Int.le_refl _) (by have := hok.le; omega) (by have := hok.le; omega) rfl rfl ?_
  obtain ⟨n, en⟩ : ∃ n, L.toNat = n := ⟨_, rfl⟩
  obtain ⟨os, eos⟩ : ∃ os, List.replicate L.toNat [AV.int .i64 0] = os := ⟨_, rfl⟩
  have hos : Own n os (fun _ => 0) := by rw [← eos, en]; exact Own.rep n
  rw [eos, en]
  clear eos
  cbv
  have nL : n = ss.length := by omega
  have huo := hos.up
  refine Loop.data hw (S := Int × List (List AV)) (fun s => fr 90 [(1, .ref 0 2 0 0), (3, .sl 1 1 0 n), (16, .list 3 es), (17, .int .i64 L), (18, .int .i64 s.1)]) (fun s => [.live 2 [[.list 3 es, .list 5 ds]], .live 1 s.2]) (fun s => 0 ≤ s.1 ∧ s.1 ≤ L ∧ Own n s.2 (fun x => if x < s.1.toNat then J (nxF ss) (lenF ss) 0 x else 0)) (fun s => (L - s.1).toNat) (0, os) (by (refine Wk.eqz (id) (by first | exact fun i _ j _ e => e | (simp only [List.length_cons, List.length_nil]; decide)) ?_; cbv; (repeat' (first | exact trivial | rfl | assumption | apply And.intro | (simp only [hbin, hcmp, hun, hconv, hnot, hbeq, hmm, hscmp, hsadd, hslen, hsat, heqs, hofNat, binStd, cmpStd, unStd, scmpStd, maxI, Bool.not_eq_true', Bool.not_eq_false', decide_eq_true_eq, decide_eq_false_iff_not, Int.not_lt, Int.not_le, if_true, if_false, Bool.false_eq_true, beq_iff_eq, bne_iff_ne, ne_eq, Bool.not_eq_eq_eq_not, Bool.not_true, Bool.not_false, beq_eq_false_iff_ne, bne_eq_false_iff_eq, Int.ofNat_eq_natCast, Bool.not_not, not_true_eq_false, not_false_eq_true, reduceCtorEq]; first | done | assumption) | exact RowsZ.same (by assumption) (by first | assumption | rfl) | exact FzL.mk rfl rfl rfl (by assumption) (by first | assumption | rfl) (by decide) | (refine RowsZ.one ?_; cbv))))) ⟨Int.le_refl _, L0, by simpa using hos⟩ ?_
  rintro ⟨i, os⟩ hinv Q' hN hE hR'
  have hinv : 0 ≤ i ∧ i ≤ L ∧ Own n os (fun x => if x < i.toNat then J (nxF ss) (lenF ss) 0 x else 0) := hinv
  cbv
  obtain ⟨hi0, hi1, hos⟩ := hinv
  have huo := hos.up
  (split <;> rename_i hc <;> (try (simp only [eL] at hc)) <;> (try (simp only [hbin, hcmp, hun, hconv, hnot, hbeq, hmm, hscmp, hsadd, hslen, hsat, heqs, hofNat, binStd, cmpStd, unStd, scmpStd, maxI, Bool.not_eq_true', Bool.not_eq_false', decide_eq_true_eq, decide_eq_false_iff_not, Int.not_lt, Int.not_le, if_true, if_false, Bool.false_eq_true, beq_iff_eq, bne_iff_ne, ne_eq, Bool.not_eq_eq_eq_not, Bool.not_true, Bool.not_false, beq_eq_false_iff_ne, bne_eq_false_iff_eq, Int.ofNat_eq_natCast, Bool.not_not, not_true_eq_false, not_false_eq_true, reduceCtorEq] at hc)) <;> (try cbv))
  · obtain ⟨⟨len, ps, nx⟩, hd, hrow⟩ := get_map (f := sgRow) (ds := ss) (i := i) hi0 (by omega)
    obtain ⟨q1, eq1⟩ : ∃ x, ps.map pcRow = x := ⟨_, rfl⟩
    obtain ⟨n1, en1⟩ : ∃ x, nx.map nxRow = x := ⟨_, rfl⟩
    have hrow : es[i.toNat]? = some [.int .i64 len, .list 2 q1, .list 1 n1] := by rw [hes, ← eq1, ← en1]; exact hrow
    have hnl : n1.length = nx.length := by rw [← en1]; simp
    (obtain ⟨K, eK, K0, Kn⟩ : ∃ L : Int, wlen n1 = L ∧ 0 ≤ L ∧ L.toNat = n1.length := ⟨(n1.length : Int), by rw [hlen], Int.natCast_nonneg _, Int.toNat_natCast _⟩)
    obtain ⟨i', ei'⟩ : ∃ x, i + 1 = x := ⟨_, rfl⟩
    have ei : wbin .add .i64 i 1 = i' := by rw [hbin, i_add (by have := hok.le; omega) (by have := hok.le; omega)]; exact ei'
    have hT : (L - i').toNat < (L - i).toNat := by omega
    refine Idx.mk [.int .i64 len, .list 2 q1, .list 1 n1] hi0 hrow ?_
    cbv
    obtain ⟨k, ek⟩ : ∃ k, i.toNat = k := ⟨_, rfl⟩
    have hk : k < n := by omega
    have ek' : i'.toNat = k + 1 := by omega
    have eJ : J (nxF ss) (lenF ss) 0 k = if nx.isEmpty then 0 else -1 := by
      unfold J nxF
      rw [← ek, hd]
    rw [ek] at hos
    (split <;> rename_i h1 <;> (try (simp only [eK] at h1)) <;> (try (simp only [hbin, hcmp, hun, hconv, hnot, hbeq, hmm, hscmp, hsadd, hslen, hsat, heqs, hofNat, binStd, cmpStd, unStd, scmpStd, maxI, Bool.not_eq_true', Bool.not_eq_false', decide_eq_true_eq, decide_eq_false_iff_not, Int.not_lt, Int.not_le, if_true, if_false, Bool.false_eq_true, beq_iff_eq, bne_iff_ne, ne_eq, Bool.not_eq_eq_eq_not, Bool.not_true, Bool.not_false, beq_eq_false_iff_ne, bne_eq_false_iff_eq, Int.ofNat_eq_natCast, Bool.not_not, not_true_eq_false, not_false_eq_true, reduceCtorEq] at h1)) <;> (try cbv))
    · refine At.mk k hi0 (by omega) (by rw [Nat.zero_add]; exact ek) ?_
      cbv
      obtain ⟨os', eos'⟩ : ∃ x, os.set k [.int .i64 (-1)] = x := ⟨_, rfl⟩
      refine SetRow.mk [.int .i64 0] os' (by rw [hos.at_ k hk, if_neg (Nat.lt_irrefl _)]) eos'.symm ?_
      have hos' : Own n os' (fun x => if x < i'.toNat then J (nxF ss) (lenF ss) 0 x else 0) := by
        rw [← eos']
        have := hos.set (i := k) (-1)
        refine ⟨this.len, fun x hx => ?_⟩
        rw [this.at_ x hx, ek']
        show some [AV.int .i64 (if x = k then -1 else if x < k then J (nxF ss) (lenF ss) 0 x else 0)] = _
        by_cases hxk : x = k
        · subst hxk
          have k0 : 0 < n1.length := by rw [← Kn]; exact Int.pos_iff_toNat_pos.1 h1
          have hne : nx.isEmpty = false := by cases nx with | nil => exfalso; rw [hnl] at k0; exact absurd k0 (by decide) | cons a b => rfl
          rw [if_pos rfl, if_pos (by omega), eJ, hne]; rfl
        · rw [if_neg hxk]
          by_cases hlt : x < k
          · rw [if_pos hlt, if_pos (by omega)]
          · rw [if_neg hlt, if_neg (by omega)]
      have huo' := hos'.up
      cbv
      simp only [ei]
      refine hN (i', os') _ _ ?hx ?hi hT
      case hx => (refine Wk.eqz (id) (by first | exact fun i _ j _ e => e | (simp only [List.length_cons, List.length_nil]; decide)) ?_; cbv; (repeat' (first | exact trivial | rfl | assumption | apply And.intro | (simp only [hbin, hcmp, hun, hconv, hnot, hbeq, hmm, hscmp, hsadd, hslen, hsat, heqs, hofNat, binStd, cmpStd, unStd, scmpStd, maxI, Bool.not_eq_true', Bool.not_eq_false', decide_eq_true_eq, decide_eq_false_iff_not, Int.not_lt, Int.not_le, if_true, if_false, Bool.false_eq_true, beq_iff_eq, bne_iff_ne, ne_eq, Bool.not_eq_eq_eq_not, Bool.not_true, Bool.not_false, beq_eq_false_iff_ne, bne_eq_false_iff_eq, Int.ofNat_eq_natCast, Bool.not_not, not_true_eq_false, not_false_eq_true, reduceCtorEq]; first | done | assumption) | exact RowsZ.same (by assumption) (by first | assumption | rfl) | exact FzL.mk rfl rfl rfl (by assumption) (by first | assumption | rfl) (by decide) | (refine RowsZ.one ?_; cbv))))
      case hi => exact ⟨by omega, by omega, hos'⟩
    · simp only [ei]
      refine hN (i', os) _ _ ?hx ?hi hT
      case hx => (refine Wk.eqz (id) (by first | exact fun i _ j _ e => e | (simp only [List.length_cons, List.length_nil]; decide)) ?_; cbv; (repeat' (first | exact trivial | rfl | assumption | apply And.intro | (simp only [hbin, hcmp, hun, hconv, hnot, hbeq, hmm, hscmp, hsadd, hslen, hsat, heqs, hofNat, binStd, cmpStd, unStd, scmpStd, maxI, Bool.not_eq_true', Bool.not_eq_false', decide_eq_true_eq, decide_eq_false_iff_not, Int.not_lt, Int.not_le, if_true, if_false, Bool.false_eq_true, beq_iff_eq, bne_iff_ne, ne_eq, Bool.not_eq_eq_eq_not, Bool.not_true, Bool.not_false, beq_eq_false_iff_ne, bne_eq_false_iff_eq, Int.ofNat_eq_natCast, Bool.not_not, not_true_eq_false, not_false_eq_true, reduceCtorEq]; first | done | assumption) | exact RowsZ.same (by assumption) (by first | assumption | rfl) | exact FzL.mk rfl rfl rfl (by assumption) (by first | assumption | rfl) (by decide) | (refine RowsZ.one ?_; cbv))))
      case hi =>
        refine ⟨by omega, by omega, hos.len, fun x hx => ?_⟩
        rw [hos.at_ x hx, ek']
        show some [AV.int .i64 (if x < k then J (nxF ss) (lenF ss) 0 x else 0)] = _
        by_cases hxk : x = k
        · subst hxk
          have k0 : n1.length = 0 := by rw [← Kn]; exact Int.toNat_eq_zero.2 h1
          have hne : nx.isEmpty = true := by cases nx with | nil => rfl | cons a b => exfalso; rw [k0] at hnl; cases hnl
          rw [if_neg (Nat.lt_irrefl _), if_pos (by omega), eJ, hne]; rfl
        · by_cases hlt : x < k
          · rw [if_pos hlt, if_pos (by omega)]
          · rw [if_neg hlt, if_neg (by omega)]
  refine hE _ _ _ ?_
  cbv
  have hos : Own n os (J (nxF ss) (lenF ss) 0) := ⟨hos.len, fun x hx => by rw [hos.at_ x hx, if_pos (by omega)]⟩
  have huo := hos.up
  clear hN hE hR' hc hi0 hi1
  simp only [eL]
  obtain ⟨f, ef⟩ : ∃ f, J (nxF ss) (lenF ss) 0 = f := ⟨_, rfl⟩
  have hG := gs_first hin hL (f := f) (B := 0) (Int.le_refl _) (fun x _ => by rw [ef])
  rw [ef] at hos
  rw [← nL] at hin hL hG
  have hn2 : n ≤ 200 := by have := hok.le; omega
  have hll : ∀ j : Nat, j < n → lenF ss j ≤ 1099511627776 := fun j hj => by
    have hj : j < ss.length := by omega
    unfold lenF
    rw [List.getElem?_eq_getElem hj]
    exact (hok.seg j hj ss[j] (List.getElem?_eq_getElem hj)).le
  refine Loop.data hw (S := Int × List (List AV)) (fun s => fr 90 [(1, .ref 0 2 0 0), (3, .sl 1 1 0 n), (33, .int .i64 L), (34, .int .i64 s.1)]) (fun s => [.live 2 [[.list 3 es, .list 5 ds]], .live 1 s.2]) (fun s => 0 ≤ s.1 ∧ s.1 ≤ L ∧ ∃ f, Own n s.2 f ∧ Gr0 n (nxF ss) (lenF ss) s.1.toNat (s.1 * 439804651110400) f) (fun s => (L - s.1).toNat) (0, os) (by (refine Wk.eqz (id) (by first | exact fun i _ j _ e => e | (simp only [List.length_cons, List.length_nil]; decide)) ?_; cbv; (repeat' (first | exact trivial | rfl | assumption | apply And.intro | (simp only [hbin, hcmp, hun, hconv, hnot, hbeq, hmm, hscmp, hsadd, hslen, hsat, heqs, hofNat, binStd, cmpStd, unStd, scmpStd, maxI, Bool.not_eq_true', Bool.not_eq_false', decide_eq_true_eq, decide_eq_false_iff_not, Int.not_lt, Int.not_le, if_true, if_false, Bool.false_eq_true, beq_iff_eq, bne_iff_ne, ne_eq, Bool.not_eq_eq_eq_not, Bool.not_true, Bool.not_false, beq_eq_false_iff_ne, bne_eq_false_iff_eq, Int.ofNat_eq_natCast, Bool.not_not, not_true_eq_false, not_false_eq_true, reduceCtorEq]; first | done | assumption) | exact RowsZ.same (by assumption) (by first | assumption | rfl) | exact FzL.mk rfl rfl rfl (by assumption) (by first | assumption | rfl) (by decide) | (refine RowsZ.one ?_; cbv))))) ⟨Int.le_refl _, L0, f, hos, by simpa using hG⟩ ?_
  clear hG hos ef f
  rintro ⟨r, os⟩ hinv Q' hN hE hR'
  have hinv : 0 ≤ r ∧ r ≤ L ∧ ∃ f, Own n os f ∧ Gr0 n (nxF ss) (lenF ss) r.toNat (r * 439804651110400) f := hinv
  cbv
  obtain ⟨hr0, hr1, f, hos, hG⟩ := hinv
  have huo := hos.up
  (split <;> rename_i hc <;> (try (simp only [eL] at hc)) <;> (try (simp only [hbin, hcmp, hun, hconv, hnot, hbeq, hmm, hscmp, hsadd, hslen, hsat, heqs, hofNat, binStd, cmpStd, unStd, scmpStd, maxI, Bool.not_eq_true', Bool.not_eq_false', decide_eq_true_eq, decide_eq_false_iff_not, Int.not_lt, Int.not_le, if_true, if_false, Bool.false_eq_true, beq_iff_eq, bne_iff_ne, ne_eq, Bool.not_eq_eq_eq_not, Bool.not_true, Bool.not_false, beq_eq_false_iff_ne, bne_eq_false_iff_eq, Int.ofNat_eq_natCast, Bool.not_not, not_true_eq_false, not_false_eq_true, reduceCtorEq] at hc)) <;> (try cbv))
  · simp only [eL]
    obtain ⟨r', er'⟩ : ∃ x, r + 1 = x := ⟨_, rfl⟩
    have er : wbin .add .i64 r 1 = r' := by rw [hbin, i_add (by omega) (by omega)]; exact er'
    have hT : (L - r').toNat < (L - r).toNat := by omega
    obtain ⟨rn, ern⟩ : ∃ x, r.toNat = x := ⟨_, rfl⟩
    rw [ern] at hG
    refine Loop.data hw (S := Int × List (List AV)) (fun s => fr 90 [(1, .ref 0 2 0 0), (3, .sl 1 1 0 n), (33, .int .i64 L), (34, .int .i64 r), (37, .list 3 es), (38, .int .i64 L), (39, .int .i64 s.1)]) (fun s => [.live 2 [[.list 3 es, .list 5 ds]], .live 1 s.2]) (fun s => 0 ≤ s.1 ∧ s.1 ≤ L ∧ ∃ f, Own n s.2 f ∧ Gs n (nxF ss) (lenF ss) rn s.1.toNat 0 (r * 439804651110400 + s.1 * 2199023255552) f) (fun s => (L - s.1).toNat) (0, os) (by (refine Wk.eqz (id) (by first | exact fun i _ j _ e => e | (simp only [List.length_cons, List.length_nil]; decide)) ?_; cbv; (repeat' (first | exact trivial | rfl | assumption | apply And.intro | (simp only [hbin, hcmp, hun, hconv, hnot, hbeq, hmm, hscmp, hsadd, hslen, hsat, heqs, hofNat, binStd, cmpStd, unStd, scmpStd, maxI, Bool.not_eq_true', Bool.not_eq_false', decide_eq_true_eq, decide_eq_false_iff_not, Int.not_lt, Int.not_le, if_true, if_false, Bool.false_eq_true, beq_iff_eq, bne_iff_ne, ne_eq, Bool.not_eq_eq_eq_not, Bool.not_true, Bool.not_false, beq_eq_false_iff_ne, bne_eq_false_iff_eq, Int.ofNat_eq_natCast, Bool.not_not, not_true_eq_false, not_false_eq_true, reduceCtorEq]; first | done | assumption) | exact RowsZ.same (by assumption) (by first | assumption | rfl) | exact FzL.mk rfl rfl rfl (by assumption) (by first | assumption | rfl) (by decide) | (refine RowsZ.one ?_; cbv))))) ⟨Int.le_refl _, L0, f, hos, by have := gs_start hin hL hG; simpa using this⟩ ?_
    clear hG hos huo
    rintro ⟨i, os⟩ hinv Q2 hN2 hE2 hR2
    have hinv : 0 ≤ i ∧ i ≤ L ∧ ∃ f, Own n os f ∧ Gs n (nxF ss) (lenF ss) rn i.toNat 0 (r * 439804651110400 + i * 2199023255552) f := hinv
    cbv
    obtain ⟨hi0, hi1, f, hos, hG⟩ := hinv
    have huo := hos.up
    (split <;> rename_i hc2 <;> (try (simp only [hbin, hcmp, hun, hconv, hnot, hbeq, hmm, hscmp, hsadd, hslen, hsat, heqs, hofNat, binStd, cmpStd, unStd, scmpStd, maxI, Bool.not_eq_true', Bool.not_eq_false', decide_eq_true_eq, decide_eq_false_iff_not, Int.not_lt, Int.not_le, if_true, if_false, Bool.false_eq_true, beq_iff_eq, bne_iff_ne, ne_eq, Bool.not_eq_eq_eq_not, Bool.not_true, Bool.not_false, beq_eq_false_iff_ne, bne_eq_false_iff_eq, Int.ofNat_eq_natCast, Bool.not_not, not_true_eq_false, not_false_eq_true, reduceCtorEq] at hc2)) <;> (try cbv))
    · obtain ⟨⟨len, ps, nx⟩, hd, hrow⟩ := get_map (f := sgRow) (ds := ss) (i := i) hi0 (by omega)
      obtain ⟨q1, eq1⟩ : ∃ x, ps.map pcRow = x := ⟨_, rfl⟩
      obtain ⟨n1, en1⟩ : ∃ x, nx.map nxRow = x := ⟨_, rfl⟩
      have hrow : es[i.toNat]? = some [.int .i64 len, .list 2 q1, .list 1 n1] := by rw [hes, ← eq1, ← en1]; exact hrow
      have hun : Up0 n1 := by rw [← en1]; exact up_nx nx
      have hnl : n1.length = nx.length := by rw [← en1]; simp
      (obtain ⟨K, eK, K0, Kn⟩ : ∃ L : Int, wlen n1 = L ∧ 0 ≤ L ∧ L.toNat = n1.length := ⟨(n1.length : Int), by rw [hlen], Int.natCast_nonneg _, Int.toNat_natCast _⟩)
      obtain ⟨i', ei'⟩ : ∃ x, i + 1 = x := ⟨_, rfl⟩
      have ei : wbin .add .i64 i 1 = i' := by rw [hbin, i_add (by omega) (by omega)]; exact ei'
      have hT2 : (L - i').toNat < (L - i).toNat := by omega
      obtain ⟨m, em⟩ : ∃ m, i.toNat = m := ⟨_, rfl⟩
      have hm : m < n := by omega
      have em' : i'.toNat = m + 1 := by omega
      have enx : nxF ss m = nx := by unfold nxF; rw [← em, hd]
      rw [em] at hG
      have hK2 : nx.length ≤ 2 := by rw [em] at hd; exact (hok.seg m (by omega) _ hd).two
      refine Idx.mk [.int .i64 len, .list 2 q1, .list 1 n1] hi0 hrow ?_
      cbv
      simp only [eK]
      refine Loop.data hw (S := Int × List (List AV)) (fun s => fr 90 [(1, .ref 0 2 0 0), (3, .sl 1 1 0 n), (6, .int .i64 i), (33, .int .i64 L), (34, .int .i64 r), (37, .list 3 es), (38, .int .i64 L), (39, .int .i64 i), (45, .list 1 n1), (46, .int .i64 K), (47, .int .i64 s.1)]) (fun s => [.live 2 [[.list 3 es, .list 5 ds]], .live 1 s.2]) (fun s => 0 ≤ s.1 ∧ s.1 ≤ K ∧ ∃ f, Own n s.2 f ∧ Gs n (nxF ss) (lenF ss) rn m s.1.toNat (r * 439804651110400 + i * 2199023255552 + s.1 * 1099511627776) f) (fun s => (K - s.1).toNat) (0, os) (by (refine Wk.eqz (id) (by first | exact fun i _ j _ e => e | (simp only [List.length_cons, List.length_nil]; decide)) ?_; cbv; (repeat' (first | exact trivial | rfl | assumption | apply And.intro | (simp only [hbin, hcmp, hun, hconv, hnot, hbeq, hmm, hscmp, hsadd, hslen, hsat, heqs, hofNat, binStd, cmpStd, unStd, scmpStd, maxI, Bool.not_eq_true', Bool.not_eq_false', decide_eq_true_eq, decide_eq_false_iff_not, Int.not_lt, Int.not_le, if_true, if_false, Bool.false_eq_true, beq_iff_eq, bne_iff_ne, ne_eq, Bool.not_eq_eq_eq_not, Bool.not_true, Bool.not_false, beq_eq_false_iff_ne, bne_eq_false_iff_eq, Int.ofNat_eq_natCast, Bool.not_not, not_true_eq_false, not_false_eq_true, reduceCtorEq]; first | done | assumption) | exact RowsZ.same (by assumption) (by first | assumption | rfl) | exact FzL.mk rfl rfl rfl (by assumption) (by first | assumption | rfl) (by decide) | (refine RowsZ.one ?_; cbv))))) ⟨Int.le_refl _, K0, f, hos, by simpa using hG⟩ ?_
      clear hG hos huo
      rintro ⟨k, os⟩ hinv Q3 hN3 hE3 hR3
      have hinv : 0 ≤ k ∧ k ≤ K ∧ ∃ f, Own n os f ∧ Gs n (nxF ss) (lenF ss) rn m k.toNat (r * 439804651110400 + i * 2199023255552 + k * 1099511627776) f := hinv
      cbv
      obtain ⟨hk0, hk1, f, hos, hG⟩ := hinv
      have huo := hos.up
      (split <;> rename_i hc3 <;> (try (simp only [hbin, hcmp, hun, hconv, hnot, hbeq, hmm, hscmp, hsadd, hslen, hsat, heqs, hofNat, binStd, cmpStd, unStd, scmpStd, maxI, Bool.not_eq_true', Bool.not_eq_false', decide_eq_true_eq, decide_eq_false_iff_not, Int.not_lt, Int.not_le, if_true, if_false, Bool.false_eq_true, beq_iff_eq, bne_iff_ne, ne_eq, Bool.not_eq_eq_eq_not, Bool.not_true, Bool.not_false, beq_eq_false_iff_ne, bne_eq_false_iff_eq, Int.ofNat_eq_natCast, Bool.not_not, not_true_eq_false, not_false_eq_true, reduceCtorEq] at hc3)) <;> (try cbv))
      · obtain ⟨j, hj, hjr⟩ := get_map (f := nxRow) (ds := nx) (i := k) hk0 (by omega)
        have hjr : n1[k.toNat]? = some [.int .i64 j] := by rw [← en1]; exact hjr
        obtain ⟨k', ek'⟩ : ∃ x, k + 1 = x := ⟨_, rfl⟩
        have ekk : wbin .add .i64 k 1 = k' := by rw [hbin, i_add (by omega) (by omega)]; exact ek'
        have hT3 : (K - k').toNat < (K - k).toNat := by omega
        refine Idx.mk [.int .i64 j] hk0 hjr ?_
        cbv
        have hjm : j ∈ nxF ss m := by rw [enx]; exact List.mem_of_getElem? hj
        have hjb : 0 ≤ j ∧ j < n := by
          rw [em] at hd
          have := (hok.seg m (by omega) _ hd).nx k.toNat (List.getElem?_eq_some_iff.1 hj).1 j hj
          omega
        obtain ⟨hj0, hjl⟩ := hjb
        obtain ⟨jn, ejn⟩ : ∃ x, j.toNat = x := ⟨_, rfl⟩
        have hjn : jn < n := by omega
        have hjz : 0 + j.toNat = jn := by rw [Nat.zero_add]; exact ejn
        have hmz : 0 + i.toNat = m := by rw [Nat.zero_add]; exact em
        have hil : i < n := by omega
        obtain ⟨⟨len2, ps2, nx2⟩, hd2, hrow2⟩ := get_map (f := sgRow) (ds := ss) (i := j) hj0 (by omega)
        obtain ⟨q2, eq2⟩ : ∃ x, ps2.map pcRow = x := ⟨_, rfl⟩
        obtain ⟨n2, en2⟩ : ∃ x, nx2.map nxRow = x := ⟨_, rfl⟩
        have hrow2 : es[j.toNat]? = some [.int .i64 len2, .list 2 q2, .list 1 n2] := by rw [hes, ← eq2, ← en2]; exact hrow2
        have el2 : lenF ss jn = len2 := by unfold lenF; rw [← ejn, hd2]
        have hl1 := hL jn hjn
        have hl2 := hll jn hjn
        rw [el2] at hl1 hl2
        have hrj := hos.at_ jn hjn
        have hri := hos.at_ m hm
        have hgj := hG.ge jn hjn
        have hgi := hG.ge m hm
        obtain ⟨cj, ecj⟩ : ∃ x, f jn = x := ⟨_, rfl⟩
        obtain ⟨ci, eci⟩ : ∃ x, f m = x := ⟨_, rfl⟩
        rw [ecj] at hrj hgj
        rw [eci] at hri hgi
        obtain ⟨fa, efa⟩ : ∃ x, cj + len2 = x := ⟨_, rfl⟩
        have efw : wbin .add .i64 cj len2 = fa := by rw [hbin, i_add (by omega) (by omega)]; exact efa
        obtain ⟨os', eos'⟩ : ∃ x, os.set m [.int .i64 fa] = x := ⟨_, rfl⟩
        have hos' : Own n os' (upd f m fa) := by rw [← eos']; exact hos.set fa
        have huo' := hos'.up
        have ekn : k'.toNat = k.toNat + 1 := by omega
        have hkey : ∀ g, (∀ x, x < n → g x = if x = m then bst ci cj len2 else f x) → Gs n (nxF ss) (lenF ss) rn m k'.toNat (r * 439804651110400 + i * 2199023255552 + k' * 1099511627776) g := by
          intro g hg
          rw [ekn]
          refine gs_edge hin hL hm hG (j := j) (by rw [enx]; exact hj) (by rw [ejn, el2]; omega) (by rw [ejn, el2]; omega) fun x hx => ?_
          rw [hg x hx, ejn, el2, ecj, eci]
        repeat' (first
          | (simp only [efw, ekk]; cbv)
          | (simp only [efw, ekk])
          | (refine At.mk jn hj0 hjl hjz ?_; cbv)
          | (refine At.mk m hi0 hil hmz ?_; cbv)
          | (refine RowOf.mk [.int .i64 cj] hrj ?_; cbv)
          | (refine RowOf.mk [.int .i64 ci] hri ?_; cbv)
          | (refine Idx.mk [.int .i64 len2, .list 2 q2, .list 1 n2] hj0 hrow2 ?_; cbv)
          | (refine SetRow.mk [.int .i64 ci] os' hri eos'.symm ?_; cbv)
          | (split <;> rename_i h <;> (try (simp only [efw, ekk] at h)) <;> (try (simp only [hbin, hcmp, hun, hconv, hnot, hbeq, hmm, hscmp, hsadd, hslen, hsat, heqs, hofNat, binStd, cmpStd, unStd, scmpStd, maxI, Bool.not_eq_true', Bool.not_eq_false', decide_eq_true_eq, decide_eq_false_iff_not, Int.not_lt, Int.not_le, if_true, if_false, Bool.false_eq_true, beq_iff_eq, bne_iff_ne, ne_eq, Bool.not_eq_eq_eq_not, Bool.not_true, Bool.not_false, beq_eq_false_iff_ne, bne_eq_false_iff_eq, Int.ofNat_eq_natCast, Bool.not_not, not_true_eq_false, not_false_eq_true, reduceCtorEq] at h)) <;> (try cbv)))
        all_goals first
          | (refine hN3 (k', os') _ _ ?hx ?hi hT3
             case hx => (refine Wk.eqz (id) (by first | exact fun i _ j _ e => e | (simp only [List.length_cons, List.length_nil]; decide)) ?_; cbv; (repeat' (first | exact trivial | rfl | assumption | apply And.intro | (simp only [hbin, hcmp, hun, hconv, hnot, hbeq, hmm, hscmp, hsadd, hslen, hsat, heqs, hofNat, binStd, cmpStd, unStd, scmpStd, maxI, Bool.not_eq_true', Bool.not_eq_false', decide_eq_true_eq, decide_eq_false_iff_not, Int.not_lt, Int.not_le, if_true, if_false, Bool.false_eq_true, beq_iff_eq, bne_iff_ne, ne_eq, Bool.not_eq_eq_eq_not, Bool.not_true, Bool.not_false, beq_eq_false_iff_ne, bne_eq_false_iff_eq, Int.ofNat_eq_natCast, Bool.not_not, not_true_eq_false, not_false_eq_true, reduceCtorEq]; first | done | assumption) | exact RowsZ.same (by assumption) (by first | assumption | rfl) | exact FzL.mk rfl rfl rfl (by assumption) (by first | assumption | rfl) (by decide) | (refine RowsZ.one ?_; cbv))))
             case hi =>
               refine ⟨by omega, by omega, upd f m fa, hos', hkey _ fun x hx => ?_⟩
               unfold upd bst
               split
               · split <;> omega
               · rfl)
          | (refine hN3 (k', os) _ _ ?hx ?hi hT3
             case hx => (refine Wk.eqz (id) (by first | exact fun i _ j _ e => e | (simp only [List.length_cons, List.length_nil]; decide)) ?_; cbv; (repeat' (first | exact trivial | rfl | assumption | apply And.intro | (simp only [hbin, hcmp, hun, hconv, hnot, hbeq, hmm, hscmp, hsadd, hslen, hsat, heqs, hofNat, binStd, cmpStd, unStd, scmpStd, maxI, Bool.not_eq_true', Bool.not_eq_false', decide_eq_true_eq, decide_eq_false_iff_not, Int.not_lt, Int.not_le, if_true, if_false, Bool.false_eq_true, beq_iff_eq, bne_iff_ne, ne_eq, Bool.not_eq_eq_eq_not, Bool.not_true, Bool.not_false, beq_eq_false_iff_ne, bne_eq_false_iff_eq, Int.ofNat_eq_natCast, Bool.not_not, not_true_eq_false, not_false_eq_true, reduceCtorEq]; first | done | assumption) | exact RowsZ.same (by assumption) (by first | assumption | rfl) | exact FzL.mk rfl rfl rfl (by assumption) (by first | assumption | rfl) (by decide) | (refine RowsZ.one ?_; cbv))))
             case hi =>
               refine ⟨by omega, by omega, f, hos, hkey _ fun x hx => ?_⟩
               unfold bst
               split
               · rename_i e
                 rw [e, eci]
                 split <;> omega
               · rfl)
      · refine hE3 _ _ _ ?_
        cbv
        simp only [ei]
        have hG' : Gs n (nxF ss) (lenF ss) rn i'.toNat 0 (r * 439804651110400 + i' * 2199023255552) f := by
          have e1 : k.toNat = (nxF ss m).length := by rw [enx]; omega
          rw [e1] at hG
          rw [em']
          have := gs_next hin hL hm hG
          exact ⟨this.lo, fun x hx => by have := this.ge x hx; omega, this.old, this.new, this.at_⟩
        refine hN2 (i', os) _ _ ?hx ?hi hT2
        case hx => (refine Wk.eqz (id) (by first | exact fun i _ j _ e => e | (simp only [List.length_cons, List.length_nil]; decide)) ?_; cbv; (repeat' (first | exact trivial | rfl | assumption | apply And.intro | (simp only [hbin, hcmp, hun, hconv, hnot, hbeq, hmm, hscmp, hsadd, hslen, hsat, heqs, hofNat, binStd, cmpStd, unStd, scmpStd, maxI, Bool.not_eq_true', Bool.not_eq_false', decide_eq_true_eq, decide_eq_false_iff_not, Int.not_lt, Int.not_le, if_true, if_false, Bool.false_eq_true, beq_iff_eq, bne_iff_ne, ne_eq, Bool.not_eq_eq_eq_not, Bool.not_true, Bool.not_false, beq_eq_false_iff_ne, bne_eq_false_iff_eq, Int.ofNat_eq_natCast, Bool.not_not, not_true_eq_false, not_false_eq_true, reduceCtorEq]; first | done | assumption) | exact RowsZ.same (by assumption) (by first | assumption | rfl) | exact FzL.mk rfl rfl rfl (by assumption) (by first | assumption | rfl) (by decide) | (refine RowsZ.one ?_; cbv))))
        case hi => exact ⟨by omega, by omega, f, hos, hG'⟩
    · refine hE2 _ _ _ ?_
      cbv
      simp only [er]
      have eb : r * 439804651110400 + L * 2199023255552 ≤ r' * 439804651110400 := by omega
      have hG' : Gr0 n (nxF ss) (lenF ss) r'.toNat (r' * 439804651110400) f := by
        have e1 : i.toNat = n := by omega
        have e2 : r'.toNat = rn + 1 := by omega
        rw [e1] at hG
        rw [e2]
        have := gs_round hin hL hG
        exact ⟨this.lo, fun x hx => by have := this.ge x hx; omega, this.up⟩
      refine hN (r', os) _ _ ?hx ?hi hT
      case hx => (refine Wk.eqz (id) (by first | exact fun i _ j _ e => e | (simp only [List.length_cons, List.length_nil]; decide)) ?_; cbv; (repeat' (first | exact trivial | rfl | assumption | apply And.intro | (simp only [hbin, hcmp, hun, hconv, hnot, hbeq, hmm, hscmp, hsadd, hslen, hsat, heqs, hofNat, binStd, cmpStd, unStd, scmpStd, maxI, Bool.not_eq_true', Bool.not_eq_false', decide_eq_true_eq, decide_eq_false_iff_not, Int.not_lt, Int.not_le, if_true, if_false, Bool.false_eq_true, beq_iff_eq, bne_iff_ne, ne_eq, Bool.not_eq_eq_eq_not, Bool.not_true, Bool.not_false, beq_eq_false_iff_ne, bne_eq_false_iff_eq, Int.ofNat_eq_natCast, Bool.not_not, not_true_eq_false, not_false_eq_true, reduceCtorEq]; first | done | assumption) | exact RowsZ.same (by assumption) (by first | assumption | rfl) | exact FzL.mk rfl rfl rfl (by assumption) (by first | assumption | rfl) (by decide) | (refine RowsZ.one ?_; cbv))))
      case hi => exact ⟨by omega, by omega, f, hos, hG'⟩
  · refine hE _ _ _ ?_
    cbv
    refine ⟨_, Vw.sl (es := os) rfl huo.get (by rw [hos.len]; omega), hR _ ⟨os, ?_, ?_⟩⟩
    · rw [List.drop_zero, List.take_of_length_le (by rw [hos.len]; exact Nat.le_refl _)]
    · have e1 : r.toNat = n := by omega
      rw [e1] at hG
      rw [← nL]
      exact ⟨hos.len, fun x hx => by rw [hos.at_ x hx, gs_end hin hL hG hx]⟩
end Go.Proofs.Ytfonjmhnokailaa


set_option linter.unusedVariables false
set_option linter.unusedSimpArgs false
namespace Go.Proofs.Ytfonjmhnokailaa
open Go Go.RowKit Go.Eng
set_option maxRecDepth 100000
theorem Own.snoc {k : Nat} {os : List (List AV)} {f : Nat → Int} (h : Own k os f) {v : Int} (hv : v = f k) : Own (k + 1) (os ++ [[.int .i64 v]]) f := by
  refine ⟨by rw [List.length_append, h.len]; rfl, fun x hx => ?_⟩
  by_cases hxk : x = k
  · subst hxk
    rw [List.getElem?_append_right (by rw [h.len]; exact Nat.le_refl _), h.len, Nat.sub_self, hv]; rfl
  · rw [List.getElem?_append_left (by rw [h.len]; omega)]
    exact h.at_ x (by omega)
theorem Own.one {f : Nat → Int} {v : Int} (hv : v = f 0) : Own 1 [[.int .i64 v]] f := by
  refine ⟨rfl, fun x hx => ?_⟩
  obtain rfl : x = 0 := by omega
  rw [hv]; rfl
theorem J_bnd {n : Nat} {nx : Nat → List Int} {L : Nat → Int} (hin : ∀ i, i < n → ∀ j, j ∈ nx i → j.toNat < n) (hL : ∀ i, i < n → 1 ≤ L i) {M : Int} (hM : 0 ≤ M) (hl : ∀ j, j < n → L j ≤ M) : ∀ (r : Nat) {i : Nat}, i < n → J nx L r i ≤ r * M
  | 0, i, hi => by unfold J; split <;> omega
  | r + 1, i, hi => by
    have e : ((r + 1 : Nat) : Int) * M = r * M + M := by rw [Int.natCast_add, Int.add_mul]; simp
    rw [e]
    rcases fld_is (L := L) (cur := J nx L r) (l := nx i) (b := J nx L r i) with h | ⟨j, h1, h2, h3⟩
    · have := J_bnd hin hL hM hl r hi
      have h : J nx L (r + 1) i = J nx L r i := h
      omega
    · have hj := hin i hi j h1
      have := J_bnd hin hL hM hl r hj
      have h3 : J nx L (r + 1) i = J nx L r j.toNat + L j.toNat := h3
      have := hl _ hj
      omega
set_option maxHeartbeats 2000000 in
theorem e_rends (ss : List Sg) (gs : List Gr) (es ds : List (List AV)) (hes : es = ss.map sgRow) (hds : ds = gs.map grRow) (hok : TrackOk ss gs) (m : Int) (hm0 : 0 ≤ m) (hm : m.toNat = ss.length) : PCalls Try.prog 9 [.agg [.list 3 es, .list 5 ds], .int .i64 m] (fun r => ∃ os, r = .list 1 os ∧ Own ss.length os (J (nxF ss) (lenF ss) ss.length)) := by
  have hu : Up0 es := by rw [hes]; exact up_sg ss
  have hud : Up0 ds := by rw [hds]; exact up_gr gs
  (refine PCalls.ofY Try.func9 (by kernel_rfl) (by kernel_rfl) fun w hw R hR => ?_); (obtain ⟨wbin, wcmp, wun, wconv, wnot, wbeq, wmm, wscmp, wsadd, wslen, wsat, weqs, wlen, wnlen, wofNat, wtake, wdrop, wapp, wzero, wnat⟩ := w); (have hbin : wbin = binStd := congrArg Prims.bin hw); (have hcmp : wcmp = cmpStd := congrArg Prims.cmp hw); (have hun : wun = unStd := congrArg Prims.un hw); (have hconv : wconv = fun k n => k.wrap n := congrArg Prims.conv hw); (have hnot : wnot = fun b => !b := congrArg Prims.not hw); (have hbeq : wbeq = fun a b => a == b := congrArg Prims.beq hw); (have hmm : wmm = maxI := congrArg Prims.mm hw); (have hscmp : wscmp = scmpStd := congrArg Prims.scmp hw); (have hsadd : wsadd = fun x y => x ++ y := congrArg Prims.sadd hw); (have hslen : wslen = fun s => (s.size : Int) := congrArg Prims.slen hw); (have hsat : wsat = std.sat := congrArg Prims.sat hw); (have heqs : weqs = fun a b os => (eqOffs a b os).getD false := congrArg Prims.eqs hw); (have hlen : wlen = fun es => (es.length : Int) := congrArg Prims.len hw); (have hnlen : wnlen = fun es => es.length := congrArg Prims.nlen hw); (have hofNat : wofNat = (fun n : Nat => (n : Int)) := congrArg Prims.ofNat hw); (have htake : wtake = fun es b => es.take b.toNat := congrArg Prims.take hw); (have hdrop : wdrop = fun es a => es.drop a.toNat := congrArg Prims.drop hw); (have happ : wapp = fun a b => a ++ b := congrArg Prims.app hw); (have hzero : wzero = fun n z => List.replicate n.toNat z := congrArg Prims.zero hw); (have hnat : wnat = fun n => n.toNat := congrArg Prims.nat hw); (conv => arg 2; cbv); (generalize hP : Try.prog = P); cbv
  have hel : es.length = ss.length := by rw [hes]; simp
  have hin := nx_in hok
  have hL := len_pos hok
  (obtain ⟨L, eL, L0, Ln⟩ : ∃ L : Int, wlen es = L ∧ 0 ≤ L ∧ L.toNat = es.length := ⟨(es.length : Int), by rw [hlen], Int.natCast_nonneg _, Int.toNat_natCast _⟩)
  obtain ⟨n, en⟩ : ∃ n, L.toNat = n := ⟨_, rfl⟩
  have nL : n = ss.length := by omega
  refine Loop.data hw (S := Option (Int × List (List AV) × Nat)) (fun s => match s with | none => fr 110 [(1, .int .i64 m), (2, .ref 0 2 0 0), (5, .nils), (6, .int .i64 0)] | some (i, os, k) => fr 110 [(1, .int .i64 m), (2, .ref 0 2 0 0), (5, .sl 1 1 0 k), (6, .int .i64 i)])
    (fun s => match s with | none => [.live 2 [[.list 3 es, .list 5 ds]]] | some (i, os, k) => [.live 2 [[.list 3 es, .list 5 ds]], .live 1 os]) (fun s => match s with | none => True | some (i, os, k) => 0 < i ∧ i ≤ L ∧ i.toNat = k ∧ Own k os (J (nxF ss) (lenF ss) 0)) (fun s => match s with | none => L.toNat | some (i, os, k) => (L - i).toNat) none (by (refine Wk.eqz (id) (by first | exact fun i _ j _ e => e | (simp only [List.length_cons, List.length_nil]; decide)) ?_; cbv; (repeat' (first | exact trivial | rfl | assumption | apply And.intro | (simp only [hbin, hcmp, hun, hconv, hnot, hbeq, hmm, hscmp, hsadd, hslen, hsat, heqs, hofNat, binStd, cmpStd, unStd, scmpStd, maxI, Bool.not_eq_true', Bool.not_eq_false', decide_eq_true_eq, decide_eq_false_iff_not, Int.not_lt, Int.not_le, if_true, if_false, Bool.false_eq_true, beq_iff_eq, bne_iff_ne, ne_eq, Bool.not_eq_eq_eq_not, Bool.not_true, Bool.not_false, beq_eq_false_iff_ne, bne_eq_false_iff_eq, Int.ofNat_eq_natCast, Bool.not_not, not_true_eq_false, not_false_eq_true, reduceCtorEq]; first | done | assumption) | exact RowsZ.same (by assumption) (by first | assumption | rfl) | exact FzL.mk rfl rfl rfl (by assumption) (by first | assumption | rfl) (by decide) | (refine RowsZ.one ?_; cbv))))) trivial ?_
  rintro (_ | ⟨i, os, k⟩) hinv Q' hN hE hR'
  · cbv
    have e01 : wbin .add .i64 0 1 = 1 := by rw [hbin]; rfl
    (split <;> rename_i hc <;> (try (simp only [eL] at hc)) <;> (try (simp only [hbin, hcmp, hun, hconv, hnot, hbeq, hmm, hscmp, hsadd, hslen, hsat, heqs, hofNat, binStd, cmpStd, unStd, scmpStd, maxI, Bool.not_eq_true', Bool.not_eq_false', decide_eq_true_eq, decide_eq_false_iff_not, Int.not_lt, Int.not_le, if_true, if_false, Bool.false_eq_true, beq_iff_eq, bne_iff_ne, ne_eq, Bool.not_eq_eq_eq_not, Bool.not_true, Bool.not_false, beq_eq_false_iff_ne, bne_eq_false_iff_eq, Int.ofNat_eq_natCast, Bool.not_not, not_true_eq_false, not_false_eq_true, reduceCtorEq] at hc)) <;> (try cbv))
    · obtain ⟨⟨len, ps, nx⟩, hd, hrow⟩ := get_map (f := sgRow) (ds := ss) (i := 0) (Int.le_refl 0) (by omega)
      obtain ⟨q1, eq1⟩ : ∃ x, ps.map pcRow = x := ⟨_, rfl⟩
      obtain ⟨n1, en1⟩ : ∃ x, nx.map nxRow = x := ⟨_, rfl⟩
      have hrow : es[(0 : Int).toNat]? = some [.int .i64 len, .list 2 q1, .list 1 n1] := by rw [hes, ← eq1, ← en1]; exact hrow
      have hnl : n1.length = nx.length := by rw [← en1]; simp
      (obtain ⟨K, eK, K0, Kn⟩ : ∃ L : Int, wlen n1 = L ∧ 0 ≤ L ∧ L.toNat = n1.length := ⟨(n1.length : Int), by rw [hlen], Int.natCast_nonneg _, Int.toNat_natCast _⟩)
      refine Idx.mk [.int .i64 len, .list 2 q1, .list 1 n1] (by decide) hrow ?_
      cbv
      (split <;> rename_i h1 <;> (try (simp only [eK] at h1)) <;> (try (simp only [hbin, hcmp, hun, hconv, hnot, hbeq, hmm, hscmp, hsadd, hslen, hsat, heqs, hofNat, binStd, cmpStd, unStd, scmpStd, maxI, Bool.not_eq_true', Bool.not_eq_false', decide_eq_true_eq, decide_eq_false_iff_not, Int.not_lt, Int.not_le, if_true, if_false, Bool.false_eq_true, beq_iff_eq, bne_iff_ne, ne_eq, Bool.not_eq_eq_eq_not, Bool.not_true, Bool.not_false, beq_eq_false_iff_ne, bne_eq_false_iff_eq, Int.ofNat_eq_natCast, Bool.not_not, not_true_eq_false, not_false_eq_true, reduceCtorEq] at h1)) <;> (try cbv))
      · refine Ob.mk (by decide) ?_
        have hos' : Own 1 [[.int .i64 (0)]] (J (nxF ss) (lenF ss) 0) := Own.one (by
          have hd : ss[0]? = some ⟨len, ps, nx⟩ := hd
          unfold J nxF; rw [hd]
          have k0 : n1.length = 0 := by rw [← Kn]; exact Int.toNat_eq_zero.2 (by omega)
          cases nx with
          | nil => rfl
          | cons a b => rw [k0] at hnl; cases hnl)
        have huo' := hos'.up
        cbv
        simp only [e01]
        have hT1 : (L - 1).toNat < L.toNat := by omega
        refine hN (some (1, [[.int .i64 (0)]], 1)) _ _ ?hx ?hi hT1
        case hx => (refine Wk.eqz (id) (by first | exact fun i _ j _ e => e | (simp only [List.length_cons, List.length_nil]; decide)) ?_; cbv; (repeat' (first | exact trivial | rfl | assumption | apply And.intro | (simp only [hbin, hcmp, hun, hconv, hnot, hbeq, hmm, hscmp, hsadd, hslen, hsat, heqs, hofNat, binStd, cmpStd, unStd, scmpStd, maxI, Bool.not_eq_true', Bool.not_eq_false', decide_eq_true_eq, decide_eq_false_iff_not, Int.not_lt, Int.not_le, if_true, if_false, Bool.false_eq_true, beq_iff_eq, bne_iff_ne, ne_eq, Bool.not_eq_eq_eq_not, Bool.not_true, Bool.not_false, beq_eq_false_iff_ne, bne_eq_false_iff_eq, Int.ofNat_eq_natCast, Bool.not_not, not_true_eq_false, not_false_eq_true, reduceCtorEq]; first | done | assumption) | exact RowsZ.same (by assumption) (by first | assumption | rfl) | exact FzL.mk rfl rfl rfl (by assumption) (by first | assumption | rfl) (by decide) | (refine RowsZ.one ?_; cbv))))
        case hi => exact ⟨by decide, by omega, rfl, hos'⟩
      · refine Ob.mk (by decide) ?_
        have hos' : Own 1 [[.int .i64 (-1)]] (J (nxF ss) (lenF ss) 0) := Own.one (by
          have hd : ss[0]? = some ⟨len, ps, nx⟩ := hd
          unfold J nxF; rw [hd]
          have k0 : n1.length ≠ 0 := by rw [← Kn]; intro e; exact h1 (by have := Int.toNat_of_nonneg K0; omega)
          cases nx with
          | nil => exact absurd hnl k0
          | cons a b => rfl)
        have huo' := hos'.up
        cbv
        simp only [e01]
        have hT1 : (L - 1).toNat < L.toNat := by omega
        refine hN (some (1, [[.int .i64 (-1)]], 1)) _ _ ?hx ?hi hT1
        case hx => (refine Wk.eqz (id) (by first | exact fun i _ j _ e => e | (simp only [List.length_cons, List.length_nil]; decide)) ?_; cbv; (repeat' (first | exact trivial | rfl | assumption | apply And.intro | (simp only [hbin, hcmp, hun, hconv, hnot, hbeq, hmm, hscmp, hsadd, hslen, hsat, heqs, hofNat, binStd, cmpStd, unStd, scmpStd, maxI, Bool.not_eq_true', Bool.not_eq_false', decide_eq_true_eq, decide_eq_false_iff_not, Int.not_lt, Int.not_le, if_true, if_false, Bool.false_eq_true, beq_iff_eq, bne_iff_ne, ne_eq, Bool.not_eq_eq_eq_not, Bool.not_true, Bool.not_false, beq_eq_false_iff_ne, bne_eq_false_iff_eq, Int.ofNat_eq_natCast, Bool.not_not, not_true_eq_false, not_false_eq_true, reduceCtorEq]; first | done | assumption) | exact RowsZ.same (by assumption) (by first | assumption | rfl) | exact FzL.mk rfl rfl rfl (by assumption) (by first | assumption | rfl) (by decide) | (refine RowsZ.one ?_; cbv))))
        case hi => exact ⟨by decide, by omega, rfl, hos'⟩
    · exfalso; have := hok.ne; omega
  · cbv
    obtain ⟨hi0, hi1, ek, hos⟩ : 0 < i ∧ i ≤ L ∧ i.toNat = k ∧ Own k os (J (nxF ss) (lenF ss) 0) := hinv
    have huo := hos.up
    (split <;> rename_i hc <;> (try (simp only [eL] at hc)) <;> (try (simp only [hbin, hcmp, hun, hconv, hnot, hbeq, hmm, hscmp, hsadd, hslen, hsat, heqs, hofNat, binStd, cmpStd, unStd, scmpStd, maxI, Bool.not_eq_true', Bool.not_eq_false', decide_eq_true_eq, decide_eq_false_iff_not, Int.not_lt, Int.not_le, if_true, if_false, Bool.false_eq_true, beq_iff_eq, bne_iff_ne, ne_eq, Bool.not_eq_eq_eq_not, Bool.not_true, Bool.not_false, beq_eq_false_iff_ne, bne_eq_false_iff_eq, Int.ofNat_eq_natCast, Bool.not_not, not_true_eq_false, not_false_eq_true, reduceCtorEq] at hc)) <;> (try cbv))
    · obtain ⟨⟨len, ps, nx⟩, hd, hrow⟩ := get_map (f := sgRow) (ds := ss) (i := i) (by omega) (by omega)
      obtain ⟨q1, eq1⟩ : ∃ x, ps.map pcRow = x := ⟨_, rfl⟩
      obtain ⟨n1, en1⟩ : ∃ x, nx.map nxRow = x := ⟨_, rfl⟩
      have hrow : es[(i : Int).toNat]? = some [.int .i64 len, .list 2 q1, .list 1 n1] := by rw [hes, ← eq1, ← en1]; exact hrow
      have hnl : n1.length = nx.length := by rw [← en1]; simp
      (obtain ⟨K, eK, K0, Kn⟩ : ∃ L : Int, wlen n1 = L ∧ 0 ≤ L ∧ L.toNat = n1.length := ⟨(n1.length : Int), by rw [hlen], Int.natCast_nonneg _, Int.toNat_natCast _⟩)
      have hi00 : 0 ≤ i := by omega
      obtain ⟨i', ei'⟩ : ∃ x, i + 1 = x := ⟨_, rfl⟩
      have ei : wbin .add .i64 i 1 = i' := by rw [hbin, i_add (by have := hok.le; omega) (by have := hok.le; omega)]; exact ei'
      have hT : (L - i').toNat < (L - i).toNat := by omega
      have hle := hok.le
      refine Idx.mk [.int .i64 len, .list 2 q1, .list 1 n1] hi00 hrow ?_
      cbv
      (split <;> rename_i h1 <;> (try (simp only [eK] at h1)) <;> (try (simp only [hbin, hcmp, hun, hconv, hnot, hbeq, hmm, hscmp, hsadd, hslen, hsat, heqs, hofNat, binStd, cmpStd, unStd, scmpStd, maxI, Bool.not_eq_true', Bool.not_eq_false', decide_eq_true_eq, decide_eq_false_iff_not, Int.not_lt, Int.not_le, if_true, if_false, Bool.false_eq_true, beq_iff_eq, bne_iff_ne, ne_eq, Bool.not_eq_eq_eq_not, Bool.not_true, Bool.not_false, beq_eq_false_iff_ne, bne_eq_false_iff_eq, Int.ofNat_eq_natCast, Bool.not_not, not_true_eq_false, not_false_eq_true, reduceCtorEq] at h1)) <;> (try cbv))
      · obtain ⟨os', eos'⟩ : ∃ x, os ++ [[AV.int .i64 (0)]] = x := ⟨_, rfl⟩
        obtain ⟨k', ek'⟩ : ∃ x, k + 1 = x := ⟨_, rfl⟩
        have hos' : Own k' os' (J (nxF ss) (lenF ss) 0) := by
          rw [← ek', ← eos']
          refine hos.snoc ?_
          rw [ek] at hd
          unfold J nxF; rw [hd]
          have k0 : n1.length = 0 := by rw [← Kn]; exact Int.toNat_eq_zero.2 (by omega)
          cases nx with
          | nil => rfl
          | cons a b => rw [k0] at hnl; cases hnl
        have huo' := hos'.up
        refine App.mk os' k' eos'.symm (by rw [hos.len]) ek'.symm (by omega) (by omega) ?_
        cbv
        simp only [ei]
        refine hN (some (i', os', k')) _ _ ?hx ?hi hT
        case hx => (refine Wk.eqz (fun j => [0, 2].getD j 0) (by first | exact fun i _ j _ e => e | (simp only [List.length_cons, List.length_nil]; decide)) ?_; cbv; (repeat' (first | exact trivial | rfl | assumption | apply And.intro | (simp only [hbin, hcmp, hun, hconv, hnot, hbeq, hmm, hscmp, hsadd, hslen, hsat, heqs, hofNat, binStd, cmpStd, unStd, scmpStd, maxI, Bool.not_eq_true', Bool.not_eq_false', decide_eq_true_eq, decide_eq_false_iff_not, Int.not_lt, Int.not_le, if_true, if_false, Bool.false_eq_true, beq_iff_eq, bne_iff_ne, ne_eq, Bool.not_eq_eq_eq_not, Bool.not_true, Bool.not_false, beq_eq_false_iff_ne, bne_eq_false_iff_eq, Int.ofNat_eq_natCast, Bool.not_not, not_true_eq_false, not_false_eq_true, reduceCtorEq]; first | done | assumption) | exact RowsZ.same (by assumption) (by first | assumption | rfl) | exact FzL.mk rfl rfl rfl (by assumption) (by first | assumption | rfl) (by decide) | (refine RowsZ.one ?_; cbv))))
        case hi => exact ⟨by omega, by omega, by omega, hos'⟩
      · obtain ⟨os', eos'⟩ : ∃ x, os ++ [[AV.int .i64 (-1)]] = x := ⟨_, rfl⟩
        obtain ⟨k', ek'⟩ : ∃ x, k + 1 = x := ⟨_, rfl⟩
        have hos' : Own k' os' (J (nxF ss) (lenF ss) 0) := by
          rw [← ek', ← eos']
          refine hos.snoc ?_
          rw [ek] at hd
          unfold J nxF; rw [hd]
          have k0 : n1.length ≠ 0 := by rw [← Kn]; intro e; exact h1 (by have := Int.toNat_of_nonneg K0; omega)
          cases nx with
          | nil => exact absurd hnl k0
          | cons a b => rfl
        have huo' := hos'.up
        refine App.mk os' k' eos'.symm (by rw [hos.len]) ek'.symm (by omega) (by omega) ?_
        cbv
        simp only [ei]
        refine hN (some (i', os', k')) _ _ ?hx ?hi hT
        case hx => (refine Wk.eqz (fun j => [0, 2].getD j 0) (by first | exact fun i _ j _ e => e | (simp only [List.length_cons, List.length_nil]; decide)) ?_; cbv; (repeat' (first | exact trivial | rfl | assumption | apply And.intro | (simp only [hbin, hcmp, hun, hconv, hnot, hbeq, hmm, hscmp, hsadd, hslen, hsat, heqs, hofNat, binStd, cmpStd, unStd, scmpStd, maxI, Bool.not_eq_true', Bool.not_eq_false', decide_eq_true_eq, decide_eq_false_iff_not, Int.not_lt, Int.not_le, if_true, if_false, Bool.false_eq_true, beq_iff_eq, bne_iff_ne, ne_eq, Bool.not_eq_eq_eq_not, Bool.not_true, Bool.not_false, beq_eq_false_iff_ne, bne_eq_false_iff_eq, Int.ofNat_eq_natCast, Bool.not_not, not_true_eq_false, not_false_eq_true, reduceCtorEq]; first | done | assumption) | exact RowsZ.same (by assumption) (by first | assumption | rfl) | exact FzL.mk rfl rfl rfl (by assumption) (by first | assumption | rfl) (by decide) | (refine RowsZ.one ?_; cbv))))
        case hi => exact ⟨by omega, by omega, by omega, hos'⟩
    · refine hE _ _ _ ?_
      cbv
      have huo := hos.up
      have ekn : k = n := by omega
      rw [ekn] at hos
      rw [ekn]
      have hmL : m = L := by omega
      rw [hmL]
      clear hN hE hR' hc hi0 hi1 ek ekn
      rw [← nL] at hin hL
      have hn2 : n ≤ 200 := by have := hok.le; omega
      have hne := hok.ne
      have hll : ∀ j : Nat, j < n → lenF ss j ≤ 1099511627776 := fun j hj => by
        have hj : j < ss.length := by omega
        unfold lenF
        rw [List.getElem?_eq_getElem hj]
        exact (hok.seg j hj ss[j] (List.getElem?_eq_getElem hj)).le
      refine Loop.data hw (S := Int × List (List AV)) (fun s => fr 110 [(1, .int .i64 L), (2, .ref 0 2 0 0), (5, .sl 1 1 0 n), (8, .int .i64 s.1)]) (fun s => [.live 2 [[.list 3 es, .list 5 ds]], .live 1 s.2]) (fun s => 0 ≤ s.1 ∧ s.1 ≤ L ∧ Own n s.2 (J (nxF ss) (lenF ss) s.1.toNat)) (fun s => (L - s.1).toNat) (0, os) (by (refine Wk.eqz (id) (by first | exact fun i _ j _ e => e | (simp only [List.length_cons, List.length_nil]; decide)) ?_; cbv; (repeat' (first | exact trivial | rfl | assumption | apply And.intro | (simp only [hbin, hcmp, hun, hconv, hnot, hbeq, hmm, hscmp, hsadd, hslen, hsat, heqs, hofNat, binStd, cmpStd, unStd, scmpStd, maxI, Bool.not_eq_true', Bool.not_eq_false', decide_eq_true_eq, decide_eq_false_iff_not, Int.not_lt, Int.not_le, if_true, if_false, Bool.false_eq_true, beq_iff_eq, bne_iff_ne, ne_eq, Bool.not_eq_eq_eq_not, Bool.not_true, Bool.not_false, beq_eq_false_iff_ne, bne_eq_false_iff_eq, Int.ofNat_eq_natCast, Bool.not_not, not_true_eq_false, not_false_eq_true, reduceCtorEq]; first | done | assumption) | exact RowsZ.same (by assumption) (by first | assumption | rfl) | exact FzL.mk rfl rfl rfl (by assumption) (by first | assumption | rfl) (by decide) | (refine RowsZ.one ?_; cbv))))) ⟨Int.le_refl _, L0, hos⟩ ?_
      clear hos huo
      rintro ⟨r, os⟩ hinv Q' hN hE hR'
      have hinv : 0 ≤ r ∧ r ≤ L ∧ Own n os (J (nxF ss) (lenF ss) r.toNat) := hinv
      cbv
      obtain ⟨hr0, hr1, hos⟩ := hinv
      have huo := hos.up
      (split <;> rename_i hc <;> (try (simp only [hbin, hcmp, hun, hconv, hnot, hbeq, hmm, hscmp, hsadd, hslen, hsat, heqs, hofNat, binStd, cmpStd, unStd, scmpStd, maxI, Bool.not_eq_true', Bool.not_eq_false', decide_eq_true_eq, decide_eq_false_iff_not, Int.not_lt, Int.not_le, if_true, if_false, Bool.false_eq_true, beq_iff_eq, bne_iff_ne, ne_eq, Bool.not_eq_eq_eq_not, Bool.not_true, Bool.not_false, beq_eq_false_iff_ne, bne_eq_false_iff_eq, Int.ofNat_eq_natCast, Bool.not_not, not_true_eq_false, not_false_eq_true, reduceCtorEq] at hc)) <;> (try cbv))
      · obtain ⟨r', er'⟩ : ∃ x, r + 1 = x := ⟨_, rfl⟩
        have er : wbin .add .i64 r 1 = r' := by rw [hbin, i_add (by omega) (by omega)]; exact er'
        have hT : (L - r').toNat < (L - r).toNat := by omega
        obtain ⟨rn, ern⟩ : ∃ x, r.toNat = x := ⟨_, rfl⟩
        rw [ern] at hos
        have ern' : r'.toNat = rn + 1 := by omega
        have hbnd : ∀ x, x < n → -1 ≤ J (nxF ss) (lenF ss) rn x ∧ J (nxF ss) (lenF ss) rn x ≤ 219902325555200 := fun x hx => by
          have k1 := J_ge hin hL rn hx
          have k2 := J_bnd hin hL (M := 1099511627776) (by omega) hll rn hx
          exact ⟨k1, by omega⟩
        refine Loop.data hw (S := Option (Int × List (List AV) × Nat)) (fun s => match s with | none => fr 110 [(1, .int .i64 L), (2, .ref 0 2 0 0), (5, .sl 1 1 0 n), (8, .int .i64 r), (9, .nils), (10, .int .i64 0)] | some (i, fs, k) => fr 110 [(1, .int .i64 L), (2, .ref 0 2 0 0), (5, .sl 1 1 0 n), (8, .int .i64 r), (9, .sl 2 1 0 k), (10, .int .i64 i)])
          (fun s => match s with | none => [.live 2 [[.list 3 es, .list 5 ds]], .live 1 os] | some (i, fs, k) => [.live 2 [[.list 3 es, .list 5 ds]], .live 1 os, .live 1 fs]) (fun s => match s with | none => True | some (i, fs, k) => 0 < i ∧ i ≤ L ∧ i.toNat = k ∧ Own k fs (J (nxF ss) (lenF ss) (rn + 1))) (fun s => match s with | none => L.toNat | some (i, fs, k) => (L - i).toNat) none (by (refine Wk.eqz (id) (by first | exact fun i _ j _ e => e | (simp only [List.length_cons, List.length_nil]; decide)) ?_; cbv; (repeat' (first | exact trivial | rfl | assumption | apply And.intro | (simp only [hbin, hcmp, hun, hconv, hnot, hbeq, hmm, hscmp, hsadd, hslen, hsat, heqs, hofNat, binStd, cmpStd, unStd, scmpStd, maxI, Bool.not_eq_true', Bool.not_eq_false', decide_eq_true_eq, decide_eq_false_iff_not, Int.not_lt, Int.not_le, if_true, if_false, Bool.false_eq_true, beq_iff_eq, bne_iff_ne, ne_eq, Bool.not_eq_eq_eq_not, Bool.not_true, Bool.not_false, beq_eq_false_iff_ne, bne_eq_false_iff_eq, Int.ofNat_eq_natCast, Bool.not_not, not_true_eq_false, not_false_eq_true, reduceCtorEq]; first | done | assumption) | exact RowsZ.same (by assumption) (by first | assumption | rfl) | exact FzL.mk rfl rfl rfl (by assumption) (by first | assumption | rfl) (by decide) | (refine RowsZ.one ?_; cbv))))) trivial ?_
        rintro (_ | ⟨i, fs, k0⟩) hinv Q2 hN2 hE2 hR2
        · cbv
          have e01 : wbin .add .i64 0 1 = 1 := by rw [hbin]; rfl
          (split <;> rename_i hc2 <;> (try (simp only [eL] at hc2)) <;> (try (simp only [hbin, hcmp, hun, hconv, hnot, hbeq, hmm, hscmp, hsadd, hslen, hsat, heqs, hofNat, binStd, cmpStd, unStd, scmpStd, maxI, Bool.not_eq_true', Bool.not_eq_false', decide_eq_true_eq, decide_eq_false_iff_not, Int.not_lt, Int.not_le, if_true, if_false, Bool.false_eq_true, beq_iff_eq, bne_iff_ne, ne_eq, Bool.not_eq_eq_eq_not, Bool.not_true, Bool.not_false, beq_eq_false_iff_ne, bne_eq_false_iff_eq, Int.ofNat_eq_natCast, Bool.not_not, not_true_eq_false, not_false_eq_true, reduceCtorEq] at hc2)) <;> (try cbv))
          · obtain ⟨⟨len, ps, nx⟩, hd, hrow⟩ := get_map (f := sgRow) (ds := ss) (i := 0) (Int.le_refl 0) (by omega)
            obtain ⟨q1, eq1⟩ : ∃ x, ps.map pcRow = x := ⟨_, rfl⟩
            obtain ⟨n1, en1⟩ : ∃ x, nx.map nxRow = x := ⟨_, rfl⟩
            have hrow : es[(0 : Int).toNat]? = some [.int .i64 len, .list 2 q1, .list 1 n1] := by rw [hes, ← eq1, ← en1]; exact hrow
            have hnl : n1.length = nx.length := by rw [← en1]; simp
            (obtain ⟨K, eK, K0, Kn⟩ : ∃ L : Int, wlen n1 = L ∧ 0 ≤ L ∧ L.toNat = n1.length := ⟨(n1.length : Int), by rw [hlen], Int.natCast_nonneg _, Int.toNat_natCast _⟩)
            have hd : ss[0]? = some ⟨len, ps, nx⟩ := hd
            have h00 : (0 : Int) ≤ 0 := Int.le_refl 0
            have h0L : (0 : Int) < n := by omega
            have h0z : 0 + (0 : Int).toNat = 0 := rfl
            have h0n : 0 < n := by omega
            have enx : nxF ss 0 = nx := by unfold nxF; rw [hd]
            have hK2 : nx.length ≤ 2 := (hok.seg 0 (by omega) _ hd).two
            have hnx : ∀ j, j ∈ nxF ss 0 → 0 ≤ j ∧ j.toNat < n := fun j hj => by
              rw [enx] at hj
              obtain ⟨x, hx⟩ := List.mem_iff_getElem?.1 hj
              have := (hok.seg 0 (by omega) _ hd).nx x (List.getElem?_eq_some_iff.1 hx).1 j hx
              omega
            refine At.mk 0 h00 h0L h0z ?_
            cbv
            refine RowOf.mk [.int .i64 (J (nxF ss) (lenF ss) rn 0)] (hos.at_ 0 h0n) ?_
            obtain ⟨b0, eb0⟩ : ∃ x, J (nxF ss) (lenF ss) rn 0 = x := ⟨_, rfl⟩
            rw [eb0]
            cbv
            refine Loop.data hw (S := Int × Int) (fun s => fr 110 [(1, .int .i64 L), (2, .ref 0 2 0 0), (5, .sl 1 1 0 n), (8, .int .i64 r), (9, .nils), (10, .int .i64 0), (11, .int .i64 s.2), (12, .int .i64 s.1)]) (fun s => [.live 2 [[.list 3 es, .list 5 ds]], .live 1 os]) (fun s => 0 ≤ s.1 ∧ s.1 ≤ K ∧ s.2 = fld (lenF ss) (J (nxF ss) (lenF ss) rn) b0 ((nxF ss 0).take s.1.toNat)) (fun s => (K - s.1).toNat) (0, b0) (by (refine Wk.eqz (id) (by first | exact fun i _ j _ e => e | (simp only [List.length_cons, List.length_nil]; decide)) ?_; cbv; (repeat' (first | exact trivial | rfl | assumption | apply And.intro | (simp only [hbin, hcmp, hun, hconv, hnot, hbeq, hmm, hscmp, hsadd, hslen, hsat, heqs, hofNat, binStd, cmpStd, unStd, scmpStd, maxI, Bool.not_eq_true', Bool.not_eq_false', decide_eq_true_eq, decide_eq_false_iff_not, Int.not_lt, Int.not_le, if_true, if_false, Bool.false_eq_true, beq_iff_eq, bne_iff_ne, ne_eq, Bool.not_eq_eq_eq_not, Bool.not_true, Bool.not_false, beq_eq_false_iff_ne, bne_eq_false_iff_eq, Int.ofNat_eq_natCast, Bool.not_not, not_true_eq_false, not_false_eq_true, reduceCtorEq]; first | done | assumption) | exact RowsZ.same (by assumption) (by first | assumption | rfl) | exact FzL.mk rfl rfl rfl (by assumption) (by first | assumption | rfl) (by decide) | (refine RowsZ.one ?_; cbv))))) ⟨Int.le_refl _, K0, rfl⟩ ?_
            rintro ⟨k, best⟩ hinv Q3 hN3 hE3 hR3
            have hinv : 0 ≤ k ∧ k ≤ K ∧ best = fld (lenF ss) (J (nxF ss) (lenF ss) rn) b0 ((nxF ss 0).take k.toNat) := hinv
            cbv
            obtain ⟨hk0, hk1, hbest⟩ := hinv
            refine Idx.mk [.int .i64 len, .list 2 q1, .list 1 n1] h00 hrow ?_
            cbv
            simp only [eK]
            (split <;> rename_i hc3 <;> (try (simp only [hbin, hcmp, hun, hconv, hnot, hbeq, hmm, hscmp, hsadd, hslen, hsat, heqs, hofNat, binStd, cmpStd, unStd, scmpStd, maxI, Bool.not_eq_true', Bool.not_eq_false', decide_eq_true_eq, decide_eq_false_iff_not, Int.not_lt, Int.not_le, if_true, if_false, Bool.false_eq_true, beq_iff_eq, bne_iff_ne, ne_eq, Bool.not_eq_eq_eq_not, Bool.not_true, Bool.not_false, beq_eq_false_iff_ne, bne_eq_false_iff_eq, Int.ofNat_eq_natCast, Bool.not_not, not_true_eq_false, not_false_eq_true, reduceCtorEq] at hc3)) <;> (try cbv))
            · obtain ⟨j, hj, hjr⟩ := get_map (f := nxRow) (ds := nx) (i := k) hk0 (by omega)
              have hjr : n1[k.toNat]? = some [.int .i64 j] := by rw [← en1]; exact hjr
              obtain ⟨k', ek'⟩ : ∃ x, k + 1 = x := ⟨_, rfl⟩
              have ekk : wbin .add .i64 k 1 = k' := by rw [hbin, i_add (by omega) (by omega)]; exact ek'
              have hT3 : (K - k').toNat < (K - k).toNat := by omega
              have hjm : j ∈ nxF ss 0 := by rw [enx]; exact List.mem_of_getElem? hj
              have hjb := hnx j hjm
              obtain ⟨hj0, hjl0⟩ := hjb
              have hjl : j < n := by omega
              obtain ⟨jn, ejn⟩ : ∃ x, j.toNat = x := ⟨_, rfl⟩
              have hjn : jn < n := by rw [← ejn]; exact hjl0
              have hjz : 0 + j.toNat = jn := by rw [Nat.zero_add]; exact ejn
              obtain ⟨⟨len2, ps2, nx2⟩, hd2, hrow2⟩ := get_map (f := sgRow) (ds := ss) (i := j) hj0 (by omega)
              obtain ⟨q2, eq2⟩ : ∃ x, ps2.map pcRow = x := ⟨_, rfl⟩
              obtain ⟨n2, en2⟩ : ∃ x, nx2.map nxRow = x := ⟨_, rfl⟩
              have hrow2 : es[j.toNat]? = some [.int .i64 len2, .list 2 q2, .list 1 n2] := by rw [hes, ← eq2, ← en2]; exact hrow2
              have el2 : lenF ss jn = len2 := by unfold lenF; rw [← ejn, hd2]
              have hl1 := hL jn hjn
              have hl2 := hll jn hjn
              rw [el2] at hl1 hl2
              have hrj := hos.at_ jn hjn
              have hgj := hbnd jn hjn
              obtain ⟨cj, ecj⟩ : ∃ x, J (nxF ss) (lenF ss) rn jn = x := ⟨_, rfl⟩
              rw [ecj] at hrj hgj
              obtain ⟨fa, efa⟩ : ∃ x, cj + len2 = x := ⟨_, rfl⟩
              have efw : wbin .add .i64 cj len2 = fa := by rw [hbin, i_add (by omega) (by omega)]; exact efa
              have hkey : ∀ b, b = bst best cj len2 → b = fld (lenF ss) (J (nxF ss) (lenF ss) rn) b0 ((nxF ss 0).take k'.toNat) := by
                intro b hb
                have e1 : k'.toNat = k.toNat + 1 := by omega
                have e2 : (nxF ss 0)[k.toNat]? = some j := by rw [enx]; exact hj
                rw [e1, List.take_add_one, e2]
                unfold fld
                rw [Option.toList_some, List.foldl_append]
                show b = bst (fld (lenF ss) (J (nxF ss) (lenF ss) rn) b0 ((nxF ss 0).take k.toNat)) (J (nxF ss) (lenF ss) rn j.toNat) (lenF ss j.toNat)
                rw [← hbest, ejn, ecj, el2]
                exact hb
              repeat' (first
                | (simp only [efw, ekk]; cbv)
                | (simp only [efw, ekk])
                | (refine Idx.mk [.int .i64 len, .list 2 q1, .list 1 n1] h00 hrow ?_; cbv)
                | (refine Idx.mk [.int .i64 j] hk0 hjr ?_; cbv)
                | (refine Idx.mk [.int .i64 len2, .list 2 q2, .list 1 n2] hj0 hrow2 ?_; cbv)
                | (refine At.mk jn hj0 hjl hjz ?_; cbv)
                | (refine RowOf.mk [.int .i64 cj] hrj ?_; cbv)
                | (split <;> rename_i h <;> (try (simp only [efw, ekk] at h)) <;> (try (simp only [hbin, hcmp, hun, hconv, hnot, hbeq, hmm, hscmp, hsadd, hslen, hsat, heqs, hofNat, binStd, cmpStd, unStd, scmpStd, maxI, Bool.not_eq_true', Bool.not_eq_false', decide_eq_true_eq, decide_eq_false_iff_not, Int.not_lt, Int.not_le, if_true, if_false, Bool.false_eq_true, beq_iff_eq, bne_iff_ne, ne_eq, Bool.not_eq_eq_eq_not, Bool.not_true, Bool.not_false, beq_eq_false_iff_ne, bne_eq_false_iff_eq, Int.ofNat_eq_natCast, Bool.not_not, not_true_eq_false, not_false_eq_true, reduceCtorEq] at h)) <;> (try cbv)))
              all_goals first
                | (refine hN3 (k', fa) _ _ ?hx ?hi hT3
                   case hx => (refine Wk.eqz (id) (by first | exact fun i _ j _ e => e | (simp only [List.length_cons, List.length_nil]; decide)) ?_; cbv; (repeat' (first | exact trivial | rfl | assumption | apply And.intro | (simp only [hbin, hcmp, hun, hconv, hnot, hbeq, hmm, hscmp, hsadd, hslen, hsat, heqs, hofNat, binStd, cmpStd, unStd, scmpStd, maxI, Bool.not_eq_true', Bool.not_eq_false', decide_eq_true_eq, decide_eq_false_iff_not, Int.not_lt, Int.not_le, if_true, if_false, Bool.false_eq_true, beq_iff_eq, bne_iff_ne, ne_eq, Bool.not_eq_eq_eq_not, Bool.not_true, Bool.not_false, beq_eq_false_iff_ne, bne_eq_false_iff_eq, Int.ofNat_eq_natCast, Bool.not_not, not_true_eq_false, not_false_eq_true, reduceCtorEq]; first | done | assumption) | exact RowsZ.same (by assumption) (by first | assumption | rfl) | exact FzL.mk rfl rfl rfl (by assumption) (by first | assumption | rfl) (by decide) | (refine RowsZ.one ?_; cbv))))
                   case hi =>
                     refine ⟨by omega, by omega, hkey _ ?_⟩
                     unfold bst
                     split <;> omega)
                | (refine hN3 (k', best) _ _ ?hx ?hi hT3
                   case hx => (refine Wk.eqz (id) (by first | exact fun i _ j _ e => e | (simp only [List.length_cons, List.length_nil]; decide)) ?_; cbv; (repeat' (first | exact trivial | rfl | assumption | apply And.intro | (simp only [hbin, hcmp, hun, hconv, hnot, hbeq, hmm, hscmp, hsadd, hslen, hsat, heqs, hofNat, binStd, cmpStd, unStd, scmpStd, maxI, Bool.not_eq_true', Bool.not_eq_false', decide_eq_true_eq, decide_eq_false_iff_not, Int.not_lt, Int.not_le, if_true, if_false, Bool.false_eq_true, beq_iff_eq, bne_iff_ne, ne_eq, Bool.not_eq_eq_eq_not, Bool.not_true, Bool.not_false, beq_eq_false_iff_ne, bne_eq_false_iff_eq, Int.ofNat_eq_natCast, Bool.not_not, not_true_eq_false, not_false_eq_true, reduceCtorEq]; first | done | assumption) | exact RowsZ.same (by assumption) (by first | assumption | rfl) | exact FzL.mk rfl rfl rfl (by assumption) (by first | assumption | rfl) (by decide) | (refine RowsZ.one ?_; cbv))))
                   case hi =>
                     refine ⟨by omega, by omega, hkey _ ?_⟩
                     unfold bst
                     split <;> omega)
            · refine hE3 _ _ _ ?_
              cbv
              have hb : best = J (nxF ss) (lenF ss) (rn + 1) 0 := by
                have e1 : k.toNat = (nxF ss 0).length := by rw [enx]; omega
                rw [e1, List.take_length, ← eb0] at hbest
                exact hbest
              refine Ob.mk (by decide) ?_
              have hfs' : Own 1 [[.int .i64 best]] (J (nxF ss) (lenF ss) (rn + 1)) := Own.one hb
              have huf' := hfs'.up
              cbv
              simp only [e01]
              have hT1 : (L - 1).toNat < L.toNat := by omega
              refine hN2 (some (1, [[.int .i64 best]], 1)) _ _ ?hx ?hi hT1
              case hx => (refine Wk.eqz (id) (by first | exact fun i _ j _ e => e | (simp only [List.length_cons, List.length_nil]; decide)) ?_; cbv; (repeat' (first | exact trivial | rfl | assumption | apply And.intro | (simp only [hbin, hcmp, hun, hconv, hnot, hbeq, hmm, hscmp, hsadd, hslen, hsat, heqs, hofNat, binStd, cmpStd, unStd, scmpStd, maxI, Bool.not_eq_true', Bool.not_eq_false', decide_eq_true_eq, decide_eq_false_iff_not, Int.not_lt, Int.not_le, if_true, if_false, Bool.false_eq_true, beq_iff_eq, bne_iff_ne, ne_eq, Bool.not_eq_eq_eq_not, Bool.not_true, Bool.not_false, beq_eq_false_iff_ne, bne_eq_false_iff_eq, Int.ofNat_eq_natCast, Bool.not_not, not_true_eq_false, not_false_eq_true, reduceCtorEq]; first | done | assumption) | exact RowsZ.same (by assumption) (by first | assumption | rfl) | exact FzL.mk rfl rfl rfl (by assumption) (by first | assumption | rfl) (by decide) | (refine RowsZ.one ?_; cbv))))
              case hi => exact ⟨by decide, by omega, rfl, hfs'⟩
          · exfalso; omega
        · cbv
          obtain ⟨hi0, hi1, ek, hfs⟩ : 0 < i ∧ i ≤ L ∧ i.toNat = k0 ∧ Own k0 fs (J (nxF ss) (lenF ss) (rn + 1)) := hinv
          have huf := hfs.up
          (split <;> rename_i hc2 <;> (try (simp only [eL] at hc2)) <;> (try (simp only [hbin, hcmp, hun, hconv, hnot, hbeq, hmm, hscmp, hsadd, hslen, hsat, heqs, hofNat, binStd, cmpStd, unStd, scmpStd, maxI, Bool.not_eq_true', Bool.not_eq_false', decide_eq_true_eq, decide_eq_false_iff_not, Int.not_lt, Int.not_le, if_true, if_false, Bool.false_eq_true, beq_iff_eq, bne_iff_ne, ne_eq, Bool.not_eq_eq_eq_not, Bool.not_true, Bool.not_false, beq_eq_false_iff_ne, bne_eq_false_iff_eq, Int.ofNat_eq_natCast, Bool.not_not, not_true_eq_false, not_false_eq_true, reduceCtorEq] at hc2)) <;> (try cbv))
          · obtain ⟨⟨len, ps, nx⟩, hd, hrow⟩ := get_map (f := sgRow) (ds := ss) (i := i) (by omega) (by omega)
            obtain ⟨q1, eq1⟩ : ∃ x, ps.map pcRow = x := ⟨_, rfl⟩
            obtain ⟨n1, en1⟩ : ∃ x, nx.map nxRow = x := ⟨_, rfl⟩
            have hrow : es[(i : Int).toNat]? = some [.int .i64 len, .list 2 q1, .list 1 n1] := by rw [hes, ← eq1, ← en1]; exact hrow
            have hnl : n1.length = nx.length := by rw [← en1]; simp
            (obtain ⟨K, eK, K0, Kn⟩ : ∃ L : Int, wlen n1 = L ∧ 0 ≤ L ∧ L.toNat = n1.length := ⟨(n1.length : Int), by rw [hlen], Int.natCast_nonneg _, Int.toNat_natCast _⟩)
            have hd0 : ss[k0]? = some ⟨len, ps, nx⟩ := by rw [← ek]; exact hd
            have h00 : 0 ≤ i := by omega
            have h0L : i < n := by omega
            have h0z : 0 + i.toNat = k0 := by rw [Nat.zero_add]; exact ek
            have h0n : k0 < n := by omega
            obtain ⟨i', ei'⟩ : ∃ x, i + 1 = x := ⟨_, rfl⟩
            have ei : wbin .add .i64 i 1 = i' := by rw [hbin, i_add (by omega) (by omega)]; exact ei'
            have hT2 : (L - i').toNat < (L - i).toNat := by omega
            have enx : nxF ss k0 = nx := by unfold nxF; rw [hd0]
            have hK2 : nx.length ≤ 2 := (hok.seg k0 (by omega) _ hd0).two
            have hnx : ∀ j, j ∈ nxF ss k0 → 0 ≤ j ∧ j.toNat < n := fun j hj => by
              rw [enx] at hj
              obtain ⟨x, hx⟩ := List.mem_iff_getElem?.1 hj
              have := (hok.seg k0 (by omega) _ hd0).nx x (List.getElem?_eq_some_iff.1 hx).1 j hx
              omega
            refine At.mk k0 h00 h0L h0z ?_
            cbv
            refine RowOf.mk [.int .i64 (J (nxF ss) (lenF ss) rn k0)] (hos.at_ k0 h0n) ?_
            obtain ⟨b0, eb0⟩ : ∃ x, J (nxF ss) (lenF ss) rn k0 = x := ⟨_, rfl⟩
            rw [eb0]
            cbv
            refine Loop.data hw (S := Int × Int) (fun s => fr 110 [(1, .int .i64 L), (2, .ref 0 2 0 0), (5, .sl 1 1 0 n), (8, .int .i64 r), (9, .sl 2 1 0 k0), (10, .int .i64 i), (11, .int .i64 s.2), (12, .int .i64 s.1)]) (fun s => [.live 2 [[.list 3 es, .list 5 ds]], .live 1 os, .live 1 fs]) (fun s => 0 ≤ s.1 ∧ s.1 ≤ K ∧ s.2 = fld (lenF ss) (J (nxF ss) (lenF ss) rn) b0 ((nxF ss k0).take s.1.toNat)) (fun s => (K - s.1).toNat) (0, b0) (by (refine Wk.eqz (id) (by first | exact fun i _ j _ e => e | (simp only [List.length_cons, List.length_nil]; decide)) ?_; cbv; (repeat' (first | exact trivial | rfl | assumption | apply And.intro | (simp only [hbin, hcmp, hun, hconv, hnot, hbeq, hmm, hscmp, hsadd, hslen, hsat, heqs, hofNat, binStd, cmpStd, unStd, scmpStd, maxI, Bool.not_eq_true', Bool.not_eq_false', decide_eq_true_eq, decide_eq_false_iff_not, Int.not_lt, Int.not_le, if_true, if_false, Bool.false_eq_true, beq_iff_eq, bne_iff_ne, ne_eq, Bool.not_eq_eq_eq_not, Bool.not_true, Bool.not_false, beq_eq_false_iff_ne, bne_eq_false_iff_eq, Int.ofNat_eq_natCast, Bool.not_not, not_true_eq_false, not_false_eq_true, reduceCtorEq]; first | done | assumption) | exact RowsZ.same (by assumption) (by first | assumption | rfl) | exact FzL.mk rfl rfl rfl (by assumption) (by first | assumption | rfl) (by decide) | (refine RowsZ.one ?_; cbv))))) ⟨Int.le_refl _, K0, rfl⟩ ?_
            rintro ⟨k, best⟩ hinv Q3 hN3 hE3 hR3
            have hinv : 0 ≤ k ∧ k ≤ K ∧ best = fld (lenF ss) (J (nxF ss) (lenF ss) rn) b0 ((nxF ss k0).take k.toNat) := hinv
            cbv
            obtain ⟨hk0, hk1, hbest⟩ := hinv
            refine Idx.mk [.int .i64 len, .list 2 q1, .list 1 n1] h00 hrow ?_
            cbv
            simp only [eK]
            (split <;> rename_i hc3 <;> (try (simp only [hbin, hcmp, hun, hconv, hnot, hbeq, hmm, hscmp, hsadd, hslen, hsat, heqs, hofNat, binStd, cmpStd, unStd, scmpStd, maxI, Bool.not_eq_true', Bool.not_eq_false', decide_eq_true_eq, decide_eq_false_iff_not, Int.not_lt, Int.not_le, if_true, if_false, Bool.false_eq_true, beq_iff_eq, bne_iff_ne, ne_eq, Bool.not_eq_eq_eq_not, Bool.not_true, Bool.not_false, beq_eq_false_iff_ne, bne_eq_false_iff_eq, Int.ofNat_eq_natCast, Bool.not_not, not_true_eq_false, not_false_eq_true, reduceCtorEq] at hc3)) <;> (try cbv))
            · obtain ⟨j, hj, hjr⟩ := get_map (f := nxRow) (ds := nx) (i := k) hk0 (by omega)
              have hjr : n1[k.toNat]? = some [.int .i64 j] := by rw [← en1]; exact hjr
              obtain ⟨k', ek'⟩ : ∃ x, k + 1 = x := ⟨_, rfl⟩
              have ekk : wbin .add .i64 k 1 = k' := by rw [hbin, i_add (by omega) (by omega)]; exact ek'
              have hT3 : (K - k').toNat < (K - k).toNat := by omega
              have hjm : j ∈ nxF ss k0 := by rw [enx]; exact List.mem_of_getElem? hj
              have hjb := hnx j hjm
              obtain ⟨hj0, hjl0⟩ := hjb
              have hjl : j < n := by omega
              obtain ⟨jn, ejn⟩ : ∃ x, j.toNat = x := ⟨_, rfl⟩
              have hjn : jn < n := by rw [← ejn]; exact hjl0
              have hjz : 0 + j.toNat = jn := by rw [Nat.zero_add]; exact ejn
              obtain ⟨⟨len2, ps2, nx2⟩, hd2, hrow2⟩ := get_map (f := sgRow) (ds := ss) (i := j) hj0 (by omega)
              obtain ⟨q2, eq2⟩ : ∃ x, ps2.map pcRow = x := ⟨_, rfl⟩
              obtain ⟨n2, en2⟩ : ∃ x, nx2.map nxRow = x := ⟨_, rfl⟩
              have hrow2 : es[j.toNat]? = some [.int .i64 len2, .list 2 q2, .list 1 n2] := by rw [hes, ← eq2, ← en2]; exact hrow2
              have el2 : lenF ss jn = len2 := by unfold lenF; rw [← ejn, hd2]
              have hl1 := hL jn hjn
              have hl2 := hll jn hjn
              rw [el2] at hl1 hl2
              have hrj := hos.at_ jn hjn
              have hgj := hbnd jn hjn
              obtain ⟨cj, ecj⟩ : ∃ x, J (nxF ss) (lenF ss) rn jn = x := ⟨_, rfl⟩
              rw [ecj] at hrj hgj
              obtain ⟨fa, efa⟩ : ∃ x, cj + len2 = x := ⟨_, rfl⟩
              have efw : wbin .add .i64 cj len2 = fa := by rw [hbin, i_add (by omega) (by omega)]; exact efa
              have hkey : ∀ b, b = bst best cj len2 → b = fld (lenF ss) (J (nxF ss) (lenF ss) rn) b0 ((nxF ss k0).take k'.toNat) := by
                intro b hb
                have e1 : k'.toNat = k.toNat + 1 := by omega
                have e2 : (nxF ss k0)[k.toNat]? = some j := by rw [enx]; exact hj
                rw [e1, List.take_add_one, e2]
                unfold fld
                rw [Option.toList_some, List.foldl_append]
                show b = bst (fld (lenF ss) (J (nxF ss) (lenF ss) rn) b0 ((nxF ss k0).take k.toNat)) (J (nxF ss) (lenF ss) rn j.toNat) (lenF ss j.toNat)
                rw [← hbest, ejn, ecj, el2]
                exact hb
              repeat' (first
                | (simp only [efw, ekk]; cbv)
                | (simp only [efw, ekk])
                | (refine Idx.mk [.int .i64 len, .list 2 q1, .list 1 n1] h00 hrow ?_; cbv)
                | (refine Idx.mk [.int .i64 j] hk0 hjr ?_; cbv)
                | (refine Idx.mk [.int .i64 len2, .list 2 q2, .list 1 n2] hj0 hrow2 ?_; cbv)
                | (refine At.mk jn hj0 hjl hjz ?_; cbv)
                | (refine RowOf.mk [.int .i64 cj] hrj ?_; cbv)
                | (split <;> rename_i h <;> (try (simp only [efw, ekk] at h)) <;> (try (simp only [hbin, hcmp, hun, hconv, hnot, hbeq, hmm, hscmp, hsadd, hslen, hsat, heqs, hofNat, binStd, cmpStd, unStd, scmpStd, maxI, Bool.not_eq_true', Bool.not_eq_false', decide_eq_true_eq, decide_eq_false_iff_not, Int.not_lt, Int.not_le, if_true, if_false, Bool.false_eq_true, beq_iff_eq, bne_iff_ne, ne_eq, Bool.not_eq_eq_eq_not, Bool.not_true, Bool.not_false, beq_eq_false_iff_ne, bne_eq_false_iff_eq, Int.ofNat_eq_natCast, Bool.not_not, not_true_eq_false, not_false_eq_true, reduceCtorEq] at h)) <;> (try cbv)))
              all_goals first
                | (refine hN3 (k', fa) _ _ ?hx ?hi hT3
                   case hx => (refine Wk.eqz (id) (by first | exact fun i _ j _ e => e | (simp only [List.length_cons, List.length_nil]; decide)) ?_; cbv; (repeat' (first | exact trivial | rfl | assumption | apply And.intro | (simp only [hbin, hcmp, hun, hconv, hnot, hbeq, hmm, hscmp, hsadd, hslen, hsat, heqs, hofNat, binStd, cmpStd, unStd, scmpStd, maxI, Bool.not_eq_true', Bool.not_eq_false', decide_eq_true_eq, decide_eq_false_iff_not, Int.not_lt, Int.not_le, if_true, if_false, Bool.false_eq_true, beq_iff_eq, bne_iff_ne, ne_eq, Bool.not_eq_eq_eq_not, Bool.not_true, Bool.not_false, beq_eq_false_iff_ne, bne_eq_false_iff_eq, Int.ofNat_eq_natCast, Bool.not_not, not_true_eq_false, not_false_eq_true, reduceCtorEq]; first | done | assumption) | exact RowsZ.same (by assumption) (by first | assumption | rfl) | exact FzL.mk rfl rfl rfl (by assumption) (by first | assumption | rfl) (by decide) | (refine RowsZ.one ?_; cbv))))
                   case hi =>
                     refine ⟨by omega, by omega, hkey _ ?_⟩
                     unfold bst
                     split <;> omega)
                | (refine hN3 (k', best) _ _ ?hx ?hi hT3
                   case hx => (refine Wk.eqz (id) (by first | exact fun i _ j _ e => e | (simp only [List.length_cons, List.length_nil]; decide)) ?_; cbv; (repeat' (first | exact trivial | rfl | assumption | apply And.intro | (simp only [hbin, hcmp, hun, hconv, hnot, hbeq, hmm, hscmp, hsadd, hslen, hsat, heqs, hofNat, binStd, cmpStd, unStd, scmpStd, maxI, Bool.not_eq_true', Bool.not_eq_false', decide_eq_true_eq, decide_eq_false_iff_not, Int.not_lt, Int.not_le, if_true, if_false, Bool.false_eq_true, beq_iff_eq, bne_iff_ne, ne_eq, Bool.not_eq_eq_eq_not, Bool.not_true, Bool.not_false, beq_eq_false_iff_ne, bne_eq_false_iff_eq, Int.ofNat_eq_natCast, Bool.not_not, not_true_eq_false, not_false_eq_true, reduceCtorEq]; first | done | assumption) | exact RowsZ.same (by assumption) (by first | assumption | rfl) | exact FzL.mk rfl rfl rfl (by assumption) (by first | assumption | rfl) (by decide) | (refine RowsZ.one ?_; cbv))))
                   case hi =>
                     refine ⟨by omega, by omega, hkey _ ?_⟩
                     unfold bst
                     split <;> omega)
            · refine hE3 _ _ _ ?_
              cbv
              have hb : best = J (nxF ss) (lenF ss) (rn + 1) k0 := by
                have e1 : k.toNat = (nxF ss k0).length := by rw [enx]; omega
                rw [e1, List.take_length, ← eb0] at hbest
                exact hbest
              obtain ⟨fs', efs'⟩ : ∃ x, fs ++ [[AV.int .i64 best]] = x := ⟨_, rfl⟩
              obtain ⟨k', ek'⟩ : ∃ x, k0 + 1 = x := ⟨_, rfl⟩
              have hfs' : Own k' fs' (J (nxF ss) (lenF ss) (rn + 1)) := by
                rw [← ek', ← efs']
                exact hfs.snoc hb
              have huf' := hfs'.up
              refine App.mk fs' k' efs'.symm (by rw [hfs.len]) ek'.symm (by omega) (by omega) ?_
              cbv
              simp only [ei]
              refine hN2 (some (i', fs', k')) _ _ ?hx ?hi hT2
              case hx => (refine Wk.eqz (fun j => [0, 1, 3].getD j 0) (by first | exact fun i _ j _ e => e | (simp only [List.length_cons, List.length_nil]; decide)) ?_; cbv; (repeat' (first | exact trivial | rfl | assumption | apply And.intro | (simp only [hbin, hcmp, hun, hconv, hnot, hbeq, hmm, hscmp, hsadd, hslen, hsat, heqs, hofNat, binStd, cmpStd, unStd, scmpStd, maxI, Bool.not_eq_true', Bool.not_eq_false', decide_eq_true_eq, decide_eq_false_iff_not, Int.not_lt, Int.not_le, if_true, if_false, Bool.false_eq_true, beq_iff_eq, bne_iff_ne, ne_eq, Bool.not_eq_eq_eq_not, Bool.not_true, Bool.not_false, beq_eq_false_iff_ne, bne_eq_false_iff_eq, Int.ofNat_eq_natCast, Bool.not_not, not_true_eq_false, not_false_eq_true, reduceCtorEq]; first | done | assumption) | exact RowsZ.same (by assumption) (by first | assumption | rfl) | exact FzL.mk rfl rfl rfl (by assumption) (by first | assumption | rfl) (by decide) | (refine RowsZ.one ?_; cbv))))
              case hi => exact ⟨by omega, by omega, by omega, hfs'⟩
          · refine hE2 _ _ _ ?_
            cbv
            simp only [er]
            have ekn : k0 = n := by omega
            rw [ekn] at hfs
            rw [ekn]
            refine hN (r', fs) _ _ ?hx ?hi hT
            case hx => (refine Wk.eqz (fun j => [0, 2].getD j 0) (by first | exact fun i _ j _ e => e | (simp only [List.length_cons, List.length_nil]; decide)) ?_; cbv; (repeat' (first | exact trivial | rfl | assumption | apply And.intro | (simp only [hbin, hcmp, hun, hconv, hnot, hbeq, hmm, hscmp, hsadd, hslen, hsat, heqs, hofNat, binStd, cmpStd, unStd, scmpStd, maxI, Bool.not_eq_true', Bool.not_eq_false', decide_eq_true_eq, decide_eq_false_iff_not, Int.not_lt, Int.not_le, if_true, if_false, Bool.false_eq_true, beq_iff_eq, bne_iff_ne, ne_eq, Bool.not_eq_eq_eq_not, Bool.not_true, Bool.not_false, beq_eq_false_iff_ne, bne_eq_false_iff_eq, Int.ofNat_eq_natCast, Bool.not_not, not_true_eq_false, not_false_eq_true, reduceCtorEq]; first | done | assumption) | exact RowsZ.same (by assumption) (by first | assumption | rfl) | exact FzL.mk rfl rfl rfl (by assumption) (by first | assumption | rfl) (by decide) | (refine RowsZ.one ?_; cbv))))
            case hi => exact ⟨by omega, by omega, by rw [ern']; exact hfs⟩
      · refine hE _ _ _ ?_
        cbv
        refine ⟨_, Vw.sl (es := os) rfl huo.get (by rw [hos.len]; omega), hR _ ⟨os, ?_, ?_⟩⟩
        · rw [List.drop_zero, List.take_of_length_le (by rw [hos.len]; exact Nat.le_refl _)]
        · have e1 : r.toNat = n := by omega
          rw [e1] at hos
          rw [← nL]
          exact hos
end Go.Proofs.Ytfonjmhnokailaa


set_option linter.unusedVariables false
set_option maxRecDepth 100000
namespace Go.Proofs.Ytfonjmhnokailaa
open Go Go.RowKit Go.Eng
theorem ty_track (x : AV) (h : TyV Try.prog 8 25 x) : ∃ (ss : List Sg) (gs : List Gr), x = .agg [.list 3 (ss.map sgRow), .list 5 (gs.map grRow)] := by
  obtain ⟨cs, rfl, k0⟩ := h.agg (by kernel_rfl) (show shOf Try.prog 8 25 = some [.list 3 [.int .i64, .list 2 [.int .i64, .int .i64], .list 1 [.int .i64]], .list 5 [.int .i64, .int .i64, .int .i64, .int .i64, .int .i64]] from by kernel_rfl)
  clear h
  obtain ⟨es, _, rfl, _, hr, k1⟩ := ok_list k0
  obtain ⟨ds, _, rfl, _, hs, k2⟩ := ok_list k1
  obtain rfl := ok_nil k2
  clear k0 k1 k2
  obtain ⟨ss, rfl⟩ := rows_of (f := sgRow) (es := es) fun r hrr => by
    have k0 := hr r hrr
    clear hr hrr
    obtain ⟨len, _, rfl, _, k1⟩ := ok_int k0
    obtain ⟨ps, _, rfl, _, hp, k2⟩ := ok_list k1
    obtain ⟨ns, _, rfl, _, hn, k3⟩ := ok_list k2
    obtain rfl := ok_nil k3
    clear k0 k1 k2 k3
    obtain ⟨qs, rfl⟩ := rows_of (f := pcRow) (es := ps) fun r hrr => by
      have k0 := hp r hrr
      clear hp hrr
      obtain ⟨a, _, rfl, _, k1⟩ := ok_int k0
      obtain ⟨b, _, rfl, _, k2⟩ := ok_int k1
      obtain rfl := ok_nil k2
      exact ⟨(a, b), rfl⟩
    obtain ⟨ms, rfl⟩ := rows_of (f := nxRow) (es := ns) fun r hrr => by
      have k0 := hn r hrr
      clear hn hrr
      obtain ⟨a, _, rfl, _, k1⟩ := ok_int k0
      obtain rfl := ok_nil k1
      exact ⟨a, rfl⟩
    exact ⟨⟨len, qs, ms⟩, rfl⟩
  obtain ⟨gs, rfl⟩ := rows_of (f := grRow) (es := ds) fun r hrr => by
    have k0 := hs r hrr
    clear hr hs hrr
    obtain ⟨a, _, rfl, _, k1⟩ := ok_int k0
    obtain ⟨b, _, rfl, _, k2⟩ := ok_int k1
    obtain ⟨c, _, rfl, _, k3⟩ := ok_int k2
    obtain ⟨d, _, rfl, _, k4⟩ := ok_int k3
    obtain ⟨e, _, rfl, _, k5⟩ := ok_int k4
    obtain rfl := ok_nil k5
    exact ⟨⟨a, b, c, d, e⟩, rfl⟩
  exact ⟨ss, gs, rfl⟩
end Go.Proofs.Ytfonjmhnokailaa


set_option linter.unusedVariables false
set_option linter.unusedSimpArgs false
namespace Go.Proofs.Ytfonjmhnokailaa
open Go Go.RowKit Go.Eng
set_option maxRecDepth 100000
theorem up_track2 {es ds : List (List AV)} {m : Int} (hu : Up0 es) (hud : Up0 ds) : uptoL 0 [.agg [.list 3 es, .list 5 ds], .int .i64 m] = true :=
  Bool.and_eq_true_iff.mpr ⟨Up0.one hu (Up0.one hud rfl), rfl⟩
theorem Own.eq {n : Nat} {os : List (List AV)} {f : Nat → Int} (h : Own n os f) : os = (List.range n).map fun x => [AV.int .i64 (f x)] := by
  apply List.ext_getElem?
  intro x
  by_cases hx : x < n
  · rw [h.at_ x hx, List.getElem?_map, List.getElem?_range hx]; rfl
  · rw [List.getElem?_eq_none (by rw [h.len]; omega), List.getElem?_eq_none (by rw [List.length_map, List.length_range]; omega)]
set_option maxHeartbeats 2000000 in
theorem e_bends (ss : List Sg) (gs : List Gr) (es ds : List (List AV)) (hes : es = ss.map sgRow) (hds : ds = gs.map grRow) : PCalls Try.prog 3 [.agg [.list 3 es, .list 5 ds]] (fun r => r = .bool true) := by
  have hu : Up0 es := by rw [hes]; exact up_sg ss
  have hud : Up0 ds := by rw [hds]; exact up_gr gs
  have hel : es.length = ss.length := by rw [hes]; simp
  (refine PCalls.ofY Try.func3 (by kernel_rfl) (by kernel_rfl) fun w hw R hR => ?_); (obtain ⟨wbin, wcmp, wun, wconv, wnot, wbeq, wmm, wscmp, wsadd, wslen, wsat, weqs, wlen, wnlen, wofNat, wtake, wdrop, wapp, wzero, wnat⟩ := w); (have hbin : wbin = binStd := congrArg Prims.bin hw); (have hcmp : wcmp = cmpStd := congrArg Prims.cmp hw); (have hun : wun = unStd := congrArg Prims.un hw); (have hconv : wconv = fun k n => k.wrap n := congrArg Prims.conv hw); (have hnot : wnot = fun b => !b := congrArg Prims.not hw); (have hbeq : wbeq = fun a b => a == b := congrArg Prims.beq hw); (have hmm : wmm = maxI := congrArg Prims.mm hw); (have hscmp : wscmp = scmpStd := congrArg Prims.scmp hw); (have hsadd : wsadd = fun x y => x ++ y := congrArg Prims.sadd hw); (have hslen : wslen = fun s => (s.size : Int) := congrArg Prims.slen hw); (have hsat : wsat = std.sat := congrArg Prims.sat hw); (have heqs : weqs = fun a b os => (eqOffs a b os).getD false := congrArg Prims.eqs hw); (have hlen : wlen = fun es => (es.length : Int) := congrArg Prims.len hw); (have hnlen : wnlen = fun es => es.length := congrArg Prims.nlen hw); (have hofNat : wofNat = (fun n : Nat => (n : Int)) := congrArg Prims.ofNat hw); (have htake : wtake = fun es b => es.take b.toNat := congrArg Prims.take hw); (have hdrop : wdrop = fun es a => es.drop a.toNat := congrArg Prims.drop hw); (have happ : wapp = fun a b => a ++ b := congrArg Prims.app hw); (have hzero : wzero = fun n z => List.replicate n.toNat z := congrArg Prims.zero hw); (have hnat : wnat = fun n => n.toNat := congrArg Prims.nat hw); (conv => arg 2; cbv); (generalize hP : Try.prog = P); cbv
  (obtain ⟨L, eL, L0, Ln⟩ : ∃ L : Int, wlen es = L ∧ 0 ≤ L ∧ L.toNat = es.length := ⟨(es.length : Int), by rw [hlen], Int.natCast_nonneg _, Int.toNat_natCast _⟩)
  refine Call.step (by rw [← hP]; exact e_anchor22) rfl ?_
  rintro r rfl
  cbv
  (split <;> rename_i h0 <;> (try (simp only [hbin, hcmp, hun, hconv, hnot, hbeq, hmm, hscmp, hsadd, hslen, hsat, heqs, hofNat, binStd, cmpStd, unStd, scmpStd, maxI, Bool.not_eq_true', Bool.not_eq_false', decide_eq_true_eq, decide_eq_false_iff_not, Int.not_lt, Int.not_le, if_true, if_false, Bool.false_eq_true, beq_iff_eq, bne_iff_ne, ne_eq, Bool.not_eq_eq_eq_not, Bool.not_true, Bool.not_false, beq_eq_false_iff_ne, bne_eq_false_iff_eq, Int.ofNat_eq_natCast, Bool.not_not, not_true_eq_false, not_false_eq_true, reduceCtorEq] at h0)) <;> (try cbv))
  refine Call.step (by rw [← hP]; exact e_small_may ss gs es ds hes hds) (by exact up_track hu hud) ?_
  rintro r ⟨o, rfl, ho⟩
  cbv
  (split <;> rename_i h1 <;> (try (simp only [hbin, hcmp, hun, hconv, hnot, hbeq, hmm, hscmp, hsadd, hslen, hsat, heqs, hofNat, binStd, cmpStd, unStd, scmpStd, maxI, Bool.not_eq_true', Bool.not_eq_false', decide_eq_true_eq, decide_eq_false_iff_not, Int.not_lt, Int.not_le, if_true, if_false, Bool.false_eq_true, beq_iff_eq, bne_iff_ne, ne_eq, Bool.not_eq_eq_eq_not, Bool.not_true, Bool.not_false, beq_eq_false_iff_ne, bne_eq_false_iff_eq, Int.ofNat_eq_natCast, Bool.not_not, not_true_eq_false, not_false_eq_true, reduceCtorEq] at h1)) <;> (try cbv))
  · exact ⟨_, Vw.same rfl, hR _ rfl⟩
  obtain ⟨hok, hps⟩ := ho (by first | rfl | assumption)
  have hle := hok.le
  have hgle := hok.gle
  obtain ⟨os, eos⟩ : ∃ os, ((List.range ss.length).map fun x => [AV.int .i64 (J (nxF ss) (lenF ss) ss.length x)]) = os := ⟨_, rfl⟩
  have m1 : PCalls P 8 [.agg [.list 3 es, .list 5 ds]] (· = .list 1 os) := by
    rw [← hP]
    refine (e_ends ss gs es ds hes hds hok).mono ?_
    rintro r ⟨os', rfl, h⟩
    rw [h.eq, eos]
  have m2 : PCalls P 9 [.agg [.list 3 es, .list 5 ds], .int .i64 L] (· = .list 1 os) := by
    rw [← hP]
    refine (e_rends ss gs es ds hes hds hok L L0 (by omega)).mono ?_
    rintro r ⟨os', rfl, h⟩
    rw [h.eq, eos]
  have hol : os.length = ss.length := by rw [← eos]; simp
  have huo : Up0 os := by rw [← eos]; exact up_map (f := fun x => [AV.int .i64 (J (nxF ss) (lenF ss) ss.length x)]) (fun d => rfl) _
  have hrow : ∀ i : Int, 0 ≤ i → i < L → ∃ v, os[i.toNat]? = some [.int .i64 v] := fun i h0 h1 => by
    obtain ⟨d, _, hr⟩ := get_map (f := fun x => [AV.int .i64 (J (nxF ss) (lenF ss) ss.length x)]) (ds := List.range ss.length) (i := i) h0 (by simp; omega)
    exact ⟨_, by rw [← eos]; exact hr⟩
  have eO : wlen os = L := by
    have e := eL
    rw [hlen] at e ⊢
    show ((os.length : Nat) : Int) = L
    rw [hol, ← hel]; exact e
  clear eos
  refine Call.stepE m1 (by exact up_track hu hud) ?_
  cbv
  refine QCal.stepE (by rw [← hP]; exact e_refsT ss gs es ds hes hds (by omega) (by omega) hps) (by exact up_track hu hud) ?_
  cbv
  simp only [eL]
  refine QCal.stepE m2 (by exact up_track2 hu hud) ?_
  cbv
  simp only [eO]
  (split <;> rename_i h2 <;> (try (simp only [hbin, hcmp, hun, hconv, hnot, hbeq, hmm, hscmp, hsadd, hslen, hsat, heqs, hofNat, binStd, cmpStd, unStd, scmpStd, maxI, Bool.not_eq_true', Bool.not_eq_false', decide_eq_true_eq, decide_eq_false_iff_not, Int.not_lt, Int.not_le, if_true, if_false, Bool.false_eq_true, beq_iff_eq, bne_iff_ne, ne_eq, Bool.not_eq_eq_eq_not, Bool.not_true, Bool.not_false, beq_eq_false_iff_ne, bne_eq_false_iff_eq, Int.ofNat_eq_natCast, Bool.not_not, not_true_eq_false, not_false_eq_true, reduceCtorEq] at h2)) <;> (try cbv))
  simp only [eO]
  refine Loop.data hw (S := Int) (fun i => fr 39 [(3, .list 1 os), (4, .list 1 os), (25, .int .i64 L), (26, .int .i64 i)]) (fun i => [.live 2 [[.list 3 es, .list 5 ds]]]) (fun i => 0 ≤ i ∧ i ≤ L) (fun i => (L - i).toNat) 0 (by (refine Wk.eqz (id) (by first | exact fun i _ j _ e => e | (simp only [List.length_cons, List.length_nil]; decide)) ?_; cbv; (repeat' (first | exact trivial | rfl | assumption | apply And.intro | (simp only [hbin, hcmp, hun, hconv, hnot, hbeq, hmm, hscmp, hsadd, hslen, hsat, heqs, hofNat, binStd, cmpStd, unStd, scmpStd, maxI, Bool.not_eq_true', Bool.not_eq_false', decide_eq_true_eq, decide_eq_false_iff_not, Int.not_lt, Int.not_le, if_true, if_false, Bool.false_eq_true, beq_iff_eq, bne_iff_ne, ne_eq, Bool.not_eq_eq_eq_not, Bool.not_true, Bool.not_false, beq_eq_false_iff_ne, bne_eq_false_iff_eq, Int.ofNat_eq_natCast, Bool.not_not, not_true_eq_false, not_false_eq_true, reduceCtorEq]; first | done | assumption) | exact RowsZ.same (by assumption) (by first | assumption | rfl) | exact FzL.mk rfl rfl rfl (by assumption) (by first | assumption | rfl) (by decide) | (refine RowsZ.one ?_; cbv))))) ⟨Int.le_refl _, L0⟩ ?_
  rintro i hinv Q' hN hE hR'
  have hinv : 0 ≤ i ∧ i ≤ L := hinv
  cbv
  obtain ⟨hi0, hi1⟩ := hinv
  (split <;> rename_i hc <;> (try (simp only [hbin, hcmp, hun, hconv, hnot, hbeq, hmm, hscmp, hsadd, hslen, hsat, heqs, hofNat, binStd, cmpStd, unStd, scmpStd, maxI, Bool.not_eq_true', Bool.not_eq_false', decide_eq_true_eq, decide_eq_false_iff_not, Int.not_lt, Int.not_le, if_true, if_false, Bool.false_eq_true, beq_iff_eq, bne_iff_ne, ne_eq, Bool.not_eq_eq_eq_not, Bool.not_true, Bool.not_false, beq_eq_false_iff_ne, bne_eq_false_iff_eq, Int.ofNat_eq_natCast, Bool.not_not, not_true_eq_false, not_false_eq_true, reduceCtorEq] at hc)) <;> (try cbv))
  · obtain ⟨v, hv⟩ := hrow i hi0 hc
    obtain ⟨i', ei'⟩ : ∃ x, i + 1 = x := ⟨_, rfl⟩
    have ei : wbin .add .i64 i 1 = i' := by rw [hbin, i_add (by omega) (by omega)]; exact ei'
    have hT : (L - i').toNat < (L - i).toNat := by omega
    repeat' (first
      | (refine Idx.mk [.int .i64 v] hi0 hv ?_; cbv)
      | (split <;> rename_i h <;> (try (simp only [hcmp] at h)) <;> (try (simp only [hbin, hcmp, hun, hconv, hnot, hbeq, hmm, hscmp, hsadd, hslen, hsat, heqs, hofNat, binStd, cmpStd, unStd, scmpStd, maxI, Bool.not_eq_true', Bool.not_eq_false', decide_eq_true_eq, decide_eq_false_iff_not, Int.not_lt, Int.not_le, if_true, if_false, Bool.false_eq_true, beq_iff_eq, bne_iff_ne, ne_eq, Bool.not_eq_eq_eq_not, Bool.not_true, Bool.not_false, beq_eq_false_iff_ne, bne_eq_false_iff_eq, Int.ofNat_eq_natCast, Bool.not_not, not_true_eq_false, not_false_eq_true, reduceCtorEq] at h)) <;> (try cbv)))
    all_goals
      simp only [ei]
      refine hN i' _ _ ?hx ?hi hT
      case hx => (refine Wk.eqz (id) (by first | exact fun i _ j _ e => e | (simp only [List.length_cons, List.length_nil]; decide)) ?_; cbv; (repeat' (first | exact trivial | rfl | assumption | apply And.intro | (simp only [hbin, hcmp, hun, hconv, hnot, hbeq, hmm, hscmp, hsadd, hslen, hsat, heqs, hofNat, binStd, cmpStd, unStd, scmpStd, maxI, Bool.not_eq_true', Bool.not_eq_false', decide_eq_true_eq, decide_eq_false_iff_not, Int.not_lt, Int.not_le, if_true, if_false, Bool.false_eq_true, beq_iff_eq, bne_iff_ne, ne_eq, Bool.not_eq_eq_eq_not, Bool.not_true, Bool.not_false, beq_eq_false_iff_ne, bne_eq_false_iff_eq, Int.ofNat_eq_natCast, Bool.not_not, not_true_eq_false, not_false_eq_true, reduceCtorEq]; first | done | assumption) | exact RowsZ.same (by assumption) (by first | assumption | rfl) | exact FzL.mk rfl rfl rfl (by assumption) (by first | assumption | rfl) (by decide) | (refine RowsZ.one ?_; cbv))))
      case hi => exact ⟨by omega, by omega⟩
  · refine hE _ _ _ ?_
    cbv
    exact ⟨_, Vw.same rfl, hR _ rfl⟩
end Go.Proofs.Ytfonjmhnokailaa


set_option linter.unusedVariables false
set_option maxRecDepth 100000
namespace Go.Proofs.Ytfonjmhnokailaa
open Go Go.RowKit Go.Eng
theorem walk_BrakeEnds (x0 : AV) (h0 : TyV Try.prog 8 25 x0) : PCalls Try.prog 3 [x0] (fun r => r = .bool true) := by
  obtain ⟨ss, gs, rfl⟩ := ty_track x0 h0
  exact e_bends ss gs _ _ rfl rfl
end Go.Proofs.Ytfonjmhnokailaa


