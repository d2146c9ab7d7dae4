/- Texts of the proof of LimitFast, joined by wip/tools/pack.py. -/
import Derived.Test.YtjfbecnappgjjaaEng30
import Derived.Test.YtjfbecnappgjjaaEng31
import Derived.Shelf.SlIterI.Nil
import Derived.Shelf.SlIterI.Sorted
import Derived.Shelf.SortM.Plain
import Derived.Shelf.SortM.SortNone
import Derived.Ground.GgzProg
import Derived.Ground.SlgmProg
import Derived.Test.YtjfbecnappgjjaaProg
import Derived.Test.YtjfbecnappgjjaaEng33
import Derived.OwnWalk
import Derived.Below
import Derived.KernelRfl
/- Numbers of 64 bits that do not go beyond. -/
set_option linter.unusedVariables false
namespace Go.Proofs.Ytjfbecnappgjjaa
open Go Go.RowKit Go.Eng
theorem add64n {a b : Int} (h1 : -9223372036854775808 ≤ a + b) (h2 : a + b < 9223372036854775808) : std.1 .add .i64 a b = a + b := by
  show IntKind.i64.wrap (a + b) = _
  rw [IntKind.wrap_i64]; omega
theorem i_add {a b : Int} (h1 : -9223372036854775808 ≤ a + b) (h2 : a + b < 9223372036854775808) : binStd .add .i64 a b = a + b := add64n h1 h2
theorem i_sub {a b : Int} (h1 : -9223372036854775808 ≤ a - b) (h2 : a - b < 9223372036854775808) : binStd .sub .i64 a b = a - b := by
  show IntKind.i64.wrap (a - b) = _
  rw [IntKind.wrap_i64]; omega
theorem i_mul {a b : Int} (h1 : -9223372036854775808 ≤ a * b) (h2 : a * b < 9223372036854775808) : binStd .mul .i64 a b = a * b := by
  show IntKind.i64.wrap (a * b) = _
  rw [IntKind.wrap_i64]; omega
theorem i_neg {a : Int} (h1 : -9223372036854775808 < a) (h2 : a < 9223372036854775808) : unStd .neg .i64 a = -a := by
  show IntKind.i64.wrap (0 - a) = _
  rw [IntKind.wrap_i64]; omega
theorem i_quo {a b : Int} (h0 : 0 ≤ a) (h1 : 0 < b) (h2 : a < 9223372036854775808) : binStd .quo .i64 a b = a / b := by
  show IntKind.i64.wrap (a.tdiv b) = _
  rw [Int.tdiv_eq_ediv_of_nonneg h0]
  have h3 : a / b ≤ a := Int.ediv_le_self _ h0
  have h4 : 0 ≤ a / b := Int.ediv_nonneg h0 (by omega)
  rw [IntKind.wrap_i64]; omega
end Go.Proofs.Ytjfbecnappgjjaa

/- Lists that are built row by row. -/
set_option linter.unusedVariables false
namespace Go.Proofs.Ytjfbecnappgjjaa
open Go Go.RowKit Go.Eng
/-- Where a list is being built, row by row. -/
inductive Bd where
  | start
  | more (i : Int) (n : Nat) (fs : List (List AV))
def Bd.Ok (es : List (List AV)) : Bd → Prop
  | .start => True
  | .more i n fs => 0 < i ∧ i.toNat ≤ es.length ∧ fs = es.take i.toNat ∧ n = fs.length ∧ Up0 fs
def Bd.left (es : List (List AV)) : Bd → Nat
  | .start => es.length
  | .more i _ _ => es.length - i.toNat
theorem up_take {es : List (List AV)} (h : Up0 es) (n : Nat) : Up0 (es.take n) := by
  obtain ⟨h⟩ := h
  refine ⟨?_⟩
  induction es generalizing n with
  | nil => simpa using h
  | cons e t ih =>
    cases n with
    | zero => rfl
    | succ n =>
      simp only [uptoLL, Bool.and_eq_true] at h
      simp only [List.take_succ_cons, uptoLL, Bool.and_eq_true]
      exact ⟨h.1, ih n h.2⟩
theorem take_row {es : List (List AV)} {i : Int} {row : List AV} (h0 : 0 ≤ i) (hr : es[i.toNat]? = some row) : es.take (i + 1).toNat = es.take i.toNat ++ [row] := by
  rw [show (i + 1).toNat = i.toNat + 1 by omega, List.take_add_one, hr]; rfl
theorem up_map {D : Type} {f : D → List AV} (hf : ∀ d, uptoL 0 (f d) = true) (ds : List D) : Up0 (ds.map f) := by
  refine ⟨?_⟩
  induction ds with
  | nil => rfl
  | cons d t ih => exact Bool.and_eq_true_iff.mpr ⟨hf d, ih⟩
theorem get_map {D : Type} {f : D → List AV} {ds : List D} {i : Int} (h0 : 0 ≤ i) (h : i.toNat < ds.length) : ∃ d, ds[i.toNat]? = some d ∧ (ds.map f)[i.toNat]? = some (f d) := by
  have h1 := h
  exact ⟨ds[i.toNat], by rw [List.getElem?_eq_getElem h1], by simp [h1]⟩
end Go.Proofs.Ytjfbecnappgjjaa

/- A track: segments, pieces, groups. -/
set_option linter.unusedVariables false
namespace Go.Proofs.Ytjfbecnappgjjaa
open Go Go.RowKit Go.Eng
/-- A segment. -/
structure Sg where
  len : Int
  ps : List (Int × Int)
  nx : List Int
/-- A group. -/
structure Gr where
  id : Int
  seg : Int
  off : Int
  acc : Int
  sl : Int
def pcRow (p : Int × Int) : List AV := [.int .i64 p.1, .int .i64 p.2]
def nxRow (n : Int) : List AV := [.int .i64 n]
def sgRow (s : Sg) : List AV := [.int .i64 s.len, .list 2 (s.ps.map pcRow), .list 1 (s.nx.map nxRow)]
def grRow (g : Gr) : List AV := [.int .i64 g.id, .int .i64 g.seg, .int .i64 g.off, .int .i64 g.acc, .int .i64 g.sl]
theorem up_segRow {len : Int} {q n : List (List AV)} (hq : Up0 q) (hn : Up0 n) : uptoL 0 [.int .i64 len, .list 2 q, .list 1 n] = true :=
  Bool.and_eq_true_iff.mpr ⟨rfl, Up0.one hq (Up0.one hn rfl)⟩
theorem up_seg {len : Int} {q n : List (List AV)} (hq : Up0 q) (hn : Up0 n) : Up0 [[.int .i64 len, .list 2 q, .list 1 n]] :=
  ⟨Bool.and_eq_true_iff.mpr ⟨up_segRow hq hn, rfl⟩⟩
theorem up_pc (ps : List (Int × Int)) : Up0 (ps.map pcRow) := up_map (f := pcRow) (fun d => rfl) ps
theorem up_nx (ns : List Int) : Up0 (ns.map nxRow) := up_map (f := nxRow) (fun d => rfl) ns
theorem up_gr (gs : List Gr) : Up0 (gs.map grRow) := up_map (f := grRow) (fun d => rfl) gs
theorem up_sg (ss : List Sg) : Up0 (ss.map sgRow) := up_map (f := sgRow) (fun s => up_segRow (up_pc s.ps) (up_nx s.nx)) ss
end Go.Proofs.Ytjfbecnappgjjaa

/- The shelf's contracts at this dump, in plain words (printed by the kit's lay-plain.mjs). -/
namespace Go.Proofs
open Go.Shelf
def Try.keysL_ren : Go.Shelf.Ren := ⟨fun | 7 => 43 | 10 => 61 | n => n, fun | 23 => 93 | 26 => 3 | 3 => 27 | 28 => 99 | 0 => 0 | 27 => 98 | 33 => 119 | 4 => 4 | n => n, fun | n => n⟩
theorem Try.keysL : Go.Proofs.SlLaysZI.n7 Try.prog Try.keysL_ren := {
  mixed := by kernel_rfl
  f7 := ⟨Try.f43.name, by decide, Try.func43.trans (congrArg some (by kernel_rfl))⟩
  f10 := ⟨Try.f61.name, by decide, Try.func61.trans (congrArg some (by kernel_rfl))⟩
  t0 := Try.underlying0
  a0 := Try.isAgg0
  z0 := Try.sizeOf0
  v0 := Try.zeroValue0
  t4 := Try.underlying4
  a4 := Try.isAgg4
  z4 := Try.sizeOf4
  v4 := Try.zeroValue4
  t23 := Try.underlying93
  a23 := Try.isAgg93
  z23 := Try.sizeOf93
  v23 := Try.zeroValue93
  t26 := Try.underlying3
  a26 := Try.isAgg3
  z26 := Try.sizeOf3
  v26 := Try.zeroValue3
  t27 := Try.underlying98
  a27 := Try.isAgg98
  z27 := Try.sizeOf98
  v27 := Try.zeroValue98
  t28 := Try.underlying99
  a28 := Try.isAgg99
  z28 := Try.sizeOf99
  v28 := Try.zeroValue99
  t33 := Try.underlying119
  a33 := Try.isAgg119
  z33 := Try.sizeOf119
  v33 := Try.zeroValue119 }
def Try.sortedL_ren : Go.Shelf.Ren := ⟨fun | 6 => 42 | 8 => 59 | 9 => 60 | 11 => 68 | 13 => 70 | 12 => 69 | 23 => 81 | 24 => 82 | 14 => 72 | 15 => 73 | 16 => 74 | 17 => 75 | 18 => 76 | 19 => 77 | 20 => 78 | 21 => 79 | 22 => 80 | 25 => 83 | 26 => 84 | 27 => 85 | 28 => 86 | 29 => 87 | 30 => 62 | 31 => 88 | n => n, fun | 26 => 3 | 28 => 99 | 24 => 58 | 0 => 0 | 3 => 3 | 37 => 120 | 48 => 138 | 50 => 140 | 4 => 4 | 40 => 131 | 39 => 130 | 45 => 84 | 5 => 5 | 9 => 9 | 51 => 141 | 55 => 145 | 57 => 147 | 58 => 71 | 33 => 119 | n => n, fun | n => n⟩
theorem Try.sortedL : Go.Proofs.SlLaysZI.n6 Try.prog Try.sortedL_ren := {
  mixed := by kernel_rfl
  f6 := ⟨Try.f42.name, by decide, Try.func42.trans (congrArg some (by kernel_rfl))⟩
  f8 := ⟨Try.f59.name, by decide, Try.func59.trans (congrArg some (by kernel_rfl))⟩
  f11 := ⟨Try.f68.name, by decide, Try.func68.trans (congrArg some (by kernel_rfl))⟩
  t0 := Try.underlying0
  a0 := Try.isAgg0
  z0 := Try.sizeOf0
  v0 := Try.zeroValue0
  t24 := Try.underlying58
  a24 := Try.isAgg58
  z24 := Try.sizeOf58
  v24 := Try.zeroValue58
  t26 := Try.underlying3
  a26 := Try.isAgg3
  z26 := Try.sizeOf3
  v26 := Try.zeroValue3
  t28 := Try.underlying99
  a28 := Try.isAgg99
  z28 := Try.sizeOf99
  v28 := Try.zeroValue99
  i26 := by kernel_rfl }
def Try.sortL_ren : Go.Shelf.Ren := ⟨fun | 5 => 60 | 8 => 70 | 7 => 69 | 19 => 81 | 20 => 82 | 10 => 72 | 11 => 73 | 12 => 74 | 13 => 75 | 14 => 76 | 15 => 77 | 16 => 78 | 17 => 79 | 18 => 80 | 30 => 83 | 31 => 84 | 32 => 85 | 33 => 86 | 34 => 87 | 35 => 62 | 40 => 88 | n => n, fun | 23 => 58 | 25 => 3 | 3 => 3 | 32 => 120 | 22 => 58 | 0 => 0 | 44 => 138 | 46 => 140 | 4 => 4 | 36 => 131 | 35 => 130 | 41 => 84 | 5 => 5 | 9 => 9 | 53 => 141 | 57 => 145 | 63 => 147 | 64 => 71 | n => n, fun | n => n⟩
theorem Try.sortL : Go.Proofs.SlLaysM.n5 Try.prog Try.sortL_ren := {
  mixed := by kernel_rfl
  f5 := ⟨Try.f60.name, by decide, Try.func60.trans (congrArg some (by kernel_rfl))⟩
  f7 := ⟨Try.f69.name, by decide, Try.func69.trans (congrArg some (by kernel_rfl))⟩
  f8 := Try.func70.trans (congrArg some (by kernel_rfl))
  f10 := ⟨Try.f72.name, by decide, Try.func72.trans (congrArg some (by kernel_rfl))⟩
  f11 := ⟨Try.f73.name, by decide, Try.func73.trans (congrArg some (by kernel_rfl))⟩
  f12 := ⟨Try.f74.name, by decide, Try.func74.trans (congrArg some (by kernel_rfl))⟩
  f13 := ⟨Try.f75.name, by decide, Try.func75.trans (congrArg some (by kernel_rfl))⟩
  f14 := ⟨Try.f76.name, by decide, Try.func76.trans (congrArg some (by kernel_rfl))⟩
  f15 := ⟨Try.f77.name, by decide, Try.func77.trans (congrArg some (by kernel_rfl))⟩
  f16 := ⟨Try.f78.name, by decide, Try.func78.trans (congrArg some (by kernel_rfl))⟩
  f17 := ⟨Try.f79.name, by decide, Try.func79.trans (congrArg some (by kernel_rfl))⟩
  f18 := ⟨Try.f80.name, by decide, Try.func80.trans (congrArg some (by kernel_rfl))⟩
  f19 := Try.func81.trans (congrArg some (by kernel_rfl))
  f20 := Try.func82.trans (congrArg some (by kernel_rfl))
  f30 := ⟨Try.f83.name, by decide, Try.func83.trans (congrArg some (by kernel_rfl))⟩
  f31 := Try.func84.trans (congrArg some (by kernel_rfl))
  f32 := Try.func85.trans (congrArg some (by kernel_rfl))
  f33 := ⟨Try.f86.name, by decide, Try.func86.trans (congrArg some (by kernel_rfl))⟩
  f34 := ⟨Try.f87.name, by decide, Try.func87.trans (congrArg some (by kernel_rfl))⟩
  f35 := ⟨Try.f62.name, by decide, Try.func62.trans (congrArg some (by kernel_rfl))⟩
  f40 := ⟨Try.f88.name, by decide, Try.func88.trans (congrArg some (by kernel_rfl))⟩
  t0 := Try.underlying0
  a0 := Try.isAgg0
  z0 := Try.sizeOf0
  v0 := Try.zeroValue0
  t3 := Try.underlying3
  a3 := Try.isAgg3
  z3 := Try.sizeOf3
  v3 := Try.zeroValue3
  t4 := Try.underlying4
  a4 := Try.isAgg4
  z4 := Try.sizeOf4
  v4 := Try.zeroValue4
  t5 := Try.underlying5
  a5 := Try.isAgg5
  z5 := Try.sizeOf5
  v5 := Try.zeroValue5
  t9 := Try.underlying9
  a9 := Try.isAgg9
  z9 := Try.sizeOf9
  v9 := Try.zeroValue9
  t22 := Try.underlying58
  a22 := Try.isAgg58
  z22 := Try.sizeOf58
  v22 := Try.zeroValue58
  t23 := Try.underlying58
  a23 := Try.isAgg58
  z23 := Try.sizeOf58
  v23 := Try.zeroValue58
  t25 := Try.underlying3
  a25 := Try.isAgg3
  z25 := Try.sizeOf3
  v25 := Try.zeroValue3
  t32 := Try.underlying120
  a32 := Try.isAgg120
  z32 := Try.sizeOf120
  v32 := Try.zeroValue120
  t35 := Try.underlying130
  a35 := Try.isAgg130
  z35 := Try.sizeOf130
  v35 := Try.zeroValue130
  t36 := Try.underlying131
  a36 := Try.isAgg131
  z36 := Try.sizeOf131
  v36 := Try.zeroValue131
  t41 := Try.underlying84
  a41 := Try.isAgg84
  z41 := Try.sizeOf84
  v41 := Try.zeroValue84
  t44 := Try.underlying138
  a44 := Try.isAgg138
  z44 := Try.sizeOf138
  v44 := Try.zeroValue138
  t46 := Try.underlying140
  a46 := Try.isAgg140
  z46 := Try.sizeOf140
  v46 := Try.zeroValue140
  t53 := Try.underlying141
  a53 := Try.isAgg141
  z53 := Try.sizeOf141
  v53 := Try.zeroValue141
  t57 := Try.underlying145
  a57 := Try.isAgg145
  z57 := Try.sizeOf145
  v57 := Try.zeroValue145
  t63 := Try.underlying147
  a63 := Try.isAgg147
  z63 := Try.sizeOf147
  v63 := Try.zeroValue147
  t64 := Try.underlying71
  a64 := Try.isAgg71
  z64 := Try.sizeOf71
  v64 := Try.zeroValue71 }
end Go.Proofs

/- What a call hands back that only makes memory, seen in the caller's state; a map's keys, sorted. -/
set_option linter.unusedVariables false
set_option linter.unusedSimpArgs false
namespace Go.Proofs.Ytjfbecnappgjjaa
open Go Go.RowKit Go.Eng
set_option maxRecDepth 100000
/-- A world in which nothing that was there has turned. -/
theorem Rel.below {C : Cfg} (R : Rel C) {w' : World} (hb : Below C.w.heap.size C.w w') : Rel { C with w := w' } ∧ ∀ n, Ext n C { C with w := w' } := by
  have he : ∀ n, Ext n C { C with w := w' } := fun n => ⟨rfl, hb.os, hb.tape, hb.output, hb.size, fun s _ h => ⟨h, rfl⟩, fun b hlt ho => ⟨hb.block b hlt, ho⟩, fun b x hx => by
    have hlt : b < C.w.heap.size := by
      unfold World.shape? at hx
      split at hx
      · rename_i c el fz he; exact (Array.getElem?_eq_some_iff.1 he).1
      · cases hx
    unfold World.shape? at hx ⊢
    show (match w'.heap[b]? with | some (.cells c elem _) => some (elem, c.size) | _ => none) = some x
    rw [hb.block b hlt]
    exact hx⟩
  exact ⟨R.of_ext (he _) (fun s z es hl => .inl ⟨hl, rfl, hb.block _ (R.lown_lt ⟨s, ⟨z, es, hl⟩, rfl⟩)⟩) R.inj, he⟩
theorem not_own_ge {C : Cfg} (R : Rel C) {w' : World} {g : Nat} (hg : C.w.heap.size ≤ g) : ¬ Cfg.own { C with w := w' } g := by
  rintro (ho | ⟨s, ⟨z, es, hs⟩, hr⟩)
  · have := R.olt _ ho; omega
  · have := R.lown_lt ⟨s, ⟨z, es, hs⟩, rfl⟩
    simp only at hr
    omega
/-- A row that a call has built, as a list. -/
theorem row_list {C : Cfg} (R : Rel C) {w' : World} {e : TypeId} {z : Nat} {v : Value} {es : List (List AV)} {xs : List Value} (hz0 : 0 < z) (ho : w'.ownsRow C.w.heap.size e z v es.length xs) (hz : ∀ r, r ∈ es → r.length = z)
    (hv : ∀ (i : Nat) (r : List AV), es[i]? = some r → ∀ (j : Nat) (x : AV), r[j]? = some x → VR { C with w := w' } x (xs.getD (i * z + j) undef)) : VR { C with w := w' } (.list z es) v := by
  obtain ⟨hxl, ⟨rfl, h0⟩ | ⟨g, cap, cur, rfl, hg, hcell, hn, hcap, hsz, htake⟩⟩ := ho
  · have : es = [] := List.length_eq_zero_iff.1 h0
    subst this
    exact .listNil z none 0
  · refine .list z _ ⟨g, 0, none⟩ es.length cap (fun i j => xs.getD (i * z + j) undef) rfl hn rfl hz (fun i j hi hj => ?_) (fun _ _ ho => not_own_ge R hg ho) hv
    have hlt := row_lt (n := es.length) (z := z) hi hj
    have hcz : es.length * z ≤ cap * z := Nat.mul_le_mul_right z hn
    show w'.cell? _ = _
    have h1 : cur[i * z + j]? = xs[i * z + j]? := by
      rw [← htake, List.getElem?_take, if_pos hlt, Array.getElem?_toList]
    have h2 : xs[i * z + j]? = some (xs.getD (i * z + j) undef) := getD_get undef (by omega)
    rw [← h2, ← h1]
    unfold World.cell?
    simp only [hcell, Nat.zero_add, Option.isSome_none, Bool.false_eq_true, if_false]
theorem ints_list {C : Cfg} (R : Rel C) {w' : World} {e : TypeId} {v : Value} {ns : List Int} (ho : w'.ownsRow C.w.heap.size e 1 v ns.length (ns.map (Value.int .i64))) : VR { C with w := w' } (.list 1 (ns.map nxRow)) v := by
  refine row_list R (z := 1) (es := ns.map nxRow) (by decide) (by simpa using ho) (fun r hr => ?_) fun i r hr j x hx => ?_
  · obtain ⟨y, _, rfl⟩ := List.mem_map.1 hr; rfl
  · rw [List.getElem?_map] at hr
    cases hi : ns[i]? with
    | none => rw [hi] at hr; cases hr
    | some y =>
      rw [hi] at hr
      simp only [Option.map_some, Option.some.injEq] at hr
      subst hr
      cases j with
      | zero =>
        simp only [nxRow, List.getElem?_cons_zero, Option.some.injEq] at hx
        subst hx
        have : (ns.map (Value.int .i64)).getD (i * 1 + 0) undef = .int .i64 y := by simp [List.getD_eq_getElem?_getD, hi]
        rw [this]; exact .int _ _
      | succ j => simp [nxRow] at hx
theorem ownsRow_rel {w : World} {b b' : Nat} (h : b' ≤ b) {e : TypeId} {z n : Nat} {v : Value} {xs : List Value} (ho : w.ownsRow b e z v n xs) : w.ownsRow b' e z v n xs := by
  obtain ⟨h1, h2 | ⟨g, cap, cur, h3, h4, h5⟩⟩ := ho
  · exact ⟨h1, .inl h2⟩
  · exact ⟨h1, .inr ⟨g, cap, cur, h3, by omega, h5⟩⟩
open Go.Maps Go.Sort Go.Shelf in
theorem sorts72 (m : Nat) : AnyZI.SortsIn Try.prog Try.sortedL_ren Fence.wide m :=
  ⟨fun blk off cap ss W hH hblk hsz => callsIn_wide.2 (AnyM.slices_Sort_int Try.sortL blk off cap ss W hH hblk hsz),
   fun p cap W => callsIn_wide.2 (AnyM.slices_Sort_int_none Try.sortL p cap W)⟩
open Go.Maps Go.Sort Go.Shelf in
/-- slices.Sorted at a map's iterator. -/
theorem c_sorted (b nn Bm : Nat) (D0 : DataW Nat) (R : Value → Option (DataW Nat × List MemPlace)) (w : World) (hBm : Bm < w.heap.size) (hm : w.cell? ⟨Bm, 0, none⟩ = some (.map (some b))) (hown : w.ownsMap Try.prog 3 R b nn D0) (hmax : Maps.size D0 ≤ maxLen) (hbytes : Maps.size D0 * 8 ≤ 140737488355328) :
    Calls Try.prog 42 #[.func (.func 61) #[] #[.pointer (some ⟨Bm, 0, none⟩)]] w fun e w' => ∃ (v : Value) (ss : List Int), e = .returned v ∧ ss.Perm (intKeys D0) ∧
      w'.ownsRow w.heap.size 3 1 v ss.length ((ss.mergeSort (fun x y => decide (x ≤ y))).map encZ) ∧ Below w.heap.size w w' := by
  have hseq : SeqGives Fence.wide 2 Try.prog 61 #[.pointer (some ⟨Bm, 0, none⟩)] encZ (fun ss => ss.Perm (intKeys D0)) (Maps.size D0) w :=
    AnyZI.keys_gives (ρ := Try.keysL_ren) { Try.keysL with } Fence.wide _ trivial rfl (by omega) Bm b nn D0 w hBm hm hown
  refine (callsIn_wide.1 (AnyZI.sorted_in Try.sortedL Fence.wide 5 trivial trivial trivial trivial rfl (by omega) (sorts72 _) (enters_of Try.func60 (by kernel_rfl) rfl) 61 #[.pointer (some ⟨Bm, 0, none⟩)] trivial (enters_of Try.func61 (by kernel_rfl) rfl) _ _ hmax hbytes w hseq)).mono ?_
  rintro e w' ⟨v, ss, h1, h2, h3, h4, h5⟩
  exact ⟨v, ss, h1, h2, h3, h5⟩
end Go.Proofs.Ytjfbecnappgjjaa

/- A map's keys, sorted, in any state. -/
set_option linter.unusedVariables false
set_option linter.unusedSimpArgs false
namespace Go.Proofs.Ytjfbecnappgjjaa
open Go Go.RowKit Go.Eng
set_option maxRecDepth 100000
abbrev sp2 (a b : Int) : AV := .agg [.int .i64 a, .int .i64 b]
/-- A map's entry from a number to a span. -/
def mpRow (d : Int × Int × Int) : List AV := [.int .i64 d.1, sp2 d.2.1 d.2.2]
theorem map_inj_of {α β : Type} {f : α → β} (hf : ∀ a b, f a = f b → a = b) : ∀ (l m : List α), l.map f = m.map f → l = m
  | [], [], _ => rfl
  | [], _ :: _, h => by cases h
  | _ :: _, [], h => by cases h
  | a :: l, b :: m, h => by
    simp only [List.map_cons, List.cons.injEq] at h
    rw [hf a b h.1, map_inj_of hf l m h.2]
open Go.Maps Go.MapKept Go.WideElems in
/-- A map's block by the kit's word. -/
theorem owns_of {P : Program} {k : TypeId} (hk : P.underlying k = some (.int .i64)) {w : World} {b : Nat} {ents : Array MapEntry} {ns : List Int} (hb : w.heap[b]? = some (.map ents ents.size)) (hl : ents.size = ns.length) (hborn : ∀ (i : Nat) (e : MapEntry), ents[i]? = some e → e.born = i)
    (hkey : ∀ (i : Nat) (n : Int), ns[i]? = some n → ∃ e, ents[i]? = some e ∧ e.key = .int .i64 n) (hw : ∀ n, n ∈ ns → (Lit.int .i64 n).wf = true) (hnd : ns.Nodup) (hsz : ns.length ≤ maxLen) :
    ∃ D0 : DataW Nat, w.ownsMap P k (fun _ => some (.lit (.bool false), [])) b ns.length D0 ∧ (intKeys D0).Perm ns ∧ Maps.size D0 = ns.length := by
  have hkeys : ents.toList.map (·.key) = ns.map (Value.int .i64) := by
    apply List.ext_getElem?
    intro i
    rw [List.getElem?_map, List.getElem?_map]
    cases hi : ns[i]? with
    | none =>
      have : ents.size ≤ i := by rw [hl]; exact List.getElem?_eq_none_iff.1 hi
      simp [this]
    | some n =>
      obtain ⟨e, he, hke⟩ := hkey i n hi
      simp [he, hke]
  have hinj : ∀ a b : Int, Value.int .i64 a = Value.int .i64 b → a = b := fun a b h => by cases h; rfl
  have hrd : ∀ x ∈ ents.toList, ∃ n, n ∈ ns ∧ x.key = .int .i64 n ∧ rd (H := Nat) P k (fun _ => some (.lit (.bool false), [])) x = some (.int .i64 n, .lit (.bool false)) := by
    intro x hx
    have : x.key ∈ ns.map (Value.int .i64) := by rw [← hkeys]; exact List.mem_map.2 ⟨x, hx, rfl⟩
    obtain ⟨n, hn, he⟩ := List.mem_map.1 this
    refine ⟨n, hn, he.symm, ?_⟩
    unfold rd
    rw [← he, keyOf_int_mk hk (hw n hn)]
    rfl
  have hborns : ents.toList.map (·.born) = List.range ents.size := by
    apply List.ext_getElem?
    intro i
    rw [List.getElem?_map]
    by_cases hi : i < ents.size
    · have h1 : ents.toList[i]? = some ents[i] := by simp [hi]
      rw [h1, List.getElem?_range hi]
      simp only [Option.map_some, Option.some.injEq]
      exact hborn i _ (Array.getElem?_eq_getElem hi)
    · rw [List.getElem?_eq_none (by simpa using hi), List.getElem?_eq_none (by simpa using hi)]
      rfl
  refine ⟨_, ⟨ents, ents.size, hb, ⟨by omega, ⟨fun x hx => ?_, ?_, ?_⟩, fun x hx => ?_⟩, by omega, rfl⟩, ?_, ?_⟩
  · have : x.born ∈ List.range ents.size := by rw [← hborns]; exact List.mem_map.2 ⟨x, hx, rfl⟩
    exact List.mem_range.1 this
  · rw [hborns]; exact List.nodup_range
  · rw [hkeys]; exact List.Pairwise.map _ (fun a b h hn => h (hinj a b hn)) hnd
  · obtain ⟨n, _, _, h⟩ := hrd x hx; exact ⟨_, h⟩
  · have h1 := Go.WideShapes.sorted_perm (ents.toList.map (rg (H := Nat) P k (fun _ => some (.lit (.bool false), []))))
    refine (h1.map (fun p => _root_.Go.intOf p.1)).trans ?_
    have : (ents.toList.map (rg (H := Nat) P k (fun _ => some (.lit (.bool false), [])))).map (fun p => _root_.Go.intOf p.1) = ns := by
      rw [List.map_map]
      have h2 : ∀ x ∈ ents.toList, Value.int .i64 (((fun p => _root_.Go.intOf p.1) ∘ rg (H := Nat) P k (fun _ => some (.lit (.bool false), []))) x) = x.key := by
        intro x hx
        obtain ⟨n, hn, hke, h⟩ := hrd x hx
        simp only [Function.comp, rg, h, hke]
        rfl
      have h3 : (ents.toList.map ((fun p => _root_.Go.intOf p.1) ∘ rg (H := Nat) P k (fun _ => some (.lit (.bool false), [])))).map (Value.int .i64) = ns.map (Value.int .i64) := by
        rw [← hkeys, List.map_map]
        exact List.map_congr_left h2
      exact map_inj_of (fun a b h => hinj a b h) _ _ h3
    rw [this]
  · rw [size_eq, length_sorted]; simp [hl]
/-- slices.Sorted at an own map's iterator: the keys, rising. -/
theorem call_sorted {P : Program} (hP : Try.prog = P) {h : AHeap} {K : AV → AHeap → Prop} {s2 s : Nat} {es : List (List AV)} {ns : List Int} (hs2 : h[s2]? = some (.live 1 [[.mapr s]])) (hs : h[s]? = some (.live 0 es)) (hl : es.length = ns.length) (hes : ∀ (i : Nat) (n : Int), ns[i]? = some n → ∃ v, es[i]? = some [.int .i64 n, v])
    (hw : ∀ n, n ∈ ns → (Lit.int .i64 n).wf = true) (hnd : ns.Nodup) (hsz : ns.length ≤ 1000000) (hK : ∀ ks : List Int, ks.Perm ns → ks.Pairwise (· ≤ ·) → K (.list 1 (ks.map nxRow)) h) :
    ACall P 42 [.func (.func 61) [] [.ref s2 1 0 0]] h K := by
  subst hP
  refine ⟨⟨_, Try.func42, by kernel_rfl, by kernel_rfl⟩, fun C vs hC RC hv => ?_⟩
  obtain ⟨hvl, hv0⟩ := hv
  obtain ⟨vf, vc, e0, hvf, hvc⟩ := (hv0 0 _ rfl).func'
  have hvs : vs = #[vs.getD 0 undef] := by
    have hn : vs.size = 1 := by simpa using hvl
    obtain ⟨l⟩ := vs
    match l, hn with
    | [x], _ => rfl
  have hvf0 : vf = #[] := by
    have : vf.size = 0 := by simpa using hvf.1
    exact Array.eq_empty_of_size_eq_zero this
  obtain ⟨hu2, e2⟩ := (hvc.2 0 _ rfl).ref'
  have hvc1 : vc = #[.pointer (some ⟨C.r s2, 0, none⟩)] := by
    have hn : vc.size = 1 := by simpa using hvc.1
    obtain ⟨l⟩ := vc
    match l, hn with
    | [x], _ => simpa using e2
  subst hvf0; subst hvc1
  rw [hvs, e0]
  subst hC
  obtain ⟨_, _, _, us, ty, hcell, hul, hur⟩ := RC.live s2 1 _ hs2 (by decide)
  have hm0 := (hur 0 _ rfl 0 _ rfl).mapr'
  obtain ⟨hO, ents, hb, hel, hborn, hrow⟩ := RC.map hs (fun e he => by
    obtain ⟨i, hi⟩ := List.mem_iff_getElem?.1 he
    have hil : i < ns.length := by rw [← hl]; exact (List.getElem?_eq_some_iff.1 hi).1
    obtain ⟨v, hv⟩ := hes i ns[i] (List.getElem?_eq_getElem hil)
    rw [hv] at hi; cases hi; rfl)
  have hBm : C.r s2 < C.w.heap.size := (Array.getElem?_eq_some_iff.1 hcell).1
  have hcm : C.w.cell? ⟨C.r s2, 0, none⟩ = some (.map (some (C.r s))) := by
    unfold World.cell?
    simp only [hcell, Option.isSome_none, Bool.false_eq_true, if_false]
    have h1 : us.getD 0 undef = .map (some (C.r s)) := by simpa using hm0.2
    have h0 : 0 < us.size := by simp at hul; omega
    rw [← h1]
    simp [h0]
  obtain ⟨D0, hown, hperm, hsize⟩ := owns_of Try.underlying3 hb (hel.trans hl) hborn (fun i n hi => by
    obtain ⟨v, hv⟩ := hes i n hi
    obtain ⟨e, he, hk, _⟩ := hrow i _ _ hv
    exact ⟨e, he, hk.int'⟩) hw hnd (by unfold maxLen; omega)
  refine (c_sorted (C.r s) ns.length (C.r s2) D0 _ C.w hBm hcm hown (by rw [hsize]; unfold maxLen; omega) (by rw [hsize]; omega)).mono ?_
  rintro e w' ⟨v, ss, rfl, hp, hor, hbel⟩
  obtain ⟨R1, E1⟩ := Rel.below RC hbel
  have tr : ∀ a b c : Int, decide (a ≤ b) = true → decide (b ≤ c) = true → decide (a ≤ c) = true := fun a b c h1 h2 => by simp only [decide_eq_true_eq] at *; omega
  have to : ∀ a b : Int, (decide (a ≤ b) || decide (b ≤ a)) = true := fun a b => by simp only [Bool.or_eq_true, decide_eq_true_eq]; omega
  have hlist := ints_list RC (ns := ss.mergeSort fun x y => decide (x ≤ y)) (by simpa using hor)
  refine ⟨v, _, { C with w := w' }, rfl, hK _ (((List.mergeSort_perm ss _).trans hp).trans hperm) ?_, rfl, R1, hlist, E1 _, Nat.le_refl _⟩
  have := List.pairwise_mergeSort tr to ss
  exact this.imp fun h => by simpa using h
end Go.Proofs.Ytjfbecnappgjjaa

/- The spots of some ways, plainly. -/
set_option linter.unusedVariables false
namespace Go.Proofs.Ytjfbecnappgjjaa
open Go
abbrev Sp := Int × Int × Int
/-- A segment's length. -/
def lenAt (ss : List Sg) (n : Int) : Int := match ss[n.toNat]? with | some s => s.len | none => 0
/-- What of a segment, from one place on, lies at some places. -/
def bit1 (lo hi : Int) (n at_ len : Int) : List Sp := if max lo at_ ≤ min hi (at_ + len) then [(n, max lo at_ - at_, min hi (at_ + len) - at_)] else []
/-- The parts of a way. -/
def parts (ss : List Sg) (lo hi : Int) : Int → List Int → List Sp
  | _, [] => []
  | at_, n :: l => bit1 lo hi n at_ (lenAt ss n) ++ parts ss lo hi (at_ + lenAt ss n) l
def allParts (ss : List Sg) (lo hi from_ : Int) (rs : List (List Int)) : List Sp := rs.flatMap (parts ss lo hi (-from_))
/-- Where a way has come to. -/
def endAt (ss : List Sg) : Int → List Int → Int
  | a, [] => a
  | a, n :: l => endAt ss (a + lenAt ss n) l
theorem endAt_app (ss : List Sg) : ∀ (l m : List Int) (a : Int), endAt ss a (l ++ m) = endAt ss (endAt ss a l) m
  | [], m, a => rfl
  | n :: l, m, a => endAt_app ss l m _
theorem parts_app (ss : List Sg) (lo hi : Int) : ∀ (l m : List Int) (a : Int), parts ss lo hi a (l ++ m) = parts ss lo hi a l ++ parts ss lo hi (endAt ss a l) m
  | [], m, a => rfl
  | n :: l, m, a => by simp only [List.cons_append, parts, endAt, parts_app ss lo hi l m, List.append_assoc]
/-- A map's entries, joined with one more. -/
def getM : List Sp → Int → Option (Int × Int)
  | [], _ => none
  | (n, a, b) :: m, k => if k = n then some (a, b) else getM m k
def putM : List Sp → Int → Int → Int → List Sp
  | [], k, a, b => [(k, a, b)]
  | (n, x, y) :: m, k, a, b => if k = n then (k, a, b) :: m else (n, x, y) :: putM m k a b
def joinM (m : List Sp) (c : Sp) : List Sp := match getM m c.1 with
  | some (x, y) => putM m c.1 (min c.2.1 x) (max c.2.2 y)
  | none => putM m c.1 c.2.1 c.2.2
def joinO (o : Option (Int × Int)) (a b : Int) : Int × Int := match o with
  | some (x, y) => (min a x, max b y)
  | none => (a, b)
def allM (m : List Sp) (cs : List Sp) : List Sp := cs.foldl joinM m
theorem getM_put (k a b : Int) : ∀ (m : List Sp) (q : Int), getM (putM m k a b) q = if q = k then some (a, b) else getM m q
  | [], q => by simp [putM, getM]
  | (n, x, y) :: m, q => by
    unfold putM
    by_cases h : k = n
    · subst h
      simp only [if_true, getM]
      by_cases hq : q = k
      · simp [hq]
      · simp [hq]
    · simp only [if_neg h, getM, getM_put k a b m]
      by_cases hq : q = n
      · subst hq; simp [Ne.symm h]
      · simp [hq]
theorem keys_put (k a b : Int) : ∀ (m : List Sp), (putM m k a b).map (·.1) = if k ∈ m.map (·.1) then m.map (·.1) else m.map (·.1) ++ [k]
  | [] => by simp [putM]
  | (n, x, y) :: m => by
    unfold putM
    by_cases h : k = n
    · subst h; simp
    · rw [if_neg h, List.map_cons, List.map_cons, keys_put k a b m]
      simp only [List.mem_cons, h, false_or]
      split <;> simp
theorem getM_mem : ∀ (m : List Sp) (q : Int), (getM m q).isSome = true ↔ q ∈ m.map (·.1)
  | [], q => by simp [getM]
  | (n, x, y) :: m, q => by
    unfold getM
    by_cases h : q = n
    · subst h; simp
    · rw [if_neg h, getM_mem m q, List.map_cons]
      simp only [List.mem_cons, h, false_or]
/-- What a map holds that is such as these make. -/
structure MOk (N : Nat) (m : List Sp) : Prop where
  nd : (m.map (·.1)).Nodup
  rng : ∀ n : Int, n ∈ m.map (·.1) → 0 ≤ n ∧ n < (N : Int)
  ok : ∀ q a b, getM m q = some (a, b) → a ≤ b ∧ 0 ≤ a ∧ b ≤ 1099511627776
theorem MOk.nil (N : Nat) : MOk N [] := ⟨by simp, by simp, by simp [getM]⟩
theorem MOk.put {N : Nat} {m : List Sp} (h : MOk N m) {k a b : Int} (hk : 0 ≤ k ∧ k < (N : Int)) (hab : a ≤ b ∧ 0 ≤ a ∧ b ≤ 1099511627776) : MOk N (putM m k a b) := by
  refine ⟨?_, fun n hn => ?_, fun q x y hq => ?_⟩
  · rw [keys_put]
    split
    · exact h.nd
    · rename_i hnot
      exact List.nodup_append.2 ⟨h.nd, by simp, fun a ha b hb => by simp at hb; subst hb; exact fun e => hnot (e ▸ ha)⟩
  · rw [keys_put] at hn
    split at hn
    · exact h.rng n hn
    · rcases List.mem_append.1 hn with hn | hn
      · exact h.rng n hn
      · simp at hn; subst hn; exact hk
  · rw [getM_put] at hq
    split at hq
    · simp only [Option.some.injEq, Prod.mk.injEq] at hq
      obtain ⟨rfl, rfl⟩ := hq
      exact hab
    · exact h.ok q x y hq
theorem MOk.join {N : Nat} {m : List Sp} (h : MOk N m) {c : Sp} (hk : 0 ≤ c.1 ∧ c.1 < (N : Int)) (hab : c.2.1 ≤ c.2.2 ∧ 0 ≤ c.2.1 ∧ c.2.2 ≤ 1099511627776) : MOk N (joinM m c) := by
  unfold joinM
  split
  · rename_i x y hx
    have := h.ok _ _ _ hx
    exact h.put hk (by omega)
  · exact h.put hk hab
theorem joinM_eq (m : List Sp) (c : Sp) : joinM m c = putM m c.1 (joinO (getM m c.1) c.2.1 c.2.2).1 (joinO (getM m c.1) c.2.1 c.2.2).2 := by
  unfold joinM joinO
  split
  · rename_i x y hx; rfl
  · rename_i hx; rfl
/-- A segment's part, joined out of all. -/
def segO (cs : List Sp) (q : Int) : Option (Int × Int) := cs.foldl (fun o c => if q = c.1 then some (joinO o c.2.1 c.2.2) else o) none
theorem getM_all (q : Int) : ∀ (cs : List Sp) (m : List Sp), getM (allM m cs) q = cs.foldl (fun o c => if q = c.1 then some (joinO o c.2.1 c.2.2) else o) (getM m q)
  | [], m => rfl
  | c :: cs, m => by
    unfold allM
    simp only [List.foldl_cons]
    have ih := getM_all q cs (joinM m c)
    unfold allM at ih
    rw [ih]
    congr 1
    rw [joinM_eq, getM_put]
    by_cases h : q = c.1
    · subst h; simp
    · simp [h]
/-- All spots, rising. -/
def spotsOf (N : Nat) (cs : List Sp) : List Sp := (List.range N).filterMap fun i : Nat => (segO cs (i : Int)).map fun p => ((i : Int), p.1, p.2)
/-- The sorted keys of the joined map are the segments that have a part. -/
theorem keys_eq {N : Nat} {m : List Sp} (h : MOk N m) {ks : List Int} (hp : ks.Perm (m.map (·.1))) (hs : ks.Pairwise (· ≤ ·)) : ks = ((List.range N).filter fun i : Nat => (getM m (i : Int)).isSome).map fun i : Nat => (i : Int) := by
  have hnd : ks.Nodup := hp.nodup_iff.2 h.nd
  have hr : (((List.range N).filter fun i : Nat => (getM m (i : Int)).isSome).map fun i : Nat => (i : Int)).Pairwise (· < ·) := by
    rw [List.pairwise_map]
    have h1 : (List.range N).Pairwise (· < ·) := List.pairwise_lt_range
    exact (h1.filter _).imp fun hlt => by omega
  refine List.Perm.eq_of_pairwise (le := fun a b : Int => a ≤ b) (fun a b _ _ h1 h2 => by omega) hs (hr.imp fun hlt => by omega) ?_
  have hnd2 : (((List.range N).filter fun i : Nat => (getM m (i : Int)).isSome).map fun i : Nat => (i : Int)).Nodup := hr.imp fun hlt => by omega
  rw [List.perm_ext_iff_of_nodup hnd hnd2]
  intro a
  rw [hp.mem_iff]
  constructor
  · intro ha
    obtain ⟨h0, h1⟩ := h.rng a ha
    refine List.mem_map.2 ⟨a.toNat, List.mem_filter.2 ⟨List.mem_range.2 (by omega), ?_⟩, by omega⟩
    rw [show ((a.toNat : Nat) : Int) = a by omega]
    exact (getM_mem m a).2 ha
  · intro ha
    obtain ⟨i, hi, rfl⟩ := List.mem_map.1 ha
    exact (getM_mem m _).1 (List.mem_filter.1 hi).2
theorem MOk.count {N : Nat} {m : List Sp} (h : MOk N m) : (m.map (·.1)).length ≤ N := by
  have tr : ∀ a b c : Int, decide (a ≤ b) = true → decide (b ≤ c) = true → decide (a ≤ c) = true := fun a b c h1 h2 => by simp only [decide_eq_true_eq] at *; omega
  have to : ∀ a b : Int, (decide (a ≤ b) || decide (b ≤ a)) = true := fun a b => by simp only [Bool.or_eq_true, decide_eq_true_eq]; omega
  have hp := List.mergeSort_perm (m.map (·.1)) (fun a b : Int => decide (a ≤ b))
  have hs : ((m.map (·.1)).mergeSort fun a b : Int => decide (a ≤ b)).Pairwise (· ≤ ·) := (List.pairwise_mergeSort tr to _).imp fun h => by simpa using h
  have := keys_eq h hp hs
  rw [← hp.length_eq, this, List.length_map]
  exact Nat.le_trans (List.length_filter_le _ _) (by simp)
def rowOf (m : List Sp) (n : Int) : Sp := match getM m n with | some (a, b) => (n, a, b) | none => (n, 0, 0)
theorem spots_eq {N : Nat} {cs : List Sp} (h : MOk N (allM [] cs)) {ks : List Int} (hp : ks.Perm ((allM [] cs).map (·.1))) (hs : ks.Pairwise (· ≤ ·)) : ks.map (rowOf (allM [] cs)) = spotsOf N cs := by
  rw [keys_eq h hp hs, List.map_map]
  unfold spotsOf
  have e : ∀ i : Nat, segO cs (i : Int) = getM (allM [] cs) (i : Int) := fun i => by rw [getM_all]; rfl
  induction (List.range N) with
  | nil => rfl
  | cons i l ih =>
    rw [List.filter_cons, List.filterMap_cons, e i]
    cases hg : getM (allM [] cs) (i : Int) with
    | none => simpa using ih
    | some p =>
      simp only [Option.isSome_some, if_true, List.map_cons, Option.map_some, ih]
      congr 1
      simp [rowOf, hg]
end Go.Proofs.Ytjfbecnappgjjaa

/- The spots of some ways, by the engine: spans. -/
set_option linter.unusedVariables false
set_option linter.unusedSimpArgs false
namespace Go.Proofs.Ytjfbecnappgjjaa
open Go Go.RowKit Go.Eng
set_option maxRecDepth 100000
theorem e_both (lo hi : Int) (o : Bool) (ho : decide (lo ≤ hi) = o) : PCalls Try.prog 57 [.int .i64 lo, .bool true, .int .i64 hi, .bool true] (fun r => if o = true then r = .tuple [sp2 lo hi, .bool true] else r = .tuple [sp2 0 0, .bool false]) := by
  (refine PCalls.ofY Try.func57 (by kernel_rfl) (by kernel_rfl) fun w hw R hR => ?_); (obtain ⟨wbin, wcmp, wun, wconv, wnot, wbeq, wmm, wscmp, wsadd, wslen, wsat, weqs, wlen, wnlen, wofNat, wtake, wdrop, wapp, wzero, wnat⟩ := w); (have hbin : wbin = binStd := congrArg Prims.bin hw); (have hcmp : wcmp = cmpStd := congrArg Prims.cmp hw); (have hun : wun = unStd := congrArg Prims.un hw); (have hconv : wconv = fun k n => k.wrap n := congrArg Prims.conv hw); (have hnot : wnot = fun b => !b := congrArg Prims.not hw); (have hbeq : wbeq = fun a b => a == b := congrArg Prims.beq hw); (have hmm : wmm = maxI := congrArg Prims.mm hw); (have hscmp : wscmp = scmpStd := congrArg Prims.scmp hw); (have hsadd : wsadd = fun x y => x ++ y := congrArg Prims.sadd hw); (have hslen : wslen = fun s => (s.size : Int) := congrArg Prims.slen hw); (have hsat : wsat = std.sat := congrArg Prims.sat hw); (have heqs : weqs = fun a b os => (eqOffs a b os).getD false := congrArg Prims.eqs hw); (have hlen : wlen = fun es => (es.length : Int) := congrArg Prims.len hw); (have hnlen : wnlen = fun es => es.length := congrArg Prims.nlen hw); (have hofNat : wofNat = (fun n : Nat => (n : Int)) := congrArg Prims.ofNat hw); (have htake : wtake = fun es b => es.take b.toNat := congrArg Prims.take hw); (have hdrop : wdrop = fun es a => es.drop a.toNat := congrArg Prims.drop hw); (have happ : wapp = fun a b => a ++ b := congrArg Prims.app hw); (have hzero : wzero = fun n z => List.replicate n.toNat z := congrArg Prims.zero hw); (have hnat : wnat = fun n => n.toNat := congrArg Prims.nat hw); (conv => arg 2; cbv); (generalize hP : Try.prog = P); cbv
  repeat' (split <;> rename_i h <;> (try (simp only [hbin, hcmp, hun, hconv, hnot, hbeq, hmm, hscmp, hsadd, hslen, hsat, heqs, hofNat, binStd, cmpStd, unStd, scmpStd, maxI, Bool.not_eq_true', Bool.not_eq_false', decide_eq_true_eq, decide_eq_false_iff_not, Int.not_lt, Int.not_le, if_true, if_false, Bool.false_eq_true, beq_iff_eq, bne_iff_ne, ne_eq, Bool.not_eq_eq_eq_not, Bool.not_true, Bool.not_false, beq_eq_false_iff_ne, bne_eq_false_iff_eq, Int.ofNat_eq_natCast, Bool.not_not, not_true_eq_false, not_false_eq_true, reduceCtorEq] at h)) <;> (try cbv))
  all_goals refine ⟨_, Vw.same rfl, hR _ ?_⟩
  · have : o = false := by rw [← ho]; simp; omega
    rw [this]; rfl
  · have : o = true := by rw [← ho]; simp; omega
    rw [this]; rfl
theorem mmT (a b : Int) : maxI true a b = max a b := by simp only [maxI, if_true]; split <;> omega
theorem mmF (a b : Int) : maxI false a b = min a b := by simp only [maxI, Bool.false_eq_true, if_false]; split <;> omega
theorem e_spMeet (a b c d x y : Int) (o : Bool) (hx : max a c = x) (hy : min b d = y) (ho : decide (x ≤ y) = o) : PCalls Try.prog 40 [sp2 a b, sp2 c d] (fun r => if o = true then r = .tuple [sp2 x y, .bool true] else r = .tuple [sp2 0 0, .bool false]) := by
  (refine PCalls.ofY Try.func40 (by kernel_rfl) (by kernel_rfl) fun w hw R hR => ?_); (obtain ⟨wbin, wcmp, wun, wconv, wnot, wbeq, wmm, wscmp, wsadd, wslen, wsat, weqs, wlen, wnlen, wofNat, wtake, wdrop, wapp, wzero, wnat⟩ := w); (have hbin : wbin = binStd := congrArg Prims.bin hw); (have hcmp : wcmp = cmpStd := congrArg Prims.cmp hw); (have hun : wun = unStd := congrArg Prims.un hw); (have hconv : wconv = fun k n => k.wrap n := congrArg Prims.conv hw); (have hnot : wnot = fun b => !b := congrArg Prims.not hw); (have hbeq : wbeq = fun a b => a == b := congrArg Prims.beq hw); (have hmm : wmm = maxI := congrArg Prims.mm hw); (have hscmp : wscmp = scmpStd := congrArg Prims.scmp hw); (have hsadd : wsadd = fun x y => x ++ y := congrArg Prims.sadd hw); (have hslen : wslen = fun s => (s.size : Int) := congrArg Prims.slen hw); (have hsat : wsat = std.sat := congrArg Prims.sat hw); (have heqs : weqs = fun a b os => (eqOffs a b os).getD false := congrArg Prims.eqs hw); (have hlen : wlen = fun es => (es.length : Int) := congrArg Prims.len hw); (have hnlen : wnlen = fun es => es.length := congrArg Prims.nlen hw); (have hofNat : wofNat = (fun n : Nat => (n : Int)) := congrArg Prims.ofNat hw); (have htake : wtake = fun es b => es.take b.toNat := congrArg Prims.take hw); (have hdrop : wdrop = fun es a => es.drop a.toNat := congrArg Prims.drop hw); (have happ : wapp = fun a b => a ++ b := congrArg Prims.app hw); (have hzero : wzero = fun n z => List.replicate n.toNat z := congrArg Prims.zero hw); (have hnat : wnat = fun n => n.toNat := congrArg Prims.nat hw); (conv => arg 2; cbv); (generalize hP : Try.prog = P); cbv
  have e1 : wmm true a c = x := by rw [hmm, mmT, hx]
  have e2 : wmm false b d = y := by rw [hmm, mmF, hy]
  simp only [e1, e2]
  refine Call.step (by rw [← hP]; exact e_both x y o ho) rfl ?_
  rintro r hr
  cases o with
  | true =>
    obtain rfl : r = .tuple [sp2 x y, .bool true] := hr
    cbv
    exact ⟨_, Vw.same rfl, hR _ rfl⟩
  | false =>
    obtain rfl : r = .tuple [sp2 0 0, .bool false] := hr
    cbv
    exact ⟨_, Vw.same rfl, hR _ rfl⟩
theorem e_spRight (a b : Int) : PCalls Try.prog 58 [sp2 a b] (· = .bool (decide (a ≤ b))) := by
  (refine PCalls.ofY Try.func58 (by kernel_rfl) (by kernel_rfl) fun w hw R hR => ?_); (obtain ⟨wbin, wcmp, wun, wconv, wnot, wbeq, wmm, wscmp, wsadd, wslen, wsat, weqs, wlen, wnlen, wofNat, wtake, wdrop, wapp, wzero, wnat⟩ := w); (have hbin : wbin = binStd := congrArg Prims.bin hw); (have hcmp : wcmp = cmpStd := congrArg Prims.cmp hw); (have hun : wun = unStd := congrArg Prims.un hw); (have hconv : wconv = fun k n => k.wrap n := congrArg Prims.conv hw); (have hnot : wnot = fun b => !b := congrArg Prims.not hw); (have hbeq : wbeq = fun a b => a == b := congrArg Prims.beq hw); (have hmm : wmm = maxI := congrArg Prims.mm hw); (have hscmp : wscmp = scmpStd := congrArg Prims.scmp hw); (have hsadd : wsadd = fun x y => x ++ y := congrArg Prims.sadd hw); (have hslen : wslen = fun s => (s.size : Int) := congrArg Prims.slen hw); (have hsat : wsat = std.sat := congrArg Prims.sat hw); (have heqs : weqs = fun a b os => (eqOffs a b os).getD false := congrArg Prims.eqs hw); (have hlen : wlen = fun es => (es.length : Int) := congrArg Prims.len hw); (have hnlen : wnlen = fun es => es.length := congrArg Prims.nlen hw); (have hofNat : wofNat = (fun n : Nat => (n : Int)) := congrArg Prims.ofNat hw); (have htake : wtake = fun es b => es.take b.toNat := congrArg Prims.take hw); (have hdrop : wdrop = fun es a => es.drop a.toNat := congrArg Prims.drop hw); (have happ : wapp = fun a b => a ++ b := congrArg Prims.app hw); (have hzero : wzero = fun n z => List.replicate n.toNat z := congrArg Prims.zero hw); (have hnat : wnat = fun n => n.toNat := congrArg Prims.nat hw); (conv => arg 2; cbv); (generalize hP : Try.prog = P); cbv
  refine ⟨_, Vw.same rfl, hR _ ?_⟩
  rw [hcmp]; rfl
theorem e_spHull (a b c d : Int) (h1 : a ≤ b) (h2 : c ≤ d) : PCalls Try.prog 41 [sp2 a b, sp2 c d] (· = sp2 (min a c) (max b d)) := by
  obtain ⟨x, hx⟩ : ∃ x, min a c = x := ⟨_, rfl⟩
  obtain ⟨y, hy⟩ : ∃ x, max b d = x := ⟨_, rfl⟩
  rw [hx, hy]
  have r1 : PCalls Try.prog 58 [sp2 a b] (· = .bool true) := (e_spRight a b).mono fun r hr => by rw [hr]; simp [h1]
  have r2 : PCalls Try.prog 58 [sp2 c d] (· = .bool true) := (e_spRight c d).mono fun r hr => by rw [hr]; simp [h2]
  (refine PCalls.ofY Try.func41 (by kernel_rfl) (by kernel_rfl) fun w hw R hR => ?_); (obtain ⟨wbin, wcmp, wun, wconv, wnot, wbeq, wmm, wscmp, wsadd, wslen, wsat, weqs, wlen, wnlen, wofNat, wtake, wdrop, wapp, wzero, wnat⟩ := w); (have hbin : wbin = binStd := congrArg Prims.bin hw); (have hcmp : wcmp = cmpStd := congrArg Prims.cmp hw); (have hun : wun = unStd := congrArg Prims.un hw); (have hconv : wconv = fun k n => k.wrap n := congrArg Prims.conv hw); (have hnot : wnot = fun b => !b := congrArg Prims.not hw); (have hbeq : wbeq = fun a b => a == b := congrArg Prims.beq hw); (have hmm : wmm = maxI := congrArg Prims.mm hw); (have hscmp : wscmp = scmpStd := congrArg Prims.scmp hw); (have hsadd : wsadd = fun x y => x ++ y := congrArg Prims.sadd hw); (have hslen : wslen = fun s => (s.size : Int) := congrArg Prims.slen hw); (have hsat : wsat = std.sat := congrArg Prims.sat hw); (have heqs : weqs = fun a b os => (eqOffs a b os).getD false := congrArg Prims.eqs hw); (have hlen : wlen = fun es => (es.length : Int) := congrArg Prims.len hw); (have hnlen : wnlen = fun es => es.length := congrArg Prims.nlen hw); (have hofNat : wofNat = (fun n : Nat => (n : Int)) := congrArg Prims.ofNat hw); (have htake : wtake = fun es b => es.take b.toNat := congrArg Prims.take hw); (have hdrop : wdrop = fun es a => es.drop a.toNat := congrArg Prims.drop hw); (have happ : wapp = fun a b => a ++ b := congrArg Prims.app hw); (have hzero : wzero = fun n z => List.replicate n.toNat z := congrArg Prims.zero hw); (have hnat : wnat = fun n => n.toNat := congrArg Prims.nat hw); (conv => arg 2; cbv); (generalize hP : Try.prog = P); cbv
  have e1 : wmm false a c = x := by rw [hmm, mmF, hx]
  have e2 : wmm true b d = y := by rw [hmm, mmT, hy]
  have n1 : wnot true = false := by rw [hnot]; rfl
  repeat' (first
    | (refine Call.stepE (by rw [← hP]; exact r1) rfl ?_; cbv)
    | (refine Call.stepE (by rw [← hP]; exact r2) rfl ?_; cbv)
    | (simp only [n1]; cbv))
  simp only [e1, e2]
  exact ⟨_, Vw.same rfl, hR _ rfl⟩
end Go.Proofs.Ytjfbecnappgjjaa

/- spot.Within, by the engine. -/
set_option linter.unusedVariables false
set_option linter.unusedSimpArgs false
namespace Go.Proofs.Ytjfbecnappgjjaa
open Go Go.RowKit Go.Eng
set_option maxRecDepth 100000
def rtRow (l : List Int) : List AV := [.list 1 (l.map nxRow)]
def spRow (d : Sp) : List AV := [.int .i64 d.1, .int .i64 d.2.1, .int .i64 d.2.2]
theorem up_rt (rs : List (List Int)) : Up0 (rs.map rtRow) := up_map (f := rtRow) (fun d => Up0.one (up_nx d) rfl) rs
theorem up_mp (m : List Sp) : Up0 (m.map mpRow) := up_map (f := mpRow) (fun d => rfl) m
theorem up_sp (m : List Sp) : Up0 (m.map spRow) := up_map (f := spRow) (fun d => rfl) m
theorem find_mp : ∀ (m : List Sp) (n : Int), findR false 1 [(0, 1)] (m.map mpRow) (.int .i64 n) = some ((getM m n).map fun p => sp2 p.1 p.2)
  | [], n => rfl
  | (k, a, b) :: m, n => by
    simp only [List.map_cons, findR, mpRow]
    have e : keyEq false 1 [(0, 1)] (.int .i64 n) (.int .i64 k) = some (n == k) := by
      simp [keyEq, keyCells, AV.isCell, eqOffs, eqA]
    rw [e]
    unfold getM
    by_cases h : n = k
    · subst h; simp
    · have : (n == k) = false := by simpa using h
      rw [this, if_neg h]
      exact find_mp m n
theorem put_mp : ∀ (m : List Sp) (n a b : Int), putR false 1 [(0, 1)] (m.map mpRow) (.int .i64 n) (sp2 a b) = some ((putM m n a b).map mpRow)
  | [], n, a, b => rfl
  | (k, x, y) :: m, n, a, b => by
    simp only [List.map_cons, putR, mpRow]
    have e : keyEq false 1 [(0, 1)] (.int .i64 n) (.int .i64 k) = some (n == k) := by
      simp [keyEq, keyCells, AV.isCell, eqOffs, eqA]
    rw [e]
    unfold putM
    by_cases h : n = k
    · subst h; simp [mpRow]
    · have : (n == k) = false := by simpa using h
      rw [this, if_neg h]
      have ih := put_mp m n a b
      simp only [ih]
      rfl
theorem take_next {α : Type} {l : List α} {i : Int} {a : α} (h0 : 0 ≤ i) (hr : l[i.toNat]? = some a) : l.take (i + 1).toNat = l.take i.toNat ++ [a] := by
  rw [show (i + 1).toNat = i.toNat + 1 by omega, List.take_add_one, hr]; rfl
/-- What a track must be for its ways' places not to go beyond. -/
structure LensOk (ss : List Sg) : Prop where
  pos : ∀ s, s ∈ ss → 1 ≤ s.len ∧ s.len ≤ 1099511627776
structure WaysOk (ss : List Sg) (rs : List (List Int)) : Prop where
  len : rs.length ≤ 1000
  all : ∀ l, l ∈ rs → l.length ≤ 12 ∧ ∀ n, n ∈ l → 0 ≤ n ∧ n.toNat < ss.length
set_option maxHeartbeats 4000000 in
theorem e_within (ss : List Sg) (gs : List Gr) (rs : List (List Int)) (es ds qs : List (List AV)) (hes : es = ss.map sgRow) (hds : ds = gs.map grRow) (hqs : qs = rs.map rtRow) (from_ lo hi : Int) (hl : LensOk ss) (hway : WaysOk ss rs) (hf : 0 ≤ from_ ∧ from_ ≤ 1099511627776)
    (hlo : -1152921504606846976 ≤ lo ∧ lo ≤ 1152921504606846976) (hhi : -1152921504606846976 ≤ hi ∧ hi ≤ 1152921504606846976) (hN : ss.length ≤ 1000) : PCalls Try.prog 17 [.agg [.list 3 es, .list 5 ds], .int .i64 from_, .list 1 qs, sp2 lo hi] (· = .list 3 ((spotsOf ss.length (allParts ss lo hi from_ rs)).map spRow)) := by
  have hu : Up0 es := by rw [hes]; exact up_sg ss
  have hud : Up0 ds := by rw [hds]; exact up_gr gs
  have huq : Up0 qs := by rw [hqs]; exact up_rt rs
  have hql : qs.length = rs.length := by rw [hqs]; simp
  have hwl := hway.len
  (refine PCalls.ofY Try.func17 (by kernel_rfl) (by kernel_rfl) fun w hw R hR => ?_); (obtain ⟨wbin, wcmp, wun, wconv, wnot, wbeq, wmm, wscmp, wsadd, wslen, wsat, weqs, wlen, wnlen, wofNat, wtake, wdrop, wapp, wzero, wnat⟩ := w); (have hbin : wbin = binStd := congrArg Prims.bin hw); (have hcmp : wcmp = cmpStd := congrArg Prims.cmp hw); (have hun : wun = unStd := congrArg Prims.un hw); (have hconv : wconv = fun k n => k.wrap n := congrArg Prims.conv hw); (have hnot : wnot = fun b => !b := congrArg Prims.not hw); (have hbeq : wbeq = fun a b => a == b := congrArg Prims.beq hw); (have hmm : wmm = maxI := congrArg Prims.mm hw); (have hscmp : wscmp = scmpStd := congrArg Prims.scmp hw); (have hsadd : wsadd = fun x y => x ++ y := congrArg Prims.sadd hw); (have hslen : wslen = fun s => (s.size : Int) := congrArg Prims.slen hw); (have hsat : wsat = std.sat := congrArg Prims.sat hw); (have heqs : weqs = fun a b os => (eqOffs a b os).getD false := congrArg Prims.eqs hw); (have hlen : wlen = fun es => (es.length : Int) := congrArg Prims.len hw); (have hnlen : wnlen = fun es => es.length := congrArg Prims.nlen hw); (have hofNat : wofNat = (fun n : Nat => (n : Int)) := congrArg Prims.ofNat hw); (have htake : wtake = fun es b => es.take b.toNat := congrArg Prims.take hw); (have hdrop : wdrop = fun es a => es.drop a.toNat := congrArg Prims.drop hw); (have happ : wapp = fun a b => a ++ b := congrArg Prims.app hw); (have hzero : wzero = fun n z => List.replicate n.toNat z := congrArg Prims.zero hw); (have hnat : wnat = fun n => n.toNat := congrArg Prims.nat hw); (conv => arg 2; cbv); (generalize hP : Try.prog = P); cbv
  (obtain ⟨L, eL, L0, Ln⟩ : ∃ L : Int, wlen qs = L ∧ 0 ≤ L ∧ L.toNat = qs.length := ⟨(qs.length : Int), by rw [hlen], Int.natCast_nonneg _, Int.toNat_natCast _⟩)
  have hu0 : Up0 ([] : List (List AV)) := ⟨rfl⟩
  refine Loop.data hw (S := Int × List Sp × List (List AV)) (fun s => fr 106 [(4, .ref 0 2 0 0), (7, .ref 1 2 0 0), (1, .int .i64 from_), (8, .nils), (9, .mapr 2), (25, .list 1 qs), (26, .int .i64 L), (27, .int .i64 s.1)])
    (fun s => [.live 2 [[.list 3 es, .list 5 ds]], .live 2 [[.int .i64 lo, .int .i64 hi]], .live 0 s.2.2]) (fun s => 0 ≤ s.1 ∧ s.1 ≤ L ∧ s.2.1 = allM [] (allParts ss lo hi from_ (rs.take s.1.toNat)) ∧ MOk ss.length s.2.1 ∧ s.2.2 = s.2.1.map mpRow ∧ Up0 s.2.2) (fun s => (L - s.1).toNat) (0, [], []) (by (refine Wk.eqz (id) (by first | exact fun i _ j _ e => e | (simp only [List.length_cons, List.length_nil]; decide)) ?_; cbv; (repeat' (first | exact trivial | rfl | assumption | apply And.intro | (simp only [hbin, hcmp, hun, hconv, hnot, hbeq, hmm, hscmp, hsadd, hslen, hsat, heqs, hofNat, binStd, cmpStd, unStd, scmpStd, maxI, Bool.not_eq_true', Bool.not_eq_false', decide_eq_true_eq, decide_eq_false_iff_not, Int.not_lt, Int.not_le, if_true, if_false, Bool.false_eq_true, beq_iff_eq, bne_iff_ne, ne_eq, Bool.not_eq_eq_eq_not, Bool.not_true, Bool.not_false, beq_eq_false_iff_ne, bne_eq_false_iff_eq, Int.ofNat_eq_natCast, Bool.not_not, not_true_eq_false, not_false_eq_true, reduceCtorEq]; first | done | assumption) | exact RowsZ.same (by assumption) (by first | assumption | rfl) | exact FzL.mk rfl rfl rfl (by assumption) (by first | assumption | rfl) (by decide) | (refine RowsZ.one ?_; cbv))))) ⟨Int.le_refl _, L0, rfl, MOk.nil _, rfl, ⟨rfl⟩⟩ ?_
  rintro ⟨i, m, fm⟩ hinv Q' hN' hE hR'
  have hinv : 0 ≤ i ∧ i ≤ L ∧ m = allM [] (allParts ss lo hi from_ (rs.take i.toNat)) ∧ MOk ss.length m ∧ fm = m.map mpRow ∧ Up0 fm := hinv
  cbv
  obtain ⟨hi0, hi1, hm, hmok, hfm, hum⟩ := hinv
  (split <;> rename_i hc <;> (try (simp only [hbin, hcmp, hun, hconv, hnot, hbeq, hmm, hscmp, hsadd, hslen, hsat, heqs, hofNat, binStd, cmpStd, unStd, scmpStd, maxI, Bool.not_eq_true', Bool.not_eq_false', decide_eq_true_eq, decide_eq_false_iff_not, Int.not_lt, Int.not_le, if_true, if_false, Bool.false_eq_true, beq_iff_eq, bne_iff_ne, ne_eq, Bool.not_eq_eq_eq_not, Bool.not_true, Bool.not_false, beq_eq_false_iff_ne, bne_eq_false_iff_eq, Int.ofNat_eq_natCast, Bool.not_not, not_true_eq_false, not_false_eq_true, reduceCtorEq] at hc)) <;> (try cbv))
  · obtain ⟨l, hd, hrow⟩ := get_map (f := rtRow) (ds := rs) (i := i) hi0 (by omega)
    obtain ⟨hl12, hln⟩ := hway.all l (List.mem_of_getElem? hd)
    obtain ⟨ls, els⟩ : ∃ x, l.map nxRow = x := ⟨_, rfl⟩
    have huls : Up0 ls := by rw [← els]; exact up_nx l
    have hll : ls.length = l.length := by rw [← els]; simp
    have hrow : qs[i.toNat]? = some [.list 1 ls] := by rw [hqs, ← els]; exact hrow
    obtain ⟨i', ei'⟩ : ∃ x, i + 1 = x := ⟨_, rfl⟩
    have ei : wbin .add .i64 i 1 = i' := by rw [hbin, i_add (by omega) (by omega)]; exact ei'
    obtain ⟨a0, ea0⟩ : ∃ x, -from_ = x := ⟨_, rfl⟩
    have en : wun .neg .i64 from_ = a0 := by rw [hun, i_neg (by omega) (by omega)]; exact ea0
    refine Idx.mk [.list 1 ls] hi0 hrow ?_
    cbv
    (obtain ⟨K, eK, K0, Kn⟩ : ∃ L : Int, wlen ls = L ∧ 0 ≤ L ∧ L.toNat = ls.length := ⟨(ls.length : Int), by rw [hlen], Int.natCast_nonneg _, Int.toNat_natCast _⟩)
    refine Loop.data hw (S := Int × Int × List Sp × List (List AV)) (fun s => fr 106 [(4, .ref 0 2 0 0), (7, .ref 1 2 0 0), (1, .int .i64 from_), (8, .nils), (9, .mapr 2), (25, .list 1 qs), (26, .int .i64 L), (27, .int .i64 i), (33, .list 1 ls), (34, .int .i64 K), (35, .int .i64 s.1), (12, .int .i64 s.2.1)])
      (fun s => [.live 2 [[.list 3 es, .list 5 ds]], .live 2 [[.int .i64 lo, .int .i64 hi]], .live 0 s.2.2.2]) (fun s => 0 ≤ s.1 ∧ s.1 ≤ K ∧ s.2.1 = endAt ss a0 (l.take s.1.toNat) ∧ (-1099511627776 ≤ s.2.1 ∧ s.2.1 ≤ s.1 * 1099511627776) ∧ s.2.2.1 = allM m (parts ss lo hi a0 (l.take s.1.toNat)) ∧ MOk ss.length s.2.2.1 ∧ s.2.2.2 = s.2.2.1.map mpRow ∧ Up0 s.2.2.2) (fun s => (K - s.1).toNat) (0, a0, m, fm) (by (refine Wk.eqz (id) (by first | exact fun i _ j _ e => e | (simp only [List.length_cons, List.length_nil]; decide)) ?_; cbv; (repeat' (first | exact trivial | rfl | assumption | apply And.intro | (simp only [hbin, hcmp, hun, hconv, hnot, hbeq, hmm, hscmp, hsadd, hslen, hsat, heqs, hofNat, binStd, cmpStd, unStd, scmpStd, maxI, Bool.not_eq_true', Bool.not_eq_false', decide_eq_true_eq, decide_eq_false_iff_not, Int.not_lt, Int.not_le, if_true, if_false, Bool.false_eq_true, beq_iff_eq, bne_iff_ne, ne_eq, Bool.not_eq_eq_eq_not, Bool.not_true, Bool.not_false, beq_eq_false_iff_ne, bne_eq_false_iff_eq, Int.ofNat_eq_natCast, Bool.not_not, not_true_eq_false, not_false_eq_true, reduceCtorEq]; first | done | assumption) | exact RowsZ.same (by assumption) (by first | assumption | rfl) | exact FzL.mk rfl rfl rfl (by assumption) (by first | assumption | rfl) (by decide) | (refine RowsZ.one ?_; cbv))))) ⟨Int.le_refl _, K0, rfl, ⟨(show -1099511627776 ≤ a0 by omega), (show a0 ≤ 0 * 1099511627776 by omega)⟩, rfl, hmok, hfm, hum⟩ ?_
    rintro ⟨j, at_, m2, fm2⟩ hinv2 Q2 hN2 hE2 hR2
    have hinv2 : 0 ≤ j ∧ j ≤ K ∧ at_ = endAt ss a0 (l.take j.toNat) ∧ (-1099511627776 ≤ at_ ∧ at_ ≤ j * 1099511627776) ∧ m2 = allM m (parts ss lo hi a0 (l.take j.toNat)) ∧ MOk ss.length m2 ∧ fm2 = m2.map mpRow ∧ Up0 fm2 := hinv2
    cbv
    obtain ⟨hj0, hj1, hat, ⟨hat1, hat2⟩, hm2, hm2ok, hfm2, hum2⟩ := hinv2
    have hat2 : at_ ≤ j * 1099511627776 := hat2
    have hK : K ≤ 12 := by omega
    (split <;> rename_i hc2 <;> (try (simp only [hbin, hcmp, hun, hconv, hnot, hbeq, hmm, hscmp, hsadd, hslen, hsat, heqs, hofNat, binStd, cmpStd, unStd, scmpStd, maxI, Bool.not_eq_true', Bool.not_eq_false', decide_eq_true_eq, decide_eq_false_iff_not, Int.not_lt, Int.not_le, if_true, if_false, Bool.false_eq_true, beq_iff_eq, bne_iff_ne, ne_eq, Bool.not_eq_eq_eq_not, Bool.not_true, Bool.not_false, beq_eq_false_iff_ne, bne_eq_false_iff_eq, Int.ofNat_eq_natCast, Bool.not_not, not_true_eq_false, not_false_eq_true, reduceCtorEq] at hc2)) <;> (try cbv))
    · obtain ⟨n, hdn, hrn⟩ := get_map (f := nxRow) (ds := l) (i := j) hj0 (by omega)
      obtain ⟨hn0, hn1⟩ := hln n (List.mem_of_getElem? hdn)
      have hrn : ls[j.toNat]? = some [.int .i64 n] := by rw [← els]; exact hrn
      obtain ⟨⟨len, ps, nx⟩, hds1, hrs1⟩ := get_map (f := sgRow) (ds := ss) (i := n) hn0 (by omega)
      obtain ⟨q1, eq1⟩ : ∃ x, ps.map pcRow = x := ⟨_, rfl⟩
      obtain ⟨n1, en1⟩ : ∃ x, nx.map nxRow = x := ⟨_, rfl⟩
      have hrs1 : es[n.toNat]? = some [.int .i64 len, .list 2 q1, .list 1 n1] := by rw [hes, ← eq1, ← en1]; exact hrs1
      obtain ⟨hlen1, hlen2⟩ : 1 ≤ len ∧ len ≤ 1099511627776 := hl.pos _ (List.mem_of_getElem? hds1)
      have hla : lenAt ss n = len := by unfold lenAt; rw [hds1]
      obtain ⟨at2, eat2⟩ : ∃ x, at_ + len = x := ⟨_, rfl⟩
      have ea2 : wbin .add .i64 at_ len = at2 := by rw [hbin, i_add (by omega) (by omega)]; exact eat2
      obtain ⟨j', ej'⟩ : ∃ x, j + 1 = x := ⟨_, rfl⟩
      have ej : wbin .add .i64 j 1 = j' := by rw [hbin, i_add (by omega) (by omega)]; exact ej'
      obtain ⟨x, ex⟩ : ∃ x, max lo at_ = x := ⟨_, rfl⟩
      obtain ⟨y, ey⟩ : ∃ x, min hi at2 = x := ⟨_, rfl⟩
      obtain ⟨o, eo⟩ : ∃ o, decide (x ≤ y) = o := ⟨_, rfl⟩
      have mM := e_spMeet lo hi at_ at2 x y o ex ey eo
      refine Idx.mk [.int .i64 n] hj0 hrn ?_
      cbv
      refine Idx.mk [.int .i64 len, .list 2 q1, .list 1 n1] hn0 hrs1 ?_
      cbv
      simp only [ea2]
      have hpj : ∀ bb, bit1 lo hi n at_ len = bb → parts ss lo hi a0 (l.take j'.toNat) = parts ss lo hi a0 (l.take j.toNat) ++ bb := by
        intro bb hbb
        rw [← ej', take_next hj0 hdn, parts_app, ← hat]
        simp only [parts, hla, hbb, List.append_nil]
      have hej : at2 = endAt ss a0 (l.take j'.toNat) := by rw [← ej', take_next hj0 hdn, endAt_app, ← hat, ← eat2]; simp only [endAt, hla]
      have hT2 : (K - j').toNat < (K - j).toNat := by omega
      have hb1 : -1099511627776 ≤ at2 ∧ at2 ≤ j' * 1099511627776 := by omega
      refine Call.step (by rw [← hP]; exact mM) rfl ?_
      rintro r hr
      cases o with
      | false =>
        obtain rfl : r = .tuple [sp2 0 0, .bool false] := hr
        cbv
        have hbit : bit1 lo hi n at_ len = [] := by unfold bit1; rw [eat2, ex, ey, if_neg (of_decide_eq_false eo)]
        refine hN2 (j', at2, m2, fm2) _ _ ?hx ?hI hT2
        case hx => (refine Wk.eqz (id) (by first | exact fun i _ j _ e => e | (simp only [List.length_cons, List.length_nil]; decide)) ?_; cbv; (repeat' (first | exact trivial | rfl | assumption | apply And.intro | (simp only [hbin, hcmp, hun, hconv, hnot, hbeq, hmm, hscmp, hsadd, hslen, hsat, heqs, hofNat, binStd, cmpStd, unStd, scmpStd, maxI, Bool.not_eq_true', Bool.not_eq_false', decide_eq_true_eq, decide_eq_false_iff_not, Int.not_lt, Int.not_le, if_true, if_false, Bool.false_eq_true, beq_iff_eq, bne_iff_ne, ne_eq, Bool.not_eq_eq_eq_not, Bool.not_true, Bool.not_false, beq_eq_false_iff_ne, bne_eq_false_iff_eq, Int.ofNat_eq_natCast, Bool.not_not, not_true_eq_false, not_false_eq_true, reduceCtorEq]; first | done | assumption) | exact RowsZ.same (by assumption) (by first | assumption | rfl) | exact FzL.mk rfl rfl rfl (by assumption) (by first | assumption | rfl) (by decide) | (refine RowsZ.one ?_; cbv))))
        case hI => exact ⟨(show 0 ≤ j' by omega), (show j' ≤ K by omega), hej, hb1, (show m2 = _ by rw [hpj [] hbit, List.append_nil]; exact hm2), hm2ok, hfm2, hum2⟩
      | true =>
        obtain rfl : r = .tuple [sp2 x y, .bool true] := hr
        cbv
        have hxy : x ≤ y := of_decide_eq_true eo
        obtain ⟨u, eu⟩ : ∃ u, x - at_ = u := ⟨_, rfl⟩
        obtain ⟨v, ev⟩ : ∃ v, y - at_ = v := ⟨_, rfl⟩
        have hbit : bit1 lo hi n at_ len = [(n, u, v)] := by unfold bit1; rw [eat2, ex, ey, if_pos hxy, eu, ev]
        have hu3 : 0 ≤ u ∧ u ≤ v ∧ v ≤ 1099511627776 := by omega
        have e1 : wbin .sub .i64 x at_ = u := by rw [hbin, i_sub (by omega) (by omega)]; exact eu
        have e2 : wbin .sub .i64 y at_ = v := by rw [hbin, i_sub (by omega) (by omega)]; exact ev
        simp only [e1, e2]
        have hfind := find_mp m2 n
        rw [← hfm2] at hfind
        have nxt : ∀ (p q : Int), (p, q) = joinO (getM m2 n) u v → ∀ fm3, fm3 = (putM m2 n p q).map mpRow → (0 ≤ j' ∧ j' ≤ K ∧ at2 = endAt ss a0 (l.take j'.toNat) ∧ (-1099511627776 ≤ at2 ∧ at2 ≤ j' * 1099511627776) ∧ putM m2 n p q = allM m (parts ss lo hi a0 (l.take j'.toNat)) ∧ MOk ss.length (putM m2 n p q) ∧ fm3 = (putM m2 n p q).map mpRow ∧ Up0 fm3) := by
          intro p q hpq fm3 hf3
          have hjn : joinM m2 (n, u, v) = putM m2 n p q := by rw [joinM_eq]; simp only [← hpq]
          refine ⟨by omega, by omega, hej, hb1, ?_, ?_, hf3, by rw [hf3]; exact up_mp _⟩
          · rw [hpj _ hbit, ← hjn, hm2]
            simp only [allM, List.foldl_append, List.foldl_cons, List.foldl_nil]
          · rw [← hjn]
            exact hm2ok.join ⟨hn0, by simp only; omega⟩ ⟨hu3.2.1, hu3.1, hu3.2.2⟩
        cases hg : getM m2 n with
        | none =>
          rw [hg] at hfind
          refine Look.miss rfl hfind ?_
          cbv
          obtain ⟨fm3, ef3⟩ : ∃ x, (putM m2 n u v).map mpRow = x := ⟨_, rfl⟩
          have huf3 : Up0 fm3 := by rw [← ef3]; exact up_mp _
          refine Put.mk fm3 rfl (by rw [hfm2, ← ef3]; exact put_mp m2 n u v) ?_
          cbv
          have hnx := nxt u v (by rw [hg]; rfl) fm3 ef3.symm
          refine hN2 (j', at2, putM m2 n u v, fm3) _ _ ?hx ?hI hT2
          case hx => (refine Wk.eqz (id) (by first | exact fun i _ j _ e => e | (simp only [List.length_cons, List.length_nil]; decide)) ?_; cbv; (repeat' (first | exact trivial | rfl | assumption | apply And.intro | (simp only [hbin, hcmp, hun, hconv, hnot, hbeq, hmm, hscmp, hsadd, hslen, hsat, heqs, hofNat, binStd, cmpStd, unStd, scmpStd, maxI, Bool.not_eq_true', Bool.not_eq_false', decide_eq_true_eq, decide_eq_false_iff_not, Int.not_lt, Int.not_le, if_true, if_false, Bool.false_eq_true, beq_iff_eq, bne_iff_ne, ne_eq, Bool.not_eq_eq_eq_not, Bool.not_true, Bool.not_false, beq_eq_false_iff_ne, bne_eq_false_iff_eq, Int.ofNat_eq_natCast, Bool.not_not, not_true_eq_false, not_false_eq_true, reduceCtorEq]; first | done | assumption) | exact RowsZ.same (by assumption) (by first | assumption | rfl) | exact FzL.mk rfl rfl rfl (by assumption) (by first | assumption | rfl) (by decide) | (refine RowsZ.one ?_; cbv))))
          case hI => exact hnx
        | some pq =>
          obtain ⟨p, q⟩ := pq
          rw [hg] at hfind
          refine Look.hit (sp2 p q) rfl hfind ?_
          cbv
          have hpq := hm2ok.ok n p q hg
          obtain ⟨p', ep'⟩ : ∃ x, min u p = x := ⟨_, rfl⟩
          obtain ⟨q', eq'⟩ : ∃ x, max v q = x := ⟨_, rfl⟩
          have mH := e_spHull u v p q hu3.2.1 hpq.1
          rw [ep', eq'] at mH
          refine Call.stepE (by rw [← hP]; exact mH) rfl ?_
          cbv
          obtain ⟨fm3, ef3⟩ : ∃ x, (putM m2 n p' q').map mpRow = x := ⟨_, rfl⟩
          have huf3 : Up0 fm3 := by rw [← ef3]; exact up_mp _
          refine Put.mk fm3 rfl (by rw [hfm2, ← ef3]; exact put_mp m2 n p' q') ?_
          cbv
          have hnx := nxt p' q' (by rw [hg]; simp only [joinO, ep', eq']) fm3 ef3.symm
          refine hN2 (j', at2, putM m2 n p' q', fm3) _ _ ?hx ?hI hT2
          case hx => (refine Wk.eqz (id) (by first | exact fun i _ j _ e => e | (simp only [List.length_cons, List.length_nil]; decide)) ?_; cbv; (repeat' (first | exact trivial | rfl | assumption | apply And.intro | (simp only [hbin, hcmp, hun, hconv, hnot, hbeq, hmm, hscmp, hsadd, hslen, hsat, heqs, hofNat, binStd, cmpStd, unStd, scmpStd, maxI, Bool.not_eq_true', Bool.not_eq_false', decide_eq_true_eq, decide_eq_false_iff_not, Int.not_lt, Int.not_le, if_true, if_false, Bool.false_eq_true, beq_iff_eq, bne_iff_ne, ne_eq, Bool.not_eq_eq_eq_not, Bool.not_true, Bool.not_false, beq_eq_false_iff_ne, bne_eq_false_iff_eq, Int.ofNat_eq_natCast, Bool.not_not, not_true_eq_false, not_false_eq_true, reduceCtorEq]; first | done | assumption) | exact RowsZ.same (by assumption) (by first | assumption | rfl) | exact FzL.mk rfl rfl rfl (by assumption) (by first | assumption | rfl) (by decide) | (refine RowsZ.one ?_; cbv))))
          case hI => exact hnx
    · refine hE2 _ _ _ ?_
      cbv
      have hjK : l.take j.toNat = l := List.take_of_length_le (by omega)
      rw [hjK] at hm2
      refine hN' (i', m2, fm2) _ _ ?hx ?hI (show (L - i').toNat < (L - i).toNat by omega)
      case hx => (refine Wk.eqz (id) (by first | exact fun i _ j _ e => e | (simp only [List.length_cons, List.length_nil]; decide)) ?_; cbv; (repeat' (first | exact trivial | rfl | assumption | apply And.intro | (simp only [hbin, hcmp, hun, hconv, hnot, hbeq, hmm, hscmp, hsadd, hslen, hsat, heqs, hofNat, binStd, cmpStd, unStd, scmpStd, maxI, Bool.not_eq_true', Bool.not_eq_false', decide_eq_true_eq, decide_eq_false_iff_not, Int.not_lt, Int.not_le, if_true, if_false, Bool.false_eq_true, beq_iff_eq, bne_iff_ne, ne_eq, Bool.not_eq_eq_eq_not, Bool.not_true, Bool.not_false, beq_eq_false_iff_ne, bne_eq_false_iff_eq, Int.ofNat_eq_natCast, Bool.not_not, not_true_eq_false, not_false_eq_true, reduceCtorEq]; first | done | assumption) | exact RowsZ.same (by assumption) (by first | assumption | rfl) | exact FzL.mk rfl rfl rfl (by assumption) (by first | assumption | rfl) (by decide) | (refine RowsZ.one ?_; cbv))))
      case hI =>
        refine ⟨(show 0 ≤ i' by omega), (show i' ≤ L by omega), (show m2 = _ from ?_), hm2ok, hfm2, hum2⟩
        rw [hm2, hm, ← ei', take_next hi0 hd]
        simp only [allM, allParts, List.flatMap_append, List.foldl_append, List.flatMap_cons, List.flatMap_nil, List.append_nil, ea0]
  · refine hE _ _ _ ?_
    cbv
    have hiL : rs.take i.toNat = rs := List.take_of_length_le (by omega)
    rw [hiL] at hm
    (refine Call.inl hw hP Try.func43 (by kernel_rfl) (by kernel_rfl) ?_); (conv => arg 2; cbv); cbv
    refine ⟨call_sorted hP (s2 := 3) (s := 2) (es := fm) (ns := m.map (·.1)) rfl rfl (by rw [hfm]; simp) (fun k n hk => ?_) (fun n hn => ?_) hmok.nd (Nat.le_trans hmok.count (by omega)) fun ks hp hs => ?_⟩
    · rw [List.getElem?_map] at hk
      cases hmk : m[k]? with
      | none => rw [hmk] at hk; cases hk
      | some d =>
        rw [hmk] at hk
        simp only [Option.map_some, Option.some.injEq] at hk
        subst hk
        exact ⟨sp2 d.2.1 d.2.2, by rw [hfm, List.getElem?_map, hmk]; rfl⟩
    · obtain ⟨h1, h2⟩ := hmok.rng n hn
      have h3 : (ss.length : Int) ≤ 1000 := by omega
      exact WalkArith.wf_i64 (by omega)
    have hspots : ks.map (rowOf m) = spotsOf ss.length (allParts ss lo hi from_ rs) := by
      rw [hm] at hp hmok ⊢
      exact spots_eq hmok hp hs
    have hmem : ∀ k ∈ ks, ∃ a b, getM m k = some (a, b) := fun k hk => by
      have h1 := (getM_mem m k).2 (hp.mem_iff.1 hk)
      obtain ⟨⟨a, b⟩, h2⟩ := Option.isSome_iff_exists.1 h1
      exact ⟨a, b, h2⟩
    obtain ⟨T, eT⟩ : ∃ x, (ks.map (rowOf m)).map spRow = x := ⟨_, rfl⟩
    have hRT : R (.list 3 T) := hR _ (by rw [← eT, hspots])
    obtain ⟨kl, ekl⟩ : ∃ x, ks.map nxRow = x := ⟨_, rfl⟩
    have hkl : kl.length = ks.length := by rw [← ekl]; simp
    have hTl : T.length = ks.length := by rw [← eT]; simp
    have huT : Up0 T := by rw [← eT]; exact up_sp _
    have hukl : Up0 kl := by rw [← ekl]; exact up_nx ks
    have hkc : ks.length ≤ 1000 := by
      have h1 := hp.length_eq
      have h2 := hmok.count
      simp at h1 h2
      omega
    have step : ∀ (j : Int), 0 ≤ j → j.toNat < ks.length → ∃ n a b, kl[j.toNat]? = some [.int .i64 n] ∧ findR false 1 [(0, 1)] fm (.int .i64 n) = some (some (sp2 a b)) ∧ T[j.toNat]? = some [.int .i64 n, .int .i64 a, .int .i64 b] := by
      intro j h0 h1
      obtain ⟨n, hd, hr⟩ := get_map (f := nxRow) (ds := ks) (i := j) h0 h1
      obtain ⟨a, b, hab⟩ := hmem n (List.mem_of_getElem? hd)
      refine ⟨n, a, b, by rw [← ekl]; exact hr, by rw [hfm, find_mp, hab]; rfl, ?_⟩
      rw [← eT, List.getElem?_map, List.getElem?_map, hd]
      simp [rowOf, hab, spRow]
    rw [ekl]
    clear hspots hp hs hR hN' hE hR' hmem hm hmok hfm hway
    show vcOpsY _ _ _ _ _ _ _
    cbv
    (obtain ⟨J, eJ, J0, Jn⟩ : ∃ L : Int, wlen kl = L ∧ 0 ≤ L ∧ L.toNat = kl.length := ⟨(kl.length : Int), by rw [hlen], Int.natCast_nonneg _, Int.toNat_natCast _⟩)
    refine Loop.data hw (S := Bd) (fun s => match s with | .start => fr 106 [(9, .mapr 2), (21, .nils), (85, .list 1 kl), (86, .int .i64 J), (87, .int .i64 0)] | .more i n fs => fr 106 [(9, .mapr 2), (21, .sl 3 3 0 n), (85, .list 1 kl), (86, .int .i64 J), (87, .int .i64 i)])
      (fun s => match s with | .start => [.live 2 [[.list 3 es, .list 5 ds]], .live 2 [[.int .i64 lo, .int .i64 hi]], .live 0 fm] | .more i n fs => [.live 2 [[.list 3 es, .list 5 ds]], .live 2 [[.int .i64 lo, .int .i64 hi]], .live 0 fm, .live 3 fs]) (Bd.Ok T) (Bd.left T) .start (by (refine Wk.eqz (id) (by first | exact fun i _ j _ e => e | (simp only [List.length_cons, List.length_nil]; decide)) ?_; cbv; (repeat' (first | exact trivial | rfl | assumption | apply And.intro | (simp only [hbin, hcmp, hun, hconv, hnot, hbeq, hmm, hscmp, hsadd, hslen, hsat, heqs, hofNat, binStd, cmpStd, unStd, scmpStd, maxI, Bool.not_eq_true', Bool.not_eq_false', decide_eq_true_eq, decide_eq_false_iff_not, Int.not_lt, Int.not_le, if_true, if_false, Bool.false_eq_true, beq_iff_eq, bne_iff_ne, ne_eq, Bool.not_eq_eq_eq_not, Bool.not_true, Bool.not_false, beq_eq_false_iff_ne, bne_eq_false_iff_eq, Int.ofNat_eq_natCast, Bool.not_not, not_true_eq_false, not_false_eq_true, reduceCtorEq]; first | done | assumption) | exact RowsZ.same (by assumption) (by first | assumption | rfl) | exact FzL.mk rfl rfl rfl (by assumption) (by first | assumption | rfl) (by decide) | (refine RowsZ.one ?_; cbv))))) trivial ?_
    rintro (_ | ⟨j, nn, fs⟩) hinv3 Q3 hN3 hE3 hR3
    · cbv
      (split <;> rename_i hc3 <;> (try (simp only [hbin, hcmp, hun, hconv, hnot, hbeq, hmm, hscmp, hsadd, hslen, hsat, heqs, hofNat, binStd, cmpStd, unStd, scmpStd, maxI, Bool.not_eq_true', Bool.not_eq_false', decide_eq_true_eq, decide_eq_false_iff_not, Int.not_lt, Int.not_le, if_true, if_false, Bool.false_eq_true, beq_iff_eq, bne_iff_ne, ne_eq, Bool.not_eq_eq_eq_not, Bool.not_true, Bool.not_false, beq_eq_false_iff_ne, bne_eq_false_iff_eq, Int.ofNat_eq_natCast, Bool.not_not, not_true_eq_false, not_false_eq_true, reduceCtorEq] at hc3)) <;> (try cbv))
      · obtain ⟨n, a, b, h1, h2, h3⟩ := step 0 (Int.le_refl 0) (by omega)
        refine Idx.mk [.int .i64 n] (by decide) h1 ?_
        cbv
        refine Look.hit (sp2 a b) rfl h2 ?_
        cbv
        refine Look.hit (sp2 a b) rfl h2 ?_
        cbv
        refine Ob.mk (by decide) ?_
        have ej : wbin .add .i64 0 1 = 1 := by rw [hbin]; rfl
        have hT : Bd.left T (.more 1 1 [[.int .i64 n, .int .i64 a, .int .i64 b]]) < Bd.left T .start := by simp only [Bd.left]; omega
        have hI : Bd.Ok T (.more 1 1 [[.int .i64 n, .int .i64 a, .int .i64 b]]) := ⟨by decide, by omega, (take_row (Int.le_refl 0) h3).symm, rfl, ⟨rfl⟩⟩
        have hU : Up0 [[AV.int .i64 n, .int .i64 a, .int .i64 b]] := ⟨rfl⟩
        cbv
        refine hN3 (Bd.more 1 1 [[.int .i64 n, .int .i64 a, .int .i64 b]]) _ _ ?hx ?hI hT
        case hx => (refine Wk.eqz (id) (by first | exact fun i _ j _ e => e | (simp only [List.length_cons, List.length_nil]; decide)) ?_; cbv; (repeat' (first | exact trivial | rfl | assumption | apply And.intro | (simp only [hbin, hcmp, hun, hconv, hnot, hbeq, hmm, hscmp, hsadd, hslen, hsat, heqs, hofNat, binStd, cmpStd, unStd, scmpStd, maxI, Bool.not_eq_true', Bool.not_eq_false', decide_eq_true_eq, decide_eq_false_iff_not, Int.not_lt, Int.not_le, if_true, if_false, Bool.false_eq_true, beq_iff_eq, bne_iff_ne, ne_eq, Bool.not_eq_eq_eq_not, Bool.not_true, Bool.not_false, beq_eq_false_iff_ne, bne_eq_false_iff_eq, Int.ofNat_eq_natCast, Bool.not_not, not_true_eq_false, not_false_eq_true, reduceCtorEq]; first | done | assumption) | exact RowsZ.same (by assumption) (by first | assumption | rfl) | exact FzL.mk rfl rfl rfl (by assumption) (by first | assumption | rfl) (by decide) | (refine RowsZ.one ?_; cbv))))
        case hI => exact hI
      · refine hE3 _ _ _ ?_
        cbv
        have : T = [] := List.length_eq_zero_iff.1 (by omega)
        exact ⟨_, Vw.nil 3, by rw [← this]; exact hRT⟩
    · cbv
      obtain ⟨hj0, hj1, hfs, hnf, huf⟩ : 0 < j ∧ j.toNat ≤ T.length ∧ fs = T.take j.toNat ∧ nn = fs.length ∧ Up0 fs := hinv3
      (split <;> rename_i hc3 <;> (try (simp only [hbin, hcmp, hun, hconv, hnot, hbeq, hmm, hscmp, hsadd, hslen, hsat, heqs, hofNat, binStd, cmpStd, unStd, scmpStd, maxI, Bool.not_eq_true', Bool.not_eq_false', decide_eq_true_eq, decide_eq_false_iff_not, Int.not_lt, Int.not_le, if_true, if_false, Bool.false_eq_true, beq_iff_eq, bne_iff_ne, ne_eq, Bool.not_eq_eq_eq_not, Bool.not_true, Bool.not_false, beq_eq_false_iff_ne, bne_eq_false_iff_eq, Int.ofNat_eq_natCast, Bool.not_not, not_true_eq_false, not_false_eq_true, reduceCtorEq] at hc3)) <;> (try cbv))
      · obtain ⟨n, a, b, h1, h2, h3⟩ := step j (by omega) (by omega)
        refine Idx.mk [.int .i64 n] (by omega) h1 ?_
        cbv
        refine Look.hit (sp2 a b) rfl h2 ?_
        cbv
        refine Look.hit (sp2 a b) rfl h2 ?_
        cbv
        obtain ⟨j', ej'⟩ : ∃ x, j + 1 = x := ⟨_, rfl⟩
        have ej : wbin .add .i64 j 1 = j' := by rw [hbin, i_add (by omega) (by omega)]; exact ej'
        obtain ⟨fs', efs⟩ : ∃ x, fs ++ [[AV.int .i64 n, .int .i64 a, .int .i64 b]] = x := ⟨_, rfl⟩
        have hfl : fs'.length = nn + 1 := by rw [← efs, hnf]; simp
        have hft : fs' = T.take j'.toNat := by rw [← efs, ← ej', take_row (by omega) h3, hfs]
        have huf' : Up0 fs' := by rw [hft]; exact up_take huT _
        obtain ⟨n', en'⟩ : ∃ x, nn + 1 = x := ⟨_, rfl⟩
        have hnl : nn = j.toNat := by rw [hnf, hfs, List.length_take]; omega
        refine App.mk fs' n' efs.symm hnf en'.symm (by omega) (by omega) ?_
        have hT : Bd.left T (.more j' n' fs') < Bd.left T (.more j nn fs) := by simp only [Bd.left]; omega
        have hI : Bd.Ok T (.more j' n' fs') := ⟨by omega, by omega, hft, by omega, huf'⟩
        cbv
        refine hN3 (Bd.more j' n' fs') _ _ ?hx ?hI hT
        case hx => (refine Wk.eqz (fun j => [0, 1, 2, 4].getD j 0) (by first | exact fun i _ j _ e => e | (simp only [List.length_cons, List.length_nil]; decide)) ?_; cbv; (repeat' (first | exact trivial | rfl | assumption | apply And.intro | (simp only [hbin, hcmp, hun, hconv, hnot, hbeq, hmm, hscmp, hsadd, hslen, hsat, heqs, hofNat, binStd, cmpStd, unStd, scmpStd, maxI, Bool.not_eq_true', Bool.not_eq_false', decide_eq_true_eq, decide_eq_false_iff_not, Int.not_lt, Int.not_le, if_true, if_false, Bool.false_eq_true, beq_iff_eq, bne_iff_ne, ne_eq, Bool.not_eq_eq_eq_not, Bool.not_true, Bool.not_false, beq_eq_false_iff_ne, bne_eq_false_iff_eq, Int.ofNat_eq_natCast, Bool.not_not, not_true_eq_false, not_false_eq_true, reduceCtorEq]; first | done | assumption) | exact RowsZ.same (by assumption) (by first | assumption | rfl) | exact FzL.mk rfl rfl rfl (by assumption) (by first | assumption | rfl) (by decide) | (refine RowsZ.one ?_; cbv))))
        case hI => exact hI
      · refine hE3 _ _ _ ?_
        cbv
        refine ⟨_, Vw.sl rfl huf.get (by omega), ?_⟩
        rw [List.drop_zero, List.take_of_length_le (by omega), hfs, List.take_of_length_le (by omega)]
        exact hRT
end Go.Proofs.Ytjfbecnappgjjaa

/- The document's spots, by the engine. -/
set_option linter.unusedVariables false
set_option linter.unusedSimpArgs false
namespace Go.Proofs.Ytjfbecnappgjjaa
open Go Go.RowKit Go.Eng
set_option maxRecDepth 100000
def stepO (q : Int) (o : Option (Int × Int)) (cs : List Sp) : Option (Int × Int) := cs.foldl (fun o c => if q = c.1 then some (joinO o c.2.1 c.2.2) else o) o
theorem stepO_app (q : Int) (o : Option (Int × Int)) (a b : List Sp) : stepO q o (a ++ b) = stepO q (stepO q o a) b := by simp only [stepO, List.foldl_append]
theorem segO_eq (cs : List Sp) (q : Int) : segO cs q = stepO q none cs := rfl
def optOf (f : Bool) (x y : Int) : Option (Int × Int) := match f with | true => some (x, y) | false => none
set_option maxHeartbeats 4000000 in
theorem e_one (ss : List Sg) (gs : List Gr) (rs : List (List Int)) (es ds qs : List (List AV)) (hes : es = ss.map sgRow) (hds : ds = gs.map grRow) (hqs : qs = rs.map rtRow) (from_ lo hi sg : Int) (hl : LensOk ss) (hway : WaysOk ss rs) (hf : 0 ≤ from_ ∧ from_ ≤ 1099511627776)
    (hlo : -1152921504606846976 ≤ lo ∧ lo ≤ 1152921504606846976) (hhi : -1152921504606846976 ≤ hi ∧ hi ≤ 1152921504606846976) :
    PCalls Try.prog 39 [.agg [.list 3 es, .list 5 ds], .int .i64 from_, .list 1 qs, .int .i64 lo, .int .i64 hi, .int .i64 sg] (fun r => ∃ f x y, r = .tuple [.agg [.int .i64 sg, .int .i64 x, .int .i64 y], .bool f] ∧ segO (allParts ss lo hi from_ rs) sg = optOf f x y) := by
  have hu : Up0 es := by rw [hes]; exact up_sg ss
  have hud : Up0 ds := by rw [hds]; exact up_gr gs
  have huq : Up0 qs := by rw [hqs]; exact up_rt rs
  have hql : qs.length = rs.length := by rw [hqs]; simp
  have hwl := hway.len
  (refine PCalls.ofY Try.func39 (by kernel_rfl) (by kernel_rfl) fun w hw R hR => ?_); (obtain ⟨wbin, wcmp, wun, wconv, wnot, wbeq, wmm, wscmp, wsadd, wslen, wsat, weqs, wlen, wnlen, wofNat, wtake, wdrop, wapp, wzero, wnat⟩ := w); (have hbin : wbin = binStd := congrArg Prims.bin hw); (have hcmp : wcmp = cmpStd := congrArg Prims.cmp hw); (have hun : wun = unStd := congrArg Prims.un hw); (have hconv : wconv = fun k n => k.wrap n := congrArg Prims.conv hw); (have hnot : wnot = fun b => !b := congrArg Prims.not hw); (have hbeq : wbeq = fun a b => a == b := congrArg Prims.beq hw); (have hmm : wmm = maxI := congrArg Prims.mm hw); (have hscmp : wscmp = scmpStd := congrArg Prims.scmp hw); (have hsadd : wsadd = fun x y => x ++ y := congrArg Prims.sadd hw); (have hslen : wslen = fun s => (s.size : Int) := congrArg Prims.slen hw); (have hsat : wsat = std.sat := congrArg Prims.sat hw); (have heqs : weqs = fun a b os => (eqOffs a b os).getD false := congrArg Prims.eqs hw); (have hlen : wlen = fun es => (es.length : Int) := congrArg Prims.len hw); (have hnlen : wnlen = fun es => es.length := congrArg Prims.nlen hw); (have hofNat : wofNat = (fun n : Nat => (n : Int)) := congrArg Prims.ofNat hw); (have htake : wtake = fun es b => es.take b.toNat := congrArg Prims.take hw); (have hdrop : wdrop = fun es a => es.drop a.toNat := congrArg Prims.drop hw); (have happ : wapp = fun a b => a ++ b := congrArg Prims.app hw); (have hzero : wzero = fun n z => List.replicate n.toNat z := congrArg Prims.zero hw); (have hnat : wnat = fun n => n.toNat := congrArg Prims.nat hw); (conv => arg 2; cbv); (generalize hP : Try.prog = P); cbv
  (obtain ⟨L, eL, L0, Ln⟩ : ∃ L : Int, wlen qs = L ∧ 0 ≤ L ∧ L.toNat = qs.length := ⟨(qs.length : Int), by rw [hlen], Int.natCast_nonneg _, Int.toNat_natCast _⟩)
  refine Loop.data hw (S := Int × Bool × Int × Int) (fun s => fr 102 [(1, .int .i64 from_), (2, .list 1 qs), (3, .int .i64 lo), (4, .int .i64 hi), (5, .int .i64 sg), (6, .ref 0 2 0 0), (12, .ref 1 3 0 0), (14, .ref 2 3 0 0), (15, .bool s.2.1), (16, .int .i64 s.1)])
    (fun s => [.live 2 [[.list 3 es, .list 5 ds]], .live 3 [[.int .i64 0, .int .i64 0, .int .i64 0]], .live 3 [[.int .i64 sg, .int .i64 s.2.2.1, .int .i64 s.2.2.2]]]) (fun s => 0 ≤ s.1 ∧ s.1 ≤ L ∧ stepO sg none (allParts ss lo hi from_ (rs.take s.1.toNat)) = optOf s.2.1 s.2.2.1 s.2.2.2) (fun s => (L - s.1).toNat) (0, false, 0, 0) (by (refine Wk.eqz (id) (by first | exact fun i _ j _ e => e | (simp only [List.length_cons, List.length_nil]; decide)) ?_; cbv; (repeat' (first | exact trivial | rfl | assumption | apply And.intro | (simp only [hbin, hcmp, hun, hconv, hnot, hbeq, hmm, hscmp, hsadd, hslen, hsat, heqs, hofNat, binStd, cmpStd, unStd, scmpStd, maxI, Bool.not_eq_true', Bool.not_eq_false', decide_eq_true_eq, decide_eq_false_iff_not, Int.not_lt, Int.not_le, if_true, if_false, Bool.false_eq_true, beq_iff_eq, bne_iff_ne, ne_eq, Bool.not_eq_eq_eq_not, Bool.not_true, Bool.not_false, beq_eq_false_iff_ne, bne_eq_false_iff_eq, Int.ofNat_eq_natCast, Bool.not_not, not_true_eq_false, not_false_eq_true, reduceCtorEq]; first | done | assumption) | exact RowsZ.same (by assumption) (by first | assumption | rfl) | exact FzL.mk rfl rfl rfl (by assumption) (by first | assumption | rfl) (by decide) | (refine RowsZ.one ?_; cbv))))) ⟨Int.le_refl _, L0, rfl⟩ ?_
  rintro ⟨i, f, X, Y⟩ hinv Q' hN' hE hR'
  have hinv : 0 ≤ i ∧ i ≤ L ∧ stepO sg none (allParts ss lo hi from_ (rs.take i.toNat)) = optOf f X Y := hinv
  cbv
  obtain ⟨hi0, hi1, hst⟩ := hinv
  (split <;> rename_i hc <;> (try (simp only [eL] at hc)) <;> (try (simp only [hbin, hcmp, hun, hconv, hnot, hbeq, hmm, hscmp, hsadd, hslen, hsat, heqs, hofNat, binStd, cmpStd, unStd, scmpStd, maxI, Bool.not_eq_true', Bool.not_eq_false', decide_eq_true_eq, decide_eq_false_iff_not, Int.not_lt, Int.not_le, if_true, if_false, Bool.false_eq_true, beq_iff_eq, bne_iff_ne, ne_eq, Bool.not_eq_eq_eq_not, Bool.not_true, Bool.not_false, beq_eq_false_iff_ne, bne_eq_false_iff_eq, Int.ofNat_eq_natCast, Bool.not_not, not_true_eq_false, not_false_eq_true, reduceCtorEq] at hc)) <;> (try cbv))
  · obtain ⟨l, hd, hrow⟩ := get_map (f := rtRow) (ds := rs) (i := i) hi0 (by omega)
    obtain ⟨hl12, hln⟩ := hway.all l (List.mem_of_getElem? hd)
    obtain ⟨ls, els⟩ : ∃ x, l.map nxRow = x := ⟨_, rfl⟩
    have huls : Up0 ls := by rw [← els]; exact up_nx l
    have hll : ls.length = l.length := by rw [← els]; simp
    have hrow : qs[i.toNat]? = some [.list 1 ls] := by rw [hqs, ← els]; exact hrow
    obtain ⟨i', ei'⟩ : ∃ x, i + 1 = x := ⟨_, rfl⟩
    have ei : wbin .add .i64 i 1 = i' := by rw [hbin, i_add (by omega) (by omega)]; exact ei'
    obtain ⟨a0, ea0⟩ : ∃ x, -from_ = x := ⟨_, rfl⟩
    have en : wun .neg .i64 from_ = a0 := by rw [hun, i_neg (by omega) (by omega)]; exact ea0
    (obtain ⟨K, eK, K0, Kn⟩ : ∃ L : Int, wlen ls = L ∧ 0 ≤ L ∧ L.toNat = ls.length := ⟨(ls.length : Int), by rw [hlen], Int.natCast_nonneg _, Int.toNat_natCast _⟩)
    refine Loop.data hw (S := Int × Int × Bool × Int × Int) (fun s => fr 102 [(1, .int .i64 from_), (2, .list 1 qs), (3, .int .i64 lo), (4, .int .i64 hi), (5, .int .i64 sg), (6, .ref 0 2 0 0), (12, .ref 1 3 0 0), (14, .ref 2 3 0 0), (15, .bool s.2.2.1), (16, .int .i64 i), (17, .int .i64 s.2.1), (18, .int .i64 s.1)])
      (fun s => [.live 2 [[.list 3 es, .list 5 ds]], .live 3 [[.int .i64 0, .int .i64 0, .int .i64 0]], .live 3 [[.int .i64 sg, .int .i64 s.2.2.2.1, .int .i64 s.2.2.2.2]]]) (fun s => 0 ≤ s.1 ∧ s.1 ≤ K ∧ s.2.1 = endAt ss a0 (l.take s.1.toNat) ∧ (-1099511627776 ≤ s.2.1 ∧ s.2.1 ≤ s.1 * 1099511627776) ∧ stepO sg (optOf f X Y) (parts ss lo hi a0 (l.take s.1.toNat)) = optOf s.2.2.1 s.2.2.2.1 s.2.2.2.2) (fun s => (K - s.1).toNat) (0, a0, f, X, Y) (by (refine Wk.eqz (id) (by first | exact fun i _ j _ e => e | (simp only [List.length_cons, List.length_nil]; decide)) ?_; cbv; (repeat' (first | exact trivial | rfl | assumption | apply And.intro | (simp only [hbin, hcmp, hun, hconv, hnot, hbeq, hmm, hscmp, hsadd, hslen, hsat, heqs, hofNat, binStd, cmpStd, unStd, scmpStd, maxI, Bool.not_eq_true', Bool.not_eq_false', decide_eq_true_eq, decide_eq_false_iff_not, Int.not_lt, Int.not_le, if_true, if_false, Bool.false_eq_true, beq_iff_eq, bne_iff_ne, ne_eq, Bool.not_eq_eq_eq_not, Bool.not_true, Bool.not_false, beq_eq_false_iff_ne, bne_eq_false_iff_eq, Int.ofNat_eq_natCast, Bool.not_not, not_true_eq_false, not_false_eq_true, reduceCtorEq]; first | done | assumption) | exact RowsZ.same (by assumption) (by first | assumption | rfl) | exact FzL.mk rfl rfl rfl (by assumption) (by first | assumption | rfl) (by decide) | (refine RowsZ.one ?_; cbv))))) ⟨Int.le_refl _, K0, rfl, ⟨(show -1099511627776 ≤ a0 by omega), (show a0 ≤ 0 * 1099511627776 by omega)⟩, rfl⟩ ?_
    rintro ⟨j, at_, g, U, V⟩ hinv2 Q2 hN2 hE2 hR2
    have hinv2 : 0 ≤ j ∧ j ≤ K ∧ at_ = endAt ss a0 (l.take j.toNat) ∧ (-1099511627776 ≤ at_ ∧ at_ ≤ j * 1099511627776) ∧ stepO sg (optOf f X Y) (parts ss lo hi a0 (l.take j.toNat)) = optOf g U V := hinv2
    cbv
    obtain ⟨hj0, hj1, hat, ⟨hat1, hat2⟩, hst2⟩ := hinv2
    have hat2 : at_ ≤ j * 1099511627776 := hat2
    have hK : K ≤ 12 := by omega
    refine Idx.mk [.list 1 ls] hi0 hrow ?_
    cbv
    (split <;> rename_i hc2 <;> (try (simp only [eK] at hc2)) <;> (try (simp only [hbin, hcmp, hun, hconv, hnot, hbeq, hmm, hscmp, hsadd, hslen, hsat, heqs, hofNat, binStd, cmpStd, unStd, scmpStd, maxI, Bool.not_eq_true', Bool.not_eq_false', decide_eq_true_eq, decide_eq_false_iff_not, Int.not_lt, Int.not_le, if_true, if_false, Bool.false_eq_true, beq_iff_eq, bne_iff_ne, ne_eq, Bool.not_eq_eq_eq_not, Bool.not_true, Bool.not_false, beq_eq_false_iff_ne, bne_eq_false_iff_eq, Int.ofNat_eq_natCast, Bool.not_not, not_true_eq_false, not_false_eq_true, reduceCtorEq] at hc2)) <;> (try cbv))
    · obtain ⟨n, hdn, hrn⟩ := get_map (f := nxRow) (ds := l) (i := j) hj0 (by omega)
      obtain ⟨hn0, hn1⟩ := hln n (List.mem_of_getElem? hdn)
      have hrn : ls[j.toNat]? = some [.int .i64 n] := by rw [← els]; exact hrn
      obtain ⟨⟨len, ps, nx⟩, hds1, hrs1⟩ := get_map (f := sgRow) (ds := ss) (i := n) hn0 (by omega)
      obtain ⟨q1, eq1⟩ : ∃ x, ps.map pcRow = x := ⟨_, rfl⟩
      obtain ⟨n1, en1⟩ : ∃ x, nx.map nxRow = x := ⟨_, rfl⟩
      have hrs1 : es[n.toNat]? = some [.int .i64 len, .list 2 q1, .list 1 n1] := by rw [hes, ← eq1, ← en1]; exact hrs1
      obtain ⟨hlen1, hlen2⟩ : 1 ≤ len ∧ len ≤ 1099511627776 := hl.pos _ (List.mem_of_getElem? hds1)
      have hla : lenAt ss n = len := by unfold lenAt; rw [hds1]
      obtain ⟨at2, eat2⟩ : ∃ x, at_ + len = x := ⟨_, rfl⟩
      have ea2 : wbin .add .i64 at_ len = at2 := by rw [hbin, i_add (by omega) (by omega)]; exact eat2
      obtain ⟨j', ej'⟩ : ∃ x, j + 1 = x := ⟨_, rfl⟩
      have ej : wbin .add .i64 j 1 = j' := by rw [hbin, i_add (by omega) (by omega)]; exact ej'
      obtain ⟨x, ex⟩ : ∃ x, max lo at_ = x := ⟨_, rfl⟩
      obtain ⟨y, ey⟩ : ∃ x, min hi at2 = x := ⟨_, rfl⟩
      have w1 : wmm true lo at_ = x := by rw [hmm, mmT, ex]
      have w2 : wmm false hi at2 = y := by rw [hmm, mmF, ey]
      obtain ⟨u, eu⟩ : ∃ u, x - at_ = u := ⟨_, rfl⟩
      obtain ⟨v, ev⟩ : ∃ v, y - at_ = v := ⟨_, rfl⟩
      have e1 : wbin .sub .i64 x at_ = u := by rw [hbin, i_sub (by omega) (by omega)]; exact eu
      have e2 : wbin .sub .i64 y at_ = v := by rw [hbin, i_sub (by omega) (by omega)]; exact ev
      have hpj : ∀ bb, bit1 lo hi n at_ len = bb → parts ss lo hi a0 (l.take j'.toNat) = parts ss lo hi a0 (l.take j.toNat) ++ bb := by
        intro bb hbb
        rw [← ej', take_next hj0 hdn, parts_app, ← hat]
        simp only [parts, hla, hbb, List.append_nil]
      have hej : at2 = endAt ss a0 (l.take j'.toNat) := by rw [← ej', take_next hj0 hdn, endAt_app, ← hat, ← eat2]; simp only [endAt, hla]
      have hT2 : (K - j').toNat < (K - j).toNat := by omega
      have hb1 : -1099511627776 ≤ at2 ∧ at2 ≤ j' * 1099511627776 := by omega
      have hnx : ∀ g' U' V', (if n = sg ∧ x ≤ y then g' = true ∧ (U', V') = joinO (optOf g U V) u v else (g', U', V') = (g, U, V)) → (0 ≤ j' ∧ j' ≤ K ∧ at2 = endAt ss a0 (l.take j'.toNat) ∧ (-1099511627776 ≤ at2 ∧ at2 ≤ j' * 1099511627776) ∧ stepO sg (optOf f X Y) (parts ss lo hi a0 (l.take j'.toNat)) = optOf g' U' V') := by
        intro g' U' V' hh
        refine ⟨by omega, by omega, hej, hb1, ?_⟩
        by_cases hxy : x ≤ y
        · have hbit : bit1 lo hi n at_ len = [(n, u, v)] := by unfold bit1; rw [eat2, ex, ey, if_pos hxy, eu, ev]
          rw [hpj _ hbit, stepO_app, hst2]
          by_cases hn : n = sg
          · rw [if_pos ⟨hn, hxy⟩] at hh
            simp only [stepO, List.foldl_cons, List.foldl_nil, hn, if_true]
            rw [hh.1, ← hh.2]; rfl
          · rw [if_neg (fun q => hn q.1)] at hh
            simp only [Prod.mk.injEq] at hh
            obtain ⟨rfl, rfl, rfl⟩ := hh
            simp only [stepO, List.foldl_cons, List.foldl_nil, if_neg (Ne.symm hn)]
        · have hbit : bit1 lo hi n at_ len = [] := by unfold bit1; rw [eat2, ex, ey, if_neg hxy]
          rw [hpj _ hbit, List.append_nil, hst2]
          rw [if_neg (fun q => hxy q.2)] at hh
          simp only [Prod.mk.injEq] at hh
          obtain ⟨rfl, rfl, rfl⟩ := hh
          rfl
      refine Idx.mk [.list 1 ls] hi0 hrow ?_
      cbv
      refine Idx.mk [.int .i64 n] hj0 hrn ?_
      cbv
      refine Idx.mk [.int .i64 len, .list 2 q1, .list 1 n1] hn0 hrs1 ?_
      cbv
      have nT : wnot true = false := by rw [hnot]; rfl
      have nF : wnot false = true := by rw [hnot]; rfl
      simp only [ea2, w1, w2]
      cases g
      all_goals
        repeat' (first
          | (simp only [nT, nF, e1, e2]; cbv)
          | (split <;> rename_i h <;> (try (simp only [nT, nF, e1, e2] at h)) <;> (try (simp only [hbin, hcmp, hun, hconv, hnot, hbeq, hmm, hscmp, hsadd, hslen, hsat, heqs, hofNat, binStd, cmpStd, unStd, scmpStd, maxI, Bool.not_eq_true', Bool.not_eq_false', decide_eq_true_eq, decide_eq_false_iff_not, Int.not_lt, Int.not_le, if_true, if_false, Bool.false_eq_true, beq_iff_eq, bne_iff_ne, ne_eq, Bool.not_eq_eq_eq_not, Bool.not_true, Bool.not_false, beq_eq_false_iff_ne, bne_eq_false_iff_eq, Int.ofNat_eq_natCast, Bool.not_not, not_true_eq_false, not_false_eq_true, reduceCtorEq] at h)) <;> (try cbv)))
      all_goals first
        | (refine hN2 (j', at2, true, u, v) _ _ ?hx ?hI hT2
           case hx => (refine Wk.eqz (id) (by first | exact fun i _ j _ e => e | (simp only [List.length_cons, List.length_nil]; decide)) ?_; cbv; (repeat' (first | exact trivial | rfl | assumption | apply And.intro | (simp only [hbin, hcmp, hun, hconv, hnot, hbeq, hmm, hscmp, hsadd, hslen, hsat, heqs, hofNat, binStd, cmpStd, unStd, scmpStd, maxI, Bool.not_eq_true', Bool.not_eq_false', decide_eq_true_eq, decide_eq_false_iff_not, Int.not_lt, Int.not_le, if_true, if_false, Bool.false_eq_true, beq_iff_eq, bne_iff_ne, ne_eq, Bool.not_eq_eq_eq_not, Bool.not_true, Bool.not_false, beq_eq_false_iff_ne, bne_eq_false_iff_eq, Int.ofNat_eq_natCast, Bool.not_not, not_true_eq_false, not_false_eq_true, reduceCtorEq]; first | done | assumption) | exact RowsZ.same (by assumption) (by first | assumption | rfl) | exact FzL.mk rfl rfl rfl (by assumption) (by first | assumption | rfl) (by decide) | (refine RowsZ.one ?_; cbv))))
           case hI =>
             refine hnx true u v ?_
             split <;> first | rfl | exact ⟨rfl, rfl⟩ | (refine ⟨rfl, ?_⟩; simp only [joinO, optOf, Prod.mk.injEq]; omega) | (exfalso; omega))
        | (refine hN2 (j', at2, true, u, V) _ _ ?hx ?hI hT2
           case hx => (refine Wk.eqz (id) (by first | exact fun i _ j _ e => e | (simp only [List.length_cons, List.length_nil]; decide)) ?_; cbv; (repeat' (first | exact trivial | rfl | assumption | apply And.intro | (simp only [hbin, hcmp, hun, hconv, hnot, hbeq, hmm, hscmp, hsadd, hslen, hsat, heqs, hofNat, binStd, cmpStd, unStd, scmpStd, maxI, Bool.not_eq_true', Bool.not_eq_false', decide_eq_true_eq, decide_eq_false_iff_not, Int.not_lt, Int.not_le, if_true, if_false, Bool.false_eq_true, beq_iff_eq, bne_iff_ne, ne_eq, Bool.not_eq_eq_eq_not, Bool.not_true, Bool.not_false, beq_eq_false_iff_ne, bne_eq_false_iff_eq, Int.ofNat_eq_natCast, Bool.not_not, not_true_eq_false, not_false_eq_true, reduceCtorEq]; first | done | assumption) | exact RowsZ.same (by assumption) (by first | assumption | rfl) | exact FzL.mk rfl rfl rfl (by assumption) (by first | assumption | rfl) (by decide) | (refine RowsZ.one ?_; cbv))))
           case hI =>
             refine hnx true u V ?_
             split <;> first | rfl | exact ⟨rfl, rfl⟩ | (refine ⟨rfl, ?_⟩; simp only [joinO, optOf, Prod.mk.injEq]; omega) | (exfalso; omega))
        | (refine hN2 (j', at2, true, U, v) _ _ ?hx ?hI hT2
           case hx => (refine Wk.eqz (id) (by first | exact fun i _ j _ e => e | (simp only [List.length_cons, List.length_nil]; decide)) ?_; cbv; (repeat' (first | exact trivial | rfl | assumption | apply And.intro | (simp only [hbin, hcmp, hun, hconv, hnot, hbeq, hmm, hscmp, hsadd, hslen, hsat, heqs, hofNat, binStd, cmpStd, unStd, scmpStd, maxI, Bool.not_eq_true', Bool.not_eq_false', decide_eq_true_eq, decide_eq_false_iff_not, Int.not_lt, Int.not_le, if_true, if_false, Bool.false_eq_true, beq_iff_eq, bne_iff_ne, ne_eq, Bool.not_eq_eq_eq_not, Bool.not_true, Bool.not_false, beq_eq_false_iff_ne, bne_eq_false_iff_eq, Int.ofNat_eq_natCast, Bool.not_not, not_true_eq_false, not_false_eq_true, reduceCtorEq]; first | done | assumption) | exact RowsZ.same (by assumption) (by first | assumption | rfl) | exact FzL.mk rfl rfl rfl (by assumption) (by first | assumption | rfl) (by decide) | (refine RowsZ.one ?_; cbv))))
           case hI =>
             refine hnx true U v ?_
             split <;> first | rfl | exact ⟨rfl, rfl⟩ | (refine ⟨rfl, ?_⟩; simp only [joinO, optOf, Prod.mk.injEq]; omega) | (exfalso; omega))
        | (refine hN2 (j', at2, true, U, V) _ _ ?hx ?hI hT2
           case hx => (refine Wk.eqz (id) (by first | exact fun i _ j _ e => e | (simp only [List.length_cons, List.length_nil]; decide)) ?_; cbv; (repeat' (first | exact trivial | rfl | assumption | apply And.intro | (simp only [hbin, hcmp, hun, hconv, hnot, hbeq, hmm, hscmp, hsadd, hslen, hsat, heqs, hofNat, binStd, cmpStd, unStd, scmpStd, maxI, Bool.not_eq_true', Bool.not_eq_false', decide_eq_true_eq, decide_eq_false_iff_not, Int.not_lt, Int.not_le, if_true, if_false, Bool.false_eq_true, beq_iff_eq, bne_iff_ne, ne_eq, Bool.not_eq_eq_eq_not, Bool.not_true, Bool.not_false, beq_eq_false_iff_ne, bne_eq_false_iff_eq, Int.ofNat_eq_natCast, Bool.not_not, not_true_eq_false, not_false_eq_true, reduceCtorEq]; first | done | assumption) | exact RowsZ.same (by assumption) (by first | assumption | rfl) | exact FzL.mk rfl rfl rfl (by assumption) (by first | assumption | rfl) (by decide) | (refine RowsZ.one ?_; cbv))))
           case hI =>
             refine hnx true U V ?_
             split <;> first | rfl | exact ⟨rfl, rfl⟩ | (refine ⟨rfl, ?_⟩; simp only [joinO, optOf, Prod.mk.injEq]; omega) | (exfalso; omega))
        | (refine hN2 (j', at2, false, U, V) _ _ ?hx ?hI hT2
           case hx => (refine Wk.eqz (id) (by first | exact fun i _ j _ e => e | (simp only [List.length_cons, List.length_nil]; decide)) ?_; cbv; (repeat' (first | exact trivial | rfl | assumption | apply And.intro | (simp only [hbin, hcmp, hun, hconv, hnot, hbeq, hmm, hscmp, hsadd, hslen, hsat, heqs, hofNat, binStd, cmpStd, unStd, scmpStd, maxI, Bool.not_eq_true', Bool.not_eq_false', decide_eq_true_eq, decide_eq_false_iff_not, Int.not_lt, Int.not_le, if_true, if_false, Bool.false_eq_true, beq_iff_eq, bne_iff_ne, ne_eq, Bool.not_eq_eq_eq_not, Bool.not_true, Bool.not_false, beq_eq_false_iff_ne, bne_eq_false_iff_eq, Int.ofNat_eq_natCast, Bool.not_not, not_true_eq_false, not_false_eq_true, reduceCtorEq]; first | done | assumption) | exact RowsZ.same (by assumption) (by first | assumption | rfl) | exact FzL.mk rfl rfl rfl (by assumption) (by first | assumption | rfl) (by decide) | (refine RowsZ.one ?_; cbv))))
           case hI =>
             refine hnx false U V ?_
             split <;> first | rfl | exact ⟨rfl, rfl⟩ | (refine ⟨rfl, ?_⟩; simp only [joinO, optOf, Prod.mk.injEq]; omega) | (exfalso; omega))
    · refine hE2 _ _ _ ?_
      cbv
      have hjK : l.take j.toNat = l := List.take_of_length_le (by omega)
      rw [hjK] at hst2
      refine hN' (i', g, U, V) _ _ ?hx ?hI (show (L - i').toNat < (L - i).toNat by omega)
      case hx => (refine Wk.eqz (id) (by first | exact fun i _ j _ e => e | (simp only [List.length_cons, List.length_nil]; decide)) ?_; cbv; (repeat' (first | exact trivial | rfl | assumption | apply And.intro | (simp only [hbin, hcmp, hun, hconv, hnot, hbeq, hmm, hscmp, hsadd, hslen, hsat, heqs, hofNat, binStd, cmpStd, unStd, scmpStd, maxI, Bool.not_eq_true', Bool.not_eq_false', decide_eq_true_eq, decide_eq_false_iff_not, Int.not_lt, Int.not_le, if_true, if_false, Bool.false_eq_true, beq_iff_eq, bne_iff_ne, ne_eq, Bool.not_eq_eq_eq_not, Bool.not_true, Bool.not_false, beq_eq_false_iff_ne, bne_eq_false_iff_eq, Int.ofNat_eq_natCast, Bool.not_not, not_true_eq_false, not_false_eq_true, reduceCtorEq]; first | done | assumption) | exact RowsZ.same (by assumption) (by first | assumption | rfl) | exact FzL.mk rfl rfl rfl (by assumption) (by first | assumption | rfl) (by decide) | (refine RowsZ.one ?_; cbv))))
      case hI =>
        refine ⟨(show 0 ≤ i' by omega), (show i' ≤ L by omega), ?_⟩
        show stepO sg none (allParts ss lo hi from_ (rs.take i'.toNat)) = optOf g U V
        rw [← hst2, ← hst, ← ei', take_next hi0 hd]
        simp only [allParts, List.flatMap_append, List.flatMap_cons, List.flatMap_nil, List.append_nil, ea0, stepO_app]
  · refine hE _ _ _ ?_
    cbv
    have hiL : rs.take i.toNat = rs := List.take_of_length_le (by omega)
    rw [hiL] at hst
    exact ⟨_, Vw.same rfl, hR _ ⟨f, X, Y, rfl, hst⟩⟩
end Go.Proofs.Ytjfbecnappgjjaa

/- slices.BinarySearchFunc at spots and at groups, by the engine. Printed by wip/tools/genbin.py. -/
set_option linter.unusedVariables false
set_option linter.unusedSimpArgs false
namespace Go.Proofs.Ytjfbecnappgjjaa
open Go Go.RowKit Go.Eng
set_option maxRecDepth 100000
def cmpI (x y : Int) : Int := if x < y then -1 else if y < x then 1 else 0
theorem e_cmp (x y : Int) : PCalls Try.prog 46 [.int .i64 x, .int .i64 y] (· = .int .i64 (cmpI x y)) := by
  have n1 : ∀ a : Int, PCalls Try.prog 62 [.int .i64 a] (· = .bool false) := by
    intro a
    (refine PCalls.ofY Try.func62 (by kernel_rfl) (by kernel_rfl) fun w hw R hR => ?_); (obtain ⟨wbin, wcmp, wun, wconv, wnot, wbeq, wmm, wscmp, wsadd, wslen, wsat, weqs, wlen, wnlen, wofNat, wtake, wdrop, wapp, wzero, wnat⟩ := w); (have hbin : wbin = binStd := congrArg Prims.bin hw); (have hcmp : wcmp = cmpStd := congrArg Prims.cmp hw); (have hun : wun = unStd := congrArg Prims.un hw); (have hconv : wconv = fun k n => k.wrap n := congrArg Prims.conv hw); (have hnot : wnot = fun b => !b := congrArg Prims.not hw); (have hbeq : wbeq = fun a b => a == b := congrArg Prims.beq hw); (have hmm : wmm = maxI := congrArg Prims.mm hw); (have hscmp : wscmp = scmpStd := congrArg Prims.scmp hw); (have hsadd : wsadd = fun x y => x ++ y := congrArg Prims.sadd hw); (have hslen : wslen = fun s => (s.size : Int) := congrArg Prims.slen hw); (have hsat : wsat = std.sat := congrArg Prims.sat hw); (have heqs : weqs = fun a b os => (eqOffs a b os).getD false := congrArg Prims.eqs hw); (have hlen : wlen = fun es => (es.length : Int) := congrArg Prims.len hw); (have hnlen : wnlen = fun es => es.length := congrArg Prims.nlen hw); (have hofNat : wofNat = (fun n : Nat => (n : Int)) := congrArg Prims.ofNat hw); (have htake : wtake = fun es b => es.take b.toNat := congrArg Prims.take hw); (have hdrop : wdrop = fun es a => es.drop a.toNat := congrArg Prims.drop hw); (have happ : wapp = fun a b => a ++ b := congrArg Prims.app hw); (have hzero : wzero = fun n z => List.replicate n.toNat z := congrArg Prims.zero hw); (have hnat : wnat = fun n => n.toNat := congrArg Prims.nat hw); (conv => arg 2; cbv); (generalize hP : Try.prog = P); cbv
    refine ⟨_, Vw.same rfl, hR _ ?_⟩
    show AV.bool _ = AV.bool false
    rw [hcmp]; simp [cmpStd]
  (refine PCalls.ofY Try.func46 (by kernel_rfl) (by kernel_rfl) fun w hw R hR => ?_); (obtain ⟨wbin, wcmp, wun, wconv, wnot, wbeq, wmm, wscmp, wsadd, wslen, wsat, weqs, wlen, wnlen, wofNat, wtake, wdrop, wapp, wzero, wnat⟩ := w); (have hbin : wbin = binStd := congrArg Prims.bin hw); (have hcmp : wcmp = cmpStd := congrArg Prims.cmp hw); (have hun : wun = unStd := congrArg Prims.un hw); (have hconv : wconv = fun k n => k.wrap n := congrArg Prims.conv hw); (have hnot : wnot = fun b => !b := congrArg Prims.not hw); (have hbeq : wbeq = fun a b => a == b := congrArg Prims.beq hw); (have hmm : wmm = maxI := congrArg Prims.mm hw); (have hscmp : wscmp = scmpStd := congrArg Prims.scmp hw); (have hsadd : wsadd = fun x y => x ++ y := congrArg Prims.sadd hw); (have hslen : wslen = fun s => (s.size : Int) := congrArg Prims.slen hw); (have hsat : wsat = std.sat := congrArg Prims.sat hw); (have heqs : weqs = fun a b os => (eqOffs a b os).getD false := congrArg Prims.eqs hw); (have hlen : wlen = fun es => (es.length : Int) := congrArg Prims.len hw); (have hnlen : wnlen = fun es => es.length := congrArg Prims.nlen hw); (have hofNat : wofNat = (fun n : Nat => (n : Int)) := congrArg Prims.ofNat hw); (have htake : wtake = fun es b => es.take b.toNat := congrArg Prims.take hw); (have hdrop : wdrop = fun es a => es.drop a.toNat := congrArg Prims.drop hw); (have happ : wapp = fun a b => a ++ b := congrArg Prims.app hw); (have hzero : wzero = fun n z => List.replicate n.toNat z := congrArg Prims.zero hw); (have hnat : wnat = fun n => n.toNat := congrArg Prims.nat hw); (conv => arg 2; cbv); (generalize hP : Try.prog = P); cbv
  refine Call.stepE (by rw [← hP]; exact n1 x) rfl ?_
  cbv
  refine Call.stepE (by rw [← hP]; exact n1 y) rfl ?_
  cbv
  repeat' (split <;> rename_i h <;> (try (simp only [hbin, hcmp, hun, hconv, hnot, hbeq, hmm, hscmp, hsadd, hslen, hsat, heqs, hofNat, binStd, cmpStd, unStd, scmpStd, maxI, Bool.not_eq_true', Bool.not_eq_false', decide_eq_true_eq, decide_eq_false_iff_not, Int.not_lt, Int.not_le, if_true, if_false, Bool.false_eq_true, beq_iff_eq, bne_iff_ne, ne_eq, Bool.not_eq_eq_eq_not, Bool.not_true, Bool.not_false, beq_eq_false_iff_ne, bne_eq_false_iff_eq, Int.ofNat_eq_natCast, Bool.not_not, not_true_eq_false, not_false_eq_true, reduceCtorEq] at h)) <;> (try cbv))
  all_goals
    refine ⟨_, Vw.same rfl, hR _ ?_⟩
    show AV.int .i64 _ = AV.int .i64 _
    unfold cmpI
    first
      | rw [if_pos (by assumption)]
      | rw [if_neg (by omega), if_pos (by omega)]
      | rw [if_neg (by omega), if_neg (by omega)]
theorem half (s : Int) (h0 : 0 ≤ s) (h1 : s < 9223372036854775808) : IntKind.i64.wrap (binStd .shr .u64 (IntKind.u64.wrap s) 1) = s / 2 := by
  have e1 : IntKind.u64.wrap s = s := by
    simp only [IntKind.wrap, IntKind.bits, IntKind.signed]; simp; omega
  rw [e1]
  have e2 : binStd .shr .u64 s 1 = s / 2 := by
    show s.fdiv (2 ^ (min (1 : Int).toNat 64)) = _
    rw [Int.fdiv_eq_ediv_of_nonneg _ (by decide)]
    rfl
  rw [e2, IntKind.wrap_i64]; omega
/-- What a search finds. -/
structure Found {D : Type} (ds : List D) (key : D → Int) (t : Int) (i : Int) (f : Bool) : Prop where
  i0 : 0 ≤ i
  i1 : i.toNat ≤ ds.length
  yes : f = true → ∃ d, ds[i.toNat]? = some d ∧ key d = t
  no : f = false → ∀ d, d ∈ ds → key d ≠ t
set_option maxHeartbeats 2000000 in
theorem e_bin_spot {D : Type} (row : D → List AV) (key : D → Int) (hrow : ∀ d, (row d).length = 3 ∧ uptoL 0 (row d) = true) (F : Nat) (ds : List D) (t : Int) (hF : ∀ d, d ∈ ds → ∀ rw, row d = rw → PCalls Try.prog F [.agg rw, .int .i64 t] (· = .int .i64 (cmpI (key d) t)))
    (hs : ∀ (i j : Nat) (a b : D), i < j → ds[i]? = some a → ds[j]? = some b → key a < key b) (hn : ds.length ≤ 1000000) (ps : List (List AV)) (hps : ps = ds.map row) :
    PCalls Try.prog 44 [.list 3 ps, .int .i64 t, .func (.func F) [] []] (fun r => ∃ i f, r = .tuple [.int .i64 i, .bool f] ∧ Found ds key t i f) := by
  have hu : Up0 ps := by rw [hps]; exact up_map (f := row) (fun d => (hrow d).2) ds
  have hpl : ps.length = ds.length := by rw [hps]; simp
  have five : ∀ d, ∃ a b c, row d = [a, b, c] := by
    intro d
    have h := (hrow d).1
    match row d, h with
    | [a, b, c], _ => exact ⟨a, b, c, rfl⟩
  (refine PCalls.ofY Try.func44 (by kernel_rfl) (by kernel_rfl) fun w hw R hR => ?_); (obtain ⟨wbin, wcmp, wun, wconv, wnot, wbeq, wmm, wscmp, wsadd, wslen, wsat, weqs, wlen, wnlen, wofNat, wtake, wdrop, wapp, wzero, wnat⟩ := w); (have hbin : wbin = binStd := congrArg Prims.bin hw); (have hcmp : wcmp = cmpStd := congrArg Prims.cmp hw); (have hun : wun = unStd := congrArg Prims.un hw); (have hconv : wconv = fun k n => k.wrap n := congrArg Prims.conv hw); (have hnot : wnot = fun b => !b := congrArg Prims.not hw); (have hbeq : wbeq = fun a b => a == b := congrArg Prims.beq hw); (have hmm : wmm = maxI := congrArg Prims.mm hw); (have hscmp : wscmp = scmpStd := congrArg Prims.scmp hw); (have hsadd : wsadd = fun x y => x ++ y := congrArg Prims.sadd hw); (have hslen : wslen = fun s => (s.size : Int) := congrArg Prims.slen hw); (have hsat : wsat = std.sat := congrArg Prims.sat hw); (have heqs : weqs = fun a b os => (eqOffs a b os).getD false := congrArg Prims.eqs hw); (have hlen : wlen = fun es => (es.length : Int) := congrArg Prims.len hw); (have hnlen : wnlen = fun es => es.length := congrArg Prims.nlen hw); (have hofNat : wofNat = (fun n : Nat => (n : Int)) := congrArg Prims.ofNat hw); (have htake : wtake = fun es b => es.take b.toNat := congrArg Prims.take hw); (have hdrop : wdrop = fun es a => es.drop a.toNat := congrArg Prims.drop hw); (have happ : wapp = fun a b => a ++ b := congrArg Prims.app hw); (have hzero : wzero = fun n z => List.replicate n.toNat z := congrArg Prims.zero hw); (have hnat : wnat = fun n => n.toNat := congrArg Prims.nat hw); (conv => arg 2; cbv); (generalize hP : Try.prog = P); cbv
  (obtain ⟨L, eL, L0, Ln⟩ : ∃ L : Int, wlen ps = L ∧ 0 ≤ L ∧ L.toNat = ps.length := ⟨(ps.length : Int), by rw [hlen], Int.natCast_nonneg _, Int.toNat_natCast _⟩)
  simp only [eL]
  refine Loop.data hw (S := Int × Int) (fun s => fr 49 [(0, .list 3 ps), (1, .int .i64 t), (2, .func (.func F) [] []), (8, .int .i64 L), (9, .int .i64 s.1), (10, .int .i64 s.2)]) (fun s => [])
    (fun s => 0 ≤ s.1 ∧ s.1 ≤ s.2 ∧ s.2 ≤ L ∧ (∀ k d, k < s.1.toNat → ds[k]? = some d → key d < t) ∧ (∀ k d, s.2.toNat ≤ k → ds[k]? = some d → t ≤ key d)) (fun s => (s.2 - s.1).toNat) (0, L) (by (refine Wk.eqz (id) (by first | exact fun i _ j _ e => e | (simp only [List.length_cons, List.length_nil]; decide)) ?_; cbv; (repeat' (first | exact trivial | rfl | assumption | apply And.intro | (simp only [hbin, hcmp, hun, hconv, hnot, hbeq, hmm, hscmp, hsadd, hslen, hsat, heqs, hofNat, binStd, cmpStd, unStd, scmpStd, maxI, Bool.not_eq_true', Bool.not_eq_false', decide_eq_true_eq, decide_eq_false_iff_not, Int.not_lt, Int.not_le, if_true, if_false, Bool.false_eq_true, beq_iff_eq, bne_iff_ne, ne_eq, Bool.not_eq_eq_eq_not, Bool.not_true, Bool.not_false, beq_eq_false_iff_ne, bne_eq_false_iff_eq, Int.ofNat_eq_natCast, Bool.not_not, not_true_eq_false, not_false_eq_true, reduceCtorEq]; first | done | assumption) | exact RowsZ.same (by assumption) (by first | assumption | rfl) | exact FzL.mk rfl rfl rfl (by assumption) (by first | assumption | rfl) (by decide) | (refine RowsZ.one ?_; cbv)))))
    ⟨Int.le_refl _, L0, Int.le_refl _, fun k d hk => (by simp at hk), fun k d hk hd => (by have h1 := (List.getElem?_eq_some_iff.1 hd).1; have h2 : L.toNat ≤ k := hk; omega)⟩ ?_
  rintro ⟨i, j⟩ hinv Q' hN hE hR'
  have hinv : 0 ≤ i ∧ i ≤ j ∧ j ≤ L ∧ (∀ k d, k < i.toNat → ds[k]? = some d → key d < t) ∧ (∀ k d, j.toNat ≤ k → ds[k]? = some d → t ≤ key d) := hinv
  cbv
  obtain ⟨hi0, hij, hjL, hlow, hup⟩ := hinv
  (split <;> rename_i hc <;> (try (simp only [hbin, hcmp, hun, hconv, hnot, hbeq, hmm, hscmp, hsadd, hslen, hsat, heqs, hofNat, binStd, cmpStd, unStd, scmpStd, maxI, Bool.not_eq_true', Bool.not_eq_false', decide_eq_true_eq, decide_eq_false_iff_not, Int.not_lt, Int.not_le, if_true, if_false, Bool.false_eq_true, beq_iff_eq, bne_iff_ne, ne_eq, Bool.not_eq_eq_eq_not, Bool.not_true, Bool.not_false, beq_eq_false_iff_ne, bne_eq_false_iff_eq, Int.ofNat_eq_natCast, Bool.not_not, not_true_eq_false, not_false_eq_true, reduceCtorEq] at hc)) <;> (try cbv))
  · obtain ⟨h, eh⟩ : ∃ x, (i + j) / 2 = x := ⟨_, rfl⟩
    have eij : wbin .add .i64 i j = i + j := by rw [hbin, i_add (by omega) (by omega)]
    have e1 : wconv .i64 (wbin .shr .u64 (wconv .u64 (wbin .add .i64 i j)) 1) = h := by
      rw [eij, hconv, hbin]
      exact (half (i + j) (by omega) (by omega)).trans eh
    refine Nn.mk (by decide) ?_
    cbv
    simp only [e1]
    obtain ⟨d, hd, hr⟩ := get_map (f := row) (ds := ds) (i := h) (by omega) (by omega)
    rw [← hps] at hr
    obtain ⟨a, b, c, erow⟩ := five d
    have hcall := hF d (List.mem_of_getElem? hd) _ erow
    have hup0 := (hrow d).2
    rw [erow] at hr hup0
    refine Idx.mk _ (by omega) hr ?_
    cbv
    refine Call.stepE (by rw [← hP]; exact hcall) (by exact Bool.and_eq_true_iff.mpr ⟨hup0, rfl⟩) ?_
    obtain ⟨cv, ecv⟩ : ∃ x, cmpI (key d) t = x := ⟨_, rfl⟩
    rw [ecv]
    cbv
    obtain ⟨h', eh'⟩ : ∃ x, h + 1 = x := ⟨_, rfl⟩
    have ehh : wbin .add .i64 h 1 = h' := by rw [hbin, i_add (by omega) (by omega)]; exact eh'
    (split <;> rename_i hc2 <;> (try (simp only [hbin, hcmp, hun, hconv, hnot, hbeq, hmm, hscmp, hsadd, hslen, hsat, heqs, hofNat, binStd, cmpStd, unStd, scmpStd, maxI, Bool.not_eq_true', Bool.not_eq_false', decide_eq_true_eq, decide_eq_false_iff_not, Int.not_lt, Int.not_le, if_true, if_false, Bool.false_eq_true, beq_iff_eq, bne_iff_ne, ne_eq, Bool.not_eq_eq_eq_not, Bool.not_true, Bool.not_false, beq_eq_false_iff_ne, bne_eq_false_iff_eq, Int.ofNat_eq_natCast, Bool.not_not, not_true_eq_false, not_false_eq_true, reduceCtorEq] at hc2)) <;> (try cbv))
    · have hlt : key d < t := by unfold cmpI at ecv; split at ecv <;> (try split at ecv) <;> omega
      refine hN (h', j) _ _ ?hx ?hI (show (j - h').toNat < (j - i).toNat by omega)
      case hx => (refine Wk.eqz (id) (by first | exact fun i _ j _ e => e | (simp only [List.length_cons, List.length_nil]; decide)) ?_; cbv; (repeat' (first | exact trivial | rfl | assumption | apply And.intro | (simp only [hbin, hcmp, hun, hconv, hnot, hbeq, hmm, hscmp, hsadd, hslen, hsat, heqs, hofNat, binStd, cmpStd, unStd, scmpStd, maxI, Bool.not_eq_true', Bool.not_eq_false', decide_eq_true_eq, decide_eq_false_iff_not, Int.not_lt, Int.not_le, if_true, if_false, Bool.false_eq_true, beq_iff_eq, bne_iff_ne, ne_eq, Bool.not_eq_eq_eq_not, Bool.not_true, Bool.not_false, beq_eq_false_iff_ne, bne_eq_false_iff_eq, Int.ofNat_eq_natCast, Bool.not_not, not_true_eq_false, not_false_eq_true, reduceCtorEq]; first | done | assumption) | exact RowsZ.same (by assumption) (by first | assumption | rfl) | exact FzL.mk rfl rfl rfl (by assumption) (by first | assumption | rfl) (by decide) | (refine RowsZ.one ?_; cbv))))
      case hI =>
        refine ⟨(show 0 ≤ h' by omega), (show h' ≤ j by omega), hjL, fun k d' hk hd' => ?_, hup⟩
        have hk : k < h'.toNat := hk
        by_cases hkh : k = h.toNat
        · subst hkh; rw [hd] at hd'; cases hd'; exact hlt
        · have := hs k h.toNat d' d (by omega) hd' hd; omega
    · have hge : t ≤ key d := by unfold cmpI at ecv; split at ecv <;> (try split at ecv) <;> omega
      refine hN (i, h) _ _ ?hx ?hI (show (h - i).toNat < (j - i).toNat by omega)
      case hx => (refine Wk.eqz (id) (by first | exact fun i _ j _ e => e | (simp only [List.length_cons, List.length_nil]; decide)) ?_; cbv; (repeat' (first | exact trivial | rfl | assumption | apply And.intro | (simp only [hbin, hcmp, hun, hconv, hnot, hbeq, hmm, hscmp, hsadd, hslen, hsat, heqs, hofNat, binStd, cmpStd, unStd, scmpStd, maxI, Bool.not_eq_true', Bool.not_eq_false', decide_eq_true_eq, decide_eq_false_iff_not, Int.not_lt, Int.not_le, if_true, if_false, Bool.false_eq_true, beq_iff_eq, bne_iff_ne, ne_eq, Bool.not_eq_eq_eq_not, Bool.not_true, Bool.not_false, beq_eq_false_iff_ne, bne_eq_false_iff_eq, Int.ofNat_eq_natCast, Bool.not_not, not_true_eq_false, not_false_eq_true, reduceCtorEq]; first | done | assumption) | exact RowsZ.same (by assumption) (by first | assumption | rfl) | exact FzL.mk rfl rfl rfl (by assumption) (by first | assumption | rfl) (by decide) | (refine RowsZ.one ?_; cbv))))
      case hI =>
        refine ⟨hi0, (show i ≤ h by omega), (show h ≤ L by omega), hlow, fun k d' hk hd' => ?_⟩
        have hk : h.toNat ≤ k := hk
        by_cases hkh : k = h.toNat
        · subst hkh; rw [hd] at hd'; cases hd'; exact hge
        · have := hs h.toNat k d d' (by omega) hd hd'; omega
  · refine hE _ _ _ ?_
    cbv
    obtain rfl : i = j := by omega
    (split <;> rename_i hc2 <;> (try (simp only [hbin, hcmp, hun, hconv, hnot, hbeq, hmm, hscmp, hsadd, hslen, hsat, heqs, hofNat, binStd, cmpStd, unStd, scmpStd, maxI, Bool.not_eq_true', Bool.not_eq_false', decide_eq_true_eq, decide_eq_false_iff_not, Int.not_lt, Int.not_le, if_true, if_false, Bool.false_eq_true, beq_iff_eq, bne_iff_ne, ne_eq, Bool.not_eq_eq_eq_not, Bool.not_true, Bool.not_false, beq_eq_false_iff_ne, bne_eq_false_iff_eq, Int.ofNat_eq_natCast, Bool.not_not, not_true_eq_false, not_false_eq_true, reduceCtorEq] at hc2)) <;> (try cbv))
    · obtain ⟨d, hd, hr⟩ := get_map (f := row) (ds := ds) (i := i) (by omega) (by omega)
      rw [← hps] at hr
      obtain ⟨a, b, c, erow⟩ := five d
      have hcall := hF d (List.mem_of_getElem? hd) _ erow
      have hup0 := (hrow d).2
      rw [erow] at hr hup0
      refine Idx.mk _ (by omega) hr ?_
      cbv
      refine Call.stepE (by rw [← hP]; exact hcall) (by exact Bool.and_eq_true_iff.mpr ⟨hup0, rfl⟩) ?_
      obtain ⟨cv, ecv⟩ : ∃ x, cmpI (key d) t = x := ⟨_, rfl⟩
      rw [ecv]
      cbv
      refine ⟨_, Vw.same rfl, hR _ ⟨i, _, rfl, hi0, by omega, fun hf => ⟨d, hd, ?_⟩, fun hf d' hd' => ?_⟩⟩
      · rw [hcmp] at hf
        have hf : cv = 0 := by simpa [cmpStd] using hf
        unfold cmpI at ecv; split at ecv <;> (try split at ecv) <;> omega
      · rw [hcmp] at hf
        have hf : cv ≠ 0 := by simpa [cmpStd] using hf
        have hne : key d ≠ t := by unfold cmpI at ecv; split at ecv <;> (try split at ecv) <;> omega
        obtain ⟨k, hk⟩ := List.mem_iff_getElem?.1 hd'
        by_cases hki : k < i.toNat
        · have := hlow k d' hki hk; omega
        · by_cases hkh : k = i.toNat
          · subst hkh; rw [hd] at hk; cases hk; exact hne
          · have h1 := hs i.toNat k d d' (by omega) hd hk
            have h2 := hup i.toNat d (Nat.le_refl _) hd
            omega
    · refine ⟨_, Vw.same rfl, hR _ ⟨i, false, rfl, hi0, by omega, fun hf => (by cases hf), fun hf d' hd' => ?_⟩⟩
      obtain ⟨k, hk⟩ := List.mem_iff_getElem?.1 hd'
      have h1 := (List.getElem?_eq_some_iff.1 hk).1
      have := hlow k d' (by omega) hk
      omega
set_option maxHeartbeats 2000000 in
theorem e_bin_group {D : Type} (row : D → List AV) (key : D → Int) (hrow : ∀ d, (row d).length = 5 ∧ uptoL 0 (row d) = true) (F : Nat) (ds : List D) (t : Int) (hF : ∀ d, d ∈ ds → ∀ rw, row d = rw → PCalls Try.prog F [.agg rw, .int .i64 t] (· = .int .i64 (cmpI (key d) t)))
    (hs : ∀ (i j : Nat) (a b : D), i < j → ds[i]? = some a → ds[j]? = some b → key a < key b) (hn : ds.length ≤ 1000000) (ps : List (List AV)) (hps : ps = ds.map row) :
    PCalls Try.prog 55 [.list 5 ps, .int .i64 t, .func (.func F) [] []] (fun r => ∃ i f, r = .tuple [.int .i64 i, .bool f] ∧ Found ds key t i f) := by
  have hu : Up0 ps := by rw [hps]; exact up_map (f := row) (fun d => (hrow d).2) ds
  have hpl : ps.length = ds.length := by rw [hps]; simp
  have five : ∀ d, ∃ a b c x0 x1, row d = [a, b, c, x0, x1] := by
    intro d
    have h := (hrow d).1
    match row d, h with
    | [a, b, c, x0, x1], _ => exact ⟨a, b, c, x0, x1, rfl⟩
  (refine PCalls.ofY Try.func55 (by kernel_rfl) (by kernel_rfl) fun w hw R hR => ?_); (obtain ⟨wbin, wcmp, wun, wconv, wnot, wbeq, wmm, wscmp, wsadd, wslen, wsat, weqs, wlen, wnlen, wofNat, wtake, wdrop, wapp, wzero, wnat⟩ := w); (have hbin : wbin = binStd := congrArg Prims.bin hw); (have hcmp : wcmp = cmpStd := congrArg Prims.cmp hw); (have hun : wun = unStd := congrArg Prims.un hw); (have hconv : wconv = fun k n => k.wrap n := congrArg Prims.conv hw); (have hnot : wnot = fun b => !b := congrArg Prims.not hw); (have hbeq : wbeq = fun a b => a == b := congrArg Prims.beq hw); (have hmm : wmm = maxI := congrArg Prims.mm hw); (have hscmp : wscmp = scmpStd := congrArg Prims.scmp hw); (have hsadd : wsadd = fun x y => x ++ y := congrArg Prims.sadd hw); (have hslen : wslen = fun s => (s.size : Int) := congrArg Prims.slen hw); (have hsat : wsat = std.sat := congrArg Prims.sat hw); (have heqs : weqs = fun a b os => (eqOffs a b os).getD false := congrArg Prims.eqs hw); (have hlen : wlen = fun es => (es.length : Int) := congrArg Prims.len hw); (have hnlen : wnlen = fun es => es.length := congrArg Prims.nlen hw); (have hofNat : wofNat = (fun n : Nat => (n : Int)) := congrArg Prims.ofNat hw); (have htake : wtake = fun es b => es.take b.toNat := congrArg Prims.take hw); (have hdrop : wdrop = fun es a => es.drop a.toNat := congrArg Prims.drop hw); (have happ : wapp = fun a b => a ++ b := congrArg Prims.app hw); (have hzero : wzero = fun n z => List.replicate n.toNat z := congrArg Prims.zero hw); (have hnat : wnat = fun n => n.toNat := congrArg Prims.nat hw); (conv => arg 2; cbv); (generalize hP : Try.prog = P); cbv
  (obtain ⟨L, eL, L0, Ln⟩ : ∃ L : Int, wlen ps = L ∧ 0 ≤ L ∧ L.toNat = ps.length := ⟨(ps.length : Int), by rw [hlen], Int.natCast_nonneg _, Int.toNat_natCast _⟩)
  simp only [eL]
  refine Loop.data hw (S := Int × Int) (fun s => fr 49 [(0, .list 5 ps), (1, .int .i64 t), (2, .func (.func F) [] []), (8, .int .i64 L), (9, .int .i64 s.1), (10, .int .i64 s.2)]) (fun s => [])
    (fun s => 0 ≤ s.1 ∧ s.1 ≤ s.2 ∧ s.2 ≤ L ∧ (∀ k d, k < s.1.toNat → ds[k]? = some d → key d < t) ∧ (∀ k d, s.2.toNat ≤ k → ds[k]? = some d → t ≤ key d)) (fun s => (s.2 - s.1).toNat) (0, L) (by (refine Wk.eqz (id) (by first | exact fun i _ j _ e => e | (simp only [List.length_cons, List.length_nil]; decide)) ?_; cbv; (repeat' (first | exact trivial | rfl | assumption | apply And.intro | (simp only [hbin, hcmp, hun, hconv, hnot, hbeq, hmm, hscmp, hsadd, hslen, hsat, heqs, hofNat, binStd, cmpStd, unStd, scmpStd, maxI, Bool.not_eq_true', Bool.not_eq_false', decide_eq_true_eq, decide_eq_false_iff_not, Int.not_lt, Int.not_le, if_true, if_false, Bool.false_eq_true, beq_iff_eq, bne_iff_ne, ne_eq, Bool.not_eq_eq_eq_not, Bool.not_true, Bool.not_false, beq_eq_false_iff_ne, bne_eq_false_iff_eq, Int.ofNat_eq_natCast, Bool.not_not, not_true_eq_false, not_false_eq_true, reduceCtorEq]; first | done | assumption) | exact RowsZ.same (by assumption) (by first | assumption | rfl) | exact FzL.mk rfl rfl rfl (by assumption) (by first | assumption | rfl) (by decide) | (refine RowsZ.one ?_; cbv)))))
    ⟨Int.le_refl _, L0, Int.le_refl _, fun k d hk => (by simp at hk), fun k d hk hd => (by have h1 := (List.getElem?_eq_some_iff.1 hd).1; have h2 : L.toNat ≤ k := hk; omega)⟩ ?_
  rintro ⟨i, j⟩ hinv Q' hN hE hR'
  have hinv : 0 ≤ i ∧ i ≤ j ∧ j ≤ L ∧ (∀ k d, k < i.toNat → ds[k]? = some d → key d < t) ∧ (∀ k d, j.toNat ≤ k → ds[k]? = some d → t ≤ key d) := hinv
  cbv
  obtain ⟨hi0, hij, hjL, hlow, hup⟩ := hinv
  (split <;> rename_i hc <;> (try (simp only [hbin, hcmp, hun, hconv, hnot, hbeq, hmm, hscmp, hsadd, hslen, hsat, heqs, hofNat, binStd, cmpStd, unStd, scmpStd, maxI, Bool.not_eq_true', Bool.not_eq_false', decide_eq_true_eq, decide_eq_false_iff_not, Int.not_lt, Int.not_le, if_true, if_false, Bool.false_eq_true, beq_iff_eq, bne_iff_ne, ne_eq, Bool.not_eq_eq_eq_not, Bool.not_true, Bool.not_false, beq_eq_false_iff_ne, bne_eq_false_iff_eq, Int.ofNat_eq_natCast, Bool.not_not, not_true_eq_false, not_false_eq_true, reduceCtorEq] at hc)) <;> (try cbv))
  · obtain ⟨h, eh⟩ : ∃ x, (i + j) / 2 = x := ⟨_, rfl⟩
    have eij : wbin .add .i64 i j = i + j := by rw [hbin, i_add (by omega) (by omega)]
    have e1 : wconv .i64 (wbin .shr .u64 (wconv .u64 (wbin .add .i64 i j)) 1) = h := by
      rw [eij, hconv, hbin]
      exact (half (i + j) (by omega) (by omega)).trans eh
    refine Nn.mk (by decide) ?_
    cbv
    simp only [e1]
    obtain ⟨d, hd, hr⟩ := get_map (f := row) (ds := ds) (i := h) (by omega) (by omega)
    rw [← hps] at hr
    obtain ⟨a, b, c, x0, x1, erow⟩ := five d
    have hcall := hF d (List.mem_of_getElem? hd) _ erow
    have hup0 := (hrow d).2
    rw [erow] at hr hup0
    refine Idx.mk _ (by omega) hr ?_
    cbv
    refine Call.stepE (by rw [← hP]; exact hcall) (by exact Bool.and_eq_true_iff.mpr ⟨hup0, rfl⟩) ?_
    obtain ⟨cv, ecv⟩ : ∃ x, cmpI (key d) t = x := ⟨_, rfl⟩
    rw [ecv]
    cbv
    obtain ⟨h', eh'⟩ : ∃ x, h + 1 = x := ⟨_, rfl⟩
    have ehh : wbin .add .i64 h 1 = h' := by rw [hbin, i_add (by omega) (by omega)]; exact eh'
    (split <;> rename_i hc2 <;> (try (simp only [hbin, hcmp, hun, hconv, hnot, hbeq, hmm, hscmp, hsadd, hslen, hsat, heqs, hofNat, binStd, cmpStd, unStd, scmpStd, maxI, Bool.not_eq_true', Bool.not_eq_false', decide_eq_true_eq, decide_eq_false_iff_not, Int.not_lt, Int.not_le, if_true, if_false, Bool.false_eq_true, beq_iff_eq, bne_iff_ne, ne_eq, Bool.not_eq_eq_eq_not, Bool.not_true, Bool.not_false, beq_eq_false_iff_ne, bne_eq_false_iff_eq, Int.ofNat_eq_natCast, Bool.not_not, not_true_eq_false, not_false_eq_true, reduceCtorEq] at hc2)) <;> (try cbv))
    · have hlt : key d < t := by unfold cmpI at ecv; split at ecv <;> (try split at ecv) <;> omega
      refine hN (h', j) _ _ ?hx ?hI (show (j - h').toNat < (j - i).toNat by omega)
      case hx => (refine Wk.eqz (id) (by first | exact fun i _ j _ e => e | (simp only [List.length_cons, List.length_nil]; decide)) ?_; cbv; (repeat' (first | exact trivial | rfl | assumption | apply And.intro | (simp only [hbin, hcmp, hun, hconv, hnot, hbeq, hmm, hscmp, hsadd, hslen, hsat, heqs, hofNat, binStd, cmpStd, unStd, scmpStd, maxI, Bool.not_eq_true', Bool.not_eq_false', decide_eq_true_eq, decide_eq_false_iff_not, Int.not_lt, Int.not_le, if_true, if_false, Bool.false_eq_true, beq_iff_eq, bne_iff_ne, ne_eq, Bool.not_eq_eq_eq_not, Bool.not_true, Bool.not_false, beq_eq_false_iff_ne, bne_eq_false_iff_eq, Int.ofNat_eq_natCast, Bool.not_not, not_true_eq_false, not_false_eq_true, reduceCtorEq]; first | done | assumption) | exact RowsZ.same (by assumption) (by first | assumption | rfl) | exact FzL.mk rfl rfl rfl (by assumption) (by first | assumption | rfl) (by decide) | (refine RowsZ.one ?_; cbv))))
      case hI =>
        refine ⟨(show 0 ≤ h' by omega), (show h' ≤ j by omega), hjL, fun k d' hk hd' => ?_, hup⟩
        have hk : k < h'.toNat := hk
        by_cases hkh : k = h.toNat
        · subst hkh; rw [hd] at hd'; cases hd'; exact hlt
        · have := hs k h.toNat d' d (by omega) hd' hd; omega
    · have hge : t ≤ key d := by unfold cmpI at ecv; split at ecv <;> (try split at ecv) <;> omega
      refine hN (i, h) _ _ ?hx ?hI (show (h - i).toNat < (j - i).toNat by omega)
      case hx => (refine Wk.eqz (id) (by first | exact fun i _ j _ e => e | (simp only [List.length_cons, List.length_nil]; decide)) ?_; cbv; (repeat' (first | exact trivial | rfl | assumption | apply And.intro | (simp only [hbin, hcmp, hun, hconv, hnot, hbeq, hmm, hscmp, hsadd, hslen, hsat, heqs, hofNat, binStd, cmpStd, unStd, scmpStd, maxI, Bool.not_eq_true', Bool.not_eq_false', decide_eq_true_eq, decide_eq_false_iff_not, Int.not_lt, Int.not_le, if_true, if_false, Bool.false_eq_true, beq_iff_eq, bne_iff_ne, ne_eq, Bool.not_eq_eq_eq_not, Bool.not_true, Bool.not_false, beq_eq_false_iff_ne, bne_eq_false_iff_eq, Int.ofNat_eq_natCast, Bool.not_not, not_true_eq_false, not_false_eq_true, reduceCtorEq]; first | done | assumption) | exact RowsZ.same (by assumption) (by first | assumption | rfl) | exact FzL.mk rfl rfl rfl (by assumption) (by first | assumption | rfl) (by decide) | (refine RowsZ.one ?_; cbv))))
      case hI =>
        refine ⟨hi0, (show i ≤ h by omega), (show h ≤ L by omega), hlow, fun k d' hk hd' => ?_⟩
        have hk : h.toNat ≤ k := hk
        by_cases hkh : k = h.toNat
        · subst hkh; rw [hd] at hd'; cases hd'; exact hge
        · have := hs h.toNat k d d' (by omega) hd hd'; omega
  · refine hE _ _ _ ?_
    cbv
    obtain rfl : i = j := by omega
    (split <;> rename_i hc2 <;> (try (simp only [hbin, hcmp, hun, hconv, hnot, hbeq, hmm, hscmp, hsadd, hslen, hsat, heqs, hofNat, binStd, cmpStd, unStd, scmpStd, maxI, Bool.not_eq_true', Bool.not_eq_false', decide_eq_true_eq, decide_eq_false_iff_not, Int.not_lt, Int.not_le, if_true, if_false, Bool.false_eq_true, beq_iff_eq, bne_iff_ne, ne_eq, Bool.not_eq_eq_eq_not, Bool.not_true, Bool.not_false, beq_eq_false_iff_ne, bne_eq_false_iff_eq, Int.ofNat_eq_natCast, Bool.not_not, not_true_eq_false, not_false_eq_true, reduceCtorEq] at hc2)) <;> (try cbv))
    · obtain ⟨d, hd, hr⟩ := get_map (f := row) (ds := ds) (i := i) (by omega) (by omega)
      rw [← hps] at hr
      obtain ⟨a, b, c, x0, x1, erow⟩ := five d
      have hcall := hF d (List.mem_of_getElem? hd) _ erow
      have hup0 := (hrow d).2
      rw [erow] at hr hup0
      refine Idx.mk _ (by omega) hr ?_
      cbv
      refine Call.stepE (by rw [← hP]; exact hcall) (by exact Bool.and_eq_true_iff.mpr ⟨hup0, rfl⟩) ?_
      obtain ⟨cv, ecv⟩ : ∃ x, cmpI (key d) t = x := ⟨_, rfl⟩
      rw [ecv]
      cbv
      refine ⟨_, Vw.same rfl, hR _ ⟨i, _, rfl, hi0, by omega, fun hf => ⟨d, hd, ?_⟩, fun hf d' hd' => ?_⟩⟩
      · rw [hcmp] at hf
        have hf : cv = 0 := by simpa [cmpStd] using hf
        unfold cmpI at ecv; split at ecv <;> (try split at ecv) <;> omega
      · rw [hcmp] at hf
        have hf : cv ≠ 0 := by simpa [cmpStd] using hf
        have hne : key d ≠ t := by unfold cmpI at ecv; split at ecv <;> (try split at ecv) <;> omega
        obtain ⟨k, hk⟩ := List.mem_iff_getElem?.1 hd'
        by_cases hki : k < i.toNat
        · have := hlow k d' hki hk; omega
        · by_cases hkh : k = i.toNat
          · subst hkh; rw [hd] at hk; cases hk; exact hne
          · have h1 := hs i.toNat k d d' (by omega) hd hk
            have h2 := hup i.toNat d (Nat.le_refl _) hd
            omega
    · refine ⟨_, Vw.same rfl, hR _ ⟨i, false, rfl, hi0, by omega, fun hf => (by cases hf), fun hf d' hd' => ?_⟩⟩
      obtain ⟨k, hk⟩ := List.mem_iff_getElem?.1 hd'
      have h1 := (List.getElem?_eq_some_iff.1 hk).1
      have := hlow k d' (by omega) hk
      omega
end Go.Proofs.Ytjfbecnappgjjaa

/- Spots, plainly: in order; found; asked. -/
set_option linter.unusedVariables false
namespace Go.Proofs.Ytjfbecnappgjjaa
open Go
def spotsUp (cs : List Sp) (k : Nat) : List Sp := (List.range k).filterMap fun i : Nat => (segO cs (i : Int)).map fun p => ((i : Int), p.1, p.2)
theorem spotsOf_up (N : Nat) (cs : List Sp) : spotsOf N cs = spotsUp cs N := rfl
theorem spotsUp_succ (cs : List Sp) (k : Nat) : spotsUp cs (k + 1) = spotsUp cs k ++ (match segO cs (k : Int) with | some p => [((k : Int), p.1, p.2)] | none => []) := by
  unfold spotsUp
  rw [List.range_succ, List.filterMap_append]
  congr 1
  simp only [List.filterMap_cons, List.filterMap_nil]
  cases segO cs (k : Int) <;> rfl
theorem spotsUp_len (cs : List Sp) (k : Nat) : (spotsUp cs k).length ≤ k := by
  unfold spotsUp
  exact Nat.le_trans (List.length_filterMap_le _ _) (by simp)
theorem spotsUp_lt (cs : List Sp) : ∀ (k : Nat) (d : Sp), d ∈ spotsUp cs k → 0 ≤ d.1 ∧ d.1 < (k : Int) ∧ segO cs d.1 = some (d.2.1, d.2.2) := by
  intro k d hd
  unfold spotsUp at hd
  obtain ⟨i, hi, he⟩ := List.mem_filterMap.1 hd
  have hi := List.mem_range.1 hi
  cases hg : segO cs (i : Int) with
  | none => rw [hg] at he; cases he
  | some p =>
    rw [hg] at he
    simp only [Option.map_some, Option.some.injEq] at he
    subst he
    exact ⟨by simp only; omega, by simp only; omega, hg⟩
theorem spotsOf_mem {N : Nat} {cs : List Sp} {q a b : Int} (h0 : 0 ≤ q ∧ q < (N : Int)) (h : segO cs q = some (a, b)) : (q, a, b) ∈ spotsOf N cs := by
  rw [spotsOf_up]
  unfold spotsUp
  refine List.mem_filterMap.2 ⟨q.toNat, List.mem_range.2 (by omega), ?_⟩
  rw [show ((q.toNat : Nat) : Int) = q by omega, h]
  rfl
theorem spotsUp_sorted (cs : List Sp) : ∀ k, (spotsUp cs k).Pairwise fun a b => a.1 < b.1
  | 0 => by simp [spotsUp]
  | k + 1 => by
    rw [spotsUp_succ]
    refine List.pairwise_append.2 ⟨spotsUp_sorted cs k, ?_, fun a ha b hb => ?_⟩
    · cases segO cs (k : Int) <;> simp
    · have := (spotsUp_lt cs k a ha).2.1
      cases hg : segO cs (k : Int) with
      | none => rw [hg] at hb; cases hb
      | some p => rw [hg] at hb; simp at hb; subst hb; exact this
theorem sorted_at {sp : List Sp} (h : sp.Pairwise fun a b => a.1 < b.1) : ∀ (i j : Nat) (a b : Sp), i < j → sp[i]? = some a → sp[j]? = some b → a.1 < b.1 := by
  intro i j a b hij ha hb
  obtain ⟨h1, rfl⟩ := List.getElem?_eq_some_iff.1 ha
  obtain ⟨h2, rfl⟩ := List.getElem?_eq_some_iff.1 hb
  exact List.pairwise_iff_getElem.1 h i j h1 h2 hij
/-- The spot of a segment. -/
def findSp (sp : List Sp) (q : Int) : Option Sp := sp.find? fun d => d.1 == q
def hasSp (sp : List Sp) (q x : Int) : Bool := sp.any fun d => d.1 == q && decide (d.2.1 ≤ x) && decide (x ≤ d.2.2)
theorem findSp_some {sp : List Sp} (h : sp.Pairwise fun a b => a.1 < b.1) {q : Int} {d : Sp} (hd : d ∈ sp) (hq : d.1 = q) : findSp sp q = some d := by
  induction sp with
  | nil => cases hd
  | cons a l ih =>
    obtain ⟨h1, h2⟩ := List.pairwise_cons.1 h
    unfold findSp
    rw [List.find?_cons]
    rcases List.mem_cons.1 hd with rfl | hd
    · simp [hq]
    · have := h1 d hd
      have hne : (a.1 == q) = false := by rw [beq_eq_false_iff_ne]; omega
      rw [hne]
      exact ih h2 hd
theorem findSp_none {sp : List Sp} {q : Int} (h : ∀ d, d ∈ sp → d.1 ≠ q) : findSp sp q = none := by
  unfold findSp
  rw [List.find?_eq_none]
  intro d hd
  simpa using h d hd
theorem hasSp_find {sp : List Sp} (h : sp.Pairwise fun a b => a.1 < b.1) (q x : Int) : hasSp sp q x = (match findSp sp q with | some d => decide (d.2.1 ≤ x) && decide (x ≤ d.2.2) | none => false) := by
  unfold hasSp
  cases hf : findSp sp q with
  | none =>
    unfold findSp at hf
    rw [List.find?_eq_none] at hf
    rw [List.any_eq_false]
    intro d hd
    have := hf d hd
    simp only [beq_iff_eq] at this
    simp [this]
  | some d =>
    have hd : d ∈ sp ∧ d.1 = q := by
      unfold findSp at hf
      exact ⟨List.mem_of_find?_eq_some hf, by simpa using List.find?_some hf⟩
    simp only
    rw [Bool.eq_iff_iff, List.any_eq_true]
    constructor
    · rintro ⟨e, he, hh⟩
      simp only [Bool.and_eq_true, beq_iff_eq, decide_eq_true_eq] at hh
      have h1 := findSp_some h he hh.1.1
      rw [hf] at h1
      cases h1
      simp [hh.1.2, hh.2]
    · intro hh
      simp only [Bool.and_eq_true, decide_eq_true_eq] at hh
      exact ⟨d, hd.1, by simp [hd.2, hh.1, hh.2]⟩
theorem hasSp_iff {sp : List Sp} {q x : Int} : hasSp sp q x = true ↔ ∃ a b, (q, a, b) ∈ sp ∧ a ≤ x ∧ x ≤ b := by
  unfold hasSp
  rw [List.any_eq_true]
  constructor
  · rintro ⟨⟨n, a, b⟩, hd, hh⟩
    simp only [Bool.and_eq_true, beq_iff_eq, decide_eq_true_eq] at hh
    obtain ⟨⟨rfl, h1⟩, h2⟩ := hh
    exact ⟨a, b, hd, h1, h2⟩
  · rintro ⟨a, b, hd, h1, h2⟩
    exact ⟨_, hd, by simp [h1, h2]⟩
theorem hasSp_of {N : Nat} {cs : List Sp} {q x : Int} : hasSp (spotsOf N cs) q x = true ↔ (0 ≤ q ∧ q < (N : Int)) ∧ ∃ a b, segO cs q = some (a, b) ∧ a ≤ x ∧ x ≤ b := by
  rw [hasSp_iff]
  constructor
  · rintro ⟨a, b, hd, h1, h2⟩
    obtain ⟨k1, k2, k3⟩ := spotsUp_lt cs N _ hd
    exact ⟨⟨k1, k2⟩, a, b, k3, h1, h2⟩
  · rintro ⟨hq, a, b, h, h1, h2⟩
    exact ⟨a, b, spotsOf_mem hq h, h1, h2⟩
end Go.Proofs.Ytjfbecnappgjjaa

/- The document's spots, all; what is in them; what is found of them. -/
set_option linter.unusedVariables false
set_option linter.unusedSimpArgs false
namespace Go.Proofs.Ytjfbecnappgjjaa
open Go Go.RowKit Go.Eng
set_option maxRecDepth 100000
/-- Where a list is being built of which some are left out. -/
inductive Fd where
  | start (i : Int)
  | more (i : Int) (n : Nat) (fs : List (List AV))
def Fd.Ok (cs : List Sp) (N : Nat) : Fd → Prop
  | .start i => 0 ≤ i ∧ i.toNat ≤ N ∧ spotsUp cs i.toNat = []
  | .more i n fs => 0 ≤ i ∧ i.toNat ≤ N ∧ fs = (spotsUp cs i.toNat).map spRow ∧ n = fs.length ∧ Up0 fs
def Fd.left (N : Nat) : Fd → Nat
  | .start i => N - i.toNat
  | .more i _ _ => N - i.toNat
set_option maxHeartbeats 2000000 in
theorem e_rwithin (ss : List Sg) (gs : List Gr) (rs : List (List Int)) (es ds qs : List (List AV)) (hes : es = ss.map sgRow) (hds : ds = gs.map grRow) (hqs : qs = rs.map rtRow) (from_ lo hi : Int) (hl : LensOk ss) (hway : WaysOk ss rs) (hf : 0 ≤ from_ ∧ from_ ≤ 1099511627776)
    (hlo : -1152921504606846976 ≤ lo ∧ lo ≤ 1152921504606846976) (hhi : -1152921504606846976 ≤ hi ∧ hi ≤ 1152921504606846976) (hN : ss.length ≤ 1000) :
    PCalls Try.prog 15 [.agg [.list 3 es, .list 5 ds], .int .i64 from_, .list 1 qs, .int .i64 lo, .int .i64 hi] (· = .list 3 ((spotsOf ss.length (allParts ss lo hi from_ rs)).map spRow)) := by
  have hu : Up0 es := by rw [hes]; exact up_sg ss
  have hud : Up0 ds := by rw [hds]; exact up_gr gs
  have huq : Up0 qs := by rw [hqs]; exact up_rt rs
  have hel : es.length = ss.length := by rw [hes]; simp
  have hone := fun sg => e_one ss gs rs es ds qs hes hds hqs from_ lo hi sg hl hway hf hlo hhi
  have huargs : ∀ sg : Int, uptoL 0 [.agg [.list 3 es, .list 5 ds], .int .i64 from_, .list 1 qs, .int .i64 lo, .int .i64 hi, .int .i64 sg] = true := fun sg =>
    Bool.and_eq_true_iff.mpr ⟨Up0.one hu (Up0.one hud rfl), Bool.and_eq_true_iff.mpr ⟨rfl, Up0.one huq rfl⟩⟩
  obtain ⟨cs, ecs⟩ : ∃ x, allParts ss lo hi from_ rs = x := ⟨_, rfl⟩
  rw [ecs] at hone ⊢
  (refine PCalls.ofY Try.func15 (by kernel_rfl) (by kernel_rfl) fun w hw R hR => ?_); (obtain ⟨wbin, wcmp, wun, wconv, wnot, wbeq, wmm, wscmp, wsadd, wslen, wsat, weqs, wlen, wnlen, wofNat, wtake, wdrop, wapp, wzero, wnat⟩ := w); (have hbin : wbin = binStd := congrArg Prims.bin hw); (have hcmp : wcmp = cmpStd := congrArg Prims.cmp hw); (have hun : wun = unStd := congrArg Prims.un hw); (have hconv : wconv = fun k n => k.wrap n := congrArg Prims.conv hw); (have hnot : wnot = fun b => !b := congrArg Prims.not hw); (have hbeq : wbeq = fun a b => a == b := congrArg Prims.beq hw); (have hmm : wmm = maxI := congrArg Prims.mm hw); (have hscmp : wscmp = scmpStd := congrArg Prims.scmp hw); (have hsadd : wsadd = fun x y => x ++ y := congrArg Prims.sadd hw); (have hslen : wslen = fun s => (s.size : Int) := congrArg Prims.slen hw); (have hsat : wsat = std.sat := congrArg Prims.sat hw); (have heqs : weqs = fun a b os => (eqOffs a b os).getD false := congrArg Prims.eqs hw); (have hlen : wlen = fun es => (es.length : Int) := congrArg Prims.len hw); (have hnlen : wnlen = fun es => es.length := congrArg Prims.nlen hw); (have hofNat : wofNat = (fun n : Nat => (n : Int)) := congrArg Prims.ofNat hw); (have htake : wtake = fun es b => es.take b.toNat := congrArg Prims.take hw); (have hdrop : wdrop = fun es a => es.drop a.toNat := congrArg Prims.drop hw); (have happ : wapp = fun a b => a ++ b := congrArg Prims.app hw); (have hzero : wzero = fun n z => List.replicate n.toNat z := congrArg Prims.zero hw); (have hnat : wnat = fun n => n.toNat := congrArg Prims.nat hw); (conv => arg 2; cbv); (generalize hP : Try.prog = P); cbv
  (obtain ⟨L, eL, L0, Ln⟩ : ∃ L : Int, wlen es = L ∧ 0 ≤ L ∧ L.toNat = es.length := ⟨(es.length : Int), by rw [hlen], Int.natCast_nonneg _, Int.toNat_natCast _⟩)
  have hupn : ∀ k, Up0 ((spotsUp cs k).map spRow) := fun k => up_sp _
  refine Loop.data hw (S := Fd) (fun s => match s with | .start i => fr 38 [(1, .int .i64 from_), (2, .list 1 qs), (3, .int .i64 lo), (4, .int .i64 hi), (5, .ref 0 2 0 0), (11, .nils), (12, .int .i64 i)] | .more i n fs => fr 38 [(1, .int .i64 from_), (2, .list 1 qs), (3, .int .i64 lo), (4, .int .i64 hi), (5, .ref 0 2 0 0), (11, .sl 1 3 0 n), (12, .int .i64 i)])
    (fun s => match s with | .start i => [.live 2 [[.list 3 es, .list 5 ds]]] | .more i n fs => [.live 2 [[.list 3 es, .list 5 ds]], .live 3 fs]) (Fd.Ok cs ss.length) (Fd.left ss.length) (.start 0) (by (refine Wk.eqz (id) (by first | exact fun i _ j _ e => e | (simp only [List.length_cons, List.length_nil]; decide)) ?_; cbv; (repeat' (first | exact trivial | rfl | assumption | apply And.intro | (simp only [hbin, hcmp, hun, hconv, hnot, hbeq, hmm, hscmp, hsadd, hslen, hsat, heqs, hofNat, binStd, cmpStd, unStd, scmpStd, maxI, Bool.not_eq_true', Bool.not_eq_false', decide_eq_true_eq, decide_eq_false_iff_not, Int.not_lt, Int.not_le, if_true, if_false, Bool.false_eq_true, beq_iff_eq, bne_iff_ne, ne_eq, Bool.not_eq_eq_eq_not, Bool.not_true, Bool.not_false, beq_eq_false_iff_ne, bne_eq_false_iff_eq, Int.ofNat_eq_natCast, Bool.not_not, not_true_eq_false, not_false_eq_true, reduceCtorEq]; first | done | assumption) | exact RowsZ.same (by assumption) (by first | assumption | rfl) | exact FzL.mk rfl rfl rfl (by assumption) (by first | assumption | rfl) (by decide) | (refine RowsZ.one ?_; cbv))))) ⟨Int.le_refl _, Nat.zero_le _, rfl⟩ ?_
  rintro (i | ⟨i, n, fs⟩) hinv Q' hN' hE hR'
  · cbv
    obtain ⟨hi0, hi1, hup⟩ : 0 ≤ i ∧ i.toNat ≤ ss.length ∧ spotsUp cs i.toNat = [] := hinv
    (split <;> rename_i hc <;> (try (simp only [eL] at hc)) <;> (try (simp only [hbin, hcmp, hun, hconv, hnot, hbeq, hmm, hscmp, hsadd, hslen, hsat, heqs, hofNat, binStd, cmpStd, unStd, scmpStd, maxI, Bool.not_eq_true', Bool.not_eq_false', decide_eq_true_eq, decide_eq_false_iff_not, Int.not_lt, Int.not_le, if_true, if_false, Bool.false_eq_true, beq_iff_eq, bne_iff_ne, ne_eq, Bool.not_eq_eq_eq_not, Bool.not_true, Bool.not_false, beq_eq_false_iff_ne, bne_eq_false_iff_eq, Int.ofNat_eq_natCast, Bool.not_not, not_true_eq_false, not_false_eq_true, reduceCtorEq] at hc)) <;> (try cbv))
    · obtain ⟨i', ei'⟩ : ∃ x, i + 1 = x := ⟨_, rfl⟩
      have ei : wbin .add .i64 i 1 = i' := by rw [hbin, i_add (by omega) (by omega)]; exact ei'
      have hsucc := spotsUp_succ cs i.toNat
      rw [show i.toNat + 1 = i'.toNat by omega, show ((i.toNat : Nat) : Int) = i by omega, hup, List.nil_append] at hsucc
      refine Call.step (by rw [← hP]; exact hone i) (huargs i) ?_
      rintro r ⟨f, x, y, rfl, hseg⟩
      cbv
      cases f with
      | false =>
        cbv
        rw [show optOf false x y = none from rfl] at hseg
        refine hN' (.start i') _ _ ?hx ?hI (by simp only [Fd.left]; omega)
        case hx => (refine Wk.eqz (id) (by first | exact fun i _ j _ e => e | (simp only [List.length_cons, List.length_nil]; decide)) ?_; cbv; (repeat' (first | exact trivial | rfl | assumption | apply And.intro | (simp only [hbin, hcmp, hun, hconv, hnot, hbeq, hmm, hscmp, hsadd, hslen, hsat, heqs, hofNat, binStd, cmpStd, unStd, scmpStd, maxI, Bool.not_eq_true', Bool.not_eq_false', decide_eq_true_eq, decide_eq_false_iff_not, Int.not_lt, Int.not_le, if_true, if_false, Bool.false_eq_true, beq_iff_eq, bne_iff_ne, ne_eq, Bool.not_eq_eq_eq_not, Bool.not_true, Bool.not_false, beq_eq_false_iff_ne, bne_eq_false_iff_eq, Int.ofNat_eq_natCast, Bool.not_not, not_true_eq_false, not_false_eq_true, reduceCtorEq]; first | done | assumption) | exact RowsZ.same (by assumption) (by first | assumption | rfl) | exact FzL.mk rfl rfl rfl (by assumption) (by first | assumption | rfl) (by decide) | (refine RowsZ.one ?_; cbv))))
        case hI => exact ⟨by omega, by omega, by rw [hsucc, hseg]⟩
      | true =>
        rw [show optOf true x y = some (x, y) from rfl] at hseg
        cbv
        refine Ob.mk (by decide) ?_
        cbv
        have hU : Up0 [[AV.int .i64 i, .int .i64 x, .int .i64 y]] := ⟨rfl⟩
        refine hN' (.more i' 1 [[.int .i64 i, .int .i64 x, .int .i64 y]]) _ _ ?hx ?hI (by simp only [Fd.left]; omega)
        case hx => (refine Wk.eqz (fun j => [0, 2].getD j 0) (by first | exact fun i _ j _ e => e | (simp only [List.length_cons, List.length_nil]; decide)) ?_; cbv; (repeat' (first | exact trivial | rfl | assumption | apply And.intro | (simp only [hbin, hcmp, hun, hconv, hnot, hbeq, hmm, hscmp, hsadd, hslen, hsat, heqs, hofNat, binStd, cmpStd, unStd, scmpStd, maxI, Bool.not_eq_true', Bool.not_eq_false', decide_eq_true_eq, decide_eq_false_iff_not, Int.not_lt, Int.not_le, if_true, if_false, Bool.false_eq_true, beq_iff_eq, bne_iff_ne, ne_eq, Bool.not_eq_eq_eq_not, Bool.not_true, Bool.not_false, beq_eq_false_iff_ne, bne_eq_false_iff_eq, Int.ofNat_eq_natCast, Bool.not_not, not_true_eq_false, not_false_eq_true, reduceCtorEq]; first | done | assumption) | exact RowsZ.same (by assumption) (by first | assumption | rfl) | exact FzL.mk rfl rfl rfl (by assumption) (by first | assumption | rfl) (by decide) | (refine RowsZ.one ?_; cbv))))
        case hI => exact ⟨by omega, by omega, by rw [hsucc, hseg]; rfl, rfl, hU⟩
    · refine hE _ _ _ ?_
      cbv
      have hiN : i.toNat = ss.length := by omega
      exact ⟨_, Vw.nil 3, hR _ (by rw [spotsOf_up, ← hiN, hup]; rfl)⟩
  · cbv
    obtain ⟨hi0, hi1, hfs, hnf, huf⟩ : 0 ≤ i ∧ i.toNat ≤ ss.length ∧ fs = (spotsUp cs i.toNat).map spRow ∧ n = fs.length ∧ Up0 fs := hinv
    have hnl : n ≤ i.toNat := by rw [hnf, hfs, List.length_map]; exact spotsUp_len cs _
    (split <;> rename_i hc <;> (try (simp only [eL] at hc)) <;> (try (simp only [hbin, hcmp, hun, hconv, hnot, hbeq, hmm, hscmp, hsadd, hslen, hsat, heqs, hofNat, binStd, cmpStd, unStd, scmpStd, maxI, Bool.not_eq_true', Bool.not_eq_false', decide_eq_true_eq, decide_eq_false_iff_not, Int.not_lt, Int.not_le, if_true, if_false, Bool.false_eq_true, beq_iff_eq, bne_iff_ne, ne_eq, Bool.not_eq_eq_eq_not, Bool.not_true, Bool.not_false, beq_eq_false_iff_ne, bne_eq_false_iff_eq, Int.ofNat_eq_natCast, Bool.not_not, not_true_eq_false, not_false_eq_true, reduceCtorEq] at hc)) <;> (try cbv))
    · obtain ⟨i', ei'⟩ : ∃ x, i + 1 = x := ⟨_, rfl⟩
      have ei : wbin .add .i64 i 1 = i' := by rw [hbin, i_add (by omega) (by omega)]; exact ei'
      have hsucc := spotsUp_succ cs i.toNat
      rw [show i.toNat + 1 = i'.toNat by omega, show ((i.toNat : Nat) : Int) = i by omega] at hsucc
      refine Call.step (by rw [← hP]; exact hone i) (huargs i) ?_
      rintro r ⟨f, x, y, rfl, hseg⟩
      cbv
      cases f with
      | false =>
        cbv
        rw [show optOf false x y = none from rfl] at hseg
        refine hN' (.more i' n fs) _ _ ?hx ?hI (by simp only [Fd.left]; omega)
        case hx => (refine Wk.eqz (id) (by first | exact fun i _ j _ e => e | (simp only [List.length_cons, List.length_nil]; decide)) ?_; cbv; (repeat' (first | exact trivial | rfl | assumption | apply And.intro | (simp only [hbin, hcmp, hun, hconv, hnot, hbeq, hmm, hscmp, hsadd, hslen, hsat, heqs, hofNat, binStd, cmpStd, unStd, scmpStd, maxI, Bool.not_eq_true', Bool.not_eq_false', decide_eq_true_eq, decide_eq_false_iff_not, Int.not_lt, Int.not_le, if_true, if_false, Bool.false_eq_true, beq_iff_eq, bne_iff_ne, ne_eq, Bool.not_eq_eq_eq_not, Bool.not_true, Bool.not_false, beq_eq_false_iff_ne, bne_eq_false_iff_eq, Int.ofNat_eq_natCast, Bool.not_not, not_true_eq_false, not_false_eq_true, reduceCtorEq]; first | done | assumption) | exact RowsZ.same (by assumption) (by first | assumption | rfl) | exact FzL.mk rfl rfl rfl (by assumption) (by first | assumption | rfl) (by decide) | (refine RowsZ.one ?_; cbv))))
        case hI => exact ⟨by omega, by omega, by rw [hsucc, hseg, List.append_nil]; exact hfs, hnf, huf⟩
      | true =>
        rw [show optOf true x y = some (x, y) from rfl] at hseg
        obtain ⟨fs', efs⟩ : ∃ z, fs ++ [[AV.int .i64 i, .int .i64 x, .int .i64 y]] = z := ⟨_, rfl⟩
        have hft : fs' = (spotsUp cs i'.toNat).map spRow := by rw [← efs, hsucc, hseg, List.map_append, hfs]; rfl
        have hfl : fs'.length = n + 1 := by rw [← efs, hnf]; simp
        have huf' : Up0 fs' := by rw [hft]; exact up_sp _
        obtain ⟨n', en'⟩ : ∃ x, n + 1 = x := ⟨_, rfl⟩
        cbv
        refine App.mk fs' n' efs.symm hnf en'.symm (by omega) (by omega) ?_
        cbv
        refine hN' (.more i' n' fs') _ _ ?hx ?hI (by simp only [Fd.left]; omega)
        case hx => (refine Wk.eqz (fun j => [0, 3].getD j 0) (by first | exact fun i _ j _ e => e | (simp only [List.length_cons, List.length_nil]; decide)) ?_; cbv; (repeat' (first | exact trivial | rfl | assumption | apply And.intro | (simp only [hbin, hcmp, hun, hconv, hnot, hbeq, hmm, hscmp, hsadd, hslen, hsat, heqs, hofNat, binStd, cmpStd, unStd, scmpStd, maxI, Bool.not_eq_true', Bool.not_eq_false', decide_eq_true_eq, decide_eq_false_iff_not, Int.not_lt, Int.not_le, if_true, if_false, Bool.false_eq_true, beq_iff_eq, bne_iff_ne, ne_eq, Bool.not_eq_eq_eq_not, Bool.not_true, Bool.not_false, beq_eq_false_iff_ne, bne_eq_false_iff_eq, Int.ofNat_eq_natCast, Bool.not_not, not_true_eq_false, not_false_eq_true, reduceCtorEq]; first | done | assumption) | exact RowsZ.same (by assumption) (by first | assumption | rfl) | exact FzL.mk rfl rfl rfl (by assumption) (by first | assumption | rfl) (by decide) | (refine RowsZ.one ?_; cbv))))
        case hI => exact ⟨by omega, by omega, hft, by omega, huf'⟩
    · refine hE _ _ _ ?_
      cbv
      have hiN : i.toNat = ss.length := by omega
      refine ⟨_, Vw.sl rfl huf.get (by omega), hR _ ?_⟩
      rw [List.drop_zero, List.take_of_length_le (by omega), hfs, spotsOf_up, hiN]
theorem e_rhas (sp : List Sp) (ps : List (List AV)) (hps : ps = sp.map spRow) (sg at_ : Int) (hn : sp.length ≤ 1000000) : PCalls Try.prog 19 [.list 3 ps, .int .i64 sg, .int .i64 at_] (· = .bool (hasSp sp sg at_)) := by
  have hu : Up0 ps := by rw [hps]; exact up_sp _
  have hpl : ps.length = sp.length := by rw [hps]; simp
  (refine PCalls.ofY Try.func19 (by kernel_rfl) (by kernel_rfl) fun w hw R hR => ?_); (obtain ⟨wbin, wcmp, wun, wconv, wnot, wbeq, wmm, wscmp, wsadd, wslen, wsat, weqs, wlen, wnlen, wofNat, wtake, wdrop, wapp, wzero, wnat⟩ := w); (have hbin : wbin = binStd := congrArg Prims.bin hw); (have hcmp : wcmp = cmpStd := congrArg Prims.cmp hw); (have hun : wun = unStd := congrArg Prims.un hw); (have hconv : wconv = fun k n => k.wrap n := congrArg Prims.conv hw); (have hnot : wnot = fun b => !b := congrArg Prims.not hw); (have hbeq : wbeq = fun a b => a == b := congrArg Prims.beq hw); (have hmm : wmm = maxI := congrArg Prims.mm hw); (have hscmp : wscmp = scmpStd := congrArg Prims.scmp hw); (have hsadd : wsadd = fun x y => x ++ y := congrArg Prims.sadd hw); (have hslen : wslen = fun s => (s.size : Int) := congrArg Prims.slen hw); (have hsat : wsat = std.sat := congrArg Prims.sat hw); (have heqs : weqs = fun a b os => (eqOffs a b os).getD false := congrArg Prims.eqs hw); (have hlen : wlen = fun es => (es.length : Int) := congrArg Prims.len hw); (have hnlen : wnlen = fun es => es.length := congrArg Prims.nlen hw); (have hofNat : wofNat = (fun n : Nat => (n : Int)) := congrArg Prims.ofNat hw); (have htake : wtake = fun es b => es.take b.toNat := congrArg Prims.take hw); (have hdrop : wdrop = fun es a => es.drop a.toNat := congrArg Prims.drop hw); (have happ : wapp = fun a b => a ++ b := congrArg Prims.app hw); (have hzero : wzero = fun n z => List.replicate n.toNat z := congrArg Prims.zero hw); (have hnat : wnat = fun n => n.toNat := congrArg Prims.nat hw); (conv => arg 2; cbv); (generalize hP : Try.prog = P); cbv
  (obtain ⟨L, eL, L0, Ln⟩ : ∃ L : Int, wlen ps = L ∧ 0 ≤ L ∧ L.toNat = ps.length := ⟨(ps.length : Int), by rw [hlen], Int.natCast_nonneg _, Int.toNat_natCast _⟩)
  refine Loop.data hw (S := Int) (fun i => fr 39 [(0, .list 3 ps), (1, .int .i64 sg), (2, .int .i64 at_), (7, .int .i64 i)]) (fun i => []) (fun i => 0 ≤ i ∧ i ≤ L ∧ ∀ k d, k < i.toNat → sp[k]? = some d → ¬ (d.1 = sg ∧ d.2.1 ≤ at_ ∧ at_ ≤ d.2.2)) (fun i => (L - i).toNat) 0 (by (refine Wk.eqz (id) (by first | exact fun i _ j _ e => e | (simp only [List.length_cons, List.length_nil]; decide)) ?_; cbv; (repeat' (first | exact trivial | rfl | assumption | apply And.intro | (simp only [hbin, hcmp, hun, hconv, hnot, hbeq, hmm, hscmp, hsadd, hslen, hsat, heqs, hofNat, binStd, cmpStd, unStd, scmpStd, maxI, Bool.not_eq_true', Bool.not_eq_false', decide_eq_true_eq, decide_eq_false_iff_not, Int.not_lt, Int.not_le, if_true, if_false, Bool.false_eq_true, beq_iff_eq, bne_iff_ne, ne_eq, Bool.not_eq_eq_eq_not, Bool.not_true, Bool.not_false, beq_eq_false_iff_ne, bne_eq_false_iff_eq, Int.ofNat_eq_natCast, Bool.not_not, not_true_eq_false, not_false_eq_true, reduceCtorEq]; first | done | assumption) | exact RowsZ.same (by assumption) (by first | assumption | rfl) | exact FzL.mk rfl rfl rfl (by assumption) (by first | assumption | rfl) (by decide) | (refine RowsZ.one ?_; cbv))))) ⟨Int.le_refl _, L0, fun k d hk => (by simp at hk)⟩ ?_
  rintro i hinv Q' hN hE hR'
  have hinv : 0 ≤ i ∧ i ≤ L ∧ ∀ k d, k < i.toNat → sp[k]? = some d → ¬ (d.1 = sg ∧ d.2.1 ≤ at_ ∧ at_ ≤ d.2.2) := hinv
  cbv
  obtain ⟨hi0, hi1, hno⟩ := hinv
  (split <;> rename_i hc <;> (try (simp only [eL] at hc)) <;> (try (simp only [hbin, hcmp, hun, hconv, hnot, hbeq, hmm, hscmp, hsadd, hslen, hsat, heqs, hofNat, binStd, cmpStd, unStd, scmpStd, maxI, Bool.not_eq_true', Bool.not_eq_false', decide_eq_true_eq, decide_eq_false_iff_not, Int.not_lt, Int.not_le, if_true, if_false, Bool.false_eq_true, beq_iff_eq, bne_iff_ne, ne_eq, Bool.not_eq_eq_eq_not, Bool.not_true, Bool.not_false, beq_eq_false_iff_ne, bne_eq_false_iff_eq, Int.ofNat_eq_natCast, Bool.not_not, not_true_eq_false, not_false_eq_true, reduceCtorEq] at hc)) <;> (try cbv))
  · obtain ⟨⟨n, a, b⟩, hd, hrow⟩ := get_map (f := spRow) (ds := sp) (i := i) hi0 (by omega)
    have hrow : ps[i.toNat]? = some [.int .i64 n, .int .i64 a, .int .i64 b] := by rw [hps]; exact hrow
    obtain ⟨i', ei'⟩ : ∃ x, i + 1 = x := ⟨_, rfl⟩
    have ei : wbin .add .i64 i 1 = i' := by rw [hbin, i_add (by omega) (by omega)]; exact ei'
    have yes : n = sg → a ≤ at_ → at_ ≤ b → R (.bool true) := fun h1 h2 h3 => hR _ (by
      have : hasSp sp sg at_ = true := hasSp_iff.2 ⟨a, b, by rw [← h1]; exact List.mem_of_getElem? hd, h2, h3⟩
      rw [this])
    have next : ¬ (n = sg ∧ a ≤ at_ ∧ at_ ≤ b) → ∀ k d, k < i'.toNat → sp[k]? = some d → ¬ (d.1 = sg ∧ d.2.1 ≤ at_ ∧ at_ ≤ d.2.2) := by
      intro hh k d hk hkd
      by_cases hki : k = i.toNat
      · subst hki; rw [hd] at hkd; cases hkd; exact hh
      · exact hno k d (by omega) hkd
    repeat' (first
      | (refine Idx.mk _ hi0 hrow ?_; cbv)
      | (refine hR' _ _ ⟨_, Vw.same rfl, yes ?_ ?_ ?_⟩ <;> (clear hN hE hR' hR; omega))
      | (split <;> rename_i h <;> (try (simp only [hbin, hcmp, hun, hconv, hnot, hbeq, hmm, hscmp, hsadd, hslen, hsat, heqs, hofNat, binStd, cmpStd, unStd, scmpStd, maxI, Bool.not_eq_true', Bool.not_eq_false', decide_eq_true_eq, decide_eq_false_iff_not, Int.not_lt, Int.not_le, if_true, if_false, Bool.false_eq_true, beq_iff_eq, bne_iff_ne, ne_eq, Bool.not_eq_eq_eq_not, Bool.not_true, Bool.not_false, beq_eq_false_iff_ne, bne_eq_false_iff_eq, Int.ofNat_eq_natCast, Bool.not_not, not_true_eq_false, not_false_eq_true, reduceCtorEq] at h)) <;> (try cbv)))
    all_goals
      refine hN i' _ _ ?hx ?hI (show (L - i').toNat < (L - i).toNat by omega)
      case hx => (refine Wk.eqz (id) (by first | exact fun i _ j _ e => e | (simp only [List.length_cons, List.length_nil]; decide)) ?_; cbv; (repeat' (first | exact trivial | rfl | assumption | apply And.intro | (simp only [hbin, hcmp, hun, hconv, hnot, hbeq, hmm, hscmp, hsadd, hslen, hsat, heqs, hofNat, binStd, cmpStd, unStd, scmpStd, maxI, Bool.not_eq_true', Bool.not_eq_false', decide_eq_true_eq, decide_eq_false_iff_not, Int.not_lt, Int.not_le, if_true, if_false, Bool.false_eq_true, beq_iff_eq, bne_iff_ne, ne_eq, Bool.not_eq_eq_eq_not, Bool.not_true, Bool.not_false, beq_eq_false_iff_ne, bne_eq_false_iff_eq, Int.ofNat_eq_natCast, Bool.not_not, not_true_eq_false, not_false_eq_true, reduceCtorEq]; first | done | assumption) | exact RowsZ.same (by assumption) (by first | assumption | rfl) | exact FzL.mk rfl rfl rfl (by assumption) (by first | assumption | rfl) (by decide) | (refine RowsZ.one ?_; cbv))))
      case hI => exact ⟨by omega, by omega, next (by omega)⟩
  · refine hE _ _ _ ?_
    cbv
    refine ⟨_, Vw.same rfl, hR _ ?_⟩
    have : hasSp sp sg at_ = false := by
      cases hh : hasSp sp sg at_ with
      | false => rfl
      | true =>
        obtain ⟨a, b, hd, h1, h2⟩ := hasSp_iff.1 hh
        obtain ⟨k, hk⟩ := List.mem_iff_getElem?.1 hd
        have hkl := (List.getElem?_eq_some_iff.1 hk).1
        exact absurd ⟨rfl, h1, h2⟩ (hno k _ (by omega) hk)
    rw [this]
    rfl
theorem e_find1 (d : Sp) (t : Int) : PCalls Try.prog 45 [.agg (spRow d), .int .i64 t] (· = .int .i64 (cmpI d.1 t)) := by
  obtain ⟨n, a, b⟩ := d
  have hc := e_cmp n t
  obtain ⟨v, ev⟩ : ∃ x, cmpI n t = x := ⟨_, rfl⟩
  show PCalls Try.prog 45 [.agg [.int .i64 n, .int .i64 a, .int .i64 b], .int .i64 t] (· = .int .i64 (cmpI n t))
  rw [ev] at hc ⊢
  (refine PCalls.ofY Try.func45 (by kernel_rfl) (by kernel_rfl) fun w hw R hR => ?_); (obtain ⟨wbin, wcmp, wun, wconv, wnot, wbeq, wmm, wscmp, wsadd, wslen, wsat, weqs, wlen, wnlen, wofNat, wtake, wdrop, wapp, wzero, wnat⟩ := w); (have hbin : wbin = binStd := congrArg Prims.bin hw); (have hcmp : wcmp = cmpStd := congrArg Prims.cmp hw); (have hun : wun = unStd := congrArg Prims.un hw); (have hconv : wconv = fun k n => k.wrap n := congrArg Prims.conv hw); (have hnot : wnot = fun b => !b := congrArg Prims.not hw); (have hbeq : wbeq = fun a b => a == b := congrArg Prims.beq hw); (have hmm : wmm = maxI := congrArg Prims.mm hw); (have hscmp : wscmp = scmpStd := congrArg Prims.scmp hw); (have hsadd : wsadd = fun x y => x ++ y := congrArg Prims.sadd hw); (have hslen : wslen = fun s => (s.size : Int) := congrArg Prims.slen hw); (have hsat : wsat = std.sat := congrArg Prims.sat hw); (have heqs : weqs = fun a b os => (eqOffs a b os).getD false := congrArg Prims.eqs hw); (have hlen : wlen = fun es => (es.length : Int) := congrArg Prims.len hw); (have hnlen : wnlen = fun es => es.length := congrArg Prims.nlen hw); (have hofNat : wofNat = (fun n : Nat => (n : Int)) := congrArg Prims.ofNat hw); (have htake : wtake = fun es b => es.take b.toNat := congrArg Prims.take hw); (have hdrop : wdrop = fun es a => es.drop a.toNat := congrArg Prims.drop hw); (have happ : wapp = fun a b => a ++ b := congrArg Prims.app hw); (have hzero : wzero = fun n z => List.replicate n.toNat z := congrArg Prims.zero hw); (have hnat : wnat = fun n => n.toNat := congrArg Prims.nat hw); (conv => arg 2; cbv); (generalize hP : Try.prog = P); cbv
  refine Call.stepE (by rw [← hP]; exact hc) rfl ?_
  cbv
  exact ⟨_, Vw.same rfl, hR _ rfl⟩
theorem e_find (sp : List Sp) (hs : sp.Pairwise fun a b => a.1 < b.1) (ps : List (List AV)) (hps : ps = sp.map spRow) (q : Int) (hn : sp.length ≤ 1000000) : PCalls Try.prog 20 [.list 3 ps, .int .i64 q] (fun r => match findSp sp q with | some d => r = .tuple [.agg (spRow d), .bool true] | none => r = .tuple [.agg [.int .i64 0, .int .i64 0, .int .i64 0], .bool false]) := by
  have hu : Up0 ps := by rw [hps]; exact up_sp _
  have hb := e_bin_spot spRow (fun d : Sp => d.1) (fun d => ⟨rfl, rfl⟩) 45 sp q (fun d _ rw_ e => by rw [← e]; exact e_find1 d q) (sorted_at hs) hn ps hps
  (refine PCalls.ofY Try.func20 (by kernel_rfl) (by kernel_rfl) fun w hw R hR => ?_); (obtain ⟨wbin, wcmp, wun, wconv, wnot, wbeq, wmm, wscmp, wsadd, wslen, wsat, weqs, wlen, wnlen, wofNat, wtake, wdrop, wapp, wzero, wnat⟩ := w); (have hbin : wbin = binStd := congrArg Prims.bin hw); (have hcmp : wcmp = cmpStd := congrArg Prims.cmp hw); (have hun : wun = unStd := congrArg Prims.un hw); (have hconv : wconv = fun k n => k.wrap n := congrArg Prims.conv hw); (have hnot : wnot = fun b => !b := congrArg Prims.not hw); (have hbeq : wbeq = fun a b => a == b := congrArg Prims.beq hw); (have hmm : wmm = maxI := congrArg Prims.mm hw); (have hscmp : wscmp = scmpStd := congrArg Prims.scmp hw); (have hsadd : wsadd = fun x y => x ++ y := congrArg Prims.sadd hw); (have hslen : wslen = fun s => (s.size : Int) := congrArg Prims.slen hw); (have hsat : wsat = std.sat := congrArg Prims.sat hw); (have heqs : weqs = fun a b os => (eqOffs a b os).getD false := congrArg Prims.eqs hw); (have hlen : wlen = fun es => (es.length : Int) := congrArg Prims.len hw); (have hnlen : wnlen = fun es => es.length := congrArg Prims.nlen hw); (have hofNat : wofNat = (fun n : Nat => (n : Int)) := congrArg Prims.ofNat hw); (have htake : wtake = fun es b => es.take b.toNat := congrArg Prims.take hw); (have hdrop : wdrop = fun es a => es.drop a.toNat := congrArg Prims.drop hw); (have happ : wapp = fun a b => a ++ b := congrArg Prims.app hw); (have hzero : wzero = fun n z => List.replicate n.toNat z := congrArg Prims.zero hw); (have hnat : wnat = fun n => n.toNat := congrArg Prims.nat hw); (conv => arg 2; cbv); (generalize hP : Try.prog = P); cbv
  refine Call.step (by rw [← hP]; exact hb) (by exact Up0.one hu rfl) ?_
  rintro r ⟨i, f, rfl, hF⟩
  cbv
  cases f with
  | false =>
    have n1 : wnot false = true := by rw [hnot]; rfl
    simp only [n1]
    cbv
    exact ⟨_, Vw.same rfl, hR _ (by rw [findSp_none (hF.no rfl)]; rfl)⟩
  | true =>
    have n1 : wnot true = false := by rw [hnot]; rfl
    obtain ⟨⟨n, a, b⟩, hd, hk⟩ := hF.yes rfl
    have hk : n = q := hk
    have hrow : ps[i.toNat]? = some [.int .i64 n, .int .i64 a, .int .i64 b] := by rw [hps, List.getElem?_map, hd]; rfl
    have hi0 := hF.i0
    simp only [n1]
    cbv
    refine Idx.mk _ hi0 hrow ?_
    cbv
    exact ⟨_, Vw.same rfl, hR _ (by rw [findSp_some hs (List.mem_of_getElem? hd) hk]; rfl)⟩
theorem e_has (sp : List Sp) (hs : sp.Pairwise fun a b => a.1 < b.1) (ps : List (List AV)) (hps : ps = sp.map spRow) (q x : Int) (hn : sp.length ≤ 1000000) : PCalls Try.prog 18 [.list 3 ps, .int .i64 q, .int .i64 x] (· = .bool (hasSp sp q x)) := by
  have hu : Up0 ps := by rw [hps]; exact up_sp _
  have hf := e_find sp hs ps hps q hn
  rw [hasSp_find hs]
  (refine PCalls.ofY Try.func18 (by kernel_rfl) (by kernel_rfl) fun w hw R hR => ?_); (obtain ⟨wbin, wcmp, wun, wconv, wnot, wbeq, wmm, wscmp, wsadd, wslen, wsat, weqs, wlen, wnlen, wofNat, wtake, wdrop, wapp, wzero, wnat⟩ := w); (have hbin : wbin = binStd := congrArg Prims.bin hw); (have hcmp : wcmp = cmpStd := congrArg Prims.cmp hw); (have hun : wun = unStd := congrArg Prims.un hw); (have hconv : wconv = fun k n => k.wrap n := congrArg Prims.conv hw); (have hnot : wnot = fun b => !b := congrArg Prims.not hw); (have hbeq : wbeq = fun a b => a == b := congrArg Prims.beq hw); (have hmm : wmm = maxI := congrArg Prims.mm hw); (have hscmp : wscmp = scmpStd := congrArg Prims.scmp hw); (have hsadd : wsadd = fun x y => x ++ y := congrArg Prims.sadd hw); (have hslen : wslen = fun s => (s.size : Int) := congrArg Prims.slen hw); (have hsat : wsat = std.sat := congrArg Prims.sat hw); (have heqs : weqs = fun a b os => (eqOffs a b os).getD false := congrArg Prims.eqs hw); (have hlen : wlen = fun es => (es.length : Int) := congrArg Prims.len hw); (have hnlen : wnlen = fun es => es.length := congrArg Prims.nlen hw); (have hofNat : wofNat = (fun n : Nat => (n : Int)) := congrArg Prims.ofNat hw); (have htake : wtake = fun es b => es.take b.toNat := congrArg Prims.take hw); (have hdrop : wdrop = fun es a => es.drop a.toNat := congrArg Prims.drop hw); (have happ : wapp = fun a b => a ++ b := congrArg Prims.app hw); (have hzero : wzero = fun n z => List.replicate n.toNat z := congrArg Prims.zero hw); (have hnat : wnat = fun n => n.toNat := congrArg Prims.nat hw); (conv => arg 2; cbv); (generalize hP : Try.prog = P); cbv
  refine Call.step (by rw [← hP]; exact hf) (by exact Up0.one hu rfl) ?_
  intro r hr
  cases hg : findSp sp q with
  | none =>
    rw [hg] at hr
    obtain rfl : r = .tuple [.agg [.int .i64 0, .int .i64 0, .int .i64 0], .bool false] := hr
    cbv
    exact ⟨_, Vw.same rfl, hR _ (by rw [hg]; rfl)⟩
  | some d =>
    obtain ⟨n, a, b⟩ := d
    rw [hg] at hr
    obtain rfl : r = .tuple [.agg [.int .i64 n, .int .i64 a, .int .i64 b], .bool true] := hr
    cbv
    repeat' (split <;> rename_i h <;> (try (simp only [hbin, hcmp, hun, hconv, hnot, hbeq, hmm, hscmp, hsadd, hslen, hsat, heqs, hofNat, binStd, cmpStd, unStd, scmpStd, maxI, Bool.not_eq_true', Bool.not_eq_false', decide_eq_true_eq, decide_eq_false_iff_not, Int.not_lt, Int.not_le, if_true, if_false, Bool.false_eq_true, beq_iff_eq, bne_iff_ne, ne_eq, Bool.not_eq_eq_eq_not, Bool.not_true, Bool.not_false, beq_eq_false_iff_ne, bne_eq_false_iff_eq, Int.ofNat_eq_natCast, Bool.not_not, not_true_eq_false, not_false_eq_true, reduceCtorEq] at h)) <;> (try cbv))
    all_goals
      refine ⟨_, Vw.same rfl, hR _ ?_⟩
      rw [hg]
      show AV.bool _ = AV.bool _
      first
        | (rw [hcmp]; simp [cmpStd, *]; done)
        | (simp [*]; done)
        | (simp; omega)
end Go.Proofs.Ytjfbecnappgjjaa

/- A track as the document has it, by the engine. Printed by wip/tools/genrefs.py. -/
set_option linter.unusedVariables false
set_option linter.unusedSimpArgs false
namespace Go.Proofs.Ytjfbecnappgjjaa
open Go Go.RowKit Go.Eng
set_option maxRecDepth 100000
set_option maxHeartbeats 4000000 in
theorem e_refsT31 (ss : List Sg) (gs : List Gr) (es ds : List (List AV)) (hes : es = ss.map sgRow) (hds : ds = gs.map grRow) (hm1 : ss.length ≤ 1000) (hm2 : gs.length ≤ 1000) (hm3 : ∀ s, s ∈ ss → s.ps.length ≤ 1000) : PCalls Try.prog 16 [.agg [.list 3 es, .list 5 ds]] (· = .agg [.list 3 es, .list 5 ds]) := by
  have hu : Up0 es := by rw [hes]; exact up_sg ss
  have hud : Up0 ds := by rw [hds]; exact up_gr gs
  have hel : es.length = ss.length := by rw [hes]; simp
  have hdl : ds.length = gs.length := by rw [hds]; simp
  (refine PCalls.ofY Try.func16 (by kernel_rfl) (by kernel_rfl) fun w hw R hR => ?_); (obtain ⟨wbin, wcmp, wun, wconv, wnot, wbeq, wmm, wscmp, wsadd, wslen, wsat, weqs, wlen, wnlen, wofNat, wtake, wdrop, wapp, wzero, wnat⟩ := w); (have hbin : wbin = binStd := congrArg Prims.bin hw); (have hcmp : wcmp = cmpStd := congrArg Prims.cmp hw); (have hun : wun = unStd := congrArg Prims.un hw); (have hconv : wconv = fun k n => k.wrap n := congrArg Prims.conv hw); (have hnot : wnot = fun b => !b := congrArg Prims.not hw); (have hbeq : wbeq = fun a b => a == b := congrArg Prims.beq hw); (have hmm : wmm = maxI := congrArg Prims.mm hw); (have hscmp : wscmp = scmpStd := congrArg Prims.scmp hw); (have hsadd : wsadd = fun x y => x ++ y := congrArg Prims.sadd hw); (have hslen : wslen = fun s => (s.size : Int) := congrArg Prims.slen hw); (have hsat : wsat = std.sat := congrArg Prims.sat hw); (have heqs : weqs = fun a b os => (eqOffs a b os).getD false := congrArg Prims.eqs hw); (have hlen : wlen = fun es => (es.length : Int) := congrArg Prims.len hw); (have hnlen : wnlen = fun es => es.length := congrArg Prims.nlen hw); (have hofNat : wofNat = (fun n : Nat => (n : Int)) := congrArg Prims.ofNat hw); (have htake : wtake = fun es b => es.take b.toNat := congrArg Prims.take hw); (have hdrop : wdrop = fun es a => es.drop a.toNat := congrArg Prims.drop hw); (have happ : wapp = fun a b => a ++ b := congrArg Prims.app hw); (have hzero : wzero = fun n z => List.replicate n.toNat z := congrArg Prims.zero hw); (have hnat : wnat = fun n => n.toNat := congrArg Prims.nat hw); (conv => arg 2; cbv); (generalize hP : Try.prog = P); cbv
  (obtain ⟨L, eL, L0, Ln⟩ : ∃ L : Int, wlen es = L ∧ 0 ≤ L ∧ L.toNat = es.length := ⟨(es.length : Int), by rw [hlen], Int.natCast_nonneg _, Int.toNat_natCast _⟩)
  refine Loop.data hw (S := Bd) (fun s => match s with | .start => fr 63 [(1, .ref 0 2 0 0), (2, .ref 1 2 0 0), (3, .ref 2 2 0 0), (12, .list 3 es), (13, .int .i64 L), (14, .int .i64 0)] | .more i n fs => fr 63 [(1, .ref 0 2 0 0), (2, .ref 1 2 0 0), (3, .ref 2 2 0 0), (12, .list 3 es), (13, .int .i64 L), (14, .int .i64 i)])
    (fun s => match s with | .start => [.live 2 [[.list 3 es, .list 5 ds]], .live 2 [[.nils, .nils]], .live 2 [[.nils, .nils]]] | .more i n fs => [.live 2 [[.list 3 es, .list 5 ds]], .live 2 [[.nils, .nils]], .live 2 [[.sl 3 3 0 n, .nils]], .live 3 fs]) (Bd.Ok es) (Bd.left es) .start (by (refine Wk.eqz (id) (by first | exact fun i _ j _ e => e | (simp only [List.length_cons, List.length_nil]; decide)) ?_; cbv; (repeat' (first | exact trivial | rfl | assumption | apply And.intro | (simp only [hbin, hcmp, hun, hconv, hnot, hbeq, hmm, hscmp, hsadd, hslen, hsat, heqs, hofNat, binStd, cmpStd, unStd, scmpStd, maxI, Bool.not_eq_true', Bool.not_eq_false', decide_eq_true_eq, decide_eq_false_iff_not, Int.not_lt, Int.not_le, if_true, if_false, Bool.false_eq_true, beq_iff_eq, bne_iff_ne, ne_eq, Bool.not_eq_eq_eq_not, Bool.not_true, Bool.not_false, beq_eq_false_iff_ne, bne_eq_false_iff_eq, Int.ofNat_eq_natCast, Bool.not_not, not_true_eq_false, not_false_eq_true, reduceCtorEq]; first | done | assumption) | exact RowsZ.same (by assumption) (by first | assumption | rfl) | exact FzL.mk rfl rfl rfl (by assumption) (by first | assumption | rfl) (by decide) | (refine RowsZ.one ?_; cbv))))) trivial ?_
  rintro (_ | ⟨i, n, fs⟩) hinv Q' hN hE hR'
  · cbv
    (split <;> rename_i hc <;> (try (simp only [hbin, hcmp, hun, hconv, hnot, hbeq, hmm, hscmp, hsadd, hslen, hsat, heqs, hofNat, binStd, cmpStd, unStd, scmpStd, maxI, Bool.not_eq_true', Bool.not_eq_false', decide_eq_true_eq, decide_eq_false_iff_not, Int.not_lt, Int.not_le, if_true, if_false, Bool.false_eq_true, beq_iff_eq, bne_iff_ne, ne_eq, Bool.not_eq_eq_eq_not, Bool.not_true, Bool.not_false, beq_eq_false_iff_ne, bne_eq_false_iff_eq, Int.ofNat_eq_natCast, Bool.not_not, not_true_eq_false, not_false_eq_true, reduceCtorEq] at hc)) <;> (try cbv))
    · obtain ⟨⟨len, ps, nx⟩, hd, hrow⟩ := get_map (f := sgRow) (ds := ss) (i := 0) (Int.le_refl 0) (by omega)
      obtain ⟨q1, eq1⟩ : ∃ x, ps.map pcRow = x := ⟨_, rfl⟩
      obtain ⟨n1, en1⟩ : ∃ x, nx.map nxRow = x := ⟨_, rfl⟩
      have hrow : es[(0 : Int).toNat]? = some [.int .i64 len, .list 2 q1, .list 1 n1] := by rw [hes, ← eq1, ← en1]; exact hrow
      have hql : q1.length = ps.length := by rw [← eq1]; simp
      have hpl : ps.length ≤ 1000 := hm3 ⟨len, ps, nx⟩ (List.mem_of_getElem? hd)
      have huq : Up0 q1 := by rw [← eq1]; exact up_pc ps
      have hun : Up0 n1 := by rw [← en1]; exact up_nx nx
      refine Idx.mk [.int .i64 len, .list 2 q1, .list 1 n1] (by decide) hrow ?_
      cbv
      have ei : wbin .add .i64 0 1 = 1 := by rw [hbin]; rfl
      have hT1 : Bd.left es (.more 1 1 [[.int .i64 len, .list 2 q1, .list 1 n1]]) < Bd.left es .start := by simp only [Bd.left]; omega
      have hI1 : Bd.Ok es (.more 1 1 [[.int .i64 len, .list 2 q1, .list 1 n1]]) := ⟨by decide, by omega, (take_row (Int.le_refl 0) hrow).symm, rfl, up_seg huq hun⟩
      (obtain ⟨K, eK, K0, Kn⟩ : ∃ L : Int, wlen q1 = L ∧ 0 ≤ L ∧ L.toNat = q1.length := ⟨(q1.length : Int), by rw [hlen], Int.natCast_nonneg _, Int.toNat_natCast _⟩)
      refine Loop.data hw (S := Bd) (fun s => match s with | .start => fr 63 [(1, .ref 0 2 0 0), (2, .ref 1 2 0 0), (3, .ref 2 2 0 0), (12, .list 3 es), (13, .int .i64 L), (14, .int .i64 0), (5, .ref 3 3 0 0), (6, .ref 4 3 0 0), (24, .list 2 q1), (25, .int .i64 K), (26, .int .i64 0)] | .more k m fp => fr 63 [(1, .ref 0 2 0 0), (2, .ref 1 2 0 0), (3, .ref 2 2 0 0), (12, .list 3 es), (13, .int .i64 L), (14, .int .i64 0), (5, .ref 3 3 0 0), (6, .ref 4 3 0 0), (24, .list 2 q1), (25, .int .i64 K), (26, .int .i64 k)])
        (fun s => match s with | .start => [.live 2 [[.list 3 es, .list 5 ds]], .live 2 [[.nils, .nils]], .live 2 [[.nils, .nils]], .live 3 [[.int .i64 len, .list 2 q1, .list 1 n1]], .live 3 [[.int .i64 len, .nils, .list 1 n1]]] | .more k m fp => [.live 2 [[.list 3 es, .list 5 ds]], .live 2 [[.nils, .nils]], .live 2 [[.nils, .nils]], .live 3 [[.int .i64 len, .list 2 q1, .list 1 n1]], .live 3 [[.int .i64 len, .sl 5 2 0 m, .list 1 n1]], .live 2 fp]) (Bd.Ok q1) (Bd.left q1) .start (by (refine Wk.eqz (id) (by first | exact fun i _ j _ e => e | (simp only [List.length_cons, List.length_nil]; decide)) ?_; cbv; (repeat' (first | exact trivial | rfl | assumption | apply And.intro | (simp only [hbin, hcmp, hun, hconv, hnot, hbeq, hmm, hscmp, hsadd, hslen, hsat, heqs, hofNat, binStd, cmpStd, unStd, scmpStd, maxI, Bool.not_eq_true', Bool.not_eq_false', decide_eq_true_eq, decide_eq_false_iff_not, Int.not_lt, Int.not_le, if_true, if_false, Bool.false_eq_true, beq_iff_eq, bne_iff_ne, ne_eq, Bool.not_eq_eq_eq_not, Bool.not_true, Bool.not_false, beq_eq_false_iff_ne, bne_eq_false_iff_eq, Int.ofNat_eq_natCast, Bool.not_not, not_true_eq_false, not_false_eq_true, reduceCtorEq]; first | done | assumption) | exact RowsZ.same (by assumption) (by first | assumption | rfl) | exact FzL.mk rfl rfl rfl (by assumption) (by first | assumption | rfl) (by decide) | (refine RowsZ.one ?_; cbv))))) trivial ?_
      rintro (_ | ⟨k, m, fp⟩) hinv2 Q2 hN2 hE2 hR2
      · cbv
        (split <;> rename_i hc2 <;> (try (simp only [hbin, hcmp, hun, hconv, hnot, hbeq, hmm, hscmp, hsadd, hslen, hsat, heqs, hofNat, binStd, cmpStd, unStd, scmpStd, maxI, Bool.not_eq_true', Bool.not_eq_false', decide_eq_true_eq, decide_eq_false_iff_not, Int.not_lt, Int.not_le, if_true, if_false, Bool.false_eq_true, beq_iff_eq, bne_iff_ne, ne_eq, Bool.not_eq_eq_eq_not, Bool.not_true, Bool.not_false, beq_eq_false_iff_ne, bne_eq_false_iff_eq, Int.ofNat_eq_natCast, Bool.not_not, not_true_eq_false, not_false_eq_true, reduceCtorEq] at hc2)) <;> (try cbv))
        · obtain ⟨⟨a, b⟩, hd2, hrow2⟩ := get_map (f := pcRow) (ds := ps) (i := 0) (Int.le_refl 0) (by omega)
          have hrow2 : q1[(0 : Int).toNat]? = some [.int .i64 a, .int .i64 b] := by rw [← eq1]; exact hrow2
          refine Idx.mk [.int .i64 a, .int .i64 b] (by decide) hrow2 ?_
          cbv
          refine Ob.mk (by decide) ?_
          cbv
          have hU2 : Up0 [[AV.int .i64 a, .int .i64 b]] := ⟨rfl⟩
          have ei2 : wbin .add .i64 0 1 = 1 := by rw [hbin]; rfl
          refine hN2 (Bd.more 1 1 [[.int .i64 a, .int .i64 b]]) _ _ ?hx ?hi ?ht
          case hx => (refine Wk.eqz (fun j => [0, 1, 2, 3, 4, 6].getD j 0) (by first | exact fun i _ j _ e => e | (simp only [List.length_cons, List.length_nil]; decide)) ?_; cbv; (repeat' (first | exact trivial | rfl | assumption | apply And.intro | (simp only [hbin, hcmp, hun, hconv, hnot, hbeq, hmm, hscmp, hsadd, hslen, hsat, heqs, hofNat, binStd, cmpStd, unStd, scmpStd, maxI, Bool.not_eq_true', Bool.not_eq_false', decide_eq_true_eq, decide_eq_false_iff_not, Int.not_lt, Int.not_le, if_true, if_false, Bool.false_eq_true, beq_iff_eq, bne_iff_ne, ne_eq, Bool.not_eq_eq_eq_not, Bool.not_true, Bool.not_false, beq_eq_false_iff_ne, bne_eq_false_iff_eq, Int.ofNat_eq_natCast, Bool.not_not, not_true_eq_false, not_false_eq_true, reduceCtorEq]; first | done | assumption) | exact RowsZ.same (by assumption) (by first | assumption | rfl) | exact FzL.mk rfl rfl rfl (by assumption) (by first | assumption | rfl) (by decide) | (refine RowsZ.one ?_; cbv))))
          case hi => exact ⟨by decide, by omega, (take_row (Int.le_refl 0) hrow2).symm, rfl, hU2⟩
          case ht => simp only [Bd.left]; omega
        · refine hE2 _ _ _ ?_
          cbv
          have hq0 : q1 = [] := List.length_eq_zero_iff.1 (by omega)
          refine Ob.mk (by decide) ?_
          cbv
          refine hN (Bd.more 1 1 [[.int .i64 len, .list 2 q1, .list 1 n1]]) _ _ ?hx ?hi ?ht
          case hx => (refine Wk.eqz (fun j => [0, 1, 2, 5].getD j 0) (by first | exact fun i _ j _ e => e | (simp only [List.length_cons, List.length_nil]; decide)) ?_; cbv; (repeat' (first | exact trivial | rfl | assumption | exact Eq.symm (by assumption) | apply And.intro | (simp only [hbin, hcmp, hun, hconv, hnot, hbeq, hmm, hscmp, hsadd, hslen, hsat, heqs, hofNat, binStd, cmpStd, unStd, scmpStd, maxI, Bool.not_eq_true', Bool.not_eq_false', decide_eq_true_eq, decide_eq_false_iff_not, Int.not_lt, Int.not_le, if_true, if_false, Bool.false_eq_true, beq_iff_eq, bne_iff_ne, ne_eq, Bool.not_eq_eq_eq_not, Bool.not_true, Bool.not_false, beq_eq_false_iff_ne, bne_eq_false_iff_eq, Int.ofNat_eq_natCast, Bool.not_not, not_true_eq_false, not_false_eq_true, reduceCtorEq]; first | done | assumption) | exact RowsZ.same (by assumption) (by first | assumption | rfl) | exact FzL.mk rfl rfl rfl (by assumption) (by first | assumption | rfl) (by decide) | (refine RowsZ.one ?_; cbv))))
          case hi => exact hI1
          case ht => exact hT1
      · cbv
        obtain ⟨hk0, hk1, hfp, hmf, hup⟩ : 0 < k ∧ k.toNat ≤ q1.length ∧ fp = q1.take k.toNat ∧ m = fp.length ∧ Up0 fp := hinv2
        (split <;> rename_i hc2 <;> (try (simp only [hbin, hcmp, hun, hconv, hnot, hbeq, hmm, hscmp, hsadd, hslen, hsat, heqs, hofNat, binStd, cmpStd, unStd, scmpStd, maxI, Bool.not_eq_true', Bool.not_eq_false', decide_eq_true_eq, decide_eq_false_iff_not, Int.not_lt, Int.not_le, if_true, if_false, Bool.false_eq_true, beq_iff_eq, bne_iff_ne, ne_eq, Bool.not_eq_eq_eq_not, Bool.not_true, Bool.not_false, beq_eq_false_iff_ne, bne_eq_false_iff_eq, Int.ofNat_eq_natCast, Bool.not_not, not_true_eq_false, not_false_eq_true, reduceCtorEq] at hc2)) <;> (try cbv))
        · obtain ⟨⟨a, b⟩, hd2, hrow2⟩ := get_map (f := pcRow) (ds := ps) (i := k) (by omega) (by omega)
          have hrow2 : q1[k.toNat]? = some [.int .i64 a, .int .i64 b] := by rw [← eq1]; exact hrow2
          refine Idx.mk [.int .i64 a, .int .i64 b] (by omega) hrow2 ?_
          cbv
          obtain ⟨k', ek'⟩ : ∃ x, k + 1 = x := ⟨_, rfl⟩
          have ek : wbin .add .i64 k 1 = k' := by rw [hbin, i_add (by omega) (by omega)]; exact ek'
          obtain ⟨fp', efp⟩ : ∃ x, fp ++ [[AV.int .i64 a, .int .i64 b]] = x := ⟨_, rfl⟩
          have hfl2 : fp'.length = m + 1 := by rw [← efp, hmf]; simp
          have hft2 : fp' = q1.take k'.toNat := by rw [← efp, ← ek', take_row (by omega) hrow2, hfp]
          have hup' : Up0 fp' := by rw [hft2]; exact up_take huq _
          obtain ⟨m', em'⟩ : ∃ x, m + 1 = x := ⟨_, rfl⟩
          have hml : m = k.toNat := by rw [hmf, hfp, List.length_take]; omega
          refine App.mk fp' m' efp.symm hmf em'.symm (by omega) (by omega) ?_
          cbv
          refine hN2 (Bd.more k' m' fp') _ _ ?hx ?hi ?ht
          case hx => (refine Wk.eqz (fun j => [0, 1, 2, 3, 4, 7].getD j 0) (by first | exact fun i _ j _ e => e | (simp only [List.length_cons, List.length_nil]; decide)) ?_; cbv; (repeat' (first | exact trivial | rfl | assumption | apply And.intro | (simp only [hbin, hcmp, hun, hconv, hnot, hbeq, hmm, hscmp, hsadd, hslen, hsat, heqs, hofNat, binStd, cmpStd, unStd, scmpStd, maxI, Bool.not_eq_true', Bool.not_eq_false', decide_eq_true_eq, decide_eq_false_iff_not, Int.not_lt, Int.not_le, if_true, if_false, Bool.false_eq_true, beq_iff_eq, bne_iff_ne, ne_eq, Bool.not_eq_eq_eq_not, Bool.not_true, Bool.not_false, beq_eq_false_iff_ne, bne_eq_false_iff_eq, Int.ofNat_eq_natCast, Bool.not_not, not_true_eq_false, not_false_eq_true, reduceCtorEq]; first | done | assumption) | exact RowsZ.same (by assumption) (by first | assumption | rfl) | exact FzL.mk rfl rfl rfl (by assumption) (by first | assumption | rfl) (by decide) | (refine RowsZ.one ?_; cbv))))
          case hi => exact ⟨by omega, by omega, hft2, by omega, hup'⟩
          case ht => simp only [Bd.left]; omega
        · refine hE2 _ _ _ ?_
          cbv
          have hq : fp = q1 := by rw [hfp, List.take_of_length_le (by omega)]
          have hmq : m = q1.length := by rw [hmf, hq]
          clear hfp
          subst fp
          refine Ob.mk (by decide) ?_
          cbv
          refine hN (Bd.more 1 1 [[.int .i64 len, .list 2 q1, .list 1 n1]]) _ _ ?hx ?hi ?ht
          case hx => (refine Wk.eqz (fun j => [0, 1, 2, 6].getD j 0) (by first | exact fun i _ j _ e => e | (simp only [List.length_cons, List.length_nil]; decide)) ?_; cbv; (repeat' (first | exact trivial | rfl | assumption | exact Eq.symm (by assumption) | apply And.intro | (simp only [hbin, hcmp, hun, hconv, hnot, hbeq, hmm, hscmp, hsadd, hslen, hsat, heqs, hofNat, binStd, cmpStd, unStd, scmpStd, maxI, Bool.not_eq_true', Bool.not_eq_false', decide_eq_true_eq, decide_eq_false_iff_not, Int.not_lt, Int.not_le, if_true, if_false, Bool.false_eq_true, beq_iff_eq, bne_iff_ne, ne_eq, Bool.not_eq_eq_eq_not, Bool.not_true, Bool.not_false, beq_eq_false_iff_ne, bne_eq_false_iff_eq, Int.ofNat_eq_natCast, Bool.not_not, not_true_eq_false, not_false_eq_true, reduceCtorEq]; first | done | assumption) | exact RowsZ.same (by assumption) (by first | assumption | rfl) | exact FzL.mk rfl rfl rfl (by assumption) (by first | assumption | rfl) (by decide) | (refine RowsZ.one ?_; cbv))))
          case hi => exact hI1
          case ht => exact hT1
    · refine hE _ _ _ ?_
      cbv
      have he0 : es = [] := List.length_eq_zero_iff.1 (by omega)
      (obtain ⟨J, eJ, J0, Jn⟩ : ∃ L : Int, wlen ds = L ∧ 0 ≤ L ∧ L.toNat = ds.length := ⟨(ds.length : Int), by rw [hlen], Int.natCast_nonneg _, Int.toNat_natCast _⟩)
      refine Loop.data hw (S := Bd) (fun s => match s with | .start => fr 63 [(2, .ref 1 2 0 0), (3, .ref 2 2 0 0), (49, .list 5 ds), (50, .int .i64 J), (51, .int .i64 0)] | .more k m fp => fr 63 [(2, .ref 1 2 0 0), (3, .ref 2 2 0 0), (49, .list 5 ds), (50, .int .i64 J), (51, .int .i64 k)])
        (fun s => match s with | .start => [.live 2 [[.list 3 es, .list 5 ds]], .live 2 [[.nils, .nils]], .live 2 [[.list 3 es, .nils]]] | .more k m fp => [.live 2 [[.list 3 es, .list 5 ds]], .live 2 [[.nils, .nils]], .live 2 [[.list 3 es, .sl 3 5 0 m]], .live 5 fp]) (Bd.Ok ds) (Bd.left ds) .start (by (refine Wk.eqz (id) (by first | exact fun i _ j _ e => e | (simp only [List.length_cons, List.length_nil]; decide)) ?_; cbv; (repeat' (first | exact trivial | rfl | assumption | apply And.intro | (simp only [hbin, hcmp, hun, hconv, hnot, hbeq, hmm, hscmp, hsadd, hslen, hsat, heqs, hofNat, binStd, cmpStd, unStd, scmpStd, maxI, Bool.not_eq_true', Bool.not_eq_false', decide_eq_true_eq, decide_eq_false_iff_not, Int.not_lt, Int.not_le, if_true, if_false, Bool.false_eq_true, beq_iff_eq, bne_iff_ne, ne_eq, Bool.not_eq_eq_eq_not, Bool.not_true, Bool.not_false, beq_eq_false_iff_ne, bne_eq_false_iff_eq, Int.ofNat_eq_natCast, Bool.not_not, not_true_eq_false, not_false_eq_true, reduceCtorEq]; first | done | assumption) | exact RowsZ.same (by assumption) (by first | assumption | rfl) | exact FzL.mk rfl rfl rfl (by assumption) (by first | assumption | rfl) (by decide) | (refine RowsZ.one ?_; cbv))))) trivial ?_
      rintro (_ | ⟨k, m, fp⟩) hinv2 Q2 hN2 hE2 hR2
      · cbv
        (split <;> rename_i hc2 <;> (try (simp only [hbin, hcmp, hun, hconv, hnot, hbeq, hmm, hscmp, hsadd, hslen, hsat, heqs, hofNat, binStd, cmpStd, unStd, scmpStd, maxI, Bool.not_eq_true', Bool.not_eq_false', decide_eq_true_eq, decide_eq_false_iff_not, Int.not_lt, Int.not_le, if_true, if_false, Bool.false_eq_true, beq_iff_eq, bne_iff_ne, ne_eq, Bool.not_eq_eq_eq_not, Bool.not_true, Bool.not_false, beq_eq_false_iff_ne, bne_eq_false_iff_eq, Int.ofNat_eq_natCast, Bool.not_not, not_true_eq_false, not_false_eq_true, reduceCtorEq] at hc2)) <;> (try cbv))
        · obtain ⟨⟨a1, a2, a3, a4, a5⟩, hd2, hrow2⟩ := get_map (f := grRow) (ds := gs) (i := 0) (Int.le_refl 0) (by omega)
          have hrow2 : ds[(0 : Int).toNat]? = some [.int .i64 a1, .int .i64 a2, .int .i64 a3, .int .i64 a4, .int .i64 a5] := by rw [hds]; exact hrow2
          refine Idx.mk [.int .i64 a1, .int .i64 a2, .int .i64 a3, .int .i64 a4, .int .i64 a5] (by decide) hrow2 ?_
          cbv
          refine Ob.mk (by decide) ?_
          cbv
          have hU2 : Up0 [[AV.int .i64 a1, .int .i64 a2, .int .i64 a3, .int .i64 a4, .int .i64 a5]] := ⟨rfl⟩
          have ei2 : wbin .add .i64 0 1 = 1 := by rw [hbin]; rfl
          refine hN2 (Bd.more 1 1 [[.int .i64 a1, .int .i64 a2, .int .i64 a3, .int .i64 a4, .int .i64 a5]]) _ _ ?hx ?hi ?ht
          case hx => (refine Wk.eqz (fun j => [0, 1, 2, 4].getD j 0) (by first | exact fun i _ j _ e => e | (simp only [List.length_cons, List.length_nil]; decide)) ?_; cbv; (repeat' (first | exact trivial | rfl | assumption | apply And.intro | (simp only [hbin, hcmp, hun, hconv, hnot, hbeq, hmm, hscmp, hsadd, hslen, hsat, heqs, hofNat, binStd, cmpStd, unStd, scmpStd, maxI, Bool.not_eq_true', Bool.not_eq_false', decide_eq_true_eq, decide_eq_false_iff_not, Int.not_lt, Int.not_le, if_true, if_false, Bool.false_eq_true, beq_iff_eq, bne_iff_ne, ne_eq, Bool.not_eq_eq_eq_not, Bool.not_true, Bool.not_false, beq_eq_false_iff_ne, bne_eq_false_iff_eq, Int.ofNat_eq_natCast, Bool.not_not, not_true_eq_false, not_false_eq_true, reduceCtorEq]; first | done | assumption) | exact RowsZ.same (by assumption) (by first | assumption | rfl) | exact FzL.mk rfl rfl rfl (by assumption) (by first | assumption | rfl) (by decide) | (refine RowsZ.one ?_; cbv))))
          case hi => exact ⟨by decide, by omega, (take_row (Int.le_refl 0) hrow2).symm, rfl, hU2⟩
          case ht => simp only [Bd.left]; omega
        · refine hE2 _ _ _ ?_
          cbv
          have hd0 : ds = [] := List.length_eq_zero_iff.1 (by omega)
          exact ⟨_, Vw.agg (rs := [.list 3 es, .list 5 []]) ⟨Vw.same hu.list, Vw.nil 5, trivial⟩, hR _ (by rw [hd0])⟩
      · cbv
        obtain ⟨hk0, hk1, hfp, hmf, hup⟩ : 0 < k ∧ k.toNat ≤ ds.length ∧ fp = ds.take k.toNat ∧ m = fp.length ∧ Up0 fp := hinv2
        (split <;> rename_i hc2 <;> (try (simp only [hbin, hcmp, hun, hconv, hnot, hbeq, hmm, hscmp, hsadd, hslen, hsat, heqs, hofNat, binStd, cmpStd, unStd, scmpStd, maxI, Bool.not_eq_true', Bool.not_eq_false', decide_eq_true_eq, decide_eq_false_iff_not, Int.not_lt, Int.not_le, if_true, if_false, Bool.false_eq_true, beq_iff_eq, bne_iff_ne, ne_eq, Bool.not_eq_eq_eq_not, Bool.not_true, Bool.not_false, beq_eq_false_iff_ne, bne_eq_false_iff_eq, Int.ofNat_eq_natCast, Bool.not_not, not_true_eq_false, not_false_eq_true, reduceCtorEq] at hc2)) <;> (try cbv))
        · obtain ⟨⟨a1, a2, a3, a4, a5⟩, hd2, hrow2⟩ := get_map (f := grRow) (ds := gs) (i := k) (by omega) (by omega)
          have hrow2 : ds[k.toNat]? = some [.int .i64 a1, .int .i64 a2, .int .i64 a3, .int .i64 a4, .int .i64 a5] := by rw [hds]; exact hrow2
          refine Idx.mk [.int .i64 a1, .int .i64 a2, .int .i64 a3, .int .i64 a4, .int .i64 a5] (by omega) hrow2 ?_
          cbv
          obtain ⟨k', ek'⟩ : ∃ x, k + 1 = x := ⟨_, rfl⟩
          have ek : wbin .add .i64 k 1 = k' := by rw [hbin, i_add (by omega) (by omega)]; exact ek'
          obtain ⟨fp', efp⟩ : ∃ x, fp ++ [[AV.int .i64 a1, .int .i64 a2, .int .i64 a3, .int .i64 a4, .int .i64 a5]] = x := ⟨_, rfl⟩
          have hfl2 : fp'.length = m + 1 := by rw [← efp, hmf]; simp
          have hft2 : fp' = ds.take k'.toNat := by rw [← efp, ← ek', take_row (by omega) hrow2, hfp]
          have hup' : Up0 fp' := by rw [hft2]; exact up_take hud _
          obtain ⟨m', em'⟩ : ∃ x, m + 1 = x := ⟨_, rfl⟩
          have hml : m = k.toNat := by rw [hmf, hfp, List.length_take]; omega
          refine App.mk fp' m' efp.symm hmf em'.symm (by omega) (by omega) ?_
          cbv
          refine hN2 (Bd.more k' m' fp') _ _ ?hx ?hi ?ht
          case hx => (refine Wk.eqz (fun j => [0, 1, 2, 5].getD j 0) (by first | exact fun i _ j _ e => e | (simp only [List.length_cons, List.length_nil]; decide)) ?_; cbv; (repeat' (first | exact trivial | rfl | assumption | apply And.intro | (simp only [hbin, hcmp, hun, hconv, hnot, hbeq, hmm, hscmp, hsadd, hslen, hsat, heqs, hofNat, binStd, cmpStd, unStd, scmpStd, maxI, Bool.not_eq_true', Bool.not_eq_false', decide_eq_true_eq, decide_eq_false_iff_not, Int.not_lt, Int.not_le, if_true, if_false, Bool.false_eq_true, beq_iff_eq, bne_iff_ne, ne_eq, Bool.not_eq_eq_eq_not, Bool.not_true, Bool.not_false, beq_eq_false_iff_ne, bne_eq_false_iff_eq, Int.ofNat_eq_natCast, Bool.not_not, not_true_eq_false, not_false_eq_true, reduceCtorEq]; first | done | assumption) | exact RowsZ.same (by assumption) (by first | assumption | rfl) | exact FzL.mk rfl rfl rfl (by assumption) (by first | assumption | rfl) (by decide) | (refine RowsZ.one ?_; cbv))))
          case hi => exact ⟨by omega, by omega, hft2, by omega, hup'⟩
          case ht => simp only [Bd.left]; omega
        · refine hE2 _ _ _ ?_
          cbv
          have hq : fp = ds := by rw [hfp, List.take_of_length_le (by omega)]
          refine ⟨_, Vw.agg (rs := [.list 3 es, .list 5 _]) ⟨Vw.same hu.list, Vw.sl rfl hup.get (by omega), trivial⟩, hR _ ?_⟩
          rw [List.drop_zero, List.take_of_length_le (by omega), hq]
  · cbv
    obtain ⟨hi0, hi1, hfs, hnf, huf⟩ : 0 < i ∧ i.toNat ≤ es.length ∧ fs = es.take i.toNat ∧ n = fs.length ∧ Up0 fs := hinv
    (split <;> rename_i hc <;> (try (simp only [hbin, hcmp, hun, hconv, hnot, hbeq, hmm, hscmp, hsadd, hslen, hsat, heqs, hofNat, binStd, cmpStd, unStd, scmpStd, maxI, Bool.not_eq_true', Bool.not_eq_false', decide_eq_true_eq, decide_eq_false_iff_not, Int.not_lt, Int.not_le, if_true, if_false, Bool.false_eq_true, beq_iff_eq, bne_iff_ne, ne_eq, Bool.not_eq_eq_eq_not, Bool.not_true, Bool.not_false, beq_eq_false_iff_ne, bne_eq_false_iff_eq, Int.ofNat_eq_natCast, Bool.not_not, not_true_eq_false, not_false_eq_true, reduceCtorEq] at hc)) <;> (try cbv))
    · obtain ⟨⟨len, ps, nx⟩, hd, hrow⟩ := get_map (f := sgRow) (ds := ss) (i := i) (by omega) (by omega)
      obtain ⟨q1, eq1⟩ : ∃ x, ps.map pcRow = x := ⟨_, rfl⟩
      obtain ⟨n1, en1⟩ : ∃ x, nx.map nxRow = x := ⟨_, rfl⟩
      have hrow : es[i.toNat]? = some [.int .i64 len, .list 2 q1, .list 1 n1] := by rw [hes, ← eq1, ← en1]; exact hrow
      have hql : q1.length = ps.length := by rw [← eq1]; simp
      have hpl : ps.length ≤ 1000 := hm3 ⟨len, ps, nx⟩ (List.mem_of_getElem? hd)
      have huq : Up0 q1 := by rw [← eq1]; exact up_pc ps
      have hun : Up0 n1 := by rw [← en1]; exact up_nx nx
      refine Idx.mk [.int .i64 len, .list 2 q1, .list 1 n1] (by omega) hrow ?_
      cbv
      obtain ⟨i', ei'⟩ : ∃ x, i + 1 = x := ⟨_, rfl⟩
      have ei : wbin .add .i64 i 1 = i' := by rw [hbin, i_add (by omega) (by omega)]; exact ei'
      obtain ⟨fw, efw⟩ : ∃ x, fs ++ [[AV.int .i64 len, .list 2 q1, .list 1 n1]] = x := ⟨_, rfl⟩
      have hfl : fw.length = n + 1 := by rw [← efw, hnf]; simp
      have hft : fw = es.take i'.toNat := by rw [← efw, ← ei', take_row (by omega) hrow, hfs]
      have hufw : Up0 fw := by rw [hft]; exact up_take hu _
      obtain ⟨n', en'⟩ : ∃ x, n + 1 = x := ⟨_, rfl⟩
      have hnl : n = i.toNat := by rw [hnf, hfs, List.length_take]; omega
      have hT1 : Bd.left es (.more i' n' fw) < Bd.left es (.more i n fs) := by simp only [Bd.left]; omega
      have hI1 : Bd.Ok es (.more i' n' fw) := ⟨by omega, by omega, hft, by omega, hufw⟩
      (obtain ⟨K, eK, K0, Kn⟩ : ∃ L : Int, wlen q1 = L ∧ 0 ≤ L ∧ L.toNat = q1.length := ⟨(q1.length : Int), by rw [hlen], Int.natCast_nonneg _, Int.toNat_natCast _⟩)
      refine Loop.data hw (S := Bd) (fun s => match s with | .start => fr 63 [(1, .ref 0 2 0 0), (2, .ref 1 2 0 0), (3, .ref 2 2 0 0), (12, .list 3 es), (13, .int .i64 L), (14, .int .i64 i), (5, .ref 4 3 0 0), (6, .ref 5 3 0 0), (24, .list 2 q1), (25, .int .i64 K), (26, .int .i64 0)] | .more k m fp => fr 63 [(1, .ref 0 2 0 0), (2, .ref 1 2 0 0), (3, .ref 2 2 0 0), (12, .list 3 es), (13, .int .i64 L), (14, .int .i64 i), (5, .ref 4 3 0 0), (6, .ref 5 3 0 0), (24, .list 2 q1), (25, .int .i64 K), (26, .int .i64 k)])
        (fun s => match s with | .start => [.live 2 [[.list 3 es, .list 5 ds]], .live 2 [[.nils, .nils]], .live 2 [[.sl 3 3 0 n, .nils]], .live 3 fs, .live 3 [[.int .i64 len, .list 2 q1, .list 1 n1]], .live 3 [[.int .i64 len, .nils, .list 1 n1]]] | .more k m fp => [.live 2 [[.list 3 es, .list 5 ds]], .live 2 [[.nils, .nils]], .live 2 [[.sl 3 3 0 n, .nils]], .live 3 fs, .live 3 [[.int .i64 len, .list 2 q1, .list 1 n1]], .live 3 [[.int .i64 len, .sl 6 2 0 m, .list 1 n1]], .live 2 fp]) (Bd.Ok q1) (Bd.left q1) .start (by (refine Wk.eqz (id) (by first | exact fun i _ j _ e => e | (simp only [List.length_cons, List.length_nil]; decide)) ?_; cbv; (repeat' (first | exact trivial | rfl | assumption | apply And.intro | (simp only [hbin, hcmp, hun, hconv, hnot, hbeq, hmm, hscmp, hsadd, hslen, hsat, heqs, hofNat, binStd, cmpStd, unStd, scmpStd, maxI, Bool.not_eq_true', Bool.not_eq_false', decide_eq_true_eq, decide_eq_false_iff_not, Int.not_lt, Int.not_le, if_true, if_false, Bool.false_eq_true, beq_iff_eq, bne_iff_ne, ne_eq, Bool.not_eq_eq_eq_not, Bool.not_true, Bool.not_false, beq_eq_false_iff_ne, bne_eq_false_iff_eq, Int.ofNat_eq_natCast, Bool.not_not, not_true_eq_false, not_false_eq_true, reduceCtorEq]; first | done | assumption) | exact RowsZ.same (by assumption) (by first | assumption | rfl) | exact FzL.mk rfl rfl rfl (by assumption) (by first | assumption | rfl) (by decide) | (refine RowsZ.one ?_; cbv))))) trivial ?_
      rintro (_ | ⟨k, m, fp⟩) hinv2 Q2 hN2 hE2 hR2
      · cbv
        (split <;> rename_i hc2 <;> (try (simp only [hbin, hcmp, hun, hconv, hnot, hbeq, hmm, hscmp, hsadd, hslen, hsat, heqs, hofNat, binStd, cmpStd, unStd, scmpStd, maxI, Bool.not_eq_true', Bool.not_eq_false', decide_eq_true_eq, decide_eq_false_iff_not, Int.not_lt, Int.not_le, if_true, if_false, Bool.false_eq_true, beq_iff_eq, bne_iff_ne, ne_eq, Bool.not_eq_eq_eq_not, Bool.not_true, Bool.not_false, beq_eq_false_iff_ne, bne_eq_false_iff_eq, Int.ofNat_eq_natCast, Bool.not_not, not_true_eq_false, not_false_eq_true, reduceCtorEq] at hc2)) <;> (try cbv))
        · obtain ⟨⟨a, b⟩, hd2, hrow2⟩ := get_map (f := pcRow) (ds := ps) (i := 0) (Int.le_refl 0) (by omega)
          have hrow2 : q1[(0 : Int).toNat]? = some [.int .i64 a, .int .i64 b] := by rw [← eq1]; exact hrow2
          refine Idx.mk [.int .i64 a, .int .i64 b] (by decide) hrow2 ?_
          cbv
          refine Ob.mk (by decide) ?_
          cbv
          have hU2 : Up0 [[AV.int .i64 a, .int .i64 b]] := ⟨rfl⟩
          have ei2 : wbin .add .i64 0 1 = 1 := by rw [hbin]; rfl
          refine hN2 (Bd.more 1 1 [[.int .i64 a, .int .i64 b]]) _ _ ?hx ?hi ?ht
          case hx => (refine Wk.eqz (fun j => [0, 1, 2, 3, 4, 5, 7].getD j 0) (by first | exact fun i _ j _ e => e | (simp only [List.length_cons, List.length_nil]; decide)) ?_; cbv; (repeat' (first | exact trivial | rfl | assumption | apply And.intro | (simp only [hbin, hcmp, hun, hconv, hnot, hbeq, hmm, hscmp, hsadd, hslen, hsat, heqs, hofNat, binStd, cmpStd, unStd, scmpStd, maxI, Bool.not_eq_true', Bool.not_eq_false', decide_eq_true_eq, decide_eq_false_iff_not, Int.not_lt, Int.not_le, if_true, if_false, Bool.false_eq_true, beq_iff_eq, bne_iff_ne, ne_eq, Bool.not_eq_eq_eq_not, Bool.not_true, Bool.not_false, beq_eq_false_iff_ne, bne_eq_false_iff_eq, Int.ofNat_eq_natCast, Bool.not_not, not_true_eq_false, not_false_eq_true, reduceCtorEq]; first | done | assumption) | exact RowsZ.same (by assumption) (by first | assumption | rfl) | exact FzL.mk rfl rfl rfl (by assumption) (by first | assumption | rfl) (by decide) | (refine RowsZ.one ?_; cbv))))
          case hi => exact ⟨by decide, by omega, (take_row (Int.le_refl 0) hrow2).symm, rfl, hU2⟩
          case ht => simp only [Bd.left]; omega
        · refine hE2 _ _ _ ?_
          cbv
          have hq0 : q1 = [] := List.length_eq_zero_iff.1 (by omega)
          obtain ⟨fx, efx⟩ : ∃ x, fs ++ [[AV.int .i64 len, .nils, .list 1 n1]] = x := ⟨_, rfl⟩
          refine App.mk fx n' efx.symm hnf en'.symm (by omega) (by omega) ?_
          cbv
          refine hN (Bd.more i' n' fw) _ _ ?hx ?hi ?ht
          case hx => (refine Wk.eqz (fun j => [0, 1, 2, 6].getD j 0) (by first | exact fun i _ j _ e => e | (simp only [List.length_cons, List.length_nil]; decide)) ?_; cbv; (repeat' (first | exact trivial | rfl | assumption | (refine RowsZ.app huf efx.symm efw.symm ?_; cbv) | apply And.intro | (simp only [hbin, hcmp, hun, hconv, hnot, hbeq, hmm, hscmp, hsadd, hslen, hsat, heqs, hofNat, binStd, cmpStd, unStd, scmpStd, maxI, Bool.not_eq_true', Bool.not_eq_false', decide_eq_true_eq, decide_eq_false_iff_not, Int.not_lt, Int.not_le, if_true, if_false, Bool.false_eq_true, beq_iff_eq, bne_iff_ne, ne_eq, Bool.not_eq_eq_eq_not, Bool.not_true, Bool.not_false, beq_eq_false_iff_ne, bne_eq_false_iff_eq, Int.ofNat_eq_natCast, Bool.not_not, not_true_eq_false, not_false_eq_true, reduceCtorEq]; first | done | assumption) | exact RowsZ.same (by assumption) (by first | assumption | rfl) | exact FzL.mk rfl rfl rfl (by assumption) (by first | assumption | rfl) (by decide) | (refine RowsZ.one ?_; cbv))))
          case hi => exact hI1
          case ht => exact hT1
      · cbv
        obtain ⟨hk0, hk1, hfp, hmf, hup⟩ : 0 < k ∧ k.toNat ≤ q1.length ∧ fp = q1.take k.toNat ∧ m = fp.length ∧ Up0 fp := hinv2
        (split <;> rename_i hc2 <;> (try (simp only [hbin, hcmp, hun, hconv, hnot, hbeq, hmm, hscmp, hsadd, hslen, hsat, heqs, hofNat, binStd, cmpStd, unStd, scmpStd, maxI, Bool.not_eq_true', Bool.not_eq_false', decide_eq_true_eq, decide_eq_false_iff_not, Int.not_lt, Int.not_le, if_true, if_false, Bool.false_eq_true, beq_iff_eq, bne_iff_ne, ne_eq, Bool.not_eq_eq_eq_not, Bool.not_true, Bool.not_false, beq_eq_false_iff_ne, bne_eq_false_iff_eq, Int.ofNat_eq_natCast, Bool.not_not, not_true_eq_false, not_false_eq_true, reduceCtorEq] at hc2)) <;> (try cbv))
        · obtain ⟨⟨a, b⟩, hd2, hrow2⟩ := get_map (f := pcRow) (ds := ps) (i := k) (by omega) (by omega)
          have hrow2 : q1[k.toNat]? = some [.int .i64 a, .int .i64 b] := by rw [← eq1]; exact hrow2
          refine Idx.mk [.int .i64 a, .int .i64 b] (by omega) hrow2 ?_
          cbv
          obtain ⟨k', ek'⟩ : ∃ x, k + 1 = x := ⟨_, rfl⟩
          have ek : wbin .add .i64 k 1 = k' := by rw [hbin, i_add (by omega) (by omega)]; exact ek'
          obtain ⟨fp', efp⟩ : ∃ x, fp ++ [[AV.int .i64 a, .int .i64 b]] = x := ⟨_, rfl⟩
          have hfl2 : fp'.length = m + 1 := by rw [← efp, hmf]; simp
          have hft2 : fp' = q1.take k'.toNat := by rw [← efp, ← ek', take_row (by omega) hrow2, hfp]
          have hup' : Up0 fp' := by rw [hft2]; exact up_take huq _
          obtain ⟨m', em'⟩ : ∃ x, m + 1 = x := ⟨_, rfl⟩
          have hml : m = k.toNat := by rw [hmf, hfp, List.length_take]; omega
          refine App.mk fp' m' efp.symm hmf em'.symm (by omega) (by omega) ?_
          cbv
          refine hN2 (Bd.more k' m' fp') _ _ ?hx ?hi ?ht
          case hx => (refine Wk.eqz (fun j => [0, 1, 2, 3, 4, 5, 8].getD j 0) (by first | exact fun i _ j _ e => e | (simp only [List.length_cons, List.length_nil]; decide)) ?_; cbv; (repeat' (first | exact trivial | rfl | assumption | apply And.intro | (simp only [hbin, hcmp, hun, hconv, hnot, hbeq, hmm, hscmp, hsadd, hslen, hsat, heqs, hofNat, binStd, cmpStd, unStd, scmpStd, maxI, Bool.not_eq_true', Bool.not_eq_false', decide_eq_true_eq, decide_eq_false_iff_not, Int.not_lt, Int.not_le, if_true, if_false, Bool.false_eq_true, beq_iff_eq, bne_iff_ne, ne_eq, Bool.not_eq_eq_eq_not, Bool.not_true, Bool.not_false, beq_eq_false_iff_ne, bne_eq_false_iff_eq, Int.ofNat_eq_natCast, Bool.not_not, not_true_eq_false, not_false_eq_true, reduceCtorEq]; first | done | assumption) | exact RowsZ.same (by assumption) (by first | assumption | rfl) | exact FzL.mk rfl rfl rfl (by assumption) (by first | assumption | rfl) (by decide) | (refine RowsZ.one ?_; cbv))))
          case hi => exact ⟨by omega, by omega, hft2, by omega, hup'⟩
          case ht => simp only [Bd.left]; omega
        · refine hE2 _ _ _ ?_
          cbv
          have hq : fp = q1 := by rw [hfp, List.take_of_length_le (by omega)]
          have hmq : m = q1.length := by rw [hmf, hq]
          clear hfp
          subst fp
          obtain ⟨fx, efx⟩ : ∃ x, fs ++ [[AV.int .i64 len, .sl 6 2 0 m, .list 1 n1]] = x := ⟨_, rfl⟩
          refine App.mk fx n' efx.symm hnf en'.symm (by omega) (by omega) ?_
          cbv
          refine hN (Bd.more i' n' fw) _ _ ?hx ?hi ?ht
          case hx => (refine Wk.eqz (fun j => [0, 1, 2, 7].getD j 0) (by first | exact fun i _ j _ e => e | (simp only [List.length_cons, List.length_nil]; decide)) ?_; cbv; (repeat' (first | exact trivial | rfl | assumption | (refine RowsZ.app huf efx.symm efw.symm ?_; cbv) | apply And.intro | (simp only [hbin, hcmp, hun, hconv, hnot, hbeq, hmm, hscmp, hsadd, hslen, hsat, heqs, hofNat, binStd, cmpStd, unStd, scmpStd, maxI, Bool.not_eq_true', Bool.not_eq_false', decide_eq_true_eq, decide_eq_false_iff_not, Int.not_lt, Int.not_le, if_true, if_false, Bool.false_eq_true, beq_iff_eq, bne_iff_ne, ne_eq, Bool.not_eq_eq_eq_not, Bool.not_true, Bool.not_false, beq_eq_false_iff_ne, bne_eq_false_iff_eq, Int.ofNat_eq_natCast, Bool.not_not, not_true_eq_false, not_false_eq_true, reduceCtorEq]; first | done | assumption) | exact RowsZ.same (by assumption) (by first | assumption | rfl) | exact FzL.mk rfl rfl rfl (by assumption) (by first | assumption | rfl) (by decide) | (refine RowsZ.one ?_; cbv))))
          case hi => exact hI1
          case ht => exact hT1
    · refine hE _ _ _ ?_
      cbv
      have hfe : fs = es := by rw [hfs, List.take_of_length_le (by omega)]
      have hne : n = es.length := by rw [hnf, hfe]
      subst hfe
      (obtain ⟨J, eJ, J0, Jn⟩ : ∃ L : Int, wlen ds = L ∧ 0 ≤ L ∧ L.toNat = ds.length := ⟨(ds.length : Int), by rw [hlen], Int.natCast_nonneg _, Int.toNat_natCast _⟩)
      refine Loop.data hw (S := Bd) (fun s => match s with | .start => fr 63 [(2, .ref 1 2 0 0), (3, .ref 2 2 0 0), (49, .list 5 ds), (50, .int .i64 J), (51, .int .i64 0)] | .more k m fp => fr 63 [(2, .ref 1 2 0 0), (3, .ref 2 2 0 0), (49, .list 5 ds), (50, .int .i64 J), (51, .int .i64 k)])
        (fun s => match s with | .start => [.live 2 [[.list 3 fs, .list 5 ds]], .live 2 [[.nils, .nils]], .live 2 [[.list 3 fs, .nils]]] | .more k m fp => [.live 2 [[.list 3 fs, .list 5 ds]], .live 2 [[.nils, .nils]], .live 2 [[.list 3 fs, .sl 3 5 0 m]], .live 5 fp]) (Bd.Ok ds) (Bd.left ds) .start (by (refine Wk.eqz (id) (by first | exact fun i _ j _ e => e | (simp only [List.length_cons, List.length_nil]; decide)) ?_; cbv; (repeat' (first | exact trivial | rfl | assumption | apply And.intro | (simp only [hbin, hcmp, hun, hconv, hnot, hbeq, hmm, hscmp, hsadd, hslen, hsat, heqs, hofNat, binStd, cmpStd, unStd, scmpStd, maxI, Bool.not_eq_true', Bool.not_eq_false', decide_eq_true_eq, decide_eq_false_iff_not, Int.not_lt, Int.not_le, if_true, if_false, Bool.false_eq_true, beq_iff_eq, bne_iff_ne, ne_eq, Bool.not_eq_eq_eq_not, Bool.not_true, Bool.not_false, beq_eq_false_iff_ne, bne_eq_false_iff_eq, Int.ofNat_eq_natCast, Bool.not_not, not_true_eq_false, not_false_eq_true, reduceCtorEq]; first | done | assumption) | exact RowsZ.same (by assumption) (by first | assumption | rfl) | exact FzL.mk rfl rfl rfl (by assumption) (by first | assumption | rfl) (by decide) | (refine RowsZ.one ?_; cbv))))) trivial ?_
      rintro (_ | ⟨k, m, fp⟩) hinv2 Q2 hN2 hE2 hR2
      · cbv
        (split <;> rename_i hc2 <;> (try (simp only [hbin, hcmp, hun, hconv, hnot, hbeq, hmm, hscmp, hsadd, hslen, hsat, heqs, hofNat, binStd, cmpStd, unStd, scmpStd, maxI, Bool.not_eq_true', Bool.not_eq_false', decide_eq_true_eq, decide_eq_false_iff_not, Int.not_lt, Int.not_le, if_true, if_false, Bool.false_eq_true, beq_iff_eq, bne_iff_ne, ne_eq, Bool.not_eq_eq_eq_not, Bool.not_true, Bool.not_false, beq_eq_false_iff_ne, bne_eq_false_iff_eq, Int.ofNat_eq_natCast, Bool.not_not, not_true_eq_false, not_false_eq_true, reduceCtorEq] at hc2)) <;> (try cbv))
        · obtain ⟨⟨a1, a2, a3, a4, a5⟩, hd2, hrow2⟩ := get_map (f := grRow) (ds := gs) (i := 0) (Int.le_refl 0) (by omega)
          have hrow2 : ds[(0 : Int).toNat]? = some [.int .i64 a1, .int .i64 a2, .int .i64 a3, .int .i64 a4, .int .i64 a5] := by rw [hds]; exact hrow2
          refine Idx.mk [.int .i64 a1, .int .i64 a2, .int .i64 a3, .int .i64 a4, .int .i64 a5] (by decide) hrow2 ?_
          cbv
          refine Ob.mk (by decide) ?_
          cbv
          have hU2 : Up0 [[AV.int .i64 a1, .int .i64 a2, .int .i64 a3, .int .i64 a4, .int .i64 a5]] := ⟨rfl⟩
          have ei2 : wbin .add .i64 0 1 = 1 := by rw [hbin]; rfl
          refine hN2 (Bd.more 1 1 [[.int .i64 a1, .int .i64 a2, .int .i64 a3, .int .i64 a4, .int .i64 a5]]) _ _ ?hx ?hi ?ht
          case hx => (refine Wk.eqz (fun j => [0, 1, 2, 4].getD j 0) (by first | exact fun i _ j _ e => e | (simp only [List.length_cons, List.length_nil]; decide)) ?_; cbv; (repeat' (first | exact trivial | rfl | assumption | apply And.intro | (simp only [hbin, hcmp, hun, hconv, hnot, hbeq, hmm, hscmp, hsadd, hslen, hsat, heqs, hofNat, binStd, cmpStd, unStd, scmpStd, maxI, Bool.not_eq_true', Bool.not_eq_false', decide_eq_true_eq, decide_eq_false_iff_not, Int.not_lt, Int.not_le, if_true, if_false, Bool.false_eq_true, beq_iff_eq, bne_iff_ne, ne_eq, Bool.not_eq_eq_eq_not, Bool.not_true, Bool.not_false, beq_eq_false_iff_ne, bne_eq_false_iff_eq, Int.ofNat_eq_natCast, Bool.not_not, not_true_eq_false, not_false_eq_true, reduceCtorEq]; first | done | assumption) | exact RowsZ.same (by assumption) (by first | assumption | rfl) | exact FzL.mk rfl rfl rfl (by assumption) (by first | assumption | rfl) (by decide) | (refine RowsZ.one ?_; cbv))))
          case hi => exact ⟨by decide, by omega, (take_row (Int.le_refl 0) hrow2).symm, rfl, hU2⟩
          case ht => simp only [Bd.left]; omega
        · refine hE2 _ _ _ ?_
          cbv
          have hd0 : ds = [] := List.length_eq_zero_iff.1 (by omega)
          exact ⟨_, Vw.agg (rs := [.list 3 fs, .list 5 []]) ⟨Vw.same hu.list, Vw.nil 5, trivial⟩, hR _ (by rw [hd0])⟩
      · cbv
        obtain ⟨hk0, hk1, hfp, hmf, hup⟩ : 0 < k ∧ k.toNat ≤ ds.length ∧ fp = ds.take k.toNat ∧ m = fp.length ∧ Up0 fp := hinv2
        (split <;> rename_i hc2 <;> (try (simp only [hbin, hcmp, hun, hconv, hnot, hbeq, hmm, hscmp, hsadd, hslen, hsat, heqs, hofNat, binStd, cmpStd, unStd, scmpStd, maxI, Bool.not_eq_true', Bool.not_eq_false', decide_eq_true_eq, decide_eq_false_iff_not, Int.not_lt, Int.not_le, if_true, if_false, Bool.false_eq_true, beq_iff_eq, bne_iff_ne, ne_eq, Bool.not_eq_eq_eq_not, Bool.not_true, Bool.not_false, beq_eq_false_iff_ne, bne_eq_false_iff_eq, Int.ofNat_eq_natCast, Bool.not_not, not_true_eq_false, not_false_eq_true, reduceCtorEq] at hc2)) <;> (try cbv))
        · obtain ⟨⟨a1, a2, a3, a4, a5⟩, hd2, hrow2⟩ := get_map (f := grRow) (ds := gs) (i := k) (by omega) (by omega)
          have hrow2 : ds[k.toNat]? = some [.int .i64 a1, .int .i64 a2, .int .i64 a3, .int .i64 a4, .int .i64 a5] := by rw [hds]; exact hrow2
          refine Idx.mk [.int .i64 a1, .int .i64 a2, .int .i64 a3, .int .i64 a4, .int .i64 a5] (by omega) hrow2 ?_
          cbv
          obtain ⟨k', ek'⟩ : ∃ x, k + 1 = x := ⟨_, rfl⟩
          have ek : wbin .add .i64 k 1 = k' := by rw [hbin, i_add (by omega) (by omega)]; exact ek'
          obtain ⟨fp', efp⟩ : ∃ x, fp ++ [[AV.int .i64 a1, .int .i64 a2, .int .i64 a3, .int .i64 a4, .int .i64 a5]] = x := ⟨_, rfl⟩
          have hfl2 : fp'.length = m + 1 := by rw [← efp, hmf]; simp
          have hft2 : fp' = ds.take k'.toNat := by rw [← efp, ← ek', take_row (by omega) hrow2, hfp]
          have hup' : Up0 fp' := by rw [hft2]; exact up_take hud _
          obtain ⟨m', em'⟩ : ∃ x, m + 1 = x := ⟨_, rfl⟩
          have hml : m = k.toNat := by rw [hmf, hfp, List.length_take]; omega
          refine App.mk fp' m' efp.symm hmf em'.symm (by omega) (by omega) ?_
          cbv
          refine hN2 (Bd.more k' m' fp') _ _ ?hx ?hi ?ht
          case hx => (refine Wk.eqz (fun j => [0, 1, 2, 5].getD j 0) (by first | exact fun i _ j _ e => e | (simp only [List.length_cons, List.length_nil]; decide)) ?_; cbv; (repeat' (first | exact trivial | rfl | assumption | apply And.intro | (simp only [hbin, hcmp, hun, hconv, hnot, hbeq, hmm, hscmp, hsadd, hslen, hsat, heqs, hofNat, binStd, cmpStd, unStd, scmpStd, maxI, Bool.not_eq_true', Bool.not_eq_false', decide_eq_true_eq, decide_eq_false_iff_not, Int.not_lt, Int.not_le, if_true, if_false, Bool.false_eq_true, beq_iff_eq, bne_iff_ne, ne_eq, Bool.not_eq_eq_eq_not, Bool.not_true, Bool.not_false, beq_eq_false_iff_ne, bne_eq_false_iff_eq, Int.ofNat_eq_natCast, Bool.not_not, not_true_eq_false, not_false_eq_true, reduceCtorEq]; first | done | assumption) | exact RowsZ.same (by assumption) (by first | assumption | rfl) | exact FzL.mk rfl rfl rfl (by assumption) (by first | assumption | rfl) (by decide) | (refine RowsZ.one ?_; cbv))))
          case hi => exact ⟨by omega, by omega, hft2, by omega, hup'⟩
          case ht => simp only [Bd.left]; omega
        · refine hE2 _ _ _ ?_
          cbv
          have hq : fp = ds := by rw [hfp, List.take_of_length_le (by omega)]
          refine ⟨_, Vw.agg (rs := [.list 3 fs, .list 5 _]) ⟨Vw.same hu.list, Vw.sl rfl hup.get (by omega), trivial⟩, hR _ ?_⟩
          rw [List.drop_zero, List.take_of_length_le (by omega), hq]
end Go.Proofs.Ytjfbecnappgjjaa

/- Arguments that say less: a nil slice is a list of none. -/
set_option linter.unusedVariables false
namespace Go.Eng
open Go Go.RowKit
mutual
def leB : AV → AV → Bool
  | .int k a, y => (match y with | .int k' b => decide (k = k') && decide (a = b) | _ => false)
  | .bool a, y => (match y with | .bool b => a == b | _ => false)
  | .nils, y => (match y with | .nils => true | .list _ es => es.isEmpty | _ => false)
  | .nilp, y => (match y with | .nilp => true | _ => false)
  | .agg cs, y => (match y with | .agg ds => leL cs ds | _ => false)
  | .list z es, y => (match y with | .list z' fs => Nat.beq z z' && leLL es fs | _ => false)
  | _, _ => false
def leL : List AV → List AV → Bool
  | [], y => (match y with | [] => true | _ => false)
  | c :: cs, y => (match y with | d :: ds => leB c d && leL cs ds | _ => false)
def leLL : List (List AV) → List (List AV) → Bool
  | [], y => (match y with | [] => true | _ => false)
  | c :: cs, y => (match y with | d :: ds => leL c d && leLL cs ds | _ => false)
end
def VLe (x y : AV) : Prop := ∀ C v, VR C x v → VR C y v
mutual
theorem leB_ok : ∀ (x y : AV), leB x y = true → VLe x y
  | .int k a, y, h => by
    unfold leB at h
    split at h
    · simp only [Bool.and_eq_true, decide_eq_true_eq] at h
      obtain ⟨rfl, rfl⟩ := h
      exact fun C v h => h
    · cases h
  | .bool a, y, h => by
    unfold leB at h
    split at h
    · simp only [beq_iff_eq] at h
      subst h
      exact fun C v h => h
    · cases h
  | .nils, y, h => by
    unfold leB at h
    split at h
    · exact fun C v h => h
    · rename_i z es
      have : es = [] := List.isEmpty_iff.1 h
      subst this
      intro C v hv
      rw [hv.nils']
      exact .listNil _ _ _
    · cases h
  | .nilp, y, h => by
    unfold leB at h
    split at h
    · exact fun C v h => h
    · cases h
  | .agg cs, y, h => by
    unfold leB at h
    split at h
    · rename_i ds
      intro C v hv
      obtain ⟨vs, rfl, hl, hx⟩ := hv.agg'
      obtain ⟨h1, h2⟩ := leL_ok cs ds h
      refine .agg _ _ (by rw [hl, h1]) fun i y hy => ?_
      obtain ⟨x, hx', hle⟩ := h2 i y hy
      exact hle C _ (hx i x hx')
    · cases h
  | .list z es, y, h => by
    unfold leB at h
    split at h
    · rename_i z' fs
      simp only [Bool.and_eq_true] at h
      have := Nat.eq_of_beq_eq_true h.1
      subst this
      obtain ⟨h1, h2⟩ := leLL_ok es fs h.2
      intro C v hv
      rcases hv.lists with ⟨⟨a, cap, rfl⟩, rfl⟩ | ⟨a, cap, f, rfl, hcap, hsp, hz, hcell, hown, hv⟩
      · have : fs = [] := List.length_eq_zero_iff.1 h1.symm
        subst this
        exact .listNil _ _ _
      · refine .list z fs a es.length cap f h1.symm hcap hsp (fun e he => ?_) hcell hown fun i e he j x hx => ?_
        · obtain ⟨i, hi⟩ := List.mem_iff_getElem?.1 he
          obtain ⟨r, hr, hl, _⟩ := h2 i e hi
          rw [← hl]; exact hz r (List.mem_of_getElem? hr)
        · obtain ⟨r, hr, hl, hle⟩ := h2 i e he
          obtain ⟨x', hx', hle'⟩ := hle j x hx
          exact hle' C _ (hv i r hr j x' hx')
    · cases h
  | .any, y, h => by unfold leB at h; cases h
  | .str _, y, h => by unfold leB at h; cases h
  | .nilFunc, y, h => by unfold leB at h; cases h
  | .nilIface, y, h => by unfold leB at h; cases h
  | .tuple _, y, h => by unfold leB at h; cases h
  | .sl _ _ _ _, y, h => by unfold leB at h; cases h
  | .ref _ _ _ _, y, h => by unfold leB at h; cases h
  | .cref _, y, h => by unfold leB at h; cases h
  | .mapr _, y, h => by unfold leB at h; cases h
  | .func _ _ _, y, h => by unfold leB at h; cases h
  | .iface _ _, y, h => by unfold leB at h; cases h
theorem leL_ok : ∀ (xs ys : List AV), leL xs ys = true → xs.length = ys.length ∧ ∀ (i : Nat) (y : AV), ys[i]? = some y → ∃ x, xs[i]? = some x ∧ VLe x y
  | [], y, h => by
    unfold leL at h
    split at h
    · exact ⟨rfl, fun i y hy => by simp at hy⟩
    · cases h
  | c :: cs, y, h => by
    unfold leL at h
    split at h
    · rename_i d ds
      simp only [Bool.and_eq_true] at h
      obtain ⟨h1, h2⟩ := leL_ok cs ds h.2
      refine ⟨by simp [h1], fun i y hy => ?_⟩
      cases i with
      | zero => simp at hy; subst hy; exact ⟨c, rfl, leB_ok c d h.1⟩
      | succ i => simpa using h2 i y (by simpa using hy)
    · cases h
theorem leLL_ok : ∀ (xs ys : List (List AV)), leLL xs ys = true → xs.length = ys.length ∧ ∀ (i : Nat) (y : List AV), ys[i]? = some y → ∃ x, xs[i]? = some x ∧ x.length = y.length ∧ ∀ (j : Nat) (b : AV), y[j]? = some b → ∃ a, x[j]? = some a ∧ VLe a b
  | [], y, h => by
    unfold leLL at h
    split at h
    · exact ⟨rfl, fun i y hy => by simp at hy⟩
    · cases h
  | c :: cs, y, h => by
    unfold leLL at h
    split at h
    · rename_i d ds
      simp only [Bool.and_eq_true] at h
      obtain ⟨h1, h2⟩ := leLL_ok cs ds h.2
      obtain ⟨k1, k2⟩ := leL_ok c d h.1
      refine ⟨by simp [h1], fun i y hy => ?_⟩
      cases i with
      | zero => simp at hy; subst hy; exact ⟨c, rfl, k1, k2⟩
      | succ i => simpa using h2 i y (by simpa using hy)
    · cases h
end
theorem PCalls.le {P : Program} {g : FuncId} {args args' : List AV} {R : AV → Prop} (H : PCalls P g args' R) (hl : leL args args' = true) : PCalls P g args R := by
  obtain ⟨h1, h2⟩ := leL_ok args args' hl
  refine ⟨H.1, fun C vs hC RC hv => H.2 C vs hC RC ⟨by rw [hv.1, h1], fun i y hy => ?_⟩⟩
  obtain ⟨x, hx, hle⟩ := h2 i y hy
  exact hle C _ (hv.2 i x hx)
end Go.Eng

