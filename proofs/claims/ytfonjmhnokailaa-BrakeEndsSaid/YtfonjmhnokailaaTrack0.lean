/- A track: segments, pieces, groups. -/
import Derived.Test.YtfonjmhnokailaaBuild0
set_option linter.unusedVariables false
namespace Go.Proofs.Ytfonjmhnokailaa
open Go Go.RowKit Go.Eng
/-- A segment. -/
structure Sg where
  len : Int
  ps : List (Int × Int)
  nx : List Int
/-- A group. -/
structure Gr where
  id : Int
  seg : Int
  off : Int
  acc : Int
  sl : Int
def pcRow (p : Int × Int) : List AV := [.int .i64 p.1, .int .i64 p.2]
def nxRow (n : Int) : List AV := [.int .i64 n]
def sgRow (s : Sg) : List AV := [.int .i64 s.len, .list 2 (s.ps.map pcRow), .list 1 (s.nx.map nxRow)]
def grRow (g : Gr) : List AV := [.int .i64 g.id, .int .i64 g.seg, .int .i64 g.off, .int .i64 g.acc, .int .i64 g.sl]
theorem up_segRow {len : Int} {q n : List (List AV)} (hq : Up0 q) (hn : Up0 n) : uptoL 0 [.int .i64 len, .list 2 q, .list 1 n] = true :=
  Bool.and_eq_true_iff.mpr ⟨rfl, Up0.one hq (Up0.one hn rfl)⟩
theorem up_seg {len : Int} {q n : List (List AV)} (hq : Up0 q) (hn : Up0 n) : Up0 [[.int .i64 len, .list 2 q, .list 1 n]] :=
  ⟨Bool.and_eq_true_iff.mpr ⟨up_segRow hq hn, rfl⟩⟩
theorem up_pc (ps : List (Int × Int)) : Up0 (ps.map pcRow) := up_map (f := pcRow) (fun d => rfl) ps
theorem up_nx (ns : List Int) : Up0 (ns.map nxRow) := up_map (f := nxRow) (fun d => rfl) ns
theorem up_gr (gs : List Gr) : Up0 (gs.map grRow) := up_map (f := grRow) (fun d => rfl) gs
theorem up_sg (ss : List Sg) : Up0 (ss.map sgRow) := up_map (f := sgRow) (fun s => up_segRow (up_pc s.ps) (up_nx s.nx)) ss
end Go.Proofs.Ytfonjmhnokailaa
