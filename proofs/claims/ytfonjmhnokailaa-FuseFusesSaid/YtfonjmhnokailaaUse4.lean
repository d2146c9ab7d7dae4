/- Votes, by the engine. -/
import Derived.Test.YtfonjmhnokailaaUse2
import Derived.KernelRfl
set_option linter.unusedVariables false
set_option linter.unusedSimpArgs false
namespace Go.Proofs.Ytfonjmhnokailaa
open Go Go.RowKit Go.Eng
set_option maxRecDepth 100000
theorem cap_ok {n : Nat} {i : Int} {ps : List (Int × Int)} (h0 : 0 ≤ i) (h1 : i ≤ ps.length) (h2 : ps.length ≤ 1000) (h3 : n = i.toNat) : (n + 1) * 16 ≤ 140737488355328 := by omega
theorem take_sp {ps : List (Int × Int)} {i l u : Int} (h0 : 0 ≤ i) (hp : ps[i.toNat]? = some (l, u)) : spRows (ps.take (i + 1).toNat) = spRows (ps.take i.toNat) ++ [[.int .i64 l, .int .i64 u]] := by
  rw [show (i + 1).toNat = i.toNat + 1 by omega, List.take_add_one, hp]
  simp [spRows, spRow]
end Go.Proofs.Ytfonjmhnokailaa
