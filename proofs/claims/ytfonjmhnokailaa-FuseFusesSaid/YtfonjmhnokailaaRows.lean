/-
  No cell of these rows narrows 'for every input' (looked for: loops, veiled, ifaces, maps, wideKeys, modest, calm, conditions, laid).
  DERIVED. THE GIVEN ROWS OF THIS SEAT. 3 by the template 'for every input the law returns true; each argument reads behind the call as it read before'; 0 by the template 'total and deterministic' (their statements: YtfonjmhnokailaaTotals.lean).
  GIVEN WITH THE SEED: the statements are not yours to turn. If you find one false, say at which input.
  Laid BY PROGRAM, IN A SANDBOX (cutbox-rows.mjs): the forced cells as the released guide's own fill.sh prints them over the translation 50393ab36d126bd3… (all of the seat's roots in one cut). By AI agents, Wed Nov 11 2026. No macro, syntax, notation, axiom, sorry.
-/
import Derived.Test.YtfonjmhnokailaaChecked
import GoSem.Claim
import GoSem.ClaimJoined
import GoSem.ClaimMapViews
import Derived.JoinedTies
import Derived.KernelRfl
namespace Go.Proofs.Ytfonjmhnokailaa
/- THE CELL 'sum', in the pinned program and in every row, IS THE sha256 OF THE DUMP (.gsa) THAT YtfonjmhnokailaaProg.lean LOADS. Nothing in Lean hashes anything: it is a label: what it is worth is what the hold of that sum in a sandbox is worth. -/
noncomputable def Try.pinned : Pinned := { name := "ytfonjmhnokailaa", sum := "50393ab36d126bd38c5eaf4b7a2c66af6c59f30f0efea70926277b7553a04cd4", checked := Try.checked }
namespace Rows
def none {H : Type} : Left H := { results := [], args := [] }

/-- 'odographlaw22.BrakeEnds': WHATEVER THE INPUT: true; the input reads as it did. -/
def brakeEndsSpec : ChangeSpec := { name := "brakeEnds", fn := fun _ => fun
  | [d] => { results := [.lit (.bool true)], args := [d] }
  | _ => none }
def brakeEndsRow : OpenClaim := { program := "ytfonjmhnokailaa", sum := "50393ab36d126bd38c5eaf4b7a2c66af6c59f30f0efea70926277b7553a04cd4", func := "odograph/odographlaw22.BrakeEnds", spec := "brakeEnds", apart := false }
def BrakeEndsSaid : Prop := brakeEndsRow.holds Try.pinned (OpenSpec.ofChange brakeEndsSpec)

/-- ITS FALSE NEIGHBOUR: 'it returns false'. Refute it at one input. -/
def brakeEndsWrong : ChangeSpec := { name := "brakeEnds", fn := fun _ => fun
  | [d] => { results := [.lit (.bool false)], args := [d] }
  | _ => none }
def BrakeEndsWrongFalsely : Prop := brakeEndsRow.holds Try.pinned (OpenSpec.ofChange brakeEndsWrong)

/-- 'odographlaw17.FuseFuses': WHATEVER THE INPUT: true; the input reads as it did. -/
def fuseFusesSpec : ChangeSpec := { name := "fuseFuses", fn := fun _ => fun
  | [d1, d2, d3] => { results := [.lit (.bool true)], args := [d1, d2, d3] }
  | _ => none }
def fuseFusesRow : OpenClaim := { program := "ytfonjmhnokailaa", sum := "50393ab36d126bd38c5eaf4b7a2c66af6c59f30f0efea70926277b7553a04cd4", func := "odograph/odographlaw17.FuseFuses", spec := "fuseFuses", apart := false }
def FuseFusesSaid : Prop := fuseFusesRow.holds Try.pinned (OpenSpec.ofChange fuseFusesSpec)

/-- ITS FALSE NEIGHBOUR: 'it returns false'. Refute it at one input. -/
def fuseFusesWrong : ChangeSpec := { name := "fuseFuses", fn := fun _ => fun
  | [d1, d2, d3] => { results := [.lit (.bool false)], args := [d1, d2, d3] }
  | _ => none }
def FuseFusesWrongFalsely : Prop := fuseFusesRow.holds Try.pinned (OpenSpec.ofChange fuseFusesWrong)

/-- 'odographlaw17.FuseTrue': WHATEVER THE INPUT: true; the input reads as it did. -/
def fuseTrueSpec : ChangeSpec := { name := "fuseTrue", fn := fun _ => fun
  | [d1, d2, d3, d4] => { results := [.lit (.bool true)], args := [d1, d2, d3, d4] }
  | _ => none }
def fuseTrueRow : OpenClaim := { program := "ytfonjmhnokailaa", sum := "50393ab36d126bd38c5eaf4b7a2c66af6c59f30f0efea70926277b7553a04cd4", func := "odograph/odographlaw17.FuseTrue", spec := "fuseTrue", apart := false }
def FuseTrueSaid : Prop := fuseTrueRow.holds Try.pinned (OpenSpec.ofChange fuseTrueSpec)

/-- ITS FALSE NEIGHBOUR: 'it returns false'. Refute it at one input. -/
def fuseTrueWrong : ChangeSpec := { name := "fuseTrue", fn := fun _ => fun
  | [d1, d2, d3, d4] => { results := [.lit (.bool false)], args := [d1, d2, d3, d4] }
  | _ => none }
def FuseTrueWrongFalsely : Prop := fuseTrueRow.holds Try.pinned (OpenSpec.ofChange fuseTrueWrong)

/- THE SECOND FORM. 'bulk': how many values and letters a reading holds, each counted each time it is reached (what is shared counts as often as it is met; a slice's spare places count too). A statement '..UptoSaid' is the law's where the arguments, and the package variables that the reading takes, are together of bulk at most 1048576: NARROWER than '..Said'. Prove '..Said' where nothing that the law and all that it calls make is longer than what came in: it says more and counts as full. Else prove '..UptoSaid'. A law counts once. -/
mutual
def uptoBulk {H : Type} : DataW H → Nat
  | .lit (.string bytes) => bytes.length + 1
  | .lit _ => 1
  | .nil => 1
  | .ptr d => uptoBulk d + 1
  | .slice elems spare => uptoBulkAll elems + uptoBulkAll spare + 1
  | .agg parts => uptoBulkAll parts + 1
  | .iface _ d => uptoBulk d + 1
  | .map entries => uptoBulkEntries entries + 1
  | .held _ => 1
def uptoBulkAll {H : Type} : List (DataW H) → Nat
  | [] => 0
  | d :: r => uptoBulk d + uptoBulkAll r
def uptoBulkEntries {H : Type} : List (Lit × DataW H) → Nat
  | [] => 0
  | x :: r => uptoBulkEntry x + uptoBulkEntries r
def uptoBulkEntry {H : Type} : Lit × DataW H → Nat
  | (.string bytes, d) => bytes.length + uptoBulk d + 1
  | (_, d) => uptoBulk d + 1
 end
def uptoSmall : (H : Type) → List (DataW H) → Bool := fun _ ds => decide (uptoBulkAll ds ≤ 1048576)
def OpenSpec.upto (s : _root_.Go.ChangeSpec) : _root_.Go.OpenSpec := { _root_.Go.OpenSpec.ofChange s with cond := some uptoSmall }

/-- 'odographlaw22.BrakeEnds', WHERE WHAT IT READS IS OF BULK AT MOST 1048576: true; the input reads as it did. -/
def brakeEndsUptoRow : OpenClaim := { program := "ytfonjmhnokailaa", sum := "50393ab36d126bd38c5eaf4b7a2c66af6c59f30f0efea70926277b7553a04cd4", func := "odograph/odographlaw22.BrakeEnds", spec := "brakeEnds", apart := false, narrowed := true }
def BrakeEndsUptoSaid : Prop := brakeEndsUptoRow.holds Try.pinned (OpenSpec.upto brakeEndsSpec)

/-- 'odographlaw17.FuseFuses', WHERE WHAT IT READS IS OF BULK AT MOST 1048576: true; the input reads as it did. -/
def fuseFusesUptoRow : OpenClaim := { program := "ytfonjmhnokailaa", sum := "50393ab36d126bd38c5eaf4b7a2c66af6c59f30f0efea70926277b7553a04cd4", func := "odograph/odographlaw17.FuseFuses", spec := "fuseFuses", apart := false, narrowed := true }
def FuseFusesUptoSaid : Prop := fuseFusesUptoRow.holds Try.pinned (OpenSpec.upto fuseFusesSpec)

/-- 'odographlaw17.FuseTrue', WHERE WHAT IT READS IS OF BULK AT MOST 1048576: true; the input reads as it did. -/
def fuseTrueUptoRow : OpenClaim := { program := "ytfonjmhnokailaa", sum := "50393ab36d126bd38c5eaf4b7a2c66af6c59f30f0efea70926277b7553a04cd4", func := "odograph/odographlaw17.FuseTrue", spec := "fuseTrue", apart := false, narrowed := true }
def FuseTrueUptoSaid : Prop := fuseTrueUptoRow.holds Try.pinned (OpenSpec.upto fuseTrueSpec)

end Rows
end Go.Proofs.Ytfonjmhnokailaa
