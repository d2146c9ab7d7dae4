/-
  No cell of these rows narrows 'for every input' (looked for: loops, veiled, ifaces, maps, wideKeys, modest, calm, conditions, laid).
  DERIVED. THE GIVEN ROWS OF THIS SEAT. 10 by the template 'for every input the law returns true; each argument reads behind the call as it read before'; 0 by the template 'total and deterministic' (their statements: YtbagikhoinggjaaTotals.lean).
  GIVEN WITH THE SEED: the statements are not yours to turn. If you find one false, say at which input.
  Laid BY PROGRAM, IN A SANDBOX (cutbox-rows.mjs): the forced cells as the released guide's own fill.sh prints them over the translation e3512a181d516411… (all of the seat's roots in one cut). By AI agents, Wed Nov 11 2026. No macro, syntax, notation, axiom, sorry.
-/
import Derived.Test.YtbagikhoinggjaaChecked
import GoSem.Claim
import GoSem.ClaimJoined
import GoSem.ClaimMapViews
import Derived.JoinedTies
import Derived.KernelRfl
namespace Go.Proofs.Ytbagikhoinggjaa
/- THE CELL 'sum', in the pinned program and in every row, IS THE sha256 OF THE DUMP (.gsa) THAT YtbagikhoinggjaaProg.lean LOADS. Nothing in Lean hashes anything: it is a label: what it is worth is what the hold of that sum in a sandbox is worth. -/
noncomputable def Try.pinned : Pinned := { name := "ytbagikhoinggjaa", sum := "e3512a181d516411fdbc1273fc1224265ea2d93e63a117db392022c0cee4f1e9", checked := Try.checked }
namespace Rows
def none {H : Type} : Left H := { results := [], args := [] }

/-- 'odographlaw22.BrakePermits': WHATEVER THE INPUT: true; the input reads as it did. -/
def brakePermitsSpec : ChangeSpec := { name := "brakePermits", fn := fun _ => fun
  | [d1, d2] => { results := [.lit (.bool true)], args := [d1, d2] }
  | _ => none }
def brakePermitsRow : OpenClaim := { program := "ytbagikhoinggjaa", sum := "e3512a181d516411fdbc1273fc1224265ea2d93e63a117db392022c0cee4f1e9", func := "odograph/odographlaw22.BrakePermits", spec := "brakePermits", apart := false }
def BrakePermitsSaid : Prop := brakePermitsRow.holds Try.pinned (OpenSpec.ofChange brakePermitsSpec)

/-- ITS FALSE NEIGHBOUR: 'it returns false'. Refute it at one input. -/
def brakePermitsWrong : ChangeSpec := { name := "brakePermits", fn := fun _ => fun
  | [d1, d2] => { results := [.lit (.bool false)], args := [d1, d2] }
  | _ => none }
def BrakePermitsWrongFalsely : Prop := brakePermitsRow.holds Try.pinned (OpenSpec.ofChange brakePermitsWrong)

/-- 'odographlaw22.BrakeStops': WHATEVER THE INPUT: true; the input reads as it did. -/
def brakeStopsSpec : ChangeSpec := { name := "brakeStops", fn := fun _ => fun
  | [d1, d2, d3] => { results := [.lit (.bool true)], args := [d1, d2, d3] }
  | _ => none }
def brakeStopsRow : OpenClaim := { program := "ytbagikhoinggjaa", sum := "e3512a181d516411fdbc1273fc1224265ea2d93e63a117db392022c0cee4f1e9", func := "odograph/odographlaw22.BrakeStops", spec := "brakeStops", apart := false }
def BrakeStopsSaid : Prop := brakeStopsRow.holds Try.pinned (OpenSpec.ofChange brakeStopsSpec)

/-- ITS FALSE NEIGHBOUR: 'it returns false'. Refute it at one input. -/
def brakeStopsWrong : ChangeSpec := { name := "brakeStops", fn := fun _ => fun
  | [d1, d2, d3] => { results := [.lit (.bool false)], args := [d1, d2, d3] }
  | _ => none }
def BrakeStopsWrongFalsely : Prop := brakeStopsRow.holds Try.pinned (OpenSpec.ofChange brakeStopsWrong)

/-- 'odographlaw22.BrakeMore': WHATEVER THE INPUT: true; the input reads as it did. -/
def brakeMoreSpec : ChangeSpec := { name := "brakeMore", fn := fun _ => fun
  | [d1, d2, d3, d4] => { results := [.lit (.bool true)], args := [d1, d2, d3, d4] }
  | _ => none }
def brakeMoreRow : OpenClaim := { program := "ytbagikhoinggjaa", sum := "e3512a181d516411fdbc1273fc1224265ea2d93e63a117db392022c0cee4f1e9", func := "odograph/odographlaw22.BrakeMore", spec := "brakeMore", apart := false }
def BrakeMoreSaid : Prop := brakeMoreRow.holds Try.pinned (OpenSpec.ofChange brakeMoreSpec)

/-- ITS FALSE NEIGHBOUR: 'it returns false'. Refute it at one input. -/
def brakeMoreWrong : ChangeSpec := { name := "brakeMore", fn := fun _ => fun
  | [d1, d2, d3, d4] => { results := [.lit (.bool false)], args := [d1, d2, d3, d4] }
  | _ => none }
def BrakeMoreWrongFalsely : Prop := brakeMoreRow.holds Try.pinned (OpenSpec.ofChange brakeMoreWrong)

/-- 'odographlaw22.BrakeEnds': WHATEVER THE INPUT: true; the input reads as it did. -/
def brakeEndsSpec : ChangeSpec := { name := "brakeEnds", fn := fun _ => fun
  | [d] => { results := [.lit (.bool true)], args := [d] }
  | _ => none }
def brakeEndsRow : OpenClaim := { program := "ytbagikhoinggjaa", sum := "e3512a181d516411fdbc1273fc1224265ea2d93e63a117db392022c0cee4f1e9", func := "odograph/odographlaw22.BrakeEnds", spec := "brakeEnds", apart := false }
def BrakeEndsSaid : Prop := brakeEndsRow.holds Try.pinned (OpenSpec.ofChange brakeEndsSpec)

/-- ITS FALSE NEIGHBOUR: 'it returns false'. Refute it at one input. -/
def brakeEndsWrong : ChangeSpec := { name := "brakeEnds", fn := fun _ => fun
  | [d] => { results := [.lit (.bool false)], args := [d] }
  | _ => none }
def BrakeEndsWrongFalsely : Prop := brakeEndsRow.holds Try.pinned (OpenSpec.ofChange brakeEndsWrong)

/-- 'odographlaw17.FuseFuses': WHATEVER THE INPUT: true; the input reads as it did. -/
def fuseFusesSpec : ChangeSpec := { name := "fuseFuses", fn := fun _ => fun
  | [d1, d2, d3] => { results := [.lit (.bool true)], args := [d1, d2, d3] }
  | _ => none }
def fuseFusesRow : OpenClaim := { program := "ytbagikhoinggjaa", sum := "e3512a181d516411fdbc1273fc1224265ea2d93e63a117db392022c0cee4f1e9", func := "odograph/odographlaw17.FuseFuses", spec := "fuseFuses", apart := false }
def FuseFusesSaid : Prop := fuseFusesRow.holds Try.pinned (OpenSpec.ofChange fuseFusesSpec)

/-- ITS FALSE NEIGHBOUR: 'it returns false'. Refute it at one input. -/
def fuseFusesWrong : ChangeSpec := { name := "fuseFuses", fn := fun _ => fun
  | [d1, d2, d3] => { results := [.lit (.bool false)], args := [d1, d2, d3] }
  | _ => none }
def FuseFusesWrongFalsely : Prop := fuseFusesRow.holds Try.pinned (OpenSpec.ofChange fuseFusesWrong)

/-- 'odographlaw17.FuseInside': WHATEVER THE INPUT: true; the input reads as it did. -/
def fuseInsideSpec : ChangeSpec := { name := "fuseInside", fn := fun _ => fun
  | [d1, d2, d3] => { results := [.lit (.bool true)], args := [d1, d2, d3] }
  | _ => none }
def fuseInsideRow : OpenClaim := { program := "ytbagikhoinggjaa", sum := "e3512a181d516411fdbc1273fc1224265ea2d93e63a117db392022c0cee4f1e9", func := "odograph/odographlaw17.FuseInside", spec := "fuseInside", apart := false }
def FuseInsideSaid : Prop := fuseInsideRow.holds Try.pinned (OpenSpec.ofChange fuseInsideSpec)

/-- ITS FALSE NEIGHBOUR: 'it returns false'. Refute it at one input. -/
def fuseInsideWrong : ChangeSpec := { name := "fuseInside", fn := fun _ => fun
  | [d1, d2, d3] => { results := [.lit (.bool false)], args := [d1, d2, d3] }
  | _ => none }
def FuseInsideWrongFalsely : Prop := fuseInsideRow.holds Try.pinned (OpenSpec.ofChange fuseInsideWrong)

/-- 'odographlaw17.FuseTwins': WHATEVER THE INPUT: true; the input reads as it did. -/
def fuseTwinsSpec : ChangeSpec := { name := "fuseTwins", fn := fun _ => fun
  | [d1, d2, d3] => { results := [.lit (.bool true)], args := [d1, d2, d3] }
  | _ => none }
def fuseTwinsRow : OpenClaim := { program := "ytbagikhoinggjaa", sum := "e3512a181d516411fdbc1273fc1224265ea2d93e63a117db392022c0cee4f1e9", func := "odograph/odographlaw17.FuseTwins", spec := "fuseTwins", apart := false }
def FuseTwinsSaid : Prop := fuseTwinsRow.holds Try.pinned (OpenSpec.ofChange fuseTwinsSpec)

/-- ITS FALSE NEIGHBOUR: 'it returns false'. Refute it at one input. -/
def fuseTwinsWrong : ChangeSpec := { name := "fuseTwins", fn := fun _ => fun
  | [d1, d2, d3] => { results := [.lit (.bool false)], args := [d1, d2, d3] }
  | _ => none }
def FuseTwinsWrongFalsely : Prop := fuseTwinsRow.holds Try.pinned (OpenSpec.ofChange fuseTwinsWrong)

/-- 'odographlaw17.FuseTrue': WHATEVER THE INPUT: true; the input reads as it did. -/
def fuseTrueSpec : ChangeSpec := { name := "fuseTrue", fn := fun _ => fun
  | [d1, d2, d3, d4] => { results := [.lit (.bool true)], args := [d1, d2, d3, d4] }
  | _ => none }
def fuseTrueRow : OpenClaim := { program := "ytbagikhoinggjaa", sum := "e3512a181d516411fdbc1273fc1224265ea2d93e63a117db392022c0cee4f1e9", func := "odograph/odographlaw17.FuseTrue", spec := "fuseTrue", apart := false }
def FuseTrueSaid : Prop := fuseTrueRow.holds Try.pinned (OpenSpec.ofChange fuseTrueSpec)

/-- ITS FALSE NEIGHBOUR: 'it returns false'. Refute it at one input. -/
def fuseTrueWrong : ChangeSpec := { name := "fuseTrue", fn := fun _ => fun
  | [d1, d2, d3, d4] => { results := [.lit (.bool false)], args := [d1, d2, d3, d4] }
  | _ => none }
def FuseTrueWrongFalsely : Prop := fuseTrueRow.holds Try.pinned (OpenSpec.ofChange fuseTrueWrong)

/-- 'odographlaw17.FuseLess': WHATEVER THE INPUT: true; the input reads as it did. -/
def fuseLessSpec : ChangeSpec := { name := "fuseLess", fn := fun _ => fun
  | [d1, d2, d3] => { results := [.lit (.bool true)], args := [d1, d2, d3] }
  | _ => none }
def fuseLessRow : OpenClaim := { program := "ytbagikhoinggjaa", sum := "e3512a181d516411fdbc1273fc1224265ea2d93e63a117db392022c0cee4f1e9", func := "odograph/odographlaw17.FuseLess", spec := "fuseLess", apart := false }
def FuseLessSaid : Prop := fuseLessRow.holds Try.pinned (OpenSpec.ofChange fuseLessSpec)

/-- ITS FALSE NEIGHBOUR: 'it returns false'. Refute it at one input. -/
def fuseLessWrong : ChangeSpec := { name := "fuseLess", fn := fun _ => fun
  | [d1, d2, d3] => { results := [.lit (.bool false)], args := [d1, d2, d3] }
  | _ => none }
def FuseLessWrongFalsely : Prop := fuseLessRow.holds Try.pinned (OpenSpec.ofChange fuseLessWrong)

/-- 'odographlaw17.FuseWidth': WHATEVER THE INPUT: true; the input reads as it did. -/
def fuseWidthSpec : ChangeSpec := { name := "fuseWidth", fn := fun _ => fun
  | [d1, d2, d3, d4] => { results := [.lit (.bool true)], args := [d1, d2, d3, d4] }
  | _ => none }
def fuseWidthRow : OpenClaim := { program := "ytbagikhoinggjaa", sum := "e3512a181d516411fdbc1273fc1224265ea2d93e63a117db392022c0cee4f1e9", func := "odograph/odographlaw17.FuseWidth", spec := "fuseWidth", apart := false }
def FuseWidthSaid : Prop := fuseWidthRow.holds Try.pinned (OpenSpec.ofChange fuseWidthSpec)

/-- ITS FALSE NEIGHBOUR: 'it returns false'. Refute it at one input. -/
def fuseWidthWrong : ChangeSpec := { name := "fuseWidth", fn := fun _ => fun
  | [d1, d2, d3, d4] => { results := [.lit (.bool false)], args := [d1, d2, d3, d4] }
  | _ => none }
def FuseWidthWrongFalsely : Prop := fuseWidthRow.holds Try.pinned (OpenSpec.ofChange fuseWidthWrong)

/- THE SECOND FORM. 'bulk': how many values and letters a reading holds, each counted each time it is reached (what is shared counts as often as it is met; a slice's spare places count too). A statement '..UptoSaid' is the law's where the arguments, and the package variables that the reading takes, are together of bulk at most 1048576: NARROWER than '..Said'. Prove '..Said' where nothing that the law and all that it calls make is longer than what came in: it says more and counts as full. Else prove '..UptoSaid'. A law counts once. -/
mutual
def uptoBulk {H : Type} : DataW H → Nat
  | .lit (.string bytes) => bytes.length + 1
  | .lit _ => 1
  | .nil => 1
  | .ptr d => uptoBulk d + 1
  | .slice elems spare => uptoBulkAll elems + uptoBulkAll spare + 1
  | .agg parts => uptoBulkAll parts + 1
  | .iface _ d => uptoBulk d + 1
  | .map entries => uptoBulkEntries entries + 1
  | .held _ => 1
def uptoBulkAll {H : Type} : List (DataW H) → Nat
  | [] => 0
  | d :: r => uptoBulk d + uptoBulkAll r
def uptoBulkEntries {H : Type} : List (Lit × DataW H) → Nat
  | [] => 0
  | x :: r => uptoBulkEntry x + uptoBulkEntries r
def uptoBulkEntry {H : Type} : Lit × DataW H → Nat
  | (.string bytes, d) => bytes.length + uptoBulk d + 1
  | (_, d) => uptoBulk d + 1
 end
def uptoSmall : (H : Type) → List (DataW H) → Bool := fun _ ds => decide (uptoBulkAll ds ≤ 1048576)
def OpenSpec.upto (s : _root_.Go.ChangeSpec) : _root_.Go.OpenSpec := { _root_.Go.OpenSpec.ofChange s with cond := some uptoSmall }

/-- 'odographlaw22.BrakePermits', WHERE WHAT IT READS IS OF BULK AT MOST 1048576: true; the input reads as it did. -/
def brakePermitsUptoRow : OpenClaim := { program := "ytbagikhoinggjaa", sum := "e3512a181d516411fdbc1273fc1224265ea2d93e63a117db392022c0cee4f1e9", func := "odograph/odographlaw22.BrakePermits", spec := "brakePermits", apart := false, narrowed := true }
def BrakePermitsUptoSaid : Prop := brakePermitsUptoRow.holds Try.pinned (OpenSpec.upto brakePermitsSpec)

/-- 'odographlaw22.BrakeStops', WHERE WHAT IT READS IS OF BULK AT MOST 1048576: true; the input reads as it did. -/
def brakeStopsUptoRow : OpenClaim := { program := "ytbagikhoinggjaa", sum := "e3512a181d516411fdbc1273fc1224265ea2d93e63a117db392022c0cee4f1e9", func := "odograph/odographlaw22.BrakeStops", spec := "brakeStops", apart := false, narrowed := true }
def BrakeStopsUptoSaid : Prop := brakeStopsUptoRow.holds Try.pinned (OpenSpec.upto brakeStopsSpec)

/-- 'odographlaw22.BrakeMore', WHERE WHAT IT READS IS OF BULK AT MOST 1048576: true; the input reads as it did. -/
def brakeMoreUptoRow : OpenClaim := { program := "ytbagikhoinggjaa", sum := "e3512a181d516411fdbc1273fc1224265ea2d93e63a117db392022c0cee4f1e9", func := "odograph/odographlaw22.BrakeMore", spec := "brakeMore", apart := false, narrowed := true }
def BrakeMoreUptoSaid : Prop := brakeMoreUptoRow.holds Try.pinned (OpenSpec.upto brakeMoreSpec)

/-- 'odographlaw22.BrakeEnds', WHERE WHAT IT READS IS OF BULK AT MOST 1048576: true; the input reads as it did. -/
def brakeEndsUptoRow : OpenClaim := { program := "ytbagikhoinggjaa", sum := "e3512a181d516411fdbc1273fc1224265ea2d93e63a117db392022c0cee4f1e9", func := "odograph/odographlaw22.BrakeEnds", spec := "brakeEnds", apart := false, narrowed := true }
def BrakeEndsUptoSaid : Prop := brakeEndsUptoRow.holds Try.pinned (OpenSpec.upto brakeEndsSpec)

/-- 'odographlaw17.FuseFuses', WHERE WHAT IT READS IS OF BULK AT MOST 1048576: true; the input reads as it did. -/
def fuseFusesUptoRow : OpenClaim := { program := "ytbagikhoinggjaa", sum := "e3512a181d516411fdbc1273fc1224265ea2d93e63a117db392022c0cee4f1e9", func := "odograph/odographlaw17.FuseFuses", spec := "fuseFuses", apart := false, narrowed := true }
def FuseFusesUptoSaid : Prop := fuseFusesUptoRow.holds Try.pinned (OpenSpec.upto fuseFusesSpec)

/-- 'odographlaw17.FuseInside', WHERE WHAT IT READS IS OF BULK AT MOST 1048576: true; the input reads as it did. -/
def fuseInsideUptoRow : OpenClaim := { program := "ytbagikhoinggjaa", sum := "e3512a181d516411fdbc1273fc1224265ea2d93e63a117db392022c0cee4f1e9", func := "odograph/odographlaw17.FuseInside", spec := "fuseInside", apart := false, narrowed := true }
def FuseInsideUptoSaid : Prop := fuseInsideUptoRow.holds Try.pinned (OpenSpec.upto fuseInsideSpec)

/-- 'odographlaw17.FuseTwins', WHERE WHAT IT READS IS OF BULK AT MOST 1048576: true; the input reads as it did. -/
def fuseTwinsUptoRow : OpenClaim := { program := "ytbagikhoinggjaa", sum := "e3512a181d516411fdbc1273fc1224265ea2d93e63a117db392022c0cee4f1e9", func := "odograph/odographlaw17.FuseTwins", spec := "fuseTwins", apart := false, narrowed := true }
def FuseTwinsUptoSaid : Prop := fuseTwinsUptoRow.holds Try.pinned (OpenSpec.upto fuseTwinsSpec)

/-- 'odographlaw17.FuseTrue', WHERE WHAT IT READS IS OF BULK AT MOST 1048576: true; the input reads as it did. -/
def fuseTrueUptoRow : OpenClaim := { program := "ytbagikhoinggjaa", sum := "e3512a181d516411fdbc1273fc1224265ea2d93e63a117db392022c0cee4f1e9", func := "odograph/odographlaw17.FuseTrue", spec := "fuseTrue", apart := false, narrowed := true }
def FuseTrueUptoSaid : Prop := fuseTrueUptoRow.holds Try.pinned (OpenSpec.upto fuseTrueSpec)

/-- 'odographlaw17.FuseLess', WHERE WHAT IT READS IS OF BULK AT MOST 1048576: true; the input reads as it did. -/
def fuseLessUptoRow : OpenClaim := { program := "ytbagikhoinggjaa", sum := "e3512a181d516411fdbc1273fc1224265ea2d93e63a117db392022c0cee4f1e9", func := "odograph/odographlaw17.FuseLess", spec := "fuseLess", apart := false, narrowed := true }
def FuseLessUptoSaid : Prop := fuseLessUptoRow.holds Try.pinned (OpenSpec.upto fuseLessSpec)

/-- 'odographlaw17.FuseWidth', WHERE WHAT IT READS IS OF BULK AT MOST 1048576: true; the input reads as it did. -/
def fuseWidthUptoRow : OpenClaim := { program := "ytbagikhoinggjaa", sum := "e3512a181d516411fdbc1273fc1224265ea2d93e63a117db392022c0cee4f1e9", func := "odograph/odographlaw17.FuseWidth", spec := "fuseWidth", apart := false, narrowed := true }
def FuseWidthUptoSaid : Prop := fuseWidthUptoRow.holds Try.pinned (OpenSpec.upto fuseWidthSpec)

end Rows
end Go.Proofs.Ytbagikhoinggjaa
