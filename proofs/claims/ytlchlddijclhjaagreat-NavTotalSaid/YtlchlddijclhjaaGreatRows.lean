/-
  No cell of these rows narrows 'for every input' (looked for: loops, veiled, ifaces, maps, wideKeys, modest, calm, conditions, laid).
  DERIVED. THE GIVEN ROWS OF THIS SEAT. 7 by the template 'for every input the law returns true; each argument reads behind the call as it read before'; 0 by the template 'total and deterministic' (their statements: YtlchlddijclhjaaGreatTotals.lean).
  GIVEN WITH THE SEED: the statements are not yours to turn. If you find one false, say at which input.
  Laid BY PROGRAM, IN A SANDBOX (cutbox-rows.mjs): the forced cells as the released guide's own fill.sh prints them over the translation 1bdb61c6b1f88cc5… (all of the seat's roots in one cut). By AI agents, Wed Nov 11 2026. No macro, syntax, notation, axiom, sorry.
-/
import Derived.Test.YtlchlddijclhjaaGreatChecked
import GoSem.Claim
import GoSem.ClaimJoined
import GoSem.ClaimMapViews
import Derived.JoinedTies
import Derived.KernelRfl
namespace Go.Proofs.YtlchlddijclhjaaGreat
/- THE CELL 'sum', in the pinned program and in every row, IS THE sha256 OF THE DUMP (.gsa) THAT YtlchlddijclhjaaGreatProg.lean LOADS. Nothing in Lean hashes anything: it is a label: what it is worth is what the hold of that sum in a sandbox is worth. -/
noncomputable def Tryz.pinned : Pinned := { name := "ytlchlddijclhjaagreat", sum := "1bdb61c6b1f88cc5dbdca8852bec396ce2b17e871649f7757ca2f3544ec2ba4b", checked := Tryz.checked }
namespace Rows
def none {H : Type} : Left H := { results := [], args := [] }

/-- 'odographtop.WholeTotal': WHATEVER THE INPUT: true; the input reads as it did. -/
def wholeTotalSpec : ChangeSpec := { name := "wholeTotal", fn := fun _ => fun
  | [d1, d2, d3] => { results := [.lit (.bool true)], args := [d1, d2, d3] }
  | _ => none }
def wholeTotalRow : OpenClaim := { program := "ytlchlddijclhjaagreat", sum := "1bdb61c6b1f88cc5dbdca8852bec396ce2b17e871649f7757ca2f3544ec2ba4b", func := "odograph/odographtop.WholeTotal", spec := "wholeTotal", unfollowed := true, recurses := true, plainKeys := false, apart := false }
def WholeTotalSaid : Prop := wholeTotalRow.holds Tryz.pinned (OpenSpec.ofChange wholeTotalSpec)

/-- ITS FALSE NEIGHBOUR: 'it returns false'. Refute it at one input. -/
def wholeTotalWrong : ChangeSpec := { name := "wholeTotal", fn := fun _ => fun
  | [d1, d2, d3] => { results := [.lit (.bool false)], args := [d1, d2, d3] }
  | _ => none }
def WholeTotalWrongFalsely : Prop := wholeTotalRow.holds Tryz.pinned (OpenSpec.ofChange wholeTotalWrong)

/-- 'odographtop.WholeSilent': WHATEVER THE INPUT: true; the input reads as it did. -/
def wholeSilentSpec : ChangeSpec := { name := "wholeSilent", fn := fun _ => fun
  | [d1, d2, d3, d4] => { results := [.lit (.bool true)], args := [d1, d2, d3, d4] }
  | _ => none }
def wholeSilentRow : OpenClaim := { program := "ytlchlddijclhjaagreat", sum := "1bdb61c6b1f88cc5dbdca8852bec396ce2b17e871649f7757ca2f3544ec2ba4b", func := "odograph/odographtop.WholeSilent", spec := "wholeSilent", unfollowed := true, recurses := true, plainKeys := false, apart := false }
def WholeSilentSaid : Prop := wholeSilentRow.holds Tryz.pinned (OpenSpec.ofChange wholeSilentSpec)

/-- ITS FALSE NEIGHBOUR: 'it returns false'. Refute it at one input. -/
def wholeSilentWrong : ChangeSpec := { name := "wholeSilent", fn := fun _ => fun
  | [d1, d2, d3, d4] => { results := [.lit (.bool false)], args := [d1, d2, d3, d4] }
  | _ => none }
def WholeSilentWrongFalsely : Prop := wholeSilentRow.holds Tryz.pinned (OpenSpec.ofChange wholeSilentWrong)

/-- 'odographtop.WholeLeaves': WHATEVER THE INPUT: true; the input reads as it did. -/
def wholeLeavesSpec : ChangeSpec := { name := "wholeLeaves", fn := fun _ => fun
  | [d1, d2, d3] => { results := [.lit (.bool true)], args := [d1, d2, d3] }
  | _ => none }
def wholeLeavesRow : OpenClaim := { program := "ytlchlddijclhjaagreat", sum := "1bdb61c6b1f88cc5dbdca8852bec396ce2b17e871649f7757ca2f3544ec2ba4b", func := "odograph/odographtop.WholeLeaves", spec := "wholeLeaves", unfollowed := true, recurses := true, plainKeys := false, apart := false }
def WholeLeavesSaid : Prop := wholeLeavesRow.holds Tryz.pinned (OpenSpec.ofChange wholeLeavesSpec)

/-- ITS FALSE NEIGHBOUR: 'it returns false'. Refute it at one input. -/
def wholeLeavesWrong : ChangeSpec := { name := "wholeLeaves", fn := fun _ => fun
  | [d1, d2, d3] => { results := [.lit (.bool false)], args := [d1, d2, d3] }
  | _ => none }
def WholeLeavesWrongFalsely : Prop := wholeLeavesRow.holds Tryz.pinned (OpenSpec.ofChange wholeLeavesWrong)

/-- 'odographlaw24.NavSteps': WHATEVER THE INPUT: true; the input reads as it did. -/
def navStepsSpec : ChangeSpec := { name := "navSteps", fn := fun _ => fun
  | [d1, d2, d3] => { results := [.lit (.bool true)], args := [d1, d2, d3] }
  | _ => none }
def navStepsRow : OpenClaim := { program := "ytlchlddijclhjaagreat", sum := "1bdb61c6b1f88cc5dbdca8852bec396ce2b17e871649f7757ca2f3544ec2ba4b", func := "odograph/odographlaw24.NavSteps", spec := "navSteps", unfollowed := true, recurses := true, plainKeys := false, apart := false }
def NavStepsSaid : Prop := navStepsRow.holds Tryz.pinned (OpenSpec.ofChange navStepsSpec)

/-- ITS FALSE NEIGHBOUR: 'it returns false'. Refute it at one input. -/
def navStepsWrong : ChangeSpec := { name := "navSteps", fn := fun _ => fun
  | [d1, d2, d3] => { results := [.lit (.bool false)], args := [d1, d2, d3] }
  | _ => none }
def NavStepsWrongFalsely : Prop := navStepsRow.holds Tryz.pinned (OpenSpec.ofChange navStepsWrong)

/-- 'odographlaw24.NavSame': WHATEVER THE INPUT: true; the input reads as it did. -/
def navSameSpec : ChangeSpec := { name := "navSame", fn := fun _ => fun
  | [d1, d2, d3] => { results := [.lit (.bool true)], args := [d1, d2, d3] }
  | _ => none }
def navSameRow : OpenClaim := { program := "ytlchlddijclhjaagreat", sum := "1bdb61c6b1f88cc5dbdca8852bec396ce2b17e871649f7757ca2f3544ec2ba4b", func := "odograph/odographlaw24.NavSame", spec := "navSame", unfollowed := true, recurses := true, plainKeys := false, apart := false }
def NavSameSaid : Prop := navSameRow.holds Tryz.pinned (OpenSpec.ofChange navSameSpec)

/-- ITS FALSE NEIGHBOUR: 'it returns false'. Refute it at one input. -/
def navSameWrong : ChangeSpec := { name := "navSame", fn := fun _ => fun
  | [d1, d2, d3] => { results := [.lit (.bool false)], args := [d1, d2, d3] }
  | _ => none }
def NavSameWrongFalsely : Prop := navSameRow.holds Tryz.pinned (OpenSpec.ofChange navSameWrong)

/-- 'odographlaw24.NavTotal': WHATEVER THE INPUT: true; the input reads as it did. -/
def navTotalSpec : ChangeSpec := { name := "navTotal", fn := fun _ => fun
  | [d1, d2, d3] => { results := [.lit (.bool true)], args := [d1, d2, d3] }
  | _ => none }
def navTotalRow : OpenClaim := { program := "ytlchlddijclhjaagreat", sum := "1bdb61c6b1f88cc5dbdca8852bec396ce2b17e871649f7757ca2f3544ec2ba4b", func := "odograph/odographlaw24.NavTotal", spec := "navTotal", unfollowed := true, recurses := true, plainKeys := false, apart := false }
def NavTotalSaid : Prop := navTotalRow.holds Tryz.pinned (OpenSpec.ofChange navTotalSpec)

/-- ITS FALSE NEIGHBOUR: 'it returns false'. Refute it at one input. -/
def navTotalWrong : ChangeSpec := { name := "navTotal", fn := fun _ => fun
  | [d1, d2, d3] => { results := [.lit (.bool false)], args := [d1, d2, d3] }
  | _ => none }
def NavTotalWrongFalsely : Prop := navTotalRow.holds Tryz.pinned (OpenSpec.ofChange navTotalWrong)

/-- 'odographtop.WholeGarbled': WHATEVER THE INPUT: true; the input reads as it did. -/
def wholeGarbledSpec : ChangeSpec := { name := "wholeGarbled", fn := fun _ => fun
  | [d1, d2, d3, d4] => { results := [.lit (.bool true)], args := [d1, d2, d3, d4] }
  | _ => none }
def wholeGarbledRow : OpenClaim := { program := "ytlchlddijclhjaagreat", sum := "1bdb61c6b1f88cc5dbdca8852bec396ce2b17e871649f7757ca2f3544ec2ba4b", func := "odograph/odographtop.WholeGarbled", spec := "wholeGarbled", unfollowed := true, recurses := true, plainKeys := false, apart := false }
def WholeGarbledSaid : Prop := wholeGarbledRow.holds Tryz.pinned (OpenSpec.ofChange wholeGarbledSpec)

/-- ITS FALSE NEIGHBOUR: 'it returns false'. Refute it at one input. -/
def wholeGarbledWrong : ChangeSpec := { name := "wholeGarbled", fn := fun _ => fun
  | [d1, d2, d3, d4] => { results := [.lit (.bool false)], args := [d1, d2, d3, d4] }
  | _ => none }
def WholeGarbledWrongFalsely : Prop := wholeGarbledRow.holds Tryz.pinned (OpenSpec.ofChange wholeGarbledWrong)

/- THE SECOND FORM. 'bulk': how many values and letters a reading holds, each counted each time it is reached (what is shared counts as often as it is met; a slice's spare places count too). A statement '..UptoSaid' is the law's where the arguments, and the package variables that the reading takes, are together of bulk at most 1048576: NARROWER than '..Said'. Prove '..Said' where nothing that the law and all that it calls make is longer than what came in: it says more and counts as full. Else prove '..UptoSaid'. A law counts once. -/
mutual
def uptoBulk {H : Type} : DataW H → Nat
  | .lit (.string bytes) => bytes.length + 1
  | .lit _ => 1
  | .nil => 1
  | .ptr d => uptoBulk d + 1
  | .slice elems spare => uptoBulkAll elems + uptoBulkAll spare + 1
  | .agg parts => uptoBulkAll parts + 1
  | .iface _ d => uptoBulk d + 1
  | .map entries => uptoBulkEntries entries + 1
  | .held _ => 1
def uptoBulkAll {H : Type} : List (DataW H) → Nat
  | [] => 0
  | d :: r => uptoBulk d + uptoBulkAll r
def uptoBulkEntries {H : Type} : List (Lit × DataW H) → Nat
  | [] => 0
  | x :: r => uptoBulkEntry x + uptoBulkEntries r
def uptoBulkEntry {H : Type} : Lit × DataW H → Nat
  | (.string bytes, d) => bytes.length + uptoBulk d + 1
  | (_, d) => uptoBulk d + 1
 end
def uptoSmall : (H : Type) → List (DataW H) → Bool := fun _ ds => decide (uptoBulkAll ds ≤ 1048576)
def OpenSpec.upto (s : _root_.Go.ChangeSpec) : _root_.Go.OpenSpec := { _root_.Go.OpenSpec.ofChange s with cond := some uptoSmall }

/-- 'odographtop.WholeTotal', WHERE WHAT IT READS IS OF BULK AT MOST 1048576: true; the input reads as it did. -/
def wholeTotalUptoRow : OpenClaim := { program := "ytlchlddijclhjaagreat", sum := "1bdb61c6b1f88cc5dbdca8852bec396ce2b17e871649f7757ca2f3544ec2ba4b", func := "odograph/odographtop.WholeTotal", spec := "wholeTotal", unfollowed := true, recurses := true, plainKeys := false, apart := false, narrowed := true }
def WholeTotalUptoSaid : Prop := wholeTotalUptoRow.holds Tryz.pinned (OpenSpec.upto wholeTotalSpec)

/-- 'odographtop.WholeSilent', WHERE WHAT IT READS IS OF BULK AT MOST 1048576: true; the input reads as it did. -/
def wholeSilentUptoRow : OpenClaim := { program := "ytlchlddijclhjaagreat", sum := "1bdb61c6b1f88cc5dbdca8852bec396ce2b17e871649f7757ca2f3544ec2ba4b", func := "odograph/odographtop.WholeSilent", spec := "wholeSilent", unfollowed := true, recurses := true, plainKeys := false, apart := false, narrowed := true }
def WholeSilentUptoSaid : Prop := wholeSilentUptoRow.holds Tryz.pinned (OpenSpec.upto wholeSilentSpec)

/-- 'odographtop.WholeLeaves', WHERE WHAT IT READS IS OF BULK AT MOST 1048576: true; the input reads as it did. -/
def wholeLeavesUptoRow : OpenClaim := { program := "ytlchlddijclhjaagreat", sum := "1bdb61c6b1f88cc5dbdca8852bec396ce2b17e871649f7757ca2f3544ec2ba4b", func := "odograph/odographtop.WholeLeaves", spec := "wholeLeaves", unfollowed := true, recurses := true, plainKeys := false, apart := false, narrowed := true }
def WholeLeavesUptoSaid : Prop := wholeLeavesUptoRow.holds Tryz.pinned (OpenSpec.upto wholeLeavesSpec)

/-- 'odographlaw24.NavSteps', WHERE WHAT IT READS IS OF BULK AT MOST 1048576: true; the input reads as it did. -/
def navStepsUptoRow : OpenClaim := { program := "ytlchlddijclhjaagreat", sum := "1bdb61c6b1f88cc5dbdca8852bec396ce2b17e871649f7757ca2f3544ec2ba4b", func := "odograph/odographlaw24.NavSteps", spec := "navSteps", unfollowed := true, recurses := true, plainKeys := false, apart := false, narrowed := true }
def NavStepsUptoSaid : Prop := navStepsUptoRow.holds Tryz.pinned (OpenSpec.upto navStepsSpec)

/-- 'odographlaw24.NavSame', WHERE WHAT IT READS IS OF BULK AT MOST 1048576: true; the input reads as it did. -/
def navSameUptoRow : OpenClaim := { program := "ytlchlddijclhjaagreat", sum := "1bdb61c6b1f88cc5dbdca8852bec396ce2b17e871649f7757ca2f3544ec2ba4b", func := "odograph/odographlaw24.NavSame", spec := "navSame", unfollowed := true, recurses := true, plainKeys := false, apart := false, narrowed := true }
def NavSameUptoSaid : Prop := navSameUptoRow.holds Tryz.pinned (OpenSpec.upto navSameSpec)

/-- 'odographlaw24.NavTotal', WHERE WHAT IT READS IS OF BULK AT MOST 1048576: true; the input reads as it did. -/
def navTotalUptoRow : OpenClaim := { program := "ytlchlddijclhjaagreat", sum := "1bdb61c6b1f88cc5dbdca8852bec396ce2b17e871649f7757ca2f3544ec2ba4b", func := "odograph/odographlaw24.NavTotal", spec := "navTotal", unfollowed := true, recurses := true, plainKeys := false, apart := false, narrowed := true }
def NavTotalUptoSaid : Prop := navTotalUptoRow.holds Tryz.pinned (OpenSpec.upto navTotalSpec)

/-- 'odographtop.WholeGarbled', WHERE WHAT IT READS IS OF BULK AT MOST 1048576: true; the input reads as it did. -/
def wholeGarbledUptoRow : OpenClaim := { program := "ytlchlddijclhjaagreat", sum := "1bdb61c6b1f88cc5dbdca8852bec396ce2b17e871649f7757ca2f3544ec2ba4b", func := "odograph/odographtop.WholeGarbled", spec := "wholeGarbled", unfollowed := true, recurses := true, plainKeys := false, apart := false, narrowed := true }
def WholeGarbledUptoSaid : Prop := wholeGarbledUptoRow.holds Tryz.pinned (OpenSpec.upto wholeGarbledSpec)

end Rows
end Go.Proofs.YtlchlddijclhjaaGreat
