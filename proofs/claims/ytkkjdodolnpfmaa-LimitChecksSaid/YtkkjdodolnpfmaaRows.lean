/-
  No cell of these rows narrows 'for every input' (looked for: loops, veiled, ifaces, maps, wideKeys, modest, calm, conditions, laid).
  DERIVED. THE GIVEN ROWS OF THIS SEAT. 10 by the template 'for every input the law returns true; each argument reads behind the call as it read before'; 0 by the template 'total and deterministic' (their statements: YtkkjdodolnpfmaaTotals.lean).
  GIVEN WITH THE SEED: the statements are not yours to turn. If you find one false, say at which input.
  Laid BY PROGRAM, IN A SANDBOX (cutbox-rows.mjs): the forced cells as the released guide's own fill.sh prints them over the translation 3523ab76b9841889… (all of the seat's roots in one cut). By AI agents, Wed Nov 11 2026. No macro, syntax, notation, axiom, sorry.
-/
import Derived.Test.YtkkjdodolnpfmaaChecked
import GoSem.Claim
import GoSem.ClaimJoined
import GoSem.ClaimMapViews
import Derived.JoinedTies
import Derived.KernelRfl
namespace Go.Proofs.Ytkkjdodolnpfmaa
/- THE CELL 'sum', in the pinned program and in every row, IS THE sha256 OF THE DUMP (.gsa) THAT YtkkjdodolnpfmaaProg.lean LOADS. Nothing in Lean hashes anything: it is a label: what it is worth is what the hold of that sum in a sandbox is worth. -/
noncomputable def Try.pinned : Pinned := { name := "ytkkjdodolnpfmaa", sum := "3523ab76b984188996e1da422ad9dd37ebef789130f2f0ae4457fd5546684d89", checked := Try.checked }
namespace Rows
def none {H : Type} : Left H := { results := [], args := [] }

/-- 'odographlaw33.LimitFinds': WHATEVER THE INPUT: true; the input reads as it did. -/
def limitFindsSpec : ChangeSpec := { name := "limitFinds", fn := fun _ => fun
  | [d1, d2, d3, d4] => { results := [.lit (.bool true)], args := [d1, d2, d3, d4] }
  | _ => none }
def limitFindsRow : OpenClaim := { program := "ytkkjdodolnpfmaa", sum := "3523ab76b984188996e1da422ad9dd37ebef789130f2f0ae4457fd5546684d89", func := "odograph/odographlaw33.LimitFinds", spec := "limitFinds", unfollowed := true, recurses := true, apart := false }
def LimitFindsSaid : Prop := limitFindsRow.holds Try.pinned (OpenSpec.ofChange limitFindsSpec)

/-- ITS FALSE NEIGHBOUR: 'it returns false'. Refute it at one input. -/
def limitFindsWrong : ChangeSpec := { name := "limitFinds", fn := fun _ => fun
  | [d1, d2, d3, d4] => { results := [.lit (.bool false)], args := [d1, d2, d3, d4] }
  | _ => none }
def LimitFindsWrongFalsely : Prop := limitFindsRow.holds Try.pinned (OpenSpec.ofChange limitFindsWrong)

/-- 'odographlaw33.LimitSafe': WHATEVER THE INPUT: true; the input reads as it did. -/
def limitSafeSpec : ChangeSpec := { name := "limitSafe", fn := fun _ => fun
  | [d1, d2, d3, d4] => { results := [.lit (.bool true)], args := [d1, d2, d3, d4] }
  | _ => none }
def limitSafeRow : OpenClaim := { program := "ytkkjdodolnpfmaa", sum := "3523ab76b984188996e1da422ad9dd37ebef789130f2f0ae4457fd5546684d89", func := "odograph/odographlaw33.LimitSafe", spec := "limitSafe", unfollowed := true, recurses := true, apart := false }
def LimitSafeSaid : Prop := limitSafeRow.holds Try.pinned (OpenSpec.ofChange limitSafeSpec)

/-- ITS FALSE NEIGHBOUR: 'it returns false'. Refute it at one input. -/
def limitSafeWrong : ChangeSpec := { name := "limitSafe", fn := fun _ => fun
  | [d1, d2, d3, d4] => { results := [.lit (.bool false)], args := [d1, d2, d3, d4] }
  | _ => none }
def LimitSafeWrongFalsely : Prop := limitSafeRow.holds Try.pinned (OpenSpec.ofChange limitSafeWrong)

/-- 'odographlaw05.VoteSafe': WHATEVER THE INPUT: true; the input reads as it did. -/
def voteSafeSpec : ChangeSpec := { name := "voteSafe", fn := fun _ => fun
  | [d1, d2, d3] => { results := [.lit (.bool true)], args := [d1, d2, d3] }
  | _ => none }
def voteSafeRow : OpenClaim := { program := "ytkkjdodolnpfmaa", sum := "3523ab76b984188996e1da422ad9dd37ebef789130f2f0ae4457fd5546684d89", func := "odograph/odographlaw05.VoteSafe", spec := "voteSafe", apart := false }
def VoteSafeSaid : Prop := voteSafeRow.holds Try.pinned (OpenSpec.ofChange voteSafeSpec)

/-- ITS FALSE NEIGHBOUR: 'it returns false'. Refute it at one input. -/
def voteSafeWrong : ChangeSpec := { name := "voteSafe", fn := fun _ => fun
  | [d1, d2, d3] => { results := [.lit (.bool false)], args := [d1, d2, d3] }
  | _ => none }
def VoteSafeWrongFalsely : Prop := voteSafeRow.holds Try.pinned (OpenSpec.ofChange voteSafeWrong)

/-- 'odographlaw19.RollPlays': WHATEVER THE INPUT: true; the input reads as it did. -/
def rollPlaysSpec : ChangeSpec := { name := "rollPlays", fn := fun _ => fun
  | [d1, d2] => { results := [.lit (.bool true)], args := [d1, d2] }
  | _ => none }
def rollPlaysRow : OpenClaim := { program := "ytkkjdodolnpfmaa", sum := "3523ab76b984188996e1da422ad9dd37ebef789130f2f0ae4457fd5546684d89", func := "odograph/odographlaw19.RollPlays", spec := "rollPlays", apart := false }
def RollPlaysSaid : Prop := rollPlaysRow.holds Try.pinned (OpenSpec.ofChange rollPlaysSpec)

/-- ITS FALSE NEIGHBOUR: 'it returns false'. Refute it at one input. -/
def rollPlaysWrong : ChangeSpec := { name := "rollPlays", fn := fun _ => fun
  | [d1, d2] => { results := [.lit (.bool false)], args := [d1, d2] }
  | _ => none }
def RollPlaysWrongFalsely : Prop := rollPlaysRow.holds Try.pinned (OpenSpec.ofChange rollPlaysWrong)

/-- 'odographlaw19.RollMirrored': WHATEVER THE INPUT: true; the input reads as it did. -/
def rollMirroredSpec : ChangeSpec := { name := "rollMirrored", fn := fun _ => fun
  | [d1, d2] => { results := [.lit (.bool true)], args := [d1, d2] }
  | _ => none }
def rollMirroredRow : OpenClaim := { program := "ytkkjdodolnpfmaa", sum := "3523ab76b984188996e1da422ad9dd37ebef789130f2f0ae4457fd5546684d89", func := "odograph/odographlaw19.RollMirrored", spec := "rollMirrored", apart := false }
def RollMirroredSaid : Prop := rollMirroredRow.holds Try.pinned (OpenSpec.ofChange rollMirroredSpec)

/-- ITS FALSE NEIGHBOUR: 'it returns false'. Refute it at one input. -/
def rollMirroredWrong : ChangeSpec := { name := "rollMirrored", fn := fun _ => fun
  | [d1, d2] => { results := [.lit (.bool false)], args := [d1, d2] }
  | _ => none }
def RollMirroredWrongFalsely : Prop := rollMirroredRow.holds Try.pinned (OpenSpec.ofChange rollMirroredWrong)

/-- 'odographlaw19.RollTrue': WHATEVER THE INPUT: true; the input reads as it did. -/
def rollTrueSpec : ChangeSpec := { name := "rollTrue", fn := fun _ => fun
  | [d1, d2] => { results := [.lit (.bool true)], args := [d1, d2] }
  | _ => none }
def rollTrueRow : OpenClaim := { program := "ytkkjdodolnpfmaa", sum := "3523ab76b984188996e1da422ad9dd37ebef789130f2f0ae4457fd5546684d89", func := "odograph/odographlaw19.RollTrue", spec := "rollTrue", apart := false }
def RollTrueSaid : Prop := rollTrueRow.holds Try.pinned (OpenSpec.ofChange rollTrueSpec)

/-- ITS FALSE NEIGHBOUR: 'it returns false'. Refute it at one input. -/
def rollTrueWrong : ChangeSpec := { name := "rollTrue", fn := fun _ => fun
  | [d1, d2] => { results := [.lit (.bool false)], args := [d1, d2] }
  | _ => none }
def RollTrueWrongFalsely : Prop := rollTrueRow.holds Try.pinned (OpenSpec.ofChange rollTrueWrong)

/-- 'odographlaw05.VoteStrays': WHATEVER THE INPUT: true; the input reads as it did. -/
def voteStraysSpec : ChangeSpec := { name := "voteStrays", fn := fun _ => fun
  | [d1, d2] => { results := [.lit (.bool true)], args := [d1, d2] }
  | _ => none }
def voteStraysRow : OpenClaim := { program := "ytkkjdodolnpfmaa", sum := "3523ab76b984188996e1da422ad9dd37ebef789130f2f0ae4457fd5546684d89", func := "odograph/odographlaw05.VoteStrays", spec := "voteStrays", apart := false }
def VoteStraysSaid : Prop := voteStraysRow.holds Try.pinned (OpenSpec.ofChange voteStraysSpec)

/-- ITS FALSE NEIGHBOUR: 'it returns false'. Refute it at one input. -/
def voteStraysWrong : ChangeSpec := { name := "voteStrays", fn := fun _ => fun
  | [d1, d2] => { results := [.lit (.bool false)], args := [d1, d2] }
  | _ => none }
def VoteStraysWrongFalsely : Prop := voteStraysRow.holds Try.pinned (OpenSpec.ofChange voteStraysWrong)

/-- 'odographlaw05.VoteCounts': WHATEVER THE INPUT: true; the input reads as it did. -/
def voteCountsSpec : ChangeSpec := { name := "voteCounts", fn := fun _ => fun
  | [d] => { results := [.lit (.bool true)], args := [d] }
  | _ => none }
def voteCountsRow : OpenClaim := { program := "ytkkjdodolnpfmaa", sum := "3523ab76b984188996e1da422ad9dd37ebef789130f2f0ae4457fd5546684d89", func := "odograph/odographlaw05.VoteCounts", spec := "voteCounts", apart := false }
def VoteCountsSaid : Prop := voteCountsRow.holds Try.pinned (OpenSpec.ofChange voteCountsSpec)

/-- ITS FALSE NEIGHBOUR: 'it returns false'. Refute it at one input. -/
def voteCountsWrong : ChangeSpec := { name := "voteCounts", fn := fun _ => fun
  | [d] => { results := [.lit (.bool false)], args := [d] }
  | _ => none }
def VoteCountsWrongFalsely : Prop := voteCountsRow.holds Try.pinned (OpenSpec.ofChange voteCountsWrong)

/-- 'odographlaw05.VoteTurns': WHATEVER THE INPUT: true; the input reads as it did. -/
def voteTurnsSpec : ChangeSpec := { name := "voteTurns", fn := fun _ => fun
  | [d] => { results := [.lit (.bool true)], args := [d] }
  | _ => none }
def voteTurnsRow : OpenClaim := { program := "ytkkjdodolnpfmaa", sum := "3523ab76b984188996e1da422ad9dd37ebef789130f2f0ae4457fd5546684d89", func := "odograph/odographlaw05.VoteTurns", spec := "voteTurns", apart := false }
def VoteTurnsSaid : Prop := voteTurnsRow.holds Try.pinned (OpenSpec.ofChange voteTurnsSpec)

/-- ITS FALSE NEIGHBOUR: 'it returns false'. Refute it at one input. -/
def voteTurnsWrong : ChangeSpec := { name := "voteTurns", fn := fun _ => fun
  | [d] => { results := [.lit (.bool false)], args := [d] }
  | _ => none }
def VoteTurnsWrongFalsely : Prop := voteTurnsRow.holds Try.pinned (OpenSpec.ofChange voteTurnsWrong)

/-- 'odographlaw33.LimitChecks': WHATEVER THE INPUT: true; the input reads as it did. -/
def limitChecksSpec : ChangeSpec := { name := "limitChecks", fn := fun _ => fun
  | [d1, d2] => { results := [.lit (.bool true)], args := [d1, d2] }
  | _ => none }
def limitChecksRow : OpenClaim := { program := "ytkkjdodolnpfmaa", sum := "3523ab76b984188996e1da422ad9dd37ebef789130f2f0ae4457fd5546684d89", func := "odograph/odographlaw33.LimitChecks", spec := "limitChecks", unfollowed := true, recurses := true, apart := false }
def LimitChecksSaid : Prop := limitChecksRow.holds Try.pinned (OpenSpec.ofChange limitChecksSpec)

/-- ITS FALSE NEIGHBOUR: 'it returns false'. Refute it at one input. -/
def limitChecksWrong : ChangeSpec := { name := "limitChecks", fn := fun _ => fun
  | [d1, d2] => { results := [.lit (.bool false)], args := [d1, d2] }
  | _ => none }
def LimitChecksWrongFalsely : Prop := limitChecksRow.holds Try.pinned (OpenSpec.ofChange limitChecksWrong)

/- THE SECOND FORM. 'bulk': how many values and letters a reading holds, each counted each time it is reached (what is shared counts as often as it is met; a slice's spare places count too). A statement '..UptoSaid' is the law's where the arguments, and the package variables that the reading takes, are together of bulk at most 1048576: NARROWER than '..Said'. Prove '..Said' where nothing that the law and all that it calls make is longer than what came in: it says more and counts as full. Else prove '..UptoSaid'. A law counts once. -/
mutual
def uptoBulk {H : Type} : DataW H → Nat
  | .lit (.string bytes) => bytes.length + 1
  | .lit _ => 1
  | .nil => 1
  | .ptr d => uptoBulk d + 1
  | .slice elems spare => uptoBulkAll elems + uptoBulkAll spare + 1
  | .agg parts => uptoBulkAll parts + 1
  | .iface _ d => uptoBulk d + 1
  | .map entries => uptoBulkEntries entries + 1
  | .held _ => 1
def uptoBulkAll {H : Type} : List (DataW H) → Nat
  | [] => 0
  | d :: r => uptoBulk d + uptoBulkAll r
def uptoBulkEntries {H : Type} : List (Lit × DataW H) → Nat
  | [] => 0
  | x :: r => uptoBulkEntry x + uptoBulkEntries r
def uptoBulkEntry {H : Type} : Lit × DataW H → Nat
  | (.string bytes, d) => bytes.length + uptoBulk d + 1
  | (_, d) => uptoBulk d + 1
 end
def uptoSmall : (H : Type) → List (DataW H) → Bool := fun _ ds => decide (uptoBulkAll ds ≤ 1048576)
def OpenSpec.upto (s : _root_.Go.ChangeSpec) : _root_.Go.OpenSpec := { _root_.Go.OpenSpec.ofChange s with cond := some uptoSmall }

/-- 'odographlaw33.LimitFinds', WHERE WHAT IT READS IS OF BULK AT MOST 1048576: true; the input reads as it did. -/
def limitFindsUptoRow : OpenClaim := { program := "ytkkjdodolnpfmaa", sum := "3523ab76b984188996e1da422ad9dd37ebef789130f2f0ae4457fd5546684d89", func := "odograph/odographlaw33.LimitFinds", spec := "limitFinds", unfollowed := true, recurses := true, apart := false, narrowed := true }
def LimitFindsUptoSaid : Prop := limitFindsUptoRow.holds Try.pinned (OpenSpec.upto limitFindsSpec)

/-- 'odographlaw33.LimitSafe', WHERE WHAT IT READS IS OF BULK AT MOST 1048576: true; the input reads as it did. -/
def limitSafeUptoRow : OpenClaim := { program := "ytkkjdodolnpfmaa", sum := "3523ab76b984188996e1da422ad9dd37ebef789130f2f0ae4457fd5546684d89", func := "odograph/odographlaw33.LimitSafe", spec := "limitSafe", unfollowed := true, recurses := true, apart := false, narrowed := true }
def LimitSafeUptoSaid : Prop := limitSafeUptoRow.holds Try.pinned (OpenSpec.upto limitSafeSpec)

/-- 'odographlaw05.VoteSafe', WHERE WHAT IT READS IS OF BULK AT MOST 1048576: true; the input reads as it did. -/
def voteSafeUptoRow : OpenClaim := { program := "ytkkjdodolnpfmaa", sum := "3523ab76b984188996e1da422ad9dd37ebef789130f2f0ae4457fd5546684d89", func := "odograph/odographlaw05.VoteSafe", spec := "voteSafe", apart := false, narrowed := true }
def VoteSafeUptoSaid : Prop := voteSafeUptoRow.holds Try.pinned (OpenSpec.upto voteSafeSpec)

/-- 'odographlaw19.RollPlays', WHERE WHAT IT READS IS OF BULK AT MOST 1048576: true; the input reads as it did. -/
def rollPlaysUptoRow : OpenClaim := { program := "ytkkjdodolnpfmaa", sum := "3523ab76b984188996e1da422ad9dd37ebef789130f2f0ae4457fd5546684d89", func := "odograph/odographlaw19.RollPlays", spec := "rollPlays", apart := false, narrowed := true }
def RollPlaysUptoSaid : Prop := rollPlaysUptoRow.holds Try.pinned (OpenSpec.upto rollPlaysSpec)

/-- 'odographlaw19.RollMirrored', WHERE WHAT IT READS IS OF BULK AT MOST 1048576: true; the input reads as it did. -/
def rollMirroredUptoRow : OpenClaim := { program := "ytkkjdodolnpfmaa", sum := "3523ab76b984188996e1da422ad9dd37ebef789130f2f0ae4457fd5546684d89", func := "odograph/odographlaw19.RollMirrored", spec := "rollMirrored", apart := false, narrowed := true }
def RollMirroredUptoSaid : Prop := rollMirroredUptoRow.holds Try.pinned (OpenSpec.upto rollMirroredSpec)

/-- 'odographlaw19.RollTrue', WHERE WHAT IT READS IS OF BULK AT MOST 1048576: true; the input reads as it did. -/
def rollTrueUptoRow : OpenClaim := { program := "ytkkjdodolnpfmaa", sum := "3523ab76b984188996e1da422ad9dd37ebef789130f2f0ae4457fd5546684d89", func := "odograph/odographlaw19.RollTrue", spec := "rollTrue", apart := false, narrowed := true }
def RollTrueUptoSaid : Prop := rollTrueUptoRow.holds Try.pinned (OpenSpec.upto rollTrueSpec)

/-- 'odographlaw05.VoteStrays', WHERE WHAT IT READS IS OF BULK AT MOST 1048576: true; the input reads as it did. -/
def voteStraysUptoRow : OpenClaim := { program := "ytkkjdodolnpfmaa", sum := "3523ab76b984188996e1da422ad9dd37ebef789130f2f0ae4457fd5546684d89", func := "odograph/odographlaw05.VoteStrays", spec := "voteStrays", apart := false, narrowed := true }
def VoteStraysUptoSaid : Prop := voteStraysUptoRow.holds Try.pinned (OpenSpec.upto voteStraysSpec)

/-- 'odographlaw05.VoteCounts', WHERE WHAT IT READS IS OF BULK AT MOST 1048576: true; the input reads as it did. -/
def voteCountsUptoRow : OpenClaim := { program := "ytkkjdodolnpfmaa", sum := "3523ab76b984188996e1da422ad9dd37ebef789130f2f0ae4457fd5546684d89", func := "odograph/odographlaw05.VoteCounts", spec := "voteCounts", apart := false, narrowed := true }
def VoteCountsUptoSaid : Prop := voteCountsUptoRow.holds Try.pinned (OpenSpec.upto voteCountsSpec)

/-- 'odographlaw05.VoteTurns', WHERE WHAT IT READS IS OF BULK AT MOST 1048576: true; the input reads as it did. -/
def voteTurnsUptoRow : OpenClaim := { program := "ytkkjdodolnpfmaa", sum := "3523ab76b984188996e1da422ad9dd37ebef789130f2f0ae4457fd5546684d89", func := "odograph/odographlaw05.VoteTurns", spec := "voteTurns", apart := false, narrowed := true }
def VoteTurnsUptoSaid : Prop := voteTurnsUptoRow.holds Try.pinned (OpenSpec.upto voteTurnsSpec)

/-- 'odographlaw33.LimitChecks', WHERE WHAT IT READS IS OF BULK AT MOST 1048576: true; the input reads as it did. -/
def limitChecksUptoRow : OpenClaim := { program := "ytkkjdodolnpfmaa", sum := "3523ab76b984188996e1da422ad9dd37ebef789130f2f0ae4457fd5546684d89", func := "odograph/odographlaw33.LimitChecks", spec := "limitChecks", unfollowed := true, recurses := true, apart := false, narrowed := true }
def LimitChecksUptoSaid : Prop := limitChecksUptoRow.holds Try.pinned (OpenSpec.upto limitChecksSpec)

end Rows
end Go.Proofs.Ytkkjdodolnpfmaa
