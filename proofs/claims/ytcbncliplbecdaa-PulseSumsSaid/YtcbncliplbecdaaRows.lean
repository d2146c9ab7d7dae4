/-
  No cell of these rows narrows 'for every input' (looked for: loops, veiled, ifaces, maps, wideKeys, modest, calm, conditions, laid).
  DERIVED. THE GIVEN ROWS OF THIS SEAT. 9 by the template 'for every input the law returns true; each argument reads behind the call as it read before'; 0 by the template 'total and deterministic' (their statements: YtcbncliplbecdaaTotals.lean).
  GIVEN WITH THE SEED: the statements are not yours to turn. If you find one false, say at which input.
  Laid BY PROGRAM, IN A SANDBOX (cutbox-rows.mjs): the forced cells as the released guide's own fill.sh prints them over the translation d470ea0e8a171655… (all of the seat's roots in one cut). By AI agents, Wed Nov 11 2026. No macro, syntax, notation, axiom, sorry.
-/
import Derived.Test.YtcbncliplbecdaaChecked
import GoSem.Claim
import GoSem.ClaimJoined
import GoSem.ClaimMapViews
import Derived.JoinedTies
import Derived.KernelRfl
namespace Go.Proofs.Ytcbncliplbecdaa
/- THE CELL 'sum', in the pinned program and in every row, IS THE sha256 OF THE DUMP (.gsa) THAT YtcbncliplbecdaaProg.lean LOADS. Nothing in Lean hashes anything: it is a label: what it is worth is what the hold of that sum in a sandbox is worth. -/
noncomputable def Try.pinned : Pinned := { name := "ytcbncliplbecdaa", sum := "d470ea0e8a171655d64d215b07f50d044fd8b77cea31d7e7c75af2dc8de450ec", checked := Try.checked }
namespace Rows
def none {H : Type} : Left H := { results := [], args := [] }

/-- 'odographlaw09.PulseDeltas': WHATEVER THE INPUT: true; the input reads as it did. -/
def pulseDeltasSpec : ChangeSpec := { name := "pulseDeltas", fn := fun _ => fun
  | [d1, d2] => { results := [.lit (.bool true)], args := [d1, d2] }
  | _ => none }
def pulseDeltasRow : OpenClaim := { program := "ytcbncliplbecdaa", sum := "d470ea0e8a171655d64d215b07f50d044fd8b77cea31d7e7c75af2dc8de450ec", func := "odograph/odographlaw09.PulseDeltas", spec := "pulseDeltas", apart := false }
def PulseDeltasSaid : Prop := pulseDeltasRow.holds Try.pinned (OpenSpec.ofChange pulseDeltasSpec)

/-- ITS FALSE NEIGHBOUR: 'it returns false'. Refute it at one input. -/
def pulseDeltasWrong : ChangeSpec := { name := "pulseDeltas", fn := fun _ => fun
  | [d1, d2] => { results := [.lit (.bool false)], args := [d1, d2] }
  | _ => none }
def PulseDeltasWrongFalsely : Prop := pulseDeltasRow.holds Try.pinned (OpenSpec.ofChange pulseDeltasWrong)

/-- 'odographlaw09.PulseBack': WHATEVER THE INPUT: true; the input reads as it did. -/
def pulseBackSpec : ChangeSpec := { name := "pulseBack", fn := fun _ => fun
  | [d1, d2] => { results := [.lit (.bool true)], args := [d1, d2] }
  | _ => none }
def pulseBackRow : OpenClaim := { program := "ytcbncliplbecdaa", sum := "d470ea0e8a171655d64d215b07f50d044fd8b77cea31d7e7c75af2dc8de450ec", func := "odograph/odographlaw09.PulseBack", spec := "pulseBack", apart := false }
def PulseBackSaid : Prop := pulseBackRow.holds Try.pinned (OpenSpec.ofChange pulseBackSpec)

/-- ITS FALSE NEIGHBOUR: 'it returns false'. Refute it at one input. -/
def pulseBackWrong : ChangeSpec := { name := "pulseBack", fn := fun _ => fun
  | [d1, d2] => { results := [.lit (.bool false)], args := [d1, d2] }
  | _ => none }
def PulseBackWrongFalsely : Prop := pulseBackRow.holds Try.pinned (OpenSpec.ofChange pulseBackWrong)

/-- 'odographlaw01.NumMids': WHATEVER THE INPUT: true; the input reads as it did. -/
def numMidsSpec : ChangeSpec := { name := "numMids", fn := fun _ => fun
  | [d1, d2, d3] => { results := [.lit (.bool true)], args := [d1, d2, d3] }
  | _ => none }
def numMidsRow : OpenClaim := { program := "ytcbncliplbecdaa", sum := "d470ea0e8a171655d64d215b07f50d044fd8b77cea31d7e7c75af2dc8de450ec", func := "odograph/odographlaw01.NumMids", spec := "numMids", apart := false }
def NumMidsSaid : Prop := numMidsRow.holds Try.pinned (OpenSpec.ofChange numMidsSpec)

/-- ITS FALSE NEIGHBOUR: 'it returns false'. Refute it at one input. -/
def numMidsWrong : ChangeSpec := { name := "numMids", fn := fun _ => fun
  | [d1, d2, d3] => { results := [.lit (.bool false)], args := [d1, d2, d3] }
  | _ => none }
def NumMidsWrongFalsely : Prop := numMidsRow.holds Try.pinned (OpenSpec.ofChange numMidsWrong)

/-- 'odographlaw01.NumUndo': WHATEVER THE INPUT: true; the input reads as it did. -/
def numUndoSpec : ChangeSpec := { name := "numUndo", fn := fun _ => fun
  | [d1, d2] => { results := [.lit (.bool true)], args := [d1, d2] }
  | _ => none }
def numUndoRow : OpenClaim := { program := "ytcbncliplbecdaa", sum := "d470ea0e8a171655d64d215b07f50d044fd8b77cea31d7e7c75af2dc8de450ec", func := "odograph/odographlaw01.NumUndo", spec := "numUndo", apart := false }
def NumUndoSaid : Prop := numUndoRow.holds Try.pinned (OpenSpec.ofChange numUndoSpec)

/-- ITS FALSE NEIGHBOUR: 'it returns false'. Refute it at one input. -/
def numUndoWrong : ChangeSpec := { name := "numUndo", fn := fun _ => fun
  | [d1, d2] => { results := [.lit (.bool false)], args := [d1, d2] }
  | _ => none }
def NumUndoWrongFalsely : Prop := numUndoRow.holds Try.pinned (OpenSpec.ofChange numUndoWrong)

/-- 'odographlaw01.NumSums': WHATEVER THE INPUT: true; the input reads as it did. -/
def numSumsSpec : ChangeSpec := { name := "numSums", fn := fun _ => fun
  | [d1, d2] => { results := [.lit (.bool true)], args := [d1, d2] }
  | _ => none }
def numSumsRow : OpenClaim := { program := "ytcbncliplbecdaa", sum := "d470ea0e8a171655d64d215b07f50d044fd8b77cea31d7e7c75af2dc8de450ec", func := "odograph/odographlaw01.NumSums", spec := "numSums", apart := false }
def NumSumsSaid : Prop := numSumsRow.holds Try.pinned (OpenSpec.ofChange numSumsSpec)

/-- ITS FALSE NEIGHBOUR: 'it returns false'. Refute it at one input. -/
def numSumsWrong : ChangeSpec := { name := "numSums", fn := fun _ => fun
  | [d1, d2] => { results := [.lit (.bool false)], args := [d1, d2] }
  | _ => none }
def NumSumsWrongFalsely : Prop := numSumsRow.holds Try.pinned (OpenSpec.ofChange numSumsWrong)

/-- 'odographlaw09.PulseNexts': WHATEVER THE INPUT: true; the input reads as it did. -/
def pulseNextsSpec : ChangeSpec := { name := "pulseNexts", fn := fun _ => fun
  | [d1, d2, d3] => { results := [.lit (.bool true)], args := [d1, d2, d3] }
  | _ => none }
def pulseNextsRow : OpenClaim := { program := "ytcbncliplbecdaa", sum := "d470ea0e8a171655d64d215b07f50d044fd8b77cea31d7e7c75af2dc8de450ec", func := "odograph/odographlaw09.PulseNexts", spec := "pulseNexts", apart := false }
def PulseNextsSaid : Prop := pulseNextsRow.holds Try.pinned (OpenSpec.ofChange pulseNextsSpec)

/-- ITS FALSE NEIGHBOUR: 'it returns false'. Refute it at one input. -/
def pulseNextsWrong : ChangeSpec := { name := "pulseNexts", fn := fun _ => fun
  | [d1, d2, d3] => { results := [.lit (.bool false)], args := [d1, d2, d3] }
  | _ => none }
def PulseNextsWrongFalsely : Prop := pulseNextsRow.holds Try.pinned (OpenSpec.ofChange pulseNextsWrong)

/-- 'odographlaw09.PulseSums': WHATEVER THE INPUT: true; the input reads as it did. -/
def pulseSumsSpec : ChangeSpec := { name := "pulseSums", fn := fun _ => fun
  | [d1, d2, d3] => { results := [.lit (.bool true)], args := [d1, d2, d3] }
  | _ => none }
def pulseSumsRow : OpenClaim := { program := "ytcbncliplbecdaa", sum := "d470ea0e8a171655d64d215b07f50d044fd8b77cea31d7e7c75af2dc8de450ec", func := "odograph/odographlaw09.PulseSums", spec := "pulseSums", apart := false }
def PulseSumsSaid : Prop := pulseSumsRow.holds Try.pinned (OpenSpec.ofChange pulseSumsSpec)

/-- ITS FALSE NEIGHBOUR: 'it returns false'. Refute it at one input. -/
def pulseSumsWrong : ChangeSpec := { name := "pulseSums", fn := fun _ => fun
  | [d1, d2, d3] => { results := [.lit (.bool false)], args := [d1, d2, d3] }
  | _ => none }
def PulseSumsWrongFalsely : Prop := pulseSumsRow.holds Try.pinned (OpenSpec.ofChange pulseSumsWrong)

/-- 'odographlaw01.NumProducts': WHATEVER THE INPUT: true; the input reads as it did. -/
def numProductsSpec : ChangeSpec := { name := "numProducts", fn := fun _ => fun
  | [d1, d2] => { results := [.lit (.bool true)], args := [d1, d2] }
  | _ => none }
def numProductsRow : OpenClaim := { program := "ytcbncliplbecdaa", sum := "d470ea0e8a171655d64d215b07f50d044fd8b77cea31d7e7c75af2dc8de450ec", func := "odograph/odographlaw01.NumProducts", spec := "numProducts", apart := false }
def NumProductsSaid : Prop := numProductsRow.holds Try.pinned (OpenSpec.ofChange numProductsSpec)

/-- ITS FALSE NEIGHBOUR: 'it returns false'. Refute it at one input. -/
def numProductsWrong : ChangeSpec := { name := "numProducts", fn := fun _ => fun
  | [d1, d2] => { results := [.lit (.bool false)], args := [d1, d2] }
  | _ => none }
def NumProductsWrongFalsely : Prop := numProductsRow.holds Try.pinned (OpenSpec.ofChange numProductsWrong)

/-- 'odographlaw01.NumSigns': WHATEVER THE INPUT: true; the input reads as it did. -/
def numSignsSpec : ChangeSpec := { name := "numSigns", fn := fun _ => fun
  | [d] => { results := [.lit (.bool true)], args := [d] }
  | _ => none }
def numSignsRow : OpenClaim := { program := "ytcbncliplbecdaa", sum := "d470ea0e8a171655d64d215b07f50d044fd8b77cea31d7e7c75af2dc8de450ec", func := "odograph/odographlaw01.NumSigns", spec := "numSigns", apart := false }
def NumSignsSaid : Prop := numSignsRow.holds Try.pinned (OpenSpec.ofChange numSignsSpec)

/-- ITS FALSE NEIGHBOUR: 'it returns false'. Refute it at one input. -/
def numSignsWrong : ChangeSpec := { name := "numSigns", fn := fun _ => fun
  | [d] => { results := [.lit (.bool false)], args := [d] }
  | _ => none }
def NumSignsWrongFalsely : Prop := numSignsRow.holds Try.pinned (OpenSpec.ofChange numSignsWrong)

/- THE SECOND FORM. 'bulk': how many values and letters a reading holds, each counted each time it is reached (what is shared counts as often as it is met; a slice's spare places count too). A statement '..UptoSaid' is the law's where the arguments, and the package variables that the reading takes, are together of bulk at most 1048576: NARROWER than '..Said'. Prove '..Said' where nothing that the law and all that it calls make is longer than what came in: it says more and counts as full. Else prove '..UptoSaid'. A law counts once. -/
mutual
def uptoBulk {H : Type} : DataW H → Nat
  | .lit (.string bytes) => bytes.length + 1
  | .lit _ => 1
  | .nil => 1
  | .ptr d => uptoBulk d + 1
  | .slice elems spare => uptoBulkAll elems + uptoBulkAll spare + 1
  | .agg parts => uptoBulkAll parts + 1
  | .iface _ d => uptoBulk d + 1
  | .map entries => uptoBulkEntries entries + 1
  | .held _ => 1
def uptoBulkAll {H : Type} : List (DataW H) → Nat
  | [] => 0
  | d :: r => uptoBulk d + uptoBulkAll r
def uptoBulkEntries {H : Type} : List (Lit × DataW H) → Nat
  | [] => 0
  | x :: r => uptoBulkEntry x + uptoBulkEntries r
def uptoBulkEntry {H : Type} : Lit × DataW H → Nat
  | (.string bytes, d) => bytes.length + uptoBulk d + 1
  | (_, d) => uptoBulk d + 1
 end
def uptoSmall : (H : Type) → List (DataW H) → Bool := fun _ ds => decide (uptoBulkAll ds ≤ 1048576)
def OpenSpec.upto (s : _root_.Go.ChangeSpec) : _root_.Go.OpenSpec := { _root_.Go.OpenSpec.ofChange s with cond := some uptoSmall }

/-- 'odographlaw09.PulseDeltas', WHERE WHAT IT READS IS OF BULK AT MOST 1048576: true; the input reads as it did. -/
def pulseDeltasUptoRow : OpenClaim := { program := "ytcbncliplbecdaa", sum := "d470ea0e8a171655d64d215b07f50d044fd8b77cea31d7e7c75af2dc8de450ec", func := "odograph/odographlaw09.PulseDeltas", spec := "pulseDeltas", apart := false, narrowed := true }
def PulseDeltasUptoSaid : Prop := pulseDeltasUptoRow.holds Try.pinned (OpenSpec.upto pulseDeltasSpec)

/-- 'odographlaw09.PulseBack', WHERE WHAT IT READS IS OF BULK AT MOST 1048576: true; the input reads as it did. -/
def pulseBackUptoRow : OpenClaim := { program := "ytcbncliplbecdaa", sum := "d470ea0e8a171655d64d215b07f50d044fd8b77cea31d7e7c75af2dc8de450ec", func := "odograph/odographlaw09.PulseBack", spec := "pulseBack", apart := false, narrowed := true }
def PulseBackUptoSaid : Prop := pulseBackUptoRow.holds Try.pinned (OpenSpec.upto pulseBackSpec)

/-- 'odographlaw01.NumMids', WHERE WHAT IT READS IS OF BULK AT MOST 1048576: true; the input reads as it did. -/
def numMidsUptoRow : OpenClaim := { program := "ytcbncliplbecdaa", sum := "d470ea0e8a171655d64d215b07f50d044fd8b77cea31d7e7c75af2dc8de450ec", func := "odograph/odographlaw01.NumMids", spec := "numMids", apart := false, narrowed := true }
def NumMidsUptoSaid : Prop := numMidsUptoRow.holds Try.pinned (OpenSpec.upto numMidsSpec)

/-- 'odographlaw01.NumUndo', WHERE WHAT IT READS IS OF BULK AT MOST 1048576: true; the input reads as it did. -/
def numUndoUptoRow : OpenClaim := { program := "ytcbncliplbecdaa", sum := "d470ea0e8a171655d64d215b07f50d044fd8b77cea31d7e7c75af2dc8de450ec", func := "odograph/odographlaw01.NumUndo", spec := "numUndo", apart := false, narrowed := true }
def NumUndoUptoSaid : Prop := numUndoUptoRow.holds Try.pinned (OpenSpec.upto numUndoSpec)

/-- 'odographlaw01.NumSums', WHERE WHAT IT READS IS OF BULK AT MOST 1048576: true; the input reads as it did. -/
def numSumsUptoRow : OpenClaim := { program := "ytcbncliplbecdaa", sum := "d470ea0e8a171655d64d215b07f50d044fd8b77cea31d7e7c75af2dc8de450ec", func := "odograph/odographlaw01.NumSums", spec := "numSums", apart := false, narrowed := true }
def NumSumsUptoSaid : Prop := numSumsUptoRow.holds Try.pinned (OpenSpec.upto numSumsSpec)

/-- 'odographlaw09.PulseNexts', WHERE WHAT IT READS IS OF BULK AT MOST 1048576: true; the input reads as it did. -/
def pulseNextsUptoRow : OpenClaim := { program := "ytcbncliplbecdaa", sum := "d470ea0e8a171655d64d215b07f50d044fd8b77cea31d7e7c75af2dc8de450ec", func := "odograph/odographlaw09.PulseNexts", spec := "pulseNexts", apart := false, narrowed := true }
def PulseNextsUptoSaid : Prop := pulseNextsUptoRow.holds Try.pinned (OpenSpec.upto pulseNextsSpec)

/-- 'odographlaw09.PulseSums', WHERE WHAT IT READS IS OF BULK AT MOST 1048576: true; the input reads as it did. -/
def pulseSumsUptoRow : OpenClaim := { program := "ytcbncliplbecdaa", sum := "d470ea0e8a171655d64d215b07f50d044fd8b77cea31d7e7c75af2dc8de450ec", func := "odograph/odographlaw09.PulseSums", spec := "pulseSums", apart := false, narrowed := true }
def PulseSumsUptoSaid : Prop := pulseSumsUptoRow.holds Try.pinned (OpenSpec.upto pulseSumsSpec)

/-- 'odographlaw01.NumProducts', WHERE WHAT IT READS IS OF BULK AT MOST 1048576: true; the input reads as it did. -/
def numProductsUptoRow : OpenClaim := { program := "ytcbncliplbecdaa", sum := "d470ea0e8a171655d64d215b07f50d044fd8b77cea31d7e7c75af2dc8de450ec", func := "odograph/odographlaw01.NumProducts", spec := "numProducts", apart := false, narrowed := true }
def NumProductsUptoSaid : Prop := numProductsUptoRow.holds Try.pinned (OpenSpec.upto numProductsSpec)

/-- 'odographlaw01.NumSigns', WHERE WHAT IT READS IS OF BULK AT MOST 1048576: true; the input reads as it did. -/
def numSignsUptoRow : OpenClaim := { program := "ytcbncliplbecdaa", sum := "d470ea0e8a171655d64d215b07f50d044fd8b77cea31d7e7c75af2dc8de450ec", func := "odograph/odographlaw01.NumSigns", spec := "numSigns", apart := false, narrowed := true }
def NumSignsUptoSaid : Prop := numSignsUptoRow.holds Try.pinned (OpenSpec.upto numSignsSpec)

end Rows
end Go.Proofs.Ytcbncliplbecdaa
