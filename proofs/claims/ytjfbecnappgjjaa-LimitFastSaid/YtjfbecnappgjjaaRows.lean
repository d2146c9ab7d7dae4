/-
  No cell of these rows narrows 'for every input' (looked for: loops, veiled, ifaces, maps, wideKeys, modest, calm, conditions, laid).
  DERIVED. THE GIVEN ROWS OF THIS SEAT. 8 by the template 'for every input the law returns true; each argument reads behind the call as it read before'; 0 by the template 'total and deterministic' (their statements: YtjfbecnappgjjaaTotals.lean).
  GIVEN WITH THE SEED: the statements are not yours to turn. If you find one false, say at which input.
  Laid BY PROGRAM, IN A SANDBOX (cutbox-rows.mjs): the forced cells as the released guide's own fill.sh prints them over the translation c62b3c80bb044345… (all of the seat's roots in one cut). By AI agents, Wed Nov 11 2026. No macro, syntax, notation, axiom, sorry.
-/
import Derived.Test.YtjfbecnappgjjaaChecked
import GoSem.Claim
import GoSem.ClaimJoined
import GoSem.ClaimMapViews
import Derived.JoinedTies
import Derived.KernelRfl
namespace Go.Proofs.Ytjfbecnappgjjaa
/- THE CELL 'sum', in the pinned program and in every row, IS THE sha256 OF THE DUMP (.gsa) THAT YtjfbecnappgjjaaProg.lean LOADS. Nothing in Lean hashes anything: it is a label: what it is worth is what the hold of that sum in a sandbox is worth. -/
noncomputable def Try.pinned : Pinned := { name := "ytjfbecnappgjjaa", sum := "c62b3c80bb04434554ec7d420f4c7f29c772e9cea681582f677eeed8132f980b", checked := Try.checked }
namespace Rows
def none {H : Type} : Left H := { results := [], args := [] }

/-- 'odographlaw31.SpotsOf': WHATEVER THE INPUT: true; the input reads as it did. -/
def spotsOfSpec : ChangeSpec := { name := "spotsOf", fn := fun _ => fun
  | [d1, d2] => { results := [.lit (.bool true)], args := [d1, d2] }
  | _ => none }
def spotsOfRow : OpenClaim := { program := "ytjfbecnappgjjaa", sum := "c62b3c80bb04434554ec7d420f4c7f29c772e9cea681582f677eeed8132f980b", func := "odograph/odographlaw31.SpotsOf", spec := "spotsOf", unfollowed := true, recurses := true, apart := false }
def SpotsOfSaid : Prop := spotsOfRow.holds Try.pinned (OpenSpec.ofChange spotsOfSpec)

/-- ITS FALSE NEIGHBOUR: 'it returns false'. Refute it at one input. -/
def spotsOfWrong : ChangeSpec := { name := "spotsOf", fn := fun _ => fun
  | [d1, d2] => { results := [.lit (.bool false)], args := [d1, d2] }
  | _ => none }
def SpotsOfWrongFalsely : Prop := spotsOfRow.holds Try.pinned (OpenSpec.ofChange spotsOfWrong)

/-- 'odographlaw31.SpotsAre': WHATEVER THE INPUT: true; the input reads as it did. -/
def spotsAreSpec : ChangeSpec := { name := "spotsAre", fn := fun _ => fun
  | [d1, d2, d3, d4, d5, d6] => { results := [.lit (.bool true)], args := [d1, d2, d3, d4, d5, d6] }
  | _ => none }
def spotsAreRow : OpenClaim := { program := "ytjfbecnappgjjaa", sum := "c62b3c80bb04434554ec7d420f4c7f29c772e9cea681582f677eeed8132f980b", func := "odograph/odographlaw31.SpotsAre", spec := "spotsAre", unfollowed := true, recurses := true, apart := false }
def SpotsAreSaid : Prop := spotsAreRow.holds Try.pinned (OpenSpec.ofChange spotsAreSpec)

/-- ITS FALSE NEIGHBOUR: 'it returns false'. Refute it at one input. -/
def spotsAreWrong : ChangeSpec := { name := "spotsAre", fn := fun _ => fun
  | [d1, d2, d3, d4, d5, d6] => { results := [.lit (.bool false)], args := [d1, d2, d3, d4, d5, d6] }
  | _ => none }
def SpotsAreWrongFalsely : Prop := spotsAreRow.holds Try.pinned (OpenSpec.ofChange spotsAreWrong)

/-- 'odographlaw31.SpotsTrue': WHATEVER THE INPUT: true; the input reads as it did. -/
def spotsTrueSpec : ChangeSpec := { name := "spotsTrue", fn := fun _ => fun
  | [d1, d2, d3, d4, d5, d6] => { results := [.lit (.bool true)], args := [d1, d2, d3, d4, d5, d6] }
  | _ => none }
def spotsTrueRow : OpenClaim := { program := "ytjfbecnappgjjaa", sum := "c62b3c80bb04434554ec7d420f4c7f29c772e9cea681582f677eeed8132f980b", func := "odograph/odographlaw31.SpotsTrue", spec := "spotsTrue", unfollowed := true, recurses := true, apart := false }
def SpotsTrueSaid : Prop := spotsTrueRow.holds Try.pinned (OpenSpec.ofChange spotsTrueSpec)

/-- ITS FALSE NEIGHBOUR: 'it returns false'. Refute it at one input. -/
def spotsTrueWrong : ChangeSpec := { name := "spotsTrue", fn := fun _ => fun
  | [d1, d2, d3, d4, d5, d6] => { results := [.lit (.bool false)], args := [d1, d2, d3, d4, d5, d6] }
  | _ => none }
def SpotsTrueWrongFalsely : Prop := spotsTrueRow.holds Try.pinned (OpenSpec.ofChange spotsTrueWrong)

/-- 'odographlaw31.SpotsWiden': WHATEVER THE INPUT: true; the input reads as it did. -/
def spotsWidenSpec : ChangeSpec := { name := "spotsWiden", fn := fun _ => fun
  | [d1, d2, d3, d4, d5, d6, d7, d8] => { results := [.lit (.bool true)], args := [d1, d2, d3, d4, d5, d6, d7, d8] }
  | _ => none }
def spotsWidenRow : OpenClaim := { program := "ytjfbecnappgjjaa", sum := "c62b3c80bb04434554ec7d420f4c7f29c772e9cea681582f677eeed8132f980b", func := "odograph/odographlaw31.SpotsWiden", spec := "spotsWiden", unfollowed := true, recurses := true, apart := false }
def SpotsWidenSaid : Prop := spotsWidenRow.holds Try.pinned (OpenSpec.ofChange spotsWidenSpec)

/-- ITS FALSE NEIGHBOUR: 'it returns false'. Refute it at one input. -/
def spotsWidenWrong : ChangeSpec := { name := "spotsWiden", fn := fun _ => fun
  | [d1, d2, d3, d4, d5, d6, d7, d8] => { results := [.lit (.bool false)], args := [d1, d2, d3, d4, d5, d6, d7, d8] }
  | _ => none }
def SpotsWidenWrongFalsely : Prop := spotsWidenRow.holds Try.pinned (OpenSpec.ofChange spotsWidenWrong)

/-- 'odographlaw32.TailCovers': WHATEVER THE INPUT: true; the input reads as it did. -/
def tailCoversSpec : ChangeSpec := { name := "tailCovers", fn := fun _ => fun
  | [d1, d2, d3, d4] => { results := [.lit (.bool true)], args := [d1, d2, d3, d4] }
  | _ => none }
def tailCoversRow : OpenClaim := { program := "ytjfbecnappgjjaa", sum := "c62b3c80bb04434554ec7d420f4c7f29c772e9cea681582f677eeed8132f980b", func := "odograph/odographlaw32.TailCovers", spec := "tailCovers", unfollowed := true, recurses := true, apart := false }
def TailCoversSaid : Prop := tailCoversRow.holds Try.pinned (OpenSpec.ofChange tailCoversSpec)

/-- ITS FALSE NEIGHBOUR: 'it returns false'. Refute it at one input. -/
def tailCoversWrong : ChangeSpec := { name := "tailCovers", fn := fun _ => fun
  | [d1, d2, d3, d4] => { results := [.lit (.bool false)], args := [d1, d2, d3, d4] }
  | _ => none }
def TailCoversWrongFalsely : Prop := tailCoversRow.holds Try.pinned (OpenSpec.ofChange tailCoversWrong)

/-- 'odographlaw32.TailTrue': WHATEVER THE INPUT: true; the input reads as it did. -/
def tailTrueSpec : ChangeSpec := { name := "tailTrue", fn := fun _ => fun
  | [d1, d2, d3, d4, d5, d6] => { results := [.lit (.bool true)], args := [d1, d2, d3, d4, d5, d6] }
  | _ => none }
def tailTrueRow : OpenClaim := { program := "ytjfbecnappgjjaa", sum := "c62b3c80bb04434554ec7d420f4c7f29c772e9cea681582f677eeed8132f980b", func := "odograph/odographlaw32.TailTrue", spec := "tailTrue", unfollowed := true, recurses := true, apart := false }
def TailTrueSaid : Prop := tailTrueRow.holds Try.pinned (OpenSpec.ofChange tailTrueSpec)

/-- ITS FALSE NEIGHBOUR: 'it returns false'. Refute it at one input. -/
def tailTrueWrong : ChangeSpec := { name := "tailTrue", fn := fun _ => fun
  | [d1, d2, d3, d4, d5, d6] => { results := [.lit (.bool false)], args := [d1, d2, d3, d4, d5, d6] }
  | _ => none }
def TailTrueWrongFalsely : Prop := tailTrueRow.holds Try.pinned (OpenSpec.ofChange tailTrueWrong)

/-- 'odographlaw32.TailLonger': WHATEVER THE INPUT: true; the input reads as it did. -/
def tailLongerSpec : ChangeSpec := { name := "tailLonger", fn := fun _ => fun
  | [d1, d2, d3, d4, d5, d6] => { results := [.lit (.bool true)], args := [d1, d2, d3, d4, d5, d6] }
  | _ => none }
def tailLongerRow : OpenClaim := { program := "ytjfbecnappgjjaa", sum := "c62b3c80bb04434554ec7d420f4c7f29c772e9cea681582f677eeed8132f980b", func := "odograph/odographlaw32.TailLonger", spec := "tailLonger", unfollowed := true, recurses := true, apart := false }
def TailLongerSaid : Prop := tailLongerRow.holds Try.pinned (OpenSpec.ofChange tailLongerSpec)

/-- ITS FALSE NEIGHBOUR: 'it returns false'. Refute it at one input. -/
def tailLongerWrong : ChangeSpec := { name := "tailLonger", fn := fun _ => fun
  | [d1, d2, d3, d4, d5, d6] => { results := [.lit (.bool false)], args := [d1, d2, d3, d4, d5, d6] }
  | _ => none }
def TailLongerWrongFalsely : Prop := tailLongerRow.holds Try.pinned (OpenSpec.ofChange tailLongerWrong)

/-- 'odographlaw33.LimitFast': WHATEVER THE INPUT: true; the input reads as it did. -/
def limitFastSpec : ChangeSpec := { name := "limitFast", fn := fun _ => fun
  | [d1, d2, d3, d4, d5, d6] => { results := [.lit (.bool true)], args := [d1, d2, d3, d4, d5, d6] }
  | _ => none }
def limitFastRow : OpenClaim := { program := "ytjfbecnappgjjaa", sum := "c62b3c80bb04434554ec7d420f4c7f29c772e9cea681582f677eeed8132f980b", func := "odograph/odographlaw33.LimitFast", spec := "limitFast", unfollowed := true, recurses := true, apart := false }
def LimitFastSaid : Prop := limitFastRow.holds Try.pinned (OpenSpec.ofChange limitFastSpec)

/-- ITS FALSE NEIGHBOUR: 'it returns false'. Refute it at one input. -/
def limitFastWrong : ChangeSpec := { name := "limitFast", fn := fun _ => fun
  | [d1, d2, d3, d4, d5, d6] => { results := [.lit (.bool false)], args := [d1, d2, d3, d4, d5, d6] }
  | _ => none }
def LimitFastWrongFalsely : Prop := limitFastRow.holds Try.pinned (OpenSpec.ofChange limitFastWrong)

/- THE SECOND FORM. 'bulk': how many values and letters a reading holds, each counted each time it is reached (what is shared counts as often as it is met; a slice's spare places count too). A statement '..UptoSaid' is the law's where the arguments, and the package variables that the reading takes, are together of bulk at most 1048576: NARROWER than '..Said'. Prove '..Said' where nothing that the law and all that it calls make is longer than what came in: it says more and counts as full. Else prove '..UptoSaid'. A law counts once. -/
mutual
def uptoBulk {H : Type} : DataW H → Nat
  | .lit (.string bytes) => bytes.length + 1
  | .lit _ => 1
  | .nil => 1
  | .ptr d => uptoBulk d + 1
  | .slice elems spare => uptoBulkAll elems + uptoBulkAll spare + 1
  | .agg parts => uptoBulkAll parts + 1
  | .iface _ d => uptoBulk d + 1
  | .map entries => uptoBulkEntries entries + 1
  | .held _ => 1
def uptoBulkAll {H : Type} : List (DataW H) → Nat
  | [] => 0
  | d :: r => uptoBulk d + uptoBulkAll r
def uptoBulkEntries {H : Type} : List (Lit × DataW H) → Nat
  | [] => 0
  | x :: r => uptoBulkEntry x + uptoBulkEntries r
def uptoBulkEntry {H : Type} : Lit × DataW H → Nat
  | (.string bytes, d) => bytes.length + uptoBulk d + 1
  | (_, d) => uptoBulk d + 1
 end
def uptoSmall : (H : Type) → List (DataW H) → Bool := fun _ ds => decide (uptoBulkAll ds ≤ 1048576)
def OpenSpec.upto (s : _root_.Go.ChangeSpec) : _root_.Go.OpenSpec := { _root_.Go.OpenSpec.ofChange s with cond := some uptoSmall }

/-- 'odographlaw31.SpotsOf', WHERE WHAT IT READS IS OF BULK AT MOST 1048576: true; the input reads as it did. -/
def spotsOfUptoRow : OpenClaim := { program := "ytjfbecnappgjjaa", sum := "c62b3c80bb04434554ec7d420f4c7f29c772e9cea681582f677eeed8132f980b", func := "odograph/odographlaw31.SpotsOf", spec := "spotsOf", unfollowed := true, recurses := true, apart := false, narrowed := true }
def SpotsOfUptoSaid : Prop := spotsOfUptoRow.holds Try.pinned (OpenSpec.upto spotsOfSpec)

/-- 'odographlaw31.SpotsAre', WHERE WHAT IT READS IS OF BULK AT MOST 1048576: true; the input reads as it did. -/
def spotsAreUptoRow : OpenClaim := { program := "ytjfbecnappgjjaa", sum := "c62b3c80bb04434554ec7d420f4c7f29c772e9cea681582f677eeed8132f980b", func := "odograph/odographlaw31.SpotsAre", spec := "spotsAre", unfollowed := true, recurses := true, apart := false, narrowed := true }
def SpotsAreUptoSaid : Prop := spotsAreUptoRow.holds Try.pinned (OpenSpec.upto spotsAreSpec)

/-- 'odographlaw31.SpotsTrue', WHERE WHAT IT READS IS OF BULK AT MOST 1048576: true; the input reads as it did. -/
def spotsTrueUptoRow : OpenClaim := { program := "ytjfbecnappgjjaa", sum := "c62b3c80bb04434554ec7d420f4c7f29c772e9cea681582f677eeed8132f980b", func := "odograph/odographlaw31.SpotsTrue", spec := "spotsTrue", unfollowed := true, recurses := true, apart := false, narrowed := true }
def SpotsTrueUptoSaid : Prop := spotsTrueUptoRow.holds Try.pinned (OpenSpec.upto spotsTrueSpec)

/-- 'odographlaw31.SpotsWiden', WHERE WHAT IT READS IS OF BULK AT MOST 1048576: true; the input reads as it did. -/
def spotsWidenUptoRow : OpenClaim := { program := "ytjfbecnappgjjaa", sum := "c62b3c80bb04434554ec7d420f4c7f29c772e9cea681582f677eeed8132f980b", func := "odograph/odographlaw31.SpotsWiden", spec := "spotsWiden", unfollowed := true, recurses := true, apart := false, narrowed := true }
def SpotsWidenUptoSaid : Prop := spotsWidenUptoRow.holds Try.pinned (OpenSpec.upto spotsWidenSpec)

/-- 'odographlaw32.TailCovers', WHERE WHAT IT READS IS OF BULK AT MOST 1048576: true; the input reads as it did. -/
def tailCoversUptoRow : OpenClaim := { program := "ytjfbecnappgjjaa", sum := "c62b3c80bb04434554ec7d420f4c7f29c772e9cea681582f677eeed8132f980b", func := "odograph/odographlaw32.TailCovers", spec := "tailCovers", unfollowed := true, recurses := true, apart := false, narrowed := true }
def TailCoversUptoSaid : Prop := tailCoversUptoRow.holds Try.pinned (OpenSpec.upto tailCoversSpec)

/-- 'odographlaw32.TailTrue', WHERE WHAT IT READS IS OF BULK AT MOST 1048576: true; the input reads as it did. -/
def tailTrueUptoRow : OpenClaim := { program := "ytjfbecnappgjjaa", sum := "c62b3c80bb04434554ec7d420f4c7f29c772e9cea681582f677eeed8132f980b", func := "odograph/odographlaw32.TailTrue", spec := "tailTrue", unfollowed := true, recurses := true, apart := false, narrowed := true }
def TailTrueUptoSaid : Prop := tailTrueUptoRow.holds Try.pinned (OpenSpec.upto tailTrueSpec)

/-- 'odographlaw32.TailLonger', WHERE WHAT IT READS IS OF BULK AT MOST 1048576: true; the input reads as it did. -/
def tailLongerUptoRow : OpenClaim := { program := "ytjfbecnappgjjaa", sum := "c62b3c80bb04434554ec7d420f4c7f29c772e9cea681582f677eeed8132f980b", func := "odograph/odographlaw32.TailLonger", spec := "tailLonger", unfollowed := true, recurses := true, apart := false, narrowed := true }
def TailLongerUptoSaid : Prop := tailLongerUptoRow.holds Try.pinned (OpenSpec.upto tailLongerSpec)

/-- 'odographlaw33.LimitFast', WHERE WHAT IT READS IS OF BULK AT MOST 1048576: true; the input reads as it did. -/
def limitFastUptoRow : OpenClaim := { program := "ytjfbecnappgjjaa", sum := "c62b3c80bb04434554ec7d420f4c7f29c772e9cea681582f677eeed8132f980b", func := "odograph/odographlaw33.LimitFast", spec := "limitFast", unfollowed := true, recurses := true, apart := false, narrowed := true }
def LimitFastUptoSaid : Prop := limitFastUptoRow.holds Try.pinned (OpenSpec.upto limitFastSpec)

end Rows
end Go.Proofs.Ytjfbecnappgjjaa
