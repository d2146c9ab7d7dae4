/-
  No cell of these rows narrows 'for every input' (looked for: loops, veiled, ifaces, maps, wideKeys, modest, calm, conditions, laid).
  DERIVED. THE GIVEN ROWS OF THIS SEAT. 9 by the template 'for every input the law returns true; each argument reads behind the call as it read before'; 0 by the template 'total and deterministic' (their statements: YtpiocfmdjgbamaaTotals.lean).
  GIVEN WITH THE SEED: the statements are not yours to turn. If you find one false, say at which input.
  Laid BY PROGRAM, IN A SANDBOX (cutbox-rows.mjs): the forced cells as the released guide's own fill.sh prints them over the translation 0e09307f17856e3b… (all of the seat's roots in one cut). By AI agents, Wed Nov 11 2026. No macro, syntax, notation, axiom, sorry.
-/
import Derived.Test.YtpiocfmdjgbamaaChecked
import GoSem.Claim
import GoSem.ClaimJoined
import GoSem.ClaimMapViews
import Derived.JoinedTies
import Derived.KernelRfl
namespace Go.Proofs.Ytpiocfmdjgbamaa
/- THE CELL 'sum', in the pinned program and in every row, IS THE sha256 OF THE DUMP (.gsa) THAT YtpiocfmdjgbamaaProg.lean LOADS. Nothing in Lean hashes anything: it is a label: what it is worth is what the hold of that sum in a sandbox is worth. -/
noncomputable def Try.pinned : Pinned := { name := "ytpiocfmdjgbamaa", sum := "0e09307f17856e3b61d8e7597811072a52c5cb8a4b8ab16031b2fb4b99848e83", checked := Try.checked }
namespace Rows
def none {H : Type} : Left H := { results := [], args := [] }

/-- 'odographlaw14.RouteGrows': WHATEVER THE INPUT: true; the input reads as it did. -/
def routeGrowsSpec : ChangeSpec := { name := "routeGrows", fn := fun _ => fun
  | [d1, d2, d3, d4] => { results := [.lit (.bool true)], args := [d1, d2, d3, d4] }
  | _ => none }
def routeGrowsRow : OpenClaim := { program := "ytpiocfmdjgbamaa", sum := "0e09307f17856e3b61d8e7597811072a52c5cb8a4b8ab16031b2fb4b99848e83", func := "odograph/odographlaw14.RouteGrows", spec := "routeGrows", unfollowed := true, recurses := true, plainKeys := false, apart := false }
def RouteGrowsSaid : Prop := routeGrowsRow.holds Try.pinned (OpenSpec.ofChange routeGrowsSpec)

/-- ITS FALSE NEIGHBOUR: 'it returns false'. Refute it at one input. -/
def routeGrowsWrong : ChangeSpec := { name := "routeGrows", fn := fun _ => fun
  | [d1, d2, d3, d4] => { results := [.lit (.bool false)], args := [d1, d2, d3, d4] }
  | _ => none }
def RouteGrowsWrongFalsely : Prop := routeGrowsRow.holds Try.pinned (OpenSpec.ofChange routeGrowsWrong)

/-- 'odographlaw14.RouteAgain': WHATEVER THE INPUT: true; the input reads as it did. -/
def routeAgainSpec : ChangeSpec := { name := "routeAgain", fn := fun _ => fun
  | [d1, d2, d3, d4, d5] => { results := [.lit (.bool true)], args := [d1, d2, d3, d4, d5] }
  | _ => none }
def routeAgainRow : OpenClaim := { program := "ytpiocfmdjgbamaa", sum := "0e09307f17856e3b61d8e7597811072a52c5cb8a4b8ab16031b2fb4b99848e83", func := "odograph/odographlaw14.RouteAgain", spec := "routeAgain", unfollowed := true, recurses := true, plainKeys := false, apart := false }
def RouteAgainSaid : Prop := routeAgainRow.holds Try.pinned (OpenSpec.ofChange routeAgainSpec)

/-- ITS FALSE NEIGHBOUR: 'it returns false'. Refute it at one input. -/
def routeAgainWrong : ChangeSpec := { name := "routeAgain", fn := fun _ => fun
  | [d1, d2, d3, d4, d5] => { results := [.lit (.bool false)], args := [d1, d2, d3, d4, d5] }
  | _ => none }
def RouteAgainWrongFalsely : Prop := routeAgainRow.holds Try.pinned (OpenSpec.ofChange routeAgainWrong)

/-- 'odographlaw20.LinkPassages': WHATEVER THE INPUT: true; the input reads as it did. -/
def linkPassagesSpec : ChangeSpec := { name := "linkPassages", fn := fun _ => fun
  | [d1, d2, d3, d4, d5] => { results := [.lit (.bool true)], args := [d1, d2, d3, d4, d5] }
  | _ => none }
def linkPassagesRow : OpenClaim := { program := "ytpiocfmdjgbamaa", sum := "0e09307f17856e3b61d8e7597811072a52c5cb8a4b8ab16031b2fb4b99848e83", func := "odograph/odographlaw20.LinkPassages", spec := "linkPassages", unfollowed := true, recurses := true, plainKeys := false, apart := false }
def LinkPassagesSaid : Prop := linkPassagesRow.holds Try.pinned (OpenSpec.ofChange linkPassagesSpec)

/-- ITS FALSE NEIGHBOUR: 'it returns false'. Refute it at one input. -/
def linkPassagesWrong : ChangeSpec := { name := "linkPassages", fn := fun _ => fun
  | [d1, d2, d3, d4, d5] => { results := [.lit (.bool false)], args := [d1, d2, d3, d4, d5] }
  | _ => none }
def LinkPassagesWrongFalsely : Prop := linkPassagesRow.holds Try.pinned (OpenSpec.ofChange linkPassagesWrong)

/-- 'odographlaw14.RouteKeeps': WHATEVER THE INPUT: true; the input reads as it did. -/
def routeKeepsSpec : ChangeSpec := { name := "routeKeeps", fn := fun _ => fun
  | [d1, d2, d3, d4, d5] => { results := [.lit (.bool true)], args := [d1, d2, d3, d4, d5] }
  | _ => none }
def routeKeepsRow : OpenClaim := { program := "ytpiocfmdjgbamaa", sum := "0e09307f17856e3b61d8e7597811072a52c5cb8a4b8ab16031b2fb4b99848e83", func := "odograph/odographlaw14.RouteKeeps", spec := "routeKeeps", unfollowed := true, recurses := true, plainKeys := false, apart := false }
def RouteKeepsSaid : Prop := routeKeepsRow.holds Try.pinned (OpenSpec.ofChange routeKeepsSpec)

/-- ITS FALSE NEIGHBOUR: 'it returns false'. Refute it at one input. -/
def routeKeepsWrong : ChangeSpec := { name := "routeKeeps", fn := fun _ => fun
  | [d1, d2, d3, d4, d5] => { results := [.lit (.bool false)], args := [d1, d2, d3, d4, d5] }
  | _ => none }
def RouteKeepsWrongFalsely : Prop := routeKeepsRow.holds Try.pinned (OpenSpec.ofChange routeKeepsWrong)

/-- 'odographlaw21.PlaceMoves': WHATEVER THE INPUT: true; the input reads as it did. -/
def placeMovesSpec : ChangeSpec := { name := "placeMoves", fn := fun _ => fun
  | [d1, d2, d3, d4] => { results := [.lit (.bool true)], args := [d1, d2, d3, d4] }
  | _ => none }
def placeMovesRow : OpenClaim := { program := "ytpiocfmdjgbamaa", sum := "0e09307f17856e3b61d8e7597811072a52c5cb8a4b8ab16031b2fb4b99848e83", func := "odograph/odographlaw21.PlaceMoves", spec := "placeMoves", unfollowed := true, recurses := true, plainKeys := false, apart := false }
def PlaceMovesSaid : Prop := placeMovesRow.holds Try.pinned (OpenSpec.ofChange placeMovesSpec)

/-- ITS FALSE NEIGHBOUR: 'it returns false'. Refute it at one input. -/
def placeMovesWrong : ChangeSpec := { name := "placeMoves", fn := fun _ => fun
  | [d1, d2, d3, d4] => { results := [.lit (.bool false)], args := [d1, d2, d3, d4] }
  | _ => none }
def PlaceMovesWrongFalsely : Prop := placeMovesRow.holds Try.pinned (OpenSpec.ofChange placeMovesWrong)

/-- 'odographlaw22.BrakeFree': WHATEVER THE INPUT: true; the input reads as it did. -/
def brakeFreeSpec : ChangeSpec := { name := "brakeFree", fn := fun _ => fun
  | [d1, d2, d3, d4, d5] => { results := [.lit (.bool true)], args := [d1, d2, d3, d4, d5] }
  | _ => none }
def brakeFreeRow : OpenClaim := { program := "ytpiocfmdjgbamaa", sum := "0e09307f17856e3b61d8e7597811072a52c5cb8a4b8ab16031b2fb4b99848e83", func := "odograph/odographlaw22.BrakeFree", spec := "brakeFree", unfollowed := true, recurses := true, plainKeys := false, apart := false }
def BrakeFreeSaid : Prop := brakeFreeRow.holds Try.pinned (OpenSpec.ofChange brakeFreeSpec)

/-- ITS FALSE NEIGHBOUR: 'it returns false'. Refute it at one input. -/
def brakeFreeWrong : ChangeSpec := { name := "brakeFree", fn := fun _ => fun
  | [d1, d2, d3, d4, d5] => { results := [.lit (.bool false)], args := [d1, d2, d3, d4, d5] }
  | _ => none }
def BrakeFreeWrongFalsely : Prop := brakeFreeRow.holds Try.pinned (OpenSpec.ofChange brakeFreeWrong)

/-- 'odographlaw21.PlaceTrue': WHATEVER THE INPUT: true; the input reads as it did. -/
def placeTrueSpec : ChangeSpec := { name := "placeTrue", fn := fun _ => fun
  | [d1, d2, d3, d4, d5, d6, d7] => { results := [.lit (.bool true)], args := [d1, d2, d3, d4, d5, d6, d7] }
  | _ => none }
def placeTrueRow : OpenClaim := { program := "ytpiocfmdjgbamaa", sum := "0e09307f17856e3b61d8e7597811072a52c5cb8a4b8ab16031b2fb4b99848e83", func := "odograph/odographlaw21.PlaceTrue", spec := "placeTrue", unfollowed := true, recurses := true, plainKeys := false, apart := false }
def PlaceTrueSaid : Prop := placeTrueRow.holds Try.pinned (OpenSpec.ofChange placeTrueSpec)

/-- ITS FALSE NEIGHBOUR: 'it returns false'. Refute it at one input. -/
def placeTrueWrong : ChangeSpec := { name := "placeTrue", fn := fun _ => fun
  | [d1, d2, d3, d4, d5, d6, d7] => { results := [.lit (.bool false)], args := [d1, d2, d3, d4, d5, d6, d7] }
  | _ => none }
def PlaceTrueWrongFalsely : Prop := placeTrueRow.holds Try.pinned (OpenSpec.ofChange placeTrueWrong)

/-- 'odographlaw20.LinkFits': WHATEVER THE INPUT: true; the input reads as it did. -/
def linkFitsSpec : ChangeSpec := { name := "linkFits", fn := fun _ => fun
  | [d1, d2, d3, d4, d5, d6, d7] => { results := [.lit (.bool true)], args := [d1, d2, d3, d4, d5, d6, d7] }
  | _ => none }
def linkFitsRow : OpenClaim := { program := "ytpiocfmdjgbamaa", sum := "0e09307f17856e3b61d8e7597811072a52c5cb8a4b8ab16031b2fb4b99848e83", func := "odograph/odographlaw20.LinkFits", spec := "linkFits", unfollowed := true, recurses := true, plainKeys := false, apart := false }
def LinkFitsSaid : Prop := linkFitsRow.holds Try.pinned (OpenSpec.ofChange linkFitsSpec)

/-- ITS FALSE NEIGHBOUR: 'it returns false'. Refute it at one input. -/
def linkFitsWrong : ChangeSpec := { name := "linkFits", fn := fun _ => fun
  | [d1, d2, d3, d4, d5, d6, d7] => { results := [.lit (.bool false)], args := [d1, d2, d3, d4, d5, d6, d7] }
  | _ => none }
def LinkFitsWrongFalsely : Prop := linkFitsRow.holds Try.pinned (OpenSpec.ofChange linkFitsWrong)

/-- 'odographlaw14.RoutePlaces': WHATEVER THE INPUT: true; the input reads as it did. -/
def routePlacesSpec : ChangeSpec := { name := "routePlaces", fn := fun _ => fun
  | [d1, d2, d3, d4, d5] => { results := [.lit (.bool true)], args := [d1, d2, d3, d4, d5] }
  | _ => none }
def routePlacesRow : OpenClaim := { program := "ytpiocfmdjgbamaa", sum := "0e09307f17856e3b61d8e7597811072a52c5cb8a4b8ab16031b2fb4b99848e83", func := "odograph/odographlaw14.RoutePlaces", spec := "routePlaces", unfollowed := true, recurses := true, plainKeys := false, apart := false }
def RoutePlacesSaid : Prop := routePlacesRow.holds Try.pinned (OpenSpec.ofChange routePlacesSpec)

/-- ITS FALSE NEIGHBOUR: 'it returns false'. Refute it at one input. -/
def routePlacesWrong : ChangeSpec := { name := "routePlaces", fn := fun _ => fun
  | [d1, d2, d3, d4, d5] => { results := [.lit (.bool false)], args := [d1, d2, d3, d4, d5] }
  | _ => none }
def RoutePlacesWrongFalsely : Prop := routePlacesRow.holds Try.pinned (OpenSpec.ofChange routePlacesWrong)

/- THE SECOND FORM. 'bulk': how many values and letters a reading holds, each counted each time it is reached (what is shared counts as often as it is met; a slice's spare places count too). A statement '..UptoSaid' is the law's where the arguments, and the package variables that the reading takes, are together of bulk at most 1048576: NARROWER than '..Said'. Prove '..Said' where nothing that the law and all that it calls make is longer than what came in: it says more and counts as full. Else prove '..UptoSaid'. A law counts once. -/
mutual
def uptoBulk {H : Type} : DataW H → Nat
  | .lit (.string bytes) => bytes.length + 1
  | .lit _ => 1
  | .nil => 1
  | .ptr d => uptoBulk d + 1
  | .slice elems spare => uptoBulkAll elems + uptoBulkAll spare + 1
  | .agg parts => uptoBulkAll parts + 1
  | .iface _ d => uptoBulk d + 1
  | .map entries => uptoBulkEntries entries + 1
  | .held _ => 1
def uptoBulkAll {H : Type} : List (DataW H) → Nat
  | [] => 0
  | d :: r => uptoBulk d + uptoBulkAll r
def uptoBulkEntries {H : Type} : List (Lit × DataW H) → Nat
  | [] => 0
  | x :: r => uptoBulkEntry x + uptoBulkEntries r
def uptoBulkEntry {H : Type} : Lit × DataW H → Nat
  | (.string bytes, d) => bytes.length + uptoBulk d + 1
  | (_, d) => uptoBulk d + 1
 end
def uptoSmall : (H : Type) → List (DataW H) → Bool := fun _ ds => decide (uptoBulkAll ds ≤ 1048576)
def OpenSpec.upto (s : _root_.Go.ChangeSpec) : _root_.Go.OpenSpec := { _root_.Go.OpenSpec.ofChange s with cond := some uptoSmall }

/-- 'odographlaw14.RouteGrows', WHERE WHAT IT READS IS OF BULK AT MOST 1048576: true; the input reads as it did. -/
def routeGrowsUptoRow : OpenClaim := { program := "ytpiocfmdjgbamaa", sum := "0e09307f17856e3b61d8e7597811072a52c5cb8a4b8ab16031b2fb4b99848e83", func := "odograph/odographlaw14.RouteGrows", spec := "routeGrows", unfollowed := true, recurses := true, plainKeys := false, apart := false, narrowed := true }
def RouteGrowsUptoSaid : Prop := routeGrowsUptoRow.holds Try.pinned (OpenSpec.upto routeGrowsSpec)

/-- 'odographlaw14.RouteAgain', WHERE WHAT IT READS IS OF BULK AT MOST 1048576: true; the input reads as it did. -/
def routeAgainUptoRow : OpenClaim := { program := "ytpiocfmdjgbamaa", sum := "0e09307f17856e3b61d8e7597811072a52c5cb8a4b8ab16031b2fb4b99848e83", func := "odograph/odographlaw14.RouteAgain", spec := "routeAgain", unfollowed := true, recurses := true, plainKeys := false, apart := false, narrowed := true }
def RouteAgainUptoSaid : Prop := routeAgainUptoRow.holds Try.pinned (OpenSpec.upto routeAgainSpec)

/-- 'odographlaw20.LinkPassages', WHERE WHAT IT READS IS OF BULK AT MOST 1048576: true; the input reads as it did. -/
def linkPassagesUptoRow : OpenClaim := { program := "ytpiocfmdjgbamaa", sum := "0e09307f17856e3b61d8e7597811072a52c5cb8a4b8ab16031b2fb4b99848e83", func := "odograph/odographlaw20.LinkPassages", spec := "linkPassages", unfollowed := true, recurses := true, plainKeys := false, apart := false, narrowed := true }
def LinkPassagesUptoSaid : Prop := linkPassagesUptoRow.holds Try.pinned (OpenSpec.upto linkPassagesSpec)

/-- 'odographlaw14.RouteKeeps', WHERE WHAT IT READS IS OF BULK AT MOST 1048576: true; the input reads as it did. -/
def routeKeepsUptoRow : OpenClaim := { program := "ytpiocfmdjgbamaa", sum := "0e09307f17856e3b61d8e7597811072a52c5cb8a4b8ab16031b2fb4b99848e83", func := "odograph/odographlaw14.RouteKeeps", spec := "routeKeeps", unfollowed := true, recurses := true, plainKeys := false, apart := false, narrowed := true }
def RouteKeepsUptoSaid : Prop := routeKeepsUptoRow.holds Try.pinned (OpenSpec.upto routeKeepsSpec)

/-- 'odographlaw21.PlaceMoves', WHERE WHAT IT READS IS OF BULK AT MOST 1048576: true; the input reads as it did. -/
def placeMovesUptoRow : OpenClaim := { program := "ytpiocfmdjgbamaa", sum := "0e09307f17856e3b61d8e7597811072a52c5cb8a4b8ab16031b2fb4b99848e83", func := "odograph/odographlaw21.PlaceMoves", spec := "placeMoves", unfollowed := true, recurses := true, plainKeys := false, apart := false, narrowed := true }
def PlaceMovesUptoSaid : Prop := placeMovesUptoRow.holds Try.pinned (OpenSpec.upto placeMovesSpec)

/-- 'odographlaw22.BrakeFree', WHERE WHAT IT READS IS OF BULK AT MOST 1048576: true; the input reads as it did. -/
def brakeFreeUptoRow : OpenClaim := { program := "ytpiocfmdjgbamaa", sum := "0e09307f17856e3b61d8e7597811072a52c5cb8a4b8ab16031b2fb4b99848e83", func := "odograph/odographlaw22.BrakeFree", spec := "brakeFree", unfollowed := true, recurses := true, plainKeys := false, apart := false, narrowed := true }
def BrakeFreeUptoSaid : Prop := brakeFreeUptoRow.holds Try.pinned (OpenSpec.upto brakeFreeSpec)

/-- 'odographlaw21.PlaceTrue', WHERE WHAT IT READS IS OF BULK AT MOST 1048576: true; the input reads as it did. -/
def placeTrueUptoRow : OpenClaim := { program := "ytpiocfmdjgbamaa", sum := "0e09307f17856e3b61d8e7597811072a52c5cb8a4b8ab16031b2fb4b99848e83", func := "odograph/odographlaw21.PlaceTrue", spec := "placeTrue", unfollowed := true, recurses := true, plainKeys := false, apart := false, narrowed := true }
def PlaceTrueUptoSaid : Prop := placeTrueUptoRow.holds Try.pinned (OpenSpec.upto placeTrueSpec)

/-- 'odographlaw20.LinkFits', WHERE WHAT IT READS IS OF BULK AT MOST 1048576: true; the input reads as it did. -/
def linkFitsUptoRow : OpenClaim := { program := "ytpiocfmdjgbamaa", sum := "0e09307f17856e3b61d8e7597811072a52c5cb8a4b8ab16031b2fb4b99848e83", func := "odograph/odographlaw20.LinkFits", spec := "linkFits", unfollowed := true, recurses := true, plainKeys := false, apart := false, narrowed := true }
def LinkFitsUptoSaid : Prop := linkFitsUptoRow.holds Try.pinned (OpenSpec.upto linkFitsSpec)

/-- 'odographlaw14.RoutePlaces', WHERE WHAT IT READS IS OF BULK AT MOST 1048576: true; the input reads as it did. -/
def routePlacesUptoRow : OpenClaim := { program := "ytpiocfmdjgbamaa", sum := "0e09307f17856e3b61d8e7597811072a52c5cb8a4b8ab16031b2fb4b99848e83", func := "odograph/odographlaw14.RoutePlaces", spec := "routePlaces", unfollowed := true, recurses := true, plainKeys := false, apart := false, narrowed := true }
def RoutePlacesUptoSaid : Prop := routePlacesUptoRow.holds Try.pinned (OpenSpec.upto routePlacesSpec)

end Rows
end Go.Proofs.Ytpiocfmdjgbamaa
