/-
  DERIVED. GIVEN WITH THE SEED: THE CARDS: each row of YtdjafcjpnjdphaaDoorRows.lean that lists a variable, with what it lists TIED to the program's text (the seventh form; the later family's looks); each row that meets fmt, with fmt's text TOLD by the authors' own Lean function (tested against real Go, not proved from fmt's source: count such statements apart). THE CARD IS WHAT COUNTS. Prove the row's statement (the work); the ties are given (YtdjafcjpnjdphaaDoorTie.lean); close each card by the builder's one call (the guide's Derived/Test/ToyasCard.lean, 'card_holds'). Laid BY PROGRAM, IN A SANDBOX (cutbox-door.mjs). By AI agents, Wed Nov 11 2026. No macro, syntax, notation, axiom, sorry.
-/
import Derived.Test.YtdjafcjpnjdphaaDoorRows
import GoSem.ClaimSeven
namespace Go.Proofs.YtdjafcjpnjdphaaDoor
namespace Rows

/-- THE TIED CARD OF 'odographlaw37.WordTexts'. -/
def wordTextsCard : Claim7 := { stood := { row := wordTextsRow, standIns := [], harness := (true, "161d528ec5ba4479d3da62135b40cf0555c36840a48c94581adb6983bacaa86c"), looks := true }, kinds := [], alts := [], laidByText := true, laidKinds := [.data, .data, .data, .sentinel, .sentinel, .data], laidTests := true, laidLooks := .later }
def WordTextsCardSaid : Prop := Claim7.holds Tryd.pinned (.plain (OpenSpec.ofChange wordTextsSpec)) wordTextsCard

/-- THE TIED CARD OF 'odographlaw37.WordParses'. -/
def wordParsesCard : Claim7 := { stood := { row := wordParsesRow, standIns := [], harness := (true, "161d528ec5ba4479d3da62135b40cf0555c36840a48c94581adb6983bacaa86c"), looks := true }, kinds := [], alts := [], laidByText := true, laidKinds := [.data, .data, .data, .sentinel, .sentinel, .data], laidTests := true, laidLooks := .later }
def WordParsesCardSaid : Prop := Claim7.holds Tryd.pinned (.plain (OpenSpec.ofChange wordParsesSpec)) wordParsesCard

/-- THE TIED CARD OF 'odographlaw37.WordApart'. -/
def wordApartCard : Claim7 := { stood := { row := wordApartRow, standIns := [], harness := (true, "161d528ec5ba4479d3da62135b40cf0555c36840a48c94581adb6983bacaa86c"), looks := true }, kinds := [], alts := [], laidByText := true, laidKinds := [.data, .data, .data, .sentinel, .sentinel, .data], laidTests := true, laidLooks := .later }
def WordApartCardSaid : Prop := Claim7.holds Tryd.pinned (.plain (OpenSpec.ofChange wordApartSpec)) wordApartCard

/-- THE SECOND FORM's CARD OF 'odographlaw37.WordTexts'. -/
def wordTextsUptoCard : Claim7 := { stood := { row := wordTextsUptoRow, standIns := [], harness := (true, "161d528ec5ba4479d3da62135b40cf0555c36840a48c94581adb6983bacaa86c"), looks := true }, kinds := [], alts := [], laidByText := true, laidKinds := [.data, .data, .data, .sentinel, .sentinel, .data], laidTests := true, laidLooks := .later }
def WordTextsUptoCardSaid : Prop := Claim7.holds Tryd.pinned (.plain (OpenSpec.upto wordTextsSpec)) wordTextsUptoCard

/-- THE SECOND FORM's CARD OF 'odographlaw37.WordParses'. -/
def wordParsesUptoCard : Claim7 := { stood := { row := wordParsesUptoRow, standIns := [], harness := (true, "161d528ec5ba4479d3da62135b40cf0555c36840a48c94581adb6983bacaa86c"), looks := true }, kinds := [], alts := [], laidByText := true, laidKinds := [.data, .data, .data, .sentinel, .sentinel, .data], laidTests := true, laidLooks := .later }
def WordParsesUptoCardSaid : Prop := Claim7.holds Tryd.pinned (.plain (OpenSpec.upto wordParsesSpec)) wordParsesUptoCard

/-- THE SECOND FORM's CARD OF 'odographlaw37.WordApart'. -/
def wordApartUptoCard : Claim7 := { stood := { row := wordApartUptoRow, standIns := [], harness := (true, "161d528ec5ba4479d3da62135b40cf0555c36840a48c94581adb6983bacaa86c"), looks := true }, kinds := [], alts := [], laidByText := true, laidKinds := [.data, .data, .data, .sentinel, .sentinel, .data], laidTests := true, laidLooks := .later }
def WordApartUptoCardSaid : Prop := Claim7.holds Tryd.pinned (.plain (OpenSpec.upto wordApartSpec)) wordApartUptoCard
end Rows
end Go.Proofs.YtdjafcjpnjdphaaDoor
