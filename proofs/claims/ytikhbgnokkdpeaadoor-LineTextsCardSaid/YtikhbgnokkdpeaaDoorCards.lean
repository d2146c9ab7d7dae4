/-
  DERIVED. GIVEN WITH THE SEED: THE CARDS: each row of YtikhbgnokkdpeaaDoorRows.lean that lists a variable, with what it lists TIED to the program's text (the seventh form; the later family's looks); each row that meets fmt, with fmt's text TOLD by the authors' own Lean function (tested against real Go, not proved from fmt's source: count such statements apart). THE CARD IS WHAT COUNTS. Prove the row's statement (the work); the ties are given (YtikhbgnokkdpeaaDoorTie.lean); close each card by the builder's one call (the guide's Derived/Test/ToyasCard.lean, 'card_holds'). Laid BY PROGRAM, IN A SANDBOX (cutbox-door.mjs). By AI agents, Wed Nov 11 2026. No macro, syntax, notation, axiom, sorry.
-/
import Derived.Test.YtikhbgnokkdpeaaDoorRows
import GoSem.ClaimSeven
namespace Go.Proofs.YtikhbgnokkdpeaaDoor
namespace Rows

/-- THE TIED CARD OF 'odographlaw25.LineTexts'. -/
def lineTextsCard : Claim7 := { stood := { row := lineTextsRow, standIns := [], harness := (true, "5e38ac6c7e9d8f2bd82d13e7aa7ca37c8fe7067a2182953c234da3cfb1d42c7f"), looks := false }, kinds := [], alts := [], laidByText := true, laidKinds := [.data, .data, .data], laidTests := true, laidLooks := .later }
def LineTextsCardSaid : Prop := Claim7.holds Tryd.pinned (.plain (OpenSpec.ofChange lineTextsSpec)) lineTextsCard

/-- THE TIED CARD OF 'odographlaw25.LineApart'. -/
def lineApartCard : Claim7 := { stood := { row := lineApartRow, standIns := [], harness := (true, "5e38ac6c7e9d8f2bd82d13e7aa7ca37c8fe7067a2182953c234da3cfb1d42c7f"), looks := false }, kinds := [], alts := [], laidByText := true, laidKinds := [.data, .data, .data], laidTests := true, laidLooks := .later }
def LineApartCardSaid : Prop := Claim7.holds Tryd.pinned (.plain (OpenSpec.ofChange lineApartSpec)) lineApartCard

/-- THE SECOND FORM's CARD OF 'odographlaw25.LineTexts'. -/
def lineTextsUptoCard : Claim7 := { stood := { row := lineTextsUptoRow, standIns := [], harness := (true, "5e38ac6c7e9d8f2bd82d13e7aa7ca37c8fe7067a2182953c234da3cfb1d42c7f"), looks := false }, kinds := [], alts := [], laidByText := true, laidKinds := [.data, .data, .data], laidTests := true, laidLooks := .later }
def LineTextsUptoCardSaid : Prop := Claim7.holds Tryd.pinned (.plain (OpenSpec.upto lineTextsSpec)) lineTextsUptoCard

/-- THE SECOND FORM's CARD OF 'odographlaw25.LineApart'. -/
def lineApartUptoCard : Claim7 := { stood := { row := lineApartUptoRow, standIns := [], harness := (true, "5e38ac6c7e9d8f2bd82d13e7aa7ca37c8fe7067a2182953c234da3cfb1d42c7f"), looks := false }, kinds := [], alts := [], laidByText := true, laidKinds := [.data, .data, .data], laidTests := true, laidLooks := .later }
def LineApartUptoCardSaid : Prop := Claim7.holds Tryd.pinned (.plain (OpenSpec.upto lineApartSpec)) lineApartUptoCard
end Rows
end Go.Proofs.YtikhbgnokkdpeaaDoor
