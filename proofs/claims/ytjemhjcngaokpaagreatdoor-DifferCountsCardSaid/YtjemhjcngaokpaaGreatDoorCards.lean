/-
  DERIVED. GIVEN WITH THE SEED: THE CARDS: each row of YtjemhjcngaokpaaGreatDoorRows.lean that lists a variable, with what it lists TIED to the program's text (the seventh form; the later family's looks); each row that meets fmt, with fmt's text TOLD by the authors' own Lean function (tested against real Go, not proved from fmt's source: count such statements apart). THE CARD IS WHAT COUNTS. Prove the row's statement (the work); the ties are given (YtjemhjcngaokpaaGreatDoorTie.lean); close each card by the builder's one call (the guide's Derived/Test/ToyasCard.lean, 'card_holds'). Laid BY PROGRAM, IN A SANDBOX (cutbox-door.mjs). By AI agents, Wed Nov 11 2026. No macro, syntax, notation, axiom, sorry.
-/
import Derived.Test.YtjemhjcngaokpaaGreatDoorRows
import GoSem.ClaimSeven
namespace Go.Proofs.YtjemhjcngaokpaaGreatDoor
namespace Rows

/-- THE TIED CARD OF 'virgulelaw32.DifferCounts'. -/
def differCountsCard : Claim7 := { stood := { row := differCountsRow, standIns := [], harness := (true, "115acee5cd308b1c4d50c45716fa4ec96b68fa55f453f513ac558b4a46a90cd7"), looks := false }, kinds := [], alts := [], laidByText := true, laidKinds := [.data, .data, .pinned], laidTests := true, laidLooks := .later }
def DifferCountsCardSaid : Prop := Claim7.holds Tryz.pinned (.plain (OpenSpec.ofChange differCountsSpec)) differCountsCard

/-- THE SECOND FORM's CARD OF 'virgulelaw32.DifferCounts'. -/
def differCountsUptoCard : Claim7 := { stood := { row := differCountsUptoRow, standIns := [], harness := (true, "115acee5cd308b1c4d50c45716fa4ec96b68fa55f453f513ac558b4a46a90cd7"), looks := false }, kinds := [], alts := [], laidByText := true, laidKinds := [.data, .data, .pinned], laidTests := true, laidLooks := .later }
def DifferCountsUptoCardSaid : Prop := Claim7.holds Tryz.pinned (.plain (OpenSpec.upto differCountsSpec)) differCountsUptoCard
end Rows
end Go.Proofs.YtjemhjcngaokpaaGreatDoor
