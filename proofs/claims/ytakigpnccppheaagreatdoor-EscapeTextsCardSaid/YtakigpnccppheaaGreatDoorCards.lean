/-
  DERIVED. GIVEN WITH THE SEED: THE CARDS: each row of YtakigpnccppheaaGreatDoorRows.lean that lists a variable, with what it lists TIED to the program's text (the seventh form; the later family's looks); each row that meets fmt, with fmt's text TOLD by the authors' own Lean function (tested against real Go, not proved from fmt's source: count such statements apart). THE CARD IS WHAT COUNTS. Prove the row's statement (the work); the ties are given (YtakigpnccppheaaGreatDoorTie.lean); close each card by the builder's one call (the guide's Derived/Test/ToyasCard.lean, 'card_holds'). Laid BY PROGRAM, IN A SANDBOX (cutbox-door.mjs). By AI agents, Wed Nov 11 2026. No macro, syntax, notation, axiom, sorry.
-/
import Derived.Test.YtakigpnccppheaaGreatDoorRows
import GoSem.ClaimSeven
namespace Go.Proofs.YtakigpnccppheaaGreatDoor
namespace Rows

/-- THE TIED CARD OF 'virgulelaw28.EscapeTexts'. -/
def escapeTextsCard : Claim7 := { stood := { row := escapeTextsRow, standIns := [], harness := (true, "fdb9bbf329a25f5cfc88edf94a4d4471332a1d1f01580406232489f97e8de5c0"), looks := true }, kinds := [], alts := [], laidByText := true, laidKinds := [.data, .data, .data, .sentinel, .sentinel, .listed, .data], laidTests := true, laidLooks := .later }
def EscapeTextsCardSaid : Prop := Claim7.holds Tryz.pinned (.plain (OpenSpec.ofChange escapeTextsSpec)) escapeTextsCard

/-- THE SECOND FORM's CARD OF 'virgulelaw28.EscapeTexts'. -/
def escapeTextsUptoCard : Claim7 := { stood := { row := escapeTextsUptoRow, standIns := [], harness := (true, "fdb9bbf329a25f5cfc88edf94a4d4471332a1d1f01580406232489f97e8de5c0"), looks := true }, kinds := [], alts := [], laidByText := true, laidKinds := [.data, .data, .data, .sentinel, .sentinel, .listed, .data], laidTests := true, laidLooks := .later }
def EscapeTextsUptoCardSaid : Prop := Claim7.holds Tryz.pinned (.plain (OpenSpec.upto escapeTextsSpec)) escapeTextsUptoCard
end Rows
end Go.Proofs.YtakigpnccppheaaGreatDoor
