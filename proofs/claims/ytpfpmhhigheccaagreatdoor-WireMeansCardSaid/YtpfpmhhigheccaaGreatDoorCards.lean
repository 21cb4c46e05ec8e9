/-
  DERIVED. GIVEN WITH THE SEED: THE CARDS: each row of YtpfpmhhigheccaaGreatDoorRows.lean that lists a variable, with what it lists TIED to the program's text (the seventh form; the later family's looks); each row that meets fmt, with fmt's text TOLD by the authors' own Lean function (tested against real Go, not proved from fmt's source: count such statements apart). THE CARD IS WHAT COUNTS. Prove the row's statement (the work); the ties are given (YtpfpmhhigheccaaGreatDoorTie.lean); close each card by the builder's one call (the guide's Derived/Test/ToyasCard.lean, 'card_holds'). Laid BY PROGRAM, IN A SANDBOX (cutbox-door.mjs). By AI agents, Wed Nov 11 2026. No macro, syntax, notation, axiom, sorry.
-/
import Derived.Test.YtpfpmhhigheccaaGreatDoorRows
import GoSem.ClaimSeven
namespace Go.Proofs.YtpfpmhhigheccaaGreatDoor
namespace Rows

/-- THE TIED CARD OF 'virgulelaw14.WireDecodes'. -/
def wireDecodesCard : Claim7 := { stood := { row := wireDecodesRow, standIns := [], harness := (true, "a40daeb7286c7abe405f667dec651cf2c120273364d49989a5c6d9a2e91288fe"), looks := false }, kinds := [], alts := [], laidByText := true, laidKinds := [.data, .pinned], laidTests := true, laidLooks := .later }
def WireDecodesCardSaid : Prop := Claim7.holds Tryz.pinned (.plain (OpenSpec.ofChange wireDecodesSpec)) wireDecodesCard

/-- THE TIED CARD OF 'virgulelaw14.WireTurned'. -/
def wireTurnedCard : Claim7 := { stood := { row := wireTurnedRow, standIns := [], harness := (true, "a40daeb7286c7abe405f667dec651cf2c120273364d49989a5c6d9a2e91288fe"), looks := false }, kinds := [], alts := [], laidByText := true, laidKinds := [.data, .pinned], laidTests := true, laidLooks := .later }
def WireTurnedCardSaid : Prop := Claim7.holds Tryz.pinned (.plain (OpenSpec.ofChange wireTurnedSpec)) wireTurnedCard

/-- THE TIED CARD OF 'virgulelaw14.WireMeans'. -/
def wireMeansCard : Claim7 := { stood := { row := wireMeansRow, standIns := [], harness := (true, "a40daeb7286c7abe405f667dec651cf2c120273364d49989a5c6d9a2e91288fe"), looks := false }, kinds := [], alts := [], laidByText := true, laidKinds := [.data, .data, .pinned], laidTests := true, laidLooks := .later }
def WireMeansCardSaid : Prop := Claim7.holds Tryz.pinned (.plain (OpenSpec.ofChange wireMeansSpec)) wireMeansCard

/-- THE SECOND FORM's CARD OF 'virgulelaw14.WireDecodes'. -/
def wireDecodesUptoCard : Claim7 := { stood := { row := wireDecodesUptoRow, standIns := [], harness := (true, "a40daeb7286c7abe405f667dec651cf2c120273364d49989a5c6d9a2e91288fe"), looks := false }, kinds := [], alts := [], laidByText := true, laidKinds := [.data, .pinned], laidTests := true, laidLooks := .later }
def WireDecodesUptoCardSaid : Prop := Claim7.holds Tryz.pinned (.plain (OpenSpec.upto wireDecodesSpec)) wireDecodesUptoCard

/-- THE SECOND FORM's CARD OF 'virgulelaw14.WireTurned'. -/
def wireTurnedUptoCard : Claim7 := { stood := { row := wireTurnedUptoRow, standIns := [], harness := (true, "a40daeb7286c7abe405f667dec651cf2c120273364d49989a5c6d9a2e91288fe"), looks := false }, kinds := [], alts := [], laidByText := true, laidKinds := [.data, .pinned], laidTests := true, laidLooks := .later }
def WireTurnedUptoCardSaid : Prop := Claim7.holds Tryz.pinned (.plain (OpenSpec.upto wireTurnedSpec)) wireTurnedUptoCard

/-- THE SECOND FORM's CARD OF 'virgulelaw14.WireMeans'. -/
def wireMeansUptoCard : Claim7 := { stood := { row := wireMeansUptoRow, standIns := [], harness := (true, "a40daeb7286c7abe405f667dec651cf2c120273364d49989a5c6d9a2e91288fe"), looks := false }, kinds := [], alts := [], laidByText := true, laidKinds := [.data, .data, .pinned], laidTests := true, laidLooks := .later }
def WireMeansUptoCardSaid : Prop := Claim7.holds Tryz.pinned (.plain (OpenSpec.upto wireMeansSpec)) wireMeansUptoCard
end Rows
end Go.Proofs.YtpfpmhhigheccaaGreatDoor
