/-
  DERIVED. GIVEN WITH THE SEED: THE CARDS: each row of YteolbhblkgjbhaaGreatDoorRows.lean that lists a variable, with what it lists TIED to the program's text (the seventh form; the later family's looks); each row that meets fmt, with fmt's text TOLD by the authors' own Lean function (tested against real Go, not proved from fmt's source: count such statements apart). THE CARD IS WHAT COUNTS. Prove the row's statement (the work); the ties are given (YteolbhblkgjbhaaGreatDoorTie.lean); close each card by the builder's one call (the guide's Derived/Test/ToyasCard.lean, 'card_holds'). Laid BY PROGRAM, IN A SANDBOX (cutbox-door.mjs). By AI agents, Wed Nov 11 2026. No macro, syntax, notation, axiom, sorry.
-/
import Derived.Test.YteolbhblkgjbhaaGreatDoorRows
import GoSem.ClaimSeven
namespace Go.Proofs.YteolbhblkgjbhaaGreatDoor
namespace Rows

/-- THE TIED CARD OF 'virgulelaw15.ShippedBreaks'. -/
def shippedBreaksCard : Claim7 := { stood := { row := shippedBreaksRow, standIns := [], harness := (true, "7316a6c5d2afaea41eadef9278fb42711a257b4a230fdc770b4e68488031a6e5"), looks := false }, kinds := [], alts := [], laidByText := true, laidKinds := [.data, .data, .pinned], laidTests := true, laidLooks := .later }
def ShippedBreaksCardSaid : Prop := Claim7.holds Tryz.pinned (.plain (OpenSpec.ofChange shippedBreaksSpec)) shippedBreaksCard

/-- THE TIED CARD OF 'virgulelaw15.ShippedEnds'. -/
def shippedEndsCard : Claim7 := { stood := { row := shippedEndsRow, standIns := [], harness := (true, "7316a6c5d2afaea41eadef9278fb42711a257b4a230fdc770b4e68488031a6e5"), looks := false }, kinds := [], alts := [], laidByText := true, laidKinds := [.data, .data, .pinned], laidTests := true, laidLooks := .later }
def ShippedEndsCardSaid : Prop := Claim7.holds Tryz.pinned (.plain (OpenSpec.ofChange shippedEndsSpec)) shippedEndsCard

/-- THE TIED CARD OF 'virgulelaw15.ShippedOnce'. -/
def shippedOnceCard : Claim7 := { stood := { row := shippedOnceRow, standIns := [], harness := (true, "7316a6c5d2afaea41eadef9278fb42711a257b4a230fdc770b4e68488031a6e5"), looks := false }, kinds := [], alts := [], laidByText := true, laidKinds := [.data, .data, .pinned], laidTests := true, laidLooks := .later }
def ShippedOnceCardSaid : Prop := Claim7.holds Tryz.pinned (.plain (OpenSpec.ofChange shippedOnceSpec)) shippedOnceCard

/-- THE TIED CARD OF 'virgulelaw15.ShippedTexts'. -/
def shippedTextsCard : Claim7 := { stood := { row := shippedTextsRow, standIns := [], harness := (true, "7316a6c5d2afaea41eadef9278fb42711a257b4a230fdc770b4e68488031a6e5"), looks := false }, kinds := [], alts := [], laidByText := true, laidKinds := [.data, .data, .pinned], laidTests := true, laidLooks := .later }
def ShippedTextsCardSaid : Prop := Claim7.holds Tryz.pinned (.plain (OpenSpec.ofChange shippedTextsSpec)) shippedTextsCard

/-- THE SECOND FORM's CARD OF 'virgulelaw15.ShippedBreaks'. -/
def shippedBreaksUptoCard : Claim7 := { stood := { row := shippedBreaksUptoRow, standIns := [], harness := (true, "7316a6c5d2afaea41eadef9278fb42711a257b4a230fdc770b4e68488031a6e5"), looks := false }, kinds := [], alts := [], laidByText := true, laidKinds := [.data, .data, .pinned], laidTests := true, laidLooks := .later }
def ShippedBreaksUptoCardSaid : Prop := Claim7.holds Tryz.pinned (.plain (OpenSpec.upto shippedBreaksSpec)) shippedBreaksUptoCard

/-- THE SECOND FORM's CARD OF 'virgulelaw15.ShippedEnds'. -/
def shippedEndsUptoCard : Claim7 := { stood := { row := shippedEndsUptoRow, standIns := [], harness := (true, "7316a6c5d2afaea41eadef9278fb42711a257b4a230fdc770b4e68488031a6e5"), looks := false }, kinds := [], alts := [], laidByText := true, laidKinds := [.data, .data, .pinned], laidTests := true, laidLooks := .later }
def ShippedEndsUptoCardSaid : Prop := Claim7.holds Tryz.pinned (.plain (OpenSpec.upto shippedEndsSpec)) shippedEndsUptoCard

/-- THE SECOND FORM's CARD OF 'virgulelaw15.ShippedOnce'. -/
def shippedOnceUptoCard : Claim7 := { stood := { row := shippedOnceUptoRow, standIns := [], harness := (true, "7316a6c5d2afaea41eadef9278fb42711a257b4a230fdc770b4e68488031a6e5"), looks := false }, kinds := [], alts := [], laidByText := true, laidKinds := [.data, .data, .pinned], laidTests := true, laidLooks := .later }
def ShippedOnceUptoCardSaid : Prop := Claim7.holds Tryz.pinned (.plain (OpenSpec.upto shippedOnceSpec)) shippedOnceUptoCard

/-- THE SECOND FORM's CARD OF 'virgulelaw15.ShippedTexts'. -/
def shippedTextsUptoCard : Claim7 := { stood := { row := shippedTextsUptoRow, standIns := [], harness := (true, "7316a6c5d2afaea41eadef9278fb42711a257b4a230fdc770b4e68488031a6e5"), looks := false }, kinds := [], alts := [], laidByText := true, laidKinds := [.data, .data, .pinned], laidTests := true, laidLooks := .later }
def ShippedTextsUptoCardSaid : Prop := Claim7.holds Tryz.pinned (.plain (OpenSpec.upto shippedTextsSpec)) shippedTextsUptoCard
end Rows
end Go.Proofs.YteolbhblkgjbhaaGreatDoor
