/-
  DERIVED. GIVEN WITH THE SEED: THE CARDS: each row of YtlehnbkknlpkbaaGreatDoorRows.lean that lists a variable, with what it lists TIED to the program's text (the seventh form; the later family's looks); each row that meets fmt, with fmt's text TOLD by the authors' own Lean function (tested against real Go, not proved from fmt's source: count such statements apart). THE CARD IS WHAT COUNTS. Prove the row's statement (the work); the ties are given (YtlehnbkknlpkbaaGreatDoorTie.lean); close each card by the builder's one call (the guide's Derived/Test/ToyasCard.lean, 'card_holds'). Laid BY PROGRAM, IN A SANDBOX (cutbox-door.mjs). By AI agents, Wed Nov 11 2026. No macro, syntax, notation, axiom, sorry.
-/
import Derived.Test.YtlehnbkknlpkbaaGreatDoorRows
import GoSem.ClaimSeven
namespace Go.Proofs.YtlehnbkknlpkbaaGreatDoor
namespace Rows

/-- THE TIED CARD OF 'virgulelaw13.TableMakes'. -/
def tableMakesCard : Claim7 := { stood := { row := tableMakesRow, standIns := [], harness := (true, "ee014352c9e5baa3625c3f3fcff5e7d29eef3ebcd3cdd8e4e47b0b64c285cf56"), looks := false }, kinds := [], alts := [], laidByText := true, laidKinds := [.data, .data, .pinned], laidTests := true, laidLooks := .later }
def TableMakesCardSaid : Prop := Claim7.holds Tryz.pinned (.plain (OpenSpec.ofChange tableMakesSpec)) tableMakesCard

/-- THE TIED CARD OF 'virgulelaw13.TableStates'. -/
def tableStatesCard : Claim7 := { stood := { row := tableStatesRow, standIns := [], harness := (true, "ee014352c9e5baa3625c3f3fcff5e7d29eef3ebcd3cdd8e4e47b0b64c285cf56"), looks := false }, kinds := [], alts := [], laidByText := true, laidKinds := [.data, .data, .pinned], laidTests := true, laidLooks := .later }
def TableStatesCardSaid : Prop := Claim7.holds Tryz.pinned (.plain (OpenSpec.ofChange tableStatesSpec)) tableStatesCard

/-- THE TIED CARD OF 'virgulelaw13.TableRuns'. -/
def tableRunsCard : Claim7 := { stood := { row := tableRunsRow, standIns := [], harness := (true, "ee014352c9e5baa3625c3f3fcff5e7d29eef3ebcd3cdd8e4e47b0b64c285cf56"), looks := false }, kinds := [], alts := [], laidByText := true, laidKinds := [.data, .data, .pinned], laidTests := true, laidLooks := .later }
def TableRunsCardSaid : Prop := Claim7.holds Tryz.pinned (.plain (OpenSpec.ofChange tableRunsSpec)) tableRunsCard

/-- THE TIED CARD OF 'virgulelaw13.TableBreaks'. -/
def tableBreaksCard : Claim7 := { stood := { row := tableBreaksRow, standIns := [], harness := (true, "ee014352c9e5baa3625c3f3fcff5e7d29eef3ebcd3cdd8e4e47b0b64c285cf56"), looks := false }, kinds := [], alts := [], laidByText := true, laidKinds := [.data, .data, .pinned], laidTests := true, laidLooks := .later }
def TableBreaksCardSaid : Prop := Claim7.holds Tryz.pinned (.plain (OpenSpec.ofChange tableBreaksSpec)) tableBreaksCard

/-- THE SECOND FORM's CARD OF 'virgulelaw13.TableMakes'. -/
def tableMakesUptoCard : Claim7 := { stood := { row := tableMakesUptoRow, standIns := [], harness := (true, "ee014352c9e5baa3625c3f3fcff5e7d29eef3ebcd3cdd8e4e47b0b64c285cf56"), looks := false }, kinds := [], alts := [], laidByText := true, laidKinds := [.data, .data, .pinned], laidTests := true, laidLooks := .later }
def TableMakesUptoCardSaid : Prop := Claim7.holds Tryz.pinned (.plain (OpenSpec.upto tableMakesSpec)) tableMakesUptoCard

/-- THE SECOND FORM's CARD OF 'virgulelaw13.TableStates'. -/
def tableStatesUptoCard : Claim7 := { stood := { row := tableStatesUptoRow, standIns := [], harness := (true, "ee014352c9e5baa3625c3f3fcff5e7d29eef3ebcd3cdd8e4e47b0b64c285cf56"), looks := false }, kinds := [], alts := [], laidByText := true, laidKinds := [.data, .data, .pinned], laidTests := true, laidLooks := .later }
def TableStatesUptoCardSaid : Prop := Claim7.holds Tryz.pinned (.plain (OpenSpec.upto tableStatesSpec)) tableStatesUptoCard

/-- THE SECOND FORM's CARD OF 'virgulelaw13.TableRuns'. -/
def tableRunsUptoCard : Claim7 := { stood := { row := tableRunsUptoRow, standIns := [], harness := (true, "ee014352c9e5baa3625c3f3fcff5e7d29eef3ebcd3cdd8e4e47b0b64c285cf56"), looks := false }, kinds := [], alts := [], laidByText := true, laidKinds := [.data, .data, .pinned], laidTests := true, laidLooks := .later }
def TableRunsUptoCardSaid : Prop := Claim7.holds Tryz.pinned (.plain (OpenSpec.upto tableRunsSpec)) tableRunsUptoCard

/-- THE SECOND FORM's CARD OF 'virgulelaw13.TableBreaks'. -/
def tableBreaksUptoCard : Claim7 := { stood := { row := tableBreaksUptoRow, standIns := [], harness := (true, "ee014352c9e5baa3625c3f3fcff5e7d29eef3ebcd3cdd8e4e47b0b64c285cf56"), looks := false }, kinds := [], alts := [], laidByText := true, laidKinds := [.data, .data, .pinned], laidTests := true, laidLooks := .later }
def TableBreaksUptoCardSaid : Prop := Claim7.holds Tryz.pinned (.plain (OpenSpec.upto tableBreaksSpec)) tableBreaksUptoCard
end Rows
end Go.Proofs.YtlehnbkknlpkbaaGreatDoor
