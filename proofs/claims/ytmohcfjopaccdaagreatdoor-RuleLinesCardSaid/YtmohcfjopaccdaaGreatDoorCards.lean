/-
  DERIVED. GIVEN WITH THE SEED: THE CARDS: each row of YtmohcfjopaccdaaGreatDoorRows.lean that lists a variable, with what it lists TIED to the program's text (the seventh form; the later family's looks); each row that meets fmt, with fmt's text TOLD by the authors' own Lean function (tested against real Go, not proved from fmt's source: count such statements apart). THE CARD IS WHAT COUNTS. Prove the row's statement (the work); the ties are given (YtmohcfjopaccdaaGreatDoorTie.lean); close each card by the builder's one call (the guide's Derived/Test/ToyasCard.lean, 'card_holds'). Laid BY PROGRAM, IN A SANDBOX (cutbox-door.mjs). By AI agents, Wed Nov 11 2026. No macro, syntax, notation, axiom, sorry.
-/
import Derived.Test.YtmohcfjopaccdaaGreatDoorRows
import GoSem.ClaimSeven
namespace Go.Proofs.YtmohcfjopaccdaaGreatDoor
namespace Rows

/-- THE TIED CARD OF 'virgulelaw06.RuleMany'. -/
def ruleManyCard : Claim7 := { stood := { row := ruleManyRow, standIns := [], harness := (true, "0a13c3a2641bb4dac150cc73e076b79cc384184e1b6535bd8785aa17283023f6"), looks := false }, kinds := [], alts := [], laidByText := true, laidKinds := [.data, .pinned], laidTests := true, laidLooks := .later }
def RuleManyCardSaid : Prop := Claim7.holds Tryz.pinned (.plain (OpenSpec.ofChange ruleManySpec)) ruleManyCard

/-- THE TIED CARD OF 'virgulelaw06.RulePrints'. -/
def rulePrintsCard : Claim7 := { stood := { row := rulePrintsRow, standIns := [], harness := (true, "0a13c3a2641bb4dac150cc73e076b79cc384184e1b6535bd8785aa17283023f6"), looks := false }, kinds := [], alts := [], laidByText := true, laidKinds := [.data, .pinned], laidTests := true, laidLooks := .later }
def RulePrintsCardSaid : Prop := Claim7.holds Tryz.pinned (.plain (OpenSpec.ofChange rulePrintsSpec)) rulePrintsCard

/-- THE TIED CARD OF 'virgulelaw06.RuleSame'. -/
def ruleSameCard : Claim7 := { stood := { row := ruleSameRow, standIns := [], harness := (true, "0a13c3a2641bb4dac150cc73e076b79cc384184e1b6535bd8785aa17283023f6"), looks := false }, kinds := [], alts := [], laidByText := true, laidKinds := [.data, .pinned], laidTests := true, laidLooks := .later }
def RuleSameCardSaid : Prop := Claim7.holds Tryz.pinned (.plain (OpenSpec.ofChange ruleSameSpec)) ruleSameCard

/-- THE TIED CARD OF 'virgulelaw06.RuleLines'. -/
def ruleLinesCard : Claim7 := { stood := { row := ruleLinesRow, standIns := [], harness := (true, "0a13c3a2641bb4dac150cc73e076b79cc384184e1b6535bd8785aa17283023f6"), looks := false }, kinds := [], alts := [], laidByText := true, laidKinds := [.data, .pinned], laidTests := true, laidLooks := .later }
def RuleLinesCardSaid : Prop := Claim7.holds Tryz.pinned (.plain (OpenSpec.ofChange ruleLinesSpec)) ruleLinesCard

/-- THE SECOND FORM's CARD OF 'virgulelaw06.RuleMany'. -/
def ruleManyUptoCard : Claim7 := { stood := { row := ruleManyUptoRow, standIns := [], harness := (true, "0a13c3a2641bb4dac150cc73e076b79cc384184e1b6535bd8785aa17283023f6"), looks := false }, kinds := [], alts := [], laidByText := true, laidKinds := [.data, .pinned], laidTests := true, laidLooks := .later }
def RuleManyUptoCardSaid : Prop := Claim7.holds Tryz.pinned (.plain (OpenSpec.upto ruleManySpec)) ruleManyUptoCard

/-- THE SECOND FORM's CARD OF 'virgulelaw06.RulePrints'. -/
def rulePrintsUptoCard : Claim7 := { stood := { row := rulePrintsUptoRow, standIns := [], harness := (true, "0a13c3a2641bb4dac150cc73e076b79cc384184e1b6535bd8785aa17283023f6"), looks := false }, kinds := [], alts := [], laidByText := true, laidKinds := [.data, .pinned], laidTests := true, laidLooks := .later }
def RulePrintsUptoCardSaid : Prop := Claim7.holds Tryz.pinned (.plain (OpenSpec.upto rulePrintsSpec)) rulePrintsUptoCard

/-- THE SECOND FORM's CARD OF 'virgulelaw06.RuleSame'. -/
def ruleSameUptoCard : Claim7 := { stood := { row := ruleSameUptoRow, standIns := [], harness := (true, "0a13c3a2641bb4dac150cc73e076b79cc384184e1b6535bd8785aa17283023f6"), looks := false }, kinds := [], alts := [], laidByText := true, laidKinds := [.data, .pinned], laidTests := true, laidLooks := .later }
def RuleSameUptoCardSaid : Prop := Claim7.holds Tryz.pinned (.plain (OpenSpec.upto ruleSameSpec)) ruleSameUptoCard

/-- THE SECOND FORM's CARD OF 'virgulelaw06.RuleLines'. -/
def ruleLinesUptoCard : Claim7 := { stood := { row := ruleLinesUptoRow, standIns := [], harness := (true, "0a13c3a2641bb4dac150cc73e076b79cc384184e1b6535bd8785aa17283023f6"), looks := false }, kinds := [], alts := [], laidByText := true, laidKinds := [.data, .pinned], laidTests := true, laidLooks := .later }
def RuleLinesUptoCardSaid : Prop := Claim7.holds Tryz.pinned (.plain (OpenSpec.upto ruleLinesSpec)) ruleLinesUptoCard
end Rows
end Go.Proofs.YtmohcfjopaccdaaGreatDoor
