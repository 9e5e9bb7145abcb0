/-
  DERIVED. GIVEN WITH THE SEED: THE CARDS: each row of YthjcaihemgllaaaGreatDoorRows.lean that lists a variable, with what it lists TIED to the program's text (the seventh form; the later family's looks); each row that meets fmt, with fmt's text TOLD by the authors' own Lean function (tested against real Go, not proved from fmt's source: count such statements apart). THE CARD IS WHAT COUNTS. Prove the row's statement (the work); the ties are given (YthjcaihemgllaaaGreatDoorTie.lean); close each card by the builder's one call (the guide's Derived/Test/ToyasCard.lean, 'card_holds'). Laid BY PROGRAM, IN A SANDBOX (cutbox-door.mjs). By AI agents, Wed Nov 11 2026. No macro, syntax, notation, axiom, sorry.
-/
import Derived.Test.YthjcaihemgllaaaGreatDoorRows
import GoSem.ClaimSeven
namespace Go.Proofs.YthjcaihemgllaaaGreatDoor
namespace Rows

/-- THE TIED CARD OF 'homehublaw30.PrintChecks'. -/
def printChecksCard : Claim7 := { stood := { row := printChecksRow, standIns := [], harness := (true, "f934753ed2412591ebd5b6a67124568c734e0a0957838981dd1005c72e4178d0"), looks := true }, kinds := [], alts := [], laidByText := true, laidKinds := [.data, .data, .data], laidTests := true, laidLooks := .later }
def PrintChecksCardSaid : Prop := Claim7.holds Tryz.pinned (.plain (OpenSpec.ofChange printChecksSpec)) printChecksCard

/-- THE TIED CARD OF 'homehublaw30.PrintExprs'. -/
def printExprsCard : Claim7 := { stood := { row := printExprsRow, standIns := [], harness := (true, "f934753ed2412591ebd5b6a67124568c734e0a0957838981dd1005c72e4178d0"), looks := true }, kinds := [], alts := [], laidByText := true, laidKinds := [.data, .data, .data], laidTests := true, laidLooks := .later }
def PrintExprsCardSaid : Prop := Claim7.holds Tryz.pinned (.plain (OpenSpec.ofChange printExprsSpec)) printExprsCard

/-- THE TIED CARD OF 'homehublaw30.PrintRules'. -/
def printRulesCard : Claim7 := { stood := { row := printRulesRow, standIns := [], harness := (true, "f934753ed2412591ebd5b6a67124568c734e0a0957838981dd1005c72e4178d0"), looks := true }, kinds := [], alts := [], laidByText := true, laidKinds := [.data, .data, .data], laidTests := true, laidLooks := .later }
def PrintRulesCardSaid : Prop := Claim7.holds Tryz.pinned (.plain (OpenSpec.ofChange printRulesSpec)) printRulesCard

/-- THE TIED CARD OF 'homehublaw30.PrintReturns'. -/
def printReturnsCard : Claim7 := { stood := { row := printReturnsRow, standIns := [], harness := (true, "f934753ed2412591ebd5b6a67124568c734e0a0957838981dd1005c72e4178d0"), looks := true }, kinds := [], alts := [], laidByText := true, laidKinds := [.data, .data, .data], laidTests := true, laidLooks := .later }
def PrintReturnsCardSaid : Prop := Claim7.holds Tryz.pinned (.plain (OpenSpec.ofChange printReturnsSpec)) printReturnsCard

/-- THE TIED CARD OF 'homehublaw30.PrintSources'. -/
def printSourcesCard : Claim7 := { stood := { row := printSourcesRow, standIns := [], harness := (true, "f934753ed2412591ebd5b6a67124568c734e0a0957838981dd1005c72e4178d0"), looks := true }, kinds := [], alts := [], laidByText := true, laidKinds := [.data, .data, .data], laidTests := true, laidLooks := .later }
def PrintSourcesCardSaid : Prop := Claim7.holds Tryz.pinned (.plain (OpenSpec.ofChange printSourcesSpec)) printSourcesCard

/-- THE TIED CARD OF 'homehublaw30.PrintFixed'. -/
def printFixedCard : Claim7 := { stood := { row := printFixedRow, standIns := [], harness := (true, "f934753ed2412591ebd5b6a67124568c734e0a0957838981dd1005c72e4178d0"), looks := true }, kinds := [], alts := [], laidByText := true, laidKinds := [.data, .data, .data], laidTests := true, laidLooks := .later }
def PrintFixedCardSaid : Prop := Claim7.holds Tryz.pinned (.plain (OpenSpec.ofChange printFixedSpec)) printFixedCard

/-- THE SECOND FORM's CARD OF 'homehublaw30.PrintChecks'. -/
def printChecksUptoCard : Claim7 := { stood := { row := printChecksUptoRow, standIns := [], harness := (true, "f934753ed2412591ebd5b6a67124568c734e0a0957838981dd1005c72e4178d0"), looks := true }, kinds := [], alts := [], laidByText := true, laidKinds := [.data, .data, .data], laidTests := true, laidLooks := .later }
def PrintChecksUptoCardSaid : Prop := Claim7.holds Tryz.pinned (.plain (OpenSpec.upto printChecksSpec)) printChecksUptoCard

/-- THE SECOND FORM's CARD OF 'homehublaw30.PrintExprs'. -/
def printExprsUptoCard : Claim7 := { stood := { row := printExprsUptoRow, standIns := [], harness := (true, "f934753ed2412591ebd5b6a67124568c734e0a0957838981dd1005c72e4178d0"), looks := true }, kinds := [], alts := [], laidByText := true, laidKinds := [.data, .data, .data], laidTests := true, laidLooks := .later }
def PrintExprsUptoCardSaid : Prop := Claim7.holds Tryz.pinned (.plain (OpenSpec.upto printExprsSpec)) printExprsUptoCard

/-- THE SECOND FORM's CARD OF 'homehublaw30.PrintRules'. -/
def printRulesUptoCard : Claim7 := { stood := { row := printRulesUptoRow, standIns := [], harness := (true, "f934753ed2412591ebd5b6a67124568c734e0a0957838981dd1005c72e4178d0"), looks := true }, kinds := [], alts := [], laidByText := true, laidKinds := [.data, .data, .data], laidTests := true, laidLooks := .later }
def PrintRulesUptoCardSaid : Prop := Claim7.holds Tryz.pinned (.plain (OpenSpec.upto printRulesSpec)) printRulesUptoCard

/-- THE SECOND FORM's CARD OF 'homehublaw30.PrintReturns'. -/
def printReturnsUptoCard : Claim7 := { stood := { row := printReturnsUptoRow, standIns := [], harness := (true, "f934753ed2412591ebd5b6a67124568c734e0a0957838981dd1005c72e4178d0"), looks := true }, kinds := [], alts := [], laidByText := true, laidKinds := [.data, .data, .data], laidTests := true, laidLooks := .later }
def PrintReturnsUptoCardSaid : Prop := Claim7.holds Tryz.pinned (.plain (OpenSpec.upto printReturnsSpec)) printReturnsUptoCard

/-- THE SECOND FORM's CARD OF 'homehublaw30.PrintSources'. -/
def printSourcesUptoCard : Claim7 := { stood := { row := printSourcesUptoRow, standIns := [], harness := (true, "f934753ed2412591ebd5b6a67124568c734e0a0957838981dd1005c72e4178d0"), looks := true }, kinds := [], alts := [], laidByText := true, laidKinds := [.data, .data, .data], laidTests := true, laidLooks := .later }
def PrintSourcesUptoCardSaid : Prop := Claim7.holds Tryz.pinned (.plain (OpenSpec.upto printSourcesSpec)) printSourcesUptoCard

/-- THE SECOND FORM's CARD OF 'homehublaw30.PrintFixed'. -/
def printFixedUptoCard : Claim7 := { stood := { row := printFixedUptoRow, standIns := [], harness := (true, "f934753ed2412591ebd5b6a67124568c734e0a0957838981dd1005c72e4178d0"), looks := true }, kinds := [], alts := [], laidByText := true, laidKinds := [.data, .data, .data], laidTests := true, laidLooks := .later }
def PrintFixedUptoCardSaid : Prop := Claim7.holds Tryz.pinned (.plain (OpenSpec.upto printFixedSpec)) printFixedUptoCard
end Rows
end Go.Proofs.YthjcaihemgllaaaGreatDoor
