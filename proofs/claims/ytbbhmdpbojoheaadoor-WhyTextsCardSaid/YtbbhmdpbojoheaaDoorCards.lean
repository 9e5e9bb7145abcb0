/-
  DERIVED. GIVEN WITH THE SEED: THE CARDS: each row of YtbbhmdpbojoheaaDoorRows.lean that lists a variable, with what it lists TIED to the program's text (the seventh form; the later family's looks); each row that meets fmt, with fmt's text TOLD by the authors' own Lean function (tested against real Go, not proved from fmt's source: count such statements apart). THE CARD IS WHAT COUNTS. Prove the row's statement (the work); the ties are given (YtbbhmdpbojoheaaDoorTie.lean); close each card by the builder's one call (the guide's Derived/Test/ToyasCard.lean, 'card_holds'). Laid BY PROGRAM, IN A SANDBOX (cutbox-door.mjs). By AI agents, Wed Nov 11 2026. No macro, syntax, notation, axiom, sorry.
-/
import Derived.Test.YtbbhmdpbojoheaaDoorRows
import GoSem.ClaimSeven
namespace Go.Proofs.YtbbhmdpbojoheaaDoor
namespace Rows

/-- THE TIED CARD OF 'homehublaw56.WhyChecks'. -/
def whyChecksCard : Claim7 := { stood := { row := whyChecksRow, standIns := [], harness := (true, "c30d43f8f86ea8fa82847790d4726a5a218be4fa2b2a67afd016cd747194e9b5"), looks := false }, kinds := [], alts := [], laidByText := true, laidKinds := [.data, .data, .data], laidTests := true, laidLooks := .later }
def WhyChecksCardSaid : Prop := Claim7.holds Tryd.pinned (.plain (OpenSpec.ofChange whyChecksSpec)) whyChecksCard

/-- THE TIED CARD OF 'homehublaw56.WhyChains'. -/
def whyChainsCard : Claim7 := { stood := { row := whyChainsRow, standIns := [], harness := (true, "c30d43f8f86ea8fa82847790d4726a5a218be4fa2b2a67afd016cd747194e9b5"), looks := false }, kinds := [], alts := [], laidByText := true, laidKinds := [.data, .data, .data], laidTests := true, laidLooks := .later }
def WhyChainsCardSaid : Prop := Claim7.holds Tryd.pinned (.plain (OpenSpec.ofChange whyChainsSpec)) whyChainsCard

/-- THE TIED CARD OF 'homehublaw56.WhyTexts'. -/
def whyTextsCard : Claim7 := { stood := { row := whyTextsRow, standIns := [], harness := (true, "c30d43f8f86ea8fa82847790d4726a5a218be4fa2b2a67afd016cd747194e9b5"), looks := false }, kinds := [], alts := [], laidByText := true, laidKinds := [.data, .data, .data], laidTests := true, laidLooks := .later }
def WhyTextsCardSaid : Prop := Claim7.holds Tryd.pinned (.plain (OpenSpec.ofChange whyTextsSpec)) whyTextsCard

/-- THE TIED CARD OF 'homehublaw56.WhyDescends'. -/
def whyDescendsCard : Claim7 := { stood := { row := whyDescendsRow, standIns := [], harness := (true, "c30d43f8f86ea8fa82847790d4726a5a218be4fa2b2a67afd016cd747194e9b5"), looks := false }, kinds := [], alts := [], laidByText := true, laidKinds := [.data, .data, .data], laidTests := true, laidLooks := .later }
def WhyDescendsCardSaid : Prop := Claim7.holds Tryd.pinned (.plain (OpenSpec.ofChange whyDescendsSpec)) whyDescendsCard

/-- THE TIED CARD OF 'homehublaw56.WhyTrims'. -/
def whyTrimsCard : Claim7 := { stood := { row := whyTrimsRow, standIns := [], harness := (true, "c30d43f8f86ea8fa82847790d4726a5a218be4fa2b2a67afd016cd747194e9b5"), looks := false }, kinds := [], alts := [], laidByText := true, laidKinds := [.data, .data, .data], laidTests := true, laidLooks := .later }
def WhyTrimsCardSaid : Prop := Claim7.holds Tryd.pinned (.plain (OpenSpec.ofChange whyTrimsSpec)) whyTrimsCard

/-- THE TIED CARD OF 'homehublaw56.WhyKeeps'. -/
def whyKeepsCard : Claim7 := { stood := { row := whyKeepsRow, standIns := [], harness := (true, "c30d43f8f86ea8fa82847790d4726a5a218be4fa2b2a67afd016cd747194e9b5"), looks := false }, kinds := [], alts := [], laidByText := true, laidKinds := [.data, .data, .data], laidTests := true, laidLooks := .later }
def WhyKeepsCardSaid : Prop := Claim7.holds Tryd.pinned (.plain (OpenSpec.ofChange whyKeepsSpec)) whyKeepsCard

/-- THE SECOND FORM's CARD OF 'homehublaw56.WhyChecks'. -/
def whyChecksUptoCard : Claim7 := { stood := { row := whyChecksUptoRow, standIns := [], harness := (true, "c30d43f8f86ea8fa82847790d4726a5a218be4fa2b2a67afd016cd747194e9b5"), looks := false }, kinds := [], alts := [], laidByText := true, laidKinds := [.data, .data, .data], laidTests := true, laidLooks := .later }
def WhyChecksUptoCardSaid : Prop := Claim7.holds Tryd.pinned (.plain (OpenSpec.upto whyChecksSpec)) whyChecksUptoCard

/-- THE SECOND FORM's CARD OF 'homehublaw56.WhyChains'. -/
def whyChainsUptoCard : Claim7 := { stood := { row := whyChainsUptoRow, standIns := [], harness := (true, "c30d43f8f86ea8fa82847790d4726a5a218be4fa2b2a67afd016cd747194e9b5"), looks := false }, kinds := [], alts := [], laidByText := true, laidKinds := [.data, .data, .data], laidTests := true, laidLooks := .later }
def WhyChainsUptoCardSaid : Prop := Claim7.holds Tryd.pinned (.plain (OpenSpec.upto whyChainsSpec)) whyChainsUptoCard

/-- THE SECOND FORM's CARD OF 'homehublaw56.WhyTexts'. -/
def whyTextsUptoCard : Claim7 := { stood := { row := whyTextsUptoRow, standIns := [], harness := (true, "c30d43f8f86ea8fa82847790d4726a5a218be4fa2b2a67afd016cd747194e9b5"), looks := false }, kinds := [], alts := [], laidByText := true, laidKinds := [.data, .data, .data], laidTests := true, laidLooks := .later }
def WhyTextsUptoCardSaid : Prop := Claim7.holds Tryd.pinned (.plain (OpenSpec.upto whyTextsSpec)) whyTextsUptoCard

/-- THE SECOND FORM's CARD OF 'homehublaw56.WhyDescends'. -/
def whyDescendsUptoCard : Claim7 := { stood := { row := whyDescendsUptoRow, standIns := [], harness := (true, "c30d43f8f86ea8fa82847790d4726a5a218be4fa2b2a67afd016cd747194e9b5"), looks := false }, kinds := [], alts := [], laidByText := true, laidKinds := [.data, .data, .data], laidTests := true, laidLooks := .later }
def WhyDescendsUptoCardSaid : Prop := Claim7.holds Tryd.pinned (.plain (OpenSpec.upto whyDescendsSpec)) whyDescendsUptoCard

/-- THE SECOND FORM's CARD OF 'homehublaw56.WhyTrims'. -/
def whyTrimsUptoCard : Claim7 := { stood := { row := whyTrimsUptoRow, standIns := [], harness := (true, "c30d43f8f86ea8fa82847790d4726a5a218be4fa2b2a67afd016cd747194e9b5"), looks := false }, kinds := [], alts := [], laidByText := true, laidKinds := [.data, .data, .data], laidTests := true, laidLooks := .later }
def WhyTrimsUptoCardSaid : Prop := Claim7.holds Tryd.pinned (.plain (OpenSpec.upto whyTrimsSpec)) whyTrimsUptoCard

/-- THE SECOND FORM's CARD OF 'homehublaw56.WhyKeeps'. -/
def whyKeepsUptoCard : Claim7 := { stood := { row := whyKeepsUptoRow, standIns := [], harness := (true, "c30d43f8f86ea8fa82847790d4726a5a218be4fa2b2a67afd016cd747194e9b5"), looks := false }, kinds := [], alts := [], laidByText := true, laidKinds := [.data, .data, .data], laidTests := true, laidLooks := .later }
def WhyKeepsUptoCardSaid : Prop := Claim7.holds Tryd.pinned (.plain (OpenSpec.upto whyKeepsSpec)) whyKeepsUptoCard
end Rows
end Go.Proofs.YtbbhmdpbojoheaaDoor
