/-
  DERIVED. GIVEN WITH THE SEED: THE CARDS: each row of YthfcokfigmpanaaDoorRows.lean that lists a variable, with what it lists TIED to the program's text (the seventh form; the later family's looks); each row that meets fmt, with fmt's text TOLD by the authors' own Lean function (tested against real Go, not proved from fmt's source: count such statements apart). THE CARD IS WHAT COUNTS. Prove the row's statement (the work); the ties are given (YthfcokfigmpanaaDoorTie.lean); close each card by the builder's one call (the guide's Derived/Test/ToyasCard.lean, 'card_holds'). Laid BY PROGRAM, IN A SANDBOX (cutbox-door.mjs). By AI agents, Wed Nov 11 2026. No macro, syntax, notation, axiom, sorry.
-/
import Derived.Test.YthfcokfigmpanaaDoorRows
import GoSem.ClaimSeven
namespace Go.Proofs.YthfcokfigmpanaaDoor
namespace Rows

/-- THE TIED CARD OF 'homehublaw01.NumScales'. -/
def numScalesCard : Claim7 := { stood := { row := numScalesRow, standIns := [], harness := (true, "bfaa9c270d42b6fa86ef89f64361fa681813f28071ee9cc7b966939a60388abe"), looks := false }, kinds := [], alts := [], laidByText := true, laidKinds := [.data, .data, .data], laidTests := true, laidLooks := .later }
def NumScalesCardSaid : Prop := Claim7.holds Tryd.pinned (.plain (OpenSpec.ofChange numScalesSpec)) numScalesCard

/-- THE TIED CARD OF 'homehublaw01.NumTexts'. -/
def numTextsCard : Claim7 := { stood := { row := numTextsRow, standIns := [], harness := (true, "bfaa9c270d42b6fa86ef89f64361fa681813f28071ee9cc7b966939a60388abe"), looks := false }, kinds := [], alts := [], laidByText := true, laidKinds := [.data, .data, .data], laidTests := true, laidLooks := .later }
def NumTextsCardSaid : Prop := Claim7.holds Tryd.pinned (.plain (OpenSpec.ofChange numTextsSpec)) numTextsCard

/-- THE TIED CARD OF 'homehublaw01.NumBack'. -/
def numBackCard : Claim7 := { stood := { row := numBackRow, standIns := [], harness := (true, "bfaa9c270d42b6fa86ef89f64361fa681813f28071ee9cc7b966939a60388abe"), looks := false }, kinds := [], alts := [], laidByText := true, laidKinds := [.data, .data, .data], laidTests := true, laidLooks := .later }
def NumBackCardSaid : Prop := Claim7.holds Tryd.pinned (.plain (OpenSpec.ofChange numBackSpec)) numBackCard

/-- THE TIED CARD OF 'homehublaw01.NumProducts'. -/
def numProductsCard : Claim7 := { stood := { row := numProductsRow, standIns := [], harness := (true, "bfaa9c270d42b6fa86ef89f64361fa681813f28071ee9cc7b966939a60388abe"), looks := false }, kinds := [], alts := [], laidByText := true, laidKinds := [.data, .data, .data], laidTests := true, laidLooks := .later }
def NumProductsCardSaid : Prop := Claim7.holds Tryd.pinned (.plain (OpenSpec.ofChange numProductsSpec)) numProductsCard

/-- THE TIED CARD OF 'homehublaw01.NumSums'. -/
def numSumsCard : Claim7 := { stood := { row := numSumsRow, standIns := [], harness := (true, "bfaa9c270d42b6fa86ef89f64361fa681813f28071ee9cc7b966939a60388abe"), looks := false }, kinds := [], alts := [], laidByText := true, laidKinds := [.data, .data, .data], laidTests := true, laidLooks := .later }
def NumSumsCardSaid : Prop := Claim7.holds Tryd.pinned (.plain (OpenSpec.ofChange numSumsSpec)) numSumsCard

/-- THE TIED CARD OF 'homehublaw01.NumOrder'. -/
def numOrderCard : Claim7 := { stood := { row := numOrderRow, standIns := [], harness := (true, "bfaa9c270d42b6fa86ef89f64361fa681813f28071ee9cc7b966939a60388abe"), looks := false }, kinds := [], alts := [], laidByText := true, laidKinds := [.data, .data, .data], laidTests := true, laidLooks := .later }
def NumOrderCardSaid : Prop := Claim7.holds Tryd.pinned (.plain (OpenSpec.ofChange numOrderSpec)) numOrderCard

/-- THE TIED CARD OF 'homehublaw01.NumClamps'. -/
def numClampsCard : Claim7 := { stood := { row := numClampsRow, standIns := [], harness := (true, "bfaa9c270d42b6fa86ef89f64361fa681813f28071ee9cc7b966939a60388abe"), looks := false }, kinds := [], alts := [], laidByText := true, laidKinds := [.data, .data, .data], laidTests := true, laidLooks := .later }
def NumClampsCardSaid : Prop := Claim7.holds Tryd.pinned (.plain (OpenSpec.ofChange numClampsSpec)) numClampsCard

/-- THE TIED CARD OF 'homehublaw01.NumQuotients'. -/
def numQuotientsCard : Claim7 := { stood := { row := numQuotientsRow, standIns := [], harness := (true, "bfaa9c270d42b6fa86ef89f64361fa681813f28071ee9cc7b966939a60388abe"), looks := false }, kinds := [], alts := [], laidByText := true, laidKinds := [.data, .data, .data], laidTests := true, laidLooks := .later }
def NumQuotientsCardSaid : Prop := Claim7.holds Tryd.pinned (.plain (OpenSpec.ofChange numQuotientsSpec)) numQuotientsCard

/-- THE TIED CARD OF 'homehublaw01.NumRemainder'. -/
def numRemainderCard : Claim7 := { stood := { row := numRemainderRow, standIns := [], harness := (true, "bfaa9c270d42b6fa86ef89f64361fa681813f28071ee9cc7b966939a60388abe"), looks := false }, kinds := [], alts := [], laidByText := true, laidKinds := [.data, .data, .data], laidTests := true, laidLooks := .later }
def NumRemainderCardSaid : Prop := Claim7.holds Tryd.pinned (.plain (OpenSpec.ofChange numRemainderSpec)) numRemainderCard

/-- THE SECOND FORM's CARD OF 'homehublaw01.NumScales'. -/
def numScalesUptoCard : Claim7 := { stood := { row := numScalesUptoRow, standIns := [], harness := (true, "bfaa9c270d42b6fa86ef89f64361fa681813f28071ee9cc7b966939a60388abe"), looks := false }, kinds := [], alts := [], laidByText := true, laidKinds := [.data, .data, .data], laidTests := true, laidLooks := .later }
def NumScalesUptoCardSaid : Prop := Claim7.holds Tryd.pinned (.plain (OpenSpec.upto numScalesSpec)) numScalesUptoCard

/-- THE SECOND FORM's CARD OF 'homehublaw01.NumTexts'. -/
def numTextsUptoCard : Claim7 := { stood := { row := numTextsUptoRow, standIns := [], harness := (true, "bfaa9c270d42b6fa86ef89f64361fa681813f28071ee9cc7b966939a60388abe"), looks := false }, kinds := [], alts := [], laidByText := true, laidKinds := [.data, .data, .data], laidTests := true, laidLooks := .later }
def NumTextsUptoCardSaid : Prop := Claim7.holds Tryd.pinned (.plain (OpenSpec.upto numTextsSpec)) numTextsUptoCard

/-- THE SECOND FORM's CARD OF 'homehublaw01.NumBack'. -/
def numBackUptoCard : Claim7 := { stood := { row := numBackUptoRow, standIns := [], harness := (true, "bfaa9c270d42b6fa86ef89f64361fa681813f28071ee9cc7b966939a60388abe"), looks := false }, kinds := [], alts := [], laidByText := true, laidKinds := [.data, .data, .data], laidTests := true, laidLooks := .later }
def NumBackUptoCardSaid : Prop := Claim7.holds Tryd.pinned (.plain (OpenSpec.upto numBackSpec)) numBackUptoCard

/-- THE SECOND FORM's CARD OF 'homehublaw01.NumProducts'. -/
def numProductsUptoCard : Claim7 := { stood := { row := numProductsUptoRow, standIns := [], harness := (true, "bfaa9c270d42b6fa86ef89f64361fa681813f28071ee9cc7b966939a60388abe"), looks := false }, kinds := [], alts := [], laidByText := true, laidKinds := [.data, .data, .data], laidTests := true, laidLooks := .later }
def NumProductsUptoCardSaid : Prop := Claim7.holds Tryd.pinned (.plain (OpenSpec.upto numProductsSpec)) numProductsUptoCard

/-- THE SECOND FORM's CARD OF 'homehublaw01.NumSums'. -/
def numSumsUptoCard : Claim7 := { stood := { row := numSumsUptoRow, standIns := [], harness := (true, "bfaa9c270d42b6fa86ef89f64361fa681813f28071ee9cc7b966939a60388abe"), looks := false }, kinds := [], alts := [], laidByText := true, laidKinds := [.data, .data, .data], laidTests := true, laidLooks := .later }
def NumSumsUptoCardSaid : Prop := Claim7.holds Tryd.pinned (.plain (OpenSpec.upto numSumsSpec)) numSumsUptoCard

/-- THE SECOND FORM's CARD OF 'homehublaw01.NumOrder'. -/
def numOrderUptoCard : Claim7 := { stood := { row := numOrderUptoRow, standIns := [], harness := (true, "bfaa9c270d42b6fa86ef89f64361fa681813f28071ee9cc7b966939a60388abe"), looks := false }, kinds := [], alts := [], laidByText := true, laidKinds := [.data, .data, .data], laidTests := true, laidLooks := .later }
def NumOrderUptoCardSaid : Prop := Claim7.holds Tryd.pinned (.plain (OpenSpec.upto numOrderSpec)) numOrderUptoCard

/-- THE SECOND FORM's CARD OF 'homehublaw01.NumClamps'. -/
def numClampsUptoCard : Claim7 := { stood := { row := numClampsUptoRow, standIns := [], harness := (true, "bfaa9c270d42b6fa86ef89f64361fa681813f28071ee9cc7b966939a60388abe"), looks := false }, kinds := [], alts := [], laidByText := true, laidKinds := [.data, .data, .data], laidTests := true, laidLooks := .later }
def NumClampsUptoCardSaid : Prop := Claim7.holds Tryd.pinned (.plain (OpenSpec.upto numClampsSpec)) numClampsUptoCard

/-- THE SECOND FORM's CARD OF 'homehublaw01.NumQuotients'. -/
def numQuotientsUptoCard : Claim7 := { stood := { row := numQuotientsUptoRow, standIns := [], harness := (true, "bfaa9c270d42b6fa86ef89f64361fa681813f28071ee9cc7b966939a60388abe"), looks := false }, kinds := [], alts := [], laidByText := true, laidKinds := [.data, .data, .data], laidTests := true, laidLooks := .later }
def NumQuotientsUptoCardSaid : Prop := Claim7.holds Tryd.pinned (.plain (OpenSpec.upto numQuotientsSpec)) numQuotientsUptoCard

/-- THE SECOND FORM's CARD OF 'homehublaw01.NumRemainder'. -/
def numRemainderUptoCard : Claim7 := { stood := { row := numRemainderUptoRow, standIns := [], harness := (true, "bfaa9c270d42b6fa86ef89f64361fa681813f28071ee9cc7b966939a60388abe"), looks := false }, kinds := [], alts := [], laidByText := true, laidKinds := [.data, .data, .data], laidTests := true, laidLooks := .later }
def NumRemainderUptoCardSaid : Prop := Claim7.holds Tryd.pinned (.plain (OpenSpec.upto numRemainderSpec)) numRemainderUptoCard
end Rows
end Go.Proofs.YthfcokfigmpanaaDoor
