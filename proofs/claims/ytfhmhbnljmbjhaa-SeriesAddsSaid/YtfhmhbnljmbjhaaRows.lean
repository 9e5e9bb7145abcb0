/-
  No cell of these rows narrows 'for every input' (looked for: loops, veiled, ifaces, maps, wideKeys, modest, calm, conditions, laid).
  DERIVED. THE GIVEN ROWS OF THIS SEAT. 8 by the template 'for every input the law returns true; each argument reads behind the call as it read before'; 0 by the template 'total and deterministic' (their statements: YtfhmhbnljmbjhaaTotals.lean).
  GIVEN WITH THE SEED: the statements are not yours to turn. If you find one false, say at which input.
  Laid BY PROGRAM, IN A SANDBOX (cutbox-rows.mjs): the forced cells as the released guide's own fill.sh prints them over the translation 681e14b2cfb51956… (all of the seat's roots in one cut). By AI agents, Wed Nov 11 2026. No macro, syntax, notation, axiom, sorry.
-/
import Derived.Test.YtfhmhbnljmbjhaaChecked
import GoSem.Claim
import GoSem.ClaimJoined
import GoSem.ClaimMapViews
import Derived.JoinedTies
import Derived.KernelRfl
namespace Go.Proofs.Ytfhmhbnljmbjhaa
/- THE CELL 'sum', in the pinned program and in every row, IS THE sha256 OF THE DUMP (.gsa) THAT YtfhmhbnljmbjhaaProg.lean LOADS. Nothing in Lean hashes anything: it is a label: what it is worth is what the hold of that sum in a sandbox is worth. -/
noncomputable def Try.pinned : Pinned := { name := "ytfhmhbnljmbjhaa", sum := "681e14b2cfb5195639b9afdfb31fa67f81da9fa941479d4886689f118506abae", checked := Try.checked }
namespace Rows
def none {H : Type} : Left H := { results := [], args := [] }

/-- 'homehublaw07.SeriesHolds': WHATEVER THE INPUT: true; the input reads as it did. -/
def seriesHoldsSpec : ChangeSpec := { name := "seriesHolds", fn := fun _ => fun
  | [d1, d2] => { results := [.lit (.bool true)], args := [d1, d2] }
  | _ => none }
def seriesHoldsRow : OpenClaim := { program := "ytfhmhbnljmbjhaa", sum := "681e14b2cfb5195639b9afdfb31fa67f81da9fa941479d4886689f118506abae", func := "homehub/homehublaw07.SeriesHolds", spec := "seriesHolds", apart := false }
def SeriesHoldsSaid : Prop := seriesHoldsRow.holds Try.pinned (OpenSpec.ofChange seriesHoldsSpec)

/-- ITS FALSE NEIGHBOUR: 'it returns false'. Refute it at one input. -/
def seriesHoldsWrong : ChangeSpec := { name := "seriesHolds", fn := fun _ => fun
  | [d1, d2] => { results := [.lit (.bool false)], args := [d1, d2] }
  | _ => none }
def SeriesHoldsWrongFalsely : Prop := seriesHoldsRow.holds Try.pinned (OpenSpec.ofChange seriesHoldsWrong)

/-- 'homehublaw07.SeriesPeak': WHATEVER THE INPUT: true; the input reads as it did. -/
def seriesPeakSpec : ChangeSpec := { name := "seriesPeak", fn := fun _ => fun
  | [d] => { results := [.lit (.bool true)], args := [d] }
  | _ => none }
def seriesPeakRow : OpenClaim := { program := "ytfhmhbnljmbjhaa", sum := "681e14b2cfb5195639b9afdfb31fa67f81da9fa941479d4886689f118506abae", func := "homehub/homehublaw07.SeriesPeak", spec := "seriesPeak", apart := false }
def SeriesPeakSaid : Prop := seriesPeakRow.holds Try.pinned (OpenSpec.ofChange seriesPeakSpec)

/-- ITS FALSE NEIGHBOUR: 'it returns false'. Refute it at one input. -/
def seriesPeakWrong : ChangeSpec := { name := "seriesPeak", fn := fun _ => fun
  | [d] => { results := [.lit (.bool false)], args := [d] }
  | _ => none }
def SeriesPeakWrongFalsely : Prop := seriesPeakRow.holds Try.pinned (OpenSpec.ofChange seriesPeakWrong)

/-- 'homehublaw07.SeriesReads': WHATEVER THE INPUT: true; the input reads as it did. -/
def seriesReadsSpec : ChangeSpec := { name := "seriesReads", fn := fun _ => fun
  | [d1, d2, d3] => { results := [.lit (.bool true)], args := [d1, d2, d3] }
  | _ => none }
def seriesReadsRow : OpenClaim := { program := "ytfhmhbnljmbjhaa", sum := "681e14b2cfb5195639b9afdfb31fa67f81da9fa941479d4886689f118506abae", func := "homehub/homehublaw07.SeriesReads", spec := "seriesReads", apart := false }
def SeriesReadsSaid : Prop := seriesReadsRow.holds Try.pinned (OpenSpec.ofChange seriesReadsSpec)

/-- ITS FALSE NEIGHBOUR: 'it returns false'. Refute it at one input. -/
def seriesReadsWrong : ChangeSpec := { name := "seriesReads", fn := fun _ => fun
  | [d1, d2, d3] => { results := [.lit (.bool false)], args := [d1, d2, d3] }
  | _ => none }
def SeriesReadsWrongFalsely : Prop := seriesReadsRow.holds Try.pinned (OpenSpec.ofChange seriesReadsWrong)

/-- 'homehublaw07.SeriesGroups': WHATEVER THE INPUT: true; the input reads as it did. -/
def seriesGroupsSpec : ChangeSpec := { name := "seriesGroups", fn := fun _ => fun
  | [d1, d2] => { results := [.lit (.bool true)], args := [d1, d2] }
  | _ => none }
def seriesGroupsRow : OpenClaim := { program := "ytfhmhbnljmbjhaa", sum := "681e14b2cfb5195639b9afdfb31fa67f81da9fa941479d4886689f118506abae", func := "homehub/homehublaw07.SeriesGroups", spec := "seriesGroups", apart := false }
def SeriesGroupsSaid : Prop := seriesGroupsRow.holds Try.pinned (OpenSpec.ofChange seriesGroupsSpec)

/-- ITS FALSE NEIGHBOUR: 'it returns false'. Refute it at one input. -/
def seriesGroupsWrong : ChangeSpec := { name := "seriesGroups", fn := fun _ => fun
  | [d1, d2] => { results := [.lit (.bool false)], args := [d1, d2] }
  | _ => none }
def SeriesGroupsWrongFalsely : Prop := seriesGroupsRow.holds Try.pinned (OpenSpec.ofChange seriesGroupsWrong)

/-- 'homehublaw07.SeriesParts': WHATEVER THE INPUT: true; the input reads as it did. -/
def seriesPartsSpec : ChangeSpec := { name := "seriesParts", fn := fun _ => fun
  | [d1, d2] => { results := [.lit (.bool true)], args := [d1, d2] }
  | _ => none }
def seriesPartsRow : OpenClaim := { program := "ytfhmhbnljmbjhaa", sum := "681e14b2cfb5195639b9afdfb31fa67f81da9fa941479d4886689f118506abae", func := "homehub/homehublaw07.SeriesParts", spec := "seriesParts", apart := false }
def SeriesPartsSaid : Prop := seriesPartsRow.holds Try.pinned (OpenSpec.ofChange seriesPartsSpec)

/-- ITS FALSE NEIGHBOUR: 'it returns false'. Refute it at one input. -/
def seriesPartsWrong : ChangeSpec := { name := "seriesParts", fn := fun _ => fun
  | [d1, d2] => { results := [.lit (.bool false)], args := [d1, d2] }
  | _ => none }
def SeriesPartsWrongFalsely : Prop := seriesPartsRow.holds Try.pinned (OpenSpec.ofChange seriesPartsWrong)

/-- 'homehublaw07.SeriesChecks': WHATEVER THE INPUT: true; the input reads as it did. -/
def seriesChecksSpec : ChangeSpec := { name := "seriesChecks", fn := fun _ => fun
  | [d1, d2, d3] => { results := [.lit (.bool true)], args := [d1, d2, d3] }
  | _ => none }
def seriesChecksRow : OpenClaim := { program := "ytfhmhbnljmbjhaa", sum := "681e14b2cfb5195639b9afdfb31fa67f81da9fa941479d4886689f118506abae", func := "homehub/homehublaw07.SeriesChecks", spec := "seriesChecks", apart := false }
def SeriesChecksSaid : Prop := seriesChecksRow.holds Try.pinned (OpenSpec.ofChange seriesChecksSpec)

/-- ITS FALSE NEIGHBOUR: 'it returns false'. Refute it at one input. -/
def seriesChecksWrong : ChangeSpec := { name := "seriesChecks", fn := fun _ => fun
  | [d1, d2, d3] => { results := [.lit (.bool false)], args := [d1, d2, d3] }
  | _ => none }
def SeriesChecksWrongFalsely : Prop := seriesChecksRow.holds Try.pinned (OpenSpec.ofChange seriesChecksWrong)

/-- 'homehublaw07.SeriesTotals': WHATEVER THE INPUT: true; the input reads as it did. -/
def seriesTotalsSpec : ChangeSpec := { name := "seriesTotals", fn := fun _ => fun
  | [d1, d2, d3] => { results := [.lit (.bool true)], args := [d1, d2, d3] }
  | _ => none }
def seriesTotalsRow : OpenClaim := { program := "ytfhmhbnljmbjhaa", sum := "681e14b2cfb5195639b9afdfb31fa67f81da9fa941479d4886689f118506abae", func := "homehub/homehublaw07.SeriesTotals", spec := "seriesTotals", apart := false }
def SeriesTotalsSaid : Prop := seriesTotalsRow.holds Try.pinned (OpenSpec.ofChange seriesTotalsSpec)

/-- ITS FALSE NEIGHBOUR: 'it returns false'. Refute it at one input. -/
def seriesTotalsWrong : ChangeSpec := { name := "seriesTotals", fn := fun _ => fun
  | [d1, d2, d3] => { results := [.lit (.bool false)], args := [d1, d2, d3] }
  | _ => none }
def SeriesTotalsWrongFalsely : Prop := seriesTotalsRow.holds Try.pinned (OpenSpec.ofChange seriesTotalsWrong)

/-- 'homehublaw07.SeriesAdds': WHATEVER THE INPUT: true; the input reads as it did. -/
def seriesAddsSpec : ChangeSpec := { name := "seriesAdds", fn := fun _ => fun
  | [d1, d2, d3] => { results := [.lit (.bool true)], args := [d1, d2, d3] }
  | _ => none }
def seriesAddsRow : OpenClaim := { program := "ytfhmhbnljmbjhaa", sum := "681e14b2cfb5195639b9afdfb31fa67f81da9fa941479d4886689f118506abae", func := "homehub/homehublaw07.SeriesAdds", spec := "seriesAdds", apart := false }
def SeriesAddsSaid : Prop := seriesAddsRow.holds Try.pinned (OpenSpec.ofChange seriesAddsSpec)

/-- ITS FALSE NEIGHBOUR: 'it returns false'. Refute it at one input. -/
def seriesAddsWrong : ChangeSpec := { name := "seriesAdds", fn := fun _ => fun
  | [d1, d2, d3] => { results := [.lit (.bool false)], args := [d1, d2, d3] }
  | _ => none }
def SeriesAddsWrongFalsely : Prop := seriesAddsRow.holds Try.pinned (OpenSpec.ofChange seriesAddsWrong)

/- THE SECOND FORM. 'bulk': how many values and letters a reading holds, each counted each time it is reached (what is shared counts as often as it is met; a slice's spare places count too). A statement '..UptoSaid' is the law's where the arguments, and the package variables that the reading takes, are together of bulk at most 1048576: NARROWER than '..Said'. Prove '..Said' where nothing that the law and all that it calls make is longer than what came in: it says more and counts as full. Else prove '..UptoSaid'. A law counts once. -/
mutual
def uptoBulk {H : Type} : DataW H → Nat
  | .lit (.string bytes) => bytes.length + 1
  | .lit _ => 1
  | .nil => 1
  | .ptr d => uptoBulk d + 1
  | .slice elems spare => uptoBulkAll elems + uptoBulkAll spare + 1
  | .agg parts => uptoBulkAll parts + 1
  | .iface _ d => uptoBulk d + 1
  | .map entries => uptoBulkEntries entries + 1
  | .held _ => 1
def uptoBulkAll {H : Type} : List (DataW H) → Nat
  | [] => 0
  | d :: r => uptoBulk d + uptoBulkAll r
def uptoBulkEntries {H : Type} : List (Lit × DataW H) → Nat
  | [] => 0
  | x :: r => uptoBulkEntry x + uptoBulkEntries r
def uptoBulkEntry {H : Type} : Lit × DataW H → Nat
  | (.string bytes, d) => bytes.length + uptoBulk d + 1
  | (_, d) => uptoBulk d + 1
 end
def uptoSmall : (H : Type) → List (DataW H) → Bool := fun _ ds => decide (uptoBulkAll ds ≤ 1048576)
def OpenSpec.upto (s : _root_.Go.ChangeSpec) : _root_.Go.OpenSpec := { _root_.Go.OpenSpec.ofChange s with cond := some uptoSmall }

/-- 'homehublaw07.SeriesHolds', WHERE WHAT IT READS IS OF BULK AT MOST 1048576: true; the input reads as it did. -/
def seriesHoldsUptoRow : OpenClaim := { program := "ytfhmhbnljmbjhaa", sum := "681e14b2cfb5195639b9afdfb31fa67f81da9fa941479d4886689f118506abae", func := "homehub/homehublaw07.SeriesHolds", spec := "seriesHolds", apart := false, narrowed := true }
def SeriesHoldsUptoSaid : Prop := seriesHoldsUptoRow.holds Try.pinned (OpenSpec.upto seriesHoldsSpec)

/-- 'homehublaw07.SeriesPeak', WHERE WHAT IT READS IS OF BULK AT MOST 1048576: true; the input reads as it did. -/
def seriesPeakUptoRow : OpenClaim := { program := "ytfhmhbnljmbjhaa", sum := "681e14b2cfb5195639b9afdfb31fa67f81da9fa941479d4886689f118506abae", func := "homehub/homehublaw07.SeriesPeak", spec := "seriesPeak", apart := false, narrowed := true }
def SeriesPeakUptoSaid : Prop := seriesPeakUptoRow.holds Try.pinned (OpenSpec.upto seriesPeakSpec)

/-- 'homehublaw07.SeriesReads', WHERE WHAT IT READS IS OF BULK AT MOST 1048576: true; the input reads as it did. -/
def seriesReadsUptoRow : OpenClaim := { program := "ytfhmhbnljmbjhaa", sum := "681e14b2cfb5195639b9afdfb31fa67f81da9fa941479d4886689f118506abae", func := "homehub/homehublaw07.SeriesReads", spec := "seriesReads", apart := false, narrowed := true }
def SeriesReadsUptoSaid : Prop := seriesReadsUptoRow.holds Try.pinned (OpenSpec.upto seriesReadsSpec)

/-- 'homehublaw07.SeriesGroups', WHERE WHAT IT READS IS OF BULK AT MOST 1048576: true; the input reads as it did. -/
def seriesGroupsUptoRow : OpenClaim := { program := "ytfhmhbnljmbjhaa", sum := "681e14b2cfb5195639b9afdfb31fa67f81da9fa941479d4886689f118506abae", func := "homehub/homehublaw07.SeriesGroups", spec := "seriesGroups", apart := false, narrowed := true }
def SeriesGroupsUptoSaid : Prop := seriesGroupsUptoRow.holds Try.pinned (OpenSpec.upto seriesGroupsSpec)

/-- 'homehublaw07.SeriesParts', WHERE WHAT IT READS IS OF BULK AT MOST 1048576: true; the input reads as it did. -/
def seriesPartsUptoRow : OpenClaim := { program := "ytfhmhbnljmbjhaa", sum := "681e14b2cfb5195639b9afdfb31fa67f81da9fa941479d4886689f118506abae", func := "homehub/homehublaw07.SeriesParts", spec := "seriesParts", apart := false, narrowed := true }
def SeriesPartsUptoSaid : Prop := seriesPartsUptoRow.holds Try.pinned (OpenSpec.upto seriesPartsSpec)

/-- 'homehublaw07.SeriesChecks', WHERE WHAT IT READS IS OF BULK AT MOST 1048576: true; the input reads as it did. -/
def seriesChecksUptoRow : OpenClaim := { program := "ytfhmhbnljmbjhaa", sum := "681e14b2cfb5195639b9afdfb31fa67f81da9fa941479d4886689f118506abae", func := "homehub/homehublaw07.SeriesChecks", spec := "seriesChecks", apart := false, narrowed := true }
def SeriesChecksUptoSaid : Prop := seriesChecksUptoRow.holds Try.pinned (OpenSpec.upto seriesChecksSpec)

/-- 'homehublaw07.SeriesTotals', WHERE WHAT IT READS IS OF BULK AT MOST 1048576: true; the input reads as it did. -/
def seriesTotalsUptoRow : OpenClaim := { program := "ytfhmhbnljmbjhaa", sum := "681e14b2cfb5195639b9afdfb31fa67f81da9fa941479d4886689f118506abae", func := "homehub/homehublaw07.SeriesTotals", spec := "seriesTotals", apart := false, narrowed := true }
def SeriesTotalsUptoSaid : Prop := seriesTotalsUptoRow.holds Try.pinned (OpenSpec.upto seriesTotalsSpec)

/-- 'homehublaw07.SeriesAdds', WHERE WHAT IT READS IS OF BULK AT MOST 1048576: true; the input reads as it did. -/
def seriesAddsUptoRow : OpenClaim := { program := "ytfhmhbnljmbjhaa", sum := "681e14b2cfb5195639b9afdfb31fa67f81da9fa941479d4886689f118506abae", func := "homehub/homehublaw07.SeriesAdds", spec := "seriesAdds", apart := false, narrowed := true }
def SeriesAddsUptoSaid : Prop := seriesAddsUptoRow.holds Try.pinned (OpenSpec.upto seriesAddsSpec)

end Rows
end Go.Proofs.Ytfhmhbnljmbjhaa
