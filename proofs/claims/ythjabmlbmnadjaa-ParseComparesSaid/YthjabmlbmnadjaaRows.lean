/-
  No cell of these rows narrows 'for every input' (looked for: loops, veiled, ifaces, maps, wideKeys, modest, calm, conditions, laid).
  DERIVED. THE GIVEN ROWS OF THIS SEAT. 5 by the template 'for every input the law returns true; each argument reads behind the call as it read before'; 0 by the template 'total and deterministic' (their statements: YthjabmlbmnadjaaTotals.lean).
  GIVEN WITH THE SEED: the statements are not yours to turn. If you find one false, say at which input.
  Laid BY PROGRAM, IN A SANDBOX (cutbox-rows.mjs): the forced cells as the released guide's own fill.sh prints them over the translation 416ed9a4c86feead… (all of the seat's roots in one cut). By AI agents, Wed Nov 11 2026. No macro, syntax, notation, axiom, sorry.
-/
import Derived.Test.YthjabmlbmnadjaaChecked
import GoSem.Claim
import GoSem.ClaimJoined
import GoSem.ClaimMapViews
import Derived.JoinedTies
import Derived.KernelRfl
namespace Go.Proofs.Ythjabmlbmnadjaa
/- THE CELL 'sum', in the pinned program and in every row, IS THE sha256 OF THE DUMP (.gsa) THAT YthjabmlbmnadjaaProg.lean LOADS. Nothing in Lean hashes anything: it is a label: what it is worth is what the hold of that sum in a sandbox is worth. -/
noncomputable def Try.pinned : Pinned := { name := "ythjabmlbmnadjaa", sum := "416ed9a4c86feead4fc8a678681989f846a255e5c321803418f82a177268de96", checked := Try.checked }
namespace Rows
def none {H : Type} : Left H := { results := [], args := [] }

/-- 'homehublaw29.ParseValid': WHATEVER THE INPUT: true; the input reads as it did. -/
def parseValidSpec : ChangeSpec := { name := "parseValid", fn := fun _ => fun
  | [d] => { results := [.lit (.bool true)], args := [d] }
  | _ => none }
def parseValidRow : OpenClaim := { program := "ythjabmlbmnadjaa", sum := "416ed9a4c86feead4fc8a678681989f846a255e5c321803418f82a177268de96", func := "homehub/homehublaw29.ParseValid", spec := "parseValid", inPlace := ["internal/bytealg.IndexByteString", "internal/abi.NoEscape"], unfollowed := true, recurses := true, apart := false }
def ParseValidSaid : Prop := parseValidRow.holds Try.pinned (OpenSpec.ofChange parseValidSpec)

/-- ITS FALSE NEIGHBOUR: 'it returns false'. Refute it at one input. -/
def parseValidWrong : ChangeSpec := { name := "parseValid", fn := fun _ => fun
  | [d] => { results := [.lit (.bool false)], args := [d] }
  | _ => none }
def ParseValidWrongFalsely : Prop := parseValidRow.holds Try.pinned (OpenSpec.ofChange parseValidWrong)

/-- 'homehublaw29.ParseLayout': WHATEVER THE INPUT: true; the input reads as it did. -/
def parseLayoutSpec : ChangeSpec := { name := "parseLayout", fn := fun _ => fun
  | [d] => { results := [.lit (.bool true)], args := [d] }
  | _ => none }
def parseLayoutRow : OpenClaim := { program := "ythjabmlbmnadjaa", sum := "416ed9a4c86feead4fc8a678681989f846a255e5c321803418f82a177268de96", func := "homehub/homehublaw29.ParseLayout", spec := "parseLayout", inPlace := ["internal/bytealg.IndexByteString", "internal/abi.NoEscape"], unfollowed := true, recurses := true, apart := false }
def ParseLayoutSaid : Prop := parseLayoutRow.holds Try.pinned (OpenSpec.ofChange parseLayoutSpec)

/-- ITS FALSE NEIGHBOUR: 'it returns false'. Refute it at one input. -/
def parseLayoutWrong : ChangeSpec := { name := "parseLayout", fn := fun _ => fun
  | [d] => { results := [.lit (.bool false)], args := [d] }
  | _ => none }
def ParseLayoutWrongFalsely : Prop := parseLayoutRow.holds Try.pinned (OpenSpec.ofChange parseLayoutWrong)

/-- 'homehublaw29.ParseJoin': WHATEVER THE INPUT: true; the input reads as it did. -/
def parseJoinSpec : ChangeSpec := { name := "parseJoin", fn := fun _ => fun
  | [d1, d2] => { results := [.lit (.bool true)], args := [d1, d2] }
  | _ => none }
def parseJoinRow : OpenClaim := { program := "ythjabmlbmnadjaa", sum := "416ed9a4c86feead4fc8a678681989f846a255e5c321803418f82a177268de96", func := "homehub/homehublaw29.ParseJoin", spec := "parseJoin", inPlace := ["internal/bytealg.IndexByteString", "internal/abi.NoEscape"], unfollowed := true, recurses := true, apart := false }
def ParseJoinSaid : Prop := parseJoinRow.holds Try.pinned (OpenSpec.ofChange parseJoinSpec)

/-- ITS FALSE NEIGHBOUR: 'it returns false'. Refute it at one input. -/
def parseJoinWrong : ChangeSpec := { name := "parseJoin", fn := fun _ => fun
  | [d1, d2] => { results := [.lit (.bool false)], args := [d1, d2] }
  | _ => none }
def ParseJoinWrongFalsely : Prop := parseJoinRow.holds Try.pinned (OpenSpec.ofChange parseJoinWrong)

/-- 'homehublaw29.ParseParens': WHATEVER THE INPUT: true; the input reads as it did. -/
def parseParensSpec : ChangeSpec := { name := "parseParens", fn := fun _ => fun
  | [d] => { results := [.lit (.bool true)], args := [d] }
  | _ => none }
def parseParensRow : OpenClaim := { program := "ythjabmlbmnadjaa", sum := "416ed9a4c86feead4fc8a678681989f846a255e5c321803418f82a177268de96", func := "homehub/homehublaw29.ParseParens", spec := "parseParens", inPlace := ["internal/bytealg.IndexByteString", "internal/abi.NoEscape"], unfollowed := true, recurses := true, apart := false }
def ParseParensSaid : Prop := parseParensRow.holds Try.pinned (OpenSpec.ofChange parseParensSpec)

/-- ITS FALSE NEIGHBOUR: 'it returns false'. Refute it at one input. -/
def parseParensWrong : ChangeSpec := { name := "parseParens", fn := fun _ => fun
  | [d] => { results := [.lit (.bool false)], args := [d] }
  | _ => none }
def ParseParensWrongFalsely : Prop := parseParensRow.holds Try.pinned (OpenSpec.ofChange parseParensWrong)

/-- 'homehublaw29.ParseCompares': WHATEVER THE INPUT: true; the input reads as it did. -/
def parseComparesSpec : ChangeSpec := { name := "parseCompares", fn := fun _ => fun
  | [d1, d2] => { results := [.lit (.bool true)], args := [d1, d2] }
  | _ => none }
def parseComparesRow : OpenClaim := { program := "ythjabmlbmnadjaa", sum := "416ed9a4c86feead4fc8a678681989f846a255e5c321803418f82a177268de96", func := "homehub/homehublaw29.ParseCompares", spec := "parseCompares", inPlace := ["internal/bytealg.IndexByteString", "internal/abi.NoEscape"], unfollowed := true, recurses := true, apart := false }
def ParseComparesSaid : Prop := parseComparesRow.holds Try.pinned (OpenSpec.ofChange parseComparesSpec)

/-- ITS FALSE NEIGHBOUR: 'it returns false'. Refute it at one input. -/
def parseComparesWrong : ChangeSpec := { name := "parseCompares", fn := fun _ => fun
  | [d1, d2] => { results := [.lit (.bool false)], args := [d1, d2] }
  | _ => none }
def ParseComparesWrongFalsely : Prop := parseComparesRow.holds Try.pinned (OpenSpec.ofChange parseComparesWrong)

/- THE SECOND FORM. 'bulk': how many values and letters a reading holds, each counted each time it is reached (what is shared counts as often as it is met; a slice's spare places count too). A statement '..UptoSaid' is the law's where the arguments, and the package variables that the reading takes, are together of bulk at most 1048576: NARROWER than '..Said'. Prove '..Said' where nothing that the law and all that it calls make is longer than what came in: it says more and counts as full. Else prove '..UptoSaid'. A law counts once. -/
mutual
def uptoBulk {H : Type} : DataW H → Nat
  | .lit (.string bytes) => bytes.length + 1
  | .lit _ => 1
  | .nil => 1
  | .ptr d => uptoBulk d + 1
  | .slice elems spare => uptoBulkAll elems + uptoBulkAll spare + 1
  | .agg parts => uptoBulkAll parts + 1
  | .iface _ d => uptoBulk d + 1
  | .map entries => uptoBulkEntries entries + 1
  | .held _ => 1
def uptoBulkAll {H : Type} : List (DataW H) → Nat
  | [] => 0
  | d :: r => uptoBulk d + uptoBulkAll r
def uptoBulkEntries {H : Type} : List (Lit × DataW H) → Nat
  | [] => 0
  | x :: r => uptoBulkEntry x + uptoBulkEntries r
def uptoBulkEntry {H : Type} : Lit × DataW H → Nat
  | (.string bytes, d) => bytes.length + uptoBulk d + 1
  | (_, d) => uptoBulk d + 1
 end
def uptoSmall : (H : Type) → List (DataW H) → Bool := fun _ ds => decide (uptoBulkAll ds ≤ 1048576)
def OpenSpec.upto (s : _root_.Go.ChangeSpec) : _root_.Go.OpenSpec := { _root_.Go.OpenSpec.ofChange s with cond := some uptoSmall }

/-- 'homehublaw29.ParseValid', WHERE WHAT IT READS IS OF BULK AT MOST 1048576: true; the input reads as it did. -/
def parseValidUptoRow : OpenClaim := { program := "ythjabmlbmnadjaa", sum := "416ed9a4c86feead4fc8a678681989f846a255e5c321803418f82a177268de96", func := "homehub/homehublaw29.ParseValid", spec := "parseValid", inPlace := ["internal/bytealg.IndexByteString", "internal/abi.NoEscape"], unfollowed := true, recurses := true, apart := false, narrowed := true }
def ParseValidUptoSaid : Prop := parseValidUptoRow.holds Try.pinned (OpenSpec.upto parseValidSpec)

/-- 'homehublaw29.ParseLayout', WHERE WHAT IT READS IS OF BULK AT MOST 1048576: true; the input reads as it did. -/
def parseLayoutUptoRow : OpenClaim := { program := "ythjabmlbmnadjaa", sum := "416ed9a4c86feead4fc8a678681989f846a255e5c321803418f82a177268de96", func := "homehub/homehublaw29.ParseLayout", spec := "parseLayout", inPlace := ["internal/bytealg.IndexByteString", "internal/abi.NoEscape"], unfollowed := true, recurses := true, apart := false, narrowed := true }
def ParseLayoutUptoSaid : Prop := parseLayoutUptoRow.holds Try.pinned (OpenSpec.upto parseLayoutSpec)

/-- 'homehublaw29.ParseJoin', WHERE WHAT IT READS IS OF BULK AT MOST 1048576: true; the input reads as it did. -/
def parseJoinUptoRow : OpenClaim := { program := "ythjabmlbmnadjaa", sum := "416ed9a4c86feead4fc8a678681989f846a255e5c321803418f82a177268de96", func := "homehub/homehublaw29.ParseJoin", spec := "parseJoin", inPlace := ["internal/bytealg.IndexByteString", "internal/abi.NoEscape"], unfollowed := true, recurses := true, apart := false, narrowed := true }
def ParseJoinUptoSaid : Prop := parseJoinUptoRow.holds Try.pinned (OpenSpec.upto parseJoinSpec)

/-- 'homehublaw29.ParseParens', WHERE WHAT IT READS IS OF BULK AT MOST 1048576: true; the input reads as it did. -/
def parseParensUptoRow : OpenClaim := { program := "ythjabmlbmnadjaa", sum := "416ed9a4c86feead4fc8a678681989f846a255e5c321803418f82a177268de96", func := "homehub/homehublaw29.ParseParens", spec := "parseParens", inPlace := ["internal/bytealg.IndexByteString", "internal/abi.NoEscape"], unfollowed := true, recurses := true, apart := false, narrowed := true }
def ParseParensUptoSaid : Prop := parseParensUptoRow.holds Try.pinned (OpenSpec.upto parseParensSpec)

/-- 'homehublaw29.ParseCompares', WHERE WHAT IT READS IS OF BULK AT MOST 1048576: true; the input reads as it did. -/
def parseComparesUptoRow : OpenClaim := { program := "ythjabmlbmnadjaa", sum := "416ed9a4c86feead4fc8a678681989f846a255e5c321803418f82a177268de96", func := "homehub/homehublaw29.ParseCompares", spec := "parseCompares", inPlace := ["internal/bytealg.IndexByteString", "internal/abi.NoEscape"], unfollowed := true, recurses := true, apart := false, narrowed := true }
def ParseComparesUptoSaid : Prop := parseComparesUptoRow.holds Try.pinned (OpenSpec.upto parseComparesSpec)

end Rows
end Go.Proofs.Ythjabmlbmnadjaa
