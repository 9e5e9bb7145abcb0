/-
  Values: the examples.
-/
import Derived.Test.YtedpmedialplkaaDoorC0
namespace Go.HH
open Go Go.Proofs
set_option maxRecDepth 100000
set_option linter.unusedSimpArgs false
set_option linter.unusedVariables false
noncomputable def okAw : Bool := match callF CC 100 12 [] [] with
  | some (.ret (.bool true), _) => true
  | _ => false
theorem okAw_ok : okAw = true := by kernel_rfl
theorem op_awake (bx) : callOp CC (callL CC) 12 [] bx = some (.ret (.bool true), bx) := by
  have h := okAw_ok
  unfold okAw at h
  split at h
  · rename_i b hs
    exact callOp_of rfl rfl (callL_iff.2 ⟨100, hs⟩) rfl
  · cases h
end Go.HH
