/-
  Tokens: the examples.
-/
import Derived.Test.YtcjncfhadmigjaaC0
namespace Go.HH
open Go Go.Proofs
set_option maxRecDepth 100000
theorem call_awake : callL CC 9 [] [] = some (.ret (.bool true), []) := callL_iff.2 ⟨100, by kernel_rfl⟩
theorem op_awake (bx) : callOp CC (callL CC) 9 [] bx = some (.ret (.bool true), bx) := callOp_of rfl rfl call_awake rfl
end Go.HH
