/-
  Values: building them.
-/
import Derived.Test.YtedpmedialplkaaDoorV2
namespace Go.HH
open Go Go.Proofs
set_option maxRecDepth 100000
set_option linter.unusedSimpArgs false
set_option linter.unusedVariables false
theorem VLf : zeroCells CC 26 = some [.int .i64 0, .int .i64 0, .str []] := by kernel_rfl
theorem buildVl1 (k : Int) : buildP CC 26 [(0, .int .i64 k)] = some (.agg [.int .i64 k, .int .i64 0, .str []]) := by
  have h := (by kernel_rfl : CC.P.underlying 26 = some (.struct ((match Tryd.prog.underlying 26 with | some (.struct f) => f | _ => #[]))))
  have hz : tZero CC 26 = some (.agg [.int .i64 0, .int .i64 0, .str []]) := by kernel_rfl
  have hp : ((match Tryd.prog.underlying 26 with | some (.struct f) => f | _ => #[]) : Array Field).toList.mapM (fun f => (tSize CC f.type).map fun s => (f.offset, s)) = some [(0, 1), (1, 1), (2, 1)] := by kernel_rfl
  unfold buildP
  rw [h, hz]
  simp only [hp]
  rfl
theorem buildVl2 (k n : Int) : buildP CC 26 [(0, .int .i64 k), (1, .int .i64 n)] = some (.agg [.int .i64 k, .int .i64 n, .str []]) := by
  have h := (by kernel_rfl : CC.P.underlying 26 = some (.struct ((match Tryd.prog.underlying 26 with | some (.struct f) => f | _ => #[]))))
  have hz : tZero CC 26 = some (.agg [.int .i64 0, .int .i64 0, .str []]) := by kernel_rfl
  have hp : ((match Tryd.prog.underlying 26 with | some (.struct f) => f | _ => #[]) : Array Field).toList.mapM (fun f => (tSize CC f.type).map fun s => (f.offset, s)) = some [(0, 1), (1, 1), (2, 1)] := by kernel_rfl
  unfold buildP
  rw [h, hz]
  simp only [hp]
  rfl
theorem buildVl0 : buildP CC 26 [] = some (.agg [.int .i64 0, .int .i64 0, .str []]) := by kernel_rfl
end Go.HH
