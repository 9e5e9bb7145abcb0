/-
  What the package-level variables hold when the law begins.
-/
import Derived.Test.YthjcaihemgllaaaDoorRows
import Derived.ProofKit
import Derived.Test.YthjcaihemgllaaaDoorC1
import Derived.LaidMore
import Derived.OpenShut
import Derived.Stop.Joined
import Derived.Lib.LaidTab
namespace Go.Proofs.YthjcaihemgllaaaDoor
open Go.ChangeShapes Go.WideShapes Go.ChangeAt Go.RowKit Go.HH
set_option linter.unusedVariables false
set_option maxRecDepth 100000

def laidL : List (String × DataW Unit) := [("math/bits.deBruijn32tab", Rows.laid_math_bits_deBruijn32tab), ("math/bits.deBruijn64tab", Rows.laid_math_bits_deBruijn64tab), ("internal/strconv.uint64pow10", Rows.laid_internal_strconv_uint64pow10)]
theorem door_met (os : Os) (args : Array Value) : laidMetH Tryd.prog laidL ((World.doorLaid Tryd.prog 400 os).forCall (fun _ _ => 0) ⟨#[], args, []⟩).memory :=
  laidMetH_of_parts3 (fuel := 8) (laidMet_of_run' 8 (by kernel_rfl) (by kernel_rfl)) (by kernel_rfl) (by kernel_rfl)
theorem of_laid {W : World} (h : laidMetH Tryd.prog laidL W) : (∃ c e f, W.heap[0]? = some (.cells c e f) ∧ c.size = pow10P.length) ∧ Rep (storeOf W) [] (.ip pow10P) (.pointer (some ⟨0, 0, none⟩)) := by
  rw [MakeChecks.laidMetH_plain _ _ _ (by kernel_rfl)] at h
  obtain ⟨ps, ⟨g0, t0, cs0, f0, p0, q0, hg0, ht0, hv0, hd0, ⟨g1, t1, cs1, f1, p1, q1, hg1, ht1, hv1, hd1, ⟨g2, t2, cs2, f2, p2, q2, hg2, ht2, hv2, hd2, _, _⟩, _⟩, _⟩, _, _⟩ := h
  obtain rfl := Option.some.inj (gPow.symm.trans hg2)
  have hty : (Tryd.prog.globals[0]?).map (·.type) = some 130 := by kernel_rfl
  obtain rfl := Option.some.inj (hty.symm.trans ht2)
  have hdat : (Rows.laid_internal_strconv_uint64pow10 : DataW Unit) = Lib.tabData .u64 Lib.pow10Tab := by kernel_rfl
  have hcs := Lib.cells_of_tab (k := .u64) (zs := Lib.pow10Tab) (n := 20) Tryd.underlying130 Tryd.underlying118 (by kernel_rfl) (by kernel_rfl) (by rw [← hdat]; exact hd2)
  have hheap : ∃ c e f, W.heap[0]? = some (.cells c e f) ∧ c.toList = Lib.pow10Tab.map fun z => Value.int .u64 z := by
    unfold World.var? at hv2
    rw [gPow] at hv2
    simp only [Option.bind_some] at hv2
    split at hv2
    · rename_i c e f hh
      injection hv2 with hv2
      exact ⟨c, e, f, hh, by rw [hv2]; exact hcs⟩
    · cases hv2
  obtain ⟨c, e, f, hh, hc⟩ := hheap
  exact glob_of hh hc

end Go.Proofs.YthjcaihemgllaaaDoor
