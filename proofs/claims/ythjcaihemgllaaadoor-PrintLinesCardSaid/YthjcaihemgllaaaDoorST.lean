/-
  Strings: their length, a byte, a part.
-/
import Derived.Test.YthjcaihemgllaaaDoorC0
import Derived.Test.YthjcaihemgllaaaDoorN0
namespace Go.HH
open Go Go.Proofs
set_option maxRecDepth 100000
set_option linter.unusedSimpArgs false
set_option linter.unusedVariables false
theorem ix_str (s : List UInt8) (i : Nat) (b : UInt8) (h : s[i]? = some b) : indexV CC 9 (.str s) (.int .i64 (i : Int)) = some (.int .u8 (b.toNat : Int)) := by
  unfold indexV
  simp only [TG, Int.toNat_natCast, h]
  rw [if_neg (by omega)]
theorem ix_str' (s : List UInt8) (i : Int) (b : UInt8) (h0 : 0 ≤ i) (h : s[i.toNat]? = some b) : indexV CC 9 (.str s) (.int .i64 i) = some (.int .u8 (b.toNat : Int)) := by
  have := ix_str s i.toNat b h
  rwa [Int.toNat_of_nonneg h0] at this
theorem len_str (s : List UInt8) : lenP CC 9 (.str s) = some (.int .i64 s.length) := by
  unfold lenP
  simp only [TG]
theorem sl_str (s : List UInt8) (a b : Int) (h0 : 0 ≤ a) (h1 : a ≤ b) (h2 : b ≤ s.length) : sliceP CC 9 (.str s) (some (.int .i64 a)) (some (.int .i64 b)) = some (.str ((s.take b.toNat).drop a.toNat)) := by
  unfold sliceP
  simp only [TG, boundO, boundP]
  rw [if_pos ⟨by omega, h2⟩]
  simp only
  rw [if_pos ⟨h0, by omega⟩]
theorem sl_str_hi (s : List UInt8) (b : Int) (h0 : 0 ≤ b) (h2 : b ≤ s.length) : sliceP CC 9 (.str s) none (some (.int .i64 b)) = some (.str (s.take b.toNat)) := by
  unfold sliceP
  simp only [TG, boundO, boundP]
  rw [if_pos ⟨h0, h2⟩]
  simp only [List.drop_zero]
theorem sl_str_lo (s : List UInt8) (a : Int) (h0 : 0 ≤ a) (h2 : a ≤ s.length) : sliceP CC 9 (.str s) (some (.int .i64 a)) none = some (.str (s.drop a.toNat)) := by
  unfold sliceP
  simp only [TG, boundO, boundP]
  rw [if_pos ⟨h0, h2⟩]
  simp only [List.take_length]
theorem strP_neq (a b : List UInt8) : strP .neq a b = some (.bool (!(a == b))) := rfl
theorem strP_eql (a b : List UInt8) : strP .eql a b = some (.bool (a == b)) := rfl
end Go.HH
