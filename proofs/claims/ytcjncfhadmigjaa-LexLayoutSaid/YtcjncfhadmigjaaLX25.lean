/-
  Tokens: blanks as the specification skips them; the end of a string; plain laws.
-/
import Derived.Test.YtcjncfhadmigjaaLX24
namespace Go.HH
open Go Go.Proofs
set_option maxRecDepth 100000
set_option linter.unusedSimpArgs false
set_option linter.unusedVariables false
theorem runL_at {p : Nat → Bool} {s : List UInt8} {i : Nat} (h : i < s.length) : runL p s i = if p (atL s i) then runL p s (i + 1) else i := by
  have hx : s[i]? = some s[i] := by simp
  rw [runL_step hx, atL_get hx]
/-- .. in a comment, or not -/
def skR (s : List UInt8) (i : Nat) (cm : Bool) : Nat := if cm then sk s (runL nl s i) else sk s i
theorem skR_end {s : List UInt8} (cm : Bool) : skR s s.length cm = s.length := by
  unfold skR
  cases cm
  · rw [if_neg (by simp), sk_eq (Nat.le_refl _), if_neg (by omega)]
  · rw [if_pos rfl, runL_end (Nat.le_refl _), sk_eq (Nat.le_refl _), if_neg (by omega)]
theorem skR_nl {s : List UInt8} {i : Nat} (cm : Bool) (h : i < s.length) (c : atL s i = 10) : skR s i cm = skR s (i + 1) false := by
  have h1 : sk s i = sk s (i + 1) := by rw [sk_eq (by omega), if_pos h, if_pos (by omega)]
  unfold skR
  rw [if_neg (by simp : ¬ (false = true))]
  cases cm
  · rw [if_neg (by simp), h1]
  · rw [if_pos rfl, runL_at h, c, if_neg (by decide), h1]
theorem skR_c {s : List UInt8} {i : Nat} (h : i < s.length) (c : atL s i ≠ 10) : skR s i true = skR s (i + 1) true := by
  unfold skR
  rw [if_pos rfl, if_pos rfl, runL_at h, if_pos (by unfold nl; simpa using c)]
theorem skR_hash {s : List UInt8} {i : Nat} (h : i < s.length) (c : atL s i = 35) (d : dg (atL s (i + 1)) = false) : skR s i false = skR s (i + 1) true := by
  unfold skR
  rw [if_pos rfl, if_neg (by simp), sk_eq (by omega), if_pos h, if_neg (by omega), if_pos ⟨c, d⟩, runL_at h, if_pos (by rw [c]; rfl)]
theorem skR_sp {s : List UInt8} {i : Nat} (h : i < s.length) (c : atL s i = 32 ∨ atL s i = 9) : skR s i false = skR s (i + 1) false := by
  unfold skR
  rw [if_neg (by simp), if_neg (by simp), sk_eq (by omega), if_pos h, if_pos (by omega)]
theorem skR_stop {s : List UInt8} {i : Nat} (h : i < s.length) (c1 : atL s i ≠ 32) (c2 : atL s i ≠ 9) (c3 : atL s i ≠ 10) (d : ¬ (atL s i = 35 ∧ dg (atL s (i + 1)) = false)) : skR s i false = i := by
  unfold skR
  rw [if_neg (by simp), sk_eq (by omega), if_pos h, if_neg (by omega), if_neg d]
theorem endQ_fuel (s : List UInt8) : ∀ (m m' i : Nat), s.length - i < m → s.length - i < m' → endQ m s i = endQ m' s i
  | 0, _, _, h, _ => by omega
  | m + 1, 0, _, _, h => by omega
  | m + 1, m' + 1, i, h, h' => by
    unfold endQ
    split
    · split
      · exact endQ_fuel s m m' (i + 2) (by omega) (by omega)
      · exact endQ_fuel s m m' (i + 1) (by omega) (by omega)
    · rfl
/-- the end of a string, with enough fuel -/
def eQ (s : List UInt8) (i : Nat) : Nat := endQ (s.length + 1) s i
theorem eQ_eq {s : List UInt8} {i : Nat} : eQ s i = if i < s.length ∧ atL s i ≠ 34 then eQ s (if atL s i = 92 then i + 2 else i + 1) else i := by
  have h : eQ s i = endQ (s.length + 1 + 1) s i := endQ_fuel s _ _ i (by omega) (by omega)
  rw [h]
  rfl
end Go.HH
