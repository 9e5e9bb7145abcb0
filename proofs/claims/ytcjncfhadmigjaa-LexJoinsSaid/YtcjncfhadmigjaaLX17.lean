/-
  Tokens: the tokens of a text that is followed by a line feed and another text; plain laws.
-/
import Derived.Test.YtcjncfhadmigjaaLX16
namespace Go.HH
open Go Go.Proofs
set_option maxRecDepth 100000
set_option linter.unusedSimpArgs false
set_option linter.unusedVariables false
variable (s t : List UInt8)
theorem strL_join {i : Nat} (h : i < s.length) {x : List UInt8 × Nat} (hx : strL s i = some x) : strL (joinL s t) i = some x := by
  have hj := joinL_length s t
  unfold strL at hx ⊢
  simp only at hx ⊢
  split at hx
  · cases hx
  · rename_i hl
    have he := endQ_join s t (s.length + 1) ((joinL s t).length + 1) (i + 1) (by omega) (by omega) (by omega)
    rw [he, if_neg (by omega), cut_join s t (by omega)]
    exact hx
def shT (n : Nat) (t : Tk) : Tk := (t.1, t.2.1, n + t.2.2)
theorem strL_join2 (j : Nat) : strL (joinL s t) (s.length + 1 + j) = (strL t j).map fun x => (x.1, s.length + 1 + x.2) := by
  have hj := joinL_length s t
  unfold strL
  simp only
  have he := endQ_join2 s t (t.length + 1) ((joinL s t).length + 1) (j + 1) (by omega) (by omega)
  rw [show s.length + 1 + j + 1 = s.length + 1 + (j + 1) from by omega, he, Nat.add_assoc (s.length + 1) _ 1, cut_join2]
  by_cases c1 : t.length ≤ endQ (t.length + 1) t (j + 1)
  · rw [if_pos c1, if_pos (by omega)]; rfl
  · rw [if_neg c1, if_neg (by omega)]
    split <;> rfl
theorem oneL_join {i : Nat} (h : i < s.length) (h4 : oneL s i ≠ .inr 4) : oneL (joinL s t) i = oneL s i := by
  have hpt := runL_le (p := pt) (s := s) (i := i) (by omega)
  have hdg := runL_le (p := dg) (s := s) (i := i) (by omega)
  have hol := opLen_le h
  unfold oneL at h4 ⊢
  simp only at h4 ⊢
  rw [atL_join s t h, runL_join s t rfl (by omega), numL_join s t (by omega), opLen_join s t h, cut_join s t hpt.2, cut_join s t hol]
  split
  · rfl
  · rename_i c1
    rw [if_neg c1] at h4
    split
    · cases hn : numL s i with
      | none => rfl
      | some k =>
        have hk : k ≤ s.length := by
          unfold numL at hn
          obtain ⟨_, _, hn⟩ := Option.map_eq_some_iff.1 hn
          omega
        simp only
        rw [cut_join s t hk]
    · rename_i c2
      rw [if_neg c2] at h4
      split
      · rename_i c3
        rw [if_pos c3] at h4
        cases hn : strL s i with
        | none => rw [hn] at h4; exact absurd rfl h4
        | some x => rw [strL_join s t h hn]
      · rfl
def shO (n : Nat) : Tk × Nat ⊕ Int → Tk × Nat ⊕ Int
  | .inl (t, k) => .inl (shT n t, n + k)
  | .inr c => .inr c
theorem oneL_join2 {j : Nat} : oneL (joinL s t) (s.length + 1 + j) = shO (s.length + 1) (oneL t j) := by
  unfold oneL
  simp only
  rw [atL_join2, runL_join2, numL_join2, strL_join2, opLen_join2, cut_join2, Nat.add_assoc (s.length + 1), cut_join2]
  split
  · rfl
  · split
    · cases numL t j with
      | none => rfl
      | some k =>
        simp only [Option.map_some]
        rw [cut_join2]
        rfl
    · split
      · cases strL t j with
        | none => rfl
        | some x => rfl
      · split <;> rfl
end Go.HH
