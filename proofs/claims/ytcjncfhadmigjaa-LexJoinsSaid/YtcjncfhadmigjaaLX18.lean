/-
  Tokens: the tokens of joined texts: blanks, and the loop; plain laws.
-/
import Derived.Test.YtcjncfhadmigjaaLX17
namespace Go.HH
open Go Go.Proofs
set_option maxRecDepth 100000
set_option linter.unusedSimpArgs false
set_option linter.unusedVariables false
variable (s t : List UInt8)
theorem skipL_fuel (s : List UInt8) : ∀ (m m' i : Nat), i ≤ s.length → s.length - i < m → s.length - i < m' → skipL m s i = skipL m' s i
  | 0, _, _, _, h, _ => by omega
  | m + 1, 0, _, _, _, h => by omega
  | m + 1, m' + 1, i, hi, h, h' => by
    unfold skipL
    split
    · rename_i hl
      split
      · exact skipL_fuel s m m' (i + 1) (by omega) (by omega) (by omega)
      · split
        · rename_i h35
          have hp : nl (atL s i) = true := by rw [h35.1]; rfl
          have h1 := runL_gt hl hp
          have h2 := runL_le (p := nl) (s := s) (i := i) hi
          exact skipL_fuel s m m' (runL nl s i) h2.2 (by omega) (by omega)
        · rfl
    · rfl
def sk (s : List UInt8) (i : Nat) : Nat := skipL (s.length + 1) s i
theorem sk_eq {s : List UInt8} {i : Nat} (hi : i ≤ s.length) : sk s i = if i < s.length then
      (if atL s i = 32 ∨ atL s i = 9 ∨ atL s i = 10 then sk s (i + 1)
       else if atL s i = 35 ∧ dg (atL s (i + 1)) = false then sk s (runL nl s i) else i) else i := by
  have h : sk s i = skipL (s.length + 1 + 1) s i := skipL_fuel s _ _ i hi (by omega) (by omega)
  rw [h]
  rfl
theorem sk_le {s : List UInt8} {i : Nat} (hi : i ≤ s.length) : i ≤ sk s i ∧ sk s i ≤ s.length := skipL_ge _ s i hi
theorem sk_join2 : ∀ (d j : Nat), t.length - j ≤ d → j ≤ t.length → sk (joinL s t) (s.length + 1 + j) = s.length + 1 + sk t j := by
  have hj := joinL_length s t
  intro d
  induction d with
  | zero =>
    intro j h hl
    rw [sk_eq (by omega), sk_eq hl, if_neg (by omega), if_neg (by omega)]
  | succ d ih =>
    intro j h hl
    rw [sk_eq (by omega), sk_eq hl, atL_join2, show s.length + 1 + j + 1 = s.length + 1 + (j + 1) from by omega, atL_join2, runL_join2]
    by_cases c : j < t.length
    · rw [if_pos c, if_pos (by omega)]
      split
      · exact ih (j + 1) (by omega) (by omega)
      · split
        · rename_i h35
          have hp : nl (atL t j) = true := by rw [h35.1]; rfl
          have h1 := runL_gt c hp
          have h2 := runL_le (p := nl) (s := t) (i := j) hl
          exact ih (runL nl t j) (by omega) h2.2
        · rfl
    · rw [if_neg c, if_neg (by omega)]
theorem dg_join {i : Nat} (h : i < s.length) : dg (atL (joinL s t) (i + 1)) = dg (atL s (i + 1)) := by
  by_cases h1 : i + 1 < s.length
  · rw [atL_join s t h1]
  · have : i + 1 = s.length := by omega
    rw [this, atL_joinN, atL_ge s (Nat.le_refl _)]
    rfl
theorem sk_join : ∀ (d i : Nat), s.length - i ≤ d → i ≤ s.length → sk (joinL s t) i = if sk s i < s.length then sk s i else s.length + 1 + sk t 0 := by
  have hj := joinL_length s t
  have hN : sk (joinL s t) s.length = s.length + 1 + sk t 0 := by
    rw [sk_eq (by omega), if_pos (by omega), atL_joinN, if_pos (Or.inr (Or.inr rfl))]
    exact sk_join2 s t t.length 0 (by omega) (by omega)
  intro d
  induction d with
  | zero =>
    intro i h hl
    have : i = s.length := by omega
    subst this
    rw [hN, sk_eq (Nat.le_refl _), if_neg (by omega : ¬ s.length < s.length), if_neg (by omega)]
  | succ d ih =>
    intro i h hl
    by_cases c : i < s.length
    · rw [sk_eq (s := joinL s t) (by omega), sk_eq (s := s) hl, if_pos c, if_pos (by omega : i < (joinL s t).length), atL_join s t c, dg_join s t c, runL_join s t rfl hl]
      split
      · exact ih (i + 1) (by omega) (by omega)
      · split
        · rename_i h35
          have hp : nl (atL s i) = true := by rw [h35.1]; rfl
          have h1 := runL_gt c hp
          have h2 := runL_le (p := nl) (s := s) (i := i) hl
          exact ih (runL nl s i) (by omega) h2.2
        · rfl
    · have : i = s.length := by omega
      subst this
      rw [hN, sk_eq (Nat.le_refl _), if_neg (by omega : ¬ s.length < s.length), if_neg (by omega)]
theorem toksL_fuel (s : List UInt8) : ∀ (m m' i : Nat) (acc : List Tk), i ≤ s.length → s.length - i < m → s.length - i < m' → toksL m s i acc = toksL m' s i acc
  | 0, _, _, _, _, h, _ => by omega
  | m + 1, 0, _, _, _, _, h => by omega
  | m + 1, m' + 1, i, acc, hi, h, h' => by
    unfold toksL
    split
    · rename_i hl
      split
      · rfl
      · cases ho : oneL s i with
        | inr c => rfl
        | inl x =>
          obtain ⟨tk, k⟩ := x
          have hbd := oneL_bd hl ho
          have hge := skipL_ge (s.length + 1) s k hbd.2
          exact toksL_fuel s m m' _ _ hge.2 (by omega) (by omega)
    · rfl
def tk (s : List UInt8) (i : Nat) (acc : List Tk) : List Tk × Nat × Int := toksL (s.length + 1) s i acc
theorem tk_eq {s : List UInt8} {i : Nat} (acc : List Tk) (hi : i ≤ s.length) : tk s i acc = if i < s.length then
      (if acc.length = 4000 then ([], i, 3) else match oneL s i with
        | .inr c => ([], i, c)
        | .inl (t, k) => tk s (sk s k) (acc ++ [t]))
    else (acc ++ [(0, [], s.length)], 0, 0) := by
  have h : tk s i acc = toksL (s.length + 1 + 1) s i acc := toksL_fuel s _ _ i acc hi (by omega) (by omega)
  rw [h]
  rfl
/-- what the second text comes to, behind the first one's tokens -/
def shR (n : Nat) (acc : List Tk) (r : List Tk × Nat × Int) : List Tk × Nat × Int := if r.2.2 = 0 then (acc ++ r.1.map (shT n), 0, 0) else ([], n + r.2.1, r.2.2)
theorem tk_join2 (acc : List Tk) : ∀ (d j : Nat) (accT : List Tk), t.length - j ≤ d → j ≤ t.length → acc.length + accT.length + (t.length - j) < 4000 →
    tk (joinL s t) (s.length + 1 + j) (acc ++ accT.map (shT (s.length + 1))) = shR (s.length + 1) acc (tk t j accT) := by
  have hj := joinL_length s t
  have hend : ∀ accT j, j ≤ t.length → ¬ j < t.length → tk (joinL s t) (s.length + 1 + j) (acc ++ accT.map (shT (s.length + 1))) = shR (s.length + 1) acc (tk t j accT) := fun accT j hl c => by
    rw [tk_eq (s := joinL s t) _ (by omega), tk_eq (s := t) _ hl, if_neg c, if_neg (by omega)]
    unfold shR
    rw [if_pos rfl, List.map_append, List.append_assoc, hj]
    rfl
  intro d
  induction d with
  | zero => intro j accT h hl ha; exact hend accT j hl (by omega)
  | succ d ih =>
    intro j accT h hl ha
    by_cases c : j < t.length
    · rw [tk_eq (s := joinL s t) _ (by omega), tk_eq (s := t) _ hl, if_pos c, if_pos (by omega), if_neg (by rw [List.length_append, List.length_map]; omega), if_neg (by omega), oneL_join2]
      cases ho : oneL t j with
      | inr e =>
        have := oneL_err ho
        unfold shR shO
        simp only
        rw [if_neg (by omega)]
      | inl x =>
        obtain ⟨u, k⟩ := x
        have hbd := oneL_bd c ho
        have hle := sk_le hbd.2
        unfold shO
        simp only
        rw [sk_join2 s t t.length k (by omega) hbd.2]
        have h2 := ih (sk t k) (accT ++ [u]) (by omega) hle.2 (by rw [List.length_append, List.length_singleton]; omega)
        rw [← h2, List.map_append, List.append_assoc]
        rfl
    · exact hend accT j hl c
theorem tk_join : ∀ (d i : Nat) (acc : List Tk), s.length - i ≤ d → i ≤ s.length → acc.length + (s.length - i) < 4000 →
    ((tk s i acc).2.2 ≠ 0 ∧ (tk s i acc).2.2 ≠ 4 → tk (joinL s t) i acc = tk s i acc) ∧
    ((tk s i acc).2.2 = 0 → ∃ r, tk s i acc = (r ++ [(0, [], s.length)], 0, 0) ∧ r.length ≤ acc.length + (s.length - i) ∧ tk (joinL s t) (if i < s.length then i else s.length + 1 + sk t 0) acc = tk (joinL s t) (s.length + 1 + sk t 0) r) := by
  have hj := joinL_length s t
  intro d
  induction d with
  | zero =>
    intro i acc h hl ha
    have : ¬ i < s.length := by omega
    rw [tk_eq (s := s) _ hl, if_neg this, if_neg this]
    exact ⟨fun h => absurd rfl h.1, fun _ => ⟨acc, rfl, by omega, rfl⟩⟩
  | succ d ih =>
    intro i acc h hl ha
    by_cases c : i < s.length
    · rw [if_pos c, tk_eq (s := joinL s t) _ (by omega), if_pos (by omega : i < (joinL s t).length), tk_eq (s := s) _ hl, if_pos c, if_neg (by omega), if_neg (by omega)]
      cases ho : oneL s i with
      | inr e =>
        have he := oneL_err ho
        refine ⟨fun h4 => ?_, fun h0 => ?_⟩
        · rw [oneL_join s t c (by rw [ho]; intro h5; injection h5 with h5; exact h4.2 h5), ho]
        · simp only at h0; omega
      | inl x =>
        obtain ⟨u, k⟩ := x
        have hbd := oneL_bd c ho
        have hle := sk_le hbd.2
        rw [oneL_join s t c (by rw [ho]; intro h5; cases h5), ho]
        simp only
        have h2 := ih (sk s k) (acc ++ [u]) (by omega) hle.2 (by rw [List.length_append, List.length_singleton]; omega)
        rw [sk_join s t s.length k (by omega) hbd.2]
        refine ⟨fun h4 => ?_, fun h0 => ?_⟩
        · have hlt : sk s k < s.length := by
            rcases Nat.lt_or_ge (sk s k) s.length with h' | h'
            · exact h'
            · rw [tk_eq (s := s) _ hle.2, if_neg (by omega)] at h4
              exact absurd rfl h4.1
          rw [if_pos hlt]
          exact h2.1 h4
        · obtain ⟨r, h3, h4, h5⟩ := h2.2 h0
          rw [List.length_append, List.length_singleton] at h4
          exact ⟨r, h3, by omega, h5⟩
    · have : ¬ i < s.length := c
      rw [tk_eq (s := s) _ hl, if_neg this, if_neg this]
      exact ⟨fun h => absurd rfl h.1, fun _ => ⟨acc, rfl, by omega, rfl⟩⟩
end Go.HH
