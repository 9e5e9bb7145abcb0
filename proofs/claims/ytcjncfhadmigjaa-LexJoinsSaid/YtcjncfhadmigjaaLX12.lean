/-
  Tokens: their order, a plain law; two tokens compared.
-/
import Derived.Test.YtcjncfhadmigjaaLX11
namespace Go.HH
open Go Go.Proofs
set_option maxRecDepth 100000
set_option linter.unusedSimpArgs false
set_option linter.unusedVariables false
def and2 (x : Bool) (y : Option Bool) : Option Bool := match some x with
  | some true => y
  | o => o
theorem and2_true (y) : and2 true y = y := rfl
theorem and2_false (y) : and2 false y = some false := rfl
theorem neqTk (a a' : Int) (b b' : List UInt8) (c c' : Int) : binP CC .neq 32 (.agg [.int .i64 a, .str b, .int .i64 c]) (.agg [.int .i64 a', .str b', .int .i64 c']) = some (.bool (!((a == a') && (b == b') && (c == c')))) := by
  have h : binP CC .neq 32 (.agg [.int .i64 a, .str b, .int .i64 c]) (.agg [.int .i64 a', .str b', .int .i64 c']) = (and2 (a == a') (and2 (b == b') (and2 (c == c') (some true)))).map (fun r => PV.bool (!r)) := by kernel_rfl
  rw [h]
  cases a == a' <;> cases b == b' <;> cases c == c' <;> rfl
/-- tokens that ascend, and stand where they say -/
def ordOK (s : List UInt8) : Nat → List Tk → Prop
  | _, [] => True
  | e, (k, tx, a) :: r => e ≤ a ∧ a < s.length ∧ 1 ≤ k ∧ k ≤ 4 ∧ (if k = 3 then atL s a = 34 ∧ ordOK s (a + 1) r else tx ≠ [] ∧ a + tx.length ≤ s.length ∧ (s.take (a + tx.length)).drop a = tx ∧ ordOK s (a + tx.length) r)
theorem ordOK_le {s : List UInt8} {e e' : Nat} (h : e' ≤ e) : ∀ {l : List Tk}, ordOK s e l → ordOK s e' l
  | [], _ => trivial
  | (k, tx, a) :: r, ho => ⟨Nat.le_trans h ho.1, ho.2⟩
theorem cut_len {s : List UInt8} {i k : Nat} (h : i < k) (hk : k ≤ s.length) : ((s.take k).drop i).length = k - i := by
  rw [List.length_drop, List.length_take]; omega
theorem cut_ne {s : List UInt8} {i k : Nat} (h : i < k) (hk : k ≤ s.length) : (s.take k).drop i ≠ [] := fun h0 => by
  have := cut_len h hk
  rw [h0] at this
  simp at this
  omega
theorem oneL_tok {s : List UInt8} {i : Nat} {t : Tk} {k : Nat} (h : i < s.length) (ho : oneL s i = .inl (t, k)) : t.2.2 = i ∧ ((t.1 = 3 ∧ atL s i = 34) ∨ ((t.1 = 1 ∨ t.1 = 2 ∨ t.1 = 4) ∧ t.2.1 = (s.take k).drop i)) := by
  unfold oneL at ho
  simp only at ho
  split at ho
  · injection ho with ho
    injection ho with h1 h2
    subst h1 h2
    exact ⟨rfl, Or.inr ⟨Or.inl rfl, rfl⟩⟩
  · split at ho
    · split at ho
      · injection ho with ho
        injection ho with h1 h2
        subst h1 h2
        exact ⟨rfl, Or.inr ⟨Or.inr (Or.inl rfl), rfl⟩⟩
      · cases ho
    · split at ho
      · rename_i hc
        split at ho
        · injection ho with ho
          injection ho with h1 h2
          subst h1 h2
          exact ⟨rfl, Or.inl ⟨rfl, hc⟩⟩
        · cases ho
      · split at ho
        · cases ho
        · injection ho with ho
          injection ho with h1 h2
          subst h1 h2
          exact ⟨rfl, Or.inr ⟨Or.inr (Or.inr rfl), rfl⟩⟩
theorem toksL_ord (s : List UInt8) : ∀ (m i : Nat) (acc : List Tk), s.length - i < m → i ≤ s.length → acc.length ≤ 4000 →
    (∃ a c, toksL m s i acc = ([], a, c) ∧ c ≠ 0 ∧ a < s.length) ∨ (∃ r, toksL m s i acc = (acc ++ r ++ [(0, [], s.length)], 0, 0) ∧ ordOK s i r ∧ (acc ++ r).length ≤ 4000) := by
  intro m
  induction m with
  | zero => intro i acc hm; omega
  | succ m ih =>
    intro i acc hm hi ha
    unfold toksL
    by_cases hlt : i < s.length
    · rw [if_pos hlt]
      by_cases c1 : acc.length = 4000
      · rw [if_pos c1]
        exact Or.inl ⟨_, _, rfl, by omega, hlt⟩
      · rw [if_neg c1]
        cases ho : oneL s i with
        | inr c =>
          have := oneL_err ho
          exact Or.inl ⟨_, _, rfl, by omega, hlt⟩
        | inl x =>
          obtain ⟨⟨tk, tx, ta⟩, k⟩ := x
          have hbd := oneL_bd hlt ho
          have hge := skipL_ge (s.length + 1) s k hbd.2
          have htok := oneL_tok hlt ho
          simp only at htok
          obtain ⟨rfl, htok⟩ := htok
          rcases ih (skipL (s.length + 1) s k) (acc ++ [(tk, tx, ta)]) (by omega) hge.2 (by rw [List.length_append, List.length_singleton]; omega) with ⟨a, c, h1, h2, h3⟩ | ⟨r, h1, h2, h3⟩
          · exact Or.inl ⟨a, c, h1, h2, h3⟩
          · refine Or.inr ⟨(tk, tx, ta) :: r, ?_, ?_, ?_⟩
            · simp only
              rw [h1]
              simp only [List.append_assoc, List.cons_append, List.nil_append]
            · refine ⟨Nat.le_refl _, hlt, by omega, by omega, ?_⟩
              rcases htok with ⟨g1, g2⟩ | ⟨g1, g2⟩
              · rw [if_pos g1]
                exact ⟨g2, ordOK_le (by omega) h2⟩
              · rw [if_neg (by omega)]
                have hl := cut_len hbd.1 hbd.2
                rw [← g2] at hl
                have hk : ta + tx.length = k := by omega
                rw [hk]
                refine ⟨?_, hbd.2, g2.symm, ordOK_le (by omega) h2⟩
                rw [g2]
                exact cut_ne hbd.1 hbd.2
            · simpa [List.append_assoc] using h3
    · rw [if_neg hlt]
      exact Or.inr ⟨[], by simp, trivial, by simpa using ha⟩
theorem toks_ord (s : List UInt8) (hs : s.length ≤ 20000) : (∃ a c, toks s = ([], a, c) ∧ c ≠ 0 ∧ a < s.length) ∨ (∃ r, toks s = (r ++ [(0, [], s.length)], 0, 0) ∧ ordOK s 0 r ∧ r.length ≤ 4000) := by
  unfold toks
  rw [if_neg (by omega)]
  have hge := skipL_ge (s.length + 1) s 0 (by omega)
  rcases toksL_ord s (s.length + 1) (skipL (s.length + 1) s 0) [] (by omega) hge.2 (by simp) with h | ⟨r, h1, h2, h3⟩
  · exact Or.inl h
  · exact Or.inr ⟨r, by simpa using h1, ordOK_le (by omega) h2, by simpa using h3⟩
end Go.HH
