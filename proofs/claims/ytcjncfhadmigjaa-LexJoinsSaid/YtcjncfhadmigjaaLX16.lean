/-
  Tokens: a text that is followed by a line feed and another text; plain laws.
-/
import Derived.Test.YtcjncfhadmigjaaLX15
namespace Go.HH
open Go Go.Proofs
set_option maxRecDepth 100000
set_option linter.unusedSimpArgs false
set_option linter.unusedVariables false
variable (s t : List UInt8)
def joinL : List UInt8 := s ++ 10 :: t
theorem joinL_length : (joinL s t).length = s.length + 1 + t.length := by
  unfold joinL
  rw [List.length_append, List.length_cons]; omega
theorem joinL_drop {i : Nat} (h : i ≤ s.length) : (joinL s t).drop i = s.drop i ++ 10 :: t := by
  unfold joinL
  exact List.drop_append_of_le_length h
theorem joinL_drop2 (j : Nat) : (joinL s t).drop (s.length + 1 + j) = t.drop j := by
  unfold joinL
  rw [Nat.add_assoc, ← List.drop_drop, List.drop_append_of_le_length (Nat.le_refl _), List.drop_length, List.nil_append, Nat.add_comm 1 j, List.drop_succ_cons]
theorem atL_join {i : Nat} (h : i < s.length) : atL (joinL s t) i = atL s i := by
  unfold atL joinL
  rw [List.getElem?_append_left h]
theorem atL_joinN : atL (joinL s t) s.length = 10 := by
  unfold atL joinL
  rw [List.getElem?_append_right (Nat.le_refl _), Nat.sub_self]
  rfl
theorem atL_join2 (j : Nat) : atL (joinL s t) (s.length + 1 + j) = atL t j := by
  unfold atL joinL
  rw [List.getElem?_append_right (by omega), show s.length + 1 + j - s.length = j + 1 from by omega, List.getElem?_cons_succ]
theorem atL_ge {i : Nat} (h : s.length ≤ i) : atL s i = 0 := by unfold atL; rw [List.getElem?_eq_none h]
theorem tw_join (p : UInt8 → Bool) (hp : p 10 = false) : ∀ (x : List UInt8), (x ++ 10 :: t).takeWhile p = x.takeWhile p
  | [] => by rw [List.nil_append, List.takeWhile_cons, hp]; rfl
  | c :: x => by
    rw [List.cons_append, List.takeWhile_cons, List.takeWhile_cons, tw_join p hp x]
theorem runL_join {p : Nat → Bool} (hp : p 10 = false) {i : Nat} (h : i ≤ s.length) : runL p (joinL s t) i = runL p s i := by
  unfold runL
  rw [joinL_drop s t h, tw_join t _ hp]
theorem runL_join2 (p : Nat → Bool) (j : Nat) : runL p (joinL s t) (s.length + 1 + j) = s.length + 1 + runL p t j := by
  unfold runL
  rw [joinL_drop2]; omega
theorem cut_join {i k : Nat} (hk : k ≤ s.length) : ((joinL s t).take k).drop i = (s.take k).drop i := by
  unfold joinL
  rw [List.take_append_of_le_length hk]
theorem cut_join2 (j k : Nat) : ((joinL s t).take (s.length + 1 + k)).drop (s.length + 1 + j) = (t.take k).drop j := by
  rw [List.drop_take, joinL_drop2, List.drop_take]
  congr 1; omega
theorem opLen_join {i : Nat} (h : i < s.length) : opLen (joinL s t) i = opLen s i := by
  unfold opLen
  rw [atL_join s t h]
  by_cases h1 : i + 1 < s.length
  · rw [atL_join s t h1]
  · have : i + 1 = s.length := by omega
    rw [this, atL_joinN, atL_ge s (Nat.le_refl _)]
    simp
theorem opLen_join2 (j : Nat) : opLen (joinL s t) (s.length + 1 + j) = opLen t j := by
  unfold opLen
  rw [atL_join2, Nat.add_assoc (s.length + 1), atL_join2]
theorem numL_join {i : Nat} (h : i ≤ s.length) : numL (joinL s t) i = numL s i := by
  unfold numL
  have h1 := runL_le (p := dg) h
  rw [runL_join s t rfl h, joinL_drop s t h, List.take_append_of_le_length (by rw [List.length_drop]; omega)]
theorem numL_join2 (j : Nat) : numL (joinL s t) (s.length + 1 + j) = (numL t j).map (s.length + 1 + ·) := by
  unfold numL
  rw [runL_join2, joinL_drop2, show s.length + 1 + runL dg t j - (s.length + 1 + j) = runL dg t j - j from by omega, Option.map_map]
  rfl
theorem endQ_join : ∀ (m m' e : Nat), s.length - e < m → m ≤ m' → endQ m s e < s.length → endQ m' (joinL s t) e = endQ m s e
  | 0, _, _, h, _, _ => by omega
  | m + 1, 0, _, _, h, _ => by omega
  | m + 1, m' + 1, e, h, h', hl => by
    have hge := endQ_ge (m + 1) s e
    have he : e < s.length := by omega
    have hj := joinL_length s t
    unfold endQ at hl ⊢
    rw [atL_join s t he]
    by_cases c : atL s e ≠ 34
    · have hc1 : e < (joinL s t).length ∧ atL s e ≠ 34 := ⟨by omega, c⟩
      have hc2 : e < s.length ∧ atL s e ≠ 34 := ⟨he, c⟩
      rw [if_pos hc2] at hl
      rw [if_pos hc1, if_pos hc2]
      by_cases d : atL s e = 92
      · rw [if_pos d] at hl
        rw [if_pos d]
        cases m with
        | zero =>
          have : e + 1 = s.length := by omega
          unfold endQ at hl
          omega
        | succ m => exact endQ_join (m + 1) m' (e + 2) (by omega) (by omega) hl
      · rw [if_neg d] at hl
        rw [if_neg d]
        exact endQ_join m m' (e + 1) (by omega) (by omega) hl
    · rw [if_neg (fun x => c x.2), if_neg (fun x => c x.2)]
theorem endQ_join2 : ∀ (m m' e : Nat), t.length - e < m → m ≤ m' → endQ m' (joinL s t) (s.length + 1 + e) = s.length + 1 + endQ m t e
  | 0, _, _, h, _ => by omega
  | m + 1, 0, _, _, h => by omega
  | m + 1, m' + 1, e, h, h' => by
    have hj := joinL_length s t
    unfold endQ
    rw [atL_join2]
    by_cases he : e < t.length ∧ atL t e ≠ 34
    · rw [if_pos he, if_pos ⟨by omega, he.2⟩]
      by_cases d : atL t e = 92
      · rw [if_pos d, if_pos d]
        cases m with
        | zero => omega
        | succ m => exact endQ_join2 (m + 1) m' (e + 2) (by omega) (by omega)
      · rw [if_neg d, if_neg d]
        exact endQ_join2 m m' (e + 1) (by omega) (by omega)
    · rw [if_neg he, if_neg (fun x => he ⟨by omega, x.2⟩)]
end Go.HH
