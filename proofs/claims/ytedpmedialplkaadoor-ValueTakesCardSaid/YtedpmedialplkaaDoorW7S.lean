/-
  Values: what is read of what was written, with more behind it.
-/
import Derived.Test.YtedpmedialplkaaDoorWTJ
namespace Go.HH
open Go Go.Proofs
set_option maxRecDepth 100000
set_option linter.unusedSimpArgs false
set_option linter.unusedVariables false
theorem ck_len {v : Vl} (h : ckV v = 0) : v.2.2.length ≤ 60 ∧ (v.1 = 0 ∨ v.1 = 1 ∨ v.1 = 2 ∨ v.1 = 3 ∨ v.1 = 4) ∧ (v.1 ≠ 4 → v.2.2 = []) := by
  obtain ⟨k, n, s⟩ := v
  unfold ckV at h
  simp only at h ⊢
  cases ho : okN k n with
  | none => rw [ho] at h; cases h
  | some b =>
    rw [ho] at h
    cases b with
    | false => cases h
    | true =>
      simp only at h
      by_cases hl : 60 < s.length
      · rw [if_pos hl] at h; cases h
      · rw [if_neg hl] at h
        refine ⟨by omega, ?_, fun k4 => ?_⟩
        · unfold okN at ho
          by_cases e0 : k = 0 ∨ k = 4
          · omega
          · rw [if_neg e0] at ho
            by_cases e1 : k = 1
            · omega
            · rw [if_neg e1] at ho
              by_cases e2 : k = 2
              · omega
              · rw [if_neg e2] at ho
                by_cases e3 : k = 3
                · omega
                · rw [if_neg e3] at ho; cases ho
        · by_cases hs : s = []
          · exact hs
          · rw [if_pos ⟨hs, k4⟩] at h; cases h

theorem u8_of (n : Nat) (h : n < 256) : (UInt8.ofNat n).toNat = n := by rw [UInt8.toNat_ofNat', Nat.mod_eq_of_lt (by omega)]
theorem dec_enc : ∀ (k u i acc : Nat) (r : List UInt8), u < 128 ^ (k + 1) → u * 128 ^ i < 18446744073709551616 → (0 < i → u ≠ 0) → i ≤ 9 → decF (encF k u ++ r) i acc = .inl (acc + u * 128 ^ i, i + (encF k u).length)
  | 0, u, i, acc, r, h, h2, h3, h9 => by
    have hu : u < 128 := by simpa using h
    show decF (UInt8.ofNat u :: r) i acc = _
    unfold decF
    rw [u8_of u (by omega)]
    have hz : ¬ ((0 < i ∧ u = 0) ∨ (i = 9 ∧ 1 < u)) := by
      rintro (⟨a, b⟩ | ⟨a, b⟩)
      · exact h3 a b
      · subst a
        have e : 128 ^ 9 = 9223372036854775808 := by decide
        rw [e] at h2; omega
    rw [if_neg hz, if_pos hu, Nat.mod_eq_of_lt hu]
    rfl
  | k + 1, u, i, acc, r, h, h2, h3, h9 => by
    unfold encF
    by_cases hu : u < 128
    · rw [if_pos hu]
      show decF (UInt8.ofNat u :: r) i acc = _
      unfold decF
      rw [u8_of u (by omega)]
      have hz : ¬ ((0 < i ∧ u = 0) ∨ (i = 9 ∧ 1 < u)) := by
        rintro (⟨a, b⟩ | ⟨a, b⟩)
        · exact h3 a b
        · subst a
          have e : 128 ^ 9 = 9223372036854775808 := by decide
          rw [e] at h2; omega
      rw [if_neg hz, if_pos hu, Nat.mod_eq_of_lt hu]
      rfl
    · rw [if_neg hu]
      show decF (UInt8.ofNat (u % 128 + 128) :: (encF k (u / 128) ++ r)) i acc = _
      unfold decF
      rw [u8_of (u % 128 + 128) (by omega)]
      have hi9 : i ≠ 9 := by
        intro e
        subst e
        have e : 128 ^ 9 = 9223372036854775808 := by decide
        rw [e] at h2; omega
      rw [if_neg (by omega), if_neg (by omega), show (u % 128 + 128) % 128 = u % 128 by omega]
      have hp : u / 128 * 128 ^ (i + 1) ≤ u * 128 ^ i := by
        rw [Nat.pow_succ, Nat.mul_comm (128 ^ i) 128, ← Nat.mul_assoc]
        exact Nat.mul_le_mul_right _ (by omega)
      have ih := dec_enc k (u / 128) (i + 1) (acc + u % 128 * 128 ^ i) r (by rw [Nat.div_lt_iff_lt_mul (by decide)]; rw [Nat.pow_succ] at h; exact h) (by omega) (fun _ => by omega) (by omega)
      rw [ih]
      have e1 : acc + u % 128 * 128 ^ i + u / 128 * 128 ^ (i + 1) = acc + u * 128 ^ i := by
        have hd : u = u % 128 + 128 * (u / 128) := by omega
        rw [Nat.pow_succ, Nat.mul_comm (128 ^ i) 128, ← Nat.mul_assoc, Nat.add_assoc, ← Nat.add_mul]
        congr 2
        omega
      rw [e1]
      have e2 : i + 1 + (encF k (u / 128)).length = i + (UInt8.ofNat (u % 128 + 128) :: encF k (u / 128)).length := by rw [List.length_cons]; omega
      rw [e2]
theorem unzz_zz {n : Int} (h : inI n) : unzz (zz n) = n := by unfold inI at h; unfold unzz zz; split <;> split <;> omega
theorem rdI_enc {n : Int} (h : inI n) (r : List UInt8) : rdI (encI n ++ r) 0 = (n, r, 0) := by
  unfold rdI
  rw [if_neg (fun x => x rfl)]
  have hz := zz_lt h
  have hd := dec_enc 9 (zz n) 0 0 r (by omega) (by omega) (fun a => by omega) (by omega)
  unfold encI
  rw [hd]
  simp only [Nat.pow_zero, Nat.mul_one, Nat.zero_add]
  rw [unzz_zz h, List.drop_append_of_le_length (Nat.le_refl _), List.drop_length, List.nil_append]
theorem rdT_enc {s : List UInt8} (h : s.length ≤ 60) (r : List UInt8) : rdT (encT s ++ r) 0 = (s, r, 0) := by
  have h1 : rdI (encT s ++ r) 0 = ((s.length : Int), s ++ r, 0) := by
    unfold encT
    rw [List.append_assoc]
    exact rdI_enc (by unfold inI; omega) _
  have h2 : rdC (encT s ++ r) 0 = ((s.length : Int), s ++ r, 0) := by
    unfold rdC
    rw [h1]
    simp only [ne_eq, not_true_eq_false, if_false]
    rw [if_neg (by omega), if_neg (by omega)]
  unfold rdT
  rw [h2]
  simp only [ne_eq, not_true_eq_false, if_false]
  rw [if_neg (by rw [List.length_append]; omega), Int.toNat_natCast, List.take_append_of_le_length (Nat.le_refl _), List.take_length, List.drop_append_of_le_length (Nat.le_refl _), List.drop_length, List.nil_append]
/-- what a checked value looks like -/
theorem ck_shape {v : Vl} (h : ckV v = 0) : inI v.2.1 ∧ (v.1 ≠ 4 → v.2.2 = []) ∧ (v.1 = 0 ∨ v.1 = 4 → v.2.1 = 0) := by
  have hkd := (ck_kd h).1
  have hcl := (ck_len h).2.2
  obtain ⟨k, n, s⟩ := v
  simp only at *
  refine ⟨?_, hcl, ?_⟩
  · unfold ckV at h
    simp only at h
    unfold inI
    cases ho : okN k n with
    | none => rw [ho] at h; cases h
    | some b =>
      rw [ho] at h
      cases b with
      | false => cases h
      | true =>
        unfold okN at ho
        split at ho
        · injection ho with ho; have : n = 0 := by simpa using ho
          omega
        · split at ho
          · injection ho with ho
            have : n = 0 ∨ n = 1 := by simpa using ho
            omega
          · split at ho
            · injection ho with ho
              have := inR_t ho
              omega
            · split at ho
              · injection ho with ho
                have : 0 ≤ n ∧ n ≤ 63 := by simpa using ho
                omega
              · cases ho
  · intro hk
    unfold ckV at h
    simp only at h
    have ho : okN k n = some (n == 0) := if_pos hk
    rw [ho] at h
    by_cases e : n = 0
    · exact e
    · rw [show (n == 0) = false by simpa using e] at h
      cases h
theorem pt_len (v : Vl) : (ptV v).length ≤ 1000 := by
  unfold ptV
  split
  · have := encI_len 0; omega
  · rename_i h
    have hkd := ck_kd (Classical.not_not.1 h)
    have l1 := encI_len v.1
    have l2 := encI_len v.2.1
    have l3 := encI_len v.2.2.length
    have l4 := encI_len 4
    have l0 := encI_len 0
    unfold ptW encT
    split
    · omega
    · split
      · simp only [List.length_append]; omega
      · simp only [List.length_append]; omega
end Go.HH
