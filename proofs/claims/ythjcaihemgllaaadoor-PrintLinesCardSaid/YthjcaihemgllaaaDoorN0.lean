/-
  Numbers: long division, and the bits it takes.
-/
import Derived.Test.YthjcaihemgllaaaDoorRules
namespace Go.HH
open Go
theorem wrap_u64 {n : Int} (h : 0 ≤ n ∧ n < 18446744073709551616) : IntKind.wrap .u64 n = n := by
  obtain ⟨h1, h2⟩ := h
  simp [IntKind.wrap, IntKind.bits, IntKind.signed]
  omega
theorem shr_nat {k : IntKind} {n : Nat} {y : Int} (h0 : 0 ≤ y) (h1 : y.toNat ≤ k.bits) : shiftP .shr k (n : Int) y = some (.int k ((n / 2 ^ y.toNat : Nat) : Int)) := by
  unfold shiftP
  rw [if_neg (by omega), Nat.min_eq_left h1]
  simp only
  congr 2
  rw [Int.fdiv_eq_ediv_of_nonneg _ (Int.pow_nonneg (by decide))]
  norm_cast
/-- a step of a long division -/
theorem ld_same {q t r p b : Nat} (h : q * b + t = r * p) (c : 2 * t < b) : (2 * q) * b + 2 * t = r * (2 * p) ∧ 2 * t < b := ⟨by grind, c⟩
theorem ld_over {q t r p b : Nat} (h : q * b + t = r * p) (ht : t < b) (c : b ≤ 2 * t) : (2 * q + 1) * b + (2 * t - b) = r * (2 * p) ∧ 2 * t - b < b := ⟨by grind, by omega⟩
theorem ld_bit {q t r p b : Nat} (h : q * b + t = r * (2 * p)) (ht : t + r < b) : q * b + (t + r) = r * (2 * p + 1) ∧ t + r < b := ⟨by grind, ht⟩
theorem ld_bit_over {q t r p b : Nat} (h : q * b + t = r * (2 * p)) (ht : t < b) (hr : r < b) (c : b ≤ t + r) : (q + 1) * b + (t + r - b) = r * (2 * p + 1) ∧ t + r - b < b := ⟨by grind, by omega⟩
theorem ld_end {q t n b : Nat} (h : q * b + t = n) (ht : t < b) : q = n / b ∧ t = n % b := by
  have := (Nat.div_mod_unique (a := n) (b := b) (c := t) (d := q) (by omega)).2 ⟨by grind, ht⟩
  exact ⟨this.1.symm, this.2.symm⟩
theorem half_pow (a k : Nat) : a / 2 ^ k = 2 * (a / 2 ^ (k + 1)) + a / 2 ^ k % 2 := by
  rw [Nat.pow_succ, ← Nat.div_div_eq_div_mul]
  omega
/-- a step of the other long division -/
theorem ld_ref {q t x p d z : Nat} (h : q * z + t = x * p) (hz : 0 < z) : (2 * q + (2 * t + d * x) / z) * z + (2 * t + d * x) % z = x * (2 * p + d) ∧ (2 * t + d * x) % z < z := by
  refine ⟨?_, Nat.mod_lt _ hz⟩
  have := Nat.div_add_mod (2 * t + d * x) z
  generalize (2 * t + d * x) / z = u at *
  generalize (2 * t + d * x) % z = v at *
  grind
end Go.HH
