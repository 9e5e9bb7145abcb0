/-
  Numbers: Scale, as one plain function.
-/
import Derived.Test.YthfcokfigmpanaaDoorN2
namespace Go.HH
open Go Go.Proofs
set_option maxRecDepth 100000
set_option linter.unusedSimpArgs false
set_option linter.unusedVariables false
/-- the quotient of a product, with a sign, limited -/
def scaleN (x y z : Nat) (neg : Bool) : Int := signedI (x * y / z + if neg = true ∧ 0 < x * y % z then 1 else 0) neg
def negI (n a b : Int) : Bool := decide (n < 0) != (decide (a < 0) != decide (b < 0))
def scaleI (n a b : Int) : Int := if satI b = 0 then 0 else scaleN (satI n).natAbs (satI a).natAbs (satI b).natAbs (negI (satI n) (satI a) (satI b))
theorem negI_eq (n a b : Int) : (!((!(decide (n < 0) == decide (a < 0))) == decide (b < 0))) = negI n a b := by
  unfold negI
  cases decide (n < 0) <;> cases decide (a < 0) <;> cases decide (b < 0) <;> rfl
theorem scale_split (x y z : Nat) (hz : 0 < z) : x * y / z = x / z * y + x % z * y / z ∧ x * y % z = x % z * y % z := by
  have h := Nat.div_add_mod x z
  have e : x * y = (x / z * y) * z + x % z * y := by
    generalize x / z = u at *
    generalize x % z = v at *
    subst h
    grind
  constructor
  · rw [e, Nat.add_comm, Nat.add_mul_div_right _ _ hz, Nat.add_comm]
  · rw [e, Nat.add_comm, Nat.add_mul_mod_self_right]
theorem signed_big {n : Nat} (neg : Bool) (h : 1099511627776 < n) : signedI n neg = if neg then -1099511627776 else 1099511627776 := by
  unfold signedI
  rw [if_pos h]
theorem scale_times (x y z d : Nat) (neg : Bool) (hz : 0 < z) : signedI (timesN (x / z) y + x % z * y / z + d) neg = signedI (x * y / z + d) neg := by
  rw [(scale_split x y z hz).1]
  unfold timesN
  split
  · rename_i h
    have h1 : 1099511627776 < x / z * y := by
      have hy : 0 < y := by omega
      have : ¬ x / z * y ≤ 1099511627776 := fun hc => by
        have := (Nat.le_div_iff_mul_le hy).2 hc
        omega
      omega
    generalize x / z * y = u at *
    generalize x % z * y / z = v at *
    rw [signed_big neg (by omega), signed_big neg (by omega)]
  · rfl
theorem natAbs_satI (n : Int) : (satI n).natAbs ≤ 1099511627776 := by have := satI_le n; omega
theorem call_num_Scale (n a b : Int) : callL CC 12 [.int .i64 n, .int .i64 a, .int .i64 b] [] = some (.ret (.int .i64 (scaleI n a b)), []) := by
  rw [callL_enter (fn := Tryd.f12) (c := Tryd.f12.body.getD .skip) rfl fat_num_Scale rfl ok_num_Scale (Nat.le_of_ble_eq_true rfl)]
  obtain ⟨ev, eo, so, co, ⟨hev, hco⟩, R⟩ := RULES CC; rw [← hev]; have o_num_Sat := @op_num_Sat; rw [← hco] at o_num_Sat; have o_num_size := @op_num_size; rw [← hco] at o_num_size; have o_num_times := @op_num_times; rw [← hco] at o_num_times; have o_num_divide := @op_num_divide; rw [← hco] at o_num_divide; have o_num_signed := @op_num_signed; rw [← hco] at o_num_signed
  have ln := satI_le n
  have la := satI_le a
  have lb := satI_le b
  unfold scaleI
  generalize hsn : satI n = n' at *
  generalize hsa : satI a = a' at *
  generalize hsb : satI b = b' at *
  have s1 := o_num_size n' ⟨by omega, by omega⟩
  have s2 := o_num_size a' ⟨by omega, by omega⟩
  have s3 := o_num_size b' ⟨by omega, by omega⟩
  simp only [fpart, part', Tryd.f12, Option.getD]
  by_cases c1 : b' = 0
  · simp (maxSteps := 5000000) only [SA, SB, SD, R, guardAt, binP, intP, indexAddrP, elemsOf, readCells, lenP, lenAt, resultsP, resultP, oneOr, reduceCtorEq, reduceIte, Nat.reduceEqDiff, Nat.reduceAdd, Nat.zero_add, Nat.reduceMul, Nat.reduceLT, Nat.reduceLeDiff, Int.reduceLT, Int.reduceNeg, Int.reduceLE, appendP, appendAt, letGo, setLoc, locVal, Int.reduceToNat, boxCells, und, TG, o_num_Sat, hsn, hsa, hsb, c1, Int.reduceBEq]
  · have hneg := negI_eq n' a' b'
    have hz : 0 < b'.natAbs := by omega
    have hX : n'.natAbs ≤ 1099511627776 := by omega
    have hY : a'.natAbs ≤ 1099511627776 := by omega
    have hZ : b'.natAbs ≤ 1099511627776 := by omega
    have hb0 : ¬ ((b'.natAbs : Nat) : Int) = 0 := by omega
    generalize hng : negI n' a' b' = neg at *
    generalize n'.natAbs = x at *
    generalize a'.natAbs = y at *
    generalize b'.natAbs = z at *
    have hsp := scale_split x y z hz
    have hst := fun d => scale_times x y z d neg hz
    have hq : Int.tdiv (x : Int) (z : Int) = ((x / z : Nat) : Int) := Int.ofNat_tdiv _ _
    have hr : Int.tmod (x : Int) (z : Int) = ((x % z : Nat) : Int) := Int.ofNat_tmod _ _
    have hml : x % z < z := Nat.mod_lt _ hz
    have hdl : x / z ≤ x := Nat.div_le_self _ _
    have d := o_num_divide (x % z) y z hY hml hZ
    have hpl : x % z * y / z ≤ y := by
      have h1 : x % z * y ≤ z * y := Nat.mul_le_mul_right _ (by omega)
      calc x % z * y / z ≤ z * y / z := Nat.div_le_div_right h1
        _ = y := Nat.mul_div_cancel_left _ hz
    have htl := timesN_le (x / z) y
    have ht := o_num_times (x / z) y
    have hgo := o_num_signed
    unfold scaleN
    rw [← hst, hsp.2]
    generalize x / z = xq at *
    generalize x % z = xr at *
    generalize timesN xq y = tm at *
    generalize xr * y / z = part at *
    generalize xr * y % z = rest at *
    have hwq := wrap_u64 (n := (xq : Int)) ⟨by omega, by omega⟩
    have w1 := wrap_u64 (n := (tm : Int) + (part : Int)) ⟨by omega, by omega⟩
    have w2 := wrap_u64 (n := (tm : Int) + (part : Int) + 1) ⟨by omega, by omega⟩
    have g0 := hgo (tm + part)
    have g1 := hgo (tm + part + 1)
    push_cast at g0 g1
    have hbe : (b' == 0) = false := by simpa using c1
    cases neg with
    | false =>
      simp (maxSteps := 5000000) only [SA, SB, SD, R, guardAt, binP, intP, indexAddrP, elemsOf, readCells, lenP, lenAt, resultsP, resultP, oneOr, reduceCtorEq, reduceIte, Nat.reduceEqDiff, Nat.reduceAdd, Nat.zero_add, Nat.reduceMul, Nat.reduceLT, Nat.reduceLeDiff, Int.reduceLT, Int.reduceNeg, Int.reduceLE, appendP, appendAt, letGo, setLoc, locVal, Int.reduceToNat, boxCells, und, TG, o_num_Sat, hsn, hsa, hsb, c1, hbe, s1, s2, s3, hq, hr, hb0, hwq, d, ht, w1, hneg, g0, Bool.not_eq_true, false_and, Nat.add_zero]
    | true =>
      by_cases c2 : (rest : Int) > 0
      · have c3 : 0 < rest := by omega
        simp (maxSteps := 5000000) only [SA, SB, SD, R, guardAt, binP, intP, indexAddrP, elemsOf, readCells, lenP, lenAt, resultsP, resultP, oneOr, reduceCtorEq, reduceIte, Nat.reduceEqDiff, Nat.reduceAdd, Nat.zero_add, Nat.reduceMul, Nat.reduceLT, Nat.reduceLeDiff, Int.reduceLT, Int.reduceNeg, Int.reduceLE, appendP, appendAt, letGo, setLoc, locVal, Int.reduceToNat, boxCells, und, TG, o_num_Sat, hsn, hsa, hsb, c1, hbe, s1, s2, s3, hq, hr, hb0, hwq, d, ht, w1, w2, hneg, g1, c2, c3]
      · have c3 : ¬ 0 < rest := by omega
        simp (maxSteps := 5000000) only [SA, SB, SD, R, guardAt, binP, intP, indexAddrP, elemsOf, readCells, lenP, lenAt, resultsP, resultP, oneOr, reduceCtorEq, reduceIte, Nat.reduceEqDiff, Nat.reduceAdd, Nat.zero_add, Nat.reduceMul, Nat.reduceLT, Nat.reduceLeDiff, Int.reduceLT, Int.reduceNeg, Int.reduceLE, appendP, appendAt, letGo, setLoc, locVal, Int.reduceToNat, boxCells, und, TG, o_num_Sat, hsn, hsa, hsb, c1, hbe, s1, s2, s3, hq, hr, hb0, hwq, d, ht, w1, hneg, g0, c2, c3, Nat.add_zero, and_false]
theorem op_num_Scale (n a b : Int) (bx) : callOp CC (callL CC) 12 [.int .i64 n, .int .i64 a, .int .i64 b] bx = some (.ret (.int .i64 (scaleI n a b)), bx) := callOp_of rfl (by simp only [SA, Bool.and_true]) (call_num_Scale n a b) rfl
/-- the other way -/
theorem negR_eq (n a b : Int) : (!(decide (n < 0) == (!(decide (a < 0) == decide (b < 0))))) = negI n a b := by
  unfold negI
  cases decide (n < 0) <;> cases decide (a < 0) <;> cases decide (b < 0) <;> rfl
theorem capQ {q Q s : Int} (h : q = if Q > 4398046511104 then 4398046511104 else Q) (hQ : 0 ≤ Q) (hs : 0 ≤ s) :
    (if 2 * q + s > 4398046511104 then 4398046511104 else 2 * q + s) = if 2 * Q + s > 4398046511104 then 4398046511104 else 2 * Q + s := by
  subst h
  split <;> (try split) <;> (try split) <;> omega
theorem ldr {q t x p z d : Int} (h : q * z + t = x * p) (hz : 0 < z) : (2 * q + (2 * t + d * x) / z) * z + (2 * t + d * x) % z = x * (2 * p + d) := by
  have := Int.mul_ediv_add_emod (2 * t + d * x) z
  generalize (2 * t + d * x) / z = u at *
  generalize (2 * t + d * x) % z = v at *
  grind
theorem loop_R01_Scale (L : Code) (hL : L = fpart Tryd.f13 [1,1,1,1,1,1,0,1,0]) (y : Nat) (x z : Int) (hy : y ≤ 1099511627776) (hx0 : 0 ≤ x) (hx : x ≤ 1099511627776) (hz0 : 0 < z) (hz : z ≤ 1099511627776) (v7 : Bool) : ∀ (k : Nat) (e : List PV) (q t Q i : Int), k ≤ 41 → i = (k : Int) - 1 → Q * z + t = x * ((y / 2 ^ k : Nat) : Int) → 0 ≤ Q → 0 ≤ t → t < z →
    (q = if Q > 4398046511104 then 4398046511104 else Q) → getT e 7 = .bool v7 → getT e 8 = .int .i64 x → getT e 9 = .int .i64 y → getT e 10 = .int .i64 z → getT e 11 = .int .i64 q → getT e 12 = .int .i64 t → getT e 13 = .int .i64 i →
   ∃ e', evL CC L ⟨e, []⟩ = some (.exit 0, ⟨e', []⟩) ∧ ∃ q t Q : Int, getT e' 7 = .bool v7 ∧ getT e' 11 = .int .i64 q ∧ getT e' 12 = .int .i64 t ∧ Q * z + t = x * (y : Int) ∧ 0 ≤ Q ∧ 0 ≤ t ∧ t < z ∧ (q = if Q > 4398046511104 then 4398046511104 else Q) := by
  intro k
  induction k with
  | zero =>
    intro e q t Q i hk hi heq hQ ht htb hcap h7 h8 h9 h10 h11 h12 h13
    rw [evL_at (fpart Tryd.f13 [1,1,1,1,1,1,0,1,0,0]) hL]
    obtain ⟨ev, eo, so, co, ⟨hev, hco⟩, R⟩ := RULES CC; rw [← hev]
    have hi' : ¬ (i ≥ 0) := by omega
    simp only [fpart, part', Tryd.f13, Option.getD]
    simp (maxSteps := 5000000) only [SA, SB, SD, R, guardAt, binP, intP, indexAddrP, elemsOf, readCells, lenP, lenAt, resultsP, resultP, oneOr, reduceCtorEq, reduceIte, Nat.reduceEqDiff, Nat.reduceAdd, Nat.zero_add, Nat.reduceMul, Nat.reduceLT, Nat.reduceLeDiff, Int.reduceLT, Int.reduceNeg, Int.reduceLE, appendP, appendAt, letGo, setLoc, locVal, Int.reduceToNat, boxCells, und, TG, h13, hi']
    exact ⟨_, rfl, q, t, Q, by simp (maxSteps := 5000000) only [SA, SB, SD, R, guardAt, binP, intP, indexAddrP, elemsOf, readCells, lenP, lenAt, resultsP, resultP, oneOr, reduceCtorEq, reduceIte, Nat.reduceEqDiff, Nat.reduceAdd, Nat.zero_add, Nat.reduceMul, Nat.reduceLT, Nat.reduceLeDiff, Int.reduceLT, Int.reduceNeg, Int.reduceLE, appendP, appendAt, letGo, setLoc, locVal, Int.reduceToNat, boxCells, und, h7], by simp (maxSteps := 5000000) only [SA, SB, SD, R, guardAt, binP, intP, indexAddrP, elemsOf, readCells, lenP, lenAt, resultsP, resultP, oneOr, reduceCtorEq, reduceIte, Nat.reduceEqDiff, Nat.reduceAdd, Nat.zero_add, Nat.reduceMul, Nat.reduceLT, Nat.reduceLeDiff, Int.reduceLT, Int.reduceNeg, Int.reduceLE, appendP, appendAt, letGo, setLoc, locVal, Int.reduceToNat, boxCells, und, h11], by simp (maxSteps := 5000000) only [SA, SB, SD, R, guardAt, binP, intP, indexAddrP, elemsOf, readCells, lenP, lenAt, resultsP, resultP, oneOr, reduceCtorEq, reduceIte, Nat.reduceEqDiff, Nat.reduceAdd, Nat.zero_add, Nat.reduceMul, Nat.reduceLT, Nat.reduceLeDiff, Int.reduceLT, Int.reduceNeg, Int.reduceLE, appendP, appendAt, letGo, setLoc, locVal, Int.reduceToNat, boxCells, und, h12], by simpa using heq, hQ, ht, htb, hcap⟩
  | succ k ih =>
    intro e q t Q i hk hi heq hQ ht htb hcap h7 h8 h9 h10 h11 h12 h13
    rw [evL_at (fpart Tryd.f13 [1,1,1,1,1,1,0,1,0,0]) hL]
    obtain ⟨ev, eo, so, co, ⟨hev, hco⟩, R⟩ := RULES CC; rw [← hev]
    rw [← hev] at ih
    have hi' : i ≥ 0 := by omega
    have hw := wrap_i64 (n := i - 1) ⟨by omega, by omega⟩
    have hsh := sh_i64 y i (by omega) (by omega)
    have hkk : i.toNat = k := by omega
    have hhalf := half_i y k
    have hbit : y / 2 ^ k % 2 = 0 ∨ y / 2 ^ k % 2 = 1 := by omega
    have han := an_i64 (y / 2 ^ k)
    rw [hkk] at hsh
    rw [hhalf] at ih
    generalize y / 2 ^ k = pk at *
    generalize ((y / 2 ^ (k + 1) : Nat) : Int) = p at *
    have hone : ((1 : Nat) : Int) = 1 := rfl
    have hzero : ((0 : Nat) : Int) = 0 := rfl
    have hq4 : 0 ≤ q ∧ q ≤ 4398046511104 := by subst hcap; split <;> omega
    have hzne : ¬ z = 0 := by omega
    have w1 := wrap_i64 (n := 2 * q) ⟨by omega, by omega⟩
    have w2 := wrap_i64 (n := 2 * t) ⟨by omega, by omega⟩
    simp only [fpart, part', Tryd.f13, Option.getD]
    rcases hbit with hbit | hbit
    · rw [hbit] at han ih
      have e1 := ldr (d := 0) heq hz0
      rw [Int.zero_mul, Int.add_zero] at e1
      have htd : Int.tdiv (2 * t) z = (2 * t) / z := Int.tdiv_eq_ediv_of_nonneg (by omega)
      have htm : Int.tmod (2 * t) z = (2 * t) % z := Int.tmod_eq_emod_of_nonneg (by omega)
      have hdn : 0 ≤ (2 * t) / z := Int.ediv_nonneg (by omega) (by omega)
      have hdl : (2 * t) / z ≤ 2 * t := Int.ediv_le_self _ (by omega)
      have hcap := capQ hcap hQ hdn
      have w3 := wrap_i64 (n := (2 * t) / z) ⟨by omega, by omega⟩
      have w4 := wrap_i64 (n := 2 * q + (2 * t) / z) ⟨by omega, by omega⟩
      by_cases c3 : 2 * q + (2 * t) / z > 4398046511104
      · simp (maxSteps := 5000000) only [SA, SB, SD, R, guardAt, binP, intP, indexAddrP, elemsOf, readCells, lenP, lenAt, resultsP, resultP, oneOr, reduceCtorEq, reduceIte, Nat.reduceEqDiff, Nat.reduceAdd, Nat.zero_add, Nat.reduceMul, Nat.reduceLT, Nat.reduceLeDiff, Int.reduceLT, Int.reduceNeg, Int.reduceLE, appendP, appendAt, letGo, setLoc, locVal, Int.reduceToNat, boxCells, und, TG, h8, h9, h10, h11, h12, h13, hi', hw, hsh, han, w1, w2, w3, w4, htd, htm, hzne, c3, hzero, Int.reduceBEq]
        exact ih _ (4398046511104) ((2 * t) % z) (2 * Q + (2 * t) / z) (i - 1) (by omega) (by omega) (by rw [hzero]; exact e1) (by omega) (Int.emod_nonneg _ (by omega)) (Int.emod_lt_of_pos _ (by omega)) (by first | exact hcap | (rw [if_pos c3] at hcap; exact hcap) | (rw [if_neg c3] at hcap; exact hcap)) (by simp (maxSteps := 5000000) only [SA, SB, SD, R, guardAt, binP, intP, indexAddrP, elemsOf, readCells, lenP, lenAt, resultsP, resultP, oneOr, reduceCtorEq, reduceIte, Nat.reduceEqDiff, Nat.reduceAdd, Nat.zero_add, Nat.reduceMul, Nat.reduceLT, Nat.reduceLeDiff, Int.reduceLT, Int.reduceNeg, Int.reduceLE, appendP, appendAt, letGo, setLoc, locVal, Int.reduceToNat, boxCells, und, h7]) (by simp (maxSteps := 5000000) only [SA, SB, SD, R, guardAt, binP, intP, indexAddrP, elemsOf, readCells, lenP, lenAt, resultsP, resultP, oneOr, reduceCtorEq, reduceIte, Nat.reduceEqDiff, Nat.reduceAdd, Nat.zero_add, Nat.reduceMul, Nat.reduceLT, Nat.reduceLeDiff, Int.reduceLT, Int.reduceNeg, Int.reduceLE, appendP, appendAt, letGo, setLoc, locVal, Int.reduceToNat, boxCells, und, h8]) (by simp (maxSteps := 5000000) only [SA, SB, SD, R, guardAt, binP, intP, indexAddrP, elemsOf, readCells, lenP, lenAt, resultsP, resultP, oneOr, reduceCtorEq, reduceIte, Nat.reduceEqDiff, Nat.reduceAdd, Nat.zero_add, Nat.reduceMul, Nat.reduceLT, Nat.reduceLeDiff, Int.reduceLT, Int.reduceNeg, Int.reduceLE, appendP, appendAt, letGo, setLoc, locVal, Int.reduceToNat, boxCells, und, h9]) (by simp (maxSteps := 5000000) only [SA, SB, SD, R, guardAt, binP, intP, indexAddrP, elemsOf, readCells, lenP, lenAt, resultsP, resultP, oneOr, reduceCtorEq, reduceIte, Nat.reduceEqDiff, Nat.reduceAdd, Nat.zero_add, Nat.reduceMul, Nat.reduceLT, Nat.reduceLeDiff, Int.reduceLT, Int.reduceNeg, Int.reduceLE, appendP, appendAt, letGo, setLoc, locVal, Int.reduceToNat, boxCells, und, h10]) (by simp (maxSteps := 5000000) only [SA, SB, SD, R, guardAt, binP, intP, indexAddrP, elemsOf, readCells, lenP, lenAt, resultsP, resultP, oneOr, reduceCtorEq, reduceIte, Nat.reduceEqDiff, Nat.reduceAdd, Nat.zero_add, Nat.reduceMul, Nat.reduceLT, Nat.reduceLeDiff, Int.reduceLT, Int.reduceNeg, Int.reduceLE, appendP, appendAt, letGo, setLoc, locVal, Int.reduceToNat, boxCells, und]) (by simp (maxSteps := 5000000) only [SA, SB, SD, R, guardAt, binP, intP, indexAddrP, elemsOf, readCells, lenP, lenAt, resultsP, resultP, oneOr, reduceCtorEq, reduceIte, Nat.reduceEqDiff, Nat.reduceAdd, Nat.zero_add, Nat.reduceMul, Nat.reduceLT, Nat.reduceLeDiff, Int.reduceLT, Int.reduceNeg, Int.reduceLE, appendP, appendAt, letGo, setLoc, locVal, Int.reduceToNat, boxCells, und]) (by simp (maxSteps := 5000000) only [SA, SB, SD, R, guardAt, binP, intP, indexAddrP, elemsOf, readCells, lenP, lenAt, resultsP, resultP, oneOr, reduceCtorEq, reduceIte, Nat.reduceEqDiff, Nat.reduceAdd, Nat.zero_add, Nat.reduceMul, Nat.reduceLT, Nat.reduceLeDiff, Int.reduceLT, Int.reduceNeg, Int.reduceLE, appendP, appendAt, letGo, setLoc, locVal, Int.reduceToNat, boxCells, und])
      · simp (maxSteps := 5000000) only [SA, SB, SD, R, guardAt, binP, intP, indexAddrP, elemsOf, readCells, lenP, lenAt, resultsP, resultP, oneOr, reduceCtorEq, reduceIte, Nat.reduceEqDiff, Nat.reduceAdd, Nat.zero_add, Nat.reduceMul, Nat.reduceLT, Nat.reduceLeDiff, Int.reduceLT, Int.reduceNeg, Int.reduceLE, appendP, appendAt, letGo, setLoc, locVal, Int.reduceToNat, boxCells, und, TG, h8, h9, h10, h11, h12, h13, hi', hw, hsh, han, w1, w2, w3, w4, htd, htm, hzne, c3, hzero, Int.reduceBEq]
        exact ih _ (2 * q + (2 * t) / z) ((2 * t) % z) (2 * Q + (2 * t) / z) (i - 1) (by omega) (by omega) (by rw [hzero]; exact e1) (by omega) (Int.emod_nonneg _ (by omega)) (Int.emod_lt_of_pos _ (by omega)) (by first | exact hcap | (rw [if_pos c3] at hcap; exact hcap) | (rw [if_neg c3] at hcap; exact hcap)) (by simp (maxSteps := 5000000) only [SA, SB, SD, R, guardAt, binP, intP, indexAddrP, elemsOf, readCells, lenP, lenAt, resultsP, resultP, oneOr, reduceCtorEq, reduceIte, Nat.reduceEqDiff, Nat.reduceAdd, Nat.zero_add, Nat.reduceMul, Nat.reduceLT, Nat.reduceLeDiff, Int.reduceLT, Int.reduceNeg, Int.reduceLE, appendP, appendAt, letGo, setLoc, locVal, Int.reduceToNat, boxCells, und, h7]) (by simp (maxSteps := 5000000) only [SA, SB, SD, R, guardAt, binP, intP, indexAddrP, elemsOf, readCells, lenP, lenAt, resultsP, resultP, oneOr, reduceCtorEq, reduceIte, Nat.reduceEqDiff, Nat.reduceAdd, Nat.zero_add, Nat.reduceMul, Nat.reduceLT, Nat.reduceLeDiff, Int.reduceLT, Int.reduceNeg, Int.reduceLE, appendP, appendAt, letGo, setLoc, locVal, Int.reduceToNat, boxCells, und, h8]) (by simp (maxSteps := 5000000) only [SA, SB, SD, R, guardAt, binP, intP, indexAddrP, elemsOf, readCells, lenP, lenAt, resultsP, resultP, oneOr, reduceCtorEq, reduceIte, Nat.reduceEqDiff, Nat.reduceAdd, Nat.zero_add, Nat.reduceMul, Nat.reduceLT, Nat.reduceLeDiff, Int.reduceLT, Int.reduceNeg, Int.reduceLE, appendP, appendAt, letGo, setLoc, locVal, Int.reduceToNat, boxCells, und, h9]) (by simp (maxSteps := 5000000) only [SA, SB, SD, R, guardAt, binP, intP, indexAddrP, elemsOf, readCells, lenP, lenAt, resultsP, resultP, oneOr, reduceCtorEq, reduceIte, Nat.reduceEqDiff, Nat.reduceAdd, Nat.zero_add, Nat.reduceMul, Nat.reduceLT, Nat.reduceLeDiff, Int.reduceLT, Int.reduceNeg, Int.reduceLE, appendP, appendAt, letGo, setLoc, locVal, Int.reduceToNat, boxCells, und, h10]) (by simp (maxSteps := 5000000) only [SA, SB, SD, R, guardAt, binP, intP, indexAddrP, elemsOf, readCells, lenP, lenAt, resultsP, resultP, oneOr, reduceCtorEq, reduceIte, Nat.reduceEqDiff, Nat.reduceAdd, Nat.zero_add, Nat.reduceMul, Nat.reduceLT, Nat.reduceLeDiff, Int.reduceLT, Int.reduceNeg, Int.reduceLE, appendP, appendAt, letGo, setLoc, locVal, Int.reduceToNat, boxCells, und]) (by simp (maxSteps := 5000000) only [SA, SB, SD, R, guardAt, binP, intP, indexAddrP, elemsOf, readCells, lenP, lenAt, resultsP, resultP, oneOr, reduceCtorEq, reduceIte, Nat.reduceEqDiff, Nat.reduceAdd, Nat.zero_add, Nat.reduceMul, Nat.reduceLT, Nat.reduceLeDiff, Int.reduceLT, Int.reduceNeg, Int.reduceLE, appendP, appendAt, letGo, setLoc, locVal, Int.reduceToNat, boxCells, und]) (by simp (maxSteps := 5000000) only [SA, SB, SD, R, guardAt, binP, intP, indexAddrP, elemsOf, readCells, lenP, lenAt, resultsP, resultP, oneOr, reduceCtorEq, reduceIte, Nat.reduceEqDiff, Nat.reduceAdd, Nat.zero_add, Nat.reduceMul, Nat.reduceLT, Nat.reduceLeDiff, Int.reduceLT, Int.reduceNeg, Int.reduceLE, appendP, appendAt, letGo, setLoc, locVal, Int.reduceToNat, boxCells, und])
    · rw [hbit] at han ih
      have e1 := ldr (d := 1) heq hz0
      rw [Int.one_mul] at e1
      have w5 := wrap_i64 (n := 2 * t + x) ⟨by omega, by omega⟩
      have htd : Int.tdiv (2 * t + x) z = (2 * t + x) / z := Int.tdiv_eq_ediv_of_nonneg (by omega)
      have htm : Int.tmod (2 * t + x) z = (2 * t + x) % z := Int.tmod_eq_emod_of_nonneg (by omega)
      have hdn : 0 ≤ (2 * t + x) / z := Int.ediv_nonneg (by omega) (by omega)
      have hdl : (2 * t + x) / z ≤ 2 * t + x := Int.ediv_le_self _ (by omega)
      have hcap := capQ hcap hQ hdn
      have w3 := wrap_i64 (n := (2 * t + x) / z) ⟨by omega, by omega⟩
      have w4 := wrap_i64 (n := 2 * q + (2 * t + x) / z) ⟨by omega, by omega⟩
      by_cases c3 : 2 * q + (2 * t + x) / z > 4398046511104
      · simp (maxSteps := 5000000) only [SA, SB, SD, R, guardAt, binP, intP, indexAddrP, elemsOf, readCells, lenP, lenAt, resultsP, resultP, oneOr, reduceCtorEq, reduceIte, Nat.reduceEqDiff, Nat.reduceAdd, Nat.zero_add, Nat.reduceMul, Nat.reduceLT, Nat.reduceLeDiff, Int.reduceLT, Int.reduceNeg, Int.reduceLE, appendP, appendAt, letGo, setLoc, locVal, Int.reduceToNat, boxCells, und, TG, h8, h9, h10, h11, h12, h13, hi', hw, hsh, han, w1, w2, w3, w4, w5, htd, htm, hzne, c3, hone, Int.reduceBEq]
        exact ih _ (4398046511104) ((2 * t + x) % z) (2 * Q + (2 * t + x) / z) (i - 1) (by omega) (by omega) (by rw [hone]; exact e1) (by omega) (Int.emod_nonneg _ (by omega)) (Int.emod_lt_of_pos _ (by omega)) (by first | exact hcap | (rw [if_pos c3] at hcap; exact hcap) | (rw [if_neg c3] at hcap; exact hcap)) (by simp (maxSteps := 5000000) only [SA, SB, SD, R, guardAt, binP, intP, indexAddrP, elemsOf, readCells, lenP, lenAt, resultsP, resultP, oneOr, reduceCtorEq, reduceIte, Nat.reduceEqDiff, Nat.reduceAdd, Nat.zero_add, Nat.reduceMul, Nat.reduceLT, Nat.reduceLeDiff, Int.reduceLT, Int.reduceNeg, Int.reduceLE, appendP, appendAt, letGo, setLoc, locVal, Int.reduceToNat, boxCells, und, h7]) (by simp (maxSteps := 5000000) only [SA, SB, SD, R, guardAt, binP, intP, indexAddrP, elemsOf, readCells, lenP, lenAt, resultsP, resultP, oneOr, reduceCtorEq, reduceIte, Nat.reduceEqDiff, Nat.reduceAdd, Nat.zero_add, Nat.reduceMul, Nat.reduceLT, Nat.reduceLeDiff, Int.reduceLT, Int.reduceNeg, Int.reduceLE, appendP, appendAt, letGo, setLoc, locVal, Int.reduceToNat, boxCells, und, h8]) (by simp (maxSteps := 5000000) only [SA, SB, SD, R, guardAt, binP, intP, indexAddrP, elemsOf, readCells, lenP, lenAt, resultsP, resultP, oneOr, reduceCtorEq, reduceIte, Nat.reduceEqDiff, Nat.reduceAdd, Nat.zero_add, Nat.reduceMul, Nat.reduceLT, Nat.reduceLeDiff, Int.reduceLT, Int.reduceNeg, Int.reduceLE, appendP, appendAt, letGo, setLoc, locVal, Int.reduceToNat, boxCells, und, h9]) (by simp (maxSteps := 5000000) only [SA, SB, SD, R, guardAt, binP, intP, indexAddrP, elemsOf, readCells, lenP, lenAt, resultsP, resultP, oneOr, reduceCtorEq, reduceIte, Nat.reduceEqDiff, Nat.reduceAdd, Nat.zero_add, Nat.reduceMul, Nat.reduceLT, Nat.reduceLeDiff, Int.reduceLT, Int.reduceNeg, Int.reduceLE, appendP, appendAt, letGo, setLoc, locVal, Int.reduceToNat, boxCells, und, h10]) (by simp (maxSteps := 5000000) only [SA, SB, SD, R, guardAt, binP, intP, indexAddrP, elemsOf, readCells, lenP, lenAt, resultsP, resultP, oneOr, reduceCtorEq, reduceIte, Nat.reduceEqDiff, Nat.reduceAdd, Nat.zero_add, Nat.reduceMul, Nat.reduceLT, Nat.reduceLeDiff, Int.reduceLT, Int.reduceNeg, Int.reduceLE, appendP, appendAt, letGo, setLoc, locVal, Int.reduceToNat, boxCells, und]) (by simp (maxSteps := 5000000) only [SA, SB, SD, R, guardAt, binP, intP, indexAddrP, elemsOf, readCells, lenP, lenAt, resultsP, resultP, oneOr, reduceCtorEq, reduceIte, Nat.reduceEqDiff, Nat.reduceAdd, Nat.zero_add, Nat.reduceMul, Nat.reduceLT, Nat.reduceLeDiff, Int.reduceLT, Int.reduceNeg, Int.reduceLE, appendP, appendAt, letGo, setLoc, locVal, Int.reduceToNat, boxCells, und]) (by simp (maxSteps := 5000000) only [SA, SB, SD, R, guardAt, binP, intP, indexAddrP, elemsOf, readCells, lenP, lenAt, resultsP, resultP, oneOr, reduceCtorEq, reduceIte, Nat.reduceEqDiff, Nat.reduceAdd, Nat.zero_add, Nat.reduceMul, Nat.reduceLT, Nat.reduceLeDiff, Int.reduceLT, Int.reduceNeg, Int.reduceLE, appendP, appendAt, letGo, setLoc, locVal, Int.reduceToNat, boxCells, und])
      · simp (maxSteps := 5000000) only [SA, SB, SD, R, guardAt, binP, intP, indexAddrP, elemsOf, readCells, lenP, lenAt, resultsP, resultP, oneOr, reduceCtorEq, reduceIte, Nat.reduceEqDiff, Nat.reduceAdd, Nat.zero_add, Nat.reduceMul, Nat.reduceLT, Nat.reduceLeDiff, Int.reduceLT, Int.reduceNeg, Int.reduceLE, appendP, appendAt, letGo, setLoc, locVal, Int.reduceToNat, boxCells, und, TG, h8, h9, h10, h11, h12, h13, hi', hw, hsh, han, w1, w2, w3, w4, w5, htd, htm, hzne, c3, hone, Int.reduceBEq]
        exact ih _ (2 * q + (2 * t + x) / z) ((2 * t + x) % z) (2 * Q + (2 * t + x) / z) (i - 1) (by omega) (by omega) (by rw [hone]; exact e1) (by omega) (Int.emod_nonneg _ (by omega)) (Int.emod_lt_of_pos _ (by omega)) (by first | exact hcap | (rw [if_pos c3] at hcap; exact hcap) | (rw [if_neg c3] at hcap; exact hcap)) (by simp (maxSteps := 5000000) only [SA, SB, SD, R, guardAt, binP, intP, indexAddrP, elemsOf, readCells, lenP, lenAt, resultsP, resultP, oneOr, reduceCtorEq, reduceIte, Nat.reduceEqDiff, Nat.reduceAdd, Nat.zero_add, Nat.reduceMul, Nat.reduceLT, Nat.reduceLeDiff, Int.reduceLT, Int.reduceNeg, Int.reduceLE, appendP, appendAt, letGo, setLoc, locVal, Int.reduceToNat, boxCells, und, h7]) (by simp (maxSteps := 5000000) only [SA, SB, SD, R, guardAt, binP, intP, indexAddrP, elemsOf, readCells, lenP, lenAt, resultsP, resultP, oneOr, reduceCtorEq, reduceIte, Nat.reduceEqDiff, Nat.reduceAdd, Nat.zero_add, Nat.reduceMul, Nat.reduceLT, Nat.reduceLeDiff, Int.reduceLT, Int.reduceNeg, Int.reduceLE, appendP, appendAt, letGo, setLoc, locVal, Int.reduceToNat, boxCells, und, h8]) (by simp (maxSteps := 5000000) only [SA, SB, SD, R, guardAt, binP, intP, indexAddrP, elemsOf, readCells, lenP, lenAt, resultsP, resultP, oneOr, reduceCtorEq, reduceIte, Nat.reduceEqDiff, Nat.reduceAdd, Nat.zero_add, Nat.reduceMul, Nat.reduceLT, Nat.reduceLeDiff, Int.reduceLT, Int.reduceNeg, Int.reduceLE, appendP, appendAt, letGo, setLoc, locVal, Int.reduceToNat, boxCells, und, h9]) (by simp (maxSteps := 5000000) only [SA, SB, SD, R, guardAt, binP, intP, indexAddrP, elemsOf, readCells, lenP, lenAt, resultsP, resultP, oneOr, reduceCtorEq, reduceIte, Nat.reduceEqDiff, Nat.reduceAdd, Nat.zero_add, Nat.reduceMul, Nat.reduceLT, Nat.reduceLeDiff, Int.reduceLT, Int.reduceNeg, Int.reduceLE, appendP, appendAt, letGo, setLoc, locVal, Int.reduceToNat, boxCells, und, h10]) (by simp (maxSteps := 5000000) only [SA, SB, SD, R, guardAt, binP, intP, indexAddrP, elemsOf, readCells, lenP, lenAt, resultsP, resultP, oneOr, reduceCtorEq, reduceIte, Nat.reduceEqDiff, Nat.reduceAdd, Nat.zero_add, Nat.reduceMul, Nat.reduceLT, Nat.reduceLeDiff, Int.reduceLT, Int.reduceNeg, Int.reduceLE, appendP, appendAt, letGo, setLoc, locVal, Int.reduceToNat, boxCells, und]) (by simp (maxSteps := 5000000) only [SA, SB, SD, R, guardAt, binP, intP, indexAddrP, elemsOf, readCells, lenP, lenAt, resultsP, resultP, oneOr, reduceCtorEq, reduceIte, Nat.reduceEqDiff, Nat.reduceAdd, Nat.zero_add, Nat.reduceMul, Nat.reduceLT, Nat.reduceLeDiff, Int.reduceLT, Int.reduceNeg, Int.reduceLE, appendP, appendAt, letGo, setLoc, locVal, Int.reduceToNat, boxCells, und]) (by simp (maxSteps := 5000000) only [SA, SB, SD, R, guardAt, binP, intP, indexAddrP, elemsOf, readCells, lenP, lenAt, resultsP, resultP, oneOr, reduceCtorEq, reduceIte, Nat.reduceEqDiff, Nat.reduceAdd, Nat.zero_add, Nat.reduceMul, Nat.reduceLT, Nat.reduceLeDiff, Int.reduceLT, Int.reduceNeg, Int.reduceLE, appendP, appendAt, letGo, setLoc, locVal, Int.reduceToNat, boxCells, und])
theorem cap_sat (n : Nat) (d : Nat) (hd : d ≤ 1) (neg : Bool) : satI (if neg then -((if (n : Int) > 4398046511104 then 4398046511104 else (n : Int)) + d) else (if (n : Int) > 4398046511104 then 4398046511104 else (n : Int)) + d) = signedI (n + d) neg := by
  unfold satI signedI
  cases neg <;> simp only [Bool.false_eq_true, if_true, if_false] <;> split <;> split <;> (try split) <;> (try split) <;> omega
theorem call_R01_Scale (n a b : Int) : callL CC 13 [.int .i64 n, .int .i64 a, .int .i64 b] [] = some (.ret (.int .i64 (scaleI n a b)), []) := by
  rw [callL_enter (fn := Tryd.f13) (c := Tryd.f13.body.getD .skip) rfl fat_R01_Scale rfl ok_R01_Scale (Nat.le_of_ble_eq_true rfl)]
  have ln := satI_le n
  have la := satI_le a
  have lb := satI_le b
  unfold scaleI
  generalize hsn : satI n = n' at *
  generalize hsa : satI a = a' at *
  generalize hsb : satI b = b' at *
  by_cases c1 : b' = 0
  · obtain ⟨ev, eo, so, co, ⟨hev, hco⟩, R⟩ := RULES CC; rw [← hev]; have o_R01_Sat := @op_R01_Sat; rw [← hco] at o_R01_Sat
    simp only [fpart, part', Tryd.f13, Option.getD]
    simp (maxSteps := 5000000) only [SA, SB, SD, R, guardAt, binP, intP, indexAddrP, elemsOf, readCells, lenP, lenAt, resultsP, resultP, oneOr, reduceCtorEq, reduceIte, Nat.reduceEqDiff, Nat.reduceAdd, Nat.zero_add, Nat.reduceMul, Nat.reduceLT, Nat.reduceLeDiff, Int.reduceLT, Int.reduceNeg, Int.reduceLE, appendP, appendAt, letGo, setLoc, locVal, Int.reduceToNat, boxCells, und, TG, o_R01_Sat, hsn, hsa, hsb, c1, Int.reduceBEq]
  · have hneg := negR_eq n' a' b'
    have hbe : (b' == 0) = false := by simpa using c1
    have hloop := loop_R01_Scale _ rfl a'.natAbs n'.natAbs b'.natAbs (by omega) (by omega) (by omega) (by omega) (by omega) (negI n' a' b') 41
    have hz41 : a'.natAbs / 2 ^ 41 = 0 := Nat.div_eq_of_lt (by omega)
    have hbz : 0 < b'.natAbs := by omega
    obtain ⟨ev, eo, so, co, ⟨hev, hco⟩, R⟩ := RULES CC; rw [← hev]; have o_R01_Sat := @op_R01_Sat; rw [← hco] at o_R01_Sat; have o_R01_abs := @op_R01_abs; rw [← hco] at o_R01_abs
    rw [← hev] at hloop
    have s1 := o_R01_abs n' ⟨by omega, by omega⟩
    have s2 := o_R01_abs a' ⟨by omega, by omega⟩
    have s3 := o_R01_abs b' ⟨by omega, by omega⟩
    generalize hng : negI n' a' b' = neg at *
    generalize n'.natAbs = x at *
    generalize a'.natAbs = y at *
    generalize b'.natAbs = z at *
    simp only [fpart, part', Tryd.f13, Option.getD] at hloop ⊢
    simp (maxSteps := 5000000) only [SA, SB, SD, R, guardAt, binP, intP, indexAddrP, elemsOf, readCells, lenP, lenAt, resultsP, resultP, oneOr, reduceCtorEq, reduceIte, Nat.reduceEqDiff, Nat.reduceAdd, Nat.zero_add, Nat.reduceMul, Nat.reduceLT, Nat.reduceLeDiff, Int.reduceLT, Int.reduceNeg, Int.reduceLE, appendP, appendAt, letGo, setLoc, locVal, Int.reduceToNat, boxCells, und, TG, o_R01_Sat, hsn, hsa, hsb, c1, hbe, s1, s2, s3, hneg]
    generalize hE : ev _ _ = res
    obtain ⟨e', he, q, t, Q, h7, h11, h12, heq, hQ, ht, htb, hcap⟩ := useLoop' hE (hloop _ 0 0 0 40 (by omega) (by omega) (by rw [hz41]; simp) (by omega) (by omega) (by omega) (by omega) (by simp (maxSteps := 5000000) only [SA, SB, SD, R, guardAt, binP, intP, indexAddrP, elemsOf, readCells, lenP, lenAt, resultsP, resultP, oneOr, reduceCtorEq, reduceIte, Nat.reduceEqDiff, Nat.reduceAdd, Nat.zero_add, Nat.reduceMul, Nat.reduceLT, Nat.reduceLeDiff, Int.reduceLT, Int.reduceNeg, Int.reduceLE, appendP, appendAt, letGo, setLoc, locVal, Int.reduceToNat, boxCells, und]) (by simp (maxSteps := 5000000) only [SA, SB, SD, R, guardAt, binP, intP, indexAddrP, elemsOf, readCells, lenP, lenAt, resultsP, resultP, oneOr, reduceCtorEq, reduceIte, Nat.reduceEqDiff, Nat.reduceAdd, Nat.zero_add, Nat.reduceMul, Nat.reduceLT, Nat.reduceLeDiff, Int.reduceLT, Int.reduceNeg, Int.reduceLE, appendP, appendAt, letGo, setLoc, locVal, Int.reduceToNat, boxCells, und]) (by simp (maxSteps := 5000000) only [SA, SB, SD, R, guardAt, binP, intP, indexAddrP, elemsOf, readCells, lenP, lenAt, resultsP, resultP, oneOr, reduceCtorEq, reduceIte, Nat.reduceEqDiff, Nat.reduceAdd, Nat.zero_add, Nat.reduceMul, Nat.reduceLT, Nat.reduceLeDiff, Int.reduceLT, Int.reduceNeg, Int.reduceLE, appendP, appendAt, letGo, setLoc, locVal, Int.reduceToNat, boxCells, und]) (by simp (maxSteps := 5000000) only [SA, SB, SD, R, guardAt, binP, intP, indexAddrP, elemsOf, readCells, lenP, lenAt, resultsP, resultP, oneOr, reduceCtorEq, reduceIte, Nat.reduceEqDiff, Nat.reduceAdd, Nat.zero_add, Nat.reduceMul, Nat.reduceLT, Nat.reduceLeDiff, Int.reduceLT, Int.reduceNeg, Int.reduceLE, appendP, appendAt, letGo, setLoc, locVal, Int.reduceToNat, boxCells, und]) (by simp (maxSteps := 5000000) only [SA, SB, SD, R, guardAt, binP, intP, indexAddrP, elemsOf, readCells, lenP, lenAt, resultsP, resultP, oneOr, reduceCtorEq, reduceIte, Nat.reduceEqDiff, Nat.reduceAdd, Nat.zero_add, Nat.reduceMul, Nat.reduceLT, Nat.reduceLeDiff, Int.reduceLT, Int.reduceNeg, Int.reduceLE, appendP, appendAt, letGo, setLoc, locVal, Int.reduceToNat, boxCells, und]) (by simp (maxSteps := 5000000) only [SA, SB, SD, R, guardAt, binP, intP, indexAddrP, elemsOf, readCells, lenP, lenAt, resultsP, resultP, oneOr, reduceCtorEq, reduceIte, Nat.reduceEqDiff, Nat.reduceAdd, Nat.zero_add, Nat.reduceMul, Nat.reduceLT, Nat.reduceLeDiff, Int.reduceLT, Int.reduceNeg, Int.reduceLE, appendP, appendAt, letGo, setLoc, locVal, Int.reduceToNat, boxCells, und]) (by simp (maxSteps := 5000000) only [SA, SB, SD, R, guardAt, binP, intP, indexAddrP, elemsOf, readCells, lenP, lenAt, resultsP, resultP, oneOr, reduceCtorEq, reduceIte, Nat.reduceEqDiff, Nat.reduceAdd, Nat.zero_add, Nat.reduceMul, Nat.reduceLT, Nat.reduceLeDiff, Int.reduceLT, Int.reduceNeg, Int.reduceLE, appendP, appendAt, letGo, setLoc, locVal, Int.reduceToNat, boxCells, und]))
    obtain ⟨e1, e2⟩ := ldi_end (n := x * y) (z := z) rfl (by rw [heq]; push_cast; rfl) hQ ht htb
    subst he
    unfold scaleN
    subst e1 e2
    have hc0 := cap_sat (x * y / z) 0 (by omega) neg
    have hc1 := cap_sat (x * y / z) 1 (by omega) neg
    rw [← hcap] at hc0 hc1
    have hq4 : 0 ≤ q ∧ q ≤ 4398046511104 := by rw [hcap]; split <;> omega
    have w1 := wrap_i64 (n := q + 1) ⟨by omega, by omega⟩
    have w2 := wrap_i64 (n := -(q + 1)) ⟨by omega, by omega⟩
    have w3 := wrap_i64 (n := -q) ⟨by omega, by omega⟩
    have z0 : ((0 : Nat) : Int) = 0 := rfl
    have z1 : ((1 : Nat) : Int) = 1 := rfl
    rw [z0, Int.add_zero] at hc0
    rw [z1] at hc1
    generalize x * y / z = qq at *
    generalize x * y % z = rr at *
    cases neg with
    | false =>
      simp only [Bool.false_eq_true, if_false] at hc0
      simp (maxSteps := 5000000) only [SA, SB, SD, R, guardAt, binP, intP, indexAddrP, elemsOf, readCells, lenP, lenAt, resultsP, resultP, oneOr, reduceCtorEq, reduceIte, Nat.reduceEqDiff, Nat.reduceAdd, Nat.zero_add, Nat.reduceMul, Nat.reduceLT, Nat.reduceLeDiff, Int.reduceLT, Int.reduceNeg, Int.reduceLE, appendP, appendAt, letGo, setLoc, locVal, Int.reduceToNat, boxCells, und, TG, h7, h11, h12, o_R01_Sat, hc0, false_and]
    | true =>
      simp only [if_true] at hc0 hc1
      by_cases c2 : (rr : Int) > 0
      · have c3 : 0 < rr := by omega
        simp (maxSteps := 5000000) only [SA, SB, SD, R, guardAt, binP, intP, indexAddrP, elemsOf, readCells, lenP, lenAt, resultsP, resultP, oneOr, reduceCtorEq, reduceIte, Nat.reduceEqDiff, Nat.reduceAdd, Nat.zero_add, Nat.reduceMul, Nat.reduceLT, Nat.reduceLeDiff, Int.reduceLT, Int.reduceNeg, Int.reduceLE, appendP, appendAt, letGo, setLoc, locVal, Int.reduceToNat, boxCells, und, TG, unP, h7, h11, h12, o_R01_Sat, w1, w2, Int.zero_sub, hc1, c2, c3]
      · have c3 : ¬ 0 < rr := by omega
        simp (maxSteps := 5000000) only [SA, SB, SD, R, guardAt, binP, intP, indexAddrP, elemsOf, readCells, lenP, lenAt, resultsP, resultP, oneOr, reduceCtorEq, reduceIte, Nat.reduceEqDiff, Nat.reduceAdd, Nat.zero_add, Nat.reduceMul, Nat.reduceLT, Nat.reduceLeDiff, Int.reduceLT, Int.reduceNeg, Int.reduceLE, appendP, appendAt, letGo, setLoc, locVal, Int.reduceToNat, boxCells, und, TG, unP, h7, h11, h12, o_R01_Sat, w3, Int.zero_sub, hc0, c2, c3, and_false]
theorem op_R01_Scale (n a b : Int) (bx) : callOp CC (callL CC) 13 [.int .i64 n, .int .i64 a, .int .i64 b] bx = some (.ret (.int .i64 (scaleI n a b)), bx) := callOp_of rfl (by simp only [SA, Bool.and_true]) (call_R01_Scale n a b) rfl
end Go.HH
