/-
  Numbers: sums, products, quotients, ranges.
-/
import Derived.Test.YthfcokfigmpanaaDoorN3
namespace Go.HH
open Go Go.Proofs
set_option maxRecDepth 100000
set_option linter.unusedSimpArgs false
set_option linter.unusedVariables false
theorem ok_num_Add : fnOK CC Tryd.f23 (Tryd.f23.body.getD .skip) = true := by kernel_rfl
theorem fat_num_Add : CC.P.funcs[23]? = some Tryd.f23 := by kernel_rfl
theorem ok_num_Sub : fnOK CC Tryd.f25 (Tryd.f25.body.getD .skip) = true := by kernel_rfl
theorem fat_num_Sub : CC.P.funcs[25]? = some Tryd.f25 := by kernel_rfl
theorem ok_R01_Sub : fnOK CC Tryd.f26 (Tryd.f26.body.getD .skip) = true := by kernel_rfl
theorem fat_R01_Sub : CC.P.funcs[26]? = some Tryd.f26 := by kernel_rfl
theorem ok_num_Mul : fnOK CC Tryd.f19 (Tryd.f19.body.getD .skip) = true := by kernel_rfl
theorem fat_num_Mul : CC.P.funcs[19]? = some Tryd.f19 := by kernel_rfl
theorem ok_R01_Mul : fnOK CC Tryd.f20 (Tryd.f20.body.getD .skip) = true := by kernel_rfl
theorem fat_R01_Mul : CC.P.funcs[20]? = some Tryd.f20 := by kernel_rfl
theorem ok_num_Clamp : fnOK CC Tryd.f27 (Tryd.f27.body.getD .skip) = true := by kernel_rfl
theorem fat_num_Clamp : CC.P.funcs[27]? = some Tryd.f27 := by kernel_rfl
theorem ok_R01_Clamp : fnOK CC Tryd.f28 (Tryd.f28.body.getD .skip) = true := by kernel_rfl
theorem fat_R01_Clamp : CC.P.funcs[28]? = some Tryd.f28 := by kernel_rfl
theorem ok_num_Floor : fnOK CC Tryd.f29 (Tryd.f29.body.getD .skip) = true := by kernel_rfl
theorem fat_num_Floor : CC.P.funcs[29]? = some Tryd.f29 := by kernel_rfl
theorem ok_R01_Floor : fnOK CC Tryd.f30 (Tryd.f30.body.getD .skip) = true := by kernel_rfl
theorem fat_R01_Floor : CC.P.funcs[30]? = some Tryd.f30 := by kernel_rfl
theorem ok_num_Ceil : fnOK CC Tryd.f31 (Tryd.f31.body.getD .skip) = true := by kernel_rfl
theorem fat_num_Ceil : CC.P.funcs[31]? = some Tryd.f31 := by kernel_rfl
theorem ok_R01_Ceil : fnOK CC Tryd.f32 (Tryd.f32.body.getD .skip) = true := by kernel_rfl
theorem fat_R01_Ceil : CC.P.funcs[32]? = some Tryd.f32 := by kernel_rfl
theorem wrap_near {n : Int} (h1 : -18446744073709551616 ≤ n) (h2 : n < 18446744073709551616) :
    (IntKind.wrap .i64 n = n ∧ inI n) ∨ (IntKind.wrap .i64 n = n - 18446744073709551616 ∧ 9223372036854775807 < n) ∨ (IntKind.wrap .i64 n = n + 18446744073709551616 ∧ n < -9223372036854775808) := by
  unfold inI
  simp only [IntKind.wrap, IntKind.bits, IntKind.signed]
  simp
  omega
theorem call_num_Add (a b : Int) (ha : inI a) (hb : inI b) : callL CC 23 [.int .i64 a, .int .i64 b] [] = some (.ret (.int .i64 (satI (a + b))), []) := by
  rw [callL_enter (fn := Tryd.f23) (c := Tryd.f23.body.getD .skip) rfl fat_num_Add rfl ok_num_Add (Nat.le_of_ble_eq_true rfl)]
  obtain ⟨ev, eo, so, co, ⟨hev, hco⟩, R⟩ := RULES CC; rw [← hev]; have o_num_Sat := @op_num_Sat; rw [← hco] at o_num_Sat; have o_num_limit := @op_num_limit; rw [← hco] at o_num_limit
  have key : ∃ s, IntKind.wrap .i64 (a + b) = s ∧ ((a < 0 ∧ b < 0 ∧ ¬ s < 0 ∧ satI (a + b) = -1099511627776) ∨ (¬ a < 0 ∧ ¬ b < 0 ∧ s < 0 ∧ satI (a + b) = 1099511627776) ∨
      (a < 0 ∧ b < 0 ∧ s < 0 ∧ satI s = satI (a + b)) ∨ (¬ a < 0 ∧ ¬ b < 0 ∧ ¬ s < 0 ∧ satI s = satI (a + b)) ∨ (a < 0 ∧ ¬ b < 0 ∧ satI s = satI (a + b)) ∨ (¬ a < 0 ∧ b < 0 ∧ satI s = satI (a + b))) := by
    refine ⟨_, rfl, ?_⟩
    rcases wrap_near (n := a + b) (by omega) (by omega) with ⟨h, _⟩ | ⟨h, _⟩ | ⟨h, _⟩ <;> rw [h] <;> unfold satI <;> split <;> (try split) <;> (try split) <;> (try split) <;> omega
  obtain ⟨s, hs, key⟩ := key
  simp only [fpart, part', Tryd.f23, Option.getD]
  rcases key with ⟨c1, c2, c3, e⟩ | ⟨c1, c2, c3, e⟩ | ⟨c1, c2, c3, e⟩ | ⟨c1, c2, c3, e⟩ | ⟨c1, c2, e⟩ | ⟨c1, c2, e⟩
  · simp (maxSteps := 5000000) only [SA, SB, SD, R, guardAt, binP, intP, indexAddrP, elemsOf, readCells, lenP, lenAt, resultsP, resultP, oneOr, reduceCtorEq, reduceIte, Nat.reduceEqDiff, Nat.reduceAdd, Nat.zero_add, Nat.reduceMul, Nat.reduceLT, Nat.reduceLeDiff, Int.reduceLT, Int.reduceNeg, Int.reduceLE, appendP, appendAt, letGo, setLoc, locVal, Int.reduceToNat, boxCells, und, TG, o_num_Sat, o_num_limit, hs, c1, c2, c3, e]
  · simp (maxSteps := 5000000) only [SA, SB, SD, R, guardAt, binP, intP, indexAddrP, elemsOf, readCells, lenP, lenAt, resultsP, resultP, oneOr, reduceCtorEq, reduceIte, Nat.reduceEqDiff, Nat.reduceAdd, Nat.zero_add, Nat.reduceMul, Nat.reduceLT, Nat.reduceLeDiff, Int.reduceLT, Int.reduceNeg, Int.reduceLE, appendP, appendAt, letGo, setLoc, locVal, Int.reduceToNat, boxCells, und, TG, o_num_Sat, o_num_limit, hs, c1, c2, c3, e]
  · simp (maxSteps := 5000000) only [SA, SB, SD, R, guardAt, binP, intP, indexAddrP, elemsOf, readCells, lenP, lenAt, resultsP, resultP, oneOr, reduceCtorEq, reduceIte, Nat.reduceEqDiff, Nat.reduceAdd, Nat.zero_add, Nat.reduceMul, Nat.reduceLT, Nat.reduceLeDiff, Int.reduceLT, Int.reduceNeg, Int.reduceLE, appendP, appendAt, letGo, setLoc, locVal, Int.reduceToNat, boxCells, und, TG, o_num_Sat, o_num_limit, hs, c1, c2, c3, e]
  · simp (maxSteps := 5000000) only [SA, SB, SD, R, guardAt, binP, intP, indexAddrP, elemsOf, readCells, lenP, lenAt, resultsP, resultP, oneOr, reduceCtorEq, reduceIte, Nat.reduceEqDiff, Nat.reduceAdd, Nat.zero_add, Nat.reduceMul, Nat.reduceLT, Nat.reduceLeDiff, Int.reduceLT, Int.reduceNeg, Int.reduceLE, appendP, appendAt, letGo, setLoc, locVal, Int.reduceToNat, boxCells, und, TG, o_num_Sat, o_num_limit, hs, c1, c2, c3, e]
  · simp (maxSteps := 5000000) only [SA, SB, SD, R, guardAt, binP, intP, indexAddrP, elemsOf, readCells, lenP, lenAt, resultsP, resultP, oneOr, reduceCtorEq, reduceIte, Nat.reduceEqDiff, Nat.reduceAdd, Nat.zero_add, Nat.reduceMul, Nat.reduceLT, Nat.reduceLeDiff, Int.reduceLT, Int.reduceNeg, Int.reduceLE, appendP, appendAt, letGo, setLoc, locVal, Int.reduceToNat, boxCells, und, TG, o_num_Sat, o_num_limit, hs, c1, c2, e]
  · simp (maxSteps := 5000000) only [SA, SB, SD, R, guardAt, binP, intP, indexAddrP, elemsOf, readCells, lenP, lenAt, resultsP, resultP, oneOr, reduceCtorEq, reduceIte, Nat.reduceEqDiff, Nat.reduceAdd, Nat.zero_add, Nat.reduceMul, Nat.reduceLT, Nat.reduceLeDiff, Int.reduceLT, Int.reduceNeg, Int.reduceLE, appendP, appendAt, letGo, setLoc, locVal, Int.reduceToNat, boxCells, und, TG, o_num_Sat, o_num_limit, hs, c1, c2, e]
theorem op_num_Add (a b : Int) (ha : inI a) (hb : inI b) (bx) : callOp CC (callL CC) 23 [.int .i64 a, .int .i64 b] bx = some (.ret (.int .i64 (satI (a + b))), bx) := callOp_of rfl (by simp only [SA, Bool.and_true]) (call_num_Add a b ha hb) rfl
theorem call_num_Sub (a b : Int) (ha : inI a) (hb : inI b) : callL CC 25 [.int .i64 a, .int .i64 b] [] = some (.ret (.int .i64 (satI (a - b))), []) := by
  rw [callL_enter (fn := Tryd.f25) (c := Tryd.f25.body.getD .skip) rfl fat_num_Sub rfl ok_num_Sub (Nat.le_of_ble_eq_true rfl)]
  obtain ⟨ev, eo, so, co, ⟨hev, hco⟩, R⟩ := RULES CC; rw [← hev]; have o_num_Sat := @op_num_Sat; rw [← hco] at o_num_Sat; have o_num_limit := @op_num_limit; rw [← hco] at o_num_limit
  have key : ∃ s, IntKind.wrap .i64 (a - b) = s ∧ ((a < 0 ∧ ¬ b < 0 ∧ ¬ s < 0 ∧ satI (a - b) = -1099511627776) ∨ (¬ a < 0 ∧ b < 0 ∧ s < 0 ∧ satI (a - b) = 1099511627776) ∨
      (a < 0 ∧ ¬ b < 0 ∧ s < 0 ∧ satI s = satI (a - b)) ∨ (¬ a < 0 ∧ b < 0 ∧ ¬ s < 0 ∧ satI s = satI (a - b)) ∨ (a < 0 ∧ b < 0 ∧ satI s = satI (a - b)) ∨ (¬ a < 0 ∧ ¬ b < 0 ∧ satI s = satI (a - b))) := by
    refine ⟨_, rfl, ?_⟩
    rcases wrap_near (n := a - b) (by omega) (by omega) with ⟨h, _⟩ | ⟨h, _⟩ | ⟨h, _⟩ <;> rw [h] <;> unfold satI <;> split <;> (try split) <;> (try split) <;> (try split) <;> omega
  obtain ⟨s, hs, key⟩ := key
  simp only [fpart, part', Tryd.f25, Option.getD]
  rcases key with ⟨c1, c2, c3, e⟩ | ⟨c1, c2, c3, e⟩ | ⟨c1, c2, c3, e⟩ | ⟨c1, c2, c3, e⟩ | ⟨c1, c2, e⟩ | ⟨c1, c2, e⟩
  · simp (maxSteps := 5000000) only [SA, SB, SD, R, guardAt, binP, intP, indexAddrP, elemsOf, readCells, lenP, lenAt, resultsP, resultP, oneOr, reduceCtorEq, reduceIte, Nat.reduceEqDiff, Nat.reduceAdd, Nat.zero_add, Nat.reduceMul, Nat.reduceLT, Nat.reduceLeDiff, Int.reduceLT, Int.reduceNeg, Int.reduceLE, appendP, appendAt, letGo, setLoc, locVal, Int.reduceToNat, boxCells, und, TG, o_num_Sat, o_num_limit, hs, c1, c2, c3, e]
  · simp (maxSteps := 5000000) only [SA, SB, SD, R, guardAt, binP, intP, indexAddrP, elemsOf, readCells, lenP, lenAt, resultsP, resultP, oneOr, reduceCtorEq, reduceIte, Nat.reduceEqDiff, Nat.reduceAdd, Nat.zero_add, Nat.reduceMul, Nat.reduceLT, Nat.reduceLeDiff, Int.reduceLT, Int.reduceNeg, Int.reduceLE, appendP, appendAt, letGo, setLoc, locVal, Int.reduceToNat, boxCells, und, TG, o_num_Sat, o_num_limit, hs, c1, c2, c3, e]
  · simp (maxSteps := 5000000) only [SA, SB, SD, R, guardAt, binP, intP, indexAddrP, elemsOf, readCells, lenP, lenAt, resultsP, resultP, oneOr, reduceCtorEq, reduceIte, Nat.reduceEqDiff, Nat.reduceAdd, Nat.zero_add, Nat.reduceMul, Nat.reduceLT, Nat.reduceLeDiff, Int.reduceLT, Int.reduceNeg, Int.reduceLE, appendP, appendAt, letGo, setLoc, locVal, Int.reduceToNat, boxCells, und, TG, o_num_Sat, o_num_limit, hs, c1, c2, c3, e]
  · simp (maxSteps := 5000000) only [SA, SB, SD, R, guardAt, binP, intP, indexAddrP, elemsOf, readCells, lenP, lenAt, resultsP, resultP, oneOr, reduceCtorEq, reduceIte, Nat.reduceEqDiff, Nat.reduceAdd, Nat.zero_add, Nat.reduceMul, Nat.reduceLT, Nat.reduceLeDiff, Int.reduceLT, Int.reduceNeg, Int.reduceLE, appendP, appendAt, letGo, setLoc, locVal, Int.reduceToNat, boxCells, und, TG, o_num_Sat, o_num_limit, hs, c1, c2, c3, e]
  · simp (maxSteps := 5000000) only [SA, SB, SD, R, guardAt, binP, intP, indexAddrP, elemsOf, readCells, lenP, lenAt, resultsP, resultP, oneOr, reduceCtorEq, reduceIte, Nat.reduceEqDiff, Nat.reduceAdd, Nat.zero_add, Nat.reduceMul, Nat.reduceLT, Nat.reduceLeDiff, Int.reduceLT, Int.reduceNeg, Int.reduceLE, appendP, appendAt, letGo, setLoc, locVal, Int.reduceToNat, boxCells, und, TG, o_num_Sat, o_num_limit, hs, c1, c2, e]
  · simp (maxSteps := 5000000) only [SA, SB, SD, R, guardAt, binP, intP, indexAddrP, elemsOf, readCells, lenP, lenAt, resultsP, resultP, oneOr, reduceCtorEq, reduceIte, Nat.reduceEqDiff, Nat.reduceAdd, Nat.zero_add, Nat.reduceMul, Nat.reduceLT, Nat.reduceLeDiff, Int.reduceLT, Int.reduceNeg, Int.reduceLE, appendP, appendAt, letGo, setLoc, locVal, Int.reduceToNat, boxCells, und, TG, o_num_Sat, o_num_limit, hs, c1, c2, e]
theorem op_num_Sub (a b : Int) (ha : inI a) (hb : inI b) (bx) : callOp CC (callL CC) 25 [.int .i64 a, .int .i64 b] bx = some (.ret (.int .i64 (satI (a - b))), bx) := callOp_of rfl (by simp only [SA, Bool.and_true]) (call_num_Sub a b ha hb) rfl
theorem call_R01_Sub (a b : Int) (ha : inI a) (hb : inI b) : callL CC 26 [.int .i64 a, .int .i64 b] [] = some (.ret (.int .i64 (satI (a - b))), []) := by
  rw [callL_enter (fn := Tryd.f26) (c := Tryd.f26.body.getD .skip) rfl fat_R01_Sub rfl ok_R01_Sub (Nat.le_of_ble_eq_true rfl)]
  obtain ⟨ev, eo, so, co, ⟨hev, hco⟩, R⟩ := RULES CC; rw [← hev]; have o_R01_Sat := @op_R01_Sat; rw [← hco] at o_R01_Sat
  simp only [fpart, part', Tryd.f26, Option.getD]
  by_cases c1 : b < 0
  · have w := wrap_i64 (n := 9223372036854775807 + b) ⟨by omega, by omega⟩
    have c4 : ¬ b > 0 := by omega
    by_cases c2 : a > 9223372036854775807 + b
    · have e : satI (a - b) = 1099511627776 := by unfold satI; rw [if_pos (by omega)]
      simp (maxSteps := 5000000) only [SA, SB, SD, R, guardAt, binP, intP, indexAddrP, elemsOf, readCells, lenP, lenAt, resultsP, resultP, oneOr, reduceCtorEq, reduceIte, Nat.reduceEqDiff, Nat.reduceAdd, Nat.zero_add, Nat.reduceMul, Nat.reduceLT, Nat.reduceLeDiff, Int.reduceLT, Int.reduceNeg, Int.reduceLE, appendP, appendAt, letGo, setLoc, locVal, Int.reduceToNat, boxCells, und, TG, o_R01_Sat, c1, w, c2, e]
    · have w2 := wrap_i64 (n := a - b) ⟨by omega, by omega⟩
      simp (maxSteps := 5000000) only [SA, SB, SD, R, guardAt, binP, intP, indexAddrP, elemsOf, readCells, lenP, lenAt, resultsP, resultP, oneOr, reduceCtorEq, reduceIte, Nat.reduceEqDiff, Nat.reduceAdd, Nat.zero_add, Nat.reduceMul, Nat.reduceLT, Nat.reduceLeDiff, Int.reduceLT, Int.reduceNeg, Int.reduceLE, appendP, appendAt, letGo, setLoc, locVal, Int.reduceToNat, boxCells, und, TG, o_R01_Sat, c1, w, c2, c4, w2]
  · by_cases c3 : b > 0
    · have w := wrap_i64 (n := -9223372036854775808 + b) ⟨by omega, by omega⟩
      by_cases c2 : a < -9223372036854775808 + b
      · have e : satI (a - b) = -1099511627776 := by unfold satI; rw [if_neg (by omega), if_pos (by omega)]
        simp (maxSteps := 5000000) only [SA, SB, SD, R, guardAt, binP, intP, indexAddrP, elemsOf, readCells, lenP, lenAt, resultsP, resultP, oneOr, reduceCtorEq, reduceIte, Nat.reduceEqDiff, Nat.reduceAdd, Nat.zero_add, Nat.reduceMul, Nat.reduceLT, Nat.reduceLeDiff, Int.reduceLT, Int.reduceNeg, Int.reduceLE, appendP, appendAt, letGo, setLoc, locVal, Int.reduceToNat, boxCells, und, TG, o_R01_Sat, c1, c3, w, c2, e]
      · have w2 := wrap_i64 (n := a - b) ⟨by omega, by omega⟩
        simp (maxSteps := 5000000) only [SA, SB, SD, R, guardAt, binP, intP, indexAddrP, elemsOf, readCells, lenP, lenAt, resultsP, resultP, oneOr, reduceCtorEq, reduceIte, Nat.reduceEqDiff, Nat.reduceAdd, Nat.zero_add, Nat.reduceMul, Nat.reduceLT, Nat.reduceLeDiff, Int.reduceLT, Int.reduceNeg, Int.reduceLE, appendP, appendAt, letGo, setLoc, locVal, Int.reduceToNat, boxCells, und, TG, o_R01_Sat, c1, c3, w, c2, w2]
    · have w2 := wrap_i64 (n := a - b) ⟨by omega, by omega⟩
      simp (maxSteps := 5000000) only [SA, SB, SD, R, guardAt, binP, intP, indexAddrP, elemsOf, readCells, lenP, lenAt, resultsP, resultP, oneOr, reduceCtorEq, reduceIte, Nat.reduceEqDiff, Nat.reduceAdd, Nat.zero_add, Nat.reduceMul, Nat.reduceLT, Nat.reduceLeDiff, Int.reduceLT, Int.reduceNeg, Int.reduceLE, appendP, appendAt, letGo, setLoc, locVal, Int.reduceToNat, boxCells, und, TG, o_R01_Sat, c1, c3, w2]
theorem op_R01_Sub (a b : Int) (ha : inI a) (hb : inI b) (bx) : callOp CC (callL CC) 26 [.int .i64 a, .int .i64 b] bx = some (.ret (.int .i64 (satI (a - b))), bx) := callOp_of rfl (by simp only [SA, Bool.and_true]) (call_R01_Sub a b ha hb) rfl
def mulI (a b : Int) : Int := signedI (timesN a.natAbs b.natAbs) (!(decide (a < 0) == decide (b < 0)))
theorem call_num_Mul (a b : Int) (ha : inI a) (hb : inI b) : callL CC 19 [.int .i64 a, .int .i64 b] [] = some (.ret (.int .i64 (mulI a b)), []) := by
  rw [callL_enter (fn := Tryd.f19) (c := Tryd.f19.body.getD .skip) rfl fat_num_Mul rfl ok_num_Mul (Nat.le_of_ble_eq_true rfl)]
  obtain ⟨ev, eo, so, co, ⟨hev, hco⟩, R⟩ := RULES CC; rw [← hev]; have o_num_size := @op_num_size; rw [← hco] at o_num_size; have o_num_times := @op_num_times; rw [← hco] at o_num_times; have o_num_signed := @op_num_signed; rw [← hco] at o_num_signed
  have h1 := o_num_size a ha
  have h2 := o_num_size b hb
  unfold mulI
  simp only [fpart, part', Tryd.f19, Option.getD]
  simp (maxSteps := 5000000) only [SA, SB, SD, R, guardAt, binP, intP, indexAddrP, elemsOf, readCells, lenP, lenAt, resultsP, resultP, oneOr, reduceCtorEq, reduceIte, Nat.reduceEqDiff, Nat.reduceAdd, Nat.zero_add, Nat.reduceMul, Nat.reduceLT, Nat.reduceLeDiff, Int.reduceLT, Int.reduceNeg, Int.reduceLE, appendP, appendAt, letGo, setLoc, locVal, Int.reduceToNat, boxCells, und, TG, h1, h2, o_num_times, o_num_signed]
theorem op_num_Mul (a b : Int) (ha : inI a) (hb : inI b) (bx) : callOp CC (callL CC) 19 [.int .i64 a, .int .i64 b] bx = some (.ret (.int .i64 (mulI a b)), bx) := callOp_of rfl (by simp only [SA, Bool.and_true]) (call_num_Mul a b ha hb) rfl
theorem mul_big {x y : Nat} (neg : Bool) (h : 1099511627776 < x * y) : signedI (timesN x y) neg = if neg then -1099511627776 else 1099511627776 := by
  unfold timesN
  split
  · exact signed_big neg (by omega)
  · exact signed_big neg h
theorem div_big {x y : Nat} (hy : 0 < y) (h : x > 1099511627776 / y) : 1099511627776 < x * y := by
  apply Nat.lt_of_not_le
  intro hc
  have := (Nat.le_div_iff_mul_le hy).2 hc
  omega
theorem mul_small {x y : Nat} (neg : Bool) (h : x * y ≤ 1099511627776) : signedI (timesN x y) neg = if neg then -((x * y : Nat) : Int) else ((x * y : Nat) : Int) := by
  unfold timesN
  rw [if_neg (fun hc => by have := div_big (by omega) hc.2; omega)]
  unfold signedI
  rw [if_neg (by omega)]
theorem abs_sat {a : Int} (h1 : ¬ a > 1099511627776) (h2 : ¬ a < -1099511627776) : satI a = a := by unfold satI; rw [if_neg h1, if_neg h2]
theorem call_R01_Mul (a b : Int) (ha : inI a) (hb : inI b) : callL CC 20 [.int .i64 a, .int .i64 b] [] = some (.ret (.int .i64 (mulI a b)), []) := by
  rw [callL_enter (fn := Tryd.f20) (c := Tryd.f20.body.getD .skip) rfl fat_R01_Mul rfl ok_R01_Mul (Nat.le_of_ble_eq_true rfl)]
  have la := satI_le a
  have lb := satI_le b
  by_cases z1 : a = 0
  · have e : mulI a b = 0 := by
      subst z1
      unfold mulI
      rw [mul_small _ (by simp)]
      simp
    obtain ⟨ev, eo, so, co, ⟨hev, hco⟩, R⟩ := RULES CC; rw [← hev]
    simp only [fpart, part', Tryd.f20, Option.getD]
    simp (maxSteps := 5000000) only [SA, SB, SD, R, guardAt, binP, intP, indexAddrP, elemsOf, readCells, lenP, lenAt, resultsP, resultP, oneOr, reduceCtorEq, reduceIte, Nat.reduceEqDiff, Nat.reduceAdd, Nat.zero_add, Nat.reduceMul, Nat.reduceLT, Nat.reduceLeDiff, Int.reduceLT, Int.reduceNeg, Int.reduceLE, appendP, appendAt, letGo, setLoc, locVal, Int.reduceToNat, boxCells, und, TG, z1, Int.reduceBEq] at e ⊢
    rw [e]
  · by_cases z2 : b = 0
    · have e : mulI a b = 0 := by
        subst z2
        unfold mulI
        rw [mul_small _ (by simp)]
        simp
      have z1' : (a == 0) = false := by simpa using z1
      obtain ⟨ev, eo, so, co, ⟨hev, hco⟩, R⟩ := RULES CC; rw [← hev]
      simp only [fpart, part', Tryd.f20, Option.getD]
      rw [e]
      simp (maxSteps := 5000000) only [SA, SB, SD, R, guardAt, binP, intP, indexAddrP, elemsOf, readCells, lenP, lenAt, resultsP, resultP, oneOr, reduceCtorEq, reduceIte, Nat.reduceEqDiff, Nat.reduceAdd, Nat.zero_add, Nat.reduceMul, Nat.reduceLT, Nat.reduceLeDiff, Int.reduceLT, Int.reduceNeg, Int.reduceLE, appendP, appendAt, letGo, setLoc, locVal, Int.reduceToNat, boxCells, und, TG, z1', z2, Int.reduceBEq]
    · have z1' : (a == 0) = false := by simpa using z1
      have z2' : (b == 0) = false := by simpa using z2
      obtain ⟨ev, eo, so, co, ⟨hev, hco⟩, R⟩ := RULES CC; rw [← hev]; have o_R01_Sat := @op_R01_Sat; rw [← hco] at o_R01_Sat; have o_R01_abs := @op_R01_abs; rw [← hco] at o_R01_abs
      have s1 := o_R01_abs (satI a) ⟨by omega, by omega⟩
      have s2 := o_R01_abs (satI b) ⟨by omega, by omega⟩
      unfold mulI
      have big : 1099511627776 < a.natAbs * b.natAbs → signedI (timesN a.natAbs b.natAbs) (!(decide (a < 0) == decide (b < 0))) = if (!(decide (a < 0) == decide (b < 0))) then -1099511627776 else 1099511627776 := mul_big _
      have b1 : 1099511627776 < a.natAbs → 1099511627776 < a.natAbs * b.natAbs := fun h => Nat.lt_of_lt_of_le h (Nat.le_mul_of_pos_right _ (by omega))
      have b2 : 1099511627776 < b.natAbs → 1099511627776 < a.natAbs * b.natAbs := fun h => Nat.lt_of_lt_of_le h (Nat.le_mul_of_pos_left _ (by omega))
      have sm := fun (h : a.natAbs * b.natAbs ≤ 1099511627776) => mul_small (!(decide (a < 0) == decide (b < 0))) h
      simp only [fpart, part', Tryd.f20, Option.getD]
      generalize hneg : (!(decide (a < 0) == decide (b < 0))) = neg at *
      by_cases c1 : a > 1099511627776
      · rw [big (b1 (by omega))]
        cases neg <;> simp (maxSteps := 5000000) only [SA, SB, SD, R, guardAt, binP, intP, indexAddrP, elemsOf, readCells, lenP, lenAt, resultsP, resultP, oneOr, reduceCtorEq, reduceIte, Nat.reduceEqDiff, Nat.reduceAdd, Nat.zero_add, Nat.reduceMul, Nat.reduceLT, Nat.reduceLeDiff, Int.reduceLT, Int.reduceNeg, Int.reduceLE, appendP, appendAt, letGo, setLoc, locVal, Int.reduceToNat, boxCells, und, TG, z1', z2', o_R01_Sat, s1, s2, c1, hneg]
      · by_cases c2 : a < -1099511627776
        · rw [big (b1 (by omega))]
          cases neg <;> simp (maxSteps := 5000000) only [SA, SB, SD, R, guardAt, binP, intP, indexAddrP, elemsOf, readCells, lenP, lenAt, resultsP, resultP, oneOr, reduceCtorEq, reduceIte, Nat.reduceEqDiff, Nat.reduceAdd, Nat.zero_add, Nat.reduceMul, Nat.reduceLT, Nat.reduceLeDiff, Int.reduceLT, Int.reduceNeg, Int.reduceLE, appendP, appendAt, letGo, setLoc, locVal, Int.reduceToNat, boxCells, und, TG, z1', z2', o_R01_Sat, s1, s2, c1, c2, hneg]
        · by_cases c3 : b > 1099511627776
          · rw [big (b2 (by omega))]
            cases neg <;> simp (maxSteps := 5000000) only [SA, SB, SD, R, guardAt, binP, intP, indexAddrP, elemsOf, readCells, lenP, lenAt, resultsP, resultP, oneOr, reduceCtorEq, reduceIte, Nat.reduceEqDiff, Nat.reduceAdd, Nat.zero_add, Nat.reduceMul, Nat.reduceLT, Nat.reduceLeDiff, Int.reduceLT, Int.reduceNeg, Int.reduceLE, appendP, appendAt, letGo, setLoc, locVal, Int.reduceToNat, boxCells, und, TG, z1', z2', o_R01_Sat, s1, s2, c1, c2, c3, hneg]
          · by_cases c4 : b < -1099511627776
            · rw [big (b2 (by omega))]
              cases neg <;> simp (maxSteps := 5000000) only [SA, SB, SD, R, guardAt, binP, intP, indexAddrP, elemsOf, readCells, lenP, lenAt, resultsP, resultP, oneOr, reduceCtorEq, reduceIte, Nat.reduceEqDiff, Nat.reduceAdd, Nat.zero_add, Nat.reduceMul, Nat.reduceLT, Nat.reduceLeDiff, Int.reduceLT, Int.reduceNeg, Int.reduceLE, appendP, appendAt, letGo, setLoc, locVal, Int.reduceToNat, boxCells, und, TG, z1', z2', o_R01_Sat, s1, s2, c1, c2, c3, c4, hneg]
            · have e1 := abs_sat c1 c2
              have e2 := abs_sat c3 c4
              rw [e1] at s1
              rw [e2] at s2
              have hx : a.natAbs ≤ 1099511627776 := by omega
              have hy : b.natAbs ≤ 1099511627776 := by omega
              have hy0 : 0 < b.natAbs := by omega
              have dv := fun h => div_big (x := a.natAbs) hy0 h
              generalize a.natAbs = x at *
              generalize b.natAbs = y at *
              have hq : Int.tdiv 1099511627776 (y : Int) = ((1099511627776 / y : Nat) : Int) := by
                rw [show (1099511627776 : Int) = ((1099511627776 : Nat) : Int) from rfl, Int.ofNat_tdiv]
              have hq1 : 1099511627776 / y ≤ 1099511627776 := Nat.div_le_self _ _
              have hmu : ¬ x > 1099511627776 / y → x * y ≤ 1099511627776 := fun h => (Nat.le_div_iff_mul_le hy0).1 (by omega)
              have yn : ¬ (y : Int) = 0 := by omega
              generalize 1099511627776 / y = q at *
              have w := wrap_i64 (n := (q : Int)) ⟨by omega, by omega⟩
              by_cases c5 : x > q
              · have c5' : (x : Int) > (q : Int) := by omega
                rw [big (dv c5)]
                cases neg <;> simp (maxSteps := 5000000) only [SA, SB, SD, R, guardAt, binP, intP, indexAddrP, elemsOf, readCells, lenP, lenAt, resultsP, resultP, oneOr, reduceCtorEq, reduceIte, Nat.reduceEqDiff, Nat.reduceAdd, Nat.zero_add, Nat.reduceMul, Nat.reduceLT, Nat.reduceLeDiff, Int.reduceLT, Int.reduceNeg, Int.reduceLE, appendP, appendAt, letGo, setLoc, locVal, Int.reduceToNat, boxCells, und, TG, z1', z2', o_R01_Sat, e1, e2, s1, s2, c1, c2, c3, c4, c5', yn, hq, w, hneg]
              · have c5' : ¬ (x : Int) > (q : Int) := by omega
                have hxy := hmu c5
                rw [sm hxy]
                have p1 : (x : Int) * (y : Int) = ((x * y : Nat) : Int) := by push_cast; rfl
                have p2 : (0 - (x : Int)) * (y : Int) = -((x * y : Nat) : Int) := by push_cast; rw [Int.zero_sub, Int.neg_mul]
                have wn := wrap_i64 (n := 0 - (x : Int)) ⟨by omega, by omega⟩
                have w1 := wrap_i64 (n := ((x * y : Nat) : Int)) ⟨by omega, by omega⟩
                have w2 := wrap_i64 (n := -((x * y : Nat) : Int)) ⟨by omega, by omega⟩
                cases neg with
                | false => simp (maxSteps := 5000000) only [SA, SB, SD, R, guardAt, binP, intP, indexAddrP, elemsOf, readCells, lenP, lenAt, resultsP, resultP, oneOr, reduceCtorEq, reduceIte, Nat.reduceEqDiff, Nat.reduceAdd, Nat.zero_add, Nat.reduceMul, Nat.reduceLT, Nat.reduceLeDiff, Int.reduceLT, Int.reduceNeg, Int.reduceLE, appendP, appendAt, letGo, setLoc, locVal, Int.reduceToNat, boxCells, und, TG, z1', z2', o_R01_Sat, e1, e2, s1, s2, c1, c2, c3, c4, c5', yn, hq, w, hneg, p1, w1]
                | true => simp (maxSteps := 5000000) only [SA, SB, SD, R, guardAt, binP, intP, indexAddrP, elemsOf, readCells, lenP, lenAt, resultsP, resultP, oneOr, reduceCtorEq, reduceIte, Nat.reduceEqDiff, Nat.reduceAdd, Nat.zero_add, Nat.reduceMul, Nat.reduceLT, Nat.reduceLeDiff, Int.reduceLT, Int.reduceNeg, Int.reduceLE, appendP, appendAt, letGo, setLoc, locVal, Int.reduceToNat, boxCells, und, TG, unP, z1', z2', o_R01_Sat, e1, e2, s1, s2, c1, c2, c3, c4, c5', yn, hq, w, hneg, wn, p2, w2]
theorem op_R01_Mul (a b : Int) (ha : inI a) (hb : inI b) (bx) : callOp CC (callL CC) 20 [.int .i64 a, .int .i64 b] bx = some (.ret (.int .i64 (mulI a b)), bx) := callOp_of rfl (by simp only [SA, Bool.and_true]) (call_R01_Mul a b ha hb) rfl
def clampI (n lo hi : Int) : Int := if hi < lo ∨ n > hi then hi else if n < lo then lo else n
theorem call_num_Clamp (n lo hi : Int) : callL CC 27 [.int .i64 n, .int .i64 lo, .int .i64 hi] [] = some (.ret (.int .i64 (clampI n lo hi)), []) := by
  rw [callL_enter (fn := Tryd.f27) (c := Tryd.f27.body.getD .skip) rfl fat_num_Clamp rfl ok_num_Clamp (Nat.le_of_ble_eq_true rfl)]
  obtain ⟨ev, eo, so, co, ⟨hev, hco⟩, R⟩ := RULES CC; rw [← hev]
  unfold clampI
  simp only [fpart, part', Tryd.f27, Option.getD]
  by_cases c1 : hi < lo
  · simp (maxSteps := 5000000) only [SA, SB, SD, R, guardAt, binP, intP, indexAddrP, elemsOf, readCells, lenP, lenAt, resultsP, resultP, oneOr, reduceCtorEq, reduceIte, Nat.reduceEqDiff, Nat.reduceAdd, Nat.zero_add, Nat.reduceMul, Nat.reduceLT, Nat.reduceLeDiff, Int.reduceLT, Int.reduceNeg, Int.reduceLE, appendP, appendAt, letGo, setLoc, locVal, Int.reduceToNat, boxCells, und, TG, c1]
  · by_cases c2 : n > hi
    · simp (maxSteps := 5000000) only [SA, SB, SD, R, guardAt, binP, intP, indexAddrP, elemsOf, readCells, lenP, lenAt, resultsP, resultP, oneOr, reduceCtorEq, reduceIte, Nat.reduceEqDiff, Nat.reduceAdd, Nat.zero_add, Nat.reduceMul, Nat.reduceLT, Nat.reduceLeDiff, Int.reduceLT, Int.reduceNeg, Int.reduceLE, appendP, appendAt, letGo, setLoc, locVal, Int.reduceToNat, boxCells, und, TG, c1, c2]
    · by_cases c3 : n < lo
      · simp (maxSteps := 5000000) only [SA, SB, SD, R, guardAt, binP, intP, indexAddrP, elemsOf, readCells, lenP, lenAt, resultsP, resultP, oneOr, reduceCtorEq, reduceIte, Nat.reduceEqDiff, Nat.reduceAdd, Nat.zero_add, Nat.reduceMul, Nat.reduceLT, Nat.reduceLeDiff, Int.reduceLT, Int.reduceNeg, Int.reduceLE, appendP, appendAt, letGo, setLoc, locVal, Int.reduceToNat, boxCells, und, TG, c1, c2, c3]
      · simp (maxSteps := 5000000) only [SA, SB, SD, R, guardAt, binP, intP, indexAddrP, elemsOf, readCells, lenP, lenAt, resultsP, resultP, oneOr, reduceCtorEq, reduceIte, Nat.reduceEqDiff, Nat.reduceAdd, Nat.zero_add, Nat.reduceMul, Nat.reduceLT, Nat.reduceLeDiff, Int.reduceLT, Int.reduceNeg, Int.reduceLE, appendP, appendAt, letGo, setLoc, locVal, Int.reduceToNat, boxCells, und, TG, c1, c2, c3]
theorem op_num_Clamp (n lo hi : Int) (bx) : callOp CC (callL CC) 27 [.int .i64 n, .int .i64 lo, .int .i64 hi] bx = some (.ret (.int .i64 (clampI n lo hi)), bx) := callOp_of rfl (by simp only [SA, Bool.and_true]) (call_num_Clamp n lo hi) rfl
theorem call_R01_Clamp (n lo hi : Int) : callL CC 28 [.int .i64 n, .int .i64 lo, .int .i64 hi] [] = some (.ret (.int .i64 (clampI n lo hi)), []) := by
  rw [callL_enter (fn := Tryd.f28) (c := Tryd.f28.body.getD .skip) rfl fat_R01_Clamp rfl ok_R01_Clamp (Nat.le_of_ble_eq_true rfl)]
  obtain ⟨ev, eo, so, co, ⟨hev, hco⟩, R⟩ := RULES CC; rw [← hev]
  unfold clampI
  simp only [fpart, part', Tryd.f28, Option.getD]
  by_cases c1 : hi < lo
  · simp (maxSteps := 5000000) only [SA, SB, SD, R, guardAt, binP, intP, indexAddrP, elemsOf, readCells, lenP, lenAt, resultsP, resultP, oneOr, reduceCtorEq, reduceIte, Nat.reduceEqDiff, Nat.reduceAdd, Nat.zero_add, Nat.reduceMul, Nat.reduceLT, Nat.reduceLeDiff, Int.reduceLT, Int.reduceNeg, Int.reduceLE, appendP, appendAt, letGo, setLoc, locVal, Int.reduceToNat, boxCells, und, TG, c1]
  · by_cases c2 : n > hi
    · simp (maxSteps := 5000000) only [SA, SB, SD, R, guardAt, binP, intP, indexAddrP, elemsOf, readCells, lenP, lenAt, resultsP, resultP, oneOr, reduceCtorEq, reduceIte, Nat.reduceEqDiff, Nat.reduceAdd, Nat.zero_add, Nat.reduceMul, Nat.reduceLT, Nat.reduceLeDiff, Int.reduceLT, Int.reduceNeg, Int.reduceLE, appendP, appendAt, letGo, setLoc, locVal, Int.reduceToNat, boxCells, und, TG, c1, c2]
    · by_cases c3 : n < lo
      · simp (maxSteps := 5000000) only [SA, SB, SD, R, guardAt, binP, intP, indexAddrP, elemsOf, readCells, lenP, lenAt, resultsP, resultP, oneOr, reduceCtorEq, reduceIte, Nat.reduceEqDiff, Nat.reduceAdd, Nat.zero_add, Nat.reduceMul, Nat.reduceLT, Nat.reduceLeDiff, Int.reduceLT, Int.reduceNeg, Int.reduceLE, appendP, appendAt, letGo, setLoc, locVal, Int.reduceToNat, boxCells, und, TG, c1, c2, c3]
      · simp (maxSteps := 5000000) only [SA, SB, SD, R, guardAt, binP, intP, indexAddrP, elemsOf, readCells, lenP, lenAt, resultsP, resultP, oneOr, reduceCtorEq, reduceIte, Nat.reduceEqDiff, Nat.reduceAdd, Nat.zero_add, Nat.reduceMul, Nat.reduceLT, Nat.reduceLeDiff, Int.reduceLT, Int.reduceNeg, Int.reduceLE, appendP, appendAt, letGo, setLoc, locVal, Int.reduceToNat, boxCells, und, TG, c1, c2, c3]
theorem op_R01_Clamp (n lo hi : Int) (bx) : callOp CC (callL CC) 28 [.int .i64 n, .int .i64 lo, .int .i64 hi] bx = some (.ret (.int .i64 (clampI n lo hi)), bx) := callOp_of rfl (by simp only [SA, Bool.and_true]) (call_R01_Clamp n lo hi) rfl
/-- the quotient of two limited numbers, rounded down -/
def flo (x y : Int) : Int := if x.tmod y ≠ 0 ∧ ((x < 0) ≠ (y < 0)) then x.tdiv y - 1 else x.tdiv y
def cei (x y : Int) : Int := if x.tmod y ≠ 0 ∧ ((x < 0) = (y < 0)) then x.tdiv y + 1 else x.tdiv y
def floorI (a b : Int) : Int := if satI b = 0 then 0 else flo (satI a) (satI b)
def ceilI (a b : Int) : Int := if satI b = 0 then 0 else cei (satI a) (satI b)
theorem tdiv_le (x y : Int) (h : -1099511627776 ≤ x ∧ x ≤ 1099511627776) : -1099511627776 ≤ x.tdiv y ∧ x.tdiv y ≤ 1099511627776 := by
  have : (x.tdiv y).natAbs ≤ x.natAbs := by rw [Int.natAbs_tdiv]; exact Nat.div_le_self _ _
  omega
theorem call_num_Floor (a b : Int) : callL CC 29 [.int .i64 a, .int .i64 b] [] = some (.ret (.int .i64 (floorI a b)), []) := by
  rw [callL_enter (fn := Tryd.f29) (c := Tryd.f29.body.getD .skip) rfl fat_num_Floor rfl ok_num_Floor (Nat.le_of_ble_eq_true rfl)]
  obtain ⟨ev, eo, so, co, ⟨hev, hco⟩, R⟩ := RULES CC; rw [← hev]; have o_num_Sat := @op_num_Sat; rw [← hco] at o_num_Sat
  have lx := satI_le a
  have ly := satI_le b
  unfold floorI flo
  generalize hsa : satI a = x at *
  generalize hsb : satI b = y at *
  have ht := tdiv_le x y lx
  have w := wrap_i64 (n := x.tdiv y) ⟨by omega, by omega⟩
  have w2 := wrap_i64 (n := x.tdiv y - 1) ⟨by omega, by omega⟩
  simp only [fpart, part', Tryd.f29, Option.getD]
  by_cases c1 : y = 0
  · simp (maxSteps := 5000000) only [SA, SB, SD, R, guardAt, binP, intP, indexAddrP, elemsOf, readCells, lenP, lenAt, resultsP, resultP, oneOr, reduceCtorEq, reduceIte, Nat.reduceEqDiff, Nat.reduceAdd, Nat.zero_add, Nat.reduceMul, Nat.reduceLT, Nat.reduceLeDiff, Int.reduceLT, Int.reduceNeg, Int.reduceLE, appendP, appendAt, letGo, setLoc, locVal, Int.reduceToNat, boxCells, und, TG, o_num_Sat, hsa, hsb, c1, Int.reduceBEq]
  · have c1' : (y == 0) = false := by simpa using c1
    by_cases c2 : x.tmod y = 0
    · simp (maxSteps := 5000000) only [SA, SB, SD, R, guardAt, binP, intP, indexAddrP, elemsOf, readCells, lenP, lenAt, resultsP, resultP, oneOr, reduceCtorEq, reduceIte, Nat.reduceEqDiff, Nat.reduceAdd, Nat.zero_add, Nat.reduceMul, Nat.reduceLT, Nat.reduceLeDiff, Int.reduceLT, Int.reduceNeg, Int.reduceLE, appendP, appendAt, letGo, setLoc, locVal, Int.reduceToNat, boxCells, und, TG, o_num_Sat, hsa, hsb, c1, c1', c2, w, Int.reduceBNe, false_and]
    · have c2' : (x.tmod y != 0) = true := by simpa using c2
      by_cases c3 : x < 0
      · by_cases c4 : y < 0
        · simp (maxSteps := 5000000) only [SA, SB, SD, R, guardAt, binP, intP, indexAddrP, elemsOf, readCells, lenP, lenAt, resultsP, resultP, oneOr, reduceCtorEq, reduceIte, Nat.reduceEqDiff, Nat.reduceAdd, Nat.zero_add, Nat.reduceMul, Nat.reduceLT, Nat.reduceLeDiff, Int.reduceLT, Int.reduceNeg, Int.reduceLE, appendP, appendAt, letGo, setLoc, locVal, Int.reduceToNat, boxCells, und, TG, o_num_Sat, hsa, hsb, c1, c1', c2, c2', c3, c4, w]
        · simp (maxSteps := 5000000) only [SA, SB, SD, R, guardAt, binP, intP, indexAddrP, elemsOf, readCells, lenP, lenAt, resultsP, resultP, oneOr, reduceCtorEq, reduceIte, Nat.reduceEqDiff, Nat.reduceAdd, Nat.zero_add, Nat.reduceMul, Nat.reduceLT, Nat.reduceLeDiff, Int.reduceLT, Int.reduceNeg, Int.reduceLE, appendP, appendAt, letGo, setLoc, locVal, Int.reduceToNat, boxCells, und, TG, o_num_Sat, hsa, hsb, c1, c1', c2, c2', c3, c4, w, w2, eq_iff_iff, true_iff, not_false_eq_true]
      · by_cases c4 : y < 0
        · simp (maxSteps := 5000000) only [SA, SB, SD, R, guardAt, binP, intP, indexAddrP, elemsOf, readCells, lenP, lenAt, resultsP, resultP, oneOr, reduceCtorEq, reduceIte, Nat.reduceEqDiff, Nat.reduceAdd, Nat.zero_add, Nat.reduceMul, Nat.reduceLT, Nat.reduceLeDiff, Int.reduceLT, Int.reduceNeg, Int.reduceLE, appendP, appendAt, letGo, setLoc, locVal, Int.reduceToNat, boxCells, und, TG, o_num_Sat, hsa, hsb, c1, c1', c2, c2', c3, c4, w, w2, eq_iff_iff, iff_true, not_false_eq_true]
        · simp (maxSteps := 5000000) only [SA, SB, SD, R, guardAt, binP, intP, indexAddrP, elemsOf, readCells, lenP, lenAt, resultsP, resultP, oneOr, reduceCtorEq, reduceIte, Nat.reduceEqDiff, Nat.reduceAdd, Nat.zero_add, Nat.reduceMul, Nat.reduceLT, Nat.reduceLeDiff, Int.reduceLT, Int.reduceNeg, Int.reduceLE, appendP, appendAt, letGo, setLoc, locVal, Int.reduceToNat, boxCells, und, TG, o_num_Sat, hsa, hsb, c1, c1', c2, c2', c3, c4, w]
theorem op_num_Floor (a b : Int) (bx) : callOp CC (callL CC) 29 [.int .i64 a, .int .i64 b] bx = some (.ret (.int .i64 (floorI a b)), bx) := callOp_of rfl (by simp only [SA, Bool.and_true]) (call_num_Floor a b) rfl
theorem call_R01_Floor (a b : Int) : callL CC 30 [.int .i64 a, .int .i64 b] [] = some (.ret (.int .i64 (floorI a b)), []) := by
  rw [callL_enter (fn := Tryd.f30) (c := Tryd.f30.body.getD .skip) rfl fat_R01_Floor rfl ok_R01_Floor (Nat.le_of_ble_eq_true rfl)]
  obtain ⟨ev, eo, so, co, ⟨hev, hco⟩, R⟩ := RULES CC; rw [← hev]; have o_R01_Sat := @op_R01_Sat; rw [← hco] at o_R01_Sat
  have lx := satI_le a
  have ly := satI_le b
  unfold floorI flo
  generalize hsa : satI a = x at *
  generalize hsb : satI b = y at *
  have ht := tdiv_le x y lx
  have w := wrap_i64 (n := x.tdiv y) ⟨by omega, by omega⟩
  have w2 := wrap_i64 (n := x.tdiv y - 1) ⟨by omega, by omega⟩
  simp only [fpart, part', Tryd.f30, Option.getD]
  by_cases c1 : y = 0
  · simp (maxSteps := 5000000) only [SA, SB, SD, R, guardAt, binP, intP, indexAddrP, elemsOf, readCells, lenP, lenAt, resultsP, resultP, oneOr, reduceCtorEq, reduceIte, Nat.reduceEqDiff, Nat.reduceAdd, Nat.zero_add, Nat.reduceMul, Nat.reduceLT, Nat.reduceLeDiff, Int.reduceLT, Int.reduceNeg, Int.reduceLE, appendP, appendAt, letGo, setLoc, locVal, Int.reduceToNat, boxCells, und, TG, o_R01_Sat, hsa, hsb, c1, Int.reduceBEq]
  · have c1' : (y == 0) = false := by simpa using c1
    by_cases c2 : x.tmod y = 0
    · simp (maxSteps := 5000000) only [SA, SB, SD, R, guardAt, binP, intP, indexAddrP, elemsOf, readCells, lenP, lenAt, resultsP, resultP, oneOr, reduceCtorEq, reduceIte, Nat.reduceEqDiff, Nat.reduceAdd, Nat.zero_add, Nat.reduceMul, Nat.reduceLT, Nat.reduceLeDiff, Int.reduceLT, Int.reduceNeg, Int.reduceLE, appendP, appendAt, letGo, setLoc, locVal, Int.reduceToNat, boxCells, und, TG, o_R01_Sat, hsa, hsb, c1, c1', c2, w, Int.reduceBNe, false_and]
    · have c2' : (x.tmod y != 0) = true := by simpa using c2
      by_cases c3 : x < 0
      · by_cases c4 : y < 0
        · simp (maxSteps := 5000000) only [SA, SB, SD, R, guardAt, binP, intP, indexAddrP, elemsOf, readCells, lenP, lenAt, resultsP, resultP, oneOr, reduceCtorEq, reduceIte, Nat.reduceEqDiff, Nat.reduceAdd, Nat.zero_add, Nat.reduceMul, Nat.reduceLT, Nat.reduceLeDiff, Int.reduceLT, Int.reduceNeg, Int.reduceLE, appendP, appendAt, letGo, setLoc, locVal, Int.reduceToNat, boxCells, und, TG, o_R01_Sat, hsa, hsb, c1, c1', c2, c2', c3, c4, w]
        · simp (maxSteps := 5000000) only [SA, SB, SD, R, guardAt, binP, intP, indexAddrP, elemsOf, readCells, lenP, lenAt, resultsP, resultP, oneOr, reduceCtorEq, reduceIte, Nat.reduceEqDiff, Nat.reduceAdd, Nat.zero_add, Nat.reduceMul, Nat.reduceLT, Nat.reduceLeDiff, Int.reduceLT, Int.reduceNeg, Int.reduceLE, appendP, appendAt, letGo, setLoc, locVal, Int.reduceToNat, boxCells, und, TG, o_R01_Sat, hsa, hsb, c1, c1', c2, c2', c3, c4, w, w2, eq_iff_iff, true_iff, not_false_eq_true]
      · by_cases c4 : y < 0
        · simp (maxSteps := 5000000) only [SA, SB, SD, R, guardAt, binP, intP, indexAddrP, elemsOf, readCells, lenP, lenAt, resultsP, resultP, oneOr, reduceCtorEq, reduceIte, Nat.reduceEqDiff, Nat.reduceAdd, Nat.zero_add, Nat.reduceMul, Nat.reduceLT, Nat.reduceLeDiff, Int.reduceLT, Int.reduceNeg, Int.reduceLE, appendP, appendAt, letGo, setLoc, locVal, Int.reduceToNat, boxCells, und, TG, o_R01_Sat, hsa, hsb, c1, c1', c2, c2', c3, c4, w, w2, eq_iff_iff, iff_true, not_false_eq_true]
        · simp (maxSteps := 5000000) only [SA, SB, SD, R, guardAt, binP, intP, indexAddrP, elemsOf, readCells, lenP, lenAt, resultsP, resultP, oneOr, reduceCtorEq, reduceIte, Nat.reduceEqDiff, Nat.reduceAdd, Nat.zero_add, Nat.reduceMul, Nat.reduceLT, Nat.reduceLeDiff, Int.reduceLT, Int.reduceNeg, Int.reduceLE, appendP, appendAt, letGo, setLoc, locVal, Int.reduceToNat, boxCells, und, TG, o_R01_Sat, hsa, hsb, c1, c1', c2, c2', c3, c4, w]
theorem op_R01_Floor (a b : Int) (bx) : callOp CC (callL CC) 30 [.int .i64 a, .int .i64 b] bx = some (.ret (.int .i64 (floorI a b)), bx) := callOp_of rfl (by simp only [SA, Bool.and_true]) (call_R01_Floor a b) rfl
theorem call_num_Ceil (a b : Int) : callL CC 31 [.int .i64 a, .int .i64 b] [] = some (.ret (.int .i64 (ceilI a b)), []) := by
  rw [callL_enter (fn := Tryd.f31) (c := Tryd.f31.body.getD .skip) rfl fat_num_Ceil rfl ok_num_Ceil (Nat.le_of_ble_eq_true rfl)]
  obtain ⟨ev, eo, so, co, ⟨hev, hco⟩, R⟩ := RULES CC; rw [← hev]; have o_num_Sat := @op_num_Sat; rw [← hco] at o_num_Sat
  have lx := satI_le a
  have ly := satI_le b
  unfold ceilI cei
  generalize hsa : satI a = x at *
  generalize hsb : satI b = y at *
  have ht := tdiv_le x y lx
  have w := wrap_i64 (n := x.tdiv y) ⟨by omega, by omega⟩
  have w2 := wrap_i64 (n := x.tdiv y + 1) ⟨by omega, by omega⟩
  simp only [fpart, part', Tryd.f31, Option.getD]
  by_cases c1 : y = 0
  · simp (maxSteps := 5000000) only [SA, SB, SD, R, guardAt, binP, intP, indexAddrP, elemsOf, readCells, lenP, lenAt, resultsP, resultP, oneOr, reduceCtorEq, reduceIte, Nat.reduceEqDiff, Nat.reduceAdd, Nat.zero_add, Nat.reduceMul, Nat.reduceLT, Nat.reduceLeDiff, Int.reduceLT, Int.reduceNeg, Int.reduceLE, appendP, appendAt, letGo, setLoc, locVal, Int.reduceToNat, boxCells, und, TG, o_num_Sat, hsa, hsb, c1, Int.reduceBEq]
  · have c1' : (y == 0) = false := by simpa using c1
    by_cases c2 : x.tmod y = 0
    · simp (maxSteps := 5000000) only [SA, SB, SD, R, guardAt, binP, intP, indexAddrP, elemsOf, readCells, lenP, lenAt, resultsP, resultP, oneOr, reduceCtorEq, reduceIte, Nat.reduceEqDiff, Nat.reduceAdd, Nat.zero_add, Nat.reduceMul, Nat.reduceLT, Nat.reduceLeDiff, Int.reduceLT, Int.reduceNeg, Int.reduceLE, appendP, appendAt, letGo, setLoc, locVal, Int.reduceToNat, boxCells, und, TG, o_num_Sat, hsa, hsb, c1, c1', c2, w, Int.reduceBNe, false_and]
    · have c2' : (x.tmod y != 0) = true := by simpa using c2
      by_cases c3 : x < 0
      · by_cases c4 : y < 0
        · simp (maxSteps := 5000000) only [SA, SB, SD, R, guardAt, binP, intP, indexAddrP, elemsOf, readCells, lenP, lenAt, resultsP, resultP, oneOr, reduceCtorEq, reduceIte, Nat.reduceEqDiff, Nat.reduceAdd, Nat.zero_add, Nat.reduceMul, Nat.reduceLT, Nat.reduceLeDiff, Int.reduceLT, Int.reduceNeg, Int.reduceLE, appendP, appendAt, letGo, setLoc, locVal, Int.reduceToNat, boxCells, und, TG, o_num_Sat, hsa, hsb, c1, c1', c2, c2', c3, c4, w, w2]
        · simp (maxSteps := 5000000) only [SA, SB, SD, R, guardAt, binP, intP, indexAddrP, elemsOf, readCells, lenP, lenAt, resultsP, resultP, oneOr, reduceCtorEq, reduceIte, Nat.reduceEqDiff, Nat.reduceAdd, Nat.zero_add, Nat.reduceMul, Nat.reduceLT, Nat.reduceLeDiff, Int.reduceLT, Int.reduceNeg, Int.reduceLE, appendP, appendAt, letGo, setLoc, locVal, Int.reduceToNat, boxCells, und, TG, o_num_Sat, hsa, hsb, c1, c1', c2, c2', c3, c4, w, eq_iff_iff, true_iff, and_false]
      · by_cases c4 : y < 0
        · simp (maxSteps := 5000000) only [SA, SB, SD, R, guardAt, binP, intP, indexAddrP, elemsOf, readCells, lenP, lenAt, resultsP, resultP, oneOr, reduceCtorEq, reduceIte, Nat.reduceEqDiff, Nat.reduceAdd, Nat.zero_add, Nat.reduceMul, Nat.reduceLT, Nat.reduceLeDiff, Int.reduceLT, Int.reduceNeg, Int.reduceLE, appendP, appendAt, letGo, setLoc, locVal, Int.reduceToNat, boxCells, und, TG, o_num_Sat, hsa, hsb, c1, c1', c2, c2', c3, c4, w, eq_iff_iff, iff_true, and_false]
        · simp (maxSteps := 5000000) only [SA, SB, SD, R, guardAt, binP, intP, indexAddrP, elemsOf, readCells, lenP, lenAt, resultsP, resultP, oneOr, reduceCtorEq, reduceIte, Nat.reduceEqDiff, Nat.reduceAdd, Nat.zero_add, Nat.reduceMul, Nat.reduceLT, Nat.reduceLeDiff, Int.reduceLT, Int.reduceNeg, Int.reduceLE, appendP, appendAt, letGo, setLoc, locVal, Int.reduceToNat, boxCells, und, TG, o_num_Sat, hsa, hsb, c1, c1', c2, c2', c3, c4, w, w2]
theorem op_num_Ceil (a b : Int) (bx) : callOp CC (callL CC) 31 [.int .i64 a, .int .i64 b] bx = some (.ret (.int .i64 (ceilI a b)), bx) := callOp_of rfl (by simp only [SA, Bool.and_true]) (call_num_Ceil a b) rfl
theorem sat_neg (a : Int) : satI (-satI a) = -satI a := by unfold satI; split <;> (try split) <;> (try split) <;> (try split) <;> omega
theorem cei_flo (x y : Int) : cei x y = -flo (-x) y := by
  unfold cei flo
  rw [Int.neg_tmod, Int.neg_tdiv]
  by_cases c2 : x.tmod y = 0
  · rw [if_neg (fun h => h.1 c2), if_neg (fun h => h.1 (by omega))]
    omega
  · have hx : x ≠ 0 := fun h => c2 (by rw [h]; simp)
    by_cases c3 : x < 0
    · by_cases c4 : y < 0
      · rw [if_pos ⟨c2, by simp [c3, c4]⟩, if_pos ⟨by omega, by simp [c4]; omega⟩]; omega
      · rw [if_neg (fun h => by simp [c3, c4] at h), if_neg (fun h => h.2 (by simp [c4]; omega))]; omega
    · by_cases c4 : y < 0
      · rw [if_neg (fun h => by simp [c3, c4] at h), if_neg (fun h => h.2 (by simp [c4]; omega))]; omega
      · rw [if_pos ⟨c2, by simp [c3, c4]⟩, if_pos ⟨by omega, by simp [c4]; omega⟩]; omega
theorem ceil_floor (a b : Int) : ceilI a b = -floorI (-satI a) b := by
  unfold ceilI floorI
  rw [sat_neg]
  split
  · rfl
  · exact cei_flo _ _
theorem flo_le (x y : Int) (h : -1099511627776 ≤ x ∧ x ≤ 1099511627776) : -1099511627777 ≤ flo x y ∧ flo x y ≤ 1099511627776 := by
  have := tdiv_le x y h
  unfold flo
  split <;> omega
theorem floorI_le (a b : Int) : -1099511627777 ≤ floorI a b ∧ floorI a b ≤ 1099511627776 := by
  unfold floorI
  split
  · omega
  · exact flo_le _ _ (satI_le a)
theorem call_R01_Ceil (a b : Int) : callL CC 32 [.int .i64 a, .int .i64 b] [] = some (.ret (.int .i64 (ceilI a b)), []) := by
  rw [callL_enter (fn := Tryd.f32) (c := Tryd.f32.body.getD .skip) rfl fat_R01_Ceil rfl ok_R01_Ceil (Nat.le_of_ble_eq_true rfl)]
  rw [ceil_floor]
  obtain ⟨ev, eo, so, co, ⟨hev, hco⟩, R⟩ := RULES CC; rw [← hev]; have o_R01_Sat := @op_R01_Sat; rw [← hco] at o_R01_Sat; have o_R01_Floor := @op_R01_Floor; rw [← hco] at o_R01_Floor
  have lx := satI_le a
  have lf := floorI_le (-satI a) b
  have w := wrap_i64 (n := -satI a) ⟨by omega, by omega⟩
  have w2 := wrap_i64 (n := -floorI (-satI a) b) ⟨by omega, by omega⟩
  simp only [fpart, part', Tryd.f32, Option.getD]
  simp (maxSteps := 5000000) only [SA, SB, SD, R, guardAt, binP, intP, indexAddrP, elemsOf, readCells, lenP, lenAt, resultsP, resultP, oneOr, reduceCtorEq, reduceIte, Nat.reduceEqDiff, Nat.reduceAdd, Nat.zero_add, Nat.reduceMul, Nat.reduceLT, Nat.reduceLeDiff, Int.reduceLT, Int.reduceNeg, Int.reduceLE, appendP, appendAt, letGo, setLoc, locVal, Int.reduceToNat, boxCells, und, TG, unP, Int.zero_sub, o_R01_Sat, o_R01_Floor, w, w2]
theorem op_R01_Ceil (a b : Int) (bx) : callOp CC (callL CC) 32 [.int .i64 a, .int .i64 b] bx = some (.ret (.int .i64 (ceilI a b)), bx) := callOp_of rfl (by simp only [SA, Bool.and_true]) (call_R01_Ceil a b) rfl
end Go.HH
