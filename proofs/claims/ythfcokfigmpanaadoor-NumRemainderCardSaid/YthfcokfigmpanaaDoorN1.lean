/-
  Numbers: the small functions of the layer, and the exact scale, as plain functions.
-/
import Derived.Test.YthfcokfigmpanaaDoorC0
import Derived.Test.YthfcokfigmpanaaDoorN0
namespace Go.HH
open Go Go.Proofs
set_option maxRecDepth 100000
set_option linter.unusedSimpArgs false
set_option linter.unusedVariables false
def satI (n : Int) : Int := if n > 1099511627776 then 1099511627776 else if n < -1099511627776 then -1099511627776 else n
theorem satI_le (n : Int) : -1099511627776 ≤ satI n ∧ satI n ≤ 1099511627776 := by unfold satI; split <;> (try split) <;> omega
theorem ok_num_Sat : fnOK CC Tryd.f21 (Tryd.f21.body.getD .skip) = true := by kernel_rfl
theorem fat_num_Sat : CC.P.funcs[21]? = some Tryd.f21 := by kernel_rfl
theorem ok_R01_Sat : fnOK CC Tryd.f22 (Tryd.f22.body.getD .skip) = true := by kernel_rfl
theorem fat_R01_Sat : CC.P.funcs[22]? = some Tryd.f22 := by kernel_rfl
theorem ok_num_limit : fnOK CC Tryd.f39 (Tryd.f39.body.getD .skip) = true := by kernel_rfl
theorem fat_num_limit : CC.P.funcs[39]? = some Tryd.f39 := by kernel_rfl
theorem ok_num_size : fnOK CC Tryd.f34 (Tryd.f34.body.getD .skip) = true := by kernel_rfl
theorem fat_num_size : CC.P.funcs[34]? = some Tryd.f34 := by kernel_rfl
theorem ok_num_times : fnOK CC Tryd.f33 (Tryd.f33.body.getD .skip) = true := by kernel_rfl
theorem fat_num_times : CC.P.funcs[33]? = some Tryd.f33 := by kernel_rfl
theorem ok_num_divide : fnOK CC Tryd.f35 (Tryd.f35.body.getD .skip) = true := by kernel_rfl
theorem fat_num_divide : CC.P.funcs[35]? = some Tryd.f35 := by kernel_rfl
theorem ok_num_signed : fnOK CC Tryd.f36 (Tryd.f36.body.getD .skip) = true := by kernel_rfl
theorem fat_num_signed : CC.P.funcs[36]? = some Tryd.f36 := by kernel_rfl
theorem ok_num_Scale : fnOK CC Tryd.f12 (Tryd.f12.body.getD .skip) = true := by kernel_rfl
theorem fat_num_Scale : CC.P.funcs[12]? = some Tryd.f12 := by kernel_rfl
theorem ok_R01_abs : fnOK CC Tryd.f37 (Tryd.f37.body.getD .skip) = true := by kernel_rfl
theorem fat_R01_abs : CC.P.funcs[37]? = some Tryd.f37 := by kernel_rfl
theorem ok_R01_Scale : fnOK CC Tryd.f13 (Tryd.f13.body.getD .skip) = true := by kernel_rfl
theorem fat_R01_Scale : CC.P.funcs[13]? = some Tryd.f13 := by kernel_rfl
theorem ok_R01_Add : fnOK CC Tryd.f24 (Tryd.f24.body.getD .skip) = true := by kernel_rfl
theorem fat_R01_Add : CC.P.funcs[24]? = some Tryd.f24 := by kernel_rfl
theorem call_num_Sat (n : Int) : callL CC 21 [.int .i64 n] [] = some (.ret (.int .i64 (satI n)), []) := by
  rw [callL_enter (fn := Tryd.f21) (c := Tryd.f21.body.getD .skip) rfl fat_num_Sat rfl ok_num_Sat (Nat.le_of_ble_eq_true rfl)]
  obtain ⟨ev, eo, so, co, ⟨hev, hco⟩, R⟩ := RULES CC; rw [← hev]
  simp only [fpart, part', Tryd.f21, Option.getD]
  have h : min (max n (-1099511627776)) 1099511627776 = satI n := by
    unfold satI
    rw [Int.min_def, Int.max_def]
    split <;> split <;> (try split) <;> omega
  generalize (-1099511627776 : Int) = lo at *
  generalize (1099511627776 : Int) = hi at *
  simp (maxSteps := 5000000) only [SA, SB, SD, R, guardAt, binP, intP, indexAddrP, elemsOf, readCells, lenP, lenAt, resultsP, resultP, oneOr, reduceCtorEq, reduceIte, Nat.reduceEqDiff, Nat.reduceAdd, Nat.zero_add, Nat.reduceMul, Nat.reduceLT, Nat.reduceLeDiff, Int.reduceLT, Int.reduceNeg, Int.reduceLE, appendP, appendAt, letGo, setLoc, locVal, Int.reduceToNat, boxCells, und, TG]
  rw [maxP2]
  generalize max n lo = m at *
  simp (maxSteps := 5000000) only [SA, SB, SD, R, guardAt, binP, intP, indexAddrP, elemsOf, readCells, lenP, lenAt, resultsP, resultP, oneOr, reduceCtorEq, reduceIte, Nat.reduceEqDiff, Nat.reduceAdd, Nat.zero_add, Nat.reduceMul, Nat.reduceLT, Nat.reduceLeDiff, Int.reduceLT, Int.reduceNeg, Int.reduceLE, appendP, appendAt, letGo, setLoc, locVal, Int.reduceToNat, boxCells, und, TG]
  rw [minP2, h]
  simp (maxSteps := 5000000) only [SA, SB, SD, R, guardAt, binP, intP, indexAddrP, elemsOf, readCells, lenP, lenAt, resultsP, resultP, oneOr, reduceCtorEq, reduceIte, Nat.reduceEqDiff, Nat.reduceAdd, Nat.zero_add, Nat.reduceMul, Nat.reduceLT, Nat.reduceLeDiff, Int.reduceLT, Int.reduceNeg, Int.reduceLE, appendP, appendAt, letGo, setLoc, locVal, Int.reduceToNat, boxCells, und, TG]
theorem op_num_Sat (n : Int) (bx) : callOp CC (callL CC) 21 [.int .i64 n] bx = some (.ret (.int .i64 (satI n)), bx) := callOp_of rfl (by simp only [SA, Bool.and_true]) (call_num_Sat n) rfl
theorem call_R01_Sat (n : Int) : callL CC 22 [.int .i64 n] [] = some (.ret (.int .i64 (satI n)), []) := by
  rw [callL_enter (fn := Tryd.f22) (c := Tryd.f22.body.getD .skip) rfl fat_R01_Sat rfl ok_R01_Sat (Nat.le_of_ble_eq_true rfl)]
  obtain ⟨ev, eo, so, co, ⟨hev, hco⟩, R⟩ := RULES CC; rw [← hev]
  simp only [fpart, part', Tryd.f22, Option.getD]
  unfold satI
  by_cases c1 : n > 1099511627776
  · simp (maxSteps := 5000000) only [SA, SB, SD, R, guardAt, binP, intP, indexAddrP, elemsOf, readCells, lenP, lenAt, resultsP, resultP, oneOr, reduceCtorEq, reduceIte, Nat.reduceEqDiff, Nat.reduceAdd, Nat.zero_add, Nat.reduceMul, Nat.reduceLT, Nat.reduceLeDiff, Int.reduceLT, Int.reduceNeg, Int.reduceLE, appendP, appendAt, letGo, setLoc, locVal, Int.reduceToNat, boxCells, und, TG, c1]
  · by_cases c2 : n < -1099511627776
    · simp (maxSteps := 5000000) only [SA, SB, SD, R, guardAt, binP, intP, indexAddrP, elemsOf, readCells, lenP, lenAt, resultsP, resultP, oneOr, reduceCtorEq, reduceIte, Nat.reduceEqDiff, Nat.reduceAdd, Nat.zero_add, Nat.reduceMul, Nat.reduceLT, Nat.reduceLeDiff, Int.reduceLT, Int.reduceNeg, Int.reduceLE, appendP, appendAt, letGo, setLoc, locVal, Int.reduceToNat, boxCells, und, TG, c1, c2]
    · simp (maxSteps := 5000000) only [SA, SB, SD, R, guardAt, binP, intP, indexAddrP, elemsOf, readCells, lenP, lenAt, resultsP, resultP, oneOr, reduceCtorEq, reduceIte, Nat.reduceEqDiff, Nat.reduceAdd, Nat.zero_add, Nat.reduceMul, Nat.reduceLT, Nat.reduceLeDiff, Int.reduceLT, Int.reduceNeg, Int.reduceLE, appendP, appendAt, letGo, setLoc, locVal, Int.reduceToNat, boxCells, und, TG, c1, c2]
theorem op_R01_Sat (n : Int) (bx) : callOp CC (callL CC) 22 [.int .i64 n] bx = some (.ret (.int .i64 (satI n)), bx) := callOp_of rfl (by simp only [SA, Bool.and_true]) (call_R01_Sat n) rfl

theorem call_num_limit (b : Bool) : callL CC 39 [.bool b] [] = some (.ret (.int .i64 (if b then -1099511627776 else 1099511627776)), []) := by
  rw [callL_enter (fn := Tryd.f39) (c := Tryd.f39.body.getD .skip) rfl fat_num_limit rfl ok_num_limit (Nat.le_of_ble_eq_true rfl)]
  obtain ⟨ev, eo, so, co, ⟨hev, hco⟩, R⟩ := RULES CC; rw [← hev]
  simp only [fpart, part', Tryd.f39, Option.getD]
  cases b <;> simp (maxSteps := 5000000) only [SA, SB, SD, R, guardAt, binP, intP, indexAddrP, elemsOf, readCells, lenP, lenAt, resultsP, resultP, oneOr, reduceCtorEq, reduceIte, Nat.reduceEqDiff, Nat.reduceAdd, Nat.zero_add, Nat.reduceMul, Nat.reduceLT, Nat.reduceLeDiff, Int.reduceLT, Int.reduceNeg, Int.reduceLE, appendP, appendAt, letGo, setLoc, locVal, Int.reduceToNat, boxCells, und, TG]
theorem op_num_limit (b : Bool) (bx) : callOp CC (callL CC) 39 [.bool b] bx = some (.ret (.int .i64 (if b then -1099511627776 else 1099511627776)), bx) := callOp_of rfl (by simp only [SA, Bool.and_true]) (call_num_limit b) rfl

theorem conv_iu (n : Int) (h : 0 ≤ n ∧ n < 18446744073709551616) : convP CC 3 32 (.int .i64 n) = some (.int .u64 n) := by
  unfold convP
  simp only [TG, wrap_u64 h]
theorem conv_ui (n : Int) (h : inI n) : convP CC 32 3 (.int .u64 n) = some (.int .i64 n) := by
  unfold convP
  simp only [TG, wrap_i64 h]
theorem call_num_size (n : Int) (hn : inI n) : callL CC 34 [.int .i64 n] [] = some (.ret (.int .u64 (n.natAbs : Nat)), []) := by
  rw [callL_enter (fn := Tryd.f34) (c := Tryd.f34.body.getD .skip) rfl fat_num_size rfl ok_num_size (Nat.le_of_ble_eq_true rfl)]
  obtain ⟨ev, eo, so, co, ⟨hev, hco⟩, R⟩ := RULES CC; rw [← hev]
  simp only [fpart, part', Tryd.f34, Option.getD]
  by_cases c1 : n < 0
  · have w1 := wrap_i64 (n := n + 1) ⟨by omega, by omega⟩
    have w2 := wrap_i64 (n := 0 - (n + 1)) ⟨by omega, by omega⟩
    have w3 := wrap_u64 (n := 0 - (n + 1) + 1) ⟨by omega, by omega⟩
    have hc := conv_iu (0 - (n + 1)) ⟨by omega, by omega⟩
    have he : 0 - (n + 1) + 1 = (n.natAbs : Int) := by omega
    simp (maxSteps := 5000000) only [SA, SB, SD, R, guardAt, binP, intP, indexAddrP, elemsOf, readCells, lenP, lenAt, resultsP, resultP, oneOr, reduceCtorEq, reduceIte, Nat.reduceEqDiff, Nat.reduceAdd, Nat.zero_add, Nat.reduceMul, Nat.reduceLT, Nat.reduceLeDiff, Int.reduceLT, Int.reduceNeg, Int.reduceLE, appendP, appendAt, letGo, setLoc, locVal, Int.reduceToNat, boxCells, und, TG, unP, c1, w1, w2, hc, w3]
    rw [he]
  · have hc := conv_iu n ⟨by omega, by omega⟩
    have he : n = (n.natAbs : Int) := by omega
    simp (maxSteps := 5000000) only [SA, SB, SD, R, guardAt, binP, intP, indexAddrP, elemsOf, readCells, lenP, lenAt, resultsP, resultP, oneOr, reduceCtorEq, reduceIte, Nat.reduceEqDiff, Nat.reduceAdd, Nat.zero_add, Nat.reduceMul, Nat.reduceLT, Nat.reduceLeDiff, Int.reduceLT, Int.reduceNeg, Int.reduceLE, appendP, appendAt, letGo, setLoc, locVal, Int.reduceToNat, boxCells, und, TG, c1, hc]
    rw [← he]
theorem op_num_size (n : Int) (hn : inI n) (bx) : callOp CC (callL CC) 34 [.int .i64 n] bx = some (.ret (.int .u64 (n.natAbs : Nat)), bx) := callOp_of rfl (by simp only [SA, Bool.and_true]) (call_num_size n hn) rfl

def timesN (a b : Nat) : Nat := if b ≠ 0 ∧ a > 1099511627776 / b then 1099511627777 else a * b
theorem timesN_le (a b : Nat) : timesN a b ≤ 1099511627777 := by
  unfold timesN
  split
  · omega
  · rename_i h
    by_cases hb : b = 0
    · subst hb; omega
    · have : a ≤ 1099511627776 / b := by
        apply Nat.le_of_not_lt
        intro hc
        exact h ⟨hb, hc⟩
      have := (Nat.le_div_iff_mul_le (by omega)).1 this
      omega
theorem call_num_times (a b : Nat) : callL CC 33 [.int .u64 a, .int .u64 b] [] = some (.ret (.int .u64 (timesN a b : Nat)), []) := by
  rw [callL_enter (fn := Tryd.f33) (c := Tryd.f33.body.getD .skip) rfl fat_num_times rfl ok_num_times (Nat.le_of_ble_eq_true rfl)]
  have hle := timesN_le a b
  obtain ⟨ev, eo, so, co, ⟨hev, hco⟩, R⟩ := RULES CC; rw [← hev]
  simp only [fpart, part', Tryd.f33, Option.getD]
  unfold timesN at hle ⊢
  by_cases c1 : b = 0
  · subst c1
    have w : IntKind.wrap .u64 ((a : Int) * ((0 : Nat) : Int)) = 0 := by rw [Int.natCast_zero, Int.mul_zero]; rfl
    have h0 : ((0 : Nat) : Int) = 0 := rfl
    rw [h0] at w
    have hb : ((0 : Int) != 0) = false := rfl
    simp (maxSteps := 5000000) only [SA, SB, SD, R, guardAt, binP, intP, indexAddrP, elemsOf, readCells, lenP, lenAt, resultsP, resultP, oneOr, reduceCtorEq, reduceIte, Nat.reduceEqDiff, Nat.reduceAdd, Nat.zero_add, Nat.reduceMul, Nat.reduceLT, Nat.reduceLeDiff, Int.reduceLT, Int.reduceNeg, Int.reduceLE, appendP, appendAt, letGo, setLoc, locVal, Int.reduceToNat, boxCells, und, TG, h0, hb, w, Nat.mul_zero, false_and]
  · have hb : ((b : Int) != 0) = true := by simpa using c1
    have hb0 : ¬ ((b : Int) = 0) := by omega
    have hq : Int.tdiv 1099511627776 (b : Int) = ((1099511627776 / b : Nat) : Int) := by
      rw [show (1099511627776 : Int) = ((1099511627776 : Nat) : Int) from rfl, Int.ofNat_tdiv]
    have hq1 : 1099511627776 / b ≤ 1099511627776 := Nat.div_le_self _ _
    generalize 1099511627776 / b = q at *
    have w1 := wrap_u64 (n := (q : Int)) ⟨by omega, by omega⟩
    by_cases c2 : a > q
    · have c2' : (a : Int) > (q : Int) := by omega
      simp (maxSteps := 5000000) only [SA, SB, SD, R, guardAt, binP, intP, indexAddrP, elemsOf, readCells, lenP, lenAt, resultsP, resultP, oneOr, reduceCtorEq, reduceIte, Nat.reduceEqDiff, Nat.reduceAdd, Nat.zero_add, Nat.reduceMul, Nat.reduceLT, Nat.reduceLeDiff, Int.reduceLT, Int.reduceNeg, Int.reduceLE, appendP, appendAt, letGo, setLoc, locVal, Int.reduceToNat, boxCells, und, TG, hb, hb0, hq, w1, c1, c2, c2']
      rfl
    · have c2' : ¬ (a : Int) > (q : Int) := by omega
      rw [if_neg (fun h => c2 h.2)] at hle
      have w2 := wrap_u64 (n := (a : Int) * (b : Int)) ⟨by rw [← Int.natCast_mul]; omega, by rw [← Int.natCast_mul]; omega⟩
      have hf : ¬ ((¬ b = 0) ∧ a > q) := fun h => c2 h.2
      simp (maxSteps := 5000000) only [SA, SB, SD, R, guardAt, binP, intP, indexAddrP, elemsOf, readCells, lenP, lenAt, resultsP, resultP, oneOr, reduceCtorEq, reduceIte, Nat.reduceEqDiff, Nat.reduceAdd, Nat.zero_add, Nat.reduceMul, Nat.reduceLT, Nat.reduceLeDiff, Int.reduceLT, Int.reduceNeg, Int.reduceLE, appendP, appendAt, letGo, setLoc, locVal, Int.reduceToNat, boxCells, und, TG, hb, hb0, hq, w1, w2, c1, c2, c2', hf]
      simp
theorem op_num_times (a b : Nat) (bx) : callOp CC (callL CC) 33 [.int .u64 a, .int .u64 b] bx = some (.ret (.int .u64 (timesN a b : Nat)), bx) := callOp_of rfl (by simp only [SA, Bool.and_true]) (call_num_times a b) rfl

def signedI (n : Nat) (neg : Bool) : Int := if n > 1099511627776 then (if neg then -1099511627776 else 1099511627776) else if neg then -(n : Int) else n
theorem call_num_signed (n : Nat) (neg : Bool) : callL CC 36 [.int .u64 n, .bool neg] [] = some (.ret (.int .i64 (signedI n neg)), []) := by
  rw [callL_enter (fn := Tryd.f36) (c := Tryd.f36.body.getD .skip) rfl fat_num_signed rfl ok_num_signed (Nat.le_of_ble_eq_true rfl)]
  obtain ⟨ev, eo, so, co, ⟨hev, hco⟩, R⟩ := RULES CC; rw [← hev]; have o_num_limit := @op_num_limit; rw [← hco] at o_num_limit
  simp only [fpart, part', Tryd.f36, Option.getD]
  unfold signedI
  by_cases c1 : n > 1099511627776
  · have c1' : (n : Int) > 1099511627776 := by omega
    simp (maxSteps := 5000000) only [SA, SB, SD, R, guardAt, binP, intP, indexAddrP, elemsOf, readCells, lenP, lenAt, resultsP, resultP, oneOr, reduceCtorEq, reduceIte, Nat.reduceEqDiff, Nat.reduceAdd, Nat.zero_add, Nat.reduceMul, Nat.reduceLT, Nat.reduceLeDiff, Int.reduceLT, Int.reduceNeg, Int.reduceLE, appendP, appendAt, letGo, setLoc, locVal, Int.reduceToNat, boxCells, und, TG, o_num_limit, c1, c1']
  · have c1' : ¬ (n : Int) > 1099511627776 := by omega
    have hc := conv_ui n ⟨by omega, by omega⟩
    have w := wrap_i64 (n := 0 - (n : Int)) ⟨by omega, by omega⟩
    cases neg
    · simp (maxSteps := 5000000) only [SA, SB, SD, R, guardAt, binP, intP, indexAddrP, elemsOf, readCells, lenP, lenAt, resultsP, resultP, oneOr, reduceCtorEq, reduceIte, Nat.reduceEqDiff, Nat.reduceAdd, Nat.zero_add, Nat.reduceMul, Nat.reduceLT, Nat.reduceLeDiff, Int.reduceLT, Int.reduceNeg, Int.reduceLE, appendP, appendAt, letGo, setLoc, locVal, Int.reduceToNat, boxCells, und, TG, o_num_limit, c1, c1', hc]
    · simp (maxSteps := 5000000) only [SA, SB, SD, R, guardAt, binP, intP, indexAddrP, elemsOf, readCells, lenP, lenAt, resultsP, resultP, oneOr, reduceCtorEq, reduceIte, Nat.reduceEqDiff, Nat.reduceAdd, Nat.zero_add, Nat.reduceMul, Nat.reduceLT, Nat.reduceLeDiff, Int.reduceLT, Int.reduceNeg, Int.reduceLE, appendP, appendAt, letGo, setLoc, locVal, Int.reduceToNat, boxCells, und, TG, unP, o_num_limit, c1, c1', hc, w]
      rw [Int.zero_sub]
theorem op_num_signed (n : Nat) (neg : Bool) (bx) : callOp CC (callL CC) 36 [.int .u64 n, .bool neg] bx = some (.ret (.int .i64 (signedI n neg)), bx) := callOp_of rfl (by simp only [SA, Bool.and_true]) (call_num_signed n neg) rfl
theorem call_R01_abs (n : Int) (h : inI (-n)) : callL CC 37 [.int .i64 n] [] = some (.ret (.int .i64 (n.natAbs : Nat)), []) := by
  rw [callL_enter (fn := Tryd.f37) (c := Tryd.f37.body.getD .skip) rfl fat_R01_abs rfl ok_R01_abs (Nat.le_of_ble_eq_true rfl)]
  obtain ⟨ev, eo, so, co, ⟨hev, hco⟩, R⟩ := RULES CC; rw [← hev]
  simp only [fpart, part', Tryd.f37, Option.getD]
  by_cases c1 : n < 0
  · have w := wrap_i64 (n := 0 - n) ⟨by omega, by omega⟩
    have he : 0 - n = (n.natAbs : Int) := by omega
    simp (maxSteps := 5000000) only [SA, SB, SD, R, guardAt, binP, intP, indexAddrP, elemsOf, readCells, lenP, lenAt, resultsP, resultP, oneOr, reduceCtorEq, reduceIte, Nat.reduceEqDiff, Nat.reduceAdd, Nat.zero_add, Nat.reduceMul, Nat.reduceLT, Nat.reduceLeDiff, Int.reduceLT, Int.reduceNeg, Int.reduceLE, appendP, appendAt, letGo, setLoc, locVal, Int.reduceToNat, boxCells, und, TG, unP, c1, w]
    rw [he]
  · have he : n = (n.natAbs : Int) := by omega
    simp (maxSteps := 5000000) only [SA, SB, SD, R, guardAt, binP, intP, indexAddrP, elemsOf, readCells, lenP, lenAt, resultsP, resultP, oneOr, reduceCtorEq, reduceIte, Nat.reduceEqDiff, Nat.reduceAdd, Nat.zero_add, Nat.reduceMul, Nat.reduceLT, Nat.reduceLeDiff, Int.reduceLT, Int.reduceNeg, Int.reduceLE, appendP, appendAt, letGo, setLoc, locVal, Int.reduceToNat, boxCells, und, TG, c1]
    rw [← he]
theorem op_R01_abs (n : Int) (h : inI (-n)) (bx) : callOp CC (callL CC) 37 [.int .i64 n] bx = some (.ret (.int .i64 (n.natAbs : Nat)), bx) := callOp_of rfl (by simp only [SA, Bool.and_true]) (call_R01_abs n h) rfl
theorem call_R01_Add (a b : Int) (ha : inI a) (hb : inI b) : callL CC 24 [.int .i64 a, .int .i64 b] [] = some (.ret (.int .i64 (satI (a + b))), []) := by
  rw [callL_enter (fn := Tryd.f24) (c := Tryd.f24.body.getD .skip) rfl fat_R01_Add rfl ok_R01_Add (Nat.le_of_ble_eq_true rfl)]
  obtain ⟨ev, eo, so, co, ⟨hev, hco⟩, R⟩ := RULES CC; rw [← hev]; have o_R01_Sat := @op_R01_Sat; rw [← hco] at o_R01_Sat
  simp only [fpart, part', Tryd.f24, Option.getD]
  by_cases c1 : b > 0
  · have w := wrap_i64 (n := 9223372036854775807 - b) ⟨by omega, by omega⟩
    have c4 : ¬ b < 0 := by omega
    by_cases c2 : a > 9223372036854775807 - b
    · have e : satI (a + b) = 1099511627776 := by unfold satI; rw [if_pos (by omega)]
      simp (maxSteps := 5000000) only [SA, SB, SD, R, guardAt, binP, intP, indexAddrP, elemsOf, readCells, lenP, lenAt, resultsP, resultP, oneOr, reduceCtorEq, reduceIte, Nat.reduceEqDiff, Nat.reduceAdd, Nat.zero_add, Nat.reduceMul, Nat.reduceLT, Nat.reduceLeDiff, Int.reduceLT, Int.reduceNeg, Int.reduceLE, appendP, appendAt, letGo, setLoc, locVal, Int.reduceToNat, boxCells, und, TG, o_R01_Sat, c1, w, c2, e]
    · have w2 := wrap_i64 (n := a + b) ⟨by omega, by omega⟩
      simp (maxSteps := 5000000) only [SA, SB, SD, R, guardAt, binP, intP, indexAddrP, elemsOf, readCells, lenP, lenAt, resultsP, resultP, oneOr, reduceCtorEq, reduceIte, Nat.reduceEqDiff, Nat.reduceAdd, Nat.zero_add, Nat.reduceMul, Nat.reduceLT, Nat.reduceLeDiff, Int.reduceLT, Int.reduceNeg, Int.reduceLE, appendP, appendAt, letGo, setLoc, locVal, Int.reduceToNat, boxCells, und, TG, o_R01_Sat, c1, w, c2, c4, w2]
  · by_cases c3 : b < 0
    · have w := wrap_i64 (n := -9223372036854775808 - b) ⟨by omega, by omega⟩
      by_cases c2 : a < -9223372036854775808 - b
      · have e : satI (a + b) = -1099511627776 := by unfold satI; rw [if_neg (by omega), if_pos (by omega)]
        simp (maxSteps := 5000000) only [SA, SB, SD, R, guardAt, binP, intP, indexAddrP, elemsOf, readCells, lenP, lenAt, resultsP, resultP, oneOr, reduceCtorEq, reduceIte, Nat.reduceEqDiff, Nat.reduceAdd, Nat.zero_add, Nat.reduceMul, Nat.reduceLT, Nat.reduceLeDiff, Int.reduceLT, Int.reduceNeg, Int.reduceLE, appendP, appendAt, letGo, setLoc, locVal, Int.reduceToNat, boxCells, und, TG, o_R01_Sat, c1, c3, w, c2, e]
      · have w2 := wrap_i64 (n := a + b) ⟨by omega, by omega⟩
        simp (maxSteps := 5000000) only [SA, SB, SD, R, guardAt, binP, intP, indexAddrP, elemsOf, readCells, lenP, lenAt, resultsP, resultP, oneOr, reduceCtorEq, reduceIte, Nat.reduceEqDiff, Nat.reduceAdd, Nat.zero_add, Nat.reduceMul, Nat.reduceLT, Nat.reduceLeDiff, Int.reduceLT, Int.reduceNeg, Int.reduceLE, appendP, appendAt, letGo, setLoc, locVal, Int.reduceToNat, boxCells, und, TG, o_R01_Sat, c1, c3, w, c2, w2]
    · have w2 := wrap_i64 (n := a + b) ⟨by omega, by omega⟩
      simp (maxSteps := 5000000) only [SA, SB, SD, R, guardAt, binP, intP, indexAddrP, elemsOf, readCells, lenP, lenAt, resultsP, resultP, oneOr, reduceCtorEq, reduceIte, Nat.reduceEqDiff, Nat.reduceAdd, Nat.zero_add, Nat.reduceMul, Nat.reduceLT, Nat.reduceLeDiff, Int.reduceLT, Int.reduceNeg, Int.reduceLE, appendP, appendAt, letGo, setLoc, locVal, Int.reduceToNat, boxCells, und, TG, o_R01_Sat, c1, c3, w2]
theorem op_R01_Add (a b : Int) (ha : inI a) (hb : inI b) (bx) : callOp CC (callL CC) 24 [.int .i64 a, .int .i64 b] bx = some (.ret (.int .i64 (satI (a + b))), bx) := callOp_of rfl (by simp only [SA, Bool.and_true]) (call_R01_Add a b ha hb) rfl
end Go.HH
