/-
  For one seat, what its law needs of: E3, E4, E5, E6, E9, E10.
-/
import Derived.Test.YthjcaihemgllaaaDoorD1
namespace Go.HH
open Go Go.Proofs
set_option maxRecDepth 100000
set_option linter.unusedSimpArgs false
set_option linter.unusedVariables false
theorem ok_expr_kids : fnOK CC Tryd.f51 (Tryd.f51.body.getD .skip) = true := by kernel_rfl
theorem fat_expr_kids : CC.P.funcs[51]? = some Tryd.f51 := by kernel_rfl
theorem ok_expr_ranges : fnOK CC Tryd.f53 (Tryd.f53.body.getD .skip) = true := by kernel_rfl
theorem fat_expr_ranges : CC.P.funcs[53]? = some Tryd.f53 := by kernel_rfl
theorem ok_expr_node : fnOK CC Tryd.f34 (Tryd.f34.body.getD .skip) = true := by kernel_rfl
theorem fat_expr_node : CC.P.funcs[34]? = some Tryd.f34 := by kernel_rfl
/-- can a kind have a number of kids? -/
def kdB (k n : Int) : Bool := if k = 6 then n == 1 else if k = 7 ∨ k = 8 then decide (2 ≤ n) && decide (n ≤ 8) else if 9 ≤ k ∧ k ≤ 13 then n == 2 else if k = 14 then n == 3 else n == 0
/-- are the numbers of a node in their ranges? -/
def rgB (k n m dv : Int) : Bool := if k = 4 then decide (0 ≤ n ∧ n < 1440 ∧ 0 ≤ m ∧ m < 1440) else if k = 5 then decide (1 ≤ n ∧ n ≤ 127) else if k = 15 then decide (0 ≤ n ∧ n ≤ 4) else if k = 2 then decide (1 ≤ dv ∧ dv ≤ 250) else true
/-- what is said of a node -/
def ndT : Tr → Int
  | .mk k n m nm v key kids => if k < 1 ∨ 15 < k then 7 else if kdB k kids.length = false ∨ spT (.mk k n m nm v key kids) = true then 1 else if rgB k n m key.1 = false then 2 else
    if k = 3 then (if valB nm then 0 else 10) else if k = 2 then (if valB key.2.1 && valB key.2.2 then 0 else 10) else if k = 1 then (if ckV v ≠ 0 then ckV v else if v.1 = 0 then 7 else 0) else 0
theorem expr_kids_6 (n : Int) : ∃ bx, callL CC 51 [.int .i64 6, .int .i64 n] [] = some (.ret (.bool (kdB 6 n)), bx) := by
  rw [callL_enter (fn := Tryd.f51) (c := Tryd.f51.body.getD .skip) rfl rfl fat_expr_kids rfl ok_expr_kids (Nat.le_of_ble_eq_true rfl)]
  have hlen : True := trivial
  obtain ⟨tu, htu⟩ := VLs
  obtain ⟨tr, htr⟩ := TRs
  obtain ⟨tk, hky⟩ := KYs
  rw [show kdB 6 n = (n == 1) by simp [kdB]]
  obtain ⟨ev, eo, so, co, ⟨hev, hco⟩, R⟩ := RULES CC; rw [← hev]
  simp only [fpart, part', Tryd.f51, Option.getD]
  simp (maxSteps := 5000000) only [SA, SB, SD, R, guardAt, binP, intP, indexAddrP, elemsOf, readCells, lenP, lenAt, resultsP, resultP, oneOr, reduceCtorEq, reduceIte, Nat.reduceEqDiff, Nat.reduceAdd, Nat.zero_add, Nat.reduceMul, Nat.reduceLT, Nat.reduceLeDiff, Int.reduceLT, Int.reduceNeg, Int.reduceLE, appendP, appendAt, letGo, setLoc, locVal, Int.reduceToNat, boxCells, und, TG, SE, SC, unP, htu, htr, hky, hlen, loadR, loadP, lay, List.take_succ_cons, List.take_zero, List.drop_nil, List.filter_nil, List.cons_append, Int.reduceBEq, Int.reduceBNe, Int.reduceGT, Int.reduceGE, Int.reduceLT, Bool.not_true, Bool.not_false, hlen]
  exact ⟨_, rfl⟩
theorem expr_kids_7 (n : Int) : ∃ bx, callL CC 51 [.int .i64 7, .int .i64 n] [] = some (.ret (.bool (kdB 7 n)), bx) := by
  rw [callL_enter (fn := Tryd.f51) (c := Tryd.f51.body.getD .skip) rfl rfl fat_expr_kids rfl ok_expr_kids (Nat.le_of_ble_eq_true rfl)]
  have hlen : True := trivial
  obtain ⟨tu, htu⟩ := VLs
  obtain ⟨tr, htr⟩ := TRs
  obtain ⟨tk, hky⟩ := KYs
  by_cases c1 : n ≥ 2
  · by_cases c2 : n ≤ 8
    · rw [show kdB 7 n = true by simp [kdB]; omega]
      obtain ⟨ev, eo, so, co, ⟨hev, hco⟩, R⟩ := RULES CC; rw [← hev]
      simp only [fpart, part', Tryd.f51, Option.getD]
      simp (maxSteps := 5000000) only [SA, SB, SD, R, guardAt, binP, intP, indexAddrP, elemsOf, readCells, lenP, lenAt, resultsP, resultP, oneOr, reduceCtorEq, reduceIte, Nat.reduceEqDiff, Nat.reduceAdd, Nat.zero_add, Nat.reduceMul, Nat.reduceLT, Nat.reduceLeDiff, Int.reduceLT, Int.reduceNeg, Int.reduceLE, appendP, appendAt, letGo, setLoc, locVal, Int.reduceToNat, boxCells, und, TG, SE, SC, unP, htu, htr, hky, hlen, loadR, loadP, lay, List.take_succ_cons, List.take_zero, List.drop_nil, List.filter_nil, List.cons_append, Int.reduceBEq, Int.reduceBNe, Int.reduceGT, Int.reduceGE, Int.reduceLT, Bool.not_true, Bool.not_false, c1, c2]
      exact ⟨_, rfl⟩
    · rw [show kdB 7 n = false by simp [kdB]; omega]
      obtain ⟨ev, eo, so, co, ⟨hev, hco⟩, R⟩ := RULES CC; rw [← hev]
      simp only [fpart, part', Tryd.f51, Option.getD]
      simp (maxSteps := 5000000) only [SA, SB, SD, R, guardAt, binP, intP, indexAddrP, elemsOf, readCells, lenP, lenAt, resultsP, resultP, oneOr, reduceCtorEq, reduceIte, Nat.reduceEqDiff, Nat.reduceAdd, Nat.zero_add, Nat.reduceMul, Nat.reduceLT, Nat.reduceLeDiff, Int.reduceLT, Int.reduceNeg, Int.reduceLE, appendP, appendAt, letGo, setLoc, locVal, Int.reduceToNat, boxCells, und, TG, SE, SC, unP, htu, htr, hky, hlen, loadR, loadP, lay, List.take_succ_cons, List.take_zero, List.drop_nil, List.filter_nil, List.cons_append, Int.reduceBEq, Int.reduceBNe, Int.reduceGT, Int.reduceGE, Int.reduceLT, Bool.not_true, Bool.not_false, c1, c2]
      exact ⟨_, rfl⟩
  · rw [show kdB 7 n = false by simp [kdB]; omega]
    obtain ⟨ev, eo, so, co, ⟨hev, hco⟩, R⟩ := RULES CC; rw [← hev]
    simp only [fpart, part', Tryd.f51, Option.getD]
    simp (maxSteps := 5000000) only [SA, SB, SD, R, guardAt, binP, intP, indexAddrP, elemsOf, readCells, lenP, lenAt, resultsP, resultP, oneOr, reduceCtorEq, reduceIte, Nat.reduceEqDiff, Nat.reduceAdd, Nat.zero_add, Nat.reduceMul, Nat.reduceLT, Nat.reduceLeDiff, Int.reduceLT, Int.reduceNeg, Int.reduceLE, appendP, appendAt, letGo, setLoc, locVal, Int.reduceToNat, boxCells, und, TG, SE, SC, unP, htu, htr, hky, hlen, loadR, loadP, lay, List.take_succ_cons, List.take_zero, List.drop_nil, List.filter_nil, List.cons_append, Int.reduceBEq, Int.reduceBNe, Int.reduceGT, Int.reduceGE, Int.reduceLT, Bool.not_true, Bool.not_false, c1]
    exact ⟨_, rfl⟩
theorem expr_kids_8 (n : Int) : ∃ bx, callL CC 51 [.int .i64 8, .int .i64 n] [] = some (.ret (.bool (kdB 8 n)), bx) := by
  rw [callL_enter (fn := Tryd.f51) (c := Tryd.f51.body.getD .skip) rfl rfl fat_expr_kids rfl ok_expr_kids (Nat.le_of_ble_eq_true rfl)]
  have hlen : True := trivial
  obtain ⟨tu, htu⟩ := VLs
  obtain ⟨tr, htr⟩ := TRs
  obtain ⟨tk, hky⟩ := KYs
  by_cases c1 : n ≥ 2
  · by_cases c2 : n ≤ 8
    · rw [show kdB 8 n = true by simp [kdB]; omega]
      obtain ⟨ev, eo, so, co, ⟨hev, hco⟩, R⟩ := RULES CC; rw [← hev]
      simp only [fpart, part', Tryd.f51, Option.getD]
      simp (maxSteps := 5000000) only [SA, SB, SD, R, guardAt, binP, intP, indexAddrP, elemsOf, readCells, lenP, lenAt, resultsP, resultP, oneOr, reduceCtorEq, reduceIte, Nat.reduceEqDiff, Nat.reduceAdd, Nat.zero_add, Nat.reduceMul, Nat.reduceLT, Nat.reduceLeDiff, Int.reduceLT, Int.reduceNeg, Int.reduceLE, appendP, appendAt, letGo, setLoc, locVal, Int.reduceToNat, boxCells, und, TG, SE, SC, unP, htu, htr, hky, hlen, loadR, loadP, lay, List.take_succ_cons, List.take_zero, List.drop_nil, List.filter_nil, List.cons_append, Int.reduceBEq, Int.reduceBNe, Int.reduceGT, Int.reduceGE, Int.reduceLT, Bool.not_true, Bool.not_false, c1, c2]
      exact ⟨_, rfl⟩
    · rw [show kdB 8 n = false by simp [kdB]; omega]
      obtain ⟨ev, eo, so, co, ⟨hev, hco⟩, R⟩ := RULES CC; rw [← hev]
      simp only [fpart, part', Tryd.f51, Option.getD]
      simp (maxSteps := 5000000) only [SA, SB, SD, R, guardAt, binP, intP, indexAddrP, elemsOf, readCells, lenP, lenAt, resultsP, resultP, oneOr, reduceCtorEq, reduceIte, Nat.reduceEqDiff, Nat.reduceAdd, Nat.zero_add, Nat.reduceMul, Nat.reduceLT, Nat.reduceLeDiff, Int.reduceLT, Int.reduceNeg, Int.reduceLE, appendP, appendAt, letGo, setLoc, locVal, Int.reduceToNat, boxCells, und, TG, SE, SC, unP, htu, htr, hky, hlen, loadR, loadP, lay, List.take_succ_cons, List.take_zero, List.drop_nil, List.filter_nil, List.cons_append, Int.reduceBEq, Int.reduceBNe, Int.reduceGT, Int.reduceGE, Int.reduceLT, Bool.not_true, Bool.not_false, c1, c2]
      exact ⟨_, rfl⟩
  · rw [show kdB 8 n = false by simp [kdB]; omega]
    obtain ⟨ev, eo, so, co, ⟨hev, hco⟩, R⟩ := RULES CC; rw [← hev]
    simp only [fpart, part', Tryd.f51, Option.getD]
    simp (maxSteps := 5000000) only [SA, SB, SD, R, guardAt, binP, intP, indexAddrP, elemsOf, readCells, lenP, lenAt, resultsP, resultP, oneOr, reduceCtorEq, reduceIte, Nat.reduceEqDiff, Nat.reduceAdd, Nat.zero_add, Nat.reduceMul, Nat.reduceLT, Nat.reduceLeDiff, Int.reduceLT, Int.reduceNeg, Int.reduceLE, appendP, appendAt, letGo, setLoc, locVal, Int.reduceToNat, boxCells, und, TG, SE, SC, unP, htu, htr, hky, hlen, loadR, loadP, lay, List.take_succ_cons, List.take_zero, List.drop_nil, List.filter_nil, List.cons_append, Int.reduceBEq, Int.reduceBNe, Int.reduceGT, Int.reduceGE, Int.reduceLT, Bool.not_true, Bool.not_false, c1]
    exact ⟨_, rfl⟩
theorem expr_kids_9 (n : Int) : ∃ bx, callL CC 51 [.int .i64 9, .int .i64 n] [] = some (.ret (.bool (kdB 9 n)), bx) := by
  rw [callL_enter (fn := Tryd.f51) (c := Tryd.f51.body.getD .skip) rfl rfl fat_expr_kids rfl ok_expr_kids (Nat.le_of_ble_eq_true rfl)]
  have hlen : True := trivial
  obtain ⟨tu, htu⟩ := VLs
  obtain ⟨tr, htr⟩ := TRs
  obtain ⟨tk, hky⟩ := KYs
  rw [show kdB 9 n = (n == 2) by simp [kdB]]
  obtain ⟨ev, eo, so, co, ⟨hev, hco⟩, R⟩ := RULES CC; rw [← hev]
  simp only [fpart, part', Tryd.f51, Option.getD]
  simp (maxSteps := 5000000) only [SA, SB, SD, R, guardAt, binP, intP, indexAddrP, elemsOf, readCells, lenP, lenAt, resultsP, resultP, oneOr, reduceCtorEq, reduceIte, Nat.reduceEqDiff, Nat.reduceAdd, Nat.zero_add, Nat.reduceMul, Nat.reduceLT, Nat.reduceLeDiff, Int.reduceLT, Int.reduceNeg, Int.reduceLE, appendP, appendAt, letGo, setLoc, locVal, Int.reduceToNat, boxCells, und, TG, SE, SC, unP, htu, htr, hky, hlen, loadR, loadP, lay, List.take_succ_cons, List.take_zero, List.drop_nil, List.filter_nil, List.cons_append, Int.reduceBEq, Int.reduceBNe, Int.reduceGT, Int.reduceGE, Int.reduceLT, Bool.not_true, Bool.not_false, hlen]
  exact ⟨_, rfl⟩
theorem expr_kids_10 (n : Int) : ∃ bx, callL CC 51 [.int .i64 10, .int .i64 n] [] = some (.ret (.bool (kdB 10 n)), bx) := by
  rw [callL_enter (fn := Tryd.f51) (c := Tryd.f51.body.getD .skip) rfl rfl fat_expr_kids rfl ok_expr_kids (Nat.le_of_ble_eq_true rfl)]
  have hlen : True := trivial
  obtain ⟨tu, htu⟩ := VLs
  obtain ⟨tr, htr⟩ := TRs
  obtain ⟨tk, hky⟩ := KYs
  rw [show kdB 10 n = (n == 2) by simp [kdB]]
  obtain ⟨ev, eo, so, co, ⟨hev, hco⟩, R⟩ := RULES CC; rw [← hev]
  simp only [fpart, part', Tryd.f51, Option.getD]
  simp (maxSteps := 5000000) only [SA, SB, SD, R, guardAt, binP, intP, indexAddrP, elemsOf, readCells, lenP, lenAt, resultsP, resultP, oneOr, reduceCtorEq, reduceIte, Nat.reduceEqDiff, Nat.reduceAdd, Nat.zero_add, Nat.reduceMul, Nat.reduceLT, Nat.reduceLeDiff, Int.reduceLT, Int.reduceNeg, Int.reduceLE, appendP, appendAt, letGo, setLoc, locVal, Int.reduceToNat, boxCells, und, TG, SE, SC, unP, htu, htr, hky, hlen, loadR, loadP, lay, List.take_succ_cons, List.take_zero, List.drop_nil, List.filter_nil, List.cons_append, Int.reduceBEq, Int.reduceBNe, Int.reduceGT, Int.reduceGE, Int.reduceLT, Bool.not_true, Bool.not_false, hlen]
  exact ⟨_, rfl⟩
theorem expr_kids_11 (n : Int) : ∃ bx, callL CC 51 [.int .i64 11, .int .i64 n] [] = some (.ret (.bool (kdB 11 n)), bx) := by
  rw [callL_enter (fn := Tryd.f51) (c := Tryd.f51.body.getD .skip) rfl rfl fat_expr_kids rfl ok_expr_kids (Nat.le_of_ble_eq_true rfl)]
  have hlen : True := trivial
  obtain ⟨tu, htu⟩ := VLs
  obtain ⟨tr, htr⟩ := TRs
  obtain ⟨tk, hky⟩ := KYs
  rw [show kdB 11 n = (n == 2) by simp [kdB]]
  obtain ⟨ev, eo, so, co, ⟨hev, hco⟩, R⟩ := RULES CC; rw [← hev]
  simp only [fpart, part', Tryd.f51, Option.getD]
  simp (maxSteps := 5000000) only [SA, SB, SD, R, guardAt, binP, intP, indexAddrP, elemsOf, readCells, lenP, lenAt, resultsP, resultP, oneOr, reduceCtorEq, reduceIte, Nat.reduceEqDiff, Nat.reduceAdd, Nat.zero_add, Nat.reduceMul, Nat.reduceLT, Nat.reduceLeDiff, Int.reduceLT, Int.reduceNeg, Int.reduceLE, appendP, appendAt, letGo, setLoc, locVal, Int.reduceToNat, boxCells, und, TG, SE, SC, unP, htu, htr, hky, hlen, loadR, loadP, lay, List.take_succ_cons, List.take_zero, List.drop_nil, List.filter_nil, List.cons_append, Int.reduceBEq, Int.reduceBNe, Int.reduceGT, Int.reduceGE, Int.reduceLT, Bool.not_true, Bool.not_false, hlen]
  exact ⟨_, rfl⟩
theorem expr_kids_12 (n : Int) : ∃ bx, callL CC 51 [.int .i64 12, .int .i64 n] [] = some (.ret (.bool (kdB 12 n)), bx) := by
  rw [callL_enter (fn := Tryd.f51) (c := Tryd.f51.body.getD .skip) rfl rfl fat_expr_kids rfl ok_expr_kids (Nat.le_of_ble_eq_true rfl)]
  have hlen : True := trivial
  obtain ⟨tu, htu⟩ := VLs
  obtain ⟨tr, htr⟩ := TRs
  obtain ⟨tk, hky⟩ := KYs
  rw [show kdB 12 n = (n == 2) by simp [kdB]]
  obtain ⟨ev, eo, so, co, ⟨hev, hco⟩, R⟩ := RULES CC; rw [← hev]
  simp only [fpart, part', Tryd.f51, Option.getD]
  simp (maxSteps := 5000000) only [SA, SB, SD, R, guardAt, binP, intP, indexAddrP, elemsOf, readCells, lenP, lenAt, resultsP, resultP, oneOr, reduceCtorEq, reduceIte, Nat.reduceEqDiff, Nat.reduceAdd, Nat.zero_add, Nat.reduceMul, Nat.reduceLT, Nat.reduceLeDiff, Int.reduceLT, Int.reduceNeg, Int.reduceLE, appendP, appendAt, letGo, setLoc, locVal, Int.reduceToNat, boxCells, und, TG, SE, SC, unP, htu, htr, hky, hlen, loadR, loadP, lay, List.take_succ_cons, List.take_zero, List.drop_nil, List.filter_nil, List.cons_append, Int.reduceBEq, Int.reduceBNe, Int.reduceGT, Int.reduceGE, Int.reduceLT, Bool.not_true, Bool.not_false, hlen]
  exact ⟨_, rfl⟩
theorem expr_kids_13 (n : Int) : ∃ bx, callL CC 51 [.int .i64 13, .int .i64 n] [] = some (.ret (.bool (kdB 13 n)), bx) := by
  rw [callL_enter (fn := Tryd.f51) (c := Tryd.f51.body.getD .skip) rfl rfl fat_expr_kids rfl ok_expr_kids (Nat.le_of_ble_eq_true rfl)]
  have hlen : True := trivial
  obtain ⟨tu, htu⟩ := VLs
  obtain ⟨tr, htr⟩ := TRs
  obtain ⟨tk, hky⟩ := KYs
  rw [show kdB 13 n = (n == 2) by simp [kdB]]
  obtain ⟨ev, eo, so, co, ⟨hev, hco⟩, R⟩ := RULES CC; rw [← hev]
  simp only [fpart, part', Tryd.f51, Option.getD]
  simp (maxSteps := 5000000) only [SA, SB, SD, R, guardAt, binP, intP, indexAddrP, elemsOf, readCells, lenP, lenAt, resultsP, resultP, oneOr, reduceCtorEq, reduceIte, Nat.reduceEqDiff, Nat.reduceAdd, Nat.zero_add, Nat.reduceMul, Nat.reduceLT, Nat.reduceLeDiff, Int.reduceLT, Int.reduceNeg, Int.reduceLE, appendP, appendAt, letGo, setLoc, locVal, Int.reduceToNat, boxCells, und, TG, SE, SC, unP, htu, htr, hky, hlen, loadR, loadP, lay, List.take_succ_cons, List.take_zero, List.drop_nil, List.filter_nil, List.cons_append, Int.reduceBEq, Int.reduceBNe, Int.reduceGT, Int.reduceGE, Int.reduceLT, Bool.not_true, Bool.not_false, hlen]
  exact ⟨_, rfl⟩
theorem expr_kids_14 (n : Int) : ∃ bx, callL CC 51 [.int .i64 14, .int .i64 n] [] = some (.ret (.bool (kdB 14 n)), bx) := by
  rw [callL_enter (fn := Tryd.f51) (c := Tryd.f51.body.getD .skip) rfl rfl fat_expr_kids rfl ok_expr_kids (Nat.le_of_ble_eq_true rfl)]
  have hlen : True := trivial
  obtain ⟨tu, htu⟩ := VLs
  obtain ⟨tr, htr⟩ := TRs
  obtain ⟨tk, hky⟩ := KYs
  rw [show kdB 14 n = (n == 3) by simp [kdB]]
  obtain ⟨ev, eo, so, co, ⟨hev, hco⟩, R⟩ := RULES CC; rw [← hev]
  simp only [fpart, part', Tryd.f51, Option.getD]
  simp (maxSteps := 5000000) only [SA, SB, SD, R, guardAt, binP, intP, indexAddrP, elemsOf, readCells, lenP, lenAt, resultsP, resultP, oneOr, reduceCtorEq, reduceIte, Nat.reduceEqDiff, Nat.reduceAdd, Nat.zero_add, Nat.reduceMul, Nat.reduceLT, Nat.reduceLeDiff, Int.reduceLT, Int.reduceNeg, Int.reduceLE, appendP, appendAt, letGo, setLoc, locVal, Int.reduceToNat, boxCells, und, TG, SE, SC, unP, htu, htr, hky, hlen, loadR, loadP, lay, List.take_succ_cons, List.take_zero, List.drop_nil, List.filter_nil, List.cons_append, Int.reduceBEq, Int.reduceBNe, Int.reduceGT, Int.reduceGE, Int.reduceLT, Bool.not_true, Bool.not_false, hlen]
  exact ⟨_, rfl⟩
theorem expr_kids_0 (k n : Int) (hk6 : (k == 6) = false) (hk7 : (k == 7) = false) (hk8 : (k == 8) = false) (hk9 : (k == 9) = false) (hk10 : (k == 10) = false) (hk11 : (k == 11) = false) (hk12 : (k == 12) = false) (hk13 : (k == 13) = false) (hk14 : (k == 14) = false) (hd : kdB k n = (n == 0)) : ∃ bx, callL CC 51 [.int .i64 k, .int .i64 n] [] = some (.ret (.bool (kdB k n)), bx) := by
  rw [callL_enter (fn := Tryd.f51) (c := Tryd.f51.body.getD .skip) rfl rfl fat_expr_kids rfl ok_expr_kids (Nat.le_of_ble_eq_true rfl)]
  have hlen : True := trivial
  obtain ⟨tu, htu⟩ := VLs
  obtain ⟨tr, htr⟩ := TRs
  obtain ⟨tk, hky⟩ := KYs
  rw [hd]
  obtain ⟨ev, eo, so, co, ⟨hev, hco⟩, R⟩ := RULES CC; rw [← hev]
  simp only [fpart, part', Tryd.f51, Option.getD]
  simp (maxSteps := 5000000) only [SA, SB, SD, R, guardAt, binP, intP, indexAddrP, elemsOf, readCells, lenP, lenAt, resultsP, resultP, oneOr, reduceCtorEq, reduceIte, Nat.reduceEqDiff, Nat.reduceAdd, Nat.zero_add, Nat.reduceMul, Nat.reduceLT, Nat.reduceLeDiff, Int.reduceLT, Int.reduceNeg, Int.reduceLE, appendP, appendAt, letGo, setLoc, locVal, Int.reduceToNat, boxCells, und, TG, SE, SC, unP, htu, htr, hky, hlen, loadR, loadP, lay, List.take_succ_cons, List.take_zero, List.drop_nil, List.filter_nil, List.cons_append, Int.reduceBEq, Int.reduceBNe, Int.reduceGT, Int.reduceGE, Int.reduceLT, Bool.not_true, Bool.not_false, hk6, hk7, hk8, hk9, hk10, hk11, hk12, hk13, hk14]
  exact ⟨_, rfl⟩
theorem call_expr_kids (k n : Int) : ∃ bx, callL CC 51 [.int .i64 k, .int .i64 n] [] = some (.ret (.bool (kdB k n)), bx) := by
  by_cases c6 : k = 6
  · subst c6
    exact expr_kids_6 n
  by_cases c7 : k = 7
  · subst c7
    exact expr_kids_7 n
  by_cases c8 : k = 8
  · subst c8
    exact expr_kids_8 n
  by_cases c9 : k = 9
  · subst c9
    exact expr_kids_9 n
  by_cases c10 : k = 10
  · subst c10
    exact expr_kids_10 n
  by_cases c11 : k = 11
  · subst c11
    exact expr_kids_11 n
  by_cases c12 : k = 12
  · subst c12
    exact expr_kids_12 n
  by_cases c13 : k = 13
  · subst c13
    exact expr_kids_13 n
  by_cases c14 : k = 14
  · subst c14
    exact expr_kids_14 n
  refine expr_kids_0 k n (by simpa using c6) (by simpa using c7) (by simpa using c8) (by simpa using c9) (by simpa using c10) (by simpa using c11) (by simpa using c12) (by simpa using c13) (by simpa using c14) ?_
  unfold kdB
  rw [if_neg c6, if_neg (by omega), if_neg (by omega), if_neg c14]
theorem op_expr_kids (k n : Int) (bx) : callOp CC (callL CC) 51 [.int .i64 k, .int .i64 n] bx = some (.ret (.bool (kdB k n)), bx) := by
  obtain ⟨b, h⟩ := call_expr_kids k n
  exact callOp_of rfl (by simp only [SA, Bool.and_true]) h rfl
theorem expr_ranges_4 (n m : Int) (nm : List UInt8) (vk vn : Int) (vs : List UInt8) (dv : Int) (cl at_ : List UInt8) (xs : List PV) : ∃ bx, callL CC 53 [.agg [.int .i64 4, .int .i64 n, .int .i64 m, .str nm, .int .i64 vk, .int .i64 vn, .str vs, .int .i64 dv, .str cl, .str at_, .sl xs]] [] = some (.ret (.bool (rgB 4 n m dv)), bx) := by
  rw [callL_enter (fn := Tryd.f53) (c := Tryd.f53.body.getD .skip) rfl rfl fat_expr_ranges rfl ok_expr_ranges (Nat.le_of_ble_eq_true rfl)]
  have hlen : True := trivial
  obtain ⟨tu, htu⟩ := VLs
  obtain ⟨tr, htr⟩ := TRs
  obtain ⟨tk, hky⟩ := KYs
  by_cases c0 : n ≥ 0
  · by_cases c1 : n < 1440
    · by_cases c2 : m ≥ 0
      · by_cases c3 : m < 1440
        · rw [show rgB 4 n m dv = true by simp [rgB]; omega]
          obtain ⟨ev, eo, so, co, ⟨hev, hco⟩, R⟩ := RULES CC; rw [← hev]
          simp only [fpart, part', Tryd.f53, Option.getD]
          simp (maxSteps := 5000000) only [SA, SB, SD, R, guardAt, binP, intP, indexAddrP, elemsOf, readCells, lenP, lenAt, resultsP, resultP, oneOr, reduceCtorEq, reduceIte, Nat.reduceEqDiff, Nat.reduceAdd, Nat.zero_add, Nat.reduceMul, Nat.reduceLT, Nat.reduceLeDiff, Int.reduceLT, Int.reduceNeg, Int.reduceLE, appendP, appendAt, letGo, setLoc, locVal, Int.reduceToNat, boxCells, und, TG, SE, SC, unP, htu, htr, hky, hlen, loadR, loadP, lay, List.take_succ_cons, List.take_zero, List.drop_nil, List.filter_nil, List.cons_append, Int.reduceBEq, Int.reduceBNe, Int.reduceGT, Int.reduceGE, Int.reduceLT, Bool.not_true, Bool.not_false, c0, c1, c2, c3]
          exact ⟨_, rfl⟩
        · rw [show rgB 4 n m dv = false by simp [rgB]; omega]
          obtain ⟨ev, eo, so, co, ⟨hev, hco⟩, R⟩ := RULES CC; rw [← hev]
          simp only [fpart, part', Tryd.f53, Option.getD]
          simp (maxSteps := 5000000) only [SA, SB, SD, R, guardAt, binP, intP, indexAddrP, elemsOf, readCells, lenP, lenAt, resultsP, resultP, oneOr, reduceCtorEq, reduceIte, Nat.reduceEqDiff, Nat.reduceAdd, Nat.zero_add, Nat.reduceMul, Nat.reduceLT, Nat.reduceLeDiff, Int.reduceLT, Int.reduceNeg, Int.reduceLE, appendP, appendAt, letGo, setLoc, locVal, Int.reduceToNat, boxCells, und, TG, SE, SC, unP, htu, htr, hky, hlen, loadR, loadP, lay, List.take_succ_cons, List.take_zero, List.drop_nil, List.filter_nil, List.cons_append, Int.reduceBEq, Int.reduceBNe, Int.reduceGT, Int.reduceGE, Int.reduceLT, Bool.not_true, Bool.not_false, c0, c1, c2, c3]
          exact ⟨_, rfl⟩
      · rw [show rgB 4 n m dv = false by simp [rgB]; omega]
        obtain ⟨ev, eo, so, co, ⟨hev, hco⟩, R⟩ := RULES CC; rw [← hev]
        simp only [fpart, part', Tryd.f53, Option.getD]
        simp (maxSteps := 5000000) only [SA, SB, SD, R, guardAt, binP, intP, indexAddrP, elemsOf, readCells, lenP, lenAt, resultsP, resultP, oneOr, reduceCtorEq, reduceIte, Nat.reduceEqDiff, Nat.reduceAdd, Nat.zero_add, Nat.reduceMul, Nat.reduceLT, Nat.reduceLeDiff, Int.reduceLT, Int.reduceNeg, Int.reduceLE, appendP, appendAt, letGo, setLoc, locVal, Int.reduceToNat, boxCells, und, TG, SE, SC, unP, htu, htr, hky, hlen, loadR, loadP, lay, List.take_succ_cons, List.take_zero, List.drop_nil, List.filter_nil, List.cons_append, Int.reduceBEq, Int.reduceBNe, Int.reduceGT, Int.reduceGE, Int.reduceLT, Bool.not_true, Bool.not_false, c0, c1, c2]
        exact ⟨_, rfl⟩
    · rw [show rgB 4 n m dv = false by simp [rgB]; omega]
      obtain ⟨ev, eo, so, co, ⟨hev, hco⟩, R⟩ := RULES CC; rw [← hev]
      simp only [fpart, part', Tryd.f53, Option.getD]
      simp (maxSteps := 5000000) only [SA, SB, SD, R, guardAt, binP, intP, indexAddrP, elemsOf, readCells, lenP, lenAt, resultsP, resultP, oneOr, reduceCtorEq, reduceIte, Nat.reduceEqDiff, Nat.reduceAdd, Nat.zero_add, Nat.reduceMul, Nat.reduceLT, Nat.reduceLeDiff, Int.reduceLT, Int.reduceNeg, Int.reduceLE, appendP, appendAt, letGo, setLoc, locVal, Int.reduceToNat, boxCells, und, TG, SE, SC, unP, htu, htr, hky, hlen, loadR, loadP, lay, List.take_succ_cons, List.take_zero, List.drop_nil, List.filter_nil, List.cons_append, Int.reduceBEq, Int.reduceBNe, Int.reduceGT, Int.reduceGE, Int.reduceLT, Bool.not_true, Bool.not_false, c0, c1]
      exact ⟨_, rfl⟩
  · rw [show rgB 4 n m dv = false by simp [rgB]; omega]
    obtain ⟨ev, eo, so, co, ⟨hev, hco⟩, R⟩ := RULES CC; rw [← hev]
    simp only [fpart, part', Tryd.f53, Option.getD]
    simp (maxSteps := 5000000) only [SA, SB, SD, R, guardAt, binP, intP, indexAddrP, elemsOf, readCells, lenP, lenAt, resultsP, resultP, oneOr, reduceCtorEq, reduceIte, Nat.reduceEqDiff, Nat.reduceAdd, Nat.zero_add, Nat.reduceMul, Nat.reduceLT, Nat.reduceLeDiff, Int.reduceLT, Int.reduceNeg, Int.reduceLE, appendP, appendAt, letGo, setLoc, locVal, Int.reduceToNat, boxCells, und, TG, SE, SC, unP, htu, htr, hky, hlen, loadR, loadP, lay, List.take_succ_cons, List.take_zero, List.drop_nil, List.filter_nil, List.cons_append, Int.reduceBEq, Int.reduceBNe, Int.reduceGT, Int.reduceGE, Int.reduceLT, Bool.not_true, Bool.not_false, c0]
    exact ⟨_, rfl⟩
theorem expr_ranges_5 (n m : Int) (nm : List UInt8) (vk vn : Int) (vs : List UInt8) (dv : Int) (cl at_ : List UInt8) (xs : List PV) : ∃ bx, callL CC 53 [.agg [.int .i64 5, .int .i64 n, .int .i64 m, .str nm, .int .i64 vk, .int .i64 vn, .str vs, .int .i64 dv, .str cl, .str at_, .sl xs]] [] = some (.ret (.bool (rgB 5 n m dv)), bx) := by
  rw [callL_enter (fn := Tryd.f53) (c := Tryd.f53.body.getD .skip) rfl rfl fat_expr_ranges rfl ok_expr_ranges (Nat.le_of_ble_eq_true rfl)]
  have hlen : True := trivial
  obtain ⟨tu, htu⟩ := VLs
  obtain ⟨tr, htr⟩ := TRs
  obtain ⟨tk, hky⟩ := KYs
  by_cases c0 : n ≥ 1
  · by_cases c1 : n ≤ 127
    · rw [show rgB 5 n m dv = true by simp [rgB]; omega]
      obtain ⟨ev, eo, so, co, ⟨hev, hco⟩, R⟩ := RULES CC; rw [← hev]
      simp only [fpart, part', Tryd.f53, Option.getD]
      simp (maxSteps := 5000000) only [SA, SB, SD, R, guardAt, binP, intP, indexAddrP, elemsOf, readCells, lenP, lenAt, resultsP, resultP, oneOr, reduceCtorEq, reduceIte, Nat.reduceEqDiff, Nat.reduceAdd, Nat.zero_add, Nat.reduceMul, Nat.reduceLT, Nat.reduceLeDiff, Int.reduceLT, Int.reduceNeg, Int.reduceLE, appendP, appendAt, letGo, setLoc, locVal, Int.reduceToNat, boxCells, und, TG, SE, SC, unP, htu, htr, hky, hlen, loadR, loadP, lay, List.take_succ_cons, List.take_zero, List.drop_nil, List.filter_nil, List.cons_append, Int.reduceBEq, Int.reduceBNe, Int.reduceGT, Int.reduceGE, Int.reduceLT, Bool.not_true, Bool.not_false, c0, c1]
      exact ⟨_, rfl⟩
    · rw [show rgB 5 n m dv = false by simp [rgB]; omega]
      obtain ⟨ev, eo, so, co, ⟨hev, hco⟩, R⟩ := RULES CC; rw [← hev]
      simp only [fpart, part', Tryd.f53, Option.getD]
      simp (maxSteps := 5000000) only [SA, SB, SD, R, guardAt, binP, intP, indexAddrP, elemsOf, readCells, lenP, lenAt, resultsP, resultP, oneOr, reduceCtorEq, reduceIte, Nat.reduceEqDiff, Nat.reduceAdd, Nat.zero_add, Nat.reduceMul, Nat.reduceLT, Nat.reduceLeDiff, Int.reduceLT, Int.reduceNeg, Int.reduceLE, appendP, appendAt, letGo, setLoc, locVal, Int.reduceToNat, boxCells, und, TG, SE, SC, unP, htu, htr, hky, hlen, loadR, loadP, lay, List.take_succ_cons, List.take_zero, List.drop_nil, List.filter_nil, List.cons_append, Int.reduceBEq, Int.reduceBNe, Int.reduceGT, Int.reduceGE, Int.reduceLT, Bool.not_true, Bool.not_false, c0, c1]
      exact ⟨_, rfl⟩
  · rw [show rgB 5 n m dv = false by simp [rgB]; omega]
    obtain ⟨ev, eo, so, co, ⟨hev, hco⟩, R⟩ := RULES CC; rw [← hev]
    simp only [fpart, part', Tryd.f53, Option.getD]
    simp (maxSteps := 5000000) only [SA, SB, SD, R, guardAt, binP, intP, indexAddrP, elemsOf, readCells, lenP, lenAt, resultsP, resultP, oneOr, reduceCtorEq, reduceIte, Nat.reduceEqDiff, Nat.reduceAdd, Nat.zero_add, Nat.reduceMul, Nat.reduceLT, Nat.reduceLeDiff, Int.reduceLT, Int.reduceNeg, Int.reduceLE, appendP, appendAt, letGo, setLoc, locVal, Int.reduceToNat, boxCells, und, TG, SE, SC, unP, htu, htr, hky, hlen, loadR, loadP, lay, List.take_succ_cons, List.take_zero, List.drop_nil, List.filter_nil, List.cons_append, Int.reduceBEq, Int.reduceBNe, Int.reduceGT, Int.reduceGE, Int.reduceLT, Bool.not_true, Bool.not_false, c0]
    exact ⟨_, rfl⟩
theorem expr_ranges_15 (n m : Int) (nm : List UInt8) (vk vn : Int) (vs : List UInt8) (dv : Int) (cl at_ : List UInt8) (xs : List PV) : ∃ bx, callL CC 53 [.agg [.int .i64 15, .int .i64 n, .int .i64 m, .str nm, .int .i64 vk, .int .i64 vn, .str vs, .int .i64 dv, .str cl, .str at_, .sl xs]] [] = some (.ret (.bool (rgB 15 n m dv)), bx) := by
  rw [callL_enter (fn := Tryd.f53) (c := Tryd.f53.body.getD .skip) rfl rfl fat_expr_ranges rfl ok_expr_ranges (Nat.le_of_ble_eq_true rfl)]
  have hlen : True := trivial
  obtain ⟨tu, htu⟩ := VLs
  obtain ⟨tr, htr⟩ := TRs
  obtain ⟨tk, hky⟩ := KYs
  by_cases c0 : n ≥ 0
  · by_cases c1 : n ≤ 4
    · rw [show rgB 15 n m dv = true by simp [rgB]; omega]
      obtain ⟨ev, eo, so, co, ⟨hev, hco⟩, R⟩ := RULES CC; rw [← hev]
      simp only [fpart, part', Tryd.f53, Option.getD]
      simp (maxSteps := 5000000) only [SA, SB, SD, R, guardAt, binP, intP, indexAddrP, elemsOf, readCells, lenP, lenAt, resultsP, resultP, oneOr, reduceCtorEq, reduceIte, Nat.reduceEqDiff, Nat.reduceAdd, Nat.zero_add, Nat.reduceMul, Nat.reduceLT, Nat.reduceLeDiff, Int.reduceLT, Int.reduceNeg, Int.reduceLE, appendP, appendAt, letGo, setLoc, locVal, Int.reduceToNat, boxCells, und, TG, SE, SC, unP, htu, htr, hky, hlen, loadR, loadP, lay, List.take_succ_cons, List.take_zero, List.drop_nil, List.filter_nil, List.cons_append, Int.reduceBEq, Int.reduceBNe, Int.reduceGT, Int.reduceGE, Int.reduceLT, Bool.not_true, Bool.not_false, c0, c1]
      exact ⟨_, rfl⟩
    · rw [show rgB 15 n m dv = false by simp [rgB]; omega]
      obtain ⟨ev, eo, so, co, ⟨hev, hco⟩, R⟩ := RULES CC; rw [← hev]
      simp only [fpart, part', Tryd.f53, Option.getD]
      simp (maxSteps := 5000000) only [SA, SB, SD, R, guardAt, binP, intP, indexAddrP, elemsOf, readCells, lenP, lenAt, resultsP, resultP, oneOr, reduceCtorEq, reduceIte, Nat.reduceEqDiff, Nat.reduceAdd, Nat.zero_add, Nat.reduceMul, Nat.reduceLT, Nat.reduceLeDiff, Int.reduceLT, Int.reduceNeg, Int.reduceLE, appendP, appendAt, letGo, setLoc, locVal, Int.reduceToNat, boxCells, und, TG, SE, SC, unP, htu, htr, hky, hlen, loadR, loadP, lay, List.take_succ_cons, List.take_zero, List.drop_nil, List.filter_nil, List.cons_append, Int.reduceBEq, Int.reduceBNe, Int.reduceGT, Int.reduceGE, Int.reduceLT, Bool.not_true, Bool.not_false, c0, c1]
      exact ⟨_, rfl⟩
  · rw [show rgB 15 n m dv = false by simp [rgB]; omega]
    obtain ⟨ev, eo, so, co, ⟨hev, hco⟩, R⟩ := RULES CC; rw [← hev]
    simp only [fpart, part', Tryd.f53, Option.getD]
    simp (maxSteps := 5000000) only [SA, SB, SD, R, guardAt, binP, intP, indexAddrP, elemsOf, readCells, lenP, lenAt, resultsP, resultP, oneOr, reduceCtorEq, reduceIte, Nat.reduceEqDiff, Nat.reduceAdd, Nat.zero_add, Nat.reduceMul, Nat.reduceLT, Nat.reduceLeDiff, Int.reduceLT, Int.reduceNeg, Int.reduceLE, appendP, appendAt, letGo, setLoc, locVal, Int.reduceToNat, boxCells, und, TG, SE, SC, unP, htu, htr, hky, hlen, loadR, loadP, lay, List.take_succ_cons, List.take_zero, List.drop_nil, List.filter_nil, List.cons_append, Int.reduceBEq, Int.reduceBNe, Int.reduceGT, Int.reduceGE, Int.reduceLT, Bool.not_true, Bool.not_false, c0]
    exact ⟨_, rfl⟩
theorem expr_ranges_2 (n m : Int) (nm : List UInt8) (vk vn : Int) (vs : List UInt8) (dv : Int) (cl at_ : List UInt8) (xs : List PV) : ∃ bx, callL CC 53 [.agg [.int .i64 2, .int .i64 n, .int .i64 m, .str nm, .int .i64 vk, .int .i64 vn, .str vs, .int .i64 dv, .str cl, .str at_, .sl xs]] [] = some (.ret (.bool (rgB 2 n m dv)), bx) := by
  rw [callL_enter (fn := Tryd.f53) (c := Tryd.f53.body.getD .skip) rfl rfl fat_expr_ranges rfl ok_expr_ranges (Nat.le_of_ble_eq_true rfl)]
  have hlen : True := trivial
  obtain ⟨tu, htu⟩ := VLs
  obtain ⟨tr, htr⟩ := TRs
  obtain ⟨tk, hky⟩ := KYs
  by_cases c0 : dv ≥ 1
  · by_cases c1 : dv ≤ 250
    · rw [show rgB 2 n m dv = true by simp [rgB]; omega]
      obtain ⟨ev, eo, so, co, ⟨hev, hco⟩, R⟩ := RULES CC; rw [← hev]
      simp only [fpart, part', Tryd.f53, Option.getD]
      simp (maxSteps := 5000000) only [SA, SB, SD, R, guardAt, binP, intP, indexAddrP, elemsOf, readCells, lenP, lenAt, resultsP, resultP, oneOr, reduceCtorEq, reduceIte, Nat.reduceEqDiff, Nat.reduceAdd, Nat.zero_add, Nat.reduceMul, Nat.reduceLT, Nat.reduceLeDiff, Int.reduceLT, Int.reduceNeg, Int.reduceLE, appendP, appendAt, letGo, setLoc, locVal, Int.reduceToNat, boxCells, und, TG, SE, SC, unP, htu, htr, hky, hlen, loadR, loadP, lay, List.take_succ_cons, List.take_zero, List.drop_nil, List.filter_nil, List.cons_append, Int.reduceBEq, Int.reduceBNe, Int.reduceGT, Int.reduceGE, Int.reduceLT, Bool.not_true, Bool.not_false, c0, c1]
      exact ⟨_, rfl⟩
    · rw [show rgB 2 n m dv = false by simp [rgB]; omega]
      obtain ⟨ev, eo, so, co, ⟨hev, hco⟩, R⟩ := RULES CC; rw [← hev]
      simp only [fpart, part', Tryd.f53, Option.getD]
      simp (maxSteps := 5000000) only [SA, SB, SD, R, guardAt, binP, intP, indexAddrP, elemsOf, readCells, lenP, lenAt, resultsP, resultP, oneOr, reduceCtorEq, reduceIte, Nat.reduceEqDiff, Nat.reduceAdd, Nat.zero_add, Nat.reduceMul, Nat.reduceLT, Nat.reduceLeDiff, Int.reduceLT, Int.reduceNeg, Int.reduceLE, appendP, appendAt, letGo, setLoc, locVal, Int.reduceToNat, boxCells, und, TG, SE, SC, unP, htu, htr, hky, hlen, loadR, loadP, lay, List.take_succ_cons, List.take_zero, List.drop_nil, List.filter_nil, List.cons_append, Int.reduceBEq, Int.reduceBNe, Int.reduceGT, Int.reduceGE, Int.reduceLT, Bool.not_true, Bool.not_false, c0, c1]
      exact ⟨_, rfl⟩
  · rw [show rgB 2 n m dv = false by simp [rgB]; omega]
    obtain ⟨ev, eo, so, co, ⟨hev, hco⟩, R⟩ := RULES CC; rw [← hev]
    simp only [fpart, part', Tryd.f53, Option.getD]
    simp (maxSteps := 5000000) only [SA, SB, SD, R, guardAt, binP, intP, indexAddrP, elemsOf, readCells, lenP, lenAt, resultsP, resultP, oneOr, reduceCtorEq, reduceIte, Nat.reduceEqDiff, Nat.reduceAdd, Nat.zero_add, Nat.reduceMul, Nat.reduceLT, Nat.reduceLeDiff, Int.reduceLT, Int.reduceNeg, Int.reduceLE, appendP, appendAt, letGo, setLoc, locVal, Int.reduceToNat, boxCells, und, TG, SE, SC, unP, htu, htr, hky, hlen, loadR, loadP, lay, List.take_succ_cons, List.take_zero, List.drop_nil, List.filter_nil, List.cons_append, Int.reduceBEq, Int.reduceBNe, Int.reduceGT, Int.reduceGE, Int.reduceLT, Bool.not_true, Bool.not_false, c0]
    exact ⟨_, rfl⟩
theorem expr_ranges_0 (k : Int) (hk4 : (k == 4) = false) (hk5 : (k == 5) = false) (hk15 : (k == 15) = false) (hk2 : (k == 2) = false) (n m : Int) (nm : List UInt8) (vk vn : Int) (vs : List UInt8) (dv : Int) (cl at_ : List UInt8) (xs : List PV) (hd : rgB k n m dv = true) : ∃ bx, callL CC 53 [.agg [.int .i64 k, .int .i64 n, .int .i64 m, .str nm, .int .i64 vk, .int .i64 vn, .str vs, .int .i64 dv, .str cl, .str at_, .sl xs]] [] = some (.ret (.bool (rgB k n m dv)), bx) := by
  rw [callL_enter (fn := Tryd.f53) (c := Tryd.f53.body.getD .skip) rfl rfl fat_expr_ranges rfl ok_expr_ranges (Nat.le_of_ble_eq_true rfl)]
  have hlen : True := trivial
  obtain ⟨tu, htu⟩ := VLs
  obtain ⟨tr, htr⟩ := TRs
  obtain ⟨tk, hky⟩ := KYs
  rw [hd]
  obtain ⟨ev, eo, so, co, ⟨hev, hco⟩, R⟩ := RULES CC; rw [← hev]
  simp only [fpart, part', Tryd.f53, Option.getD]
  simp (maxSteps := 5000000) only [SA, SB, SD, R, guardAt, binP, intP, indexAddrP, elemsOf, readCells, lenP, lenAt, resultsP, resultP, oneOr, reduceCtorEq, reduceIte, Nat.reduceEqDiff, Nat.reduceAdd, Nat.zero_add, Nat.reduceMul, Nat.reduceLT, Nat.reduceLeDiff, Int.reduceLT, Int.reduceNeg, Int.reduceLE, appendP, appendAt, letGo, setLoc, locVal, Int.reduceToNat, boxCells, und, TG, SE, SC, unP, htu, htr, hky, hlen, loadR, loadP, lay, List.take_succ_cons, List.take_zero, List.drop_nil, List.filter_nil, List.cons_append, Int.reduceBEq, Int.reduceBNe, Int.reduceGT, Int.reduceGE, Int.reduceLT, Bool.not_true, Bool.not_false, hk4, hk5, hk15, hk2]
  exact ⟨_, rfl⟩
def rgT : Tr → Bool
  | .mk k n m nm v key kids => rgB k n m key.1
theorem call_expr_ranges (t : Tr) : ∃ bx, callL CC 53 [trV t] [] = some (.ret (.bool (rgT t)), bx) := by
  obtain ⟨k, n, m, nm, v, key, kids⟩ := t
  obtain ⟨vk, vn, vs⟩ := v
  obtain ⟨dv, cl, at_⟩ := key
  unfold trV rgT
  by_cases c4 : k = 4
  · subst c4
    exact expr_ranges_4 n m nm vk vn vs dv cl at_ (trVs kids)
  by_cases c5 : k = 5
  · subst c5
    exact expr_ranges_5 n m nm vk vn vs dv cl at_ (trVs kids)
  by_cases c15 : k = 15
  · subst c15
    exact expr_ranges_15 n m nm vk vn vs dv cl at_ (trVs kids)
  by_cases c2 : k = 2
  · subst c2
    exact expr_ranges_2 n m nm vk vn vs dv cl at_ (trVs kids)
  refine expr_ranges_0 k (by simpa using c4) (by simpa using c5) (by simpa using c15) (by simpa using c2) n m nm vk vn vs dv cl at_ (trVs kids) ?_
  unfold rgB
  rw [if_neg c4, if_neg c5, if_neg c15, if_neg c2]
theorem op_expr_ranges (t : Tr) (bx) : callOp CC (callL CC) 53 [trV t] bx = some (.ret (.bool (rgT t)), bx) := by
  obtain ⟨b, h⟩ := call_expr_ranges t
  exact callOp_of rfl (by simp only [pureL_cons, trV_pure, pureL_nil, Bool.and_self]) h rfl
/-- the texts of a node are short -/
def shN : Tr → Prop
  | .mk k n m nm v key kids => nm.length ≤ 100 ∧ v.2.2.length ≤ 100 ∧ key.2.1.length ≤ 100 ∧ key.2.2.length ≤ 100
theorem call_expr_node (t : Tr) (hs : shN t) : ∃ bx, callL CC 34 [trV t] [] = some (.ret (.int .i64 (ndT t)), bx) := by
  obtain ⟨k, n, m, nm, v, key, kids⟩ := t
  have osp := op_expr_spare (.mk k n m nm v key kids)
  have org := op_expr_ranges (.mk k n m nm v key kids)
  have okd := op_expr_kids k kids.length
  have ock := op_value_Check v
  obtain ⟨vk, vn, vs⟩ := v
  obtain ⟨dv, cl, at_⟩ := key
  obtain ⟨s1, s2, s3, s4⟩ := hs
  simp only at s1 s2 s3 s4
  have ov1 := op_names_Valid nm (by omega)
  have ov2 := op_names_Valid cl (by omega)
  have ov3 := op_names_Valid at_ (by omega)
  have hln := trVs_length kids
  unfold trV at osp org ⊢
  unfold vlV at ock
  unfold ndT
  unfold rgT at org
  simp only at osp org ock ⊢
  rw [callL_enter (fn := Tryd.f34) (c := Tryd.f34.body.getD .skip) rfl rfl fat_expr_node rfl ok_expr_node (Nat.le_of_ble_eq_true rfl)]
  have hlen : True := trivial
  obtain ⟨tu, htu⟩ := VLs
  obtain ⟨tr, htr⟩ := TRs
  obtain ⟨tk, hky⟩ := KYs
  generalize kdB k kids.length = b1 at *
  generalize spT (.mk k n m nm (vk, vn, vs) (dv, cl, at_) kids) = b2 at *
  generalize rgB k n m dv = b3 at *
  generalize valB nm = b4 at *
  generalize valB cl = b5 at *
  generalize valB at_ = b6 at *
  generalize ckV (vk, vn, vs) = ck at *
  generalize trVs kids = xs at *
  by_cases c1 : k < 1
  · rw [if_pos (by omega)]
    obtain ⟨ev, eo, so, co, ⟨hev, hco⟩, R⟩ := RULES CC; rw [← hev]
    rw [← hco] at osp org okd ock ov1 ov2 ov3
    simp only [fpart, part', Tryd.f34, Option.getD]
    simp (maxSteps := 5000000) only [SA, SB, SD, R, guardAt, binP, intP, indexAddrP, elemsOf, readCells, lenP, lenAt, resultsP, resultP, oneOr, reduceCtorEq, reduceIte, Nat.reduceEqDiff, Nat.reduceAdd, Nat.zero_add, Nat.reduceMul, Nat.reduceLT, Nat.reduceLeDiff, Int.reduceLT, Int.reduceNeg, Int.reduceLE, appendP, appendAt, letGo, setLoc, locVal, Int.reduceToNat, boxCells, und, TG, SE, SC, unP, htu, htr, hky, hlen, loadR, loadP, lay, List.take_succ_cons, List.take_zero, List.drop_nil, List.filter_nil, List.cons_append, Int.reduceBEq, Int.reduceBNe, Int.reduceGT, Int.reduceGE, Int.reduceLT, Bool.not_true, Bool.not_false, hln, osp, org, okd, ock, ov1, ov2, ov3, c1]
    exact ⟨_, rfl⟩
  by_cases c2 : k > 15
  · rw [if_pos (by omega)]
    obtain ⟨ev, eo, so, co, ⟨hev, hco⟩, R⟩ := RULES CC; rw [← hev]
    rw [← hco] at osp org okd ock ov1 ov2 ov3
    simp only [fpart, part', Tryd.f34, Option.getD]
    simp (maxSteps := 5000000) only [SA, SB, SD, R, guardAt, binP, intP, indexAddrP, elemsOf, readCells, lenP, lenAt, resultsP, resultP, oneOr, reduceCtorEq, reduceIte, Nat.reduceEqDiff, Nat.reduceAdd, Nat.zero_add, Nat.reduceMul, Nat.reduceLT, Nat.reduceLeDiff, Int.reduceLT, Int.reduceNeg, Int.reduceLE, appendP, appendAt, letGo, setLoc, locVal, Int.reduceToNat, boxCells, und, TG, SE, SC, unP, htu, htr, hky, hlen, loadR, loadP, lay, List.take_succ_cons, List.take_zero, List.drop_nil, List.filter_nil, List.cons_append, Int.reduceBEq, Int.reduceBNe, Int.reduceGT, Int.reduceGE, Int.reduceLT, Bool.not_true, Bool.not_false, hln, osp, org, okd, ock, ov1, ov2, ov3, c1, c2]
    exact ⟨_, rfl⟩
  cases b1 with
  | false =>
    rw [if_neg (by omega), if_pos (.inl rfl)]
    obtain ⟨ev, eo, so, co, ⟨hev, hco⟩, R⟩ := RULES CC; rw [← hev]
    rw [← hco] at osp org okd ock ov1 ov2 ov3
    simp only [fpart, part', Tryd.f34, Option.getD]
    simp (maxSteps := 5000000) only [SA, SB, SD, R, guardAt, binP, intP, indexAddrP, elemsOf, readCells, lenP, lenAt, resultsP, resultP, oneOr, reduceCtorEq, reduceIte, Nat.reduceEqDiff, Nat.reduceAdd, Nat.zero_add, Nat.reduceMul, Nat.reduceLT, Nat.reduceLeDiff, Int.reduceLT, Int.reduceNeg, Int.reduceLE, appendP, appendAt, letGo, setLoc, locVal, Int.reduceToNat, boxCells, und, TG, SE, SC, unP, htu, htr, hky, hlen, loadR, loadP, lay, List.take_succ_cons, List.take_zero, List.drop_nil, List.filter_nil, List.cons_append, Int.reduceBEq, Int.reduceBNe, Int.reduceGT, Int.reduceGE, Int.reduceLT, Bool.not_true, Bool.not_false, hln, osp, org, okd, ock, ov1, ov2, ov3, c1, c2]
    exact ⟨_, rfl⟩
  | true =>
    cases b2 with
    | true =>
      rw [if_neg (by omega), if_pos (.inr rfl)]
      obtain ⟨ev, eo, so, co, ⟨hev, hco⟩, R⟩ := RULES CC; rw [← hev]
      rw [← hco] at osp org okd ock ov1 ov2 ov3
      simp only [fpart, part', Tryd.f34, Option.getD]
      simp (maxSteps := 5000000) only [SA, SB, SD, R, guardAt, binP, intP, indexAddrP, elemsOf, readCells, lenP, lenAt, resultsP, resultP, oneOr, reduceCtorEq, reduceIte, Nat.reduceEqDiff, Nat.reduceAdd, Nat.zero_add, Nat.reduceMul, Nat.reduceLT, Nat.reduceLeDiff, Int.reduceLT, Int.reduceNeg, Int.reduceLE, appendP, appendAt, letGo, setLoc, locVal, Int.reduceToNat, boxCells, und, TG, SE, SC, unP, htu, htr, hky, hlen, loadR, loadP, lay, List.take_succ_cons, List.take_zero, List.drop_nil, List.filter_nil, List.cons_append, Int.reduceBEq, Int.reduceBNe, Int.reduceGT, Int.reduceGE, Int.reduceLT, Bool.not_true, Bool.not_false, hln, osp, org, okd, ock, ov1, ov2, ov3, c1, c2]
      exact ⟨_, rfl⟩
    | false =>
      cases b3 with
      | false =>
        rw [if_neg (by omega), if_neg (by simp), if_pos rfl]
        obtain ⟨ev, eo, so, co, ⟨hev, hco⟩, R⟩ := RULES CC; rw [← hev]
        rw [← hco] at osp org okd ock ov1 ov2 ov3
        simp only [fpart, part', Tryd.f34, Option.getD]
        simp (maxSteps := 5000000) only [SA, SB, SD, R, guardAt, binP, intP, indexAddrP, elemsOf, readCells, lenP, lenAt, resultsP, resultP, oneOr, reduceCtorEq, reduceIte, Nat.reduceEqDiff, Nat.reduceAdd, Nat.zero_add, Nat.reduceMul, Nat.reduceLT, Nat.reduceLeDiff, Int.reduceLT, Int.reduceNeg, Int.reduceLE, appendP, appendAt, letGo, setLoc, locVal, Int.reduceToNat, boxCells, und, TG, SE, SC, unP, htu, htr, hky, hlen, loadR, loadP, lay, List.take_succ_cons, List.take_zero, List.drop_nil, List.filter_nil, List.cons_append, Int.reduceBEq, Int.reduceBNe, Int.reduceGT, Int.reduceGE, Int.reduceLT, Bool.not_true, Bool.not_false, hln, osp, org, okd, ock, ov1, ov2, ov3, c1, c2]
        exact ⟨_, rfl⟩
      | true =>
        by_cases d3 : k = 3
        · subst d3
          cases b4 with
          | false =>
            rw [if_neg (by omega), if_neg (by simp), if_neg (by simp), if_pos rfl, if_neg (by simp)]
            obtain ⟨ev, eo, so, co, ⟨hev, hco⟩, R⟩ := RULES CC; rw [← hev]
            rw [← hco] at osp org okd ock ov1 ov2 ov3
            simp only [fpart, part', Tryd.f34, Option.getD]
            simp (maxSteps := 5000000) only [SA, SB, SD, R, guardAt, binP, intP, indexAddrP, elemsOf, readCells, lenP, lenAt, resultsP, resultP, oneOr, reduceCtorEq, reduceIte, Nat.reduceEqDiff, Nat.reduceAdd, Nat.zero_add, Nat.reduceMul, Nat.reduceLT, Nat.reduceLeDiff, Int.reduceLT, Int.reduceNeg, Int.reduceLE, appendP, appendAt, letGo, setLoc, locVal, Int.reduceToNat, boxCells, und, TG, SE, SC, unP, htu, htr, hky, hlen, loadR, loadP, lay, List.take_succ_cons, List.take_zero, List.drop_nil, List.filter_nil, List.cons_append, Int.reduceBEq, Int.reduceBNe, Int.reduceGT, Int.reduceGE, Int.reduceLT, Bool.not_true, Bool.not_false, hln, osp, org, okd, ock, ov1, ov2, ov3, c1, c2]
            exact ⟨_, rfl⟩
          | true =>
            rw [if_neg (by omega), if_neg (by simp), if_neg (by simp), if_pos rfl, if_pos rfl]
            obtain ⟨ev, eo, so, co, ⟨hev, hco⟩, R⟩ := RULES CC; rw [← hev]
            rw [← hco] at osp org okd ock ov1 ov2 ov3
            simp only [fpart, part', Tryd.f34, Option.getD]
            simp (maxSteps := 5000000) only [SA, SB, SD, R, guardAt, binP, intP, indexAddrP, elemsOf, readCells, lenP, lenAt, resultsP, resultP, oneOr, reduceCtorEq, reduceIte, Nat.reduceEqDiff, Nat.reduceAdd, Nat.zero_add, Nat.reduceMul, Nat.reduceLT, Nat.reduceLeDiff, Int.reduceLT, Int.reduceNeg, Int.reduceLE, appendP, appendAt, letGo, setLoc, locVal, Int.reduceToNat, boxCells, und, TG, SE, SC, unP, htu, htr, hky, hlen, loadR, loadP, lay, List.take_succ_cons, List.take_zero, List.drop_nil, List.filter_nil, List.cons_append, Int.reduceBEq, Int.reduceBNe, Int.reduceGT, Int.reduceGE, Int.reduceLT, Bool.not_true, Bool.not_false, hln, osp, org, okd, ock, ov1, ov2, ov3, c1, c2]
            exact ⟨_, rfl⟩
        · by_cases d2 : k = 2
          · subst d2
            cases b5 with
            | false =>
              rw [if_neg (by omega), if_neg (by simp), if_neg (by simp), if_neg (by omega), if_pos rfl, if_neg (by simp)]
              obtain ⟨ev, eo, so, co, ⟨hev, hco⟩, R⟩ := RULES CC; rw [← hev]
              rw [← hco] at osp org okd ock ov1 ov2 ov3
              simp only [fpart, part', Tryd.f34, Option.getD]
              simp (maxSteps := 5000000) only [SA, SB, SD, R, guardAt, binP, intP, indexAddrP, elemsOf, readCells, lenP, lenAt, resultsP, resultP, oneOr, reduceCtorEq, reduceIte, Nat.reduceEqDiff, Nat.reduceAdd, Nat.zero_add, Nat.reduceMul, Nat.reduceLT, Nat.reduceLeDiff, Int.reduceLT, Int.reduceNeg, Int.reduceLE, appendP, appendAt, letGo, setLoc, locVal, Int.reduceToNat, boxCells, und, TG, SE, SC, unP, htu, htr, hky, hlen, loadR, loadP, lay, List.take_succ_cons, List.take_zero, List.drop_nil, List.filter_nil, List.cons_append, Int.reduceBEq, Int.reduceBNe, Int.reduceGT, Int.reduceGE, Int.reduceLT, Bool.not_true, Bool.not_false, hln, osp, org, okd, ock, ov1, ov2, ov3, c1, c2]
              exact ⟨_, rfl⟩
            | true =>
              cases b6 with
              | false =>
                rw [if_neg (by omega), if_neg (by simp), if_neg (by simp), if_neg (by omega), if_pos rfl, if_neg (by simp)]
                obtain ⟨ev, eo, so, co, ⟨hev, hco⟩, R⟩ := RULES CC; rw [← hev]
                rw [← hco] at osp org okd ock ov1 ov2 ov3
                simp only [fpart, part', Tryd.f34, Option.getD]
                simp (maxSteps := 5000000) only [SA, SB, SD, R, guardAt, binP, intP, indexAddrP, elemsOf, readCells, lenP, lenAt, resultsP, resultP, oneOr, reduceCtorEq, reduceIte, Nat.reduceEqDiff, Nat.reduceAdd, Nat.zero_add, Nat.reduceMul, Nat.reduceLT, Nat.reduceLeDiff, Int.reduceLT, Int.reduceNeg, Int.reduceLE, appendP, appendAt, letGo, setLoc, locVal, Int.reduceToNat, boxCells, und, TG, SE, SC, unP, htu, htr, hky, hlen, loadR, loadP, lay, List.take_succ_cons, List.take_zero, List.drop_nil, List.filter_nil, List.cons_append, Int.reduceBEq, Int.reduceBNe, Int.reduceGT, Int.reduceGE, Int.reduceLT, Bool.not_true, Bool.not_false, hln, osp, org, okd, ock, ov1, ov2, ov3, c1, c2]
                exact ⟨_, rfl⟩
              | true =>
                rw [if_neg (by omega), if_neg (by simp), if_neg (by simp), if_neg (by omega), if_pos rfl, if_pos (by simp)]
                obtain ⟨ev, eo, so, co, ⟨hev, hco⟩, R⟩ := RULES CC; rw [← hev]
                rw [← hco] at osp org okd ock ov1 ov2 ov3
                simp only [fpart, part', Tryd.f34, Option.getD]
                simp (maxSteps := 5000000) only [SA, SB, SD, R, guardAt, binP, intP, indexAddrP, elemsOf, readCells, lenP, lenAt, resultsP, resultP, oneOr, reduceCtorEq, reduceIte, Nat.reduceEqDiff, Nat.reduceAdd, Nat.zero_add, Nat.reduceMul, Nat.reduceLT, Nat.reduceLeDiff, Int.reduceLT, Int.reduceNeg, Int.reduceLE, appendP, appendAt, letGo, setLoc, locVal, Int.reduceToNat, boxCells, und, TG, SE, SC, unP, htu, htr, hky, hlen, loadR, loadP, lay, List.take_succ_cons, List.take_zero, List.drop_nil, List.filter_nil, List.cons_append, Int.reduceBEq, Int.reduceBNe, Int.reduceGT, Int.reduceGE, Int.reduceLT, Bool.not_true, Bool.not_false, hln, osp, org, okd, ock, ov1, ov2, ov3, c1, c2]
                exact ⟨_, rfl⟩
          · by_cases d1 : k = 1
            · subst d1
              by_cases e1 : ck = 0
              · subst e1
                by_cases e2 : vk = 0
                · subst e2
                  rw [if_neg (by omega), if_neg (by simp), if_neg (by simp), if_neg (by omega), if_neg (by omega), if_pos rfl, if_neg (by simp), if_pos rfl]
                  obtain ⟨ev, eo, so, co, ⟨hev, hco⟩, R⟩ := RULES CC; rw [← hev]
                  rw [← hco] at osp org okd ock ov1 ov2 ov3
                  simp only [fpart, part', Tryd.f34, Option.getD]
                  simp (maxSteps := 5000000) only [SA, SB, SD, R, guardAt, binP, intP, indexAddrP, elemsOf, readCells, lenP, lenAt, resultsP, resultP, oneOr, reduceCtorEq, reduceIte, Nat.reduceEqDiff, Nat.reduceAdd, Nat.zero_add, Nat.reduceMul, Nat.reduceLT, Nat.reduceLeDiff, Int.reduceLT, Int.reduceNeg, Int.reduceLE, appendP, appendAt, letGo, setLoc, locVal, Int.reduceToNat, boxCells, und, TG, SE, SC, unP, htu, htr, hky, hlen, loadR, loadP, lay, List.take_succ_cons, List.take_zero, List.drop_nil, List.filter_nil, List.cons_append, Int.reduceBEq, Int.reduceBNe, Int.reduceGT, Int.reduceGE, Int.reduceLT, Bool.not_true, Bool.not_false, hln, osp, org, okd, ock, ov1, ov2, ov3, c1, c2]
                  exact ⟨_, rfl⟩
                · have e2p : (vk == 0) = false := by simpa using e2
                  rw [if_neg (by omega), if_neg (by simp), if_neg (by simp), if_neg (by omega), if_neg (by omega), if_pos rfl, if_neg (by simp), if_neg e2]
                  obtain ⟨ev, eo, so, co, ⟨hev, hco⟩, R⟩ := RULES CC; rw [← hev]
                  rw [← hco] at osp org okd ock ov1 ov2 ov3
                  simp only [fpart, part', Tryd.f34, Option.getD]
                  simp (maxSteps := 5000000) only [SA, SB, SD, R, guardAt, binP, intP, indexAddrP, elemsOf, readCells, lenP, lenAt, resultsP, resultP, oneOr, reduceCtorEq, reduceIte, Nat.reduceEqDiff, Nat.reduceAdd, Nat.zero_add, Nat.reduceMul, Nat.reduceLT, Nat.reduceLeDiff, Int.reduceLT, Int.reduceNeg, Int.reduceLE, appendP, appendAt, letGo, setLoc, locVal, Int.reduceToNat, boxCells, und, TG, SE, SC, unP, htu, htr, hky, hlen, loadR, loadP, lay, List.take_succ_cons, List.take_zero, List.drop_nil, List.filter_nil, List.cons_append, Int.reduceBEq, Int.reduceBNe, Int.reduceGT, Int.reduceGE, Int.reduceLT, Bool.not_true, Bool.not_false, hln, osp, org, okd, ock, ov1, ov2, ov3, c1, c2, e2p]
                  exact ⟨_, rfl⟩
              · have e1p : (ck != 0) = true := by simpa using e1
                rw [if_neg (by omega), if_neg (by simp), if_neg (by simp), if_neg (by omega), if_neg (by omega), if_pos rfl, if_pos e1]
                obtain ⟨ev, eo, so, co, ⟨hev, hco⟩, R⟩ := RULES CC; rw [← hev]
                rw [← hco] at osp org okd ock ov1 ov2 ov3
                simp only [fpart, part', Tryd.f34, Option.getD]
                simp (maxSteps := 5000000) only [SA, SB, SD, R, guardAt, binP, intP, indexAddrP, elemsOf, readCells, lenP, lenAt, resultsP, resultP, oneOr, reduceCtorEq, reduceIte, Nat.reduceEqDiff, Nat.reduceAdd, Nat.zero_add, Nat.reduceMul, Nat.reduceLT, Nat.reduceLeDiff, Int.reduceLT, Int.reduceNeg, Int.reduceLE, appendP, appendAt, letGo, setLoc, locVal, Int.reduceToNat, boxCells, und, TG, SE, SC, unP, htu, htr, hky, hlen, loadR, loadP, lay, List.take_succ_cons, List.take_zero, List.drop_nil, List.filter_nil, List.cons_append, Int.reduceBEq, Int.reduceBNe, Int.reduceGT, Int.reduceGE, Int.reduceLT, Bool.not_true, Bool.not_false, hln, osp, org, okd, ock, ov1, ov2, ov3, c1, c2, e1p]
                exact ⟨_, rfl⟩
            · have d1p : (k == 1) = false := by simpa using d1
              have d2p : (k == 2) = false := by simpa using d2
              have d3p : (k == 3) = false := by simpa using d3
              rw [if_neg (by omega), if_neg (by simp), if_neg (by simp), if_neg d3, if_neg d2, if_neg d1]
              obtain ⟨ev, eo, so, co, ⟨hev, hco⟩, R⟩ := RULES CC; rw [← hev]
              rw [← hco] at osp org okd ock ov1 ov2 ov3
              simp only [fpart, part', Tryd.f34, Option.getD]
              simp (maxSteps := 5000000) only [SA, SB, SD, R, guardAt, binP, intP, indexAddrP, elemsOf, readCells, lenP, lenAt, resultsP, resultP, oneOr, reduceCtorEq, reduceIte, Nat.reduceEqDiff, Nat.reduceAdd, Nat.zero_add, Nat.reduceMul, Nat.reduceLT, Nat.reduceLeDiff, Int.reduceLT, Int.reduceNeg, Int.reduceLE, appendP, appendAt, letGo, setLoc, locVal, Int.reduceToNat, boxCells, und, TG, SE, SC, unP, htu, htr, hky, hlen, loadR, loadP, lay, List.take_succ_cons, List.take_zero, List.drop_nil, List.filter_nil, List.cons_append, Int.reduceBEq, Int.reduceBNe, Int.reduceGT, Int.reduceGE, Int.reduceLT, Bool.not_true, Bool.not_false, hln, osp, org, okd, ock, ov1, ov2, ov3, c1, c2, d1p, d2p, d3p]
              exact ⟨_, rfl⟩
theorem op_expr_node (t : Tr) (hs : shN t) (bx) : callOp CC (callL CC) 34 [trV t] bx = some (.ret (.int .i64 (ndT t)), bx) := by
  obtain ⟨b, h⟩ := call_expr_node t hs
  exact callOp_of rfl (by simp only [pureL_cons, trV_pure, pureL_nil, Bool.and_self]) h rfl
theorem ok_expr_Check : fnOK CC Tryd.f19 (Tryd.f19.body.getD .skip) = true := by kernel_rfl
theorem fat_expr_Check : CC.P.funcs[19]? = some Tryd.f19 := by kernel_rfl
theorem ok_expr_walk : fnOK CC Tryd.f32 (Tryd.f32.body.getD .skip) = true := by kernel_rfl
theorem fat_expr_walk : CC.P.funcs[32]? = some Tryd.f32 := by kernel_rfl
theorem ok_expr_Check_1 : fnOK CC Tryd.f33 (Tryd.f33.body.getD .skip) = true := by kernel_rfl
theorem fat_expr_Check_1 : CC.P.funcs[33]? = some Tryd.f33 := by kernel_rfl
theorem ok_expr_walk_1 : fnOK CC Tryd.f50 (Tryd.f50.body.getD .skip) = true := by kernel_rfl
theorem fat_expr_walk_1 : CC.P.funcs[50]? = some Tryd.f50 := by kernel_rfl
mutual
/-- the walk in preorder: the nodes behind it, the error -/
def wkT : Tr → Int → Int → Int × Int
  | .mk k n m nm v key kids, lv, b => if 24 < lv then (b, 22) else if 200 ≤ b then (b, 3) else if ndT (.mk k n m nm v key kids) ≠ 0 then (b, ndT (.mk k n m nm v key kids)) else wkTs kids (lv + 1) (b + 1)
def wkTs : List Tr → Int → Int → Int × Int
  | [], _, b => (b, 0)
  | t :: r, lv, b => if (wkT t lv b).2 ≠ 0 then wkT t lv b else wkTs r lv (wkT t lv b).1
end
mutual
/-- the texts of all nodes are short -/
def shT : Tr → Prop
  | .mk k n m nm v key kids => (nm.length ≤ 100 ∧ v.2.2.length ≤ 100 ∧ key.2.1.length ≤ 100 ∧ key.2.2.length ≤ 100 ∧ kids.length ≤ 12) ∧ shTs kids
def shTs : List Tr → Prop
  | [] => True
  | t :: r => shT t ∧ shTs r
end
mutual
theorem sh_md (t : Tr) (left levels : Int) (h : 0 ≤ mdT t left levels) : shT t := by
  match t with
  | .mk k n m nm v key kids =>
    unfold mdT at h
    unfold shT
    split at h
    · omega
    · rename_i hc
      exact ⟨by omega, shs_md kids _ _ h⟩
theorem shs_md (l : List Tr) (left levels : Int) (h : 0 ≤ mdTs l left levels) : shTs l := by
  match l with
  | [] => unfold shTs; trivial
  | t :: r =>
    unfold mdTs at h
    unfold shTs
    split at h
    · omega
    · exact ⟨sh_md t left levels (by omega), shs_md r _ _ h⟩
end
theorem shN_of {t : Tr} (h : shT t) : shN t := by
  obtain ⟨k, n, m, nm, v, key, kids⟩ := t
  unfold shT at h
  exact ⟨h.1.1, h.1.2.1, h.1.2.2.1, h.1.2.2.2.1⟩
theorem FNs : (∃ a b v, CC.P.underlying 77 = some (.func a b v)) ∧ tAgg CC 77 = false ∧ tSize CC 77 = some 1 ∧ zeroCells CC 77 = some [.nilf] :=
  ⟨⟨(match Tryd.prog.underlying 77 with | some (.func a _ _) => a | _ => #[]), (match Tryd.prog.underlying 77 with | some (.func _ b _) => b | _ => #[]), (match Tryd.prog.underlying 77 with | some (.func _ _ v) => v | _ => false), by kernel_rfl⟩, by kernel_rfl, by kernel_rfl, by kernel_rfl⟩
/-- a box of pure cells -/
def PBx (b : PBox) : Prop := ∃ t cs, b = .cells t cs ∧ pureL cs = true
def Vb : PBox := .cells 77 [.fn 33 [] [.bp 2 0, .bp 1 0]]
def Sb : PBox := .cells 77 [.fn 50 [] [.bp 4 0, .bp 5 0]]
/-- the boxes behind 'Check' and 'walk': the error found, the count, the two closures -/
def B6 (b0 b3 : PBox) (f c : Int) (r : List PBox) : List PBox := b0 :: .cells 35 [.int .i64 f] :: .cells 3 [.int .i64 c] :: b3 :: Vb :: Sb :: r
section
variable (b0 b3 : PBox) (f c : Int) (r : List PBox)
theorem B6_len : (B6 b0 b3 f c r).length = r.length + 6 := rfl
theorem B6_1 : (B6 b0 b3 f c r)[1]? = some (.cells 35 [.int .i64 f]) := rfl
theorem B6_2 : (B6 b0 b3 f c r)[2]? = some (.cells 3 [.int .i64 c]) := rfl
theorem B6_4 : (B6 b0 b3 f c r)[4]? = some Vb := rfl
theorem B6_5 : (B6 b0 b3 f c r)[5]? = some Sb := rfl
theorem B6_app (x : PBox) : B6 b0 b3 f c r ++ [x] = B6 b0 b3 f c (r ++ [x]) := rfl
theorem B6_s1 (f' : Int) : (B6 b0 b3 f c r).set 1 (.cells 35 [.int .i64 f']) = B6 b0 b3 f' c r := rfl
theorem B6_s2 (c' : Int) : (B6 b0 b3 f c r).set 2 (.cells 3 [.int .i64 c']) = B6 b0 b3 f c' r := rfl
theorem B6_last (x : PBox) : (B6 b0 b3 f c (r ++ [x]))[r.length + 6]? = some x := by
  show (r ++ [x])[r.length]? = some x
  rw [List.getElem?_concat_length]
theorem B6_sl (x y : PBox) : (B6 b0 b3 f c (r ++ [x])).set (r.length + 6) y = B6 b0 b3 f c (r ++ [y]) := by
  show b0 :: .cells 35 [.int .i64 f] :: .cells 3 [.int .i64 c] :: b3 :: Vb :: Sb :: (r ++ [x]).set r.length y = _
  rw [List.set_append_right _ _ (Nat.le_refl _), Nat.sub_self]
  rfl
end
mutual
theorem pure_under (n : Nat) (v : PV) (h : v.pure = true) : v.under n = true := by
  match v with
  | .top => simp [PV.pure] at h
  | .bp _ _ => simp [PV.pure] at h
  | .sl xs => unfold PV.pure at h; unfold PV.under; exact pureL_under n xs h
  | .osl _ xs => unfold PV.pure at h; unfold PV.under; exact pureL_under n xs h
  | .ip xs => unfold PV.pure at h; unfold PV.under; exact pureL_under n xs h
  | .agg xs => unfold PV.pure at h; unfold PV.under; exact pureL_under n xs h
  | .tup xs => unfold PV.pure at h; unfold PV.under; exact pureL_under n xs h
  | .fn _ a b =>
    unfold PV.pure at h
    unfold PV.under
    rw [Bool.and_eq_true] at h ⊢
    exact ⟨pureL_under n a h.1, pureL_under n b h.2⟩
  | .iface _ v => unfold PV.pure at h; unfold PV.under; exact pure_under n v h
  | .bool _ => simp [PV.under]
  | .int _ _ => simp [PV.under]
  | .str _ => simp [PV.under]
  | .nils => simp [PV.under]
  | .nilp => simp [PV.under]
  | .nilf => simp [PV.under]
  | .nili => simp [PV.under]
theorem pureL_under (n : Nat) (l : List PV) (h : pureL l = true) : underL n l = true := by
  match l with
  | [] => simp [underL]
  | v :: r =>
    unfold pureL at h
    unfold underL
    rw [Bool.and_eq_true] at h ⊢
    exact ⟨pure_under n v h.1, pureL_under n r h.2⟩
end
theorem PBx.under {b : PBox} (h : PBx b) (n : Nat) : b.under n = true := by
  obtain ⟨t, cs, rfl, hp⟩ := h
  exact pureL_under n cs hp
theorem PBx.tr (t : Tr) : PBx (.cells 29 (trV t).cells) := by
  refine ⟨_, _, rfl, ?_⟩
  have h := trV_pure t
  obtain ⟨k, n, m, nm, v, key, kids⟩ := t
  unfold trV at h ⊢
  unfold PV.pure at h
  exact h
theorem B6_trunc {b0 b3 : PBox} {f c : Int} {r ex : List PBox} (h0 : PBx b0) (h3 : PBx b3) (hr : ∀ x ∈ r, PBx x) (b : Bool) : truncB (r.length + 6) (.ret (.bool b)) (B6 b0 b3 f c (r ++ ex)) = B6 b0 b3 f c r := by
  have ht : (B6 b0 b3 f c (r ++ ex)).take (r.length + 6) = B6 b0 b3 f c r := by
    show List.take (r.length + 6) (b0 :: .cells 35 [.int .i64 f] :: .cells 3 [.int .i64 c] :: b3 :: Vb :: Sb :: (r ++ ex)) = _
    simp only [List.take_succ_cons, List.take_left']
    rfl
  unfold truncB
  rw [ht, if_pos]
  rw [Bool.and_eq_true]
  refine ⟨by simp [CR.under, PV.under], ?_⟩
  show (b0 :: .cells 35 [.int .i64 f] :: .cells 3 [.int .i64 c] :: b3 :: Vb :: Sb :: r).all _ = true
  rw [List.all_eq_true]
  intro x hx
  rcases List.mem_cons.1 hx with rfl | hx
  · exact h0.under _
  rcases List.mem_cons.1 hx with rfl | hx
  · rfl
  rcases List.mem_cons.1 hx with rfl | hx
  · rfl
  rcases List.mem_cons.1 hx with rfl | hx
  · exact h3.under _
  rcases List.mem_cons.1 hx with rfl | hx
  · simp [Vb, PBox.under, underL, PV.under]
  rcases List.mem_cons.1 hx with rfl | hx
  · simp [Sb, PBox.under, underL, PV.under]
  exact (hr x hx).under _
theorem op_trunc {f : FuncId} {args : List PV} {b0 b3 : PBox} {fo c fo' c' : Int} {r ex : List PBox} {b : Bool} (hp : pureL args = false) (h0 : PBx b0) (h3 : PBx b3) (hr : ∀ x ∈ r, PBx x)
    (h : callL CC f args (B6 b0 b3 fo c r) = some (.ret (.bool b), B6 b0 b3 fo' c' (r ++ ex))) : callOp CC (callL CC) f args (B6 b0 b3 fo c r) = some (.ret (.bool b), B6 b0 b3 fo' c' r) := by
  unfold callOp
  rw [if_pos (by rw [hp]; simp), h]
  simp only [B6_len]
  rw [B6_trunc h0 h3 hr]
/-- what a visit finds -/
def viE (t : Tr) (lv c : Int) : Int := if 24 < lv then 22 else if 200 ≤ c then 3 else ndT t
theorem call_visit (t : Tr) (hs : shT t) (b0 b3 : PBox) (f c lv : Int) (r : List PBox) (hc : 0 ≤ c) (hc' : c ≤ 200) :
    callL CC 33 [trV t, .int .i64 lv, .bp 2 0, .bp 1 0] (B6 b0 b3 f c r) = some (.ret (.bool (viE t lv c == 0)), B6 b0 b3 (viE t lv c) (c + 1) (r ++ [.cells 29 (trV t).cells])) := by
  rw [callL_enter (fn := Tryd.f33) (c := Tryd.f33.body.getD .skip) rfl rfl fat_expr_Check_1 rfl ok_expr_Check_1 (Nat.le_of_ble_eq_true rfl)]
  have hnd := op_expr_node t (shN_of hs)
  unfold viE
  generalize ndT t = nd at *
  obtain ⟨k, n, m, nm, v, key, kids⟩ := t
  unfold trV at hnd ⊢
  have hw := wrap_i64 (n := c + 1) ⟨by omega, by omega⟩
  obtain ⟨tu, htu⟩ := VLs
  obtain ⟨tr, htr⟩ := TRs
  obtain ⟨tk, hky⟩ := KYs
  have hlen : True := trivial
  generalize trVs kids = xs at *
  by_cases c1 : lv > 24
  · rw [if_pos c1]
    obtain ⟨ev, eo, so, co, ⟨hev, hco⟩, R⟩ := RULES CC; rw [← hev]
    simp only [fpart, part', Tryd.f33, Option.getD]
    simp (maxSteps := 5000000) only [SA, SB, SD, R, guardAt, binP, intP, indexAddrP, elemsOf, readCells, lenP, lenAt, resultsP, resultP, oneOr, reduceCtorEq, reduceIte, Nat.reduceEqDiff, Nat.reduceAdd, Nat.zero_add, Nat.reduceMul, Nat.reduceLT, Nat.reduceLeDiff, Int.reduceLT, Int.reduceNeg, Int.reduceLE, appendP, appendAt, letGo, setLoc, locVal, Int.reduceToNat, boxCells, und, TG, SE, SC, unP, htu, htr, hky, hlen, B6_len, B6_1, B6_2, B6_4, B6_5, B6_app, B6_s1, B6_s2, B6_last, B6_sl, dynR, callAl, loadR, loadP, storeR, storeK, storeCellsP, laid, lay, setBox, List.take_succ_cons, List.take_zero, List.take_nil, List.drop_nil, List.filter_nil, List.cons_append, Nat.le_refl, Int.reduceBEq, Int.reduceBNe, Int.reduceGT, Int.reduceGE, Int.reduceLT, Bool.not_true, Bool.not_false, hw, c1]
  · rw [if_neg c1]
    by_cases c2 : 200 ≤ c
    · have c2' : c + 1 > 200 := by omega
      rw [if_pos c2]
      obtain ⟨ev, eo, so, co, ⟨hev, hco⟩, R⟩ := RULES CC; rw [← hev]
      simp only [fpart, part', Tryd.f33, Option.getD]
      simp (maxSteps := 5000000) only [SA, SB, SD, R, guardAt, binP, intP, indexAddrP, elemsOf, readCells, lenP, lenAt, resultsP, resultP, oneOr, reduceCtorEq, reduceIte, Nat.reduceEqDiff, Nat.reduceAdd, Nat.zero_add, Nat.reduceMul, Nat.reduceLT, Nat.reduceLeDiff, Int.reduceLT, Int.reduceNeg, Int.reduceLE, appendP, appendAt, letGo, setLoc, locVal, Int.reduceToNat, boxCells, und, TG, SE, SC, unP, htu, htr, hky, hlen, B6_len, B6_1, B6_2, B6_4, B6_5, B6_app, B6_s1, B6_s2, B6_last, B6_sl, dynR, callAl, loadR, loadP, storeR, storeK, storeCellsP, laid, lay, setBox, List.take_succ_cons, List.take_zero, List.take_nil, List.drop_nil, List.filter_nil, List.cons_append, Nat.le_refl, Int.reduceBEq, Int.reduceBNe, Int.reduceGT, Int.reduceGE, Int.reduceLT, Bool.not_true, Bool.not_false, hw, c1, c2']
    · have c2' : ¬ c + 1 > 200 := by omega
      rw [if_neg c2]
      obtain ⟨ev, eo, so, co, ⟨hev, hco⟩, R⟩ := RULES CC; rw [← hev]
      rw [← hco] at hnd
      simp only [fpart, part', Tryd.f33, Option.getD]
      simp (maxSteps := 5000000) only [SA, SB, SD, R, guardAt, binP, intP, indexAddrP, elemsOf, readCells, lenP, lenAt, resultsP, resultP, oneOr, reduceCtorEq, reduceIte, Nat.reduceEqDiff, Nat.reduceAdd, Nat.zero_add, Nat.reduceMul, Nat.reduceLT, Nat.reduceLeDiff, Int.reduceLT, Int.reduceNeg, Int.reduceLE, appendP, appendAt, letGo, setLoc, locVal, Int.reduceToNat, boxCells, und, TG, SE, SC, unP, htu, htr, hky, hlen, B6_len, B6_1, B6_2, B6_4, B6_5, B6_app, B6_s1, B6_s2, B6_last, B6_sl, dynR, callAl, loadR, loadP, storeR, storeK, storeCellsP, laid, lay, setBox, List.take_succ_cons, List.take_zero, List.take_nil, List.drop_nil, List.filter_nil, List.cons_append, Nat.le_refl, Int.reduceBEq, Int.reduceBNe, Int.reduceGT, Int.reduceGE, Int.reduceLT, Bool.not_true, Bool.not_false, hw, c1, c2', hnd]
theorem op_visit (t : Tr) (hs : shT t) {b0 b3 : PBox} (f c lv : Int) {r : List PBox} (h0 : PBx b0) (h3 : PBx b3) (hr : ∀ x ∈ r, PBx x) (hc : 0 ≤ c) (hc' : c ≤ 200) :
    callOp CC (callL CC) 33 [trV t, .int .i64 lv, .bp 2 0, .bp 1 0] (B6 b0 b3 f c r) = some (.ret (.bool (viE t lv c == 0)), B6 b0 b3 (viE t lv c) (c + 1) r) :=
  op_trunc (by simp only [pureL_cons, trV_pure]; rfl) h0 h3 hr (call_visit t hs b0 b3 f c lv r hc hc')
def STp (t : Tr) : Prop := ∀ (b0 b3 : PBox) (lv f c : Int) (r : List PBox), PBx b0 → PBx b3 → (∀ x ∈ r, PBx x) → 0 ≤ c → c ≤ 200 → 1 ≤ lv → lv ≤ 25 →
    ∃ c' ex, callL CC 50 [trV t, .int .i64 lv, .bp 4 0, .bp 5 0] (B6 b0 b3 f c r) = some (.ret (.bool ((wkT t lv c).2 == 0)), B6 b0 b3 (wkT t lv c).2 c' (r ++ ex)) ∧ ((wkT t lv c).2 = 0 → c' = (wkT t lv c).1 ∧ 0 ≤ c' ∧ c' ≤ 200)
def PSt (b0 b3 : PBox) (r : List PBox) (w : Int × Int) (res : Option (Ex × St)) : Prop := ∃ e' c' ex, (w.2 = 0 ∧ c' = w.1 ∧ 0 ≤ c' ∧ c' ≤ 200 ∧ res = some (.exit 0, ⟨e', B6 b0 b3 0 c' (r ++ ex)⟩)) ∨ (w.2 ≠ 0 ∧ res = some (.ret, ⟨e', B6 b0 b3 w.2 c' (r ++ ex)⟩) ∧ getT e' 6 = .bool false)
theorem PSt.app {b0 b3 : PBox} {r : List PBox} {x : PBox} {w : Int × Int} {res : Option (Ex × St)} (h : PSt b0 b3 (r ++ [x]) w res) : PSt b0 b3 r w res := by
  obtain ⟨e', c', ex, h⟩ := h
  refine ⟨e', c', [x] ++ ex, ?_⟩
  rw [← List.append_assoc]
  exact h
theorem loop_step (L : Code) (hL : L = fpart Tryd.f50 [1,1,0,1,0]) (b0 b3 : PBox) (h0 : PBx b0) (h3 : PBx b3) (lv : Int) (hlv : 1 ≤ lv) (hlv' : lv ≤ 24) (l : List Tr) (hl : l.length ≤ 12) (hk : ∀ t ∈ l, STp t) : ∀ (k i : Nat) (e : List PV) (r : List PBox) (c : Int), i + k = l.length → (∀ x ∈ r, PBx x) → 0 ≤ c → c ≤ 200 →
    getT e 1 = .int .i64 lv → getT e 3 = .bp 5 0 → getT e 15 = .sl (trVs l) → getT e 16 = .int .i64 l.length → getT e 17 = .int .i64 i → PSt b0 b3 r (wkTs (l.drop i) (lv + 1) c) (evL CC L ⟨e, B6 b0 b3 0 c r⟩) := by
  intro k
  induction k with
  | zero =>
    intro i e r c hi0 hr hc hc' e1 e3 e15 e16 e17
    rw [evL_at (fpart Tryd.f50 [1,1,0,1,0,0]) hL]
    have hi : ¬ ((i : Int) < (l.length : Int)) := by omega
    rw [List.drop_eq_nil_of_le (by omega)]
    unfold wkTs
    obtain ⟨tu, htu⟩ := VLs
    obtain ⟨tr, htr⟩ := TRs
    obtain ⟨tk, hky⟩ := KYs
    obtain ⟨⟨fa, fb, fv, hfu⟩, hfa, hfs, hfz⟩ := FNs
    have hlen : True := trivial
    generalize trVs l = xs at *
    obtain ⟨ev, eo, so, co, ⟨hev, hco⟩, R⟩ := RULES CC; rw [← hev]
    simp only [fpart, part', Tryd.f50, Option.getD]
    simp (maxSteps := 5000000) only [SA, SB, SD, R, guardAt, binP, intP, indexAddrP, elemsOf, readCells, lenP, lenAt, resultsP, resultP, oneOr, reduceCtorEq, reduceIte, Nat.reduceEqDiff, Nat.reduceAdd, Nat.zero_add, Nat.reduceMul, Nat.reduceLT, Nat.reduceLeDiff, Int.reduceLT, Int.reduceNeg, Int.reduceLE, appendP, appendAt, letGo, setLoc, locVal, Int.reduceToNat, boxCells, und, TG, SE, SC, unP, htu, htr, hky, hlen, B6_len, B6_1, B6_2, B6_4, B6_5, B6_app, B6_s1, B6_s2, B6_last, B6_sl, dynR, callAl, loadR, loadP, storeR, storeK, storeCellsP, laid, lay, setBox, List.take_succ_cons, List.take_zero, List.take_nil, List.drop_nil, List.filter_nil, List.cons_append, Nat.le_refl, Int.reduceBEq, Int.reduceBNe, Int.reduceGT, Int.reduceGE, Int.reduceLT, Bool.not_true, Bool.not_false, e1, e3, e15, e16, e17, hi]
    exact ⟨_, c, [], .inl ⟨rfl, rfl, hc, hc', by rw [List.append_nil]⟩⟩
  | succ k ih =>
    intro i e r c hi0 hr hc hc' e1 e3 e15 e16 e17
    rw [evL_at (fpart Tryd.f50 [1,1,0,1,0,0]) hL]
    have hi : ((i : Int) < (l.length : Int)) := by omega
    have hi0' : ¬ ((i : Int) < 0) := by omega
    have hdr : l.drop i = (l[i]'(by omega)) :: l.drop (i + 1) := List.drop_eq_getElem_cons (by omega)
    have hx : l[i]? = some (l[i]'(by omega)) := by simp
    have hst : STp (l[i]'(by omega)) := hk _ (List.getElem_mem _)
    generalize l[i]'(by omega) = x at *
    have hx' := trVs_get hx
    have hln := trVs_length l
    have hw1 := wrap_i64 (n := (i : Int) + 1) ⟨by omega, by omega⟩
    have hw2 := wrap_i64 (n := lv + 1) ⟨by omega, by omega⟩
    have hr' : ∀ y ∈ r ++ [PBox.cells 29 (trV x).cells], PBx y := by
      intro y hy
      rcases List.mem_append.1 hy with h | h
      · exact hr y h
      · simp at h; rw [h]; exact PBx.tr x
    have key := fun e c => ih (i + 1) e (r ++ [PBox.cells 29 (trV x).cells]) c (by omega) hr'
    have cast1 : ((i + 1 : Nat) : Int) = (i : Int) + 1 := by omega
    rw [cast1] at key
    rw [hdr]
    unfold wkTs
    obtain ⟨c', ex, hcall, hcnt⟩ := hst b0 b3 (lv + 1) 0 c (r ++ [PBox.cells 29 (trV x).cells]) h0 h3 hr' hc hc' (by omega) (by omega)
    have hop := op_trunc (by simp only [pureL_cons, trV_pure]; rfl) h0 h3 hr' hcall
    clear hcall
    generalize wkT x (lv + 1) c = w at *
    obtain ⟨w1, w2⟩ := w
    simp only at hop hcnt ⊢
    have hpx := trV_pure x
    obtain ⟨tu, htu⟩ := VLs
    obtain ⟨tr, htr⟩ := TRs
    obtain ⟨tk, hky⟩ := KYs
    obtain ⟨⟨fa, fb, fv, hfu⟩, hfa, hfs, hfz⟩ := FNs
    have hlen : True := trivial
    obtain ⟨xk, xn, xm, xnm, xv, xkey, xkids⟩ := x
    unfold trV at hx' hop hpx key
    generalize trVs xkids = ys at *
    generalize trVs l = xs at *
    simp only [SA] at hop key
    by_cases c1 : w2 = 0
    · subst c1
      obtain ⟨rfl, g0, g1⟩ := hcnt rfl
      rw [if_neg (by simp)]
      simp only [BEq.rfl] at hop
      apply PSt.app
      obtain ⟨ev, eo, so, co, ⟨hev, hco⟩, R⟩ := RULES CC; rw [← hev]
      rw [← hev] at key
      rw [← hco] at hop
      simp only [fpart, part', Tryd.f50, Option.getD]
      simp (maxSteps := 5000000) only [SA, SB, SD, R, guardAt, binP, intP, indexAddrP, elemsOf, readCells, lenP, lenAt, resultsP, resultP, oneOr, reduceCtorEq, reduceIte, Nat.reduceEqDiff, Nat.reduceAdd, Nat.zero_add, Nat.reduceMul, Nat.reduceLT, Nat.reduceLeDiff, Int.reduceLT, Int.reduceNeg, Int.reduceLE, appendP, appendAt, letGo, setLoc, locVal, Int.reduceToNat, boxCells, und, TG, SE, SC, unP, htu, htr, hky, hlen, B6_len, B6_1, B6_2, B6_4, B6_5, B6_app, B6_s1, B6_s2, B6_last, B6_sl, dynR, callAl, loadR, loadP, storeR, storeK, storeCellsP, laid, lay, setBox, List.take_succ_cons, List.take_zero, List.take_nil, List.drop_nil, List.filter_nil, List.cons_append, Nat.le_refl, Int.reduceBEq, Int.reduceBNe, Int.reduceGT, Int.reduceGE, Int.reduceLT, Bool.not_true, Bool.not_false, e1, e3, e15, e16, e17, hi, hi0', hx', hw1, hw2, Sb, hop, TRf, hfu, hfa, hfs, hfz]
      refine key _ _ g0 g1 ?_ ?_ ?_ ?_ ?_
      all_goals simp (maxSteps := 5000000) only [SA, SB, SD, R, guardAt, binP, intP, indexAddrP, elemsOf, readCells, lenP, lenAt, resultsP, resultP, oneOr, reduceCtorEq, reduceIte, Nat.reduceEqDiff, Nat.reduceAdd, Nat.zero_add, Nat.reduceMul, Nat.reduceLT, Nat.reduceLeDiff, Int.reduceLT, Int.reduceNeg, Int.reduceLE, appendP, appendAt, letGo, setLoc, locVal, Int.reduceToNat, boxCells, und, e1, e3, e15, e16, e17]
    · rw [if_pos c1]
      have c1p : (w2 == 0) = false := by simpa using c1
      rw [c1p] at hop
      obtain ⟨ev, eo, so, co, ⟨hev, hco⟩, R⟩ := RULES CC; rw [← hev]
      rw [← hco] at hop
      simp only [fpart, part', Tryd.f50, Option.getD]
      simp (maxSteps := 5000000) only [SA, SB, SD, R, guardAt, binP, intP, indexAddrP, elemsOf, readCells, lenP, lenAt, resultsP, resultP, oneOr, reduceCtorEq, reduceIte, Nat.reduceEqDiff, Nat.reduceAdd, Nat.zero_add, Nat.reduceMul, Nat.reduceLT, Nat.reduceLeDiff, Int.reduceLT, Int.reduceNeg, Int.reduceLE, appendP, appendAt, letGo, setLoc, locVal, Int.reduceToNat, boxCells, und, TG, SE, SC, unP, htu, htr, hky, hlen, B6_len, B6_1, B6_2, B6_4, B6_5, B6_app, B6_s1, B6_s2, B6_last, B6_sl, dynR, callAl, loadR, loadP, storeR, storeK, storeCellsP, laid, lay, setBox, List.take_succ_cons, List.take_zero, List.take_nil, List.drop_nil, List.filter_nil, List.cons_append, Nat.le_refl, Int.reduceBEq, Int.reduceBNe, Int.reduceGT, Int.reduceGE, Int.reduceLT, Bool.not_true, Bool.not_false, e1, e3, e15, e16, e17, hi, hi0', hx', hw1, hw2, Sb, hop, TRf, hfu, hfa, hfs, hfz]
      exact ⟨_, _, _, .inr ⟨c1, rfl, by simp (maxSteps := 5000000) only [SA, SB, SD, R, guardAt, binP, intP, indexAddrP, elemsOf, readCells, lenP, lenAt, resultsP, resultP, oneOr, reduceCtorEq, reduceIte, Nat.reduceEqDiff, Nat.reduceAdd, Nat.zero_add, Nat.reduceMul, Nat.reduceLT, Nat.reduceLeDiff, Int.reduceLT, Int.reduceNeg, Int.reduceLE, appendP, appendAt, letGo, setLoc, locVal, Int.reduceToNat, boxCells, und]⟩⟩
theorem node_step (t : Tr) (hs : shT t) (kids : List Tr) (hkd : (match t with | .mk _ _ _ _ _ _ l => l) = kids) (hk : ∀ t ∈ kids, STp t) : STp t := by
  intro b0 b3 lv f c r h0 h3 hr hc hc' hlv hlv'
  have hr' : ∀ y ∈ r ++ [PBox.cells 29 (trV t).cells], PBx y := by
    intro y hy
    rcases List.mem_append.1 hy with h | h
    · exact hr y h
    · simp at h; rw [h]; exact PBx.tr t
  have hvi := op_visit t hs f c lv h0 h3 hr' hc hc'
  have hl12 : kids.length ≤ 12 := by
    obtain ⟨k, n, m, nm, v, key, l⟩ := t
    simp only at hkd
    subst hkd
    unfold shT at hs
    exact hs.1.2.2.2.2
  have hwk : wkT t lv c = if viE t lv c = 0 then wkTs kids (lv + 1) (c + 1) else (c, viE t lv c) := by
    obtain ⟨k, n, m, nm, v, key, l⟩ := t
    simp only at hkd
    subst hkd
    unfold wkT viE
    by_cases d1 : 24 < lv
    · rw [if_pos d1, if_pos d1, if_neg (by decide)]
    · rw [if_neg d1, if_neg d1]
      by_cases d2 : 200 ≤ c
      · rw [if_pos d2, if_pos d2, if_neg (by decide)]
      · rw [if_neg d2, if_neg d2]
        by_cases d3 : ndT (.mk k n m nm v key l) = 0
        · rw [if_neg (fun h => h d3), if_pos d3]
        · rw [if_pos d3, if_neg d3]
  have hln := trVs_length kids
  have hlv24 : viE t lv c = 0 → lv ≤ 24 ∧ c < 200 := by
    intro h
    unfold viE at h
    split at h
    · omega
    · split at h
      · omega
      · omega
  rw [hwk]
  generalize viE t lv c = er at *
  obtain ⟨tu, htu⟩ := VLs
  obtain ⟨tr, htr⟩ := TRs
  obtain ⟨tk, hky⟩ := KYs
  obtain ⟨⟨fa, fb, fv, hfu⟩, hfa, hfs, hfz⟩ := FNs
  have hlen : True := trivial
  by_cases c1 : er = 0
  · subst c1
    obtain ⟨g1, g2⟩ := hlv24 rfl
    rw [if_pos rfl]
    have key := fun L hL e r hr e1 e3 e15 e16 e17 => loop_step L hL b0 b3 h0 h3 lv hlv g1 kids hl12 hk kids.length 0 e r (c + 1) (by omega) hr (by omega) (by omega) e1 e3 e15 e16 e17
    rw [List.drop_zero] at key
    generalize wkTs kids (lv + 1) (c + 1) = w at *
    simp only [BEq.rfl] at hvi
    rw [callL_enter (fn := Tryd.f50) (c := Tryd.f50.body.getD .skip) rfl rfl fat_expr_walk_1 rfl ok_expr_walk_1 (Nat.le_of_ble_eq_true rfl)]
    obtain ⟨xk, xn, xm, xnm, xv, xkey, xkids⟩ := t
    simp only at hkd
    subst hkd
    unfold trV at hvi hr' ⊢
    generalize trVs xkids = xs at *
    simp only [SA] at hvi hr'
    obtain ⟨ev, eo, so, co, ⟨hev, hco⟩, R⟩ := RULES CC; rw [← hev]
    rw [← hev] at key
    rw [← hco] at hvi
    simp only [fpart, part', Tryd.f50, Option.getD]
    simp (maxSteps := 5000000) only [SA, SB, SD, R, guardAt, binP, intP, indexAddrP, elemsOf, readCells, lenP, lenAt, resultsP, resultP, oneOr, reduceCtorEq, reduceIte, Nat.reduceEqDiff, Nat.reduceAdd, Nat.zero_add, Nat.reduceMul, Nat.reduceLT, Nat.reduceLeDiff, Int.reduceLT, Int.reduceNeg, Int.reduceLE, appendP, appendAt, letGo, setLoc, locVal, Int.reduceToNat, boxCells, und, TG, SE, SC, unP, htu, htr, hky, hlen, B6_len, B6_1, B6_2, B6_4, B6_5, B6_app, B6_s1, B6_s2, B6_last, B6_sl, dynR, callAl, loadR, loadP, storeR, storeK, storeCellsP, laid, lay, setBox, List.take_succ_cons, List.take_zero, List.take_nil, List.drop_nil, List.filter_nil, List.cons_append, Nat.le_refl, Int.reduceBEq, Int.reduceBNe, Int.reduceGT, Int.reduceGE, Int.reduceLT, Bool.not_true, Bool.not_false, hvi, Vb, hln, hfu, hfa, hfs, hfz]
    generalize hE : ev (Code.loop _) _ = z
    have hP : PSt b0 b3 r w z := by
      rw [← hE]
      apply PSt.app
      refine key _ rfl _ _ hr' ?_ ?_ ?_ ?_ ?_
      all_goals first | (simp (maxSteps := 5000000) only [SA, SB, SD, R, guardAt, binP, intP, indexAddrP, elemsOf, readCells, lenP, lenAt, resultsP, resultP, oneOr, reduceCtorEq, reduceIte, Nat.reduceEqDiff, Nat.reduceAdd, Nat.zero_add, Nat.reduceMul, Nat.reduceLT, Nat.reduceLeDiff, Int.reduceLT, Int.reduceNeg, Int.reduceLE, appendP, appendAt, letGo, setLoc, locVal, Int.reduceToNat, boxCells, und]; done) | (simp (maxSteps := 5000000) only [SA, SB, SD, R, guardAt, binP, intP, indexAddrP, elemsOf, readCells, lenP, lenAt, resultsP, resultP, oneOr, reduceCtorEq, reduceIte, Nat.reduceEqDiff, Nat.reduceAdd, Nat.zero_add, Nat.reduceMul, Nat.reduceLT, Nat.reduceLeDiff, Int.reduceLT, Int.reduceNeg, Int.reduceLE, appendP, appendAt, letGo, setLoc, locVal, Int.reduceToNat, boxCells, und]; rfl)
    obtain ⟨e', c', ex, ⟨g3, g4, g5, g6, he⟩ | ⟨g3, he, g4⟩⟩ := hP
    · subst he
      rw [g3]
      simp (maxSteps := 5000000) only [SA, SB, SD, R, guardAt, binP, intP, indexAddrP, elemsOf, readCells, lenP, lenAt, resultsP, resultP, oneOr, reduceCtorEq, reduceIte, Nat.reduceEqDiff, Nat.reduceAdd, Nat.zero_add, Nat.reduceMul, Nat.reduceLT, Nat.reduceLeDiff, Int.reduceLT, Int.reduceNeg, Int.reduceLE, appendP, appendAt, letGo, setLoc, locVal, Int.reduceToNat, boxCells, und, TG, SE]
      exact ⟨c', ex, rfl, fun _ => ⟨g4, g5, g6⟩⟩
    · subst he
      have g3p : (w.2 == 0) = false := by simpa using g3
      rw [g3p]
      simp (maxSteps := 5000000) only [SA, SB, SD, R, guardAt, binP, intP, indexAddrP, elemsOf, readCells, lenP, lenAt, resultsP, resultP, oneOr, reduceCtorEq, reduceIte, Nat.reduceEqDiff, Nat.reduceAdd, Nat.zero_add, Nat.reduceMul, Nat.reduceLT, Nat.reduceLeDiff, Int.reduceLT, Int.reduceNeg, Int.reduceLE, appendP, appendAt, letGo, setLoc, locVal, Int.reduceToNat, boxCells, und, TG, SE, g4]
      exact ⟨c', ex, rfl, fun h => absurd h g3⟩
  · have c1p : (er == 0) = false := by simpa using c1
    rw [if_neg c1]
    simp only [c1p] at hvi ⊢
    rw [callL_enter (fn := Tryd.f50) (c := Tryd.f50.body.getD .skip) rfl rfl fat_expr_walk_1 rfl ok_expr_walk_1 (Nat.le_of_ble_eq_true rfl)]
    obtain ⟨xk, xn, xm, xnm, xv, xkey, xkids⟩ := t
    unfold trV at hvi ⊢
    generalize trVs xkids = xs at *
    simp only [SA] at hvi
    obtain ⟨ev, eo, so, co, ⟨hev, hco⟩, R⟩ := RULES CC; rw [← hev]
    rw [← hco] at hvi
    simp only [fpart, part', Tryd.f50, Option.getD]
    simp (maxSteps := 5000000) only [SA, SB, SD, R, guardAt, binP, intP, indexAddrP, elemsOf, readCells, lenP, lenAt, resultsP, resultP, oneOr, reduceCtorEq, reduceIte, Nat.reduceEqDiff, Nat.reduceAdd, Nat.zero_add, Nat.reduceMul, Nat.reduceLT, Nat.reduceLeDiff, Int.reduceLT, Int.reduceNeg, Int.reduceLE, appendP, appendAt, letGo, setLoc, locVal, Int.reduceToNat, boxCells, und, TG, SE, SC, unP, htu, htr, hky, hlen, B6_len, B6_1, B6_2, B6_4, B6_5, B6_app, B6_s1, B6_s2, B6_last, B6_sl, dynR, callAl, loadR, loadP, storeR, storeK, storeCellsP, laid, lay, setBox, List.take_succ_cons, List.take_zero, List.take_nil, List.drop_nil, List.filter_nil, List.cons_append, Nat.le_refl, Int.reduceBEq, Int.reduceBNe, Int.reduceGT, Int.reduceGE, Int.reduceLT, Bool.not_true, Bool.not_false, hvi, Vb, hfu, hfa, hfs, hfz]
    exact ⟨_, _, rfl, fun h => absurd h c1⟩
mutual
theorem call_step (t : Tr) (hs : shT t) : STp t := by
  match t, hs with
  | .mk k n m nm v key kids, hs =>
    have h2 : shTs kids := by unfold shT at hs; exact hs.2
    exact node_step _ hs kids rfl (calls_step kids h2)
theorem calls_step (l : List Tr) (hs : shTs l) : ∀ t ∈ l, STp t := by
  match l, hs with
  | [], _ => intro t ht; simp at ht
  | x :: r, hs =>
    intro t ht
    unfold shTs at hs
    rcases List.mem_cons.1 ht with h | h
    · rw [h]; exact call_step x hs.1
    · exact calls_step r hs.2 t h
end
/-- what 'Check' says of an expression -/
def ckT (t : Tr) : Int := (wkT t 1 0).2
theorem call_walk (t : Tr) (hs : shT t) (cs : List PV) (hcs : pureL cs = true) : ∃ bx, callL CC 32 [trV t, .fn 33 [] [.bp 2 0, .bp 1 0]] [.cells 29 cs, .cells 35 [.int .i64 0], .cells 3 [.int .i64 0]] = some (.ret (.bool (ckT t == 0)), bx) ∧
    bx.take 3 = [.cells 29 cs, .cells 35 [.int .i64 (ckT t)], bx.getD 2 default] ∧ ∃ c', bx[2]? = some (.cells 3 [.int .i64 c']) := by
  have hb3 := PBx.tr t
  obtain ⟨c', ex, hcall, _⟩ := call_step t hs (.cells 29 cs) (.cells 29 (trV t).cells) 1 0 0 [] ⟨_, _, rfl, hcs⟩ hb3 (by simp) (by decide) (by decide) (by decide) (by decide)
  have hop := op_trunc (by simp only [pureL_cons, trV_pure]; rfl) ⟨_, _, rfl, hcs⟩ hb3 (by simp) hcall
  clear hcall
  unfold ckT
  generalize wkT t 1 0 = w at *
  obtain ⟨tu, htu⟩ := VLs
  obtain ⟨tr, htr⟩ := TRs
  obtain ⟨tk, hky⟩ := KYs
  obtain ⟨⟨fa, fb, fv, hfu⟩, hfa, hfs, hfz⟩ := FNs
  have hlen : True := trivial
  rw [callL_enter (fn := Tryd.f32) (c := Tryd.f32.body.getD .skip) rfl rfl fat_expr_walk rfl ok_expr_walk (Nat.le_of_ble_eq_true rfl)]
  obtain ⟨xk, xn, xm, xnm, xv, xkey, xkids⟩ := t
  unfold trV at hop ⊢
  generalize trVs xkids = xs at *
  simp only [SA] at hop
  unfold B6 Vb Sb at hop
  obtain ⟨ev, eo, so, co, ⟨hev, hco⟩, R⟩ := RULES CC; rw [← hev]
  rw [← hco] at hop
  simp only [fpart, part', Tryd.f32, Option.getD]
  simp (maxSteps := 5000000) only [SA, SB, SD, R, guardAt, binP, intP, indexAddrP, elemsOf, readCells, lenP, lenAt, resultsP, resultP, oneOr, reduceCtorEq, reduceIte, Nat.reduceEqDiff, Nat.reduceAdd, Nat.zero_add, Nat.reduceMul, Nat.reduceLT, Nat.reduceLeDiff, Int.reduceLT, Int.reduceNeg, Int.reduceLE, appendP, appendAt, letGo, setLoc, locVal, Int.reduceToNat, boxCells, und, TG, SE, SC, unP, htu, htr, hky, hlen, B6_len, B6_1, B6_2, B6_4, B6_5, B6_app, B6_s1, B6_s2, B6_last, B6_sl, dynR, callAl, loadR, loadP, storeR, storeK, storeCellsP, laid, lay, setBox, List.take_succ_cons, List.take_zero, List.take_nil, List.drop_nil, List.filter_nil, List.cons_append, Nat.le_refl, Int.reduceBEq, Int.reduceBNe, Int.reduceGT, Int.reduceGE, Int.reduceLT, Bool.not_true, Bool.not_false, hop, hfu, hfa, hfs, hfz, List.getElem?_cons_zero, List.getElem?_cons_succ, List.length_cons, List.length_nil, List.set_cons_zero, List.set_cons_succ, List.nil_append]
  exact ⟨_, rfl, rfl, c', rfl⟩
theorem ZE : zeroCells CC 35 = some [.int .i64 0] ∧ zeroCells CC 3 = some [.int .i64 0] := ⟨by kernel_rfl, by kernel_rfl⟩
theorem op_walk (t : Tr) (hs : shT t) (cs : List PV) (hcs : pureL cs = true) : ∃ c' : Int, callOp CC (callL CC) 32 [trV t, .fn 33 [] [.bp 2 0, .bp 1 0]] [.cells 29 cs, .cells 35 [.int .i64 0], .cells 3 [.int .i64 0]] =
    some (.ret (.bool (ckT t == 0)), [.cells 29 cs, .cells 35 [.int .i64 (ckT t)], .cells 3 [.int .i64 c']]) := by
  obtain ⟨bx, h1, h2, c', h3⟩ := call_walk t hs cs hcs
  refine ⟨c', ?_⟩
  have h4 : bx.getD 2 default = .cells 3 [.int .i64 c'] := by rw [List.getD_eq_getElem?_getD, h3]; rfl
  rw [h4] at h2
  unfold callOp
  rw [if_pos (by simp only [pureL_cons, trV_pure, heapCC]; rfl), h1]
  simp only
  unfold truncB
  simp only [List.length_cons, List.length_nil]
  rw [h2, if_pos]
  rw [Bool.and_eq_true]
  refine ⟨by simp [CR.under, PV.under], ?_⟩
  simp only [List.all_cons, List.all_nil, Bool.and_true, PBox.under, pureL_under _ _ hcs]
  simp [underL, PV.under]
theorem call_expr_Check (t : Tr) (hs : shT t) : ∃ bx, callL CC 19 [trV t] [] = some (.ret (.int .i64 (ckT t)), bx) := by
  have hp := trV_pure t
  have hw := op_walk t hs (trV t).cells (by
    obtain ⟨k, n, m, nm, v, key, kids⟩ := t
    unfold trV at hp ⊢
    unfold PV.pure at hp
    exact hp)
  obtain ⟨c', hw⟩ := hw
  generalize ckT t = er at *
  obtain ⟨tu, htu⟩ := VLs
  obtain ⟨tr, htr⟩ := TRs
  obtain ⟨tk, hky⟩ := KYs
  obtain ⟨⟨fa, fb, fv, hfu⟩, hfa, hfs, hfz⟩ := FNs
  obtain ⟨z1, z2⟩ := ZE
  have hlen : True := trivial
  rw [callL_enter (fn := Tryd.f19) (c := Tryd.f19.body.getD .skip) rfl rfl fat_expr_Check rfl ok_expr_Check (Nat.le_of_ble_eq_true rfl)]
  obtain ⟨xk, xn, xm, xnm, xv, xkey, xkids⟩ := t
  unfold trV at hw ⊢
  generalize trVs xkids = xs at *
  simp only [SA] at hw
  obtain ⟨ev, eo, so, co, ⟨hev, hco⟩, R⟩ := RULES CC; rw [← hev]
  rw [← hco] at hw
  simp only [fpart, part', Tryd.f19, Option.getD]
  simp (maxSteps := 5000000) only [SA, SB, SD, R, guardAt, binP, intP, indexAddrP, elemsOf, readCells, lenP, lenAt, resultsP, resultP, oneOr, reduceCtorEq, reduceIte, Nat.reduceEqDiff, Nat.reduceAdd, Nat.zero_add, Nat.reduceMul, Nat.reduceLT, Nat.reduceLeDiff, Int.reduceLT, Int.reduceNeg, Int.reduceLE, appendP, appendAt, letGo, setLoc, locVal, Int.reduceToNat, boxCells, und, TG, SE, SC, unP, htu, htr, hky, hlen, B6_len, B6_1, B6_2, B6_4, B6_5, B6_app, B6_s1, B6_s2, B6_last, B6_sl, dynR, callAl, loadR, loadP, storeR, storeK, storeCellsP, laid, lay, setBox, List.take_succ_cons, List.take_zero, List.take_nil, List.drop_nil, List.filter_nil, List.cons_append, Nat.le_refl, Int.reduceBEq, Int.reduceBNe, Int.reduceGT, Int.reduceGE, Int.reduceLT, Bool.not_true, Bool.not_false, hw, hfu, hfa, hfs, hfz, z1, z2, List.getElem?_cons_zero, List.getElem?_cons_succ, List.length_cons, List.length_nil, List.set_cons_zero, List.set_cons_succ, List.nil_append]
  exact ⟨_, rfl⟩
theorem op_expr_Check (t : Tr) (hs : shT t) (bx) : callOp CC (callL CC) 19 [trV t] bx = some (.ret (.int .i64 (ckT t)), bx) := by
  obtain ⟨b, h⟩ := call_expr_Check t hs
  exact callOp_of rfl (by simp only [pureL_cons, trV_pure, pureL_nil, Bool.and_self]) h rfl
set_option maxHeartbeats 4000000
theorem ok_expr_Same : fnOK CC Tryd.f26 (Tryd.f26.body.getD .skip) = true := by kernel_rfl
theorem fat_expr_Same : CC.P.funcs[26]? = some Tryd.f26 := by kernel_rfl
theorem ok_R28_Same : fnOK CC Tryd.f8 (Tryd.f8.body.getD .skip) = true := by kernel_rfl
theorem fat_R28_Same : CC.P.funcs[8]? = some Tryd.f8 := by kernel_rfl
theorem ok_print_none : fnOK CC Tryd.f35 (Tryd.f35.body.getD .skip) = true := by kernel_rfl
theorem fat_print_none : CC.P.funcs[35]? = some Tryd.f35 := by kernel_rfl
/-- an expression without kids, built here -/
def leafV (k n m : Int) (nm : List UInt8) (v : Vl) (key : Ky) : PV := .agg [.int .i64 k, .int .i64 n, .int .i64 m, .str nm, .int .i64 v.1, .int .i64 v.2.1, .str v.2.2, .int .i64 key.1, .str key.2.1, .str key.2.2, .sl []]
/-- is an expression that one? -/
def smB (t : Tr) (k n m : Int) (nm : List UInt8) (v : Vl) (key : Ky) : Bool := match t with
  | .mk k' n' m' nm' v' key' kids => (k' == k) && (n' == n) && (m' == m) && (nm' == nm) && eqVl v' v && eqKy key' key && (kids.length == 0)
theorem loop0_expr_Same (L : Code) (hL : L = fpart Tryd.f26 [1,1,0,1,0]) (e : List PV) (bx : List PBox) (h1 : getT e 58 = .int .i64 0) (h2 : getT e 59 = .int .i64 0) : ∃ e' bx', evL CC L ⟨e, bx⟩ = some (.exit 0, ⟨e', bx'⟩) := by
  rw [evL_at (fpart Tryd.f26 [1,1,0,1,0,0]) hL]
  have hlen : True := trivial
  obtain ⟨tu, htu⟩ := VLs
  obtain ⟨tr, htr⟩ := TRs
  obtain ⟨tk, hky⟩ := KYs
  have hi : ¬ ((0 : Int) < 0) := by decide
  obtain ⟨ev, eo, so, co, ⟨hev, hco⟩, R⟩ := RULES CC; rw [← hev]
  simp only [fpart, part', Tryd.f26, Option.getD]
  simp (maxSteps := 5000000) only [SA, SB, SD, R, guardAt, binP, intP, indexAddrP, elemsOf, readCells, lenP, lenAt, resultsP, resultP, oneOr, reduceCtorEq, reduceIte, Nat.reduceEqDiff, Nat.reduceAdd, Nat.zero_add, Nat.reduceMul, Nat.reduceLT, Nat.reduceLeDiff, Int.reduceLT, Int.reduceNeg, Int.reduceLE, appendP, appendAt, letGo, setLoc, locVal, Int.reduceToNat, boxCells, und, TG, SE, SC, List.getElem?_cons_zero, List.getElem?_cons_succ, unP, htu, htr, hky, hlen, eqgV, eqgK, loadR, loadP, lay, List.take_succ_cons, List.take_zero, List.drop_nil, List.filter_nil, List.cons_append, List.length_nil, Int.reduceBEq, Int.reduceBNe, Int.reduceGT, Int.reduceGE, Int.reduceLT, Bool.not_true, Bool.not_false, Bool.not_not, h1, h2, hi]
  exact ⟨_, _, rfl⟩
theorem same_expr_Same (k n m : Int) (nm : List UInt8) (vk vn : Int) (vs : List UInt8) (dv : Int) (cl at_ : List UInt8) (xs : List PV) (k' n' m' : Int) (nm' : List UInt8) (vk' vn' : Int) (vs' : List UInt8) (dv' : Int) (cl' at' : List UInt8) (b1 b2 b3 b4 b5 b6 b7 : Bool)
    (h1 : (k != k') = b1) (h2 : (n != n') = b2) (h3 : (m != m') = b3) (h4 : strP .neq nm nm' = some (.bool b4)) (h5 : eqP CC 100 24 (.agg [.int .i64 vk, .int .i64 vn, .str vs]) (.agg [.int .i64 vk', .int .i64 vn', .str vs']) = some (!b5)) (h6 : eqP CC 100 26 (.agg [.int .i64 dv, .str cl, .str at_]) (.agg [.int .i64 dv', .str cl', .str at']) = some (!b6)) (h7 : ((xs.length : Int) != ((0 : Nat) : Int)) = b7) :
    ∃ bx, callL CC 26 [.agg [.int .i64 k, .int .i64 n, .int .i64 m, .str nm, .int .i64 vk, .int .i64 vn, .str vs, .int .i64 dv, .str cl, .str at_, .sl xs], .agg [.int .i64 k', .int .i64 n', .int .i64 m', .str nm', .int .i64 vk', .int .i64 vn', .str vs', .int .i64 dv', .str cl', .str at', .sl []]] [] = some (.ret (.bool (!(b1 || b2 || b3 || b4 || b5 || b6 || b7))), bx) := by
  have hlen : True := trivial
  obtain ⟨tu, htu⟩ := VLs
  obtain ⟨tr, htr⟩ := TRs
  obtain ⟨tk, hky⟩ := KYs
  have hloop := loop0_expr_Same _ rfl
  rw [callL_enter (fn := Tryd.f26) (c := Tryd.f26.body.getD .skip) rfl rfl fat_expr_Same rfl ok_expr_Same (Nat.le_of_ble_eq_true rfl)]
  cases b1 with
  | true =>
    obtain ⟨ev, eo, so, co, ⟨hev, hco⟩, R⟩ := RULES CC; rw [← hev]
    simp only [fpart, part', Tryd.f26, Option.getD]
    simp (maxSteps := 5000000) only [SA, SB, SD, R, guardAt, binP, intP, indexAddrP, elemsOf, readCells, lenP, lenAt, resultsP, resultP, oneOr, reduceCtorEq, reduceIte, Nat.reduceEqDiff, Nat.reduceAdd, Nat.zero_add, Nat.reduceMul, Nat.reduceLT, Nat.reduceLeDiff, Int.reduceLT, Int.reduceNeg, Int.reduceLE, appendP, appendAt, letGo, setLoc, locVal, Int.reduceToNat, boxCells, und, TG, SE, SC, List.getElem?_cons_zero, List.getElem?_cons_succ, unP, htu, htr, hky, hlen, eqgV, eqgK, loadR, loadP, lay, List.take_succ_cons, List.take_zero, List.drop_nil, List.filter_nil, List.cons_append, List.length_nil, Int.reduceBEq, Int.reduceBNe, Int.reduceGT, Int.reduceGE, Int.reduceLT, Bool.not_true, Bool.not_false, Bool.not_not, h1]
    exact ⟨_, rfl⟩
  | false =>
    cases b2 with
    | true =>
      obtain ⟨ev, eo, so, co, ⟨hev, hco⟩, R⟩ := RULES CC; rw [← hev]
      simp only [fpart, part', Tryd.f26, Option.getD]
      simp (maxSteps := 5000000) only [SA, SB, SD, R, guardAt, binP, intP, indexAddrP, elemsOf, readCells, lenP, lenAt, resultsP, resultP, oneOr, reduceCtorEq, reduceIte, Nat.reduceEqDiff, Nat.reduceAdd, Nat.zero_add, Nat.reduceMul, Nat.reduceLT, Nat.reduceLeDiff, Int.reduceLT, Int.reduceNeg, Int.reduceLE, appendP, appendAt, letGo, setLoc, locVal, Int.reduceToNat, boxCells, und, TG, SE, SC, List.getElem?_cons_zero, List.getElem?_cons_succ, unP, htu, htr, hky, hlen, eqgV, eqgK, loadR, loadP, lay, List.take_succ_cons, List.take_zero, List.drop_nil, List.filter_nil, List.cons_append, List.length_nil, Int.reduceBEq, Int.reduceBNe, Int.reduceGT, Int.reduceGE, Int.reduceLT, Bool.not_true, Bool.not_false, Bool.not_not, h1, h2]
      exact ⟨_, rfl⟩
    | false =>
      cases b3 with
      | true =>
        obtain ⟨ev, eo, so, co, ⟨hev, hco⟩, R⟩ := RULES CC; rw [← hev]
        simp only [fpart, part', Tryd.f26, Option.getD]
        simp (maxSteps := 5000000) only [SA, SB, SD, R, guardAt, binP, intP, indexAddrP, elemsOf, readCells, lenP, lenAt, resultsP, resultP, oneOr, reduceCtorEq, reduceIte, Nat.reduceEqDiff, Nat.reduceAdd, Nat.zero_add, Nat.reduceMul, Nat.reduceLT, Nat.reduceLeDiff, Int.reduceLT, Int.reduceNeg, Int.reduceLE, appendP, appendAt, letGo, setLoc, locVal, Int.reduceToNat, boxCells, und, TG, SE, SC, List.getElem?_cons_zero, List.getElem?_cons_succ, unP, htu, htr, hky, hlen, eqgV, eqgK, loadR, loadP, lay, List.take_succ_cons, List.take_zero, List.drop_nil, List.filter_nil, List.cons_append, List.length_nil, Int.reduceBEq, Int.reduceBNe, Int.reduceGT, Int.reduceGE, Int.reduceLT, Bool.not_true, Bool.not_false, Bool.not_not, h1, h2, h3]
        exact ⟨_, rfl⟩
      | false =>
        cases b4 with
        | true =>
          obtain ⟨ev, eo, so, co, ⟨hev, hco⟩, R⟩ := RULES CC; rw [← hev]
          simp only [fpart, part', Tryd.f26, Option.getD]
          simp (maxSteps := 5000000) only [SA, SB, SD, R, guardAt, binP, intP, indexAddrP, elemsOf, readCells, lenP, lenAt, resultsP, resultP, oneOr, reduceCtorEq, reduceIte, Nat.reduceEqDiff, Nat.reduceAdd, Nat.zero_add, Nat.reduceMul, Nat.reduceLT, Nat.reduceLeDiff, Int.reduceLT, Int.reduceNeg, Int.reduceLE, appendP, appendAt, letGo, setLoc, locVal, Int.reduceToNat, boxCells, und, TG, SE, SC, List.getElem?_cons_zero, List.getElem?_cons_succ, unP, htu, htr, hky, hlen, eqgV, eqgK, loadR, loadP, lay, List.take_succ_cons, List.take_zero, List.drop_nil, List.filter_nil, List.cons_append, List.length_nil, Int.reduceBEq, Int.reduceBNe, Int.reduceGT, Int.reduceGE, Int.reduceLT, Bool.not_true, Bool.not_false, Bool.not_not, h1, h2, h3, h4]
          exact ⟨_, rfl⟩
        | false =>
          cases b5 with
          | true =>
            obtain ⟨ev, eo, so, co, ⟨hev, hco⟩, R⟩ := RULES CC; rw [← hev]
            simp only [fpart, part', Tryd.f26, Option.getD]
            simp (maxSteps := 5000000) only [SA, SB, SD, R, guardAt, binP, intP, indexAddrP, elemsOf, readCells, lenP, lenAt, resultsP, resultP, oneOr, reduceCtorEq, reduceIte, Nat.reduceEqDiff, Nat.reduceAdd, Nat.zero_add, Nat.reduceMul, Nat.reduceLT, Nat.reduceLeDiff, Int.reduceLT, Int.reduceNeg, Int.reduceLE, appendP, appendAt, letGo, setLoc, locVal, Int.reduceToNat, boxCells, und, TG, SE, SC, List.getElem?_cons_zero, List.getElem?_cons_succ, unP, htu, htr, hky, hlen, eqgV, eqgK, loadR, loadP, lay, List.take_succ_cons, List.take_zero, List.drop_nil, List.filter_nil, List.cons_append, List.length_nil, Int.reduceBEq, Int.reduceBNe, Int.reduceGT, Int.reduceGE, Int.reduceLT, Bool.not_true, Bool.not_false, Bool.not_not, h1, h2, h3, h4, h5]
            exact ⟨_, rfl⟩
          | false =>
            cases b6 with
            | true =>
              obtain ⟨ev, eo, so, co, ⟨hev, hco⟩, R⟩ := RULES CC; rw [← hev]
              simp only [fpart, part', Tryd.f26, Option.getD]
              simp (maxSteps := 5000000) only [SA, SB, SD, R, guardAt, binP, intP, indexAddrP, elemsOf, readCells, lenP, lenAt, resultsP, resultP, oneOr, reduceCtorEq, reduceIte, Nat.reduceEqDiff, Nat.reduceAdd, Nat.zero_add, Nat.reduceMul, Nat.reduceLT, Nat.reduceLeDiff, Int.reduceLT, Int.reduceNeg, Int.reduceLE, appendP, appendAt, letGo, setLoc, locVal, Int.reduceToNat, boxCells, und, TG, SE, SC, List.getElem?_cons_zero, List.getElem?_cons_succ, unP, htu, htr, hky, hlen, eqgV, eqgK, loadR, loadP, lay, List.take_succ_cons, List.take_zero, List.drop_nil, List.filter_nil, List.cons_append, List.length_nil, Int.reduceBEq, Int.reduceBNe, Int.reduceGT, Int.reduceGE, Int.reduceLT, Bool.not_true, Bool.not_false, Bool.not_not, h1, h2, h3, h4, h5, h6]
              exact ⟨_, rfl⟩
            | false =>
              cases b7 with
              | true =>
                obtain ⟨ev, eo, so, co, ⟨hev, hco⟩, R⟩ := RULES CC; rw [← hev]
                simp only [fpart, part', Tryd.f26, Option.getD]
                simp (maxSteps := 5000000) only [SA, SB, SD, R, guardAt, binP, intP, indexAddrP, elemsOf, readCells, lenP, lenAt, resultsP, resultP, oneOr, reduceCtorEq, reduceIte, Nat.reduceEqDiff, Nat.reduceAdd, Nat.zero_add, Nat.reduceMul, Nat.reduceLT, Nat.reduceLeDiff, Int.reduceLT, Int.reduceNeg, Int.reduceLE, appendP, appendAt, letGo, setLoc, locVal, Int.reduceToNat, boxCells, und, TG, SE, SC, List.getElem?_cons_zero, List.getElem?_cons_succ, unP, htu, htr, hky, hlen, eqgV, eqgK, loadR, loadP, lay, List.take_succ_cons, List.take_zero, List.drop_nil, List.filter_nil, List.cons_append, List.length_nil, Int.reduceBEq, Int.reduceBNe, Int.reduceGT, Int.reduceGE, Int.reduceLT, Bool.not_true, Bool.not_false, Bool.not_not, h1, h2, h3, h4, h5, h6, h7]
                exact ⟨_, rfl⟩
              | false =>
                have hx0 : (xs.length : Int) = 0 := by simpa using h7
                obtain ⟨ev, eo, so, co, ⟨hev, hco⟩, R⟩ := RULES CC; rw [← hev]
                rw [← hev] at hloop
                simp only [fpart, part', Tryd.f26, Option.getD] at hloop ⊢
                simp (maxSteps := 5000000) only [SA, SB, SD, R, guardAt, binP, intP, indexAddrP, elemsOf, readCells, lenP, lenAt, resultsP, resultP, oneOr, reduceCtorEq, reduceIte, Nat.reduceEqDiff, Nat.reduceAdd, Nat.zero_add, Nat.reduceMul, Nat.reduceLT, Nat.reduceLeDiff, Int.reduceLT, Int.reduceNeg, Int.reduceLE, appendP, appendAt, letGo, setLoc, locVal, Int.reduceToNat, boxCells, und, TG, SE, SC, List.getElem?_cons_zero, List.getElem?_cons_succ, unP, htu, htr, hky, hlen, eqgV, eqgK, loadR, loadP, lay, List.take_succ_cons, List.take_zero, List.drop_nil, List.filter_nil, List.cons_append, List.length_nil, Int.reduceBEq, Int.reduceBNe, Int.reduceGT, Int.reduceGE, Int.reduceLT, Bool.not_true, Bool.not_false, Bool.not_not, h1, h2, h3, h4, h5, h6, h7]
                generalize hE : ev (Code.loop _) _ = z
                have hz : ∃ e' bx', z = some (.exit 0, ⟨e', bx'⟩) := by
                  rw [← hE]
                  refine hloop _ _ ?_ ?_
                  · simp (maxSteps := 5000000) only [SA, SB, SD, R, guardAt, binP, intP, indexAddrP, elemsOf, readCells, lenP, lenAt, resultsP, resultP, oneOr, reduceCtorEq, reduceIte, Nat.reduceEqDiff, Nat.reduceAdd, Nat.zero_add, Nat.reduceMul, Nat.reduceLT, Nat.reduceLeDiff, Int.reduceLT, Int.reduceNeg, Int.reduceLE, appendP, appendAt, letGo, setLoc, locVal, Int.reduceToNat, boxCells, und, hx0]
                  · simp (maxSteps := 5000000) only [SA, SB, SD, R, guardAt, binP, intP, indexAddrP, elemsOf, readCells, lenP, lenAt, resultsP, resultP, oneOr, reduceCtorEq, reduceIte, Nat.reduceEqDiff, Nat.reduceAdd, Nat.zero_add, Nat.reduceMul, Nat.reduceLT, Nat.reduceLeDiff, Int.reduceLT, Int.reduceNeg, Int.reduceLE, appendP, appendAt, letGo, setLoc, locVal, Int.reduceToNat, boxCells, und]
                obtain ⟨e', bx', he⟩ := hz
                subst he
                simp (maxSteps := 5000000) only [SA, SB, SD, R, guardAt, binP, intP, indexAddrP, elemsOf, readCells, lenP, lenAt, resultsP, resultP, oneOr, reduceCtorEq, reduceIte, Nat.reduceEqDiff, Nat.reduceAdd, Nat.zero_add, Nat.reduceMul, Nat.reduceLT, Nat.reduceLeDiff, Int.reduceLT, Int.reduceNeg, Int.reduceLE, appendP, appendAt, letGo, setLoc, locVal, Int.reduceToNat, boxCells, und, TG, SE]
                exact ⟨_, rfl⟩
theorem loop0_R28_Same (L : Code) (hL : L = fpart Tryd.f8 [1,1,0,1,0]) (c0 c1 c2 c3 c4 c5 c6 c7 c8 c9 : PV) (xs : List PV) (b1 : PBox) (hx : (xs.length : Int) = 0) (e : List PV) (h1 : getT e 2 = .bp 0 0) (h2 : getT e 5 = .int .i64 0) : ∃ e' bx', evL CC L ⟨e, [.cells 29 [c0, c1, c2, c3, c4, c5, c6, c7, c8, c9, .sl xs], b1]⟩ = some (.exit 0, ⟨e', bx'⟩) := by
  rw [evL_at (fpart Tryd.f8 [1,1,0,1,0,0]) hL]
  have hlen : True := trivial
  obtain ⟨tu, htu⟩ := VLs
  obtain ⟨tr, htr⟩ := TRs
  obtain ⟨tk, hky⟩ := KYs
  have hi : ¬ ((0 : Int) < 0) := by decide
  obtain ⟨ev, eo, so, co, ⟨hev, hco⟩, R⟩ := RULES CC; rw [← hev]
  simp only [fpart, part', Tryd.f8, Option.getD]
  simp (maxSteps := 5000000) only [SA, SB, SD, R, guardAt, binP, intP, indexAddrP, elemsOf, readCells, lenP, lenAt, resultsP, resultP, oneOr, reduceCtorEq, reduceIte, Nat.reduceEqDiff, Nat.reduceAdd, Nat.zero_add, Nat.reduceMul, Nat.reduceLT, Nat.reduceLeDiff, Int.reduceLT, Int.reduceNeg, Int.reduceLE, appendP, appendAt, letGo, setLoc, locVal, Int.reduceToNat, boxCells, und, TG, SE, SC, List.getElem?_cons_zero, List.getElem?_cons_succ, unP, htu, htr, hky, hlen, eqgV, eqgK, loadR, loadP, lay, List.take_succ_cons, List.take_zero, List.drop_nil, List.filter_nil, List.cons_append, List.length_nil, Int.reduceBEq, Int.reduceBNe, Int.reduceGT, Int.reduceGE, Int.reduceLT, Bool.not_true, Bool.not_false, Bool.not_not, h1, h2, hx, hi]
  exact ⟨_, _, rfl⟩
theorem same_R28_Same (k n m : Int) (nm : List UInt8) (vk vn : Int) (vs : List UInt8) (dv : Int) (cl at_ : List UInt8) (xs : List PV) (k' n' m' : Int) (nm' : List UInt8) (vk' vn' : Int) (vs' : List UInt8) (dv' : Int) (cl' at' : List UInt8) (b1 b2 b3 b4 b5 b6 b7 : Bool)
    (h1 : (k != k') = b1) (h2 : (n != n') = b2) (h3 : (m != m') = b3) (h4 : strP .neq nm nm' = some (.bool b4)) (h5 : eqP CC 100 24 (.agg [.int .i64 vk, .int .i64 vn, .str vs]) (.agg [.int .i64 vk', .int .i64 vn', .str vs']) = some (!b5)) (h6 : eqP CC 100 26 (.agg [.int .i64 dv, .str cl, .str at_]) (.agg [.int .i64 dv', .str cl', .str at']) = some (!b6)) (h7 : ((xs.length : Int) != ((0 : Nat) : Int)) = b7) :
    ∃ bx, callL CC 8 [.agg [.int .i64 k, .int .i64 n, .int .i64 m, .str nm, .int .i64 vk, .int .i64 vn, .str vs, .int .i64 dv, .str cl, .str at_, .sl xs], .agg [.int .i64 k', .int .i64 n', .int .i64 m', .str nm', .int .i64 vk', .int .i64 vn', .str vs', .int .i64 dv', .str cl', .str at', .sl []]] [] = some (.ret (.bool (!(b1 || b2 || b3 || b4 || b5 || b6 || b7))), bx) := by
  have hlen : True := trivial
  obtain ⟨tu, htu⟩ := VLs
  obtain ⟨tr, htr⟩ := TRs
  obtain ⟨tk, hky⟩ := KYs
  have hloop := fun c0 c1 c2 c3 c4 c5 c6 c7 c8 c9 xs b1 => loop0_R28_Same _ rfl c0 c1 c2 c3 c4 c5 c6 c7 c8 c9 xs b1
  rw [callL_enter (fn := Tryd.f8) (c := Tryd.f8.body.getD .skip) rfl rfl fat_R28_Same rfl ok_R28_Same (Nat.le_of_ble_eq_true rfl)]
  cases b1 with
  | true =>
    obtain ⟨ev, eo, so, co, ⟨hev, hco⟩, R⟩ := RULES CC; rw [← hev]
    simp only [fpart, part', Tryd.f8, Option.getD]
    simp (maxSteps := 5000000) only [SA, SB, SD, R, guardAt, binP, intP, indexAddrP, elemsOf, readCells, lenP, lenAt, resultsP, resultP, oneOr, reduceCtorEq, reduceIte, Nat.reduceEqDiff, Nat.reduceAdd, Nat.zero_add, Nat.reduceMul, Nat.reduceLT, Nat.reduceLeDiff, Int.reduceLT, Int.reduceNeg, Int.reduceLE, appendP, appendAt, letGo, setLoc, locVal, Int.reduceToNat, boxCells, und, TG, SE, SC, List.getElem?_cons_zero, List.getElem?_cons_succ, unP, htu, htr, hky, hlen, eqgV, eqgK, loadR, loadP, lay, List.take_succ_cons, List.take_zero, List.drop_nil, List.filter_nil, List.cons_append, List.length_nil, Int.reduceBEq, Int.reduceBNe, Int.reduceGT, Int.reduceGE, Int.reduceLT, Bool.not_true, Bool.not_false, Bool.not_not, h1]
    exact ⟨_, rfl⟩
  | false =>
    cases b2 with
    | true =>
      obtain ⟨ev, eo, so, co, ⟨hev, hco⟩, R⟩ := RULES CC; rw [← hev]
      simp only [fpart, part', Tryd.f8, Option.getD]
      simp (maxSteps := 5000000) only [SA, SB, SD, R, guardAt, binP, intP, indexAddrP, elemsOf, readCells, lenP, lenAt, resultsP, resultP, oneOr, reduceCtorEq, reduceIte, Nat.reduceEqDiff, Nat.reduceAdd, Nat.zero_add, Nat.reduceMul, Nat.reduceLT, Nat.reduceLeDiff, Int.reduceLT, Int.reduceNeg, Int.reduceLE, appendP, appendAt, letGo, setLoc, locVal, Int.reduceToNat, boxCells, und, TG, SE, SC, List.getElem?_cons_zero, List.getElem?_cons_succ, unP, htu, htr, hky, hlen, eqgV, eqgK, loadR, loadP, lay, List.take_succ_cons, List.take_zero, List.drop_nil, List.filter_nil, List.cons_append, List.length_nil, Int.reduceBEq, Int.reduceBNe, Int.reduceGT, Int.reduceGE, Int.reduceLT, Bool.not_true, Bool.not_false, Bool.not_not, h1, h2]
      exact ⟨_, rfl⟩
    | false =>
      cases b3 with
      | true =>
        obtain ⟨ev, eo, so, co, ⟨hev, hco⟩, R⟩ := RULES CC; rw [← hev]
        simp only [fpart, part', Tryd.f8, Option.getD]
        simp (maxSteps := 5000000) only [SA, SB, SD, R, guardAt, binP, intP, indexAddrP, elemsOf, readCells, lenP, lenAt, resultsP, resultP, oneOr, reduceCtorEq, reduceIte, Nat.reduceEqDiff, Nat.reduceAdd, Nat.zero_add, Nat.reduceMul, Nat.reduceLT, Nat.reduceLeDiff, Int.reduceLT, Int.reduceNeg, Int.reduceLE, appendP, appendAt, letGo, setLoc, locVal, Int.reduceToNat, boxCells, und, TG, SE, SC, List.getElem?_cons_zero, List.getElem?_cons_succ, unP, htu, htr, hky, hlen, eqgV, eqgK, loadR, loadP, lay, List.take_succ_cons, List.take_zero, List.drop_nil, List.filter_nil, List.cons_append, List.length_nil, Int.reduceBEq, Int.reduceBNe, Int.reduceGT, Int.reduceGE, Int.reduceLT, Bool.not_true, Bool.not_false, Bool.not_not, h1, h2, h3]
        exact ⟨_, rfl⟩
      | false =>
        cases b4 with
        | true =>
          obtain ⟨ev, eo, so, co, ⟨hev, hco⟩, R⟩ := RULES CC; rw [← hev]
          simp only [fpart, part', Tryd.f8, Option.getD]
          simp (maxSteps := 5000000) only [SA, SB, SD, R, guardAt, binP, intP, indexAddrP, elemsOf, readCells, lenP, lenAt, resultsP, resultP, oneOr, reduceCtorEq, reduceIte, Nat.reduceEqDiff, Nat.reduceAdd, Nat.zero_add, Nat.reduceMul, Nat.reduceLT, Nat.reduceLeDiff, Int.reduceLT, Int.reduceNeg, Int.reduceLE, appendP, appendAt, letGo, setLoc, locVal, Int.reduceToNat, boxCells, und, TG, SE, SC, List.getElem?_cons_zero, List.getElem?_cons_succ, unP, htu, htr, hky, hlen, eqgV, eqgK, loadR, loadP, lay, List.take_succ_cons, List.take_zero, List.drop_nil, List.filter_nil, List.cons_append, List.length_nil, Int.reduceBEq, Int.reduceBNe, Int.reduceGT, Int.reduceGE, Int.reduceLT, Bool.not_true, Bool.not_false, Bool.not_not, h1, h2, h3, h4]
          exact ⟨_, rfl⟩
        | false =>
          cases b5 with
          | true =>
            obtain ⟨ev, eo, so, co, ⟨hev, hco⟩, R⟩ := RULES CC; rw [← hev]
            simp only [fpart, part', Tryd.f8, Option.getD]
            simp (maxSteps := 5000000) only [SA, SB, SD, R, guardAt, binP, intP, indexAddrP, elemsOf, readCells, lenP, lenAt, resultsP, resultP, oneOr, reduceCtorEq, reduceIte, Nat.reduceEqDiff, Nat.reduceAdd, Nat.zero_add, Nat.reduceMul, Nat.reduceLT, Nat.reduceLeDiff, Int.reduceLT, Int.reduceNeg, Int.reduceLE, appendP, appendAt, letGo, setLoc, locVal, Int.reduceToNat, boxCells, und, TG, SE, SC, List.getElem?_cons_zero, List.getElem?_cons_succ, unP, htu, htr, hky, hlen, eqgV, eqgK, loadR, loadP, lay, List.take_succ_cons, List.take_zero, List.drop_nil, List.filter_nil, List.cons_append, List.length_nil, Int.reduceBEq, Int.reduceBNe, Int.reduceGT, Int.reduceGE, Int.reduceLT, Bool.not_true, Bool.not_false, Bool.not_not, h1, h2, h3, h4, h5]
            exact ⟨_, rfl⟩
          | false =>
            cases b6 with
            | true =>
              obtain ⟨ev, eo, so, co, ⟨hev, hco⟩, R⟩ := RULES CC; rw [← hev]
              simp only [fpart, part', Tryd.f8, Option.getD]
              simp (maxSteps := 5000000) only [SA, SB, SD, R, guardAt, binP, intP, indexAddrP, elemsOf, readCells, lenP, lenAt, resultsP, resultP, oneOr, reduceCtorEq, reduceIte, Nat.reduceEqDiff, Nat.reduceAdd, Nat.zero_add, Nat.reduceMul, Nat.reduceLT, Nat.reduceLeDiff, Int.reduceLT, Int.reduceNeg, Int.reduceLE, appendP, appendAt, letGo, setLoc, locVal, Int.reduceToNat, boxCells, und, TG, SE, SC, List.getElem?_cons_zero, List.getElem?_cons_succ, unP, htu, htr, hky, hlen, eqgV, eqgK, loadR, loadP, lay, List.take_succ_cons, List.take_zero, List.drop_nil, List.filter_nil, List.cons_append, List.length_nil, Int.reduceBEq, Int.reduceBNe, Int.reduceGT, Int.reduceGE, Int.reduceLT, Bool.not_true, Bool.not_false, Bool.not_not, h1, h2, h3, h4, h5, h6]
              exact ⟨_, rfl⟩
            | false =>
              cases b7 with
              | true =>
                obtain ⟨ev, eo, so, co, ⟨hev, hco⟩, R⟩ := RULES CC; rw [← hev]
                simp only [fpart, part', Tryd.f8, Option.getD]
                simp (maxSteps := 5000000) only [SA, SB, SD, R, guardAt, binP, intP, indexAddrP, elemsOf, readCells, lenP, lenAt, resultsP, resultP, oneOr, reduceCtorEq, reduceIte, Nat.reduceEqDiff, Nat.reduceAdd, Nat.zero_add, Nat.reduceMul, Nat.reduceLT, Nat.reduceLeDiff, Int.reduceLT, Int.reduceNeg, Int.reduceLE, appendP, appendAt, letGo, setLoc, locVal, Int.reduceToNat, boxCells, und, TG, SE, SC, List.getElem?_cons_zero, List.getElem?_cons_succ, unP, htu, htr, hky, hlen, eqgV, eqgK, loadR, loadP, lay, List.take_succ_cons, List.take_zero, List.drop_nil, List.filter_nil, List.cons_append, List.length_nil, Int.reduceBEq, Int.reduceBNe, Int.reduceGT, Int.reduceGE, Int.reduceLT, Bool.not_true, Bool.not_false, Bool.not_not, h1, h2, h3, h4, h5, h6, h7]
                exact ⟨_, rfl⟩
              | false =>
                have hx0 : (xs.length : Int) = 0 := by simpa using h7
                obtain ⟨ev, eo, so, co, ⟨hev, hco⟩, R⟩ := RULES CC; rw [← hev]
                rw [← hev] at hloop
                simp only [fpart, part', Tryd.f8, Option.getD] at hloop ⊢
                simp (maxSteps := 5000000) only [SA, SB, SD, R, guardAt, binP, intP, indexAddrP, elemsOf, readCells, lenP, lenAt, resultsP, resultP, oneOr, reduceCtorEq, reduceIte, Nat.reduceEqDiff, Nat.reduceAdd, Nat.zero_add, Nat.reduceMul, Nat.reduceLT, Nat.reduceLeDiff, Int.reduceLT, Int.reduceNeg, Int.reduceLE, appendP, appendAt, letGo, setLoc, locVal, Int.reduceToNat, boxCells, und, TG, SE, SC, List.getElem?_cons_zero, List.getElem?_cons_succ, unP, htu, htr, hky, hlen, eqgV, eqgK, loadR, loadP, lay, List.take_succ_cons, List.take_zero, List.drop_nil, List.filter_nil, List.cons_append, List.length_nil, Int.reduceBEq, Int.reduceBNe, Int.reduceGT, Int.reduceGE, Int.reduceLT, Bool.not_true, Bool.not_false, Bool.not_not, h1, h2, h3, h4, h5, h6, h7]
                generalize hE : ev (Code.loop _) _ = z
                have hz : ∃ e' bx', z = some (.exit 0, ⟨e', bx'⟩) := by
                  rw [← hE]
                  refine hloop _ _ _ _ _ _ _ _ _ _ _ _ hx0 _ ?_ ?_
                  · simp (maxSteps := 5000000) only [SA, SB, SD, R, guardAt, binP, intP, indexAddrP, elemsOf, readCells, lenP, lenAt, resultsP, resultP, oneOr, reduceCtorEq, reduceIte, Nat.reduceEqDiff, Nat.reduceAdd, Nat.zero_add, Nat.reduceMul, Nat.reduceLT, Nat.reduceLeDiff, Int.reduceLT, Int.reduceNeg, Int.reduceLE, appendP, appendAt, letGo, setLoc, locVal, Int.reduceToNat, boxCells, und]
                  · simp (maxSteps := 5000000) only [SA, SB, SD, R, guardAt, binP, intP, indexAddrP, elemsOf, readCells, lenP, lenAt, resultsP, resultP, oneOr, reduceCtorEq, reduceIte, Nat.reduceEqDiff, Nat.reduceAdd, Nat.zero_add, Nat.reduceMul, Nat.reduceLT, Nat.reduceLeDiff, Int.reduceLT, Int.reduceNeg, Int.reduceLE, appendP, appendAt, letGo, setLoc, locVal, Int.reduceToNat, boxCells, und]
                obtain ⟨e', bx', he⟩ := hz
                subst he
                simp (maxSteps := 5000000) only [SA, SB, SD, R, guardAt, binP, intP, indexAddrP, elemsOf, readCells, lenP, lenAt, resultsP, resultP, oneOr, reduceCtorEq, reduceIte, Nat.reduceEqDiff, Nat.reduceAdd, Nat.zero_add, Nat.reduceMul, Nat.reduceLT, Nat.reduceLeDiff, Int.reduceLT, Int.reduceNeg, Int.reduceLE, appendP, appendAt, letGo, setLoc, locVal, Int.reduceToNat, boxCells, und, TG, SE]
                exact ⟨_, rfl⟩
/-- is an expression the zero one? -/
def nnB (t : Tr) : Bool := smB t 0 0 0 [] (0, 0, []) (0, [], [])
theorem buildTr0 : buildP CC 29 [] = some (.agg [.int .i64 0, .int .i64 0, .int .i64 0, .str [], .int .i64 0, .int .i64 0, .str [], .int .i64 0, .str [], .str [], .nils]) := by kernel_rfl
theorem op_expr_Same (t : Tr) (k n m : Int) (nm : List UInt8) (v : Vl) (key : Ky) (bx) : callOp CC (callL CC) 26 [trV t, leafV k n m nm v key] bx = some (.ret (.bool (smB t k n m nm v key)), bx) := by
  obtain ⟨k', n', m', nm', v', key', kids⟩ := t
  obtain ⟨vk, vn, vs⟩ := v
  obtain ⟨dv, cl, at_⟩ := key
  obtain ⟨vk', vn', vs'⟩ := v'
  obtain ⟨dv', cl', at'⟩ := key'
  have h4 : strP .neq nm' nm = some (.bool (!(nm' == nm))) := rfl
  have h5 : eqP CC 100 24 (.agg [.int .i64 vk', .int .i64 vn', .str vs']) (.agg [.int .i64 vk, .int .i64 vn, .str vs]) = some (!(!(eqVl (vk', vn', vs') (vk, vn, vs)))) := by rw [eqVP, Bool.not_not]; rfl
  have h6 : eqP CC 100 26 (.agg [.int .i64 dv', .str cl', .str at']) (.agg [.int .i64 dv, .str cl, .str at_]) = some (!(!(eqKy (dv', cl', at') (dv, cl, at_)))) := by rw [eqKP, Bool.not_not]; rfl
  have hs := same_expr_Same k' n' m' nm' vk' vn' vs' dv' cl' at' (trVs kids) k n m nm vk vn vs dv cl at_ _ _ _ _ _ _ _ rfl rfl rfl h4 h5 h6 rfl
  obtain ⟨b, hs⟩ := hs
  have he : smB (.mk k' n' m' nm' (vk', vn', vs') (dv', cl', at') kids) k n m nm (vk, vn, vs) (dv, cl, at_) = !((k' != k) || (n' != n) || (m' != m) || (!(nm' == nm)) || (!(eqVl (vk', vn', vs') (vk, vn, vs))) || (!(eqKy (dv', cl', at') (dv, cl, at_))) || (((trVs kids).length : Int) != ((0 : Nat) : Int))) := by
    unfold smB
    simp only
    have hl : (kids.length == 0) = (((trVs kids).length : Int) == ((0 : Nat) : Int)) := by
      rw [trVs_length, Bool.eq_iff_iff]
      simp only [beq_iff_eq]
      omega
    rw [hl]
    simp only [bne, Bool.not_or, Bool.not_not]
  rw [he]
  have hp := trVs_pure kids
  refine callOp_of rfl ?_ (by unfold trV leafV; exact hs) rfl
  rw [pureL_cons, trV_pure]
  rfl
theorem op_print_none (t : Tr) (bx) : callOp CC (callL CC) 35 [trV t] bx = some (.ret (.bool (nnB t)), bx) := by
  have hsm := op_expr_Same t 0 0 0 [] (0, 0, []) (0, [], [])
  unfold nnB
  generalize smB t 0 0 0 [] (0, 0, []) (0, [], []) = b at *
  have hc : ∃ q, callL CC 35 [trV t] [] = some (.ret (.bool b), q) := by
    rw [callL_enter (fn := Tryd.f35) (c := Tryd.f35.body.getD .skip) rfl rfl fat_print_none rfl ok_print_none (Nat.le_of_ble_eq_true rfl)]
    obtain ⟨xk, xn, xm, xnm, xv, xkey, xkids⟩ := t
    unfold trV leafV at hsm
    unfold trV
    simp only at hsm
    generalize trVs xkids = xs at *
    have hlen : True := trivial
    obtain ⟨tu, htu⟩ := VLs
    obtain ⟨tr, htr⟩ := TRs
    obtain ⟨tk, hky⟩ := KYs
    obtain ⟨ev, eo, so, co, ⟨hev, hco⟩, R⟩ := RULES CC; rw [← hev]
    rw [← hco] at hsm
    simp only [fpart, part', Tryd.f35, Option.getD]
    simp (maxSteps := 5000000) only [SA, SB, SD, R, guardAt, binP, intP, indexAddrP, elemsOf, readCells, lenP, lenAt, resultsP, resultP, oneOr, reduceCtorEq, reduceIte, Nat.reduceEqDiff, Nat.reduceAdd, Nat.zero_add, Nat.reduceMul, Nat.reduceLT, Nat.reduceLeDiff, Int.reduceLT, Int.reduceNeg, Int.reduceLE, appendP, appendAt, letGo, setLoc, locVal, Int.reduceToNat, boxCells, und, TG, SE, SC, List.getElem?_cons_zero, List.getElem?_cons_succ, unP, htu, htr, hky, hlen, eqgV, eqgK, loadR, loadP, lay, List.take_succ_cons, List.take_zero, List.drop_nil, List.filter_nil, List.cons_append, List.length_nil, Int.reduceBEq, Int.reduceBNe, Int.reduceGT, Int.reduceGE, Int.reduceLT, Bool.not_true, Bool.not_false, Bool.not_not, hsm, buildTr0]
    exact ⟨_, rfl⟩
  obtain ⟨q, hq⟩ := hc
  exact callOp_of rfl (by simp only [pureL_cons, trV_pure, pureL_nil, Bool.and_self]) hq rfl
theorem op_R28_Same (t : Tr) (k n m : Int) (nm : List UInt8) (v : Vl) (key : Ky) (bx) : callOp CC (callL CC) 8 [trV t, leafV k n m nm v key] bx = some (.ret (.bool (smB t k n m nm v key)), bx) := by
  obtain ⟨k', n', m', nm', v', key', kids⟩ := t
  obtain ⟨vk, vn, vs⟩ := v
  obtain ⟨dv, cl, at_⟩ := key
  obtain ⟨vk', vn', vs'⟩ := v'
  obtain ⟨dv', cl', at'⟩ := key'
  have h4 : strP .neq nm' nm = some (.bool (!(nm' == nm))) := rfl
  have h5 : eqP CC 100 24 (.agg [.int .i64 vk', .int .i64 vn', .str vs']) (.agg [.int .i64 vk, .int .i64 vn, .str vs]) = some (!(!(eqVl (vk', vn', vs') (vk, vn, vs)))) := by rw [eqVP, Bool.not_not]; rfl
  have h6 : eqP CC 100 26 (.agg [.int .i64 dv', .str cl', .str at']) (.agg [.int .i64 dv, .str cl, .str at_]) = some (!(!(eqKy (dv', cl', at') (dv, cl, at_)))) := by rw [eqKP, Bool.not_not]; rfl
  have hs := same_R28_Same k' n' m' nm' vk' vn' vs' dv' cl' at' (trVs kids) k n m nm vk vn vs dv cl at_ _ _ _ _ _ _ _ rfl rfl rfl h4 h5 h6 rfl
  obtain ⟨b, hs⟩ := hs
  have he : smB (.mk k' n' m' nm' (vk', vn', vs') (dv', cl', at') kids) k n m nm (vk, vn, vs) (dv, cl, at_) = !((k' != k) || (n' != n) || (m' != m) || (!(nm' == nm)) || (!(eqVl (vk', vn', vs') (vk, vn, vs))) || (!(eqKy (dv', cl', at') (dv, cl, at_))) || (((trVs kids).length : Int) != ((0 : Nat) : Int))) := by
    unfold smB
    simp only
    have hl : (kids.length == 0) = (((trVs kids).length : Int) == ((0 : Nat) : Int)) := by
      rw [trVs_length, Bool.eq_iff_iff]
      simp only [beq_iff_eq]
      omega
    rw [hl]
    simp only [bne, Bool.not_or, Bool.not_not]
  rw [he]
  have hp := trVs_pure kids
  refine callOp_of rfl ?_ (by unfold trV leafV; exact hs) rfl
  rw [pureL_cons, trV_pure]
  rfl
theorem uEV : Tryd.prog.underlying 43 = some (.struct ((match Tryd.prog.underlying 43 with | some (.struct f) => f | _ => #[]))) := by kernel_rfl
theorem fEV : ((match Tryd.prog.underlying 43 with | some (.struct f) => f | _ => #[]) : Array Field).toList.map (fun f => (f.type, f.offset)) = [(3, 0), (9, 1), (9, 2)] := by kernel_rfl
theorem cEV : Tryd.prog.cellsOf 43 = 3 := by kernel_rfl
theorem aggEV : aggT Tryd.prog 43 = true := by unfold aggT; rw [uEV]
theorem EVs : ∃ f, CC.P.underlying 43 = some (.struct f) := ⟨_, uEV⟩
theorem uTG_ : Tryd.prog.underlying 45 = some (.struct ((match Tryd.prog.underlying 45 with | some (.struct f) => f | _ => #[]))) := by kernel_rfl
theorem fTG_ : ((match Tryd.prog.underlying 45 with | some (.struct f) => f | _ => #[]) : Array Field).toList.map (fun f => (f.type, f.offset)) = [(3, 0), (26, 1), (43, 4), (9, 7), (3, 8), (3, 9)] := by kernel_rfl
theorem cTG_ : Tryd.prog.cellsOf 45 = 10 := by kernel_rfl
theorem TG_s : ∃ f, CC.P.underlying 45 = some (.struct f) := ⟨_, uTG_⟩
theorem uSP : Tryd.prog.underlying 47 = some (.struct ((match Tryd.prog.underlying 47 with | some (.struct f) => f | _ => #[]))) := by kernel_rfl
theorem fSP : ((match Tryd.prog.underlying 47 with | some (.struct f) => f | _ => #[]) : Array Field).toList.map (fun f => (f.type, f.offset)) = [(3, 0), (26, 1), (9, 4), (29, 5)] := by kernel_rfl
theorem cSP : Tryd.prog.cellsOf 47 = 16 := by kernel_rfl
theorem SPs : ∃ f, CC.P.underlying 47 = some (.struct f) := ⟨_, uSP⟩
theorem uRL : Tryd.prog.underlying 32 = some (.struct ((match Tryd.prog.underlying 32 with | some (.struct f) => f | _ => #[]))) := by kernel_rfl
theorem fRL : ((match Tryd.prog.underlying 32 with | some (.struct f) => f | _ => #[]) : Array Field).toList.map (fun f => (f.type, f.offset)) = [(9, 0), (3, 1), (22, 2), (29, 3), (30, 14)] := by kernel_rfl
theorem cRL : Tryd.prog.cellsOf 32 = 15 := by kernel_rfl
theorem RLs : ∃ f, CC.P.underlying 32 = some (.struct f) := ⟨_, uRL⟩
theorem uTgs : Tryd.prog.underlying 22 = some (.slice 45) := by kernel_rfl
theorem uSps : Tryd.prog.underlying 30 = some (.slice 47) := by kernel_rfl
theorem cTgs : Tryd.prog.cellsOf 22 = 1 := by kernel_rfl
theorem cSps : Tryd.prog.cellsOf 30 = 1 := by kernel_rfl
theorem hasV_event {p : PV} (h : HasV Tryd.prog 43 p) : ∃ k : Ky, p = kyV k ∧ okKy k := by
  obtain ⟨n, cs, rfl, hlen, hf⟩ := hasV_struct uEV fEV h
  rw [cEV] at hlen
  match cs, hlen with
  | [a, b, c], _ =>
    have f0 := hf (3, 0) (by simp)
    have f1 := hf (9, 1) (by simp)
    have f2 := hf (9, 2) (by simp)
    simp only [cInt, cStr] at f0 f1 f2
    obtain ⟨k, e0, h0⟩ := hasT_i64 (P := Tryd.prog) Tryd.underlying3 f0
    obtain ⟨m, e1, h1⟩ := hasT_str (P := Tryd.prog) Tryd.underlying9 f1
    obtain ⟨s, e2, h2⟩ := hasT_str (P := Tryd.prog) Tryd.underlying9 f2
    injection e0 with e0
    injection e1 with e1
    injection e2 with e2
    subst e0 e1 e2
    exact ⟨(k, m, s), rfl, h0, h1, h2⟩
/-- a trigger -/
structure Tg where
  k : Int
  key : Ky
  ev : Ky
  nm : List UInt8
  n : Int
  m : Int
def tgV (t : Tg) : PV := .agg [.int .i64 t.k, .int .i64 t.key.1, .str t.key.2.1, .str t.key.2.2, .int .i64 t.ev.1, .str t.ev.2.1, .str t.ev.2.2, .str t.nm, .int .i64 t.n, .int .i64 t.m]
def okTg (t : Tg) : Prop := inI t.k ∧ okKy t.key ∧ okKy t.ev ∧ t.nm.length ≤ maxLen ∧ inI t.n ∧ inI t.m
theorem hasV_tg {p : PV} (h : HasV Tryd.prog 45 p) : ∃ t : Tg, p = tgV t ∧ okTg t := by
  obtain ⟨n, cs, rfl, hlen, hf⟩ := hasV_struct uTG_ fTG_ h
  rw [cTG_] at hlen
  match cs, hlen with
  | [a0, a1, a2, a3, a4, a5, a6, a7, a8, a9], _ =>
    have f0 := hf (3, 0) (by simp)
    have f1 := hf (26, 1) (by simp)
    have f2 := hf (43, 4) (by simp)
    have f3 := hf (9, 7) (by simp)
    have f4 := hf (3, 8) (by simp)
    have f5 := hf (3, 9) (by simp)
    simp only [cInt, cStr, cKy, cEV] at f0 f1 f2 f3 f4 f5
    have f1' : HasV Tryd.prog 26 (.agg [a1, a2, a3]) := ⟨n, [a1, a2, a3], by unfold mkV; rw [if_pos aggKy], fun _ => by rw [cKy]; rfl, f1⟩
    have f2' : HasV Tryd.prog 43 (.agg [a4, a5, a6]) := ⟨n, [a4, a5, a6], by unfold mkV; rw [if_pos aggEV], fun _ => by rw [cEV]; rfl, f2⟩
    obtain ⟨k, e0, h0⟩ := hasT_i64 (P := Tryd.prog) Tryd.underlying3 f0
    obtain ⟨ky, e1, h1⟩ := hasV_key f1'
    obtain ⟨ek, e2, h2⟩ := hasV_event f2'
    obtain ⟨s, e3, h3⟩ := hasT_str (P := Tryd.prog) Tryd.underlying9 f3
    obtain ⟨x, e4, h4⟩ := hasT_i64 (P := Tryd.prog) Tryd.underlying3 f4
    obtain ⟨y, e5, h5⟩ := hasT_i64 (P := Tryd.prog) Tryd.underlying3 f5
    unfold kyV at e1 e2
    simp only [List.drop_succ_cons, List.drop_zero, List.take_succ_cons, List.take_zero, List.cons.injEq, and_true, PV.agg.injEq] at e0 e1 e2 e3 e4 e5
    obtain ⟨e11, e12, e13⟩ := e1
    obtain ⟨e21, e22, e23⟩ := e2
    subst e0 e11 e12 e13 e21 e22 e23 e3 e4 e5
    exact ⟨⟨k, ky, ek, s, x, y⟩, rfl, h0, h1, h2, h3, h4, h5⟩
/-- the cells of an expression -/
def trC (t : Tr) : List PV := (trV t).cells
theorem trV_agg (t : Tr) : trV t = .agg (trC t) := by
  obtain ⟨k, n, m, nm, v, key, kids⟩ := t
  unfold trC trV
  rfl
/-- a step -/
structure Sp where
  k : Int
  key : Ky
  nm : List UInt8
  ex : Tr
def spV (s : Sp) : PV := .agg ([.int .i64 s.k, .int .i64 s.key.1, .str s.key.2.1, .str s.key.2.2, .str s.nm] ++ trC s.ex)
def okSp (s : Sp) : Prop := inI s.k ∧ okKy s.key ∧ s.nm.length ≤ maxLen ∧ okTr s.ex
theorem hasV_sp {p : PV} (h : HasV Tryd.prog 47 p) : ∃ s : Sp, p = spV s ∧ okSp s := by
  obtain ⟨n, cs, rfl, hlen, hf⟩ := hasV_struct uSP fSP h
  rw [cSP] at hlen
  match cs, hlen with
  | a0 :: a1 :: a2 :: a3 :: a4 :: r, hlen =>
    have hr : r.length = 11 := by simpa using hlen
    have f0 := hf (3, 0) (by simp)
    have f1 := hf (26, 1) (by simp)
    have f2 := hf (9, 4) (by simp)
    have f3 := hf (29, 5) (by simp)
    simp only [cInt, cStr, cKy, cTr] at f0 f1 f2 f3
    have f1' : HasV Tryd.prog 26 (.agg [a1, a2, a3]) := ⟨n, [a1, a2, a3], by unfold mkV; rw [if_pos aggKy], fun _ => by rw [cKy]; rfl, f1⟩
    have hrt : ((a0 :: a1 :: a2 :: a3 :: a4 :: r).drop 5).take 11 = r := by
      show r.take 11 = r
      exact List.take_of_length_le (by omega)
    rw [hrt] at f3
    obtain ⟨k, e0, h0⟩ := hasT_i64 (P := Tryd.prog) Tryd.underlying3 f0
    obtain ⟨ky, e1, h1⟩ := hasV_key f1'
    obtain ⟨s, e2, h2⟩ := hasT_str (P := Tryd.prog) Tryd.underlying9 f2
    obtain ⟨t, e3, h3⟩ := hasT_tr (n + 1) n (by omega) r hr f3
    unfold kyV at e1
    simp only [List.drop_succ_cons, List.drop_zero, List.take_succ_cons, List.take_zero, List.cons.injEq, and_true, PV.agg.injEq] at e0 e1 e2
    obtain ⟨e11, e12, e13⟩ := e1
    rw [trV_agg] at e3
    injection e3 with e3
    subst e0 e11 e12 e13 e2 e3
    exact ⟨⟨k, ky, s, t⟩, rfl, h0, h1, h2, h3⟩
/-- a rule -/
structure Rl where
  nm : List UInt8
  pr : Int
  on : List Tg
  ife : Tr
  dos : List Sp
def rlV (r : Rl) : PV := .agg ([.str r.nm, .int .i64 r.pr, .sl (r.on.map tgV)] ++ (trC r.ife ++ [.sl (r.dos.map spV)]))
def okRl (r : Rl) : Prop := r.nm.length ≤ maxLen ∧ inI r.pr ∧ r.on.length ≤ maxLen ∧ (∀ t ∈ r.on, okTg t) ∧ okTr r.ife ∧ r.dos.length ≤ maxLen ∧ ∀ s ∈ r.dos, okSp s
theorem hasV_rl {p : PV} (h : HasV Tryd.prog 32 p) : ∃ r : Rl, p = rlV r ∧ okRl r := by
  obtain ⟨n, cs, rfl, hlen, hf⟩ := hasV_struct uRL fRL h
  rw [cRL] at hlen
  match cs, hlen with
  | a0 :: a1 :: a2 :: r, hlen =>
    have hr : r.length = 12 := by simpa using hlen
    have f0 := hf (9, 0) (by simp)
    have f1 := hf (3, 1) (by simp)
    have f2 := hf (22, 2) (by simp)
    have f3 := hf (29, 3) (by simp)
    have f4 := hf (30, 14) (by simp)
    simp only [cInt, cStr, cTgs, cSps, cTr] at f0 f1 f2 f3 f4
    have hrt : ((a0 :: a1 :: a2 :: r).drop 3).take 11 = r.take 11 := rfl
    have hrd : ((a0 :: a1 :: a2 :: r).drop 14).take 1 = r.drop 11 := by
      show (r.drop 11).take 1 = r.drop 11
      exact List.take_of_length_le (by rw [List.length_drop]; omega)
    rw [hrt] at f3
    rw [hrd] at f4
    obtain ⟨s, e0, h0⟩ := hasT_str (P := Tryd.prog) Tryd.underlying9 f0
    obtain ⟨k, e1, h1⟩ := hasT_i64 (P := Tryd.prog) Tryd.underlying3 f1
    obtain ⟨xs, e2, h2, h2'⟩ := hasT_slice (P := Tryd.prog) uTgs f2
    obtain ⟨on, rfl, hon⟩ := list_of (f := tgV) (Q := okTg) xs (fun x hx => hasV_tg (h2' x hx))
    obtain ⟨t, e3, h3⟩ := hasT_tr (n + 1) n (by omega) (r.take 11) (by rw [List.length_take]; omega) f3
    obtain ⟨ys, e4, h4, h4'⟩ := hasT_slice (P := Tryd.prog) uSps f4
    obtain ⟨dos, rfl, hdo⟩ := list_of (f := spV) (Q := okSp) ys (fun x hx => hasV_sp (h4' x hx))
    simp only [List.drop_succ_cons, List.drop_zero, List.take_succ_cons, List.take_zero, List.cons.injEq, and_true] at e0 e1 e2
    rw [trV_agg] at e3
    injection e3 with e3
    have he : r = trC t ++ [.sl (dos.map spV)] := by rw [← e3, ← e4, List.take_append_drop]
    subst e0 e1 e2 he
    exact ⟨⟨s, k, on, t, dos⟩, rfl, h0, h1, by simpa using h2, hon, h3, by simpa using h4, hdo⟩
end Go.HH
