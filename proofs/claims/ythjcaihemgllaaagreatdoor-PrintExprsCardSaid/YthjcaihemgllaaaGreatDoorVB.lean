/-
  Values: their check, in the program and in the specification.
-/
import Derived.Test.YthjcaihemgllaaaGreatDoorVA
namespace Go.HH
open Go Go.Proofs
set_option maxRecDepth 100000
set_option linter.unusedSimpArgs false
set_option linter.unusedVariables false
theorem ok_value_inRange : fnOK CC Tryz.f149 (Tryz.f149.body.getD .skip) = true := by kernel_rfl
theorem fat_value_inRange : CC.P.funcs[149]? = some Tryz.f149 := by kernel_rfl
theorem ok_value_Check : fnOK CC Tryz.f118 (Tryz.f118.body.getD .skip) = true := by kernel_rfl
theorem fat_value_Check : CC.P.funcs[118]? = some Tryz.f118 := by kernel_rfl
theorem ok_R20_Check : fnOK CC Tryz.f152 (Tryz.f152.body.getD .skip) = true := by kernel_rfl
theorem fat_R20_Check : CC.P.funcs[152]? = some Tryz.f152 := by kernel_rfl
/-- is a number in the range? -/
def inR (n : Int) : Bool := decide (-1099511627776 ≤ n ∧ n ≤ 1099511627776)
theorem call_value_inRange (n : Int) : callL CC 149 [.int .i64 n] [] = some (.ret (.bool (inR n)), []) := by
  rw [callL_enter (fn := Tryz.f149) (c := Tryz.f149.body.getD .skip) rfl rfl fat_value_inRange rfl ok_value_inRange (Nat.le_of_ble_eq_true rfl)]
  unfold inR
  by_cases c1 : n ≥ -1099511627776
  · by_cases c2 : n ≤ 1099511627776
    · rw [decide_eq_true (show -1099511627776 ≤ n ∧ n ≤ 1099511627776 from ⟨c1, c2⟩)]
      obtain ⟨ev, eo, so, co, ⟨hev, hco⟩, R⟩ := RULES CC; rw [← hev]
      simp only [fpart, part', Tryz.f149, Option.getD]
      simp (maxSteps := 5000000) only [SA, SB, SD, R, guardAt, binP, intP, indexAddrP, elemsOf, readCells, lenP, lenAt, resultsP, resultP, oneOr, reduceCtorEq, reduceIte, Nat.reduceEqDiff, Nat.reduceAdd, Nat.zero_add, Nat.reduceMul, Nat.reduceLT, Nat.reduceLeDiff, Int.reduceLT, Int.reduceNeg, Int.reduceLE, appendP, appendAt, letGo, setLoc, locVal, Int.reduceToNat, boxCells, und, TG, SE, c1, c2]
    · rw [decide_eq_false (show ¬ (-1099511627776 ≤ n ∧ n ≤ 1099511627776) from fun h => c2 h.2)]
      obtain ⟨ev, eo, so, co, ⟨hev, hco⟩, R⟩ := RULES CC; rw [← hev]
      simp only [fpart, part', Tryz.f149, Option.getD]
      simp (maxSteps := 5000000) only [SA, SB, SD, R, guardAt, binP, intP, indexAddrP, elemsOf, readCells, lenP, lenAt, resultsP, resultP, oneOr, reduceCtorEq, reduceIte, Nat.reduceEqDiff, Nat.reduceAdd, Nat.zero_add, Nat.reduceMul, Nat.reduceLT, Nat.reduceLeDiff, Int.reduceLT, Int.reduceNeg, Int.reduceLE, appendP, appendAt, letGo, setLoc, locVal, Int.reduceToNat, boxCells, und, TG, SE, c1, c2]
  · rw [decide_eq_false (show ¬ (-1099511627776 ≤ n ∧ n ≤ 1099511627776) from fun h => c1 h.1)]
    obtain ⟨ev, eo, so, co, ⟨hev, hco⟩, R⟩ := RULES CC; rw [← hev]
    simp only [fpart, part', Tryz.f149, Option.getD]
    simp (maxSteps := 5000000) only [SA, SB, SD, R, guardAt, binP, intP, indexAddrP, elemsOf, readCells, lenP, lenAt, resultsP, resultP, oneOr, reduceCtorEq, reduceIte, Nat.reduceEqDiff, Nat.reduceAdd, Nat.zero_add, Nat.reduceMul, Nat.reduceLT, Nat.reduceLeDiff, Int.reduceLT, Int.reduceNeg, Int.reduceLE, appendP, appendAt, letGo, setLoc, locVal, Int.reduceToNat, boxCells, und, TG, SE, c1]
theorem op_value_inRange (n : Int) (bx) : callOp CC (callL CC) 149 [.int .i64 n] bx = some (.ret (.bool (inR n)), bx) := callOp_of rfl (by simp only [SA, Bool.and_true]) (call_value_inRange n) rfl
theorem inR_t {n : Int} (h : inR n = true) : -1099511627776 ≤ n ∧ n ≤ 1099511627776 := of_decide_eq_true h
theorem inR_f {n : Int} (h : inR n = false) : n < -1099511627776 ∨ 1099511627776 < n := by have := of_decide_eq_false h; omega
/-- is the number of a value right for its kind? -/
def okN (k n : Int) : Option Bool := if k = 0 ∨ k = 4 then some (n == 0) else if k = 1 then some (n == 0 || n == 1) else if k = 2 then some (inR n) else if k = 3 then some (decide (0 ≤ n) && decide (n ≤ 63)) else none
/-- what 'Check' says of a value -/
def ckV (v : Vl) : Int := match okN v.1 v.2.1 with
  | none => 7
  | some false => 2
  | some true => if 60 < v.2.2.length then 3 else if v.2.2 ≠ [] ∧ v.1 ≠ 4 then 4 else 0

theorem ck_v_0 (n : Int) (s : List UInt8) : ∃ bx, callL CC 118 [vlV (0, n, s)] [] = some (.ret (.int .i64 (ckV (0, n, s))), bx) := by
  rw [callL_enter (fn := Tryz.f118) (c := Tryz.f118.body.getD .skip) rfl rfl fat_value_Check rfl ok_value_Check (Nat.le_of_ble_eq_true rfl)]
  have hlen := len_str s
  obtain ⟨tu, htu⟩ := VLs
  unfold ckV vlV
  simp only
  by_cases c1 : n = 0
  · subst c1
    have ok : okN 0 0 = some true := rfl
    rw [ok]
    by_cases d1 : 60 < s.length
    · have d1p : (s.length : Int) > 60 := by omega
      simp only [if_pos d1]
      obtain ⟨ev, eo, so, co, ⟨hev, hco⟩, R⟩ := RULES CC; rw [← hev]
      skip
      simp only [fpart, part', Tryz.f118, Option.getD]
      simp (maxSteps := 5000000) only [SA, SB, SD, R, guardAt, binP, intP, indexAddrP, elemsOf, readCells, lenP, lenAt, resultsP, resultP, oneOr, reduceCtorEq, reduceIte, Nat.reduceEqDiff, Nat.reduceAdd, Nat.zero_add, Nat.reduceMul, Nat.reduceLT, Nat.reduceLeDiff, Int.reduceLT, Int.reduceNeg, Int.reduceLE, appendP, appendAt, letGo, setLoc, locVal, Int.reduceToNat, boxCells, und, TG, SE, SC, unP, htu, hlen, loadR, loadP, lay, List.take_succ_cons, List.take_zero, List.drop_nil, List.filter_nil, List.cons_append, Int.reduceBEq, Int.reduceBNe, Bool.not_true, Bool.not_false, d1p]
      exact ⟨_, rfl⟩
    · have d1p : ¬ (s.length : Int) > 60 := by omega
      simp only [if_neg d1]
      have hsq := strP_neq s []
      by_cases d2 : s = []
      · rw [if_neg (fun h => h.1 d2)]
        rw [show (!(s == [])) = false by rw [d2]; rfl] at hsq
        obtain ⟨ev, eo, so, co, ⟨hev, hco⟩, R⟩ := RULES CC; rw [← hev]
        skip
        simp only [fpart, part', Tryz.f118, Option.getD]
        simp (maxSteps := 5000000) only [SA, SB, SD, R, guardAt, binP, intP, indexAddrP, elemsOf, readCells, lenP, lenAt, resultsP, resultP, oneOr, reduceCtorEq, reduceIte, Nat.reduceEqDiff, Nat.reduceAdd, Nat.zero_add, Nat.reduceMul, Nat.reduceLT, Nat.reduceLeDiff, Int.reduceLT, Int.reduceNeg, Int.reduceLE, appendP, appendAt, letGo, setLoc, locVal, Int.reduceToNat, boxCells, und, TG, SE, SC, unP, htu, hlen, loadR, loadP, lay, List.take_succ_cons, List.take_zero, List.drop_nil, List.filter_nil, List.cons_append, Int.reduceBEq, Int.reduceBNe, Bool.not_true, Bool.not_false, d1p, hsq]
        exact ⟨_, rfl⟩
      · rw [if_pos ⟨d2, by omega⟩]
        rw [show (!(s == [])) = true by simpa using d2] at hsq
        obtain ⟨ev, eo, so, co, ⟨hev, hco⟩, R⟩ := RULES CC; rw [← hev]
        skip
        simp only [fpart, part', Tryz.f118, Option.getD]
        simp (maxSteps := 5000000) only [SA, SB, SD, R, guardAt, binP, intP, indexAddrP, elemsOf, readCells, lenP, lenAt, resultsP, resultP, oneOr, reduceCtorEq, reduceIte, Nat.reduceEqDiff, Nat.reduceAdd, Nat.zero_add, Nat.reduceMul, Nat.reduceLT, Nat.reduceLeDiff, Int.reduceLT, Int.reduceNeg, Int.reduceLE, appendP, appendAt, letGo, setLoc, locVal, Int.reduceToNat, boxCells, und, TG, SE, SC, unP, htu, hlen, loadR, loadP, lay, List.take_succ_cons, List.take_zero, List.drop_nil, List.filter_nil, List.cons_append, Int.reduceBEq, Int.reduceBNe, Bool.not_true, Bool.not_false, d1p, hsq]
        exact ⟨_, rfl⟩
  · have c1p : (n == 0) = false := by simpa using c1
    have ok : okN 0 n = some false := by unfold okN; simpa using c1
    rw [ok]
    dsimp only
    obtain ⟨ev, eo, so, co, ⟨hev, hco⟩, R⟩ := RULES CC; rw [← hev]
    skip
    simp only [fpart, part', Tryz.f118, Option.getD]
    simp (maxSteps := 5000000) only [SA, SB, SD, R, guardAt, binP, intP, indexAddrP, elemsOf, readCells, lenP, lenAt, resultsP, resultP, oneOr, reduceCtorEq, reduceIte, Nat.reduceEqDiff, Nat.reduceAdd, Nat.zero_add, Nat.reduceMul, Nat.reduceLT, Nat.reduceLeDiff, Int.reduceLT, Int.reduceNeg, Int.reduceLE, appendP, appendAt, letGo, setLoc, locVal, Int.reduceToNat, boxCells, und, TG, SE, SC, unP, htu, hlen, loadR, loadP, lay, List.take_succ_cons, List.take_zero, List.drop_nil, List.filter_nil, List.cons_append, Int.reduceBEq, Int.reduceBNe, Bool.not_true, Bool.not_false, c1p]
    exact ⟨_, rfl⟩
theorem ck_v_4 (n : Int) (s : List UInt8) : ∃ bx, callL CC 118 [vlV (4, n, s)] [] = some (.ret (.int .i64 (ckV (4, n, s))), bx) := by
  rw [callL_enter (fn := Tryz.f118) (c := Tryz.f118.body.getD .skip) rfl rfl fat_value_Check rfl ok_value_Check (Nat.le_of_ble_eq_true rfl)]
  have hlen := len_str s
  obtain ⟨tu, htu⟩ := VLs
  unfold ckV vlV
  simp only
  by_cases c1 : n = 0
  · subst c1
    have ok : okN 4 0 = some true := rfl
    rw [ok]
    by_cases d1 : 60 < s.length
    · have d1p : (s.length : Int) > 60 := by omega
      simp only [if_pos d1]
      obtain ⟨ev, eo, so, co, ⟨hev, hco⟩, R⟩ := RULES CC; rw [← hev]
      skip
      simp only [fpart, part', Tryz.f118, Option.getD]
      simp (maxSteps := 5000000) only [SA, SB, SD, R, guardAt, binP, intP, indexAddrP, elemsOf, readCells, lenP, lenAt, resultsP, resultP, oneOr, reduceCtorEq, reduceIte, Nat.reduceEqDiff, Nat.reduceAdd, Nat.zero_add, Nat.reduceMul, Nat.reduceLT, Nat.reduceLeDiff, Int.reduceLT, Int.reduceNeg, Int.reduceLE, appendP, appendAt, letGo, setLoc, locVal, Int.reduceToNat, boxCells, und, TG, SE, SC, unP, htu, hlen, loadR, loadP, lay, List.take_succ_cons, List.take_zero, List.drop_nil, List.filter_nil, List.cons_append, Int.reduceBEq, Int.reduceBNe, Bool.not_true, Bool.not_false, d1p]
      exact ⟨_, rfl⟩
    · have d1p : ¬ (s.length : Int) > 60 := by omega
      simp only [if_neg d1]
      simp only [ne_eq, not_true_eq_false, and_false, if_false]
      have hsq := strP_neq s []
      generalize (!(s == [])) = sb at *
      cases sb
      · skip
        obtain ⟨ev, eo, so, co, ⟨hev, hco⟩, R⟩ := RULES CC; rw [← hev]
        skip
        simp only [fpart, part', Tryz.f118, Option.getD]
        simp (maxSteps := 5000000) only [SA, SB, SD, R, guardAt, binP, intP, indexAddrP, elemsOf, readCells, lenP, lenAt, resultsP, resultP, oneOr, reduceCtorEq, reduceIte, Nat.reduceEqDiff, Nat.reduceAdd, Nat.zero_add, Nat.reduceMul, Nat.reduceLT, Nat.reduceLeDiff, Int.reduceLT, Int.reduceNeg, Int.reduceLE, appendP, appendAt, letGo, setLoc, locVal, Int.reduceToNat, boxCells, und, TG, SE, SC, unP, htu, hlen, loadR, loadP, lay, List.take_succ_cons, List.take_zero, List.drop_nil, List.filter_nil, List.cons_append, Int.reduceBEq, Int.reduceBNe, Bool.not_true, Bool.not_false, d1p, hsq]
        exact ⟨_, rfl⟩
      · skip
        obtain ⟨ev, eo, so, co, ⟨hev, hco⟩, R⟩ := RULES CC; rw [← hev]
        skip
        simp only [fpart, part', Tryz.f118, Option.getD]
        simp (maxSteps := 5000000) only [SA, SB, SD, R, guardAt, binP, intP, indexAddrP, elemsOf, readCells, lenP, lenAt, resultsP, resultP, oneOr, reduceCtorEq, reduceIte, Nat.reduceEqDiff, Nat.reduceAdd, Nat.zero_add, Nat.reduceMul, Nat.reduceLT, Nat.reduceLeDiff, Int.reduceLT, Int.reduceNeg, Int.reduceLE, appendP, appendAt, letGo, setLoc, locVal, Int.reduceToNat, boxCells, und, TG, SE, SC, unP, htu, hlen, loadR, loadP, lay, List.take_succ_cons, List.take_zero, List.drop_nil, List.filter_nil, List.cons_append, Int.reduceBEq, Int.reduceBNe, Bool.not_true, Bool.not_false, d1p, hsq]
        exact ⟨_, rfl⟩
  · have c1p : (n == 0) = false := by simpa using c1
    have ok : okN 4 n = some false := by unfold okN; simpa using c1
    rw [ok]
    dsimp only
    obtain ⟨ev, eo, so, co, ⟨hev, hco⟩, R⟩ := RULES CC; rw [← hev]
    skip
    simp only [fpart, part', Tryz.f118, Option.getD]
    simp (maxSteps := 5000000) only [SA, SB, SD, R, guardAt, binP, intP, indexAddrP, elemsOf, readCells, lenP, lenAt, resultsP, resultP, oneOr, reduceCtorEq, reduceIte, Nat.reduceEqDiff, Nat.reduceAdd, Nat.zero_add, Nat.reduceMul, Nat.reduceLT, Nat.reduceLeDiff, Int.reduceLT, Int.reduceNeg, Int.reduceLE, appendP, appendAt, letGo, setLoc, locVal, Int.reduceToNat, boxCells, und, TG, SE, SC, unP, htu, hlen, loadR, loadP, lay, List.take_succ_cons, List.take_zero, List.drop_nil, List.filter_nil, List.cons_append, Int.reduceBEq, Int.reduceBNe, Bool.not_true, Bool.not_false, c1p]
    exact ⟨_, rfl⟩
theorem ck_v_1 (n : Int) (s : List UInt8) : ∃ bx, callL CC 118 [vlV (1, n, s)] [] = some (.ret (.int .i64 (ckV (1, n, s))), bx) := by
  rw [callL_enter (fn := Tryz.f118) (c := Tryz.f118.body.getD .skip) rfl rfl fat_value_Check rfl ok_value_Check (Nat.le_of_ble_eq_true rfl)]
  have hlen := len_str s
  obtain ⟨tu, htu⟩ := VLs
  unfold ckV vlV
  simp only
  by_cases c1 : n = 0
  · subst c1
    have ok : okN 1 0 = some true := rfl
    rw [ok]
    by_cases d1 : 60 < s.length
    · have d1p : (s.length : Int) > 60 := by omega
      simp only [if_pos d1]
      obtain ⟨ev, eo, so, co, ⟨hev, hco⟩, R⟩ := RULES CC; rw [← hev]
      skip
      simp only [fpart, part', Tryz.f118, Option.getD]
      simp (maxSteps := 5000000) only [SA, SB, SD, R, guardAt, binP, intP, indexAddrP, elemsOf, readCells, lenP, lenAt, resultsP, resultP, oneOr, reduceCtorEq, reduceIte, Nat.reduceEqDiff, Nat.reduceAdd, Nat.zero_add, Nat.reduceMul, Nat.reduceLT, Nat.reduceLeDiff, Int.reduceLT, Int.reduceNeg, Int.reduceLE, appendP, appendAt, letGo, setLoc, locVal, Int.reduceToNat, boxCells, und, TG, SE, SC, unP, htu, hlen, loadR, loadP, lay, List.take_succ_cons, List.take_zero, List.drop_nil, List.filter_nil, List.cons_append, Int.reduceBEq, Int.reduceBNe, Bool.not_true, Bool.not_false, d1p]
      exact ⟨_, rfl⟩
    · have d1p : ¬ (s.length : Int) > 60 := by omega
      simp only [if_neg d1]
      have hsq := strP_neq s []
      by_cases d2 : s = []
      · rw [if_neg (fun h => h.1 d2)]
        rw [show (!(s == [])) = false by rw [d2]; rfl] at hsq
        obtain ⟨ev, eo, so, co, ⟨hev, hco⟩, R⟩ := RULES CC; rw [← hev]
        skip
        simp only [fpart, part', Tryz.f118, Option.getD]
        simp (maxSteps := 5000000) only [SA, SB, SD, R, guardAt, binP, intP, indexAddrP, elemsOf, readCells, lenP, lenAt, resultsP, resultP, oneOr, reduceCtorEq, reduceIte, Nat.reduceEqDiff, Nat.reduceAdd, Nat.zero_add, Nat.reduceMul, Nat.reduceLT, Nat.reduceLeDiff, Int.reduceLT, Int.reduceNeg, Int.reduceLE, appendP, appendAt, letGo, setLoc, locVal, Int.reduceToNat, boxCells, und, TG, SE, SC, unP, htu, hlen, loadR, loadP, lay, List.take_succ_cons, List.take_zero, List.drop_nil, List.filter_nil, List.cons_append, Int.reduceBEq, Int.reduceBNe, Bool.not_true, Bool.not_false, d1p, hsq]
        exact ⟨_, rfl⟩
      · rw [if_pos ⟨d2, by omega⟩]
        rw [show (!(s == [])) = true by simpa using d2] at hsq
        obtain ⟨ev, eo, so, co, ⟨hev, hco⟩, R⟩ := RULES CC; rw [← hev]
        skip
        simp only [fpart, part', Tryz.f118, Option.getD]
        simp (maxSteps := 5000000) only [SA, SB, SD, R, guardAt, binP, intP, indexAddrP, elemsOf, readCells, lenP, lenAt, resultsP, resultP, oneOr, reduceCtorEq, reduceIte, Nat.reduceEqDiff, Nat.reduceAdd, Nat.zero_add, Nat.reduceMul, Nat.reduceLT, Nat.reduceLeDiff, Int.reduceLT, Int.reduceNeg, Int.reduceLE, appendP, appendAt, letGo, setLoc, locVal, Int.reduceToNat, boxCells, und, TG, SE, SC, unP, htu, hlen, loadR, loadP, lay, List.take_succ_cons, List.take_zero, List.drop_nil, List.filter_nil, List.cons_append, Int.reduceBEq, Int.reduceBNe, Bool.not_true, Bool.not_false, d1p, hsq]
        exact ⟨_, rfl⟩
  · have c1p : (n == 0) = false := by simpa using c1
    by_cases c2 : n = 1
    · subst c2
      have ok : okN 1 1 = some true := rfl
      rw [ok]
      by_cases d1 : 60 < s.length
      · have d1p : (s.length : Int) > 60 := by omega
        simp only [if_pos d1]
        obtain ⟨ev, eo, so, co, ⟨hev, hco⟩, R⟩ := RULES CC; rw [← hev]
        skip
        simp only [fpart, part', Tryz.f118, Option.getD]
        simp (maxSteps := 5000000) only [SA, SB, SD, R, guardAt, binP, intP, indexAddrP, elemsOf, readCells, lenP, lenAt, resultsP, resultP, oneOr, reduceCtorEq, reduceIte, Nat.reduceEqDiff, Nat.reduceAdd, Nat.zero_add, Nat.reduceMul, Nat.reduceLT, Nat.reduceLeDiff, Int.reduceLT, Int.reduceNeg, Int.reduceLE, appendP, appendAt, letGo, setLoc, locVal, Int.reduceToNat, boxCells, und, TG, SE, SC, unP, htu, hlen, loadR, loadP, lay, List.take_succ_cons, List.take_zero, List.drop_nil, List.filter_nil, List.cons_append, Int.reduceBEq, Int.reduceBNe, Bool.not_true, Bool.not_false, d1p]
        exact ⟨_, rfl⟩
      · have d1p : ¬ (s.length : Int) > 60 := by omega
        simp only [if_neg d1]
        have hsq := strP_neq s []
        by_cases d2 : s = []
        · rw [if_neg (fun h => h.1 d2)]
          rw [show (!(s == [])) = false by rw [d2]; rfl] at hsq
          obtain ⟨ev, eo, so, co, ⟨hev, hco⟩, R⟩ := RULES CC; rw [← hev]
          skip
          simp only [fpart, part', Tryz.f118, Option.getD]
          simp (maxSteps := 5000000) only [SA, SB, SD, R, guardAt, binP, intP, indexAddrP, elemsOf, readCells, lenP, lenAt, resultsP, resultP, oneOr, reduceCtorEq, reduceIte, Nat.reduceEqDiff, Nat.reduceAdd, Nat.zero_add, Nat.reduceMul, Nat.reduceLT, Nat.reduceLeDiff, Int.reduceLT, Int.reduceNeg, Int.reduceLE, appendP, appendAt, letGo, setLoc, locVal, Int.reduceToNat, boxCells, und, TG, SE, SC, unP, htu, hlen, loadR, loadP, lay, List.take_succ_cons, List.take_zero, List.drop_nil, List.filter_nil, List.cons_append, Int.reduceBEq, Int.reduceBNe, Bool.not_true, Bool.not_false, d1p, hsq]
          exact ⟨_, rfl⟩
        · rw [if_pos ⟨d2, by omega⟩]
          rw [show (!(s == [])) = true by simpa using d2] at hsq
          obtain ⟨ev, eo, so, co, ⟨hev, hco⟩, R⟩ := RULES CC; rw [← hev]
          skip
          simp only [fpart, part', Tryz.f118, Option.getD]
          simp (maxSteps := 5000000) only [SA, SB, SD, R, guardAt, binP, intP, indexAddrP, elemsOf, readCells, lenP, lenAt, resultsP, resultP, oneOr, reduceCtorEq, reduceIte, Nat.reduceEqDiff, Nat.reduceAdd, Nat.zero_add, Nat.reduceMul, Nat.reduceLT, Nat.reduceLeDiff, Int.reduceLT, Int.reduceNeg, Int.reduceLE, appendP, appendAt, letGo, setLoc, locVal, Int.reduceToNat, boxCells, und, TG, SE, SC, unP, htu, hlen, loadR, loadP, lay, List.take_succ_cons, List.take_zero, List.drop_nil, List.filter_nil, List.cons_append, Int.reduceBEq, Int.reduceBNe, Bool.not_true, Bool.not_false, d1p, hsq]
          exact ⟨_, rfl⟩
    · have c2p : (n == 1) = false := by simpa using c2
      have ok : okN 1 n = some false := by unfold okN; simp [c1, c2]
      rw [ok]
      dsimp only
      obtain ⟨ev, eo, so, co, ⟨hev, hco⟩, R⟩ := RULES CC; rw [← hev]
      skip
      simp only [fpart, part', Tryz.f118, Option.getD]
      simp (maxSteps := 5000000) only [SA, SB, SD, R, guardAt, binP, intP, indexAddrP, elemsOf, readCells, lenP, lenAt, resultsP, resultP, oneOr, reduceCtorEq, reduceIte, Nat.reduceEqDiff, Nat.reduceAdd, Nat.zero_add, Nat.reduceMul, Nat.reduceLT, Nat.reduceLeDiff, Int.reduceLT, Int.reduceNeg, Int.reduceLE, appendP, appendAt, letGo, setLoc, locVal, Int.reduceToNat, boxCells, und, TG, SE, SC, unP, htu, hlen, loadR, loadP, lay, List.take_succ_cons, List.take_zero, List.drop_nil, List.filter_nil, List.cons_append, Int.reduceBEq, Int.reduceBNe, Bool.not_true, Bool.not_false, c1p, c2p]
      exact ⟨_, rfl⟩
theorem ck_v_2 (n : Int) (s : List UInt8) : ∃ bx, callL CC 118 [vlV (2, n, s)] [] = some (.ret (.int .i64 (ckV (2, n, s))), bx) := by
  rw [callL_enter (fn := Tryz.f118) (c := Tryz.f118.body.getD .skip) rfl rfl fat_value_Check rfl ok_value_Check (Nat.le_of_ble_eq_true rfl)]
  have hlen := len_str s
  obtain ⟨tu, htu⟩ := VLs
  unfold ckV vlV
  simp only
  have hin := op_value_inRange n
  have ok : okN 2 n = some (inR n) := rfl
  generalize inR n = b at *
  cases b
  · skip
    rw [ok]
    dsimp only
    obtain ⟨ev, eo, so, co, ⟨hev, hco⟩, R⟩ := RULES CC; rw [← hev]
    rw [← hco] at hin
    simp only [fpart, part', Tryz.f118, Option.getD]
    simp (maxSteps := 5000000) only [SA, SB, SD, R, guardAt, binP, intP, indexAddrP, elemsOf, readCells, lenP, lenAt, resultsP, resultP, oneOr, reduceCtorEq, reduceIte, Nat.reduceEqDiff, Nat.reduceAdd, Nat.zero_add, Nat.reduceMul, Nat.reduceLT, Nat.reduceLeDiff, Int.reduceLT, Int.reduceNeg, Int.reduceLE, appendP, appendAt, letGo, setLoc, locVal, Int.reduceToNat, boxCells, und, TG, SE, SC, unP, htu, hlen, loadR, loadP, lay, List.take_succ_cons, List.take_zero, List.drop_nil, List.filter_nil, List.cons_append, Int.reduceBEq, Int.reduceBNe, Bool.not_true, Bool.not_false, hin]
    exact ⟨_, rfl⟩
  · skip
    rw [ok]
    by_cases d1 : 60 < s.length
    · have d1p : (s.length : Int) > 60 := by omega
      simp only [if_pos d1]
      obtain ⟨ev, eo, so, co, ⟨hev, hco⟩, R⟩ := RULES CC; rw [← hev]
      rw [← hco] at hin
      simp only [fpart, part', Tryz.f118, Option.getD]
      simp (maxSteps := 5000000) only [SA, SB, SD, R, guardAt, binP, intP, indexAddrP, elemsOf, readCells, lenP, lenAt, resultsP, resultP, oneOr, reduceCtorEq, reduceIte, Nat.reduceEqDiff, Nat.reduceAdd, Nat.zero_add, Nat.reduceMul, Nat.reduceLT, Nat.reduceLeDiff, Int.reduceLT, Int.reduceNeg, Int.reduceLE, appendP, appendAt, letGo, setLoc, locVal, Int.reduceToNat, boxCells, und, TG, SE, SC, unP, htu, hlen, loadR, loadP, lay, List.take_succ_cons, List.take_zero, List.drop_nil, List.filter_nil, List.cons_append, Int.reduceBEq, Int.reduceBNe, Bool.not_true, Bool.not_false, hin, d1p]
      exact ⟨_, rfl⟩
    · have d1p : ¬ (s.length : Int) > 60 := by omega
      simp only [if_neg d1]
      have hsq := strP_neq s []
      by_cases d2 : s = []
      · rw [if_neg (fun h => h.1 d2)]
        rw [show (!(s == [])) = false by rw [d2]; rfl] at hsq
        obtain ⟨ev, eo, so, co, ⟨hev, hco⟩, R⟩ := RULES CC; rw [← hev]
        rw [← hco] at hin
        simp only [fpart, part', Tryz.f118, Option.getD]
        simp (maxSteps := 5000000) only [SA, SB, SD, R, guardAt, binP, intP, indexAddrP, elemsOf, readCells, lenP, lenAt, resultsP, resultP, oneOr, reduceCtorEq, reduceIte, Nat.reduceEqDiff, Nat.reduceAdd, Nat.zero_add, Nat.reduceMul, Nat.reduceLT, Nat.reduceLeDiff, Int.reduceLT, Int.reduceNeg, Int.reduceLE, appendP, appendAt, letGo, setLoc, locVal, Int.reduceToNat, boxCells, und, TG, SE, SC, unP, htu, hlen, loadR, loadP, lay, List.take_succ_cons, List.take_zero, List.drop_nil, List.filter_nil, List.cons_append, Int.reduceBEq, Int.reduceBNe, Bool.not_true, Bool.not_false, hin, d1p, hsq]
        exact ⟨_, rfl⟩
      · rw [if_pos ⟨d2, by omega⟩]
        rw [show (!(s == [])) = true by simpa using d2] at hsq
        obtain ⟨ev, eo, so, co, ⟨hev, hco⟩, R⟩ := RULES CC; rw [← hev]
        rw [← hco] at hin
        simp only [fpart, part', Tryz.f118, Option.getD]
        simp (maxSteps := 5000000) only [SA, SB, SD, R, guardAt, binP, intP, indexAddrP, elemsOf, readCells, lenP, lenAt, resultsP, resultP, oneOr, reduceCtorEq, reduceIte, Nat.reduceEqDiff, Nat.reduceAdd, Nat.zero_add, Nat.reduceMul, Nat.reduceLT, Nat.reduceLeDiff, Int.reduceLT, Int.reduceNeg, Int.reduceLE, appendP, appendAt, letGo, setLoc, locVal, Int.reduceToNat, boxCells, und, TG, SE, SC, unP, htu, hlen, loadR, loadP, lay, List.take_succ_cons, List.take_zero, List.drop_nil, List.filter_nil, List.cons_append, Int.reduceBEq, Int.reduceBNe, Bool.not_true, Bool.not_false, hin, d1p, hsq]
        exact ⟨_, rfl⟩
theorem ck_v_3 (n : Int) (s : List UInt8) : ∃ bx, callL CC 118 [vlV (3, n, s)] [] = some (.ret (.int .i64 (ckV (3, n, s))), bx) := by
  rw [callL_enter (fn := Tryz.f118) (c := Tryz.f118.body.getD .skip) rfl rfl fat_value_Check rfl ok_value_Check (Nat.le_of_ble_eq_true rfl)]
  have hlen := len_str s
  obtain ⟨tu, htu⟩ := VLs
  unfold ckV vlV
  simp only
  by_cases c1 : n ≥ 0
  · by_cases c2 : n ≤ 63
    · have ok : okN 3 n = some true := by unfold okN; simp; omega
      rw [ok]
      by_cases d1 : 60 < s.length
      · have d1p : (s.length : Int) > 60 := by omega
        simp only [if_pos d1]
        obtain ⟨ev, eo, so, co, ⟨hev, hco⟩, R⟩ := RULES CC; rw [← hev]
        skip
        simp only [fpart, part', Tryz.f118, Option.getD]
        simp (maxSteps := 5000000) only [SA, SB, SD, R, guardAt, binP, intP, indexAddrP, elemsOf, readCells, lenP, lenAt, resultsP, resultP, oneOr, reduceCtorEq, reduceIte, Nat.reduceEqDiff, Nat.reduceAdd, Nat.zero_add, Nat.reduceMul, Nat.reduceLT, Nat.reduceLeDiff, Int.reduceLT, Int.reduceNeg, Int.reduceLE, appendP, appendAt, letGo, setLoc, locVal, Int.reduceToNat, boxCells, und, TG, SE, SC, unP, htu, hlen, loadR, loadP, lay, List.take_succ_cons, List.take_zero, List.drop_nil, List.filter_nil, List.cons_append, Int.reduceBEq, Int.reduceBNe, Bool.not_true, Bool.not_false, c1, c2, d1p]
        exact ⟨_, rfl⟩
      · have d1p : ¬ (s.length : Int) > 60 := by omega
        simp only [if_neg d1]
        have hsq := strP_neq s []
        by_cases d2 : s = []
        · rw [if_neg (fun h => h.1 d2)]
          rw [show (!(s == [])) = false by rw [d2]; rfl] at hsq
          obtain ⟨ev, eo, so, co, ⟨hev, hco⟩, R⟩ := RULES CC; rw [← hev]
          skip
          simp only [fpart, part', Tryz.f118, Option.getD]
          simp (maxSteps := 5000000) only [SA, SB, SD, R, guardAt, binP, intP, indexAddrP, elemsOf, readCells, lenP, lenAt, resultsP, resultP, oneOr, reduceCtorEq, reduceIte, Nat.reduceEqDiff, Nat.reduceAdd, Nat.zero_add, Nat.reduceMul, Nat.reduceLT, Nat.reduceLeDiff, Int.reduceLT, Int.reduceNeg, Int.reduceLE, appendP, appendAt, letGo, setLoc, locVal, Int.reduceToNat, boxCells, und, TG, SE, SC, unP, htu, hlen, loadR, loadP, lay, List.take_succ_cons, List.take_zero, List.drop_nil, List.filter_nil, List.cons_append, Int.reduceBEq, Int.reduceBNe, Bool.not_true, Bool.not_false, c1, c2, d1p, hsq]
          exact ⟨_, rfl⟩
        · rw [if_pos ⟨d2, by omega⟩]
          rw [show (!(s == [])) = true by simpa using d2] at hsq
          obtain ⟨ev, eo, so, co, ⟨hev, hco⟩, R⟩ := RULES CC; rw [← hev]
          skip
          simp only [fpart, part', Tryz.f118, Option.getD]
          simp (maxSteps := 5000000) only [SA, SB, SD, R, guardAt, binP, intP, indexAddrP, elemsOf, readCells, lenP, lenAt, resultsP, resultP, oneOr, reduceCtorEq, reduceIte, Nat.reduceEqDiff, Nat.reduceAdd, Nat.zero_add, Nat.reduceMul, Nat.reduceLT, Nat.reduceLeDiff, Int.reduceLT, Int.reduceNeg, Int.reduceLE, appendP, appendAt, letGo, setLoc, locVal, Int.reduceToNat, boxCells, und, TG, SE, SC, unP, htu, hlen, loadR, loadP, lay, List.take_succ_cons, List.take_zero, List.drop_nil, List.filter_nil, List.cons_append, Int.reduceBEq, Int.reduceBNe, Bool.not_true, Bool.not_false, c1, c2, d1p, hsq]
          exact ⟨_, rfl⟩
    · have ok : okN 3 n = some false := by unfold okN; simp; omega
      rw [ok]
      dsimp only
      obtain ⟨ev, eo, so, co, ⟨hev, hco⟩, R⟩ := RULES CC; rw [← hev]
      skip
      simp only [fpart, part', Tryz.f118, Option.getD]
      simp (maxSteps := 5000000) only [SA, SB, SD, R, guardAt, binP, intP, indexAddrP, elemsOf, readCells, lenP, lenAt, resultsP, resultP, oneOr, reduceCtorEq, reduceIte, Nat.reduceEqDiff, Nat.reduceAdd, Nat.zero_add, Nat.reduceMul, Nat.reduceLT, Nat.reduceLeDiff, Int.reduceLT, Int.reduceNeg, Int.reduceLE, appendP, appendAt, letGo, setLoc, locVal, Int.reduceToNat, boxCells, und, TG, SE, SC, unP, htu, hlen, loadR, loadP, lay, List.take_succ_cons, List.take_zero, List.drop_nil, List.filter_nil, List.cons_append, Int.reduceBEq, Int.reduceBNe, Bool.not_true, Bool.not_false, c1, c2]
      exact ⟨_, rfl⟩
  · have ok : okN 3 n = some false := by unfold okN; simp; omega
    rw [ok]
    dsimp only
    obtain ⟨ev, eo, so, co, ⟨hev, hco⟩, R⟩ := RULES CC; rw [← hev]
    skip
    simp only [fpart, part', Tryz.f118, Option.getD]
    simp (maxSteps := 5000000) only [SA, SB, SD, R, guardAt, binP, intP, indexAddrP, elemsOf, readCells, lenP, lenAt, resultsP, resultP, oneOr, reduceCtorEq, reduceIte, Nat.reduceEqDiff, Nat.reduceAdd, Nat.zero_add, Nat.reduceMul, Nat.reduceLT, Nat.reduceLeDiff, Int.reduceLT, Int.reduceNeg, Int.reduceLE, appendP, appendAt, letGo, setLoc, locVal, Int.reduceToNat, boxCells, und, TG, SE, SC, unP, htu, hlen, loadR, loadP, lay, List.take_succ_cons, List.take_zero, List.drop_nil, List.filter_nil, List.cons_append, Int.reduceBEq, Int.reduceBNe, Bool.not_true, Bool.not_false, c1]
    exact ⟨_, rfl⟩
theorem ck_v_o (k n : Int) (s : List UInt8) (h : k ≠ 0 ∧ k ≠ 4 ∧ k ≠ 1 ∧ k ≠ 2 ∧ k ≠ 3) : ∃ bx, callL CC 118 [vlV (k, n, s)] [] = some (.ret (.int .i64 (ckV (k, n, s))), bx) := by
  rw [callL_enter (fn := Tryz.f118) (c := Tryz.f118.body.getD .skip) rfl rfl fat_value_Check rfl ok_value_Check (Nat.le_of_ble_eq_true rfl)]
  obtain ⟨k0, k4, k1, k2, k3⟩ := h
  have ok : okN k n = none := by unfold okN; rw [if_neg (by omega), if_neg k1, if_neg k2, if_neg k3]
  have e0 : (k == 0) = false := by simpa using k0
  have e4 : (k == 4) = false := by simpa using k4
  have e1 : (k == 1) = false := by simpa using k1
  have e2 : (k == 2) = false := by simpa using k2
  have e3 : (k == 3) = false := by simpa using k3
  have hlen := len_str s
  obtain ⟨tu, htu⟩ := VLs
  unfold ckV vlV
  simp only
  rw [ok]
  dsimp only
  obtain ⟨ev, eo, so, co, ⟨hev, hco⟩, R⟩ := RULES CC; rw [← hev]
  skip
  simp only [fpart, part', Tryz.f118, Option.getD]
  simp (maxSteps := 5000000) only [SA, SB, SD, R, guardAt, binP, intP, indexAddrP, elemsOf, readCells, lenP, lenAt, resultsP, resultP, oneOr, reduceCtorEq, reduceIte, Nat.reduceEqDiff, Nat.reduceAdd, Nat.zero_add, Nat.reduceMul, Nat.reduceLT, Nat.reduceLeDiff, Int.reduceLT, Int.reduceNeg, Int.reduceLE, appendP, appendAt, letGo, setLoc, locVal, Int.reduceToNat, boxCells, und, TG, SE, SC, unP, htu, hlen, loadR, loadP, lay, List.take_succ_cons, List.take_zero, List.drop_nil, List.filter_nil, List.cons_append, Int.reduceBEq, Int.reduceBNe, Bool.not_true, Bool.not_false, e0, e4, e1, e2, e3]
  exact ⟨_, rfl⟩
theorem ck_r_0 (n : Int) (s : List UInt8) : ∃ bx, callL CC 152 [vlV (0, n, s)] [] = some (.ret (.int .i64 (ckV (0, n, s))), bx) := by
  rw [callL_enter (fn := Tryz.f152) (c := Tryz.f152.body.getD .skip) rfl rfl fat_R20_Check rfl ok_R20_Check (Nat.le_of_ble_eq_true rfl)]
  have hlen := len_str s
  obtain ⟨tu, htu⟩ := VLs
  unfold ckV vlV
  simp only
  by_cases c1 : n < 0
  · have ok : okN 0 n = some false := by unfold okN; simp [inR]; omega
    rw [ok]
    dsimp only
    obtain ⟨ev, eo, so, co, ⟨hev, hco⟩, R⟩ := RULES CC; rw [← hev]
    skip
    simp only [fpart, part', Tryz.f152, Option.getD]
    simp (maxSteps := 5000000) only [SA, SB, SD, R, guardAt, binP, intP, indexAddrP, elemsOf, readCells, lenP, lenAt, resultsP, resultP, oneOr, reduceCtorEq, reduceIte, Nat.reduceEqDiff, Nat.reduceAdd, Nat.zero_add, Nat.reduceMul, Nat.reduceLT, Nat.reduceLeDiff, Int.reduceLT, Int.reduceNeg, Int.reduceLE, appendP, appendAt, letGo, setLoc, locVal, Int.reduceToNat, boxCells, und, TG, SE, SC, unP, htu, hlen, loadR, loadP, lay, List.take_succ_cons, List.take_zero, List.drop_nil, List.filter_nil, List.cons_append, Int.reduceBEq, Int.reduceBNe, Bool.not_true, Bool.not_false, c1]
    exact ⟨_, rfl⟩
  · by_cases c2 : n > 0
    · have ok : okN 0 n = some false := by unfold okN; simp [inR]; omega
      rw [ok]
      dsimp only
      obtain ⟨ev, eo, so, co, ⟨hev, hco⟩, R⟩ := RULES CC; rw [← hev]
      skip
      simp only [fpart, part', Tryz.f152, Option.getD]
      simp (maxSteps := 5000000) only [SA, SB, SD, R, guardAt, binP, intP, indexAddrP, elemsOf, readCells, lenP, lenAt, resultsP, resultP, oneOr, reduceCtorEq, reduceIte, Nat.reduceEqDiff, Nat.reduceAdd, Nat.zero_add, Nat.reduceMul, Nat.reduceLT, Nat.reduceLeDiff, Int.reduceLT, Int.reduceNeg, Int.reduceLE, appendP, appendAt, letGo, setLoc, locVal, Int.reduceToNat, boxCells, und, TG, SE, SC, unP, htu, hlen, loadR, loadP, lay, List.take_succ_cons, List.take_zero, List.drop_nil, List.filter_nil, List.cons_append, Int.reduceBEq, Int.reduceBNe, Bool.not_true, Bool.not_false, c1, c2]
      exact ⟨_, rfl⟩
    · have ok : okN 0 n = some true := by unfold okN; simp [inR]; omega
      rw [ok]
      by_cases d1 : 60 < s.length
      · have d1p : (s.length : Int) > 60 := by omega
        simp only [if_pos d1]
        obtain ⟨ev, eo, so, co, ⟨hev, hco⟩, R⟩ := RULES CC; rw [← hev]
        skip
        simp only [fpart, part', Tryz.f152, Option.getD]
        simp (maxSteps := 5000000) only [SA, SB, SD, R, guardAt, binP, intP, indexAddrP, elemsOf, readCells, lenP, lenAt, resultsP, resultP, oneOr, reduceCtorEq, reduceIte, Nat.reduceEqDiff, Nat.reduceAdd, Nat.zero_add, Nat.reduceMul, Nat.reduceLT, Nat.reduceLeDiff, Int.reduceLT, Int.reduceNeg, Int.reduceLE, appendP, appendAt, letGo, setLoc, locVal, Int.reduceToNat, boxCells, und, TG, SE, SC, unP, htu, hlen, loadR, loadP, lay, List.take_succ_cons, List.take_zero, List.drop_nil, List.filter_nil, List.cons_append, Int.reduceBEq, Int.reduceBNe, Bool.not_true, Bool.not_false, c1, c2, d1p]
        exact ⟨_, rfl⟩
      · have d1p : ¬ (s.length : Int) > 60 := by omega
        simp only [if_neg d1]
        have hsq := strP_neq s []
        by_cases d2 : s = []
        · rw [if_neg (fun h => h.1 d2)]
          rw [show (!(s == [])) = false by rw [d2]; rfl] at hsq
          obtain ⟨ev, eo, so, co, ⟨hev, hco⟩, R⟩ := RULES CC; rw [← hev]
          skip
          simp only [fpart, part', Tryz.f152, Option.getD]
          simp (maxSteps := 5000000) only [SA, SB, SD, R, guardAt, binP, intP, indexAddrP, elemsOf, readCells, lenP, lenAt, resultsP, resultP, oneOr, reduceCtorEq, reduceIte, Nat.reduceEqDiff, Nat.reduceAdd, Nat.zero_add, Nat.reduceMul, Nat.reduceLT, Nat.reduceLeDiff, Int.reduceLT, Int.reduceNeg, Int.reduceLE, appendP, appendAt, letGo, setLoc, locVal, Int.reduceToNat, boxCells, und, TG, SE, SC, unP, htu, hlen, loadR, loadP, lay, List.take_succ_cons, List.take_zero, List.drop_nil, List.filter_nil, List.cons_append, Int.reduceBEq, Int.reduceBNe, Bool.not_true, Bool.not_false, c1, c2, d1p, hsq]
          exact ⟨_, rfl⟩
        · rw [if_pos ⟨d2, by omega⟩]
          rw [show (!(s == [])) = true by simpa using d2] at hsq
          obtain ⟨ev, eo, so, co, ⟨hev, hco⟩, R⟩ := RULES CC; rw [← hev]
          skip
          simp only [fpart, part', Tryz.f152, Option.getD]
          simp (maxSteps := 5000000) only [SA, SB, SD, R, guardAt, binP, intP, indexAddrP, elemsOf, readCells, lenP, lenAt, resultsP, resultP, oneOr, reduceCtorEq, reduceIte, Nat.reduceEqDiff, Nat.reduceAdd, Nat.zero_add, Nat.reduceMul, Nat.reduceLT, Nat.reduceLeDiff, Int.reduceLT, Int.reduceNeg, Int.reduceLE, appendP, appendAt, letGo, setLoc, locVal, Int.reduceToNat, boxCells, und, TG, SE, SC, unP, htu, hlen, loadR, loadP, lay, List.take_succ_cons, List.take_zero, List.drop_nil, List.filter_nil, List.cons_append, Int.reduceBEq, Int.reduceBNe, Bool.not_true, Bool.not_false, c1, c2, d1p, hsq]
          exact ⟨_, rfl⟩
theorem ck_r_4 (n : Int) (s : List UInt8) : ∃ bx, callL CC 152 [vlV (4, n, s)] [] = some (.ret (.int .i64 (ckV (4, n, s))), bx) := by
  rw [callL_enter (fn := Tryz.f152) (c := Tryz.f152.body.getD .skip) rfl rfl fat_R20_Check rfl ok_R20_Check (Nat.le_of_ble_eq_true rfl)]
  have hlen := len_str s
  obtain ⟨tu, htu⟩ := VLs
  unfold ckV vlV
  simp only
  by_cases c1 : n < 0
  · have ok : okN 4 n = some false := by unfold okN; simp [inR]; omega
    rw [ok]
    dsimp only
    obtain ⟨ev, eo, so, co, ⟨hev, hco⟩, R⟩ := RULES CC; rw [← hev]
    skip
    simp only [fpart, part', Tryz.f152, Option.getD]
    simp (maxSteps := 5000000) only [SA, SB, SD, R, guardAt, binP, intP, indexAddrP, elemsOf, readCells, lenP, lenAt, resultsP, resultP, oneOr, reduceCtorEq, reduceIte, Nat.reduceEqDiff, Nat.reduceAdd, Nat.zero_add, Nat.reduceMul, Nat.reduceLT, Nat.reduceLeDiff, Int.reduceLT, Int.reduceNeg, Int.reduceLE, appendP, appendAt, letGo, setLoc, locVal, Int.reduceToNat, boxCells, und, TG, SE, SC, unP, htu, hlen, loadR, loadP, lay, List.take_succ_cons, List.take_zero, List.drop_nil, List.filter_nil, List.cons_append, Int.reduceBEq, Int.reduceBNe, Bool.not_true, Bool.not_false, c1]
    exact ⟨_, rfl⟩
  · by_cases c2 : n > 0
    · have ok : okN 4 n = some false := by unfold okN; simp [inR]; omega
      rw [ok]
      dsimp only
      obtain ⟨ev, eo, so, co, ⟨hev, hco⟩, R⟩ := RULES CC; rw [← hev]
      skip
      simp only [fpart, part', Tryz.f152, Option.getD]
      simp (maxSteps := 5000000) only [SA, SB, SD, R, guardAt, binP, intP, indexAddrP, elemsOf, readCells, lenP, lenAt, resultsP, resultP, oneOr, reduceCtorEq, reduceIte, Nat.reduceEqDiff, Nat.reduceAdd, Nat.zero_add, Nat.reduceMul, Nat.reduceLT, Nat.reduceLeDiff, Int.reduceLT, Int.reduceNeg, Int.reduceLE, appendP, appendAt, letGo, setLoc, locVal, Int.reduceToNat, boxCells, und, TG, SE, SC, unP, htu, hlen, loadR, loadP, lay, List.take_succ_cons, List.take_zero, List.drop_nil, List.filter_nil, List.cons_append, Int.reduceBEq, Int.reduceBNe, Bool.not_true, Bool.not_false, c1, c2]
      exact ⟨_, rfl⟩
    · have ok : okN 4 n = some true := by unfold okN; simp [inR]; omega
      rw [ok]
      by_cases d1 : 60 < s.length
      · have d1p : (s.length : Int) > 60 := by omega
        simp only [if_pos d1]
        obtain ⟨ev, eo, so, co, ⟨hev, hco⟩, R⟩ := RULES CC; rw [← hev]
        skip
        simp only [fpart, part', Tryz.f152, Option.getD]
        simp (maxSteps := 5000000) only [SA, SB, SD, R, guardAt, binP, intP, indexAddrP, elemsOf, readCells, lenP, lenAt, resultsP, resultP, oneOr, reduceCtorEq, reduceIte, Nat.reduceEqDiff, Nat.reduceAdd, Nat.zero_add, Nat.reduceMul, Nat.reduceLT, Nat.reduceLeDiff, Int.reduceLT, Int.reduceNeg, Int.reduceLE, appendP, appendAt, letGo, setLoc, locVal, Int.reduceToNat, boxCells, und, TG, SE, SC, unP, htu, hlen, loadR, loadP, lay, List.take_succ_cons, List.take_zero, List.drop_nil, List.filter_nil, List.cons_append, Int.reduceBEq, Int.reduceBNe, Bool.not_true, Bool.not_false, c1, c2, d1p]
        exact ⟨_, rfl⟩
      · have d1p : ¬ (s.length : Int) > 60 := by omega
        simp only [if_neg d1]
        simp only [ne_eq, not_true_eq_false, and_false, if_false]
        have hsq := strP_neq s []
        generalize (!(s == [])) = sb at *
        cases sb
        · skip
          obtain ⟨ev, eo, so, co, ⟨hev, hco⟩, R⟩ := RULES CC; rw [← hev]
          skip
          simp only [fpart, part', Tryz.f152, Option.getD]
          simp (maxSteps := 5000000) only [SA, SB, SD, R, guardAt, binP, intP, indexAddrP, elemsOf, readCells, lenP, lenAt, resultsP, resultP, oneOr, reduceCtorEq, reduceIte, Nat.reduceEqDiff, Nat.reduceAdd, Nat.zero_add, Nat.reduceMul, Nat.reduceLT, Nat.reduceLeDiff, Int.reduceLT, Int.reduceNeg, Int.reduceLE, appendP, appendAt, letGo, setLoc, locVal, Int.reduceToNat, boxCells, und, TG, SE, SC, unP, htu, hlen, loadR, loadP, lay, List.take_succ_cons, List.take_zero, List.drop_nil, List.filter_nil, List.cons_append, Int.reduceBEq, Int.reduceBNe, Bool.not_true, Bool.not_false, c1, c2, d1p, hsq]
          exact ⟨_, rfl⟩
        · skip
          obtain ⟨ev, eo, so, co, ⟨hev, hco⟩, R⟩ := RULES CC; rw [← hev]
          skip
          simp only [fpart, part', Tryz.f152, Option.getD]
          simp (maxSteps := 5000000) only [SA, SB, SD, R, guardAt, binP, intP, indexAddrP, elemsOf, readCells, lenP, lenAt, resultsP, resultP, oneOr, reduceCtorEq, reduceIte, Nat.reduceEqDiff, Nat.reduceAdd, Nat.zero_add, Nat.reduceMul, Nat.reduceLT, Nat.reduceLeDiff, Int.reduceLT, Int.reduceNeg, Int.reduceLE, appendP, appendAt, letGo, setLoc, locVal, Int.reduceToNat, boxCells, und, TG, SE, SC, unP, htu, hlen, loadR, loadP, lay, List.take_succ_cons, List.take_zero, List.drop_nil, List.filter_nil, List.cons_append, Int.reduceBEq, Int.reduceBNe, Bool.not_true, Bool.not_false, c1, c2, d1p, hsq]
          exact ⟨_, rfl⟩
theorem ck_r_1 (n : Int) (s : List UInt8) : ∃ bx, callL CC 152 [vlV (1, n, s)] [] = some (.ret (.int .i64 (ckV (1, n, s))), bx) := by
  rw [callL_enter (fn := Tryz.f152) (c := Tryz.f152.body.getD .skip) rfl rfl fat_R20_Check rfl ok_R20_Check (Nat.le_of_ble_eq_true rfl)]
  have hlen := len_str s
  obtain ⟨tu, htu⟩ := VLs
  unfold ckV vlV
  simp only
  by_cases c1 : n < 0
  · have ok : okN 1 n = some false := by unfold okN; simp; omega
    rw [ok]
    dsimp only
    obtain ⟨ev, eo, so, co, ⟨hev, hco⟩, R⟩ := RULES CC; rw [← hev]
    skip
    simp only [fpart, part', Tryz.f152, Option.getD]
    simp (maxSteps := 5000000) only [SA, SB, SD, R, guardAt, binP, intP, indexAddrP, elemsOf, readCells, lenP, lenAt, resultsP, resultP, oneOr, reduceCtorEq, reduceIte, Nat.reduceEqDiff, Nat.reduceAdd, Nat.zero_add, Nat.reduceMul, Nat.reduceLT, Nat.reduceLeDiff, Int.reduceLT, Int.reduceNeg, Int.reduceLE, appendP, appendAt, letGo, setLoc, locVal, Int.reduceToNat, boxCells, und, TG, SE, SC, unP, htu, hlen, loadR, loadP, lay, List.take_succ_cons, List.take_zero, List.drop_nil, List.filter_nil, List.cons_append, Int.reduceBEq, Int.reduceBNe, Bool.not_true, Bool.not_false, c1]
    exact ⟨_, rfl⟩
  · by_cases c2 : n > 1
    · have ok : okN 1 n = some false := by unfold okN; simp; omega
      rw [ok]
      dsimp only
      obtain ⟨ev, eo, so, co, ⟨hev, hco⟩, R⟩ := RULES CC; rw [← hev]
      skip
      simp only [fpart, part', Tryz.f152, Option.getD]
      simp (maxSteps := 5000000) only [SA, SB, SD, R, guardAt, binP, intP, indexAddrP, elemsOf, readCells, lenP, lenAt, resultsP, resultP, oneOr, reduceCtorEq, reduceIte, Nat.reduceEqDiff, Nat.reduceAdd, Nat.zero_add, Nat.reduceMul, Nat.reduceLT, Nat.reduceLeDiff, Int.reduceLT, Int.reduceNeg, Int.reduceLE, appendP, appendAt, letGo, setLoc, locVal, Int.reduceToNat, boxCells, und, TG, SE, SC, unP, htu, hlen, loadR, loadP, lay, List.take_succ_cons, List.take_zero, List.drop_nil, List.filter_nil, List.cons_append, Int.reduceBEq, Int.reduceBNe, Bool.not_true, Bool.not_false, c1, c2]
      exact ⟨_, rfl⟩
    · have ok : okN 1 n = some true := by unfold okN; simp; omega
      rw [ok]
      by_cases d1 : 60 < s.length
      · have d1p : (s.length : Int) > 60 := by omega
        simp only [if_pos d1]
        obtain ⟨ev, eo, so, co, ⟨hev, hco⟩, R⟩ := RULES CC; rw [← hev]
        skip
        simp only [fpart, part', Tryz.f152, Option.getD]
        simp (maxSteps := 5000000) only [SA, SB, SD, R, guardAt, binP, intP, indexAddrP, elemsOf, readCells, lenP, lenAt, resultsP, resultP, oneOr, reduceCtorEq, reduceIte, Nat.reduceEqDiff, Nat.reduceAdd, Nat.zero_add, Nat.reduceMul, Nat.reduceLT, Nat.reduceLeDiff, Int.reduceLT, Int.reduceNeg, Int.reduceLE, appendP, appendAt, letGo, setLoc, locVal, Int.reduceToNat, boxCells, und, TG, SE, SC, unP, htu, hlen, loadR, loadP, lay, List.take_succ_cons, List.take_zero, List.drop_nil, List.filter_nil, List.cons_append, Int.reduceBEq, Int.reduceBNe, Bool.not_true, Bool.not_false, c1, c2, d1p]
        exact ⟨_, rfl⟩
      · have d1p : ¬ (s.length : Int) > 60 := by omega
        simp only [if_neg d1]
        have hsq := strP_neq s []
        by_cases d2 : s = []
        · rw [if_neg (fun h => h.1 d2)]
          rw [show (!(s == [])) = false by rw [d2]; rfl] at hsq
          obtain ⟨ev, eo, so, co, ⟨hev, hco⟩, R⟩ := RULES CC; rw [← hev]
          skip
          simp only [fpart, part', Tryz.f152, Option.getD]
          simp (maxSteps := 5000000) only [SA, SB, SD, R, guardAt, binP, intP, indexAddrP, elemsOf, readCells, lenP, lenAt, resultsP, resultP, oneOr, reduceCtorEq, reduceIte, Nat.reduceEqDiff, Nat.reduceAdd, Nat.zero_add, Nat.reduceMul, Nat.reduceLT, Nat.reduceLeDiff, Int.reduceLT, Int.reduceNeg, Int.reduceLE, appendP, appendAt, letGo, setLoc, locVal, Int.reduceToNat, boxCells, und, TG, SE, SC, unP, htu, hlen, loadR, loadP, lay, List.take_succ_cons, List.take_zero, List.drop_nil, List.filter_nil, List.cons_append, Int.reduceBEq, Int.reduceBNe, Bool.not_true, Bool.not_false, c1, c2, d1p, hsq]
          exact ⟨_, rfl⟩
        · rw [if_pos ⟨d2, by omega⟩]
          rw [show (!(s == [])) = true by simpa using d2] at hsq
          obtain ⟨ev, eo, so, co, ⟨hev, hco⟩, R⟩ := RULES CC; rw [← hev]
          skip
          simp only [fpart, part', Tryz.f152, Option.getD]
          simp (maxSteps := 5000000) only [SA, SB, SD, R, guardAt, binP, intP, indexAddrP, elemsOf, readCells, lenP, lenAt, resultsP, resultP, oneOr, reduceCtorEq, reduceIte, Nat.reduceEqDiff, Nat.reduceAdd, Nat.zero_add, Nat.reduceMul, Nat.reduceLT, Nat.reduceLeDiff, Int.reduceLT, Int.reduceNeg, Int.reduceLE, appendP, appendAt, letGo, setLoc, locVal, Int.reduceToNat, boxCells, und, TG, SE, SC, unP, htu, hlen, loadR, loadP, lay, List.take_succ_cons, List.take_zero, List.drop_nil, List.filter_nil, List.cons_append, Int.reduceBEq, Int.reduceBNe, Bool.not_true, Bool.not_false, c1, c2, d1p, hsq]
          exact ⟨_, rfl⟩
theorem ck_r_2 (n : Int) (s : List UInt8) : ∃ bx, callL CC 152 [vlV (2, n, s)] [] = some (.ret (.int .i64 (ckV (2, n, s))), bx) := by
  rw [callL_enter (fn := Tryz.f152) (c := Tryz.f152.body.getD .skip) rfl rfl fat_R20_Check rfl ok_R20_Check (Nat.le_of_ble_eq_true rfl)]
  have hlen := len_str s
  obtain ⟨tu, htu⟩ := VLs
  unfold ckV vlV
  simp only
  by_cases c1 : n < -1099511627776
  · have ok : okN 2 n = some false := by unfold okN; simp [inR]; omega
    rw [ok]
    dsimp only
    obtain ⟨ev, eo, so, co, ⟨hev, hco⟩, R⟩ := RULES CC; rw [← hev]
    skip
    simp only [fpart, part', Tryz.f152, Option.getD]
    simp (maxSteps := 5000000) only [SA, SB, SD, R, guardAt, binP, intP, indexAddrP, elemsOf, readCells, lenP, lenAt, resultsP, resultP, oneOr, reduceCtorEq, reduceIte, Nat.reduceEqDiff, Nat.reduceAdd, Nat.zero_add, Nat.reduceMul, Nat.reduceLT, Nat.reduceLeDiff, Int.reduceLT, Int.reduceNeg, Int.reduceLE, appendP, appendAt, letGo, setLoc, locVal, Int.reduceToNat, boxCells, und, TG, SE, SC, unP, htu, hlen, loadR, loadP, lay, List.take_succ_cons, List.take_zero, List.drop_nil, List.filter_nil, List.cons_append, Int.reduceBEq, Int.reduceBNe, Bool.not_true, Bool.not_false, c1]
    exact ⟨_, rfl⟩
  · by_cases c2 : n > 1099511627776
    · have ok : okN 2 n = some false := by unfold okN; simp [inR]; omega
      rw [ok]
      dsimp only
      obtain ⟨ev, eo, so, co, ⟨hev, hco⟩, R⟩ := RULES CC; rw [← hev]
      skip
      simp only [fpart, part', Tryz.f152, Option.getD]
      simp (maxSteps := 5000000) only [SA, SB, SD, R, guardAt, binP, intP, indexAddrP, elemsOf, readCells, lenP, lenAt, resultsP, resultP, oneOr, reduceCtorEq, reduceIte, Nat.reduceEqDiff, Nat.reduceAdd, Nat.zero_add, Nat.reduceMul, Nat.reduceLT, Nat.reduceLeDiff, Int.reduceLT, Int.reduceNeg, Int.reduceLE, appendP, appendAt, letGo, setLoc, locVal, Int.reduceToNat, boxCells, und, TG, SE, SC, unP, htu, hlen, loadR, loadP, lay, List.take_succ_cons, List.take_zero, List.drop_nil, List.filter_nil, List.cons_append, Int.reduceBEq, Int.reduceBNe, Bool.not_true, Bool.not_false, c1, c2]
      exact ⟨_, rfl⟩
    · have ok : okN 2 n = some true := by unfold okN; simp [inR]; omega
      rw [ok]
      by_cases d1 : 60 < s.length
      · have d1p : (s.length : Int) > 60 := by omega
        simp only [if_pos d1]
        obtain ⟨ev, eo, so, co, ⟨hev, hco⟩, R⟩ := RULES CC; rw [← hev]
        skip
        simp only [fpart, part', Tryz.f152, Option.getD]
        simp (maxSteps := 5000000) only [SA, SB, SD, R, guardAt, binP, intP, indexAddrP, elemsOf, readCells, lenP, lenAt, resultsP, resultP, oneOr, reduceCtorEq, reduceIte, Nat.reduceEqDiff, Nat.reduceAdd, Nat.zero_add, Nat.reduceMul, Nat.reduceLT, Nat.reduceLeDiff, Int.reduceLT, Int.reduceNeg, Int.reduceLE, appendP, appendAt, letGo, setLoc, locVal, Int.reduceToNat, boxCells, und, TG, SE, SC, unP, htu, hlen, loadR, loadP, lay, List.take_succ_cons, List.take_zero, List.drop_nil, List.filter_nil, List.cons_append, Int.reduceBEq, Int.reduceBNe, Bool.not_true, Bool.not_false, c1, c2, d1p]
        exact ⟨_, rfl⟩
      · have d1p : ¬ (s.length : Int) > 60 := by omega
        simp only [if_neg d1]
        have hsq := strP_neq s []
        by_cases d2 : s = []
        · rw [if_neg (fun h => h.1 d2)]
          rw [show (!(s == [])) = false by rw [d2]; rfl] at hsq
          obtain ⟨ev, eo, so, co, ⟨hev, hco⟩, R⟩ := RULES CC; rw [← hev]
          skip
          simp only [fpart, part', Tryz.f152, Option.getD]
          simp (maxSteps := 5000000) only [SA, SB, SD, R, guardAt, binP, intP, indexAddrP, elemsOf, readCells, lenP, lenAt, resultsP, resultP, oneOr, reduceCtorEq, reduceIte, Nat.reduceEqDiff, Nat.reduceAdd, Nat.zero_add, Nat.reduceMul, Nat.reduceLT, Nat.reduceLeDiff, Int.reduceLT, Int.reduceNeg, Int.reduceLE, appendP, appendAt, letGo, setLoc, locVal, Int.reduceToNat, boxCells, und, TG, SE, SC, unP, htu, hlen, loadR, loadP, lay, List.take_succ_cons, List.take_zero, List.drop_nil, List.filter_nil, List.cons_append, Int.reduceBEq, Int.reduceBNe, Bool.not_true, Bool.not_false, c1, c2, d1p, hsq]
          exact ⟨_, rfl⟩
        · rw [if_pos ⟨d2, by omega⟩]
          rw [show (!(s == [])) = true by simpa using d2] at hsq
          obtain ⟨ev, eo, so, co, ⟨hev, hco⟩, R⟩ := RULES CC; rw [← hev]
          skip
          simp only [fpart, part', Tryz.f152, Option.getD]
          simp (maxSteps := 5000000) only [SA, SB, SD, R, guardAt, binP, intP, indexAddrP, elemsOf, readCells, lenP, lenAt, resultsP, resultP, oneOr, reduceCtorEq, reduceIte, Nat.reduceEqDiff, Nat.reduceAdd, Nat.zero_add, Nat.reduceMul, Nat.reduceLT, Nat.reduceLeDiff, Int.reduceLT, Int.reduceNeg, Int.reduceLE, appendP, appendAt, letGo, setLoc, locVal, Int.reduceToNat, boxCells, und, TG, SE, SC, unP, htu, hlen, loadR, loadP, lay, List.take_succ_cons, List.take_zero, List.drop_nil, List.filter_nil, List.cons_append, Int.reduceBEq, Int.reduceBNe, Bool.not_true, Bool.not_false, c1, c2, d1p, hsq]
          exact ⟨_, rfl⟩
theorem ck_r_3 (n : Int) (s : List UInt8) : ∃ bx, callL CC 152 [vlV (3, n, s)] [] = some (.ret (.int .i64 (ckV (3, n, s))), bx) := by
  rw [callL_enter (fn := Tryz.f152) (c := Tryz.f152.body.getD .skip) rfl rfl fat_R20_Check rfl ok_R20_Check (Nat.le_of_ble_eq_true rfl)]
  have hlen := len_str s
  obtain ⟨tu, htu⟩ := VLs
  unfold ckV vlV
  simp only
  by_cases c1 : n < 0
  · have ok : okN 3 n = some false := by unfold okN; simp [inR]; omega
    rw [ok]
    dsimp only
    obtain ⟨ev, eo, so, co, ⟨hev, hco⟩, R⟩ := RULES CC; rw [← hev]
    skip
    simp only [fpart, part', Tryz.f152, Option.getD]
    simp (maxSteps := 5000000) only [SA, SB, SD, R, guardAt, binP, intP, indexAddrP, elemsOf, readCells, lenP, lenAt, resultsP, resultP, oneOr, reduceCtorEq, reduceIte, Nat.reduceEqDiff, Nat.reduceAdd, Nat.zero_add, Nat.reduceMul, Nat.reduceLT, Nat.reduceLeDiff, Int.reduceLT, Int.reduceNeg, Int.reduceLE, appendP, appendAt, letGo, setLoc, locVal, Int.reduceToNat, boxCells, und, TG, SE, SC, unP, htu, hlen, loadR, loadP, lay, List.take_succ_cons, List.take_zero, List.drop_nil, List.filter_nil, List.cons_append, Int.reduceBEq, Int.reduceBNe, Bool.not_true, Bool.not_false, c1]
    exact ⟨_, rfl⟩
  · by_cases c2 : n > 63
    · have ok : okN 3 n = some false := by unfold okN; simp [inR]; omega
      rw [ok]
      dsimp only
      obtain ⟨ev, eo, so, co, ⟨hev, hco⟩, R⟩ := RULES CC; rw [← hev]
      skip
      simp only [fpart, part', Tryz.f152, Option.getD]
      simp (maxSteps := 5000000) only [SA, SB, SD, R, guardAt, binP, intP, indexAddrP, elemsOf, readCells, lenP, lenAt, resultsP, resultP, oneOr, reduceCtorEq, reduceIte, Nat.reduceEqDiff, Nat.reduceAdd, Nat.zero_add, Nat.reduceMul, Nat.reduceLT, Nat.reduceLeDiff, Int.reduceLT, Int.reduceNeg, Int.reduceLE, appendP, appendAt, letGo, setLoc, locVal, Int.reduceToNat, boxCells, und, TG, SE, SC, unP, htu, hlen, loadR, loadP, lay, List.take_succ_cons, List.take_zero, List.drop_nil, List.filter_nil, List.cons_append, Int.reduceBEq, Int.reduceBNe, Bool.not_true, Bool.not_false, c1, c2]
      exact ⟨_, rfl⟩
    · have ok : okN 3 n = some true := by unfold okN; simp [inR]; omega
      rw [ok]
      by_cases d1 : 60 < s.length
      · have d1p : (s.length : Int) > 60 := by omega
        simp only [if_pos d1]
        obtain ⟨ev, eo, so, co, ⟨hev, hco⟩, R⟩ := RULES CC; rw [← hev]
        skip
        simp only [fpart, part', Tryz.f152, Option.getD]
        simp (maxSteps := 5000000) only [SA, SB, SD, R, guardAt, binP, intP, indexAddrP, elemsOf, readCells, lenP, lenAt, resultsP, resultP, oneOr, reduceCtorEq, reduceIte, Nat.reduceEqDiff, Nat.reduceAdd, Nat.zero_add, Nat.reduceMul, Nat.reduceLT, Nat.reduceLeDiff, Int.reduceLT, Int.reduceNeg, Int.reduceLE, appendP, appendAt, letGo, setLoc, locVal, Int.reduceToNat, boxCells, und, TG, SE, SC, unP, htu, hlen, loadR, loadP, lay, List.take_succ_cons, List.take_zero, List.drop_nil, List.filter_nil, List.cons_append, Int.reduceBEq, Int.reduceBNe, Bool.not_true, Bool.not_false, c1, c2, d1p]
        exact ⟨_, rfl⟩
      · have d1p : ¬ (s.length : Int) > 60 := by omega
        simp only [if_neg d1]
        have hsq := strP_neq s []
        by_cases d2 : s = []
        · rw [if_neg (fun h => h.1 d2)]
          rw [show (!(s == [])) = false by rw [d2]; rfl] at hsq
          obtain ⟨ev, eo, so, co, ⟨hev, hco⟩, R⟩ := RULES CC; rw [← hev]
          skip
          simp only [fpart, part', Tryz.f152, Option.getD]
          simp (maxSteps := 5000000) only [SA, SB, SD, R, guardAt, binP, intP, indexAddrP, elemsOf, readCells, lenP, lenAt, resultsP, resultP, oneOr, reduceCtorEq, reduceIte, Nat.reduceEqDiff, Nat.reduceAdd, Nat.zero_add, Nat.reduceMul, Nat.reduceLT, Nat.reduceLeDiff, Int.reduceLT, Int.reduceNeg, Int.reduceLE, appendP, appendAt, letGo, setLoc, locVal, Int.reduceToNat, boxCells, und, TG, SE, SC, unP, htu, hlen, loadR, loadP, lay, List.take_succ_cons, List.take_zero, List.drop_nil, List.filter_nil, List.cons_append, Int.reduceBEq, Int.reduceBNe, Bool.not_true, Bool.not_false, c1, c2, d1p, hsq]
          exact ⟨_, rfl⟩
        · rw [if_pos ⟨d2, by omega⟩]
          rw [show (!(s == [])) = true by simpa using d2] at hsq
          obtain ⟨ev, eo, so, co, ⟨hev, hco⟩, R⟩ := RULES CC; rw [← hev]
          skip
          simp only [fpart, part', Tryz.f152, Option.getD]
          simp (maxSteps := 5000000) only [SA, SB, SD, R, guardAt, binP, intP, indexAddrP, elemsOf, readCells, lenP, lenAt, resultsP, resultP, oneOr, reduceCtorEq, reduceIte, Nat.reduceEqDiff, Nat.reduceAdd, Nat.zero_add, Nat.reduceMul, Nat.reduceLT, Nat.reduceLeDiff, Int.reduceLT, Int.reduceNeg, Int.reduceLE, appendP, appendAt, letGo, setLoc, locVal, Int.reduceToNat, boxCells, und, TG, SE, SC, unP, htu, hlen, loadR, loadP, lay, List.take_succ_cons, List.take_zero, List.drop_nil, List.filter_nil, List.cons_append, Int.reduceBEq, Int.reduceBNe, Bool.not_true, Bool.not_false, c1, c2, d1p, hsq]
          exact ⟨_, rfl⟩
theorem ck_r_o (k n : Int) (s : List UInt8) (h : k ≠ 0 ∧ k ≠ 4 ∧ k ≠ 1 ∧ k ≠ 2 ∧ k ≠ 3) : ∃ bx, callL CC 152 [vlV (k, n, s)] [] = some (.ret (.int .i64 (ckV (k, n, s))), bx) := by
  rw [callL_enter (fn := Tryz.f152) (c := Tryz.f152.body.getD .skip) rfl rfl fat_R20_Check rfl ok_R20_Check (Nat.le_of_ble_eq_true rfl)]
  obtain ⟨k0, k4, k1, k2, k3⟩ := h
  have ok : okN k n = none := by unfold okN; rw [if_neg (by omega), if_neg k1, if_neg k2, if_neg k3]
  have e0 : (k == 0) = false := by simpa using k0
  have e4 : (k == 4) = false := by simpa using k4
  have e1 : (k == 1) = false := by simpa using k1
  have e2 : (k == 2) = false := by simpa using k2
  have e3 : (k == 3) = false := by simpa using k3
  have hlen := len_str s
  obtain ⟨tu, htu⟩ := VLs
  unfold ckV vlV
  simp only
  rw [ok]
  dsimp only
  obtain ⟨ev, eo, so, co, ⟨hev, hco⟩, R⟩ := RULES CC; rw [← hev]
  skip
  simp only [fpart, part', Tryz.f152, Option.getD]
  simp (maxSteps := 5000000) only [SA, SB, SD, R, guardAt, binP, intP, indexAddrP, elemsOf, readCells, lenP, lenAt, resultsP, resultP, oneOr, reduceCtorEq, reduceIte, Nat.reduceEqDiff, Nat.reduceAdd, Nat.zero_add, Nat.reduceMul, Nat.reduceLT, Nat.reduceLeDiff, Int.reduceLT, Int.reduceNeg, Int.reduceLE, appendP, appendAt, letGo, setLoc, locVal, Int.reduceToNat, boxCells, und, TG, SE, SC, unP, htu, hlen, loadR, loadP, lay, List.take_succ_cons, List.take_zero, List.drop_nil, List.filter_nil, List.cons_append, Int.reduceBEq, Int.reduceBNe, Bool.not_true, Bool.not_false, e0, e4, e1, e2, e3]
  exact ⟨_, rfl⟩
theorem call_value_Check (v : Vl) : ∃ bx, callL CC 118 [vlV v] [] = some (.ret (.int .i64 (ckV v)), bx) := by
  obtain ⟨k, n, s⟩ := v
  by_cases k0 : k = 0
  · subst k0; exact ck_v_0 n s
  by_cases k4 : k = 4
  · subst k4; exact ck_v_4 n s
  by_cases k1 : k = 1
  · subst k1; exact ck_v_1 n s
  by_cases k2 : k = 2
  · subst k2; exact ck_v_2 n s
  by_cases k3 : k = 3
  · subst k3; exact ck_v_3 n s
  exact ck_v_o k n s ⟨k0, k4, k1, k2, k3⟩
theorem op_value_Check (v : Vl) (bx) : callOp CC (callL CC) 118 [vlV v] bx = some (.ret (.int .i64 (ckV v)), bx) := by
  obtain ⟨b, h⟩ := call_value_Check v
  exact callOp_of rfl rfl h rfl
theorem call_R20_Check (v : Vl) : ∃ bx, callL CC 152 [vlV v] [] = some (.ret (.int .i64 (ckV v)), bx) := by
  obtain ⟨k, n, s⟩ := v
  by_cases k0 : k = 0
  · subst k0; exact ck_r_0 n s
  by_cases k4 : k = 4
  · subst k4; exact ck_r_4 n s
  by_cases k1 : k = 1
  · subst k1; exact ck_r_1 n s
  by_cases k2 : k = 2
  · subst k2; exact ck_r_2 n s
  by_cases k3 : k = 3
  · subst k3; exact ck_r_3 n s
  exact ck_r_o k n s ⟨k0, k4, k1, k2, k3⟩
theorem op_R20_Check (v : Vl) (bx) : callOp CC (callL CC) 152 [vlV v] bx = some (.ret (.int .i64 (ckV v)), bx) := by
  obtain ⟨b, h⟩ := call_R20_Check v
  exact callOp_of rfl rfl h rfl
end Go.HH
