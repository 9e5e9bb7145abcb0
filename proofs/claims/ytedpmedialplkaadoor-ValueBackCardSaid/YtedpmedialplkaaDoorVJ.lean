/-
  Joined: V2, V3, V4, V5, V6, V7, V8.
-/
import Derived.Test.YtedpmedialplkaaDoorV1
namespace Go.HH
open Go Go.Proofs
set_option maxRecDepth 100000
set_option linter.unusedSimpArgs false
set_option linter.unusedVariables false
theorem ok_value_inRange : fnOK CC Tryd.f38 (Tryd.f38.body.getD .skip) = true := by kernel_rfl
theorem fat_value_inRange : CC.P.funcs[38]? = some Tryd.f38 := by kernel_rfl
theorem ok_value_Check : fnOK CC Tryd.f13 (Tryd.f13.body.getD .skip) = true := by kernel_rfl
theorem fat_value_Check : CC.P.funcs[13]? = some Tryd.f13 := by kernel_rfl
theorem ok_R20_Check : fnOK CC Tryd.f14 (Tryd.f14.body.getD .skip) = true := by kernel_rfl
theorem fat_R20_Check : CC.P.funcs[14]? = some Tryd.f14 := by kernel_rfl
/-- is a number in the range? -/
def inR (n : Int) : Bool := decide (-1099511627776 ≤ n ∧ n ≤ 1099511627776)
theorem call_value_inRange (n : Int) : callL CC 38 [.int .i64 n] [] = some (.ret (.bool (inR n)), []) := by
  rw [callL_enter (fn := Tryd.f38) (c := Tryd.f38.body.getD .skip) rfl rfl fat_value_inRange rfl ok_value_inRange (Nat.le_of_ble_eq_true rfl)]
  unfold inR
  by_cases c1 : n ≥ -1099511627776
  · by_cases c2 : n ≤ 1099511627776
    · rw [decide_eq_true (show -1099511627776 ≤ n ∧ n ≤ 1099511627776 from ⟨c1, c2⟩)]
      obtain ⟨ev, eo, so, co, ⟨hev, hco⟩, R⟩ := RULES CC; rw [← hev]
      simp only [fpart, part', Tryd.f38, Option.getD]
      simp (maxSteps := 5000000) only [SA, SB, SD, R, guardAt, binP, intP, indexAddrP, elemsOf, readCells, lenP, lenAt, resultsP, resultP, oneOr, reduceCtorEq, reduceIte, Nat.reduceEqDiff, Nat.reduceAdd, Nat.zero_add, Nat.reduceMul, Nat.reduceLT, Nat.reduceLeDiff, Int.reduceLT, Int.reduceNeg, Int.reduceLE, appendP, appendAt, letGo, setLoc, locVal, Int.reduceToNat, boxCells, und, TG, SE, c1, c2]
    · rw [decide_eq_false (show ¬ (-1099511627776 ≤ n ∧ n ≤ 1099511627776) from fun h => c2 h.2)]
      obtain ⟨ev, eo, so, co, ⟨hev, hco⟩, R⟩ := RULES CC; rw [← hev]
      simp only [fpart, part', Tryd.f38, Option.getD]
      simp (maxSteps := 5000000) only [SA, SB, SD, R, guardAt, binP, intP, indexAddrP, elemsOf, readCells, lenP, lenAt, resultsP, resultP, oneOr, reduceCtorEq, reduceIte, Nat.reduceEqDiff, Nat.reduceAdd, Nat.zero_add, Nat.reduceMul, Nat.reduceLT, Nat.reduceLeDiff, Int.reduceLT, Int.reduceNeg, Int.reduceLE, appendP, appendAt, letGo, setLoc, locVal, Int.reduceToNat, boxCells, und, TG, SE, c1, c2]
  · rw [decide_eq_false (show ¬ (-1099511627776 ≤ n ∧ n ≤ 1099511627776) from fun h => c1 h.1)]
    obtain ⟨ev, eo, so, co, ⟨hev, hco⟩, R⟩ := RULES CC; rw [← hev]
    simp only [fpart, part', Tryd.f38, Option.getD]
    simp (maxSteps := 5000000) only [SA, SB, SD, R, guardAt, binP, intP, indexAddrP, elemsOf, readCells, lenP, lenAt, resultsP, resultP, oneOr, reduceCtorEq, reduceIte, Nat.reduceEqDiff, Nat.reduceAdd, Nat.zero_add, Nat.reduceMul, Nat.reduceLT, Nat.reduceLeDiff, Int.reduceLT, Int.reduceNeg, Int.reduceLE, appendP, appendAt, letGo, setLoc, locVal, Int.reduceToNat, boxCells, und, TG, SE, c1]
theorem op_value_inRange (n : Int) (bx) : callOp CC (callL CC) 38 [.int .i64 n] bx = some (.ret (.bool (inR n)), bx) := callOp_of rfl (by simp only [SA, Bool.and_true]) (call_value_inRange n) rfl
theorem inR_t {n : Int} (h : inR n = true) : -1099511627776 ≤ n ∧ n ≤ 1099511627776 := of_decide_eq_true h
theorem inR_f {n : Int} (h : inR n = false) : n < -1099511627776 ∨ 1099511627776 < n := by have := of_decide_eq_false h; omega
/-- is the number of a value right for its kind? -/
def okN (k n : Int) : Option Bool := if k = 0 ∨ k = 4 then some (n == 0) else if k = 1 then some (n == 0 || n == 1) else if k = 2 then some (inR n) else if k = 3 then some (decide (0 ≤ n) && decide (n ≤ 63)) else none
/-- what 'Check' says of a value -/
def ckV (v : Vl) : Int := match okN v.1 v.2.1 with
  | none => 7
  | some false => 2
  | some true => if 60 < v.2.2.length then 3 else if v.2.2 ≠ [] ∧ v.1 ≠ 4 then 4 else 0

theorem ck_v_0 (n : Int) (s : List UInt8) : ∃ bx, callL CC 13 [vlV (0, n, s)] [] = some (.ret (.int .i64 (ckV (0, n, s))), bx) := by
  rw [callL_enter (fn := Tryd.f13) (c := Tryd.f13.body.getD .skip) rfl rfl fat_value_Check rfl ok_value_Check (Nat.le_of_ble_eq_true rfl)]
  have hlen := len_str s
  obtain ⟨tu, htu⟩ := VLs
  unfold ckV vlV
  simp only
  by_cases c1 : n = 0
  · subst c1
    have ok : okN 0 0 = some true := rfl
    rw [ok]
    by_cases d1 : 60 < s.length
    · have d1p : (s.length : Int) > 60 := by omega
      simp only [if_pos d1]
      obtain ⟨ev, eo, so, co, ⟨hev, hco⟩, R⟩ := RULES CC; rw [← hev]
      skip
      simp only [fpart, part', Tryd.f13, Option.getD]
      simp (maxSteps := 5000000) only [SA, SB, SD, R, guardAt, binP, intP, indexAddrP, elemsOf, readCells, lenP, lenAt, resultsP, resultP, oneOr, reduceCtorEq, reduceIte, Nat.reduceEqDiff, Nat.reduceAdd, Nat.zero_add, Nat.reduceMul, Nat.reduceLT, Nat.reduceLeDiff, Int.reduceLT, Int.reduceNeg, Int.reduceLE, appendP, appendAt, letGo, setLoc, locVal, Int.reduceToNat, boxCells, und, TG, SE, SC, unP, htu, hlen, loadR, loadP, lay, List.take_succ_cons, List.take_zero, List.drop_nil, List.filter_nil, List.cons_append, Int.reduceBEq, Int.reduceBNe, Bool.not_true, Bool.not_false, d1p]
      exact ⟨_, rfl⟩
    · have d1p : ¬ (s.length : Int) > 60 := by omega
      simp only [if_neg d1]
      have hsq := strP_neq s []
      by_cases d2 : s = []
      · rw [if_neg (fun h => h.1 d2)]
        rw [show (!(s == [])) = false by rw [d2]; rfl] at hsq
        obtain ⟨ev, eo, so, co, ⟨hev, hco⟩, R⟩ := RULES CC; rw [← hev]
        skip
        simp only [fpart, part', Tryd.f13, Option.getD]
        simp (maxSteps := 5000000) only [SA, SB, SD, R, guardAt, binP, intP, indexAddrP, elemsOf, readCells, lenP, lenAt, resultsP, resultP, oneOr, reduceCtorEq, reduceIte, Nat.reduceEqDiff, Nat.reduceAdd, Nat.zero_add, Nat.reduceMul, Nat.reduceLT, Nat.reduceLeDiff, Int.reduceLT, Int.reduceNeg, Int.reduceLE, appendP, appendAt, letGo, setLoc, locVal, Int.reduceToNat, boxCells, und, TG, SE, SC, unP, htu, hlen, loadR, loadP, lay, List.take_succ_cons, List.take_zero, List.drop_nil, List.filter_nil, List.cons_append, Int.reduceBEq, Int.reduceBNe, Bool.not_true, Bool.not_false, d1p, hsq]
        exact ⟨_, rfl⟩
      · rw [if_pos ⟨d2, by omega⟩]
        rw [show (!(s == [])) = true by simpa using d2] at hsq
        obtain ⟨ev, eo, so, co, ⟨hev, hco⟩, R⟩ := RULES CC; rw [← hev]
        skip
        simp only [fpart, part', Tryd.f13, Option.getD]
        simp (maxSteps := 5000000) only [SA, SB, SD, R, guardAt, binP, intP, indexAddrP, elemsOf, readCells, lenP, lenAt, resultsP, resultP, oneOr, reduceCtorEq, reduceIte, Nat.reduceEqDiff, Nat.reduceAdd, Nat.zero_add, Nat.reduceMul, Nat.reduceLT, Nat.reduceLeDiff, Int.reduceLT, Int.reduceNeg, Int.reduceLE, appendP, appendAt, letGo, setLoc, locVal, Int.reduceToNat, boxCells, und, TG, SE, SC, unP, htu, hlen, loadR, loadP, lay, List.take_succ_cons, List.take_zero, List.drop_nil, List.filter_nil, List.cons_append, Int.reduceBEq, Int.reduceBNe, Bool.not_true, Bool.not_false, d1p, hsq]
        exact ⟨_, rfl⟩
  · have c1p : (n == 0) = false := by simpa using c1
    have ok : okN 0 n = some false := by unfold okN; simpa using c1
    rw [ok]
    dsimp only
    obtain ⟨ev, eo, so, co, ⟨hev, hco⟩, R⟩ := RULES CC; rw [← hev]
    skip
    simp only [fpart, part', Tryd.f13, Option.getD]
    simp (maxSteps := 5000000) only [SA, SB, SD, R, guardAt, binP, intP, indexAddrP, elemsOf, readCells, lenP, lenAt, resultsP, resultP, oneOr, reduceCtorEq, reduceIte, Nat.reduceEqDiff, Nat.reduceAdd, Nat.zero_add, Nat.reduceMul, Nat.reduceLT, Nat.reduceLeDiff, Int.reduceLT, Int.reduceNeg, Int.reduceLE, appendP, appendAt, letGo, setLoc, locVal, Int.reduceToNat, boxCells, und, TG, SE, SC, unP, htu, hlen, loadR, loadP, lay, List.take_succ_cons, List.take_zero, List.drop_nil, List.filter_nil, List.cons_append, Int.reduceBEq, Int.reduceBNe, Bool.not_true, Bool.not_false, c1p]
    exact ⟨_, rfl⟩
theorem ck_v_4 (n : Int) (s : List UInt8) : ∃ bx, callL CC 13 [vlV (4, n, s)] [] = some (.ret (.int .i64 (ckV (4, n, s))), bx) := by
  rw [callL_enter (fn := Tryd.f13) (c := Tryd.f13.body.getD .skip) rfl rfl fat_value_Check rfl ok_value_Check (Nat.le_of_ble_eq_true rfl)]
  have hlen := len_str s
  obtain ⟨tu, htu⟩ := VLs
  unfold ckV vlV
  simp only
  by_cases c1 : n = 0
  · subst c1
    have ok : okN 4 0 = some true := rfl
    rw [ok]
    by_cases d1 : 60 < s.length
    · have d1p : (s.length : Int) > 60 := by omega
      simp only [if_pos d1]
      obtain ⟨ev, eo, so, co, ⟨hev, hco⟩, R⟩ := RULES CC; rw [← hev]
      skip
      simp only [fpart, part', Tryd.f13, Option.getD]
      simp (maxSteps := 5000000) only [SA, SB, SD, R, guardAt, binP, intP, indexAddrP, elemsOf, readCells, lenP, lenAt, resultsP, resultP, oneOr, reduceCtorEq, reduceIte, Nat.reduceEqDiff, Nat.reduceAdd, Nat.zero_add, Nat.reduceMul, Nat.reduceLT, Nat.reduceLeDiff, Int.reduceLT, Int.reduceNeg, Int.reduceLE, appendP, appendAt, letGo, setLoc, locVal, Int.reduceToNat, boxCells, und, TG, SE, SC, unP, htu, hlen, loadR, loadP, lay, List.take_succ_cons, List.take_zero, List.drop_nil, List.filter_nil, List.cons_append, Int.reduceBEq, Int.reduceBNe, Bool.not_true, Bool.not_false, d1p]
      exact ⟨_, rfl⟩
    · have d1p : ¬ (s.length : Int) > 60 := by omega
      simp only [if_neg d1]
      simp only [ne_eq, not_true_eq_false, and_false, if_false]
      have hsq := strP_neq s []
      generalize (!(s == [])) = sb at *
      cases sb
      · skip
        obtain ⟨ev, eo, so, co, ⟨hev, hco⟩, R⟩ := RULES CC; rw [← hev]
        skip
        simp only [fpart, part', Tryd.f13, Option.getD]
        simp (maxSteps := 5000000) only [SA, SB, SD, R, guardAt, binP, intP, indexAddrP, elemsOf, readCells, lenP, lenAt, resultsP, resultP, oneOr, reduceCtorEq, reduceIte, Nat.reduceEqDiff, Nat.reduceAdd, Nat.zero_add, Nat.reduceMul, Nat.reduceLT, Nat.reduceLeDiff, Int.reduceLT, Int.reduceNeg, Int.reduceLE, appendP, appendAt, letGo, setLoc, locVal, Int.reduceToNat, boxCells, und, TG, SE, SC, unP, htu, hlen, loadR, loadP, lay, List.take_succ_cons, List.take_zero, List.drop_nil, List.filter_nil, List.cons_append, Int.reduceBEq, Int.reduceBNe, Bool.not_true, Bool.not_false, d1p, hsq]
        exact ⟨_, rfl⟩
      · skip
        obtain ⟨ev, eo, so, co, ⟨hev, hco⟩, R⟩ := RULES CC; rw [← hev]
        skip
        simp only [fpart, part', Tryd.f13, Option.getD]
        simp (maxSteps := 5000000) only [SA, SB, SD, R, guardAt, binP, intP, indexAddrP, elemsOf, readCells, lenP, lenAt, resultsP, resultP, oneOr, reduceCtorEq, reduceIte, Nat.reduceEqDiff, Nat.reduceAdd, Nat.zero_add, Nat.reduceMul, Nat.reduceLT, Nat.reduceLeDiff, Int.reduceLT, Int.reduceNeg, Int.reduceLE, appendP, appendAt, letGo, setLoc, locVal, Int.reduceToNat, boxCells, und, TG, SE, SC, unP, htu, hlen, loadR, loadP, lay, List.take_succ_cons, List.take_zero, List.drop_nil, List.filter_nil, List.cons_append, Int.reduceBEq, Int.reduceBNe, Bool.not_true, Bool.not_false, d1p, hsq]
        exact ⟨_, rfl⟩
  · have c1p : (n == 0) = false := by simpa using c1
    have ok : okN 4 n = some false := by unfold okN; simpa using c1
    rw [ok]
    dsimp only
    obtain ⟨ev, eo, so, co, ⟨hev, hco⟩, R⟩ := RULES CC; rw [← hev]
    skip
    simp only [fpart, part', Tryd.f13, Option.getD]
    simp (maxSteps := 5000000) only [SA, SB, SD, R, guardAt, binP, intP, indexAddrP, elemsOf, readCells, lenP, lenAt, resultsP, resultP, oneOr, reduceCtorEq, reduceIte, Nat.reduceEqDiff, Nat.reduceAdd, Nat.zero_add, Nat.reduceMul, Nat.reduceLT, Nat.reduceLeDiff, Int.reduceLT, Int.reduceNeg, Int.reduceLE, appendP, appendAt, letGo, setLoc, locVal, Int.reduceToNat, boxCells, und, TG, SE, SC, unP, htu, hlen, loadR, loadP, lay, List.take_succ_cons, List.take_zero, List.drop_nil, List.filter_nil, List.cons_append, Int.reduceBEq, Int.reduceBNe, Bool.not_true, Bool.not_false, c1p]
    exact ⟨_, rfl⟩
theorem ck_v_1 (n : Int) (s : List UInt8) : ∃ bx, callL CC 13 [vlV (1, n, s)] [] = some (.ret (.int .i64 (ckV (1, n, s))), bx) := by
  rw [callL_enter (fn := Tryd.f13) (c := Tryd.f13.body.getD .skip) rfl rfl fat_value_Check rfl ok_value_Check (Nat.le_of_ble_eq_true rfl)]
  have hlen := len_str s
  obtain ⟨tu, htu⟩ := VLs
  unfold ckV vlV
  simp only
  by_cases c1 : n = 0
  · subst c1
    have ok : okN 1 0 = some true := rfl
    rw [ok]
    by_cases d1 : 60 < s.length
    · have d1p : (s.length : Int) > 60 := by omega
      simp only [if_pos d1]
      obtain ⟨ev, eo, so, co, ⟨hev, hco⟩, R⟩ := RULES CC; rw [← hev]
      skip
      simp only [fpart, part', Tryd.f13, Option.getD]
      simp (maxSteps := 5000000) only [SA, SB, SD, R, guardAt, binP, intP, indexAddrP, elemsOf, readCells, lenP, lenAt, resultsP, resultP, oneOr, reduceCtorEq, reduceIte, Nat.reduceEqDiff, Nat.reduceAdd, Nat.zero_add, Nat.reduceMul, Nat.reduceLT, Nat.reduceLeDiff, Int.reduceLT, Int.reduceNeg, Int.reduceLE, appendP, appendAt, letGo, setLoc, locVal, Int.reduceToNat, boxCells, und, TG, SE, SC, unP, htu, hlen, loadR, loadP, lay, List.take_succ_cons, List.take_zero, List.drop_nil, List.filter_nil, List.cons_append, Int.reduceBEq, Int.reduceBNe, Bool.not_true, Bool.not_false, d1p]
      exact ⟨_, rfl⟩
    · have d1p : ¬ (s.length : Int) > 60 := by omega
      simp only [if_neg d1]
      have hsq := strP_neq s []
      by_cases d2 : s = []
      · rw [if_neg (fun h => h.1 d2)]
        rw [show (!(s == [])) = false by rw [d2]; rfl] at hsq
        obtain ⟨ev, eo, so, co, ⟨hev, hco⟩, R⟩ := RULES CC; rw [← hev]
        skip
        simp only [fpart, part', Tryd.f13, Option.getD]
        simp (maxSteps := 5000000) only [SA, SB, SD, R, guardAt, binP, intP, indexAddrP, elemsOf, readCells, lenP, lenAt, resultsP, resultP, oneOr, reduceCtorEq, reduceIte, Nat.reduceEqDiff, Nat.reduceAdd, Nat.zero_add, Nat.reduceMul, Nat.reduceLT, Nat.reduceLeDiff, Int.reduceLT, Int.reduceNeg, Int.reduceLE, appendP, appendAt, letGo, setLoc, locVal, Int.reduceToNat, boxCells, und, TG, SE, SC, unP, htu, hlen, loadR, loadP, lay, List.take_succ_cons, List.take_zero, List.drop_nil, List.filter_nil, List.cons_append, Int.reduceBEq, Int.reduceBNe, Bool.not_true, Bool.not_false, d1p, hsq]
        exact ⟨_, rfl⟩
      · rw [if_pos ⟨d2, by omega⟩]
        rw [show (!(s == [])) = true by simpa using d2] at hsq
        obtain ⟨ev, eo, so, co, ⟨hev, hco⟩, R⟩ := RULES CC; rw [← hev]
        skip
        simp only [fpart, part', Tryd.f13, Option.getD]
        simp (maxSteps := 5000000) only [SA, SB, SD, R, guardAt, binP, intP, indexAddrP, elemsOf, readCells, lenP, lenAt, resultsP, resultP, oneOr, reduceCtorEq, reduceIte, Nat.reduceEqDiff, Nat.reduceAdd, Nat.zero_add, Nat.reduceMul, Nat.reduceLT, Nat.reduceLeDiff, Int.reduceLT, Int.reduceNeg, Int.reduceLE, appendP, appendAt, letGo, setLoc, locVal, Int.reduceToNat, boxCells, und, TG, SE, SC, unP, htu, hlen, loadR, loadP, lay, List.take_succ_cons, List.take_zero, List.drop_nil, List.filter_nil, List.cons_append, Int.reduceBEq, Int.reduceBNe, Bool.not_true, Bool.not_false, d1p, hsq]
        exact ⟨_, rfl⟩
  · have c1p : (n == 0) = false := by simpa using c1
    by_cases c2 : n = 1
    · subst c2
      have ok : okN 1 1 = some true := rfl
      rw [ok]
      by_cases d1 : 60 < s.length
      · have d1p : (s.length : Int) > 60 := by omega
        simp only [if_pos d1]
        obtain ⟨ev, eo, so, co, ⟨hev, hco⟩, R⟩ := RULES CC; rw [← hev]
        skip
        simp only [fpart, part', Tryd.f13, Option.getD]
        simp (maxSteps := 5000000) only [SA, SB, SD, R, guardAt, binP, intP, indexAddrP, elemsOf, readCells, lenP, lenAt, resultsP, resultP, oneOr, reduceCtorEq, reduceIte, Nat.reduceEqDiff, Nat.reduceAdd, Nat.zero_add, Nat.reduceMul, Nat.reduceLT, Nat.reduceLeDiff, Int.reduceLT, Int.reduceNeg, Int.reduceLE, appendP, appendAt, letGo, setLoc, locVal, Int.reduceToNat, boxCells, und, TG, SE, SC, unP, htu, hlen, loadR, loadP, lay, List.take_succ_cons, List.take_zero, List.drop_nil, List.filter_nil, List.cons_append, Int.reduceBEq, Int.reduceBNe, Bool.not_true, Bool.not_false, d1p]
        exact ⟨_, rfl⟩
      · have d1p : ¬ (s.length : Int) > 60 := by omega
        simp only [if_neg d1]
        have hsq := strP_neq s []
        by_cases d2 : s = []
        · rw [if_neg (fun h => h.1 d2)]
          rw [show (!(s == [])) = false by rw [d2]; rfl] at hsq
          obtain ⟨ev, eo, so, co, ⟨hev, hco⟩, R⟩ := RULES CC; rw [← hev]
          skip
          simp only [fpart, part', Tryd.f13, Option.getD]
          simp (maxSteps := 5000000) only [SA, SB, SD, R, guardAt, binP, intP, indexAddrP, elemsOf, readCells, lenP, lenAt, resultsP, resultP, oneOr, reduceCtorEq, reduceIte, Nat.reduceEqDiff, Nat.reduceAdd, Nat.zero_add, Nat.reduceMul, Nat.reduceLT, Nat.reduceLeDiff, Int.reduceLT, Int.reduceNeg, Int.reduceLE, appendP, appendAt, letGo, setLoc, locVal, Int.reduceToNat, boxCells, und, TG, SE, SC, unP, htu, hlen, loadR, loadP, lay, List.take_succ_cons, List.take_zero, List.drop_nil, List.filter_nil, List.cons_append, Int.reduceBEq, Int.reduceBNe, Bool.not_true, Bool.not_false, d1p, hsq]
          exact ⟨_, rfl⟩
        · rw [if_pos ⟨d2, by omega⟩]
          rw [show (!(s == [])) = true by simpa using d2] at hsq
          obtain ⟨ev, eo, so, co, ⟨hev, hco⟩, R⟩ := RULES CC; rw [← hev]
          skip
          simp only [fpart, part', Tryd.f13, Option.getD]
          simp (maxSteps := 5000000) only [SA, SB, SD, R, guardAt, binP, intP, indexAddrP, elemsOf, readCells, lenP, lenAt, resultsP, resultP, oneOr, reduceCtorEq, reduceIte, Nat.reduceEqDiff, Nat.reduceAdd, Nat.zero_add, Nat.reduceMul, Nat.reduceLT, Nat.reduceLeDiff, Int.reduceLT, Int.reduceNeg, Int.reduceLE, appendP, appendAt, letGo, setLoc, locVal, Int.reduceToNat, boxCells, und, TG, SE, SC, unP, htu, hlen, loadR, loadP, lay, List.take_succ_cons, List.take_zero, List.drop_nil, List.filter_nil, List.cons_append, Int.reduceBEq, Int.reduceBNe, Bool.not_true, Bool.not_false, d1p, hsq]
          exact ⟨_, rfl⟩
    · have c2p : (n == 1) = false := by simpa using c2
      have ok : okN 1 n = some false := by unfold okN; simp [c1, c2]
      rw [ok]
      dsimp only
      obtain ⟨ev, eo, so, co, ⟨hev, hco⟩, R⟩ := RULES CC; rw [← hev]
      skip
      simp only [fpart, part', Tryd.f13, Option.getD]
      simp (maxSteps := 5000000) only [SA, SB, SD, R, guardAt, binP, intP, indexAddrP, elemsOf, readCells, lenP, lenAt, resultsP, resultP, oneOr, reduceCtorEq, reduceIte, Nat.reduceEqDiff, Nat.reduceAdd, Nat.zero_add, Nat.reduceMul, Nat.reduceLT, Nat.reduceLeDiff, Int.reduceLT, Int.reduceNeg, Int.reduceLE, appendP, appendAt, letGo, setLoc, locVal, Int.reduceToNat, boxCells, und, TG, SE, SC, unP, htu, hlen, loadR, loadP, lay, List.take_succ_cons, List.take_zero, List.drop_nil, List.filter_nil, List.cons_append, Int.reduceBEq, Int.reduceBNe, Bool.not_true, Bool.not_false, c1p, c2p]
      exact ⟨_, rfl⟩
theorem ck_v_2 (n : Int) (s : List UInt8) : ∃ bx, callL CC 13 [vlV (2, n, s)] [] = some (.ret (.int .i64 (ckV (2, n, s))), bx) := by
  rw [callL_enter (fn := Tryd.f13) (c := Tryd.f13.body.getD .skip) rfl rfl fat_value_Check rfl ok_value_Check (Nat.le_of_ble_eq_true rfl)]
  have hlen := len_str s
  obtain ⟨tu, htu⟩ := VLs
  unfold ckV vlV
  simp only
  have hin := op_value_inRange n
  have ok : okN 2 n = some (inR n) := rfl
  generalize inR n = b at *
  cases b
  · skip
    rw [ok]
    dsimp only
    obtain ⟨ev, eo, so, co, ⟨hev, hco⟩, R⟩ := RULES CC; rw [← hev]
    rw [← hco] at hin
    simp only [fpart, part', Tryd.f13, Option.getD]
    simp (maxSteps := 5000000) only [SA, SB, SD, R, guardAt, binP, intP, indexAddrP, elemsOf, readCells, lenP, lenAt, resultsP, resultP, oneOr, reduceCtorEq, reduceIte, Nat.reduceEqDiff, Nat.reduceAdd, Nat.zero_add, Nat.reduceMul, Nat.reduceLT, Nat.reduceLeDiff, Int.reduceLT, Int.reduceNeg, Int.reduceLE, appendP, appendAt, letGo, setLoc, locVal, Int.reduceToNat, boxCells, und, TG, SE, SC, unP, htu, hlen, loadR, loadP, lay, List.take_succ_cons, List.take_zero, List.drop_nil, List.filter_nil, List.cons_append, Int.reduceBEq, Int.reduceBNe, Bool.not_true, Bool.not_false, hin]
    exact ⟨_, rfl⟩
  · skip
    rw [ok]
    by_cases d1 : 60 < s.length
    · have d1p : (s.length : Int) > 60 := by omega
      simp only [if_pos d1]
      obtain ⟨ev, eo, so, co, ⟨hev, hco⟩, R⟩ := RULES CC; rw [← hev]
      rw [← hco] at hin
      simp only [fpart, part', Tryd.f13, Option.getD]
      simp (maxSteps := 5000000) only [SA, SB, SD, R, guardAt, binP, intP, indexAddrP, elemsOf, readCells, lenP, lenAt, resultsP, resultP, oneOr, reduceCtorEq, reduceIte, Nat.reduceEqDiff, Nat.reduceAdd, Nat.zero_add, Nat.reduceMul, Nat.reduceLT, Nat.reduceLeDiff, Int.reduceLT, Int.reduceNeg, Int.reduceLE, appendP, appendAt, letGo, setLoc, locVal, Int.reduceToNat, boxCells, und, TG, SE, SC, unP, htu, hlen, loadR, loadP, lay, List.take_succ_cons, List.take_zero, List.drop_nil, List.filter_nil, List.cons_append, Int.reduceBEq, Int.reduceBNe, Bool.not_true, Bool.not_false, hin, d1p]
      exact ⟨_, rfl⟩
    · have d1p : ¬ (s.length : Int) > 60 := by omega
      simp only [if_neg d1]
      have hsq := strP_neq s []
      by_cases d2 : s = []
      · rw [if_neg (fun h => h.1 d2)]
        rw [show (!(s == [])) = false by rw [d2]; rfl] at hsq
        obtain ⟨ev, eo, so, co, ⟨hev, hco⟩, R⟩ := RULES CC; rw [← hev]
        rw [← hco] at hin
        simp only [fpart, part', Tryd.f13, Option.getD]
        simp (maxSteps := 5000000) only [SA, SB, SD, R, guardAt, binP, intP, indexAddrP, elemsOf, readCells, lenP, lenAt, resultsP, resultP, oneOr, reduceCtorEq, reduceIte, Nat.reduceEqDiff, Nat.reduceAdd, Nat.zero_add, Nat.reduceMul, Nat.reduceLT, Nat.reduceLeDiff, Int.reduceLT, Int.reduceNeg, Int.reduceLE, appendP, appendAt, letGo, setLoc, locVal, Int.reduceToNat, boxCells, und, TG, SE, SC, unP, htu, hlen, loadR, loadP, lay, List.take_succ_cons, List.take_zero, List.drop_nil, List.filter_nil, List.cons_append, Int.reduceBEq, Int.reduceBNe, Bool.not_true, Bool.not_false, hin, d1p, hsq]
        exact ⟨_, rfl⟩
      · rw [if_pos ⟨d2, by omega⟩]
        rw [show (!(s == [])) = true by simpa using d2] at hsq
        obtain ⟨ev, eo, so, co, ⟨hev, hco⟩, R⟩ := RULES CC; rw [← hev]
        rw [← hco] at hin
        simp only [fpart, part', Tryd.f13, Option.getD]
        simp (maxSteps := 5000000) only [SA, SB, SD, R, guardAt, binP, intP, indexAddrP, elemsOf, readCells, lenP, lenAt, resultsP, resultP, oneOr, reduceCtorEq, reduceIte, Nat.reduceEqDiff, Nat.reduceAdd, Nat.zero_add, Nat.reduceMul, Nat.reduceLT, Nat.reduceLeDiff, Int.reduceLT, Int.reduceNeg, Int.reduceLE, appendP, appendAt, letGo, setLoc, locVal, Int.reduceToNat, boxCells, und, TG, SE, SC, unP, htu, hlen, loadR, loadP, lay, List.take_succ_cons, List.take_zero, List.drop_nil, List.filter_nil, List.cons_append, Int.reduceBEq, Int.reduceBNe, Bool.not_true, Bool.not_false, hin, d1p, hsq]
        exact ⟨_, rfl⟩
theorem ck_v_3 (n : Int) (s : List UInt8) : ∃ bx, callL CC 13 [vlV (3, n, s)] [] = some (.ret (.int .i64 (ckV (3, n, s))), bx) := by
  rw [callL_enter (fn := Tryd.f13) (c := Tryd.f13.body.getD .skip) rfl rfl fat_value_Check rfl ok_value_Check (Nat.le_of_ble_eq_true rfl)]
  have hlen := len_str s
  obtain ⟨tu, htu⟩ := VLs
  unfold ckV vlV
  simp only
  by_cases c1 : n ≥ 0
  · by_cases c2 : n ≤ 63
    · have ok : okN 3 n = some true := by unfold okN; simp; omega
      rw [ok]
      by_cases d1 : 60 < s.length
      · have d1p : (s.length : Int) > 60 := by omega
        simp only [if_pos d1]
        obtain ⟨ev, eo, so, co, ⟨hev, hco⟩, R⟩ := RULES CC; rw [← hev]
        skip
        simp only [fpart, part', Tryd.f13, Option.getD]
        simp (maxSteps := 5000000) only [SA, SB, SD, R, guardAt, binP, intP, indexAddrP, elemsOf, readCells, lenP, lenAt, resultsP, resultP, oneOr, reduceCtorEq, reduceIte, Nat.reduceEqDiff, Nat.reduceAdd, Nat.zero_add, Nat.reduceMul, Nat.reduceLT, Nat.reduceLeDiff, Int.reduceLT, Int.reduceNeg, Int.reduceLE, appendP, appendAt, letGo, setLoc, locVal, Int.reduceToNat, boxCells, und, TG, SE, SC, unP, htu, hlen, loadR, loadP, lay, List.take_succ_cons, List.take_zero, List.drop_nil, List.filter_nil, List.cons_append, Int.reduceBEq, Int.reduceBNe, Bool.not_true, Bool.not_false, c1, c2, d1p]
        exact ⟨_, rfl⟩
      · have d1p : ¬ (s.length : Int) > 60 := by omega
        simp only [if_neg d1]
        have hsq := strP_neq s []
        by_cases d2 : s = []
        · rw [if_neg (fun h => h.1 d2)]
          rw [show (!(s == [])) = false by rw [d2]; rfl] at hsq
          obtain ⟨ev, eo, so, co, ⟨hev, hco⟩, R⟩ := RULES CC; rw [← hev]
          skip
          simp only [fpart, part', Tryd.f13, Option.getD]
          simp (maxSteps := 5000000) only [SA, SB, SD, R, guardAt, binP, intP, indexAddrP, elemsOf, readCells, lenP, lenAt, resultsP, resultP, oneOr, reduceCtorEq, reduceIte, Nat.reduceEqDiff, Nat.reduceAdd, Nat.zero_add, Nat.reduceMul, Nat.reduceLT, Nat.reduceLeDiff, Int.reduceLT, Int.reduceNeg, Int.reduceLE, appendP, appendAt, letGo, setLoc, locVal, Int.reduceToNat, boxCells, und, TG, SE, SC, unP, htu, hlen, loadR, loadP, lay, List.take_succ_cons, List.take_zero, List.drop_nil, List.filter_nil, List.cons_append, Int.reduceBEq, Int.reduceBNe, Bool.not_true, Bool.not_false, c1, c2, d1p, hsq]
          exact ⟨_, rfl⟩
        · rw [if_pos ⟨d2, by omega⟩]
          rw [show (!(s == [])) = true by simpa using d2] at hsq
          obtain ⟨ev, eo, so, co, ⟨hev, hco⟩, R⟩ := RULES CC; rw [← hev]
          skip
          simp only [fpart, part', Tryd.f13, Option.getD]
          simp (maxSteps := 5000000) only [SA, SB, SD, R, guardAt, binP, intP, indexAddrP, elemsOf, readCells, lenP, lenAt, resultsP, resultP, oneOr, reduceCtorEq, reduceIte, Nat.reduceEqDiff, Nat.reduceAdd, Nat.zero_add, Nat.reduceMul, Nat.reduceLT, Nat.reduceLeDiff, Int.reduceLT, Int.reduceNeg, Int.reduceLE, appendP, appendAt, letGo, setLoc, locVal, Int.reduceToNat, boxCells, und, TG, SE, SC, unP, htu, hlen, loadR, loadP, lay, List.take_succ_cons, List.take_zero, List.drop_nil, List.filter_nil, List.cons_append, Int.reduceBEq, Int.reduceBNe, Bool.not_true, Bool.not_false, c1, c2, d1p, hsq]
          exact ⟨_, rfl⟩
    · have ok : okN 3 n = some false := by unfold okN; simp; omega
      rw [ok]
      dsimp only
      obtain ⟨ev, eo, so, co, ⟨hev, hco⟩, R⟩ := RULES CC; rw [← hev]
      skip
      simp only [fpart, part', Tryd.f13, Option.getD]
      simp (maxSteps := 5000000) only [SA, SB, SD, R, guardAt, binP, intP, indexAddrP, elemsOf, readCells, lenP, lenAt, resultsP, resultP, oneOr, reduceCtorEq, reduceIte, Nat.reduceEqDiff, Nat.reduceAdd, Nat.zero_add, Nat.reduceMul, Nat.reduceLT, Nat.reduceLeDiff, Int.reduceLT, Int.reduceNeg, Int.reduceLE, appendP, appendAt, letGo, setLoc, locVal, Int.reduceToNat, boxCells, und, TG, SE, SC, unP, htu, hlen, loadR, loadP, lay, List.take_succ_cons, List.take_zero, List.drop_nil, List.filter_nil, List.cons_append, Int.reduceBEq, Int.reduceBNe, Bool.not_true, Bool.not_false, c1, c2]
      exact ⟨_, rfl⟩
  · have ok : okN 3 n = some false := by unfold okN; simp; omega
    rw [ok]
    dsimp only
    obtain ⟨ev, eo, so, co, ⟨hev, hco⟩, R⟩ := RULES CC; rw [← hev]
    skip
    simp only [fpart, part', Tryd.f13, Option.getD]
    simp (maxSteps := 5000000) only [SA, SB, SD, R, guardAt, binP, intP, indexAddrP, elemsOf, readCells, lenP, lenAt, resultsP, resultP, oneOr, reduceCtorEq, reduceIte, Nat.reduceEqDiff, Nat.reduceAdd, Nat.zero_add, Nat.reduceMul, Nat.reduceLT, Nat.reduceLeDiff, Int.reduceLT, Int.reduceNeg, Int.reduceLE, appendP, appendAt, letGo, setLoc, locVal, Int.reduceToNat, boxCells, und, TG, SE, SC, unP, htu, hlen, loadR, loadP, lay, List.take_succ_cons, List.take_zero, List.drop_nil, List.filter_nil, List.cons_append, Int.reduceBEq, Int.reduceBNe, Bool.not_true, Bool.not_false, c1]
    exact ⟨_, rfl⟩
theorem ck_v_o (k n : Int) (s : List UInt8) (h : k ≠ 0 ∧ k ≠ 4 ∧ k ≠ 1 ∧ k ≠ 2 ∧ k ≠ 3) : ∃ bx, callL CC 13 [vlV (k, n, s)] [] = some (.ret (.int .i64 (ckV (k, n, s))), bx) := by
  rw [callL_enter (fn := Tryd.f13) (c := Tryd.f13.body.getD .skip) rfl rfl fat_value_Check rfl ok_value_Check (Nat.le_of_ble_eq_true rfl)]
  obtain ⟨k0, k4, k1, k2, k3⟩ := h
  have ok : okN k n = none := by unfold okN; rw [if_neg (by omega), if_neg k1, if_neg k2, if_neg k3]
  have e0 : (k == 0) = false := by simpa using k0
  have e4 : (k == 4) = false := by simpa using k4
  have e1 : (k == 1) = false := by simpa using k1
  have e2 : (k == 2) = false := by simpa using k2
  have e3 : (k == 3) = false := by simpa using k3
  have hlen := len_str s
  obtain ⟨tu, htu⟩ := VLs
  unfold ckV vlV
  simp only
  rw [ok]
  dsimp only
  obtain ⟨ev, eo, so, co, ⟨hev, hco⟩, R⟩ := RULES CC; rw [← hev]
  skip
  simp only [fpart, part', Tryd.f13, Option.getD]
  simp (maxSteps := 5000000) only [SA, SB, SD, R, guardAt, binP, intP, indexAddrP, elemsOf, readCells, lenP, lenAt, resultsP, resultP, oneOr, reduceCtorEq, reduceIte, Nat.reduceEqDiff, Nat.reduceAdd, Nat.zero_add, Nat.reduceMul, Nat.reduceLT, Nat.reduceLeDiff, Int.reduceLT, Int.reduceNeg, Int.reduceLE, appendP, appendAt, letGo, setLoc, locVal, Int.reduceToNat, boxCells, und, TG, SE, SC, unP, htu, hlen, loadR, loadP, lay, List.take_succ_cons, List.take_zero, List.drop_nil, List.filter_nil, List.cons_append, Int.reduceBEq, Int.reduceBNe, Bool.not_true, Bool.not_false, e0, e4, e1, e2, e3]
  exact ⟨_, rfl⟩
theorem ck_r_0 (n : Int) (s : List UInt8) : ∃ bx, callL CC 14 [vlV (0, n, s)] [] = some (.ret (.int .i64 (ckV (0, n, s))), bx) := by
  rw [callL_enter (fn := Tryd.f14) (c := Tryd.f14.body.getD .skip) rfl rfl fat_R20_Check rfl ok_R20_Check (Nat.le_of_ble_eq_true rfl)]
  have hlen := len_str s
  obtain ⟨tu, htu⟩ := VLs
  unfold ckV vlV
  simp only
  by_cases c1 : n < 0
  · have ok : okN 0 n = some false := by unfold okN; simp [inR]; omega
    rw [ok]
    dsimp only
    obtain ⟨ev, eo, so, co, ⟨hev, hco⟩, R⟩ := RULES CC; rw [← hev]
    skip
    simp only [fpart, part', Tryd.f14, Option.getD]
    simp (maxSteps := 5000000) only [SA, SB, SD, R, guardAt, binP, intP, indexAddrP, elemsOf, readCells, lenP, lenAt, resultsP, resultP, oneOr, reduceCtorEq, reduceIte, Nat.reduceEqDiff, Nat.reduceAdd, Nat.zero_add, Nat.reduceMul, Nat.reduceLT, Nat.reduceLeDiff, Int.reduceLT, Int.reduceNeg, Int.reduceLE, appendP, appendAt, letGo, setLoc, locVal, Int.reduceToNat, boxCells, und, TG, SE, SC, unP, htu, hlen, loadR, loadP, lay, List.take_succ_cons, List.take_zero, List.drop_nil, List.filter_nil, List.cons_append, Int.reduceBEq, Int.reduceBNe, Bool.not_true, Bool.not_false, c1]
    exact ⟨_, rfl⟩
  · by_cases c2 : n > 0
    · have ok : okN 0 n = some false := by unfold okN; simp [inR]; omega
      rw [ok]
      dsimp only
      obtain ⟨ev, eo, so, co, ⟨hev, hco⟩, R⟩ := RULES CC; rw [← hev]
      skip
      simp only [fpart, part', Tryd.f14, Option.getD]
      simp (maxSteps := 5000000) only [SA, SB, SD, R, guardAt, binP, intP, indexAddrP, elemsOf, readCells, lenP, lenAt, resultsP, resultP, oneOr, reduceCtorEq, reduceIte, Nat.reduceEqDiff, Nat.reduceAdd, Nat.zero_add, Nat.reduceMul, Nat.reduceLT, Nat.reduceLeDiff, Int.reduceLT, Int.reduceNeg, Int.reduceLE, appendP, appendAt, letGo, setLoc, locVal, Int.reduceToNat, boxCells, und, TG, SE, SC, unP, htu, hlen, loadR, loadP, lay, List.take_succ_cons, List.take_zero, List.drop_nil, List.filter_nil, List.cons_append, Int.reduceBEq, Int.reduceBNe, Bool.not_true, Bool.not_false, c1, c2]
      exact ⟨_, rfl⟩
    · have ok : okN 0 n = some true := by unfold okN; simp [inR]; omega
      rw [ok]
      by_cases d1 : 60 < s.length
      · have d1p : (s.length : Int) > 60 := by omega
        simp only [if_pos d1]
        obtain ⟨ev, eo, so, co, ⟨hev, hco⟩, R⟩ := RULES CC; rw [← hev]
        skip
        simp only [fpart, part', Tryd.f14, Option.getD]
        simp (maxSteps := 5000000) only [SA, SB, SD, R, guardAt, binP, intP, indexAddrP, elemsOf, readCells, lenP, lenAt, resultsP, resultP, oneOr, reduceCtorEq, reduceIte, Nat.reduceEqDiff, Nat.reduceAdd, Nat.zero_add, Nat.reduceMul, Nat.reduceLT, Nat.reduceLeDiff, Int.reduceLT, Int.reduceNeg, Int.reduceLE, appendP, appendAt, letGo, setLoc, locVal, Int.reduceToNat, boxCells, und, TG, SE, SC, unP, htu, hlen, loadR, loadP, lay, List.take_succ_cons, List.take_zero, List.drop_nil, List.filter_nil, List.cons_append, Int.reduceBEq, Int.reduceBNe, Bool.not_true, Bool.not_false, c1, c2, d1p]
        exact ⟨_, rfl⟩
      · have d1p : ¬ (s.length : Int) > 60 := by omega
        simp only [if_neg d1]
        have hsq := strP_neq s []
        by_cases d2 : s = []
        · rw [if_neg (fun h => h.1 d2)]
          rw [show (!(s == [])) = false by rw [d2]; rfl] at hsq
          obtain ⟨ev, eo, so, co, ⟨hev, hco⟩, R⟩ := RULES CC; rw [← hev]
          skip
          simp only [fpart, part', Tryd.f14, Option.getD]
          simp (maxSteps := 5000000) only [SA, SB, SD, R, guardAt, binP, intP, indexAddrP, elemsOf, readCells, lenP, lenAt, resultsP, resultP, oneOr, reduceCtorEq, reduceIte, Nat.reduceEqDiff, Nat.reduceAdd, Nat.zero_add, Nat.reduceMul, Nat.reduceLT, Nat.reduceLeDiff, Int.reduceLT, Int.reduceNeg, Int.reduceLE, appendP, appendAt, letGo, setLoc, locVal, Int.reduceToNat, boxCells, und, TG, SE, SC, unP, htu, hlen, loadR, loadP, lay, List.take_succ_cons, List.take_zero, List.drop_nil, List.filter_nil, List.cons_append, Int.reduceBEq, Int.reduceBNe, Bool.not_true, Bool.not_false, c1, c2, d1p, hsq]
          exact ⟨_, rfl⟩
        · rw [if_pos ⟨d2, by omega⟩]
          rw [show (!(s == [])) = true by simpa using d2] at hsq
          obtain ⟨ev, eo, so, co, ⟨hev, hco⟩, R⟩ := RULES CC; rw [← hev]
          skip
          simp only [fpart, part', Tryd.f14, Option.getD]
          simp (maxSteps := 5000000) only [SA, SB, SD, R, guardAt, binP, intP, indexAddrP, elemsOf, readCells, lenP, lenAt, resultsP, resultP, oneOr, reduceCtorEq, reduceIte, Nat.reduceEqDiff, Nat.reduceAdd, Nat.zero_add, Nat.reduceMul, Nat.reduceLT, Nat.reduceLeDiff, Int.reduceLT, Int.reduceNeg, Int.reduceLE, appendP, appendAt, letGo, setLoc, locVal, Int.reduceToNat, boxCells, und, TG, SE, SC, unP, htu, hlen, loadR, loadP, lay, List.take_succ_cons, List.take_zero, List.drop_nil, List.filter_nil, List.cons_append, Int.reduceBEq, Int.reduceBNe, Bool.not_true, Bool.not_false, c1, c2, d1p, hsq]
          exact ⟨_, rfl⟩
theorem ck_r_4 (n : Int) (s : List UInt8) : ∃ bx, callL CC 14 [vlV (4, n, s)] [] = some (.ret (.int .i64 (ckV (4, n, s))), bx) := by
  rw [callL_enter (fn := Tryd.f14) (c := Tryd.f14.body.getD .skip) rfl rfl fat_R20_Check rfl ok_R20_Check (Nat.le_of_ble_eq_true rfl)]
  have hlen := len_str s
  obtain ⟨tu, htu⟩ := VLs
  unfold ckV vlV
  simp only
  by_cases c1 : n < 0
  · have ok : okN 4 n = some false := by unfold okN; simp [inR]; omega
    rw [ok]
    dsimp only
    obtain ⟨ev, eo, so, co, ⟨hev, hco⟩, R⟩ := RULES CC; rw [← hev]
    skip
    simp only [fpart, part', Tryd.f14, Option.getD]
    simp (maxSteps := 5000000) only [SA, SB, SD, R, guardAt, binP, intP, indexAddrP, elemsOf, readCells, lenP, lenAt, resultsP, resultP, oneOr, reduceCtorEq, reduceIte, Nat.reduceEqDiff, Nat.reduceAdd, Nat.zero_add, Nat.reduceMul, Nat.reduceLT, Nat.reduceLeDiff, Int.reduceLT, Int.reduceNeg, Int.reduceLE, appendP, appendAt, letGo, setLoc, locVal, Int.reduceToNat, boxCells, und, TG, SE, SC, unP, htu, hlen, loadR, loadP, lay, List.take_succ_cons, List.take_zero, List.drop_nil, List.filter_nil, List.cons_append, Int.reduceBEq, Int.reduceBNe, Bool.not_true, Bool.not_false, c1]
    exact ⟨_, rfl⟩
  · by_cases c2 : n > 0
    · have ok : okN 4 n = some false := by unfold okN; simp [inR]; omega
      rw [ok]
      dsimp only
      obtain ⟨ev, eo, so, co, ⟨hev, hco⟩, R⟩ := RULES CC; rw [← hev]
      skip
      simp only [fpart, part', Tryd.f14, Option.getD]
      simp (maxSteps := 5000000) only [SA, SB, SD, R, guardAt, binP, intP, indexAddrP, elemsOf, readCells, lenP, lenAt, resultsP, resultP, oneOr, reduceCtorEq, reduceIte, Nat.reduceEqDiff, Nat.reduceAdd, Nat.zero_add, Nat.reduceMul, Nat.reduceLT, Nat.reduceLeDiff, Int.reduceLT, Int.reduceNeg, Int.reduceLE, appendP, appendAt, letGo, setLoc, locVal, Int.reduceToNat, boxCells, und, TG, SE, SC, unP, htu, hlen, loadR, loadP, lay, List.take_succ_cons, List.take_zero, List.drop_nil, List.filter_nil, List.cons_append, Int.reduceBEq, Int.reduceBNe, Bool.not_true, Bool.not_false, c1, c2]
      exact ⟨_, rfl⟩
    · have ok : okN 4 n = some true := by unfold okN; simp [inR]; omega
      rw [ok]
      by_cases d1 : 60 < s.length
      · have d1p : (s.length : Int) > 60 := by omega
        simp only [if_pos d1]
        obtain ⟨ev, eo, so, co, ⟨hev, hco⟩, R⟩ := RULES CC; rw [← hev]
        skip
        simp only [fpart, part', Tryd.f14, Option.getD]
        simp (maxSteps := 5000000) only [SA, SB, SD, R, guardAt, binP, intP, indexAddrP, elemsOf, readCells, lenP, lenAt, resultsP, resultP, oneOr, reduceCtorEq, reduceIte, Nat.reduceEqDiff, Nat.reduceAdd, Nat.zero_add, Nat.reduceMul, Nat.reduceLT, Nat.reduceLeDiff, Int.reduceLT, Int.reduceNeg, Int.reduceLE, appendP, appendAt, letGo, setLoc, locVal, Int.reduceToNat, boxCells, und, TG, SE, SC, unP, htu, hlen, loadR, loadP, lay, List.take_succ_cons, List.take_zero, List.drop_nil, List.filter_nil, List.cons_append, Int.reduceBEq, Int.reduceBNe, Bool.not_true, Bool.not_false, c1, c2, d1p]
        exact ⟨_, rfl⟩
      · have d1p : ¬ (s.length : Int) > 60 := by omega
        simp only [if_neg d1]
        simp only [ne_eq, not_true_eq_false, and_false, if_false]
        have hsq := strP_neq s []
        generalize (!(s == [])) = sb at *
        cases sb
        · skip
          obtain ⟨ev, eo, so, co, ⟨hev, hco⟩, R⟩ := RULES CC; rw [← hev]
          skip
          simp only [fpart, part', Tryd.f14, Option.getD]
          simp (maxSteps := 5000000) only [SA, SB, SD, R, guardAt, binP, intP, indexAddrP, elemsOf, readCells, lenP, lenAt, resultsP, resultP, oneOr, reduceCtorEq, reduceIte, Nat.reduceEqDiff, Nat.reduceAdd, Nat.zero_add, Nat.reduceMul, Nat.reduceLT, Nat.reduceLeDiff, Int.reduceLT, Int.reduceNeg, Int.reduceLE, appendP, appendAt, letGo, setLoc, locVal, Int.reduceToNat, boxCells, und, TG, SE, SC, unP, htu, hlen, loadR, loadP, lay, List.take_succ_cons, List.take_zero, List.drop_nil, List.filter_nil, List.cons_append, Int.reduceBEq, Int.reduceBNe, Bool.not_true, Bool.not_false, c1, c2, d1p, hsq]
          exact ⟨_, rfl⟩
        · skip
          obtain ⟨ev, eo, so, co, ⟨hev, hco⟩, R⟩ := RULES CC; rw [← hev]
          skip
          simp only [fpart, part', Tryd.f14, Option.getD]
          simp (maxSteps := 5000000) only [SA, SB, SD, R, guardAt, binP, intP, indexAddrP, elemsOf, readCells, lenP, lenAt, resultsP, resultP, oneOr, reduceCtorEq, reduceIte, Nat.reduceEqDiff, Nat.reduceAdd, Nat.zero_add, Nat.reduceMul, Nat.reduceLT, Nat.reduceLeDiff, Int.reduceLT, Int.reduceNeg, Int.reduceLE, appendP, appendAt, letGo, setLoc, locVal, Int.reduceToNat, boxCells, und, TG, SE, SC, unP, htu, hlen, loadR, loadP, lay, List.take_succ_cons, List.take_zero, List.drop_nil, List.filter_nil, List.cons_append, Int.reduceBEq, Int.reduceBNe, Bool.not_true, Bool.not_false, c1, c2, d1p, hsq]
          exact ⟨_, rfl⟩
theorem ck_r_1 (n : Int) (s : List UInt8) : ∃ bx, callL CC 14 [vlV (1, n, s)] [] = some (.ret (.int .i64 (ckV (1, n, s))), bx) := by
  rw [callL_enter (fn := Tryd.f14) (c := Tryd.f14.body.getD .skip) rfl rfl fat_R20_Check rfl ok_R20_Check (Nat.le_of_ble_eq_true rfl)]
  have hlen := len_str s
  obtain ⟨tu, htu⟩ := VLs
  unfold ckV vlV
  simp only
  by_cases c1 : n < 0
  · have ok : okN 1 n = some false := by unfold okN; simp; omega
    rw [ok]
    dsimp only
    obtain ⟨ev, eo, so, co, ⟨hev, hco⟩, R⟩ := RULES CC; rw [← hev]
    skip
    simp only [fpart, part', Tryd.f14, Option.getD]
    simp (maxSteps := 5000000) only [SA, SB, SD, R, guardAt, binP, intP, indexAddrP, elemsOf, readCells, lenP, lenAt, resultsP, resultP, oneOr, reduceCtorEq, reduceIte, Nat.reduceEqDiff, Nat.reduceAdd, Nat.zero_add, Nat.reduceMul, Nat.reduceLT, Nat.reduceLeDiff, Int.reduceLT, Int.reduceNeg, Int.reduceLE, appendP, appendAt, letGo, setLoc, locVal, Int.reduceToNat, boxCells, und, TG, SE, SC, unP, htu, hlen, loadR, loadP, lay, List.take_succ_cons, List.take_zero, List.drop_nil, List.filter_nil, List.cons_append, Int.reduceBEq, Int.reduceBNe, Bool.not_true, Bool.not_false, c1]
    exact ⟨_, rfl⟩
  · by_cases c2 : n > 1
    · have ok : okN 1 n = some false := by unfold okN; simp; omega
      rw [ok]
      dsimp only
      obtain ⟨ev, eo, so, co, ⟨hev, hco⟩, R⟩ := RULES CC; rw [← hev]
      skip
      simp only [fpart, part', Tryd.f14, Option.getD]
      simp (maxSteps := 5000000) only [SA, SB, SD, R, guardAt, binP, intP, indexAddrP, elemsOf, readCells, lenP, lenAt, resultsP, resultP, oneOr, reduceCtorEq, reduceIte, Nat.reduceEqDiff, Nat.reduceAdd, Nat.zero_add, Nat.reduceMul, Nat.reduceLT, Nat.reduceLeDiff, Int.reduceLT, Int.reduceNeg, Int.reduceLE, appendP, appendAt, letGo, setLoc, locVal, Int.reduceToNat, boxCells, und, TG, SE, SC, unP, htu, hlen, loadR, loadP, lay, List.take_succ_cons, List.take_zero, List.drop_nil, List.filter_nil, List.cons_append, Int.reduceBEq, Int.reduceBNe, Bool.not_true, Bool.not_false, c1, c2]
      exact ⟨_, rfl⟩
    · have ok : okN 1 n = some true := by unfold okN; simp; omega
      rw [ok]
      by_cases d1 : 60 < s.length
      · have d1p : (s.length : Int) > 60 := by omega
        simp only [if_pos d1]
        obtain ⟨ev, eo, so, co, ⟨hev, hco⟩, R⟩ := RULES CC; rw [← hev]
        skip
        simp only [fpart, part', Tryd.f14, Option.getD]
        simp (maxSteps := 5000000) only [SA, SB, SD, R, guardAt, binP, intP, indexAddrP, elemsOf, readCells, lenP, lenAt, resultsP, resultP, oneOr, reduceCtorEq, reduceIte, Nat.reduceEqDiff, Nat.reduceAdd, Nat.zero_add, Nat.reduceMul, Nat.reduceLT, Nat.reduceLeDiff, Int.reduceLT, Int.reduceNeg, Int.reduceLE, appendP, appendAt, letGo, setLoc, locVal, Int.reduceToNat, boxCells, und, TG, SE, SC, unP, htu, hlen, loadR, loadP, lay, List.take_succ_cons, List.take_zero, List.drop_nil, List.filter_nil, List.cons_append, Int.reduceBEq, Int.reduceBNe, Bool.not_true, Bool.not_false, c1, c2, d1p]
        exact ⟨_, rfl⟩
      · have d1p : ¬ (s.length : Int) > 60 := by omega
        simp only [if_neg d1]
        have hsq := strP_neq s []
        by_cases d2 : s = []
        · rw [if_neg (fun h => h.1 d2)]
          rw [show (!(s == [])) = false by rw [d2]; rfl] at hsq
          obtain ⟨ev, eo, so, co, ⟨hev, hco⟩, R⟩ := RULES CC; rw [← hev]
          skip
          simp only [fpart, part', Tryd.f14, Option.getD]
          simp (maxSteps := 5000000) only [SA, SB, SD, R, guardAt, binP, intP, indexAddrP, elemsOf, readCells, lenP, lenAt, resultsP, resultP, oneOr, reduceCtorEq, reduceIte, Nat.reduceEqDiff, Nat.reduceAdd, Nat.zero_add, Nat.reduceMul, Nat.reduceLT, Nat.reduceLeDiff, Int.reduceLT, Int.reduceNeg, Int.reduceLE, appendP, appendAt, letGo, setLoc, locVal, Int.reduceToNat, boxCells, und, TG, SE, SC, unP, htu, hlen, loadR, loadP, lay, List.take_succ_cons, List.take_zero, List.drop_nil, List.filter_nil, List.cons_append, Int.reduceBEq, Int.reduceBNe, Bool.not_true, Bool.not_false, c1, c2, d1p, hsq]
          exact ⟨_, rfl⟩
        · rw [if_pos ⟨d2, by omega⟩]
          rw [show (!(s == [])) = true by simpa using d2] at hsq
          obtain ⟨ev, eo, so, co, ⟨hev, hco⟩, R⟩ := RULES CC; rw [← hev]
          skip
          simp only [fpart, part', Tryd.f14, Option.getD]
          simp (maxSteps := 5000000) only [SA, SB, SD, R, guardAt, binP, intP, indexAddrP, elemsOf, readCells, lenP, lenAt, resultsP, resultP, oneOr, reduceCtorEq, reduceIte, Nat.reduceEqDiff, Nat.reduceAdd, Nat.zero_add, Nat.reduceMul, Nat.reduceLT, Nat.reduceLeDiff, Int.reduceLT, Int.reduceNeg, Int.reduceLE, appendP, appendAt, letGo, setLoc, locVal, Int.reduceToNat, boxCells, und, TG, SE, SC, unP, htu, hlen, loadR, loadP, lay, List.take_succ_cons, List.take_zero, List.drop_nil, List.filter_nil, List.cons_append, Int.reduceBEq, Int.reduceBNe, Bool.not_true, Bool.not_false, c1, c2, d1p, hsq]
          exact ⟨_, rfl⟩
theorem ck_r_2 (n : Int) (s : List UInt8) : ∃ bx, callL CC 14 [vlV (2, n, s)] [] = some (.ret (.int .i64 (ckV (2, n, s))), bx) := by
  rw [callL_enter (fn := Tryd.f14) (c := Tryd.f14.body.getD .skip) rfl rfl fat_R20_Check rfl ok_R20_Check (Nat.le_of_ble_eq_true rfl)]
  have hlen := len_str s
  obtain ⟨tu, htu⟩ := VLs
  unfold ckV vlV
  simp only
  by_cases c1 : n < -1099511627776
  · have ok : okN 2 n = some false := by unfold okN; simp [inR]; omega
    rw [ok]
    dsimp only
    obtain ⟨ev, eo, so, co, ⟨hev, hco⟩, R⟩ := RULES CC; rw [← hev]
    skip
    simp only [fpart, part', Tryd.f14, Option.getD]
    simp (maxSteps := 5000000) only [SA, SB, SD, R, guardAt, binP, intP, indexAddrP, elemsOf, readCells, lenP, lenAt, resultsP, resultP, oneOr, reduceCtorEq, reduceIte, Nat.reduceEqDiff, Nat.reduceAdd, Nat.zero_add, Nat.reduceMul, Nat.reduceLT, Nat.reduceLeDiff, Int.reduceLT, Int.reduceNeg, Int.reduceLE, appendP, appendAt, letGo, setLoc, locVal, Int.reduceToNat, boxCells, und, TG, SE, SC, unP, htu, hlen, loadR, loadP, lay, List.take_succ_cons, List.take_zero, List.drop_nil, List.filter_nil, List.cons_append, Int.reduceBEq, Int.reduceBNe, Bool.not_true, Bool.not_false, c1]
    exact ⟨_, rfl⟩
  · by_cases c2 : n > 1099511627776
    · have ok : okN 2 n = some false := by unfold okN; simp [inR]; omega
      rw [ok]
      dsimp only
      obtain ⟨ev, eo, so, co, ⟨hev, hco⟩, R⟩ := RULES CC; rw [← hev]
      skip
      simp only [fpart, part', Tryd.f14, Option.getD]
      simp (maxSteps := 5000000) only [SA, SB, SD, R, guardAt, binP, intP, indexAddrP, elemsOf, readCells, lenP, lenAt, resultsP, resultP, oneOr, reduceCtorEq, reduceIte, Nat.reduceEqDiff, Nat.reduceAdd, Nat.zero_add, Nat.reduceMul, Nat.reduceLT, Nat.reduceLeDiff, Int.reduceLT, Int.reduceNeg, Int.reduceLE, appendP, appendAt, letGo, setLoc, locVal, Int.reduceToNat, boxCells, und, TG, SE, SC, unP, htu, hlen, loadR, loadP, lay, List.take_succ_cons, List.take_zero, List.drop_nil, List.filter_nil, List.cons_append, Int.reduceBEq, Int.reduceBNe, Bool.not_true, Bool.not_false, c1, c2]
      exact ⟨_, rfl⟩
    · have ok : okN 2 n = some true := by unfold okN; simp [inR]; omega
      rw [ok]
      by_cases d1 : 60 < s.length
      · have d1p : (s.length : Int) > 60 := by omega
        simp only [if_pos d1]
        obtain ⟨ev, eo, so, co, ⟨hev, hco⟩, R⟩ := RULES CC; rw [← hev]
        skip
        simp only [fpart, part', Tryd.f14, Option.getD]
        simp (maxSteps := 5000000) only [SA, SB, SD, R, guardAt, binP, intP, indexAddrP, elemsOf, readCells, lenP, lenAt, resultsP, resultP, oneOr, reduceCtorEq, reduceIte, Nat.reduceEqDiff, Nat.reduceAdd, Nat.zero_add, Nat.reduceMul, Nat.reduceLT, Nat.reduceLeDiff, Int.reduceLT, Int.reduceNeg, Int.reduceLE, appendP, appendAt, letGo, setLoc, locVal, Int.reduceToNat, boxCells, und, TG, SE, SC, unP, htu, hlen, loadR, loadP, lay, List.take_succ_cons, List.take_zero, List.drop_nil, List.filter_nil, List.cons_append, Int.reduceBEq, Int.reduceBNe, Bool.not_true, Bool.not_false, c1, c2, d1p]
        exact ⟨_, rfl⟩
      · have d1p : ¬ (s.length : Int) > 60 := by omega
        simp only [if_neg d1]
        have hsq := strP_neq s []
        by_cases d2 : s = []
        · rw [if_neg (fun h => h.1 d2)]
          rw [show (!(s == [])) = false by rw [d2]; rfl] at hsq
          obtain ⟨ev, eo, so, co, ⟨hev, hco⟩, R⟩ := RULES CC; rw [← hev]
          skip
          simp only [fpart, part', Tryd.f14, Option.getD]
          simp (maxSteps := 5000000) only [SA, SB, SD, R, guardAt, binP, intP, indexAddrP, elemsOf, readCells, lenP, lenAt, resultsP, resultP, oneOr, reduceCtorEq, reduceIte, Nat.reduceEqDiff, Nat.reduceAdd, Nat.zero_add, Nat.reduceMul, Nat.reduceLT, Nat.reduceLeDiff, Int.reduceLT, Int.reduceNeg, Int.reduceLE, appendP, appendAt, letGo, setLoc, locVal, Int.reduceToNat, boxCells, und, TG, SE, SC, unP, htu, hlen, loadR, loadP, lay, List.take_succ_cons, List.take_zero, List.drop_nil, List.filter_nil, List.cons_append, Int.reduceBEq, Int.reduceBNe, Bool.not_true, Bool.not_false, c1, c2, d1p, hsq]
          exact ⟨_, rfl⟩
        · rw [if_pos ⟨d2, by omega⟩]
          rw [show (!(s == [])) = true by simpa using d2] at hsq
          obtain ⟨ev, eo, so, co, ⟨hev, hco⟩, R⟩ := RULES CC; rw [← hev]
          skip
          simp only [fpart, part', Tryd.f14, Option.getD]
          simp (maxSteps := 5000000) only [SA, SB, SD, R, guardAt, binP, intP, indexAddrP, elemsOf, readCells, lenP, lenAt, resultsP, resultP, oneOr, reduceCtorEq, reduceIte, Nat.reduceEqDiff, Nat.reduceAdd, Nat.zero_add, Nat.reduceMul, Nat.reduceLT, Nat.reduceLeDiff, Int.reduceLT, Int.reduceNeg, Int.reduceLE, appendP, appendAt, letGo, setLoc, locVal, Int.reduceToNat, boxCells, und, TG, SE, SC, unP, htu, hlen, loadR, loadP, lay, List.take_succ_cons, List.take_zero, List.drop_nil, List.filter_nil, List.cons_append, Int.reduceBEq, Int.reduceBNe, Bool.not_true, Bool.not_false, c1, c2, d1p, hsq]
          exact ⟨_, rfl⟩
theorem ck_r_3 (n : Int) (s : List UInt8) : ∃ bx, callL CC 14 [vlV (3, n, s)] [] = some (.ret (.int .i64 (ckV (3, n, s))), bx) := by
  rw [callL_enter (fn := Tryd.f14) (c := Tryd.f14.body.getD .skip) rfl rfl fat_R20_Check rfl ok_R20_Check (Nat.le_of_ble_eq_true rfl)]
  have hlen := len_str s
  obtain ⟨tu, htu⟩ := VLs
  unfold ckV vlV
  simp only
  by_cases c1 : n < 0
  · have ok : okN 3 n = some false := by unfold okN; simp [inR]; omega
    rw [ok]
    dsimp only
    obtain ⟨ev, eo, so, co, ⟨hev, hco⟩, R⟩ := RULES CC; rw [← hev]
    skip
    simp only [fpart, part', Tryd.f14, Option.getD]
    simp (maxSteps := 5000000) only [SA, SB, SD, R, guardAt, binP, intP, indexAddrP, elemsOf, readCells, lenP, lenAt, resultsP, resultP, oneOr, reduceCtorEq, reduceIte, Nat.reduceEqDiff, Nat.reduceAdd, Nat.zero_add, Nat.reduceMul, Nat.reduceLT, Nat.reduceLeDiff, Int.reduceLT, Int.reduceNeg, Int.reduceLE, appendP, appendAt, letGo, setLoc, locVal, Int.reduceToNat, boxCells, und, TG, SE, SC, unP, htu, hlen, loadR, loadP, lay, List.take_succ_cons, List.take_zero, List.drop_nil, List.filter_nil, List.cons_append, Int.reduceBEq, Int.reduceBNe, Bool.not_true, Bool.not_false, c1]
    exact ⟨_, rfl⟩
  · by_cases c2 : n > 63
    · have ok : okN 3 n = some false := by unfold okN; simp [inR]; omega
      rw [ok]
      dsimp only
      obtain ⟨ev, eo, so, co, ⟨hev, hco⟩, R⟩ := RULES CC; rw [← hev]
      skip
      simp only [fpart, part', Tryd.f14, Option.getD]
      simp (maxSteps := 5000000) only [SA, SB, SD, R, guardAt, binP, intP, indexAddrP, elemsOf, readCells, lenP, lenAt, resultsP, resultP, oneOr, reduceCtorEq, reduceIte, Nat.reduceEqDiff, Nat.reduceAdd, Nat.zero_add, Nat.reduceMul, Nat.reduceLT, Nat.reduceLeDiff, Int.reduceLT, Int.reduceNeg, Int.reduceLE, appendP, appendAt, letGo, setLoc, locVal, Int.reduceToNat, boxCells, und, TG, SE, SC, unP, htu, hlen, loadR, loadP, lay, List.take_succ_cons, List.take_zero, List.drop_nil, List.filter_nil, List.cons_append, Int.reduceBEq, Int.reduceBNe, Bool.not_true, Bool.not_false, c1, c2]
      exact ⟨_, rfl⟩
    · have ok : okN 3 n = some true := by unfold okN; simp [inR]; omega
      rw [ok]
      by_cases d1 : 60 < s.length
      · have d1p : (s.length : Int) > 60 := by omega
        simp only [if_pos d1]
        obtain ⟨ev, eo, so, co, ⟨hev, hco⟩, R⟩ := RULES CC; rw [← hev]
        skip
        simp only [fpart, part', Tryd.f14, Option.getD]
        simp (maxSteps := 5000000) only [SA, SB, SD, R, guardAt, binP, intP, indexAddrP, elemsOf, readCells, lenP, lenAt, resultsP, resultP, oneOr, reduceCtorEq, reduceIte, Nat.reduceEqDiff, Nat.reduceAdd, Nat.zero_add, Nat.reduceMul, Nat.reduceLT, Nat.reduceLeDiff, Int.reduceLT, Int.reduceNeg, Int.reduceLE, appendP, appendAt, letGo, setLoc, locVal, Int.reduceToNat, boxCells, und, TG, SE, SC, unP, htu, hlen, loadR, loadP, lay, List.take_succ_cons, List.take_zero, List.drop_nil, List.filter_nil, List.cons_append, Int.reduceBEq, Int.reduceBNe, Bool.not_true, Bool.not_false, c1, c2, d1p]
        exact ⟨_, rfl⟩
      · have d1p : ¬ (s.length : Int) > 60 := by omega
        simp only [if_neg d1]
        have hsq := strP_neq s []
        by_cases d2 : s = []
        · rw [if_neg (fun h => h.1 d2)]
          rw [show (!(s == [])) = false by rw [d2]; rfl] at hsq
          obtain ⟨ev, eo, so, co, ⟨hev, hco⟩, R⟩ := RULES CC; rw [← hev]
          skip
          simp only [fpart, part', Tryd.f14, Option.getD]
          simp (maxSteps := 5000000) only [SA, SB, SD, R, guardAt, binP, intP, indexAddrP, elemsOf, readCells, lenP, lenAt, resultsP, resultP, oneOr, reduceCtorEq, reduceIte, Nat.reduceEqDiff, Nat.reduceAdd, Nat.zero_add, Nat.reduceMul, Nat.reduceLT, Nat.reduceLeDiff, Int.reduceLT, Int.reduceNeg, Int.reduceLE, appendP, appendAt, letGo, setLoc, locVal, Int.reduceToNat, boxCells, und, TG, SE, SC, unP, htu, hlen, loadR, loadP, lay, List.take_succ_cons, List.take_zero, List.drop_nil, List.filter_nil, List.cons_append, Int.reduceBEq, Int.reduceBNe, Bool.not_true, Bool.not_false, c1, c2, d1p, hsq]
          exact ⟨_, rfl⟩
        · rw [if_pos ⟨d2, by omega⟩]
          rw [show (!(s == [])) = true by simpa using d2] at hsq
          obtain ⟨ev, eo, so, co, ⟨hev, hco⟩, R⟩ := RULES CC; rw [← hev]
          skip
          simp only [fpart, part', Tryd.f14, Option.getD]
          simp (maxSteps := 5000000) only [SA, SB, SD, R, guardAt, binP, intP, indexAddrP, elemsOf, readCells, lenP, lenAt, resultsP, resultP, oneOr, reduceCtorEq, reduceIte, Nat.reduceEqDiff, Nat.reduceAdd, Nat.zero_add, Nat.reduceMul, Nat.reduceLT, Nat.reduceLeDiff, Int.reduceLT, Int.reduceNeg, Int.reduceLE, appendP, appendAt, letGo, setLoc, locVal, Int.reduceToNat, boxCells, und, TG, SE, SC, unP, htu, hlen, loadR, loadP, lay, List.take_succ_cons, List.take_zero, List.drop_nil, List.filter_nil, List.cons_append, Int.reduceBEq, Int.reduceBNe, Bool.not_true, Bool.not_false, c1, c2, d1p, hsq]
          exact ⟨_, rfl⟩
theorem ck_r_o (k n : Int) (s : List UInt8) (h : k ≠ 0 ∧ k ≠ 4 ∧ k ≠ 1 ∧ k ≠ 2 ∧ k ≠ 3) : ∃ bx, callL CC 14 [vlV (k, n, s)] [] = some (.ret (.int .i64 (ckV (k, n, s))), bx) := by
  rw [callL_enter (fn := Tryd.f14) (c := Tryd.f14.body.getD .skip) rfl rfl fat_R20_Check rfl ok_R20_Check (Nat.le_of_ble_eq_true rfl)]
  obtain ⟨k0, k4, k1, k2, k3⟩ := h
  have ok : okN k n = none := by unfold okN; rw [if_neg (by omega), if_neg k1, if_neg k2, if_neg k3]
  have e0 : (k == 0) = false := by simpa using k0
  have e4 : (k == 4) = false := by simpa using k4
  have e1 : (k == 1) = false := by simpa using k1
  have e2 : (k == 2) = false := by simpa using k2
  have e3 : (k == 3) = false := by simpa using k3
  have hlen := len_str s
  obtain ⟨tu, htu⟩ := VLs
  unfold ckV vlV
  simp only
  rw [ok]
  dsimp only
  obtain ⟨ev, eo, so, co, ⟨hev, hco⟩, R⟩ := RULES CC; rw [← hev]
  skip
  simp only [fpart, part', Tryd.f14, Option.getD]
  simp (maxSteps := 5000000) only [SA, SB, SD, R, guardAt, binP, intP, indexAddrP, elemsOf, readCells, lenP, lenAt, resultsP, resultP, oneOr, reduceCtorEq, reduceIte, Nat.reduceEqDiff, Nat.reduceAdd, Nat.zero_add, Nat.reduceMul, Nat.reduceLT, Nat.reduceLeDiff, Int.reduceLT, Int.reduceNeg, Int.reduceLE, appendP, appendAt, letGo, setLoc, locVal, Int.reduceToNat, boxCells, und, TG, SE, SC, unP, htu, hlen, loadR, loadP, lay, List.take_succ_cons, List.take_zero, List.drop_nil, List.filter_nil, List.cons_append, Int.reduceBEq, Int.reduceBNe, Bool.not_true, Bool.not_false, e0, e4, e1, e2, e3]
  exact ⟨_, rfl⟩
theorem call_value_Check (v : Vl) : ∃ bx, callL CC 13 [vlV v] [] = some (.ret (.int .i64 (ckV v)), bx) := by
  obtain ⟨k, n, s⟩ := v
  by_cases k0 : k = 0
  · subst k0; exact ck_v_0 n s
  by_cases k4 : k = 4
  · subst k4; exact ck_v_4 n s
  by_cases k1 : k = 1
  · subst k1; exact ck_v_1 n s
  by_cases k2 : k = 2
  · subst k2; exact ck_v_2 n s
  by_cases k3 : k = 3
  · subst k3; exact ck_v_3 n s
  exact ck_v_o k n s ⟨k0, k4, k1, k2, k3⟩
theorem op_value_Check (v : Vl) (bx) : callOp CC (callL CC) 13 [vlV v] bx = some (.ret (.int .i64 (ckV v)), bx) := by
  obtain ⟨b, h⟩ := call_value_Check v
  exact callOp_of rfl rfl h rfl
theorem call_R20_Check (v : Vl) : ∃ bx, callL CC 14 [vlV v] [] = some (.ret (.int .i64 (ckV v)), bx) := by
  obtain ⟨k, n, s⟩ := v
  by_cases k0 : k = 0
  · subst k0; exact ck_r_0 n s
  by_cases k4 : k = 4
  · subst k4; exact ck_r_4 n s
  by_cases k1 : k = 1
  · subst k1; exact ck_r_1 n s
  by_cases k2 : k = 2
  · subst k2; exact ck_r_2 n s
  by_cases k3 : k = 3
  · subst k3; exact ck_r_3 n s
  exact ck_r_o k n s ⟨k0, k4, k1, k2, k3⟩
theorem op_R20_Check (v : Vl) (bx) : callOp CC (callL CC) 14 [vlV v] bx = some (.ret (.int .i64 (ckV v)), bx) := by
  obtain ⟨b, h⟩ := call_R20_Check v
  exact callOp_of rfl rfl h rfl
theorem ok_names_letter : fnOK CC Tryd.f62 (Tryd.f62.body.getD .skip) = true := by kernel_rfl
theorem fat_names_letter : CC.P.funcs[62]? = some Tryd.f62 := by kernel_rfl
theorem ok_names_Valid : fnOK CC Tryd.f39 (Tryd.f39.body.getD .skip) = true := by kernel_rfl
theorem fat_names_Valid : CC.P.funcs[39]? = some Tryd.f39 := by kernel_rfl
theorem ok_R04_Valid : fnOK CC Tryd.f41 (Tryd.f41.body.getD .skip) = true := by kernel_rfl
theorem fat_R04_Valid : CC.P.funcs[41]? = some Tryd.f41 := by kernel_rfl
theorem get_at (s : List UInt8) (i : Nat) (c : UInt8) (h : s[i]? = some c) : (ByteArray.mk s.toArray).get! i = c := by
  show s.toArray[i]! = c
  rw [getElem!_def, List.getElem?_toArray, h]
theorem dec_lo (s : List UInt8) (i : Nat) (c : UInt8) (h : s[i]? = some c) (hc : c.toNat < 128) : Utf8.decode ⟨s.toArray⟩ i = (c.toNat, 1) := by
  unfold Utf8.decode
  simp only [Nat.add_zero, get_at s i c h]
  rw [if_pos hc]
theorem dec_hi (s : List UInt8) (i : Nat) (c : UInt8) (h : s[i]? = some c) (hc : ¬ c.toNat < 128) : 128 ≤ (Utf8.decode ⟨s.toArray⟩ i).1 := by
  unfold Utf8.decode
  simp only [Nat.add_zero, get_at s i c h]
  rw [if_neg hc]
  unfold Utf8.runeError
  repeat' split
  all_goals first | (simp only; omega) | (rename_i hh; simp at hh; simp only; omega) | decide
/-- may a byte (or rune) stand at a place of a name? -/
def okC (i n : Nat) : Bool := decide ((97 ≤ n ∧ n ≤ 122) ∨ (i ≠ 0 ∧ (n = 95 ∨ n = 45 ∨ (48 ≤ n ∧ n ≤ 57))))
def vAll : Nat → List UInt8 → Bool
  | _, [] => true
  | i, c :: r => okC i c.toNat && vAll (i + 1) r
/-- a name -/
def valB (s : List UInt8) : Bool := decide (1 ≤ s.length ∧ s.length ≤ 24) && vAll 0 s
/-- what the loop over a name comes to -/
def PVd (v : Bool) (r : Option (Ex × St)) : Prop := ∃ e' bx', (v = true ∧ r = some (.exit 0, ⟨e', bx'⟩)) ∨ (v = false ∧ r = some (.ret, ⟨e', bx'⟩) ∧ getT e' 2 = .bool false)
theorem call_names_letter (r : Int) : callL CC 62 [.int .i32 r] [] = some (.ret (.bool (decide (97 ≤ r ∧ r ≤ 122))), []) := by
  rw [callL_enter (fn := Tryd.f62) (c := Tryd.f62.body.getD .skip) rfl rfl fat_names_letter rfl ok_names_letter (Nat.le_of_ble_eq_true rfl)]
  by_cases c1 : r ≥ 97
  · by_cases c2 : r ≤ 122
    · rw [decide_eq_true (show 97 ≤ r ∧ r ≤ 122 from ⟨c1, c2⟩)]
      obtain ⟨ev, eo, so, co, ⟨hev, hco⟩, R⟩ := RULES CC; rw [← hev]
      simp only [fpart, part', Tryd.f62, Option.getD]
      simp (maxSteps := 5000000) only [SA, SB, SD, R, guardAt, binP, intP, indexAddrP, elemsOf, readCells, lenP, lenAt, resultsP, resultP, oneOr, reduceCtorEq, reduceIte, Nat.reduceEqDiff, Nat.reduceAdd, Nat.zero_add, Nat.reduceMul, Nat.reduceLT, Nat.reduceLeDiff, Int.reduceLT, Int.reduceNeg, Int.reduceLE, appendP, appendAt, letGo, setLoc, locVal, Int.reduceToNat, boxCells, und, TG, SE, c1, c2]
    · rw [decide_eq_false (show ¬ (97 ≤ r ∧ r ≤ 122) from fun h => c2 h.2)]
      obtain ⟨ev, eo, so, co, ⟨hev, hco⟩, R⟩ := RULES CC; rw [← hev]
      simp only [fpart, part', Tryd.f62, Option.getD]
      simp (maxSteps := 5000000) only [SA, SB, SD, R, guardAt, binP, intP, indexAddrP, elemsOf, readCells, lenP, lenAt, resultsP, resultP, oneOr, reduceCtorEq, reduceIte, Nat.reduceEqDiff, Nat.reduceAdd, Nat.zero_add, Nat.reduceMul, Nat.reduceLT, Nat.reduceLeDiff, Int.reduceLT, Int.reduceNeg, Int.reduceLE, appendP, appendAt, letGo, setLoc, locVal, Int.reduceToNat, boxCells, und, TG, SE, c1, c2]
  · rw [decide_eq_false (show ¬ (97 ≤ r ∧ r ≤ 122) from fun h => c1 h.1)]
    obtain ⟨ev, eo, so, co, ⟨hev, hco⟩, R⟩ := RULES CC; rw [← hev]
    simp only [fpart, part', Tryd.f62, Option.getD]
    simp (maxSteps := 5000000) only [SA, SB, SD, R, guardAt, binP, intP, indexAddrP, elemsOf, readCells, lenP, lenAt, resultsP, resultP, oneOr, reduceCtorEq, reduceIte, Nat.reduceEqDiff, Nat.reduceAdd, Nat.zero_add, Nat.reduceMul, Nat.reduceLT, Nat.reduceLeDiff, Int.reduceLT, Int.reduceNeg, Int.reduceLE, appendP, appendAt, letGo, setLoc, locVal, Int.reduceToNat, boxCells, und, TG, SE, c1]
theorem op_names_letter (r : Int) (bx) : callOp CC (callL CC) 62 [.int .i32 r] bx = some (.ret (.bool (decide (97 ≤ r ∧ r ≤ 122))), bx) := callOp_of rfl (by simp only [SA, Bool.and_true]) (call_names_letter r) rfl
theorem loop_R04_Valid (L : Code) (hL : L = fpart Tryd.f41 [1,1,0,1,0]) (s : List UInt8) (hs : s.length ≤ 1000) : ∀ (k i : Nat) (e : List PV) (bx : List PBox), i + k = s.length → getT e 0 = .str s → getT e 3 = .int .i64 i →
    PVd (vAll i (s.drop i)) (evL CC L ⟨e, bx⟩) := by
  intro k
  induction k with
  | zero =>
    intro i e bx hk h0 h3
    rw [evL_at (fpart Tryd.f41 [1,1,0,1,0,0]) hL]
    have hlen := len_str s
    have hil : ¬ ((i : Int) < (s.length : Int)) := by omega
    rw [List.drop_eq_nil_of_le (by omega)]
    unfold vAll
    obtain ⟨ev, eo, so, co, ⟨hev, hco⟩, R⟩ := RULES CC; rw [← hev]
    simp only [fpart, part', Tryd.f41, Option.getD]
    simp (maxSteps := 5000000) only [SA, SB, SD, R, guardAt, binP, intP, indexAddrP, elemsOf, readCells, lenP, lenAt, resultsP, resultP, oneOr, reduceCtorEq, reduceIte, Nat.reduceEqDiff, Nat.reduceAdd, Nat.zero_add, Nat.reduceMul, Nat.reduceLT, Nat.reduceLeDiff, Int.reduceLT, Int.reduceNeg, Int.reduceLE, appendP, appendAt, letGo, setLoc, locVal, Int.reduceToNat, boxCells, und, TG, SE, h0, h3, hlen, hil]
    exact ⟨_, _, .inl ⟨rfl, rfl⟩⟩
  | succ k ih =>
    intro i e bx hk h0 h3
    rw [evL_at (fpart Tryd.f41 [1,1,0,1,0,0]) hL]
    have hlen := len_str s
    have hil : ((i : Int) < (s.length : Int)) := by omega
    have hx : s[i]? = some (s[i]'(by omega)) := by simp
    have hdr : s.drop i = (s[i]'(by omega)) :: s.drop (i + 1) := List.drop_eq_getElem_cons (by omega)
    generalize s[i]'(by omega) = c at *
    have hix := ix_str s i c hx
    have w1 := wrap_i64 (n := (i : Int) + 1) ⟨by omega, by omega⟩
    have cast1 : ((i + 1 : Nat) : Int) = (i : Int) + 1 := by omega
    have key := fun e bx => ih (i + 1) e bx (by omega)
    rw [cast1] at key
    rw [hdr]
    unfold vAll
    generalize vAll (i + 1) (s.drop (i + 1)) = v at *
    generalize c.toNat = n at *
    clear hx hdr
    by_cases a1 : (n : Int) ≥ 97
    · by_cases a2 : (n : Int) ≤ 122
      · skip
        rw [show okC i n = true from decide_eq_true (by omega), Bool.true_and]
        obtain ⟨ev, eo, so, co, ⟨hev, hco⟩, R⟩ := RULES CC; rw [← hev]
        rw [← hev] at key
        simp only [fpart, part', Tryd.f41, Option.getD]
        simp (maxSteps := 5000000) only [SA, SB, SD, R, guardAt, binP, intP, indexAddrP, elemsOf, readCells, lenP, lenAt, resultsP, resultP, oneOr, reduceCtorEq, reduceIte, Nat.reduceEqDiff, Nat.reduceAdd, Nat.zero_add, Nat.reduceMul, Nat.reduceLT, Nat.reduceLeDiff, Int.reduceLT, Int.reduceNeg, Int.reduceLE, appendP, appendAt, letGo, setLoc, locVal, Int.reduceToNat, boxCells, und, TG, SE, unP, h0, h3, hlen, hil, hix, w1, Bool.not_true, Bool.not_false, a1, a2]
        exact key _ _ (by simp (maxSteps := 5000000) only [SA, SB, SD, R, guardAt, binP, intP, indexAddrP, elemsOf, readCells, lenP, lenAt, resultsP, resultP, oneOr, reduceCtorEq, reduceIte, Nat.reduceEqDiff, Nat.reduceAdd, Nat.zero_add, Nat.reduceMul, Nat.reduceLT, Nat.reduceLeDiff, Int.reduceLT, Int.reduceNeg, Int.reduceLE, appendP, appendAt, letGo, setLoc, locVal, Int.reduceToNat, boxCells, und, h0]) (by simp (maxSteps := 5000000) only [SA, SB, SD, R, guardAt, binP, intP, indexAddrP, elemsOf, readCells, lenP, lenAt, resultsP, resultP, oneOr, reduceCtorEq, reduceIte, Nat.reduceEqDiff, Nat.reduceAdd, Nat.zero_add, Nat.reduceMul, Nat.reduceLT, Nat.reduceLeDiff, Int.reduceLT, Int.reduceNeg, Int.reduceLE, appendP, appendAt, letGo, setLoc, locVal, Int.reduceToNat, boxCells, und])
      · skip
        by_cases i0 : i = 0
        · have z : ((i : Int) == 0) = true := by rw [i0]; rfl
          rw [show okC i n = false from decide_eq_false (by omega), Bool.false_and]
          obtain ⟨ev, eo, so, co, ⟨hev, hco⟩, R⟩ := RULES CC; rw [← hev]
          simp only [fpart, part', Tryd.f41, Option.getD]
          simp (maxSteps := 5000000) only [SA, SB, SD, R, guardAt, binP, intP, indexAddrP, elemsOf, readCells, lenP, lenAt, resultsP, resultP, oneOr, reduceCtorEq, reduceIte, Nat.reduceEqDiff, Nat.reduceAdd, Nat.zero_add, Nat.reduceMul, Nat.reduceLT, Nat.reduceLeDiff, Int.reduceLT, Int.reduceNeg, Int.reduceLE, appendP, appendAt, letGo, setLoc, locVal, Int.reduceToNat, boxCells, und, TG, SE, unP, h0, h3, hlen, hil, hix, w1, Bool.not_true, Bool.not_false, a1, a2, z]
          exact ⟨_, _, .inr ⟨rfl, rfl, by simp (maxSteps := 5000000) only [SA, SB, SD, R, guardAt, binP, intP, indexAddrP, elemsOf, readCells, lenP, lenAt, resultsP, resultP, oneOr, reduceCtorEq, reduceIte, Nat.reduceEqDiff, Nat.reduceAdd, Nat.zero_add, Nat.reduceMul, Nat.reduceLT, Nat.reduceLeDiff, Int.reduceLT, Int.reduceNeg, Int.reduceLE, appendP, appendAt, letGo, setLoc, locVal, Int.reduceToNat, boxCells, und]⟩⟩
        · have z : ((i : Int) == 0) = false := by rw [beq_eq_false_iff_ne]; omega
          by_cases e1 : n = 95
          · have e1p : ((n : Int) != 95) = false := by rw [e1]; rfl
            rw [show okC i n = true from decide_eq_true (by omega), Bool.true_and]
            obtain ⟨ev, eo, so, co, ⟨hev, hco⟩, R⟩ := RULES CC; rw [← hev]
            rw [← hev] at key
            simp only [fpart, part', Tryd.f41, Option.getD]
            simp (maxSteps := 5000000) only [SA, SB, SD, R, guardAt, binP, intP, indexAddrP, elemsOf, readCells, lenP, lenAt, resultsP, resultP, oneOr, reduceCtorEq, reduceIte, Nat.reduceEqDiff, Nat.reduceAdd, Nat.zero_add, Nat.reduceMul, Nat.reduceLT, Nat.reduceLeDiff, Int.reduceLT, Int.reduceNeg, Int.reduceLE, appendP, appendAt, letGo, setLoc, locVal, Int.reduceToNat, boxCells, und, TG, SE, unP, h0, h3, hlen, hil, hix, w1, Bool.not_true, Bool.not_false, a1, a2, z, e1p]
            exact key _ _ (by simp (maxSteps := 5000000) only [SA, SB, SD, R, guardAt, binP, intP, indexAddrP, elemsOf, readCells, lenP, lenAt, resultsP, resultP, oneOr, reduceCtorEq, reduceIte, Nat.reduceEqDiff, Nat.reduceAdd, Nat.zero_add, Nat.reduceMul, Nat.reduceLT, Nat.reduceLeDiff, Int.reduceLT, Int.reduceNeg, Int.reduceLE, appendP, appendAt, letGo, setLoc, locVal, Int.reduceToNat, boxCells, und, h0]) (by simp (maxSteps := 5000000) only [SA, SB, SD, R, guardAt, binP, intP, indexAddrP, elemsOf, readCells, lenP, lenAt, resultsP, resultP, oneOr, reduceCtorEq, reduceIte, Nat.reduceEqDiff, Nat.reduceAdd, Nat.zero_add, Nat.reduceMul, Nat.reduceLT, Nat.reduceLeDiff, Int.reduceLT, Int.reduceNeg, Int.reduceLE, appendP, appendAt, letGo, setLoc, locVal, Int.reduceToNat, boxCells, und])
          · have e1p : ((n : Int) != 95) = true := by rw [bne_iff_ne]; omega
            by_cases e2 : n = 45
            · have e2p : ((n : Int) != 45) = false := by rw [e2]; rfl
              rw [show okC i n = true from decide_eq_true (by omega), Bool.true_and]
              obtain ⟨ev, eo, so, co, ⟨hev, hco⟩, R⟩ := RULES CC; rw [← hev]
              rw [← hev] at key
              simp only [fpart, part', Tryd.f41, Option.getD]
              simp (maxSteps := 5000000) only [SA, SB, SD, R, guardAt, binP, intP, indexAddrP, elemsOf, readCells, lenP, lenAt, resultsP, resultP, oneOr, reduceCtorEq, reduceIte, Nat.reduceEqDiff, Nat.reduceAdd, Nat.zero_add, Nat.reduceMul, Nat.reduceLT, Nat.reduceLeDiff, Int.reduceLT, Int.reduceNeg, Int.reduceLE, appendP, appendAt, letGo, setLoc, locVal, Int.reduceToNat, boxCells, und, TG, SE, unP, h0, h3, hlen, hil, hix, w1, Bool.not_true, Bool.not_false, a1, a2, z, e1p, e2p]
              exact key _ _ (by simp (maxSteps := 5000000) only [SA, SB, SD, R, guardAt, binP, intP, indexAddrP, elemsOf, readCells, lenP, lenAt, resultsP, resultP, oneOr, reduceCtorEq, reduceIte, Nat.reduceEqDiff, Nat.reduceAdd, Nat.zero_add, Nat.reduceMul, Nat.reduceLT, Nat.reduceLeDiff, Int.reduceLT, Int.reduceNeg, Int.reduceLE, appendP, appendAt, letGo, setLoc, locVal, Int.reduceToNat, boxCells, und, h0]) (by simp (maxSteps := 5000000) only [SA, SB, SD, R, guardAt, binP, intP, indexAddrP, elemsOf, readCells, lenP, lenAt, resultsP, resultP, oneOr, reduceCtorEq, reduceIte, Nat.reduceEqDiff, Nat.reduceAdd, Nat.zero_add, Nat.reduceMul, Nat.reduceLT, Nat.reduceLeDiff, Int.reduceLT, Int.reduceNeg, Int.reduceLE, appendP, appendAt, letGo, setLoc, locVal, Int.reduceToNat, boxCells, und])
            · have e2p : ((n : Int) != 45) = true := by rw [bne_iff_ne]; omega
              by_cases e3 : (n : Int) < 48
              · skip
                rw [show okC i n = false from decide_eq_false (by omega), Bool.false_and]
                obtain ⟨ev, eo, so, co, ⟨hev, hco⟩, R⟩ := RULES CC; rw [← hev]
                simp only [fpart, part', Tryd.f41, Option.getD]
                simp (maxSteps := 5000000) only [SA, SB, SD, R, guardAt, binP, intP, indexAddrP, elemsOf, readCells, lenP, lenAt, resultsP, resultP, oneOr, reduceCtorEq, reduceIte, Nat.reduceEqDiff, Nat.reduceAdd, Nat.zero_add, Nat.reduceMul, Nat.reduceLT, Nat.reduceLeDiff, Int.reduceLT, Int.reduceNeg, Int.reduceLE, appendP, appendAt, letGo, setLoc, locVal, Int.reduceToNat, boxCells, und, TG, SE, unP, h0, h3, hlen, hil, hix, w1, Bool.not_true, Bool.not_false, a1, a2, z, e1p, e2p, e3]
                exact ⟨_, _, .inr ⟨rfl, rfl, by simp (maxSteps := 5000000) only [SA, SB, SD, R, guardAt, binP, intP, indexAddrP, elemsOf, readCells, lenP, lenAt, resultsP, resultP, oneOr, reduceCtorEq, reduceIte, Nat.reduceEqDiff, Nat.reduceAdd, Nat.zero_add, Nat.reduceMul, Nat.reduceLT, Nat.reduceLeDiff, Int.reduceLT, Int.reduceNeg, Int.reduceLE, appendP, appendAt, letGo, setLoc, locVal, Int.reduceToNat, boxCells, und]⟩⟩
              · by_cases e4 : (n : Int) > 57
                · skip
                  rw [show okC i n = false from decide_eq_false (by omega), Bool.false_and]
                  obtain ⟨ev, eo, so, co, ⟨hev, hco⟩, R⟩ := RULES CC; rw [← hev]
                  simp only [fpart, part', Tryd.f41, Option.getD]
                  simp (maxSteps := 5000000) only [SA, SB, SD, R, guardAt, binP, intP, indexAddrP, elemsOf, readCells, lenP, lenAt, resultsP, resultP, oneOr, reduceCtorEq, reduceIte, Nat.reduceEqDiff, Nat.reduceAdd, Nat.zero_add, Nat.reduceMul, Nat.reduceLT, Nat.reduceLeDiff, Int.reduceLT, Int.reduceNeg, Int.reduceLE, appendP, appendAt, letGo, setLoc, locVal, Int.reduceToNat, boxCells, und, TG, SE, unP, h0, h3, hlen, hil, hix, w1, Bool.not_true, Bool.not_false, a1, a2, z, e1p, e2p, e3, e4]
                  exact ⟨_, _, .inr ⟨rfl, rfl, by simp (maxSteps := 5000000) only [SA, SB, SD, R, guardAt, binP, intP, indexAddrP, elemsOf, readCells, lenP, lenAt, resultsP, resultP, oneOr, reduceCtorEq, reduceIte, Nat.reduceEqDiff, Nat.reduceAdd, Nat.zero_add, Nat.reduceMul, Nat.reduceLT, Nat.reduceLeDiff, Int.reduceLT, Int.reduceNeg, Int.reduceLE, appendP, appendAt, letGo, setLoc, locVal, Int.reduceToNat, boxCells, und]⟩⟩
                · skip
                  rw [show okC i n = true from decide_eq_true (by omega), Bool.true_and]
                  obtain ⟨ev, eo, so, co, ⟨hev, hco⟩, R⟩ := RULES CC; rw [← hev]
                  rw [← hev] at key
                  simp only [fpart, part', Tryd.f41, Option.getD]
                  simp (maxSteps := 5000000) only [SA, SB, SD, R, guardAt, binP, intP, indexAddrP, elemsOf, readCells, lenP, lenAt, resultsP, resultP, oneOr, reduceCtorEq, reduceIte, Nat.reduceEqDiff, Nat.reduceAdd, Nat.zero_add, Nat.reduceMul, Nat.reduceLT, Nat.reduceLeDiff, Int.reduceLT, Int.reduceNeg, Int.reduceLE, appendP, appendAt, letGo, setLoc, locVal, Int.reduceToNat, boxCells, und, TG, SE, unP, h0, h3, hlen, hil, hix, w1, Bool.not_true, Bool.not_false, a1, a2, z, e1p, e2p, e3, e4]
                  exact key _ _ (by simp (maxSteps := 5000000) only [SA, SB, SD, R, guardAt, binP, intP, indexAddrP, elemsOf, readCells, lenP, lenAt, resultsP, resultP, oneOr, reduceCtorEq, reduceIte, Nat.reduceEqDiff, Nat.reduceAdd, Nat.zero_add, Nat.reduceMul, Nat.reduceLT, Nat.reduceLeDiff, Int.reduceLT, Int.reduceNeg, Int.reduceLE, appendP, appendAt, letGo, setLoc, locVal, Int.reduceToNat, boxCells, und, h0]) (by simp (maxSteps := 5000000) only [SA, SB, SD, R, guardAt, binP, intP, indexAddrP, elemsOf, readCells, lenP, lenAt, resultsP, resultP, oneOr, reduceCtorEq, reduceIte, Nat.reduceEqDiff, Nat.reduceAdd, Nat.zero_add, Nat.reduceMul, Nat.reduceLT, Nat.reduceLeDiff, Int.reduceLT, Int.reduceNeg, Int.reduceLE, appendP, appendAt, letGo, setLoc, locVal, Int.reduceToNat, boxCells, und])
    · skip
      by_cases i0 : i = 0
      · have z : ((i : Int) == 0) = true := by rw [i0]; rfl
        rw [show okC i n = false from decide_eq_false (by omega), Bool.false_and]
        obtain ⟨ev, eo, so, co, ⟨hev, hco⟩, R⟩ := RULES CC; rw [← hev]
        simp only [fpart, part', Tryd.f41, Option.getD]
        simp (maxSteps := 5000000) only [SA, SB, SD, R, guardAt, binP, intP, indexAddrP, elemsOf, readCells, lenP, lenAt, resultsP, resultP, oneOr, reduceCtorEq, reduceIte, Nat.reduceEqDiff, Nat.reduceAdd, Nat.zero_add, Nat.reduceMul, Nat.reduceLT, Nat.reduceLeDiff, Int.reduceLT, Int.reduceNeg, Int.reduceLE, appendP, appendAt, letGo, setLoc, locVal, Int.reduceToNat, boxCells, und, TG, SE, unP, h0, h3, hlen, hil, hix, w1, Bool.not_true, Bool.not_false, a1, z]
        exact ⟨_, _, .inr ⟨rfl, rfl, by simp (maxSteps := 5000000) only [SA, SB, SD, R, guardAt, binP, intP, indexAddrP, elemsOf, readCells, lenP, lenAt, resultsP, resultP, oneOr, reduceCtorEq, reduceIte, Nat.reduceEqDiff, Nat.reduceAdd, Nat.zero_add, Nat.reduceMul, Nat.reduceLT, Nat.reduceLeDiff, Int.reduceLT, Int.reduceNeg, Int.reduceLE, appendP, appendAt, letGo, setLoc, locVal, Int.reduceToNat, boxCells, und]⟩⟩
      · have z : ((i : Int) == 0) = false := by rw [beq_eq_false_iff_ne]; omega
        by_cases e1 : n = 95
        · have e1p : ((n : Int) != 95) = false := by rw [e1]; rfl
          rw [show okC i n = true from decide_eq_true (by omega), Bool.true_and]
          obtain ⟨ev, eo, so, co, ⟨hev, hco⟩, R⟩ := RULES CC; rw [← hev]
          rw [← hev] at key
          simp only [fpart, part', Tryd.f41, Option.getD]
          simp (maxSteps := 5000000) only [SA, SB, SD, R, guardAt, binP, intP, indexAddrP, elemsOf, readCells, lenP, lenAt, resultsP, resultP, oneOr, reduceCtorEq, reduceIte, Nat.reduceEqDiff, Nat.reduceAdd, Nat.zero_add, Nat.reduceMul, Nat.reduceLT, Nat.reduceLeDiff, Int.reduceLT, Int.reduceNeg, Int.reduceLE, appendP, appendAt, letGo, setLoc, locVal, Int.reduceToNat, boxCells, und, TG, SE, unP, h0, h3, hlen, hil, hix, w1, Bool.not_true, Bool.not_false, a1, z, e1p]
          exact key _ _ (by simp (maxSteps := 5000000) only [SA, SB, SD, R, guardAt, binP, intP, indexAddrP, elemsOf, readCells, lenP, lenAt, resultsP, resultP, oneOr, reduceCtorEq, reduceIte, Nat.reduceEqDiff, Nat.reduceAdd, Nat.zero_add, Nat.reduceMul, Nat.reduceLT, Nat.reduceLeDiff, Int.reduceLT, Int.reduceNeg, Int.reduceLE, appendP, appendAt, letGo, setLoc, locVal, Int.reduceToNat, boxCells, und, h0]) (by simp (maxSteps := 5000000) only [SA, SB, SD, R, guardAt, binP, intP, indexAddrP, elemsOf, readCells, lenP, lenAt, resultsP, resultP, oneOr, reduceCtorEq, reduceIte, Nat.reduceEqDiff, Nat.reduceAdd, Nat.zero_add, Nat.reduceMul, Nat.reduceLT, Nat.reduceLeDiff, Int.reduceLT, Int.reduceNeg, Int.reduceLE, appendP, appendAt, letGo, setLoc, locVal, Int.reduceToNat, boxCells, und])
        · have e1p : ((n : Int) != 95) = true := by rw [bne_iff_ne]; omega
          by_cases e2 : n = 45
          · have e2p : ((n : Int) != 45) = false := by rw [e2]; rfl
            rw [show okC i n = true from decide_eq_true (by omega), Bool.true_and]
            obtain ⟨ev, eo, so, co, ⟨hev, hco⟩, R⟩ := RULES CC; rw [← hev]
            rw [← hev] at key
            simp only [fpart, part', Tryd.f41, Option.getD]
            simp (maxSteps := 5000000) only [SA, SB, SD, R, guardAt, binP, intP, indexAddrP, elemsOf, readCells, lenP, lenAt, resultsP, resultP, oneOr, reduceCtorEq, reduceIte, Nat.reduceEqDiff, Nat.reduceAdd, Nat.zero_add, Nat.reduceMul, Nat.reduceLT, Nat.reduceLeDiff, Int.reduceLT, Int.reduceNeg, Int.reduceLE, appendP, appendAt, letGo, setLoc, locVal, Int.reduceToNat, boxCells, und, TG, SE, unP, h0, h3, hlen, hil, hix, w1, Bool.not_true, Bool.not_false, a1, z, e1p, e2p]
            exact key _ _ (by simp (maxSteps := 5000000) only [SA, SB, SD, R, guardAt, binP, intP, indexAddrP, elemsOf, readCells, lenP, lenAt, resultsP, resultP, oneOr, reduceCtorEq, reduceIte, Nat.reduceEqDiff, Nat.reduceAdd, Nat.zero_add, Nat.reduceMul, Nat.reduceLT, Nat.reduceLeDiff, Int.reduceLT, Int.reduceNeg, Int.reduceLE, appendP, appendAt, letGo, setLoc, locVal, Int.reduceToNat, boxCells, und, h0]) (by simp (maxSteps := 5000000) only [SA, SB, SD, R, guardAt, binP, intP, indexAddrP, elemsOf, readCells, lenP, lenAt, resultsP, resultP, oneOr, reduceCtorEq, reduceIte, Nat.reduceEqDiff, Nat.reduceAdd, Nat.zero_add, Nat.reduceMul, Nat.reduceLT, Nat.reduceLeDiff, Int.reduceLT, Int.reduceNeg, Int.reduceLE, appendP, appendAt, letGo, setLoc, locVal, Int.reduceToNat, boxCells, und])
          · have e2p : ((n : Int) != 45) = true := by rw [bne_iff_ne]; omega
            by_cases e3 : (n : Int) < 48
            · skip
              rw [show okC i n = false from decide_eq_false (by omega), Bool.false_and]
              obtain ⟨ev, eo, so, co, ⟨hev, hco⟩, R⟩ := RULES CC; rw [← hev]
              simp only [fpart, part', Tryd.f41, Option.getD]
              simp (maxSteps := 5000000) only [SA, SB, SD, R, guardAt, binP, intP, indexAddrP, elemsOf, readCells, lenP, lenAt, resultsP, resultP, oneOr, reduceCtorEq, reduceIte, Nat.reduceEqDiff, Nat.reduceAdd, Nat.zero_add, Nat.reduceMul, Nat.reduceLT, Nat.reduceLeDiff, Int.reduceLT, Int.reduceNeg, Int.reduceLE, appendP, appendAt, letGo, setLoc, locVal, Int.reduceToNat, boxCells, und, TG, SE, unP, h0, h3, hlen, hil, hix, w1, Bool.not_true, Bool.not_false, a1, z, e1p, e2p, e3]
              exact ⟨_, _, .inr ⟨rfl, rfl, by simp (maxSteps := 5000000) only [SA, SB, SD, R, guardAt, binP, intP, indexAddrP, elemsOf, readCells, lenP, lenAt, resultsP, resultP, oneOr, reduceCtorEq, reduceIte, Nat.reduceEqDiff, Nat.reduceAdd, Nat.zero_add, Nat.reduceMul, Nat.reduceLT, Nat.reduceLeDiff, Int.reduceLT, Int.reduceNeg, Int.reduceLE, appendP, appendAt, letGo, setLoc, locVal, Int.reduceToNat, boxCells, und]⟩⟩
            · by_cases e4 : (n : Int) > 57
              · skip
                rw [show okC i n = false from decide_eq_false (by omega), Bool.false_and]
                obtain ⟨ev, eo, so, co, ⟨hev, hco⟩, R⟩ := RULES CC; rw [← hev]
                simp only [fpart, part', Tryd.f41, Option.getD]
                simp (maxSteps := 5000000) only [SA, SB, SD, R, guardAt, binP, intP, indexAddrP, elemsOf, readCells, lenP, lenAt, resultsP, resultP, oneOr, reduceCtorEq, reduceIte, Nat.reduceEqDiff, Nat.reduceAdd, Nat.zero_add, Nat.reduceMul, Nat.reduceLT, Nat.reduceLeDiff, Int.reduceLT, Int.reduceNeg, Int.reduceLE, appendP, appendAt, letGo, setLoc, locVal, Int.reduceToNat, boxCells, und, TG, SE, unP, h0, h3, hlen, hil, hix, w1, Bool.not_true, Bool.not_false, a1, z, e1p, e2p, e3, e4]
                exact ⟨_, _, .inr ⟨rfl, rfl, by simp (maxSteps := 5000000) only [SA, SB, SD, R, guardAt, binP, intP, indexAddrP, elemsOf, readCells, lenP, lenAt, resultsP, resultP, oneOr, reduceCtorEq, reduceIte, Nat.reduceEqDiff, Nat.reduceAdd, Nat.zero_add, Nat.reduceMul, Nat.reduceLT, Nat.reduceLeDiff, Int.reduceLT, Int.reduceNeg, Int.reduceLE, appendP, appendAt, letGo, setLoc, locVal, Int.reduceToNat, boxCells, und]⟩⟩
              · skip
                rw [show okC i n = true from decide_eq_true (by omega), Bool.true_and]
                obtain ⟨ev, eo, so, co, ⟨hev, hco⟩, R⟩ := RULES CC; rw [← hev]
                rw [← hev] at key
                simp only [fpart, part', Tryd.f41, Option.getD]
                simp (maxSteps := 5000000) only [SA, SB, SD, R, guardAt, binP, intP, indexAddrP, elemsOf, readCells, lenP, lenAt, resultsP, resultP, oneOr, reduceCtorEq, reduceIte, Nat.reduceEqDiff, Nat.reduceAdd, Nat.zero_add, Nat.reduceMul, Nat.reduceLT, Nat.reduceLeDiff, Int.reduceLT, Int.reduceNeg, Int.reduceLE, appendP, appendAt, letGo, setLoc, locVal, Int.reduceToNat, boxCells, und, TG, SE, unP, h0, h3, hlen, hil, hix, w1, Bool.not_true, Bool.not_false, a1, z, e1p, e2p, e3, e4]
                exact key _ _ (by simp (maxSteps := 5000000) only [SA, SB, SD, R, guardAt, binP, intP, indexAddrP, elemsOf, readCells, lenP, lenAt, resultsP, resultP, oneOr, reduceCtorEq, reduceIte, Nat.reduceEqDiff, Nat.reduceAdd, Nat.zero_add, Nat.reduceMul, Nat.reduceLT, Nat.reduceLeDiff, Int.reduceLT, Int.reduceNeg, Int.reduceLE, appendP, appendAt, letGo, setLoc, locVal, Int.reduceToNat, boxCells, und, h0]) (by simp (maxSteps := 5000000) only [SA, SB, SD, R, guardAt, binP, intP, indexAddrP, elemsOf, readCells, lenP, lenAt, resultsP, resultP, oneOr, reduceCtorEq, reduceIte, Nat.reduceEqDiff, Nat.reduceAdd, Nat.zero_add, Nat.reduceMul, Nat.reduceLT, Nat.reduceLeDiff, Int.reduceLT, Int.reduceNeg, Int.reduceLE, appendP, appendAt, letGo, setLoc, locVal, Int.reduceToNat, boxCells, und])
theorem call_R04_Valid (s : List UInt8) (hs : s.length ≤ 1000) : ∃ bx, callL CC 41 [.str s] [] = some (.ret (.bool (valB s)), bx) := by
  rw [callL_enter (fn := Tryd.f41) (c := Tryd.f41.body.getD .skip) rfl rfl fat_R04_Valid rfl ok_R04_Valid (Nat.le_of_ble_eq_true rfl)]
  have hlen := len_str s
  unfold valB
  by_cases c1 : (s.length : Int) < 1
  · rw [decide_eq_false (show ¬ (1 ≤ s.length ∧ s.length ≤ 24) by omega), Bool.false_and]
    obtain ⟨ev, eo, so, co, ⟨hev, hco⟩, R⟩ := RULES CC; rw [← hev]
    simp only [fpart, part', Tryd.f41, Option.getD]
    simp (maxSteps := 5000000) only [SA, SB, SD, R, guardAt, binP, intP, indexAddrP, elemsOf, readCells, lenP, lenAt, resultsP, resultP, oneOr, reduceCtorEq, reduceIte, Nat.reduceEqDiff, Nat.reduceAdd, Nat.zero_add, Nat.reduceMul, Nat.reduceLT, Nat.reduceLeDiff, Int.reduceLT, Int.reduceNeg, Int.reduceLE, appendP, appendAt, letGo, setLoc, locVal, Int.reduceToNat, boxCells, und, TG, SE, hlen, c1]
    exact ⟨_, rfl⟩
  · by_cases c2 : (s.length : Int) > 24
    · rw [decide_eq_false (show ¬ (1 ≤ s.length ∧ s.length ≤ 24) by omega), Bool.false_and]
      obtain ⟨ev, eo, so, co, ⟨hev, hco⟩, R⟩ := RULES CC; rw [← hev]
      simp only [fpart, part', Tryd.f41, Option.getD]
      simp (maxSteps := 5000000) only [SA, SB, SD, R, guardAt, binP, intP, indexAddrP, elemsOf, readCells, lenP, lenAt, resultsP, resultP, oneOr, reduceCtorEq, reduceIte, Nat.reduceEqDiff, Nat.reduceAdd, Nat.zero_add, Nat.reduceMul, Nat.reduceLT, Nat.reduceLeDiff, Int.reduceLT, Int.reduceNeg, Int.reduceLE, appendP, appendAt, letGo, setLoc, locVal, Int.reduceToNat, boxCells, und, TG, SE, hlen, c1, c2]
      exact ⟨_, rfl⟩
    · rw [decide_eq_true (show 1 ≤ s.length ∧ s.length ≤ 24 by omega), Bool.true_and]
      have hloop := fun e bx => loop_R04_Valid _ rfl s hs s.length 0 e bx (by omega)
      rw [List.drop_zero] at hloop
      generalize vAll 0 s = v at *
      obtain ⟨ev, eo, so, co, ⟨hev, hco⟩, R⟩ := RULES CC; rw [← hev]
      rw [← hev] at hloop
      simp only [fpart, part', Tryd.f41, Option.getD] at hloop ⊢
      simp (maxSteps := 5000000) only [SA, SB, SD, R, guardAt, binP, intP, indexAddrP, elemsOf, readCells, lenP, lenAt, resultsP, resultP, oneOr, reduceCtorEq, reduceIte, Nat.reduceEqDiff, Nat.reduceAdd, Nat.zero_add, Nat.reduceMul, Nat.reduceLT, Nat.reduceLeDiff, Int.reduceLT, Int.reduceNeg, Int.reduceLE, appendP, appendAt, letGo, setLoc, locVal, Int.reduceToNat, boxCells, und, TG, SE, hlen, c1, c2]
      generalize hE : ev _ _ = r
      have hP : PVd v r := by
        rw [← hE]
        exact hloop _ _ (by simp (maxSteps := 5000000) only [SA, SB, SD, R, guardAt, binP, intP, indexAddrP, elemsOf, readCells, lenP, lenAt, resultsP, resultP, oneOr, reduceCtorEq, reduceIte, Nat.reduceEqDiff, Nat.reduceAdd, Nat.zero_add, Nat.reduceMul, Nat.reduceLT, Nat.reduceLeDiff, Int.reduceLT, Int.reduceNeg, Int.reduceLE, appendP, appendAt, letGo, setLoc, locVal, Int.reduceToNat, boxCells, und]) (by simp (maxSteps := 5000000) only [SA, SB, SD, R, guardAt, binP, intP, indexAddrP, elemsOf, readCells, lenP, lenAt, resultsP, resultP, oneOr, reduceCtorEq, reduceIte, Nat.reduceEqDiff, Nat.reduceAdd, Nat.zero_add, Nat.reduceMul, Nat.reduceLT, Nat.reduceLeDiff, Int.reduceLT, Int.reduceNeg, Int.reduceLE, appendP, appendAt, letGo, setLoc, locVal, Int.reduceToNat, boxCells, und]; rfl)
      obtain ⟨e', bx', ⟨hv, he⟩ | ⟨hv, he, g2⟩⟩ := hP
      · subst he
        subst hv
        simp (maxSteps := 5000000) only [SA, SB, SD, R, guardAt, binP, intP, indexAddrP, elemsOf, readCells, lenP, lenAt, resultsP, resultP, oneOr, reduceCtorEq, reduceIte, Nat.reduceEqDiff, Nat.reduceAdd, Nat.zero_add, Nat.reduceMul, Nat.reduceLT, Nat.reduceLeDiff, Int.reduceLT, Int.reduceNeg, Int.reduceLE, appendP, appendAt, letGo, setLoc, locVal, Int.reduceToNat, boxCells, und, TG, SE]
        exact ⟨_, rfl⟩
      · subst he
        subst hv
        simp (maxSteps := 5000000) only [SA, SB, SD, R, guardAt, binP, intP, indexAddrP, elemsOf, readCells, lenP, lenAt, resultsP, resultP, oneOr, reduceCtorEq, reduceIte, Nat.reduceEqDiff, Nat.reduceAdd, Nat.zero_add, Nat.reduceMul, Nat.reduceLT, Nat.reduceLeDiff, Int.reduceLT, Int.reduceNeg, Int.reduceLE, appendP, appendAt, letGo, setLoc, locVal, Int.reduceToNat, boxCells, und, TG, SE, g2]
        exact ⟨_, rfl⟩
theorem op_R04_Valid (s : List UInt8) (hs : s.length ≤ 1000) (bx) : callOp CC (callL CC) 41 [.str s] bx = some (.ret (.bool (valB s)), bx) := by
  obtain ⟨b, h⟩ := call_R04_Valid s hs
  exact callOp_of rfl (by simp only [SA, Bool.and_true]) h rfl
theorem loop_names_Valid (L : Code) (hL : L = fpart Tryd.f39 [1,1,0,1,0]) (s : List UInt8) (hs : s.length ≤ 1000) : ∀ (k i : Nat) (e : List PV), i + k = s.length → getT e 0 = .str s → getT e 14 = .bp 0 0 →
    PVd (vAll i (s.drop i)) (evL CC L ⟨e, [.iter s i]⟩) := by
  intro k
  induction k with
  | zero =>
    intro i e hk h0 h14
    rw [evL_at (fpart Tryd.f39 [1,1,0,1,0,0]) hL]
    have hlt : ¬ (i < s.length) := by omega
    rw [List.drop_eq_nil_of_le (by omega)]
    unfold vAll
    obtain ⟨ev, eo, so, co, ⟨hev, hco⟩, R⟩ := RULES CC; rw [← hev]
    simp only [fpart, part', Tryd.f39, Option.getD]
    simp (maxSteps := 5000000) only [SA, SB, SD, R, guardAt, binP, intP, indexAddrP, elemsOf, readCells, lenP, lenAt, resultsP, resultP, oneOr, reduceCtorEq, reduceIte, Nat.reduceEqDiff, Nat.reduceAdd, Nat.zero_add, Nat.reduceMul, Nat.reduceLT, Nat.reduceLeDiff, Int.reduceLT, Int.reduceNeg, Int.reduceLE, appendP, appendAt, letGo, setLoc, locVal, Int.reduceToNat, boxCells, und, TG, SE, nextR, extP, List.getElem?_cons_zero, List.getElem?_cons_succ, Option.map_some, h0, h14, hlt]
    exact ⟨_, _, .inl ⟨rfl, rfl⟩⟩
  | succ k ih =>
    intro i e hk h0 h14
    rw [evL_at (fpart Tryd.f39 [1,1,0,1,0,0]) hL]
    have hlen := len_str s
    have hlt : i < s.length := by omega
    have hx : s[i]? = some (s[i]'(by omega)) := by simp
    have hdr : s.drop i = (s[i]'(by omega)) :: s.drop (i + 1) := List.drop_eq_getElem_cons (by omega)
    generalize s[i]'(by omega) = c at *
    have hlo := dec_lo s i c hx
    have hhi := dec_hi s i c hx
    have key := fun e => ih (i + 1) e (by omega)
    rw [hdr]
    unfold vAll
    generalize vAll (i + 1) (s.drop (i + 1)) = v at *
    generalize c.toNat = n at *
    clear hx hdr
    by_cases h128 : n < 128
    · have hdec := hlo h128
      have hlet := op_names_letter (n : Int)
      by_cases a1 : 97 ≤ (n : Int) ∧ (n : Int) ≤ 122
      · rw [decide_eq_true a1] at hlet
        rw [show okC i n = true from decide_eq_true (by omega), Bool.true_and]
        obtain ⟨ev, eo, so, co, ⟨hev, hco⟩, R⟩ := RULES CC; rw [← hev]
        rw [← hco] at hlet
        rw [← hev] at key
        simp only [fpart, part', Tryd.f39, Option.getD]
        simp (maxSteps := 5000000) only [SA, SB, SD, R, guardAt, binP, intP, indexAddrP, elemsOf, readCells, lenP, lenAt, resultsP, resultP, oneOr, reduceCtorEq, reduceIte, Nat.reduceEqDiff, Nat.reduceAdd, Nat.zero_add, Nat.reduceMul, Nat.reduceLT, Nat.reduceLeDiff, Int.reduceLT, Int.reduceNeg, Int.reduceLE, appendP, appendAt, letGo, setLoc, locVal, Int.reduceToNat, boxCells, und, TG, SE, unP, nextR, extP, List.getElem?_cons_zero, List.getElem?_cons_succ, Option.map_some, List.set_cons_zero, h0, h14, hlen, hlt, hlet, hdec, Bool.not_true, Bool.not_false, hlet]
        exact key _ (by simp (maxSteps := 5000000) only [SA, SB, SD, R, guardAt, binP, intP, indexAddrP, elemsOf, readCells, lenP, lenAt, resultsP, resultP, oneOr, reduceCtorEq, reduceIte, Nat.reduceEqDiff, Nat.reduceAdd, Nat.zero_add, Nat.reduceMul, Nat.reduceLT, Nat.reduceLeDiff, Int.reduceLT, Int.reduceNeg, Int.reduceLE, appendP, appendAt, letGo, setLoc, locVal, Int.reduceToNat, boxCells, und, h0]) (by simp (maxSteps := 5000000) only [SA, SB, SD, R, guardAt, binP, intP, indexAddrP, elemsOf, readCells, lenP, lenAt, resultsP, resultP, oneOr, reduceCtorEq, reduceIte, Nat.reduceEqDiff, Nat.reduceAdd, Nat.zero_add, Nat.reduceMul, Nat.reduceLT, Nat.reduceLeDiff, Int.reduceLT, Int.reduceNeg, Int.reduceLE, appendP, appendAt, letGo, setLoc, locVal, Int.reduceToNat, boxCells, und, h14])
      · rw [decide_eq_false a1] at hlet
        by_cases i0 : i = 0
        · have z : ((i : Int) == 0) = true := by rw [i0]; rfl
          rw [show okC i n = false from decide_eq_false (by omega), Bool.false_and]
          obtain ⟨ev, eo, so, co, ⟨hev, hco⟩, R⟩ := RULES CC; rw [← hev]
          rw [← hco] at hlet
          simp only [fpart, part', Tryd.f39, Option.getD]
          simp (maxSteps := 5000000) only [SA, SB, SD, R, guardAt, binP, intP, indexAddrP, elemsOf, readCells, lenP, lenAt, resultsP, resultP, oneOr, reduceCtorEq, reduceIte, Nat.reduceEqDiff, Nat.reduceAdd, Nat.zero_add, Nat.reduceMul, Nat.reduceLT, Nat.reduceLeDiff, Int.reduceLT, Int.reduceNeg, Int.reduceLE, appendP, appendAt, letGo, setLoc, locVal, Int.reduceToNat, boxCells, und, TG, SE, unP, nextR, extP, List.getElem?_cons_zero, List.getElem?_cons_succ, Option.map_some, List.set_cons_zero, h0, h14, hlen, hlt, hlet, hdec, Bool.not_true, Bool.not_false, hlet, z]
          exact ⟨_, _, .inr ⟨rfl, rfl, by simp (maxSteps := 5000000) only [SA, SB, SD, R, guardAt, binP, intP, indexAddrP, elemsOf, readCells, lenP, lenAt, resultsP, resultP, oneOr, reduceCtorEq, reduceIte, Nat.reduceEqDiff, Nat.reduceAdd, Nat.zero_add, Nat.reduceMul, Nat.reduceLT, Nat.reduceLeDiff, Int.reduceLT, Int.reduceNeg, Int.reduceLE, appendP, appendAt, letGo, setLoc, locVal, Int.reduceToNat, boxCells, und]⟩⟩
        · have z : ((i : Int) == 0) = false := by rw [beq_eq_false_iff_ne]; omega
          by_cases e1 : n = 95
          · have e1p : ((n : Int) != 95) = false := by rw [e1]; rfl
            rw [show okC i n = true from decide_eq_true (by omega), Bool.true_and]
            obtain ⟨ev, eo, so, co, ⟨hev, hco⟩, R⟩ := RULES CC; rw [← hev]
            rw [← hco] at hlet
            rw [← hev] at key
            simp only [fpart, part', Tryd.f39, Option.getD]
            simp (maxSteps := 5000000) only [SA, SB, SD, R, guardAt, binP, intP, indexAddrP, elemsOf, readCells, lenP, lenAt, resultsP, resultP, oneOr, reduceCtorEq, reduceIte, Nat.reduceEqDiff, Nat.reduceAdd, Nat.zero_add, Nat.reduceMul, Nat.reduceLT, Nat.reduceLeDiff, Int.reduceLT, Int.reduceNeg, Int.reduceLE, appendP, appendAt, letGo, setLoc, locVal, Int.reduceToNat, boxCells, und, TG, SE, unP, nextR, extP, List.getElem?_cons_zero, List.getElem?_cons_succ, Option.map_some, List.set_cons_zero, h0, h14, hlen, hlt, hlet, hdec, Bool.not_true, Bool.not_false, hlet, z, e1p]
            exact key _ (by simp (maxSteps := 5000000) only [SA, SB, SD, R, guardAt, binP, intP, indexAddrP, elemsOf, readCells, lenP, lenAt, resultsP, resultP, oneOr, reduceCtorEq, reduceIte, Nat.reduceEqDiff, Nat.reduceAdd, Nat.zero_add, Nat.reduceMul, Nat.reduceLT, Nat.reduceLeDiff, Int.reduceLT, Int.reduceNeg, Int.reduceLE, appendP, appendAt, letGo, setLoc, locVal, Int.reduceToNat, boxCells, und, h0]) (by simp (maxSteps := 5000000) only [SA, SB, SD, R, guardAt, binP, intP, indexAddrP, elemsOf, readCells, lenP, lenAt, resultsP, resultP, oneOr, reduceCtorEq, reduceIte, Nat.reduceEqDiff, Nat.reduceAdd, Nat.zero_add, Nat.reduceMul, Nat.reduceLT, Nat.reduceLeDiff, Int.reduceLT, Int.reduceNeg, Int.reduceLE, appendP, appendAt, letGo, setLoc, locVal, Int.reduceToNat, boxCells, und, h14])
          · have e1p : ((n : Int) != 95) = true := by rw [bne_iff_ne]; omega
            by_cases e2 : n = 45
            · have e2p : ((n : Int) != 45) = false := by rw [e2]; rfl
              rw [show okC i n = true from decide_eq_true (by omega), Bool.true_and]
              obtain ⟨ev, eo, so, co, ⟨hev, hco⟩, R⟩ := RULES CC; rw [← hev]
              rw [← hco] at hlet
              rw [← hev] at key
              simp only [fpart, part', Tryd.f39, Option.getD]
              simp (maxSteps := 5000000) only [SA, SB, SD, R, guardAt, binP, intP, indexAddrP, elemsOf, readCells, lenP, lenAt, resultsP, resultP, oneOr, reduceCtorEq, reduceIte, Nat.reduceEqDiff, Nat.reduceAdd, Nat.zero_add, Nat.reduceMul, Nat.reduceLT, Nat.reduceLeDiff, Int.reduceLT, Int.reduceNeg, Int.reduceLE, appendP, appendAt, letGo, setLoc, locVal, Int.reduceToNat, boxCells, und, TG, SE, unP, nextR, extP, List.getElem?_cons_zero, List.getElem?_cons_succ, Option.map_some, List.set_cons_zero, h0, h14, hlen, hlt, hlet, hdec, Bool.not_true, Bool.not_false, hlet, z, e1p, e2p]
              exact key _ (by simp (maxSteps := 5000000) only [SA, SB, SD, R, guardAt, binP, intP, indexAddrP, elemsOf, readCells, lenP, lenAt, resultsP, resultP, oneOr, reduceCtorEq, reduceIte, Nat.reduceEqDiff, Nat.reduceAdd, Nat.zero_add, Nat.reduceMul, Nat.reduceLT, Nat.reduceLeDiff, Int.reduceLT, Int.reduceNeg, Int.reduceLE, appendP, appendAt, letGo, setLoc, locVal, Int.reduceToNat, boxCells, und, h0]) (by simp (maxSteps := 5000000) only [SA, SB, SD, R, guardAt, binP, intP, indexAddrP, elemsOf, readCells, lenP, lenAt, resultsP, resultP, oneOr, reduceCtorEq, reduceIte, Nat.reduceEqDiff, Nat.reduceAdd, Nat.zero_add, Nat.reduceMul, Nat.reduceLT, Nat.reduceLeDiff, Int.reduceLT, Int.reduceNeg, Int.reduceLE, appendP, appendAt, letGo, setLoc, locVal, Int.reduceToNat, boxCells, und, h14])
            · have e2p : ((n : Int) != 45) = true := by rw [bne_iff_ne]; omega
              by_cases e3 : (n : Int) < 48
              · skip
                rw [show okC i n = false from decide_eq_false (by omega), Bool.false_and]
                obtain ⟨ev, eo, so, co, ⟨hev, hco⟩, R⟩ := RULES CC; rw [← hev]
                rw [← hco] at hlet
                simp only [fpart, part', Tryd.f39, Option.getD]
                simp (maxSteps := 5000000) only [SA, SB, SD, R, guardAt, binP, intP, indexAddrP, elemsOf, readCells, lenP, lenAt, resultsP, resultP, oneOr, reduceCtorEq, reduceIte, Nat.reduceEqDiff, Nat.reduceAdd, Nat.zero_add, Nat.reduceMul, Nat.reduceLT, Nat.reduceLeDiff, Int.reduceLT, Int.reduceNeg, Int.reduceLE, appendP, appendAt, letGo, setLoc, locVal, Int.reduceToNat, boxCells, und, TG, SE, unP, nextR, extP, List.getElem?_cons_zero, List.getElem?_cons_succ, Option.map_some, List.set_cons_zero, h0, h14, hlen, hlt, hlet, hdec, Bool.not_true, Bool.not_false, hlet, z, e1p, e2p, e3]
                exact ⟨_, _, .inr ⟨rfl, rfl, by simp (maxSteps := 5000000) only [SA, SB, SD, R, guardAt, binP, intP, indexAddrP, elemsOf, readCells, lenP, lenAt, resultsP, resultP, oneOr, reduceCtorEq, reduceIte, Nat.reduceEqDiff, Nat.reduceAdd, Nat.zero_add, Nat.reduceMul, Nat.reduceLT, Nat.reduceLeDiff, Int.reduceLT, Int.reduceNeg, Int.reduceLE, appendP, appendAt, letGo, setLoc, locVal, Int.reduceToNat, boxCells, und]⟩⟩
              · by_cases e4 : (n : Int) > 57
                · skip
                  rw [show okC i n = false from decide_eq_false (by omega), Bool.false_and]
                  obtain ⟨ev, eo, so, co, ⟨hev, hco⟩, R⟩ := RULES CC; rw [← hev]
                  rw [← hco] at hlet
                  simp only [fpart, part', Tryd.f39, Option.getD]
                  simp (maxSteps := 5000000) only [SA, SB, SD, R, guardAt, binP, intP, indexAddrP, elemsOf, readCells, lenP, lenAt, resultsP, resultP, oneOr, reduceCtorEq, reduceIte, Nat.reduceEqDiff, Nat.reduceAdd, Nat.zero_add, Nat.reduceMul, Nat.reduceLT, Nat.reduceLeDiff, Int.reduceLT, Int.reduceNeg, Int.reduceLE, appendP, appendAt, letGo, setLoc, locVal, Int.reduceToNat, boxCells, und, TG, SE, unP, nextR, extP, List.getElem?_cons_zero, List.getElem?_cons_succ, Option.map_some, List.set_cons_zero, h0, h14, hlen, hlt, hlet, hdec, Bool.not_true, Bool.not_false, hlet, z, e1p, e2p, e3, e4]
                  exact ⟨_, _, .inr ⟨rfl, rfl, by simp (maxSteps := 5000000) only [SA, SB, SD, R, guardAt, binP, intP, indexAddrP, elemsOf, readCells, lenP, lenAt, resultsP, resultP, oneOr, reduceCtorEq, reduceIte, Nat.reduceEqDiff, Nat.reduceAdd, Nat.zero_add, Nat.reduceMul, Nat.reduceLT, Nat.reduceLeDiff, Int.reduceLT, Int.reduceNeg, Int.reduceLE, appendP, appendAt, letGo, setLoc, locVal, Int.reduceToNat, boxCells, und]⟩⟩
                · skip
                  rw [show okC i n = true from decide_eq_true (by omega), Bool.true_and]
                  obtain ⟨ev, eo, so, co, ⟨hev, hco⟩, R⟩ := RULES CC; rw [← hev]
                  rw [← hco] at hlet
                  rw [← hev] at key
                  simp only [fpart, part', Tryd.f39, Option.getD]
                  simp (maxSteps := 5000000) only [SA, SB, SD, R, guardAt, binP, intP, indexAddrP, elemsOf, readCells, lenP, lenAt, resultsP, resultP, oneOr, reduceCtorEq, reduceIte, Nat.reduceEqDiff, Nat.reduceAdd, Nat.zero_add, Nat.reduceMul, Nat.reduceLT, Nat.reduceLeDiff, Int.reduceLT, Int.reduceNeg, Int.reduceLE, appendP, appendAt, letGo, setLoc, locVal, Int.reduceToNat, boxCells, und, TG, SE, unP, nextR, extP, List.getElem?_cons_zero, List.getElem?_cons_succ, Option.map_some, List.set_cons_zero, h0, h14, hlen, hlt, hlet, hdec, Bool.not_true, Bool.not_false, hlet, z, e1p, e2p, e3, e4]
                  exact key _ (by simp (maxSteps := 5000000) only [SA, SB, SD, R, guardAt, binP, intP, indexAddrP, elemsOf, readCells, lenP, lenAt, resultsP, resultP, oneOr, reduceCtorEq, reduceIte, Nat.reduceEqDiff, Nat.reduceAdd, Nat.zero_add, Nat.reduceMul, Nat.reduceLT, Nat.reduceLeDiff, Int.reduceLT, Int.reduceNeg, Int.reduceLE, appendP, appendAt, letGo, setLoc, locVal, Int.reduceToNat, boxCells, und, h0]) (by simp (maxSteps := 5000000) only [SA, SB, SD, R, guardAt, binP, intP, indexAddrP, elemsOf, readCells, lenP, lenAt, resultsP, resultP, oneOr, reduceCtorEq, reduceIte, Nat.reduceEqDiff, Nat.reduceAdd, Nat.zero_add, Nat.reduceMul, Nat.reduceLT, Nat.reduceLeDiff, Int.reduceLT, Int.reduceNeg, Int.reduceLE, appendP, appendAt, letGo, setLoc, locVal, Int.reduceToNat, boxCells, und, h14])
    · have hge := hhi h128
      rw [show okC i n = false from decide_eq_false (by omega), Bool.false_and]
      generalize hdec : Utf8.decode ⟨s.toArray⟩ i = d at *
      obtain ⟨m, k2⟩ := d
      simp only at hge
      have hlet := op_names_letter (m : Int)
      rw [decide_eq_false (by omega)] at hlet
      by_cases i0 : i = 0
      · have z : ((i : Int) == 0) = true := by rw [i0]; rfl
        obtain ⟨ev, eo, so, co, ⟨hev, hco⟩, R⟩ := RULES CC; rw [← hev]
        rw [← hco] at hlet
        simp only [fpart, part', Tryd.f39, Option.getD]
        simp (maxSteps := 5000000) only [SA, SB, SD, R, guardAt, binP, intP, indexAddrP, elemsOf, readCells, lenP, lenAt, resultsP, resultP, oneOr, reduceCtorEq, reduceIte, Nat.reduceEqDiff, Nat.reduceAdd, Nat.zero_add, Nat.reduceMul, Nat.reduceLT, Nat.reduceLeDiff, Int.reduceLT, Int.reduceNeg, Int.reduceLE, appendP, appendAt, letGo, setLoc, locVal, Int.reduceToNat, boxCells, und, TG, SE, unP, nextR, extP, List.getElem?_cons_zero, List.getElem?_cons_succ, Option.map_some, List.set_cons_zero, h0, h14, hlen, hlt, hlet, hdec, Bool.not_true, Bool.not_false, z]
        exact ⟨_, _, .inr ⟨rfl, rfl, by simp (maxSteps := 5000000) only [SA, SB, SD, R, guardAt, binP, intP, indexAddrP, elemsOf, readCells, lenP, lenAt, resultsP, resultP, oneOr, reduceCtorEq, reduceIte, Nat.reduceEqDiff, Nat.reduceAdd, Nat.zero_add, Nat.reduceMul, Nat.reduceLT, Nat.reduceLeDiff, Int.reduceLT, Int.reduceNeg, Int.reduceLE, appendP, appendAt, letGo, setLoc, locVal, Int.reduceToNat, boxCells, und]⟩⟩
      · have z : ((i : Int) == 0) = false := by rw [beq_eq_false_iff_ne]; omega
        have e1p : ((m : Int) != 95) = true := by rw [bne_iff_ne]; omega
        have e2p : ((m : Int) != 45) = true := by rw [bne_iff_ne]; omega
        have e3 : ¬ ((m : Int) < 48) := by omega
        have e4 : ((m : Int) > 57) := by omega
        obtain ⟨ev, eo, so, co, ⟨hev, hco⟩, R⟩ := RULES CC; rw [← hev]
        rw [← hco] at hlet
        simp only [fpart, part', Tryd.f39, Option.getD]
        simp (maxSteps := 5000000) only [SA, SB, SD, R, guardAt, binP, intP, indexAddrP, elemsOf, readCells, lenP, lenAt, resultsP, resultP, oneOr, reduceCtorEq, reduceIte, Nat.reduceEqDiff, Nat.reduceAdd, Nat.zero_add, Nat.reduceMul, Nat.reduceLT, Nat.reduceLeDiff, Int.reduceLT, Int.reduceNeg, Int.reduceLE, appendP, appendAt, letGo, setLoc, locVal, Int.reduceToNat, boxCells, und, TG, SE, unP, nextR, extP, List.getElem?_cons_zero, List.getElem?_cons_succ, Option.map_some, List.set_cons_zero, h0, h14, hlen, hlt, hlet, hdec, Bool.not_true, Bool.not_false, z, e1p, e2p, e3, e4]
        exact ⟨_, _, .inr ⟨rfl, rfl, by simp (maxSteps := 5000000) only [SA, SB, SD, R, guardAt, binP, intP, indexAddrP, elemsOf, readCells, lenP, lenAt, resultsP, resultP, oneOr, reduceCtorEq, reduceIte, Nat.reduceEqDiff, Nat.reduceAdd, Nat.zero_add, Nat.reduceMul, Nat.reduceLT, Nat.reduceLeDiff, Int.reduceLT, Int.reduceNeg, Int.reduceLE, appendP, appendAt, letGo, setLoc, locVal, Int.reduceToNat, boxCells, und]⟩⟩
theorem call_names_Valid (s : List UInt8) (hs : s.length ≤ 1000) : ∃ bx, callL CC 39 [.str s] [] = some (.ret (.bool (valB s)), bx) := by
  rw [callL_enter (fn := Tryd.f39) (c := Tryd.f39.body.getD .skip) rfl rfl fat_names_Valid rfl ok_names_Valid (Nat.le_of_ble_eq_true rfl)]
  have hlen := len_str s
  unfold valB
  by_cases c1 : (s.length : Int) < 1
  · rw [decide_eq_false (show ¬ (1 ≤ s.length ∧ s.length ≤ 24) by omega), Bool.false_and]
    obtain ⟨ev, eo, so, co, ⟨hev, hco⟩, R⟩ := RULES CC; rw [← hev]
    simp only [fpart, part', Tryd.f39, Option.getD]
    simp (maxSteps := 5000000) only [SA, SB, SD, R, guardAt, binP, intP, indexAddrP, elemsOf, readCells, lenP, lenAt, resultsP, resultP, oneOr, reduceCtorEq, reduceIte, Nat.reduceEqDiff, Nat.reduceAdd, Nat.zero_add, Nat.reduceMul, Nat.reduceLT, Nat.reduceLeDiff, Int.reduceLT, Int.reduceNeg, Int.reduceLE, appendP, appendAt, letGo, setLoc, locVal, Int.reduceToNat, boxCells, und, TG, SE, hlen, c1]
    exact ⟨_, rfl⟩
  · by_cases c2 : (s.length : Int) > 24
    · rw [decide_eq_false (show ¬ (1 ≤ s.length ∧ s.length ≤ 24) by omega), Bool.false_and]
      obtain ⟨ev, eo, so, co, ⟨hev, hco⟩, R⟩ := RULES CC; rw [← hev]
      simp only [fpart, part', Tryd.f39, Option.getD]
      simp (maxSteps := 5000000) only [SA, SB, SD, R, guardAt, binP, intP, indexAddrP, elemsOf, readCells, lenP, lenAt, resultsP, resultP, oneOr, reduceCtorEq, reduceIte, Nat.reduceEqDiff, Nat.reduceAdd, Nat.zero_add, Nat.reduceMul, Nat.reduceLT, Nat.reduceLeDiff, Int.reduceLT, Int.reduceNeg, Int.reduceLE, appendP, appendAt, letGo, setLoc, locVal, Int.reduceToNat, boxCells, und, TG, SE, hlen, c1, c2]
      exact ⟨_, rfl⟩
    · rw [decide_eq_true (show 1 ≤ s.length ∧ s.length ≤ 24 by omega), Bool.true_and]
      have hloop := fun e => loop_names_Valid _ rfl s hs s.length 0 e (by omega)
      rw [List.drop_zero] at hloop
      have hus : CC.P.underlying 9 = some .string := by kernel_rfl
      generalize vAll 0 s = v at *
      obtain ⟨ev, eo, so, co, ⟨hev, hco⟩, R⟩ := RULES CC; rw [← hev]
      rw [← hev] at hloop
      simp only [fpart, part', Tryd.f39, Option.getD] at hloop ⊢
      simp (maxSteps := 5000000) only [SA, SB, SD, R, guardAt, binP, intP, indexAddrP, elemsOf, readCells, lenP, lenAt, resultsP, resultP, oneOr, reduceCtorEq, reduceIte, Nat.reduceEqDiff, Nat.reduceAdd, Nat.zero_add, Nat.reduceMul, Nat.reduceLT, Nat.reduceLeDiff, Int.reduceLT, Int.reduceNeg, Int.reduceLE, appendP, appendAt, letGo, setLoc, locVal, Int.reduceToNat, boxCells, und, TG, SE, hlen, c1, c2, rangeR, hus, List.nil_append, List.length_nil]
      generalize hE : ev _ _ = r
      have hP : PVd v r := by
        rw [← hE]
        exact hloop _ (by simp (maxSteps := 5000000) only [SA, SB, SD, R, guardAt, binP, intP, indexAddrP, elemsOf, readCells, lenP, lenAt, resultsP, resultP, oneOr, reduceCtorEq, reduceIte, Nat.reduceEqDiff, Nat.reduceAdd, Nat.zero_add, Nat.reduceMul, Nat.reduceLT, Nat.reduceLeDiff, Int.reduceLT, Int.reduceNeg, Int.reduceLE, appendP, appendAt, letGo, setLoc, locVal, Int.reduceToNat, boxCells, und]) (by simp (maxSteps := 5000000) only [SA, SB, SD, R, guardAt, binP, intP, indexAddrP, elemsOf, readCells, lenP, lenAt, resultsP, resultP, oneOr, reduceCtorEq, reduceIte, Nat.reduceEqDiff, Nat.reduceAdd, Nat.zero_add, Nat.reduceMul, Nat.reduceLT, Nat.reduceLeDiff, Int.reduceLT, Int.reduceNeg, Int.reduceLE, appendP, appendAt, letGo, setLoc, locVal, Int.reduceToNat, boxCells, und])
      obtain ⟨e', bx', ⟨hv, he⟩ | ⟨hv, he, g2⟩⟩ := hP
      · subst he
        subst hv
        simp (maxSteps := 5000000) only [SA, SB, SD, R, guardAt, binP, intP, indexAddrP, elemsOf, readCells, lenP, lenAt, resultsP, resultP, oneOr, reduceCtorEq, reduceIte, Nat.reduceEqDiff, Nat.reduceAdd, Nat.zero_add, Nat.reduceMul, Nat.reduceLT, Nat.reduceLeDiff, Int.reduceLT, Int.reduceNeg, Int.reduceLE, appendP, appendAt, letGo, setLoc, locVal, Int.reduceToNat, boxCells, und, TG, SE]
        exact ⟨_, rfl⟩
      · subst he
        subst hv
        simp (maxSteps := 5000000) only [SA, SB, SD, R, guardAt, binP, intP, indexAddrP, elemsOf, readCells, lenP, lenAt, resultsP, resultP, oneOr, reduceCtorEq, reduceIte, Nat.reduceEqDiff, Nat.reduceAdd, Nat.zero_add, Nat.reduceMul, Nat.reduceLT, Nat.reduceLeDiff, Int.reduceLT, Int.reduceNeg, Int.reduceLE, appendP, appendAt, letGo, setLoc, locVal, Int.reduceToNat, boxCells, und, TG, SE, g2]
        exact ⟨_, rfl⟩
theorem op_names_Valid (s : List UInt8) (hs : s.length ≤ 1000) (bx) : callOp CC (callL CC) 39 [.str s] bx = some (.ret (.bool (valB s)), bx) := by
  obtain ⟨b, h⟩ := call_names_Valid s hs
  exact callOp_of rfl (by simp only [SA, Bool.and_true]) h rfl
theorem ok_slices_Index_string_string : fnOK CC Tryd.f78 (Tryd.f78.body.getD .skip) = true := by kernel_rfl
theorem fat_slices_Index_string_string : CC.P.funcs[78]? = some Tryd.f78 := by kernel_rfl
theorem ok_names_Index : fnOK CC Tryd.f63 (Tryd.f63.body.getD .skip) = true := by kernel_rfl
theorem fat_names_Index : CC.P.funcs[63]? = some Tryd.f63 := by kernel_rfl
theorem ok_R20_member : fnOK CC Tryd.f42 (Tryd.f42.body.getD .skip) = true := by kernel_rfl
theorem fat_R20_member : CC.P.funcs[42]? = some Tryd.f42 := by kernel_rfl
theorem ok_value_members : fnOK CC Tryd.f40 (Tryd.f40.body.getD .skip) = true := by kernel_rfl
theorem fat_value_members : CC.P.funcs[40]? = some Tryd.f40 := by kernel_rfl
def strs (l : List (List UInt8)) : List PV := l.map PV.str
theorem strs_length (l : List (List UInt8)) : (strs l).length = l.length := by unfold strs; rw [List.length_map]
theorem strs_get {l : List (List UInt8)} {i : Nat} {s : List UInt8} (h : l[i]? = some s) : (strs l)[i]? = some (.str s) := by unfold strs; rw [List.getElem?_map, h]; rfl
theorem strs_all (l : List (List UInt8)) : ((strs l).all fun v => v.cells.length == 1) = true := by
  unfold strs
  rw [List.all_map]
  exact List.all_eq_true.2 fun _ _ => rfl
theorem strs_pure : ∀ l : List (List UInt8), pureL (strs l) = true
  | [] => rfl
  | t :: r => by
    have h := strs_pure r
    show ((PV.str t).pure && pureL (strs r)) = true
    rw [h]; rfl
/-- the first place of a name, from a number on; -1 if there is none -/
def ixF : Nat → List (List UInt8) → List UInt8 → Int
  | _, [], _ => -1
  | i, x :: r, s => if s == x then (i : Int) else ixF (i + 1) r s
def memB (l : List (List UInt8)) (s : List UInt8) : Bool := l.any (· == s)
theorem ixF_ge : ∀ (l : List (List UInt8)) (i : Nat) (s : List UInt8), ixF i l s = -1 ∨ (i : Int) ≤ ixF i l s
  | [], _, _ => .inl rfl
  | x :: r, i, s => by
    unfold ixF
    split
    · right; omega
    · rcases ixF_ge r (i + 1) s with h | h
      · left; exact h
      · right; omega
theorem ixF_mem : ∀ (l : List (List UInt8)) (i j : Nat) (s : List UInt8), l[j]? = some s → (decide (ixF i l s < ((i + j : Nat) : Int)) = memB (l.take j) s ∧ 0 ≤ ixF i l s)
  | [], _, _, _, h => by simp at h
  | x :: r, i, 0, s, h => by
    have hx : x = s := by simpa using h
    subst hx
    have h0 : ixF i (x :: r) x = (i : Int) := by unfold ixF; simp
    rw [h0]
    refine ⟨?_, by omega⟩
    show decide _ = false
    exact decide_eq_false (by omega)
  | x :: r, i, j + 1, s, h => by
    unfold ixF
    by_cases e : s = x
    · subst e
      rw [if_pos (by simp)]
      refine ⟨?_, by omega⟩
      rw [decide_eq_true (by omega)]
      unfold memB
      simp
    · rw [if_neg (by simpa using e)]
      have := ixF_mem r (i + 1) j s (by simpa using h)
      have e1 : (i + 1 + j : Nat) = i + (j + 1) := by omega
      rw [e1] at this
      refine ⟨?_, this.2⟩
      rw [this.1]
      unfold memB
      rw [List.take_succ_cons, List.any_cons]
      have : (x == s) = false := by simpa using fun h => e h.symm
      rw [this, Bool.false_or]
/-- what a search comes to -/
def PIx (v : Int) (r : Option (Ex × St)) : Prop := ∃ e', (v = -1 ∧ r = some (.exit 0, ⟨e', []⟩)) ∨ (r = some (.ret, ⟨e', []⟩) ∧ getT e' 4 = .int .i64 v)
theorem loop_Index (L : Code) (hL : L = fpart Tryd.f78 [1,0,1,0]) (l : List (List UInt8)) (hl : l.length ≤ 1000000) (s : List UInt8) : ∀ (k i : Nat) (e : List PV), i + k = l.length → getT e 0 = .sl (strs l) → getT e 1 = .str s → getT e 7 = .int .i64 l.length → getT e 8 = .int .i64 i →
    PIx (ixF i (l.drop i) s) (evL CC L ⟨e, []⟩) := by
  intro k
  induction k with
  | zero =>
    intro i e hk h0 h1 h7 h8
    rw [evL_at (fpart Tryd.f78 [1,0,1,0,0]) hL]
    have hi : ¬ ((i : Int) < (l.length : Int)) := by omega
    rw [List.drop_eq_nil_of_le (by omega)]
    unfold ixF
    obtain ⟨ev, eo, so, co, ⟨hev, hco⟩, R⟩ := RULES CC; rw [← hev]
    simp only [fpart, part', Tryd.f78, Option.getD]
    simp (maxSteps := 5000000) only [SA, SB, SD, R, guardAt, binP, intP, indexAddrP, elemsOf, readCells, lenP, lenAt, resultsP, resultP, oneOr, reduceCtorEq, reduceIte, Nat.reduceEqDiff, Nat.reduceAdd, Nat.zero_add, Nat.reduceMul, Nat.reduceLT, Nat.reduceLeDiff, Int.reduceLT, Int.reduceNeg, Int.reduceLE, appendP, appendAt, letGo, setLoc, locVal, Int.reduceToNat, boxCells, und, TG, SE, h7, h8, hi]
    exact ⟨_, .inl ⟨rfl, rfl⟩⟩
  | succ k ih =>
    intro i e hk h0 h1 h7 h8
    rw [evL_at (fpart Tryd.f78 [1,0,1,0,0]) hL]
    have hi : ((i : Int) < (l.length : Int)) := by omega
    have hi0 : ¬ ((i : Int) < 0) := by omega
    have hdr : l.drop i = (l[i]'(by omega)) :: l.drop (i + 1) := List.drop_eq_getElem_cons (by omega)
    have hx : l[i]? = some (l[i]'(by omega)) := by simp
    generalize l[i]'(by omega) = x at *
    have hx' := strs_get hx
    have hw2 := wrap_i64 (n := (i : Int) + 1) ⟨by omega, by omega⟩
    have key := fun e => ih (i + 1) e (by omega)
    have cast1 : ((i + 1 : Nat) : Int) = (i : Int) + 1 := by omega
    rw [cast1] at key
    have heq := strP_eql s x
    rw [hdr]
    unfold ixF
    generalize ixF (i + 1) (l.drop (i + 1)) s = v at *
    generalize strs l = xs at *
    cases hb : s == x with
    | true =>
      rw [hb] at heq
      rw [if_pos rfl]
      obtain ⟨ev, eo, so, co, ⟨hev, hco⟩, R⟩ := RULES CC; rw [← hev]
      simp only [fpart, part', Tryd.f78, Option.getD]
      simp (maxSteps := 5000000) only [SA, SB, SD, R, guardAt, binP, intP, indexAddrP, elemsOf, readCells, lenP, lenAt, resultsP, resultP, oneOr, reduceCtorEq, reduceIte, Nat.reduceEqDiff, Nat.reduceAdd, Nat.zero_add, Nat.reduceMul, Nat.reduceLT, Nat.reduceLeDiff, Int.reduceLT, Int.reduceNeg, Int.reduceLE, appendP, appendAt, letGo, setLoc, locVal, Int.reduceToNat, boxCells, und, TG, SE, h0, h1, h7, h8, hi, hi0, hx', heq, List.take_succ_cons, List.take_zero]
      exact ⟨_, .inr ⟨rfl, by simp (maxSteps := 5000000) only [SA, SB, SD, R, guardAt, binP, intP, indexAddrP, elemsOf, readCells, lenP, lenAt, resultsP, resultP, oneOr, reduceCtorEq, reduceIte, Nat.reduceEqDiff, Nat.reduceAdd, Nat.zero_add, Nat.reduceMul, Nat.reduceLT, Nat.reduceLeDiff, Int.reduceLT, Int.reduceNeg, Int.reduceLE, appendP, appendAt, letGo, setLoc, locVal, Int.reduceToNat, boxCells, und]⟩⟩
    | false =>
      rw [hb] at heq
      rw [if_neg (by simp)]
      obtain ⟨ev, eo, so, co, ⟨hev, hco⟩, R⟩ := RULES CC; rw [← hev]
      rw [← hev] at key
      simp only [fpart, part', Tryd.f78, Option.getD]
      simp (maxSteps := 5000000) only [SA, SB, SD, R, guardAt, binP, intP, indexAddrP, elemsOf, readCells, lenP, lenAt, resultsP, resultP, oneOr, reduceCtorEq, reduceIte, Nat.reduceEqDiff, Nat.reduceAdd, Nat.zero_add, Nat.reduceMul, Nat.reduceLT, Nat.reduceLeDiff, Int.reduceLT, Int.reduceNeg, Int.reduceLE, appendP, appendAt, letGo, setLoc, locVal, Int.reduceToNat, boxCells, und, TG, SE, h0, h1, h7, h8, hi, hi0, hx', hw2, heq, List.take_succ_cons, List.take_zero]
      refine key _ ?_ ?_ ?_ ?_
      · simp (maxSteps := 5000000) only [SA, SB, SD, R, guardAt, binP, intP, indexAddrP, elemsOf, readCells, lenP, lenAt, resultsP, resultP, oneOr, reduceCtorEq, reduceIte, Nat.reduceEqDiff, Nat.reduceAdd, Nat.zero_add, Nat.reduceMul, Nat.reduceLT, Nat.reduceLeDiff, Int.reduceLT, Int.reduceNeg, Int.reduceLE, appendP, appendAt, letGo, setLoc, locVal, Int.reduceToNat, boxCells, und, h0]
      · simp (maxSteps := 5000000) only [SA, SB, SD, R, guardAt, binP, intP, indexAddrP, elemsOf, readCells, lenP, lenAt, resultsP, resultP, oneOr, reduceCtorEq, reduceIte, Nat.reduceEqDiff, Nat.reduceAdd, Nat.zero_add, Nat.reduceMul, Nat.reduceLT, Nat.reduceLeDiff, Int.reduceLT, Int.reduceNeg, Int.reduceLE, appendP, appendAt, letGo, setLoc, locVal, Int.reduceToNat, boxCells, und, h1]
      · simp (maxSteps := 5000000) only [SA, SB, SD, R, guardAt, binP, intP, indexAddrP, elemsOf, readCells, lenP, lenAt, resultsP, resultP, oneOr, reduceCtorEq, reduceIte, Nat.reduceEqDiff, Nat.reduceAdd, Nat.zero_add, Nat.reduceMul, Nat.reduceLT, Nat.reduceLeDiff, Int.reduceLT, Int.reduceNeg, Int.reduceLE, appendP, appendAt, letGo, setLoc, locVal, Int.reduceToNat, boxCells, und, h7]
      · simp (maxSteps := 5000000) only [SA, SB, SD, R, guardAt, binP, intP, indexAddrP, elemsOf, readCells, lenP, lenAt, resultsP, resultP, oneOr, reduceCtorEq, reduceIte, Nat.reduceEqDiff, Nat.reduceAdd, Nat.zero_add, Nat.reduceMul, Nat.reduceLT, Nat.reduceLeDiff, Int.reduceLT, Int.reduceNeg, Int.reduceLE, appendP, appendAt, letGo, setLoc, locVal, Int.reduceToNat, boxCells, und]
theorem call_Index (l : List (List UInt8)) (hl : l.length ≤ 1000000) (s : List UInt8) : callL CC 78 [.sl (strs l), .str s] [] = some (.ret (.int .i64 (ixF 0 l s)), []) := by
  rw [callL_enter (fn := Tryd.f78) (c := Tryd.f78.body.getD .skip) rfl rfl fat_slices_Index_string_string rfl ok_slices_Index_string_string (Nat.le_of_ble_eq_true rfl)]
  have hloop := fun e => loop_Index _ rfl l hl s l.length 0 e (by omega)
  have hln := strs_length l
  rw [List.drop_zero] at hloop
  generalize ixF 0 l s = v at *
  generalize strs l = xs at *
  obtain ⟨ev, eo, so, co, ⟨hev, hco⟩, R⟩ := RULES CC; rw [← hev]
  rw [← hev] at hloop
  simp only [fpart, part', Tryd.f78, Option.getD] at hloop ⊢
  simp (maxSteps := 5000000) only [SA, SB, SD, R, guardAt, binP, intP, indexAddrP, elemsOf, readCells, lenP, lenAt, resultsP, resultP, oneOr, reduceCtorEq, reduceIte, Nat.reduceEqDiff, Nat.reduceAdd, Nat.zero_add, Nat.reduceMul, Nat.reduceLT, Nat.reduceLeDiff, Int.reduceLT, Int.reduceNeg, Int.reduceLE, appendP, appendAt, letGo, setLoc, locVal, Int.reduceToNat, boxCells, und, TG, SE, hln]
  generalize hE : ev _ _ = z
  have hP : PIx v z := by
    rw [← hE]
    refine hloop _ ?_ ?_ ?_ ?_
    · simp (maxSteps := 5000000) only [SA, SB, SD, R, guardAt, binP, intP, indexAddrP, elemsOf, readCells, lenP, lenAt, resultsP, resultP, oneOr, reduceCtorEq, reduceIte, Nat.reduceEqDiff, Nat.reduceAdd, Nat.zero_add, Nat.reduceMul, Nat.reduceLT, Nat.reduceLeDiff, Int.reduceLT, Int.reduceNeg, Int.reduceLE, appendP, appendAt, letGo, setLoc, locVal, Int.reduceToNat, boxCells, und]
    · simp (maxSteps := 5000000) only [SA, SB, SD, R, guardAt, binP, intP, indexAddrP, elemsOf, readCells, lenP, lenAt, resultsP, resultP, oneOr, reduceCtorEq, reduceIte, Nat.reduceEqDiff, Nat.reduceAdd, Nat.zero_add, Nat.reduceMul, Nat.reduceLT, Nat.reduceLeDiff, Int.reduceLT, Int.reduceNeg, Int.reduceLE, appendP, appendAt, letGo, setLoc, locVal, Int.reduceToNat, boxCells, und]
    · simp (maxSteps := 5000000) only [SA, SB, SD, R, guardAt, binP, intP, indexAddrP, elemsOf, readCells, lenP, lenAt, resultsP, resultP, oneOr, reduceCtorEq, reduceIte, Nat.reduceEqDiff, Nat.reduceAdd, Nat.zero_add, Nat.reduceMul, Nat.reduceLT, Nat.reduceLeDiff, Int.reduceLT, Int.reduceNeg, Int.reduceLE, appendP, appendAt, letGo, setLoc, locVal, Int.reduceToNat, boxCells, und]
    · simp (maxSteps := 5000000) only [SA, SB, SD, R, guardAt, binP, intP, indexAddrP, elemsOf, readCells, lenP, lenAt, resultsP, resultP, oneOr, reduceCtorEq, reduceIte, Nat.reduceEqDiff, Nat.reduceAdd, Nat.zero_add, Nat.reduceMul, Nat.reduceLT, Nat.reduceLeDiff, Int.reduceLT, Int.reduceNeg, Int.reduceLE, appendP, appendAt, letGo, setLoc, locVal, Int.reduceToNat, boxCells, und]; rfl
  obtain ⟨e', ⟨hv, he⟩ | ⟨he, g4⟩⟩ := hP
  · subst he
    subst hv
    simp (maxSteps := 5000000) only [SA, SB, SD, R, guardAt, binP, intP, indexAddrP, elemsOf, readCells, lenP, lenAt, resultsP, resultP, oneOr, reduceCtorEq, reduceIte, Nat.reduceEqDiff, Nat.reduceAdd, Nat.zero_add, Nat.reduceMul, Nat.reduceLT, Nat.reduceLeDiff, Int.reduceLT, Int.reduceNeg, Int.reduceLE, appendP, appendAt, letGo, setLoc, locVal, Int.reduceToNat, boxCells, und, TG, SE]
  · subst he
    simp (maxSteps := 5000000) only [SA, SB, SD, R, guardAt, binP, intP, indexAddrP, elemsOf, readCells, lenP, lenAt, resultsP, resultP, oneOr, reduceCtorEq, reduceIte, Nat.reduceEqDiff, Nat.reduceAdd, Nat.zero_add, Nat.reduceMul, Nat.reduceLT, Nat.reduceLeDiff, Int.reduceLT, Int.reduceNeg, Int.reduceLE, appendP, appendAt, letGo, setLoc, locVal, Int.reduceToNat, boxCells, und, TG, SE, g4]
theorem op_Index (l : List (List UInt8)) (hl : l.length ≤ 1000000) (s : List UInt8) (bx) : callOp CC (callL CC) 78 [.sl (strs l), .str s] bx = some (.ret (.int .i64 (ixF 0 l s)), bx) := callOp_of rfl (by simp only [SA, SE, strs_pure, Bool.and_true]) (call_Index l hl s) rfl
theorem call_names_Index (l : List (List UInt8)) (hl : l.length ≤ 1000000) (s : List UInt8) : callL CC 63 [.sl (strs l), .str s] [] = some (.ret (.int .i64 (ixF 0 l s)), []) := by
  rw [callL_enter (fn := Tryd.f63) (c := Tryd.f63.body.getD .skip) rfl rfl fat_names_Index rfl ok_names_Index (Nat.le_of_ble_eq_true rfl)]
  have h := op_Index l hl s
  generalize ixF 0 l s = v at *
  generalize strs l = xs at *
  obtain ⟨ev, eo, so, co, ⟨hev, hco⟩, R⟩ := RULES CC; rw [← hev]
  rw [← hco] at h
  simp only [fpart, part', Tryd.f63, Option.getD]
  simp (maxSteps := 5000000) only [SA, SB, SD, R, guardAt, binP, intP, indexAddrP, elemsOf, readCells, lenP, lenAt, resultsP, resultP, oneOr, reduceCtorEq, reduceIte, Nat.reduceEqDiff, Nat.reduceAdd, Nat.zero_add, Nat.reduceMul, Nat.reduceLT, Nat.reduceLeDiff, Int.reduceLT, Int.reduceNeg, Int.reduceLE, appendP, appendAt, letGo, setLoc, locVal, Int.reduceToNat, boxCells, und, TG, SE, h]
theorem op_names_Index (l : List (List UInt8)) (hl : l.length ≤ 1000000) (s : List UInt8) (bx) : callOp CC (callL CC) 63 [.sl (strs l), .str s] bx = some (.ret (.int .i64 (ixF 0 l s)), bx) := callOp_of rfl (by simp only [SA, SE, strs_pure, Bool.and_true]) (call_names_Index l hl s) rfl
def PMe (v : Bool) (r : Option (Ex × St)) : Prop := ∃ e', (v = false ∧ r = some (.exit 0, ⟨e', []⟩)) ∨ (v = true ∧ r = some (.ret, ⟨e', []⟩) ∧ getT e' 4 = .bool true)
theorem loop_member (L : Code) (hL : L = fpart Tryd.f42 [1,0,1,0]) (l : List (List UInt8)) (hl : l.length ≤ 1000000) (s : List UInt8) : ∀ (k i : Nat) (e : List PV), i + k = l.length → getT e 0 = .sl (strs l) → getT e 1 = .str s → getT e 5 = .int .i64 i →
    PMe (memB (l.drop i) s) (evL CC L ⟨e, []⟩) := by
  intro k
  induction k with
  | zero =>
    intro i e hk h0 h1 h5
    rw [evL_at (fpart Tryd.f42 [1,0,1,0,0]) hL]
    have hi : ¬ ((i : Int) < (l.length : Int)) := by omega
    rw [List.drop_eq_nil_of_le (by omega)]
    have hln := strs_length l
    generalize strs l = xs at *
    obtain ⟨ev, eo, so, co, ⟨hev, hco⟩, R⟩ := RULES CC; rw [← hev]
    simp only [fpart, part', Tryd.f42, Option.getD]
    simp (maxSteps := 5000000) only [SA, SB, SD, R, guardAt, binP, intP, indexAddrP, elemsOf, readCells, lenP, lenAt, resultsP, resultP, oneOr, reduceCtorEq, reduceIte, Nat.reduceEqDiff, Nat.reduceAdd, Nat.zero_add, Nat.reduceMul, Nat.reduceLT, Nat.reduceLeDiff, Int.reduceLT, Int.reduceNeg, Int.reduceLE, appendP, appendAt, letGo, setLoc, locVal, Int.reduceToNat, boxCells, und, TG, SE, h0, h5, hln, hi]
    exact ⟨_, .inl ⟨rfl, rfl⟩⟩
  | succ k ih =>
    intro i e hk h0 h1 h5
    rw [evL_at (fpart Tryd.f42 [1,0,1,0,0]) hL]
    have hi : ((i : Int) < (l.length : Int)) := by omega
    have hi0 : ¬ ((i : Int) < 0) := by omega
    have hdr : l.drop i = (l[i]'(by omega)) :: l.drop (i + 1) := List.drop_eq_getElem_cons (by omega)
    have hx : l[i]? = some (l[i]'(by omega)) := by simp
    generalize l[i]'(by omega) = x at *
    have hx' := strs_get hx
    have hln := strs_length l
    have hw2 := wrap_i64 (n := (i : Int) + 1) ⟨by omega, by omega⟩
    have key := fun e => ih (i + 1) e (by omega)
    have cast1 : ((i + 1 : Nat) : Int) = (i : Int) + 1 := by omega
    rw [cast1] at key
    have heq := strP_eql x s
    rw [hdr, show memB (x :: l.drop (i + 1)) s = ((x == s) || memB (l.drop (i + 1)) s) from rfl]
    generalize memB (l.drop (i + 1)) s = v at *
    generalize strs l = xs at *
    cases hb : x == s with
    | true =>
      rw [hb] at heq
      rw [Bool.true_or]
      obtain ⟨ev, eo, so, co, ⟨hev, hco⟩, R⟩ := RULES CC; rw [← hev]
      simp only [fpart, part', Tryd.f42, Option.getD]
      simp (maxSteps := 5000000) only [SA, SB, SD, R, guardAt, binP, intP, indexAddrP, elemsOf, readCells, lenP, lenAt, resultsP, resultP, oneOr, reduceCtorEq, reduceIte, Nat.reduceEqDiff, Nat.reduceAdd, Nat.zero_add, Nat.reduceMul, Nat.reduceLT, Nat.reduceLeDiff, Int.reduceLT, Int.reduceNeg, Int.reduceLE, appendP, appendAt, letGo, setLoc, locVal, Int.reduceToNat, boxCells, und, TG, SE, h0, h1, h5, hln, hi, hi0, hx', heq, List.take_succ_cons, List.take_zero]
      exact ⟨_, .inr ⟨rfl, rfl, by simp (maxSteps := 5000000) only [SA, SB, SD, R, guardAt, binP, intP, indexAddrP, elemsOf, readCells, lenP, lenAt, resultsP, resultP, oneOr, reduceCtorEq, reduceIte, Nat.reduceEqDiff, Nat.reduceAdd, Nat.zero_add, Nat.reduceMul, Nat.reduceLT, Nat.reduceLeDiff, Int.reduceLT, Int.reduceNeg, Int.reduceLE, appendP, appendAt, letGo, setLoc, locVal, Int.reduceToNat, boxCells, und]⟩⟩
    | false =>
      rw [hb] at heq
      rw [Bool.false_or]
      obtain ⟨ev, eo, so, co, ⟨hev, hco⟩, R⟩ := RULES CC; rw [← hev]
      rw [← hev] at key
      simp only [fpart, part', Tryd.f42, Option.getD]
      simp (maxSteps := 5000000) only [SA, SB, SD, R, guardAt, binP, intP, indexAddrP, elemsOf, readCells, lenP, lenAt, resultsP, resultP, oneOr, reduceCtorEq, reduceIte, Nat.reduceEqDiff, Nat.reduceAdd, Nat.zero_add, Nat.reduceMul, Nat.reduceLT, Nat.reduceLeDiff, Int.reduceLT, Int.reduceNeg, Int.reduceLE, appendP, appendAt, letGo, setLoc, locVal, Int.reduceToNat, boxCells, und, TG, SE, h0, h1, h5, hln, hi, hi0, hx', hw2, heq, List.take_succ_cons, List.take_zero]
      refine key _ ?_ ?_ ?_
      · simp (maxSteps := 5000000) only [SA, SB, SD, R, guardAt, binP, intP, indexAddrP, elemsOf, readCells, lenP, lenAt, resultsP, resultP, oneOr, reduceCtorEq, reduceIte, Nat.reduceEqDiff, Nat.reduceAdd, Nat.zero_add, Nat.reduceMul, Nat.reduceLT, Nat.reduceLeDiff, Int.reduceLT, Int.reduceNeg, Int.reduceLE, appendP, appendAt, letGo, setLoc, locVal, Int.reduceToNat, boxCells, und, h0]
      · simp (maxSteps := 5000000) only [SA, SB, SD, R, guardAt, binP, intP, indexAddrP, elemsOf, readCells, lenP, lenAt, resultsP, resultP, oneOr, reduceCtorEq, reduceIte, Nat.reduceEqDiff, Nat.reduceAdd, Nat.zero_add, Nat.reduceMul, Nat.reduceLT, Nat.reduceLeDiff, Int.reduceLT, Int.reduceNeg, Int.reduceLE, appendP, appendAt, letGo, setLoc, locVal, Int.reduceToNat, boxCells, und, h1]
      · simp (maxSteps := 5000000) only [SA, SB, SD, R, guardAt, binP, intP, indexAddrP, elemsOf, readCells, lenP, lenAt, resultsP, resultP, oneOr, reduceCtorEq, reduceIte, Nat.reduceEqDiff, Nat.reduceAdd, Nat.zero_add, Nat.reduceMul, Nat.reduceLT, Nat.reduceLeDiff, Int.reduceLT, Int.reduceNeg, Int.reduceLE, appendP, appendAt, letGo, setLoc, locVal, Int.reduceToNat, boxCells, und]
theorem call_R20_member (l : List (List UInt8)) (hl : l.length ≤ 1000000) (s : List UInt8) : callL CC 42 [.sl (strs l), .str s] [] = some (.ret (.bool (memB l s)), []) := by
  rw [callL_enter (fn := Tryd.f42) (c := Tryd.f42.body.getD .skip) rfl rfl fat_R20_member rfl ok_R20_member (Nat.le_of_ble_eq_true rfl)]
  have hloop := fun e => loop_member _ rfl l hl s l.length 0 e (by omega)
  rw [List.drop_zero] at hloop
  generalize memB l s = v at *
  generalize strs l = xs at *
  obtain ⟨ev, eo, so, co, ⟨hev, hco⟩, R⟩ := RULES CC; rw [← hev]
  rw [← hev] at hloop
  simp only [fpart, part', Tryd.f42, Option.getD] at hloop ⊢
  simp (maxSteps := 5000000) only [SA, SB, SD, R, guardAt, binP, intP, indexAddrP, elemsOf, readCells, lenP, lenAt, resultsP, resultP, oneOr, reduceCtorEq, reduceIte, Nat.reduceEqDiff, Nat.reduceAdd, Nat.zero_add, Nat.reduceMul, Nat.reduceLT, Nat.reduceLeDiff, Int.reduceLT, Int.reduceNeg, Int.reduceLE, appendP, appendAt, letGo, setLoc, locVal, Int.reduceToNat, boxCells, und, TG, SE]
  generalize hE : ev _ _ = z
  have hP : PMe v z := by
    rw [← hE]
    refine hloop _ ?_ ?_ ?_
    · simp (maxSteps := 5000000) only [SA, SB, SD, R, guardAt, binP, intP, indexAddrP, elemsOf, readCells, lenP, lenAt, resultsP, resultP, oneOr, reduceCtorEq, reduceIte, Nat.reduceEqDiff, Nat.reduceAdd, Nat.zero_add, Nat.reduceMul, Nat.reduceLT, Nat.reduceLeDiff, Int.reduceLT, Int.reduceNeg, Int.reduceLE, appendP, appendAt, letGo, setLoc, locVal, Int.reduceToNat, boxCells, und]
    · simp (maxSteps := 5000000) only [SA, SB, SD, R, guardAt, binP, intP, indexAddrP, elemsOf, readCells, lenP, lenAt, resultsP, resultP, oneOr, reduceCtorEq, reduceIte, Nat.reduceEqDiff, Nat.reduceAdd, Nat.zero_add, Nat.reduceMul, Nat.reduceLT, Nat.reduceLeDiff, Int.reduceLT, Int.reduceNeg, Int.reduceLE, appendP, appendAt, letGo, setLoc, locVal, Int.reduceToNat, boxCells, und]
    · simp (maxSteps := 5000000) only [SA, SB, SD, R, guardAt, binP, intP, indexAddrP, elemsOf, readCells, lenP, lenAt, resultsP, resultP, oneOr, reduceCtorEq, reduceIte, Nat.reduceEqDiff, Nat.reduceAdd, Nat.zero_add, Nat.reduceMul, Nat.reduceLT, Nat.reduceLeDiff, Int.reduceLT, Int.reduceNeg, Int.reduceLE, appendP, appendAt, letGo, setLoc, locVal, Int.reduceToNat, boxCells, und]; rfl
  obtain ⟨e', ⟨hv, he⟩ | ⟨hv, he, g4⟩⟩ := hP
  · subst he
    subst hv
    simp (maxSteps := 5000000) only [SA, SB, SD, R, guardAt, binP, intP, indexAddrP, elemsOf, readCells, lenP, lenAt, resultsP, resultP, oneOr, reduceCtorEq, reduceIte, Nat.reduceEqDiff, Nat.reduceAdd, Nat.zero_add, Nat.reduceMul, Nat.reduceLT, Nat.reduceLeDiff, Int.reduceLT, Int.reduceNeg, Int.reduceLE, appendP, appendAt, letGo, setLoc, locVal, Int.reduceToNat, boxCells, und, TG, SE]
  · subst he
    subst hv
    simp (maxSteps := 5000000) only [SA, SB, SD, R, guardAt, binP, intP, indexAddrP, elemsOf, readCells, lenP, lenAt, resultsP, resultP, oneOr, reduceCtorEq, reduceIte, Nat.reduceEqDiff, Nat.reduceAdd, Nat.zero_add, Nat.reduceMul, Nat.reduceLT, Nat.reduceLeDiff, Int.reduceLT, Int.reduceNeg, Int.reduceLE, appendP, appendAt, letGo, setLoc, locVal, Int.reduceToNat, boxCells, und, TG, SE, g4]
theorem op_R20_member (l : List (List UInt8)) (hl : l.length ≤ 1000000) (s : List UInt8) (bx) : callOp CC (callL CC) 42 [.sl (strs l), .str s] bx = some (.ret (.bool (memB l s)), bx) := callOp_of rfl (by simp only [SA, SE, strs_pure, Bool.and_true]) (call_R20_member l hl s) rfl
/-- what is said of the members from a place on -/
def mbF (l : List (List UInt8)) : Nat → Nat → Int
  | 0, _ => 0
  | k + 1, i => match l[i]? with
    | none => 0
    | some s => if valB s = false then 10 else if memB (l.take i) s = true then 9 else mbF l k (i + 1)
/-- what is said of the members of an enumeration -/
def mbV (l : List (List UInt8)) : Int := if l.length < 1 ∨ 64 < l.length then 3 else mbF l l.length 0
def PMb (v : Int) (r : Option (Ex × St)) : Prop := ∃ e' bx', (v = 0 ∧ r = some (.exit 0, ⟨e', bx'⟩)) ∨ (r = some (.ret, ⟨e', bx'⟩) ∧ getT e' 2 = .int .i64 v)
theorem loop_members (L : Code) (hL : L = fpart Tryd.f40 [1,1,0,1,0]) (l : List (List UInt8)) (hl : l.length ≤ 1000000) (hs : ∀ s ∈ l, s.length ≤ 1000) : ∀ (k i : Nat) (e : List PV) (bx : List PBox), i + k = l.length → getT e 0 = .sl (strs l) → getT e 13 = .sl (strs l) → getT e 14 = .int .i64 l.length → getT e 15 = .int .i64 i →
    PMb (mbF l k i) (evL CC L ⟨e, bx⟩) := by
  intro k
  induction k with
  | zero =>
    intro i e bx hk h0 h13 h14 h15
    rw [evL_at (fpart Tryd.f40 [1,1,0,1,0,0]) hL]
    have hi : ¬ ((i : Int) < (l.length : Int)) := by omega
    unfold mbF
    obtain ⟨ev, eo, so, co, ⟨hev, hco⟩, R⟩ := RULES CC; rw [← hev]
    simp only [fpart, part', Tryd.f40, Option.getD]
    simp (maxSteps := 5000000) only [SA, SB, SD, R, guardAt, binP, intP, indexAddrP, elemsOf, readCells, lenP, lenAt, resultsP, resultP, oneOr, reduceCtorEq, reduceIte, Nat.reduceEqDiff, Nat.reduceAdd, Nat.zero_add, Nat.reduceMul, Nat.reduceLT, Nat.reduceLeDiff, Int.reduceLT, Int.reduceNeg, Int.reduceLE, appendP, appendAt, letGo, setLoc, locVal, Int.reduceToNat, boxCells, und, TG, SE, h14, h15, hi]
    exact ⟨_, _, .inl ⟨rfl, rfl⟩⟩
  | succ k ih =>
    intro i e bx hk h0 h13 h14 h15
    rw [evL_at (fpart Tryd.f40 [1,1,0,1,0,0]) hL]
    have hi : ((i : Int) < (l.length : Int)) := by omega
    have hi0 : ¬ ((i : Int) < 0) := by omega
    have hx : l[i]? = some (l[i]'(by omega)) := by simp
    have hm : l[i]'(by omega) ∈ l := List.getElem_mem _
    generalize l[i]'(by omega) = x at *
    have hx' := strs_get hx
    have hw2 := wrap_i64 (n := (i : Int) + 1) ⟨by omega, by omega⟩
    have key := fun e bx => ih (i + 1) e bx (by omega)
    have cast1 : ((i + 1 : Nat) : Int) = (i : Int) + 1 := by omega
    rw [cast1] at key
    have hv := op_names_Valid x (hs x hm)
    have hix := op_names_Index l hl x
    have hmm := (ixF_mem l 0 i x hx).1
    rw [Nat.zero_add] at hmm
    unfold mbF
    simp only [hx]
    generalize mbF l k (i + 1) = v at *
    generalize ixF 0 l x = j at *
    generalize memB (l.take i) x = mb at *
    generalize strs l = xs at *
    cases hb : valB x with
    | false =>
      rw [hb] at hv
      rw [if_pos rfl]
      obtain ⟨ev, eo, so, co, ⟨hev, hco⟩, R⟩ := RULES CC; rw [← hev]
      rw [← hco] at hv
      simp only [fpart, part', Tryd.f40, Option.getD]
      simp (maxSteps := 5000000) only [SA, SB, SD, R, guardAt, binP, intP, indexAddrP, elemsOf, readCells, lenP, lenAt, resultsP, resultP, oneOr, reduceCtorEq, reduceIte, Nat.reduceEqDiff, Nat.reduceAdd, Nat.zero_add, Nat.reduceMul, Nat.reduceLT, Nat.reduceLeDiff, Int.reduceLT, Int.reduceNeg, Int.reduceLE, appendP, appendAt, letGo, setLoc, locVal, Int.reduceToNat, boxCells, und, TG, SE, unP, h0, h13, h14, h15, hi, hi0, hx', hv, List.take_succ_cons, List.take_zero, Bool.not_false]
      exact ⟨_, _, .inr ⟨rfl, by simp (maxSteps := 5000000) only [SA, SB, SD, R, guardAt, binP, intP, indexAddrP, elemsOf, readCells, lenP, lenAt, resultsP, resultP, oneOr, reduceCtorEq, reduceIte, Nat.reduceEqDiff, Nat.reduceAdd, Nat.zero_add, Nat.reduceMul, Nat.reduceLT, Nat.reduceLeDiff, Int.reduceLT, Int.reduceNeg, Int.reduceLE, appendP, appendAt, letGo, setLoc, locVal, Int.reduceToNat, boxCells, und]⟩⟩
    | true =>
      rw [hb] at hv
      rw [if_neg (by simp)]
      cases mb with
      | true =>
        have hlt := of_decide_eq_true hmm
        rw [if_pos rfl]
        obtain ⟨ev, eo, so, co, ⟨hev, hco⟩, R⟩ := RULES CC; rw [← hev]
        rw [← hco] at hv hix
        simp only [fpart, part', Tryd.f40, Option.getD]
        simp (maxSteps := 5000000) only [SA, SB, SD, R, guardAt, binP, intP, indexAddrP, elemsOf, readCells, lenP, lenAt, resultsP, resultP, oneOr, reduceCtorEq, reduceIte, Nat.reduceEqDiff, Nat.reduceAdd, Nat.zero_add, Nat.reduceMul, Nat.reduceLT, Nat.reduceLeDiff, Int.reduceLT, Int.reduceNeg, Int.reduceLE, appendP, appendAt, letGo, setLoc, locVal, Int.reduceToNat, boxCells, und, TG, SE, unP, h0, h13, h14, h15, hi, hi0, hx', hv, hix, hlt, List.take_succ_cons, List.take_zero, Bool.not_true]
        exact ⟨_, _, .inr ⟨rfl, by simp (maxSteps := 5000000) only [SA, SB, SD, R, guardAt, binP, intP, indexAddrP, elemsOf, readCells, lenP, lenAt, resultsP, resultP, oneOr, reduceCtorEq, reduceIte, Nat.reduceEqDiff, Nat.reduceAdd, Nat.zero_add, Nat.reduceMul, Nat.reduceLT, Nat.reduceLeDiff, Int.reduceLT, Int.reduceNeg, Int.reduceLE, appendP, appendAt, letGo, setLoc, locVal, Int.reduceToNat, boxCells, und]⟩⟩
      | false =>
        have hlt := of_decide_eq_false hmm
        rw [if_neg (by simp)]
        obtain ⟨ev, eo, so, co, ⟨hev, hco⟩, R⟩ := RULES CC; rw [← hev]
        rw [← hev] at key
        rw [← hco] at hv hix
        simp only [fpart, part', Tryd.f40, Option.getD]
        simp (maxSteps := 5000000) only [SA, SB, SD, R, guardAt, binP, intP, indexAddrP, elemsOf, readCells, lenP, lenAt, resultsP, resultP, oneOr, reduceCtorEq, reduceIte, Nat.reduceEqDiff, Nat.reduceAdd, Nat.zero_add, Nat.reduceMul, Nat.reduceLT, Nat.reduceLeDiff, Int.reduceLT, Int.reduceNeg, Int.reduceLE, appendP, appendAt, letGo, setLoc, locVal, Int.reduceToNat, boxCells, und, TG, SE, unP, h0, h13, h14, h15, hi, hi0, hx', hv, hix, hlt, hw2, List.take_succ_cons, List.take_zero, Bool.not_true]
        refine key _ _ ?_ ?_ ?_ ?_
        · simp (maxSteps := 5000000) only [SA, SB, SD, R, guardAt, binP, intP, indexAddrP, elemsOf, readCells, lenP, lenAt, resultsP, resultP, oneOr, reduceCtorEq, reduceIte, Nat.reduceEqDiff, Nat.reduceAdd, Nat.zero_add, Nat.reduceMul, Nat.reduceLT, Nat.reduceLeDiff, Int.reduceLT, Int.reduceNeg, Int.reduceLE, appendP, appendAt, letGo, setLoc, locVal, Int.reduceToNat, boxCells, und, h0]
        · simp (maxSteps := 5000000) only [SA, SB, SD, R, guardAt, binP, intP, indexAddrP, elemsOf, readCells, lenP, lenAt, resultsP, resultP, oneOr, reduceCtorEq, reduceIte, Nat.reduceEqDiff, Nat.reduceAdd, Nat.zero_add, Nat.reduceMul, Nat.reduceLT, Nat.reduceLeDiff, Int.reduceLT, Int.reduceNeg, Int.reduceLE, appendP, appendAt, letGo, setLoc, locVal, Int.reduceToNat, boxCells, und, h13]
        · simp (maxSteps := 5000000) only [SA, SB, SD, R, guardAt, binP, intP, indexAddrP, elemsOf, readCells, lenP, lenAt, resultsP, resultP, oneOr, reduceCtorEq, reduceIte, Nat.reduceEqDiff, Nat.reduceAdd, Nat.zero_add, Nat.reduceMul, Nat.reduceLT, Nat.reduceLeDiff, Int.reduceLT, Int.reduceNeg, Int.reduceLE, appendP, appendAt, letGo, setLoc, locVal, Int.reduceToNat, boxCells, und, h14]
        · simp (maxSteps := 5000000) only [SA, SB, SD, R, guardAt, binP, intP, indexAddrP, elemsOf, readCells, lenP, lenAt, resultsP, resultP, oneOr, reduceCtorEq, reduceIte, Nat.reduceEqDiff, Nat.reduceAdd, Nat.zero_add, Nat.reduceMul, Nat.reduceLT, Nat.reduceLeDiff, Int.reduceLT, Int.reduceNeg, Int.reduceLE, appendP, appendAt, letGo, setLoc, locVal, Int.reduceToNat, boxCells, und]
theorem call_value_members (l : List (List UInt8)) (hl : l.length ≤ 1000000) (hs : ∀ s ∈ l, s.length ≤ 1000) : ∃ bx, callL CC 40 [.sl (strs l)] [] = some (.ret (.int .i64 (mbV l)), bx) := by
  rw [callL_enter (fn := Tryd.f40) (c := Tryd.f40.body.getD .skip) rfl rfl fat_value_members rfl ok_value_members (Nat.le_of_ble_eq_true rfl)]
  have hln := strs_length l
  have hloop := fun e bx => loop_members _ rfl l hl hs l.length 0 e bx (by omega)
  unfold mbV
  by_cases c1 : (l.length : Int) < 1
  · rw [if_pos (by omega)]
    generalize strs l = xs at *
    obtain ⟨ev, eo, so, co, ⟨hev, hco⟩, R⟩ := RULES CC; rw [← hev]
    simp only [fpart, part', Tryd.f40, Option.getD]
    simp (maxSteps := 5000000) only [SA, SB, SD, R, guardAt, binP, intP, indexAddrP, elemsOf, readCells, lenP, lenAt, resultsP, resultP, oneOr, reduceCtorEq, reduceIte, Nat.reduceEqDiff, Nat.reduceAdd, Nat.zero_add, Nat.reduceMul, Nat.reduceLT, Nat.reduceLeDiff, Int.reduceLT, Int.reduceNeg, Int.reduceLE, appendP, appendAt, letGo, setLoc, locVal, Int.reduceToNat, boxCells, und, TG, SE, hln, c1]
    exact ⟨_, rfl⟩
  · by_cases c2 : (l.length : Int) > 64
    · rw [if_pos (by omega)]
      generalize strs l = xs at *
      obtain ⟨ev, eo, so, co, ⟨hev, hco⟩, R⟩ := RULES CC; rw [← hev]
      simp only [fpart, part', Tryd.f40, Option.getD]
      simp (maxSteps := 5000000) only [SA, SB, SD, R, guardAt, binP, intP, indexAddrP, elemsOf, readCells, lenP, lenAt, resultsP, resultP, oneOr, reduceCtorEq, reduceIte, Nat.reduceEqDiff, Nat.reduceAdd, Nat.zero_add, Nat.reduceMul, Nat.reduceLT, Nat.reduceLeDiff, Int.reduceLT, Int.reduceNeg, Int.reduceLE, appendP, appendAt, letGo, setLoc, locVal, Int.reduceToNat, boxCells, und, TG, SE, hln, c1, c2]
      exact ⟨_, rfl⟩
    · rw [if_neg (by omega)]
      generalize mbF l l.length 0 = v at *
      generalize strs l = xs at *
      obtain ⟨ev, eo, so, co, ⟨hev, hco⟩, R⟩ := RULES CC; rw [← hev]
      rw [← hev] at hloop
      simp only [fpart, part', Tryd.f40, Option.getD] at hloop ⊢
      simp (maxSteps := 5000000) only [SA, SB, SD, R, guardAt, binP, intP, indexAddrP, elemsOf, readCells, lenP, lenAt, resultsP, resultP, oneOr, reduceCtorEq, reduceIte, Nat.reduceEqDiff, Nat.reduceAdd, Nat.zero_add, Nat.reduceMul, Nat.reduceLT, Nat.reduceLeDiff, Int.reduceLT, Int.reduceNeg, Int.reduceLE, appendP, appendAt, letGo, setLoc, locVal, Int.reduceToNat, boxCells, und, TG, SE, hln, c1, c2]
      generalize hE : ev _ _ = z
      have hP : PMb v z := by
        rw [← hE]
        refine hloop _ _ ?_ ?_ ?_ ?_
        · simp (maxSteps := 5000000) only [SA, SB, SD, R, guardAt, binP, intP, indexAddrP, elemsOf, readCells, lenP, lenAt, resultsP, resultP, oneOr, reduceCtorEq, reduceIte, Nat.reduceEqDiff, Nat.reduceAdd, Nat.zero_add, Nat.reduceMul, Nat.reduceLT, Nat.reduceLeDiff, Int.reduceLT, Int.reduceNeg, Int.reduceLE, appendP, appendAt, letGo, setLoc, locVal, Int.reduceToNat, boxCells, und]
        · simp (maxSteps := 5000000) only [SA, SB, SD, R, guardAt, binP, intP, indexAddrP, elemsOf, readCells, lenP, lenAt, resultsP, resultP, oneOr, reduceCtorEq, reduceIte, Nat.reduceEqDiff, Nat.reduceAdd, Nat.zero_add, Nat.reduceMul, Nat.reduceLT, Nat.reduceLeDiff, Int.reduceLT, Int.reduceNeg, Int.reduceLE, appendP, appendAt, letGo, setLoc, locVal, Int.reduceToNat, boxCells, und]
        · simp (maxSteps := 5000000) only [SA, SB, SD, R, guardAt, binP, intP, indexAddrP, elemsOf, readCells, lenP, lenAt, resultsP, resultP, oneOr, reduceCtorEq, reduceIte, Nat.reduceEqDiff, Nat.reduceAdd, Nat.zero_add, Nat.reduceMul, Nat.reduceLT, Nat.reduceLeDiff, Int.reduceLT, Int.reduceNeg, Int.reduceLE, appendP, appendAt, letGo, setLoc, locVal, Int.reduceToNat, boxCells, und]
        · simp (maxSteps := 5000000) only [SA, SB, SD, R, guardAt, binP, intP, indexAddrP, elemsOf, readCells, lenP, lenAt, resultsP, resultP, oneOr, reduceCtorEq, reduceIte, Nat.reduceEqDiff, Nat.reduceAdd, Nat.zero_add, Nat.reduceMul, Nat.reduceLT, Nat.reduceLeDiff, Int.reduceLT, Int.reduceNeg, Int.reduceLE, appendP, appendAt, letGo, setLoc, locVal, Int.reduceToNat, boxCells, und]; rfl
      obtain ⟨e', bx', ⟨hv, he⟩ | ⟨he, g2⟩⟩ := hP
      · subst he
        subst hv
        simp (maxSteps := 5000000) only [SA, SB, SD, R, guardAt, binP, intP, indexAddrP, elemsOf, readCells, lenP, lenAt, resultsP, resultP, oneOr, reduceCtorEq, reduceIte, Nat.reduceEqDiff, Nat.reduceAdd, Nat.zero_add, Nat.reduceMul, Nat.reduceLT, Nat.reduceLeDiff, Int.reduceLT, Int.reduceNeg, Int.reduceLE, appendP, appendAt, letGo, setLoc, locVal, Int.reduceToNat, boxCells, und, TG, SE]
        exact ⟨_, rfl⟩
      · subst he
        simp (maxSteps := 5000000) only [SA, SB, SD, R, guardAt, binP, intP, indexAddrP, elemsOf, readCells, lenP, lenAt, resultsP, resultP, oneOr, reduceCtorEq, reduceIte, Nat.reduceEqDiff, Nat.reduceAdd, Nat.zero_add, Nat.reduceMul, Nat.reduceLT, Nat.reduceLeDiff, Int.reduceLT, Int.reduceNeg, Int.reduceLE, appendP, appendAt, letGo, setLoc, locVal, Int.reduceToNat, boxCells, und, TG, SE, g2]
        exact ⟨_, rfl⟩
theorem op_value_members (l : List (List UInt8)) (hl : l.length ≤ 1000000) (hs : ∀ s ∈ l, s.length ≤ 1000) (bx) : callOp CC (callL CC) 40 [.sl (strs l)] bx = some (.ret (.int .i64 (mbV l)), bx) := by
  obtain ⟨b, h⟩ := call_value_members l hl hs
  exact callOp_of rfl (by simp only [SA, SE, strs_pure, Bool.and_true]) h rfl
theorem ok_L20_few : fnOK CC Tryd.f11 (Tryd.f11.body.getD .skip) = true := by kernel_rfl
theorem fat_L20_few : CC.P.funcs[11]? = some Tryd.f11 := by kernel_rfl
theorem ok_value_Def : fnOK CC Tryd.f15 (Tryd.f15.body.getD .skip) = true := by kernel_rfl
theorem fat_value_Def : CC.P.funcs[15]? = some Tryd.f15 := by kernel_rfl
/-- an attribute: name, kind, bounds, members, and two marks -/
structure At where
  nm : List UInt8
  kd : Int
  mn : Int
  mx : Int
  en : List (List UInt8)
  wr : Bool
  sf : Bool
def attV (a : At) : PV := .agg [.str a.nm, .int .i64 a.kd, .int .i64 a.mn, .int .i64 a.mx, .sl (strs a.en), .bool a.wr, .bool a.sf]
def okAt (a : At) : Prop := inI a.kd ∧ inI a.mn ∧ inI a.mx ∧ a.nm.length ≤ maxLen ∧ a.en.length ≤ maxLen
theorem hasV_att {p : PV} (h : HasV Tryd.prog 24 p) : ∃ a : At, p = attV a ∧ okAt a := by
  have ht : Tryd.prog.underlying 24 = some (.struct ((match Tryd.prog.underlying 24 with | some (.struct f) => f | _ => #[]))) := by kernel_rfl
  have hl : ((match Tryd.prog.underlying 24 with | some (.struct f) => f | _ => #[]) : Array Field).toList.map (fun f => (f.type, f.offset)) = [(9, 0), (3, 1), (3, 2), (3, 3), (22, 4), (4, 5), (4, 6)] := by kernel_rfl
  have c0 : Tryd.prog.cellsOf 24 = 7 := by kernel_rfl
  have c1 : Tryd.prog.cellsOf 3 = 1 := by kernel_rfl
  have c2 : Tryd.prog.cellsOf 9 = 1 := by kernel_rfl
  have c3 : Tryd.prog.cellsOf 22 = 1 := by kernel_rfl
  have c4 : Tryd.prog.cellsOf 4 = 1 := by kernel_rfl
  have hus : Tryd.prog.underlying 22 = some (.slice 9) := by kernel_rfl
  obtain ⟨n, cs, rfl, hlen, hf⟩ := hasV_struct ht hl h
  rw [c0] at hlen
  match cs, hlen with
  | [a, b, c, d, e, f, g], _ =>
    have f0 := hf (9, 0) (by simp)
    have f1 := hf (3, 1) (by simp)
    have f2 := hf (3, 2) (by simp)
    have f3 := hf (3, 3) (by simp)
    have f4 := hf (22, 4) (by simp)
    have f5 := hf (4, 5) (by simp)
    have f6 := hf (4, 6) (by simp)
    simp only [c1, c2, c3, c4] at f0 f1 f2 f3 f4 f5 f6
    obtain ⟨s, e0, h0⟩ := hasT_str (P := Tryd.prog) Tryd.underlying9 f0
    obtain ⟨k, e1, h1⟩ := hasT_i64 (P := Tryd.prog) Tryd.underlying3 f1
    obtain ⟨m, e2, h2⟩ := hasT_i64 (P := Tryd.prog) Tryd.underlying3 f2
    obtain ⟨x, e3, h3⟩ := hasT_i64 (P := Tryd.prog) Tryd.underlying3 f3
    obtain ⟨l, e4, h4, h4'⟩ := hasT_slice (P := Tryd.prog) hus f4
    obtain ⟨p, e5⟩ := hasT_bool (P := Tryd.prog) Tryd.underlying4 f5
    obtain ⟨q, e6⟩ := hasT_bool (P := Tryd.prog) Tryd.underlying4 f6
    obtain ⟨l, rfl, _⟩ := list_of (f := PV.str) (Q := fun x : List UInt8 => x.length ≤ maxLen) l (fun x hx => by
      obtain ⟨s, h5, h6⟩ := hasV_str (P := Tryd.prog) Tryd.underlying9 (h4' x hx)
      exact ⟨s, h5, h6⟩)
    injection e0 with e0
    injection e1 with e1
    injection e2 with e2
    injection e3 with e3
    injection e4 with e4
    injection e5 with e5
    injection e6 with e6
    subst e0 e1 e2 e3 e4 e5 e6
    exact ⟨⟨s, k, m, x, l, p, q⟩, rfl, h1, h2, h3, h0, by simpa using h4⟩
theorem ATs : ∃ f, CC.P.underlying 24 = some (.struct f) := ⟨(match Tryd.prog.underlying 24 with | some (.struct f) => f | _ => #[]), by kernel_rfl⟩
def shortB (l : List (List UInt8)) : Bool := l.all fun s => decide (s.length ≤ 100)
/-- few members, short names, a short text -/
def fewB (a : At) (v : Vl) : Bool := decide (a.en.length ≤ 70 ∧ a.nm.length ≤ 100 ∧ v.2.2.length ≤ 100) && shortB a.en
def PFw (v : Bool) (r : Option (Ex × St)) : Prop := ∃ e' bx', (v = true ∧ r = some (.exit 0, ⟨e', bx'⟩)) ∨ (v = false ∧ r = some (.ret, ⟨e', bx'⟩) ∧ getT e' 4 = .bool false)
theorem loop_few (L : Code) (hL : L = fpart Tryd.f11 [1,1,0,1,0]) (c0 c1 c2 c3 c5 c6 : PV) (l : List (List UInt8)) (hl : l.length ≤ 1000000) (b1 : PBox) : ∀ (k i : Nat) (e : List PV), i + k = l.length → getT e 2 = .bp 0 0 → getT e 5 = .int .i64 i →
    PFw (shortB (l.drop i)) (evL CC L ⟨e, [.cells 24 [c0, c1, c2, c3, .sl (strs l), c5, c6], b1]⟩) := by
  intro k
  induction k with
  | zero =>
    intro i e hk h2 h5
    rw [evL_at (fpart Tryd.f11 [1,1,0,1,0,0]) hL]
    have hi : ¬ ((i : Int) < (l.length : Int)) := by omega
    rw [List.drop_eq_nil_of_le (by omega)]
    have hln := strs_length l
    obtain ⟨tu, htu⟩ := VLs
    obtain ⟨ta, hta⟩ := ATs
    have hlen : True := trivial
    generalize strs l = xs at *
    obtain ⟨ev, eo, so, co, ⟨hev, hco⟩, R⟩ := RULES CC; rw [← hev]
    simp only [fpart, part', Tryd.f11, Option.getD]
    simp (maxSteps := 5000000) only [SA, SB, SD, R, guardAt, binP, intP, indexAddrP, elemsOf, readCells, lenP, lenAt, resultsP, resultP, oneOr, reduceCtorEq, reduceIte, Nat.reduceEqDiff, Nat.reduceAdd, Nat.zero_add, Nat.reduceMul, Nat.reduceLT, Nat.reduceLeDiff, Int.reduceLT, Int.reduceNeg, Int.reduceLE, appendP, appendAt, letGo, setLoc, locVal, Int.reduceToNat, boxCells, und, TG, SE, SC, unP, htu, hta, hlen, loadR, loadP, lay, List.take_succ_cons, List.take_zero, List.drop_nil, List.filter_nil, List.cons_append, Int.reduceBEq, Int.reduceBNe, Int.reduceGT, Int.reduceGE, Bool.not_true, Bool.not_false, h2, h5, hln, hi]
    exact ⟨_, _, .inl ⟨rfl, rfl⟩⟩
  | succ k ih =>
    intro i e hk h2 h5
    rw [evL_at (fpart Tryd.f11 [1,1,0,1,0,0]) hL]
    have hi : ((i : Int) < (l.length : Int)) := by omega
    have hi0 : ¬ ((i : Int) < 0) := by omega
    have hdr : l.drop i = (l[i]'(by omega)) :: l.drop (i + 1) := List.drop_eq_getElem_cons (by omega)
    have hx : l[i]? = some (l[i]'(by omega)) := by simp
    generalize l[i]'(by omega) = x at *
    have hx' := strs_get hx
    have hln := strs_length l
    have hlen := len_str x
    have hw2 := wrap_i64 (n := (i : Int) + 1) ⟨by omega, by omega⟩
    have key := fun e => ih (i + 1) e (by omega)
    have cast1 : ((i + 1 : Nat) : Int) = (i : Int) + 1 := by omega
    rw [cast1] at key
    rw [hdr, show shortB (x :: l.drop (i + 1)) = (decide (x.length ≤ 100) && shortB (l.drop (i + 1))) from rfl]
    obtain ⟨tu, htu⟩ := VLs
    obtain ⟨ta, hta⟩ := ATs
    generalize shortB (l.drop (i + 1)) = v at *
    generalize strs l = xs at *
    by_cases c1 : x.length ≤ 100
    · have c1' : ¬ (x.length : Int) > 100 := by omega
      rw [decide_eq_true c1, Bool.true_and]
      obtain ⟨ev, eo, so, co, ⟨hev, hco⟩, R⟩ := RULES CC; rw [← hev]
      rw [← hev] at key
      simp only [fpart, part', Tryd.f11, Option.getD]
      simp (maxSteps := 5000000) only [SA, SB, SD, R, guardAt, binP, intP, indexAddrP, elemsOf, readCells, lenP, lenAt, resultsP, resultP, oneOr, reduceCtorEq, reduceIte, Nat.reduceEqDiff, Nat.reduceAdd, Nat.zero_add, Nat.reduceMul, Nat.reduceLT, Nat.reduceLeDiff, Int.reduceLT, Int.reduceNeg, Int.reduceLE, appendP, appendAt, letGo, setLoc, locVal, Int.reduceToNat, boxCells, und, TG, SE, SC, unP, htu, hta, hlen, loadR, loadP, lay, List.take_succ_cons, List.take_zero, List.drop_nil, List.filter_nil, List.cons_append, Int.reduceBEq, Int.reduceBNe, Int.reduceGT, Int.reduceGE, Bool.not_true, Bool.not_false, h2, h5, hln, hi, hi0, hx', hw2, c1']
      refine key _ ?_ ?_
      · simp (maxSteps := 5000000) only [SA, SB, SD, R, guardAt, binP, intP, indexAddrP, elemsOf, readCells, lenP, lenAt, resultsP, resultP, oneOr, reduceCtorEq, reduceIte, Nat.reduceEqDiff, Nat.reduceAdd, Nat.zero_add, Nat.reduceMul, Nat.reduceLT, Nat.reduceLeDiff, Int.reduceLT, Int.reduceNeg, Int.reduceLE, appendP, appendAt, letGo, setLoc, locVal, Int.reduceToNat, boxCells, und, h2]
      · simp (maxSteps := 5000000) only [SA, SB, SD, R, guardAt, binP, intP, indexAddrP, elemsOf, readCells, lenP, lenAt, resultsP, resultP, oneOr, reduceCtorEq, reduceIte, Nat.reduceEqDiff, Nat.reduceAdd, Nat.zero_add, Nat.reduceMul, Nat.reduceLT, Nat.reduceLeDiff, Int.reduceLT, Int.reduceNeg, Int.reduceLE, appendP, appendAt, letGo, setLoc, locVal, Int.reduceToNat, boxCells, und]
    · have c1' : (x.length : Int) > 100 := by omega
      rw [decide_eq_false c1, Bool.false_and]
      obtain ⟨ev, eo, so, co, ⟨hev, hco⟩, R⟩ := RULES CC; rw [← hev]
      simp only [fpart, part', Tryd.f11, Option.getD]
      simp (maxSteps := 5000000) only [SA, SB, SD, R, guardAt, binP, intP, indexAddrP, elemsOf, readCells, lenP, lenAt, resultsP, resultP, oneOr, reduceCtorEq, reduceIte, Nat.reduceEqDiff, Nat.reduceAdd, Nat.zero_add, Nat.reduceMul, Nat.reduceLT, Nat.reduceLeDiff, Int.reduceLT, Int.reduceNeg, Int.reduceLE, appendP, appendAt, letGo, setLoc, locVal, Int.reduceToNat, boxCells, und, TG, SE, SC, unP, htu, hta, hlen, loadR, loadP, lay, List.take_succ_cons, List.take_zero, List.drop_nil, List.filter_nil, List.cons_append, Int.reduceBEq, Int.reduceBNe, Int.reduceGT, Int.reduceGE, Bool.not_true, Bool.not_false, h2, h5, hln, hi, hi0, hx', c1']
      exact ⟨_, _, .inr ⟨rfl, rfl, by simp (maxSteps := 5000000) only [SA, SB, SD, R, guardAt, binP, intP, indexAddrP, elemsOf, readCells, lenP, lenAt, resultsP, resultP, oneOr, reduceCtorEq, reduceIte, Nat.reduceEqDiff, Nat.reduceAdd, Nat.zero_add, Nat.reduceMul, Nat.reduceLT, Nat.reduceLeDiff, Int.reduceLT, Int.reduceNeg, Int.reduceLE, appendP, appendAt, letGo, setLoc, locVal, Int.reduceToNat, boxCells, und]⟩⟩
theorem call_few (a : At) (v : Vl) : ∃ bx, callL CC 11 [attV a, vlV v] [] = some (.ret (.bool (fewB a v)), bx) := by
  rw [callL_enter (fn := Tryd.f11) (c := Tryd.f11.body.getD .skip) rfl rfl fat_L20_few rfl ok_L20_few (Nat.le_of_ble_eq_true rfl)]
  obtain ⟨nm, kd, mn, mx, en, wr, sf⟩ := a
  obtain ⟨k, n, s⟩ := v
  have hln := strs_length en
  have hlen := len_str s
  have hlnm := len_str nm
  obtain ⟨tu, htu⟩ := VLs
  obtain ⟨ta, hta⟩ := ATs
  unfold fewB attV vlV
  simp only
  by_cases c1 : (en.length : Int) > 70
  · rw [decide_eq_false (by omega), Bool.false_and]
    generalize strs en = xs at *
    obtain ⟨ev, eo, so, co, ⟨hev, hco⟩, R⟩ := RULES CC; rw [← hev]
    simp only [fpart, part', Tryd.f11, Option.getD]
    simp (maxSteps := 5000000) only [SA, SB, SD, R, guardAt, binP, intP, indexAddrP, elemsOf, readCells, lenP, lenAt, resultsP, resultP, oneOr, reduceCtorEq, reduceIte, Nat.reduceEqDiff, Nat.reduceAdd, Nat.zero_add, Nat.reduceMul, Nat.reduceLT, Nat.reduceLeDiff, Int.reduceLT, Int.reduceNeg, Int.reduceLE, appendP, appendAt, letGo, setLoc, locVal, Int.reduceToNat, boxCells, und, TG, SE, SC, unP, htu, hta, hlen, loadR, loadP, lay, List.take_succ_cons, List.take_zero, List.drop_nil, List.filter_nil, List.cons_append, Int.reduceBEq, Int.reduceBNe, Int.reduceGT, Int.reduceGE, Bool.not_true, Bool.not_false, hln, c1]
    exact ⟨_, rfl⟩
  · by_cases c2 : (nm.length : Int) > 100
    · rw [decide_eq_false (by omega), Bool.false_and]
      generalize strs en = xs at *
      obtain ⟨ev, eo, so, co, ⟨hev, hco⟩, R⟩ := RULES CC; rw [← hev]
      simp only [fpart, part', Tryd.f11, Option.getD]
      simp (maxSteps := 5000000) only [SA, SB, SD, R, guardAt, binP, intP, indexAddrP, elemsOf, readCells, lenP, lenAt, resultsP, resultP, oneOr, reduceCtorEq, reduceIte, Nat.reduceEqDiff, Nat.reduceAdd, Nat.zero_add, Nat.reduceMul, Nat.reduceLT, Nat.reduceLeDiff, Int.reduceLT, Int.reduceNeg, Int.reduceLE, appendP, appendAt, letGo, setLoc, locVal, Int.reduceToNat, boxCells, und, TG, SE, SC, unP, htu, hta, hlen, loadR, loadP, lay, List.take_succ_cons, List.take_zero, List.drop_nil, List.filter_nil, List.cons_append, Int.reduceBEq, Int.reduceBNe, Int.reduceGT, Int.reduceGE, Bool.not_true, Bool.not_false, hln, hlnm, c1, c2]
      exact ⟨_, rfl⟩
    · by_cases c3 : (s.length : Int) > 100
      · rw [decide_eq_false (by omega), Bool.false_and]
        generalize strs en = xs at *
        obtain ⟨ev, eo, so, co, ⟨hev, hco⟩, R⟩ := RULES CC; rw [← hev]
        simp only [fpart, part', Tryd.f11, Option.getD]
        simp (maxSteps := 5000000) only [SA, SB, SD, R, guardAt, binP, intP, indexAddrP, elemsOf, readCells, lenP, lenAt, resultsP, resultP, oneOr, reduceCtorEq, reduceIte, Nat.reduceEqDiff, Nat.reduceAdd, Nat.zero_add, Nat.reduceMul, Nat.reduceLT, Nat.reduceLeDiff, Int.reduceLT, Int.reduceNeg, Int.reduceLE, appendP, appendAt, letGo, setLoc, locVal, Int.reduceToNat, boxCells, und, TG, SE, SC, unP, htu, hta, hlen, loadR, loadP, lay, List.take_succ_cons, List.take_zero, List.drop_nil, List.filter_nil, List.cons_append, Int.reduceBEq, Int.reduceBNe, Int.reduceGT, Int.reduceGE, Bool.not_true, Bool.not_false, hln, hlnm, c1, c2, c3]
        exact ⟨_, rfl⟩
      · rw [decide_eq_true (by omega), Bool.true_and]
        have hloop := fun c0 c1 c2 c3 c5 c6 b1 e => loop_few _ rfl c0 c1 c2 c3 c5 c6 en (by omega) b1 en.length 0 e (by omega)
        rw [List.drop_zero] at hloop
        generalize shortB en = v at *
        generalize strs en = xs at *
        obtain ⟨ev, eo, so, co, ⟨hev, hco⟩, R⟩ := RULES CC; rw [← hev]
        rw [← hev] at hloop
        simp only [fpart, part', Tryd.f11, Option.getD] at hloop ⊢
        simp (maxSteps := 5000000) only [SA, SB, SD, R, guardAt, binP, intP, indexAddrP, elemsOf, readCells, lenP, lenAt, resultsP, resultP, oneOr, reduceCtorEq, reduceIte, Nat.reduceEqDiff, Nat.reduceAdd, Nat.zero_add, Nat.reduceMul, Nat.reduceLT, Nat.reduceLeDiff, Int.reduceLT, Int.reduceNeg, Int.reduceLE, appendP, appendAt, letGo, setLoc, locVal, Int.reduceToNat, boxCells, und, TG, SE, SC, unP, htu, hta, hlen, loadR, loadP, lay, List.take_succ_cons, List.take_zero, List.drop_nil, List.filter_nil, List.cons_append, Int.reduceBEq, Int.reduceBNe, Int.reduceGT, Int.reduceGE, Bool.not_true, Bool.not_false, hln, hlnm, c1, c2, c3]
        generalize hE : ev _ _ = z
        have hP : PFw v z := by
          rw [← hE]
          refine hloop _ _ _ _ _ _ _ _ ?_ ?_
          · simp (maxSteps := 5000000) only [SA, SB, SD, R, guardAt, binP, intP, indexAddrP, elemsOf, readCells, lenP, lenAt, resultsP, resultP, oneOr, reduceCtorEq, reduceIte, Nat.reduceEqDiff, Nat.reduceAdd, Nat.zero_add, Nat.reduceMul, Nat.reduceLT, Nat.reduceLeDiff, Int.reduceLT, Int.reduceNeg, Int.reduceLE, appendP, appendAt, letGo, setLoc, locVal, Int.reduceToNat, boxCells, und]
          · simp (maxSteps := 5000000) only [SA, SB, SD, R, guardAt, binP, intP, indexAddrP, elemsOf, readCells, lenP, lenAt, resultsP, resultP, oneOr, reduceCtorEq, reduceIte, Nat.reduceEqDiff, Nat.reduceAdd, Nat.zero_add, Nat.reduceMul, Nat.reduceLT, Nat.reduceLeDiff, Int.reduceLT, Int.reduceNeg, Int.reduceLE, appendP, appendAt, letGo, setLoc, locVal, Int.reduceToNat, boxCells, und]; rfl
        obtain ⟨e', bx', ⟨hv, he⟩ | ⟨hv, he, g4⟩⟩ := hP
        · subst he
          subst hv
          simp (maxSteps := 5000000) only [SA, SB, SD, R, guardAt, binP, intP, indexAddrP, elemsOf, readCells, lenP, lenAt, resultsP, resultP, oneOr, reduceCtorEq, reduceIte, Nat.reduceEqDiff, Nat.reduceAdd, Nat.zero_add, Nat.reduceMul, Nat.reduceLT, Nat.reduceLeDiff, Int.reduceLT, Int.reduceNeg, Int.reduceLE, appendP, appendAt, letGo, setLoc, locVal, Int.reduceToNat, boxCells, und, TG, SE]
          exact ⟨_, rfl⟩
        · subst he
          subst hv
          simp (maxSteps := 5000000) only [SA, SB, SD, R, guardAt, binP, intP, indexAddrP, elemsOf, readCells, lenP, lenAt, resultsP, resultP, oneOr, reduceCtorEq, reduceIte, Nat.reduceEqDiff, Nat.reduceAdd, Nat.zero_add, Nat.reduceMul, Nat.reduceLT, Nat.reduceLeDiff, Int.reduceLT, Int.reduceNeg, Int.reduceLE, appendP, appendAt, letGo, setLoc, locVal, Int.reduceToNat, boxCells, und, TG, SE, g4]
          exact ⟨_, rfl⟩
theorem attV_pure (a : At) : (attV a).pure = true := by
  unfold attV
  simp only [SA, SE, strs_pure, Bool.and_true]
theorem op_few (a : At) (v : Vl) (bx) : callOp CC (callL CC) 11 [attV a, vlV v] bx = some (.ret (.bool (fewB a v)), bx) := by
  obtain ⟨b, h⟩ := call_few a v
  exact callOp_of rfl (by show ((attV a).pure && ((vlV v).pure && true)) = true; rw [attV_pure]; rfl) h rfl
/-- are the bounds wrong for the kind? -/
def bdB (a : At) : Prop := if a.kd = 2 then ¬ (inR a.mn = true ∧ inR a.mx = true ∧ a.mn ≤ a.mx) else ¬ (a.mn = 0 ∧ a.mx = 0)
noncomputable instance (a : At) : Decidable (bdB a) := Classical.propDecidable _
/-- what 'Def' says of an attribute -/
noncomputable def dfV (a : At) : Int := if valB a.nm = false then 10 else if a.kd < 1 ∨ 4 < a.kd then 7 else if bdB a then 2 else if a.kd = 3 then mbV a.en else if a.en.length > 0 then 4 else 0
def shAt (a : At) : Prop := a.nm.length ≤ 1000 ∧ a.en.length ≤ 1000000 ∧ ∀ s ∈ a.en, s.length ≤ 1000
theorem call_value_Def (a : At) (ha : shAt a) : ∃ bx, callL CC 15 [attV a] [] = some (.ret (.int .i64 (dfV a)), bx) := by
  rw [callL_enter (fn := Tryd.f15) (c := Tryd.f15.body.getD .skip) rfl rfl fat_value_Def rfl ok_value_Def (Nat.le_of_ble_eq_true rfl)]
  obtain ⟨nm, kd, mn, mx, en, wr, sf⟩ := a
  obtain ⟨ha1, ha2, ha3⟩ := ha
  simp only at ha1 ha2 ha3
  have hln := strs_length en
  have hlen : True := trivial
  obtain ⟨tu, htu⟩ := VLs
  obtain ⟨ta, hta⟩ := ATs
  have hv := op_names_Valid nm ha1
  have hmb := op_value_members en ha2 ha3
  have r1 := op_value_inRange mn
  have r2 := op_value_inRange mx
  unfold dfV bdB attV
  simp only
  generalize mbV en = mb at *
  generalize strs en = xs at *
  cases hb : valB nm with
  | false =>
    rw [hb] at hv
    rw [if_pos rfl]
    obtain ⟨ev, eo, so, co, ⟨hev, hco⟩, R⟩ := RULES CC; rw [← hev]
    rw [← hco] at hv
    simp only [fpart, part', Tryd.f15, Option.getD]
    simp (maxSteps := 5000000) only [SA, SB, SD, R, guardAt, binP, intP, indexAddrP, elemsOf, readCells, lenP, lenAt, resultsP, resultP, oneOr, reduceCtorEq, reduceIte, Nat.reduceEqDiff, Nat.reduceAdd, Nat.zero_add, Nat.reduceMul, Nat.reduceLT, Nat.reduceLeDiff, Int.reduceLT, Int.reduceNeg, Int.reduceLE, appendP, appendAt, letGo, setLoc, locVal, Int.reduceToNat, boxCells, und, TG, SE, SC, unP, htu, hta, hlen, loadR, loadP, lay, List.take_succ_cons, List.take_zero, List.drop_nil, List.filter_nil, List.cons_append, Int.reduceBEq, Int.reduceBNe, Int.reduceGT, Int.reduceGE, Bool.not_true, Bool.not_false, hln, hv]
    exact ⟨_, rfl⟩
  | true =>
    rw [hb] at hv
    rw [if_neg (by simp)]
    by_cases k1 : kd < 1
    · rw [if_pos (.inl k1)]
      obtain ⟨ev, eo, so, co, ⟨hev, hco⟩, R⟩ := RULES CC; rw [← hev]
      rw [← hco] at hv
      simp only [fpart, part', Tryd.f15, Option.getD]
      simp (maxSteps := 5000000) only [SA, SB, SD, R, guardAt, binP, intP, indexAddrP, elemsOf, readCells, lenP, lenAt, resultsP, resultP, oneOr, reduceCtorEq, reduceIte, Nat.reduceEqDiff, Nat.reduceAdd, Nat.zero_add, Nat.reduceMul, Nat.reduceLT, Nat.reduceLeDiff, Int.reduceLT, Int.reduceNeg, Int.reduceLE, appendP, appendAt, letGo, setLoc, locVal, Int.reduceToNat, boxCells, und, TG, SE, SC, unP, htu, hta, hlen, loadR, loadP, lay, List.take_succ_cons, List.take_zero, List.drop_nil, List.filter_nil, List.cons_append, Int.reduceBEq, Int.reduceBNe, Int.reduceGT, Int.reduceGE, Bool.not_true, Bool.not_false, hln, hv, k1]
      exact ⟨_, rfl⟩
    by_cases k2 : kd > 4
    · rw [if_pos (.inr k2)]
      obtain ⟨ev, eo, so, co, ⟨hev, hco⟩, R⟩ := RULES CC; rw [← hev]
      rw [← hco] at hv
      simp only [fpart, part', Tryd.f15, Option.getD]
      simp (maxSteps := 5000000) only [SA, SB, SD, R, guardAt, binP, intP, indexAddrP, elemsOf, readCells, lenP, lenAt, resultsP, resultP, oneOr, reduceCtorEq, reduceIte, Nat.reduceEqDiff, Nat.reduceAdd, Nat.zero_add, Nat.reduceMul, Nat.reduceLT, Nat.reduceLeDiff, Int.reduceLT, Int.reduceNeg, Int.reduceLE, appendP, appendAt, letGo, setLoc, locVal, Int.reduceToNat, boxCells, und, TG, SE, SC, unP, htu, hta, hlen, loadR, loadP, lay, List.take_succ_cons, List.take_zero, List.drop_nil, List.filter_nil, List.cons_append, Int.reduceBEq, Int.reduceBNe, Int.reduceGT, Int.reduceGE, Bool.not_true, Bool.not_false, hln, hv, k1, k2]
      exact ⟨_, rfl⟩
    rw [if_neg (by omega)]
    by_cases k3 : kd = 2
    · subst k3
      simp only [if_true]
      have f23 : ¬ ((2 : Int) = 3) := by decide
      rw [if_neg f23]
      cases hm : inR mn with
      | false =>
        rw [hm] at r1
        rw [if_pos (by simp)]
        obtain ⟨ev, eo, so, co, ⟨hev, hco⟩, R⟩ := RULES CC; rw [← hev]
        rw [← hco] at hv r1
        simp only [fpart, part', Tryd.f15, Option.getD]
        simp (maxSteps := 5000000) only [SA, SB, SD, R, guardAt, binP, intP, indexAddrP, elemsOf, readCells, lenP, lenAt, resultsP, resultP, oneOr, reduceCtorEq, reduceIte, Nat.reduceEqDiff, Nat.reduceAdd, Nat.zero_add, Nat.reduceMul, Nat.reduceLT, Nat.reduceLeDiff, Int.reduceLT, Int.reduceNeg, Int.reduceLE, appendP, appendAt, letGo, setLoc, locVal, Int.reduceToNat, boxCells, und, TG, SE, SC, unP, htu, hta, hlen, loadR, loadP, lay, List.take_succ_cons, List.take_zero, List.drop_nil, List.filter_nil, List.cons_append, Int.reduceBEq, Int.reduceBNe, Int.reduceGT, Int.reduceGE, Bool.not_true, Bool.not_false, hln, hv, r1]
        exact ⟨_, rfl⟩
      | true =>
        rw [hm] at r1
        cases hx : inR mx with
        | false =>
          rw [hx] at r2
          rw [if_pos (by simp)]
          obtain ⟨ev, eo, so, co, ⟨hev, hco⟩, R⟩ := RULES CC; rw [← hev]
          rw [← hco] at hv r1 r2
          simp only [fpart, part', Tryd.f15, Option.getD]
          simp (maxSteps := 5000000) only [SA, SB, SD, R, guardAt, binP, intP, indexAddrP, elemsOf, readCells, lenP, lenAt, resultsP, resultP, oneOr, reduceCtorEq, reduceIte, Nat.reduceEqDiff, Nat.reduceAdd, Nat.zero_add, Nat.reduceMul, Nat.reduceLT, Nat.reduceLeDiff, Int.reduceLT, Int.reduceNeg, Int.reduceLE, appendP, appendAt, letGo, setLoc, locVal, Int.reduceToNat, boxCells, und, TG, SE, SC, unP, htu, hta, hlen, loadR, loadP, lay, List.take_succ_cons, List.take_zero, List.drop_nil, List.filter_nil, List.cons_append, Int.reduceBEq, Int.reduceBNe, Int.reduceGT, Int.reduceGE, Bool.not_true, Bool.not_false, hln, hv, r1, r2]
          exact ⟨_, rfl⟩
        | true =>
          rw [hx] at r2
          by_cases c : mn > mx
          · rw [if_pos (by rintro ⟨_, _, h⟩; omega)]
            obtain ⟨ev, eo, so, co, ⟨hev, hco⟩, R⟩ := RULES CC; rw [← hev]
            rw [← hco] at hv r1 r2
            simp only [fpart, part', Tryd.f15, Option.getD]
            simp (maxSteps := 5000000) only [SA, SB, SD, R, guardAt, binP, intP, indexAddrP, elemsOf, readCells, lenP, lenAt, resultsP, resultP, oneOr, reduceCtorEq, reduceIte, Nat.reduceEqDiff, Nat.reduceAdd, Nat.zero_add, Nat.reduceMul, Nat.reduceLT, Nat.reduceLeDiff, Int.reduceLT, Int.reduceNeg, Int.reduceLE, appendP, appendAt, letGo, setLoc, locVal, Int.reduceToNat, boxCells, und, TG, SE, SC, unP, htu, hta, hlen, loadR, loadP, lay, List.take_succ_cons, List.take_zero, List.drop_nil, List.filter_nil, List.cons_append, Int.reduceBEq, Int.reduceBNe, Int.reduceGT, Int.reduceGE, Bool.not_true, Bool.not_false, hln, hv, r1, r2, c]
            exact ⟨_, rfl⟩
          · rw [if_neg (fun h => h ⟨rfl, rfl, by omega⟩)]
            by_cases d : (en.length : Int) > 0
            · rw [if_pos (by omega)]
              obtain ⟨ev, eo, so, co, ⟨hev, hco⟩, R⟩ := RULES CC; rw [← hev]
              rw [← hco] at hv r1 r2
              simp only [fpart, part', Tryd.f15, Option.getD]
              simp (maxSteps := 5000000) only [SA, SB, SD, R, guardAt, binP, intP, indexAddrP, elemsOf, readCells, lenP, lenAt, resultsP, resultP, oneOr, reduceCtorEq, reduceIte, Nat.reduceEqDiff, Nat.reduceAdd, Nat.zero_add, Nat.reduceMul, Nat.reduceLT, Nat.reduceLeDiff, Int.reduceLT, Int.reduceNeg, Int.reduceLE, appendP, appendAt, letGo, setLoc, locVal, Int.reduceToNat, boxCells, und, TG, SE, SC, unP, htu, hta, hlen, loadR, loadP, lay, List.take_succ_cons, List.take_zero, List.drop_nil, List.filter_nil, List.cons_append, Int.reduceBEq, Int.reduceBNe, Int.reduceGT, Int.reduceGE, Bool.not_true, Bool.not_false, hln, hv, r1, r2, c, d]
              exact ⟨_, rfl⟩
            · rw [if_neg (by omega)]
              obtain ⟨ev, eo, so, co, ⟨hev, hco⟩, R⟩ := RULES CC; rw [← hev]
              rw [← hco] at hv r1 r2
              simp only [fpart, part', Tryd.f15, Option.getD]
              simp (maxSteps := 5000000) only [SA, SB, SD, R, guardAt, binP, intP, indexAddrP, elemsOf, readCells, lenP, lenAt, resultsP, resultP, oneOr, reduceCtorEq, reduceIte, Nat.reduceEqDiff, Nat.reduceAdd, Nat.zero_add, Nat.reduceMul, Nat.reduceLT, Nat.reduceLeDiff, Int.reduceLT, Int.reduceNeg, Int.reduceLE, appendP, appendAt, letGo, setLoc, locVal, Int.reduceToNat, boxCells, und, TG, SE, SC, unP, htu, hta, hlen, loadR, loadP, lay, List.take_succ_cons, List.take_zero, List.drop_nil, List.filter_nil, List.cons_append, Int.reduceBEq, Int.reduceBNe, Int.reduceGT, Int.reduceGE, Bool.not_true, Bool.not_false, hln, hv, r1, r2, c, d]
              exact ⟨_, rfl⟩
    · have k3' : (kd == 2) = false := by simpa using k3
      simp only [if_neg k3]
      by_cases m1 : mn = 0
      · have m1' : (mn != 0) = false := by simp [m1]
        by_cases m2 : mx = 0
        · have m2' : (mx != 0) = false := by simp [m2]
          rw [if_neg (fun h => h ⟨m1, m2⟩)]
          by_cases k4 : kd = 3
          · have k4' : (kd == 3) = true := by simpa using k4
            rw [if_pos k4]
            obtain ⟨ev, eo, so, co, ⟨hev, hco⟩, R⟩ := RULES CC; rw [← hev]
            rw [← hco] at hv hmb
            simp only [fpart, part', Tryd.f15, Option.getD]
            simp (maxSteps := 5000000) only [SA, SB, SD, R, guardAt, binP, intP, indexAddrP, elemsOf, readCells, lenP, lenAt, resultsP, resultP, oneOr, reduceCtorEq, reduceIte, Nat.reduceEqDiff, Nat.reduceAdd, Nat.zero_add, Nat.reduceMul, Nat.reduceLT, Nat.reduceLeDiff, Int.reduceLT, Int.reduceNeg, Int.reduceLE, appendP, appendAt, letGo, setLoc, locVal, Int.reduceToNat, boxCells, und, TG, SE, SC, unP, htu, hta, hlen, loadR, loadP, lay, List.take_succ_cons, List.take_zero, List.drop_nil, List.filter_nil, List.cons_append, Int.reduceBEq, Int.reduceBNe, Int.reduceGT, Int.reduceGE, Bool.not_true, Bool.not_false, hln, hv, hmb, k1, k2, k3', k4', m1', m2']
            exact ⟨_, rfl⟩
          · have k4' : (kd == 3) = false := by simpa using k4
            rw [if_neg k4]
            by_cases d : (en.length : Int) > 0
            · rw [if_pos (by omega)]
              obtain ⟨ev, eo, so, co, ⟨hev, hco⟩, R⟩ := RULES CC; rw [← hev]
              rw [← hco] at hv
              simp only [fpart, part', Tryd.f15, Option.getD]
              simp (maxSteps := 5000000) only [SA, SB, SD, R, guardAt, binP, intP, indexAddrP, elemsOf, readCells, lenP, lenAt, resultsP, resultP, oneOr, reduceCtorEq, reduceIte, Nat.reduceEqDiff, Nat.reduceAdd, Nat.zero_add, Nat.reduceMul, Nat.reduceLT, Nat.reduceLeDiff, Int.reduceLT, Int.reduceNeg, Int.reduceLE, appendP, appendAt, letGo, setLoc, locVal, Int.reduceToNat, boxCells, und, TG, SE, SC, unP, htu, hta, hlen, loadR, loadP, lay, List.take_succ_cons, List.take_zero, List.drop_nil, List.filter_nil, List.cons_append, Int.reduceBEq, Int.reduceBNe, Int.reduceGT, Int.reduceGE, Bool.not_true, Bool.not_false, hln, hv, k1, k2, k3', k4', m1', m2', d]
              exact ⟨_, rfl⟩
            · rw [if_neg (by omega)]
              obtain ⟨ev, eo, so, co, ⟨hev, hco⟩, R⟩ := RULES CC; rw [← hev]
              rw [← hco] at hv
              simp only [fpart, part', Tryd.f15, Option.getD]
              simp (maxSteps := 5000000) only [SA, SB, SD, R, guardAt, binP, intP, indexAddrP, elemsOf, readCells, lenP, lenAt, resultsP, resultP, oneOr, reduceCtorEq, reduceIte, Nat.reduceEqDiff, Nat.reduceAdd, Nat.zero_add, Nat.reduceMul, Nat.reduceLT, Nat.reduceLeDiff, Int.reduceLT, Int.reduceNeg, Int.reduceLE, appendP, appendAt, letGo, setLoc, locVal, Int.reduceToNat, boxCells, und, TG, SE, SC, unP, htu, hta, hlen, loadR, loadP, lay, List.take_succ_cons, List.take_zero, List.drop_nil, List.filter_nil, List.cons_append, Int.reduceBEq, Int.reduceBNe, Int.reduceGT, Int.reduceGE, Bool.not_true, Bool.not_false, hln, hv, k1, k2, k3', k4', m1', m2', d]
              exact ⟨_, rfl⟩
        · have m2' : (mx != 0) = true := by simp [m2]
          rw [if_pos (fun h => m2 h.2)]
          obtain ⟨ev, eo, so, co, ⟨hev, hco⟩, R⟩ := RULES CC; rw [← hev]
          rw [← hco] at hv
          simp only [fpart, part', Tryd.f15, Option.getD]
          simp (maxSteps := 5000000) only [SA, SB, SD, R, guardAt, binP, intP, indexAddrP, elemsOf, readCells, lenP, lenAt, resultsP, resultP, oneOr, reduceCtorEq, reduceIte, Nat.reduceEqDiff, Nat.reduceAdd, Nat.zero_add, Nat.reduceMul, Nat.reduceLT, Nat.reduceLeDiff, Int.reduceLT, Int.reduceNeg, Int.reduceLE, appendP, appendAt, letGo, setLoc, locVal, Int.reduceToNat, boxCells, und, TG, SE, SC, unP, htu, hta, hlen, loadR, loadP, lay, List.take_succ_cons, List.take_zero, List.drop_nil, List.filter_nil, List.cons_append, Int.reduceBEq, Int.reduceBNe, Int.reduceGT, Int.reduceGE, Bool.not_true, Bool.not_false, hln, hv, k1, k2, k3', m1', m2']
          exact ⟨_, rfl⟩
      · have m1' : (mn != 0) = true := by simp [m1]
        rw [if_pos (fun h => m1 h.1)]
        obtain ⟨ev, eo, so, co, ⟨hev, hco⟩, R⟩ := RULES CC; rw [← hev]
        rw [← hco] at hv
        simp only [fpart, part', Tryd.f15, Option.getD]
        simp (maxSteps := 5000000) only [SA, SB, SD, R, guardAt, binP, intP, indexAddrP, elemsOf, readCells, lenP, lenAt, resultsP, resultP, oneOr, reduceCtorEq, reduceIte, Nat.reduceEqDiff, Nat.reduceAdd, Nat.zero_add, Nat.reduceMul, Nat.reduceLT, Nat.reduceLeDiff, Int.reduceLT, Int.reduceNeg, Int.reduceLE, appendP, appendAt, letGo, setLoc, locVal, Int.reduceToNat, boxCells, und, TG, SE, SC, unP, htu, hta, hlen, loadR, loadP, lay, List.take_succ_cons, List.take_zero, List.drop_nil, List.filter_nil, List.cons_append, Int.reduceBEq, Int.reduceBNe, Int.reduceGT, Int.reduceGE, Bool.not_true, Bool.not_false, hln, hv, k1, k2, k3', m1']
        exact ⟨_, rfl⟩
theorem op_value_Def (a : At) (ha : shAt a) (bx) : callOp CC (callL CC) 15 [attV a] bx = some (.ret (.int .i64 (dfV a)), bx) := by
  obtain ⟨b, h⟩ := call_value_Def a ha
  exact callOp_of rfl (by show ((attV a).pure && true) = true; rw [attV_pure]; rfl) h rfl
theorem ok_R20_Def : fnOK CC Tryd.f16 (Tryd.f16.body.getD .skip) = true := by kernel_rfl
theorem fat_R20_Def : CC.P.funcs[16]? = some Tryd.f16 := by kernel_rfl
theorem sl_strs (l : List (List UInt8)) (i : Nat) (h : i ≤ l.length) : sliceP CC 22 (.sl (strs l)) none (some (.int .i64 (i : Int))) = some (.sl (strs (l.take i))) := by
  have hus : CC.P.underlying 22 = some (.slice 9) := by kernel_rfl
  have hts : tSize CC 9 = some 1 := by kernel_rfl
  unfold sliceP
  simp only [hus, elemsOf, hts, boundO, boundP, strs_length]
  rw [if_pos (by omega)]
  simp only [Int.toNat_natCast, true_or, if_true, List.drop_zero]
  unfold strs
  rw [List.map_take]
theorem loop_R20_Def (L : Code) (hL : L = fpart Tryd.f16 [1,1,1,1,1,1,0,1,0]) (c0 c1 c2 c3 c5 c6 : PV) (l : List (List UInt8)) (hl : l.length ≤ 1000000) (hs : ∀ s ∈ l, s.length ≤ 1000) : ∀ (k i : Nat) (e : List PV), i + k = l.length → getT e 1 = .bp 0 0 → getT e 3 = .int .i64 i →
    PMb (mbF l k i) (evL CC L ⟨e, [.cells 24 [c0, c1, c2, c3, .sl (strs l), c5, c6]]⟩) := by
  intro k
  induction k with
  | zero =>
    intro i e hk h1 h3
    rw [evL_at (fpart Tryd.f16 [1,1,1,1,1,1,0,1,0,0]) hL]
    have hi : ¬ ((i : Int) < (l.length : Int)) := by omega
    have hln := strs_length l
    obtain ⟨tu, htu⟩ := VLs
    obtain ⟨ta, hta⟩ := ATs
    have hlen : True := trivial
    unfold mbF
    generalize strs l = xs at *
    obtain ⟨ev, eo, so, co, ⟨hev, hco⟩, R⟩ := RULES CC; rw [← hev]
    simp only [fpart, part', Tryd.f16, Option.getD]
    simp (maxSteps := 5000000) only [SA, SB, SD, R, guardAt, binP, intP, indexAddrP, elemsOf, readCells, lenP, lenAt, resultsP, resultP, oneOr, reduceCtorEq, reduceIte, Nat.reduceEqDiff, Nat.reduceAdd, Nat.zero_add, Nat.reduceMul, Nat.reduceLT, Nat.reduceLeDiff, Int.reduceLT, Int.reduceNeg, Int.reduceLE, appendP, appendAt, letGo, setLoc, locVal, Int.reduceToNat, boxCells, und, TG, SE, SC, unP, htu, hta, hlen, loadR, loadP, lay, List.take_succ_cons, List.take_zero, List.drop_nil, List.filter_nil, List.cons_append, Int.reduceBEq, Int.reduceBNe, Int.reduceGT, Int.reduceGE, Bool.not_true, Bool.not_false, h1, h3, hln, hi]
    exact ⟨_, _, .inl ⟨rfl, rfl⟩⟩
  | succ k ih =>
    intro i e hk h1 h3
    rw [evL_at (fpart Tryd.f16 [1,1,1,1,1,1,0,1,0,0]) hL]
    have hi : ((i : Int) < (l.length : Int)) := by omega
    have hi0 : ¬ ((i : Int) < 0) := by omega
    have hx : l[i]? = some (l[i]'(by omega)) := by simp
    have hm : l[i]'(by omega) ∈ l := List.getElem_mem _
    generalize l[i]'(by omega) = x at *
    have hx' := strs_get hx
    have hln := strs_length l
    have hlen : True := trivial
    have hw2 := wrap_i64 (n := (i : Int) + 1) ⟨by omega, by omega⟩
    have key := fun e => ih (i + 1) e (by omega)
    have cast1 : ((i + 1 : Nat) : Int) = (i : Int) + 1 := by omega
    rw [cast1] at key
    have hv := op_R04_Valid x (hs x hm)
    have hsl := sl_strs l i (by omega)
    have hmb := op_R20_member (l.take i) (by rw [List.length_take]; omega) x
    have hpu := strs_pure (l.take i)
    obtain ⟨tu, htu⟩ := VLs
    obtain ⟨ta, hta⟩ := ATs
    unfold mbF
    simp only [hx]
    generalize mbF l k (i + 1) = v at *
    generalize memB (l.take i) x = mb at *
    generalize strs (l.take i) = ys at *
    generalize strs l = xs at *
    cases hb : valB x with
    | false =>
      rw [hb] at hv
      rw [if_pos rfl]
      obtain ⟨ev, eo, so, co, ⟨hev, hco⟩, R⟩ := RULES CC; rw [← hev]
      rw [← hco] at hv
      simp only [fpart, part', Tryd.f16, Option.getD]
      simp (maxSteps := 5000000) only [SA, SB, SD, R, guardAt, binP, intP, indexAddrP, elemsOf, readCells, lenP, lenAt, resultsP, resultP, oneOr, reduceCtorEq, reduceIte, Nat.reduceEqDiff, Nat.reduceAdd, Nat.zero_add, Nat.reduceMul, Nat.reduceLT, Nat.reduceLeDiff, Int.reduceLT, Int.reduceNeg, Int.reduceLE, appendP, appendAt, letGo, setLoc, locVal, Int.reduceToNat, boxCells, und, TG, SE, SC, unP, htu, hta, hlen, loadR, loadP, lay, List.take_succ_cons, List.take_zero, List.drop_nil, List.filter_nil, List.cons_append, Int.reduceBEq, Int.reduceBNe, Int.reduceGT, Int.reduceGE, Bool.not_true, Bool.not_false, h1, h3, hln, hi, hi0, hx', hv]
      exact ⟨_, _, .inr ⟨rfl, by simp (maxSteps := 5000000) only [SA, SB, SD, R, guardAt, binP, intP, indexAddrP, elemsOf, readCells, lenP, lenAt, resultsP, resultP, oneOr, reduceCtorEq, reduceIte, Nat.reduceEqDiff, Nat.reduceAdd, Nat.zero_add, Nat.reduceMul, Nat.reduceLT, Nat.reduceLeDiff, Int.reduceLT, Int.reduceNeg, Int.reduceLE, appendP, appendAt, letGo, setLoc, locVal, Int.reduceToNat, boxCells, und]⟩⟩
    | true =>
      rw [hb] at hv
      rw [if_neg (by simp)]
      cases mb with
      | true =>
        rw [if_pos rfl]
        obtain ⟨ev, eo, so, co, ⟨hev, hco⟩, R⟩ := RULES CC; rw [← hev]
        rw [← hco] at hv hmb
        simp only [fpart, part', Tryd.f16, Option.getD]
        simp (maxSteps := 5000000) only [SA, SB, SD, R, guardAt, binP, intP, indexAddrP, elemsOf, readCells, lenP, lenAt, resultsP, resultP, oneOr, reduceCtorEq, reduceIte, Nat.reduceEqDiff, Nat.reduceAdd, Nat.zero_add, Nat.reduceMul, Nat.reduceLT, Nat.reduceLeDiff, Int.reduceLT, Int.reduceNeg, Int.reduceLE, appendP, appendAt, letGo, setLoc, locVal, Int.reduceToNat, boxCells, und, TG, SE, SC, unP, htu, hta, hlen, loadR, loadP, lay, List.take_succ_cons, List.take_zero, List.drop_nil, List.filter_nil, List.cons_append, Int.reduceBEq, Int.reduceBNe, Int.reduceGT, Int.reduceGE, Bool.not_true, Bool.not_false, h1, h3, hln, hi, hi0, hx', hv, hsl, hmb, hpu]
        exact ⟨_, _, .inr ⟨rfl, by simp (maxSteps := 5000000) only [SA, SB, SD, R, guardAt, binP, intP, indexAddrP, elemsOf, readCells, lenP, lenAt, resultsP, resultP, oneOr, reduceCtorEq, reduceIte, Nat.reduceEqDiff, Nat.reduceAdd, Nat.zero_add, Nat.reduceMul, Nat.reduceLT, Nat.reduceLeDiff, Int.reduceLT, Int.reduceNeg, Int.reduceLE, appendP, appendAt, letGo, setLoc, locVal, Int.reduceToNat, boxCells, und]⟩⟩
      | false =>
        rw [if_neg (by simp)]
        obtain ⟨ev, eo, so, co, ⟨hev, hco⟩, R⟩ := RULES CC; rw [← hev]
        rw [← hev] at key
        rw [← hco] at hv hmb
        simp only [fpart, part', Tryd.f16, Option.getD]
        simp (maxSteps := 5000000) only [SA, SB, SD, R, guardAt, binP, intP, indexAddrP, elemsOf, readCells, lenP, lenAt, resultsP, resultP, oneOr, reduceCtorEq, reduceIte, Nat.reduceEqDiff, Nat.reduceAdd, Nat.zero_add, Nat.reduceMul, Nat.reduceLT, Nat.reduceLeDiff, Int.reduceLT, Int.reduceNeg, Int.reduceLE, appendP, appendAt, letGo, setLoc, locVal, Int.reduceToNat, boxCells, und, TG, SE, SC, unP, htu, hta, hlen, loadR, loadP, lay, List.take_succ_cons, List.take_zero, List.drop_nil, List.filter_nil, List.cons_append, Int.reduceBEq, Int.reduceBNe, Int.reduceGT, Int.reduceGE, Bool.not_true, Bool.not_false, h1, h3, hln, hi, hi0, hx', hv, hsl, hmb, hpu, hw2]
        refine key _ ?_ ?_
        · simp (maxSteps := 5000000) only [SA, SB, SD, R, guardAt, binP, intP, indexAddrP, elemsOf, readCells, lenP, lenAt, resultsP, resultP, oneOr, reduceCtorEq, reduceIte, Nat.reduceEqDiff, Nat.reduceAdd, Nat.zero_add, Nat.reduceMul, Nat.reduceLT, Nat.reduceLeDiff, Int.reduceLT, Int.reduceNeg, Int.reduceLE, appendP, appendAt, letGo, setLoc, locVal, Int.reduceToNat, boxCells, und, h1]
        · simp (maxSteps := 5000000) only [SA, SB, SD, R, guardAt, binP, intP, indexAddrP, elemsOf, readCells, lenP, lenAt, resultsP, resultP, oneOr, reduceCtorEq, reduceIte, Nat.reduceEqDiff, Nat.reduceAdd, Nat.zero_add, Nat.reduceMul, Nat.reduceLT, Nat.reduceLeDiff, Int.reduceLT, Int.reduceNeg, Int.reduceLE, appendP, appendAt, letGo, setLoc, locVal, Int.reduceToNat, boxCells, und]
theorem call_R20_Def (a : At) (ha : shAt a) : ∃ bx, callL CC 16 [attV a] [] = some (.ret (.int .i64 (dfV a)), bx) := by
  rw [callL_enter (fn := Tryd.f16) (c := Tryd.f16.body.getD .skip) rfl rfl fat_R20_Def rfl ok_R20_Def (Nat.le_of_ble_eq_true rfl)]
  obtain ⟨nm, kd, mn, mx, en, wr, sf⟩ := a
  obtain ⟨ha1, ha2, ha3⟩ := ha
  simp only at ha1 ha2 ha3
  have hln := strs_length en
  have hlen : True := trivial
  obtain ⟨tu, htu⟩ := VLs
  obtain ⟨ta, hta⟩ := ATs
  have hv := op_R04_Valid nm ha1
  have hloop := fun c0 c1 c2 c3 c5 c6 e => loop_R20_Def _ rfl c0 c1 c2 c3 c5 c6 en ha2 ha3 en.length 0 e (by omega)
  have hmv : mbV en = if en.length < 1 ∨ 64 < en.length then 3 else mbF en en.length 0 := rfl
  unfold dfV bdB attV
  simp only
  generalize mbF en en.length 0 = mb at *
  generalize mbV en = mbv at *
  generalize strs en = xs at *
  cases hb : valB nm with
  | false =>
    rw [hb] at hv
    rw [if_pos rfl]
    obtain ⟨ev, eo, so, co, ⟨hev, hco⟩, R⟩ := RULES CC; rw [← hev]
    rw [← hco] at hv
    simp only [fpart, part', Tryd.f16, Option.getD]
    simp (maxSteps := 5000000) only [SA, SB, SD, R, guardAt, binP, intP, indexAddrP, elemsOf, readCells, lenP, lenAt, resultsP, resultP, oneOr, reduceCtorEq, reduceIte, Nat.reduceEqDiff, Nat.reduceAdd, Nat.zero_add, Nat.reduceMul, Nat.reduceLT, Nat.reduceLeDiff, Int.reduceLT, Int.reduceNeg, Int.reduceLE, appendP, appendAt, letGo, setLoc, locVal, Int.reduceToNat, boxCells, und, TG, SE, SC, unP, htu, hta, hlen, loadR, loadP, lay, List.take_succ_cons, List.take_zero, List.drop_nil, List.filter_nil, List.cons_append, Int.reduceBEq, Int.reduceBNe, Int.reduceGT, Int.reduceGE, Bool.not_true, Bool.not_false, hln, hv]
    exact ⟨_, rfl⟩
  | true =>
    rw [hb] at hv
    rw [if_neg (by simp)]
    by_cases k1 : kd < 1
    · rw [if_pos (.inl k1)]
      obtain ⟨ev, eo, so, co, ⟨hev, hco⟩, R⟩ := RULES CC; rw [← hev]
      rw [← hco] at hv
      simp only [fpart, part', Tryd.f16, Option.getD]
      simp (maxSteps := 5000000) only [SA, SB, SD, R, guardAt, binP, intP, indexAddrP, elemsOf, readCells, lenP, lenAt, resultsP, resultP, oneOr, reduceCtorEq, reduceIte, Nat.reduceEqDiff, Nat.reduceAdd, Nat.zero_add, Nat.reduceMul, Nat.reduceLT, Nat.reduceLeDiff, Int.reduceLT, Int.reduceNeg, Int.reduceLE, appendP, appendAt, letGo, setLoc, locVal, Int.reduceToNat, boxCells, und, TG, SE, SC, unP, htu, hta, hlen, loadR, loadP, lay, List.take_succ_cons, List.take_zero, List.drop_nil, List.filter_nil, List.cons_append, Int.reduceBEq, Int.reduceBNe, Int.reduceGT, Int.reduceGE, Bool.not_true, Bool.not_false, hln, hv, k1]
      exact ⟨_, rfl⟩
    by_cases k2 : kd > 4
    · rw [if_pos (.inr k2)]
      obtain ⟨ev, eo, so, co, ⟨hev, hco⟩, R⟩ := RULES CC; rw [← hev]
      rw [← hco] at hv
      simp only [fpart, part', Tryd.f16, Option.getD]
      simp (maxSteps := 5000000) only [SA, SB, SD, R, guardAt, binP, intP, indexAddrP, elemsOf, readCells, lenP, lenAt, resultsP, resultP, oneOr, reduceCtorEq, reduceIte, Nat.reduceEqDiff, Nat.reduceAdd, Nat.zero_add, Nat.reduceMul, Nat.reduceLT, Nat.reduceLeDiff, Int.reduceLT, Int.reduceNeg, Int.reduceLE, appendP, appendAt, letGo, setLoc, locVal, Int.reduceToNat, boxCells, und, TG, SE, SC, unP, htu, hta, hlen, loadR, loadP, lay, List.take_succ_cons, List.take_zero, List.drop_nil, List.filter_nil, List.cons_append, Int.reduceBEq, Int.reduceBNe, Int.reduceGT, Int.reduceGE, Bool.not_true, Bool.not_false, hln, hv, k1, k2]
      exact ⟨_, rfl⟩
    rw [if_neg (by omega)]
    by_cases k3 : kd = 2
    · subst k3
      simp only [if_true]
      have f23 : ¬ ((2 : Int) = 3) := by decide
      rw [if_neg f23]
      unfold inR
      by_cases r1 : mn < -1099511627776
      · rw [if_pos (by rintro ⟨h, _⟩; have := of_decide_eq_true h; omega)]
        obtain ⟨ev, eo, so, co, ⟨hev, hco⟩, R⟩ := RULES CC; rw [← hev]
        rw [← hco] at hv
        simp only [fpart, part', Tryd.f16, Option.getD]
        simp (maxSteps := 5000000) only [SA, SB, SD, R, guardAt, binP, intP, indexAddrP, elemsOf, readCells, lenP, lenAt, resultsP, resultP, oneOr, reduceCtorEq, reduceIte, Nat.reduceEqDiff, Nat.reduceAdd, Nat.zero_add, Nat.reduceMul, Nat.reduceLT, Nat.reduceLeDiff, Int.reduceLT, Int.reduceNeg, Int.reduceLE, appendP, appendAt, letGo, setLoc, locVal, Int.reduceToNat, boxCells, und, TG, SE, SC, unP, htu, hta, hlen, loadR, loadP, lay, List.take_succ_cons, List.take_zero, List.drop_nil, List.filter_nil, List.cons_append, Int.reduceBEq, Int.reduceBNe, Int.reduceGT, Int.reduceGE, Bool.not_true, Bool.not_false, hln, hv, r1]
        exact ⟨_, rfl⟩
      by_cases r2 : mx > 1099511627776
      · rw [if_pos (by rintro ⟨_, h, _⟩; have := of_decide_eq_true h; omega)]
        obtain ⟨ev, eo, so, co, ⟨hev, hco⟩, R⟩ := RULES CC; rw [← hev]
        rw [← hco] at hv
        simp only [fpart, part', Tryd.f16, Option.getD]
        simp (maxSteps := 5000000) only [SA, SB, SD, R, guardAt, binP, intP, indexAddrP, elemsOf, readCells, lenP, lenAt, resultsP, resultP, oneOr, reduceCtorEq, reduceIte, Nat.reduceEqDiff, Nat.reduceAdd, Nat.zero_add, Nat.reduceMul, Nat.reduceLT, Nat.reduceLeDiff, Int.reduceLT, Int.reduceNeg, Int.reduceLE, appendP, appendAt, letGo, setLoc, locVal, Int.reduceToNat, boxCells, und, TG, SE, SC, unP, htu, hta, hlen, loadR, loadP, lay, List.take_succ_cons, List.take_zero, List.drop_nil, List.filter_nil, List.cons_append, Int.reduceBEq, Int.reduceBNe, Int.reduceGT, Int.reduceGE, Bool.not_true, Bool.not_false, hln, hv, r1, r2]
        exact ⟨_, rfl⟩
      by_cases c : mn > mx
      · rw [if_pos (by rintro ⟨_, _, h⟩; omega)]
        obtain ⟨ev, eo, so, co, ⟨hev, hco⟩, R⟩ := RULES CC; rw [← hev]
        rw [← hco] at hv
        simp only [fpart, part', Tryd.f16, Option.getD]
        simp (maxSteps := 5000000) only [SA, SB, SD, R, guardAt, binP, intP, indexAddrP, elemsOf, readCells, lenP, lenAt, resultsP, resultP, oneOr, reduceCtorEq, reduceIte, Nat.reduceEqDiff, Nat.reduceAdd, Nat.zero_add, Nat.reduceMul, Nat.reduceLT, Nat.reduceLeDiff, Int.reduceLT, Int.reduceNeg, Int.reduceLE, appendP, appendAt, letGo, setLoc, locVal, Int.reduceToNat, boxCells, und, TG, SE, SC, unP, htu, hta, hlen, loadR, loadP, lay, List.take_succ_cons, List.take_zero, List.drop_nil, List.filter_nil, List.cons_append, Int.reduceBEq, Int.reduceBNe, Int.reduceGT, Int.reduceGE, Bool.not_true, Bool.not_false, hln, hv, r1, r2, c]
        exact ⟨_, rfl⟩
      · rw [if_neg (fun h => h ⟨decide_eq_true (by omega), decide_eq_true (by omega), by omega⟩)]
        by_cases d : (en.length : Int) > 0
        · rw [if_pos (by omega)]
          obtain ⟨ev, eo, so, co, ⟨hev, hco⟩, R⟩ := RULES CC; rw [← hev]
          rw [← hco] at hv
          simp only [fpart, part', Tryd.f16, Option.getD]
          simp (maxSteps := 5000000) only [SA, SB, SD, R, guardAt, binP, intP, indexAddrP, elemsOf, readCells, lenP, lenAt, resultsP, resultP, oneOr, reduceCtorEq, reduceIte, Nat.reduceEqDiff, Nat.reduceAdd, Nat.zero_add, Nat.reduceMul, Nat.reduceLT, Nat.reduceLeDiff, Int.reduceLT, Int.reduceNeg, Int.reduceLE, appendP, appendAt, letGo, setLoc, locVal, Int.reduceToNat, boxCells, und, TG, SE, SC, unP, htu, hta, hlen, loadR, loadP, lay, List.take_succ_cons, List.take_zero, List.drop_nil, List.filter_nil, List.cons_append, Int.reduceBEq, Int.reduceBNe, Int.reduceGT, Int.reduceGE, Bool.not_true, Bool.not_false, hln, hv, r1, r2, c, d]
          exact ⟨_, rfl⟩
        · rw [if_neg (by omega)]
          obtain ⟨ev, eo, so, co, ⟨hev, hco⟩, R⟩ := RULES CC; rw [← hev]
          rw [← hco] at hv
          simp only [fpart, part', Tryd.f16, Option.getD]
          simp (maxSteps := 5000000) only [SA, SB, SD, R, guardAt, binP, intP, indexAddrP, elemsOf, readCells, lenP, lenAt, resultsP, resultP, oneOr, reduceCtorEq, reduceIte, Nat.reduceEqDiff, Nat.reduceAdd, Nat.zero_add, Nat.reduceMul, Nat.reduceLT, Nat.reduceLeDiff, Int.reduceLT, Int.reduceNeg, Int.reduceLE, appendP, appendAt, letGo, setLoc, locVal, Int.reduceToNat, boxCells, und, TG, SE, SC, unP, htu, hta, hlen, loadR, loadP, lay, List.take_succ_cons, List.take_zero, List.drop_nil, List.filter_nil, List.cons_append, Int.reduceBEq, Int.reduceBNe, Int.reduceGT, Int.reduceGE, Bool.not_true, Bool.not_false, hln, hv, r1, r2, c, d]
          exact ⟨_, rfl⟩
    · have k3' : (kd == 2) = false := by simpa using k3
      simp only [if_neg k3]
      by_cases m1 : mn = 0
      · have m1' : (mn != 0) = false := by simp [m1]
        by_cases m2 : mx = 0
        · have m2' : (mx != 0) = false := by simp [m2]
          rw [if_neg (fun h => h ⟨m1, m2⟩)]
          by_cases k4 : kd = 3
          · have k4' : (kd != 3) = false := by simp [k4]
            rw [if_pos k4, hmv]
            by_cases d1 : (en.length : Int) < 1
            · rw [if_pos (by omega)]
              obtain ⟨ev, eo, so, co, ⟨hev, hco⟩, R⟩ := RULES CC; rw [← hev]
              rw [← hco] at hv
              simp only [fpart, part', Tryd.f16, Option.getD]
              simp (maxSteps := 5000000) only [SA, SB, SD, R, guardAt, binP, intP, indexAddrP, elemsOf, readCells, lenP, lenAt, resultsP, resultP, oneOr, reduceCtorEq, reduceIte, Nat.reduceEqDiff, Nat.reduceAdd, Nat.zero_add, Nat.reduceMul, Nat.reduceLT, Nat.reduceLeDiff, Int.reduceLT, Int.reduceNeg, Int.reduceLE, appendP, appendAt, letGo, setLoc, locVal, Int.reduceToNat, boxCells, und, TG, SE, SC, unP, htu, hta, hlen, loadR, loadP, lay, List.take_succ_cons, List.take_zero, List.drop_nil, List.filter_nil, List.cons_append, Int.reduceBEq, Int.reduceBNe, Int.reduceGT, Int.reduceGE, Bool.not_true, Bool.not_false, hln, hv, k1, k2, k3', k4', m1', m2', d1]
              exact ⟨_, rfl⟩
            by_cases d2 : (en.length : Int) > 64
            · rw [if_pos (by omega)]
              obtain ⟨ev, eo, so, co, ⟨hev, hco⟩, R⟩ := RULES CC; rw [← hev]
              rw [← hco] at hv
              simp only [fpart, part', Tryd.f16, Option.getD]
              simp (maxSteps := 5000000) only [SA, SB, SD, R, guardAt, binP, intP, indexAddrP, elemsOf, readCells, lenP, lenAt, resultsP, resultP, oneOr, reduceCtorEq, reduceIte, Nat.reduceEqDiff, Nat.reduceAdd, Nat.zero_add, Nat.reduceMul, Nat.reduceLT, Nat.reduceLeDiff, Int.reduceLT, Int.reduceNeg, Int.reduceLE, appendP, appendAt, letGo, setLoc, locVal, Int.reduceToNat, boxCells, und, TG, SE, SC, unP, htu, hta, hlen, loadR, loadP, lay, List.take_succ_cons, List.take_zero, List.drop_nil, List.filter_nil, List.cons_append, Int.reduceBEq, Int.reduceBNe, Int.reduceGT, Int.reduceGE, Bool.not_true, Bool.not_false, hln, hv, k1, k2, k3', k4', m1', m2', d1, d2]
              exact ⟨_, rfl⟩
            rw [if_neg (by omega)]
            obtain ⟨ev, eo, so, co, ⟨hev, hco⟩, R⟩ := RULES CC; rw [← hev]
            rw [← hco] at hv
            rw [← hev] at hloop
            simp only [fpart, part', Tryd.f16, Option.getD] at hloop ⊢
            simp (maxSteps := 5000000) only [SA, SB, SD, R, guardAt, binP, intP, indexAddrP, elemsOf, readCells, lenP, lenAt, resultsP, resultP, oneOr, reduceCtorEq, reduceIte, Nat.reduceEqDiff, Nat.reduceAdd, Nat.zero_add, Nat.reduceMul, Nat.reduceLT, Nat.reduceLeDiff, Int.reduceLT, Int.reduceNeg, Int.reduceLE, appendP, appendAt, letGo, setLoc, locVal, Int.reduceToNat, boxCells, und, TG, SE, SC, unP, htu, hta, hlen, loadR, loadP, lay, List.take_succ_cons, List.take_zero, List.drop_nil, List.filter_nil, List.cons_append, Int.reduceBEq, Int.reduceBNe, Int.reduceGT, Int.reduceGE, Bool.not_true, Bool.not_false, hln, hv, k1, k2, k3', k4', m1', m2', d1, d2]
            generalize hE : ev _ _ = z
            have hP : PMb mb z := by
              rw [← hE]
              refine hloop _ _ _ _ _ _ _ ?_ ?_
              · simp (maxSteps := 5000000) only [SA, SB, SD, R, guardAt, binP, intP, indexAddrP, elemsOf, readCells, lenP, lenAt, resultsP, resultP, oneOr, reduceCtorEq, reduceIte, Nat.reduceEqDiff, Nat.reduceAdd, Nat.zero_add, Nat.reduceMul, Nat.reduceLT, Nat.reduceLeDiff, Int.reduceLT, Int.reduceNeg, Int.reduceLE, appendP, appendAt, letGo, setLoc, locVal, Int.reduceToNat, boxCells, und]
              · simp (maxSteps := 5000000) only [SA, SB, SD, R, guardAt, binP, intP, indexAddrP, elemsOf, readCells, lenP, lenAt, resultsP, resultP, oneOr, reduceCtorEq, reduceIte, Nat.reduceEqDiff, Nat.reduceAdd, Nat.zero_add, Nat.reduceMul, Nat.reduceLT, Nat.reduceLeDiff, Int.reduceLT, Int.reduceNeg, Int.reduceLE, appendP, appendAt, letGo, setLoc, locVal, Int.reduceToNat, boxCells, und]; rfl
            obtain ⟨e', bx', ⟨hv, he⟩ | ⟨he, g2⟩⟩ := hP
            · subst he
              subst hv
              simp (maxSteps := 5000000) only [SA, SB, SD, R, guardAt, binP, intP, indexAddrP, elemsOf, readCells, lenP, lenAt, resultsP, resultP, oneOr, reduceCtorEq, reduceIte, Nat.reduceEqDiff, Nat.reduceAdd, Nat.zero_add, Nat.reduceMul, Nat.reduceLT, Nat.reduceLeDiff, Int.reduceLT, Int.reduceNeg, Int.reduceLE, appendP, appendAt, letGo, setLoc, locVal, Int.reduceToNat, boxCells, und, TG, SE]
              exact ⟨_, rfl⟩
            · subst he
              simp (maxSteps := 5000000) only [SA, SB, SD, R, guardAt, binP, intP, indexAddrP, elemsOf, readCells, lenP, lenAt, resultsP, resultP, oneOr, reduceCtorEq, reduceIte, Nat.reduceEqDiff, Nat.reduceAdd, Nat.zero_add, Nat.reduceMul, Nat.reduceLT, Nat.reduceLeDiff, Int.reduceLT, Int.reduceNeg, Int.reduceLE, appendP, appendAt, letGo, setLoc, locVal, Int.reduceToNat, boxCells, und, TG, SE, g2]
              exact ⟨_, rfl⟩
          · have k4' : (kd != 3) = true := by simp [k4]
            rw [if_neg k4]
            by_cases d : (en.length : Int) > 0
            · rw [if_pos (by omega)]
              obtain ⟨ev, eo, so, co, ⟨hev, hco⟩, R⟩ := RULES CC; rw [← hev]
              rw [← hco] at hv
              simp only [fpart, part', Tryd.f16, Option.getD]
              simp (maxSteps := 5000000) only [SA, SB, SD, R, guardAt, binP, intP, indexAddrP, elemsOf, readCells, lenP, lenAt, resultsP, resultP, oneOr, reduceCtorEq, reduceIte, Nat.reduceEqDiff, Nat.reduceAdd, Nat.zero_add, Nat.reduceMul, Nat.reduceLT, Nat.reduceLeDiff, Int.reduceLT, Int.reduceNeg, Int.reduceLE, appendP, appendAt, letGo, setLoc, locVal, Int.reduceToNat, boxCells, und, TG, SE, SC, unP, htu, hta, hlen, loadR, loadP, lay, List.take_succ_cons, List.take_zero, List.drop_nil, List.filter_nil, List.cons_append, Int.reduceBEq, Int.reduceBNe, Int.reduceGT, Int.reduceGE, Bool.not_true, Bool.not_false, hln, hv, k1, k2, k3', k4', m1', m2', d]
              exact ⟨_, rfl⟩
            · rw [if_neg (by omega)]
              obtain ⟨ev, eo, so, co, ⟨hev, hco⟩, R⟩ := RULES CC; rw [← hev]
              rw [← hco] at hv
              simp only [fpart, part', Tryd.f16, Option.getD]
              simp (maxSteps := 5000000) only [SA, SB, SD, R, guardAt, binP, intP, indexAddrP, elemsOf, readCells, lenP, lenAt, resultsP, resultP, oneOr, reduceCtorEq, reduceIte, Nat.reduceEqDiff, Nat.reduceAdd, Nat.zero_add, Nat.reduceMul, Nat.reduceLT, Nat.reduceLeDiff, Int.reduceLT, Int.reduceNeg, Int.reduceLE, appendP, appendAt, letGo, setLoc, locVal, Int.reduceToNat, boxCells, und, TG, SE, SC, unP, htu, hta, hlen, loadR, loadP, lay, List.take_succ_cons, List.take_zero, List.drop_nil, List.filter_nil, List.cons_append, Int.reduceBEq, Int.reduceBNe, Int.reduceGT, Int.reduceGE, Bool.not_true, Bool.not_false, hln, hv, k1, k2, k3', k4', m1', m2', d]
              exact ⟨_, rfl⟩
        · have m2' : (mx != 0) = true := by simp [m2]
          rw [if_pos (fun h => m2 h.2)]
          obtain ⟨ev, eo, so, co, ⟨hev, hco⟩, R⟩ := RULES CC; rw [← hev]
          rw [← hco] at hv
          simp only [fpart, part', Tryd.f16, Option.getD]
          simp (maxSteps := 5000000) only [SA, SB, SD, R, guardAt, binP, intP, indexAddrP, elemsOf, readCells, lenP, lenAt, resultsP, resultP, oneOr, reduceCtorEq, reduceIte, Nat.reduceEqDiff, Nat.reduceAdd, Nat.zero_add, Nat.reduceMul, Nat.reduceLT, Nat.reduceLeDiff, Int.reduceLT, Int.reduceNeg, Int.reduceLE, appendP, appendAt, letGo, setLoc, locVal, Int.reduceToNat, boxCells, und, TG, SE, SC, unP, htu, hta, hlen, loadR, loadP, lay, List.take_succ_cons, List.take_zero, List.drop_nil, List.filter_nil, List.cons_append, Int.reduceBEq, Int.reduceBNe, Int.reduceGT, Int.reduceGE, Bool.not_true, Bool.not_false, hln, hv, k1, k2, k3', m1', m2']
          exact ⟨_, rfl⟩
      · have m1' : (mn != 0) = true := by simp [m1]
        rw [if_pos (fun h => m1 h.1)]
        obtain ⟨ev, eo, so, co, ⟨hev, hco⟩, R⟩ := RULES CC; rw [← hev]
        rw [← hco] at hv
        simp only [fpart, part', Tryd.f16, Option.getD]
        simp (maxSteps := 5000000) only [SA, SB, SD, R, guardAt, binP, intP, indexAddrP, elemsOf, readCells, lenP, lenAt, resultsP, resultP, oneOr, reduceCtorEq, reduceIte, Nat.reduceEqDiff, Nat.reduceAdd, Nat.zero_add, Nat.reduceMul, Nat.reduceLT, Nat.reduceLeDiff, Int.reduceLT, Int.reduceNeg, Int.reduceLE, appendP, appendAt, letGo, setLoc, locVal, Int.reduceToNat, boxCells, und, TG, SE, SC, unP, htu, hta, hlen, loadR, loadP, lay, List.take_succ_cons, List.take_zero, List.drop_nil, List.filter_nil, List.cons_append, Int.reduceBEq, Int.reduceBNe, Int.reduceGT, Int.reduceGE, Bool.not_true, Bool.not_false, hln, hv, k1, k2, k3', m1']
        exact ⟨_, rfl⟩
theorem op_R20_Def (a : At) (ha : shAt a) (bx) : callOp CC (callL CC) 16 [attV a] bx = some (.ret (.int .i64 (dfV a)), bx) := by
  obtain ⟨b, h⟩ := call_R20_Def a ha
  exact callOp_of rfl (by show ((attV a).pure && true) = true; rw [attV_pure]; rfl) h rfl
theorem ok_num_Clamp : fnOK CC Tryd.f43 (Tryd.f43.body.getD .skip) = true := by kernel_rfl
theorem fat_num_Clamp : CC.P.funcs[43]? = some Tryd.f43 := by kernel_rfl
theorem ok_value_Fits : fnOK CC Tryd.f17 (Tryd.f17.body.getD .skip) = true := by kernel_rfl
theorem fat_value_Fits : CC.P.funcs[17]? = some Tryd.f17 := by kernel_rfl
theorem ok_R20_Fits : fnOK CC Tryd.f18 (Tryd.f18.body.getD .skip) = true := by kernel_rfl
theorem fat_R20_Fits : CC.P.funcs[18]? = some Tryd.f18 := by kernel_rfl
def clampI (n lo hi : Int) : Int := if hi < lo ∨ n > hi then hi else if n < lo then lo else n
theorem call_num_Clamp (n lo hi : Int) : callL CC 43 [.int .i64 n, .int .i64 lo, .int .i64 hi] [] = some (.ret (.int .i64 (clampI n lo hi)), []) := by
  rw [callL_enter (fn := Tryd.f43) (c := Tryd.f43.body.getD .skip) rfl rfl fat_num_Clamp rfl ok_num_Clamp (Nat.le_of_ble_eq_true rfl)]
  obtain ⟨ev, eo, so, co, ⟨hev, hco⟩, R⟩ := RULES CC; rw [← hev]
  unfold clampI
  simp only [fpart, part', Tryd.f43, Option.getD]
  by_cases c1 : hi < lo
  · simp (maxSteps := 5000000) only [SA, SB, SD, R, guardAt, binP, intP, indexAddrP, elemsOf, readCells, lenP, lenAt, resultsP, resultP, oneOr, reduceCtorEq, reduceIte, Nat.reduceEqDiff, Nat.reduceAdd, Nat.zero_add, Nat.reduceMul, Nat.reduceLT, Nat.reduceLeDiff, Int.reduceLT, Int.reduceNeg, Int.reduceLE, appendP, appendAt, letGo, setLoc, locVal, Int.reduceToNat, boxCells, und, TG, c1]
  · by_cases c2 : n > hi
    · simp (maxSteps := 5000000) only [SA, SB, SD, R, guardAt, binP, intP, indexAddrP, elemsOf, readCells, lenP, lenAt, resultsP, resultP, oneOr, reduceCtorEq, reduceIte, Nat.reduceEqDiff, Nat.reduceAdd, Nat.zero_add, Nat.reduceMul, Nat.reduceLT, Nat.reduceLeDiff, Int.reduceLT, Int.reduceNeg, Int.reduceLE, appendP, appendAt, letGo, setLoc, locVal, Int.reduceToNat, boxCells, und, TG, c1, c2]
    · by_cases c3 : n < lo
      · simp (maxSteps := 5000000) only [SA, SB, SD, R, guardAt, binP, intP, indexAddrP, elemsOf, readCells, lenP, lenAt, resultsP, resultP, oneOr, reduceCtorEq, reduceIte, Nat.reduceEqDiff, Nat.reduceAdd, Nat.zero_add, Nat.reduceMul, Nat.reduceLT, Nat.reduceLeDiff, Int.reduceLT, Int.reduceNeg, Int.reduceLE, appendP, appendAt, letGo, setLoc, locVal, Int.reduceToNat, boxCells, und, TG, c1, c2, c3]
      · simp (maxSteps := 5000000) only [SA, SB, SD, R, guardAt, binP, intP, indexAddrP, elemsOf, readCells, lenP, lenAt, resultsP, resultP, oneOr, reduceCtorEq, reduceIte, Nat.reduceEqDiff, Nat.reduceAdd, Nat.zero_add, Nat.reduceMul, Nat.reduceLT, Nat.reduceLeDiff, Int.reduceLT, Int.reduceNeg, Int.reduceLE, appendP, appendAt, letGo, setLoc, locVal, Int.reduceToNat, boxCells, und, TG, c1, c2, c3]
theorem op_num_Clamp (n lo hi : Int) (bx) : callOp CC (callL CC) 43 [.int .i64 n, .int .i64 lo, .int .i64 hi] bx = some (.ret (.int .i64 (clampI n lo hi)), bx) := callOp_of rfl (by simp only [SA, Bool.and_true]) (call_num_Clamp n lo hi) rfl
/-- what an attribute's check that is passed says of its bounds -/
theorem df_bd {a : At} (h : dfV a = 0) (k : a.kd = 2) : inR a.mn = true ∧ inR a.mx = true ∧ a.mn ≤ a.mx := by
  unfold dfV at h
  split at h
  · cases h
  · split at h
    · cases h
    · split at h
      · cases h
      · rename_i hb
        unfold bdB at hb
        rw [if_pos k] at hb
        exact Classical.not_not.1 hb
/-- what 'Fits' says -/
noncomputable def ftV (a : At) (v : Vl) : Int := if dfV a ≠ 0 then dfV a else if ckV v ≠ 0 then ckV v else if v.1 ≠ a.kd then 11 else
  if (v.1 = 2 ∧ (v.2.1 < a.mn ∨ v.2.1 > a.mx)) ∨ (v.1 = 3 ∧ v.2.1 ≥ (a.en.length : Int)) then 2 else 0
theorem call_value_Fits (a : At) (ha : shAt a) (v : Vl) : ∃ bx, callL CC 17 [attV a, vlV v] [] = some (.ret (.int .i64 (ftV a v)), bx) := by
  rw [callL_enter (fn := Tryd.f17) (c := Tryd.f17.body.getD .skip) rfl rfl fat_value_Fits rfl ok_value_Fits (Nat.le_of_ble_eq_true rfl)]
  have hd := op_value_Def a ha
  have hk := op_value_Check v
  unfold ftV
  generalize dfV a = d at *
  generalize ckV v = c at *
  obtain ⟨nm, kd, mn, mx, en, wr, sf⟩ := a
  obtain ⟨k, n, s⟩ := v
  unfold attV at *
  unfold vlV at *
  simp only at *
  have hln := strs_length en
  have hpu := strs_pure en
  have hz : True := trivial
  obtain ⟨tu, htu⟩ := VLs
  obtain ⟨ta, hta⟩ := ATs
  generalize strs en = xs at *
  by_cases d0 : d = 0
  · have d0' : (d != 0) = false := by simp [d0]
    rw [if_neg (fun h => h d0)]
    by_cases c0 : c = 0
    · have c0' : (c != 0) = false := by simp [c0]
      rw [if_neg (fun h => h c0)]
      by_cases e : k = kd
      · subst e
        have e' : (k != k) = false := by simp
        rw [if_neg (fun h => h rfl)]
        by_cases k2 : k = 2
        · subst k2
          by_cases n1 : n < mn
          · rw [if_pos (.inl ⟨rfl, .inl n1⟩)]
            obtain ⟨ev, eo, so, co, ⟨hev, hco⟩, R⟩ := RULES CC; rw [← hev]
            rw [← hco] at hd hk
            simp only [fpart, part', Tryd.f17, Option.getD]
            simp (maxSteps := 5000000) only [SA, SB, SD, R, guardAt, binP, intP, indexAddrP, elemsOf, readCells, lenP, lenAt, resultsP, resultP, oneOr, reduceCtorEq, reduceIte, Nat.reduceEqDiff, Nat.reduceAdd, Nat.zero_add, Nat.reduceMul, Nat.reduceLT, Nat.reduceLeDiff, Int.reduceLT, Int.reduceNeg, Int.reduceLE, appendP, appendAt, letGo, setLoc, locVal, Int.reduceToNat, boxCells, und, TG, SE, SC, unP, htu, hta, hz, loadR, loadP, storeR, storeK, storeCellsP, laid, lay, setBox, List.set_cons_zero, List.set_cons_succ, Nat.le_refl, List.take_succ_cons, List.take_zero, List.drop_nil, List.filter_nil, List.cons_append, Int.reduceBEq, Int.reduceBNe, Int.reduceGT, Int.reduceGE, Bool.not_true, Bool.not_false, hd, hk, d0', c0', e', n1, hpu]
            exact ⟨_, rfl⟩
          · by_cases n2 : n > mx
            · rw [if_pos (.inl ⟨rfl, .inr n2⟩)]
              obtain ⟨ev, eo, so, co, ⟨hev, hco⟩, R⟩ := RULES CC; rw [← hev]
              rw [← hco] at hd hk
              simp only [fpart, part', Tryd.f17, Option.getD]
              simp (maxSteps := 5000000) only [SA, SB, SD, R, guardAt, binP, intP, indexAddrP, elemsOf, readCells, lenP, lenAt, resultsP, resultP, oneOr, reduceCtorEq, reduceIte, Nat.reduceEqDiff, Nat.reduceAdd, Nat.zero_add, Nat.reduceMul, Nat.reduceLT, Nat.reduceLeDiff, Int.reduceLT, Int.reduceNeg, Int.reduceLE, appendP, appendAt, letGo, setLoc, locVal, Int.reduceToNat, boxCells, und, TG, SE, SC, unP, htu, hta, hz, loadR, loadP, storeR, storeK, storeCellsP, laid, lay, setBox, List.set_cons_zero, List.set_cons_succ, Nat.le_refl, List.take_succ_cons, List.take_zero, List.drop_nil, List.filter_nil, List.cons_append, Int.reduceBEq, Int.reduceBNe, Int.reduceGT, Int.reduceGE, Bool.not_true, Bool.not_false, hd, hk, d0', c0', e', n1, n2, hpu]
              exact ⟨_, rfl⟩
            · rw [if_neg (by rintro (⟨_, h | h⟩ | ⟨h, _⟩) <;> omega)]
              obtain ⟨ev, eo, so, co, ⟨hev, hco⟩, R⟩ := RULES CC; rw [← hev]
              rw [← hco] at hd hk
              simp only [fpart, part', Tryd.f17, Option.getD]
              simp (maxSteps := 5000000) only [SA, SB, SD, R, guardAt, binP, intP, indexAddrP, elemsOf, readCells, lenP, lenAt, resultsP, resultP, oneOr, reduceCtorEq, reduceIte, Nat.reduceEqDiff, Nat.reduceAdd, Nat.zero_add, Nat.reduceMul, Nat.reduceLT, Nat.reduceLeDiff, Int.reduceLT, Int.reduceNeg, Int.reduceLE, appendP, appendAt, letGo, setLoc, locVal, Int.reduceToNat, boxCells, und, TG, SE, SC, unP, htu, hta, hz, loadR, loadP, storeR, storeK, storeCellsP, laid, lay, setBox, List.set_cons_zero, List.set_cons_succ, Nat.le_refl, List.take_succ_cons, List.take_zero, List.drop_nil, List.filter_nil, List.cons_append, Int.reduceBEq, Int.reduceBNe, Int.reduceGT, Int.reduceGE, Bool.not_true, Bool.not_false, hd, hk, d0', c0', e', n1, n2, hpu]
              exact ⟨_, rfl⟩
        · have k2' : (k == 2) = false := by simpa using k2
          by_cases k3 : k = 3
          · subst k3
            by_cases n1 : n ≥ (en.length : Int)
            · rw [if_pos (.inr ⟨rfl, n1⟩)]
              obtain ⟨ev, eo, so, co, ⟨hev, hco⟩, R⟩ := RULES CC; rw [← hev]
              rw [← hco] at hd hk
              simp only [fpart, part', Tryd.f17, Option.getD]
              simp (maxSteps := 5000000) only [SA, SB, SD, R, guardAt, binP, intP, indexAddrP, elemsOf, readCells, lenP, lenAt, resultsP, resultP, oneOr, reduceCtorEq, reduceIte, Nat.reduceEqDiff, Nat.reduceAdd, Nat.zero_add, Nat.reduceMul, Nat.reduceLT, Nat.reduceLeDiff, Int.reduceLT, Int.reduceNeg, Int.reduceLE, appendP, appendAt, letGo, setLoc, locVal, Int.reduceToNat, boxCells, und, TG, SE, SC, unP, htu, hta, hz, loadR, loadP, storeR, storeK, storeCellsP, laid, lay, setBox, List.set_cons_zero, List.set_cons_succ, Nat.le_refl, List.take_succ_cons, List.take_zero, List.drop_nil, List.filter_nil, List.cons_append, Int.reduceBEq, Int.reduceBNe, Int.reduceGT, Int.reduceGE, Bool.not_true, Bool.not_false, hd, hk, d0', c0', e', n1, hln, hpu]
              exact ⟨_, rfl⟩
            · rw [if_neg (by rintro (⟨h, _⟩ | ⟨_, h⟩) <;> omega)]
              obtain ⟨ev, eo, so, co, ⟨hev, hco⟩, R⟩ := RULES CC; rw [← hev]
              rw [← hco] at hd hk
              simp only [fpart, part', Tryd.f17, Option.getD]
              simp (maxSteps := 5000000) only [SA, SB, SD, R, guardAt, binP, intP, indexAddrP, elemsOf, readCells, lenP, lenAt, resultsP, resultP, oneOr, reduceCtorEq, reduceIte, Nat.reduceEqDiff, Nat.reduceAdd, Nat.zero_add, Nat.reduceMul, Nat.reduceLT, Nat.reduceLeDiff, Int.reduceLT, Int.reduceNeg, Int.reduceLE, appendP, appendAt, letGo, setLoc, locVal, Int.reduceToNat, boxCells, und, TG, SE, SC, unP, htu, hta, hz, loadR, loadP, storeR, storeK, storeCellsP, laid, lay, setBox, List.set_cons_zero, List.set_cons_succ, Nat.le_refl, List.take_succ_cons, List.take_zero, List.drop_nil, List.filter_nil, List.cons_append, Int.reduceBEq, Int.reduceBNe, Int.reduceGT, Int.reduceGE, Bool.not_true, Bool.not_false, hd, hk, d0', c0', e', n1, hln, hpu]
              exact ⟨_, rfl⟩
          · have k3' : (k == 3) = false := by simpa using k3
            rw [if_neg (by rintro (⟨h, _⟩ | ⟨h, _⟩) <;> omega)]
            obtain ⟨ev, eo, so, co, ⟨hev, hco⟩, R⟩ := RULES CC; rw [← hev]
            rw [← hco] at hd hk
            simp only [fpart, part', Tryd.f17, Option.getD]
            simp (maxSteps := 5000000) only [SA, SB, SD, R, guardAt, binP, intP, indexAddrP, elemsOf, readCells, lenP, lenAt, resultsP, resultP, oneOr, reduceCtorEq, reduceIte, Nat.reduceEqDiff, Nat.reduceAdd, Nat.zero_add, Nat.reduceMul, Nat.reduceLT, Nat.reduceLeDiff, Int.reduceLT, Int.reduceNeg, Int.reduceLE, appendP, appendAt, letGo, setLoc, locVal, Int.reduceToNat, boxCells, und, TG, SE, SC, unP, htu, hta, hz, loadR, loadP, storeR, storeK, storeCellsP, laid, lay, setBox, List.set_cons_zero, List.set_cons_succ, Nat.le_refl, List.take_succ_cons, List.take_zero, List.drop_nil, List.filter_nil, List.cons_append, Int.reduceBEq, Int.reduceBNe, Int.reduceGT, Int.reduceGE, Bool.not_true, Bool.not_false, hd, hk, d0', c0', e', k2', k3', hpu]
            exact ⟨_, rfl⟩
      · have e' : (k != kd) = true := by simpa using e
        rw [if_pos e]
        obtain ⟨ev, eo, so, co, ⟨hev, hco⟩, R⟩ := RULES CC; rw [← hev]
        rw [← hco] at hd hk
        simp only [fpart, part', Tryd.f17, Option.getD]
        simp (maxSteps := 5000000) only [SA, SB, SD, R, guardAt, binP, intP, indexAddrP, elemsOf, readCells, lenP, lenAt, resultsP, resultP, oneOr, reduceCtorEq, reduceIte, Nat.reduceEqDiff, Nat.reduceAdd, Nat.zero_add, Nat.reduceMul, Nat.reduceLT, Nat.reduceLeDiff, Int.reduceLT, Int.reduceNeg, Int.reduceLE, appendP, appendAt, letGo, setLoc, locVal, Int.reduceToNat, boxCells, und, TG, SE, SC, unP, htu, hta, hz, loadR, loadP, storeR, storeK, storeCellsP, laid, lay, setBox, List.set_cons_zero, List.set_cons_succ, Nat.le_refl, List.take_succ_cons, List.take_zero, List.drop_nil, List.filter_nil, List.cons_append, Int.reduceBEq, Int.reduceBNe, Int.reduceGT, Int.reduceGE, Bool.not_true, Bool.not_false, hd, hk, d0', c0', e', hpu]
        exact ⟨_, rfl⟩
    · have c0' : (c != 0) = true := by simpa using c0
      rw [if_pos c0]
      obtain ⟨ev, eo, so, co, ⟨hev, hco⟩, R⟩ := RULES CC; rw [← hev]
      rw [← hco] at hd hk
      simp only [fpart, part', Tryd.f17, Option.getD]
      simp (maxSteps := 5000000) only [SA, SB, SD, R, guardAt, binP, intP, indexAddrP, elemsOf, readCells, lenP, lenAt, resultsP, resultP, oneOr, reduceCtorEq, reduceIte, Nat.reduceEqDiff, Nat.reduceAdd, Nat.zero_add, Nat.reduceMul, Nat.reduceLT, Nat.reduceLeDiff, Int.reduceLT, Int.reduceNeg, Int.reduceLE, appendP, appendAt, letGo, setLoc, locVal, Int.reduceToNat, boxCells, und, TG, SE, SC, unP, htu, hta, hz, loadR, loadP, storeR, storeK, storeCellsP, laid, lay, setBox, List.set_cons_zero, List.set_cons_succ, Nat.le_refl, List.take_succ_cons, List.take_zero, List.drop_nil, List.filter_nil, List.cons_append, Int.reduceBEq, Int.reduceBNe, Int.reduceGT, Int.reduceGE, Bool.not_true, Bool.not_false, hd, hk, d0', c0', hpu]
      exact ⟨_, rfl⟩
  · have d0' : (d != 0) = true := by simpa using d0
    rw [if_pos d0]
    obtain ⟨ev, eo, so, co, ⟨hev, hco⟩, R⟩ := RULES CC; rw [← hev]
    rw [← hco] at hd
    simp only [fpart, part', Tryd.f17, Option.getD]
    simp (maxSteps := 5000000) only [SA, SB, SD, R, guardAt, binP, intP, indexAddrP, elemsOf, readCells, lenP, lenAt, resultsP, resultP, oneOr, reduceCtorEq, reduceIte, Nat.reduceEqDiff, Nat.reduceAdd, Nat.zero_add, Nat.reduceMul, Nat.reduceLT, Nat.reduceLeDiff, Int.reduceLT, Int.reduceNeg, Int.reduceLE, appendP, appendAt, letGo, setLoc, locVal, Int.reduceToNat, boxCells, und, TG, SE, SC, unP, htu, hta, hz, loadR, loadP, storeR, storeK, storeCellsP, laid, lay, setBox, List.set_cons_zero, List.set_cons_succ, Nat.le_refl, List.take_succ_cons, List.take_zero, List.drop_nil, List.filter_nil, List.cons_append, Int.reduceBEq, Int.reduceBNe, Int.reduceGT, Int.reduceGE, Bool.not_true, Bool.not_false, hd, d0', hpu]
    exact ⟨_, rfl⟩
theorem call_R20_Fits (a : At) (ha : shAt a) (v : Vl) : ∃ bx, callL CC 18 [attV a, vlV v] [] = some (.ret (.int .i64 (ftV a v)), bx) := by
  rw [callL_enter (fn := Tryd.f18) (c := Tryd.f18.body.getD .skip) rfl rfl fat_R20_Fits rfl ok_R20_Fits (Nat.le_of_ble_eq_true rfl)]
  have hd := op_R20_Def a ha
  have hk := op_R20_Check v
  unfold ftV
  generalize dfV a = d at *
  generalize ckV v = c at *
  obtain ⟨nm, kd, mn, mx, en, wr, sf⟩ := a
  obtain ⟨k, n, s⟩ := v
  unfold attV at *
  unfold vlV at *
  simp only at *
  have hln := strs_length en
  have hpu := strs_pure en
  have hz : True := trivial
  obtain ⟨tu, htu⟩ := VLs
  obtain ⟨ta, hta⟩ := ATs
  generalize strs en = xs at *
  by_cases d0 : d = 0
  · have d0' : (d != 0) = false := by simp [d0]
    rw [if_neg (fun h => h d0)]
    by_cases c0 : c = 0
    · have c0' : (c != 0) = false := by simp [c0]
      rw [if_neg (fun h => h c0)]
      by_cases e : k = kd
      · subst e
        have e' : (k != k) = false := by simp
        rw [if_neg (fun h => h rfl)]
        by_cases k2 : k = 2
        · subst k2
          by_cases n1 : n < mn
          · rw [if_pos (.inl ⟨rfl, .inl n1⟩)]
            obtain ⟨ev, eo, so, co, ⟨hev, hco⟩, R⟩ := RULES CC; rw [← hev]
            rw [← hco] at hd hk
            simp only [fpart, part', Tryd.f18, Option.getD]
            simp (maxSteps := 5000000) only [SA, SB, SD, R, guardAt, binP, intP, indexAddrP, elemsOf, readCells, lenP, lenAt, resultsP, resultP, oneOr, reduceCtorEq, reduceIte, Nat.reduceEqDiff, Nat.reduceAdd, Nat.zero_add, Nat.reduceMul, Nat.reduceLT, Nat.reduceLeDiff, Int.reduceLT, Int.reduceNeg, Int.reduceLE, appendP, appendAt, letGo, setLoc, locVal, Int.reduceToNat, boxCells, und, TG, SE, SC, unP, htu, hta, hz, loadR, loadP, storeR, storeK, storeCellsP, laid, lay, setBox, List.set_cons_zero, List.set_cons_succ, Nat.le_refl, List.take_succ_cons, List.take_zero, List.drop_nil, List.filter_nil, List.cons_append, Int.reduceBEq, Int.reduceBNe, Int.reduceGT, Int.reduceGE, Bool.not_true, Bool.not_false, hd, hk, d0', c0', e', n1, hpu]
            exact ⟨_, rfl⟩
          · by_cases n2 : n > mx
            · rw [if_pos (.inl ⟨rfl, .inr n2⟩)]
              obtain ⟨ev, eo, so, co, ⟨hev, hco⟩, R⟩ := RULES CC; rw [← hev]
              rw [← hco] at hd hk
              simp only [fpart, part', Tryd.f18, Option.getD]
              simp (maxSteps := 5000000) only [SA, SB, SD, R, guardAt, binP, intP, indexAddrP, elemsOf, readCells, lenP, lenAt, resultsP, resultP, oneOr, reduceCtorEq, reduceIte, Nat.reduceEqDiff, Nat.reduceAdd, Nat.zero_add, Nat.reduceMul, Nat.reduceLT, Nat.reduceLeDiff, Int.reduceLT, Int.reduceNeg, Int.reduceLE, appendP, appendAt, letGo, setLoc, locVal, Int.reduceToNat, boxCells, und, TG, SE, SC, unP, htu, hta, hz, loadR, loadP, storeR, storeK, storeCellsP, laid, lay, setBox, List.set_cons_zero, List.set_cons_succ, Nat.le_refl, List.take_succ_cons, List.take_zero, List.drop_nil, List.filter_nil, List.cons_append, Int.reduceBEq, Int.reduceBNe, Int.reduceGT, Int.reduceGE, Bool.not_true, Bool.not_false, hd, hk, d0', c0', e', n1, n2, hpu]
              exact ⟨_, rfl⟩
            · rw [if_neg (by rintro (⟨_, h | h⟩ | ⟨h, _⟩) <;> omega)]
              obtain ⟨ev, eo, so, co, ⟨hev, hco⟩, R⟩ := RULES CC; rw [← hev]
              rw [← hco] at hd hk
              simp only [fpart, part', Tryd.f18, Option.getD]
              simp (maxSteps := 5000000) only [SA, SB, SD, R, guardAt, binP, intP, indexAddrP, elemsOf, readCells, lenP, lenAt, resultsP, resultP, oneOr, reduceCtorEq, reduceIte, Nat.reduceEqDiff, Nat.reduceAdd, Nat.zero_add, Nat.reduceMul, Nat.reduceLT, Nat.reduceLeDiff, Int.reduceLT, Int.reduceNeg, Int.reduceLE, appendP, appendAt, letGo, setLoc, locVal, Int.reduceToNat, boxCells, und, TG, SE, SC, unP, htu, hta, hz, loadR, loadP, storeR, storeK, storeCellsP, laid, lay, setBox, List.set_cons_zero, List.set_cons_succ, Nat.le_refl, List.take_succ_cons, List.take_zero, List.drop_nil, List.filter_nil, List.cons_append, Int.reduceBEq, Int.reduceBNe, Int.reduceGT, Int.reduceGE, Bool.not_true, Bool.not_false, hd, hk, d0', c0', e', n1, n2, hpu]
              exact ⟨_, rfl⟩
        · have k2' : (k == 2) = false := by simpa using k2
          by_cases k3 : k = 3
          · subst k3
            by_cases n1 : n ≥ (en.length : Int)
            · rw [if_pos (.inr ⟨rfl, n1⟩)]
              obtain ⟨ev, eo, so, co, ⟨hev, hco⟩, R⟩ := RULES CC; rw [← hev]
              rw [← hco] at hd hk
              simp only [fpart, part', Tryd.f18, Option.getD]
              simp (maxSteps := 5000000) only [SA, SB, SD, R, guardAt, binP, intP, indexAddrP, elemsOf, readCells, lenP, lenAt, resultsP, resultP, oneOr, reduceCtorEq, reduceIte, Nat.reduceEqDiff, Nat.reduceAdd, Nat.zero_add, Nat.reduceMul, Nat.reduceLT, Nat.reduceLeDiff, Int.reduceLT, Int.reduceNeg, Int.reduceLE, appendP, appendAt, letGo, setLoc, locVal, Int.reduceToNat, boxCells, und, TG, SE, SC, unP, htu, hta, hz, loadR, loadP, storeR, storeK, storeCellsP, laid, lay, setBox, List.set_cons_zero, List.set_cons_succ, Nat.le_refl, List.take_succ_cons, List.take_zero, List.drop_nil, List.filter_nil, List.cons_append, Int.reduceBEq, Int.reduceBNe, Int.reduceGT, Int.reduceGE, Bool.not_true, Bool.not_false, hd, hk, d0', c0', e', n1, hln, hpu]
              exact ⟨_, rfl⟩
            · rw [if_neg (by rintro (⟨h, _⟩ | ⟨_, h⟩) <;> omega)]
              obtain ⟨ev, eo, so, co, ⟨hev, hco⟩, R⟩ := RULES CC; rw [← hev]
              rw [← hco] at hd hk
              simp only [fpart, part', Tryd.f18, Option.getD]
              simp (maxSteps := 5000000) only [SA, SB, SD, R, guardAt, binP, intP, indexAddrP, elemsOf, readCells, lenP, lenAt, resultsP, resultP, oneOr, reduceCtorEq, reduceIte, Nat.reduceEqDiff, Nat.reduceAdd, Nat.zero_add, Nat.reduceMul, Nat.reduceLT, Nat.reduceLeDiff, Int.reduceLT, Int.reduceNeg, Int.reduceLE, appendP, appendAt, letGo, setLoc, locVal, Int.reduceToNat, boxCells, und, TG, SE, SC, unP, htu, hta, hz, loadR, loadP, storeR, storeK, storeCellsP, laid, lay, setBox, List.set_cons_zero, List.set_cons_succ, Nat.le_refl, List.take_succ_cons, List.take_zero, List.drop_nil, List.filter_nil, List.cons_append, Int.reduceBEq, Int.reduceBNe, Int.reduceGT, Int.reduceGE, Bool.not_true, Bool.not_false, hd, hk, d0', c0', e', n1, hln, hpu]
              exact ⟨_, rfl⟩
          · have k3' : (k == 3) = false := by simpa using k3
            rw [if_neg (by rintro (⟨h, _⟩ | ⟨h, _⟩) <;> omega)]
            obtain ⟨ev, eo, so, co, ⟨hev, hco⟩, R⟩ := RULES CC; rw [← hev]
            rw [← hco] at hd hk
            simp only [fpart, part', Tryd.f18, Option.getD]
            simp (maxSteps := 5000000) only [SA, SB, SD, R, guardAt, binP, intP, indexAddrP, elemsOf, readCells, lenP, lenAt, resultsP, resultP, oneOr, reduceCtorEq, reduceIte, Nat.reduceEqDiff, Nat.reduceAdd, Nat.zero_add, Nat.reduceMul, Nat.reduceLT, Nat.reduceLeDiff, Int.reduceLT, Int.reduceNeg, Int.reduceLE, appendP, appendAt, letGo, setLoc, locVal, Int.reduceToNat, boxCells, und, TG, SE, SC, unP, htu, hta, hz, loadR, loadP, storeR, storeK, storeCellsP, laid, lay, setBox, List.set_cons_zero, List.set_cons_succ, Nat.le_refl, List.take_succ_cons, List.take_zero, List.drop_nil, List.filter_nil, List.cons_append, Int.reduceBEq, Int.reduceBNe, Int.reduceGT, Int.reduceGE, Bool.not_true, Bool.not_false, hd, hk, d0', c0', e', k2', k3', hpu]
            exact ⟨_, rfl⟩
      · have e' : (k != kd) = true := by simpa using e
        rw [if_pos e]
        obtain ⟨ev, eo, so, co, ⟨hev, hco⟩, R⟩ := RULES CC; rw [← hev]
        rw [← hco] at hd hk
        simp only [fpart, part', Tryd.f18, Option.getD]
        simp (maxSteps := 5000000) only [SA, SB, SD, R, guardAt, binP, intP, indexAddrP, elemsOf, readCells, lenP, lenAt, resultsP, resultP, oneOr, reduceCtorEq, reduceIte, Nat.reduceEqDiff, Nat.reduceAdd, Nat.zero_add, Nat.reduceMul, Nat.reduceLT, Nat.reduceLeDiff, Int.reduceLT, Int.reduceNeg, Int.reduceLE, appendP, appendAt, letGo, setLoc, locVal, Int.reduceToNat, boxCells, und, TG, SE, SC, unP, htu, hta, hz, loadR, loadP, storeR, storeK, storeCellsP, laid, lay, setBox, List.set_cons_zero, List.set_cons_succ, Nat.le_refl, List.take_succ_cons, List.take_zero, List.drop_nil, List.filter_nil, List.cons_append, Int.reduceBEq, Int.reduceBNe, Int.reduceGT, Int.reduceGE, Bool.not_true, Bool.not_false, hd, hk, d0', c0', e', hpu]
        exact ⟨_, rfl⟩
    · have c0' : (c != 0) = true := by simpa using c0
      rw [if_pos c0]
      obtain ⟨ev, eo, so, co, ⟨hev, hco⟩, R⟩ := RULES CC; rw [← hev]
      rw [← hco] at hd hk
      simp only [fpart, part', Tryd.f18, Option.getD]
      simp (maxSteps := 5000000) only [SA, SB, SD, R, guardAt, binP, intP, indexAddrP, elemsOf, readCells, lenP, lenAt, resultsP, resultP, oneOr, reduceCtorEq, reduceIte, Nat.reduceEqDiff, Nat.reduceAdd, Nat.zero_add, Nat.reduceMul, Nat.reduceLT, Nat.reduceLeDiff, Int.reduceLT, Int.reduceNeg, Int.reduceLE, appendP, appendAt, letGo, setLoc, locVal, Int.reduceToNat, boxCells, und, TG, SE, SC, unP, htu, hta, hz, loadR, loadP, storeR, storeK, storeCellsP, laid, lay, setBox, List.set_cons_zero, List.set_cons_succ, Nat.le_refl, List.take_succ_cons, List.take_zero, List.drop_nil, List.filter_nil, List.cons_append, Int.reduceBEq, Int.reduceBNe, Int.reduceGT, Int.reduceGE, Bool.not_true, Bool.not_false, hd, hk, d0', c0', hpu]
      exact ⟨_, rfl⟩
  · have d0' : (d != 0) = true := by simpa using d0
    rw [if_pos d0]
    obtain ⟨ev, eo, so, co, ⟨hev, hco⟩, R⟩ := RULES CC; rw [← hev]
    rw [← hco] at hd
    simp only [fpart, part', Tryd.f18, Option.getD]
    simp (maxSteps := 5000000) only [SA, SB, SD, R, guardAt, binP, intP, indexAddrP, elemsOf, readCells, lenP, lenAt, resultsP, resultP, oneOr, reduceCtorEq, reduceIte, Nat.reduceEqDiff, Nat.reduceAdd, Nat.zero_add, Nat.reduceMul, Nat.reduceLT, Nat.reduceLeDiff, Int.reduceLT, Int.reduceNeg, Int.reduceLE, appendP, appendAt, letGo, setLoc, locVal, Int.reduceToNat, boxCells, und, TG, SE, SC, unP, htu, hta, hz, loadR, loadP, storeR, storeK, storeCellsP, laid, lay, setBox, List.set_cons_zero, List.set_cons_succ, Nat.le_refl, List.take_succ_cons, List.take_zero, List.drop_nil, List.filter_nil, List.cons_append, Int.reduceBEq, Int.reduceBNe, Int.reduceGT, Int.reduceGE, Bool.not_true, Bool.not_false, hd, d0', hpu]
    exact ⟨_, rfl⟩
theorem vlV_pure (v : Vl) : (vlV v).pure = true := rfl
theorem op_value_Fits (a : At) (ha : shAt a) (v : Vl) (bx) : callOp CC (callL CC) 17 [attV a, vlV v] bx = some (.ret (.int .i64 (ftV a v)), bx) := by
  obtain ⟨b, h⟩ := call_value_Fits a ha v
  exact callOp_of rfl (by show ((attV a).pure && ((vlV v).pure && true)) = true; rw [attV_pure]; rfl) h rfl
theorem op_R20_Fits (a : At) (ha : shAt a) (v : Vl) (bx) : callOp CC (callL CC) 18 [attV a, vlV v] bx = some (.ret (.int .i64 (ftV a v)), bx) := by
  obtain ⟨b, h⟩ := call_R20_Fits a ha v
  exact callOp_of rfl (by show ((attV a).pure && ((vlV v).pure && true)) = true; rw [attV_pure]; rfl) h rfl
theorem ok_value_Limit : fnOK CC Tryd.f21 (Tryd.f21.body.getD .skip) = true := by kernel_rfl
theorem fat_value_Limit : CC.P.funcs[21]? = some Tryd.f21 := by kernel_rfl
theorem ok_R20_Limit : fnOK CC Tryd.f22 (Tryd.f22.body.getD .skip) = true := by kernel_rfl
theorem fat_R20_Limit : CC.P.funcs[22]? = some Tryd.f22 := by kernel_rfl
theorem ok_value_Zero : fnOK CC Tryd.f19 (Tryd.f19.body.getD .skip) = true := by kernel_rfl
theorem fat_value_Zero : CC.P.funcs[19]? = some Tryd.f19 := by kernel_rfl
theorem ok_R20_Zero : fnOK CC Tryd.f20 (Tryd.f20.body.getD .skip) = true := by kernel_rfl
theorem fat_R20_Zero : CC.P.funcs[20]? = some Tryd.f20 := by kernel_rfl
theorem VLf : zeroCells CC 26 = some [.int .i64 0, .int .i64 0, .str []] := by kernel_rfl
theorem buildVl1 (k : Int) : buildP CC 26 [(0, .int .i64 k)] = some (.agg [.int .i64 k, .int .i64 0, .str []]) := by
  have h := (by kernel_rfl : CC.P.underlying 26 = some (.struct ((match Tryd.prog.underlying 26 with | some (.struct f) => f | _ => #[]))))
  have hz : tZero CC 26 = some (.agg [.int .i64 0, .int .i64 0, .str []]) := by kernel_rfl
  have hp : ((match Tryd.prog.underlying 26 with | some (.struct f) => f | _ => #[]) : Array Field).toList.mapM (fun f => (tSize CC f.type).map fun s => (f.offset, s)) = some [(0, 1), (1, 1), (2, 1)] := by kernel_rfl
  unfold buildP
  rw [h, hz]
  simp only [hp]
  rfl
theorem buildVl2 (k n : Int) : buildP CC 26 [(0, .int .i64 k), (1, .int .i64 n)] = some (.agg [.int .i64 k, .int .i64 n, .str []]) := by
  have h := (by kernel_rfl : CC.P.underlying 26 = some (.struct ((match Tryd.prog.underlying 26 with | some (.struct f) => f | _ => #[]))))
  have hz : tZero CC 26 = some (.agg [.int .i64 0, .int .i64 0, .str []]) := by kernel_rfl
  have hp : ((match Tryd.prog.underlying 26 with | some (.struct f) => f | _ => #[]) : Array Field).toList.mapM (fun f => (tSize CC f.type).map fun s => (f.offset, s)) = some [(0, 1), (1, 1), (2, 1)] := by kernel_rfl
  unfold buildP
  rw [h, hz]
  simp only [hp]
  rfl
theorem buildVl0 : buildP CC 26 [] = some (.agg [.int .i64 0, .int .i64 0, .str []]) := by kernel_rfl
noncomputable def limV (a : At) (v : Vl) : Vl := if dfV a = 0 ∧ a.kd = 2 ∧ v.1 = 2 then (2, clampI v.2.1 a.mn a.mx, v.2.2) else v
noncomputable def zroV (a : At) : Vl := if dfV a ≠ 0 then (0, 0, []) else limV a (a.kd, 0, [])
theorem call_value_Limit (a : At) (ha : shAt a) (v : Vl) : ∃ bx, callL CC 21 [attV a, vlV v] [] = some (.ret (vlV (limV a v)), bx) := by
  rw [callL_enter (fn := Tryd.f21) (c := Tryd.f21.body.getD .skip) rfl rfl fat_value_Limit rfl ok_value_Limit (Nat.le_of_ble_eq_true rfl)]
  have hd := op_value_Def a ha
  have hcl := op_num_Clamp v.2.1 a.mn a.mx
  unfold limV
  generalize dfV a = d at *
  obtain ⟨nm, kd, mn, mx, en, wr, sf⟩ := a
  obtain ⟨k, n, s⟩ := v
  unfold attV at *
  simp only at *
  have hln := strs_length en
  have hpu := strs_pure en
  have hz : True := trivial
  obtain ⟨tu, htu⟩ := VLs
  obtain ⟨ta, hta⟩ := ATs
  generalize strs en = xs at *
  generalize clampI n mn mx = cl at *
  by_cases d0 : d = 0
  · have d0' : (d == 0) = true := by simp [d0]
    by_cases k2 : kd = 2
    · have k2' : (kd == 2) = true := by simp [k2]
      by_cases k3 : k = 2
      · have k3' : (k == 2) = true := by simp [k3]
        rw [if_pos ⟨d0, k2, k3⟩]
        subst k3
        unfold vlV
        simp only
        obtain ⟨ev, eo, so, co, ⟨hev, hco⟩, R⟩ := RULES CC; rw [← hev]
        rw [← hco] at hd hcl
        simp only [fpart, part', Tryd.f21, Option.getD]
        simp (maxSteps := 5000000) only [SA, SB, SD, R, guardAt, binP, intP, indexAddrP, elemsOf, readCells, lenP, lenAt, resultsP, resultP, oneOr, reduceCtorEq, reduceIte, Nat.reduceEqDiff, Nat.reduceAdd, Nat.zero_add, Nat.reduceMul, Nat.reduceLT, Nat.reduceLeDiff, Int.reduceLT, Int.reduceNeg, Int.reduceLE, appendP, appendAt, letGo, setLoc, locVal, Int.reduceToNat, boxCells, und, TG, SE, SC, unP, htu, hta, hz, VLf, loadR, loadP, storeR, storeK, storeCellsP, laid, lay, setBox, List.set_cons_zero, List.set_cons_succ, Nat.le_refl, List.take_succ_cons, List.take_zero, List.drop_nil, List.filter_nil, List.cons_append, Int.reduceBEq, Int.reduceBNe, Int.reduceGT, Int.reduceGE, Bool.not_true, Bool.not_false, hd, d0', k2', hcl, hpu]
        exact ⟨_, rfl⟩
      · have k3' : (k == 2) = false := by simpa using k3
        rw [if_neg (fun h => k3 h.2.2)]
        unfold vlV
        simp only
        obtain ⟨ev, eo, so, co, ⟨hev, hco⟩, R⟩ := RULES CC; rw [← hev]
        rw [← hco] at hd
        simp only [fpart, part', Tryd.f21, Option.getD]
        simp (maxSteps := 5000000) only [SA, SB, SD, R, guardAt, binP, intP, indexAddrP, elemsOf, readCells, lenP, lenAt, resultsP, resultP, oneOr, reduceCtorEq, reduceIte, Nat.reduceEqDiff, Nat.reduceAdd, Nat.zero_add, Nat.reduceMul, Nat.reduceLT, Nat.reduceLeDiff, Int.reduceLT, Int.reduceNeg, Int.reduceLE, appendP, appendAt, letGo, setLoc, locVal, Int.reduceToNat, boxCells, und, TG, SE, SC, unP, htu, hta, hz, VLf, loadR, loadP, storeR, storeK, storeCellsP, laid, lay, setBox, List.set_cons_zero, List.set_cons_succ, Nat.le_refl, List.take_succ_cons, List.take_zero, List.drop_nil, List.filter_nil, List.cons_append, Int.reduceBEq, Int.reduceBNe, Int.reduceGT, Int.reduceGE, Bool.not_true, Bool.not_false, hd, d0', k2', k3', hpu]
        exact ⟨_, rfl⟩
    · have k2' : (kd == 2) = false := by simpa using k2
      rw [if_neg (fun h => k2 h.2.1)]
      unfold vlV
      simp only
      obtain ⟨ev, eo, so, co, ⟨hev, hco⟩, R⟩ := RULES CC; rw [← hev]
      rw [← hco] at hd
      simp only [fpart, part', Tryd.f21, Option.getD]
      simp (maxSteps := 5000000) only [SA, SB, SD, R, guardAt, binP, intP, indexAddrP, elemsOf, readCells, lenP, lenAt, resultsP, resultP, oneOr, reduceCtorEq, reduceIte, Nat.reduceEqDiff, Nat.reduceAdd, Nat.zero_add, Nat.reduceMul, Nat.reduceLT, Nat.reduceLeDiff, Int.reduceLT, Int.reduceNeg, Int.reduceLE, appendP, appendAt, letGo, setLoc, locVal, Int.reduceToNat, boxCells, und, TG, SE, SC, unP, htu, hta, hz, VLf, loadR, loadP, storeR, storeK, storeCellsP, laid, lay, setBox, List.set_cons_zero, List.set_cons_succ, Nat.le_refl, List.take_succ_cons, List.take_zero, List.drop_nil, List.filter_nil, List.cons_append, Int.reduceBEq, Int.reduceBNe, Int.reduceGT, Int.reduceGE, Bool.not_true, Bool.not_false, hd, d0', k2', hpu]
      exact ⟨_, rfl⟩
  · have d0' : (d == 0) = false := by simpa using d0
    rw [if_neg (fun h => d0 h.1)]
    unfold vlV
    simp only
    obtain ⟨ev, eo, so, co, ⟨hev, hco⟩, R⟩ := RULES CC; rw [← hev]
    rw [← hco] at hd
    simp only [fpart, part', Tryd.f21, Option.getD]
    simp (maxSteps := 5000000) only [SA, SB, SD, R, guardAt, binP, intP, indexAddrP, elemsOf, readCells, lenP, lenAt, resultsP, resultP, oneOr, reduceCtorEq, reduceIte, Nat.reduceEqDiff, Nat.reduceAdd, Nat.zero_add, Nat.reduceMul, Nat.reduceLT, Nat.reduceLeDiff, Int.reduceLT, Int.reduceNeg, Int.reduceLE, appendP, appendAt, letGo, setLoc, locVal, Int.reduceToNat, boxCells, und, TG, SE, SC, unP, htu, hta, hz, VLf, loadR, loadP, storeR, storeK, storeCellsP, laid, lay, setBox, List.set_cons_zero, List.set_cons_succ, Nat.le_refl, List.take_succ_cons, List.take_zero, List.drop_nil, List.filter_nil, List.cons_append, Int.reduceBEq, Int.reduceBNe, Int.reduceGT, Int.reduceGE, Bool.not_true, Bool.not_false, hd, d0', hpu]
    exact ⟨_, rfl⟩
theorem op_value_Limit (a : At) (ha : shAt a) (v : Vl) (bx) : callOp CC (callL CC) 21 [attV a, vlV v] bx = some (.ret (vlV (limV a v)), bx) := by
  obtain ⟨b, h⟩ := call_value_Limit a ha v
  exact callOp_of rfl (by show ((attV a).pure && ((vlV v).pure && true)) = true; rw [attV_pure]; rfl) h rfl
theorem call_R20_Limit (a : At) (ha : shAt a) (v : Vl) : ∃ bx, callL CC 22 [attV a, vlV v] [] = some (.ret (vlV (limV a v)), bx) := by
  rw [callL_enter (fn := Tryd.f22) (c := Tryd.f22.body.getD .skip) rfl rfl fat_R20_Limit rfl ok_R20_Limit (Nat.le_of_ble_eq_true rfl)]
  have hd := op_R20_Def a ha
  have hbd := df_bd (a := a)
  unfold limV clampI
  generalize dfV a = d at *
  obtain ⟨nm, kd, mn, mx, en, wr, sf⟩ := a
  obtain ⟨k, n, s⟩ := v
  unfold attV at *
  simp only at *
  have hln := strs_length en
  have hpu := strs_pure en
  have hz : True := trivial
  obtain ⟨tu, htu⟩ := VLs
  obtain ⟨ta, hta⟩ := ATs
  generalize strs en = xs at *
  by_cases d0 : d = 0
  · have d0' : (d != 0) = false := by simp [d0]
    by_cases k2 : kd = 2
    · have k2' : (kd != 2) = false := by simp [k2]
      by_cases k3 : k = 2
      · have k3' : (k != 2) = false := by simp [k3]
        rw [if_pos ⟨d0, k2, k3⟩]
        subst k3
        obtain ⟨_, _, hle⟩ := hbd d0 k2
        clear hbd
        by_cases n1 : n < mn
        · have n2 : ¬ mn > mx := by omega
          rw [if_neg (by omega), if_pos n1]
          unfold vlV
          simp only
          obtain ⟨ev, eo, so, co, ⟨hev, hco⟩, R⟩ := RULES CC; rw [← hev]
          rw [← hco] at hd
          simp only [fpart, part', Tryd.f22, Option.getD]
          simp (maxSteps := 5000000) only [SA, SB, SD, R, guardAt, binP, intP, indexAddrP, elemsOf, readCells, lenP, lenAt, resultsP, resultP, oneOr, reduceCtorEq, reduceIte, Nat.reduceEqDiff, Nat.reduceAdd, Nat.zero_add, Nat.reduceMul, Nat.reduceLT, Nat.reduceLeDiff, Int.reduceLT, Int.reduceNeg, Int.reduceLE, appendP, appendAt, letGo, setLoc, locVal, Int.reduceToNat, boxCells, und, TG, SE, SC, unP, htu, hta, hz, VLf, loadR, loadP, storeR, storeK, storeCellsP, laid, lay, setBox, List.set_cons_zero, List.set_cons_succ, Nat.le_refl, List.take_succ_cons, List.take_zero, List.drop_nil, List.filter_nil, List.cons_append, Int.reduceBEq, Int.reduceBNe, Int.reduceGT, Int.reduceGE, Bool.not_true, Bool.not_false, hd, d0', k2', n1, n2, hpu]
          exact ⟨_, rfl⟩
        · by_cases n2 : n > mx
          · rw [if_pos (.inr n2)]
            unfold vlV
            simp only
            obtain ⟨ev, eo, so, co, ⟨hev, hco⟩, R⟩ := RULES CC; rw [← hev]
            rw [← hco] at hd
            simp only [fpart, part', Tryd.f22, Option.getD]
            simp (maxSteps := 5000000) only [SA, SB, SD, R, guardAt, binP, intP, indexAddrP, elemsOf, readCells, lenP, lenAt, resultsP, resultP, oneOr, reduceCtorEq, reduceIte, Nat.reduceEqDiff, Nat.reduceAdd, Nat.zero_add, Nat.reduceMul, Nat.reduceLT, Nat.reduceLeDiff, Int.reduceLT, Int.reduceNeg, Int.reduceLE, appendP, appendAt, letGo, setLoc, locVal, Int.reduceToNat, boxCells, und, TG, SE, SC, unP, htu, hta, hz, VLf, loadR, loadP, storeR, storeK, storeCellsP, laid, lay, setBox, List.set_cons_zero, List.set_cons_succ, Nat.le_refl, List.take_succ_cons, List.take_zero, List.drop_nil, List.filter_nil, List.cons_append, Int.reduceBEq, Int.reduceBNe, Int.reduceGT, Int.reduceGE, Bool.not_true, Bool.not_false, hd, d0', k2', n1, n2, hpu]
            exact ⟨_, rfl⟩
          · rw [if_neg (by omega), if_neg n1]
            unfold vlV
            simp only
            obtain ⟨ev, eo, so, co, ⟨hev, hco⟩, R⟩ := RULES CC; rw [← hev]
            rw [← hco] at hd
            simp only [fpart, part', Tryd.f22, Option.getD]
            simp (maxSteps := 5000000) only [SA, SB, SD, R, guardAt, binP, intP, indexAddrP, elemsOf, readCells, lenP, lenAt, resultsP, resultP, oneOr, reduceCtorEq, reduceIte, Nat.reduceEqDiff, Nat.reduceAdd, Nat.zero_add, Nat.reduceMul, Nat.reduceLT, Nat.reduceLeDiff, Int.reduceLT, Int.reduceNeg, Int.reduceLE, appendP, appendAt, letGo, setLoc, locVal, Int.reduceToNat, boxCells, und, TG, SE, SC, unP, htu, hta, hz, VLf, loadR, loadP, storeR, storeK, storeCellsP, laid, lay, setBox, List.set_cons_zero, List.set_cons_succ, Nat.le_refl, List.take_succ_cons, List.take_zero, List.drop_nil, List.filter_nil, List.cons_append, Int.reduceBEq, Int.reduceBNe, Int.reduceGT, Int.reduceGE, Bool.not_true, Bool.not_false, hd, d0', k2', n1, n2, hpu]
            exact ⟨_, rfl⟩
      · have k3' : (k != 2) = true := by simpa using k3
        rw [if_neg (fun h => k3 h.2.2)]
        unfold vlV
        simp only
        clear hbd
        obtain ⟨ev, eo, so, co, ⟨hev, hco⟩, R⟩ := RULES CC; rw [← hev]
        rw [← hco] at hd
        simp only [fpart, part', Tryd.f22, Option.getD]
        simp (maxSteps := 5000000) only [SA, SB, SD, R, guardAt, binP, intP, indexAddrP, elemsOf, readCells, lenP, lenAt, resultsP, resultP, oneOr, reduceCtorEq, reduceIte, Nat.reduceEqDiff, Nat.reduceAdd, Nat.zero_add, Nat.reduceMul, Nat.reduceLT, Nat.reduceLeDiff, Int.reduceLT, Int.reduceNeg, Int.reduceLE, appendP, appendAt, letGo, setLoc, locVal, Int.reduceToNat, boxCells, und, TG, SE, SC, unP, htu, hta, hz, VLf, loadR, loadP, storeR, storeK, storeCellsP, laid, lay, setBox, List.set_cons_zero, List.set_cons_succ, Nat.le_refl, List.take_succ_cons, List.take_zero, List.drop_nil, List.filter_nil, List.cons_append, Int.reduceBEq, Int.reduceBNe, Int.reduceGT, Int.reduceGE, Bool.not_true, Bool.not_false, hd, d0', k2', k3', hpu]
        exact ⟨_, rfl⟩
    · have k2' : (kd != 2) = true := by simpa using k2
      rw [if_neg (fun h => k2 h.2.1)]
      unfold vlV
      simp only
      clear hbd
      obtain ⟨ev, eo, so, co, ⟨hev, hco⟩, R⟩ := RULES CC; rw [← hev]
      rw [← hco] at hd
      simp only [fpart, part', Tryd.f22, Option.getD]
      simp (maxSteps := 5000000) only [SA, SB, SD, R, guardAt, binP, intP, indexAddrP, elemsOf, readCells, lenP, lenAt, resultsP, resultP, oneOr, reduceCtorEq, reduceIte, Nat.reduceEqDiff, Nat.reduceAdd, Nat.zero_add, Nat.reduceMul, Nat.reduceLT, Nat.reduceLeDiff, Int.reduceLT, Int.reduceNeg, Int.reduceLE, appendP, appendAt, letGo, setLoc, locVal, Int.reduceToNat, boxCells, und, TG, SE, SC, unP, htu, hta, hz, VLf, loadR, loadP, storeR, storeK, storeCellsP, laid, lay, setBox, List.set_cons_zero, List.set_cons_succ, Nat.le_refl, List.take_succ_cons, List.take_zero, List.drop_nil, List.filter_nil, List.cons_append, Int.reduceBEq, Int.reduceBNe, Int.reduceGT, Int.reduceGE, Bool.not_true, Bool.not_false, hd, d0', k2', hpu]
      exact ⟨_, rfl⟩
  · have d0' : (d != 0) = true := by simpa using d0
    rw [if_neg (fun h => d0 h.1)]
    unfold vlV
    simp only
    clear hbd
    obtain ⟨ev, eo, so, co, ⟨hev, hco⟩, R⟩ := RULES CC; rw [← hev]
    rw [← hco] at hd
    simp only [fpart, part', Tryd.f22, Option.getD]
    simp (maxSteps := 5000000) only [SA, SB, SD, R, guardAt, binP, intP, indexAddrP, elemsOf, readCells, lenP, lenAt, resultsP, resultP, oneOr, reduceCtorEq, reduceIte, Nat.reduceEqDiff, Nat.reduceAdd, Nat.zero_add, Nat.reduceMul, Nat.reduceLT, Nat.reduceLeDiff, Int.reduceLT, Int.reduceNeg, Int.reduceLE, appendP, appendAt, letGo, setLoc, locVal, Int.reduceToNat, boxCells, und, TG, SE, SC, unP, htu, hta, hz, VLf, loadR, loadP, storeR, storeK, storeCellsP, laid, lay, setBox, List.set_cons_zero, List.set_cons_succ, Nat.le_refl, List.take_succ_cons, List.take_zero, List.drop_nil, List.filter_nil, List.cons_append, Int.reduceBEq, Int.reduceBNe, Int.reduceGT, Int.reduceGE, Bool.not_true, Bool.not_false, hd, d0', hpu]
    exact ⟨_, rfl⟩
theorem op_R20_Limit (a : At) (ha : shAt a) (v : Vl) (bx) : callOp CC (callL CC) 22 [attV a, vlV v] bx = some (.ret (vlV (limV a v)), bx) := by
  obtain ⟨b, h⟩ := call_R20_Limit a ha v
  exact callOp_of rfl (by show ((attV a).pure && ((vlV v).pure && true)) = true; rw [attV_pure]; rfl) h rfl
theorem call_value_Zero (a : At) (ha : shAt a) : ∃ bx, callL CC 19 [attV a] [] = some (.ret (vlV (zroV a)), bx) := by
  rw [callL_enter (fn := Tryd.f19) (c := Tryd.f19.body.getD .skip) rfl rfl fat_value_Zero rfl ok_value_Zero (Nat.le_of_ble_eq_true rfl)]
  have hd := op_value_Def a ha
  have hcl := op_num_Clamp 0 a.mn a.mx
  have b0 := buildVl0
  have b1 := buildVl1 a.kd
  unfold zroV limV
  generalize dfV a = d at *
  obtain ⟨nm, kd, mn, mx, en, wr, sf⟩ := a
  unfold attV at *
  simp only at *
  have hln := strs_length en
  have hpu := strs_pure en
  have hz : True := trivial
  obtain ⟨tu, htu⟩ := VLs
  obtain ⟨ta, hta⟩ := ATs
  generalize strs en = xs at *
  generalize clampI 0 mn mx = cl at *
  by_cases d0 : d = 0
  · have d0' : (d != 0) = false := by simp [d0]
    rw [if_neg (fun h => h d0)]
    by_cases k2 : kd = 2
    · subst k2
      rw [if_pos ⟨d0, rfl, rfl⟩]
      unfold vlV
      simp only
      obtain ⟨ev, eo, so, co, ⟨hev, hco⟩, R⟩ := RULES CC; rw [← hev]
      rw [← hco] at hd hcl
      simp only [fpart, part', Tryd.f19, Option.getD]
      simp (maxSteps := 5000000) only [SA, SB, SD, R, guardAt, binP, intP, indexAddrP, elemsOf, readCells, lenP, lenAt, resultsP, resultP, oneOr, reduceCtorEq, reduceIte, Nat.reduceEqDiff, Nat.reduceAdd, Nat.zero_add, Nat.reduceMul, Nat.reduceLT, Nat.reduceLeDiff, Int.reduceLT, Int.reduceNeg, Int.reduceLE, appendP, appendAt, letGo, setLoc, locVal, Int.reduceToNat, boxCells, und, TG, SE, SC, unP, htu, hta, hz, VLf, loadR, loadP, storeR, storeK, storeCellsP, laid, lay, setBox, List.set_cons_zero, List.set_cons_succ, Nat.le_refl, List.take_succ_cons, List.take_zero, List.drop_nil, List.filter_nil, List.cons_append, Int.reduceBEq, Int.reduceBNe, Int.reduceGT, Int.reduceGE, Bool.not_true, Bool.not_false, hd, d0', hcl, b0, b1, hpu]
      exact ⟨_, rfl⟩
    · have k2' : (kd == 2) = false := by simpa using k2
      rw [if_neg (fun h => k2 h.2.1)]
      unfold vlV
      simp only
      obtain ⟨ev, eo, so, co, ⟨hev, hco⟩, R⟩ := RULES CC; rw [← hev]
      rw [← hco] at hd hcl
      simp only [fpart, part', Tryd.f19, Option.getD]
      simp (maxSteps := 5000000) only [SA, SB, SD, R, guardAt, binP, intP, indexAddrP, elemsOf, readCells, lenP, lenAt, resultsP, resultP, oneOr, reduceCtorEq, reduceIte, Nat.reduceEqDiff, Nat.reduceAdd, Nat.zero_add, Nat.reduceMul, Nat.reduceLT, Nat.reduceLeDiff, Int.reduceLT, Int.reduceNeg, Int.reduceLE, appendP, appendAt, letGo, setLoc, locVal, Int.reduceToNat, boxCells, und, TG, SE, SC, unP, htu, hta, hz, VLf, loadR, loadP, storeR, storeK, storeCellsP, laid, lay, setBox, List.set_cons_zero, List.set_cons_succ, Nat.le_refl, List.take_succ_cons, List.take_zero, List.drop_nil, List.filter_nil, List.cons_append, Int.reduceBEq, Int.reduceBNe, Int.reduceGT, Int.reduceGE, Bool.not_true, Bool.not_false, hd, d0', k2', b0, b1, hpu]
      exact ⟨_, rfl⟩
  · have d0' : (d != 0) = true := by simpa using d0
    rw [if_pos d0]
    unfold vlV
    simp only
    obtain ⟨ev, eo, so, co, ⟨hev, hco⟩, R⟩ := RULES CC; rw [← hev]
    rw [← hco] at hd
    simp only [fpart, part', Tryd.f19, Option.getD]
    simp (maxSteps := 5000000) only [SA, SB, SD, R, guardAt, binP, intP, indexAddrP, elemsOf, readCells, lenP, lenAt, resultsP, resultP, oneOr, reduceCtorEq, reduceIte, Nat.reduceEqDiff, Nat.reduceAdd, Nat.zero_add, Nat.reduceMul, Nat.reduceLT, Nat.reduceLeDiff, Int.reduceLT, Int.reduceNeg, Int.reduceLE, appendP, appendAt, letGo, setLoc, locVal, Int.reduceToNat, boxCells, und, TG, SE, SC, unP, htu, hta, hz, VLf, loadR, loadP, storeR, storeK, storeCellsP, laid, lay, setBox, List.set_cons_zero, List.set_cons_succ, Nat.le_refl, List.take_succ_cons, List.take_zero, List.drop_nil, List.filter_nil, List.cons_append, Int.reduceBEq, Int.reduceBNe, Int.reduceGT, Int.reduceGE, Bool.not_true, Bool.not_false, hd, d0', b0, b1, hpu]
    exact ⟨_, rfl⟩
theorem op_value_Zero (a : At) (ha : shAt a) (bx) : callOp CC (callL CC) 19 [attV a] bx = some (.ret (vlV (zroV a)), bx) := by
  obtain ⟨b, h⟩ := call_value_Zero a ha
  exact callOp_of rfl (by show ((attV a).pure && true) = true; rw [attV_pure]; rfl) h rfl
theorem call_R20_Zero (a : At) (ha : shAt a) : ∃ bx, callL CC 20 [attV a] [] = some (.ret (vlV (zroV a)), bx) := by
  rw [callL_enter (fn := Tryd.f20) (c := Tryd.f20.body.getD .skip) rfl rfl fat_R20_Zero rfl ok_R20_Zero (Nat.le_of_ble_eq_true rfl)]
  have hd := op_R20_Def a ha
  have hli := op_R20_Limit a ha (a.kd, 0, [])
  have b0 := buildVl0
  have b1 := buildVl1 a.kd
  unfold zroV
  generalize dfV a = d at *
  generalize limV a (a.kd, 0, []) = li at *
  obtain ⟨nm, kd, mn, mx, en, wr, sf⟩ := a
  obtain ⟨l1, l2, l3⟩ := li
  unfold attV at *
  unfold vlV at *
  simp only at *
  have hln := strs_length en
  have hpu := strs_pure en
  have hz : True := trivial
  obtain ⟨tu, htu⟩ := VLs
  obtain ⟨ta, hta⟩ := ATs
  generalize strs en = xs at *
  by_cases d0 : d = 0
  · have d0' : (d != 0) = false := by simp [d0]
    rw [if_neg (fun h => h d0)]
    obtain ⟨ev, eo, so, co, ⟨hev, hco⟩, R⟩ := RULES CC; rw [← hev]
    rw [← hco] at hd hli
    simp only [fpart, part', Tryd.f20, Option.getD]
    simp (maxSteps := 5000000) only [SA, SB, SD, R, guardAt, binP, intP, indexAddrP, elemsOf, readCells, lenP, lenAt, resultsP, resultP, oneOr, reduceCtorEq, reduceIte, Nat.reduceEqDiff, Nat.reduceAdd, Nat.zero_add, Nat.reduceMul, Nat.reduceLT, Nat.reduceLeDiff, Int.reduceLT, Int.reduceNeg, Int.reduceLE, appendP, appendAt, letGo, setLoc, locVal, Int.reduceToNat, boxCells, und, TG, SE, SC, unP, htu, hta, hz, VLf, loadR, loadP, storeR, storeK, storeCellsP, laid, lay, setBox, List.set_cons_zero, List.set_cons_succ, Nat.le_refl, List.take_succ_cons, List.take_zero, List.drop_nil, List.filter_nil, List.cons_append, Int.reduceBEq, Int.reduceBNe, Int.reduceGT, Int.reduceGE, Bool.not_true, Bool.not_false, hd, d0', hli, b0, b1, hpu]
    exact ⟨_, rfl⟩
  · have d0' : (d != 0) = true := by simpa using d0
    rw [if_pos d0]
    obtain ⟨ev, eo, so, co, ⟨hev, hco⟩, R⟩ := RULES CC; rw [← hev]
    rw [← hco] at hd
    simp only [fpart, part', Tryd.f20, Option.getD]
    simp (maxSteps := 5000000) only [SA, SB, SD, R, guardAt, binP, intP, indexAddrP, elemsOf, readCells, lenP, lenAt, resultsP, resultP, oneOr, reduceCtorEq, reduceIte, Nat.reduceEqDiff, Nat.reduceAdd, Nat.zero_add, Nat.reduceMul, Nat.reduceLT, Nat.reduceLeDiff, Int.reduceLT, Int.reduceNeg, Int.reduceLE, appendP, appendAt, letGo, setLoc, locVal, Int.reduceToNat, boxCells, und, TG, SE, SC, unP, htu, hta, hz, VLf, loadR, loadP, storeR, storeK, storeCellsP, laid, lay, setBox, List.set_cons_zero, List.set_cons_succ, Nat.le_refl, List.take_succ_cons, List.take_zero, List.drop_nil, List.filter_nil, List.cons_append, Int.reduceBEq, Int.reduceBNe, Int.reduceGT, Int.reduceGE, Bool.not_true, Bool.not_false, hd, d0', b0, b1, hpu]
    exact ⟨_, rfl⟩
theorem op_R20_Zero (a : At) (ha : shAt a) (bx) : callOp CC (callL CC) 20 [attV a] bx = some (.ret (vlV (zroV a)), bx) := by
  obtain ⟨b, h⟩ := call_R20_Zero a ha
  exact callOp_of rfl (by show ((attV a).pure && true) = true; rw [attV_pure]; rfl) h rfl
end Go.HH
