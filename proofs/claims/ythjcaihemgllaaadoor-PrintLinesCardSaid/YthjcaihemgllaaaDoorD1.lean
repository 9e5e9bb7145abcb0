/-
  For one seat, what its law needs of: VB, VC, E0, E1, E2.
-/
import Derived.Test.YthjcaihemgllaaaDoorVA
namespace Go.HH
open Go Go.Proofs
set_option maxRecDepth 100000
set_option linter.unusedSimpArgs false
set_option linter.unusedVariables false
theorem ok_value_inRange : fnOK CC Tryd.f70 (Tryd.f70.body.getD .skip) = true := by kernel_rfl
theorem fat_value_inRange : CC.P.funcs[70]? = some Tryd.f70 := by kernel_rfl
theorem ok_value_Check : fnOK CC Tryd.f54 (Tryd.f54.body.getD .skip) = true := by kernel_rfl
theorem fat_value_Check : CC.P.funcs[54]? = some Tryd.f54 := by kernel_rfl
/-- is a number in the range? -/
def inR (n : Int) : Bool := decide (-1099511627776 ≤ n ∧ n ≤ 1099511627776)
theorem call_value_inRange (n : Int) : callL CC 70 [.int .i64 n] [] = some (.ret (.bool (inR n)), []) := by
  rw [callL_enter (fn := Tryd.f70) (c := Tryd.f70.body.getD .skip) rfl rfl fat_value_inRange rfl ok_value_inRange (Nat.le_of_ble_eq_true rfl)]
  unfold inR
  by_cases c1 : n ≥ -1099511627776
  · by_cases c2 : n ≤ 1099511627776
    · rw [decide_eq_true (show -1099511627776 ≤ n ∧ n ≤ 1099511627776 from ⟨c1, c2⟩)]
      obtain ⟨ev, eo, so, co, ⟨hev, hco⟩, R⟩ := RULES CC; rw [← hev]
      simp only [fpart, part', Tryd.f70, Option.getD]
      simp (maxSteps := 5000000) only [SA, SB, SD, R, guardAt, binP, intP, indexAddrP, elemsOf, readCells, lenP, lenAt, resultsP, resultP, oneOr, reduceCtorEq, reduceIte, Nat.reduceEqDiff, Nat.reduceAdd, Nat.zero_add, Nat.reduceMul, Nat.reduceLT, Nat.reduceLeDiff, Int.reduceLT, Int.reduceNeg, Int.reduceLE, appendP, appendAt, letGo, setLoc, locVal, Int.reduceToNat, boxCells, und, TG, SE, c1, c2]
    · rw [decide_eq_false (show ¬ (-1099511627776 ≤ n ∧ n ≤ 1099511627776) from fun h => c2 h.2)]
      obtain ⟨ev, eo, so, co, ⟨hev, hco⟩, R⟩ := RULES CC; rw [← hev]
      simp only [fpart, part', Tryd.f70, Option.getD]
      simp (maxSteps := 5000000) only [SA, SB, SD, R, guardAt, binP, intP, indexAddrP, elemsOf, readCells, lenP, lenAt, resultsP, resultP, oneOr, reduceCtorEq, reduceIte, Nat.reduceEqDiff, Nat.reduceAdd, Nat.zero_add, Nat.reduceMul, Nat.reduceLT, Nat.reduceLeDiff, Int.reduceLT, Int.reduceNeg, Int.reduceLE, appendP, appendAt, letGo, setLoc, locVal, Int.reduceToNat, boxCells, und, TG, SE, c1, c2]
  · rw [decide_eq_false (show ¬ (-1099511627776 ≤ n ∧ n ≤ 1099511627776) from fun h => c1 h.1)]
    obtain ⟨ev, eo, so, co, ⟨hev, hco⟩, R⟩ := RULES CC; rw [← hev]
    simp only [fpart, part', Tryd.f70, Option.getD]
    simp (maxSteps := 5000000) only [SA, SB, SD, R, guardAt, binP, intP, indexAddrP, elemsOf, readCells, lenP, lenAt, resultsP, resultP, oneOr, reduceCtorEq, reduceIte, Nat.reduceEqDiff, Nat.reduceAdd, Nat.zero_add, Nat.reduceMul, Nat.reduceLT, Nat.reduceLeDiff, Int.reduceLT, Int.reduceNeg, Int.reduceLE, appendP, appendAt, letGo, setLoc, locVal, Int.reduceToNat, boxCells, und, TG, SE, c1]
theorem op_value_inRange (n : Int) (bx) : callOp CC (callL CC) 70 [.int .i64 n] bx = some (.ret (.bool (inR n)), bx) := callOp_of rfl (by simp only [SA, Bool.and_true]) (call_value_inRange n) rfl
/-- is the number of a value right for its kind? -/
def okN (k n : Int) : Option Bool := if k = 0 ∨ k = 4 then some (n == 0) else if k = 1 then some (n == 0 || n == 1) else if k = 2 then some (inR n) else if k = 3 then some (decide (0 ≤ n) && decide (n ≤ 63)) else none
/-- what 'Check' says of a value -/
def ckV (v : Vl) : Int := match okN v.1 v.2.1 with
  | none => 7
  | some false => 2
  | some true => if 60 < v.2.2.length then 3 else if v.2.2 ≠ [] ∧ v.1 ≠ 4 then 4 else 0

theorem ck_v_0 (n : Int) (s : List UInt8) : ∃ bx, callL CC 54 [vlV (0, n, s)] [] = some (.ret (.int .i64 (ckV (0, n, s))), bx) := by
  rw [callL_enter (fn := Tryd.f54) (c := Tryd.f54.body.getD .skip) rfl rfl fat_value_Check rfl ok_value_Check (Nat.le_of_ble_eq_true rfl)]
  have hlen := len_str s
  obtain ⟨tu, htu⟩ := VLs
  unfold ckV vlV
  simp only
  by_cases c1 : n = 0
  · subst c1
    have ok : okN 0 0 = some true := rfl
    rw [ok]
    by_cases d1 : 60 < s.length
    · have d1p : (s.length : Int) > 60 := by omega
      simp only [if_pos d1]
      obtain ⟨ev, eo, so, co, ⟨hev, hco⟩, R⟩ := RULES CC; rw [← hev]
      skip
      simp only [fpart, part', Tryd.f54, Option.getD]
      simp (maxSteps := 5000000) only [SA, SB, SD, R, guardAt, binP, intP, indexAddrP, elemsOf, readCells, lenP, lenAt, resultsP, resultP, oneOr, reduceCtorEq, reduceIte, Nat.reduceEqDiff, Nat.reduceAdd, Nat.zero_add, Nat.reduceMul, Nat.reduceLT, Nat.reduceLeDiff, Int.reduceLT, Int.reduceNeg, Int.reduceLE, appendP, appendAt, letGo, setLoc, locVal, Int.reduceToNat, boxCells, und, TG, SE, SC, unP, htu, hlen, loadR, loadP, lay, List.take_succ_cons, List.take_zero, List.drop_nil, List.filter_nil, List.cons_append, Int.reduceBEq, Int.reduceBNe, Bool.not_true, Bool.not_false, d1p]
      exact ⟨_, rfl⟩
    · have d1p : ¬ (s.length : Int) > 60 := by omega
      simp only [if_neg d1]
      have hsq := strP_neq s []
      by_cases d2 : s = []
      · rw [if_neg (fun h => h.1 d2)]
        rw [show (!(s == [])) = false by rw [d2]; rfl] at hsq
        obtain ⟨ev, eo, so, co, ⟨hev, hco⟩, R⟩ := RULES CC; rw [← hev]
        skip
        simp only [fpart, part', Tryd.f54, Option.getD]
        simp (maxSteps := 5000000) only [SA, SB, SD, R, guardAt, binP, intP, indexAddrP, elemsOf, readCells, lenP, lenAt, resultsP, resultP, oneOr, reduceCtorEq, reduceIte, Nat.reduceEqDiff, Nat.reduceAdd, Nat.zero_add, Nat.reduceMul, Nat.reduceLT, Nat.reduceLeDiff, Int.reduceLT, Int.reduceNeg, Int.reduceLE, appendP, appendAt, letGo, setLoc, locVal, Int.reduceToNat, boxCells, und, TG, SE, SC, unP, htu, hlen, loadR, loadP, lay, List.take_succ_cons, List.take_zero, List.drop_nil, List.filter_nil, List.cons_append, Int.reduceBEq, Int.reduceBNe, Bool.not_true, Bool.not_false, d1p, hsq]
        exact ⟨_, rfl⟩
      · rw [if_pos ⟨d2, by omega⟩]
        rw [show (!(s == [])) = true by simpa using d2] at hsq
        obtain ⟨ev, eo, so, co, ⟨hev, hco⟩, R⟩ := RULES CC; rw [← hev]
        skip
        simp only [fpart, part', Tryd.f54, Option.getD]
        simp (maxSteps := 5000000) only [SA, SB, SD, R, guardAt, binP, intP, indexAddrP, elemsOf, readCells, lenP, lenAt, resultsP, resultP, oneOr, reduceCtorEq, reduceIte, Nat.reduceEqDiff, Nat.reduceAdd, Nat.zero_add, Nat.reduceMul, Nat.reduceLT, Nat.reduceLeDiff, Int.reduceLT, Int.reduceNeg, Int.reduceLE, appendP, appendAt, letGo, setLoc, locVal, Int.reduceToNat, boxCells, und, TG, SE, SC, unP, htu, hlen, loadR, loadP, lay, List.take_succ_cons, List.take_zero, List.drop_nil, List.filter_nil, List.cons_append, Int.reduceBEq, Int.reduceBNe, Bool.not_true, Bool.not_false, d1p, hsq]
        exact ⟨_, rfl⟩
  · have c1p : (n == 0) = false := by simpa using c1
    have ok : okN 0 n = some false := by unfold okN; simpa using c1
    rw [ok]
    dsimp only
    obtain ⟨ev, eo, so, co, ⟨hev, hco⟩, R⟩ := RULES CC; rw [← hev]
    skip
    simp only [fpart, part', Tryd.f54, Option.getD]
    simp (maxSteps := 5000000) only [SA, SB, SD, R, guardAt, binP, intP, indexAddrP, elemsOf, readCells, lenP, lenAt, resultsP, resultP, oneOr, reduceCtorEq, reduceIte, Nat.reduceEqDiff, Nat.reduceAdd, Nat.zero_add, Nat.reduceMul, Nat.reduceLT, Nat.reduceLeDiff, Int.reduceLT, Int.reduceNeg, Int.reduceLE, appendP, appendAt, letGo, setLoc, locVal, Int.reduceToNat, boxCells, und, TG, SE, SC, unP, htu, hlen, loadR, loadP, lay, List.take_succ_cons, List.take_zero, List.drop_nil, List.filter_nil, List.cons_append, Int.reduceBEq, Int.reduceBNe, Bool.not_true, Bool.not_false, c1p]
    exact ⟨_, rfl⟩
theorem ck_v_4 (n : Int) (s : List UInt8) : ∃ bx, callL CC 54 [vlV (4, n, s)] [] = some (.ret (.int .i64 (ckV (4, n, s))), bx) := by
  rw [callL_enter (fn := Tryd.f54) (c := Tryd.f54.body.getD .skip) rfl rfl fat_value_Check rfl ok_value_Check (Nat.le_of_ble_eq_true rfl)]
  have hlen := len_str s
  obtain ⟨tu, htu⟩ := VLs
  unfold ckV vlV
  simp only
  by_cases c1 : n = 0
  · subst c1
    have ok : okN 4 0 = some true := rfl
    rw [ok]
    by_cases d1 : 60 < s.length
    · have d1p : (s.length : Int) > 60 := by omega
      simp only [if_pos d1]
      obtain ⟨ev, eo, so, co, ⟨hev, hco⟩, R⟩ := RULES CC; rw [← hev]
      skip
      simp only [fpart, part', Tryd.f54, Option.getD]
      simp (maxSteps := 5000000) only [SA, SB, SD, R, guardAt, binP, intP, indexAddrP, elemsOf, readCells, lenP, lenAt, resultsP, resultP, oneOr, reduceCtorEq, reduceIte, Nat.reduceEqDiff, Nat.reduceAdd, Nat.zero_add, Nat.reduceMul, Nat.reduceLT, Nat.reduceLeDiff, Int.reduceLT, Int.reduceNeg, Int.reduceLE, appendP, appendAt, letGo, setLoc, locVal, Int.reduceToNat, boxCells, und, TG, SE, SC, unP, htu, hlen, loadR, loadP, lay, List.take_succ_cons, List.take_zero, List.drop_nil, List.filter_nil, List.cons_append, Int.reduceBEq, Int.reduceBNe, Bool.not_true, Bool.not_false, d1p]
      exact ⟨_, rfl⟩
    · have d1p : ¬ (s.length : Int) > 60 := by omega
      simp only [if_neg d1]
      simp only [ne_eq, not_true_eq_false, and_false, if_false]
      have hsq := strP_neq s []
      generalize (!(s == [])) = sb at *
      cases sb
      · skip
        obtain ⟨ev, eo, so, co, ⟨hev, hco⟩, R⟩ := RULES CC; rw [← hev]
        skip
        simp only [fpart, part', Tryd.f54, Option.getD]
        simp (maxSteps := 5000000) only [SA, SB, SD, R, guardAt, binP, intP, indexAddrP, elemsOf, readCells, lenP, lenAt, resultsP, resultP, oneOr, reduceCtorEq, reduceIte, Nat.reduceEqDiff, Nat.reduceAdd, Nat.zero_add, Nat.reduceMul, Nat.reduceLT, Nat.reduceLeDiff, Int.reduceLT, Int.reduceNeg, Int.reduceLE, appendP, appendAt, letGo, setLoc, locVal, Int.reduceToNat, boxCells, und, TG, SE, SC, unP, htu, hlen, loadR, loadP, lay, List.take_succ_cons, List.take_zero, List.drop_nil, List.filter_nil, List.cons_append, Int.reduceBEq, Int.reduceBNe, Bool.not_true, Bool.not_false, d1p, hsq]
        exact ⟨_, rfl⟩
      · skip
        obtain ⟨ev, eo, so, co, ⟨hev, hco⟩, R⟩ := RULES CC; rw [← hev]
        skip
        simp only [fpart, part', Tryd.f54, Option.getD]
        simp (maxSteps := 5000000) only [SA, SB, SD, R, guardAt, binP, intP, indexAddrP, elemsOf, readCells, lenP, lenAt, resultsP, resultP, oneOr, reduceCtorEq, reduceIte, Nat.reduceEqDiff, Nat.reduceAdd, Nat.zero_add, Nat.reduceMul, Nat.reduceLT, Nat.reduceLeDiff, Int.reduceLT, Int.reduceNeg, Int.reduceLE, appendP, appendAt, letGo, setLoc, locVal, Int.reduceToNat, boxCells, und, TG, SE, SC, unP, htu, hlen, loadR, loadP, lay, List.take_succ_cons, List.take_zero, List.drop_nil, List.filter_nil, List.cons_append, Int.reduceBEq, Int.reduceBNe, Bool.not_true, Bool.not_false, d1p, hsq]
        exact ⟨_, rfl⟩
  · have c1p : (n == 0) = false := by simpa using c1
    have ok : okN 4 n = some false := by unfold okN; simpa using c1
    rw [ok]
    dsimp only
    obtain ⟨ev, eo, so, co, ⟨hev, hco⟩, R⟩ := RULES CC; rw [← hev]
    skip
    simp only [fpart, part', Tryd.f54, Option.getD]
    simp (maxSteps := 5000000) only [SA, SB, SD, R, guardAt, binP, intP, indexAddrP, elemsOf, readCells, lenP, lenAt, resultsP, resultP, oneOr, reduceCtorEq, reduceIte, Nat.reduceEqDiff, Nat.reduceAdd, Nat.zero_add, Nat.reduceMul, Nat.reduceLT, Nat.reduceLeDiff, Int.reduceLT, Int.reduceNeg, Int.reduceLE, appendP, appendAt, letGo, setLoc, locVal, Int.reduceToNat, boxCells, und, TG, SE, SC, unP, htu, hlen, loadR, loadP, lay, List.take_succ_cons, List.take_zero, List.drop_nil, List.filter_nil, List.cons_append, Int.reduceBEq, Int.reduceBNe, Bool.not_true, Bool.not_false, c1p]
    exact ⟨_, rfl⟩
theorem ck_v_1 (n : Int) (s : List UInt8) : ∃ bx, callL CC 54 [vlV (1, n, s)] [] = some (.ret (.int .i64 (ckV (1, n, s))), bx) := by
  rw [callL_enter (fn := Tryd.f54) (c := Tryd.f54.body.getD .skip) rfl rfl fat_value_Check rfl ok_value_Check (Nat.le_of_ble_eq_true rfl)]
  have hlen := len_str s
  obtain ⟨tu, htu⟩ := VLs
  unfold ckV vlV
  simp only
  by_cases c1 : n = 0
  · subst c1
    have ok : okN 1 0 = some true := rfl
    rw [ok]
    by_cases d1 : 60 < s.length
    · have d1p : (s.length : Int) > 60 := by omega
      simp only [if_pos d1]
      obtain ⟨ev, eo, so, co, ⟨hev, hco⟩, R⟩ := RULES CC; rw [← hev]
      skip
      simp only [fpart, part', Tryd.f54, Option.getD]
      simp (maxSteps := 5000000) only [SA, SB, SD, R, guardAt, binP, intP, indexAddrP, elemsOf, readCells, lenP, lenAt, resultsP, resultP, oneOr, reduceCtorEq, reduceIte, Nat.reduceEqDiff, Nat.reduceAdd, Nat.zero_add, Nat.reduceMul, Nat.reduceLT, Nat.reduceLeDiff, Int.reduceLT, Int.reduceNeg, Int.reduceLE, appendP, appendAt, letGo, setLoc, locVal, Int.reduceToNat, boxCells, und, TG, SE, SC, unP, htu, hlen, loadR, loadP, lay, List.take_succ_cons, List.take_zero, List.drop_nil, List.filter_nil, List.cons_append, Int.reduceBEq, Int.reduceBNe, Bool.not_true, Bool.not_false, d1p]
      exact ⟨_, rfl⟩
    · have d1p : ¬ (s.length : Int) > 60 := by omega
      simp only [if_neg d1]
      have hsq := strP_neq s []
      by_cases d2 : s = []
      · rw [if_neg (fun h => h.1 d2)]
        rw [show (!(s == [])) = false by rw [d2]; rfl] at hsq
        obtain ⟨ev, eo, so, co, ⟨hev, hco⟩, R⟩ := RULES CC; rw [← hev]
        skip
        simp only [fpart, part', Tryd.f54, Option.getD]
        simp (maxSteps := 5000000) only [SA, SB, SD, R, guardAt, binP, intP, indexAddrP, elemsOf, readCells, lenP, lenAt, resultsP, resultP, oneOr, reduceCtorEq, reduceIte, Nat.reduceEqDiff, Nat.reduceAdd, Nat.zero_add, Nat.reduceMul, Nat.reduceLT, Nat.reduceLeDiff, Int.reduceLT, Int.reduceNeg, Int.reduceLE, appendP, appendAt, letGo, setLoc, locVal, Int.reduceToNat, boxCells, und, TG, SE, SC, unP, htu, hlen, loadR, loadP, lay, List.take_succ_cons, List.take_zero, List.drop_nil, List.filter_nil, List.cons_append, Int.reduceBEq, Int.reduceBNe, Bool.not_true, Bool.not_false, d1p, hsq]
        exact ⟨_, rfl⟩
      · rw [if_pos ⟨d2, by omega⟩]
        rw [show (!(s == [])) = true by simpa using d2] at hsq
        obtain ⟨ev, eo, so, co, ⟨hev, hco⟩, R⟩ := RULES CC; rw [← hev]
        skip
        simp only [fpart, part', Tryd.f54, Option.getD]
        simp (maxSteps := 5000000) only [SA, SB, SD, R, guardAt, binP, intP, indexAddrP, elemsOf, readCells, lenP, lenAt, resultsP, resultP, oneOr, reduceCtorEq, reduceIte, Nat.reduceEqDiff, Nat.reduceAdd, Nat.zero_add, Nat.reduceMul, Nat.reduceLT, Nat.reduceLeDiff, Int.reduceLT, Int.reduceNeg, Int.reduceLE, appendP, appendAt, letGo, setLoc, locVal, Int.reduceToNat, boxCells, und, TG, SE, SC, unP, htu, hlen, loadR, loadP, lay, List.take_succ_cons, List.take_zero, List.drop_nil, List.filter_nil, List.cons_append, Int.reduceBEq, Int.reduceBNe, Bool.not_true, Bool.not_false, d1p, hsq]
        exact ⟨_, rfl⟩
  · have c1p : (n == 0) = false := by simpa using c1
    by_cases c2 : n = 1
    · subst c2
      have ok : okN 1 1 = some true := rfl
      rw [ok]
      by_cases d1 : 60 < s.length
      · have d1p : (s.length : Int) > 60 := by omega
        simp only [if_pos d1]
        obtain ⟨ev, eo, so, co, ⟨hev, hco⟩, R⟩ := RULES CC; rw [← hev]
        skip
        simp only [fpart, part', Tryd.f54, Option.getD]
        simp (maxSteps := 5000000) only [SA, SB, SD, R, guardAt, binP, intP, indexAddrP, elemsOf, readCells, lenP, lenAt, resultsP, resultP, oneOr, reduceCtorEq, reduceIte, Nat.reduceEqDiff, Nat.reduceAdd, Nat.zero_add, Nat.reduceMul, Nat.reduceLT, Nat.reduceLeDiff, Int.reduceLT, Int.reduceNeg, Int.reduceLE, appendP, appendAt, letGo, setLoc, locVal, Int.reduceToNat, boxCells, und, TG, SE, SC, unP, htu, hlen, loadR, loadP, lay, List.take_succ_cons, List.take_zero, List.drop_nil, List.filter_nil, List.cons_append, Int.reduceBEq, Int.reduceBNe, Bool.not_true, Bool.not_false, d1p]
        exact ⟨_, rfl⟩
      · have d1p : ¬ (s.length : Int) > 60 := by omega
        simp only [if_neg d1]
        have hsq := strP_neq s []
        by_cases d2 : s = []
        · rw [if_neg (fun h => h.1 d2)]
          rw [show (!(s == [])) = false by rw [d2]; rfl] at hsq
          obtain ⟨ev, eo, so, co, ⟨hev, hco⟩, R⟩ := RULES CC; rw [← hev]
          skip
          simp only [fpart, part', Tryd.f54, Option.getD]
          simp (maxSteps := 5000000) only [SA, SB, SD, R, guardAt, binP, intP, indexAddrP, elemsOf, readCells, lenP, lenAt, resultsP, resultP, oneOr, reduceCtorEq, reduceIte, Nat.reduceEqDiff, Nat.reduceAdd, Nat.zero_add, Nat.reduceMul, Nat.reduceLT, Nat.reduceLeDiff, Int.reduceLT, Int.reduceNeg, Int.reduceLE, appendP, appendAt, letGo, setLoc, locVal, Int.reduceToNat, boxCells, und, TG, SE, SC, unP, htu, hlen, loadR, loadP, lay, List.take_succ_cons, List.take_zero, List.drop_nil, List.filter_nil, List.cons_append, Int.reduceBEq, Int.reduceBNe, Bool.not_true, Bool.not_false, d1p, hsq]
          exact ⟨_, rfl⟩
        · rw [if_pos ⟨d2, by omega⟩]
          rw [show (!(s == [])) = true by simpa using d2] at hsq
          obtain ⟨ev, eo, so, co, ⟨hev, hco⟩, R⟩ := RULES CC; rw [← hev]
          skip
          simp only [fpart, part', Tryd.f54, Option.getD]
          simp (maxSteps := 5000000) only [SA, SB, SD, R, guardAt, binP, intP, indexAddrP, elemsOf, readCells, lenP, lenAt, resultsP, resultP, oneOr, reduceCtorEq, reduceIte, Nat.reduceEqDiff, Nat.reduceAdd, Nat.zero_add, Nat.reduceMul, Nat.reduceLT, Nat.reduceLeDiff, Int.reduceLT, Int.reduceNeg, Int.reduceLE, appendP, appendAt, letGo, setLoc, locVal, Int.reduceToNat, boxCells, und, TG, SE, SC, unP, htu, hlen, loadR, loadP, lay, List.take_succ_cons, List.take_zero, List.drop_nil, List.filter_nil, List.cons_append, Int.reduceBEq, Int.reduceBNe, Bool.not_true, Bool.not_false, d1p, hsq]
          exact ⟨_, rfl⟩
    · have c2p : (n == 1) = false := by simpa using c2
      have ok : okN 1 n = some false := by unfold okN; simp [c1, c2]
      rw [ok]
      dsimp only
      obtain ⟨ev, eo, so, co, ⟨hev, hco⟩, R⟩ := RULES CC; rw [← hev]
      skip
      simp only [fpart, part', Tryd.f54, Option.getD]
      simp (maxSteps := 5000000) only [SA, SB, SD, R, guardAt, binP, intP, indexAddrP, elemsOf, readCells, lenP, lenAt, resultsP, resultP, oneOr, reduceCtorEq, reduceIte, Nat.reduceEqDiff, Nat.reduceAdd, Nat.zero_add, Nat.reduceMul, Nat.reduceLT, Nat.reduceLeDiff, Int.reduceLT, Int.reduceNeg, Int.reduceLE, appendP, appendAt, letGo, setLoc, locVal, Int.reduceToNat, boxCells, und, TG, SE, SC, unP, htu, hlen, loadR, loadP, lay, List.take_succ_cons, List.take_zero, List.drop_nil, List.filter_nil, List.cons_append, Int.reduceBEq, Int.reduceBNe, Bool.not_true, Bool.not_false, c1p, c2p]
      exact ⟨_, rfl⟩
theorem ck_v_2 (n : Int) (s : List UInt8) : ∃ bx, callL CC 54 [vlV (2, n, s)] [] = some (.ret (.int .i64 (ckV (2, n, s))), bx) := by
  rw [callL_enter (fn := Tryd.f54) (c := Tryd.f54.body.getD .skip) rfl rfl fat_value_Check rfl ok_value_Check (Nat.le_of_ble_eq_true rfl)]
  have hlen := len_str s
  obtain ⟨tu, htu⟩ := VLs
  unfold ckV vlV
  simp only
  have hin := op_value_inRange n
  have ok : okN 2 n = some (inR n) := rfl
  generalize inR n = b at *
  cases b
  · skip
    rw [ok]
    dsimp only
    obtain ⟨ev, eo, so, co, ⟨hev, hco⟩, R⟩ := RULES CC; rw [← hev]
    rw [← hco] at hin
    simp only [fpart, part', Tryd.f54, Option.getD]
    simp (maxSteps := 5000000) only [SA, SB, SD, R, guardAt, binP, intP, indexAddrP, elemsOf, readCells, lenP, lenAt, resultsP, resultP, oneOr, reduceCtorEq, reduceIte, Nat.reduceEqDiff, Nat.reduceAdd, Nat.zero_add, Nat.reduceMul, Nat.reduceLT, Nat.reduceLeDiff, Int.reduceLT, Int.reduceNeg, Int.reduceLE, appendP, appendAt, letGo, setLoc, locVal, Int.reduceToNat, boxCells, und, TG, SE, SC, unP, htu, hlen, loadR, loadP, lay, List.take_succ_cons, List.take_zero, List.drop_nil, List.filter_nil, List.cons_append, Int.reduceBEq, Int.reduceBNe, Bool.not_true, Bool.not_false, hin]
    exact ⟨_, rfl⟩
  · skip
    rw [ok]
    by_cases d1 : 60 < s.length
    · have d1p : (s.length : Int) > 60 := by omega
      simp only [if_pos d1]
      obtain ⟨ev, eo, so, co, ⟨hev, hco⟩, R⟩ := RULES CC; rw [← hev]
      rw [← hco] at hin
      simp only [fpart, part', Tryd.f54, Option.getD]
      simp (maxSteps := 5000000) only [SA, SB, SD, R, guardAt, binP, intP, indexAddrP, elemsOf, readCells, lenP, lenAt, resultsP, resultP, oneOr, reduceCtorEq, reduceIte, Nat.reduceEqDiff, Nat.reduceAdd, Nat.zero_add, Nat.reduceMul, Nat.reduceLT, Nat.reduceLeDiff, Int.reduceLT, Int.reduceNeg, Int.reduceLE, appendP, appendAt, letGo, setLoc, locVal, Int.reduceToNat, boxCells, und, TG, SE, SC, unP, htu, hlen, loadR, loadP, lay, List.take_succ_cons, List.take_zero, List.drop_nil, List.filter_nil, List.cons_append, Int.reduceBEq, Int.reduceBNe, Bool.not_true, Bool.not_false, hin, d1p]
      exact ⟨_, rfl⟩
    · have d1p : ¬ (s.length : Int) > 60 := by omega
      simp only [if_neg d1]
      have hsq := strP_neq s []
      by_cases d2 : s = []
      · rw [if_neg (fun h => h.1 d2)]
        rw [show (!(s == [])) = false by rw [d2]; rfl] at hsq
        obtain ⟨ev, eo, so, co, ⟨hev, hco⟩, R⟩ := RULES CC; rw [← hev]
        rw [← hco] at hin
        simp only [fpart, part', Tryd.f54, Option.getD]
        simp (maxSteps := 5000000) only [SA, SB, SD, R, guardAt, binP, intP, indexAddrP, elemsOf, readCells, lenP, lenAt, resultsP, resultP, oneOr, reduceCtorEq, reduceIte, Nat.reduceEqDiff, Nat.reduceAdd, Nat.zero_add, Nat.reduceMul, Nat.reduceLT, Nat.reduceLeDiff, Int.reduceLT, Int.reduceNeg, Int.reduceLE, appendP, appendAt, letGo, setLoc, locVal, Int.reduceToNat, boxCells, und, TG, SE, SC, unP, htu, hlen, loadR, loadP, lay, List.take_succ_cons, List.take_zero, List.drop_nil, List.filter_nil, List.cons_append, Int.reduceBEq, Int.reduceBNe, Bool.not_true, Bool.not_false, hin, d1p, hsq]
        exact ⟨_, rfl⟩
      · rw [if_pos ⟨d2, by omega⟩]
        rw [show (!(s == [])) = true by simpa using d2] at hsq
        obtain ⟨ev, eo, so, co, ⟨hev, hco⟩, R⟩ := RULES CC; rw [← hev]
        rw [← hco] at hin
        simp only [fpart, part', Tryd.f54, Option.getD]
        simp (maxSteps := 5000000) only [SA, SB, SD, R, guardAt, binP, intP, indexAddrP, elemsOf, readCells, lenP, lenAt, resultsP, resultP, oneOr, reduceCtorEq, reduceIte, Nat.reduceEqDiff, Nat.reduceAdd, Nat.zero_add, Nat.reduceMul, Nat.reduceLT, Nat.reduceLeDiff, Int.reduceLT, Int.reduceNeg, Int.reduceLE, appendP, appendAt, letGo, setLoc, locVal, Int.reduceToNat, boxCells, und, TG, SE, SC, unP, htu, hlen, loadR, loadP, lay, List.take_succ_cons, List.take_zero, List.drop_nil, List.filter_nil, List.cons_append, Int.reduceBEq, Int.reduceBNe, Bool.not_true, Bool.not_false, hin, d1p, hsq]
        exact ⟨_, rfl⟩
theorem ck_v_3 (n : Int) (s : List UInt8) : ∃ bx, callL CC 54 [vlV (3, n, s)] [] = some (.ret (.int .i64 (ckV (3, n, s))), bx) := by
  rw [callL_enter (fn := Tryd.f54) (c := Tryd.f54.body.getD .skip) rfl rfl fat_value_Check rfl ok_value_Check (Nat.le_of_ble_eq_true rfl)]
  have hlen := len_str s
  obtain ⟨tu, htu⟩ := VLs
  unfold ckV vlV
  simp only
  by_cases c1 : n ≥ 0
  · by_cases c2 : n ≤ 63
    · have ok : okN 3 n = some true := by unfold okN; simp; omega
      rw [ok]
      by_cases d1 : 60 < s.length
      · have d1p : (s.length : Int) > 60 := by omega
        simp only [if_pos d1]
        obtain ⟨ev, eo, so, co, ⟨hev, hco⟩, R⟩ := RULES CC; rw [← hev]
        skip
        simp only [fpart, part', Tryd.f54, Option.getD]
        simp (maxSteps := 5000000) only [SA, SB, SD, R, guardAt, binP, intP, indexAddrP, elemsOf, readCells, lenP, lenAt, resultsP, resultP, oneOr, reduceCtorEq, reduceIte, Nat.reduceEqDiff, Nat.reduceAdd, Nat.zero_add, Nat.reduceMul, Nat.reduceLT, Nat.reduceLeDiff, Int.reduceLT, Int.reduceNeg, Int.reduceLE, appendP, appendAt, letGo, setLoc, locVal, Int.reduceToNat, boxCells, und, TG, SE, SC, unP, htu, hlen, loadR, loadP, lay, List.take_succ_cons, List.take_zero, List.drop_nil, List.filter_nil, List.cons_append, Int.reduceBEq, Int.reduceBNe, Bool.not_true, Bool.not_false, c1, c2, d1p]
        exact ⟨_, rfl⟩
      · have d1p : ¬ (s.length : Int) > 60 := by omega
        simp only [if_neg d1]
        have hsq := strP_neq s []
        by_cases d2 : s = []
        · rw [if_neg (fun h => h.1 d2)]
          rw [show (!(s == [])) = false by rw [d2]; rfl] at hsq
          obtain ⟨ev, eo, so, co, ⟨hev, hco⟩, R⟩ := RULES CC; rw [← hev]
          skip
          simp only [fpart, part', Tryd.f54, Option.getD]
          simp (maxSteps := 5000000) only [SA, SB, SD, R, guardAt, binP, intP, indexAddrP, elemsOf, readCells, lenP, lenAt, resultsP, resultP, oneOr, reduceCtorEq, reduceIte, Nat.reduceEqDiff, Nat.reduceAdd, Nat.zero_add, Nat.reduceMul, Nat.reduceLT, Nat.reduceLeDiff, Int.reduceLT, Int.reduceNeg, Int.reduceLE, appendP, appendAt, letGo, setLoc, locVal, Int.reduceToNat, boxCells, und, TG, SE, SC, unP, htu, hlen, loadR, loadP, lay, List.take_succ_cons, List.take_zero, List.drop_nil, List.filter_nil, List.cons_append, Int.reduceBEq, Int.reduceBNe, Bool.not_true, Bool.not_false, c1, c2, d1p, hsq]
          exact ⟨_, rfl⟩
        · rw [if_pos ⟨d2, by omega⟩]
          rw [show (!(s == [])) = true by simpa using d2] at hsq
          obtain ⟨ev, eo, so, co, ⟨hev, hco⟩, R⟩ := RULES CC; rw [← hev]
          skip
          simp only [fpart, part', Tryd.f54, Option.getD]
          simp (maxSteps := 5000000) only [SA, SB, SD, R, guardAt, binP, intP, indexAddrP, elemsOf, readCells, lenP, lenAt, resultsP, resultP, oneOr, reduceCtorEq, reduceIte, Nat.reduceEqDiff, Nat.reduceAdd, Nat.zero_add, Nat.reduceMul, Nat.reduceLT, Nat.reduceLeDiff, Int.reduceLT, Int.reduceNeg, Int.reduceLE, appendP, appendAt, letGo, setLoc, locVal, Int.reduceToNat, boxCells, und, TG, SE, SC, unP, htu, hlen, loadR, loadP, lay, List.take_succ_cons, List.take_zero, List.drop_nil, List.filter_nil, List.cons_append, Int.reduceBEq, Int.reduceBNe, Bool.not_true, Bool.not_false, c1, c2, d1p, hsq]
          exact ⟨_, rfl⟩
    · have ok : okN 3 n = some false := by unfold okN; simp; omega
      rw [ok]
      dsimp only
      obtain ⟨ev, eo, so, co, ⟨hev, hco⟩, R⟩ := RULES CC; rw [← hev]
      skip
      simp only [fpart, part', Tryd.f54, Option.getD]
      simp (maxSteps := 5000000) only [SA, SB, SD, R, guardAt, binP, intP, indexAddrP, elemsOf, readCells, lenP, lenAt, resultsP, resultP, oneOr, reduceCtorEq, reduceIte, Nat.reduceEqDiff, Nat.reduceAdd, Nat.zero_add, Nat.reduceMul, Nat.reduceLT, Nat.reduceLeDiff, Int.reduceLT, Int.reduceNeg, Int.reduceLE, appendP, appendAt, letGo, setLoc, locVal, Int.reduceToNat, boxCells, und, TG, SE, SC, unP, htu, hlen, loadR, loadP, lay, List.take_succ_cons, List.take_zero, List.drop_nil, List.filter_nil, List.cons_append, Int.reduceBEq, Int.reduceBNe, Bool.not_true, Bool.not_false, c1, c2]
      exact ⟨_, rfl⟩
  · have ok : okN 3 n = some false := by unfold okN; simp; omega
    rw [ok]
    dsimp only
    obtain ⟨ev, eo, so, co, ⟨hev, hco⟩, R⟩ := RULES CC; rw [← hev]
    skip
    simp only [fpart, part', Tryd.f54, Option.getD]
    simp (maxSteps := 5000000) only [SA, SB, SD, R, guardAt, binP, intP, indexAddrP, elemsOf, readCells, lenP, lenAt, resultsP, resultP, oneOr, reduceCtorEq, reduceIte, Nat.reduceEqDiff, Nat.reduceAdd, Nat.zero_add, Nat.reduceMul, Nat.reduceLT, Nat.reduceLeDiff, Int.reduceLT, Int.reduceNeg, Int.reduceLE, appendP, appendAt, letGo, setLoc, locVal, Int.reduceToNat, boxCells, und, TG, SE, SC, unP, htu, hlen, loadR, loadP, lay, List.take_succ_cons, List.take_zero, List.drop_nil, List.filter_nil, List.cons_append, Int.reduceBEq, Int.reduceBNe, Bool.not_true, Bool.not_false, c1]
    exact ⟨_, rfl⟩
theorem ck_v_o (k n : Int) (s : List UInt8) (h : k ≠ 0 ∧ k ≠ 4 ∧ k ≠ 1 ∧ k ≠ 2 ∧ k ≠ 3) : ∃ bx, callL CC 54 [vlV (k, n, s)] [] = some (.ret (.int .i64 (ckV (k, n, s))), bx) := by
  rw [callL_enter (fn := Tryd.f54) (c := Tryd.f54.body.getD .skip) rfl rfl fat_value_Check rfl ok_value_Check (Nat.le_of_ble_eq_true rfl)]
  obtain ⟨k0, k4, k1, k2, k3⟩ := h
  have ok : okN k n = none := by unfold okN; rw [if_neg (by omega), if_neg k1, if_neg k2, if_neg k3]
  have e0 : (k == 0) = false := by simpa using k0
  have e4 : (k == 4) = false := by simpa using k4
  have e1 : (k == 1) = false := by simpa using k1
  have e2 : (k == 2) = false := by simpa using k2
  have e3 : (k == 3) = false := by simpa using k3
  have hlen := len_str s
  obtain ⟨tu, htu⟩ := VLs
  unfold ckV vlV
  simp only
  rw [ok]
  dsimp only
  obtain ⟨ev, eo, so, co, ⟨hev, hco⟩, R⟩ := RULES CC; rw [← hev]
  skip
  simp only [fpart, part', Tryd.f54, Option.getD]
  simp (maxSteps := 5000000) only [SA, SB, SD, R, guardAt, binP, intP, indexAddrP, elemsOf, readCells, lenP, lenAt, resultsP, resultP, oneOr, reduceCtorEq, reduceIte, Nat.reduceEqDiff, Nat.reduceAdd, Nat.zero_add, Nat.reduceMul, Nat.reduceLT, Nat.reduceLeDiff, Int.reduceLT, Int.reduceNeg, Int.reduceLE, appendP, appendAt, letGo, setLoc, locVal, Int.reduceToNat, boxCells, und, TG, SE, SC, unP, htu, hlen, loadR, loadP, lay, List.take_succ_cons, List.take_zero, List.drop_nil, List.filter_nil, List.cons_append, Int.reduceBEq, Int.reduceBNe, Bool.not_true, Bool.not_false, e0, e4, e1, e2, e3]
  exact ⟨_, rfl⟩
theorem call_value_Check (v : Vl) : ∃ bx, callL CC 54 [vlV v] [] = some (.ret (.int .i64 (ckV v)), bx) := by
  obtain ⟨k, n, s⟩ := v
  by_cases k0 : k = 0
  · subst k0; exact ck_v_0 n s
  by_cases k4 : k = 4
  · subst k4; exact ck_v_4 n s
  by_cases k1 : k = 1
  · subst k1; exact ck_v_1 n s
  by_cases k2 : k = 2
  · subst k2; exact ck_v_2 n s
  by_cases k3 : k = 3
  · subst k3; exact ck_v_3 n s
  exact ck_v_o k n s ⟨k0, k4, k1, k2, k3⟩
theorem op_value_Check (v : Vl) (bx) : callOp CC (callL CC) 54 [vlV v] bx = some (.ret (.int .i64 (ckV v)), bx) := by
  obtain ⟨b, h⟩ := call_value_Check v
  exact callOp_of rfl rfl h rfl
theorem ok_names_letter : fnOK CC Tryd.f29 (Tryd.f29.body.getD .skip) = true := by kernel_rfl
theorem fat_names_letter : CC.P.funcs[29]? = some Tryd.f29 := by kernel_rfl
theorem ok_names_Valid : fnOK CC Tryd.f17 (Tryd.f17.body.getD .skip) = true := by kernel_rfl
theorem fat_names_Valid : CC.P.funcs[17]? = some Tryd.f17 := by kernel_rfl
theorem get_at (s : List UInt8) (i : Nat) (c : UInt8) (h : s[i]? = some c) : (ByteArray.mk s.toArray).get! i = c := by
  show s.toArray[i]! = c
  rw [getElem!_def, List.getElem?_toArray, h]
theorem dec_lo (s : List UInt8) (i : Nat) (c : UInt8) (h : s[i]? = some c) (hc : c.toNat < 128) : Utf8.decode ⟨s.toArray⟩ i = (c.toNat, 1) := by
  unfold Utf8.decode
  simp only [Nat.add_zero, get_at s i c h]
  rw [if_pos hc]
theorem dec_hi (s : List UInt8) (i : Nat) (c : UInt8) (h : s[i]? = some c) (hc : ¬ c.toNat < 128) : 128 ≤ (Utf8.decode ⟨s.toArray⟩ i).1 := by
  unfold Utf8.decode
  simp only [Nat.add_zero, get_at s i c h]
  rw [if_neg hc]
  unfold Utf8.runeError
  repeat' split
  all_goals first | (simp only; omega) | (rename_i hh; simp at hh; simp only; omega) | decide
/-- may a byte (or rune) stand at a place of a name? -/
def okC (i n : Nat) : Bool := decide ((97 ≤ n ∧ n ≤ 122) ∨ (i ≠ 0 ∧ (n = 95 ∨ n = 45 ∨ (48 ≤ n ∧ n ≤ 57))))
def vAll : Nat → List UInt8 → Bool
  | _, [] => true
  | i, c :: r => okC i c.toNat && vAll (i + 1) r
/-- a name -/
def valB (s : List UInt8) : Bool := decide (1 ≤ s.length ∧ s.length ≤ 24) && vAll 0 s
/-- what the loop over a name comes to -/
def PVd (v : Bool) (r : Option (Ex × St)) : Prop := ∃ e' bx', (v = true ∧ r = some (.exit 0, ⟨e', bx'⟩)) ∨ (v = false ∧ r = some (.ret, ⟨e', bx'⟩) ∧ getT e' 2 = .bool false)
theorem call_names_letter (r : Int) : callL CC 29 [.int .i32 r] [] = some (.ret (.bool (decide (97 ≤ r ∧ r ≤ 122))), []) := by
  rw [callL_enter (fn := Tryd.f29) (c := Tryd.f29.body.getD .skip) rfl rfl fat_names_letter rfl ok_names_letter (Nat.le_of_ble_eq_true rfl)]
  by_cases c1 : r ≥ 97
  · by_cases c2 : r ≤ 122
    · rw [decide_eq_true (show 97 ≤ r ∧ r ≤ 122 from ⟨c1, c2⟩)]
      obtain ⟨ev, eo, so, co, ⟨hev, hco⟩, R⟩ := RULES CC; rw [← hev]
      simp only [fpart, part', Tryd.f29, Option.getD]
      simp (maxSteps := 5000000) only [SA, SB, SD, R, guardAt, binP, intP, indexAddrP, elemsOf, readCells, lenP, lenAt, resultsP, resultP, oneOr, reduceCtorEq, reduceIte, Nat.reduceEqDiff, Nat.reduceAdd, Nat.zero_add, Nat.reduceMul, Nat.reduceLT, Nat.reduceLeDiff, Int.reduceLT, Int.reduceNeg, Int.reduceLE, appendP, appendAt, letGo, setLoc, locVal, Int.reduceToNat, boxCells, und, TG, SE, c1, c2]
    · rw [decide_eq_false (show ¬ (97 ≤ r ∧ r ≤ 122) from fun h => c2 h.2)]
      obtain ⟨ev, eo, so, co, ⟨hev, hco⟩, R⟩ := RULES CC; rw [← hev]
      simp only [fpart, part', Tryd.f29, Option.getD]
      simp (maxSteps := 5000000) only [SA, SB, SD, R, guardAt, binP, intP, indexAddrP, elemsOf, readCells, lenP, lenAt, resultsP, resultP, oneOr, reduceCtorEq, reduceIte, Nat.reduceEqDiff, Nat.reduceAdd, Nat.zero_add, Nat.reduceMul, Nat.reduceLT, Nat.reduceLeDiff, Int.reduceLT, Int.reduceNeg, Int.reduceLE, appendP, appendAt, letGo, setLoc, locVal, Int.reduceToNat, boxCells, und, TG, SE, c1, c2]
  · rw [decide_eq_false (show ¬ (97 ≤ r ∧ r ≤ 122) from fun h => c1 h.1)]
    obtain ⟨ev, eo, so, co, ⟨hev, hco⟩, R⟩ := RULES CC; rw [← hev]
    simp only [fpart, part', Tryd.f29, Option.getD]
    simp (maxSteps := 5000000) only [SA, SB, SD, R, guardAt, binP, intP, indexAddrP, elemsOf, readCells, lenP, lenAt, resultsP, resultP, oneOr, reduceCtorEq, reduceIte, Nat.reduceEqDiff, Nat.reduceAdd, Nat.zero_add, Nat.reduceMul, Nat.reduceLT, Nat.reduceLeDiff, Int.reduceLT, Int.reduceNeg, Int.reduceLE, appendP, appendAt, letGo, setLoc, locVal, Int.reduceToNat, boxCells, und, TG, SE, c1]
theorem op_names_letter (r : Int) (bx) : callOp CC (callL CC) 29 [.int .i32 r] bx = some (.ret (.bool (decide (97 ≤ r ∧ r ≤ 122))), bx) := callOp_of rfl (by simp only [SA, Bool.and_true]) (call_names_letter r) rfl
theorem loop_names_Valid (L : Code) (hL : L = fpart Tryd.f17 [1,1,0,1,0]) (s : List UInt8) (hs : s.length ≤ 1000) : ∀ (k i : Nat) (e : List PV), i + k = s.length → getT e 0 = .str s → getT e 14 = .bp 0 0 →
    PVd (vAll i (s.drop i)) (evL CC L ⟨e, [.iter s i]⟩) := by
  intro k
  induction k with
  | zero =>
    intro i e hk h0 h14
    rw [evL_at (fpart Tryd.f17 [1,1,0,1,0,0]) hL]
    have hlt : ¬ (i < s.length) := by omega
    rw [List.drop_eq_nil_of_le (by omega)]
    unfold vAll
    obtain ⟨ev, eo, so, co, ⟨hev, hco⟩, R⟩ := RULES CC; rw [← hev]
    simp only [fpart, part', Tryd.f17, Option.getD]
    simp (maxSteps := 5000000) only [SA, SB, SD, R, guardAt, binP, intP, indexAddrP, elemsOf, readCells, lenP, lenAt, resultsP, resultP, oneOr, reduceCtorEq, reduceIte, Nat.reduceEqDiff, Nat.reduceAdd, Nat.zero_add, Nat.reduceMul, Nat.reduceLT, Nat.reduceLeDiff, Int.reduceLT, Int.reduceNeg, Int.reduceLE, appendP, appendAt, letGo, setLoc, locVal, Int.reduceToNat, boxCells, und, TG, SE, nextR, extP, List.getElem?_cons_zero, List.getElem?_cons_succ, Option.map_some, h0, h14, hlt]
    exact ⟨_, _, .inl ⟨rfl, rfl⟩⟩
  | succ k ih =>
    intro i e hk h0 h14
    rw [evL_at (fpart Tryd.f17 [1,1,0,1,0,0]) hL]
    have hlen := len_str s
    have hlt : i < s.length := by omega
    have hx : s[i]? = some (s[i]'(by omega)) := by simp
    have hdr : s.drop i = (s[i]'(by omega)) :: s.drop (i + 1) := List.drop_eq_getElem_cons (by omega)
    generalize s[i]'(by omega) = c at *
    have hlo := dec_lo s i c hx
    have hhi := dec_hi s i c hx
    have key := fun e => ih (i + 1) e (by omega)
    rw [hdr]
    unfold vAll
    generalize vAll (i + 1) (s.drop (i + 1)) = v at *
    generalize c.toNat = n at *
    clear hx hdr
    by_cases h128 : n < 128
    · have hdec := hlo h128
      have hlet := op_names_letter (n : Int)
      by_cases a1 : 97 ≤ (n : Int) ∧ (n : Int) ≤ 122
      · rw [decide_eq_true a1] at hlet
        rw [show okC i n = true from decide_eq_true (by omega), Bool.true_and]
        obtain ⟨ev, eo, so, co, ⟨hev, hco⟩, R⟩ := RULES CC; rw [← hev]
        rw [← hco] at hlet
        rw [← hev] at key
        simp only [fpart, part', Tryd.f17, Option.getD]
        simp (maxSteps := 5000000) only [SA, SB, SD, R, guardAt, binP, intP, indexAddrP, elemsOf, readCells, lenP, lenAt, resultsP, resultP, oneOr, reduceCtorEq, reduceIte, Nat.reduceEqDiff, Nat.reduceAdd, Nat.zero_add, Nat.reduceMul, Nat.reduceLT, Nat.reduceLeDiff, Int.reduceLT, Int.reduceNeg, Int.reduceLE, appendP, appendAt, letGo, setLoc, locVal, Int.reduceToNat, boxCells, und, TG, SE, unP, nextR, extP, List.getElem?_cons_zero, List.getElem?_cons_succ, Option.map_some, List.set_cons_zero, h0, h14, hlen, hlt, hlet, hdec, Bool.not_true, Bool.not_false, hlet]
        exact key _ (by simp (maxSteps := 5000000) only [SA, SB, SD, R, guardAt, binP, intP, indexAddrP, elemsOf, readCells, lenP, lenAt, resultsP, resultP, oneOr, reduceCtorEq, reduceIte, Nat.reduceEqDiff, Nat.reduceAdd, Nat.zero_add, Nat.reduceMul, Nat.reduceLT, Nat.reduceLeDiff, Int.reduceLT, Int.reduceNeg, Int.reduceLE, appendP, appendAt, letGo, setLoc, locVal, Int.reduceToNat, boxCells, und, h0]) (by simp (maxSteps := 5000000) only [SA, SB, SD, R, guardAt, binP, intP, indexAddrP, elemsOf, readCells, lenP, lenAt, resultsP, resultP, oneOr, reduceCtorEq, reduceIte, Nat.reduceEqDiff, Nat.reduceAdd, Nat.zero_add, Nat.reduceMul, Nat.reduceLT, Nat.reduceLeDiff, Int.reduceLT, Int.reduceNeg, Int.reduceLE, appendP, appendAt, letGo, setLoc, locVal, Int.reduceToNat, boxCells, und, h14])
      · rw [decide_eq_false a1] at hlet
        by_cases i0 : i = 0
        · have z : ((i : Int) == 0) = true := by rw [i0]; rfl
          rw [show okC i n = false from decide_eq_false (by omega), Bool.false_and]
          obtain ⟨ev, eo, so, co, ⟨hev, hco⟩, R⟩ := RULES CC; rw [← hev]
          rw [← hco] at hlet
          simp only [fpart, part', Tryd.f17, Option.getD]
          simp (maxSteps := 5000000) only [SA, SB, SD, R, guardAt, binP, intP, indexAddrP, elemsOf, readCells, lenP, lenAt, resultsP, resultP, oneOr, reduceCtorEq, reduceIte, Nat.reduceEqDiff, Nat.reduceAdd, Nat.zero_add, Nat.reduceMul, Nat.reduceLT, Nat.reduceLeDiff, Int.reduceLT, Int.reduceNeg, Int.reduceLE, appendP, appendAt, letGo, setLoc, locVal, Int.reduceToNat, boxCells, und, TG, SE, unP, nextR, extP, List.getElem?_cons_zero, List.getElem?_cons_succ, Option.map_some, List.set_cons_zero, h0, h14, hlen, hlt, hlet, hdec, Bool.not_true, Bool.not_false, hlet, z]
          exact ⟨_, _, .inr ⟨rfl, rfl, by simp (maxSteps := 5000000) only [SA, SB, SD, R, guardAt, binP, intP, indexAddrP, elemsOf, readCells, lenP, lenAt, resultsP, resultP, oneOr, reduceCtorEq, reduceIte, Nat.reduceEqDiff, Nat.reduceAdd, Nat.zero_add, Nat.reduceMul, Nat.reduceLT, Nat.reduceLeDiff, Int.reduceLT, Int.reduceNeg, Int.reduceLE, appendP, appendAt, letGo, setLoc, locVal, Int.reduceToNat, boxCells, und]⟩⟩
        · have z : ((i : Int) == 0) = false := by rw [beq_eq_false_iff_ne]; omega
          by_cases e1 : n = 95
          · have e1p : ((n : Int) != 95) = false := by rw [e1]; rfl
            rw [show okC i n = true from decide_eq_true (by omega), Bool.true_and]
            obtain ⟨ev, eo, so, co, ⟨hev, hco⟩, R⟩ := RULES CC; rw [← hev]
            rw [← hco] at hlet
            rw [← hev] at key
            simp only [fpart, part', Tryd.f17, Option.getD]
            simp (maxSteps := 5000000) only [SA, SB, SD, R, guardAt, binP, intP, indexAddrP, elemsOf, readCells, lenP, lenAt, resultsP, resultP, oneOr, reduceCtorEq, reduceIte, Nat.reduceEqDiff, Nat.reduceAdd, Nat.zero_add, Nat.reduceMul, Nat.reduceLT, Nat.reduceLeDiff, Int.reduceLT, Int.reduceNeg, Int.reduceLE, appendP, appendAt, letGo, setLoc, locVal, Int.reduceToNat, boxCells, und, TG, SE, unP, nextR, extP, List.getElem?_cons_zero, List.getElem?_cons_succ, Option.map_some, List.set_cons_zero, h0, h14, hlen, hlt, hlet, hdec, Bool.not_true, Bool.not_false, hlet, z, e1p]
            exact key _ (by simp (maxSteps := 5000000) only [SA, SB, SD, R, guardAt, binP, intP, indexAddrP, elemsOf, readCells, lenP, lenAt, resultsP, resultP, oneOr, reduceCtorEq, reduceIte, Nat.reduceEqDiff, Nat.reduceAdd, Nat.zero_add, Nat.reduceMul, Nat.reduceLT, Nat.reduceLeDiff, Int.reduceLT, Int.reduceNeg, Int.reduceLE, appendP, appendAt, letGo, setLoc, locVal, Int.reduceToNat, boxCells, und, h0]) (by simp (maxSteps := 5000000) only [SA, SB, SD, R, guardAt, binP, intP, indexAddrP, elemsOf, readCells, lenP, lenAt, resultsP, resultP, oneOr, reduceCtorEq, reduceIte, Nat.reduceEqDiff, Nat.reduceAdd, Nat.zero_add, Nat.reduceMul, Nat.reduceLT, Nat.reduceLeDiff, Int.reduceLT, Int.reduceNeg, Int.reduceLE, appendP, appendAt, letGo, setLoc, locVal, Int.reduceToNat, boxCells, und, h14])
          · have e1p : ((n : Int) != 95) = true := by rw [bne_iff_ne]; omega
            by_cases e2 : n = 45
            · have e2p : ((n : Int) != 45) = false := by rw [e2]; rfl
              rw [show okC i n = true from decide_eq_true (by omega), Bool.true_and]
              obtain ⟨ev, eo, so, co, ⟨hev, hco⟩, R⟩ := RULES CC; rw [← hev]
              rw [← hco] at hlet
              rw [← hev] at key
              simp only [fpart, part', Tryd.f17, Option.getD]
              simp (maxSteps := 5000000) only [SA, SB, SD, R, guardAt, binP, intP, indexAddrP, elemsOf, readCells, lenP, lenAt, resultsP, resultP, oneOr, reduceCtorEq, reduceIte, Nat.reduceEqDiff, Nat.reduceAdd, Nat.zero_add, Nat.reduceMul, Nat.reduceLT, Nat.reduceLeDiff, Int.reduceLT, Int.reduceNeg, Int.reduceLE, appendP, appendAt, letGo, setLoc, locVal, Int.reduceToNat, boxCells, und, TG, SE, unP, nextR, extP, List.getElem?_cons_zero, List.getElem?_cons_succ, Option.map_some, List.set_cons_zero, h0, h14, hlen, hlt, hlet, hdec, Bool.not_true, Bool.not_false, hlet, z, e1p, e2p]
              exact key _ (by simp (maxSteps := 5000000) only [SA, SB, SD, R, guardAt, binP, intP, indexAddrP, elemsOf, readCells, lenP, lenAt, resultsP, resultP, oneOr, reduceCtorEq, reduceIte, Nat.reduceEqDiff, Nat.reduceAdd, Nat.zero_add, Nat.reduceMul, Nat.reduceLT, Nat.reduceLeDiff, Int.reduceLT, Int.reduceNeg, Int.reduceLE, appendP, appendAt, letGo, setLoc, locVal, Int.reduceToNat, boxCells, und, h0]) (by simp (maxSteps := 5000000) only [SA, SB, SD, R, guardAt, binP, intP, indexAddrP, elemsOf, readCells, lenP, lenAt, resultsP, resultP, oneOr, reduceCtorEq, reduceIte, Nat.reduceEqDiff, Nat.reduceAdd, Nat.zero_add, Nat.reduceMul, Nat.reduceLT, Nat.reduceLeDiff, Int.reduceLT, Int.reduceNeg, Int.reduceLE, appendP, appendAt, letGo, setLoc, locVal, Int.reduceToNat, boxCells, und, h14])
            · have e2p : ((n : Int) != 45) = true := by rw [bne_iff_ne]; omega
              by_cases e3 : (n : Int) < 48
              · skip
                rw [show okC i n = false from decide_eq_false (by omega), Bool.false_and]
                obtain ⟨ev, eo, so, co, ⟨hev, hco⟩, R⟩ := RULES CC; rw [← hev]
                rw [← hco] at hlet
                simp only [fpart, part', Tryd.f17, Option.getD]
                simp (maxSteps := 5000000) only [SA, SB, SD, R, guardAt, binP, intP, indexAddrP, elemsOf, readCells, lenP, lenAt, resultsP, resultP, oneOr, reduceCtorEq, reduceIte, Nat.reduceEqDiff, Nat.reduceAdd, Nat.zero_add, Nat.reduceMul, Nat.reduceLT, Nat.reduceLeDiff, Int.reduceLT, Int.reduceNeg, Int.reduceLE, appendP, appendAt, letGo, setLoc, locVal, Int.reduceToNat, boxCells, und, TG, SE, unP, nextR, extP, List.getElem?_cons_zero, List.getElem?_cons_succ, Option.map_some, List.set_cons_zero, h0, h14, hlen, hlt, hlet, hdec, Bool.not_true, Bool.not_false, hlet, z, e1p, e2p, e3]
                exact ⟨_, _, .inr ⟨rfl, rfl, by simp (maxSteps := 5000000) only [SA, SB, SD, R, guardAt, binP, intP, indexAddrP, elemsOf, readCells, lenP, lenAt, resultsP, resultP, oneOr, reduceCtorEq, reduceIte, Nat.reduceEqDiff, Nat.reduceAdd, Nat.zero_add, Nat.reduceMul, Nat.reduceLT, Nat.reduceLeDiff, Int.reduceLT, Int.reduceNeg, Int.reduceLE, appendP, appendAt, letGo, setLoc, locVal, Int.reduceToNat, boxCells, und]⟩⟩
              · by_cases e4 : (n : Int) > 57
                · skip
                  rw [show okC i n = false from decide_eq_false (by omega), Bool.false_and]
                  obtain ⟨ev, eo, so, co, ⟨hev, hco⟩, R⟩ := RULES CC; rw [← hev]
                  rw [← hco] at hlet
                  simp only [fpart, part', Tryd.f17, Option.getD]
                  simp (maxSteps := 5000000) only [SA, SB, SD, R, guardAt, binP, intP, indexAddrP, elemsOf, readCells, lenP, lenAt, resultsP, resultP, oneOr, reduceCtorEq, reduceIte, Nat.reduceEqDiff, Nat.reduceAdd, Nat.zero_add, Nat.reduceMul, Nat.reduceLT, Nat.reduceLeDiff, Int.reduceLT, Int.reduceNeg, Int.reduceLE, appendP, appendAt, letGo, setLoc, locVal, Int.reduceToNat, boxCells, und, TG, SE, unP, nextR, extP, List.getElem?_cons_zero, List.getElem?_cons_succ, Option.map_some, List.set_cons_zero, h0, h14, hlen, hlt, hlet, hdec, Bool.not_true, Bool.not_false, hlet, z, e1p, e2p, e3, e4]
                  exact ⟨_, _, .inr ⟨rfl, rfl, by simp (maxSteps := 5000000) only [SA, SB, SD, R, guardAt, binP, intP, indexAddrP, elemsOf, readCells, lenP, lenAt, resultsP, resultP, oneOr, reduceCtorEq, reduceIte, Nat.reduceEqDiff, Nat.reduceAdd, Nat.zero_add, Nat.reduceMul, Nat.reduceLT, Nat.reduceLeDiff, Int.reduceLT, Int.reduceNeg, Int.reduceLE, appendP, appendAt, letGo, setLoc, locVal, Int.reduceToNat, boxCells, und]⟩⟩
                · skip
                  rw [show okC i n = true from decide_eq_true (by omega), Bool.true_and]
                  obtain ⟨ev, eo, so, co, ⟨hev, hco⟩, R⟩ := RULES CC; rw [← hev]
                  rw [← hco] at hlet
                  rw [← hev] at key
                  simp only [fpart, part', Tryd.f17, Option.getD]
                  simp (maxSteps := 5000000) only [SA, SB, SD, R, guardAt, binP, intP, indexAddrP, elemsOf, readCells, lenP, lenAt, resultsP, resultP, oneOr, reduceCtorEq, reduceIte, Nat.reduceEqDiff, Nat.reduceAdd, Nat.zero_add, Nat.reduceMul, Nat.reduceLT, Nat.reduceLeDiff, Int.reduceLT, Int.reduceNeg, Int.reduceLE, appendP, appendAt, letGo, setLoc, locVal, Int.reduceToNat, boxCells, und, TG, SE, unP, nextR, extP, List.getElem?_cons_zero, List.getElem?_cons_succ, Option.map_some, List.set_cons_zero, h0, h14, hlen, hlt, hlet, hdec, Bool.not_true, Bool.not_false, hlet, z, e1p, e2p, e3, e4]
                  exact key _ (by simp (maxSteps := 5000000) only [SA, SB, SD, R, guardAt, binP, intP, indexAddrP, elemsOf, readCells, lenP, lenAt, resultsP, resultP, oneOr, reduceCtorEq, reduceIte, Nat.reduceEqDiff, Nat.reduceAdd, Nat.zero_add, Nat.reduceMul, Nat.reduceLT, Nat.reduceLeDiff, Int.reduceLT, Int.reduceNeg, Int.reduceLE, appendP, appendAt, letGo, setLoc, locVal, Int.reduceToNat, boxCells, und, h0]) (by simp (maxSteps := 5000000) only [SA, SB, SD, R, guardAt, binP, intP, indexAddrP, elemsOf, readCells, lenP, lenAt, resultsP, resultP, oneOr, reduceCtorEq, reduceIte, Nat.reduceEqDiff, Nat.reduceAdd, Nat.zero_add, Nat.reduceMul, Nat.reduceLT, Nat.reduceLeDiff, Int.reduceLT, Int.reduceNeg, Int.reduceLE, appendP, appendAt, letGo, setLoc, locVal, Int.reduceToNat, boxCells, und, h14])
    · have hge := hhi h128
      rw [show okC i n = false from decide_eq_false (by omega), Bool.false_and]
      generalize hdec : Utf8.decode ⟨s.toArray⟩ i = d at *
      obtain ⟨m, k2⟩ := d
      simp only at hge
      have hlet := op_names_letter (m : Int)
      rw [decide_eq_false (by omega)] at hlet
      by_cases i0 : i = 0
      · have z : ((i : Int) == 0) = true := by rw [i0]; rfl
        obtain ⟨ev, eo, so, co, ⟨hev, hco⟩, R⟩ := RULES CC; rw [← hev]
        rw [← hco] at hlet
        simp only [fpart, part', Tryd.f17, Option.getD]
        simp (maxSteps := 5000000) only [SA, SB, SD, R, guardAt, binP, intP, indexAddrP, elemsOf, readCells, lenP, lenAt, resultsP, resultP, oneOr, reduceCtorEq, reduceIte, Nat.reduceEqDiff, Nat.reduceAdd, Nat.zero_add, Nat.reduceMul, Nat.reduceLT, Nat.reduceLeDiff, Int.reduceLT, Int.reduceNeg, Int.reduceLE, appendP, appendAt, letGo, setLoc, locVal, Int.reduceToNat, boxCells, und, TG, SE, unP, nextR, extP, List.getElem?_cons_zero, List.getElem?_cons_succ, Option.map_some, List.set_cons_zero, h0, h14, hlen, hlt, hlet, hdec, Bool.not_true, Bool.not_false, z]
        exact ⟨_, _, .inr ⟨rfl, rfl, by simp (maxSteps := 5000000) only [SA, SB, SD, R, guardAt, binP, intP, indexAddrP, elemsOf, readCells, lenP, lenAt, resultsP, resultP, oneOr, reduceCtorEq, reduceIte, Nat.reduceEqDiff, Nat.reduceAdd, Nat.zero_add, Nat.reduceMul, Nat.reduceLT, Nat.reduceLeDiff, Int.reduceLT, Int.reduceNeg, Int.reduceLE, appendP, appendAt, letGo, setLoc, locVal, Int.reduceToNat, boxCells, und]⟩⟩
      · have z : ((i : Int) == 0) = false := by rw [beq_eq_false_iff_ne]; omega
        have e1p : ((m : Int) != 95) = true := by rw [bne_iff_ne]; omega
        have e2p : ((m : Int) != 45) = true := by rw [bne_iff_ne]; omega
        have e3 : ¬ ((m : Int) < 48) := by omega
        have e4 : ((m : Int) > 57) := by omega
        obtain ⟨ev, eo, so, co, ⟨hev, hco⟩, R⟩ := RULES CC; rw [← hev]
        rw [← hco] at hlet
        simp only [fpart, part', Tryd.f17, Option.getD]
        simp (maxSteps := 5000000) only [SA, SB, SD, R, guardAt, binP, intP, indexAddrP, elemsOf, readCells, lenP, lenAt, resultsP, resultP, oneOr, reduceCtorEq, reduceIte, Nat.reduceEqDiff, Nat.reduceAdd, Nat.zero_add, Nat.reduceMul, Nat.reduceLT, Nat.reduceLeDiff, Int.reduceLT, Int.reduceNeg, Int.reduceLE, appendP, appendAt, letGo, setLoc, locVal, Int.reduceToNat, boxCells, und, TG, SE, unP, nextR, extP, List.getElem?_cons_zero, List.getElem?_cons_succ, Option.map_some, List.set_cons_zero, h0, h14, hlen, hlt, hlet, hdec, Bool.not_true, Bool.not_false, z, e1p, e2p, e3, e4]
        exact ⟨_, _, .inr ⟨rfl, rfl, by simp (maxSteps := 5000000) only [SA, SB, SD, R, guardAt, binP, intP, indexAddrP, elemsOf, readCells, lenP, lenAt, resultsP, resultP, oneOr, reduceCtorEq, reduceIte, Nat.reduceEqDiff, Nat.reduceAdd, Nat.zero_add, Nat.reduceMul, Nat.reduceLT, Nat.reduceLeDiff, Int.reduceLT, Int.reduceNeg, Int.reduceLE, appendP, appendAt, letGo, setLoc, locVal, Int.reduceToNat, boxCells, und]⟩⟩
theorem call_names_Valid (s : List UInt8) (hs : s.length ≤ 1000) : ∃ bx, callL CC 17 [.str s] [] = some (.ret (.bool (valB s)), bx) := by
  rw [callL_enter (fn := Tryd.f17) (c := Tryd.f17.body.getD .skip) rfl rfl fat_names_Valid rfl ok_names_Valid (Nat.le_of_ble_eq_true rfl)]
  have hlen := len_str s
  unfold valB
  by_cases c1 : (s.length : Int) < 1
  · rw [decide_eq_false (show ¬ (1 ≤ s.length ∧ s.length ≤ 24) by omega), Bool.false_and]
    obtain ⟨ev, eo, so, co, ⟨hev, hco⟩, R⟩ := RULES CC; rw [← hev]
    simp only [fpart, part', Tryd.f17, Option.getD]
    simp (maxSteps := 5000000) only [SA, SB, SD, R, guardAt, binP, intP, indexAddrP, elemsOf, readCells, lenP, lenAt, resultsP, resultP, oneOr, reduceCtorEq, reduceIte, Nat.reduceEqDiff, Nat.reduceAdd, Nat.zero_add, Nat.reduceMul, Nat.reduceLT, Nat.reduceLeDiff, Int.reduceLT, Int.reduceNeg, Int.reduceLE, appendP, appendAt, letGo, setLoc, locVal, Int.reduceToNat, boxCells, und, TG, SE, hlen, c1]
    exact ⟨_, rfl⟩
  · by_cases c2 : (s.length : Int) > 24
    · rw [decide_eq_false (show ¬ (1 ≤ s.length ∧ s.length ≤ 24) by omega), Bool.false_and]
      obtain ⟨ev, eo, so, co, ⟨hev, hco⟩, R⟩ := RULES CC; rw [← hev]
      simp only [fpart, part', Tryd.f17, Option.getD]
      simp (maxSteps := 5000000) only [SA, SB, SD, R, guardAt, binP, intP, indexAddrP, elemsOf, readCells, lenP, lenAt, resultsP, resultP, oneOr, reduceCtorEq, reduceIte, Nat.reduceEqDiff, Nat.reduceAdd, Nat.zero_add, Nat.reduceMul, Nat.reduceLT, Nat.reduceLeDiff, Int.reduceLT, Int.reduceNeg, Int.reduceLE, appendP, appendAt, letGo, setLoc, locVal, Int.reduceToNat, boxCells, und, TG, SE, hlen, c1, c2]
      exact ⟨_, rfl⟩
    · rw [decide_eq_true (show 1 ≤ s.length ∧ s.length ≤ 24 by omega), Bool.true_and]
      have hloop := fun e => loop_names_Valid _ rfl s hs s.length 0 e (by omega)
      rw [List.drop_zero] at hloop
      have hus : CC.P.underlying 9 = some .string := by kernel_rfl
      generalize vAll 0 s = v at *
      obtain ⟨ev, eo, so, co, ⟨hev, hco⟩, R⟩ := RULES CC; rw [← hev]
      rw [← hev] at hloop
      simp only [fpart, part', Tryd.f17, Option.getD] at hloop ⊢
      simp (maxSteps := 5000000) only [SA, SB, SD, R, guardAt, binP, intP, indexAddrP, elemsOf, readCells, lenP, lenAt, resultsP, resultP, oneOr, reduceCtorEq, reduceIte, Nat.reduceEqDiff, Nat.reduceAdd, Nat.zero_add, Nat.reduceMul, Nat.reduceLT, Nat.reduceLeDiff, Int.reduceLT, Int.reduceNeg, Int.reduceLE, appendP, appendAt, letGo, setLoc, locVal, Int.reduceToNat, boxCells, und, TG, SE, hlen, c1, c2, rangeR, hus, List.nil_append, List.length_nil]
      generalize hE : ev _ _ = r
      have hP : PVd v r := by
        rw [← hE]
        exact hloop _ (by simp (maxSteps := 5000000) only [SA, SB, SD, R, guardAt, binP, intP, indexAddrP, elemsOf, readCells, lenP, lenAt, resultsP, resultP, oneOr, reduceCtorEq, reduceIte, Nat.reduceEqDiff, Nat.reduceAdd, Nat.zero_add, Nat.reduceMul, Nat.reduceLT, Nat.reduceLeDiff, Int.reduceLT, Int.reduceNeg, Int.reduceLE, appendP, appendAt, letGo, setLoc, locVal, Int.reduceToNat, boxCells, und]) (by simp (maxSteps := 5000000) only [SA, SB, SD, R, guardAt, binP, intP, indexAddrP, elemsOf, readCells, lenP, lenAt, resultsP, resultP, oneOr, reduceCtorEq, reduceIte, Nat.reduceEqDiff, Nat.reduceAdd, Nat.zero_add, Nat.reduceMul, Nat.reduceLT, Nat.reduceLeDiff, Int.reduceLT, Int.reduceNeg, Int.reduceLE, appendP, appendAt, letGo, setLoc, locVal, Int.reduceToNat, boxCells, und])
      obtain ⟨e', bx', ⟨hv, he⟩ | ⟨hv, he, g2⟩⟩ := hP
      · subst he
        subst hv
        simp (maxSteps := 5000000) only [SA, SB, SD, R, guardAt, binP, intP, indexAddrP, elemsOf, readCells, lenP, lenAt, resultsP, resultP, oneOr, reduceCtorEq, reduceIte, Nat.reduceEqDiff, Nat.reduceAdd, Nat.zero_add, Nat.reduceMul, Nat.reduceLT, Nat.reduceLeDiff, Int.reduceLT, Int.reduceNeg, Int.reduceLE, appendP, appendAt, letGo, setLoc, locVal, Int.reduceToNat, boxCells, und, TG, SE]
        exact ⟨_, rfl⟩
      · subst he
        subst hv
        simp (maxSteps := 5000000) only [SA, SB, SD, R, guardAt, binP, intP, indexAddrP, elemsOf, readCells, lenP, lenAt, resultsP, resultP, oneOr, reduceCtorEq, reduceIte, Nat.reduceEqDiff, Nat.reduceAdd, Nat.zero_add, Nat.reduceMul, Nat.reduceLT, Nat.reduceLeDiff, Int.reduceLT, Int.reduceNeg, Int.reduceLE, appendP, appendAt, letGo, setLoc, locVal, Int.reduceToNat, boxCells, und, TG, SE, g2]
        exact ⟨_, rfl⟩
theorem op_names_Valid (s : List UInt8) (hs : s.length ≤ 1000) (bx) : callOp CC (callL CC) 17 [.str s] bx = some (.ret (.bool (valB s)), bx) := by
  obtain ⟨b, h⟩ := call_names_Valid s hs
  exact callOp_of rfl (by simp only [SA, Bool.and_true]) h rfl
/-- a key: device, cluster, attribute -/
abbrev Ky := Int × List UInt8 × List UInt8
def kyV (k : Ky) : PV := .agg [.int .i64 k.1, .str k.2.1, .str k.2.2]
def okKy (k : Ky) : Prop := inI k.1 ∧ k.2.1.length ≤ maxLen ∧ k.2.2.length ≤ maxLen
/-- an expression -/
inductive Tr where
  | mk (k n m : Int) (nm : List UInt8) (v : Vl) (key : Ky) (kids : List Tr)
mutual
def trV : Tr → PV
  | .mk k n m nm v key kids => .agg [.int .i64 k, .int .i64 n, .int .i64 m, .str nm, .int .i64 v.1, .int .i64 v.2.1, .str v.2.2, .int .i64 key.1, .str key.2.1, .str key.2.2, .sl (trVs kids)]
def trVs : List Tr → List PV
  | [] => []
  | t :: r => trV t :: trVs r
end
mutual
def okTr : Tr → Prop
  | .mk k n m nm v key kids => inI k ∧ inI n ∧ inI m ∧ nm.length ≤ maxLen ∧ okVl v ∧ okKy key ∧ kids.length ≤ maxLen ∧ okTrs kids
def okTrs : List Tr → Prop
  | [] => True
  | t :: r => okTr t ∧ okTrs r
end
theorem trVs_map : ∀ l : List Tr, trVs l = l.map trV
  | [] => by unfold trVs; rfl
  | t :: r => by unfold trVs; rw [trVs_map r]; rfl
theorem okTrs_iff : ∀ l : List Tr, okTrs l ↔ ∀ t ∈ l, okTr t
  | [] => by unfold okTrs; simp
  | t :: r => by unfold okTrs; rw [okTrs_iff r]; simp
theorem trVs_length (l : List Tr) : (trVs l).length = l.length := by rw [trVs_map, List.length_map]
theorem trVs_get {l : List Tr} {i : Nat} {t : Tr} (h : l[i]? = some t) : (trVs l)[i]? = some (trV t) := by rw [trVs_map, List.getElem?_map, h]; rfl
theorem hasT_struct1 {P : Program} {t : TypeId} {n : Nat} {cs : List PV} {fs : Array Field} {l : List (TypeId × Nat)} (ht : P.underlying t = some (.struct fs)) (hl : fs.toList.map (fun f => (f.type, f.offset)) = l) (h : HasT P (n + 1) t cs) : ∀ x ∈ l, HasT P n x.1 ((cs.drop x.2).take (P.cellsOf x.1)) := by
  unfold HasT at h
  rw [ht] at h
  intro x hx
  rw [← hl] at hx
  obtain ⟨f, hf, rfl⟩ := List.mem_map.1 hx
  exact h f hf
theorem hasT_slice1 {P : Program} {t e : TypeId} {n : Nat} {cs : List PV} (ht : P.underlying t = some (.slice e)) (h : HasT P (n + 1) t cs) : ∃ xs, cs = [.sl xs] ∧ xs.length ≤ maxLen ∧ ∀ x ∈ xs, ∃ cs, x = mkV P e cs ∧ cs.length = P.cellsOf e ∧ HasT P n e cs := by
  unfold HasT at h
  rw [ht] at h
  exact h
theorem uTr : Tryd.prog.underlying 29 = some (.struct ((match Tryd.prog.underlying 29 with | some (.struct f) => f | _ => #[]))) := by kernel_rfl
theorem fTr : ((match Tryd.prog.underlying 29 with | some (.struct f) => f | _ => #[]) : Array Field).toList.map (fun f => (f.type, f.offset)) = [(3, 0), (3, 1), (3, 2), (9, 3), (24, 4), (26, 7), (27, 10)] := by kernel_rfl
theorem uKy : Tryd.prog.underlying 26 = some (.struct ((match Tryd.prog.underlying 26 with | some (.struct f) => f | _ => #[]))) := by kernel_rfl
theorem fKy : ((match Tryd.prog.underlying 26 with | some (.struct f) => f | _ => #[]) : Array Field).toList.map (fun f => (f.type, f.offset)) = [(3, 0), (9, 1), (9, 2)] := by kernel_rfl
theorem uTrs : Tryd.prog.underlying 27 = some (.slice 29) := by kernel_rfl
theorem cTr : Tryd.prog.cellsOf 29 = 11 := by kernel_rfl
theorem cVl : Tryd.prog.cellsOf 24 = 3 := by kernel_rfl
theorem cKy : Tryd.prog.cellsOf 26 = 3 := by kernel_rfl
theorem cTrs : Tryd.prog.cellsOf 27 = 1 := by kernel_rfl
theorem cInt : Tryd.prog.cellsOf 3 = 1 := by kernel_rfl
theorem cStr : Tryd.prog.cellsOf 9 = 1 := by kernel_rfl
theorem hasV_key {p : PV} (h : HasV Tryd.prog 26 p) : ∃ k : Ky, p = kyV k ∧ okKy k := by
  obtain ⟨n, cs, rfl, hlen, hf⟩ := hasV_struct uKy fKy h
  rw [cKy] at hlen
  match cs, hlen with
  | [a, b, c], _ =>
    have f0 := hf (3, 0) (by simp)
    have f1 := hf (9, 1) (by simp)
    have f2 := hf (9, 2) (by simp)
    simp only [cInt, cStr] at f0 f1 f2
    obtain ⟨k, e0, h0⟩ := hasT_i64 (P := Tryd.prog) Tryd.underlying3 f0
    obtain ⟨m, e1, h1⟩ := hasT_str (P := Tryd.prog) Tryd.underlying9 f1
    obtain ⟨s, e2, h2⟩ := hasT_str (P := Tryd.prog) Tryd.underlying9 f2
    injection e0 with e0
    injection e1 with e1
    injection e2 with e2
    subst e0 e1 e2
    exact ⟨(k, m, s), rfl, h0, h1, h2⟩
theorem aggTr : aggT Tryd.prog 29 = true := by unfold aggT; rw [uTr]
theorem aggVl : aggT Tryd.prog 24 = true := by obtain ⟨f, h⟩ := VLs; unfold aggT; rw [show Tryd.prog.underlying 24 = _ from h]
theorem aggKy : aggT Tryd.prog 26 = true := by unfold aggT; rw [uKy]
theorem hasT_tr : ∀ (N n : Nat), n < N → ∀ cs : List PV, cs.length = 11 → HasT Tryd.prog n 29 cs → ∃ t : Tr, PV.agg cs = trV t ∧ okTr t := by
  intro N
  induction N with
  | zero => intro n h; omega
  | succ N ih =>
    intro n hn cs hlen h
    cases n with
    | zero => exact h.elim
    | succ n =>
      have hf := hasT_struct1 uTr fTr h
      match cs, hlen with
      | [a0, a1, a2, a3, a4, a5, a6, a7, a8, a9, b0], _ =>
        have f0 := hf (3, 0) (by simp)
        have f1 := hf (3, 1) (by simp)
        have f2 := hf (3, 2) (by simp)
        have f3 := hf (9, 3) (by simp)
        have f4 := hf (24, 4) (by simp)
        have f5 := hf (26, 7) (by simp)
        have f6 := hf (27, 10) (by simp)
        simp only [cInt, cStr, cVl, cKy, cTrs] at f0 f1 f2 f3 f4 f5 f6
        obtain ⟨k, e0, h0⟩ := hasT_i64 (P := Tryd.prog) Tryd.underlying3 f0
        obtain ⟨x, e1, h1⟩ := hasT_i64 (P := Tryd.prog) Tryd.underlying3 f1
        obtain ⟨y, e2, h2⟩ := hasT_i64 (P := Tryd.prog) Tryd.underlying3 f2
        obtain ⟨s, e3, h3⟩ := hasT_str (P := Tryd.prog) Tryd.underlying9 f3
        have f4' : HasV Tryd.prog 24 (.agg [a4, a5, a6]) := ⟨n, [a4, a5, a6], by unfold mkV; rw [if_pos aggVl], fun _ => by rw [cVl]; rfl, f4⟩
        have f5' : HasV Tryd.prog 26 (.agg [a7, a8, a9]) := ⟨n, [a7, a8, a9], by unfold mkV; rw [if_pos aggKy], fun _ => by rw [cKy]; rfl, f5⟩
        obtain ⟨v, e4, h4⟩ := hasV_val f4'
        obtain ⟨ky, e5, h5⟩ := hasV_key f5'
        cases n with
        | zero => exact f6.elim
        | succ n =>
          obtain ⟨xs, e6, h6, h7⟩ := hasT_slice1 uTrs f6
          obtain ⟨l, rfl, h8⟩ := list_of (f := trV) (Q := okTr) xs (fun x hx => by
            obtain ⟨cs, rfl, hc, hT⟩ := h7 x hx
            rw [cTr] at hc
            have := ih n (by omega) cs hc hT
            unfold mkV
            rw [if_pos aggTr]
            exact this)
          unfold vlV at e4
          unfold kyV at e5
          simp only [List.drop_succ_cons, List.drop_zero, List.take_succ_cons, List.take_zero, List.cons.injEq, and_true, PV.agg.injEq] at e0 e1 e2 e3 e4 e5 e6
          obtain ⟨e41, e42, e43⟩ := e4
          obtain ⟨e51, e52, e53⟩ := e5
          subst e0 e1 e2 e3 e41 e42 e43 e51 e52 e53 e6
          refine ⟨.mk k x y s v ky l, ?_, ?_⟩
          · unfold trV
            rw [trVs_map]
          · unfold okTr
            exact ⟨h0, h1, h2, h3, h4, h5, by simpa using h6, (okTrs_iff l).2 h8⟩
theorem TRf : zeroCells CC 29 = some [.int .i64 0, .int .i64 0, .int .i64 0, .str [], .int .i64 0, .int .i64 0, .str [], .int .i64 0, .str [], .str [], .nils] := by kernel_rfl
theorem TRs : ∃ f, CC.P.underlying 29 = some (.struct f) := ⟨_, uTr⟩
theorem KYs : ∃ f, CC.P.underlying 26 = some (.struct f) := ⟨_, uKy⟩
theorem ok_L30_modest : fnOK CC Tryd.f10 (Tryd.f10.body.getD .skip) = true := by kernel_rfl
theorem fat_L30_modest : CC.P.funcs[10]? = some Tryd.f10 := by kernel_rfl
mutual
theorem trV_pure (t : Tr) : (trV t).pure = true := by
  match t with
  | .mk k n m nm v key kids =>
    unfold trV
    have h := trVs_pure kids
    simp only [PV.pure, pureL, h, Bool.and_self, Bool.true_and, Bool.and_true]
theorem trVs_pure (l : List Tr) : pureL (trVs l) = true := by
  match l with
  | [] => unfold trVs; rfl
  | t :: r =>
    unfold trVs
    rw [pureL_cons, trV_pure t, trVs_pure r]
    rfl
end
mutual
/-- how many nodes are left; -1 where it is too much -/
def mdT : Tr → Int → Int → Int
  | .mk k n m nm v key kids, left, levels => if left < 1 ∨ levels < 1 ∨ 12 < kids.length ∨ 100 < nm.length ∨ 100 < v.2.2.length ∨ 100 < key.2.1.length ∨ 100 < key.2.2.length then -1 else mdTs kids (left - 1) (levels - 1)
def mdTs : List Tr → Int → Int → Int
  | [], left, _ => left
  | t :: r, left, levels => if mdT t left levels < 0 then -1 else mdTs r (mdT t left levels) levels
end
def MDp (t : Tr) : Prop := ∀ left levels : Int, left ≤ 1000 → levels ≤ 1000 → (∃ bx, callL CC 10 [trV t, .int .i64 left, .int .i64 levels] [] = some (.ret (.int .i64 (mdT t left levels)), bx)) ∧ mdT t left levels ≤ 1000
def PMd (res : Int) (r : Option (Ex × St)) : Prop := ∃ e' bx', (0 ≤ res ∧ r = some (.exit 0, ⟨e', bx'⟩) ∧ getT e' 1 = .int .i64 res) ∨ (res < 0 ∧ r = some (.ret, ⟨e', bx'⟩) ∧ getT e' 6 = .int .i64 (-1))
theorem op_modest_of {t : Tr} (h : MDp t) (left levels : Int) (h1 : left ≤ 1000) (h2 : levels ≤ 1000) (bx) : callOp CC (callL CC) 10 [trV t, .int .i64 left, .int .i64 levels] bx = some (.ret (.int .i64 (mdT t left levels)), bx) := by
  obtain ⟨⟨b, hb⟩, _⟩ := h left levels h1 h2
  exact callOp_of rfl (by simp only [pureL_cons, trV_pure, pure_int, pureL_nil, Bool.and_self]) hb rfl
theorem loop_modest (L : Code) (hL : L = fpart Tryd.f10 [1,1,1,0,1,0]) (levels : Int) (hlv : levels ≤ 1000) (hlv0 : 1 ≤ levels) (l : List Tr) (hl : l.length ≤ 1000000) (hk : ∀ t ∈ l, MDp t) : ∀ (k i : Nat) (e : List PV) (bx : List PBox) (left : Int), i + k = l.length → 0 ≤ left → left ≤ 1000 →
    getT e 1 = .int .i64 left → getT e 2 = .int .i64 levels → getT e 51 = .sl (trVs l) → getT e 52 = .int .i64 l.length → getT e 53 = .int .i64 i → PMd (mdTs (l.drop i) left (levels - 1)) (evL CC L ⟨e, bx⟩) := by
  intro k
  induction k with
  | zero =>
    intro i e bx left hi0 hle hle' h1 h2 h51 h52 h53
    rw [evL_at (fpart Tryd.f10 [1,1,1,0,1,0,0]) hL]
    have hi : ¬ ((i : Int) < (l.length : Int)) := by omega
    rw [List.drop_eq_nil_of_le (by omega)]
    unfold mdTs
    obtain ⟨tu, htu⟩ := VLs
    obtain ⟨tr, htr⟩ := TRs
    obtain ⟨tk, hky⟩ := KYs
    have hlen : True := trivial
    generalize trVs l = xs at *
    obtain ⟨ev, eo, so, co, ⟨hev, hco⟩, R⟩ := RULES CC; rw [← hev]
    simp only [fpart, part', Tryd.f10, Option.getD]
    simp (maxSteps := 5000000) only [SA, SB, SD, R, guardAt, binP, intP, indexAddrP, elemsOf, readCells, lenP, lenAt, resultsP, resultP, oneOr, reduceCtorEq, reduceIte, Nat.reduceEqDiff, Nat.reduceAdd, Nat.zero_add, Nat.reduceMul, Nat.reduceLT, Nat.reduceLeDiff, Int.reduceLT, Int.reduceNeg, Int.reduceLE, appendP, appendAt, letGo, setLoc, locVal, Int.reduceToNat, boxCells, und, TG, SE, SC, TRf, List.getElem?_concat_length, List.take_nil, unP, htu, htr, hky, hlen, loadR, loadP, lay, List.take_succ_cons, List.take_zero, List.drop_nil, List.filter_nil, List.cons_append, Int.reduceBEq, Int.reduceBNe, Int.reduceGT, Int.reduceGE, Bool.not_true, Bool.not_false, h1, h2, h51, h52, h53, hi]
    exact ⟨_, _, .inl ⟨hle, rfl, by simp (maxSteps := 5000000) only [SA, SB, SD, R, guardAt, binP, intP, indexAddrP, elemsOf, readCells, lenP, lenAt, resultsP, resultP, oneOr, reduceCtorEq, reduceIte, Nat.reduceEqDiff, Nat.reduceAdd, Nat.zero_add, Nat.reduceMul, Nat.reduceLT, Nat.reduceLeDiff, Int.reduceLT, Int.reduceNeg, Int.reduceLE, appendP, appendAt, letGo, setLoc, locVal, Int.reduceToNat, boxCells, und, h1]⟩⟩
  | succ k ih =>
    intro i e bx left hi0 hle hle' h1 h2 h51 h52 h53
    rw [evL_at (fpart Tryd.f10 [1,1,1,0,1,0,0]) hL]
    have hi : ((i : Int) < (l.length : Int)) := by omega
    have hi0' : ¬ ((i : Int) < 0) := by omega
    have hdr : l.drop i = (l[i]'(by omega)) :: l.drop (i + 1) := List.drop_eq_getElem_cons (by omega)
    have hx : l[i]? = some (l[i]'(by omega)) := by simp
    have hmd : MDp (l[i]'(by omega)) := hk _ (List.getElem_mem _)
    generalize l[i]'(by omega) = x at *
    have hx' := trVs_get hx
    have hln := trVs_length l
    have hw1 := wrap_i64 (n := (i : Int) + 1) ⟨by omega, by omega⟩
    have hw2 := wrap_i64 (n := levels - 1) ⟨by omega, by omega⟩
    have key := fun e bx left => ih (i + 1) e bx left (by omega)
    have cast1 : ((i + 1 : Nat) : Int) = (i : Int) + 1 := by omega
    rw [cast1] at key
    rw [hdr]
    unfold mdTs
    have hop := op_modest_of hmd left (levels - 1) hle' (by omega)
    have hbd := (hmd left (levels - 1) hle' (by omega)).2
    obtain ⟨tu, htu⟩ := VLs
    obtain ⟨tr, htr⟩ := TRs
    obtain ⟨tk, hky⟩ := KYs
    have hlen : True := trivial
    generalize mdT x left (levels - 1) = res at *
    have hpx := trV_pure x
    obtain ⟨xk, xn, xm, xnm, xv, xkey, xkids⟩ := x
    unfold trV at hx' hop hpx
    generalize trVs xkids = ys at *
    generalize trVs l = xs at *
    by_cases c1 : res < 0
    · rw [if_pos c1]
      obtain ⟨ev, eo, so, co, ⟨hev, hco⟩, R⟩ := RULES CC; rw [← hev]
      rw [← hco] at hop
      simp only [fpart, part', Tryd.f10, Option.getD]
      simp (maxSteps := 5000000) only [SA, SB, SD, R, guardAt, binP, intP, indexAddrP, elemsOf, readCells, lenP, lenAt, resultsP, resultP, oneOr, reduceCtorEq, reduceIte, Nat.reduceEqDiff, Nat.reduceAdd, Nat.zero_add, Nat.reduceMul, Nat.reduceLT, Nat.reduceLeDiff, Int.reduceLT, Int.reduceNeg, Int.reduceLE, appendP, appendAt, letGo, setLoc, locVal, Int.reduceToNat, boxCells, und, TG, SE, SC, TRf, List.getElem?_concat_length, List.take_nil, unP, htu, htr, hky, hlen, loadR, loadP, lay, List.take_succ_cons, List.take_zero, List.drop_nil, List.filter_nil, List.cons_append, Int.reduceBEq, Int.reduceBNe, Int.reduceGT, Int.reduceGE, Bool.not_true, Bool.not_false, h1, h2, h51, h52, h53, hi, hi0', hx', hw1, hw2, hop, c1]
      exact ⟨_, _, .inr ⟨by decide, rfl, by simp (maxSteps := 5000000) only [SA, SB, SD, R, guardAt, binP, intP, indexAddrP, elemsOf, readCells, lenP, lenAt, resultsP, resultP, oneOr, reduceCtorEq, reduceIte, Nat.reduceEqDiff, Nat.reduceAdd, Nat.zero_add, Nat.reduceMul, Nat.reduceLT, Nat.reduceLeDiff, Int.reduceLT, Int.reduceNeg, Int.reduceLE, appendP, appendAt, letGo, setLoc, locVal, Int.reduceToNat, boxCells, und]⟩⟩
    · rw [if_neg c1]
      obtain ⟨ev, eo, so, co, ⟨hev, hco⟩, R⟩ := RULES CC; rw [← hev]
      rw [← hev] at key
      rw [← hco] at hop
      simp only [fpart, part', Tryd.f10, Option.getD]
      simp (maxSteps := 5000000) only [SA, SB, SD, R, guardAt, binP, intP, indexAddrP, elemsOf, readCells, lenP, lenAt, resultsP, resultP, oneOr, reduceCtorEq, reduceIte, Nat.reduceEqDiff, Nat.reduceAdd, Nat.zero_add, Nat.reduceMul, Nat.reduceLT, Nat.reduceLeDiff, Int.reduceLT, Int.reduceNeg, Int.reduceLE, appendP, appendAt, letGo, setLoc, locVal, Int.reduceToNat, boxCells, und, TG, SE, SC, TRf, List.getElem?_concat_length, List.take_nil, unP, htu, htr, hky, hlen, loadR, loadP, lay, List.take_succ_cons, List.take_zero, List.drop_nil, List.filter_nil, List.cons_append, Int.reduceBEq, Int.reduceBNe, Int.reduceGT, Int.reduceGE, Bool.not_true, Bool.not_false, h1, h2, h51, h52, h53, hi, hi0', hx', hw1, hw2, hop, c1]
      refine key _ _ _ (by omega) hbd ?_ ?_ ?_ ?_ ?_
      all_goals simp (maxSteps := 5000000) only [SA, SB, SD, R, guardAt, binP, intP, indexAddrP, elemsOf, readCells, lenP, lenAt, resultsP, resultP, oneOr, reduceCtorEq, reduceIte, Nat.reduceEqDiff, Nat.reduceAdd, Nat.zero_add, Nat.reduceMul, Nat.reduceLT, Nat.reduceLeDiff, Int.reduceLT, Int.reduceNeg, Int.reduceLE, appendP, appendAt, letGo, setLoc, locVal, Int.reduceToNat, boxCells, und, h1, h2, h51, h52, h53]
theorem mds_ge : ∀ (l : List Tr) (left levels : Int), -1 ≤ left → -1 ≤ mdTs l left levels
  | [], _, _, h1 => by unfold mdTs; exact h1
  | t :: r, left, levels, h1 => by
    unfold mdTs
    split
    · decide
    · exact mds_ge r _ _ (by omega)
theorem mds_le : ∀ (l : List Tr) (h : ∀ t ∈ l, ∀ left levels : Int, left ≤ 1000 → levels ≤ 1000 → mdT t left levels ≤ 1000) (left levels : Int), left ≤ 1000 → levels ≤ 1000 → mdTs l left levels ≤ 1000
  | [], _, _, _, h1, _ => by unfold mdTs; exact h1
  | t :: r, h, left, levels, h1, h2 => by
    unfold mdTs
    split
    · decide
    · exact mds_le r (fun x hx => h x (by simp [hx])) _ _ (h t (by simp) _ _ h1 h2) h2
theorem node_modest (k n m : Int) (nm : List UInt8) (v : Vl) (key : Ky) (kids : List Tr) (hk : ∀ t ∈ kids, MDp t) : MDp (.mk k n m nm v key kids) := by
  intro left levels hle hlv
  obtain ⟨vk, vn, vs⟩ := v
  obtain ⟨dv, cl, at_⟩ := key
  have hln := trVs_length kids
  have hlnm := len_str nm
  have hlvs := len_str vs
  have hlcl := len_str cl
  have hlat := len_str at_
  obtain ⟨tu, htu⟩ := VLs
  obtain ⟨tr, htr⟩ := TRs
  obtain ⟨tk, hky⟩ := KYs
  have hlen : True := trivial
  unfold mdT trV
  simp only
  by_cases c1 : left < 1
  · rw [if_pos (by omega)]
    refine ⟨?_, by decide⟩
    rw [callL_enter (fn := Tryd.f10) (c := Tryd.f10.body.getD .skip) rfl rfl fat_L30_modest rfl ok_L30_modest (Nat.le_of_ble_eq_true rfl)]
    generalize trVs kids = xs at *
    obtain ⟨ev, eo, so, co, ⟨hev, hco⟩, R⟩ := RULES CC; rw [← hev]
    simp only [fpart, part', Tryd.f10, Option.getD]
    simp (maxSteps := 5000000) only [SA, SB, SD, R, guardAt, binP, intP, indexAddrP, elemsOf, readCells, lenP, lenAt, resultsP, resultP, oneOr, reduceCtorEq, reduceIte, Nat.reduceEqDiff, Nat.reduceAdd, Nat.zero_add, Nat.reduceMul, Nat.reduceLT, Nat.reduceLeDiff, Int.reduceLT, Int.reduceNeg, Int.reduceLE, appendP, appendAt, letGo, setLoc, locVal, Int.reduceToNat, boxCells, und, TG, SE, SC, TRf, List.getElem?_concat_length, List.take_nil, unP, htu, htr, hky, hlen, loadR, loadP, lay, List.take_succ_cons, List.take_zero, List.drop_nil, List.filter_nil, List.cons_append, Int.reduceBEq, Int.reduceBNe, Int.reduceGT, Int.reduceGE, Bool.not_true, Bool.not_false, hln, hlnm, hlvs, hlcl, hlat, c1]
    exact ⟨_, rfl⟩
  · by_cases c2 : levels < 1
    · rw [if_pos (by omega)]
      refine ⟨?_, by decide⟩
      rw [callL_enter (fn := Tryd.f10) (c := Tryd.f10.body.getD .skip) rfl rfl fat_L30_modest rfl ok_L30_modest (Nat.le_of_ble_eq_true rfl)]
      generalize trVs kids = xs at *
      obtain ⟨ev, eo, so, co, ⟨hev, hco⟩, R⟩ := RULES CC; rw [← hev]
      simp only [fpart, part', Tryd.f10, Option.getD]
      simp (maxSteps := 5000000) only [SA, SB, SD, R, guardAt, binP, intP, indexAddrP, elemsOf, readCells, lenP, lenAt, resultsP, resultP, oneOr, reduceCtorEq, reduceIte, Nat.reduceEqDiff, Nat.reduceAdd, Nat.zero_add, Nat.reduceMul, Nat.reduceLT, Nat.reduceLeDiff, Int.reduceLT, Int.reduceNeg, Int.reduceLE, appendP, appendAt, letGo, setLoc, locVal, Int.reduceToNat, boxCells, und, TG, SE, SC, TRf, List.getElem?_concat_length, List.take_nil, unP, htu, htr, hky, hlen, loadR, loadP, lay, List.take_succ_cons, List.take_zero, List.drop_nil, List.filter_nil, List.cons_append, Int.reduceBEq, Int.reduceBNe, Int.reduceGT, Int.reduceGE, Bool.not_true, Bool.not_false, hln, hlnm, hlvs, hlcl, hlat, c1, c2]
      exact ⟨_, rfl⟩
    · by_cases c3 : (kids.length : Int) > 12
      · rw [if_pos (by omega)]
        refine ⟨?_, by decide⟩
        rw [callL_enter (fn := Tryd.f10) (c := Tryd.f10.body.getD .skip) rfl rfl fat_L30_modest rfl ok_L30_modest (Nat.le_of_ble_eq_true rfl)]
        generalize trVs kids = xs at *
        obtain ⟨ev, eo, so, co, ⟨hev, hco⟩, R⟩ := RULES CC; rw [← hev]
        simp only [fpart, part', Tryd.f10, Option.getD]
        simp (maxSteps := 5000000) only [SA, SB, SD, R, guardAt, binP, intP, indexAddrP, elemsOf, readCells, lenP, lenAt, resultsP, resultP, oneOr, reduceCtorEq, reduceIte, Nat.reduceEqDiff, Nat.reduceAdd, Nat.zero_add, Nat.reduceMul, Nat.reduceLT, Nat.reduceLeDiff, Int.reduceLT, Int.reduceNeg, Int.reduceLE, appendP, appendAt, letGo, setLoc, locVal, Int.reduceToNat, boxCells, und, TG, SE, SC, TRf, List.getElem?_concat_length, List.take_nil, unP, htu, htr, hky, hlen, loadR, loadP, lay, List.take_succ_cons, List.take_zero, List.drop_nil, List.filter_nil, List.cons_append, Int.reduceBEq, Int.reduceBNe, Int.reduceGT, Int.reduceGE, Bool.not_true, Bool.not_false, hln, hlnm, hlvs, hlcl, hlat, c1, c2, c3]
        exact ⟨_, rfl⟩
      · by_cases c4 : (nm.length : Int) > 100
        · rw [if_pos (by omega)]
          refine ⟨?_, by decide⟩
          rw [callL_enter (fn := Tryd.f10) (c := Tryd.f10.body.getD .skip) rfl rfl fat_L30_modest rfl ok_L30_modest (Nat.le_of_ble_eq_true rfl)]
          generalize trVs kids = xs at *
          obtain ⟨ev, eo, so, co, ⟨hev, hco⟩, R⟩ := RULES CC; rw [← hev]
          simp only [fpart, part', Tryd.f10, Option.getD]
          simp (maxSteps := 5000000) only [SA, SB, SD, R, guardAt, binP, intP, indexAddrP, elemsOf, readCells, lenP, lenAt, resultsP, resultP, oneOr, reduceCtorEq, reduceIte, Nat.reduceEqDiff, Nat.reduceAdd, Nat.zero_add, Nat.reduceMul, Nat.reduceLT, Nat.reduceLeDiff, Int.reduceLT, Int.reduceNeg, Int.reduceLE, appendP, appendAt, letGo, setLoc, locVal, Int.reduceToNat, boxCells, und, TG, SE, SC, TRf, List.getElem?_concat_length, List.take_nil, unP, htu, htr, hky, hlen, loadR, loadP, lay, List.take_succ_cons, List.take_zero, List.drop_nil, List.filter_nil, List.cons_append, Int.reduceBEq, Int.reduceBNe, Int.reduceGT, Int.reduceGE, Bool.not_true, Bool.not_false, hln, hlnm, hlvs, hlcl, hlat, c1, c2, c3, c4]
          exact ⟨_, rfl⟩
        · by_cases c5 : (vs.length : Int) > 100
          · rw [if_pos (by omega)]
            refine ⟨?_, by decide⟩
            rw [callL_enter (fn := Tryd.f10) (c := Tryd.f10.body.getD .skip) rfl rfl fat_L30_modest rfl ok_L30_modest (Nat.le_of_ble_eq_true rfl)]
            generalize trVs kids = xs at *
            obtain ⟨ev, eo, so, co, ⟨hev, hco⟩, R⟩ := RULES CC; rw [← hev]
            simp only [fpart, part', Tryd.f10, Option.getD]
            simp (maxSteps := 5000000) only [SA, SB, SD, R, guardAt, binP, intP, indexAddrP, elemsOf, readCells, lenP, lenAt, resultsP, resultP, oneOr, reduceCtorEq, reduceIte, Nat.reduceEqDiff, Nat.reduceAdd, Nat.zero_add, Nat.reduceMul, Nat.reduceLT, Nat.reduceLeDiff, Int.reduceLT, Int.reduceNeg, Int.reduceLE, appendP, appendAt, letGo, setLoc, locVal, Int.reduceToNat, boxCells, und, TG, SE, SC, TRf, List.getElem?_concat_length, List.take_nil, unP, htu, htr, hky, hlen, loadR, loadP, lay, List.take_succ_cons, List.take_zero, List.drop_nil, List.filter_nil, List.cons_append, Int.reduceBEq, Int.reduceBNe, Int.reduceGT, Int.reduceGE, Bool.not_true, Bool.not_false, hln, hlnm, hlvs, hlcl, hlat, c1, c2, c3, c4, c5]
            exact ⟨_, rfl⟩
          · by_cases c6 : (cl.length : Int) > 100
            · rw [if_pos (by omega)]
              refine ⟨?_, by decide⟩
              rw [callL_enter (fn := Tryd.f10) (c := Tryd.f10.body.getD .skip) rfl rfl fat_L30_modest rfl ok_L30_modest (Nat.le_of_ble_eq_true rfl)]
              generalize trVs kids = xs at *
              obtain ⟨ev, eo, so, co, ⟨hev, hco⟩, R⟩ := RULES CC; rw [← hev]
              simp only [fpart, part', Tryd.f10, Option.getD]
              simp (maxSteps := 5000000) only [SA, SB, SD, R, guardAt, binP, intP, indexAddrP, elemsOf, readCells, lenP, lenAt, resultsP, resultP, oneOr, reduceCtorEq, reduceIte, Nat.reduceEqDiff, Nat.reduceAdd, Nat.zero_add, Nat.reduceMul, Nat.reduceLT, Nat.reduceLeDiff, Int.reduceLT, Int.reduceNeg, Int.reduceLE, appendP, appendAt, letGo, setLoc, locVal, Int.reduceToNat, boxCells, und, TG, SE, SC, TRf, List.getElem?_concat_length, List.take_nil, unP, htu, htr, hky, hlen, loadR, loadP, lay, List.take_succ_cons, List.take_zero, List.drop_nil, List.filter_nil, List.cons_append, Int.reduceBEq, Int.reduceBNe, Int.reduceGT, Int.reduceGE, Bool.not_true, Bool.not_false, hln, hlnm, hlvs, hlcl, hlat, c1, c2, c3, c4, c5, c6]
              exact ⟨_, rfl⟩
            · by_cases c7 : (at_.length : Int) > 100
              · rw [if_pos (by omega)]
                refine ⟨?_, by decide⟩
                rw [callL_enter (fn := Tryd.f10) (c := Tryd.f10.body.getD .skip) rfl rfl fat_L30_modest rfl ok_L30_modest (Nat.le_of_ble_eq_true rfl)]
                generalize trVs kids = xs at *
                obtain ⟨ev, eo, so, co, ⟨hev, hco⟩, R⟩ := RULES CC; rw [← hev]
                simp only [fpart, part', Tryd.f10, Option.getD]
                simp (maxSteps := 5000000) only [SA, SB, SD, R, guardAt, binP, intP, indexAddrP, elemsOf, readCells, lenP, lenAt, resultsP, resultP, oneOr, reduceCtorEq, reduceIte, Nat.reduceEqDiff, Nat.reduceAdd, Nat.zero_add, Nat.reduceMul, Nat.reduceLT, Nat.reduceLeDiff, Int.reduceLT, Int.reduceNeg, Int.reduceLE, appendP, appendAt, letGo, setLoc, locVal, Int.reduceToNat, boxCells, und, TG, SE, SC, TRf, List.getElem?_concat_length, List.take_nil, unP, htu, htr, hky, hlen, loadR, loadP, lay, List.take_succ_cons, List.take_zero, List.drop_nil, List.filter_nil, List.cons_append, Int.reduceBEq, Int.reduceBNe, Int.reduceGT, Int.reduceGE, Bool.not_true, Bool.not_false, hln, hlnm, hlvs, hlcl, hlat, c1, c2, c3, c4, c5, c6, c7]
                exact ⟨_, rfl⟩
              · rw [if_neg (by omega)]
                have hw := wrap_i64 (n := left - 1) ⟨by omega, by omega⟩
                have hl12 : kids.length ≤ 12 := by omega
                have key := fun L hL e bx h1 h2 h51 h52 h53 => loop_modest L hL levels hlv (by omega) kids (by omega) hk kids.length 0 e bx (left - 1) (by omega) (by omega) (by omega) h1 h2 h51 h52 h53
                rw [List.drop_zero] at key
                have hge : -1 ≤ mdTs kids (left - 1) (levels - 1) := mds_ge kids _ _ (by omega)
                have hbd : mdTs kids (left - 1) (levels - 1) ≤ 1000 := mds_le kids (fun t ht l v a b => (hk t ht l v a b).2) _ _ (by omega) (by omega)
                generalize mdTs kids (left - 1) (levels - 1) = res at *
                refine ⟨?_, hbd⟩
                rw [callL_enter (fn := Tryd.f10) (c := Tryd.f10.body.getD .skip) rfl rfl fat_L30_modest rfl ok_L30_modest (Nat.le_of_ble_eq_true rfl)]
                generalize trVs kids = xs at *
                obtain ⟨ev, eo, so, co, ⟨hev, hco⟩, R⟩ := RULES CC; rw [← hev]
                rw [← hev] at key
                simp only [fpart, part', Tryd.f10, Option.getD]
                simp (maxSteps := 5000000) only [SA, SB, SD, R, guardAt, binP, intP, indexAddrP, elemsOf, readCells, lenP, lenAt, resultsP, resultP, oneOr, reduceCtorEq, reduceIte, Nat.reduceEqDiff, Nat.reduceAdd, Nat.zero_add, Nat.reduceMul, Nat.reduceLT, Nat.reduceLeDiff, Int.reduceLT, Int.reduceNeg, Int.reduceLE, appendP, appendAt, letGo, setLoc, locVal, Int.reduceToNat, boxCells, und, TG, SE, SC, TRf, List.getElem?_concat_length, List.take_nil, unP, htu, htr, hky, hlen, loadR, loadP, lay, List.take_succ_cons, List.take_zero, List.drop_nil, List.filter_nil, List.cons_append, Int.reduceBEq, Int.reduceBNe, Int.reduceGT, Int.reduceGE, Bool.not_true, Bool.not_false, hln, hlnm, hlvs, hlcl, hlat, hw, c1, c2, c3, c4, c5, c6, c7]
                generalize hE : ev (Code.loop _) _ = z
                have hP : PMd res z := by
                  rw [← hE]
                  refine key _ rfl _ _ ?_ ?_ ?_ ?_ ?_
                  all_goals first | (simp (maxSteps := 5000000) only [SA, SB, SD, R, guardAt, binP, intP, indexAddrP, elemsOf, readCells, lenP, lenAt, resultsP, resultP, oneOr, reduceCtorEq, reduceIte, Nat.reduceEqDiff, Nat.reduceAdd, Nat.zero_add, Nat.reduceMul, Nat.reduceLT, Nat.reduceLeDiff, Int.reduceLT, Int.reduceNeg, Int.reduceLE, appendP, appendAt, letGo, setLoc, locVal, Int.reduceToNat, boxCells, und]; done) | (simp (maxSteps := 5000000) only [SA, SB, SD, R, guardAt, binP, intP, indexAddrP, elemsOf, readCells, lenP, lenAt, resultsP, resultP, oneOr, reduceCtorEq, reduceIte, Nat.reduceEqDiff, Nat.reduceAdd, Nat.zero_add, Nat.reduceMul, Nat.reduceLT, Nat.reduceLeDiff, Int.reduceLT, Int.reduceNeg, Int.reduceLE, appendP, appendAt, letGo, setLoc, locVal, Int.reduceToNat, boxCells, und]; rfl)
                obtain ⟨e', bx', ⟨h0, he, g1⟩ | ⟨h0, he, g6⟩⟩ := hP
                · subst he
                  simp (maxSteps := 5000000) only [SA, SB, SD, R, guardAt, binP, intP, indexAddrP, elemsOf, readCells, lenP, lenAt, resultsP, resultP, oneOr, reduceCtorEq, reduceIte, Nat.reduceEqDiff, Nat.reduceAdd, Nat.zero_add, Nat.reduceMul, Nat.reduceLT, Nat.reduceLeDiff, Int.reduceLT, Int.reduceNeg, Int.reduceLE, appendP, appendAt, letGo, setLoc, locVal, Int.reduceToNat, boxCells, und, TG, SE, g1]
                  exact ⟨_, rfl⟩
                · subst he
                  have : res = -1 := by omega
                  subst this
                  simp (maxSteps := 5000000) only [SA, SB, SD, R, guardAt, binP, intP, indexAddrP, elemsOf, readCells, lenP, lenAt, resultsP, resultP, oneOr, reduceCtorEq, reduceIte, Nat.reduceEqDiff, Nat.reduceAdd, Nat.zero_add, Nat.reduceMul, Nat.reduceLT, Nat.reduceLeDiff, Int.reduceLT, Int.reduceNeg, Int.reduceLE, appendP, appendAt, letGo, setLoc, locVal, Int.reduceToNat, boxCells, und, TG, SE, g6]
                  exact ⟨_, rfl⟩
mutual
theorem call_modest (t : Tr) : MDp t := by
  match t with
  | .mk k n m nm v key kids => exact node_modest k n m nm v key kids (calls_modest kids)
theorem calls_modest (l : List Tr) : ∀ t ∈ l, MDp t := by
  match l with
  | [] => intro t ht; simp at ht
  | t :: r =>
    intro x hx
    rcases List.mem_cons.1 hx with h | h
    · rw [h]; exact call_modest t
    · exact calls_modest r x h
end
theorem op_modest (t : Tr) (left levels : Int) (h1 : left ≤ 1000) (h2 : levels ≤ 1000) (bx) : callOp CC (callL CC) 10 [trV t, .int .i64 left, .int .i64 levels] bx = some (.ret (.int .i64 (mdT t left levels)), bx) := op_modest_of (call_modest t) left levels h1 h2 bx
theorem ok_expr_spare : fnOK CC Tryd.f52 (Tryd.f52.body.getD .skip) = true := by kernel_rfl
theorem fat_expr_spare : CC.P.funcs[52]? = some Tryd.f52 := by kernel_rfl
theorem buildVl0 : buildP CC 24 [] = some (.agg [.int .i64 0, .int .i64 0, .str []]) := by kernel_rfl
theorem buildKy0 : buildP CC 26 [] = some (.agg [.int .i64 0, .str [], .str []]) := by kernel_rfl
def eqKy (v w : Ky) : Bool := (v.1 == w.1) && (v.2.1 == w.2.1) && (v.2.2 == w.2.2)
theorem eqKP (a a' : Int) (b b' c c' : List UInt8) : eqP CC 100 26 (.agg [.int .i64 a, .str b, .str c]) (.agg [.int .i64 a', .str b', .str c']) = some ((a == a') && (b == b') && (c == c')) := by
  have h : eqP CC 100 26 (.agg [.int .i64 a, .str b, .str c]) (.agg [.int .i64 a', .str b', .str c']) = and2 (a == a') (and2 (b == b') (and2 (c == c') (some true))) := by kernel_rfl
  rw [h]
  cases a == a' <;> cases b == b' <;> cases c == c' <;> rfl
theorem eqgK : CC.P.eqGuardType CC.P.depth 26 = false := by kernel_rfl
theorem eqVz : eqP CC 100 24 (.agg [.int .i64 0, .int .i64 0, .str []]) (.agg [.int .i64 0, .int .i64 0, .str []]) = some true := by rw [eqVP]; rfl
theorem eqKz : eqP CC 100 26 (.agg [.int .i64 0, .str [], .str []]) (.agg [.int .i64 0, .str [], .str []]) = some true := by rw [eqKP]; rfl
/-- has a node a field that its kind does not have? (the fields that are not zero: N, M, Name, Value, Key) -/
def spB (k : Int) (b1 b2 b3 b4 b5 : Bool) : Bool := (b1 && !(k == 4 || k == 5 || k == 15)) || (b2 && !(k == 4)) || (b3 && !(k == 3)) || (b4 && !(k == 1)) || (b5 && !(k == 2))
def spT : Tr → Bool
  | .mk k n m nm v key _ => spB k (n != 0) (m != 0) (!(nm == [])) (!(eqVl v (0, 0, []))) (!(eqKy key (0, [], [])))
theorem expr_spare_1 (n m : Int) (nm : List UInt8) (vk vn : Int) (vs : List UInt8) (dv : Int) (cl at_ : List UInt8) (xs : List PV) (b1 b2 b3 b4 b5 : Bool) (h1 : (n != 0) = b1) (h1' : (n == 0) = !b1) (h2 : (m != 0) = b2) (h2' : (m == 0) = !b2)
    (h3 : strP .neq nm [] = some (.bool b3)) (h3' : strP .eql nm [] = some (.bool (!b3))) (h4 : eqP CC 100 24 (.agg [.int .i64 vk, .int .i64 vn, .str vs]) (.agg [.int .i64 0, .int .i64 0, .str []]) = some (!b4)) (h5 : eqP CC 100 26 (.agg [.int .i64 dv, .str cl, .str at_]) (.agg [.int .i64 0, .str [], .str []]) = some (!b5)) :
    ∃ bx, callL CC 52 [.agg [.int .i64 1, .int .i64 n, .int .i64 m, .str nm, .int .i64 vk, .int .i64 vn, .str vs, .int .i64 dv, .str cl, .str at_, .sl xs]] [] = some (.ret (.bool (spB 1 b1 b2 b3 b4 b5)), bx) := by
  rw [callL_enter (fn := Tryd.f52) (c := Tryd.f52.body.getD .skip) rfl rfl fat_expr_spare rfl ok_expr_spare (Nat.le_of_ble_eq_true rfl)]
  have h3z : strP .neq [] [] = some (.bool false) := rfl
  have h3z' : strP .eql [] [] = some (.bool true) := rfl
  obtain ⟨tu, htu⟩ := VLs
  obtain ⟨tr, htr⟩ := TRs
  obtain ⟨tk, hky⟩ := KYs
  cases b1 with
  | true =>
    have hs : spB 1 true b2 b3 b4 b5 = true := by simp [spB]
    rw [hs]
    obtain ⟨ev, eo, so, co, ⟨hev, hco⟩, R⟩ := RULES CC; rw [← hev]
    simp only [fpart, part', Tryd.f52, Option.getD]
    simp (maxSteps := 5000000) only [SA, SB, SD, R, guardAt, binP, intP, indexAddrP, elemsOf, readCells, lenP, lenAt, resultsP, resultP, oneOr, reduceCtorEq, reduceIte, Nat.reduceEqDiff, Nat.reduceAdd, Nat.zero_add, Nat.reduceMul, Nat.reduceLT, Nat.reduceLeDiff, Int.reduceLT, Int.reduceNeg, Int.reduceLE, appendP, appendAt, letGo, setLoc, locVal, Int.reduceToNat, boxCells, und, TG, SE, SC, TRf, buildVl0, buildKy0, eqgV, eqgK, eqVz, eqKz, unP, htu, htr, hky, loadR, loadP, storeR, storeK, storeCellsP, laid, lay, setBox, List.set_cons_zero, List.set_cons_succ, Nat.le_refl, List.take_succ_cons, List.take_zero, List.drop_nil, List.filter_nil, List.cons_append, Int.reduceBEq, Int.reduceBNe, Int.reduceGT, Int.reduceGE, Bool.not_true, Bool.not_false, h1, h1', h2, h2', h3, h3', h3z, h3z', h4, h5]
    exact ⟨_, rfl⟩
  | false =>
    cases b2 with
    | true =>
      have hs : spB 1 false true b3 b4 b5 = true := by simp [spB]
      rw [hs]
      obtain ⟨ev, eo, so, co, ⟨hev, hco⟩, R⟩ := RULES CC; rw [← hev]
      simp only [fpart, part', Tryd.f52, Option.getD]
      simp (maxSteps := 5000000) only [SA, SB, SD, R, guardAt, binP, intP, indexAddrP, elemsOf, readCells, lenP, lenAt, resultsP, resultP, oneOr, reduceCtorEq, reduceIte, Nat.reduceEqDiff, Nat.reduceAdd, Nat.zero_add, Nat.reduceMul, Nat.reduceLT, Nat.reduceLeDiff, Int.reduceLT, Int.reduceNeg, Int.reduceLE, appendP, appendAt, letGo, setLoc, locVal, Int.reduceToNat, boxCells, und, TG, SE, SC, TRf, buildVl0, buildKy0, eqgV, eqgK, eqVz, eqKz, unP, htu, htr, hky, loadR, loadP, storeR, storeK, storeCellsP, laid, lay, setBox, List.set_cons_zero, List.set_cons_succ, Nat.le_refl, List.take_succ_cons, List.take_zero, List.drop_nil, List.filter_nil, List.cons_append, Int.reduceBEq, Int.reduceBNe, Int.reduceGT, Int.reduceGE, Bool.not_true, Bool.not_false, h1, h1', h2, h2', h3, h3', h3z, h3z', h4, h5]
      exact ⟨_, rfl⟩
    | false =>
      cases b3 with
      | true =>
        have hs : spB 1 false false true b4 b5 = true := by simp [spB]
        rw [hs]
        obtain ⟨ev, eo, so, co, ⟨hev, hco⟩, R⟩ := RULES CC; rw [← hev]
        simp only [fpart, part', Tryd.f52, Option.getD]
        simp (maxSteps := 5000000) only [SA, SB, SD, R, guardAt, binP, intP, indexAddrP, elemsOf, readCells, lenP, lenAt, resultsP, resultP, oneOr, reduceCtorEq, reduceIte, Nat.reduceEqDiff, Nat.reduceAdd, Nat.zero_add, Nat.reduceMul, Nat.reduceLT, Nat.reduceLeDiff, Int.reduceLT, Int.reduceNeg, Int.reduceLE, appendP, appendAt, letGo, setLoc, locVal, Int.reduceToNat, boxCells, und, TG, SE, SC, TRf, buildVl0, buildKy0, eqgV, eqgK, eqVz, eqKz, unP, htu, htr, hky, loadR, loadP, storeR, storeK, storeCellsP, laid, lay, setBox, List.set_cons_zero, List.set_cons_succ, Nat.le_refl, List.take_succ_cons, List.take_zero, List.drop_nil, List.filter_nil, List.cons_append, Int.reduceBEq, Int.reduceBNe, Int.reduceGT, Int.reduceGE, Bool.not_true, Bool.not_false, h1, h1', h2, h2', h3, h3', h3z, h3z', h4, h5]
        exact ⟨_, rfl⟩
      | false =>
        cases b5 with
        | true =>
          have hs : spB 1 false false false b4 true = true := by simp [spB]
          rw [hs]
          obtain ⟨ev, eo, so, co, ⟨hev, hco⟩, R⟩ := RULES CC; rw [← hev]
          simp only [fpart, part', Tryd.f52, Option.getD]
          simp (maxSteps := 5000000) only [SA, SB, SD, R, guardAt, binP, intP, indexAddrP, elemsOf, readCells, lenP, lenAt, resultsP, resultP, oneOr, reduceCtorEq, reduceIte, Nat.reduceEqDiff, Nat.reduceAdd, Nat.zero_add, Nat.reduceMul, Nat.reduceLT, Nat.reduceLeDiff, Int.reduceLT, Int.reduceNeg, Int.reduceLE, appendP, appendAt, letGo, setLoc, locVal, Int.reduceToNat, boxCells, und, TG, SE, SC, TRf, buildVl0, buildKy0, eqgV, eqgK, eqVz, eqKz, unP, htu, htr, hky, loadR, loadP, storeR, storeK, storeCellsP, laid, lay, setBox, List.set_cons_zero, List.set_cons_succ, Nat.le_refl, List.take_succ_cons, List.take_zero, List.drop_nil, List.filter_nil, List.cons_append, Int.reduceBEq, Int.reduceBNe, Int.reduceGT, Int.reduceGE, Bool.not_true, Bool.not_false, h1, h1', h2, h2', h3, h3', h3z, h3z', h4, h5]
          exact ⟨_, rfl⟩
        | false =>
          have hs : spB 1 false false false b4 false = false := by simp [spB]
          rw [hs]
          obtain ⟨ev, eo, so, co, ⟨hev, hco⟩, R⟩ := RULES CC; rw [← hev]
          simp only [fpart, part', Tryd.f52, Option.getD]
          simp (maxSteps := 5000000) only [SA, SB, SD, R, guardAt, binP, intP, indexAddrP, elemsOf, readCells, lenP, lenAt, resultsP, resultP, oneOr, reduceCtorEq, reduceIte, Nat.reduceEqDiff, Nat.reduceAdd, Nat.zero_add, Nat.reduceMul, Nat.reduceLT, Nat.reduceLeDiff, Int.reduceLT, Int.reduceNeg, Int.reduceLE, appendP, appendAt, letGo, setLoc, locVal, Int.reduceToNat, boxCells, und, TG, SE, SC, TRf, buildVl0, buildKy0, eqgV, eqgK, eqVz, eqKz, unP, htu, htr, hky, loadR, loadP, storeR, storeK, storeCellsP, laid, lay, setBox, List.set_cons_zero, List.set_cons_succ, Nat.le_refl, List.take_succ_cons, List.take_zero, List.drop_nil, List.filter_nil, List.cons_append, Int.reduceBEq, Int.reduceBNe, Int.reduceGT, Int.reduceGE, Bool.not_true, Bool.not_false, h1, h1', h2, h2', h3, h3', h3z, h3z', h4, h5]
          exact ⟨_, rfl⟩
theorem expr_spare_2 (n m : Int) (nm : List UInt8) (vk vn : Int) (vs : List UInt8) (dv : Int) (cl at_ : List UInt8) (xs : List PV) (b1 b2 b3 b4 b5 : Bool) (h1 : (n != 0) = b1) (h1' : (n == 0) = !b1) (h2 : (m != 0) = b2) (h2' : (m == 0) = !b2)
    (h3 : strP .neq nm [] = some (.bool b3)) (h3' : strP .eql nm [] = some (.bool (!b3))) (h4 : eqP CC 100 24 (.agg [.int .i64 vk, .int .i64 vn, .str vs]) (.agg [.int .i64 0, .int .i64 0, .str []]) = some (!b4)) (h5 : eqP CC 100 26 (.agg [.int .i64 dv, .str cl, .str at_]) (.agg [.int .i64 0, .str [], .str []]) = some (!b5)) :
    ∃ bx, callL CC 52 [.agg [.int .i64 2, .int .i64 n, .int .i64 m, .str nm, .int .i64 vk, .int .i64 vn, .str vs, .int .i64 dv, .str cl, .str at_, .sl xs]] [] = some (.ret (.bool (spB 2 b1 b2 b3 b4 b5)), bx) := by
  rw [callL_enter (fn := Tryd.f52) (c := Tryd.f52.body.getD .skip) rfl rfl fat_expr_spare rfl ok_expr_spare (Nat.le_of_ble_eq_true rfl)]
  have h3z : strP .neq [] [] = some (.bool false) := rfl
  have h3z' : strP .eql [] [] = some (.bool true) := rfl
  obtain ⟨tu, htu⟩ := VLs
  obtain ⟨tr, htr⟩ := TRs
  obtain ⟨tk, hky⟩ := KYs
  cases b1 with
  | true =>
    have hs : spB 2 true b2 b3 b4 b5 = true := by simp [spB]
    rw [hs]
    obtain ⟨ev, eo, so, co, ⟨hev, hco⟩, R⟩ := RULES CC; rw [← hev]
    simp only [fpart, part', Tryd.f52, Option.getD]
    simp (maxSteps := 5000000) only [SA, SB, SD, R, guardAt, binP, intP, indexAddrP, elemsOf, readCells, lenP, lenAt, resultsP, resultP, oneOr, reduceCtorEq, reduceIte, Nat.reduceEqDiff, Nat.reduceAdd, Nat.zero_add, Nat.reduceMul, Nat.reduceLT, Nat.reduceLeDiff, Int.reduceLT, Int.reduceNeg, Int.reduceLE, appendP, appendAt, letGo, setLoc, locVal, Int.reduceToNat, boxCells, und, TG, SE, SC, TRf, buildVl0, buildKy0, eqgV, eqgK, eqVz, eqKz, unP, htu, htr, hky, loadR, loadP, storeR, storeK, storeCellsP, laid, lay, setBox, List.set_cons_zero, List.set_cons_succ, Nat.le_refl, List.take_succ_cons, List.take_zero, List.drop_nil, List.filter_nil, List.cons_append, Int.reduceBEq, Int.reduceBNe, Int.reduceGT, Int.reduceGE, Bool.not_true, Bool.not_false, h1, h1', h2, h2', h3, h3', h3z, h3z', h4, h5]
    exact ⟨_, rfl⟩
  | false =>
    cases b2 with
    | true =>
      have hs : spB 2 false true b3 b4 b5 = true := by simp [spB]
      rw [hs]
      obtain ⟨ev, eo, so, co, ⟨hev, hco⟩, R⟩ := RULES CC; rw [← hev]
      simp only [fpart, part', Tryd.f52, Option.getD]
      simp (maxSteps := 5000000) only [SA, SB, SD, R, guardAt, binP, intP, indexAddrP, elemsOf, readCells, lenP, lenAt, resultsP, resultP, oneOr, reduceCtorEq, reduceIte, Nat.reduceEqDiff, Nat.reduceAdd, Nat.zero_add, Nat.reduceMul, Nat.reduceLT, Nat.reduceLeDiff, Int.reduceLT, Int.reduceNeg, Int.reduceLE, appendP, appendAt, letGo, setLoc, locVal, Int.reduceToNat, boxCells, und, TG, SE, SC, TRf, buildVl0, buildKy0, eqgV, eqgK, eqVz, eqKz, unP, htu, htr, hky, loadR, loadP, storeR, storeK, storeCellsP, laid, lay, setBox, List.set_cons_zero, List.set_cons_succ, Nat.le_refl, List.take_succ_cons, List.take_zero, List.drop_nil, List.filter_nil, List.cons_append, Int.reduceBEq, Int.reduceBNe, Int.reduceGT, Int.reduceGE, Bool.not_true, Bool.not_false, h1, h1', h2, h2', h3, h3', h3z, h3z', h4, h5]
      exact ⟨_, rfl⟩
    | false =>
      cases b3 with
      | true =>
        have hs : spB 2 false false true b4 b5 = true := by simp [spB]
        rw [hs]
        obtain ⟨ev, eo, so, co, ⟨hev, hco⟩, R⟩ := RULES CC; rw [← hev]
        simp only [fpart, part', Tryd.f52, Option.getD]
        simp (maxSteps := 5000000) only [SA, SB, SD, R, guardAt, binP, intP, indexAddrP, elemsOf, readCells, lenP, lenAt, resultsP, resultP, oneOr, reduceCtorEq, reduceIte, Nat.reduceEqDiff, Nat.reduceAdd, Nat.zero_add, Nat.reduceMul, Nat.reduceLT, Nat.reduceLeDiff, Int.reduceLT, Int.reduceNeg, Int.reduceLE, appendP, appendAt, letGo, setLoc, locVal, Int.reduceToNat, boxCells, und, TG, SE, SC, TRf, buildVl0, buildKy0, eqgV, eqgK, eqVz, eqKz, unP, htu, htr, hky, loadR, loadP, storeR, storeK, storeCellsP, laid, lay, setBox, List.set_cons_zero, List.set_cons_succ, Nat.le_refl, List.take_succ_cons, List.take_zero, List.drop_nil, List.filter_nil, List.cons_append, Int.reduceBEq, Int.reduceBNe, Int.reduceGT, Int.reduceGE, Bool.not_true, Bool.not_false, h1, h1', h2, h2', h3, h3', h3z, h3z', h4, h5]
        exact ⟨_, rfl⟩
      | false =>
        cases b4 with
        | true =>
          have hs : spB 2 false false false true b5 = true := by simp [spB]
          rw [hs]
          obtain ⟨ev, eo, so, co, ⟨hev, hco⟩, R⟩ := RULES CC; rw [← hev]
          simp only [fpart, part', Tryd.f52, Option.getD]
          simp (maxSteps := 5000000) only [SA, SB, SD, R, guardAt, binP, intP, indexAddrP, elemsOf, readCells, lenP, lenAt, resultsP, resultP, oneOr, reduceCtorEq, reduceIte, Nat.reduceEqDiff, Nat.reduceAdd, Nat.zero_add, Nat.reduceMul, Nat.reduceLT, Nat.reduceLeDiff, Int.reduceLT, Int.reduceNeg, Int.reduceLE, appendP, appendAt, letGo, setLoc, locVal, Int.reduceToNat, boxCells, und, TG, SE, SC, TRf, buildVl0, buildKy0, eqgV, eqgK, eqVz, eqKz, unP, htu, htr, hky, loadR, loadP, storeR, storeK, storeCellsP, laid, lay, setBox, List.set_cons_zero, List.set_cons_succ, Nat.le_refl, List.take_succ_cons, List.take_zero, List.drop_nil, List.filter_nil, List.cons_append, Int.reduceBEq, Int.reduceBNe, Int.reduceGT, Int.reduceGE, Bool.not_true, Bool.not_false, h1, h1', h2, h2', h3, h3', h3z, h3z', h4, h5]
          exact ⟨_, rfl⟩
        | false =>
          have hs : spB 2 false false false false b5 = false := by simp [spB]
          rw [hs]
          obtain ⟨ev, eo, so, co, ⟨hev, hco⟩, R⟩ := RULES CC; rw [← hev]
          simp only [fpart, part', Tryd.f52, Option.getD]
          simp (maxSteps := 5000000) only [SA, SB, SD, R, guardAt, binP, intP, indexAddrP, elemsOf, readCells, lenP, lenAt, resultsP, resultP, oneOr, reduceCtorEq, reduceIte, Nat.reduceEqDiff, Nat.reduceAdd, Nat.zero_add, Nat.reduceMul, Nat.reduceLT, Nat.reduceLeDiff, Int.reduceLT, Int.reduceNeg, Int.reduceLE, appendP, appendAt, letGo, setLoc, locVal, Int.reduceToNat, boxCells, und, TG, SE, SC, TRf, buildVl0, buildKy0, eqgV, eqgK, eqVz, eqKz, unP, htu, htr, hky, loadR, loadP, storeR, storeK, storeCellsP, laid, lay, setBox, List.set_cons_zero, List.set_cons_succ, Nat.le_refl, List.take_succ_cons, List.take_zero, List.drop_nil, List.filter_nil, List.cons_append, Int.reduceBEq, Int.reduceBNe, Int.reduceGT, Int.reduceGE, Bool.not_true, Bool.not_false, h1, h1', h2, h2', h3, h3', h3z, h3z', h4, h5]
          exact ⟨_, rfl⟩
theorem expr_spare_3 (n m : Int) (nm : List UInt8) (vk vn : Int) (vs : List UInt8) (dv : Int) (cl at_ : List UInt8) (xs : List PV) (b1 b2 b3 b4 b5 : Bool) (h1 : (n != 0) = b1) (h1' : (n == 0) = !b1) (h2 : (m != 0) = b2) (h2' : (m == 0) = !b2)
    (h3 : strP .neq nm [] = some (.bool b3)) (h3' : strP .eql nm [] = some (.bool (!b3))) (h4 : eqP CC 100 24 (.agg [.int .i64 vk, .int .i64 vn, .str vs]) (.agg [.int .i64 0, .int .i64 0, .str []]) = some (!b4)) (h5 : eqP CC 100 26 (.agg [.int .i64 dv, .str cl, .str at_]) (.agg [.int .i64 0, .str [], .str []]) = some (!b5)) :
    ∃ bx, callL CC 52 [.agg [.int .i64 3, .int .i64 n, .int .i64 m, .str nm, .int .i64 vk, .int .i64 vn, .str vs, .int .i64 dv, .str cl, .str at_, .sl xs]] [] = some (.ret (.bool (spB 3 b1 b2 b3 b4 b5)), bx) := by
  rw [callL_enter (fn := Tryd.f52) (c := Tryd.f52.body.getD .skip) rfl rfl fat_expr_spare rfl ok_expr_spare (Nat.le_of_ble_eq_true rfl)]
  have h3z : strP .neq [] [] = some (.bool false) := rfl
  have h3z' : strP .eql [] [] = some (.bool true) := rfl
  obtain ⟨tu, htu⟩ := VLs
  obtain ⟨tr, htr⟩ := TRs
  obtain ⟨tk, hky⟩ := KYs
  cases b1 with
  | true =>
    have hs : spB 3 true b2 b3 b4 b5 = true := by simp [spB]
    rw [hs]
    obtain ⟨ev, eo, so, co, ⟨hev, hco⟩, R⟩ := RULES CC; rw [← hev]
    simp only [fpart, part', Tryd.f52, Option.getD]
    simp (maxSteps := 5000000) only [SA, SB, SD, R, guardAt, binP, intP, indexAddrP, elemsOf, readCells, lenP, lenAt, resultsP, resultP, oneOr, reduceCtorEq, reduceIte, Nat.reduceEqDiff, Nat.reduceAdd, Nat.zero_add, Nat.reduceMul, Nat.reduceLT, Nat.reduceLeDiff, Int.reduceLT, Int.reduceNeg, Int.reduceLE, appendP, appendAt, letGo, setLoc, locVal, Int.reduceToNat, boxCells, und, TG, SE, SC, TRf, buildVl0, buildKy0, eqgV, eqgK, eqVz, eqKz, unP, htu, htr, hky, loadR, loadP, storeR, storeK, storeCellsP, laid, lay, setBox, List.set_cons_zero, List.set_cons_succ, Nat.le_refl, List.take_succ_cons, List.take_zero, List.drop_nil, List.filter_nil, List.cons_append, Int.reduceBEq, Int.reduceBNe, Int.reduceGT, Int.reduceGE, Bool.not_true, Bool.not_false, h1, h1', h2, h2', h3, h3', h3z, h3z', h4, h5]
    exact ⟨_, rfl⟩
  | false =>
    cases b2 with
    | true =>
      have hs : spB 3 false true b3 b4 b5 = true := by simp [spB]
      rw [hs]
      obtain ⟨ev, eo, so, co, ⟨hev, hco⟩, R⟩ := RULES CC; rw [← hev]
      simp only [fpart, part', Tryd.f52, Option.getD]
      simp (maxSteps := 5000000) only [SA, SB, SD, R, guardAt, binP, intP, indexAddrP, elemsOf, readCells, lenP, lenAt, resultsP, resultP, oneOr, reduceCtorEq, reduceIte, Nat.reduceEqDiff, Nat.reduceAdd, Nat.zero_add, Nat.reduceMul, Nat.reduceLT, Nat.reduceLeDiff, Int.reduceLT, Int.reduceNeg, Int.reduceLE, appendP, appendAt, letGo, setLoc, locVal, Int.reduceToNat, boxCells, und, TG, SE, SC, TRf, buildVl0, buildKy0, eqgV, eqgK, eqVz, eqKz, unP, htu, htr, hky, loadR, loadP, storeR, storeK, storeCellsP, laid, lay, setBox, List.set_cons_zero, List.set_cons_succ, Nat.le_refl, List.take_succ_cons, List.take_zero, List.drop_nil, List.filter_nil, List.cons_append, Int.reduceBEq, Int.reduceBNe, Int.reduceGT, Int.reduceGE, Bool.not_true, Bool.not_false, h1, h1', h2, h2', h3, h3', h3z, h3z', h4, h5]
      exact ⟨_, rfl⟩
    | false =>
      cases b4 with
      | true =>
        have hs : spB 3 false false b3 true b5 = true := by simp [spB]
        rw [hs]
        obtain ⟨ev, eo, so, co, ⟨hev, hco⟩, R⟩ := RULES CC; rw [← hev]
        simp only [fpart, part', Tryd.f52, Option.getD]
        simp (maxSteps := 5000000) only [SA, SB, SD, R, guardAt, binP, intP, indexAddrP, elemsOf, readCells, lenP, lenAt, resultsP, resultP, oneOr, reduceCtorEq, reduceIte, Nat.reduceEqDiff, Nat.reduceAdd, Nat.zero_add, Nat.reduceMul, Nat.reduceLT, Nat.reduceLeDiff, Int.reduceLT, Int.reduceNeg, Int.reduceLE, appendP, appendAt, letGo, setLoc, locVal, Int.reduceToNat, boxCells, und, TG, SE, SC, TRf, buildVl0, buildKy0, eqgV, eqgK, eqVz, eqKz, unP, htu, htr, hky, loadR, loadP, storeR, storeK, storeCellsP, laid, lay, setBox, List.set_cons_zero, List.set_cons_succ, Nat.le_refl, List.take_succ_cons, List.take_zero, List.drop_nil, List.filter_nil, List.cons_append, Int.reduceBEq, Int.reduceBNe, Int.reduceGT, Int.reduceGE, Bool.not_true, Bool.not_false, h1, h1', h2, h2', h3, h3', h3z, h3z', h4, h5]
        exact ⟨_, rfl⟩
      | false =>
        cases b5 with
        | true =>
          have hs : spB 3 false false b3 false true = true := by simp [spB]
          rw [hs]
          obtain ⟨ev, eo, so, co, ⟨hev, hco⟩, R⟩ := RULES CC; rw [← hev]
          simp only [fpart, part', Tryd.f52, Option.getD]
          simp (maxSteps := 5000000) only [SA, SB, SD, R, guardAt, binP, intP, indexAddrP, elemsOf, readCells, lenP, lenAt, resultsP, resultP, oneOr, reduceCtorEq, reduceIte, Nat.reduceEqDiff, Nat.reduceAdd, Nat.zero_add, Nat.reduceMul, Nat.reduceLT, Nat.reduceLeDiff, Int.reduceLT, Int.reduceNeg, Int.reduceLE, appendP, appendAt, letGo, setLoc, locVal, Int.reduceToNat, boxCells, und, TG, SE, SC, TRf, buildVl0, buildKy0, eqgV, eqgK, eqVz, eqKz, unP, htu, htr, hky, loadR, loadP, storeR, storeK, storeCellsP, laid, lay, setBox, List.set_cons_zero, List.set_cons_succ, Nat.le_refl, List.take_succ_cons, List.take_zero, List.drop_nil, List.filter_nil, List.cons_append, Int.reduceBEq, Int.reduceBNe, Int.reduceGT, Int.reduceGE, Bool.not_true, Bool.not_false, h1, h1', h2, h2', h3, h3', h3z, h3z', h4, h5]
          exact ⟨_, rfl⟩
        | false =>
          have hs : spB 3 false false b3 false false = false := by simp [spB]
          rw [hs]
          obtain ⟨ev, eo, so, co, ⟨hev, hco⟩, R⟩ := RULES CC; rw [← hev]
          simp only [fpart, part', Tryd.f52, Option.getD]
          simp (maxSteps := 5000000) only [SA, SB, SD, R, guardAt, binP, intP, indexAddrP, elemsOf, readCells, lenP, lenAt, resultsP, resultP, oneOr, reduceCtorEq, reduceIte, Nat.reduceEqDiff, Nat.reduceAdd, Nat.zero_add, Nat.reduceMul, Nat.reduceLT, Nat.reduceLeDiff, Int.reduceLT, Int.reduceNeg, Int.reduceLE, appendP, appendAt, letGo, setLoc, locVal, Int.reduceToNat, boxCells, und, TG, SE, SC, TRf, buildVl0, buildKy0, eqgV, eqgK, eqVz, eqKz, unP, htu, htr, hky, loadR, loadP, storeR, storeK, storeCellsP, laid, lay, setBox, List.set_cons_zero, List.set_cons_succ, Nat.le_refl, List.take_succ_cons, List.take_zero, List.drop_nil, List.filter_nil, List.cons_append, Int.reduceBEq, Int.reduceBNe, Int.reduceGT, Int.reduceGE, Bool.not_true, Bool.not_false, h1, h1', h2, h2', h3, h3', h3z, h3z', h4, h5]
          exact ⟨_, rfl⟩
theorem expr_spare_4 (n m : Int) (nm : List UInt8) (vk vn : Int) (vs : List UInt8) (dv : Int) (cl at_ : List UInt8) (xs : List PV) (b1 b2 b3 b4 b5 : Bool) (h1 : (n != 0) = b1) (h1' : (n == 0) = !b1) (h2 : (m != 0) = b2) (h2' : (m == 0) = !b2)
    (h3 : strP .neq nm [] = some (.bool b3)) (h3' : strP .eql nm [] = some (.bool (!b3))) (h4 : eqP CC 100 24 (.agg [.int .i64 vk, .int .i64 vn, .str vs]) (.agg [.int .i64 0, .int .i64 0, .str []]) = some (!b4)) (h5 : eqP CC 100 26 (.agg [.int .i64 dv, .str cl, .str at_]) (.agg [.int .i64 0, .str [], .str []]) = some (!b5)) :
    ∃ bx, callL CC 52 [.agg [.int .i64 4, .int .i64 n, .int .i64 m, .str nm, .int .i64 vk, .int .i64 vn, .str vs, .int .i64 dv, .str cl, .str at_, .sl xs]] [] = some (.ret (.bool (spB 4 b1 b2 b3 b4 b5)), bx) := by
  rw [callL_enter (fn := Tryd.f52) (c := Tryd.f52.body.getD .skip) rfl rfl fat_expr_spare rfl ok_expr_spare (Nat.le_of_ble_eq_true rfl)]
  have h3z : strP .neq [] [] = some (.bool false) := rfl
  have h3z' : strP .eql [] [] = some (.bool true) := rfl
  obtain ⟨tu, htu⟩ := VLs
  obtain ⟨tr, htr⟩ := TRs
  obtain ⟨tk, hky⟩ := KYs
  cases b3 with
  | true =>
    have hs : spB 4 b1 b2 true b4 b5 = true := by simp [spB]
    rw [hs]
    obtain ⟨ev, eo, so, co, ⟨hev, hco⟩, R⟩ := RULES CC; rw [← hev]
    simp only [fpart, part', Tryd.f52, Option.getD]
    simp (maxSteps := 5000000) only [SA, SB, SD, R, guardAt, binP, intP, indexAddrP, elemsOf, readCells, lenP, lenAt, resultsP, resultP, oneOr, reduceCtorEq, reduceIte, Nat.reduceEqDiff, Nat.reduceAdd, Nat.zero_add, Nat.reduceMul, Nat.reduceLT, Nat.reduceLeDiff, Int.reduceLT, Int.reduceNeg, Int.reduceLE, appendP, appendAt, letGo, setLoc, locVal, Int.reduceToNat, boxCells, und, TG, SE, SC, TRf, buildVl0, buildKy0, eqgV, eqgK, eqVz, eqKz, unP, htu, htr, hky, loadR, loadP, storeR, storeK, storeCellsP, laid, lay, setBox, List.set_cons_zero, List.set_cons_succ, Nat.le_refl, List.take_succ_cons, List.take_zero, List.drop_nil, List.filter_nil, List.cons_append, Int.reduceBEq, Int.reduceBNe, Int.reduceGT, Int.reduceGE, Bool.not_true, Bool.not_false, h1, h1', h2, h2', h3, h3', h3z, h3z', h4, h5]
    exact ⟨_, rfl⟩
  | false =>
    cases b4 with
    | true =>
      have hs : spB 4 b1 b2 false true b5 = true := by simp [spB]
      rw [hs]
      obtain ⟨ev, eo, so, co, ⟨hev, hco⟩, R⟩ := RULES CC; rw [← hev]
      simp only [fpart, part', Tryd.f52, Option.getD]
      simp (maxSteps := 5000000) only [SA, SB, SD, R, guardAt, binP, intP, indexAddrP, elemsOf, readCells, lenP, lenAt, resultsP, resultP, oneOr, reduceCtorEq, reduceIte, Nat.reduceEqDiff, Nat.reduceAdd, Nat.zero_add, Nat.reduceMul, Nat.reduceLT, Nat.reduceLeDiff, Int.reduceLT, Int.reduceNeg, Int.reduceLE, appendP, appendAt, letGo, setLoc, locVal, Int.reduceToNat, boxCells, und, TG, SE, SC, TRf, buildVl0, buildKy0, eqgV, eqgK, eqVz, eqKz, unP, htu, htr, hky, loadR, loadP, storeR, storeK, storeCellsP, laid, lay, setBox, List.set_cons_zero, List.set_cons_succ, Nat.le_refl, List.take_succ_cons, List.take_zero, List.drop_nil, List.filter_nil, List.cons_append, Int.reduceBEq, Int.reduceBNe, Int.reduceGT, Int.reduceGE, Bool.not_true, Bool.not_false, h1, h1', h2, h2', h3, h3', h3z, h3z', h4, h5]
      exact ⟨_, rfl⟩
    | false =>
      cases b5 with
      | true =>
        have hs : spB 4 b1 b2 false false true = true := by simp [spB]
        rw [hs]
        obtain ⟨ev, eo, so, co, ⟨hev, hco⟩, R⟩ := RULES CC; rw [← hev]
        simp only [fpart, part', Tryd.f52, Option.getD]
        simp (maxSteps := 5000000) only [SA, SB, SD, R, guardAt, binP, intP, indexAddrP, elemsOf, readCells, lenP, lenAt, resultsP, resultP, oneOr, reduceCtorEq, reduceIte, Nat.reduceEqDiff, Nat.reduceAdd, Nat.zero_add, Nat.reduceMul, Nat.reduceLT, Nat.reduceLeDiff, Int.reduceLT, Int.reduceNeg, Int.reduceLE, appendP, appendAt, letGo, setLoc, locVal, Int.reduceToNat, boxCells, und, TG, SE, SC, TRf, buildVl0, buildKy0, eqgV, eqgK, eqVz, eqKz, unP, htu, htr, hky, loadR, loadP, storeR, storeK, storeCellsP, laid, lay, setBox, List.set_cons_zero, List.set_cons_succ, Nat.le_refl, List.take_succ_cons, List.take_zero, List.drop_nil, List.filter_nil, List.cons_append, Int.reduceBEq, Int.reduceBNe, Int.reduceGT, Int.reduceGE, Bool.not_true, Bool.not_false, h1, h1', h2, h2', h3, h3', h3z, h3z', h4, h5]
        exact ⟨_, rfl⟩
      | false =>
        have hs : spB 4 b1 b2 false false false = false := by simp [spB]
        rw [hs]
        obtain ⟨ev, eo, so, co, ⟨hev, hco⟩, R⟩ := RULES CC; rw [← hev]
        simp only [fpart, part', Tryd.f52, Option.getD]
        simp (maxSteps := 5000000) only [SA, SB, SD, R, guardAt, binP, intP, indexAddrP, elemsOf, readCells, lenP, lenAt, resultsP, resultP, oneOr, reduceCtorEq, reduceIte, Nat.reduceEqDiff, Nat.reduceAdd, Nat.zero_add, Nat.reduceMul, Nat.reduceLT, Nat.reduceLeDiff, Int.reduceLT, Int.reduceNeg, Int.reduceLE, appendP, appendAt, letGo, setLoc, locVal, Int.reduceToNat, boxCells, und, TG, SE, SC, TRf, buildVl0, buildKy0, eqgV, eqgK, eqVz, eqKz, unP, htu, htr, hky, loadR, loadP, storeR, storeK, storeCellsP, laid, lay, setBox, List.set_cons_zero, List.set_cons_succ, Nat.le_refl, List.take_succ_cons, List.take_zero, List.drop_nil, List.filter_nil, List.cons_append, Int.reduceBEq, Int.reduceBNe, Int.reduceGT, Int.reduceGE, Bool.not_true, Bool.not_false, h1, h1', h2, h2', h3, h3', h3z, h3z', h4, h5]
        exact ⟨_, rfl⟩
theorem expr_spare_5 (n m : Int) (nm : List UInt8) (vk vn : Int) (vs : List UInt8) (dv : Int) (cl at_ : List UInt8) (xs : List PV) (b1 b2 b3 b4 b5 : Bool) (h1 : (n != 0) = b1) (h1' : (n == 0) = !b1) (h2 : (m != 0) = b2) (h2' : (m == 0) = !b2)
    (h3 : strP .neq nm [] = some (.bool b3)) (h3' : strP .eql nm [] = some (.bool (!b3))) (h4 : eqP CC 100 24 (.agg [.int .i64 vk, .int .i64 vn, .str vs]) (.agg [.int .i64 0, .int .i64 0, .str []]) = some (!b4)) (h5 : eqP CC 100 26 (.agg [.int .i64 dv, .str cl, .str at_]) (.agg [.int .i64 0, .str [], .str []]) = some (!b5)) :
    ∃ bx, callL CC 52 [.agg [.int .i64 5, .int .i64 n, .int .i64 m, .str nm, .int .i64 vk, .int .i64 vn, .str vs, .int .i64 dv, .str cl, .str at_, .sl xs]] [] = some (.ret (.bool (spB 5 b1 b2 b3 b4 b5)), bx) := by
  rw [callL_enter (fn := Tryd.f52) (c := Tryd.f52.body.getD .skip) rfl rfl fat_expr_spare rfl ok_expr_spare (Nat.le_of_ble_eq_true rfl)]
  have h3z : strP .neq [] [] = some (.bool false) := rfl
  have h3z' : strP .eql [] [] = some (.bool true) := rfl
  obtain ⟨tu, htu⟩ := VLs
  obtain ⟨tr, htr⟩ := TRs
  obtain ⟨tk, hky⟩ := KYs
  cases b2 with
  | true =>
    have hs : spB 5 b1 true b3 b4 b5 = true := by simp [spB]
    rw [hs]
    obtain ⟨ev, eo, so, co, ⟨hev, hco⟩, R⟩ := RULES CC; rw [← hev]
    simp only [fpart, part', Tryd.f52, Option.getD]
    simp (maxSteps := 5000000) only [SA, SB, SD, R, guardAt, binP, intP, indexAddrP, elemsOf, readCells, lenP, lenAt, resultsP, resultP, oneOr, reduceCtorEq, reduceIte, Nat.reduceEqDiff, Nat.reduceAdd, Nat.zero_add, Nat.reduceMul, Nat.reduceLT, Nat.reduceLeDiff, Int.reduceLT, Int.reduceNeg, Int.reduceLE, appendP, appendAt, letGo, setLoc, locVal, Int.reduceToNat, boxCells, und, TG, SE, SC, TRf, buildVl0, buildKy0, eqgV, eqgK, eqVz, eqKz, unP, htu, htr, hky, loadR, loadP, storeR, storeK, storeCellsP, laid, lay, setBox, List.set_cons_zero, List.set_cons_succ, Nat.le_refl, List.take_succ_cons, List.take_zero, List.drop_nil, List.filter_nil, List.cons_append, Int.reduceBEq, Int.reduceBNe, Int.reduceGT, Int.reduceGE, Bool.not_true, Bool.not_false, h1, h1', h2, h2', h3, h3', h3z, h3z', h4, h5]
    exact ⟨_, rfl⟩
  | false =>
    cases b3 with
    | true =>
      have hs : spB 5 b1 false true b4 b5 = true := by simp [spB]
      rw [hs]
      obtain ⟨ev, eo, so, co, ⟨hev, hco⟩, R⟩ := RULES CC; rw [← hev]
      simp only [fpart, part', Tryd.f52, Option.getD]
      simp (maxSteps := 5000000) only [SA, SB, SD, R, guardAt, binP, intP, indexAddrP, elemsOf, readCells, lenP, lenAt, resultsP, resultP, oneOr, reduceCtorEq, reduceIte, Nat.reduceEqDiff, Nat.reduceAdd, Nat.zero_add, Nat.reduceMul, Nat.reduceLT, Nat.reduceLeDiff, Int.reduceLT, Int.reduceNeg, Int.reduceLE, appendP, appendAt, letGo, setLoc, locVal, Int.reduceToNat, boxCells, und, TG, SE, SC, TRf, buildVl0, buildKy0, eqgV, eqgK, eqVz, eqKz, unP, htu, htr, hky, loadR, loadP, storeR, storeK, storeCellsP, laid, lay, setBox, List.set_cons_zero, List.set_cons_succ, Nat.le_refl, List.take_succ_cons, List.take_zero, List.drop_nil, List.filter_nil, List.cons_append, Int.reduceBEq, Int.reduceBNe, Int.reduceGT, Int.reduceGE, Bool.not_true, Bool.not_false, h1, h1', h2, h2', h3, h3', h3z, h3z', h4, h5]
      exact ⟨_, rfl⟩
    | false =>
      cases b4 with
      | true =>
        have hs : spB 5 b1 false false true b5 = true := by simp [spB]
        rw [hs]
        obtain ⟨ev, eo, so, co, ⟨hev, hco⟩, R⟩ := RULES CC; rw [← hev]
        simp only [fpart, part', Tryd.f52, Option.getD]
        simp (maxSteps := 5000000) only [SA, SB, SD, R, guardAt, binP, intP, indexAddrP, elemsOf, readCells, lenP, lenAt, resultsP, resultP, oneOr, reduceCtorEq, reduceIte, Nat.reduceEqDiff, Nat.reduceAdd, Nat.zero_add, Nat.reduceMul, Nat.reduceLT, Nat.reduceLeDiff, Int.reduceLT, Int.reduceNeg, Int.reduceLE, appendP, appendAt, letGo, setLoc, locVal, Int.reduceToNat, boxCells, und, TG, SE, SC, TRf, buildVl0, buildKy0, eqgV, eqgK, eqVz, eqKz, unP, htu, htr, hky, loadR, loadP, storeR, storeK, storeCellsP, laid, lay, setBox, List.set_cons_zero, List.set_cons_succ, Nat.le_refl, List.take_succ_cons, List.take_zero, List.drop_nil, List.filter_nil, List.cons_append, Int.reduceBEq, Int.reduceBNe, Int.reduceGT, Int.reduceGE, Bool.not_true, Bool.not_false, h1, h1', h2, h2', h3, h3', h3z, h3z', h4, h5]
        exact ⟨_, rfl⟩
      | false =>
        cases b5 with
        | true =>
          have hs : spB 5 b1 false false false true = true := by simp [spB]
          rw [hs]
          obtain ⟨ev, eo, so, co, ⟨hev, hco⟩, R⟩ := RULES CC; rw [← hev]
          simp only [fpart, part', Tryd.f52, Option.getD]
          simp (maxSteps := 5000000) only [SA, SB, SD, R, guardAt, binP, intP, indexAddrP, elemsOf, readCells, lenP, lenAt, resultsP, resultP, oneOr, reduceCtorEq, reduceIte, Nat.reduceEqDiff, Nat.reduceAdd, Nat.zero_add, Nat.reduceMul, Nat.reduceLT, Nat.reduceLeDiff, Int.reduceLT, Int.reduceNeg, Int.reduceLE, appendP, appendAt, letGo, setLoc, locVal, Int.reduceToNat, boxCells, und, TG, SE, SC, TRf, buildVl0, buildKy0, eqgV, eqgK, eqVz, eqKz, unP, htu, htr, hky, loadR, loadP, storeR, storeK, storeCellsP, laid, lay, setBox, List.set_cons_zero, List.set_cons_succ, Nat.le_refl, List.take_succ_cons, List.take_zero, List.drop_nil, List.filter_nil, List.cons_append, Int.reduceBEq, Int.reduceBNe, Int.reduceGT, Int.reduceGE, Bool.not_true, Bool.not_false, h1, h1', h2, h2', h3, h3', h3z, h3z', h4, h5]
          exact ⟨_, rfl⟩
        | false =>
          have hs : spB 5 b1 false false false false = false := by simp [spB]
          rw [hs]
          obtain ⟨ev, eo, so, co, ⟨hev, hco⟩, R⟩ := RULES CC; rw [← hev]
          simp only [fpart, part', Tryd.f52, Option.getD]
          simp (maxSteps := 5000000) only [SA, SB, SD, R, guardAt, binP, intP, indexAddrP, elemsOf, readCells, lenP, lenAt, resultsP, resultP, oneOr, reduceCtorEq, reduceIte, Nat.reduceEqDiff, Nat.reduceAdd, Nat.zero_add, Nat.reduceMul, Nat.reduceLT, Nat.reduceLeDiff, Int.reduceLT, Int.reduceNeg, Int.reduceLE, appendP, appendAt, letGo, setLoc, locVal, Int.reduceToNat, boxCells, und, TG, SE, SC, TRf, buildVl0, buildKy0, eqgV, eqgK, eqVz, eqKz, unP, htu, htr, hky, loadR, loadP, storeR, storeK, storeCellsP, laid, lay, setBox, List.set_cons_zero, List.set_cons_succ, Nat.le_refl, List.take_succ_cons, List.take_zero, List.drop_nil, List.filter_nil, List.cons_append, Int.reduceBEq, Int.reduceBNe, Int.reduceGT, Int.reduceGE, Bool.not_true, Bool.not_false, h1, h1', h2, h2', h3, h3', h3z, h3z', h4, h5]
          exact ⟨_, rfl⟩
theorem expr_spare_15 (n m : Int) (nm : List UInt8) (vk vn : Int) (vs : List UInt8) (dv : Int) (cl at_ : List UInt8) (xs : List PV) (b1 b2 b3 b4 b5 : Bool) (h1 : (n != 0) = b1) (h1' : (n == 0) = !b1) (h2 : (m != 0) = b2) (h2' : (m == 0) = !b2)
    (h3 : strP .neq nm [] = some (.bool b3)) (h3' : strP .eql nm [] = some (.bool (!b3))) (h4 : eqP CC 100 24 (.agg [.int .i64 vk, .int .i64 vn, .str vs]) (.agg [.int .i64 0, .int .i64 0, .str []]) = some (!b4)) (h5 : eqP CC 100 26 (.agg [.int .i64 dv, .str cl, .str at_]) (.agg [.int .i64 0, .str [], .str []]) = some (!b5)) :
    ∃ bx, callL CC 52 [.agg [.int .i64 15, .int .i64 n, .int .i64 m, .str nm, .int .i64 vk, .int .i64 vn, .str vs, .int .i64 dv, .str cl, .str at_, .sl xs]] [] = some (.ret (.bool (spB 15 b1 b2 b3 b4 b5)), bx) := by
  rw [callL_enter (fn := Tryd.f52) (c := Tryd.f52.body.getD .skip) rfl rfl fat_expr_spare rfl ok_expr_spare (Nat.le_of_ble_eq_true rfl)]
  have h3z : strP .neq [] [] = some (.bool false) := rfl
  have h3z' : strP .eql [] [] = some (.bool true) := rfl
  obtain ⟨tu, htu⟩ := VLs
  obtain ⟨tr, htr⟩ := TRs
  obtain ⟨tk, hky⟩ := KYs
  cases b2 with
  | true =>
    have hs : spB 15 b1 true b3 b4 b5 = true := by simp [spB]
    rw [hs]
    obtain ⟨ev, eo, so, co, ⟨hev, hco⟩, R⟩ := RULES CC; rw [← hev]
    simp only [fpart, part', Tryd.f52, Option.getD]
    simp (maxSteps := 5000000) only [SA, SB, SD, R, guardAt, binP, intP, indexAddrP, elemsOf, readCells, lenP, lenAt, resultsP, resultP, oneOr, reduceCtorEq, reduceIte, Nat.reduceEqDiff, Nat.reduceAdd, Nat.zero_add, Nat.reduceMul, Nat.reduceLT, Nat.reduceLeDiff, Int.reduceLT, Int.reduceNeg, Int.reduceLE, appendP, appendAt, letGo, setLoc, locVal, Int.reduceToNat, boxCells, und, TG, SE, SC, TRf, buildVl0, buildKy0, eqgV, eqgK, eqVz, eqKz, unP, htu, htr, hky, loadR, loadP, storeR, storeK, storeCellsP, laid, lay, setBox, List.set_cons_zero, List.set_cons_succ, Nat.le_refl, List.take_succ_cons, List.take_zero, List.drop_nil, List.filter_nil, List.cons_append, Int.reduceBEq, Int.reduceBNe, Int.reduceGT, Int.reduceGE, Bool.not_true, Bool.not_false, h1, h1', h2, h2', h3, h3', h3z, h3z', h4, h5]
    exact ⟨_, rfl⟩
  | false =>
    cases b3 with
    | true =>
      have hs : spB 15 b1 false true b4 b5 = true := by simp [spB]
      rw [hs]
      obtain ⟨ev, eo, so, co, ⟨hev, hco⟩, R⟩ := RULES CC; rw [← hev]
      simp only [fpart, part', Tryd.f52, Option.getD]
      simp (maxSteps := 5000000) only [SA, SB, SD, R, guardAt, binP, intP, indexAddrP, elemsOf, readCells, lenP, lenAt, resultsP, resultP, oneOr, reduceCtorEq, reduceIte, Nat.reduceEqDiff, Nat.reduceAdd, Nat.zero_add, Nat.reduceMul, Nat.reduceLT, Nat.reduceLeDiff, Int.reduceLT, Int.reduceNeg, Int.reduceLE, appendP, appendAt, letGo, setLoc, locVal, Int.reduceToNat, boxCells, und, TG, SE, SC, TRf, buildVl0, buildKy0, eqgV, eqgK, eqVz, eqKz, unP, htu, htr, hky, loadR, loadP, storeR, storeK, storeCellsP, laid, lay, setBox, List.set_cons_zero, List.set_cons_succ, Nat.le_refl, List.take_succ_cons, List.take_zero, List.drop_nil, List.filter_nil, List.cons_append, Int.reduceBEq, Int.reduceBNe, Int.reduceGT, Int.reduceGE, Bool.not_true, Bool.not_false, h1, h1', h2, h2', h3, h3', h3z, h3z', h4, h5]
      exact ⟨_, rfl⟩
    | false =>
      cases b4 with
      | true =>
        have hs : spB 15 b1 false false true b5 = true := by simp [spB]
        rw [hs]
        obtain ⟨ev, eo, so, co, ⟨hev, hco⟩, R⟩ := RULES CC; rw [← hev]
        simp only [fpart, part', Tryd.f52, Option.getD]
        simp (maxSteps := 5000000) only [SA, SB, SD, R, guardAt, binP, intP, indexAddrP, elemsOf, readCells, lenP, lenAt, resultsP, resultP, oneOr, reduceCtorEq, reduceIte, Nat.reduceEqDiff, Nat.reduceAdd, Nat.zero_add, Nat.reduceMul, Nat.reduceLT, Nat.reduceLeDiff, Int.reduceLT, Int.reduceNeg, Int.reduceLE, appendP, appendAt, letGo, setLoc, locVal, Int.reduceToNat, boxCells, und, TG, SE, SC, TRf, buildVl0, buildKy0, eqgV, eqgK, eqVz, eqKz, unP, htu, htr, hky, loadR, loadP, storeR, storeK, storeCellsP, laid, lay, setBox, List.set_cons_zero, List.set_cons_succ, Nat.le_refl, List.take_succ_cons, List.take_zero, List.drop_nil, List.filter_nil, List.cons_append, Int.reduceBEq, Int.reduceBNe, Int.reduceGT, Int.reduceGE, Bool.not_true, Bool.not_false, h1, h1', h2, h2', h3, h3', h3z, h3z', h4, h5]
        exact ⟨_, rfl⟩
      | false =>
        cases b5 with
        | true =>
          have hs : spB 15 b1 false false false true = true := by simp [spB]
          rw [hs]
          obtain ⟨ev, eo, so, co, ⟨hev, hco⟩, R⟩ := RULES CC; rw [← hev]
          simp only [fpart, part', Tryd.f52, Option.getD]
          simp (maxSteps := 5000000) only [SA, SB, SD, R, guardAt, binP, intP, indexAddrP, elemsOf, readCells, lenP, lenAt, resultsP, resultP, oneOr, reduceCtorEq, reduceIte, Nat.reduceEqDiff, Nat.reduceAdd, Nat.zero_add, Nat.reduceMul, Nat.reduceLT, Nat.reduceLeDiff, Int.reduceLT, Int.reduceNeg, Int.reduceLE, appendP, appendAt, letGo, setLoc, locVal, Int.reduceToNat, boxCells, und, TG, SE, SC, TRf, buildVl0, buildKy0, eqgV, eqgK, eqVz, eqKz, unP, htu, htr, hky, loadR, loadP, storeR, storeK, storeCellsP, laid, lay, setBox, List.set_cons_zero, List.set_cons_succ, Nat.le_refl, List.take_succ_cons, List.take_zero, List.drop_nil, List.filter_nil, List.cons_append, Int.reduceBEq, Int.reduceBNe, Int.reduceGT, Int.reduceGE, Bool.not_true, Bool.not_false, h1, h1', h2, h2', h3, h3', h3z, h3z', h4, h5]
          exact ⟨_, rfl⟩
        | false =>
          have hs : spB 15 b1 false false false false = false := by simp [spB]
          rw [hs]
          obtain ⟨ev, eo, so, co, ⟨hev, hco⟩, R⟩ := RULES CC; rw [← hev]
          simp only [fpart, part', Tryd.f52, Option.getD]
          simp (maxSteps := 5000000) only [SA, SB, SD, R, guardAt, binP, intP, indexAddrP, elemsOf, readCells, lenP, lenAt, resultsP, resultP, oneOr, reduceCtorEq, reduceIte, Nat.reduceEqDiff, Nat.reduceAdd, Nat.zero_add, Nat.reduceMul, Nat.reduceLT, Nat.reduceLeDiff, Int.reduceLT, Int.reduceNeg, Int.reduceLE, appendP, appendAt, letGo, setLoc, locVal, Int.reduceToNat, boxCells, und, TG, SE, SC, TRf, buildVl0, buildKy0, eqgV, eqgK, eqVz, eqKz, unP, htu, htr, hky, loadR, loadP, storeR, storeK, storeCellsP, laid, lay, setBox, List.set_cons_zero, List.set_cons_succ, Nat.le_refl, List.take_succ_cons, List.take_zero, List.drop_nil, List.filter_nil, List.cons_append, Int.reduceBEq, Int.reduceBNe, Int.reduceGT, Int.reduceGE, Bool.not_true, Bool.not_false, h1, h1', h2, h2', h3, h3', h3z, h3z', h4, h5]
          exact ⟨_, rfl⟩
theorem expr_spare_0 (k : Int) (hk1 : (k == 1) = false) (hk2 : (k == 2) = false) (hk3 : (k == 3) = false) (hk4 : (k == 4) = false) (hk5 : (k == 5) = false) (hk15 : (k == 15) = false) (n m : Int) (nm : List UInt8) (vk vn : Int) (vs : List UInt8) (dv : Int) (cl at_ : List UInt8) (xs : List PV) (b1 b2 b3 b4 b5 : Bool) (h1 : (n != 0) = b1) (h1' : (n == 0) = !b1) (h2 : (m != 0) = b2) (h2' : (m == 0) = !b2)
    (h3 : strP .neq nm [] = some (.bool b3)) (h3' : strP .eql nm [] = some (.bool (!b3))) (h4 : eqP CC 100 24 (.agg [.int .i64 vk, .int .i64 vn, .str vs]) (.agg [.int .i64 0, .int .i64 0, .str []]) = some (!b4)) (h5 : eqP CC 100 26 (.agg [.int .i64 dv, .str cl, .str at_]) (.agg [.int .i64 0, .str [], .str []]) = some (!b5)) :
    ∃ bx, callL CC 52 [.agg [.int .i64 k, .int .i64 n, .int .i64 m, .str nm, .int .i64 vk, .int .i64 vn, .str vs, .int .i64 dv, .str cl, .str at_, .sl xs]] [] = some (.ret (.bool (spB k b1 b2 b3 b4 b5)), bx) := by
  rw [callL_enter (fn := Tryd.f52) (c := Tryd.f52.body.getD .skip) rfl rfl fat_expr_spare rfl ok_expr_spare (Nat.le_of_ble_eq_true rfl)]
  have h3z : strP .neq [] [] = some (.bool false) := rfl
  have h3z' : strP .eql [] [] = some (.bool true) := rfl
  obtain ⟨tu, htu⟩ := VLs
  obtain ⟨tr, htr⟩ := TRs
  obtain ⟨tk, hky⟩ := KYs
  cases b1 with
  | true =>
    have hs : spB k true b2 b3 b4 b5 = true := by unfold spB; simp only [hk1, hk2, hk3, hk4, hk5, hk15]; simp
    rw [hs]
    obtain ⟨ev, eo, so, co, ⟨hev, hco⟩, R⟩ := RULES CC; rw [← hev]
    simp only [fpart, part', Tryd.f52, Option.getD]
    simp (maxSteps := 5000000) only [SA, SB, SD, R, guardAt, binP, intP, indexAddrP, elemsOf, readCells, lenP, lenAt, resultsP, resultP, oneOr, reduceCtorEq, reduceIte, Nat.reduceEqDiff, Nat.reduceAdd, Nat.zero_add, Nat.reduceMul, Nat.reduceLT, Nat.reduceLeDiff, Int.reduceLT, Int.reduceNeg, Int.reduceLE, appendP, appendAt, letGo, setLoc, locVal, Int.reduceToNat, boxCells, und, TG, SE, SC, TRf, buildVl0, buildKy0, eqgV, eqgK, eqVz, eqKz, unP, htu, htr, hky, loadR, loadP, storeR, storeK, storeCellsP, laid, lay, setBox, List.set_cons_zero, List.set_cons_succ, Nat.le_refl, List.take_succ_cons, List.take_zero, List.drop_nil, List.filter_nil, List.cons_append, Int.reduceBEq, Int.reduceBNe, Int.reduceGT, Int.reduceGE, Bool.not_true, Bool.not_false, h1, h1', h2, h2', h3, h3', h3z, h3z', h4, h5, hk1, hk2, hk3, hk4, hk5, hk15]
    exact ⟨_, rfl⟩
  | false =>
    cases b2 with
    | true =>
      have hs : spB k false true b3 b4 b5 = true := by unfold spB; simp only [hk1, hk2, hk3, hk4, hk5, hk15]; simp
      rw [hs]
      obtain ⟨ev, eo, so, co, ⟨hev, hco⟩, R⟩ := RULES CC; rw [← hev]
      simp only [fpart, part', Tryd.f52, Option.getD]
      simp (maxSteps := 5000000) only [SA, SB, SD, R, guardAt, binP, intP, indexAddrP, elemsOf, readCells, lenP, lenAt, resultsP, resultP, oneOr, reduceCtorEq, reduceIte, Nat.reduceEqDiff, Nat.reduceAdd, Nat.zero_add, Nat.reduceMul, Nat.reduceLT, Nat.reduceLeDiff, Int.reduceLT, Int.reduceNeg, Int.reduceLE, appendP, appendAt, letGo, setLoc, locVal, Int.reduceToNat, boxCells, und, TG, SE, SC, TRf, buildVl0, buildKy0, eqgV, eqgK, eqVz, eqKz, unP, htu, htr, hky, loadR, loadP, storeR, storeK, storeCellsP, laid, lay, setBox, List.set_cons_zero, List.set_cons_succ, Nat.le_refl, List.take_succ_cons, List.take_zero, List.drop_nil, List.filter_nil, List.cons_append, Int.reduceBEq, Int.reduceBNe, Int.reduceGT, Int.reduceGE, Bool.not_true, Bool.not_false, h1, h1', h2, h2', h3, h3', h3z, h3z', h4, h5, hk1, hk2, hk3, hk4, hk5, hk15]
      exact ⟨_, rfl⟩
    | false =>
      cases b3 with
      | true =>
        have hs : spB k false false true b4 b5 = true := by unfold spB; simp only [hk1, hk2, hk3, hk4, hk5, hk15]; simp
        rw [hs]
        obtain ⟨ev, eo, so, co, ⟨hev, hco⟩, R⟩ := RULES CC; rw [← hev]
        simp only [fpart, part', Tryd.f52, Option.getD]
        simp (maxSteps := 5000000) only [SA, SB, SD, R, guardAt, binP, intP, indexAddrP, elemsOf, readCells, lenP, lenAt, resultsP, resultP, oneOr, reduceCtorEq, reduceIte, Nat.reduceEqDiff, Nat.reduceAdd, Nat.zero_add, Nat.reduceMul, Nat.reduceLT, Nat.reduceLeDiff, Int.reduceLT, Int.reduceNeg, Int.reduceLE, appendP, appendAt, letGo, setLoc, locVal, Int.reduceToNat, boxCells, und, TG, SE, SC, TRf, buildVl0, buildKy0, eqgV, eqgK, eqVz, eqKz, unP, htu, htr, hky, loadR, loadP, storeR, storeK, storeCellsP, laid, lay, setBox, List.set_cons_zero, List.set_cons_succ, Nat.le_refl, List.take_succ_cons, List.take_zero, List.drop_nil, List.filter_nil, List.cons_append, Int.reduceBEq, Int.reduceBNe, Int.reduceGT, Int.reduceGE, Bool.not_true, Bool.not_false, h1, h1', h2, h2', h3, h3', h3z, h3z', h4, h5, hk1, hk2, hk3, hk4, hk5, hk15]
        exact ⟨_, rfl⟩
      | false =>
        cases b4 with
        | true =>
          have hs : spB k false false false true b5 = true := by unfold spB; simp only [hk1, hk2, hk3, hk4, hk5, hk15]; simp
          rw [hs]
          obtain ⟨ev, eo, so, co, ⟨hev, hco⟩, R⟩ := RULES CC; rw [← hev]
          simp only [fpart, part', Tryd.f52, Option.getD]
          simp (maxSteps := 5000000) only [SA, SB, SD, R, guardAt, binP, intP, indexAddrP, elemsOf, readCells, lenP, lenAt, resultsP, resultP, oneOr, reduceCtorEq, reduceIte, Nat.reduceEqDiff, Nat.reduceAdd, Nat.zero_add, Nat.reduceMul, Nat.reduceLT, Nat.reduceLeDiff, Int.reduceLT, Int.reduceNeg, Int.reduceLE, appendP, appendAt, letGo, setLoc, locVal, Int.reduceToNat, boxCells, und, TG, SE, SC, TRf, buildVl0, buildKy0, eqgV, eqgK, eqVz, eqKz, unP, htu, htr, hky, loadR, loadP, storeR, storeK, storeCellsP, laid, lay, setBox, List.set_cons_zero, List.set_cons_succ, Nat.le_refl, List.take_succ_cons, List.take_zero, List.drop_nil, List.filter_nil, List.cons_append, Int.reduceBEq, Int.reduceBNe, Int.reduceGT, Int.reduceGE, Bool.not_true, Bool.not_false, h1, h1', h2, h2', h3, h3', h3z, h3z', h4, h5, hk1, hk2, hk3, hk4, hk5, hk15]
          exact ⟨_, rfl⟩
        | false =>
          cases b5 with
          | true =>
            have hs : spB k false false false false true = true := by unfold spB; simp only [hk1, hk2, hk3, hk4, hk5, hk15]; simp
            rw [hs]
            obtain ⟨ev, eo, so, co, ⟨hev, hco⟩, R⟩ := RULES CC; rw [← hev]
            simp only [fpart, part', Tryd.f52, Option.getD]
            simp (maxSteps := 5000000) only [SA, SB, SD, R, guardAt, binP, intP, indexAddrP, elemsOf, readCells, lenP, lenAt, resultsP, resultP, oneOr, reduceCtorEq, reduceIte, Nat.reduceEqDiff, Nat.reduceAdd, Nat.zero_add, Nat.reduceMul, Nat.reduceLT, Nat.reduceLeDiff, Int.reduceLT, Int.reduceNeg, Int.reduceLE, appendP, appendAt, letGo, setLoc, locVal, Int.reduceToNat, boxCells, und, TG, SE, SC, TRf, buildVl0, buildKy0, eqgV, eqgK, eqVz, eqKz, unP, htu, htr, hky, loadR, loadP, storeR, storeK, storeCellsP, laid, lay, setBox, List.set_cons_zero, List.set_cons_succ, Nat.le_refl, List.take_succ_cons, List.take_zero, List.drop_nil, List.filter_nil, List.cons_append, Int.reduceBEq, Int.reduceBNe, Int.reduceGT, Int.reduceGE, Bool.not_true, Bool.not_false, h1, h1', h2, h2', h3, h3', h3z, h3z', h4, h5, hk1, hk2, hk3, hk4, hk5, hk15]
            exact ⟨_, rfl⟩
          | false =>
            have hs : spB k false false false false false = false := by unfold spB; simp only [hk1, hk2, hk3, hk4, hk5, hk15]; simp
            rw [hs]
            obtain ⟨ev, eo, so, co, ⟨hev, hco⟩, R⟩ := RULES CC; rw [← hev]
            simp only [fpart, part', Tryd.f52, Option.getD]
            simp (maxSteps := 5000000) only [SA, SB, SD, R, guardAt, binP, intP, indexAddrP, elemsOf, readCells, lenP, lenAt, resultsP, resultP, oneOr, reduceCtorEq, reduceIte, Nat.reduceEqDiff, Nat.reduceAdd, Nat.zero_add, Nat.reduceMul, Nat.reduceLT, Nat.reduceLeDiff, Int.reduceLT, Int.reduceNeg, Int.reduceLE, appendP, appendAt, letGo, setLoc, locVal, Int.reduceToNat, boxCells, und, TG, SE, SC, TRf, buildVl0, buildKy0, eqgV, eqgK, eqVz, eqKz, unP, htu, htr, hky, loadR, loadP, storeR, storeK, storeCellsP, laid, lay, setBox, List.set_cons_zero, List.set_cons_succ, Nat.le_refl, List.take_succ_cons, List.take_zero, List.drop_nil, List.filter_nil, List.cons_append, Int.reduceBEq, Int.reduceBNe, Int.reduceGT, Int.reduceGE, Bool.not_true, Bool.not_false, h1, h1', h2, h2', h3, h3', h3z, h3z', h4, h5, hk1, hk2, hk3, hk4, hk5, hk15]
            exact ⟨_, rfl⟩
theorem call_expr_spare (t : Tr) : ∃ bx, callL CC 52 [trV t] [] = some (.ret (.bool (spT t)), bx) := by
  obtain ⟨k, n, m, nm, v, key, kids⟩ := t
  obtain ⟨vk, vn, vs⟩ := v
  obtain ⟨dv, cl, at_⟩ := key
  unfold trV spT
  have h1 : (n != 0) = (n != 0) := rfl
  have h1' : (n == 0) = !(n != 0) := by simp [bne]
  have h2 : (m != 0) = (m != 0) := rfl
  have h2' : (m == 0) = !(m != 0) := by simp [bne]
  have h3 : strP .neq nm [] = some (.bool (!(nm == []))) := rfl
  have h3' : strP .eql nm [] = some (.bool (!(!(nm == [])))) := by rw [Bool.not_not]; rfl
  have h4 : eqP CC 100 24 (.agg [.int .i64 vk, .int .i64 vn, .str vs]) (.agg [.int .i64 0, .int .i64 0, .str []]) = some (!(!(eqVl (vk, vn, vs) (0, 0, [])))) := by rw [eqVP, Bool.not_not]; rfl
  have h5 : eqP CC 100 26 (.agg [.int .i64 dv, .str cl, .str at_]) (.agg [.int .i64 0, .str [], .str []]) = some (!(!(eqKy (dv, cl, at_) (0, [], [])))) := by rw [eqKP, Bool.not_not]; rfl
  by_cases c1 : k = 1
  · subst c1
    exact expr_spare_1 n m nm vk vn vs dv cl at_ (trVs kids) _ _ _ _ _ h1 h1' h2 h2' h3 h3' h4 h5
  by_cases c2 : k = 2
  · subst c2
    exact expr_spare_2 n m nm vk vn vs dv cl at_ (trVs kids) _ _ _ _ _ h1 h1' h2 h2' h3 h3' h4 h5
  by_cases c3 : k = 3
  · subst c3
    exact expr_spare_3 n m nm vk vn vs dv cl at_ (trVs kids) _ _ _ _ _ h1 h1' h2 h2' h3 h3' h4 h5
  by_cases c4 : k = 4
  · subst c4
    exact expr_spare_4 n m nm vk vn vs dv cl at_ (trVs kids) _ _ _ _ _ h1 h1' h2 h2' h3 h3' h4 h5
  by_cases c5 : k = 5
  · subst c5
    exact expr_spare_5 n m nm vk vn vs dv cl at_ (trVs kids) _ _ _ _ _ h1 h1' h2 h2' h3 h3' h4 h5
  by_cases c15 : k = 15
  · subst c15
    exact expr_spare_15 n m nm vk vn vs dv cl at_ (trVs kids) _ _ _ _ _ h1 h1' h2 h2' h3 h3' h4 h5
  exact expr_spare_0 k (by simpa using c1) (by simpa using c2) (by simpa using c3) (by simpa using c4) (by simpa using c5) (by simpa using c15) n m nm vk vn vs dv cl at_ (trVs kids) _ _ _ _ _ h1 h1' h2 h2' h3 h3' h4 h5
theorem op_expr_spare (t : Tr) (bx) : callOp CC (callL CC) 52 [trV t] bx = some (.ret (.bool (spT t)), bx) := by
  obtain ⟨b, h⟩ := call_expr_spare t
  exact callOp_of rfl (by simp only [pureL_cons, trV_pure, pureL_nil, Bool.and_self]) h rfl
end Go.HH
