/-
  Values: what fits, the first value, the limited value, in the program and in the specification.
-/
import Derived.Test.YtedpmedialplkaaDoorV6
namespace Go.HH
open Go Go.Proofs
set_option maxRecDepth 100000
set_option linter.unusedSimpArgs false
set_option linter.unusedVariables false
theorem ok_num_Clamp : fnOK CC Tryd.f43 (Tryd.f43.body.getD .skip) = true := by kernel_rfl
theorem fat_num_Clamp : CC.P.funcs[43]? = some Tryd.f43 := by kernel_rfl
theorem ok_value_Fits : fnOK CC Tryd.f17 (Tryd.f17.body.getD .skip) = true := by kernel_rfl
theorem fat_value_Fits : CC.P.funcs[17]? = some Tryd.f17 := by kernel_rfl
theorem ok_R20_Fits : fnOK CC Tryd.f18 (Tryd.f18.body.getD .skip) = true := by kernel_rfl
theorem fat_R20_Fits : CC.P.funcs[18]? = some Tryd.f18 := by kernel_rfl
def clampI (n lo hi : Int) : Int := if hi < lo ∨ n > hi then hi else if n < lo then lo else n
theorem call_num_Clamp (n lo hi : Int) : callL CC 43 [.int .i64 n, .int .i64 lo, .int .i64 hi] [] = some (.ret (.int .i64 (clampI n lo hi)), []) := by
  rw [callL_enter (fn := Tryd.f43) (c := Tryd.f43.body.getD .skip) rfl rfl fat_num_Clamp rfl ok_num_Clamp (Nat.le_of_ble_eq_true rfl)]
  obtain ⟨ev, eo, so, co, ⟨hev, hco⟩, R⟩ := RULES CC; rw [← hev]
  unfold clampI
  simp only [fpart, part', Tryd.f43, Option.getD]
  by_cases c1 : hi < lo
  · simp (maxSteps := 5000000) only [SA, SB, SD, R, guardAt, binP, intP, indexAddrP, elemsOf, readCells, lenP, lenAt, resultsP, resultP, oneOr, reduceCtorEq, reduceIte, Nat.reduceEqDiff, Nat.reduceAdd, Nat.zero_add, Nat.reduceMul, Nat.reduceLT, Nat.reduceLeDiff, Int.reduceLT, Int.reduceNeg, Int.reduceLE, appendP, appendAt, letGo, setLoc, locVal, Int.reduceToNat, boxCells, und, TG, c1]
  · by_cases c2 : n > hi
    · simp (maxSteps := 5000000) only [SA, SB, SD, R, guardAt, binP, intP, indexAddrP, elemsOf, readCells, lenP, lenAt, resultsP, resultP, oneOr, reduceCtorEq, reduceIte, Nat.reduceEqDiff, Nat.reduceAdd, Nat.zero_add, Nat.reduceMul, Nat.reduceLT, Nat.reduceLeDiff, Int.reduceLT, Int.reduceNeg, Int.reduceLE, appendP, appendAt, letGo, setLoc, locVal, Int.reduceToNat, boxCells, und, TG, c1, c2]
    · by_cases c3 : n < lo
      · simp (maxSteps := 5000000) only [SA, SB, SD, R, guardAt, binP, intP, indexAddrP, elemsOf, readCells, lenP, lenAt, resultsP, resultP, oneOr, reduceCtorEq, reduceIte, Nat.reduceEqDiff, Nat.reduceAdd, Nat.zero_add, Nat.reduceMul, Nat.reduceLT, Nat.reduceLeDiff, Int.reduceLT, Int.reduceNeg, Int.reduceLE, appendP, appendAt, letGo, setLoc, locVal, Int.reduceToNat, boxCells, und, TG, c1, c2, c3]
      · simp (maxSteps := 5000000) only [SA, SB, SD, R, guardAt, binP, intP, indexAddrP, elemsOf, readCells, lenP, lenAt, resultsP, resultP, oneOr, reduceCtorEq, reduceIte, Nat.reduceEqDiff, Nat.reduceAdd, Nat.zero_add, Nat.reduceMul, Nat.reduceLT, Nat.reduceLeDiff, Int.reduceLT, Int.reduceNeg, Int.reduceLE, appendP, appendAt, letGo, setLoc, locVal, Int.reduceToNat, boxCells, und, TG, c1, c2, c3]
theorem op_num_Clamp (n lo hi : Int) (bx) : callOp CC (callL CC) 43 [.int .i64 n, .int .i64 lo, .int .i64 hi] bx = some (.ret (.int .i64 (clampI n lo hi)), bx) := callOp_of rfl (by simp only [SA, Bool.and_true]) (call_num_Clamp n lo hi) rfl
/-- what an attribute's check that is passed says of its bounds -/
theorem df_bd {a : At} (h : dfV a = 0) (k : a.kd = 2) : inR a.mn = true ∧ inR a.mx = true ∧ a.mn ≤ a.mx := by
  unfold dfV at h
  split at h
  · cases h
  · split at h
    · cases h
    · split at h
      · cases h
      · rename_i hb
        unfold bdB at hb
        rw [if_pos k] at hb
        exact Classical.not_not.1 hb
/-- what 'Fits' says -/
noncomputable def ftV (a : At) (v : Vl) : Int := if dfV a ≠ 0 then dfV a else if ckV v ≠ 0 then ckV v else if v.1 ≠ a.kd then 11 else
  if (v.1 = 2 ∧ (v.2.1 < a.mn ∨ v.2.1 > a.mx)) ∨ (v.1 = 3 ∧ v.2.1 ≥ (a.en.length : Int)) then 2 else 0
theorem call_value_Fits (a : At) (ha : shAt a) (v : Vl) : ∃ bx, callL CC 17 [attV a, vlV v] [] = some (.ret (.int .i64 (ftV a v)), bx) := by
  rw [callL_enter (fn := Tryd.f17) (c := Tryd.f17.body.getD .skip) rfl rfl fat_value_Fits rfl ok_value_Fits (Nat.le_of_ble_eq_true rfl)]
  have hd := op_value_Def a ha
  have hk := op_value_Check v
  unfold ftV
  generalize dfV a = d at *
  generalize ckV v = c at *
  obtain ⟨nm, kd, mn, mx, en, wr, sf⟩ := a
  obtain ⟨k, n, s⟩ := v
  unfold attV at *
  unfold vlV at *
  simp only at *
  have hln := strs_length en
  have hpu := strs_pure en
  have hz : True := trivial
  obtain ⟨tu, htu⟩ := VLs
  obtain ⟨ta, hta⟩ := ATs
  generalize strs en = xs at *
  by_cases d0 : d = 0
  · have d0' : (d != 0) = false := by simp [d0]
    rw [if_neg (fun h => h d0)]
    by_cases c0 : c = 0
    · have c0' : (c != 0) = false := by simp [c0]
      rw [if_neg (fun h => h c0)]
      by_cases e : k = kd
      · subst e
        have e' : (k != k) = false := by simp
        rw [if_neg (fun h => h rfl)]
        by_cases k2 : k = 2
        · subst k2
          by_cases n1 : n < mn
          · rw [if_pos (.inl ⟨rfl, .inl n1⟩)]
            obtain ⟨ev, eo, so, co, ⟨hev, hco⟩, R⟩ := RULES CC; rw [← hev]
            rw [← hco] at hd hk
            simp only [fpart, part', Tryd.f17, Option.getD]
            simp (maxSteps := 5000000) only [SA, SB, SD, R, guardAt, binP, intP, indexAddrP, elemsOf, readCells, lenP, lenAt, resultsP, resultP, oneOr, reduceCtorEq, reduceIte, Nat.reduceEqDiff, Nat.reduceAdd, Nat.zero_add, Nat.reduceMul, Nat.reduceLT, Nat.reduceLeDiff, Int.reduceLT, Int.reduceNeg, Int.reduceLE, appendP, appendAt, letGo, setLoc, locVal, Int.reduceToNat, boxCells, und, TG, SE, SC, unP, htu, hta, hz, loadR, loadP, storeR, storeK, storeCellsP, laid, lay, setBox, List.set_cons_zero, List.set_cons_succ, Nat.le_refl, List.take_succ_cons, List.take_zero, List.drop_nil, List.filter_nil, List.cons_append, Int.reduceBEq, Int.reduceBNe, Int.reduceGT, Int.reduceGE, Bool.not_true, Bool.not_false, hd, hk, d0', c0', e', n1, hpu]
            exact ⟨_, rfl⟩
          · by_cases n2 : n > mx
            · rw [if_pos (.inl ⟨rfl, .inr n2⟩)]
              obtain ⟨ev, eo, so, co, ⟨hev, hco⟩, R⟩ := RULES CC; rw [← hev]
              rw [← hco] at hd hk
              simp only [fpart, part', Tryd.f17, Option.getD]
              simp (maxSteps := 5000000) only [SA, SB, SD, R, guardAt, binP, intP, indexAddrP, elemsOf, readCells, lenP, lenAt, resultsP, resultP, oneOr, reduceCtorEq, reduceIte, Nat.reduceEqDiff, Nat.reduceAdd, Nat.zero_add, Nat.reduceMul, Nat.reduceLT, Nat.reduceLeDiff, Int.reduceLT, Int.reduceNeg, Int.reduceLE, appendP, appendAt, letGo, setLoc, locVal, Int.reduceToNat, boxCells, und, TG, SE, SC, unP, htu, hta, hz, loadR, loadP, storeR, storeK, storeCellsP, laid, lay, setBox, List.set_cons_zero, List.set_cons_succ, Nat.le_refl, List.take_succ_cons, List.take_zero, List.drop_nil, List.filter_nil, List.cons_append, Int.reduceBEq, Int.reduceBNe, Int.reduceGT, Int.reduceGE, Bool.not_true, Bool.not_false, hd, hk, d0', c0', e', n1, n2, hpu]
              exact ⟨_, rfl⟩
            · rw [if_neg (by rintro (⟨_, h | h⟩ | ⟨h, _⟩) <;> omega)]
              obtain ⟨ev, eo, so, co, ⟨hev, hco⟩, R⟩ := RULES CC; rw [← hev]
              rw [← hco] at hd hk
              simp only [fpart, part', Tryd.f17, Option.getD]
              simp (maxSteps := 5000000) only [SA, SB, SD, R, guardAt, binP, intP, indexAddrP, elemsOf, readCells, lenP, lenAt, resultsP, resultP, oneOr, reduceCtorEq, reduceIte, Nat.reduceEqDiff, Nat.reduceAdd, Nat.zero_add, Nat.reduceMul, Nat.reduceLT, Nat.reduceLeDiff, Int.reduceLT, Int.reduceNeg, Int.reduceLE, appendP, appendAt, letGo, setLoc, locVal, Int.reduceToNat, boxCells, und, TG, SE, SC, unP, htu, hta, hz, loadR, loadP, storeR, storeK, storeCellsP, laid, lay, setBox, List.set_cons_zero, List.set_cons_succ, Nat.le_refl, List.take_succ_cons, List.take_zero, List.drop_nil, List.filter_nil, List.cons_append, Int.reduceBEq, Int.reduceBNe, Int.reduceGT, Int.reduceGE, Bool.not_true, Bool.not_false, hd, hk, d0', c0', e', n1, n2, hpu]
              exact ⟨_, rfl⟩
        · have k2' : (k == 2) = false := by simpa using k2
          by_cases k3 : k = 3
          · subst k3
            by_cases n1 : n ≥ (en.length : Int)
            · rw [if_pos (.inr ⟨rfl, n1⟩)]
              obtain ⟨ev, eo, so, co, ⟨hev, hco⟩, R⟩ := RULES CC; rw [← hev]
              rw [← hco] at hd hk
              simp only [fpart, part', Tryd.f17, Option.getD]
              simp (maxSteps := 5000000) only [SA, SB, SD, R, guardAt, binP, intP, indexAddrP, elemsOf, readCells, lenP, lenAt, resultsP, resultP, oneOr, reduceCtorEq, reduceIte, Nat.reduceEqDiff, Nat.reduceAdd, Nat.zero_add, Nat.reduceMul, Nat.reduceLT, Nat.reduceLeDiff, Int.reduceLT, Int.reduceNeg, Int.reduceLE, appendP, appendAt, letGo, setLoc, locVal, Int.reduceToNat, boxCells, und, TG, SE, SC, unP, htu, hta, hz, loadR, loadP, storeR, storeK, storeCellsP, laid, lay, setBox, List.set_cons_zero, List.set_cons_succ, Nat.le_refl, List.take_succ_cons, List.take_zero, List.drop_nil, List.filter_nil, List.cons_append, Int.reduceBEq, Int.reduceBNe, Int.reduceGT, Int.reduceGE, Bool.not_true, Bool.not_false, hd, hk, d0', c0', e', n1, hln, hpu]
              exact ⟨_, rfl⟩
            · rw [if_neg (by rintro (⟨h, _⟩ | ⟨_, h⟩) <;> omega)]
              obtain ⟨ev, eo, so, co, ⟨hev, hco⟩, R⟩ := RULES CC; rw [← hev]
              rw [← hco] at hd hk
              simp only [fpart, part', Tryd.f17, Option.getD]
              simp (maxSteps := 5000000) only [SA, SB, SD, R, guardAt, binP, intP, indexAddrP, elemsOf, readCells, lenP, lenAt, resultsP, resultP, oneOr, reduceCtorEq, reduceIte, Nat.reduceEqDiff, Nat.reduceAdd, Nat.zero_add, Nat.reduceMul, Nat.reduceLT, Nat.reduceLeDiff, Int.reduceLT, Int.reduceNeg, Int.reduceLE, appendP, appendAt, letGo, setLoc, locVal, Int.reduceToNat, boxCells, und, TG, SE, SC, unP, htu, hta, hz, loadR, loadP, storeR, storeK, storeCellsP, laid, lay, setBox, List.set_cons_zero, List.set_cons_succ, Nat.le_refl, List.take_succ_cons, List.take_zero, List.drop_nil, List.filter_nil, List.cons_append, Int.reduceBEq, Int.reduceBNe, Int.reduceGT, Int.reduceGE, Bool.not_true, Bool.not_false, hd, hk, d0', c0', e', n1, hln, hpu]
              exact ⟨_, rfl⟩
          · have k3' : (k == 3) = false := by simpa using k3
            rw [if_neg (by rintro (⟨h, _⟩ | ⟨h, _⟩) <;> omega)]
            obtain ⟨ev, eo, so, co, ⟨hev, hco⟩, R⟩ := RULES CC; rw [← hev]
            rw [← hco] at hd hk
            simp only [fpart, part', Tryd.f17, Option.getD]
            simp (maxSteps := 5000000) only [SA, SB, SD, R, guardAt, binP, intP, indexAddrP, elemsOf, readCells, lenP, lenAt, resultsP, resultP, oneOr, reduceCtorEq, reduceIte, Nat.reduceEqDiff, Nat.reduceAdd, Nat.zero_add, Nat.reduceMul, Nat.reduceLT, Nat.reduceLeDiff, Int.reduceLT, Int.reduceNeg, Int.reduceLE, appendP, appendAt, letGo, setLoc, locVal, Int.reduceToNat, boxCells, und, TG, SE, SC, unP, htu, hta, hz, loadR, loadP, storeR, storeK, storeCellsP, laid, lay, setBox, List.set_cons_zero, List.set_cons_succ, Nat.le_refl, List.take_succ_cons, List.take_zero, List.drop_nil, List.filter_nil, List.cons_append, Int.reduceBEq, Int.reduceBNe, Int.reduceGT, Int.reduceGE, Bool.not_true, Bool.not_false, hd, hk, d0', c0', e', k2', k3', hpu]
            exact ⟨_, rfl⟩
      · have e' : (k != kd) = true := by simpa using e
        rw [if_pos e]
        obtain ⟨ev, eo, so, co, ⟨hev, hco⟩, R⟩ := RULES CC; rw [← hev]
        rw [← hco] at hd hk
        simp only [fpart, part', Tryd.f17, Option.getD]
        simp (maxSteps := 5000000) only [SA, SB, SD, R, guardAt, binP, intP, indexAddrP, elemsOf, readCells, lenP, lenAt, resultsP, resultP, oneOr, reduceCtorEq, reduceIte, Nat.reduceEqDiff, Nat.reduceAdd, Nat.zero_add, Nat.reduceMul, Nat.reduceLT, Nat.reduceLeDiff, Int.reduceLT, Int.reduceNeg, Int.reduceLE, appendP, appendAt, letGo, setLoc, locVal, Int.reduceToNat, boxCells, und, TG, SE, SC, unP, htu, hta, hz, loadR, loadP, storeR, storeK, storeCellsP, laid, lay, setBox, List.set_cons_zero, List.set_cons_succ, Nat.le_refl, List.take_succ_cons, List.take_zero, List.drop_nil, List.filter_nil, List.cons_append, Int.reduceBEq, Int.reduceBNe, Int.reduceGT, Int.reduceGE, Bool.not_true, Bool.not_false, hd, hk, d0', c0', e', hpu]
        exact ⟨_, rfl⟩
    · have c0' : (c != 0) = true := by simpa using c0
      rw [if_pos c0]
      obtain ⟨ev, eo, so, co, ⟨hev, hco⟩, R⟩ := RULES CC; rw [← hev]
      rw [← hco] at hd hk
      simp only [fpart, part', Tryd.f17, Option.getD]
      simp (maxSteps := 5000000) only [SA, SB, SD, R, guardAt, binP, intP, indexAddrP, elemsOf, readCells, lenP, lenAt, resultsP, resultP, oneOr, reduceCtorEq, reduceIte, Nat.reduceEqDiff, Nat.reduceAdd, Nat.zero_add, Nat.reduceMul, Nat.reduceLT, Nat.reduceLeDiff, Int.reduceLT, Int.reduceNeg, Int.reduceLE, appendP, appendAt, letGo, setLoc, locVal, Int.reduceToNat, boxCells, und, TG, SE, SC, unP, htu, hta, hz, loadR, loadP, storeR, storeK, storeCellsP, laid, lay, setBox, List.set_cons_zero, List.set_cons_succ, Nat.le_refl, List.take_succ_cons, List.take_zero, List.drop_nil, List.filter_nil, List.cons_append, Int.reduceBEq, Int.reduceBNe, Int.reduceGT, Int.reduceGE, Bool.not_true, Bool.not_false, hd, hk, d0', c0', hpu]
      exact ⟨_, rfl⟩
  · have d0' : (d != 0) = true := by simpa using d0
    rw [if_pos d0]
    obtain ⟨ev, eo, so, co, ⟨hev, hco⟩, R⟩ := RULES CC; rw [← hev]
    rw [← hco] at hd
    simp only [fpart, part', Tryd.f17, Option.getD]
    simp (maxSteps := 5000000) only [SA, SB, SD, R, guardAt, binP, intP, indexAddrP, elemsOf, readCells, lenP, lenAt, resultsP, resultP, oneOr, reduceCtorEq, reduceIte, Nat.reduceEqDiff, Nat.reduceAdd, Nat.zero_add, Nat.reduceMul, Nat.reduceLT, Nat.reduceLeDiff, Int.reduceLT, Int.reduceNeg, Int.reduceLE, appendP, appendAt, letGo, setLoc, locVal, Int.reduceToNat, boxCells, und, TG, SE, SC, unP, htu, hta, hz, loadR, loadP, storeR, storeK, storeCellsP, laid, lay, setBox, List.set_cons_zero, List.set_cons_succ, Nat.le_refl, List.take_succ_cons, List.take_zero, List.drop_nil, List.filter_nil, List.cons_append, Int.reduceBEq, Int.reduceBNe, Int.reduceGT, Int.reduceGE, Bool.not_true, Bool.not_false, hd, d0', hpu]
    exact ⟨_, rfl⟩
theorem call_R20_Fits (a : At) (ha : shAt a) (v : Vl) : ∃ bx, callL CC 18 [attV a, vlV v] [] = some (.ret (.int .i64 (ftV a v)), bx) := by
  rw [callL_enter (fn := Tryd.f18) (c := Tryd.f18.body.getD .skip) rfl rfl fat_R20_Fits rfl ok_R20_Fits (Nat.le_of_ble_eq_true rfl)]
  have hd := op_R20_Def a ha
  have hk := op_R20_Check v
  unfold ftV
  generalize dfV a = d at *
  generalize ckV v = c at *
  obtain ⟨nm, kd, mn, mx, en, wr, sf⟩ := a
  obtain ⟨k, n, s⟩ := v
  unfold attV at *
  unfold vlV at *
  simp only at *
  have hln := strs_length en
  have hpu := strs_pure en
  have hz : True := trivial
  obtain ⟨tu, htu⟩ := VLs
  obtain ⟨ta, hta⟩ := ATs
  generalize strs en = xs at *
  by_cases d0 : d = 0
  · have d0' : (d != 0) = false := by simp [d0]
    rw [if_neg (fun h => h d0)]
    by_cases c0 : c = 0
    · have c0' : (c != 0) = false := by simp [c0]
      rw [if_neg (fun h => h c0)]
      by_cases e : k = kd
      · subst e
        have e' : (k != k) = false := by simp
        rw [if_neg (fun h => h rfl)]
        by_cases k2 : k = 2
        · subst k2
          by_cases n1 : n < mn
          · rw [if_pos (.inl ⟨rfl, .inl n1⟩)]
            obtain ⟨ev, eo, so, co, ⟨hev, hco⟩, R⟩ := RULES CC; rw [← hev]
            rw [← hco] at hd hk
            simp only [fpart, part', Tryd.f18, Option.getD]
            simp (maxSteps := 5000000) only [SA, SB, SD, R, guardAt, binP, intP, indexAddrP, elemsOf, readCells, lenP, lenAt, resultsP, resultP, oneOr, reduceCtorEq, reduceIte, Nat.reduceEqDiff, Nat.reduceAdd, Nat.zero_add, Nat.reduceMul, Nat.reduceLT, Nat.reduceLeDiff, Int.reduceLT, Int.reduceNeg, Int.reduceLE, appendP, appendAt, letGo, setLoc, locVal, Int.reduceToNat, boxCells, und, TG, SE, SC, unP, htu, hta, hz, loadR, loadP, storeR, storeK, storeCellsP, laid, lay, setBox, List.set_cons_zero, List.set_cons_succ, Nat.le_refl, List.take_succ_cons, List.take_zero, List.drop_nil, List.filter_nil, List.cons_append, Int.reduceBEq, Int.reduceBNe, Int.reduceGT, Int.reduceGE, Bool.not_true, Bool.not_false, hd, hk, d0', c0', e', n1, hpu]
            exact ⟨_, rfl⟩
          · by_cases n2 : n > mx
            · rw [if_pos (.inl ⟨rfl, .inr n2⟩)]
              obtain ⟨ev, eo, so, co, ⟨hev, hco⟩, R⟩ := RULES CC; rw [← hev]
              rw [← hco] at hd hk
              simp only [fpart, part', Tryd.f18, Option.getD]
              simp (maxSteps := 5000000) only [SA, SB, SD, R, guardAt, binP, intP, indexAddrP, elemsOf, readCells, lenP, lenAt, resultsP, resultP, oneOr, reduceCtorEq, reduceIte, Nat.reduceEqDiff, Nat.reduceAdd, Nat.zero_add, Nat.reduceMul, Nat.reduceLT, Nat.reduceLeDiff, Int.reduceLT, Int.reduceNeg, Int.reduceLE, appendP, appendAt, letGo, setLoc, locVal, Int.reduceToNat, boxCells, und, TG, SE, SC, unP, htu, hta, hz, loadR, loadP, storeR, storeK, storeCellsP, laid, lay, setBox, List.set_cons_zero, List.set_cons_succ, Nat.le_refl, List.take_succ_cons, List.take_zero, List.drop_nil, List.filter_nil, List.cons_append, Int.reduceBEq, Int.reduceBNe, Int.reduceGT, Int.reduceGE, Bool.not_true, Bool.not_false, hd, hk, d0', c0', e', n1, n2, hpu]
              exact ⟨_, rfl⟩
            · rw [if_neg (by rintro (⟨_, h | h⟩ | ⟨h, _⟩) <;> omega)]
              obtain ⟨ev, eo, so, co, ⟨hev, hco⟩, R⟩ := RULES CC; rw [← hev]
              rw [← hco] at hd hk
              simp only [fpart, part', Tryd.f18, Option.getD]
              simp (maxSteps := 5000000) only [SA, SB, SD, R, guardAt, binP, intP, indexAddrP, elemsOf, readCells, lenP, lenAt, resultsP, resultP, oneOr, reduceCtorEq, reduceIte, Nat.reduceEqDiff, Nat.reduceAdd, Nat.zero_add, Nat.reduceMul, Nat.reduceLT, Nat.reduceLeDiff, Int.reduceLT, Int.reduceNeg, Int.reduceLE, appendP, appendAt, letGo, setLoc, locVal, Int.reduceToNat, boxCells, und, TG, SE, SC, unP, htu, hta, hz, loadR, loadP, storeR, storeK, storeCellsP, laid, lay, setBox, List.set_cons_zero, List.set_cons_succ, Nat.le_refl, List.take_succ_cons, List.take_zero, List.drop_nil, List.filter_nil, List.cons_append, Int.reduceBEq, Int.reduceBNe, Int.reduceGT, Int.reduceGE, Bool.not_true, Bool.not_false, hd, hk, d0', c0', e', n1, n2, hpu]
              exact ⟨_, rfl⟩
        · have k2' : (k == 2) = false := by simpa using k2
          by_cases k3 : k = 3
          · subst k3
            by_cases n1 : n ≥ (en.length : Int)
            · rw [if_pos (.inr ⟨rfl, n1⟩)]
              obtain ⟨ev, eo, so, co, ⟨hev, hco⟩, R⟩ := RULES CC; rw [← hev]
              rw [← hco] at hd hk
              simp only [fpart, part', Tryd.f18, Option.getD]
              simp (maxSteps := 5000000) only [SA, SB, SD, R, guardAt, binP, intP, indexAddrP, elemsOf, readCells, lenP, lenAt, resultsP, resultP, oneOr, reduceCtorEq, reduceIte, Nat.reduceEqDiff, Nat.reduceAdd, Nat.zero_add, Nat.reduceMul, Nat.reduceLT, Nat.reduceLeDiff, Int.reduceLT, Int.reduceNeg, Int.reduceLE, appendP, appendAt, letGo, setLoc, locVal, Int.reduceToNat, boxCells, und, TG, SE, SC, unP, htu, hta, hz, loadR, loadP, storeR, storeK, storeCellsP, laid, lay, setBox, List.set_cons_zero, List.set_cons_succ, Nat.le_refl, List.take_succ_cons, List.take_zero, List.drop_nil, List.filter_nil, List.cons_append, Int.reduceBEq, Int.reduceBNe, Int.reduceGT, Int.reduceGE, Bool.not_true, Bool.not_false, hd, hk, d0', c0', e', n1, hln, hpu]
              exact ⟨_, rfl⟩
            · rw [if_neg (by rintro (⟨h, _⟩ | ⟨_, h⟩) <;> omega)]
              obtain ⟨ev, eo, so, co, ⟨hev, hco⟩, R⟩ := RULES CC; rw [← hev]
              rw [← hco] at hd hk
              simp only [fpart, part', Tryd.f18, Option.getD]
              simp (maxSteps := 5000000) only [SA, SB, SD, R, guardAt, binP, intP, indexAddrP, elemsOf, readCells, lenP, lenAt, resultsP, resultP, oneOr, reduceCtorEq, reduceIte, Nat.reduceEqDiff, Nat.reduceAdd, Nat.zero_add, Nat.reduceMul, Nat.reduceLT, Nat.reduceLeDiff, Int.reduceLT, Int.reduceNeg, Int.reduceLE, appendP, appendAt, letGo, setLoc, locVal, Int.reduceToNat, boxCells, und, TG, SE, SC, unP, htu, hta, hz, loadR, loadP, storeR, storeK, storeCellsP, laid, lay, setBox, List.set_cons_zero, List.set_cons_succ, Nat.le_refl, List.take_succ_cons, List.take_zero, List.drop_nil, List.filter_nil, List.cons_append, Int.reduceBEq, Int.reduceBNe, Int.reduceGT, Int.reduceGE, Bool.not_true, Bool.not_false, hd, hk, d0', c0', e', n1, hln, hpu]
              exact ⟨_, rfl⟩
          · have k3' : (k == 3) = false := by simpa using k3
            rw [if_neg (by rintro (⟨h, _⟩ | ⟨h, _⟩) <;> omega)]
            obtain ⟨ev, eo, so, co, ⟨hev, hco⟩, R⟩ := RULES CC; rw [← hev]
            rw [← hco] at hd hk
            simp only [fpart, part', Tryd.f18, Option.getD]
            simp (maxSteps := 5000000) only [SA, SB, SD, R, guardAt, binP, intP, indexAddrP, elemsOf, readCells, lenP, lenAt, resultsP, resultP, oneOr, reduceCtorEq, reduceIte, Nat.reduceEqDiff, Nat.reduceAdd, Nat.zero_add, Nat.reduceMul, Nat.reduceLT, Nat.reduceLeDiff, Int.reduceLT, Int.reduceNeg, Int.reduceLE, appendP, appendAt, letGo, setLoc, locVal, Int.reduceToNat, boxCells, und, TG, SE, SC, unP, htu, hta, hz, loadR, loadP, storeR, storeK, storeCellsP, laid, lay, setBox, List.set_cons_zero, List.set_cons_succ, Nat.le_refl, List.take_succ_cons, List.take_zero, List.drop_nil, List.filter_nil, List.cons_append, Int.reduceBEq, Int.reduceBNe, Int.reduceGT, Int.reduceGE, Bool.not_true, Bool.not_false, hd, hk, d0', c0', e', k2', k3', hpu]
            exact ⟨_, rfl⟩
      · have e' : (k != kd) = true := by simpa using e
        rw [if_pos e]
        obtain ⟨ev, eo, so, co, ⟨hev, hco⟩, R⟩ := RULES CC; rw [← hev]
        rw [← hco] at hd hk
        simp only [fpart, part', Tryd.f18, Option.getD]
        simp (maxSteps := 5000000) only [SA, SB, SD, R, guardAt, binP, intP, indexAddrP, elemsOf, readCells, lenP, lenAt, resultsP, resultP, oneOr, reduceCtorEq, reduceIte, Nat.reduceEqDiff, Nat.reduceAdd, Nat.zero_add, Nat.reduceMul, Nat.reduceLT, Nat.reduceLeDiff, Int.reduceLT, Int.reduceNeg, Int.reduceLE, appendP, appendAt, letGo, setLoc, locVal, Int.reduceToNat, boxCells, und, TG, SE, SC, unP, htu, hta, hz, loadR, loadP, storeR, storeK, storeCellsP, laid, lay, setBox, List.set_cons_zero, List.set_cons_succ, Nat.le_refl, List.take_succ_cons, List.take_zero, List.drop_nil, List.filter_nil, List.cons_append, Int.reduceBEq, Int.reduceBNe, Int.reduceGT, Int.reduceGE, Bool.not_true, Bool.not_false, hd, hk, d0', c0', e', hpu]
        exact ⟨_, rfl⟩
    · have c0' : (c != 0) = true := by simpa using c0
      rw [if_pos c0]
      obtain ⟨ev, eo, so, co, ⟨hev, hco⟩, R⟩ := RULES CC; rw [← hev]
      rw [← hco] at hd hk
      simp only [fpart, part', Tryd.f18, Option.getD]
      simp (maxSteps := 5000000) only [SA, SB, SD, R, guardAt, binP, intP, indexAddrP, elemsOf, readCells, lenP, lenAt, resultsP, resultP, oneOr, reduceCtorEq, reduceIte, Nat.reduceEqDiff, Nat.reduceAdd, Nat.zero_add, Nat.reduceMul, Nat.reduceLT, Nat.reduceLeDiff, Int.reduceLT, Int.reduceNeg, Int.reduceLE, appendP, appendAt, letGo, setLoc, locVal, Int.reduceToNat, boxCells, und, TG, SE, SC, unP, htu, hta, hz, loadR, loadP, storeR, storeK, storeCellsP, laid, lay, setBox, List.set_cons_zero, List.set_cons_succ, Nat.le_refl, List.take_succ_cons, List.take_zero, List.drop_nil, List.filter_nil, List.cons_append, Int.reduceBEq, Int.reduceBNe, Int.reduceGT, Int.reduceGE, Bool.not_true, Bool.not_false, hd, hk, d0', c0', hpu]
      exact ⟨_, rfl⟩
  · have d0' : (d != 0) = true := by simpa using d0
    rw [if_pos d0]
    obtain ⟨ev, eo, so, co, ⟨hev, hco⟩, R⟩ := RULES CC; rw [← hev]
    rw [← hco] at hd
    simp only [fpart, part', Tryd.f18, Option.getD]
    simp (maxSteps := 5000000) only [SA, SB, SD, R, guardAt, binP, intP, indexAddrP, elemsOf, readCells, lenP, lenAt, resultsP, resultP, oneOr, reduceCtorEq, reduceIte, Nat.reduceEqDiff, Nat.reduceAdd, Nat.zero_add, Nat.reduceMul, Nat.reduceLT, Nat.reduceLeDiff, Int.reduceLT, Int.reduceNeg, Int.reduceLE, appendP, appendAt, letGo, setLoc, locVal, Int.reduceToNat, boxCells, und, TG, SE, SC, unP, htu, hta, hz, loadR, loadP, storeR, storeK, storeCellsP, laid, lay, setBox, List.set_cons_zero, List.set_cons_succ, Nat.le_refl, List.take_succ_cons, List.take_zero, List.drop_nil, List.filter_nil, List.cons_append, Int.reduceBEq, Int.reduceBNe, Int.reduceGT, Int.reduceGE, Bool.not_true, Bool.not_false, hd, d0', hpu]
    exact ⟨_, rfl⟩
theorem vlV_pure (v : Vl) : (vlV v).pure = true := rfl
theorem op_value_Fits (a : At) (ha : shAt a) (v : Vl) (bx) : callOp CC (callL CC) 17 [attV a, vlV v] bx = some (.ret (.int .i64 (ftV a v)), bx) := by
  obtain ⟨b, h⟩ := call_value_Fits a ha v
  exact callOp_of rfl (by show ((attV a).pure && ((vlV v).pure && true)) = true; rw [attV_pure]; rfl) h rfl
theorem op_R20_Fits (a : At) (ha : shAt a) (v : Vl) (bx) : callOp CC (callL CC) 18 [attV a, vlV v] bx = some (.ret (.int .i64 (ftV a v)), bx) := by
  obtain ⟨b, h⟩ := call_R20_Fits a ha v
  exact callOp_of rfl (by show ((attV a).pure && ((vlV v).pure && true)) = true; rw [attV_pure]; rfl) h rfl
end Go.HH
