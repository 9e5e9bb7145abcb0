/-
  Joined: V11, V12.
-/
import Derived.Test.YtedpmedialplkaaDoorVJ
import Derived.Test.YtedpmedialplkaaDoorVQJ
import Derived.Test.YtedpmedialplkaaDoorVDJ
namespace Go.HH
open Go Go.Proofs
set_option maxRecDepth 100000
set_option linter.unusedSimpArgs false
set_option linter.unusedVariables false
theorem ok_value_Print : fnOK CC Tryd.f36 (Tryd.f36.body.getD .skip) = true := by kernel_rfl
theorem fat_value_Print : CC.P.funcs[36]? = some Tryd.f36 := by kernel_rfl
theorem ok_R20_Print : fnOK CC Tryd.f37 (Tryd.f37.body.getD .skip) = true := by kernel_rfl
theorem fat_R20_Print : CC.P.funcs[37]? = some Tryd.f37 := by kernel_rfl
def sN : List UInt8 := [110, 111, 110, 101]
def sT : List UInt8 := [116, 114, 117, 101]
def sF : List UInt8 := [102, 97, 108, 115, 101]
/-- the text of a value -/
def prV (v : Vl) : List UInt8 := if ckV v ≠ 0 then [] else if v.1 = 0 then sN else if v.1 = 1 then (if v.2.1 = 1 then sT else sF) else if v.1 = 2 then Lib.itoa v.2.1 else if v.1 = 3 then 35 :: Lib.itoa v.2.1 else quoteL v.2.2
theorem ck_len {v : Vl} (h : ckV v = 0) : v.2.2.length ≤ 60 ∧ (v.1 = 0 ∨ v.1 = 1 ∨ v.1 = 2 ∨ v.1 = 3 ∨ v.1 = 4) ∧ (v.1 ≠ 4 → v.2.2 = []) := by
  obtain ⟨k, n, s⟩ := v
  unfold ckV at h
  simp only at h ⊢
  cases ho : okN k n with
  | none => rw [ho] at h; cases h
  | some b =>
    rw [ho] at h
    cases b with
    | false => cases h
    | true =>
      simp only at h
      by_cases hl : 60 < s.length
      · rw [if_pos hl] at h; cases h
      · rw [if_neg hl] at h
        refine ⟨by omega, ?_, fun k4 => ?_⟩
        · unfold okN at ho
          by_cases e0 : k = 0 ∨ k = 4
          · omega
          · rw [if_neg e0] at ho
            by_cases e1 : k = 1
            · omega
            · rw [if_neg e1] at ho
              by_cases e2 : k = 2
              · omega
              · rw [if_neg e2] at ho
                by_cases e3 : k = 3
                · omega
                · rw [if_neg e3] at ho; cases ho
        · by_cases hs : s = []
          · exact hs
          · rw [if_pos ⟨hs, k4⟩] at h; cases h

theorem call_value_Print (v : Vl) (hn : inI v.2.1) : ∃ bx, callL CC 36 [vlV v] [] = some (.ret (.str (prV v)), bx) := by
  rw [callL_enter (fn := Tryd.f36) (c := Tryd.f36.body.getD .skip) rfl rfl fat_value_Print rfl ok_value_Print (Nat.le_of_ble_eq_true rfl)]
  have hc := op_value_Check v
  have hcl := ck_len (v := v)
  have hd := op_num_Digits v.2.1 hn
  have hil := itoa_length hn
  have hadd := str_add (a := [35]) (b := Lib.itoa v.2.1) (by simp only [List.length_singleton]; omega)
  have hq := fun h => op_names_Quote v.2.2 h
  obtain ⟨tu, htu⟩ := VLs
  unfold prV
  by_cases c0 : ckV v = 0
  · rw [if_neg (fun h => h c0)]
    rw [c0] at hc
    obtain ⟨l1, l2, _⟩ := hcl c0
    have hq := hq (by omega)
    clear hcl
    obtain ⟨k, n, s⟩ := v
    unfold vlV at *
    simp only at *
    generalize Lib.itoa n = d at *
    generalize quoteL s = q at *
    rcases l2 with rfl | rfl | rfl | rfl | rfl
    · rw [if_pos rfl]
      have hN : sN = [110, 111, 110, 101] := rfl
      rw [hN]
      obtain ⟨ev, eo, so, co, ⟨hev, hco⟩, R⟩ := RULES CC; rw [← hev]
      rw [← hco] at hc hd hq
      simp only [fpart, part', Tryd.f36, Option.getD]
      simp (maxSteps := 5000000) only [SA, SB, SD, R, guardAt, binP, intP, indexAddrP, elemsOf, readCells, lenP, lenAt, resultsP, resultP, oneOr, reduceCtorEq, reduceIte, Nat.reduceEqDiff, Nat.reduceAdd, Nat.zero_add, Nat.reduceMul, Nat.reduceLT, Nat.reduceLeDiff, Int.reduceLT, Int.reduceNeg, Int.reduceLE, appendP, appendAt, letGo, setLoc, locVal, Int.reduceToNat, boxCells, und, TG, SE, SC, unP, htu, loadR, loadP, lay, List.take_succ_cons, List.take_zero, List.drop_nil, List.filter_nil, List.cons_append, Int.reduceBEq, Int.reduceBNe, Int.reduceGT, Int.reduceGE, Bool.not_true, Bool.not_false, hc]
      exact ⟨_, rfl⟩
    · rw [if_neg (by decide), if_pos rfl]
      by_cases n1 : n = 1
      · have n1p : (n == 1) = true := by simp [n1]
        rw [if_pos n1]
        have hN : sT = [116, 114, 117, 101] := rfl
        rw [hN]
        obtain ⟨ev, eo, so, co, ⟨hev, hco⟩, R⟩ := RULES CC; rw [← hev]
        rw [← hco] at hc hd hq
        simp only [fpart, part', Tryd.f36, Option.getD]
        simp (maxSteps := 5000000) only [SA, SB, SD, R, guardAt, binP, intP, indexAddrP, elemsOf, readCells, lenP, lenAt, resultsP, resultP, oneOr, reduceCtorEq, reduceIte, Nat.reduceEqDiff, Nat.reduceAdd, Nat.zero_add, Nat.reduceMul, Nat.reduceLT, Nat.reduceLeDiff, Int.reduceLT, Int.reduceNeg, Int.reduceLE, appendP, appendAt, letGo, setLoc, locVal, Int.reduceToNat, boxCells, und, TG, SE, SC, unP, htu, loadR, loadP, lay, List.take_succ_cons, List.take_zero, List.drop_nil, List.filter_nil, List.cons_append, Int.reduceBEq, Int.reduceBNe, Int.reduceGT, Int.reduceGE, Bool.not_true, Bool.not_false, hc, n1p]
        exact ⟨_, rfl⟩
      · have n1p : (n == 1) = false := by simpa using n1
        rw [if_neg n1]
        have hN : sF = [102, 97, 108, 115, 101] := rfl
        rw [hN]
        obtain ⟨ev, eo, so, co, ⟨hev, hco⟩, R⟩ := RULES CC; rw [← hev]
        rw [← hco] at hc hd hq
        simp only [fpart, part', Tryd.f36, Option.getD]
        simp (maxSteps := 5000000) only [SA, SB, SD, R, guardAt, binP, intP, indexAddrP, elemsOf, readCells, lenP, lenAt, resultsP, resultP, oneOr, reduceCtorEq, reduceIte, Nat.reduceEqDiff, Nat.reduceAdd, Nat.zero_add, Nat.reduceMul, Nat.reduceLT, Nat.reduceLeDiff, Int.reduceLT, Int.reduceNeg, Int.reduceLE, appendP, appendAt, letGo, setLoc, locVal, Int.reduceToNat, boxCells, und, TG, SE, SC, unP, htu, loadR, loadP, lay, List.take_succ_cons, List.take_zero, List.drop_nil, List.filter_nil, List.cons_append, Int.reduceBEq, Int.reduceBNe, Int.reduceGT, Int.reduceGE, Bool.not_true, Bool.not_false, hc, n1p]
        exact ⟨_, rfl⟩
    · rw [if_neg (by decide), if_neg (by decide), if_pos rfl]
      obtain ⟨ev, eo, so, co, ⟨hev, hco⟩, R⟩ := RULES CC; rw [← hev]
      rw [← hco] at hc hd hq
      simp only [fpart, part', Tryd.f36, Option.getD]
      simp (maxSteps := 5000000) only [SA, SB, SD, R, guardAt, binP, intP, indexAddrP, elemsOf, readCells, lenP, lenAt, resultsP, resultP, oneOr, reduceCtorEq, reduceIte, Nat.reduceEqDiff, Nat.reduceAdd, Nat.zero_add, Nat.reduceMul, Nat.reduceLT, Nat.reduceLeDiff, Int.reduceLT, Int.reduceNeg, Int.reduceLE, appendP, appendAt, letGo, setLoc, locVal, Int.reduceToNat, boxCells, und, TG, SE, SC, unP, htu, loadR, loadP, lay, List.take_succ_cons, List.take_zero, List.drop_nil, List.filter_nil, List.cons_append, Int.reduceBEq, Int.reduceBNe, Int.reduceGT, Int.reduceGE, Bool.not_true, Bool.not_false, hc, hd]
      exact ⟨_, rfl⟩
    · rw [if_neg (by decide), if_neg (by decide), if_neg (by decide), if_pos rfl]
      rw [show (35 :: d : List UInt8) = [35] ++ d from rfl]
      generalize [35] ++ d = d2 at *
      obtain ⟨ev, eo, so, co, ⟨hev, hco⟩, R⟩ := RULES CC; rw [← hev]
      rw [← hco] at hc hd hq
      simp only [fpart, part', Tryd.f36, Option.getD]
      simp (maxSteps := 5000000) only [SA, SB, SD, R, guardAt, binP, intP, indexAddrP, elemsOf, readCells, lenP, lenAt, resultsP, resultP, oneOr, reduceCtorEq, reduceIte, Nat.reduceEqDiff, Nat.reduceAdd, Nat.zero_add, Nat.reduceMul, Nat.reduceLT, Nat.reduceLeDiff, Int.reduceLT, Int.reduceNeg, Int.reduceLE, appendP, appendAt, letGo, setLoc, locVal, Int.reduceToNat, boxCells, und, TG, SE, SC, unP, htu, loadR, loadP, lay, List.take_succ_cons, List.take_zero, List.drop_nil, List.filter_nil, List.cons_append, Int.reduceBEq, Int.reduceBNe, Int.reduceGT, Int.reduceGE, Bool.not_true, Bool.not_false, hc, hd, hadd]
      exact ⟨_, rfl⟩
    · rw [if_neg (by decide), if_neg (by decide), if_neg (by decide), if_neg (by decide)]
      obtain ⟨ev, eo, so, co, ⟨hev, hco⟩, R⟩ := RULES CC; rw [← hev]
      rw [← hco] at hc hd hq
      simp only [fpart, part', Tryd.f36, Option.getD]
      simp (maxSteps := 5000000) only [SA, SB, SD, R, guardAt, binP, intP, indexAddrP, elemsOf, readCells, lenP, lenAt, resultsP, resultP, oneOr, reduceCtorEq, reduceIte, Nat.reduceEqDiff, Nat.reduceAdd, Nat.zero_add, Nat.reduceMul, Nat.reduceLT, Nat.reduceLeDiff, Int.reduceLT, Int.reduceNeg, Int.reduceLE, appendP, appendAt, letGo, setLoc, locVal, Int.reduceToNat, boxCells, und, TG, SE, SC, unP, htu, loadR, loadP, lay, List.take_succ_cons, List.take_zero, List.drop_nil, List.filter_nil, List.cons_append, Int.reduceBEq, Int.reduceBNe, Int.reduceGT, Int.reduceGE, Bool.not_true, Bool.not_false, hc, hq]
      exact ⟨_, rfl⟩
  · rw [if_pos c0]
    have c0p : (ckV v != 0) = true := by simpa using c0
    generalize ckV v = c at *
    unfold vlV at *
    obtain ⟨ev, eo, so, co, ⟨hev, hco⟩, R⟩ := RULES CC; rw [← hev]
    rw [← hco] at hc
    simp only [fpart, part', Tryd.f36, Option.getD]
    simp (maxSteps := 5000000) only [SA, SB, SD, R, guardAt, binP, intP, indexAddrP, elemsOf, readCells, lenP, lenAt, resultsP, resultP, oneOr, reduceCtorEq, reduceIte, Nat.reduceEqDiff, Nat.reduceAdd, Nat.zero_add, Nat.reduceMul, Nat.reduceLT, Nat.reduceLeDiff, Int.reduceLT, Int.reduceNeg, Int.reduceLE, appendP, appendAt, letGo, setLoc, locVal, Int.reduceToNat, boxCells, und, TG, SE, SC, unP, htu, loadR, loadP, lay, List.take_succ_cons, List.take_zero, List.drop_nil, List.filter_nil, List.cons_append, Int.reduceBEq, Int.reduceBNe, Int.reduceGT, Int.reduceGE, Bool.not_true, Bool.not_false, hc, c0p]
    exact ⟨_, rfl⟩
theorem op_value_Print (v : Vl) (hn : inI v.2.1) (bx) : callOp CC (callL CC) 36 [vlV v] bx = some (.ret (.str (prV v)), bx) := by
  obtain ⟨b, h⟩ := call_value_Print v hn
  exact callOp_of rfl rfl h rfl
theorem call_R20_Print (v : Vl) (hn : inI v.2.1) : ∃ bx, callL CC 37 [vlV v] [] = some (.ret (.str (prV v)), bx) := by
  rw [callL_enter (fn := Tryd.f37) (c := Tryd.f37.body.getD .skip) rfl rfl fat_R20_Print rfl ok_R20_Print (Nat.le_of_ble_eq_true rfl)]
  have hc := op_R20_Check v
  have hcl := ck_len (v := v)
  have hd := op_R01_Digits v.2.1 hn
  have hil := itoa_length hn
  have hadd := str_add (a := [35]) (b := Lib.itoa v.2.1) (by simp only [List.length_singleton]; omega)
  have hq := fun h => op_R04_Quote v.2.2 h
  obtain ⟨tu, htu⟩ := VLs
  unfold prV
  by_cases c0 : ckV v = 0
  · rw [if_neg (fun h => h c0)]
    rw [c0] at hc
    obtain ⟨l1, l2, _⟩ := hcl c0
    have hq := hq (by omega)
    clear hcl
    obtain ⟨k, n, s⟩ := v
    unfold vlV at *
    simp only at *
    generalize Lib.itoa n = d at *
    generalize quoteL s = q at *
    rcases l2 with rfl | rfl | rfl | rfl | rfl
    · rw [if_pos rfl]
      have hN : sN = [110, 111, 110, 101] := rfl
      rw [hN]
      obtain ⟨ev, eo, so, co, ⟨hev, hco⟩, R⟩ := RULES CC; rw [← hev]
      rw [← hco] at hc hd hq
      simp only [fpart, part', Tryd.f37, Option.getD]
      simp (maxSteps := 5000000) only [SA, SB, SD, R, guardAt, binP, intP, indexAddrP, elemsOf, readCells, lenP, lenAt, resultsP, resultP, oneOr, reduceCtorEq, reduceIte, Nat.reduceEqDiff, Nat.reduceAdd, Nat.zero_add, Nat.reduceMul, Nat.reduceLT, Nat.reduceLeDiff, Int.reduceLT, Int.reduceNeg, Int.reduceLE, appendP, appendAt, letGo, setLoc, locVal, Int.reduceToNat, boxCells, und, TG, SE, SC, unP, htu, loadR, loadP, lay, List.take_succ_cons, List.take_zero, List.drop_nil, List.filter_nil, List.cons_append, Int.reduceBEq, Int.reduceBNe, Int.reduceGT, Int.reduceGE, Bool.not_true, Bool.not_false, hc]
      exact ⟨_, rfl⟩
    · rw [if_neg (by decide), if_pos rfl]
      by_cases n1 : n = 1
      · have n1p : (n == 1) = true := by simp [n1]
        rw [if_pos n1]
        have hN : sT = [116, 114, 117, 101] := rfl
        rw [hN]
        obtain ⟨ev, eo, so, co, ⟨hev, hco⟩, R⟩ := RULES CC; rw [← hev]
        rw [← hco] at hc hd hq
        simp only [fpart, part', Tryd.f37, Option.getD]
        simp (maxSteps := 5000000) only [SA, SB, SD, R, guardAt, binP, intP, indexAddrP, elemsOf, readCells, lenP, lenAt, resultsP, resultP, oneOr, reduceCtorEq, reduceIte, Nat.reduceEqDiff, Nat.reduceAdd, Nat.zero_add, Nat.reduceMul, Nat.reduceLT, Nat.reduceLeDiff, Int.reduceLT, Int.reduceNeg, Int.reduceLE, appendP, appendAt, letGo, setLoc, locVal, Int.reduceToNat, boxCells, und, TG, SE, SC, unP, htu, loadR, loadP, lay, List.take_succ_cons, List.take_zero, List.drop_nil, List.filter_nil, List.cons_append, Int.reduceBEq, Int.reduceBNe, Int.reduceGT, Int.reduceGE, Bool.not_true, Bool.not_false, hc, n1p]
        exact ⟨_, rfl⟩
      · have n1p : (n == 1) = false := by simpa using n1
        rw [if_neg n1]
        have hN : sF = [102, 97, 108, 115, 101] := rfl
        rw [hN]
        obtain ⟨ev, eo, so, co, ⟨hev, hco⟩, R⟩ := RULES CC; rw [← hev]
        rw [← hco] at hc hd hq
        simp only [fpart, part', Tryd.f37, Option.getD]
        simp (maxSteps := 5000000) only [SA, SB, SD, R, guardAt, binP, intP, indexAddrP, elemsOf, readCells, lenP, lenAt, resultsP, resultP, oneOr, reduceCtorEq, reduceIte, Nat.reduceEqDiff, Nat.reduceAdd, Nat.zero_add, Nat.reduceMul, Nat.reduceLT, Nat.reduceLeDiff, Int.reduceLT, Int.reduceNeg, Int.reduceLE, appendP, appendAt, letGo, setLoc, locVal, Int.reduceToNat, boxCells, und, TG, SE, SC, unP, htu, loadR, loadP, lay, List.take_succ_cons, List.take_zero, List.drop_nil, List.filter_nil, List.cons_append, Int.reduceBEq, Int.reduceBNe, Int.reduceGT, Int.reduceGE, Bool.not_true, Bool.not_false, hc, n1p]
        exact ⟨_, rfl⟩
    · rw [if_neg (by decide), if_neg (by decide), if_pos rfl]
      obtain ⟨ev, eo, so, co, ⟨hev, hco⟩, R⟩ := RULES CC; rw [← hev]
      rw [← hco] at hc hd hq
      simp only [fpart, part', Tryd.f37, Option.getD]
      simp (maxSteps := 5000000) only [SA, SB, SD, R, guardAt, binP, intP, indexAddrP, elemsOf, readCells, lenP, lenAt, resultsP, resultP, oneOr, reduceCtorEq, reduceIte, Nat.reduceEqDiff, Nat.reduceAdd, Nat.zero_add, Nat.reduceMul, Nat.reduceLT, Nat.reduceLeDiff, Int.reduceLT, Int.reduceNeg, Int.reduceLE, appendP, appendAt, letGo, setLoc, locVal, Int.reduceToNat, boxCells, und, TG, SE, SC, unP, htu, loadR, loadP, lay, List.take_succ_cons, List.take_zero, List.drop_nil, List.filter_nil, List.cons_append, Int.reduceBEq, Int.reduceBNe, Int.reduceGT, Int.reduceGE, Bool.not_true, Bool.not_false, hc, hd]
      exact ⟨_, rfl⟩
    · rw [if_neg (by decide), if_neg (by decide), if_neg (by decide), if_pos rfl]
      rw [show (35 :: d : List UInt8) = [35] ++ d from rfl]
      generalize [35] ++ d = d2 at *
      obtain ⟨ev, eo, so, co, ⟨hev, hco⟩, R⟩ := RULES CC; rw [← hev]
      rw [← hco] at hc hd hq
      simp only [fpart, part', Tryd.f37, Option.getD]
      simp (maxSteps := 5000000) only [SA, SB, SD, R, guardAt, binP, intP, indexAddrP, elemsOf, readCells, lenP, lenAt, resultsP, resultP, oneOr, reduceCtorEq, reduceIte, Nat.reduceEqDiff, Nat.reduceAdd, Nat.zero_add, Nat.reduceMul, Nat.reduceLT, Nat.reduceLeDiff, Int.reduceLT, Int.reduceNeg, Int.reduceLE, appendP, appendAt, letGo, setLoc, locVal, Int.reduceToNat, boxCells, und, TG, SE, SC, unP, htu, loadR, loadP, lay, List.take_succ_cons, List.take_zero, List.drop_nil, List.filter_nil, List.cons_append, Int.reduceBEq, Int.reduceBNe, Int.reduceGT, Int.reduceGE, Bool.not_true, Bool.not_false, hc, hd, hadd]
      exact ⟨_, rfl⟩
    · rw [if_neg (by decide), if_neg (by decide), if_neg (by decide), if_neg (by decide)]
      obtain ⟨ev, eo, so, co, ⟨hev, hco⟩, R⟩ := RULES CC; rw [← hev]
      rw [← hco] at hc hd hq
      simp only [fpart, part', Tryd.f37, Option.getD]
      simp (maxSteps := 5000000) only [SA, SB, SD, R, guardAt, binP, intP, indexAddrP, elemsOf, readCells, lenP, lenAt, resultsP, resultP, oneOr, reduceCtorEq, reduceIte, Nat.reduceEqDiff, Nat.reduceAdd, Nat.zero_add, Nat.reduceMul, Nat.reduceLT, Nat.reduceLeDiff, Int.reduceLT, Int.reduceNeg, Int.reduceLE, appendP, appendAt, letGo, setLoc, locVal, Int.reduceToNat, boxCells, und, TG, SE, SC, unP, htu, loadR, loadP, lay, List.take_succ_cons, List.take_zero, List.drop_nil, List.filter_nil, List.cons_append, Int.reduceBEq, Int.reduceBNe, Int.reduceGT, Int.reduceGE, Bool.not_true, Bool.not_false, hc, hq]
      exact ⟨_, rfl⟩
  · rw [if_pos c0]
    have c0p : (ckV v != 0) = true := by simpa using c0
    generalize ckV v = c at *
    unfold vlV at *
    obtain ⟨ev, eo, so, co, ⟨hev, hco⟩, R⟩ := RULES CC; rw [← hev]
    rw [← hco] at hc
    simp only [fpart, part', Tryd.f37, Option.getD]
    simp (maxSteps := 5000000) only [SA, SB, SD, R, guardAt, binP, intP, indexAddrP, elemsOf, readCells, lenP, lenAt, resultsP, resultP, oneOr, reduceCtorEq, reduceIte, Nat.reduceEqDiff, Nat.reduceAdd, Nat.zero_add, Nat.reduceMul, Nat.reduceLT, Nat.reduceLeDiff, Int.reduceLT, Int.reduceNeg, Int.reduceLE, appendP, appendAt, letGo, setLoc, locVal, Int.reduceToNat, boxCells, und, TG, SE, SC, unP, htu, loadR, loadP, lay, List.take_succ_cons, List.take_zero, List.drop_nil, List.filter_nil, List.cons_append, Int.reduceBEq, Int.reduceBNe, Int.reduceGT, Int.reduceGE, Bool.not_true, Bool.not_false, hc, c0p]
    exact ⟨_, rfl⟩
theorem op_R20_Print (v : Vl) (hn : inI v.2.1) (bx) : callOp CC (callL CC) 37 [vlV v] bx = some (.ret (.str (prV v)), bx) := by
  obtain ⟨b, h⟩ := call_R20_Print v hn
  exact callOp_of rfl rfl h rfl
theorem ok_R20_guess : fnOK CC Tryd.f57 (Tryd.f57.body.getD .skip) = true := by kernel_rfl
theorem fat_R20_guess : CC.P.funcs[57]? = some Tryd.f57 := by kernel_rfl
theorem ok_R20_Parse : fnOK CC Tryd.f35 (Tryd.f35.body.getD .skip) = true := by kernel_rfl
theorem fat_R20_Parse : CC.P.funcs[35]? = some Tryd.f35 := by kernel_rfl
theorem ok_value_Parse : fnOK CC Tryd.f34 (Tryd.f34.body.getD .skip) = true := by kernel_rfl
theorem fat_value_Parse : CC.P.funcs[34]? = some Tryd.f34 := by kernel_rfl
theorem ok_L20_ValueTexts : fnOK CC Tryd.f7 (Tryd.f7.body.getD .skip) = true := by kernel_rfl
theorem fat_L20_ValueTexts : CC.P.funcs[7]? = some Tryd.f7 := by kernel_rfl
theorem parse_ok {s : List UInt8} (h : (parseI s).2 = true) : Lib.itoa (parseI s).1 = s ∧ satI (parseI s).1 = (parseI s).1 := by
  unfold parseI at h ⊢
  split
  · rename_i h1; rw [if_pos h1] at h; cases h
  · rename_i h1
    rw [if_neg h1] at h
    cases ho : pl s 0 0 with
    | none => rw [ho] at h; cases h
    | some n =>
      rw [ho] at h
      simp only at h ⊢
      generalize (if s.head? = some 45 then -n else n) = m at *
      by_cases hc : satI m = m ∧ Lib.itoa m = s
      · rw [if_pos hc]; exact ⟨hc.2, hc.1⟩
      · rw [if_neg hc] at h; cases h
theorem parse_no {s : List UInt8} (h : (parseI s).2 = false) : (parseI s).1 = 0 := by
  unfold parseI at h ⊢
  split
  · rfl
  · rename_i h1
    rw [if_neg h1] at h
    cases ho : pl s 0 0 with
    | none => rfl
    | some n =>
      rw [ho] at h
      simp only at h ⊢
      generalize (if s.head? = some 45 then -n else n) = m at *
      by_cases hc : satI m = m ∧ Lib.itoa m = s
      · rw [if_pos hc] at h; cases h
      · rw [if_neg hc]
theorem parse_in (s : List UInt8) : inI (parseI s).1 := by
  cases h : (parseI s).2 with
  | false => rw [parse_no h]; unfold inI; omega
  | true =>
    have h1 := (parse_ok h).2
    have h2 := satI_le (parseI s).1
    unfold inI
    omega
theorem buildVl3 (k : Int) (s : List UInt8) : buildP CC 26 [(0, .int .i64 k), (2, .str s)] = some (.agg [.int .i64 k, .int .i64 0, .str s]) := by
  have h := (by kernel_rfl : CC.P.underlying 26 = some (.struct ((match Tryd.prog.underlying 26 with | some (.struct f) => f | _ => #[]))))
  have hz : tZero CC 26 = some (.agg [.int .i64 0, .int .i64 0, .str []]) := by kernel_rfl
  have hp : ((match Tryd.prog.underlying 26 with | some (.struct f) => f | _ => #[]) : Array Field).toList.mapM (fun f => (tSize CC f.type).map fun s => (f.offset, s)) = some [(0, 1), (1, 1), (2, 1)] := by kernel_rfl
  unfold buildP
  rw [h, hz]
  simp only [hp]
  rfl
/-- the only value that can have a text, by the specification and by the program -/
def gsV (s : List UInt8) : Vl := if s = sT then (1, 1, []) else if s = sF then (1, 0, []) else if s.head? = some 35 then (3, (parseI (s.drop 1)).1, []) else if s.head? = some 34 then (4, 0, (unq s).1) else if (parseI s).2 = true then (2, (parseI s).1, []) else (0, 0, [])
def gpV (s : List UInt8) : Vl := if s = sN then (0, 0, []) else if s = sT then (1, 1, []) else if s = sF then (1, 0, []) else if s.head? = some 35 then (3, (parseI (s.drop 1)).1, []) else if s.head? = some 34 then (4, 0, (unq s).1) else (2, (parseI s).1, [])
/-- what 'Parse' says of a text -/
def psV (s : List UInt8) : Vl × Int := if s = [] ∨ prV (gsV s) ≠ s then ((0, 0, []), 4) else (gsV s, 0)
theorem gs_in (s : List UInt8) : inI (gsV s).2.1 := by
  unfold gsV
  have h1 := parse_in s
  have h2 := parse_in (s.drop 1)
  split
  · unfold inI; simp only; omega
  · split
    · unfold inI; simp only; omega
    · split
      · exact h2
      · split
        · unfold inI; simp only; omega
        · split
          · exact h1
          · unfold inI; simp only; omega
theorem gp_in (s : List UInt8) : inI (gpV s).2.1 := by
  unfold gpV
  have h1 := parse_in s
  have h2 := parse_in (s.drop 1)
  split
  · unfold inI; simp only; omega
  · split
    · unfold inI; simp only; omega
    · split
      · unfold inI; simp only; omega
      · split
        · exact h2
        · split
          · unfold inI; simp only; omega
          · exact h1
theorem parse_sN : (parseI sN).2 = false := by rfl
theorem itoa_zero : Lib.itoa 0 = [48] := by rw [itoa_digit (by decide) (by decide)]; rfl
theorem parse_s0 : (parseI [48]).2 = true := by
  have h : pl [48] 0 0 = some 0 := by rfl
  unfold parseI
  rw [if_neg (by decide), h]
  simp only
  have hm : (if ([48] : List UInt8).head? = some 45 then -(0 : Int) else 0) = 0 := by decide
  rw [hm, if_pos ⟨by decide, itoa_zero⟩]
theorem pr_zero : prV (0, 0, []) = sN := rfl
theorem pr_two0 : prV (2, 0, []) = [48] := by
  unfold prV
  rw [if_neg (by decide), if_neg (by decide), if_neg (by decide), if_pos rfl]
  exact itoa_zero
/-- both guesses lead to the same -/
theorem ps_eq (s : List UInt8) : psV s = if s = [] ∨ prV (gpV s) ≠ s then ((0, 0, []), 4) else (gpV s, 0) := by
  have key : gpV s = gsV s ∨ (prV (gpV s) ≠ s ∧ prV (gsV s) ≠ s) := by
    by_cases hN : s = sN
    · left; subst hN; rfl
    · unfold gpV gsV
      rw [if_neg hN]
      by_cases h1 : s = sT
      · left; rw [if_pos h1, if_pos h1]
      · rw [if_neg h1, if_neg h1]
        by_cases h2 : s = sF
        · left; rw [if_pos h2, if_pos h2]
        · rw [if_neg h2, if_neg h2]
          by_cases h3 : s.head? = some 35
          · left; rw [if_pos h3, if_pos h3]
          · rw [if_neg h3, if_neg h3]
            by_cases h4 : s.head? = some 34
            · left; rw [if_pos h4, if_pos h4]
            · rw [if_neg h4, if_neg h4]
              cases h5 : (parseI s).2 with
              | true => left; rw [if_pos rfl]
              | false =>
                right
                rw [if_neg (by simp), parse_no h5, pr_two0, pr_zero]
                refine ⟨fun e => ?_, fun e => hN e.symm⟩
                rw [← e, parse_s0] at h5
                cases h5
  unfold psV
  rcases key with h | ⟨h1, h2⟩
  · rw [h]
  · rw [if_pos (.inr h2), if_pos (.inr h1)]
theorem head_at {s : List UInt8} {c : UInt8} (h : s[0]? = some c) (n : Nat) (hn : n < 256) : s.head? = some (UInt8.ofNat n) ↔ c.toNat = n := by
  cases s with
  | nil => simp at h
  | cons x r =>
    have : x = c := by simpa using h
    subst this
    show some x = some (UInt8.ofNat n) ↔ _
    rw [Option.some_inj]
    constructor
    · rintro rfl
      rw [UInt8.toNat_ofNat', Nat.mod_eq_of_lt (by omega)]
    · intro e
      rw [← UInt8.toNat_inj, UInt8.toNat_ofNat', Nat.mod_eq_of_lt (by omega)]
      exact e

theorem call_R20_guess (s : List UInt8) (hs : s.length ≤ 40000) : ∃ bx, callL CC 57 [.str s] [] = some (.ret (vlV (gsV s)), bx) := by
  rw [callL_enter (fn := Tryd.f57) (c := Tryd.f57.body.getD .skip) rfl rfl fat_R20_guess rfl ok_R20_guess (Nat.le_of_ble_eq_true rfl)]
  obtain ⟨tu, htu⟩ := VLs
  have fT : strP .eql s [116, 114, 117, 101] = some (.bool (s == sT)) := strP_eql s sT
  have fF : strP .eql s [102, 97, 108, 115, 101] = some (.bool (s == sF)) := strP_eql s sF
  have fE : strP .neq s [] = some (.bool (!(s == []))) := strP_neq s []
  have p1 := op_R01_Parse s (by unfold maxLen; omega)
  have p2 := op_R01_Parse (s.drop 1) (by rw [List.length_drop]; unfold maxLen; omega)
  have u1 := op_R04_Unquote s hs
  have b1 := buildVl1 1
  have b2 := buildVl2 2 (parseI s).1
  have b3 := buildVl2 3 (parseI (s.drop 1)).1
  have b4 := buildVl3 4 (unq s).1
  have b0 := buildVl0
  unfold gsV
  by_cases h1 : s = sT
  · rw [if_pos h1]
    rw [show (s == sT) = true by simpa using h1] at fT
    unfold vlV
    simp only
    obtain ⟨ev, eo, so, co, ⟨hev, hco⟩, R⟩ := RULES CC; rw [← hev]
    simp only [fpart, part', Tryd.f57, Option.getD]
    simp (maxSteps := 5000000) only [SA, SB, SD, R, guardAt, binP, intP, indexAddrP, elemsOf, readCells, lenP, lenAt, resultsP, resultP, oneOr, reduceCtorEq, reduceIte, Nat.reduceEqDiff, Nat.reduceAdd, Nat.zero_add, Nat.reduceMul, Nat.reduceLT, Nat.reduceLeDiff, Int.reduceLT, Int.reduceNeg, Int.reduceLE, appendP, appendAt, letGo, setLoc, locVal, Int.reduceToNat, boxCells, und, TG, SE, SC, unP, htu, VLf, eqgV, eqVP, extP, loadR, loadP, storeR, storeK, storeCellsP, laid, lay, setBox, List.set_cons_zero, List.set_cons_succ, List.getElem?_cons_zero, List.getElem?_cons_succ, Option.map_some, Nat.le_refl, List.take_succ_cons, List.take_zero, List.drop_nil, List.filter_nil, List.cons_append, Int.reduceBEq, Int.reduceBNe, Int.reduceGT, Int.reduceGE, Bool.not_true, Bool.not_false, fT, b1]
    exact ⟨_, rfl⟩
  rw [if_neg h1]
  rw [show (s == sT) = false by simpa using h1] at fT
  by_cases h2 : s = sF
  · rw [if_pos h2]
    rw [show (s == sF) = true by simpa using h2] at fF
    unfold vlV
    simp only
    obtain ⟨ev, eo, so, co, ⟨hev, hco⟩, R⟩ := RULES CC; rw [← hev]
    simp only [fpart, part', Tryd.f57, Option.getD]
    simp (maxSteps := 5000000) only [SA, SB, SD, R, guardAt, binP, intP, indexAddrP, elemsOf, readCells, lenP, lenAt, resultsP, resultP, oneOr, reduceCtorEq, reduceIte, Nat.reduceEqDiff, Nat.reduceAdd, Nat.zero_add, Nat.reduceMul, Nat.reduceLT, Nat.reduceLeDiff, Int.reduceLT, Int.reduceNeg, Int.reduceLE, appendP, appendAt, letGo, setLoc, locVal, Int.reduceToNat, boxCells, und, TG, SE, SC, unP, htu, VLf, eqgV, eqVP, extP, loadR, loadP, storeR, storeK, storeCellsP, laid, lay, setBox, List.set_cons_zero, List.set_cons_succ, List.getElem?_cons_zero, List.getElem?_cons_succ, Option.map_some, Nat.le_refl, List.take_succ_cons, List.take_zero, List.drop_nil, List.filter_nil, List.cons_append, Int.reduceBEq, Int.reduceBNe, Int.reduceGT, Int.reduceGE, Bool.not_true, Bool.not_false, fT, fF, b1]
    exact ⟨_, rfl⟩
  rw [if_neg h2]
  rw [show (s == sF) = false by simpa using h2] at fF
  by_cases h0 : s = []
  · rw [show (s == []) = true by simpa using h0] at fE
    rw [if_neg (by rw [h0]; simp), if_neg (by rw [h0]; simp)]
    have hp : (parseI s).2 = false := by rw [h0]; rfl
    rw [if_neg (by rw [hp]; simp)]
    rw [hp] at p1
    generalize (parseI s).1 = m at *
    unfold vlV
    simp only
    obtain ⟨ev, eo, so, co, ⟨hev, hco⟩, R⟩ := RULES CC; rw [← hev]
    rw [← hco] at p1
    simp only [fpart, part', Tryd.f57, Option.getD]
    simp (maxSteps := 5000000) only [SA, SB, SD, R, guardAt, binP, intP, indexAddrP, elemsOf, readCells, lenP, lenAt, resultsP, resultP, oneOr, reduceCtorEq, reduceIte, Nat.reduceEqDiff, Nat.reduceAdd, Nat.zero_add, Nat.reduceMul, Nat.reduceLT, Nat.reduceLeDiff, Int.reduceLT, Int.reduceNeg, Int.reduceLE, appendP, appendAt, letGo, setLoc, locVal, Int.reduceToNat, boxCells, und, TG, SE, SC, unP, htu, VLf, eqgV, eqVP, extP, loadR, loadP, storeR, storeK, storeCellsP, laid, lay, setBox, List.set_cons_zero, List.set_cons_succ, List.getElem?_cons_zero, List.getElem?_cons_succ, Option.map_some, Nat.le_refl, List.take_succ_cons, List.take_zero, List.drop_nil, List.filter_nil, List.cons_append, Int.reduceBEq, Int.reduceBNe, Int.reduceGT, Int.reduceGE, Bool.not_true, Bool.not_false, fT, fF, fE, p1, b0]
    exact ⟨_, rfl⟩
  rw [show (s == []) = false by simpa using h0] at fE
  obtain ⟨c, hc⟩ : ∃ c, s[0]? = some c := by
    cases s with
    | nil => exact absurd rfl h0
    | cons c r => exact ⟨c, rfl⟩
  have hix := ix_str0 s c hc
  have e35 : s.head? = some 35 ↔ c.toNat = 35 := head_at hc 35 (by decide)
  have e34 : s.head? = some 34 ↔ c.toNat = 34 := head_at hc 34 (by decide)
  have hsl := sl_str_lo s 1 (by decide) (by have : 0 < s.length := List.length_pos_iff.2 h0; omega)
  rw [show (1 : Int).toNat = 1 from rfl] at hsl
  by_cases h3 : c.toNat = 35
  · have h3p : ((c.toNat : Int) == 35) = true := by rw [h3]; rfl
    rw [if_pos (e35.2 h3)]
    generalize parseI (s.drop 1) = m at *
    obtain ⟨m, ok⟩ := m
    generalize s.drop 1 = r at *
    unfold vlV
    simp only at *
    obtain ⟨ev, eo, so, co, ⟨hev, hco⟩, R⟩ := RULES CC; rw [← hev]
    rw [← hco] at p2
    simp only [fpart, part', Tryd.f57, Option.getD]
    simp (maxSteps := 5000000) only [SA, SB, SD, R, guardAt, binP, intP, indexAddrP, elemsOf, readCells, lenP, lenAt, resultsP, resultP, oneOr, reduceCtorEq, reduceIte, Nat.reduceEqDiff, Nat.reduceAdd, Nat.zero_add, Nat.reduceMul, Nat.reduceLT, Nat.reduceLeDiff, Int.reduceLT, Int.reduceNeg, Int.reduceLE, appendP, appendAt, letGo, setLoc, locVal, Int.reduceToNat, boxCells, und, TG, SE, SC, unP, htu, VLf, eqgV, eqVP, extP, loadR, loadP, storeR, storeK, storeCellsP, laid, lay, setBox, List.set_cons_zero, List.set_cons_succ, List.getElem?_cons_zero, List.getElem?_cons_succ, Option.map_some, Nat.le_refl, List.take_succ_cons, List.take_zero, List.drop_nil, List.filter_nil, List.cons_append, Int.reduceBEq, Int.reduceBNe, Int.reduceGT, Int.reduceGE, Bool.not_true, Bool.not_false, fT, fF, fE, hix, h3p, hsl, p2, b3]
    exact ⟨_, rfl⟩
  have h3p : ((c.toNat : Int) == 35) = false := by rw [beq_eq_false_iff_ne]; omega
  rw [if_neg (fun h => h3 (e35.1 h))]
  by_cases h4 : c.toNat = 34
  · have h4p : ((c.toNat : Int) == 34) = true := by rw [h4]; rfl
    rw [if_pos (e34.2 h4)]
    generalize unq s = m at *
    obtain ⟨m, er⟩ := m
    unfold vlV
    simp only at *
    obtain ⟨ev, eo, so, co, ⟨hev, hco⟩, R⟩ := RULES CC; rw [← hev]
    rw [← hco] at u1
    simp only [fpart, part', Tryd.f57, Option.getD]
    simp (maxSteps := 5000000) only [SA, SB, SD, R, guardAt, binP, intP, indexAddrP, elemsOf, readCells, lenP, lenAt, resultsP, resultP, oneOr, reduceCtorEq, reduceIte, Nat.reduceEqDiff, Nat.reduceAdd, Nat.zero_add, Nat.reduceMul, Nat.reduceLT, Nat.reduceLeDiff, Int.reduceLT, Int.reduceNeg, Int.reduceLE, appendP, appendAt, letGo, setLoc, locVal, Int.reduceToNat, boxCells, und, TG, SE, SC, unP, htu, VLf, eqgV, eqVP, extP, loadR, loadP, storeR, storeK, storeCellsP, laid, lay, setBox, List.set_cons_zero, List.set_cons_succ, List.getElem?_cons_zero, List.getElem?_cons_succ, Option.map_some, Nat.le_refl, List.take_succ_cons, List.take_zero, List.drop_nil, List.filter_nil, List.cons_append, Int.reduceBEq, Int.reduceBNe, Int.reduceGT, Int.reduceGE, Bool.not_true, Bool.not_false, fT, fF, fE, hix, h3p, h4p, u1, b4]
    exact ⟨_, rfl⟩
  have h4p : ((c.toNat : Int) == 34) = false := by rw [beq_eq_false_iff_ne]; omega
  rw [if_neg (fun h => h4 (e34.1 h))]
  generalize parseI s = m at *
  obtain ⟨m, ok⟩ := m
  simp only at *
  cases ok with
  | true =>
    rw [if_pos rfl]
    unfold vlV
    simp only
    obtain ⟨ev, eo, so, co, ⟨hev, hco⟩, R⟩ := RULES CC; rw [← hev]
    rw [← hco] at p1
    simp only [fpart, part', Tryd.f57, Option.getD]
    simp (maxSteps := 5000000) only [SA, SB, SD, R, guardAt, binP, intP, indexAddrP, elemsOf, readCells, lenP, lenAt, resultsP, resultP, oneOr, reduceCtorEq, reduceIte, Nat.reduceEqDiff, Nat.reduceAdd, Nat.zero_add, Nat.reduceMul, Nat.reduceLT, Nat.reduceLeDiff, Int.reduceLT, Int.reduceNeg, Int.reduceLE, appendP, appendAt, letGo, setLoc, locVal, Int.reduceToNat, boxCells, und, TG, SE, SC, unP, htu, VLf, eqgV, eqVP, extP, loadR, loadP, storeR, storeK, storeCellsP, laid, lay, setBox, List.set_cons_zero, List.set_cons_succ, List.getElem?_cons_zero, List.getElem?_cons_succ, Option.map_some, Nat.le_refl, List.take_succ_cons, List.take_zero, List.drop_nil, List.filter_nil, List.cons_append, Int.reduceBEq, Int.reduceBNe, Int.reduceGT, Int.reduceGE, Bool.not_true, Bool.not_false, fT, fF, fE, hix, h3p, h4p, p1, b2]
    exact ⟨_, rfl⟩
  | false =>
    rw [if_neg (by simp)]
    unfold vlV
    simp only
    obtain ⟨ev, eo, so, co, ⟨hev, hco⟩, R⟩ := RULES CC; rw [← hev]
    rw [← hco] at p1
    simp only [fpart, part', Tryd.f57, Option.getD]
    simp (maxSteps := 5000000) only [SA, SB, SD, R, guardAt, binP, intP, indexAddrP, elemsOf, readCells, lenP, lenAt, resultsP, resultP, oneOr, reduceCtorEq, reduceIte, Nat.reduceEqDiff, Nat.reduceAdd, Nat.zero_add, Nat.reduceMul, Nat.reduceLT, Nat.reduceLeDiff, Int.reduceLT, Int.reduceNeg, Int.reduceLE, appendP, appendAt, letGo, setLoc, locVal, Int.reduceToNat, boxCells, und, TG, SE, SC, unP, htu, VLf, eqgV, eqVP, extP, loadR, loadP, storeR, storeK, storeCellsP, laid, lay, setBox, List.set_cons_zero, List.set_cons_succ, List.getElem?_cons_zero, List.getElem?_cons_succ, Option.map_some, Nat.le_refl, List.take_succ_cons, List.take_zero, List.drop_nil, List.filter_nil, List.cons_append, Int.reduceBEq, Int.reduceBNe, Int.reduceGT, Int.reduceGE, Bool.not_true, Bool.not_false, fT, fF, fE, hix, h3p, h4p, p1, b0]
    exact ⟨_, rfl⟩
theorem op_R20_guess (s : List UInt8) (hs : s.length ≤ 40000) (bx) : callOp CC (callL CC) 57 [.str s] bx = some (.ret (vlV (gsV s)), bx) := by
  obtain ⟨b, h⟩ := call_R20_guess s hs
  exact callOp_of rfl (by simp only [SA, Bool.and_true]) h rfl
theorem call_R20_Parse (s : List UInt8) (hs : s.length ≤ 40000) : ∃ bx, callL CC 35 [.str s] [] = some (.ret (.tup [vlV (psV s).1, .int .i64 (psV s).2]), bx) := by
  rw [callL_enter (fn := Tryd.f35) (c := Tryd.f35.body.getD .skip) rfl rfl fat_R20_Parse rfl ok_R20_Parse (Nat.le_of_ble_eq_true rfl)]
  obtain ⟨tu, htu⟩ := VLs
  have hg := op_R20_guess s hs
  have hp := op_R20_Print (gsV s) (gs_in s)
  have fE : strP .eql s [] = some (.bool (s == [])) := strP_eql s []
  have fP := strP_neq (prV (gsV s)) s
  have b0 := buildVl0
  unfold psV
  generalize prV (gsV s) = t at *
  generalize gsV s = v at *
  obtain ⟨k, n, x⟩ := v
  unfold vlV at *
  simp only at *
  by_cases h0 : s = []
  · rw [if_pos (.inl h0)]
    rw [show (s == []) = true by simpa using h0] at fE
    obtain ⟨ev, eo, so, co, ⟨hev, hco⟩, R⟩ := RULES CC; rw [← hev]
    rw [← hco] at hg hp
    simp only [fpart, part', Tryd.f35, Option.getD]
    simp (maxSteps := 5000000) only [SA, SB, SD, R, guardAt, binP, intP, indexAddrP, elemsOf, readCells, lenP, lenAt, resultsP, resultP, oneOr, reduceCtorEq, reduceIte, Nat.reduceEqDiff, Nat.reduceAdd, Nat.zero_add, Nat.reduceMul, Nat.reduceLT, Nat.reduceLeDiff, Int.reduceLT, Int.reduceNeg, Int.reduceLE, appendP, appendAt, letGo, setLoc, locVal, Int.reduceToNat, boxCells, und, TG, SE, SC, unP, htu, VLf, eqgV, eqVP, extP, loadR, loadP, storeR, storeK, storeCellsP, laid, lay, setBox, List.set_cons_zero, List.set_cons_succ, List.getElem?_cons_zero, List.getElem?_cons_succ, Option.map_some, Nat.le_refl, List.take_succ_cons, List.take_zero, List.drop_nil, List.filter_nil, List.cons_append, Int.reduceBEq, Int.reduceBNe, Int.reduceGT, Int.reduceGE, Bool.not_true, Bool.not_false, hg, hp, fE, b0]
    exact ⟨_, rfl⟩
  · rw [show (s == []) = false by simpa using h0] at fE
    by_cases h1 : t = s
    · rw [if_neg (by rintro (h | h); exact h0 h; exact h h1)]
      rw [show (!(t == s)) = false by simpa using h1] at fP
      obtain ⟨ev, eo, so, co, ⟨hev, hco⟩, R⟩ := RULES CC; rw [← hev]
      rw [← hco] at hg hp
      simp only [fpart, part', Tryd.f35, Option.getD]
      simp (maxSteps := 5000000) only [SA, SB, SD, R, guardAt, binP, intP, indexAddrP, elemsOf, readCells, lenP, lenAt, resultsP, resultP, oneOr, reduceCtorEq, reduceIte, Nat.reduceEqDiff, Nat.reduceAdd, Nat.zero_add, Nat.reduceMul, Nat.reduceLT, Nat.reduceLeDiff, Int.reduceLT, Int.reduceNeg, Int.reduceLE, appendP, appendAt, letGo, setLoc, locVal, Int.reduceToNat, boxCells, und, TG, SE, SC, unP, htu, VLf, eqgV, eqVP, extP, loadR, loadP, storeR, storeK, storeCellsP, laid, lay, setBox, List.set_cons_zero, List.set_cons_succ, List.getElem?_cons_zero, List.getElem?_cons_succ, Option.map_some, Nat.le_refl, List.take_succ_cons, List.take_zero, List.drop_nil, List.filter_nil, List.cons_append, Int.reduceBEq, Int.reduceBNe, Int.reduceGT, Int.reduceGE, Bool.not_true, Bool.not_false, hg, hp, fE, fP, b0]
      exact ⟨_, rfl⟩
    · rw [if_pos (.inr h1)]
      rw [show (!(t == s)) = true by simpa using h1] at fP
      obtain ⟨ev, eo, so, co, ⟨hev, hco⟩, R⟩ := RULES CC; rw [← hev]
      rw [← hco] at hg hp
      simp only [fpart, part', Tryd.f35, Option.getD]
      simp (maxSteps := 5000000) only [SA, SB, SD, R, guardAt, binP, intP, indexAddrP, elemsOf, readCells, lenP, lenAt, resultsP, resultP, oneOr, reduceCtorEq, reduceIte, Nat.reduceEqDiff, Nat.reduceAdd, Nat.zero_add, Nat.reduceMul, Nat.reduceLT, Nat.reduceLeDiff, Int.reduceLT, Int.reduceNeg, Int.reduceLE, appendP, appendAt, letGo, setLoc, locVal, Int.reduceToNat, boxCells, und, TG, SE, SC, unP, htu, VLf, eqgV, eqVP, extP, loadR, loadP, storeR, storeK, storeCellsP, laid, lay, setBox, List.set_cons_zero, List.set_cons_succ, List.getElem?_cons_zero, List.getElem?_cons_succ, Option.map_some, Nat.le_refl, List.take_succ_cons, List.take_zero, List.drop_nil, List.filter_nil, List.cons_append, Int.reduceBEq, Int.reduceBNe, Int.reduceGT, Int.reduceGE, Bool.not_true, Bool.not_false, hg, hp, fE, fP, b0]
      exact ⟨_, rfl⟩
theorem op_R20_Parse (s : List UInt8) (hs : s.length ≤ 40000) (bx) : callOp CC (callL CC) 35 [.str s] bx = some (.ret (.tup [vlV (psV s).1, .int .i64 (psV s).2]), bx) := by
  obtain ⟨b, h⟩ := call_R20_Parse s hs
  exact callOp_of rfl (by simp only [SA, Bool.and_true]) h rfl
theorem call_value_Parse (s : List UInt8) (hs : s.length ≤ 40000) : ∃ bx, callL CC 34 [.str s] [] = some (.ret (.tup [vlV (psV s).1, .int .i64 (psV s).2]), bx) := by
  rw [callL_enter (fn := Tryd.f34) (c := Tryd.f34.body.getD .skip) rfl rfl fat_value_Parse rfl ok_value_Parse (Nat.le_of_ble_eq_true rfl)]
  obtain ⟨tu, htu⟩ := VLs
  have hp := op_value_Print (gpV s) (gp_in s)
  have fN : strP .eql s [110, 111, 110, 101] = some (.bool (s == sN)) := strP_eql s sN
  have fT : strP .eql s [116, 114, 117, 101] = some (.bool (s == sT)) := strP_eql s sT
  have fF : strP .eql s [102, 97, 108, 115, 101] = some (.bool (s == sF)) := strP_eql s sF
  have fE : strP .neq s [] = some (.bool (!(s == []))) := strP_neq s []
  have fQ : strP .eql s [] = some (.bool (s == [])) := strP_eql s []
  have fP := strP_neq (prV (gpV s)) s
  have p1 := op_num_Parse s (by unfold maxLen; omega)
  have p2 := op_num_Parse (s.drop 1) (by rw [List.length_drop]; unfold maxLen; omega)
  have u1 := op_names_Unquote s (by omega)
  have b0 := buildVl0
  have hgp : gpV s = if s = sN then (0, 0, []) else if s = sT then (1, 1, []) else if s = sF then (1, 0, []) else if s.head? = some 35 then (3, (parseI (s.drop 1)).1, []) else if s.head? = some 34 then (4, 0, (unq s).1) else (2, (parseI s).1, []) := rfl
  rw [ps_eq]
  generalize prV (gpV s) = t at *
  generalize gpV s = v at *
  by_cases h0 : s = []
  · rw [if_pos (.inl h0)]
    rw [show (s == []) = true by simpa using h0] at fE fQ
    rw [show (s == sN) = false by rw [h0]; rfl] at fN
    rw [show (s == sT) = false by rw [h0]; rfl] at fT
    rw [show (s == sF) = false by rw [h0]; rfl] at fF
    clear hgp
    generalize parseI s = m at *
    obtain ⟨m, ok⟩ := m
    unfold vlV at *
    simp only at *
    obtain ⟨ev, eo, so, co, ⟨hev, hco⟩, R⟩ := RULES CC; rw [← hev]
    rw [← hco] at p1
    simp only [fpart, part', Tryd.f34, Option.getD]
    simp (maxSteps := 5000000) only [SA, SB, SD, R, guardAt, binP, intP, indexAddrP, elemsOf, readCells, lenP, lenAt, resultsP, resultP, oneOr, reduceCtorEq, reduceIte, Nat.reduceEqDiff, Nat.reduceAdd, Nat.zero_add, Nat.reduceMul, Nat.reduceLT, Nat.reduceLeDiff, Int.reduceLT, Int.reduceNeg, Int.reduceLE, appendP, appendAt, letGo, setLoc, locVal, Int.reduceToNat, boxCells, und, TG, SE, SC, unP, htu, VLf, eqgV, eqVP, extP, loadR, loadP, storeR, storeK, storeCellsP, laid, lay, setBox, List.set_cons_zero, List.set_cons_succ, List.getElem?_cons_zero, List.getElem?_cons_succ, Option.map_some, Nat.le_refl, List.take_succ_cons, List.take_zero, List.drop_nil, List.filter_nil, List.cons_append, Int.reduceBEq, Int.reduceBNe, Int.reduceGT, Int.reduceGE, Bool.not_true, Bool.not_false, fN, fT, fF, fE, fQ, p1, b0]
    exact ⟨_, rfl⟩
  rw [show (s == []) = false by simpa using h0] at fE fQ
  have fin : ∀ (P : Prop), (t = s → (!(t == s)) = false → P) → (t ≠ s → (!(t == s)) = true → P) → P := fun P a b => by
    by_cases h : t = s
    · exact a h (by simpa using h)
    · exact b h (by simpa using h)
  by_cases hN : s = sN
  · rw [if_pos hN] at hgp
    subst hgp
    rw [show (s == sN) = true by simpa using hN] at fN
    unfold vlV at *
    simp only at *
    refine fin _ ?_ ?_
    · intro h1 h2
      rw [h2] at fP
      rw [if_neg (by rintro (h | h); exact h0 h; exact h h1)]
      obtain ⟨ev, eo, so, co, ⟨hev, hco⟩, R⟩ := RULES CC; rw [← hev]
      rw [← hco] at hp
      simp only [fpart, part', Tryd.f34, Option.getD]
      simp (maxSteps := 5000000) only [SA, SB, SD, R, guardAt, binP, intP, indexAddrP, elemsOf, readCells, lenP, lenAt, resultsP, resultP, oneOr, reduceCtorEq, reduceIte, Nat.reduceEqDiff, Nat.reduceAdd, Nat.zero_add, Nat.reduceMul, Nat.reduceLT, Nat.reduceLeDiff, Int.reduceLT, Int.reduceNeg, Int.reduceLE, appendP, appendAt, letGo, setLoc, locVal, Int.reduceToNat, boxCells, und, TG, SE, SC, unP, htu, VLf, eqgV, eqVP, extP, loadR, loadP, storeR, storeK, storeCellsP, laid, lay, setBox, List.set_cons_zero, List.set_cons_succ, List.getElem?_cons_zero, List.getElem?_cons_succ, Option.map_some, Nat.le_refl, List.take_succ_cons, List.take_zero, List.drop_nil, List.filter_nil, List.cons_append, Int.reduceBEq, Int.reduceBNe, Int.reduceGT, Int.reduceGE, Bool.not_true, Bool.not_false, fN, fQ, hp, fP, b0]
      exact ⟨_, rfl⟩
    · intro h1 h2
      rw [h2] at fP
      rw [if_pos (.inr h1)]
      obtain ⟨ev, eo, so, co, ⟨hev, hco⟩, R⟩ := RULES CC; rw [← hev]
      rw [← hco] at hp
      simp only [fpart, part', Tryd.f34, Option.getD]
      simp (maxSteps := 5000000) only [SA, SB, SD, R, guardAt, binP, intP, indexAddrP, elemsOf, readCells, lenP, lenAt, resultsP, resultP, oneOr, reduceCtorEq, reduceIte, Nat.reduceEqDiff, Nat.reduceAdd, Nat.zero_add, Nat.reduceMul, Nat.reduceLT, Nat.reduceLeDiff, Int.reduceLT, Int.reduceNeg, Int.reduceLE, appendP, appendAt, letGo, setLoc, locVal, Int.reduceToNat, boxCells, und, TG, SE, SC, unP, htu, VLf, eqgV, eqVP, extP, loadR, loadP, storeR, storeK, storeCellsP, laid, lay, setBox, List.set_cons_zero, List.set_cons_succ, List.getElem?_cons_zero, List.getElem?_cons_succ, Option.map_some, Nat.le_refl, List.take_succ_cons, List.take_zero, List.drop_nil, List.filter_nil, List.cons_append, Int.reduceBEq, Int.reduceBNe, Int.reduceGT, Int.reduceGE, Bool.not_true, Bool.not_false, fN, fQ, hp, fP, b0]
      exact ⟨_, rfl⟩
  rw [if_neg hN] at hgp
  rw [show (s == sN) = false by simpa using hN] at fN
  by_cases hT : s = sT
  · rw [if_pos hT] at hgp
    subst hgp
    rw [show (s == sT) = true by simpa using hT] at fT
    unfold vlV at *
    simp only at *
    refine fin _ ?_ ?_
    · intro h1 h2
      rw [h2] at fP
      rw [if_neg (by rintro (h | h); exact h0 h; exact h h1)]
      obtain ⟨ev, eo, so, co, ⟨hev, hco⟩, R⟩ := RULES CC; rw [← hev]
      rw [← hco] at hp
      simp only [fpart, part', Tryd.f34, Option.getD]
      simp (maxSteps := 5000000) only [SA, SB, SD, R, guardAt, binP, intP, indexAddrP, elemsOf, readCells, lenP, lenAt, resultsP, resultP, oneOr, reduceCtorEq, reduceIte, Nat.reduceEqDiff, Nat.reduceAdd, Nat.zero_add, Nat.reduceMul, Nat.reduceLT, Nat.reduceLeDiff, Int.reduceLT, Int.reduceNeg, Int.reduceLE, appendP, appendAt, letGo, setLoc, locVal, Int.reduceToNat, boxCells, und, TG, SE, SC, unP, htu, VLf, eqgV, eqVP, extP, loadR, loadP, storeR, storeK, storeCellsP, laid, lay, setBox, List.set_cons_zero, List.set_cons_succ, List.getElem?_cons_zero, List.getElem?_cons_succ, Option.map_some, Nat.le_refl, List.take_succ_cons, List.take_zero, List.drop_nil, List.filter_nil, List.cons_append, Int.reduceBEq, Int.reduceBNe, Int.reduceGT, Int.reduceGE, Bool.not_true, Bool.not_false, fN, fT, fQ, hp, fP, b0]
      exact ⟨_, rfl⟩
    · intro h1 h2
      rw [h2] at fP
      rw [if_pos (.inr h1)]
      obtain ⟨ev, eo, so, co, ⟨hev, hco⟩, R⟩ := RULES CC; rw [← hev]
      rw [← hco] at hp
      simp only [fpart, part', Tryd.f34, Option.getD]
      simp (maxSteps := 5000000) only [SA, SB, SD, R, guardAt, binP, intP, indexAddrP, elemsOf, readCells, lenP, lenAt, resultsP, resultP, oneOr, reduceCtorEq, reduceIte, Nat.reduceEqDiff, Nat.reduceAdd, Nat.zero_add, Nat.reduceMul, Nat.reduceLT, Nat.reduceLeDiff, Int.reduceLT, Int.reduceNeg, Int.reduceLE, appendP, appendAt, letGo, setLoc, locVal, Int.reduceToNat, boxCells, und, TG, SE, SC, unP, htu, VLf, eqgV, eqVP, extP, loadR, loadP, storeR, storeK, storeCellsP, laid, lay, setBox, List.set_cons_zero, List.set_cons_succ, List.getElem?_cons_zero, List.getElem?_cons_succ, Option.map_some, Nat.le_refl, List.take_succ_cons, List.take_zero, List.drop_nil, List.filter_nil, List.cons_append, Int.reduceBEq, Int.reduceBNe, Int.reduceGT, Int.reduceGE, Bool.not_true, Bool.not_false, fN, fT, fQ, hp, fP, b0]
      exact ⟨_, rfl⟩
  rw [if_neg hT] at hgp
  rw [show (s == sT) = false by simpa using hT] at fT
  by_cases hF : s = sF
  · rw [if_pos hF] at hgp
    subst hgp
    rw [show (s == sF) = true by simpa using hF] at fF
    unfold vlV at *
    simp only at *
    refine fin _ ?_ ?_
    · intro h1 h2
      rw [h2] at fP
      rw [if_neg (by rintro (h | h); exact h0 h; exact h h1)]
      obtain ⟨ev, eo, so, co, ⟨hev, hco⟩, R⟩ := RULES CC; rw [← hev]
      rw [← hco] at hp
      simp only [fpart, part', Tryd.f34, Option.getD]
      simp (maxSteps := 5000000) only [SA, SB, SD, R, guardAt, binP, intP, indexAddrP, elemsOf, readCells, lenP, lenAt, resultsP, resultP, oneOr, reduceCtorEq, reduceIte, Nat.reduceEqDiff, Nat.reduceAdd, Nat.zero_add, Nat.reduceMul, Nat.reduceLT, Nat.reduceLeDiff, Int.reduceLT, Int.reduceNeg, Int.reduceLE, appendP, appendAt, letGo, setLoc, locVal, Int.reduceToNat, boxCells, und, TG, SE, SC, unP, htu, VLf, eqgV, eqVP, extP, loadR, loadP, storeR, storeK, storeCellsP, laid, lay, setBox, List.set_cons_zero, List.set_cons_succ, List.getElem?_cons_zero, List.getElem?_cons_succ, Option.map_some, Nat.le_refl, List.take_succ_cons, List.take_zero, List.drop_nil, List.filter_nil, List.cons_append, Int.reduceBEq, Int.reduceBNe, Int.reduceGT, Int.reduceGE, Bool.not_true, Bool.not_false, fN, fT, fF, fQ, hp, fP, b0]
      exact ⟨_, rfl⟩
    · intro h1 h2
      rw [h2] at fP
      rw [if_pos (.inr h1)]
      obtain ⟨ev, eo, so, co, ⟨hev, hco⟩, R⟩ := RULES CC; rw [← hev]
      rw [← hco] at hp
      simp only [fpart, part', Tryd.f34, Option.getD]
      simp (maxSteps := 5000000) only [SA, SB, SD, R, guardAt, binP, intP, indexAddrP, elemsOf, readCells, lenP, lenAt, resultsP, resultP, oneOr, reduceCtorEq, reduceIte, Nat.reduceEqDiff, Nat.reduceAdd, Nat.zero_add, Nat.reduceMul, Nat.reduceLT, Nat.reduceLeDiff, Int.reduceLT, Int.reduceNeg, Int.reduceLE, appendP, appendAt, letGo, setLoc, locVal, Int.reduceToNat, boxCells, und, TG, SE, SC, unP, htu, VLf, eqgV, eqVP, extP, loadR, loadP, storeR, storeK, storeCellsP, laid, lay, setBox, List.set_cons_zero, List.set_cons_succ, List.getElem?_cons_zero, List.getElem?_cons_succ, Option.map_some, Nat.le_refl, List.take_succ_cons, List.take_zero, List.drop_nil, List.filter_nil, List.cons_append, Int.reduceBEq, Int.reduceBNe, Int.reduceGT, Int.reduceGE, Bool.not_true, Bool.not_false, fN, fT, fF, fQ, hp, fP, b0]
      exact ⟨_, rfl⟩
  rw [if_neg hF] at hgp
  rw [show (s == sF) = false by simpa using hF] at fF
  obtain ⟨c, hc⟩ : ∃ c, s[0]? = some c := by
    cases s with
    | nil => exact absurd rfl h0
    | cons c r => exact ⟨c, rfl⟩
  have hix := ix_str0 s c hc
  have e35 : s.head? = some 35 ↔ c.toNat = 35 := head_at hc 35 (by decide)
  have e34 : s.head? = some 34 ↔ c.toNat = 34 := head_at hc 34 (by decide)
  have hsl := sl_str_lo s 1 (by decide) (by have : 0 < s.length := List.length_pos_iff.2 h0; omega)
  rw [show (1 : Int).toNat = 1 from rfl] at hsl
  by_cases h3 : c.toNat = 35
  · have h3p : ((c.toNat : Int) == 35) = true := by rw [h3]; rfl
    rw [if_pos (e35.2 h3)] at hgp
    subst hgp
    generalize parseI (s.drop 1) = m at *
    obtain ⟨m, ok⟩ := m
    generalize s.drop 1 = r at *
    unfold vlV at *
    simp only at *
    refine fin _ ?_ ?_
    · intro h1 h2
      rw [h2] at fP
      rw [if_neg (by rintro (h | h); exact h0 h; exact h h1)]
      obtain ⟨ev, eo, so, co, ⟨hev, hco⟩, R⟩ := RULES CC; rw [← hev]
      rw [← hco] at hp p2
      simp only [fpart, part', Tryd.f34, Option.getD]
      simp (maxSteps := 5000000) only [SA, SB, SD, R, guardAt, binP, intP, indexAddrP, elemsOf, readCells, lenP, lenAt, resultsP, resultP, oneOr, reduceCtorEq, reduceIte, Nat.reduceEqDiff, Nat.reduceAdd, Nat.zero_add, Nat.reduceMul, Nat.reduceLT, Nat.reduceLeDiff, Int.reduceLT, Int.reduceNeg, Int.reduceLE, appendP, appendAt, letGo, setLoc, locVal, Int.reduceToNat, boxCells, und, TG, SE, SC, unP, htu, VLf, eqgV, eqVP, extP, loadR, loadP, storeR, storeK, storeCellsP, laid, lay, setBox, List.set_cons_zero, List.set_cons_succ, List.getElem?_cons_zero, List.getElem?_cons_succ, Option.map_some, Nat.le_refl, List.take_succ_cons, List.take_zero, List.drop_nil, List.filter_nil, List.cons_append, Int.reduceBEq, Int.reduceBNe, Int.reduceGT, Int.reduceGE, Bool.not_true, Bool.not_false, fN, fT, fF, fE, fQ, hix, h3p, hsl, p2, hp, fP, b0]
      exact ⟨_, rfl⟩
    · intro h1 h2
      rw [h2] at fP
      rw [if_pos (.inr h1)]
      obtain ⟨ev, eo, so, co, ⟨hev, hco⟩, R⟩ := RULES CC; rw [← hev]
      rw [← hco] at hp p2
      simp only [fpart, part', Tryd.f34, Option.getD]
      simp (maxSteps := 5000000) only [SA, SB, SD, R, guardAt, binP, intP, indexAddrP, elemsOf, readCells, lenP, lenAt, resultsP, resultP, oneOr, reduceCtorEq, reduceIte, Nat.reduceEqDiff, Nat.reduceAdd, Nat.zero_add, Nat.reduceMul, Nat.reduceLT, Nat.reduceLeDiff, Int.reduceLT, Int.reduceNeg, Int.reduceLE, appendP, appendAt, letGo, setLoc, locVal, Int.reduceToNat, boxCells, und, TG, SE, SC, unP, htu, VLf, eqgV, eqVP, extP, loadR, loadP, storeR, storeK, storeCellsP, laid, lay, setBox, List.set_cons_zero, List.set_cons_succ, List.getElem?_cons_zero, List.getElem?_cons_succ, Option.map_some, Nat.le_refl, List.take_succ_cons, List.take_zero, List.drop_nil, List.filter_nil, List.cons_append, Int.reduceBEq, Int.reduceBNe, Int.reduceGT, Int.reduceGE, Bool.not_true, Bool.not_false, fN, fT, fF, fE, fQ, hix, h3p, hsl, p2, hp, fP, b0]
      exact ⟨_, rfl⟩
  have h3p : ((c.toNat : Int) == 35) = false := by rw [beq_eq_false_iff_ne]; omega
  rw [if_neg (fun h => h3 (e35.1 h))] at hgp
  by_cases h4 : c.toNat = 34
  · have h4p : ((c.toNat : Int) == 34) = true := by rw [h4]; rfl
    rw [if_pos (e34.2 h4)] at hgp
    subst hgp
    generalize unq s = m at *
    obtain ⟨m, er⟩ := m
    unfold vlV at *
    simp only at *
    refine fin _ ?_ ?_
    · intro h1 h2
      rw [h2] at fP
      rw [if_neg (by rintro (h | h); exact h0 h; exact h h1)]
      obtain ⟨ev, eo, so, co, ⟨hev, hco⟩, R⟩ := RULES CC; rw [← hev]
      rw [← hco] at hp u1
      simp only [fpart, part', Tryd.f34, Option.getD]
      simp (maxSteps := 5000000) only [SA, SB, SD, R, guardAt, binP, intP, indexAddrP, elemsOf, readCells, lenP, lenAt, resultsP, resultP, oneOr, reduceCtorEq, reduceIte, Nat.reduceEqDiff, Nat.reduceAdd, Nat.zero_add, Nat.reduceMul, Nat.reduceLT, Nat.reduceLeDiff, Int.reduceLT, Int.reduceNeg, Int.reduceLE, appendP, appendAt, letGo, setLoc, locVal, Int.reduceToNat, boxCells, und, TG, SE, SC, unP, htu, VLf, eqgV, eqVP, extP, loadR, loadP, storeR, storeK, storeCellsP, laid, lay, setBox, List.set_cons_zero, List.set_cons_succ, List.getElem?_cons_zero, List.getElem?_cons_succ, Option.map_some, Nat.le_refl, List.take_succ_cons, List.take_zero, List.drop_nil, List.filter_nil, List.cons_append, Int.reduceBEq, Int.reduceBNe, Int.reduceGT, Int.reduceGE, Bool.not_true, Bool.not_false, fN, fT, fF, fE, fQ, hix, h3p, h4p, u1, hp, fP, b0]
      exact ⟨_, rfl⟩
    · intro h1 h2
      rw [h2] at fP
      rw [if_pos (.inr h1)]
      obtain ⟨ev, eo, so, co, ⟨hev, hco⟩, R⟩ := RULES CC; rw [← hev]
      rw [← hco] at hp u1
      simp only [fpart, part', Tryd.f34, Option.getD]
      simp (maxSteps := 5000000) only [SA, SB, SD, R, guardAt, binP, intP, indexAddrP, elemsOf, readCells, lenP, lenAt, resultsP, resultP, oneOr, reduceCtorEq, reduceIte, Nat.reduceEqDiff, Nat.reduceAdd, Nat.zero_add, Nat.reduceMul, Nat.reduceLT, Nat.reduceLeDiff, Int.reduceLT, Int.reduceNeg, Int.reduceLE, appendP, appendAt, letGo, setLoc, locVal, Int.reduceToNat, boxCells, und, TG, SE, SC, unP, htu, VLf, eqgV, eqVP, extP, loadR, loadP, storeR, storeK, storeCellsP, laid, lay, setBox, List.set_cons_zero, List.set_cons_succ, List.getElem?_cons_zero, List.getElem?_cons_succ, Option.map_some, Nat.le_refl, List.take_succ_cons, List.take_zero, List.drop_nil, List.filter_nil, List.cons_append, Int.reduceBEq, Int.reduceBNe, Int.reduceGT, Int.reduceGE, Bool.not_true, Bool.not_false, fN, fT, fF, fE, fQ, hix, h3p, h4p, u1, hp, fP, b0]
      exact ⟨_, rfl⟩
  have h4p : ((c.toNat : Int) == 34) = false := by rw [beq_eq_false_iff_ne]; omega
  rw [if_neg (fun h => h4 (e34.1 h))] at hgp
  subst hgp
  generalize parseI s = m at *
  obtain ⟨m, ok⟩ := m
  unfold vlV at *
  simp only at *
  refine fin _ ?_ ?_
  · intro h1 h2
    rw [h2] at fP
    rw [if_neg (by rintro (h | h); exact h0 h; exact h h1)]
    obtain ⟨ev, eo, so, co, ⟨hev, hco⟩, R⟩ := RULES CC; rw [← hev]
    rw [← hco] at hp p1
    simp only [fpart, part', Tryd.f34, Option.getD]
    simp (maxSteps := 5000000) only [SA, SB, SD, R, guardAt, binP, intP, indexAddrP, elemsOf, readCells, lenP, lenAt, resultsP, resultP, oneOr, reduceCtorEq, reduceIte, Nat.reduceEqDiff, Nat.reduceAdd, Nat.zero_add, Nat.reduceMul, Nat.reduceLT, Nat.reduceLeDiff, Int.reduceLT, Int.reduceNeg, Int.reduceLE, appendP, appendAt, letGo, setLoc, locVal, Int.reduceToNat, boxCells, und, TG, SE, SC, unP, htu, VLf, eqgV, eqVP, extP, loadR, loadP, storeR, storeK, storeCellsP, laid, lay, setBox, List.set_cons_zero, List.set_cons_succ, List.getElem?_cons_zero, List.getElem?_cons_succ, Option.map_some, Nat.le_refl, List.take_succ_cons, List.take_zero, List.drop_nil, List.filter_nil, List.cons_append, Int.reduceBEq, Int.reduceBNe, Int.reduceGT, Int.reduceGE, Bool.not_true, Bool.not_false, fN, fT, fF, fE, fQ, hix, h3p, h4p, p1, hp, fP, b0]
    exact ⟨_, rfl⟩
  · intro h1 h2
    rw [h2] at fP
    rw [if_pos (.inr h1)]
    obtain ⟨ev, eo, so, co, ⟨hev, hco⟩, R⟩ := RULES CC; rw [← hev]
    rw [← hco] at hp p1
    simp only [fpart, part', Tryd.f34, Option.getD]
    simp (maxSteps := 5000000) only [SA, SB, SD, R, guardAt, binP, intP, indexAddrP, elemsOf, readCells, lenP, lenAt, resultsP, resultP, oneOr, reduceCtorEq, reduceIte, Nat.reduceEqDiff, Nat.reduceAdd, Nat.zero_add, Nat.reduceMul, Nat.reduceLT, Nat.reduceLeDiff, Int.reduceLT, Int.reduceNeg, Int.reduceLE, appendP, appendAt, letGo, setLoc, locVal, Int.reduceToNat, boxCells, und, TG, SE, SC, unP, htu, VLf, eqgV, eqVP, extP, loadR, loadP, storeR, storeK, storeCellsP, laid, lay, setBox, List.set_cons_zero, List.set_cons_succ, List.getElem?_cons_zero, List.getElem?_cons_succ, Option.map_some, Nat.le_refl, List.take_succ_cons, List.take_zero, List.drop_nil, List.filter_nil, List.cons_append, Int.reduceBEq, Int.reduceBNe, Int.reduceGT, Int.reduceGE, Bool.not_true, Bool.not_false, fN, fT, fF, fE, fQ, hix, h3p, h4p, p1, hp, fP, b0]
    exact ⟨_, rfl⟩
theorem op_value_Parse (s : List UInt8) (hs : s.length ≤ 40000) (bx) : callOp CC (callL CC) 34 [.str s] bx = some (.ret (.tup [vlV (psV s).1, .int .i64 (psV s).2]), bx) := by
  obtain ⟨b, h⟩ := call_value_Parse s hs
  exact callOp_of rfl (by simp only [SA, Bool.and_true]) h rfl
theorem law_ValueTexts (v : Vl) (hv : okVl v) (s : List UInt8) (_ : s.length ≤ maxLen) : ∃ bx, callL CC 7 [vlV v, .str s] [] = some (.ret (.bool true), bx) := by
  rw [callL_enter (fn := Tryd.f7) (c := Tryd.f7.body.getD .skip) rfl rfl fat_L20_ValueTexts rfl ok_L20_ValueTexts (Nat.le_of_ble_eq_true rfl)]
  obtain ⟨tu, htu⟩ := VLs
  have haw := op_awake
  have hn : inI v.2.1 := hv.2.1
  have q1 := op_value_Print v hn
  have q2 := op_R20_Print v hn
  have hl1 := len_str v.2.2
  have hl2 := len_str s
  have hP := fun h => op_value_Parse s h
  have hQ := fun h => op_R20_Parse s h
  have fP : strP .eql (prV v) (prV v) = some (.bool true) := by rw [strP_eql]; simp
  generalize prV v = t at *
  generalize psV s = r at *
  obtain ⟨⟨rk, rn, rs⟩, re⟩ := r
  have e1 : ((rk == rk) && (rn == rn) && (rs == rs)) = true := by simp
  have e2 : (re == re) = true := by simp
  obtain ⟨k, n, x⟩ := v
  unfold vlV at *
  simp only at *
  by_cases c1 : (x.length : Int) > 300
  · clear hP hQ
    obtain ⟨ev, eo, so, co, ⟨hev, hco⟩, R⟩ := RULES CC; rw [← hev]
    rw [← hco] at haw
    simp only [fpart, part', Tryd.f7, Option.getD]
    simp (maxSteps := 5000000) only [SA, SB, SD, R, guardAt, binP, intP, indexAddrP, elemsOf, readCells, lenP, lenAt, resultsP, resultP, oneOr, reduceCtorEq, reduceIte, Nat.reduceEqDiff, Nat.reduceAdd, Nat.zero_add, Nat.reduceMul, Nat.reduceLT, Nat.reduceLeDiff, Int.reduceLT, Int.reduceNeg, Int.reduceLE, appendP, appendAt, letGo, setLoc, locVal, Int.reduceToNat, boxCells, und, TG, SE, SC, unP, htu, VLf, eqgV, eqVP, extP, loadR, loadP, storeR, storeK, storeCellsP, laid, lay, setBox, List.set_cons_zero, List.set_cons_succ, List.getElem?_cons_zero, List.getElem?_cons_succ, Option.map_some, Nat.le_refl, List.take_succ_cons, List.take_zero, List.drop_nil, List.filter_nil, List.cons_append, Int.reduceBEq, Int.reduceBNe, Int.reduceGT, Int.reduceGE, Bool.not_true, Bool.not_false, hl1, hl2, c1, haw]
    exact ⟨_, rfl⟩
  · by_cases c2 : (s.length : Int) > 300
    · clear hP hQ
      obtain ⟨ev, eo, so, co, ⟨hev, hco⟩, R⟩ := RULES CC; rw [← hev]
      rw [← hco] at haw
      simp only [fpart, part', Tryd.f7, Option.getD]
      simp (maxSteps := 5000000) only [SA, SB, SD, R, guardAt, binP, intP, indexAddrP, elemsOf, readCells, lenP, lenAt, resultsP, resultP, oneOr, reduceCtorEq, reduceIte, Nat.reduceEqDiff, Nat.reduceAdd, Nat.zero_add, Nat.reduceMul, Nat.reduceLT, Nat.reduceLeDiff, Int.reduceLT, Int.reduceNeg, Int.reduceLE, appendP, appendAt, letGo, setLoc, locVal, Int.reduceToNat, boxCells, und, TG, SE, SC, unP, htu, VLf, eqgV, eqVP, extP, loadR, loadP, storeR, storeK, storeCellsP, laid, lay, setBox, List.set_cons_zero, List.set_cons_succ, List.getElem?_cons_zero, List.getElem?_cons_succ, Option.map_some, Nat.le_refl, List.take_succ_cons, List.take_zero, List.drop_nil, List.filter_nil, List.cons_append, Int.reduceBEq, Int.reduceBNe, Int.reduceGT, Int.reduceGE, Bool.not_true, Bool.not_false, hl1, hl2, c1, c2, haw]
      exact ⟨_, rfl⟩
    · have hP := hP (by omega)
      have hQ := hQ (by omega)
      obtain ⟨ev, eo, so, co, ⟨hev, hco⟩, R⟩ := RULES CC; rw [← hev]
      rw [← hco] at haw hP hQ q1 q2
      simp only [fpart, part', Tryd.f7, Option.getD]
      simp (maxSteps := 5000000) only [SA, SB, SD, R, guardAt, binP, intP, indexAddrP, elemsOf, readCells, lenP, lenAt, resultsP, resultP, oneOr, reduceCtorEq, reduceIte, Nat.reduceEqDiff, Nat.reduceAdd, Nat.zero_add, Nat.reduceMul, Nat.reduceLT, Nat.reduceLeDiff, Int.reduceLT, Int.reduceNeg, Int.reduceLE, appendP, appendAt, letGo, setLoc, locVal, Int.reduceToNat, boxCells, und, TG, SE, SC, unP, htu, VLf, eqgV, eqVP, extP, loadR, loadP, storeR, storeK, storeCellsP, laid, lay, setBox, List.set_cons_zero, List.set_cons_succ, List.getElem?_cons_zero, List.getElem?_cons_succ, Option.map_some, Nat.le_refl, List.take_succ_cons, List.take_zero, List.drop_nil, List.filter_nil, List.cons_append, Int.reduceBEq, Int.reduceBNe, Int.reduceGT, Int.reduceGE, Bool.not_true, Bool.not_false, hl1, hl2, c1, c2, haw, hP, hQ, q1, q2, fP, e1, e2]
      exact ⟨_, rfl⟩
end Go.HH
