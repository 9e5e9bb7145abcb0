/-
  Values: their texts in the program.
-/
import Derived.Test.YthjcaihemgllaaaGreatDoorVB
import Derived.Test.YthjcaihemgllaaaGreatDoorVQP
import Derived.Test.YthjcaihemgllaaaGreatDoorVDP
namespace Go.HH
open Go Go.Proofs
set_option maxRecDepth 100000
set_option linter.unusedSimpArgs false
set_option linter.unusedVariables false
theorem ok_value_Print : fnOK CC Tryz.f120 (Tryz.f120.body.getD .skip) = true := by kernel_rfl
theorem fat_value_Print : CC.P.funcs[120]? = some Tryz.f120 := by kernel_rfl
def sN : List UInt8 := [110, 111, 110, 101]
def sT : List UInt8 := [116, 114, 117, 101]
def sF : List UInt8 := [102, 97, 108, 115, 101]
/-- the text of a value -/
def prV (v : Vl) : List UInt8 := if ckV v ≠ 0 then [] else if v.1 = 0 then sN else if v.1 = 1 then (if v.2.1 = 1 then sT else sF) else if v.1 = 2 then Lib.itoa v.2.1 else if v.1 = 3 then 35 :: Lib.itoa v.2.1 else quoteL v.2.2
theorem ck_len {v : Vl} (h : ckV v = 0) : v.2.2.length ≤ 60 ∧ (v.1 = 0 ∨ v.1 = 1 ∨ v.1 = 2 ∨ v.1 = 3 ∨ v.1 = 4) ∧ (v.1 ≠ 4 → v.2.2 = []) := by
  obtain ⟨k, n, s⟩ := v
  unfold ckV at h
  simp only at h ⊢
  cases ho : okN k n with
  | none => rw [ho] at h; cases h
  | some b =>
    rw [ho] at h
    cases b with
    | false => cases h
    | true =>
      simp only at h
      by_cases hl : 60 < s.length
      · rw [if_pos hl] at h; cases h
      · rw [if_neg hl] at h
        refine ⟨by omega, ?_, fun k4 => ?_⟩
        · unfold okN at ho
          by_cases e0 : k = 0 ∨ k = 4
          · omega
          · rw [if_neg e0] at ho
            by_cases e1 : k = 1
            · omega
            · rw [if_neg e1] at ho
              by_cases e2 : k = 2
              · omega
              · rw [if_neg e2] at ho
                by_cases e3 : k = 3
                · omega
                · rw [if_neg e3] at ho; cases ho
        · by_cases hs : s = []
          · exact hs
          · rw [if_pos ⟨hs, k4⟩] at h; cases h

theorem call_value_Print (v : Vl) (hn : inI v.2.1) : ∃ bx, callL CC 120 [vlV v] [] = some (.ret (.str (prV v)), bx) := by
  rw [callL_enter (fn := Tryz.f120) (c := Tryz.f120.body.getD .skip) rfl rfl fat_value_Print rfl ok_value_Print (Nat.le_of_ble_eq_true rfl)]
  have hc := op_value_Check v
  have hcl := ck_len (v := v)
  have hd := op_num_Digits v.2.1 hn
  have hil := itoa_length hn
  have hadd := str_add (a := [35]) (b := Lib.itoa v.2.1) (by simp only [List.length_singleton]; omega)
  have hq := fun h => op_names_Quote v.2.2 h
  obtain ⟨tu, htu⟩ := VLs
  unfold prV
  by_cases c0 : ckV v = 0
  · rw [if_neg (fun h => h c0)]
    rw [c0] at hc
    obtain ⟨l1, l2, _⟩ := hcl c0
    have hq := hq (by omega)
    clear hcl
    obtain ⟨k, n, s⟩ := v
    unfold vlV at *
    simp only at *
    generalize Lib.itoa n = d at *
    generalize quoteL s = q at *
    rcases l2 with rfl | rfl | rfl | rfl | rfl
    · rw [if_pos rfl]
      have hN : sN = [110, 111, 110, 101] := rfl
      rw [hN]
      obtain ⟨ev, eo, so, co, ⟨hev, hco⟩, R⟩ := RULES CC; rw [← hev]
      rw [← hco] at hc hd hq
      simp only [fpart, part', Tryz.f120, Option.getD]
      simp (maxSteps := 5000000) only [SA, SB, SD, R, guardAt, binP, intP, indexAddrP, elemsOf, readCells, lenP, lenAt, resultsP, resultP, oneOr, reduceCtorEq, reduceIte, Nat.reduceEqDiff, Nat.reduceAdd, Nat.zero_add, Nat.reduceMul, Nat.reduceLT, Nat.reduceLeDiff, Int.reduceLT, Int.reduceNeg, Int.reduceLE, appendP, appendAt, letGo, setLoc, locVal, Int.reduceToNat, boxCells, und, TG, SE, SC, unP, htu, loadR, loadP, lay, List.take_succ_cons, List.take_zero, List.drop_nil, List.filter_nil, List.cons_append, Int.reduceBEq, Int.reduceBNe, Int.reduceGT, Int.reduceGE, Bool.not_true, Bool.not_false, hc]
      exact ⟨_, rfl⟩
    · rw [if_neg (by decide), if_pos rfl]
      by_cases n1 : n = 1
      · have n1p : (n == 1) = true := by simp [n1]
        rw [if_pos n1]
        have hN : sT = [116, 114, 117, 101] := rfl
        rw [hN]
        obtain ⟨ev, eo, so, co, ⟨hev, hco⟩, R⟩ := RULES CC; rw [← hev]
        rw [← hco] at hc hd hq
        simp only [fpart, part', Tryz.f120, Option.getD]
        simp (maxSteps := 5000000) only [SA, SB, SD, R, guardAt, binP, intP, indexAddrP, elemsOf, readCells, lenP, lenAt, resultsP, resultP, oneOr, reduceCtorEq, reduceIte, Nat.reduceEqDiff, Nat.reduceAdd, Nat.zero_add, Nat.reduceMul, Nat.reduceLT, Nat.reduceLeDiff, Int.reduceLT, Int.reduceNeg, Int.reduceLE, appendP, appendAt, letGo, setLoc, locVal, Int.reduceToNat, boxCells, und, TG, SE, SC, unP, htu, loadR, loadP, lay, List.take_succ_cons, List.take_zero, List.drop_nil, List.filter_nil, List.cons_append, Int.reduceBEq, Int.reduceBNe, Int.reduceGT, Int.reduceGE, Bool.not_true, Bool.not_false, hc, n1p]
        exact ⟨_, rfl⟩
      · have n1p : (n == 1) = false := by simpa using n1
        rw [if_neg n1]
        have hN : sF = [102, 97, 108, 115, 101] := rfl
        rw [hN]
        obtain ⟨ev, eo, so, co, ⟨hev, hco⟩, R⟩ := RULES CC; rw [← hev]
        rw [← hco] at hc hd hq
        simp only [fpart, part', Tryz.f120, Option.getD]
        simp (maxSteps := 5000000) only [SA, SB, SD, R, guardAt, binP, intP, indexAddrP, elemsOf, readCells, lenP, lenAt, resultsP, resultP, oneOr, reduceCtorEq, reduceIte, Nat.reduceEqDiff, Nat.reduceAdd, Nat.zero_add, Nat.reduceMul, Nat.reduceLT, Nat.reduceLeDiff, Int.reduceLT, Int.reduceNeg, Int.reduceLE, appendP, appendAt, letGo, setLoc, locVal, Int.reduceToNat, boxCells, und, TG, SE, SC, unP, htu, loadR, loadP, lay, List.take_succ_cons, List.take_zero, List.drop_nil, List.filter_nil, List.cons_append, Int.reduceBEq, Int.reduceBNe, Int.reduceGT, Int.reduceGE, Bool.not_true, Bool.not_false, hc, n1p]
        exact ⟨_, rfl⟩
    · rw [if_neg (by decide), if_neg (by decide), if_pos rfl]
      obtain ⟨ev, eo, so, co, ⟨hev, hco⟩, R⟩ := RULES CC; rw [← hev]
      rw [← hco] at hc hd hq
      simp only [fpart, part', Tryz.f120, Option.getD]
      simp (maxSteps := 5000000) only [SA, SB, SD, R, guardAt, binP, intP, indexAddrP, elemsOf, readCells, lenP, lenAt, resultsP, resultP, oneOr, reduceCtorEq, reduceIte, Nat.reduceEqDiff, Nat.reduceAdd, Nat.zero_add, Nat.reduceMul, Nat.reduceLT, Nat.reduceLeDiff, Int.reduceLT, Int.reduceNeg, Int.reduceLE, appendP, appendAt, letGo, setLoc, locVal, Int.reduceToNat, boxCells, und, TG, SE, SC, unP, htu, loadR, loadP, lay, List.take_succ_cons, List.take_zero, List.drop_nil, List.filter_nil, List.cons_append, Int.reduceBEq, Int.reduceBNe, Int.reduceGT, Int.reduceGE, Bool.not_true, Bool.not_false, hc, hd]
      exact ⟨_, rfl⟩
    · rw [if_neg (by decide), if_neg (by decide), if_neg (by decide), if_pos rfl]
      rw [show (35 :: d : List UInt8) = [35] ++ d from rfl]
      generalize [35] ++ d = d2 at *
      obtain ⟨ev, eo, so, co, ⟨hev, hco⟩, R⟩ := RULES CC; rw [← hev]
      rw [← hco] at hc hd hq
      simp only [fpart, part', Tryz.f120, Option.getD]
      simp (maxSteps := 5000000) only [SA, SB, SD, R, guardAt, binP, intP, indexAddrP, elemsOf, readCells, lenP, lenAt, resultsP, resultP, oneOr, reduceCtorEq, reduceIte, Nat.reduceEqDiff, Nat.reduceAdd, Nat.zero_add, Nat.reduceMul, Nat.reduceLT, Nat.reduceLeDiff, Int.reduceLT, Int.reduceNeg, Int.reduceLE, appendP, appendAt, letGo, setLoc, locVal, Int.reduceToNat, boxCells, und, TG, SE, SC, unP, htu, loadR, loadP, lay, List.take_succ_cons, List.take_zero, List.drop_nil, List.filter_nil, List.cons_append, Int.reduceBEq, Int.reduceBNe, Int.reduceGT, Int.reduceGE, Bool.not_true, Bool.not_false, hc, hd, hadd]
      exact ⟨_, rfl⟩
    · rw [if_neg (by decide), if_neg (by decide), if_neg (by decide), if_neg (by decide)]
      obtain ⟨ev, eo, so, co, ⟨hev, hco⟩, R⟩ := RULES CC; rw [← hev]
      rw [← hco] at hc hd hq
      simp only [fpart, part', Tryz.f120, Option.getD]
      simp (maxSteps := 5000000) only [SA, SB, SD, R, guardAt, binP, intP, indexAddrP, elemsOf, readCells, lenP, lenAt, resultsP, resultP, oneOr, reduceCtorEq, reduceIte, Nat.reduceEqDiff, Nat.reduceAdd, Nat.zero_add, Nat.reduceMul, Nat.reduceLT, Nat.reduceLeDiff, Int.reduceLT, Int.reduceNeg, Int.reduceLE, appendP, appendAt, letGo, setLoc, locVal, Int.reduceToNat, boxCells, und, TG, SE, SC, unP, htu, loadR, loadP, lay, List.take_succ_cons, List.take_zero, List.drop_nil, List.filter_nil, List.cons_append, Int.reduceBEq, Int.reduceBNe, Int.reduceGT, Int.reduceGE, Bool.not_true, Bool.not_false, hc, hq]
      exact ⟨_, rfl⟩
  · rw [if_pos c0]
    have c0p : (ckV v != 0) = true := by simpa using c0
    generalize ckV v = c at *
    unfold vlV at *
    obtain ⟨ev, eo, so, co, ⟨hev, hco⟩, R⟩ := RULES CC; rw [← hev]
    rw [← hco] at hc
    simp only [fpart, part', Tryz.f120, Option.getD]
    simp (maxSteps := 5000000) only [SA, SB, SD, R, guardAt, binP, intP, indexAddrP, elemsOf, readCells, lenP, lenAt, resultsP, resultP, oneOr, reduceCtorEq, reduceIte, Nat.reduceEqDiff, Nat.reduceAdd, Nat.zero_add, Nat.reduceMul, Nat.reduceLT, Nat.reduceLeDiff, Int.reduceLT, Int.reduceNeg, Int.reduceLE, appendP, appendAt, letGo, setLoc, locVal, Int.reduceToNat, boxCells, und, TG, SE, SC, unP, htu, loadR, loadP, lay, List.take_succ_cons, List.take_zero, List.drop_nil, List.filter_nil, List.cons_append, Int.reduceBEq, Int.reduceBNe, Int.reduceGT, Int.reduceGE, Bool.not_true, Bool.not_false, hc, c0p]
    exact ⟨_, rfl⟩
theorem op_value_Print (v : Vl) (hn : inI v.2.1) (bx) : callOp CC (callL CC) 120 [vlV v] bx = some (.ret (.str (prV v)), bx) := by
  obtain ⟨b, h⟩ := call_value_Print v hn
  exact callOp_of rfl rfl h rfl
end Go.HH
