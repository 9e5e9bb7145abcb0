/-
  Tokens: the specification's functions.
-/
import Derived.Test.YtcjncfhadmigjaaLX24
namespace Go.HH
open Go Go.Proofs
set_option maxRecDepth 100000
set_option linter.unusedSimpArgs false
set_option linter.unusedVariables false
theorem ok_R27_Digit : fnOK CC Try.f31 (Try.f31.body.getD .skip) = true := by kernel_rfl
theorem fat_R27_Digit : CC.P.funcs[31]? = some Try.f31 := by kernel_rfl
theorem ok_R27_Small : fnOK CC Try.f32 (Try.f32.body.getD .skip) = true := by kernel_rfl
theorem fat_R27_Small : CC.P.funcs[32]? = some Try.f32 := by kernel_rfl
theorem call_R27_Digit (s : List UInt8) (i : Nat) : callL CC 31 [.str s, .int .i64 (i : Int)] [] = some (.ret (.bool (dg (atL s i))), []) := by
  rw [callL_enter (fn := Try.f31) (c := Try.f31.body.getD .skip) rfl rfl fat_R27_Digit rfl ok_R27_Digit (Nat.le_of_ble_eq_true rfl)]
  have hlen := len_str s
  by_cases c1 : i < s.length
  · have c1' : (i : Int) < (s.length : Int) := by omega
    have hx : s[i]? = some s[i] := by simp
    have hix := ix_str s i _ hx
    rw [atL_get hx]
    generalize (s[i]).toNat = c at *
    have hd : (decide ((c : Int) ≥ 48)) = decide (48 ≤ c) := by rw [decide_eq_decide]; omega
    have hd2 : (decide ((c : Int) ≤ 57)) = decide (c ≤ 57) := by rw [decide_eq_decide]; omega
    unfold dg
    by_cases c2 : (c : Int) ≥ 48
    · rw [← hd, ← hd2, decide_eq_true c2]
      obtain ⟨ev, eo, so, co, ⟨hev, hco⟩, R⟩ := RULES CC; rw [← hev]
      simp only [fpart, part', Try.f31, Option.getD]
      simp (maxSteps := 5000000) only [SA, SB, SD, R, guardAt, binP, intP, indexAddrP, elemsOf, readCells, lenP, lenAt, resultsP, resultP, oneOr, reduceCtorEq, reduceIte, Nat.reduceEqDiff, Nat.reduceAdd, Nat.zero_add, Nat.reduceMul, Nat.reduceLT, Nat.reduceLeDiff, Int.reduceLT, Int.reduceNeg, Int.reduceLE, appendP, appendAt, letGo, setLoc, locVal, Int.reduceToNat, boxCells, und, TG, SE, hlen, c1', hix, c2]
    · rw [← hd, ← hd2, decide_eq_false c2]
      obtain ⟨ev, eo, so, co, ⟨hev, hco⟩, R⟩ := RULES CC; rw [← hev]
      simp only [fpart, part', Try.f31, Option.getD]
      simp (maxSteps := 5000000) only [SA, SB, SD, R, guardAt, binP, intP, indexAddrP, elemsOf, readCells, lenP, lenAt, resultsP, resultP, oneOr, reduceCtorEq, reduceIte, Nat.reduceEqDiff, Nat.reduceAdd, Nat.zero_add, Nat.reduceMul, Nat.reduceLT, Nat.reduceLeDiff, Int.reduceLT, Int.reduceNeg, Int.reduceLE, appendP, appendAt, letGo, setLoc, locVal, Int.reduceToNat, boxCells, und, TG, SE, hlen, c1', hix, c2, Bool.false_and]
  · have c1' : ¬ (i : Int) < (s.length : Int) := by omega
    have h0 : dg (atL s i) = false := by unfold atL; rw [List.getElem?_eq_none (by omega)]; rfl
    rw [h0]
    obtain ⟨ev, eo, so, co, ⟨hev, hco⟩, R⟩ := RULES CC; rw [← hev]
    simp only [fpart, part', Try.f31, Option.getD]
    simp (maxSteps := 5000000) only [SA, SB, SD, R, guardAt, binP, intP, indexAddrP, elemsOf, readCells, lenP, lenAt, resultsP, resultP, oneOr, reduceCtorEq, reduceIte, Nat.reduceEqDiff, Nat.reduceAdd, Nat.zero_add, Nat.reduceMul, Nat.reduceLT, Nat.reduceLeDiff, Int.reduceLT, Int.reduceNeg, Int.reduceLE, appendP, appendAt, letGo, setLoc, locVal, Int.reduceToNat, boxCells, und, TG, SE, hlen, c1']
theorem call_R27_Small (s : List UInt8) (i : Nat) : callL CC 32 [.str s, .int .i64 (i : Int)] [] = some (.ret (.bool (sm (atL s i))), []) := by
  rw [callL_enter (fn := Try.f32) (c := Try.f32.body.getD .skip) rfl rfl fat_R27_Small rfl ok_R27_Small (Nat.le_of_ble_eq_true rfl)]
  have hlen := len_str s
  by_cases c1 : i < s.length
  · have c1' : (i : Int) < (s.length : Int) := by omega
    have hx : s[i]? = some s[i] := by simp
    have hix := ix_str s i _ hx
    rw [atL_get hx]
    generalize (s[i]).toNat = c at *
    have hd : (decide ((c : Int) ≥ 97)) = decide (97 ≤ c) := by rw [decide_eq_decide]; omega
    have hd2 : (decide ((c : Int) ≤ 122)) = decide (c ≤ 122) := by rw [decide_eq_decide]; omega
    unfold sm
    by_cases c2 : (c : Int) ≥ 97
    · rw [← hd, ← hd2, decide_eq_true c2]
      obtain ⟨ev, eo, so, co, ⟨hev, hco⟩, R⟩ := RULES CC; rw [← hev]
      simp only [fpart, part', Try.f32, Option.getD]
      simp (maxSteps := 5000000) only [SA, SB, SD, R, guardAt, binP, intP, indexAddrP, elemsOf, readCells, lenP, lenAt, resultsP, resultP, oneOr, reduceCtorEq, reduceIte, Nat.reduceEqDiff, Nat.reduceAdd, Nat.zero_add, Nat.reduceMul, Nat.reduceLT, Nat.reduceLeDiff, Int.reduceLT, Int.reduceNeg, Int.reduceLE, appendP, appendAt, letGo, setLoc, locVal, Int.reduceToNat, boxCells, und, TG, SE, hlen, c1', hix, c2]
    · rw [← hd, ← hd2, decide_eq_false c2]
      obtain ⟨ev, eo, so, co, ⟨hev, hco⟩, R⟩ := RULES CC; rw [← hev]
      simp only [fpart, part', Try.f32, Option.getD]
      simp (maxSteps := 5000000) only [SA, SB, SD, R, guardAt, binP, intP, indexAddrP, elemsOf, readCells, lenP, lenAt, resultsP, resultP, oneOr, reduceCtorEq, reduceIte, Nat.reduceEqDiff, Nat.reduceAdd, Nat.zero_add, Nat.reduceMul, Nat.reduceLT, Nat.reduceLeDiff, Int.reduceLT, Int.reduceNeg, Int.reduceLE, appendP, appendAt, letGo, setLoc, locVal, Int.reduceToNat, boxCells, und, TG, SE, hlen, c1', hix, c2, Bool.false_and]
  · have c1' : ¬ (i : Int) < (s.length : Int) := by omega
    have h0 : sm (atL s i) = false := by unfold atL; rw [List.getElem?_eq_none (by omega)]; rfl
    rw [h0]
    obtain ⟨ev, eo, so, co, ⟨hev, hco⟩, R⟩ := RULES CC; rw [← hev]
    simp only [fpart, part', Try.f32, Option.getD]
    simp (maxSteps := 5000000) only [SA, SB, SD, R, guardAt, binP, intP, indexAddrP, elemsOf, readCells, lenP, lenAt, resultsP, resultP, oneOr, reduceCtorEq, reduceIte, Nat.reduceEqDiff, Nat.reduceAdd, Nat.zero_add, Nat.reduceMul, Nat.reduceLT, Nat.reduceLeDiff, Int.reduceLT, Int.reduceNeg, Int.reduceLE, appendP, appendAt, letGo, setLoc, locVal, Int.reduceToNat, boxCells, und, TG, SE, hlen, c1']
theorem op_R27_Digit (s : List UInt8) (i : Nat) (bx) : callOp CC (callL CC) 31 [.str s, .int .i64 (i : Int)] bx = some (.ret (.bool (dg (atL s i))), bx) := callOp_of rfl (by simp only [SA, Bool.and_true]) (call_R27_Digit s i) rfl
theorem op_R27_Small (s : List UInt8) (i : Nat) (bx) : callOp CC (callL CC) 32 [.str s, .int .i64 (i : Int)] bx = some (.ret (.bool (sm (atL s i))), bx) := callOp_of rfl (by simp only [SA, Bool.and_true]) (call_R27_Small s i) rfl
end Go.HH
