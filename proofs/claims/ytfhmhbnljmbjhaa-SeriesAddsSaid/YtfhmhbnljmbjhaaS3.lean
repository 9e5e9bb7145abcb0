/-
  Series: the law of Check.
-/
import Derived.Test.YtfhmhbnljmbjhaaS2
import Derived.Test.YtfhmhbnljmbjhaaRules
namespace Go.HH
open Go Go.Proofs
set_option maxRecDepth 100000
set_option linter.unusedSimpArgs false
theorem TN : notSlice CC 3 = true ∧ nilV CC 24 = .osl 3 [] := ⟨by kernel_rfl, by kernel_rfl⟩
/-- THE LAW OF CHECK -/
theorem law8 (l : List Int) (lo hi n : Int) : ∃ bx, callL CC 8 [.sl (ints l), .agg [.int .i64 lo, .int .i64 hi], .int .i64 n] [] = some (.ret (.bool true), bx) := by
  rw [callL_enter (fn := Try.f8) (c := Try.f8.body.getD .skip) rfl fat8 rfl ok8 (Nat.le_of_ble_eq_true rfl)]
  obtain ⟨ev, eo, so, co, ⟨hev, hco⟩, R⟩ := RULES CC; rw [← hev]; have o26 := @op26; rw [← hco] at o26; have o27 := @op27; rw [← hco] at o27; have o11 := @op11; rw [← hco] at o11
  simp only [fpart, part', Try.f8, Option.getD]
  by_cases c1 : (l.length : Int) > 200
  · simp (maxSteps := 5000000) only [SA, SB, SD, R, guardAt, binP, intP, indexAddrP, elemsOf, readCells, lenP, lenAt, resultsP, resultP, oneOr, reduceCtorEq, reduceIte, Nat.reduceEqDiff, Nat.reduceAdd, Nat.zero_add, Nat.reduceMul, Nat.reduceLT, Nat.reduceLeDiff, Int.reduceLT, Int.reduceNeg, Int.reduceLE, appendP, appendAt, letGo, setLoc, locVal, Int.reduceToNat, boxCells, und, TY, TZ, TN, c1]
    exact ⟨_, rfl⟩
  · have hl : l.length ≤ 1000 := by omega
    have h02 : (0 : Int) < ((2 : Nat) : Int) := by decide
    have h12 : (1 : Int) < ((2 : Nat) : Int) := by decide
    simp (maxSteps := 5000000) only [SA, SB, SD, R, guardAt, binP, intP, indexAddrP, elemsOf, readCells, lenP, lenAt, resultsP, resultP, oneOr, reduceCtorEq, reduceIte, Nat.reduceEqDiff, Nat.reduceAdd, Nat.zero_add, Nat.reduceMul, Nat.reduceLT, Nat.reduceLeDiff, Int.reduceLT, Int.reduceNeg, Int.reduceLE, appendP, appendAt, letGo, setLoc, locVal, Int.reduceToNat, boxCells, und, TY, TZ, TN, c1, h02, h12, o26, o27, o11, hl]
    exact ⟨_, rfl⟩
end Go.HH
