/-
  Tokens: the specification's words.
-/
import Derived.Test.YtcjncfhadmigjaaLX21
namespace Go.HH
open Go Go.Proofs
set_option maxRecDepth 100000
set_option linter.unusedSimpArgs false
set_option linter.unusedVariables false
theorem ok_R27_Word : fnOK CC Try.f33 (Try.f33.body.getD .skip) = true := by kernel_rfl
theorem fat_R27_Word : CC.P.funcs[33]? = some Try.f33 := by kernel_rfl
theorem loop_R27_Word (L : Code) (hL : L = fpart Try.f33 [1,0,0]) (s : List UInt8) (hs : s.length ≤ 900000) : ∀ (k i : Nat) (e : List PV), i + k = s.length → getT e 0 = .str s → getT e 1 = .int .i64 i →
    ∃ e', evL CC L ⟨e, []⟩ = some (.exit 0, ⟨e', []⟩) ∧ getT e' 1 = .int .i64 (runL pt s i : Nat) := by
  intro k
  induction k with
  | zero =>
    intro i e hk h0 h1
    rw [evL_at (fpart Try.f33 [1,0,0,0]) hL]
    have hi : ¬ (i : Int) < (s.length : Int) := by omega
    have hlen := len_str s
    have hr := runL_end (p := pt) (s := s) (i := i) (by omega)
    have hd := op_R27_Digit s i
    have hm := op_R27_Small s i
    have ha : atL s i = 0 := by unfold atL; rw [List.getElem?_eq_none (by omega)]
    rw [ha] at hd hm
    rw [show dg 0 = false from rfl] at hd
    rw [show sm 0 = false from rfl] at hm
    obtain ⟨ev, eo, so, co, ⟨hev, hco⟩, R⟩ := RULES CC; rw [← hev]
    rw [← hco] at hd hm
    simp only [fpart, part', Try.f33, Option.getD]
    simp (maxSteps := 5000000) only [SA, SB, SD, R, guardAt, binP, intP, indexAddrP, elemsOf, readCells, lenP, lenAt, resultsP, resultP, oneOr, reduceCtorEq, reduceIte, Nat.reduceEqDiff, Nat.reduceAdd, Nat.zero_add, Nat.reduceMul, Nat.reduceLT, Nat.reduceLeDiff, Int.reduceLT, Int.reduceNeg, Int.reduceLE, appendP, appendAt, letGo, setLoc, locVal, Int.reduceToNat, boxCells, und, TG, SE, h0, h1, hlen, hi, hd, hm]
    exact ⟨_, rfl, by simp (maxSteps := 5000000) only [SA, SB, SD, R, guardAt, binP, intP, indexAddrP, elemsOf, readCells, lenP, lenAt, resultsP, resultP, oneOr, reduceCtorEq, reduceIte, Nat.reduceEqDiff, Nat.reduceAdd, Nat.zero_add, Nat.reduceMul, Nat.reduceLT, Nat.reduceLeDiff, Int.reduceLT, Int.reduceNeg, Int.reduceLE, appendP, appendAt, letGo, setLoc, locVal, Int.reduceToNat, boxCells, und, h1, hr]⟩
  | succ k ih =>
    intro i e hk h0 h1
    rw [evL_at (fpart Try.f33 [1,0,0,0]) hL]
    have hi : (i : Int) < (s.length : Int) := by omega
    have hlen := len_str s
    have hx : s[i]? = some (s[i]'(by omega)) := by simp
    have hix := ix_str s i _ hx
    have hst := runL_step (p := pt) hx
    have hd := op_R27_Digit s i
    have hm := op_R27_Small s i
    rw [atL_get hx] at hd hm
    have hw := wrap_i64 (n := (i : Int) + 1) ⟨by omega, by omega⟩
    generalize (s[i]'(by omega)).toNat = c at *
    have e95 : (((c : Nat) : Int) == 95) = (c == 95) := by rw [Bool.eq_iff_iff]; simp; omega
    have e45 : (((c : Nat) : Int) == 45) = (c == 45) := by rw [Bool.eq_iff_iff]; simp; omega
    have cast1 : ((i + 1 : Nat) : Int) = (i : Int) + 1 := by omega
    have key := fun e => ih (i + 1) e (by omega)
    rw [cast1] at key
    rw [hst]
    unfold pt
    cases hs1 : sm c <;> cases hs2 : dg c <;> cases hs3 : (c == 95) <;> cases hs4 : (c == 45)
    all_goals
      simp only [hs1, hs2, hs3, hs4, Bool.or_true, Bool.or_false, Bool.true_or, if_true, Bool.false_eq_true, if_false]
      rw [hs1] at hm
      rw [hs2] at hd
      rw [hs3] at e95
      rw [hs4] at e45
      obtain ⟨ev, eo, so, co, ⟨hev, hco⟩, R⟩ := RULES CC; rw [← hev]
      rw [← hco] at hd hm
      rw [← hev] at key
      simp only [fpart, part', Try.f33, Option.getD]
      simp (maxSteps := 5000000) only [SA, SB, SD, R, guardAt, binP, intP, indexAddrP, elemsOf, readCells, lenP, lenAt, resultsP, resultP, oneOr, reduceCtorEq, reduceIte, Nat.reduceEqDiff, Nat.reduceAdd, Nat.zero_add, Nat.reduceMul, Nat.reduceLT, Nat.reduceLeDiff, Int.reduceLT, Int.reduceNeg, Int.reduceLE, appendP, appendAt, letGo, setLoc, locVal, Int.reduceToNat, boxCells, und, TG, SE, h0, h1, hlen, hi, hix, hd, hm, e95, e45, hw]
      first
        | exact ⟨_, rfl, by simp (maxSteps := 5000000) only [SA, SB, SD, R, guardAt, binP, intP, indexAddrP, elemsOf, readCells, lenP, lenAt, resultsP, resultP, oneOr, reduceCtorEq, reduceIte, Nat.reduceEqDiff, Nat.reduceAdd, Nat.zero_add, Nat.reduceMul, Nat.reduceLT, Nat.reduceLeDiff, Int.reduceLT, Int.reduceNeg, Int.reduceLE, appendP, appendAt, letGo, setLoc, locVal, Int.reduceToNat, boxCells, und, h1]⟩
        | (refine key _ ?_ ?_ <;> simp (maxSteps := 5000000) only [SA, SB, SD, R, guardAt, binP, intP, indexAddrP, elemsOf, readCells, lenP, lenAt, resultsP, resultP, oneOr, reduceCtorEq, reduceIte, Nat.reduceEqDiff, Nat.reduceAdd, Nat.zero_add, Nat.reduceMul, Nat.reduceLT, Nat.reduceLeDiff, Int.reduceLT, Int.reduceNeg, Int.reduceLE, appendP, appendAt, letGo, setLoc, locVal, Int.reduceToNat, boxCells, und, h0])
end Go.HH
