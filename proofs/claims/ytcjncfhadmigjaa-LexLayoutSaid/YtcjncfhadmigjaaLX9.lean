/-
  Tokens: one token, in the program.
-/
import Derived.Test.YtcjncfhadmigjaaLX8
namespace Go.HH
open Go Go.Proofs
set_option maxRecDepth 100000
set_option linter.unusedSimpArgs false
set_option linter.unusedVariables false
/-- what 'one' returns -/
def oneV (i : Nat) : Tk × Nat ⊕ Int → PV
  | .inl (t, k) => .tup [tkV t, .int .i64 (k : Int), .int .i64 0]
  | .inr c => .tup [tkV (0, [], i), .int .i64 (i : Int), .int .i64 c]
theorem TKu : ∃ u, CC.P.underlying 32 = some u := ⟨.struct ((match Try.prog.underlying 32 with | some (.struct f) => f | _ => #[])), by kernel_rfl⟩
/-- .. where a token of numbers that is too great has its kind -/
theorem call_lex_one (s : List UInt8) (hs : s.length ≤ 900000) (i : Nat) (hi : i < s.length) : ∃ bx v, callL CC 17 [.str s, .int .i64 (i : Int)] [] = some (.ret (.tup v), bx) ∧
    (match oneL s i with
      | .inl (t, k) => v = [tkV t, .int .i64 (k : Int), .int .i64 0]
      | .inr c => ∃ n : Int, v = [.agg [.int .i64 n, .str [], .int .i64 (i : Int)], .int .i64 (i : Int), .int .i64 c]) := by
  rw [callL_enter (fn := Try.f17) (c := Try.f17.body.getD .skip) rfl rfl fat_lex_one rfl ok_lex_one (Nat.le_of_ble_eq_true rfl)]
  have hat := op_lex_at s i
  have h256 := atL_lt s i
  have hsm := op_lex_small (atL s i) h256
  have hdg := op_lex_digit (atL s i) h256
  have hrun := op_lex_run_part s hs i (by omega)
  have hnum := op_lex_number s hs i (by omega)
  have hquo := op_lex_quoted s hs i (by omega)
  have hop := op_lex_operator s hs i hi
  have h34 : (((atL s i : Nat) : Int) == 34) = decide (atL s i = 34) := by rw [Bool.eq_iff_iff]; simp; omega
  have hrl := runL_le (p := pt) (s := s) (i := i) (by omega)
  have hsl1 := sl_str s i (runL pt s i) (by omega) (by omega) (by omega)
  rw [Int.toNat_natCast, Int.toNat_natCast] at hsl1
  have hdl := runL_le (p := dg) (s := s) (i := i) (by omega)
  have hsl2 := sl_str s i (runL dg s i) (by omega) (by omega) (by omega)
  rw [Int.toNat_natCast, Int.toNat_natCast] at hsl2
  have hol := opLen_le hi
  have hsl3 := sl_str s i ((i + opLen s i : Nat) : Int) (by omega) (by omega) (by omega)
  rw [Int.toNat_natCast, Int.toNat_natCast] at hsl3
  have hb := buildTk (i : Int)
  obtain ⟨tu, htu⟩ := TKu
  have h20 : ((2 : Int) != 0) = true := rfl
  have h40 : ((4 : Int) != 0) = true := rfl
  have hnl : ∀ k, numL s i = some k → k = runL dg s i := fun k h => by
    unfold numL at h
    obtain ⟨_, _, h2⟩ := Option.map_eq_some_iff.1 h
    exact h2.symm
  unfold oneL
  simp only
  generalize atL s i = c at *
  generalize runL pt s i = rp at *
  generalize runL dg s i = rd' at *
  cases hc1 : sm c with
  | true =>
    rw [hc1] at hsm
    rw [if_pos rfl]
    generalize (s.take rp).drop i = tx at *
    obtain ⟨ev, eo, so, co, ⟨hev, hco⟩, R⟩ := RULES CC; rw [← hev]
    rw [← hco] at hat hsm hrun
    simp only [fpart, part', Try.f17, Option.getD]
    simp (maxSteps := 5000000) only [SA, SB, SD, R, guardAt, binP, intP, indexAddrP, elemsOf, readCells, lenP, lenAt, resultsP, resultP, oneOr, reduceCtorEq, reduceIte, Nat.reduceEqDiff, Nat.reduceAdd, Nat.zero_add, Nat.reduceMul, Nat.reduceLT, Nat.reduceLeDiff, Int.reduceLT, Int.reduceNeg, Int.reduceLE, appendP, appendAt, letGo, setLoc, locVal, Int.reduceToNat, boxCells, und, TG, SE, SC, TKf, htu, h20, h40, hb, hat, hsm, hrun, hsl1, loadR, loadP, storeR, storeK, storeCellsP, laid, lay, setBox, List.set_cons_zero, List.set_cons_succ, List.take_succ_cons, List.take_zero, List.drop_nil, Nat.le_refl, List.filter_nil, List.cons_append]
    exact ⟨_, _, rfl, rfl⟩
  | false =>
    rw [hc1] at hsm
    rw [if_neg (by simp)]
    cases hc2 : dg c with
    | true =>
      rw [hc2] at hdg
      rw [if_pos rfl]
      cases hn : numL s i with
      | some k =>
        rw [hn] at hnum
        obtain rfl := hnl k hn
        dsimp only
        generalize (s.take k).drop i = tx at *
        obtain ⟨ev, eo, so, co, ⟨hev, hco⟩, R⟩ := RULES CC; rw [← hev]
        rw [← hco] at hat hsm hdg hnum
        simp only [fpart, part', Try.f17, Option.getD]
        simp (maxSteps := 5000000) only [SA, SB, SD, R, guardAt, binP, intP, indexAddrP, elemsOf, readCells, lenP, lenAt, resultsP, resultP, oneOr, reduceCtorEq, reduceIte, Nat.reduceEqDiff, Nat.reduceAdd, Nat.zero_add, Nat.reduceMul, Nat.reduceLT, Nat.reduceLeDiff, Int.reduceLT, Int.reduceNeg, Int.reduceLE, appendP, appendAt, letGo, setLoc, locVal, Int.reduceToNat, boxCells, und, TG, SE, SC, TKf, htu, h20, h40, hb, hat, hsm, hdg, hnum, hsl2, loadR, loadP, storeR, storeK, storeCellsP, laid, lay, setBox, List.set_cons_zero, List.set_cons_succ, List.take_succ_cons, List.take_zero, List.drop_nil, Nat.le_refl, List.filter_nil, List.cons_append]
        exact ⟨_, _, rfl, rfl⟩
      | none =>
        rw [hn] at hnum
        obtain ⟨ev, eo, so, co, ⟨hev, hco⟩, R⟩ := RULES CC; rw [← hev]
        rw [← hco] at hat hsm hdg hnum
        simp only [fpart, part', Try.f17, Option.getD]
        simp (maxSteps := 5000000) only [SA, SB, SD, R, guardAt, binP, intP, indexAddrP, elemsOf, readCells, lenP, lenAt, resultsP, resultP, oneOr, reduceCtorEq, reduceIte, Nat.reduceEqDiff, Nat.reduceAdd, Nat.zero_add, Nat.reduceMul, Nat.reduceLT, Nat.reduceLeDiff, Int.reduceLT, Int.reduceNeg, Int.reduceLE, appendP, appendAt, letGo, setLoc, locVal, Int.reduceToNat, boxCells, und, TG, SE, SC, TKf, htu, h20, h40, hb, hat, hsm, hdg, hnum, hsl2, loadR, loadP, storeR, storeK, storeCellsP, laid, lay, setBox, List.set_cons_zero, List.set_cons_succ, List.take_succ_cons, List.take_zero, List.drop_nil, Nat.le_refl, List.filter_nil, List.cons_append]
        exact ⟨_, _, rfl, 0, rfl⟩
    | false =>
      rw [hc2] at hdg
      rw [if_neg (by simp)]
      by_cases hc3 : c = 34
      · rw [if_pos hc3]
        rw [decide_eq_true hc3] at h34
        cases hn : strL s i with
        | some x =>
          rw [hn] at hquo
          obtain ⟨tx, k⟩ := x
          obtain ⟨ev, eo, so, co, ⟨hev, hco⟩, R⟩ := RULES CC; rw [← hev]
          rw [← hco] at hat hsm hdg hquo
          simp only [fpart, part', Try.f17, Option.getD]
          simp (maxSteps := 5000000) only [SA, SB, SD, R, guardAt, binP, intP, indexAddrP, elemsOf, readCells, lenP, lenAt, resultsP, resultP, oneOr, reduceCtorEq, reduceIte, Nat.reduceEqDiff, Nat.reduceAdd, Nat.zero_add, Nat.reduceMul, Nat.reduceLT, Nat.reduceLeDiff, Int.reduceLT, Int.reduceNeg, Int.reduceLE, appendP, appendAt, letGo, setLoc, locVal, Int.reduceToNat, boxCells, und, TG, SE, SC, TKf, htu, h20, h40, hb, hat, hsm, hdg, h34, hquo, loadR, loadP, storeR, storeK, storeCellsP, laid, lay, setBox, List.set_cons_zero, List.set_cons_succ, List.take_succ_cons, List.take_zero, List.drop_nil, Nat.le_refl, List.filter_nil, List.cons_append]
          exact ⟨_, _, rfl, rfl⟩
        | none =>
          rw [hn] at hquo
          obtain ⟨ev, eo, so, co, ⟨hev, hco⟩, R⟩ := RULES CC; rw [← hev]
          rw [← hco] at hat hsm hdg hquo
          simp only [fpart, part', Try.f17, Option.getD]
          simp (maxSteps := 5000000) only [SA, SB, SD, R, guardAt, binP, intP, indexAddrP, elemsOf, readCells, lenP, lenAt, resultsP, resultP, oneOr, reduceCtorEq, reduceIte, Nat.reduceEqDiff, Nat.reduceAdd, Nat.zero_add, Nat.reduceMul, Nat.reduceLT, Nat.reduceLeDiff, Int.reduceLT, Int.reduceNeg, Int.reduceLE, appendP, appendAt, letGo, setLoc, locVal, Int.reduceToNat, boxCells, und, TG, SE, SC, TKf, htu, h20, h40, hb, hat, hsm, hdg, h34, hquo, loadR, loadP, storeR, storeK, storeCellsP, laid, lay, setBox, List.set_cons_zero, List.set_cons_succ, List.take_succ_cons, List.take_zero, List.drop_nil, Nat.le_refl, List.filter_nil, List.cons_append]
          exact ⟨_, _, rfl, 0, rfl⟩
      · rw [if_neg hc3]
        rw [decide_eq_false hc3] at h34
        by_cases hc4 : opLen s i = 0
        · rw [if_pos hc4]
          have heq : (((i + opLen s i : Nat) : Int) == (i : Int)) = true := by rw [hc4]; simp
          generalize ((i + opLen s i : Nat) : Int) = k at *
          obtain ⟨ev, eo, so, co, ⟨hev, hco⟩, R⟩ := RULES CC; rw [← hev]
          rw [← hco] at hat hsm hdg hop
          simp only [fpart, part', Try.f17, Option.getD]
          simp (maxSteps := 5000000) only [SA, SB, SD, R, guardAt, binP, intP, indexAddrP, elemsOf, readCells, lenP, lenAt, resultsP, resultP, oneOr, reduceCtorEq, reduceIte, Nat.reduceEqDiff, Nat.reduceAdd, Nat.zero_add, Nat.reduceMul, Nat.reduceLT, Nat.reduceLeDiff, Int.reduceLT, Int.reduceNeg, Int.reduceLE, appendP, appendAt, letGo, setLoc, locVal, Int.reduceToNat, boxCells, und, TG, SE, SC, TKf, htu, h20, h40, hb, hat, hsm, hdg, h34, hop, heq, h20, loadR, loadP, storeR, storeK, storeCellsP, laid, lay, setBox, List.set_cons_zero, List.set_cons_succ, List.take_succ_cons, List.take_zero, List.drop_nil, Nat.le_refl, List.filter_nil, List.cons_append]
          exact ⟨_, _, rfl, 4, rfl⟩
        · rw [if_neg hc4]
          dsimp only
          have heq : (((i + opLen s i : Nat) : Int) == (i : Int)) = false := by rw [beq_eq_false_iff_ne]; omega
          generalize ((i + opLen s i : Nat) : Int) = k at *
          generalize (s.take (i + opLen s i)).drop i = tx at *
          obtain ⟨ev, eo, so, co, ⟨hev, hco⟩, R⟩ := RULES CC; rw [← hev]
          rw [← hco] at hat hsm hdg hop
          simp only [fpart, part', Try.f17, Option.getD]
          simp (maxSteps := 5000000) only [SA, SB, SD, R, guardAt, binP, intP, indexAddrP, elemsOf, readCells, lenP, lenAt, resultsP, resultP, oneOr, reduceCtorEq, reduceIte, Nat.reduceEqDiff, Nat.reduceAdd, Nat.zero_add, Nat.reduceMul, Nat.reduceLT, Nat.reduceLeDiff, Int.reduceLT, Int.reduceNeg, Int.reduceLE, appendP, appendAt, letGo, setLoc, locVal, Int.reduceToNat, boxCells, und, TG, SE, SC, TKf, htu, h20, h40, hb, hat, hsm, hdg, h34, hop, heq, hsl3, loadR, loadP, storeR, storeK, storeCellsP, laid, lay, setBox, List.set_cons_zero, List.set_cons_succ, List.take_succ_cons, List.take_zero, List.drop_nil, Nat.le_refl, List.filter_nil, List.cons_append]
          exact ⟨_, _, rfl, rfl⟩
end Go.HH
