/-
  Tokens: THE LAW of their order.
-/
import Derived.Test.YtcjncfhadmigjaaLX13
namespace Go.HH
open Go Go.Proofs
set_option maxRecDepth 100000
set_option linter.unusedSimpArgs false
set_option linter.unusedVariables false
theorem pureTkL : ∀ l : List Tk, pureL (tkVs l) = true
  | [] => rfl
  | t :: r => by
    have h := pureTkL r
    show ((tkV t).pure && pureL (tkVs r)) = true
    rw [h]; rfl
theorem pureTks (l : List Tk) (a c : Int) : (PV.tup [.sl (tkVs l), .int .i64 a, .int .i64 c]).pure = true := by
  simp only [SA, SE, pureTkL, Bool.and_true]
theorem eqTk (a a' : Int) (b b' : List UInt8) (c c' : Int) : eqP CC 100 32 (.agg [.int .i64 a, .str b, .int .i64 c]) (.agg [.int .i64 a', .str b', .int .i64 c']) = some ((a == a') && (b == b') && (c == c')) := by
  have h : eqP CC 100 32 (.agg [.int .i64 a, .str b, .int .i64 c]) (.agg [.int .i64 a', .str b', .int .i64 c']) = and2 (a == a') (and2 (b == b') (and2 (c == c') (some true))) := by kernel_rfl
  rw [h]
  cases a == a' <;> cases b == b' <;> cases c == c' <;> rfl
theorem eqgTk : CC.P.eqGuardType CC.P.depth 32 = false := by kernel_rfl
/-- the whole of the text is looked through -/
theorem law_LexOrder (s : List UInt8) (_ : s.length ≤ maxLen) : ∃ bx, callL CC 5 [.str s] [] = some (.ret (.bool true), bx) := by
  rw [callL_enter (fn := Try.f5) (c := Try.f5.body.getD .skip) rfl rfl fat_L27_LexOrder rfl ok_L27_LexOrder (Nat.le_of_ble_eq_true rfl)]
  have hlen := len_str s
  have haw := op_awake
  by_cases c1 : 3000 < s.length
  · have c1' : (s.length : Int) > 3000 := by omega
    obtain ⟨ev, eo, so, co, ⟨hev, hco⟩, R⟩ := RULES CC; rw [← hev]
    rw [← hco] at haw
    simp only [fpart, part', Try.f5, Option.getD]
    simp (maxSteps := 5000000) only [SA, SB, SD, R, guardAt, binP, intP, indexAddrP, elemsOf, readCells, lenP, lenAt, resultsP, resultP, oneOr, reduceCtorEq, reduceIte, Nat.reduceEqDiff, Nat.reduceAdd, Nat.zero_add, Nat.reduceMul, Nat.reduceLT, Nat.reduceLeDiff, Int.reduceLT, Int.reduceNeg, Int.reduceLE, appendP, appendAt, letGo, setLoc, locVal, Int.reduceToNat, boxCells, und, TG, SE, hlen, c1', haw]
    exact ⟨_, rfl⟩
  · have c1' : ¬ (s.length : Int) > 3000 := by omega
    obtain ⟨b0, hT⟩ := call_lex_Tokens s (by omega)
    have htk : ∀ bx, callOp CC (callL CC) 10 [.str s] bx = some (.ret (.tup [.sl (tkVs (toks s).1), .int .i64 ((toks s).2.1 : Nat), .int .i64 (toks s).2.2]), bx) := fun bx => callOp_of rfl (by simp only [SA, Bool.and_true]) hT (pureTks _ _ _)
    rcases toks_ord s (by omega) with ⟨a, c, g1, g2, g3⟩ | ⟨r, g1, g2, g3⟩
    · rw [g1] at htk
      have hz : tkVs [] = [] := rfl
      simp only [hz] at htk
      have hc0 : (c != 0) = true := by rw [bne_iff_ne]; exact g2
      have h00 : (((0 : Nat) : Int) == 0) = true := rfl
      have ha0 : (a : Int) ≥ 0 := by omega
      have hal : (a : Int) < (s.length : Int) := by omega
      obtain ⟨ev, eo, so, co, ⟨hev, hco⟩, R⟩ := RULES CC; rw [← hev]
      rw [← hco] at haw htk
      simp only [fpart, part', Try.f5, Option.getD]
      simp (maxSteps := 5000000) only [SA, SB, SD, R, guardAt, binP, intP, indexAddrP, elemsOf, readCells, lenP, lenAt, resultsP, resultP, oneOr, reduceCtorEq, reduceIte, Nat.reduceEqDiff, Nat.reduceAdd, Nat.zero_add, Nat.reduceMul, Nat.reduceLT, Nat.reduceLeDiff, Int.reduceLT, Int.reduceNeg, Int.reduceLE, appendP, appendAt, letGo, setLoc, locVal, Int.reduceToNat, boxCells, und, TG, SE, hlen, c1', haw, htk, hc0, h00, ha0, hal]
      exact ⟨_, rfl⟩
    · rw [g1] at htk
      have hln : (tkVs (r ++ [(0, [], s.length)])).length = r.length + 1 := by unfold tkVs; rw [List.length_map, List.length_append]; rfl
      have hgt : (tkVs (r ++ [(0, [], s.length)]))[r.length]? = some (.agg [.int .i64 0, .str [], .int .i64 (s.length : Int)]) := by
        unfold tkVs
        rw [List.getElem?_map, List.getElem?_append_right (Nat.le_refl _), Nat.sub_self]
        rfl
      have htk' : (tkVs (r ++ [(0, [], s.length)])).take r.length = tkVs r := by
        unfold tkVs
        rw [List.map_append, List.take_append_of_le_length (by rw [List.length_map]; exact Nat.le_refl _), ← List.length_map (f := tkV), List.take_length]
      have hall : ∀ l, ((tkVs l).all fun v => v.cells.length == 3) = true := fun l => by
        unfold tkVs
        rw [List.all_map]
        exact List.all_eq_true.2 fun _ _ => rfl
      have hln2 : (tkVs r).length = r.length := by unfold tkVs; rw [List.length_map]
      have hloop := fun e bx => loop_LexOrder _ rfl s (by omega) r g3 r.length 0 0 e bx (by omega) (by omega) (by simpa using g2)
      have hall2 := hall (r ++ [(0, [], s.length)])
      have hb := buildTk2 (s.length : Int)
      obtain ⟨tu, htu⟩ := TKs
      have hne := eqTk 0 0 [] [] s.length s.length
      have hsub : (((r.length + 1 : Nat) : Int) - 1) = (r.length : Int) := by omega
      have hw := wrap_i64 (n := (r.length : Int)) ⟨by omega, by omega⟩
      have hl0 : (((r.length + 1 : Nat) : Int) == 0) = false := by rw [beq_eq_false_iff_ne]; omega
      have hn0 : ¬ ((r.length : Int) < 0) := by omega
      have h00 : ((0 : Nat) : Int) = 0 := rfl
      have hbnd : (0 : Int) ≤ (r.length : Int) ∧ (r.length : Int) ≤ ((r.length + 1 : Nat) : Int) := by omega
      generalize tkVs (r ++ [(0, [], s.length)]) = xs at *
      generalize tkVs r = ys at *
      simp only [beq_self_eq_true, Bool.and_self] at hne
      obtain ⟨ev, eo, so, co, ⟨hev, hco⟩, R⟩ := RULES CC; rw [← hev]
      rw [← hco] at haw htk
      rw [← hev] at hloop
      simp only [fpart, part', Try.f5, Option.getD] at hloop ⊢
      simp (maxSteps := 5000000) only [SA, SB, SD, R, guardAt, binP, intP, indexAddrP, elemsOf, readCells, lenP, lenAt, resultsP, resultP, oneOr, reduceCtorEq, reduceIte, Nat.reduceEqDiff, Nat.reduceAdd, Nat.zero_add, Nat.reduceMul, Nat.reduceLT, Nat.reduceLeDiff, Int.reduceLT, Int.reduceNeg, Int.reduceLE, appendP, appendAt, letGo, setLoc, locVal, Int.reduceToNat, boxCells, und, TG, SE, hlen, c1', haw, htk, hln, hgt, hb, eqgTk, hne, hw, hsub, hl0, hn0, h00, sliceP, boundO, boundP, hall2, hln2, htk', hbnd, htu, List.take_succ_cons, List.take_zero]
      generalize hE : ev _ _ = z
      have hP : Past z := by
        rw [← hE]
        refine hloop _ _ ?_ ?_ ?_ ?_ ?_
        · simp (maxSteps := 5000000) only [SA, SB, SD, R, guardAt, binP, intP, indexAddrP, elemsOf, readCells, lenP, lenAt, resultsP, resultP, oneOr, reduceCtorEq, reduceIte, Nat.reduceEqDiff, Nat.reduceAdd, Nat.zero_add, Nat.reduceMul, Nat.reduceLT, Nat.reduceLeDiff, Int.reduceLT, Int.reduceNeg, Int.reduceLE, appendP, appendAt, letGo, setLoc, locVal, Int.reduceToNat, boxCells, und]
        · simp (maxSteps := 5000000) only [SA, SB, SD, R, guardAt, binP, intP, indexAddrP, elemsOf, readCells, lenP, lenAt, resultsP, resultP, oneOr, reduceCtorEq, reduceIte, Nat.reduceEqDiff, Nat.reduceAdd, Nat.zero_add, Nat.reduceMul, Nat.reduceLT, Nat.reduceLeDiff, Int.reduceLT, Int.reduceNeg, Int.reduceLE, appendP, appendAt, letGo, setLoc, locVal, Int.reduceToNat, boxCells, und]
        · simp (maxSteps := 5000000) only [SA, SB, SD, R, guardAt, binP, intP, indexAddrP, elemsOf, readCells, lenP, lenAt, resultsP, resultP, oneOr, reduceCtorEq, reduceIte, Nat.reduceEqDiff, Nat.reduceAdd, Nat.zero_add, Nat.reduceMul, Nat.reduceLT, Nat.reduceLeDiff, Int.reduceLT, Int.reduceNeg, Int.reduceLE, appendP, appendAt, letGo, setLoc, locVal, Int.reduceToNat, boxCells, und]
        · simp (maxSteps := 5000000) only [SA, SB, SD, R, guardAt, binP, intP, indexAddrP, elemsOf, readCells, lenP, lenAt, resultsP, resultP, oneOr, reduceCtorEq, reduceIte, Nat.reduceEqDiff, Nat.reduceAdd, Nat.zero_add, Nat.reduceMul, Nat.reduceLT, Nat.reduceLeDiff, Int.reduceLT, Int.reduceNeg, Int.reduceLE, appendP, appendAt, letGo, setLoc, locVal, Int.reduceToNat, boxCells, und]; rfl
        · simp (maxSteps := 5000000) only [SA, SB, SD, R, guardAt, binP, intP, indexAddrP, elemsOf, readCells, lenP, lenAt, resultsP, resultP, oneOr, reduceCtorEq, reduceIte, Nat.reduceEqDiff, Nat.reduceAdd, Nat.zero_add, Nat.reduceMul, Nat.reduceLT, Nat.reduceLeDiff, Int.reduceLT, Int.reduceNeg, Int.reduceLE, appendP, appendAt, letGo, setLoc, locVal, Int.reduceToNat, boxCells, und]; rfl
      obtain ⟨e', bx', he⟩ := hP
      subst he
      simp (maxSteps := 5000000) only [SA, SB, SD, R, guardAt, binP, intP, indexAddrP, elemsOf, readCells, lenP, lenAt, resultsP, resultP, oneOr, reduceCtorEq, reduceIte, Nat.reduceEqDiff, Nat.reduceAdd, Nat.zero_add, Nat.reduceMul, Nat.reduceLT, Nat.reduceLeDiff, Int.reduceLT, Int.reduceNeg, Int.reduceLE, appendP, appendAt, letGo, setLoc, locVal, Int.reduceToNat, boxCells, und, TG, SE, haw]
      exact ⟨_, rfl⟩
end Go.HH
