/-
  Tokens: the law of their order.
-/
import Derived.Test.YtcjncfhadmigjaaLX12
import Derived.Test.YtcjncfhadmigjaaLX0
namespace Go.HH
open Go Go.Proofs
set_option maxRecDepth 100000
set_option linter.unusedSimpArgs false
set_option linter.unusedVariables false
theorem ok_L27_LexOrder : fnOK CC Try.f5 (Try.f5.body.getD .skip) = true := by kernel_rfl
theorem fat_L27_LexOrder : CC.P.funcs[5]? = some Try.f5 := by kernel_rfl
theorem fA (id : Nat) : fieldP CC 32 0 (.bp id 0) = some (.bp id 0) ∧ fieldP CC 32 1 (.bp id 0) = some (.bp id 1) ∧ fieldP CC 32 2 (.bp id 0) = some (.bp id 2) := ⟨by kernel_rfl, by kernel_rfl, by kernel_rfl⟩
def Past (r : Option (Ex × St)) : Prop := ∃ e' bx', r = some (.exit 0, ⟨e', bx'⟩)
theorem loop_LexOrder (L : Code) (hL : L = fpart Try.f5 [1,1,1,1,1,1,0,1,0]) (s : List UInt8) (hs : s.length ≤ 900000) (r : List Tk) (hr : r.length ≤ 4000) : ∀ (m i end' : Nat) (e : List PV) (bx : List PBox), i + m = r.length → end' ≤ 1000000 → ordOK s end' (r.drop i) → getT e 0 = .str s → getT e 60 = .sl (tkVs r) → getT e 61 = .int .i64 r.length → getT e 62 = .int .i64 i → getT e 6 = .int .i64 end' →
    Past (evL CC L ⟨e, bx⟩) := by
  intro m
  induction m with
  | zero =>
    intro i end' e bx hm he hd h0 h60 h61 h62 h6
    rw [evL_at (fpart Try.f5 [1,1,1,1,1,1,0,1,0,0]) hL]
    have hi : ¬ ((i : Int) < (r.length : Int)) := by omega
    obtain ⟨ev, eo, so, co, ⟨hev, hco⟩, R⟩ := RULES CC; rw [← hev]
    simp only [fpart, part', Try.f5, Option.getD]
    simp (maxSteps := 5000000) only [SA, SB, SD, R, guardAt, binP, intP, indexAddrP, elemsOf, readCells, lenP, lenAt, resultsP, resultP, oneOr, reduceCtorEq, reduceIte, Nat.reduceEqDiff, Nat.reduceAdd, Nat.zero_add, Nat.reduceMul, Nat.reduceLT, Nat.reduceLeDiff, Int.reduceLT, Int.reduceNeg, Int.reduceLE, appendP, appendAt, letGo, setLoc, locVal, Int.reduceToNat, boxCells, und, TG, SE, h0, h60, h61, h62, hi]
    exact ⟨_, _, rfl⟩
  | succ m ih =>
    intro i end' e bx hm he hd h0 h60 h61 h62 h6
    rw [evL_at (fpart Try.f5 [1,1,1,1,1,1,0,1,0,0]) hL]
    have hi : ((i : Int) < (r.length : Int)) := by omega
    have hi0 : ¬ ((i : Int) < 0) := by omega
    have hx : r[i]? = some r[i] := by simp
    have hdr : r.drop i = r[i] :: r.drop (i + 1) := List.drop_eq_getElem_cons (by omega)
    rw [hdr] at hd
    generalize r[i] = t at *
    obtain ⟨k, tx, a⟩ := t
    have hx' : (tkVs r)[i]? = some (.agg [.int .i64 (k : Int), .str tx, .int .i64 (a : Int)]) := by
      unfold tkVs
      rw [List.getElem?_map, hx]
      rfl
    obtain ⟨o1, o2, o3, o4, o5⟩ := hd
    have hA : ¬ ((a : Int) < (end' : Int)) := by omega
    have hB : ¬ ((a : Int) ≥ (s.length : Int)) := by omega
    have hC : ¬ ((k : Int) < 1) := by omega
    have hD : ¬ ((k : Int) > 4) := by omega
    have hw1 := wrap_i64 (n := (a : Int) + 1) ⟨by omega, by omega⟩
    have hw2 := wrap_i64 (n := (i : Int) + 1) ⟨by omega, by omega⟩
    have hgl : ∀ (bx : List PBox) (b : PBox), (bx ++ [b])[bx.length]? = some b := fun bx b => by simp
    have hlen := len_str s
    have hlt := len_str tx
    have hk1 := fun e' e bx => ih (i + 1) e' e bx (by omega)
    have cast1 : ((i + 1 : Nat) : Int) = (i : Int) + 1 := by omega
    rw [cast1] at hk1
    obtain ⟨tu, htu⟩ := TKs
    by_cases c3 : k = 3
    · rw [if_pos c3] at o5
      have hE : ((k : Int) == 3) = true := by rw [c3]; rfl
      have hxa : s[a]? = some (s[a]'o2) := by simp
      have hix := ix_str s a _ hxa
      have h34 : (((s[a]'o2).toNat : Int) != 34) = false := by
        have := atL_some o2
        rw [o5.1] at this
        rw [← this]; rfl
      generalize (s[a]'o2).toNat = ch at *
      have hk2 := fun e bx => hk1 (a + 1) e bx (by omega) o5.2
      have cast2 : ((a + 1 : Nat) : Int) = (a : Int) + 1 := by omega
      rw [cast2] at hk2
      generalize tkVs r = xs at *
      obtain ⟨ev, eo, so, co, ⟨hev, hco⟩, R⟩ := RULES CC; rw [← hev]
      rw [← hev] at hk2
      simp only [fpart, part', Try.f5, Option.getD]
      simp (maxSteps := 5000000) only [SA, SB, SD, R, guardAt, binP, intP, indexAddrP, elemsOf, readCells, lenP, lenAt, resultsP, resultP, oneOr, reduceCtorEq, reduceIte, Nat.reduceEqDiff, Nat.reduceAdd, Nat.zero_add, Nat.reduceMul, Nat.reduceLT, Nat.reduceLeDiff, Int.reduceLT, Int.reduceNeg, Int.reduceLE, appendP, appendAt, letGo, setLoc, locVal, Int.reduceToNat, boxCells, und, TG, SE, SC, TKf, htu, fA, h0, h60, h61, h62, h6, hi, hi0, hx', hA, hB, hC, hD, hE, hw1, hw2, hgl, hlen, hlt, hix, h34, loadR, loadP, lay, List.take_succ_cons, List.take_zero, List.drop_nil, List.filter_nil, List.cons_append]
      refine hk2 _ _ ?_ ?_ ?_ ?_ ?_
      · simp (maxSteps := 5000000) only [SA, SB, SD, R, guardAt, binP, intP, indexAddrP, elemsOf, readCells, lenP, lenAt, resultsP, resultP, oneOr, reduceCtorEq, reduceIte, Nat.reduceEqDiff, Nat.reduceAdd, Nat.zero_add, Nat.reduceMul, Nat.reduceLT, Nat.reduceLeDiff, Int.reduceLT, Int.reduceNeg, Int.reduceLE, appendP, appendAt, letGo, setLoc, locVal, Int.reduceToNat, boxCells, und, h0]
      · simp (maxSteps := 5000000) only [SA, SB, SD, R, guardAt, binP, intP, indexAddrP, elemsOf, readCells, lenP, lenAt, resultsP, resultP, oneOr, reduceCtorEq, reduceIte, Nat.reduceEqDiff, Nat.reduceAdd, Nat.zero_add, Nat.reduceMul, Nat.reduceLT, Nat.reduceLeDiff, Int.reduceLT, Int.reduceNeg, Int.reduceLE, appendP, appendAt, letGo, setLoc, locVal, Int.reduceToNat, boxCells, und, h60]
      · simp (maxSteps := 5000000) only [SA, SB, SD, R, guardAt, binP, intP, indexAddrP, elemsOf, readCells, lenP, lenAt, resultsP, resultP, oneOr, reduceCtorEq, reduceIte, Nat.reduceEqDiff, Nat.reduceAdd, Nat.zero_add, Nat.reduceMul, Nat.reduceLT, Nat.reduceLeDiff, Int.reduceLT, Int.reduceNeg, Int.reduceLE, appendP, appendAt, letGo, setLoc, locVal, Int.reduceToNat, boxCells, und, h61]
      · simp (maxSteps := 5000000) only [SA, SB, SD, R, guardAt, binP, intP, indexAddrP, elemsOf, readCells, lenP, lenAt, resultsP, resultP, oneOr, reduceCtorEq, reduceIte, Nat.reduceEqDiff, Nat.reduceAdd, Nat.zero_add, Nat.reduceMul, Nat.reduceLT, Nat.reduceLeDiff, Int.reduceLT, Int.reduceNeg, Int.reduceLE, appendP, appendAt, letGo, setLoc, locVal, Int.reduceToNat, boxCells, und]
      · simp (maxSteps := 5000000) only [SA, SB, SD, R, guardAt, binP, intP, indexAddrP, elemsOf, readCells, lenP, lenAt, resultsP, resultP, oneOr, reduceCtorEq, reduceIte, Nat.reduceEqDiff, Nat.reduceAdd, Nat.zero_add, Nat.reduceMul, Nat.reduceLT, Nat.reduceLeDiff, Int.reduceLT, Int.reduceNeg, Int.reduceLE, appendP, appendAt, letGo, setLoc, locVal, Int.reduceToNat, boxCells, und]
    · rw [if_neg c3] at o5
      have hE : ((k : Int) == 3) = false := by rw [beq_eq_false_iff_ne]; omega
      obtain ⟨p1, p2, p3, p4⟩ := o5
      have hF : (tx == ([] : List UInt8)) = false := by rw [beq_eq_false_iff_ne]; exact p1
      have hS1 : strP .eql tx [] = some (.bool false) := by
        show some (PV.bool (tx == [])) = _
        rw [hF]
      have hS2 : strP .neq tx tx = some (.bool false) := by
        show some (PV.bool (tx != tx)) = _
        rw [bne_self_eq_false]
      have hw3 := wrap_i64 (n := (s.length : Int) - (a : Int)) ⟨by omega, by omega⟩
      have hw4 := wrap_i64 (n := (a : Int) + (tx.length : Int)) ⟨by omega, by omega⟩
      have hG : ¬ ((tx.length : Int) > (s.length : Int) - (a : Int)) := by omega
      have hsl := sl_str s (a : Int) ((a : Int) + (tx.length : Int)) (by omega) (by omega) (by omega)
      have cast2 : ((a + tx.length : Nat) : Int) = (a : Int) + (tx.length : Int) := by omega
      rw [← cast2, Int.toNat_natCast, Int.toNat_natCast, p3, cast2] at hsl
      have hk2 := fun e bx => hk1 (a + tx.length) e bx (by omega) p4
      rw [cast2] at hk2
      generalize tkVs r = xs at *
      obtain ⟨ev, eo, so, co, ⟨hev, hco⟩, R⟩ := RULES CC; rw [← hev]
      rw [← hev] at hk2
      simp only [fpart, part', Try.f5, Option.getD]
      simp (maxSteps := 5000000) only [SA, SB, SD, R, guardAt, binP, intP, indexAddrP, elemsOf, readCells, lenP, lenAt, resultsP, resultP, oneOr, reduceCtorEq, reduceIte, Nat.reduceEqDiff, Nat.reduceAdd, Nat.zero_add, Nat.reduceMul, Nat.reduceLT, Nat.reduceLeDiff, Int.reduceLT, Int.reduceNeg, Int.reduceLE, appendP, appendAt, letGo, setLoc, locVal, Int.reduceToNat, boxCells, und, TG, SE, SC, TKf, htu, fA, h0, h60, h61, h62, h6, hi, hi0, hx', hA, hB, hC, hD, hE, hS1, hS2, hG, hw1, hw2, hw3, hw4, hsl, hgl, hlen, hlt, loadR, loadP, lay, List.take_succ_cons, List.take_zero, List.drop_nil, List.filter_nil, List.cons_append]
      refine hk2 _ _ ?_ ?_ ?_ ?_ ?_
      · simp (maxSteps := 5000000) only [SA, SB, SD, R, guardAt, binP, intP, indexAddrP, elemsOf, readCells, lenP, lenAt, resultsP, resultP, oneOr, reduceCtorEq, reduceIte, Nat.reduceEqDiff, Nat.reduceAdd, Nat.zero_add, Nat.reduceMul, Nat.reduceLT, Nat.reduceLeDiff, Int.reduceLT, Int.reduceNeg, Int.reduceLE, appendP, appendAt, letGo, setLoc, locVal, Int.reduceToNat, boxCells, und, h0]
      · simp (maxSteps := 5000000) only [SA, SB, SD, R, guardAt, binP, intP, indexAddrP, elemsOf, readCells, lenP, lenAt, resultsP, resultP, oneOr, reduceCtorEq, reduceIte, Nat.reduceEqDiff, Nat.reduceAdd, Nat.zero_add, Nat.reduceMul, Nat.reduceLT, Nat.reduceLeDiff, Int.reduceLT, Int.reduceNeg, Int.reduceLE, appendP, appendAt, letGo, setLoc, locVal, Int.reduceToNat, boxCells, und, h60]
      · simp (maxSteps := 5000000) only [SA, SB, SD, R, guardAt, binP, intP, indexAddrP, elemsOf, readCells, lenP, lenAt, resultsP, resultP, oneOr, reduceCtorEq, reduceIte, Nat.reduceEqDiff, Nat.reduceAdd, Nat.zero_add, Nat.reduceMul, Nat.reduceLT, Nat.reduceLeDiff, Int.reduceLT, Int.reduceNeg, Int.reduceLE, appendP, appendAt, letGo, setLoc, locVal, Int.reduceToNat, boxCells, und, h61]
      · simp (maxSteps := 5000000) only [SA, SB, SD, R, guardAt, binP, intP, indexAddrP, elemsOf, readCells, lenP, lenAt, resultsP, resultP, oneOr, reduceCtorEq, reduceIte, Nat.reduceEqDiff, Nat.reduceAdd, Nat.zero_add, Nat.reduceMul, Nat.reduceLT, Nat.reduceLeDiff, Int.reduceLT, Int.reduceNeg, Int.reduceLE, appendP, appendAt, letGo, setLoc, locVal, Int.reduceToNat, boxCells, und]
      · simp (maxSteps := 5000000) only [SA, SB, SD, R, guardAt, binP, intP, indexAddrP, elemsOf, readCells, lenP, lenAt, resultsP, resultP, oneOr, reduceCtorEq, reduceIte, Nat.reduceEqDiff, Nat.reduceAdd, Nat.zero_add, Nat.reduceMul, Nat.reduceLT, Nat.reduceLeDiff, Int.reduceLT, Int.reduceNeg, Int.reduceLE, appendP, appendAt, letGo, setLoc, locVal, Int.reduceToNat, boxCells, und]
end Go.HH
