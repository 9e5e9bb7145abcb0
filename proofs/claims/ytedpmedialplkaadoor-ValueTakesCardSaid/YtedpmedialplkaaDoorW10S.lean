/-
  Joined: W8, W9, W10.
-/
import Derived.Test.YtedpmedialplkaaDoorWTJ
import Derived.Test.YtedpmedialplkaaDoorW7S
namespace Go.HH
open Go Go.Proofs
set_option maxRecDepth 100000
set_option linter.unusedSimpArgs false
set_option linter.unusedVariables false
/-- a value in a box -/
def vb (v : Vl) : PBox := .cells 26 [.int .i64 v.1, .int .i64 v.2.1, .str v.2.2]
theorem jl1 (J : List PBox) (X : PBox) : (J ++ [X])[J.length]? = some X := by simp
theorem jl2 (J : List PBox) (X Y : PBox) : (J ++ [X, Y])[J.length]? = some X := by simp
theorem jl3 (J : List PBox) (X Y : PBox) : (J ++ [X, Y])[J.length + 1]? = some Y := by simp
theorem js1 (J : List PBox) (X Z : PBox) : (J ++ [X]).set J.length Z = J ++ [Z] := by simp [List.set_append]
theorem js2 (J : List PBox) (X Y Z : PBox) : (J ++ [X, Y]).set J.length Z = J ++ [Z, Y] := by simp [List.set_append]
theorem js3 (J : List PBox) (X Y Z : PBox) : (J ++ [X, Y]).set (J.length + 1) Z = J ++ [X, Z] := by simp [List.set_append]
theorem xTake_1 (J : List PBox) (l : List UInt8) (hl : l.length ≤ 900000) (l1 : List UInt8) (e1 : Int) (hr : rdI l 0 = (1, l1, e1)) (n : Int) (l2 : List UInt8) (e2 : Int) (hr2 : rdI l1 e1 = (n, l2, e2)) (h1 : l1.length ≤ 900000) : ∃ X Y, callL CC 31 [.bp 0 0] (RdW l 0 :: J) = some (.ret (vlV (tkF (((1 : Int), n, ([] : List UInt8)), l2, e2))), RdW ((((1 : Int), n, ([] : List UInt8)), l2, e2)).2.1 (tkE (((1 : Int), n, ([] : List UInt8)), l2, e2)) :: (J ++ [X, Y])) := by
  rw [callL_enter (fn := Tryd.f31) (c := Tryd.f31.body.getD .skip) rfl rfl fat_value_Take rfl ok_value_Take (Nat.le_of_ble_eq_true rfl)]
  obtain ⟨tu, htu⟩ := VLs
  have b0 := buildVl0
  have b1 := buildVl1 1
  have i1 := op_w_RInt (RdW l 0 :: (J ++ [zb])) 0 l 0 hl rfl
  rw [hr] at i1
  simp only [List.set_cons_zero] at i1
  have i2 := op_w_RInt (RdW l1 e1 :: (J ++ [zb, PBox.cells 26 [.int .i64 1, .int .i64 0, .str []]])) 0 l1 e1 h1 rfl
  rw [hr2] at i2
  simp only [List.set_cons_zero] at i2
  have hck := op_value_Check (1, n, [])
  have her := op_w_Err (RdW l2 e2 :: (J ++ [zb, PBox.cells 26 [.int .i64 1, .int .i64 n, .str []]])) 0 l2 e2 rfl
  have hfa := op_w_Fail (RdW l2 e2 :: (J ++ [zb, PBox.cells 26 [.int .i64 1, .int .i64 n, .str []]])) 0 l2 e2 4 rfl
  have hf4 := op_w_Err (RdW l2 4 :: (J ++ [zb, PBox.cells 26 [.int .i64 1, .int .i64 n, .str []]])) 0 l2 4 rfl
  simp only [List.set_cons_succ, List.set_cons_zero] at hfa
  unfold tkF tkE
  simp only
  generalize ckV (1, n, []) = ck at *
  by_cases e0 : e2 = 0
  · rw [if_pos e0] at hfa
    subst e0
    by_cases c0 : ck = 0
    · have c0p : (ck != 0) = false := by simp [c0]
      subst c0
      simp only [ne_eq, not_true_eq_false, if_false]
      unfold vlV zb RdW at *
      obtain ⟨ev, eo, so, co, ⟨hev, hco⟩, R⟩ := RULES CC; rw [← hev]
      rw [← hco] at i1 i2 hck her
      simp only [fpart, part', Tryd.f31, Option.getD]
      simp (maxSteps := 5000000) only [SA, SB, SD, R, guardAt, binP, intP, indexAddrP, elemsOf, readCells, lenP, lenAt, resultsP, resultP, oneOr, reduceCtorEq, reduceIte, Nat.reduceEqDiff, Nat.reduceAdd, Nat.zero_add, Nat.reduceMul, Nat.reduceLT, Nat.reduceLeDiff, Int.reduceLT, Int.reduceNeg, Int.reduceLE, appendP, appendAt, letGo, setLoc, locVal, Int.reduceToNat, boxCells, und, TG, SE, SC, unP, htu, VLf, extP, loadR, loadP, storeR, storeK, storeCellsP, laid, lay, setBox, nchP, callAl, jl1, jl2, jl3, js1, js2, js3, List.append_assoc, List.nil_append, List.length_cons, List.length_append, List.length_nil, List.set_cons_zero, List.set_cons_succ, List.getElem?_cons_zero, List.getElem?_cons_succ, Option.map_some, Nat.le_refl, List.take_succ_cons, List.take_zero, List.drop_nil, List.filter_nil, List.cons_append, Int.reduceBEq, Int.reduceBNe, Int.reduceGT, Int.reduceGE, Int.reduceLE, Bool.not_true, Bool.not_false, i1, i2, hck, her, b0, b1]
      exact ⟨_, _, rfl⟩
    · have c0p : (ck != 0) = true := by simpa using c0
      have ht : (if (0 : Int) ≠ 0 then (0 : Int) else if ck ≠ 0 then 4 else 0) = 4 := by rw [if_neg (fun h => h rfl), if_pos c0]
      rw [ht, if_pos (by decide)]
      unfold vlV zb RdW at *
      obtain ⟨ev, eo, so, co, ⟨hev, hco⟩, R⟩ := RULES CC; rw [← hev]
      rw [← hco] at i1 i2 hck hfa hf4
      simp only [fpart, part', Tryd.f31, Option.getD]
      simp (maxSteps := 5000000) only [SA, SB, SD, R, guardAt, binP, intP, indexAddrP, elemsOf, readCells, lenP, lenAt, resultsP, resultP, oneOr, reduceCtorEq, reduceIte, Nat.reduceEqDiff, Nat.reduceAdd, Nat.zero_add, Nat.reduceMul, Nat.reduceLT, Nat.reduceLeDiff, Int.reduceLT, Int.reduceNeg, Int.reduceLE, appendP, appendAt, letGo, setLoc, locVal, Int.reduceToNat, boxCells, und, TG, SE, SC, unP, htu, VLf, extP, loadR, loadP, storeR, storeK, storeCellsP, laid, lay, setBox, nchP, callAl, jl1, jl2, jl3, js1, js2, js3, List.append_assoc, List.nil_append, List.length_cons, List.length_append, List.length_nil, List.set_cons_zero, List.set_cons_succ, List.getElem?_cons_zero, List.getElem?_cons_succ, Option.map_some, Nat.le_refl, List.take_succ_cons, List.take_zero, List.drop_nil, List.filter_nil, List.cons_append, Int.reduceBEq, Int.reduceBNe, Int.reduceGT, Int.reduceGE, Int.reduceLE, Bool.not_true, Bool.not_false, i1, i2, hck, c0p, hfa, hf4, b0, b1]
      exact ⟨_, _, rfl⟩
  · have e0p : (e2 != 0) = true := by simpa using e0
    rw [if_neg e0] at hfa
    rw [if_pos e0, if_pos e0]
    by_cases c0 : ck = 0
    · have c0p : (ck != 0) = false := by simp [c0]
      subst c0
      unfold vlV zb RdW at *
      obtain ⟨ev, eo, so, co, ⟨hev, hco⟩, R⟩ := RULES CC; rw [← hev]
      rw [← hco] at i1 i2 hck her
      simp only [fpart, part', Tryd.f31, Option.getD]
      simp (maxSteps := 5000000) only [SA, SB, SD, R, guardAt, binP, intP, indexAddrP, elemsOf, readCells, lenP, lenAt, resultsP, resultP, oneOr, reduceCtorEq, reduceIte, Nat.reduceEqDiff, Nat.reduceAdd, Nat.zero_add, Nat.reduceMul, Nat.reduceLT, Nat.reduceLeDiff, Int.reduceLT, Int.reduceNeg, Int.reduceLE, appendP, appendAt, letGo, setLoc, locVal, Int.reduceToNat, boxCells, und, TG, SE, SC, unP, htu, VLf, extP, loadR, loadP, storeR, storeK, storeCellsP, laid, lay, setBox, nchP, callAl, jl1, jl2, jl3, js1, js2, js3, List.append_assoc, List.nil_append, List.length_cons, List.length_append, List.length_nil, List.set_cons_zero, List.set_cons_succ, List.getElem?_cons_zero, List.getElem?_cons_succ, Option.map_some, Nat.le_refl, List.take_succ_cons, List.take_zero, List.drop_nil, List.filter_nil, List.cons_append, Int.reduceBEq, Int.reduceBNe, Int.reduceGT, Int.reduceGE, Int.reduceLE, Bool.not_true, Bool.not_false, i1, i2, hck, e0p, her, b0, b1]
      exact ⟨_, _, rfl⟩
    · have c0p : (ck != 0) = true := by simpa using c0
      unfold vlV zb RdW at *
      obtain ⟨ev, eo, so, co, ⟨hev, hco⟩, R⟩ := RULES CC; rw [← hev]
      rw [← hco] at i1 i2 hck hfa her
      simp only [fpart, part', Tryd.f31, Option.getD]
      simp (maxSteps := 5000000) only [SA, SB, SD, R, guardAt, binP, intP, indexAddrP, elemsOf, readCells, lenP, lenAt, resultsP, resultP, oneOr, reduceCtorEq, reduceIte, Nat.reduceEqDiff, Nat.reduceAdd, Nat.zero_add, Nat.reduceMul, Nat.reduceLT, Nat.reduceLeDiff, Int.reduceLT, Int.reduceNeg, Int.reduceLE, appendP, appendAt, letGo, setLoc, locVal, Int.reduceToNat, boxCells, und, TG, SE, SC, unP, htu, VLf, extP, loadR, loadP, storeR, storeK, storeCellsP, laid, lay, setBox, nchP, callAl, jl1, jl2, jl3, js1, js2, js3, List.append_assoc, List.nil_append, List.length_cons, List.length_append, List.length_nil, List.set_cons_zero, List.set_cons_succ, List.getElem?_cons_zero, List.getElem?_cons_succ, Option.map_some, Nat.le_refl, List.take_succ_cons, List.take_zero, List.drop_nil, List.filter_nil, List.cons_append, Int.reduceBEq, Int.reduceBNe, Int.reduceGT, Int.reduceGE, Int.reduceLE, Bool.not_true, Bool.not_false, i1, i2, hck, c0p, hfa, e0p, her, b0, b1]
      exact ⟨_, _, rfl⟩
theorem xTake_2 (J : List PBox) (l : List UInt8) (hl : l.length ≤ 900000) (l1 : List UInt8) (e1 : Int) (hr : rdI l 0 = (2, l1, e1)) (n : Int) (l2 : List UInt8) (e2 : Int) (hr2 : rdI l1 e1 = (n, l2, e2)) (h1 : l1.length ≤ 900000) : ∃ X Y, callL CC 31 [.bp 0 0] (RdW l 0 :: J) = some (.ret (vlV (tkF (((2 : Int), n, ([] : List UInt8)), l2, e2))), RdW ((((2 : Int), n, ([] : List UInt8)), l2, e2)).2.1 (tkE (((2 : Int), n, ([] : List UInt8)), l2, e2)) :: (J ++ [X, Y])) := by
  rw [callL_enter (fn := Tryd.f31) (c := Tryd.f31.body.getD .skip) rfl rfl fat_value_Take rfl ok_value_Take (Nat.le_of_ble_eq_true rfl)]
  obtain ⟨tu, htu⟩ := VLs
  have b0 := buildVl0
  have b1 := buildVl1 2
  have i1 := op_w_RInt (RdW l 0 :: (J ++ [zb])) 0 l 0 hl rfl
  rw [hr] at i1
  simp only [List.set_cons_zero] at i1
  have i2 := op_w_RInt (RdW l1 e1 :: (J ++ [zb, PBox.cells 26 [.int .i64 2, .int .i64 0, .str []]])) 0 l1 e1 h1 rfl
  rw [hr2] at i2
  simp only [List.set_cons_zero] at i2
  have hck := op_value_Check (2, n, [])
  have her := op_w_Err (RdW l2 e2 :: (J ++ [zb, PBox.cells 26 [.int .i64 2, .int .i64 n, .str []]])) 0 l2 e2 rfl
  have hfa := op_w_Fail (RdW l2 e2 :: (J ++ [zb, PBox.cells 26 [.int .i64 2, .int .i64 n, .str []]])) 0 l2 e2 4 rfl
  have hf4 := op_w_Err (RdW l2 4 :: (J ++ [zb, PBox.cells 26 [.int .i64 2, .int .i64 n, .str []]])) 0 l2 4 rfl
  simp only [List.set_cons_succ, List.set_cons_zero] at hfa
  unfold tkF tkE
  simp only
  generalize ckV (2, n, []) = ck at *
  by_cases e0 : e2 = 0
  · rw [if_pos e0] at hfa
    subst e0
    by_cases c0 : ck = 0
    · have c0p : (ck != 0) = false := by simp [c0]
      subst c0
      simp only [ne_eq, not_true_eq_false, if_false]
      unfold vlV zb RdW at *
      obtain ⟨ev, eo, so, co, ⟨hev, hco⟩, R⟩ := RULES CC; rw [← hev]
      rw [← hco] at i1 i2 hck her
      simp only [fpart, part', Tryd.f31, Option.getD]
      simp (maxSteps := 5000000) only [SA, SB, SD, R, guardAt, binP, intP, indexAddrP, elemsOf, readCells, lenP, lenAt, resultsP, resultP, oneOr, reduceCtorEq, reduceIte, Nat.reduceEqDiff, Nat.reduceAdd, Nat.zero_add, Nat.reduceMul, Nat.reduceLT, Nat.reduceLeDiff, Int.reduceLT, Int.reduceNeg, Int.reduceLE, appendP, appendAt, letGo, setLoc, locVal, Int.reduceToNat, boxCells, und, TG, SE, SC, unP, htu, VLf, extP, loadR, loadP, storeR, storeK, storeCellsP, laid, lay, setBox, nchP, callAl, jl1, jl2, jl3, js1, js2, js3, List.append_assoc, List.nil_append, List.length_cons, List.length_append, List.length_nil, List.set_cons_zero, List.set_cons_succ, List.getElem?_cons_zero, List.getElem?_cons_succ, Option.map_some, Nat.le_refl, List.take_succ_cons, List.take_zero, List.drop_nil, List.filter_nil, List.cons_append, Int.reduceBEq, Int.reduceBNe, Int.reduceGT, Int.reduceGE, Int.reduceLE, Bool.not_true, Bool.not_false, i1, i2, hck, her, b0, b1]
      exact ⟨_, _, rfl⟩
    · have c0p : (ck != 0) = true := by simpa using c0
      have ht : (if (0 : Int) ≠ 0 then (0 : Int) else if ck ≠ 0 then 4 else 0) = 4 := by rw [if_neg (fun h => h rfl), if_pos c0]
      rw [ht, if_pos (by decide)]
      unfold vlV zb RdW at *
      obtain ⟨ev, eo, so, co, ⟨hev, hco⟩, R⟩ := RULES CC; rw [← hev]
      rw [← hco] at i1 i2 hck hfa hf4
      simp only [fpart, part', Tryd.f31, Option.getD]
      simp (maxSteps := 5000000) only [SA, SB, SD, R, guardAt, binP, intP, indexAddrP, elemsOf, readCells, lenP, lenAt, resultsP, resultP, oneOr, reduceCtorEq, reduceIte, Nat.reduceEqDiff, Nat.reduceAdd, Nat.zero_add, Nat.reduceMul, Nat.reduceLT, Nat.reduceLeDiff, Int.reduceLT, Int.reduceNeg, Int.reduceLE, appendP, appendAt, letGo, setLoc, locVal, Int.reduceToNat, boxCells, und, TG, SE, SC, unP, htu, VLf, extP, loadR, loadP, storeR, storeK, storeCellsP, laid, lay, setBox, nchP, callAl, jl1, jl2, jl3, js1, js2, js3, List.append_assoc, List.nil_append, List.length_cons, List.length_append, List.length_nil, List.set_cons_zero, List.set_cons_succ, List.getElem?_cons_zero, List.getElem?_cons_succ, Option.map_some, Nat.le_refl, List.take_succ_cons, List.take_zero, List.drop_nil, List.filter_nil, List.cons_append, Int.reduceBEq, Int.reduceBNe, Int.reduceGT, Int.reduceGE, Int.reduceLE, Bool.not_true, Bool.not_false, i1, i2, hck, c0p, hfa, hf4, b0, b1]
      exact ⟨_, _, rfl⟩
  · have e0p : (e2 != 0) = true := by simpa using e0
    rw [if_neg e0] at hfa
    rw [if_pos e0, if_pos e0]
    by_cases c0 : ck = 0
    · have c0p : (ck != 0) = false := by simp [c0]
      subst c0
      unfold vlV zb RdW at *
      obtain ⟨ev, eo, so, co, ⟨hev, hco⟩, R⟩ := RULES CC; rw [← hev]
      rw [← hco] at i1 i2 hck her
      simp only [fpart, part', Tryd.f31, Option.getD]
      simp (maxSteps := 5000000) only [SA, SB, SD, R, guardAt, binP, intP, indexAddrP, elemsOf, readCells, lenP, lenAt, resultsP, resultP, oneOr, reduceCtorEq, reduceIte, Nat.reduceEqDiff, Nat.reduceAdd, Nat.zero_add, Nat.reduceMul, Nat.reduceLT, Nat.reduceLeDiff, Int.reduceLT, Int.reduceNeg, Int.reduceLE, appendP, appendAt, letGo, setLoc, locVal, Int.reduceToNat, boxCells, und, TG, SE, SC, unP, htu, VLf, extP, loadR, loadP, storeR, storeK, storeCellsP, laid, lay, setBox, nchP, callAl, jl1, jl2, jl3, js1, js2, js3, List.append_assoc, List.nil_append, List.length_cons, List.length_append, List.length_nil, List.set_cons_zero, List.set_cons_succ, List.getElem?_cons_zero, List.getElem?_cons_succ, Option.map_some, Nat.le_refl, List.take_succ_cons, List.take_zero, List.drop_nil, List.filter_nil, List.cons_append, Int.reduceBEq, Int.reduceBNe, Int.reduceGT, Int.reduceGE, Int.reduceLE, Bool.not_true, Bool.not_false, i1, i2, hck, e0p, her, b0, b1]
      exact ⟨_, _, rfl⟩
    · have c0p : (ck != 0) = true := by simpa using c0
      unfold vlV zb RdW at *
      obtain ⟨ev, eo, so, co, ⟨hev, hco⟩, R⟩ := RULES CC; rw [← hev]
      rw [← hco] at i1 i2 hck hfa her
      simp only [fpart, part', Tryd.f31, Option.getD]
      simp (maxSteps := 5000000) only [SA, SB, SD, R, guardAt, binP, intP, indexAddrP, elemsOf, readCells, lenP, lenAt, resultsP, resultP, oneOr, reduceCtorEq, reduceIte, Nat.reduceEqDiff, Nat.reduceAdd, Nat.zero_add, Nat.reduceMul, Nat.reduceLT, Nat.reduceLeDiff, Int.reduceLT, Int.reduceNeg, Int.reduceLE, appendP, appendAt, letGo, setLoc, locVal, Int.reduceToNat, boxCells, und, TG, SE, SC, unP, htu, VLf, extP, loadR, loadP, storeR, storeK, storeCellsP, laid, lay, setBox, nchP, callAl, jl1, jl2, jl3, js1, js2, js3, List.append_assoc, List.nil_append, List.length_cons, List.length_append, List.length_nil, List.set_cons_zero, List.set_cons_succ, List.getElem?_cons_zero, List.getElem?_cons_succ, Option.map_some, Nat.le_refl, List.take_succ_cons, List.take_zero, List.drop_nil, List.filter_nil, List.cons_append, Int.reduceBEq, Int.reduceBNe, Int.reduceGT, Int.reduceGE, Int.reduceLE, Bool.not_true, Bool.not_false, i1, i2, hck, c0p, hfa, e0p, her, b0, b1]
      exact ⟨_, _, rfl⟩
theorem xTake_3 (J : List PBox) (l : List UInt8) (hl : l.length ≤ 900000) (l1 : List UInt8) (e1 : Int) (hr : rdI l 0 = (3, l1, e1)) (n : Int) (l2 : List UInt8) (e2 : Int) (hr2 : rdI l1 e1 = (n, l2, e2)) (h1 : l1.length ≤ 900000) : ∃ X Y, callL CC 31 [.bp 0 0] (RdW l 0 :: J) = some (.ret (vlV (tkF (((3 : Int), n, ([] : List UInt8)), l2, e2))), RdW ((((3 : Int), n, ([] : List UInt8)), l2, e2)).2.1 (tkE (((3 : Int), n, ([] : List UInt8)), l2, e2)) :: (J ++ [X, Y])) := by
  rw [callL_enter (fn := Tryd.f31) (c := Tryd.f31.body.getD .skip) rfl rfl fat_value_Take rfl ok_value_Take (Nat.le_of_ble_eq_true rfl)]
  obtain ⟨tu, htu⟩ := VLs
  have b0 := buildVl0
  have b1 := buildVl1 3
  have i1 := op_w_RInt (RdW l 0 :: (J ++ [zb])) 0 l 0 hl rfl
  rw [hr] at i1
  simp only [List.set_cons_zero] at i1
  have i2 := op_w_RInt (RdW l1 e1 :: (J ++ [zb, PBox.cells 26 [.int .i64 3, .int .i64 0, .str []]])) 0 l1 e1 h1 rfl
  rw [hr2] at i2
  simp only [List.set_cons_zero] at i2
  have hck := op_value_Check (3, n, [])
  have her := op_w_Err (RdW l2 e2 :: (J ++ [zb, PBox.cells 26 [.int .i64 3, .int .i64 n, .str []]])) 0 l2 e2 rfl
  have hfa := op_w_Fail (RdW l2 e2 :: (J ++ [zb, PBox.cells 26 [.int .i64 3, .int .i64 n, .str []]])) 0 l2 e2 4 rfl
  have hf4 := op_w_Err (RdW l2 4 :: (J ++ [zb, PBox.cells 26 [.int .i64 3, .int .i64 n, .str []]])) 0 l2 4 rfl
  simp only [List.set_cons_succ, List.set_cons_zero] at hfa
  unfold tkF tkE
  simp only
  generalize ckV (3, n, []) = ck at *
  by_cases e0 : e2 = 0
  · rw [if_pos e0] at hfa
    subst e0
    by_cases c0 : ck = 0
    · have c0p : (ck != 0) = false := by simp [c0]
      subst c0
      simp only [ne_eq, not_true_eq_false, if_false]
      unfold vlV zb RdW at *
      obtain ⟨ev, eo, so, co, ⟨hev, hco⟩, R⟩ := RULES CC; rw [← hev]
      rw [← hco] at i1 i2 hck her
      simp only [fpart, part', Tryd.f31, Option.getD]
      simp (maxSteps := 5000000) only [SA, SB, SD, R, guardAt, binP, intP, indexAddrP, elemsOf, readCells, lenP, lenAt, resultsP, resultP, oneOr, reduceCtorEq, reduceIte, Nat.reduceEqDiff, Nat.reduceAdd, Nat.zero_add, Nat.reduceMul, Nat.reduceLT, Nat.reduceLeDiff, Int.reduceLT, Int.reduceNeg, Int.reduceLE, appendP, appendAt, letGo, setLoc, locVal, Int.reduceToNat, boxCells, und, TG, SE, SC, unP, htu, VLf, extP, loadR, loadP, storeR, storeK, storeCellsP, laid, lay, setBox, nchP, callAl, jl1, jl2, jl3, js1, js2, js3, List.append_assoc, List.nil_append, List.length_cons, List.length_append, List.length_nil, List.set_cons_zero, List.set_cons_succ, List.getElem?_cons_zero, List.getElem?_cons_succ, Option.map_some, Nat.le_refl, List.take_succ_cons, List.take_zero, List.drop_nil, List.filter_nil, List.cons_append, Int.reduceBEq, Int.reduceBNe, Int.reduceGT, Int.reduceGE, Int.reduceLE, Bool.not_true, Bool.not_false, i1, i2, hck, her, b0, b1]
      exact ⟨_, _, rfl⟩
    · have c0p : (ck != 0) = true := by simpa using c0
      have ht : (if (0 : Int) ≠ 0 then (0 : Int) else if ck ≠ 0 then 4 else 0) = 4 := by rw [if_neg (fun h => h rfl), if_pos c0]
      rw [ht, if_pos (by decide)]
      unfold vlV zb RdW at *
      obtain ⟨ev, eo, so, co, ⟨hev, hco⟩, R⟩ := RULES CC; rw [← hev]
      rw [← hco] at i1 i2 hck hfa hf4
      simp only [fpart, part', Tryd.f31, Option.getD]
      simp (maxSteps := 5000000) only [SA, SB, SD, R, guardAt, binP, intP, indexAddrP, elemsOf, readCells, lenP, lenAt, resultsP, resultP, oneOr, reduceCtorEq, reduceIte, Nat.reduceEqDiff, Nat.reduceAdd, Nat.zero_add, Nat.reduceMul, Nat.reduceLT, Nat.reduceLeDiff, Int.reduceLT, Int.reduceNeg, Int.reduceLE, appendP, appendAt, letGo, setLoc, locVal, Int.reduceToNat, boxCells, und, TG, SE, SC, unP, htu, VLf, extP, loadR, loadP, storeR, storeK, storeCellsP, laid, lay, setBox, nchP, callAl, jl1, jl2, jl3, js1, js2, js3, List.append_assoc, List.nil_append, List.length_cons, List.length_append, List.length_nil, List.set_cons_zero, List.set_cons_succ, List.getElem?_cons_zero, List.getElem?_cons_succ, Option.map_some, Nat.le_refl, List.take_succ_cons, List.take_zero, List.drop_nil, List.filter_nil, List.cons_append, Int.reduceBEq, Int.reduceBNe, Int.reduceGT, Int.reduceGE, Int.reduceLE, Bool.not_true, Bool.not_false, i1, i2, hck, c0p, hfa, hf4, b0, b1]
      exact ⟨_, _, rfl⟩
  · have e0p : (e2 != 0) = true := by simpa using e0
    rw [if_neg e0] at hfa
    rw [if_pos e0, if_pos e0]
    by_cases c0 : ck = 0
    · have c0p : (ck != 0) = false := by simp [c0]
      subst c0
      unfold vlV zb RdW at *
      obtain ⟨ev, eo, so, co, ⟨hev, hco⟩, R⟩ := RULES CC; rw [← hev]
      rw [← hco] at i1 i2 hck her
      simp only [fpart, part', Tryd.f31, Option.getD]
      simp (maxSteps := 5000000) only [SA, SB, SD, R, guardAt, binP, intP, indexAddrP, elemsOf, readCells, lenP, lenAt, resultsP, resultP, oneOr, reduceCtorEq, reduceIte, Nat.reduceEqDiff, Nat.reduceAdd, Nat.zero_add, Nat.reduceMul, Nat.reduceLT, Nat.reduceLeDiff, Int.reduceLT, Int.reduceNeg, Int.reduceLE, appendP, appendAt, letGo, setLoc, locVal, Int.reduceToNat, boxCells, und, TG, SE, SC, unP, htu, VLf, extP, loadR, loadP, storeR, storeK, storeCellsP, laid, lay, setBox, nchP, callAl, jl1, jl2, jl3, js1, js2, js3, List.append_assoc, List.nil_append, List.length_cons, List.length_append, List.length_nil, List.set_cons_zero, List.set_cons_succ, List.getElem?_cons_zero, List.getElem?_cons_succ, Option.map_some, Nat.le_refl, List.take_succ_cons, List.take_zero, List.drop_nil, List.filter_nil, List.cons_append, Int.reduceBEq, Int.reduceBNe, Int.reduceGT, Int.reduceGE, Int.reduceLE, Bool.not_true, Bool.not_false, i1, i2, hck, e0p, her, b0, b1]
      exact ⟨_, _, rfl⟩
    · have c0p : (ck != 0) = true := by simpa using c0
      unfold vlV zb RdW at *
      obtain ⟨ev, eo, so, co, ⟨hev, hco⟩, R⟩ := RULES CC; rw [← hev]
      rw [← hco] at i1 i2 hck hfa her
      simp only [fpart, part', Tryd.f31, Option.getD]
      simp (maxSteps := 5000000) only [SA, SB, SD, R, guardAt, binP, intP, indexAddrP, elemsOf, readCells, lenP, lenAt, resultsP, resultP, oneOr, reduceCtorEq, reduceIte, Nat.reduceEqDiff, Nat.reduceAdd, Nat.zero_add, Nat.reduceMul, Nat.reduceLT, Nat.reduceLeDiff, Int.reduceLT, Int.reduceNeg, Int.reduceLE, appendP, appendAt, letGo, setLoc, locVal, Int.reduceToNat, boxCells, und, TG, SE, SC, unP, htu, VLf, extP, loadR, loadP, storeR, storeK, storeCellsP, laid, lay, setBox, nchP, callAl, jl1, jl2, jl3, js1, js2, js3, List.append_assoc, List.nil_append, List.length_cons, List.length_append, List.length_nil, List.set_cons_zero, List.set_cons_succ, List.getElem?_cons_zero, List.getElem?_cons_succ, Option.map_some, Nat.le_refl, List.take_succ_cons, List.take_zero, List.drop_nil, List.filter_nil, List.cons_append, Int.reduceBEq, Int.reduceBNe, Int.reduceGT, Int.reduceGE, Int.reduceLE, Bool.not_true, Bool.not_false, i1, i2, hck, c0p, hfa, e0p, her, b0, b1]
      exact ⟨_, _, rfl⟩
theorem xTake_4 (J : List PBox) (l : List UInt8) (hl : l.length ≤ 900000) (l1 : List UInt8) (e1 : Int) (hr : rdI l 0 = (4, l1, e1)) (s : List UInt8) (l2 : List UInt8) (e2 : Int) (hr2 : rdT l1 e1 = (s, l2, e2)) (h1 : l1.length ≤ 900000) : ∃ X Y, callL CC 31 [.bp 0 0] (RdW l 0 :: J) = some (.ret (vlV (tkF (((4 : Int), (0 : Int), s), l2, e2))), RdW ((((4 : Int), (0 : Int), s), l2, e2)).2.1 (tkE (((4 : Int), (0 : Int), s), l2, e2)) :: (J ++ [X, Y])) := by
  rw [callL_enter (fn := Tryd.f31) (c := Tryd.f31.body.getD .skip) rfl rfl fat_value_Take rfl ok_value_Take (Nat.le_of_ble_eq_true rfl)]
  obtain ⟨tu, htu⟩ := VLs
  have b0 := buildVl0
  have b1 := buildVl1 4
  have i1 := op_w_RInt (RdW l 0 :: (J ++ [zb])) 0 l 0 hl rfl
  rw [hr] at i1
  simp only [List.set_cons_zero] at i1
  have i2 := op_w_RText (RdW l1 e1 :: (J ++ [zb, PBox.cells 26 [.int .i64 4, .int .i64 0, .str []]])) 0 l1 e1 h1 rfl
  rw [hr2] at i2
  simp only [List.set_cons_zero] at i2
  have hck := op_value_Check (4, 0, s)
  have her := op_w_Err (RdW l2 e2 :: (J ++ [zb, PBox.cells 26 [.int .i64 4, .int .i64 0, .str s]])) 0 l2 e2 rfl
  have hfa := op_w_Fail (RdW l2 e2 :: (J ++ [zb, PBox.cells 26 [.int .i64 4, .int .i64 0, .str s]])) 0 l2 e2 4 rfl
  have hf4 := op_w_Err (RdW l2 4 :: (J ++ [zb, PBox.cells 26 [.int .i64 4, .int .i64 0, .str s]])) 0 l2 4 rfl
  simp only [List.set_cons_succ, List.set_cons_zero] at hfa
  unfold tkF tkE
  simp only
  generalize ckV (4, 0, s) = ck at *
  by_cases e0 : e2 = 0
  · rw [if_pos e0] at hfa
    subst e0
    by_cases c0 : ck = 0
    · have c0p : (ck != 0) = false := by simp [c0]
      subst c0
      simp only [ne_eq, not_true_eq_false, if_false]
      unfold vlV zb RdW at *
      obtain ⟨ev, eo, so, co, ⟨hev, hco⟩, R⟩ := RULES CC; rw [← hev]
      rw [← hco] at i1 i2 hck her
      simp only [fpart, part', Tryd.f31, Option.getD]
      simp (maxSteps := 5000000) only [SA, SB, SD, R, guardAt, binP, intP, indexAddrP, elemsOf, readCells, lenP, lenAt, resultsP, resultP, oneOr, reduceCtorEq, reduceIte, Nat.reduceEqDiff, Nat.reduceAdd, Nat.zero_add, Nat.reduceMul, Nat.reduceLT, Nat.reduceLeDiff, Int.reduceLT, Int.reduceNeg, Int.reduceLE, appendP, appendAt, letGo, setLoc, locVal, Int.reduceToNat, boxCells, und, TG, SE, SC, unP, htu, VLf, extP, loadR, loadP, storeR, storeK, storeCellsP, laid, lay, setBox, nchP, callAl, jl1, jl2, jl3, js1, js2, js3, List.append_assoc, List.nil_append, List.length_cons, List.length_append, List.length_nil, List.set_cons_zero, List.set_cons_succ, List.getElem?_cons_zero, List.getElem?_cons_succ, Option.map_some, Nat.le_refl, List.take_succ_cons, List.take_zero, List.drop_nil, List.filter_nil, List.cons_append, Int.reduceBEq, Int.reduceBNe, Int.reduceGT, Int.reduceGE, Int.reduceLE, Bool.not_true, Bool.not_false, i1, i2, hck, her, b0, b1]
      exact ⟨_, _, rfl⟩
    · have c0p : (ck != 0) = true := by simpa using c0
      have ht : (if (0 : Int) ≠ 0 then (0 : Int) else if ck ≠ 0 then 4 else 0) = 4 := by rw [if_neg (fun h => h rfl), if_pos c0]
      rw [ht, if_pos (by decide)]
      unfold vlV zb RdW at *
      obtain ⟨ev, eo, so, co, ⟨hev, hco⟩, R⟩ := RULES CC; rw [← hev]
      rw [← hco] at i1 i2 hck hfa hf4
      simp only [fpart, part', Tryd.f31, Option.getD]
      simp (maxSteps := 5000000) only [SA, SB, SD, R, guardAt, binP, intP, indexAddrP, elemsOf, readCells, lenP, lenAt, resultsP, resultP, oneOr, reduceCtorEq, reduceIte, Nat.reduceEqDiff, Nat.reduceAdd, Nat.zero_add, Nat.reduceMul, Nat.reduceLT, Nat.reduceLeDiff, Int.reduceLT, Int.reduceNeg, Int.reduceLE, appendP, appendAt, letGo, setLoc, locVal, Int.reduceToNat, boxCells, und, TG, SE, SC, unP, htu, VLf, extP, loadR, loadP, storeR, storeK, storeCellsP, laid, lay, setBox, nchP, callAl, jl1, jl2, jl3, js1, js2, js3, List.append_assoc, List.nil_append, List.length_cons, List.length_append, List.length_nil, List.set_cons_zero, List.set_cons_succ, List.getElem?_cons_zero, List.getElem?_cons_succ, Option.map_some, Nat.le_refl, List.take_succ_cons, List.take_zero, List.drop_nil, List.filter_nil, List.cons_append, Int.reduceBEq, Int.reduceBNe, Int.reduceGT, Int.reduceGE, Int.reduceLE, Bool.not_true, Bool.not_false, i1, i2, hck, c0p, hfa, hf4, b0, b1]
      exact ⟨_, _, rfl⟩
  · have e0p : (e2 != 0) = true := by simpa using e0
    rw [if_neg e0] at hfa
    rw [if_pos e0, if_pos e0]
    by_cases c0 : ck = 0
    · have c0p : (ck != 0) = false := by simp [c0]
      subst c0
      unfold vlV zb RdW at *
      obtain ⟨ev, eo, so, co, ⟨hev, hco⟩, R⟩ := RULES CC; rw [← hev]
      rw [← hco] at i1 i2 hck her
      simp only [fpart, part', Tryd.f31, Option.getD]
      simp (maxSteps := 5000000) only [SA, SB, SD, R, guardAt, binP, intP, indexAddrP, elemsOf, readCells, lenP, lenAt, resultsP, resultP, oneOr, reduceCtorEq, reduceIte, Nat.reduceEqDiff, Nat.reduceAdd, Nat.zero_add, Nat.reduceMul, Nat.reduceLT, Nat.reduceLeDiff, Int.reduceLT, Int.reduceNeg, Int.reduceLE, appendP, appendAt, letGo, setLoc, locVal, Int.reduceToNat, boxCells, und, TG, SE, SC, unP, htu, VLf, extP, loadR, loadP, storeR, storeK, storeCellsP, laid, lay, setBox, nchP, callAl, jl1, jl2, jl3, js1, js2, js3, List.append_assoc, List.nil_append, List.length_cons, List.length_append, List.length_nil, List.set_cons_zero, List.set_cons_succ, List.getElem?_cons_zero, List.getElem?_cons_succ, Option.map_some, Nat.le_refl, List.take_succ_cons, List.take_zero, List.drop_nil, List.filter_nil, List.cons_append, Int.reduceBEq, Int.reduceBNe, Int.reduceGT, Int.reduceGE, Int.reduceLE, Bool.not_true, Bool.not_false, i1, i2, hck, e0p, her, b0, b1]
      exact ⟨_, _, rfl⟩
    · have c0p : (ck != 0) = true := by simpa using c0
      unfold vlV zb RdW at *
      obtain ⟨ev, eo, so, co, ⟨hev, hco⟩, R⟩ := RULES CC; rw [← hev]
      rw [← hco] at i1 i2 hck hfa her
      simp only [fpart, part', Tryd.f31, Option.getD]
      simp (maxSteps := 5000000) only [SA, SB, SD, R, guardAt, binP, intP, indexAddrP, elemsOf, readCells, lenP, lenAt, resultsP, resultP, oneOr, reduceCtorEq, reduceIte, Nat.reduceEqDiff, Nat.reduceAdd, Nat.zero_add, Nat.reduceMul, Nat.reduceLT, Nat.reduceLeDiff, Int.reduceLT, Int.reduceNeg, Int.reduceLE, appendP, appendAt, letGo, setLoc, locVal, Int.reduceToNat, boxCells, und, TG, SE, SC, unP, htu, VLf, extP, loadR, loadP, storeR, storeK, storeCellsP, laid, lay, setBox, nchP, callAl, jl1, jl2, jl3, js1, js2, js3, List.append_assoc, List.nil_append, List.length_cons, List.length_append, List.length_nil, List.set_cons_zero, List.set_cons_succ, List.getElem?_cons_zero, List.getElem?_cons_succ, Option.map_some, Nat.le_refl, List.take_succ_cons, List.take_zero, List.drop_nil, List.filter_nil, List.cons_append, Int.reduceBEq, Int.reduceBNe, Int.reduceGT, Int.reduceGE, Int.reduceLE, Bool.not_true, Bool.not_false, i1, i2, hck, c0p, hfa, e0p, her, b0, b1]
      exact ⟨_, _, rfl⟩
theorem xTake_o (J : List PBox) (l : List UInt8) (hl : l.length ≤ 900000) (k : Int) (hk : k ≠ 1 ∧ k ≠ 2 ∧ k ≠ 3 ∧ k ≠ 4) (l1 : List UInt8) (e1 : Int) (hr : rdI l 0 = (k, l1, e1)) : ∃ X Y, callL CC 31 [.bp 0 0] (RdW l 0 :: J) = some (.ret (vlV (tkF ((k, (0 : Int), ([] : List UInt8)), l1, e1))), RdW (((k, (0 : Int), ([] : List UInt8)), l1, e1)).2.1 (tkE ((k, (0 : Int), ([] : List UInt8)), l1, e1)) :: (J ++ [X, Y])) := by
  rw [callL_enter (fn := Tryd.f31) (c := Tryd.f31.body.getD .skip) rfl rfl fat_value_Take rfl ok_value_Take (Nat.le_of_ble_eq_true rfl)]
  obtain ⟨tu, htu⟩ := VLs
  have b0 := buildVl0
  have b1 := buildVl1 k
  have k1 : (k == 1) = false := by simpa using hk.1
  have k2 : (k == 2) = false := by simpa using hk.2.1
  have k3 : (k == 3) = false := by simpa using hk.2.2.1
  have k4 : (k == 4) = false := by simpa using hk.2.2.2
  have i1 := op_w_RInt (RdW l 0 :: (J ++ [zb])) 0 l 0 hl rfl
  rw [hr] at i1
  simp only [List.set_cons_zero] at i1
  have hck := op_value_Check (k, 0, [])
  have her := op_w_Err (RdW l1 e1 :: (J ++ [zb, PBox.cells 26 [.int .i64 k, .int .i64 0, .str []]])) 0 l1 e1 rfl
  have hfa := op_w_Fail (RdW l1 e1 :: (J ++ [zb, PBox.cells 26 [.int .i64 k, .int .i64 0, .str []]])) 0 l1 e1 4 rfl
  have hf4 := op_w_Err (RdW l1 4 :: (J ++ [zb, PBox.cells 26 [.int .i64 k, .int .i64 0, .str []]])) 0 l1 4 rfl
  simp only [List.set_cons_succ, List.set_cons_zero] at hfa
  unfold tkF tkE
  simp only
  generalize ckV (k, 0, []) = ck at *
  by_cases e0 : e1 = 0
  · rw [if_pos e0] at hfa
    subst e0
    by_cases c0 : ck = 0
    · have c0p : (ck != 0) = false := by simp [c0]
      subst c0
      simp only [ne_eq, not_true_eq_false, if_false]
      unfold vlV zb RdW at *
      obtain ⟨ev, eo, so, co, ⟨hev, hco⟩, R⟩ := RULES CC; rw [← hev]
      rw [← hco] at i1 hck her
      simp only [fpart, part', Tryd.f31, Option.getD]
      simp (maxSteps := 5000000) only [SA, SB, SD, R, guardAt, binP, intP, indexAddrP, elemsOf, readCells, lenP, lenAt, resultsP, resultP, oneOr, reduceCtorEq, reduceIte, Nat.reduceEqDiff, Nat.reduceAdd, Nat.zero_add, Nat.reduceMul, Nat.reduceLT, Nat.reduceLeDiff, Int.reduceLT, Int.reduceNeg, Int.reduceLE, appendP, appendAt, letGo, setLoc, locVal, Int.reduceToNat, boxCells, und, TG, SE, SC, unP, htu, VLf, extP, loadR, loadP, storeR, storeK, storeCellsP, laid, lay, setBox, nchP, callAl, jl1, jl2, jl3, js1, js2, js3, List.append_assoc, List.nil_append, List.length_cons, List.length_append, List.length_nil, List.set_cons_zero, List.set_cons_succ, List.getElem?_cons_zero, List.getElem?_cons_succ, Option.map_some, Nat.le_refl, List.take_succ_cons, List.take_zero, List.drop_nil, List.filter_nil, List.cons_append, Int.reduceBEq, Int.reduceBNe, Int.reduceGT, Int.reduceGE, Int.reduceLE, Bool.not_true, Bool.not_false, i1, k1, k2, k3, k4, hck, her, b0, b1]
      exact ⟨_, _, rfl⟩
    · have c0p : (ck != 0) = true := by simpa using c0
      have ht : (if (0 : Int) ≠ 0 then (0 : Int) else if ck ≠ 0 then 4 else 0) = 4 := by rw [if_neg (fun h => h rfl), if_pos c0]
      rw [ht, if_pos (by decide)]
      unfold vlV zb RdW at *
      obtain ⟨ev, eo, so, co, ⟨hev, hco⟩, R⟩ := RULES CC; rw [← hev]
      rw [← hco] at i1 hck hfa hf4
      simp only [fpart, part', Tryd.f31, Option.getD]
      simp (maxSteps := 5000000) only [SA, SB, SD, R, guardAt, binP, intP, indexAddrP, elemsOf, readCells, lenP, lenAt, resultsP, resultP, oneOr, reduceCtorEq, reduceIte, Nat.reduceEqDiff, Nat.reduceAdd, Nat.zero_add, Nat.reduceMul, Nat.reduceLT, Nat.reduceLeDiff, Int.reduceLT, Int.reduceNeg, Int.reduceLE, appendP, appendAt, letGo, setLoc, locVal, Int.reduceToNat, boxCells, und, TG, SE, SC, unP, htu, VLf, extP, loadR, loadP, storeR, storeK, storeCellsP, laid, lay, setBox, nchP, callAl, jl1, jl2, jl3, js1, js2, js3, List.append_assoc, List.nil_append, List.length_cons, List.length_append, List.length_nil, List.set_cons_zero, List.set_cons_succ, List.getElem?_cons_zero, List.getElem?_cons_succ, Option.map_some, Nat.le_refl, List.take_succ_cons, List.take_zero, List.drop_nil, List.filter_nil, List.cons_append, Int.reduceBEq, Int.reduceBNe, Int.reduceGT, Int.reduceGE, Int.reduceLE, Bool.not_true, Bool.not_false, i1, k1, k2, k3, k4, hck, c0p, hfa, hf4, b0, b1]
      exact ⟨_, _, rfl⟩
  · have e0p : (e1 != 0) = true := by simpa using e0
    rw [if_neg e0] at hfa
    rw [if_pos e0, if_pos e0]
    by_cases c0 : ck = 0
    · have c0p : (ck != 0) = false := by simp [c0]
      subst c0
      unfold vlV zb RdW at *
      obtain ⟨ev, eo, so, co, ⟨hev, hco⟩, R⟩ := RULES CC; rw [← hev]
      rw [← hco] at i1 hck her
      simp only [fpart, part', Tryd.f31, Option.getD]
      simp (maxSteps := 5000000) only [SA, SB, SD, R, guardAt, binP, intP, indexAddrP, elemsOf, readCells, lenP, lenAt, resultsP, resultP, oneOr, reduceCtorEq, reduceIte, Nat.reduceEqDiff, Nat.reduceAdd, Nat.zero_add, Nat.reduceMul, Nat.reduceLT, Nat.reduceLeDiff, Int.reduceLT, Int.reduceNeg, Int.reduceLE, appendP, appendAt, letGo, setLoc, locVal, Int.reduceToNat, boxCells, und, TG, SE, SC, unP, htu, VLf, extP, loadR, loadP, storeR, storeK, storeCellsP, laid, lay, setBox, nchP, callAl, jl1, jl2, jl3, js1, js2, js3, List.append_assoc, List.nil_append, List.length_cons, List.length_append, List.length_nil, List.set_cons_zero, List.set_cons_succ, List.getElem?_cons_zero, List.getElem?_cons_succ, Option.map_some, Nat.le_refl, List.take_succ_cons, List.take_zero, List.drop_nil, List.filter_nil, List.cons_append, Int.reduceBEq, Int.reduceBNe, Int.reduceGT, Int.reduceGE, Int.reduceLE, Bool.not_true, Bool.not_false, i1, k1, k2, k3, k4, hck, e0p, her, b0, b1]
      exact ⟨_, _, rfl⟩
    · have c0p : (ck != 0) = true := by simpa using c0
      unfold vlV zb RdW at *
      obtain ⟨ev, eo, so, co, ⟨hev, hco⟩, R⟩ := RULES CC; rw [← hev]
      rw [← hco] at i1 hck hfa her
      simp only [fpart, part', Tryd.f31, Option.getD]
      simp (maxSteps := 5000000) only [SA, SB, SD, R, guardAt, binP, intP, indexAddrP, elemsOf, readCells, lenP, lenAt, resultsP, resultP, oneOr, reduceCtorEq, reduceIte, Nat.reduceEqDiff, Nat.reduceAdd, Nat.zero_add, Nat.reduceMul, Nat.reduceLT, Nat.reduceLeDiff, Int.reduceLT, Int.reduceNeg, Int.reduceLE, appendP, appendAt, letGo, setLoc, locVal, Int.reduceToNat, boxCells, und, TG, SE, SC, unP, htu, VLf, extP, loadR, loadP, storeR, storeK, storeCellsP, laid, lay, setBox, nchP, callAl, jl1, jl2, jl3, js1, js2, js3, List.append_assoc, List.nil_append, List.length_cons, List.length_append, List.length_nil, List.set_cons_zero, List.set_cons_succ, List.getElem?_cons_zero, List.getElem?_cons_succ, Option.map_some, Nat.le_refl, List.take_succ_cons, List.take_zero, List.drop_nil, List.filter_nil, List.cons_append, Int.reduceBEq, Int.reduceBNe, Int.reduceGT, Int.reduceGE, Int.reduceLE, Bool.not_true, Bool.not_false, i1, k1, k2, k3, k4, hck, c0p, hfa, e0p, her, b0, b1]
      exact ⟨_, _, rfl⟩
theorem call_xTake (J : List PBox) (l : List UInt8) (hl : l.length ≤ 900000) : ∃ X Y, callL CC 31 [.bp 0 0] (RdW l 0 :: J) = some (.ret (vlV (tkF (tkA l))), RdW ((tkA l)).2.1 (tkE (tkA l)) :: (J ++ [X, Y])) := by
  unfold tkA
  rcases hr : rdI l 0 with ⟨k, l1, e1⟩
  simp only
  by_cases k1 : k = 1
  · subst k1
    rw [if_pos (.inl rfl)]
    rcases hr2 : rdI l1 e1 with ⟨n, l2, e2⟩
    exact xTake_1 J l hl l1 e1 hr n l2 e2 hr2 (by have := rdI_len l 0; rw [hr] at this; simp only at this; omega)
  by_cases k2 : k = 2
  · subst k2
    rw [if_pos (.inr (.inl rfl))]
    rcases hr2 : rdI l1 e1 with ⟨n, l2, e2⟩
    exact xTake_2 J l hl l1 e1 hr n l2 e2 hr2 (by have := rdI_len l 0; rw [hr] at this; simp only at this; omega)
  by_cases k3 : k = 3
  · subst k3
    rw [if_pos (.inr (.inr rfl))]
    rcases hr2 : rdI l1 e1 with ⟨n, l2, e2⟩
    exact xTake_3 J l hl l1 e1 hr n l2 e2 hr2 (by have := rdI_len l 0; rw [hr] at this; simp only at this; omega)
  rw [if_neg (by omega)]
  by_cases k4 : k = 4
  · subst k4
    rw [if_pos rfl]
    rcases hr2 : rdT l1 e1 with ⟨s, l2, e2⟩
    exact xTake_4 J l hl l1 e1 hr s l2 e2 hr2 (by have := rdI_len l 0; rw [hr] at this; simp only at this; omega)
  rw [if_neg k4]
  exact xTake_o J l hl k ⟨k1, k2, k3, k4⟩ l1 e1 hr
theorem vb_under (n : Nat) (v : Vl) : (vb v).under n = true := rfl
theorem op_xTake (V : List Vl) (l : List UInt8) (hl : l.length ≤ 900000) : callOp CC (callL CC) 31 [.bp 0 0] (RdW l 0 :: V.map vb) = some (.ret (vlV (tkF (tkA l))), RdW (tkA l).2.1 (tkE (tkA l)) :: V.map vb) := by
  obtain ⟨X, Y, h⟩ := call_xTake (V.map vb) l hl
  unfold callOp
  rw [if_pos (by rfl), h]
  simp only
  have ht : truncB (RdW l 0 :: V.map vb).length (.ret (vlV (tkF (tkA l)))) (RdW (tkA l).2.1 (tkE (tkA l)) :: (V.map vb ++ [X, Y])) = RdW (tkA l).2.1 (tkE (tkA l)) :: V.map vb := by
    have htk : (RdW (tkA l).2.1 (tkE (tkA l)) :: (V.map vb ++ [X, Y])).take (RdW l 0 :: V.map vb).length = RdW (tkA l).2.1 (tkE (tkA l)) :: V.map vb := by
      rw [List.length_cons, List.take_succ_cons, List.take_append_of_le_length (Nat.le_refl _), List.take_length]
    unfold truncB
    rw [htk, if_pos]
    rw [Bool.and_eq_true]
    refine ⟨rfl, ?_⟩
    rw [List.all_cons, Bool.and_eq_true]
    refine ⟨rfl, ?_⟩
    rw [List.all_map]
    exact List.all_eq_true.2 fun v _ => vb_under _ v
  rw [ht]
theorem setT_comm : ∀ (e : List PV) (i j : Nat) (a b : PV), i ≠ j → setT (setT e i a) j b = setT (setT e j b) i a
  | [], 0, 0, _, _, h => absurd rfl h
  | [], 0, j + 1, a, b, _ => by simp [setT]
  | [], i + 1, 0, a, b, _ => by simp [setT]
  | [], i + 1, j + 1, a, b, h => by
    have := setT_comm [] i j a b (by omega)
    simp [setT, this]
  | _ :: _, 0, 0, _, _, h => absurd rfl h
  | _ :: _, 0, j + 1, _, _, _ => by simp [setT]
  | _ :: _, i + 1, 0, _, _, _ => by simp [setT]
  | x :: r, i + 1, j + 1, a, b, h => by
    have := setT_comm r i j a b (by omega)
    simp [setT, this]
theorem okB_VT : fnOKB Tryd.f6 (Tryd.f6.body.getD .skip) = true := by kernel_rfl
theorem noB_VT : fnOK CC Tryd.f6 (Tryd.f6.body.getD .skip) = false := by kernel_rfl
theorem fat_VT : CC.P.funcs[6]? = some Tryd.f6 := by kernel_rfl
def opsOf : Code → Array Oper
  | .region _ ops _ => ops
  | _ => #[]
theorem ordVT : orders (opsOf (fpart Tryd.f6 [1,1,1,1,1,1,0,1,0,0,1,0,0,1,1,0])) = [[0, 1, 2, 3, 4, 5, 6, 7, 8, 9], [0, 1, 2, 3, 4, 5, 7, 6, 8, 9], [0, 1, 2, 3, 4, 7, 5, 6, 8, 9], [0, 2, 1, 3, 4, 5, 6, 7, 8, 9], [0, 2, 1, 3, 4, 5, 7, 6, 8, 9], [0, 2, 1, 3, 4, 7, 5, 6, 8, 9], [2, 0, 1, 3, 4, 5, 6, 7, 8, 9], [2, 0, 1, 3, 4, 5, 7, 6, 8, 9], [2, 0, 1, 3, 4, 7, 5, 6, 8, 9]] := by kernel_rfl
theorem draw_VT (J : List PBox) (l0 l1 l2 : List UInt8) (k n : Int) (s : List UInt8) (i : Int)
    (hT : callOp CC (callL CC) 31 [.bp 0 0] (RdW l0 0 :: (J ++ [.cells 26 [.int .i64 k, .int .i64 n, .str s]])) = some (.ret (.agg [.int .i64 k, .int .i64 n, .str s]), RdW l1 0 :: (J ++ [.cells 26 [.int .i64 k, .int .i64 n, .str s]])))
    (hI : callOp CC (callL CC) 32 [.bp 0 0] (RdW l1 0 :: (J ++ [.cells 26 [.int .i64 k, .int .i64 n, .str s]])) = some (.ret (.int .i64 i), RdW l2 0 :: (J ++ [.cells 26 [.int .i64 k, .int .i64 n, .str s]])))
    (e : List PV) (h5 : getT e 5 = .bp 0 0) (h6 : getT e 6 = .int .i64 i) (h7 : getT e 7 = .bp (J.length + 1) 0) :
    drawAll CC (callL CC) (opsOf (fpart Tryd.f6 [1,1,1,1,1,1,0,1,0,0,1,0,0,1,1,0])) ⟨e, RdW l0 0 :: (J ++ [.cells 26 [.int .i64 k, .int .i64 n, .str s]])⟩ = some (.normal, ⟨(setT (setT (setT (setT (setT (setT (setT (setT (setT (setT e 54 (.bp 0 0)) 55 (.agg [.int .i64 k, .int .i64 n, .str s])) 56 (.agg [.int .i64 k, .int .i64 n, .str s])) 57 (.bool false)) 58 (.bool false)) 59 (.bp 0 0)) 60 (.int .i64 i)) 61 (.int .i64 i)) 62 (.bool false)) 63 (.bool false)), RdW l2 0 :: (J ++ [.cells 26 [.int .i64 k, .int .i64 n, .str s]])⟩) := by
  refine drawAll_iff.2 ⟨by rw [ordVT]; simp, fun l hl => ?_⟩
  rw [ordVT] at hl
  obtain ⟨tu, htu⟩ := VLs
  have ew : ((k == k) && (n == n) && (s == s)) = true := by simp
  have ei : (i != i) = false := by simp
  unfold RdW at *
  obtain ⟨dr, ev, eo, so, co, ⟨hev, hco, heo, hdr⟩, R⟩ := RULESB CC
  rw [← heo]
  rw [← hco] at hT hI
  simp only [List.mem_cons, List.not_mem_nil, or_false] at hl
  rcases hl with rfl | rfl | rfl | rfl | rfl | rfl | rfl | rfl | rfl
  all_goals
    simp only [opsOf, fpart, part', Tryd.f6, Option.getD, pickOps, List.filterMap_cons, List.filterMap_nil, List.getElem?_toArray, List.getElem?_cons_succ, List.getElem?_cons_zero]
    simp (maxSteps := 5000000) only [SA, SB, SD, R, guardAt, binP, intP, indexAddrP, elemsOf, readCells, lenP, lenAt, resultsP, resultP, oneOr, reduceCtorEq, reduceIte, Nat.reduceEqDiff, Nat.reduceAdd, Nat.zero_add, Nat.reduceMul, Nat.reduceLT, Nat.reduceLeDiff, Int.reduceLT, Int.reduceNeg, Int.reduceLE, appendP, appendAt, letGo, setLoc, locVal, Int.reduceToNat, boxCells, und, TG, SE, SC, unP, htu, VLf, eqgV, eqVP, extP, loadR, loadP, nchP, callAl, jl1, List.length_cons, List.getElem?_cons_zero, List.getElem?_cons_succ, Option.map_some, List.take_succ_cons, List.take_zero, List.drop_nil, List.filter_nil, List.cons_append, Bool.not_true, Bool.not_false, h5, h6, h7, hT, hI, ew, ei]
    try rw [setT_comm _ 56 54 _ _ (by decide)]
    try rw [setT_comm _ 56 55 _ _ (by decide)]
    try rw [setT_comm _ 61 59 _ _ (by decide)]
    try rw [setT_comm _ 61 60 _ _ (by decide)]
    try rfl
/-- what is read for a value that was written -/
def wnt (v : Vl) : Vl := if ckV v = 0 then v else (0, 0, [])
/-- values, each with its number behind it -/
def encA : Nat → List Vl → List UInt8
  | _, [] => []
  | i, x :: r => ptV x ++ (encI i ++ encA (i + 1) r)
theorem tkA_app {v : Vl} (h : ckV v = 0) (r : List UInt8) : tkA (ptW v ++ r) = (v, r, 0) := by
  have hkd := ck_kd h
  obtain ⟨hn, hs, hz⟩ := ck_shape h
  obtain ⟨k, n, s⟩ := v
  simp only at *
  rcases hkd.1 with rfl | rfl | rfl | rfl | rfl
  · have h0 : n = 0 := hz (.inl rfl)
    have h1 : s = [] := hs (by decide)
    subst h0 h1
    have := rdI_enc (n := 0) (by unfold inI; omega) r
    have hw : ptW (0, 0, []) = encI 0 := if_pos rfl
    rw [hw]
    unfold tkA
    rw [this]
    rfl

  · have h1 : s = [] := hs (by decide)
    subst h1
    have := rdI_enc (n := 1) (by unfold inI; omega) (encI n ++ r)
    have h2 := rdI_enc hn r
    have hw : ptW (1, n, []) = encI 1 ++ encI n := by
      unfold ptW
      rw [if_neg (show ¬ (1 : Int) = 0 by decide), if_neg (show ¬ (1 : Int) = 4 by decide)]
    rw [hw, List.append_assoc]
    unfold tkA
    rw [this]
    simp only
    rw [h2]
    rfl
  · have h1 : s = [] := hs (by decide)
    subst h1
    have := rdI_enc (n := 2) (by unfold inI; omega) (encI n ++ r)
    have h2 := rdI_enc hn r
    have hw : ptW (2, n, []) = encI 2 ++ encI n := by
      unfold ptW
      rw [if_neg (show ¬ (2 : Int) = 0 by decide), if_neg (show ¬ (2 : Int) = 4 by decide)]
    rw [hw, List.append_assoc]
    unfold tkA
    rw [this]
    simp only
    rw [h2]
    rfl
  · have h1 : s = [] := hs (by decide)
    subst h1
    have := rdI_enc (n := 3) (by unfold inI; omega) (encI n ++ r)
    have h2 := rdI_enc hn r
    have hw : ptW (3, n, []) = encI 3 ++ encI n := by
      unfold ptW
      rw [if_neg (show ¬ (3 : Int) = 0 by decide), if_neg (show ¬ (3 : Int) = 4 by decide)]
    rw [hw, List.append_assoc]
    unfold tkA
    rw [this]
    simp only
    rw [h2]
    rfl
  · have h0 : n = 0 := hz (.inr rfl)
    subst h0
    have := rdI_enc (n := 4) (by unfold inI; omega) (encT s ++ r)
    have h2 := rdT_enc hkd.2 r
    have hw : ptW (4, 0, s) = encI 4 ++ encT s := by
      unfold ptW
      rw [if_neg (show ¬ (4 : Int) = 0 by decide), if_pos rfl]
    rw [hw, List.append_assoc]
    unfold tkA
    rw [this]
    simp only
    rw [h2]
    rfl
theorem tk_put (x : Vl) (r : List UInt8) : tkF (tkA (ptV x ++ r)) = wnt x ∧ (tkA (ptV x ++ r)).2.1 = r ∧ tkE (tkA (ptV x ++ r)) = 0 := by
  have key : ∀ v : Vl, ckV v = 0 → tkF (v, r, (0 : Int)) = v ∧ tkE (v, r, (0 : Int)) = 0 := fun v h => by
    have he : tkE (v, r, (0 : Int)) = 0 := by
      unfold tkE
      simp only [ne_eq, not_true_eq_false, if_false, h]
    refine ⟨?_, he⟩
    unfold tkF
    rw [he, if_neg (fun x => x rfl)]
  by_cases c : ckV x = 0
  · have hp : ptV x = ptW x := if_neg (fun h => h c)
    have hw : wnt x = x := if_pos c
    rw [hp, hw, tkA_app c r]
    exact ⟨(key x c).1, rfl, (key x c).2⟩
  · have hp : ptV x = ptW (0, 0, []) := if_pos c
    have hw : wnt x = (0, 0, []) := if_neg c
    have hz : ckV (0, 0, []) = 0 := rfl
    rw [hp, hw, tkA_app hz r]
    exact ⟨(key _ hz).1, rfl, (key _ hz).2⟩
theorem wnt_in {v : Vl} (h : inI v.2.1) : inI (wnt v).2.1 := by
  unfold wnt
  split
  · exact h
  · unfold inI; simp only; omega
def vls (l : List Vl) : List PV := l.map vlV
theorem vls_length (l : List Vl) : (vls l).length = l.length := by unfold vls; rw [List.length_map]
theorem vls_get {l : List Vl} {i : Nat} {v : Vl} (h : l[i]? = some v) : (vls l)[i]? = some (.agg [.int .i64 v.1, .int .i64 v.2.1, .str v.2.2]) := by unfold vls; rw [List.getElem?_map, h]; rfl
theorem evB_at {L : Code} (b : Code) (h : L = .loop b) (st : St) : evB CC L st = thenE (evB CC b st) (evB CC L) := by
  subst h
  exact evLB_loop true b st
theorem encA_len : ∀ (l : List Vl) (i : Nat), (encA i l).length ≤ 1010 * l.length
  | [], _ => by simp [encA]
  | x :: r, i => by
    have h1 := pt_len x
    have h2 := encI_len i
    have h3 := encA_len r (i + 1)
    unfold encA
    simp only [List.length_append, List.length_cons]
    omega
def PL1 (l : List Vl) (t : List UInt8) (r : Option (Ex × St)) : Prop := ∃ e', (r = some (.exit 0, ⟨e', []⟩) ∧ getT e' 0 = .sl (vls l) ∧ getT e' 3 = .str t) ∨ (r = some (.ret, ⟨e', []⟩) ∧ getT e' 2 = .bool true)
theorem loop_VT1 (L : Code) (hL : L = fpart Tryd.f6 [1,1,1,0,1,0]) (l : List Vl) (hl : l.length ≤ 20) (hok : ∀ v ∈ l, inI v.2.1) : ∀ (k i : Nat) (acc : List UInt8) (e : List PV), i + k = l.length → acc.length ≤ 1010 * i → getT e 0 = .sl (vls l) → getT e 3 = .str acc → getT e 4 = .int .i64 i →
    PL1 l (acc ++ encA i (l.drop i)) (evB CC L ⟨e, []⟩) := by
  intro k
  induction k with
  | zero =>
    intro i acc e hk ha h0 h3 h4
    rw [evB_at (fpart Tryd.f6 [1,1,1,0,1,0,0]) hL]
    have hln := vls_length l
    have hi : ¬ ((i : Int) < (l.length : Int)) := by omega
    have htu : True := trivial
    have hd : encA i (l.drop i) = [] := by rw [List.drop_eq_nil_of_le (by omega)]; rfl
    rw [hd, List.append_nil]
    unfold PL1
    generalize vls l = xs at *
    obtain ⟨dr, ev, eo, so, co, ⟨hev, hco, heo, hdr⟩, R⟩ := RULESB CC; rw [← hev]
    simp only [fpart, part', Tryd.f6, Option.getD]
    simp (maxSteps := 5000000) only [SA, SB, SD, R, guardAt, binP, intP, indexAddrP, elemsOf, readCells, lenP, lenAt, resultsP, resultP, oneOr, reduceCtorEq, reduceIte, Nat.reduceEqDiff, Nat.reduceAdd, Nat.zero_add, Nat.reduceMul, Nat.reduceLT, Nat.reduceLeDiff, Int.reduceLT, Int.reduceNeg, Int.reduceLE, appendP, appendAt, letGo, setLoc, locVal, Int.reduceToNat, boxCells, und, TG, SE, SC, unP, htu, VLf, eqgV, eqVP, extP, loadR, loadP, storeR, storeK, storeCellsP, laid, lay, setBox, nchP, callAl, jl1, js1, List.append_assoc, List.nil_append, List.length_cons, List.length_append, List.length_nil, List.set_cons_zero, List.set_cons_succ, List.getElem?_cons_zero, List.getElem?_cons_succ, Option.map_some, Nat.le_refl, List.take_succ_cons, List.take_zero, List.drop_nil, List.filter_nil, List.cons_append, Int.reduceBEq, Int.reduceBNe, Int.reduceGT, Int.reduceGE, Int.reduceLE, Bool.not_true, Bool.not_false, h0, h3, h4, hln, hi]
    exact ⟨_, .inl ⟨rfl, by simp (maxSteps := 5000000) only [SA, SB, SD, R, guardAt, binP, intP, indexAddrP, elemsOf, readCells, lenP, lenAt, resultsP, resultP, oneOr, reduceCtorEq, reduceIte, Nat.reduceEqDiff, Nat.reduceAdd, Nat.zero_add, Nat.reduceMul, Nat.reduceLT, Nat.reduceLeDiff, Int.reduceLT, Int.reduceNeg, Int.reduceLE, appendP, appendAt, letGo, setLoc, locVal, Int.reduceToNat, boxCells, und, h0], by simp (maxSteps := 5000000) only [SA, SB, SD, R, guardAt, binP, intP, indexAddrP, elemsOf, readCells, lenP, lenAt, resultsP, resultP, oneOr, reduceCtorEq, reduceIte, Nat.reduceEqDiff, Nat.reduceAdd, Nat.zero_add, Nat.reduceMul, Nat.reduceLT, Nat.reduceLeDiff, Int.reduceLT, Int.reduceNeg, Int.reduceLE, appendP, appendAt, letGo, setLoc, locVal, Int.reduceToNat, boxCells, und, h3]⟩⟩
  | succ k ih =>
    intro i acc e hk ha h0 h3 h4
    rw [evB_at (fpart Tryd.f6 [1,1,1,0,1,0,0]) hL]
    have hln := vls_length l
    have hi : ((i : Int) < (l.length : Int)) := by omega
    have hi0 : ¬ ((i : Int) < 0) := by omega
    have hdr : l.drop i = (l[i]'(by omega)) :: l.drop (i + 1) := List.drop_eq_getElem_cons (by omega)
    have hx : l[i]? = some (l[i]'(by omega)) := by simp
    have hm : l[i]'(by omega) ∈ l := List.getElem_mem _
    generalize l[i]'(by omega) = v at *
    have hx' := vls_get hx
    have hin := hok v hm
    have hp := op_value_Put v hin
    have hI := op_w_Int i (by unfold inI; omega)
    have hpl := pt_len v
    have hil := encI_len i
    have a1 := str_add' acc (ptV v) (by omega)
    have a2 := str_add' (acc ++ ptV v) (encI i) (by rw [List.length_append]; omega)
    have w1 := wrap_i64 (n := (i : Int) + 1) ⟨by omega, by omega⟩
    have cast1 : ((i + 1 : Nat) : Int) = (i : Int) + 1 := by omega
    have key := fun e => ih (i + 1) (acc ++ ptV v ++ encI i) e (by omega) (by simp only [List.length_append]; omega)
    rw [cast1] at key
    have haw := op_awake
    have hlen := len_str v.2.2
    obtain ⟨tu, htu⟩ := VLs
    have he : acc ++ encA i (l.drop i) = acc ++ ptV v ++ encI i ++ encA (i + 1) (l.drop (i + 1)) := by
      rw [hdr]
      show acc ++ (ptV v ++ (encI i ++ encA (i + 1) (l.drop (i + 1)))) = _
      simp only [List.append_assoc]
    rw [he]
    generalize acc ++ ptV v ++ encI i ++ encA (i + 1) (l.drop (i + 1)) = T at *
    generalize acc ++ ptV v ++ encI i = A2 at *
    generalize acc ++ ptV v = A1 at *
    generalize ptV v = pv at *
    generalize encI i = ei at *
    obtain ⟨vk, vn, vs⟩ := v
    unfold vlV at hp
    simp only at *
    by_cases c : (vs.length : Int) > 100
    · unfold PL1
      generalize vls l = xs at *
      obtain ⟨dr, ev, eo, so, co, ⟨hev, hco, heo, hdr⟩, R⟩ := RULESB CC; rw [← hev]
      rw [← hco] at haw
      simp only [fpart, part', Tryd.f6, Option.getD]
      simp (maxSteps := 5000000) only [SA, SB, SD, R, guardAt, binP, intP, indexAddrP, elemsOf, readCells, lenP, lenAt, resultsP, resultP, oneOr, reduceCtorEq, reduceIte, Nat.reduceEqDiff, Nat.reduceAdd, Nat.zero_add, Nat.reduceMul, Nat.reduceLT, Nat.reduceLeDiff, Int.reduceLT, Int.reduceNeg, Int.reduceLE, appendP, appendAt, letGo, setLoc, locVal, Int.reduceToNat, boxCells, und, TG, SE, SC, unP, htu, VLf, eqgV, eqVP, extP, loadR, loadP, storeR, storeK, storeCellsP, laid, lay, setBox, nchP, callAl, jl1, js1, List.append_assoc, List.nil_append, List.length_cons, List.length_append, List.length_nil, List.set_cons_zero, List.set_cons_succ, List.getElem?_cons_zero, List.getElem?_cons_succ, Option.map_some, Nat.le_refl, List.take_succ_cons, List.take_zero, List.drop_nil, List.filter_nil, List.cons_append, Int.reduceBEq, Int.reduceBNe, Int.reduceGT, Int.reduceGE, Int.reduceLE, Bool.not_true, Bool.not_false, h0, h3, h4, hln, hi, hi0, hx', hlen, c, haw]
      exact ⟨_, .inr ⟨rfl, by simp (maxSteps := 5000000) only [SA, SB, SD, R, guardAt, binP, intP, indexAddrP, elemsOf, readCells, lenP, lenAt, resultsP, resultP, oneOr, reduceCtorEq, reduceIte, Nat.reduceEqDiff, Nat.reduceAdd, Nat.zero_add, Nat.reduceMul, Nat.reduceLT, Nat.reduceLeDiff, Int.reduceLT, Int.reduceNeg, Int.reduceLE, appendP, appendAt, letGo, setLoc, locVal, Int.reduceToNat, boxCells, und]⟩⟩
    · unfold PL1 at key ⊢
      generalize vls l = xs at *
      obtain ⟨dr, ev, eo, so, co, ⟨hev, hco, heo, hdr⟩, R⟩ := RULESB CC; rw [← hev]
      rw [← hco] at hp hI
      rw [← hev] at key
      simp only [fpart, part', Tryd.f6, Option.getD]
      simp (maxSteps := 5000000) only [SA, SB, SD, R, guardAt, binP, intP, indexAddrP, elemsOf, readCells, lenP, lenAt, resultsP, resultP, oneOr, reduceCtorEq, reduceIte, Nat.reduceEqDiff, Nat.reduceAdd, Nat.zero_add, Nat.reduceMul, Nat.reduceLT, Nat.reduceLeDiff, Int.reduceLT, Int.reduceNeg, Int.reduceLE, appendP, appendAt, letGo, setLoc, locVal, Int.reduceToNat, boxCells, und, TG, SE, SC, unP, htu, VLf, eqgV, eqVP, extP, loadR, loadP, storeR, storeK, storeCellsP, laid, lay, setBox, nchP, callAl, jl1, js1, List.append_assoc, List.nil_append, List.length_cons, List.length_append, List.length_nil, List.set_cons_zero, List.set_cons_succ, List.getElem?_cons_zero, List.getElem?_cons_succ, Option.map_some, Nat.le_refl, List.take_succ_cons, List.take_zero, List.drop_nil, List.filter_nil, List.cons_append, Int.reduceBEq, Int.reduceBNe, Int.reduceGT, Int.reduceGE, Int.reduceLE, Bool.not_true, Bool.not_false, h0, h3, h4, hln, hi, hi0, hx', hlen, c, hp, hI, a1, a2, w1]
      exact key _ (by simp (maxSteps := 5000000) only [SA, SB, SD, R, guardAt, binP, intP, indexAddrP, elemsOf, readCells, lenP, lenAt, resultsP, resultP, oneOr, reduceCtorEq, reduceIte, Nat.reduceEqDiff, Nat.reduceAdd, Nat.zero_add, Nat.reduceMul, Nat.reduceLT, Nat.reduceLeDiff, Int.reduceLT, Int.reduceNeg, Int.reduceLE, appendP, appendAt, letGo, setLoc, locVal, Int.reduceToNat, boxCells, und, h0]) (by simp (maxSteps := 5000000) only [SA, SB, SD, R, guardAt, binP, intP, indexAddrP, elemsOf, readCells, lenP, lenAt, resultsP, resultP, oneOr, reduceCtorEq, reduceIte, Nat.reduceEqDiff, Nat.reduceAdd, Nat.zero_add, Nat.reduceMul, Nat.reduceLT, Nat.reduceLeDiff, Int.reduceLT, Int.reduceNeg, Int.reduceLE, appendP, appendAt, letGo, setLoc, locVal, Int.reduceToNat, boxCells, und]) (by simp (maxSteps := 5000000) only [SA, SB, SD, R, guardAt, binP, intP, indexAddrP, elemsOf, readCells, lenP, lenAt, resultsP, resultP, oneOr, reduceCtorEq, reduceIte, Nat.reduceEqDiff, Nat.reduceAdd, Nat.zero_add, Nat.reduceMul, Nat.reduceLT, Nat.reduceLeDiff, Int.reduceLT, Int.reduceNeg, Int.reduceLE, appendP, appendAt, letGo, setLoc, locVal, Int.reduceToNat, boxCells, und])
def PL2 (r : Option (Ex × St)) : Prop := ∃ e' V', r = some (.exit 2, ⟨e', RdW [] 0 :: List.map vb V'⟩) ∧ getT e' 5 = .bp 0 0
theorem loop_VT2 (L : Code) (hL : L = fpart Tryd.f6 [1,1,1,1,1,1,0,1,0]) (l : List Vl) (hl : l.length ≤ 20) (hok : ∀ v ∈ l, inI v.2.1) : ∀ (k i : Nat) (V : List Vl) (e : List PV), i + k = l.length → getT e 0 = .sl (vls l) → getT e 5 = .bp 0 0 → getT e 6 = .int .i64 i →
    PL2 (evB CC L ⟨e, RdW (encA i (l.drop i)) 0 :: V.map vb⟩) := by
  intro k
  induction k with
  | zero =>
    intro i V e hk h0 h5 h6
    rw [evB_at (fpart Tryd.f6 [1,1,1,1,1,1,0,1,0,0]) hL]
    have hln := vls_length l
    have hi : ¬ ((i : Int) < (l.length : Int)) := by omega
    have htu : True := trivial
    have hd : encA i (l.drop i) = [] := by rw [List.drop_eq_nil_of_le (by omega)]; rfl
    rw [hd]
    unfold PL2
    generalize vls l = xs at *
    obtain ⟨dr, ev, eo, so, co, ⟨hev, hco, heo, hdr⟩, R⟩ := RULESB CC; rw [← hev]
    simp only [fpart, part', Tryd.f6, Option.getD]
    simp (maxSteps := 5000000) only [SA, SB, SD, R, guardAt, binP, intP, indexAddrP, elemsOf, readCells, lenP, lenAt, resultsP, resultP, oneOr, reduceCtorEq, reduceIte, Nat.reduceEqDiff, Nat.reduceAdd, Nat.zero_add, Nat.reduceMul, Nat.reduceLT, Nat.reduceLeDiff, Int.reduceLT, Int.reduceNeg, Int.reduceLE, appendP, appendAt, letGo, setLoc, locVal, Int.reduceToNat, boxCells, und, TG, SE, SC, unP, htu, VLf, eqgV, eqVP, extP, loadR, loadP, storeR, storeK, storeCellsP, laid, lay, setBox, nchP, callAl, jl1, js1, List.append_assoc, List.nil_append, List.length_cons, List.length_append, List.length_nil, List.set_cons_zero, List.set_cons_succ, List.getElem?_cons_zero, List.getElem?_cons_succ, Option.map_some, Nat.le_refl, List.take_succ_cons, List.take_zero, List.drop_nil, List.filter_nil, List.cons_append, Int.reduceBEq, Int.reduceBNe, Int.reduceGT, Int.reduceGE, Int.reduceLE, Bool.not_true, Bool.not_false, h0, h5, h6, hln, hi]
    exact ⟨_, V, rfl, by simp (maxSteps := 5000000) only [SA, SB, SD, R, guardAt, binP, intP, indexAddrP, elemsOf, readCells, lenP, lenAt, resultsP, resultP, oneOr, reduceCtorEq, reduceIte, Nat.reduceEqDiff, Nat.reduceAdd, Nat.zero_add, Nat.reduceMul, Nat.reduceLT, Nat.reduceLeDiff, Int.reduceLT, Int.reduceNeg, Int.reduceLE, appendP, appendAt, letGo, setLoc, locVal, Int.reduceToNat, boxCells, und, h5]⟩
  | succ k ih =>
    intro i V e hk h0 h5 h6
    rw [evB_at (fpart Tryd.f6 [1,1,1,1,1,1,0,1,0,0]) hL]
    have hln := vls_length l
    have hi : ((i : Int) < (l.length : Int)) := by omega
    have hi0 : ¬ ((i : Int) < 0) := by omega
    have hdr0 : l.drop i = (l[i]'(by omega)) :: l.drop (i + 1) := List.drop_eq_getElem_cons (by omega)
    have hx : l[i]? = some (l[i]'(by omega)) := by simp
    have hm : l[i]'(by omega) ∈ l := List.getElem_mem _
    generalize l[i]'(by omega) = v at *
    have hx' := vls_get hx
    have hck := op_R20_Check v
    have w1 := wrap_i64 (n := (i : Int) + 1) ⟨by omega, by omega⟩
    have cast1 : ((i + 1 : Nat) : Int) = (i : Int) + 1 := by omega
    have hE : encA i (l.drop i) = ptV v ++ (encI i ++ encA (i + 1) (l.drop (i + 1))) := by rw [hdr0]; rfl
    have hEl : (encA i (l.drop i)).length ≤ 900000 := by
      have := encA_len (l.drop i) i
      rw [List.length_drop] at this
      omega
    obtain ⟨q1, q2, q3⟩ := tk_put v (encI i ++ encA (i + 1) (l.drop (i + 1)))
    have hT := op_xTake (V ++ [wnt v]) (encA i (l.drop i)) hEl
    rw [hE, q1, q2, q3] at hT
    have hEl2 : (encI i ++ encA (i + 1) (l.drop (i + 1))).length ≤ 900000 := by
      rw [hE] at hEl
      simp only [List.length_append] at hEl ⊢
      omega
    have hI := op_w_RInt (RdW (encI i ++ encA (i + 1) (l.drop (i + 1))) 0 :: (V ++ [wnt v]).map vb) 0 (encI i ++ encA (i + 1) (l.drop (i + 1))) 0 hEl2 rfl
    rw [rdI_enc (by unfold inI; omega)] at hI
    simp only [List.set_cons_zero] at hI
    have key := fun e => ih (i + 1) (V ++ [wnt v]) e (by omega)
    rw [cast1] at key
    have hmap : (V ++ [wnt v]).map vb = V.map vb ++ [vb (wnt v)] := by rw [List.map_append]; rfl
    rw [hmap] at hT hI key
    rw [hE]
    generalize ptV v ++ (encI i ++ encA (i + 1) (l.drop (i + 1))) = l0 at *
    generalize encI i ++ encA (i + 1) (l.drop (i + 1)) = l1 at *
    generalize encA (i + 1) (l.drop (i + 1)) = l2 at *
    generalize V.map vb = J at *
    obtain ⟨tu, htu⟩ := VLs
    have b0 := buildVl0
    obtain ⟨vk, vn, vs⟩ := v
    unfold vlV at hck
    simp only at hck hx'
    by_cases c0 : ckV (vk, vn, vs) = 0
    · have hw : wnt (vk, vn, vs) = (vk, vn, vs) := if_pos c0
      rw [hw] at hT hI key
      rw [c0] at hck
      have hdw := draw_VT J l0 l1 l2 vk vn vs (i : Int) hT hI
      unfold vb at key
      simp only at key
      unfold PL2 at key ⊢
      generalize vls l = xs at *
      obtain ⟨dr, ev, eo, so, co, ⟨hev, hco, heo, hdr⟩, R⟩ := RULESB CC; rw [← hev]
      rw [← hco] at hck
      rw [← hev] at key
      rw [← hdr] at hdw
      simp only [opsOf, fpart, part', Tryd.f6, Option.getD] at hdw ⊢
      unfold RdW at *
      simp (maxSteps := 5000000) only [SA, SB, SD, R, guardAt, binP, intP, indexAddrP, elemsOf, readCells, lenP, lenAt, resultsP, resultP, oneOr, reduceCtorEq, reduceIte, Nat.reduceEqDiff, Nat.reduceAdd, Nat.zero_add, Nat.reduceMul, Nat.reduceLT, Nat.reduceLeDiff, Int.reduceLT, Int.reduceNeg, Int.reduceLE, appendP, appendAt, letGo, setLoc, locVal, Int.reduceToNat, boxCells, und, TG, SE, SC, unP, htu, VLf, eqgV, eqVP, extP, loadR, loadP, storeR, storeK, storeCellsP, laid, lay, setBox, nchP, callAl, jl1, js1, List.append_assoc, List.nil_append, List.length_cons, List.length_append, List.length_nil, List.set_cons_zero, List.set_cons_succ, List.getElem?_cons_zero, List.getElem?_cons_succ, Option.map_some, Nat.le_refl, List.take_succ_cons, List.take_zero, List.drop_nil, List.filter_nil, List.cons_append, Int.reduceBEq, Int.reduceBNe, Int.reduceGT, Int.reduceGE, Int.reduceLE, Bool.not_true, Bool.not_false, h0, h5, h6, hln, hi, hi0, hx', hck, w1, hdw]
      exact key _ (by simp (maxSteps := 5000000) only [SA, SB, SD, R, guardAt, binP, intP, indexAddrP, elemsOf, readCells, lenP, lenAt, resultsP, resultP, oneOr, reduceCtorEq, reduceIte, Nat.reduceEqDiff, Nat.reduceAdd, Nat.zero_add, Nat.reduceMul, Nat.reduceLT, Nat.reduceLeDiff, Int.reduceLT, Int.reduceNeg, Int.reduceLE, appendP, appendAt, letGo, setLoc, locVal, Int.reduceToNat, boxCells, und, h0]) (by simp (maxSteps := 5000000) only [SA, SB, SD, R, guardAt, binP, intP, indexAddrP, elemsOf, readCells, lenP, lenAt, resultsP, resultP, oneOr, reduceCtorEq, reduceIte, Nat.reduceEqDiff, Nat.reduceAdd, Nat.zero_add, Nat.reduceMul, Nat.reduceLT, Nat.reduceLeDiff, Int.reduceLT, Int.reduceNeg, Int.reduceLE, appendP, appendAt, letGo, setLoc, locVal, Int.reduceToNat, boxCells, und, h5]) (by simp (maxSteps := 5000000) only [SA, SB, SD, R, guardAt, binP, intP, indexAddrP, elemsOf, readCells, lenP, lenAt, resultsP, resultP, oneOr, reduceCtorEq, reduceIte, Nat.reduceEqDiff, Nat.reduceAdd, Nat.zero_add, Nat.reduceMul, Nat.reduceLT, Nat.reduceLeDiff, Int.reduceLT, Int.reduceNeg, Int.reduceLE, appendP, appendAt, letGo, setLoc, locVal, Int.reduceToNat, boxCells, und])
    · have hw : wnt (vk, vn, vs) = (0, 0, []) := if_neg c0
      have c0p : (ckV (vk, vn, vs) != 0) = true := by simpa using c0
      rw [hw] at hT hI key
      generalize ckV (vk, vn, vs) = ck at *
      have hdw := draw_VT J l0 l1 l2 0 0 [] (i : Int) hT hI
      unfold vb at key
      simp only at key
      unfold PL2 at key ⊢
      generalize vls l = xs at *
      obtain ⟨dr, ev, eo, so, co, ⟨hev, hco, heo, hdr⟩, R⟩ := RULESB CC; rw [← hev]
      rw [← hco] at hck
      rw [← hev] at key
      rw [← hdr] at hdw
      simp only [opsOf, fpart, part', Tryd.f6, Option.getD] at hdw ⊢
      unfold RdW at *
      simp (maxSteps := 5000000) only [SA, SB, SD, R, guardAt, binP, intP, indexAddrP, elemsOf, readCells, lenP, lenAt, resultsP, resultP, oneOr, reduceCtorEq, reduceIte, Nat.reduceEqDiff, Nat.reduceAdd, Nat.zero_add, Nat.reduceMul, Nat.reduceLT, Nat.reduceLeDiff, Int.reduceLT, Int.reduceNeg, Int.reduceLE, appendP, appendAt, letGo, setLoc, locVal, Int.reduceToNat, boxCells, und, TG, SE, SC, unP, htu, VLf, eqgV, eqVP, extP, loadR, loadP, storeR, storeK, storeCellsP, laid, lay, setBox, nchP, callAl, jl1, js1, List.append_assoc, List.nil_append, List.length_cons, List.length_append, List.length_nil, List.set_cons_zero, List.set_cons_succ, List.getElem?_cons_zero, List.getElem?_cons_succ, Option.map_some, Nat.le_refl, List.take_succ_cons, List.take_zero, List.drop_nil, List.filter_nil, List.cons_append, Int.reduceBEq, Int.reduceBNe, Int.reduceGT, Int.reduceGE, Int.reduceLE, Bool.not_true, Bool.not_false, h0, h5, h6, hln, hi, hi0, hx', hck, c0p, b0, w1, hdw]
      exact key _ (by simp (maxSteps := 5000000) only [SA, SB, SD, R, guardAt, binP, intP, indexAddrP, elemsOf, readCells, lenP, lenAt, resultsP, resultP, oneOr, reduceCtorEq, reduceIte, Nat.reduceEqDiff, Nat.reduceAdd, Nat.zero_add, Nat.reduceMul, Nat.reduceLT, Nat.reduceLeDiff, Int.reduceLT, Int.reduceNeg, Int.reduceLE, appendP, appendAt, letGo, setLoc, locVal, Int.reduceToNat, boxCells, und, h0]) (by simp (maxSteps := 5000000) only [SA, SB, SD, R, guardAt, binP, intP, indexAddrP, elemsOf, readCells, lenP, lenAt, resultsP, resultP, oneOr, reduceCtorEq, reduceIte, Nat.reduceEqDiff, Nat.reduceAdd, Nat.zero_add, Nat.reduceMul, Nat.reduceLT, Nat.reduceLeDiff, Int.reduceLT, Int.reduceNeg, Int.reduceLE, appendP, appendAt, letGo, setLoc, locVal, Int.reduceToNat, boxCells, und, h5]) (by simp (maxSteps := 5000000) only [SA, SB, SD, R, guardAt, binP, intP, indexAddrP, elemsOf, readCells, lenP, lenAt, resultsP, resultP, oneOr, reduceCtorEq, reduceIte, Nat.reduceEqDiff, Nat.reduceAdd, Nat.zero_add, Nat.reduceMul, Nat.reduceLT, Nat.reduceLeDiff, Int.reduceLT, Int.reduceNeg, Int.reduceLE, appendP, appendAt, letGo, setLoc, locVal, Int.reduceToNat, boxCells, und])
noncomputable def nilOK : Bool := match callF CC 100 31 [.nilp] [] with
  | some (.ret (.agg [.int .i64 0, .int .i64 0, .str []]), _) => true
  | _ => false
theorem nilOK_ok : nilOK = true := by kernel_rfl
theorem op_take_nil (bx) : callOp CC (callL CC) 31 [.nilp] bx = some (.ret (.agg [.int .i64 0, .int .i64 0, .str []]), bx) := by
  have h := nilOK_ok
  unfold nilOK at h
  split at h
  · rename_i b hs
    exact callOp_of rfl rfl (callL_iff.2 ⟨100, hs⟩) rfl
  · cases h
theorem call_w_New0 (s : List UInt8) : callL CC 30 [.str s] [] = some (.ret (.bp 0 0), [RdW s 0]) := by
  rw [callL_enter (fn := Tryd.f30) (c := Tryd.f30.body.getD .skip) rfl rfl fat_wire_New rfl ok_wire_New (Nat.le_of_ble_eq_true rfl)]
  have b := buildRd s
  have htu : True := trivial
  unfold RdW
  obtain ⟨ev, eo, so, co, ⟨hev, hco⟩, R⟩ := RULES CC; rw [← hev]
  simp only [fpart, part', Tryd.f30, Option.getD]
  simp (maxSteps := 5000000) only [SA, SB, SD, R, guardAt, binP, intP, indexAddrP, elemsOf, readCells, lenP, lenAt, resultsP, resultP, oneOr, reduceCtorEq, reduceIte, Nat.reduceEqDiff, Nat.reduceAdd, Nat.zero_add, Nat.reduceMul, Nat.reduceLT, Nat.reduceLeDiff, Int.reduceLT, Int.reduceNeg, Int.reduceLE, appendP, appendAt, letGo, setLoc, locVal, Int.reduceToNat, boxCells, und, TG, SE, SC, unP, htu, VLf, eqgV, eqVP, extP, loadR, loadP, storeR, storeK, storeCellsP, laid, lay, setBox, nchP, callAl, jl1, js1, List.append_assoc, List.nil_append, List.length_cons, List.length_append, List.length_nil, List.set_cons_zero, List.set_cons_succ, List.getElem?_cons_zero, List.getElem?_cons_succ, Option.map_some, Nat.le_refl, List.take_succ_cons, List.take_zero, List.drop_nil, List.filter_nil, List.cons_append, Int.reduceBEq, Int.reduceBNe, Int.reduceGT, Int.reduceGE, Int.reduceLE, Bool.not_true, Bool.not_false, b]
theorem op_w_New0 (s : List UInt8) : callOp CC (callL CC) 30 [.str s] [] = some (.ret (.bp 0 0), [RdW s 0]) := by
  unfold callOp
  rw [if_pos (by rfl), call_w_New0]
  rfl
theorem hasV_vals {p : PV} (h : HasV Tryd.prog 41 p) : ∃ l : List Vl, p = .sl (vls l) ∧ (l.length ≤ maxLen ∧ ∀ v ∈ l, okVl v) := by
  have hus : Tryd.prog.underlying 41 = some (.slice 26) := by kernel_rfl
  obtain ⟨xs, rfl, h1, h2⟩ := hasV_slice hus h
  obtain ⟨l, rfl, h3⟩ := list_of (f := vlV) (Q := okVl) xs fun x hx => by
    obtain ⟨v, g1, g2⟩ := hasV_val (h2 x hx)
    exact ⟨v, g1, g2⟩
  exact ⟨l, rfl, by simpa using h1, h3⟩
theorem law_ValueTakes (l : List Vl) (hl : l.length ≤ maxLen ∧ ∀ v ∈ l, okVl v) : ∃ bx, callL CC 6 [.sl (vls l)] [] = some (.ret (.bool true), bx) := by
  rw [callL_enterB (fn := Tryd.f6) (c := Tryd.f6.body.getD .skip) rfl rfl fat_VT rfl noB_VT okB_VT (Nat.le_of_ble_eq_true rfl)]
  have hln := vls_length l
  have haw := op_awake
  obtain ⟨tu, htu⟩ := VLs
  by_cases c1 : (l.length : Int) > 20
  · generalize vls l = xs at *
    obtain ⟨dr, ev, eo, so, co, ⟨hev, hco, heo, hdr⟩, R⟩ := RULESB CC; rw [← hev]
    rw [← hco] at haw
    simp only [fpart, part', Tryd.f6, Option.getD]
    simp (maxSteps := 5000000) only [SA, SB, SD, R, guardAt, binP, intP, indexAddrP, elemsOf, readCells, lenP, lenAt, resultsP, resultP, oneOr, reduceCtorEq, reduceIte, Nat.reduceEqDiff, Nat.reduceAdd, Nat.zero_add, Nat.reduceMul, Nat.reduceLT, Nat.reduceLeDiff, Int.reduceLT, Int.reduceNeg, Int.reduceLE, appendP, appendAt, letGo, setLoc, locVal, Int.reduceToNat, boxCells, und, TG, SE, SC, unP, htu, VLf, eqgV, eqVP, extP, loadR, loadP, storeR, storeK, storeCellsP, laid, lay, setBox, nchP, callAl, jl1, js1, List.append_assoc, List.nil_append, List.length_cons, List.length_append, List.length_nil, List.set_cons_zero, List.set_cons_succ, List.getElem?_cons_zero, List.getElem?_cons_succ, Option.map_some, Nat.le_refl, List.take_succ_cons, List.take_zero, List.drop_nil, List.filter_nil, List.cons_append, Int.reduceBEq, Int.reduceBNe, Int.reduceGT, Int.reduceGE, Int.reduceLE, Bool.not_true, Bool.not_false, hln, c1, haw]
    exact ⟨_, rfl⟩
  · have hok : ∀ v ∈ l, inI v.2.1 := fun v hv => (hl.2 v hv).2.1
    have hloop1 := fun e => loop_VT1 _ rfl l (by omega) hok l.length 0 [] e (by omega) (by simp)
    have hloop2 := fun e => loop_VT2 _ rfl l (by omega) hok l.length 0 [] e (by omega)
    rw [List.drop_zero] at hloop1 hloop2
    rw [List.nil_append] at hloop1
    simp only [List.map_nil] at hloop2
    have hnew := op_w_New0 (encA 0 l)
    have hend := fun V => op_w_End (RdW [] 0 :: List.map vb V) 0 [] 0 rfl
    have he0 : endE [] 0 = 0 := rfl
    rw [he0] at hend
    have hnil := op_take_nil
    have b0 := buildVl0
    have ez : (((0 : Int) == 0) && ((0 : Int) == 0) && (([] : List UInt8) == [])) = true := rfl
    generalize encA 0 l = T at *
    unfold PL1 at hloop1
    unfold PL2 at hloop2
    generalize vls l = xs at *
    obtain ⟨dr, ev, eo, so, co, ⟨hev, hco, heo, hdr⟩, R⟩ := RULESB CC; rw [← hev]
    rw [← hco] at haw hnew hnil
    rw [← hco] at hend
    rw [← hev] at hloop1 hloop2
    simp only [fpart, part', Tryd.f6, Option.getD] at hloop1 hloop2 ⊢
    unfold RdW at *
    simp (maxSteps := 5000000) only [SA, SB, SD, R, guardAt, binP, intP, indexAddrP, elemsOf, readCells, lenP, lenAt, resultsP, resultP, oneOr, reduceCtorEq, reduceIte, Nat.reduceEqDiff, Nat.reduceAdd, Nat.zero_add, Nat.reduceMul, Nat.reduceLT, Nat.reduceLeDiff, Int.reduceLT, Int.reduceNeg, Int.reduceLE, appendP, appendAt, letGo, setLoc, locVal, Int.reduceToNat, boxCells, und, TG, SE, SC, unP, htu, VLf, eqgV, eqVP, extP, loadR, loadP, storeR, storeK, storeCellsP, laid, lay, setBox, nchP, callAl, jl1, js1, List.append_assoc, List.nil_append, List.length_cons, List.length_append, List.length_nil, List.set_cons_zero, List.set_cons_succ, List.getElem?_cons_zero, List.getElem?_cons_succ, Option.map_some, Nat.le_refl, List.take_succ_cons, List.take_zero, List.drop_nil, List.filter_nil, List.cons_append, Int.reduceBEq, Int.reduceBNe, Int.reduceGT, Int.reduceGE, Int.reduceLE, Bool.not_true, Bool.not_false, hln, c1]
    generalize hE : ev _ _ = z
    have hP : ∃ e', (z = some (.exit 0, ⟨e', []⟩) ∧ getT e' 0 = .sl xs ∧ getT e' 3 = .str T) ∨ (z = some (.ret, ⟨e', []⟩) ∧ getT e' 2 = .bool true) := by
      rw [← hE]
      refine hloop1 _ ?_ ?_ ?_
      · simp (maxSteps := 5000000) only [SA, SB, SD, R, guardAt, binP, intP, indexAddrP, elemsOf, readCells, lenP, lenAt, resultsP, resultP, oneOr, reduceCtorEq, reduceIte, Nat.reduceEqDiff, Nat.reduceAdd, Nat.zero_add, Nat.reduceMul, Nat.reduceLT, Nat.reduceLeDiff, Int.reduceLT, Int.reduceNeg, Int.reduceLE, appendP, appendAt, letGo, setLoc, locVal, Int.reduceToNat, boxCells, und]
      · simp (maxSteps := 5000000) only [SA, SB, SD, R, guardAt, binP, intP, indexAddrP, elemsOf, readCells, lenP, lenAt, resultsP, resultP, oneOr, reduceCtorEq, reduceIte, Nat.reduceEqDiff, Nat.reduceAdd, Nat.zero_add, Nat.reduceMul, Nat.reduceLT, Nat.reduceLeDiff, Int.reduceLT, Int.reduceNeg, Int.reduceLE, appendP, appendAt, letGo, setLoc, locVal, Int.reduceToNat, boxCells, und]
        try rfl
      · simp (maxSteps := 5000000) only [SA, SB, SD, R, guardAt, binP, intP, indexAddrP, elemsOf, readCells, lenP, lenAt, resultsP, resultP, oneOr, reduceCtorEq, reduceIte, Nat.reduceEqDiff, Nat.reduceAdd, Nat.zero_add, Nat.reduceMul, Nat.reduceLT, Nat.reduceLeDiff, Int.reduceLT, Int.reduceNeg, Int.reduceLE, appendP, appendAt, letGo, setLoc, locVal, Int.reduceToNat, boxCells, und]
        try rfl
    clear hE hloop1
    obtain ⟨e', ⟨hz, k0, k3⟩ | ⟨hz, k2⟩⟩ := hP
    · subst hz
      simp (maxSteps := 5000000) only [SA, SB, SD, R, guardAt, binP, intP, indexAddrP, elemsOf, readCells, lenP, lenAt, resultsP, resultP, oneOr, reduceCtorEq, reduceIte, Nat.reduceEqDiff, Nat.reduceAdd, Nat.zero_add, Nat.reduceMul, Nat.reduceLT, Nat.reduceLeDiff, Int.reduceLT, Int.reduceNeg, Int.reduceLE, appendP, appendAt, letGo, setLoc, locVal, Int.reduceToNat, boxCells, und, TG, SE, SC, unP, htu, VLf, eqgV, eqVP, extP, loadR, loadP, storeR, storeK, storeCellsP, laid, lay, setBox, nchP, callAl, jl1, js1, List.append_assoc, List.nil_append, List.length_cons, List.length_append, List.length_nil, List.set_cons_zero, List.set_cons_succ, List.getElem?_cons_zero, List.getElem?_cons_succ, Option.map_some, Nat.le_refl, List.take_succ_cons, List.take_zero, List.drop_nil, List.filter_nil, List.cons_append, Int.reduceBEq, Int.reduceBNe, Int.reduceGT, Int.reduceGE, Int.reduceLE, Bool.not_true, Bool.not_false, k0, k3, hnew]
      generalize hE2 : ev _ _ = z2
      have hP2 : ∃ e' V', z2 = some (.exit 2, ⟨e', .cells 64 [.str [], .int .i64 0, .bool true] :: List.map vb V'⟩) ∧ getT e' 5 = .bp 0 0 := by
        rw [← hE2]
        refine hloop2 _ ?_ ?_ ?_
        · simp (maxSteps := 5000000) only [SA, SB, SD, R, guardAt, binP, intP, indexAddrP, elemsOf, readCells, lenP, lenAt, resultsP, resultP, oneOr, reduceCtorEq, reduceIte, Nat.reduceEqDiff, Nat.reduceAdd, Nat.zero_add, Nat.reduceMul, Nat.reduceLT, Nat.reduceLeDiff, Int.reduceLT, Int.reduceNeg, Int.reduceLE, appendP, appendAt, letGo, setLoc, locVal, Int.reduceToNat, boxCells, und, k0]
        · simp (maxSteps := 5000000) only [SA, SB, SD, R, guardAt, binP, intP, indexAddrP, elemsOf, readCells, lenP, lenAt, resultsP, resultP, oneOr, reduceCtorEq, reduceIte, Nat.reduceEqDiff, Nat.reduceAdd, Nat.zero_add, Nat.reduceMul, Nat.reduceLT, Nat.reduceLeDiff, Int.reduceLT, Int.reduceNeg, Int.reduceLE, appendP, appendAt, letGo, setLoc, locVal, Int.reduceToNat, boxCells, und]
        · simp (maxSteps := 5000000) only [SA, SB, SD, R, guardAt, binP, intP, indexAddrP, elemsOf, readCells, lenP, lenAt, resultsP, resultP, oneOr, reduceCtorEq, reduceIte, Nat.reduceEqDiff, Nat.reduceAdd, Nat.zero_add, Nat.reduceMul, Nat.reduceLT, Nat.reduceLeDiff, Int.reduceLT, Int.reduceNeg, Int.reduceLE, appendP, appendAt, letGo, setLoc, locVal, Int.reduceToNat, boxCells, und]
          try rfl
      clear hE2 hloop2
      obtain ⟨e2, V', hz2, k5⟩ := hP2
      subst hz2
      simp (maxSteps := 5000000) only [SA, SB, SD, R, guardAt, binP, intP, indexAddrP, elemsOf, readCells, lenP, lenAt, resultsP, resultP, oneOr, reduceCtorEq, reduceIte, Nat.reduceEqDiff, Nat.reduceAdd, Nat.zero_add, Nat.reduceMul, Nat.reduceLT, Nat.reduceLeDiff, Int.reduceLT, Int.reduceNeg, Int.reduceLE, appendP, appendAt, letGo, setLoc, locVal, Int.reduceToNat, boxCells, und, TG, SE, SC, unP, htu, VLf, eqgV, eqVP, extP, loadR, loadP, storeR, storeK, storeCellsP, laid, lay, setBox, nchP, callAl, jl1, js1, List.append_assoc, List.nil_append, List.length_cons, List.length_append, List.length_nil, List.set_cons_zero, List.set_cons_succ, List.getElem?_cons_zero, List.getElem?_cons_succ, Option.map_some, Nat.le_refl, List.take_succ_cons, List.take_zero, List.drop_nil, List.filter_nil, List.cons_append, Int.reduceBEq, Int.reduceBNe, Int.reduceGT, Int.reduceGE, Int.reduceLE, Bool.not_true, Bool.not_false, k5, hend, hnil, b0, ez, haw]
      exact ⟨_, rfl⟩
    · subst hz
      simp (maxSteps := 5000000) only [SA, SB, SD, R, guardAt, binP, intP, indexAddrP, elemsOf, readCells, lenP, lenAt, resultsP, resultP, oneOr, reduceCtorEq, reduceIte, Nat.reduceEqDiff, Nat.reduceAdd, Nat.zero_add, Nat.reduceMul, Nat.reduceLT, Nat.reduceLeDiff, Int.reduceLT, Int.reduceNeg, Int.reduceLE, appendP, appendAt, letGo, setLoc, locVal, Int.reduceToNat, boxCells, und, TG, SE, SC, unP, htu, VLf, eqgV, eqVP, extP, loadR, loadP, storeR, storeK, storeCellsP, laid, lay, setBox, nchP, callAl, jl1, js1, List.append_assoc, List.nil_append, List.length_cons, List.length_append, List.length_nil, List.set_cons_zero, List.set_cons_succ, List.getElem?_cons_zero, List.getElem?_cons_succ, Option.map_some, Nat.le_refl, List.take_succ_cons, List.take_zero, List.drop_nil, List.filter_nil, List.cons_append, Int.reduceBEq, Int.reduceBNe, Int.reduceGT, Int.reduceGE, Int.reduceLE, Bool.not_true, Bool.not_false, k2]
      exact ⟨_, rfl⟩
end Go.HH
