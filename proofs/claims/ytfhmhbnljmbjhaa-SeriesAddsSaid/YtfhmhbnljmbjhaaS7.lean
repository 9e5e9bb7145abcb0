/-
  Series: running sums; the law of parts.
-/
import Derived.Test.YtfhmhbnljmbjhaaS6
namespace Go.HH
open Go Go.Proofs
set_option maxRecDepth 100000
set_option linter.unusedSimpArgs false
theorem ok23 : fnOK CC Try.f23 (Try.f23.body.getD .skip) = true := by kernel_rfl
theorem fat23 : CC.P.funcs[23]? = some Try.f23 := by kernel_rfl
theorem ok24 : fnOK CC Try.f24 (Try.f24.body.getD .skip) = true := by kernel_rfl
theorem fat24 : CC.P.funcs[24]? = some Try.f24 := by kernel_rfl
theorem ok25 : fnOK CC Try.f25 (Try.f25.body.getD .skip) = true := by kernel_rfl
theorem fat25 : CC.P.funcs[25]? = some Try.f25 := by kernel_rfl
theorem ok7 : fnOK CC Try.f7 (Try.f7.body.getD .skip) = true := by kernel_rfl
theorem fat7 : CC.P.funcs[7]? = some Try.f7 := by kernel_rfl
theorem satI_id {n : Int} (h : -1099511627776 ≤ n ∧ n ≤ 1099511627776) : satI n = n := by
  unfold satI
  rw [if_neg (by omega), if_neg (by omega)]
theorem rd_rd (l : List Int) : rd (rd l) = rd l := by
  have h := rd_length l
  have hm := limI_rd l
  generalize rd l = x at *
  unfold rd
  rw [if_neg (by omega)]
  calc x.map satI = x.map id := List.map_congr_left fun y hy => satI_id (hm y hy)
    _ = x := List.map_id x
def cumI (x : List Int) (i : Nat) : List Int := (List.range i).map fun j => satI (sumI (x.take (j + 1)))
theorem cumI_succ (x : List Int) (i : Nat) : cumI x (i + 1) = cumI x i ++ [satI (sumI (x.take (i + 1)))] := by
  unfold cumI
  rw [List.range_succ, List.map_append]
  rfl
theorem cumI_length (x : List Int) (i : Nat) : (cumI x i).length = i := by simp [cumI]
theorem loop23 (L : Code) (hL : L = fpart Try.f23 [1,1,1,0,1,0]) (x : List Int) (hl : x.length ≤ 1000) (hm : limI x) : ∀ (k i : Nat) (e : List PV), i + k = x.length → getT e 3 = .sl (ints x) → getT e 9 = .int .i64 x.length → getT e 10 = .int .i64 i → getT e 4 = .osl 3 (ints (cumI x i)) →
   ∃ e', evL CC L ⟨e, []⟩ = some (.exit 0, ⟨e', []⟩) ∧ getT e' 4 = .osl 3 (ints (cumI x x.length)) := by
  intro k
  induction k with
  | zero =>
    intro i e hk h3 h9 h10 h4
    rw [evL_at (fpart Try.f23 [1,1,1,0,1,0,0]) hL]
    obtain ⟨ev, eo, so, co, ⟨hev, hco⟩, R⟩ := RULES CC; rw [← hev]
    have hi' : ¬ ((i : Int) < (x.length : Int)) := by omega
    simp only [fpart, part', Try.f23, Option.getD]
    simp (maxSteps := 5000000) only [SA, SB, SD, R, guardAt, binP, intP, indexAddrP, elemsOf, readCells, lenP, lenAt, resultsP, resultP, oneOr, reduceCtorEq, reduceIte, Nat.reduceEqDiff, Nat.reduceAdd, Nat.zero_add, Nat.reduceMul, Nat.reduceLT, Nat.reduceLeDiff, Int.reduceLT, Int.reduceNeg, Int.reduceLE, appendP, appendAt, letGo, setLoc, locVal, Int.reduceToNat, boxCells, und, TY, h3, h9, h10, hi']
    exact ⟨_, rfl, by simp (maxSteps := 5000000) only [SA, SB, SD, R, guardAt, binP, intP, indexAddrP, elemsOf, readCells, lenP, lenAt, resultsP, resultP, oneOr, reduceCtorEq, reduceIte, Nat.reduceEqDiff, Nat.reduceAdd, Nat.zero_add, Nat.reduceMul, Nat.reduceLT, Nat.reduceLeDiff, Int.reduceLT, Int.reduceNeg, Int.reduceLE, appendP, appendAt, letGo, setLoc, locVal, Int.reduceToNat, boxCells, und, h4]; rw [show i = x.length from by omega]⟩
  | succ k ih =>
    intro i e hk h3 h9 h10 h4
    rw [evL_at (fpart Try.f23 [1,1,1,0,1,0,0]) hL]
    obtain ⟨ev, eo, so, co, ⟨hev, hco⟩, R⟩ := RULES CC; rw [← hev]; have o36 := @op36; rw [← hco] at o36
    rw [← hev] at ih
    have hi' : ((i : Int) < (x.length : Int)) := by omega
    have hw := wrap_i64 (n := (i : Int) + 1) ⟨by omega, by omega⟩
    have hacc := cumI_succ x i
    have hlen := cumI_length x i
    have h36 := o36 (x.take (i + 1)) (by simp; omega) (limI_sub hm fun y hy => List.mem_of_mem_take hy)
    have hb1 : (0 : Int) ≤ (i : Int) + 1 ∧ (i : Int) + 1 ≤ (x.length : Int) := by omega
    have hb2 : ((i : Int) + 1).toNat = i + 1 := by omega
    generalize cumI x i = acc at *
    generalize satI (sumI (x.take (i + 1))) = v at *
    have hc : acc.length + 1 ≤ 1000000 := by omega
    simp only [fpart, part', Try.f23, Option.getD]
    simp (maxSteps := 5000000) only [SA, SB, SD, R, guardAt, binP, intP, indexAddrP, elemsOf, readCells, lenP, lenAt, resultsP, resultP, oneOr, reduceCtorEq, reduceIte, Nat.reduceEqDiff, Nat.reduceAdd, Nat.zero_add, Nat.reduceMul, Nat.reduceLT, Nat.reduceLeDiff, Int.reduceLT, Int.reduceNeg, Int.reduceLE, appendP, appendAt, letGo, setLoc, locVal, Int.reduceToNat, boxCells, und, TY, TN, h3, h9, h10, h4, hi', hw, sliceP, boundO, boundP, hb1, hb2, h36, bs1, ap24, hc]
    exact ih (i + 1) _ (by omega) (by simp (maxSteps := 5000000) only [SA, SB, SD, R, guardAt, binP, intP, indexAddrP, elemsOf, readCells, lenP, lenAt, resultsP, resultP, oneOr, reduceCtorEq, reduceIte, Nat.reduceEqDiff, Nat.reduceAdd, Nat.zero_add, Nat.reduceMul, Nat.reduceLT, Nat.reduceLeDiff, Int.reduceLT, Int.reduceNeg, Int.reduceLE, appendP, appendAt, letGo, setLoc, locVal, Int.reduceToNat, boxCells, und, h3]) (by simp (maxSteps := 5000000) only [SA, SB, SD, R, guardAt, binP, intP, indexAddrP, elemsOf, readCells, lenP, lenAt, resultsP, resultP, oneOr, reduceCtorEq, reduceIte, Nat.reduceEqDiff, Nat.reduceAdd, Nat.zero_add, Nat.reduceMul, Nat.reduceLT, Nat.reduceLeDiff, Int.reduceLT, Int.reduceNeg, Int.reduceLE, appendP, appendAt, letGo, setLoc, locVal, Int.reduceToNat, boxCells, und, h9]) (by simp (maxSteps := 5000000) only [SA, SB, SD, R, guardAt, binP, intP, indexAddrP, elemsOf, readCells, lenP, lenAt, resultsP, resultP, oneOr, reduceCtorEq, reduceIte, Nat.reduceEqDiff, Nat.reduceAdd, Nat.zero_add, Nat.reduceMul, Nat.reduceLT, Nat.reduceLeDiff, Int.reduceLT, Int.reduceNeg, Int.reduceLE, appendP, appendAt, letGo, setLoc, locVal, Int.reduceToNat, boxCells, und]; rfl) (by simp (maxSteps := 5000000) only [SA, SB, SD, R, guardAt, binP, intP, indexAddrP, elemsOf, readCells, lenP, lenAt, resultsP, resultP, oneOr, reduceCtorEq, reduceIte, Nat.reduceEqDiff, Nat.reduceAdd, Nat.zero_add, Nat.reduceMul, Nat.reduceLT, Nat.reduceLeDiff, Int.reduceLT, Int.reduceNeg, Int.reduceLE, appendP, appendAt, letGo, setLoc, locVal, Int.reduceToNat, boxCells, und, hacc])
theorem call23 (l : List Int) : callL CC 23 [.sl (ints l)] [] = some (.ret (.sl (ints (cumI (rd l) (rd l).length))), []) := by
  rw [callL_enter (fn := Try.f23) (c := Try.f23.body.getD .skip) rfl fat23 rfl ok23 (Nat.le_of_ble_eq_true rfl)]
  have hloop := loop23 _ rfl (rd l) (by have := rd_length l; omega) (limI_rd l)
  obtain ⟨ev, eo, so, co, ⟨hev, hco⟩, R⟩ := RULES CC; rw [← hev]; have o34 := @op34; rw [← hco] at o34
  rw [← hev] at hloop
  simp only [fpart, part', Try.f23, Option.getD] at hloop ⊢
  simp (maxSteps := 5000000) only [SA, SB, SD, R, guardAt, binP, intP, indexAddrP, elemsOf, readCells, lenP, lenAt, resultsP, resultP, oneOr, reduceCtorEq, reduceIte, Nat.reduceEqDiff, Nat.reduceAdd, Nat.zero_add, Nat.reduceMul, Nat.reduceLT, Nat.reduceLeDiff, Int.reduceLT, Int.reduceNeg, Int.reduceLE, appendP, appendAt, letGo, setLoc, locVal, Int.reduceToNat, boxCells, und, TY, TN, o34]
  generalize hE : ev _ _ = r
  obtain ⟨e', he, h4⟩ := useLoop' hE (hloop (rd l).length 0 _ (by omega) (by simp (maxSteps := 5000000) only [SA, SB, SD, R, guardAt, binP, intP, indexAddrP, elemsOf, readCells, lenP, lenAt, resultsP, resultP, oneOr, reduceCtorEq, reduceIte, Nat.reduceEqDiff, Nat.reduceAdd, Nat.zero_add, Nat.reduceMul, Nat.reduceLT, Nat.reduceLeDiff, Int.reduceLT, Int.reduceNeg, Int.reduceLE, appendP, appendAt, letGo, setLoc, locVal, Int.reduceToNat, boxCells, und]) (by simp (maxSteps := 5000000) only [SA, SB, SD, R, guardAt, binP, intP, indexAddrP, elemsOf, readCells, lenP, lenAt, resultsP, resultP, oneOr, reduceCtorEq, reduceIte, Nat.reduceEqDiff, Nat.reduceAdd, Nat.zero_add, Nat.reduceMul, Nat.reduceLT, Nat.reduceLeDiff, Int.reduceLT, Int.reduceNeg, Int.reduceLE, appendP, appendAt, letGo, setLoc, locVal, Int.reduceToNat, boxCells, und]) (by simp (maxSteps := 5000000) only [SA, SB, SD, R, guardAt, binP, intP, indexAddrP, elemsOf, readCells, lenP, lenAt, resultsP, resultP, oneOr, reduceCtorEq, reduceIte, Nat.reduceEqDiff, Nat.reduceAdd, Nat.zero_add, Nat.reduceMul, Nat.reduceLT, Nat.reduceLeDiff, Int.reduceLT, Int.reduceNeg, Int.reduceLE, appendP, appendAt, letGo, setLoc, locVal, Int.reduceToNat, boxCells, und]; rfl) (by simp (maxSteps := 5000000) only [SA, SB, SD, R, guardAt, binP, intP, indexAddrP, elemsOf, readCells, lenP, lenAt, resultsP, resultP, oneOr, reduceCtorEq, reduceIte, Nat.reduceEqDiff, Nat.reduceAdd, Nat.zero_add, Nat.reduceMul, Nat.reduceLT, Nat.reduceLeDiff, Int.reduceLT, Int.reduceNeg, Int.reduceLE, appendP, appendAt, letGo, setLoc, locVal, Int.reduceToNat, boxCells, und]; rfl))
  subst he
  simp (maxSteps := 5000000) only [SA, SB, SD, R, guardAt, binP, intP, indexAddrP, elemsOf, readCells, lenP, lenAt, resultsP, resultP, oneOr, reduceCtorEq, reduceIte, Nat.reduceEqDiff, Nat.reduceAdd, Nat.zero_add, Nat.reduceMul, Nat.reduceLT, Nat.reduceLeDiff, Int.reduceLT, Int.reduceNeg, Int.reduceLE, appendP, appendAt, letGo, setLoc, locVal, Int.reduceToNat, boxCells, und, TY, h4]
theorem op23 (l : List Int) (bx) : callOp CC (callL CC) 23 [.sl (ints l)] bx = some (.ret (.sl (ints (cumI (rd l) (rd l).length))), bx) := callOp_of rfl (by simp only [SA, Bool.and_true]) (call23 l) (by simp only [SA])
theorem loop24 (L : Code) (hL : L = fpart Try.f24 [1,1,1,0,1,0]) (x : List Int) (hl : x.length ≤ 1000) (hr : rd x = x) : ∀ (k i : Nat) (e : List PV), i + k = x.length → getT e 3 = .sl (ints x) → getT e 5 = .int .i64 i → getT e 4 = .osl 3 (ints (cumI x i)) →
   ∃ e', evL CC L ⟨e, []⟩ = some (.exit 0, ⟨e', []⟩) ∧ getT e' 4 = .osl 3 (ints (cumI x x.length)) := by
  intro k
  induction k with
  | zero =>
    intro i e hk h3 h5 h4
    rw [evL_at (fpart Try.f24 [1,1,1,0,1,0,0]) hL]
    obtain ⟨ev, eo, so, co, ⟨hev, hco⟩, R⟩ := RULES CC; rw [← hev]
    have hi' : ¬ ((i : Int) < (x.length : Int)) := by omega
    simp only [fpart, part', Try.f24, Option.getD]
    simp (maxSteps := 5000000) only [SA, SB, SD, R, guardAt, binP, intP, indexAddrP, elemsOf, readCells, lenP, lenAt, resultsP, resultP, oneOr, reduceCtorEq, reduceIte, Nat.reduceEqDiff, Nat.reduceAdd, Nat.zero_add, Nat.reduceMul, Nat.reduceLT, Nat.reduceLeDiff, Int.reduceLT, Int.reduceNeg, Int.reduceLE, appendP, appendAt, letGo, setLoc, locVal, Int.reduceToNat, boxCells, und, TY, h3, h5, hi']
    exact ⟨_, rfl, by simp (maxSteps := 5000000) only [SA, SB, SD, R, guardAt, binP, intP, indexAddrP, elemsOf, readCells, lenP, lenAt, resultsP, resultP, oneOr, reduceCtorEq, reduceIte, Nat.reduceEqDiff, Nat.reduceAdd, Nat.zero_add, Nat.reduceMul, Nat.reduceLT, Nat.reduceLeDiff, Int.reduceLT, Int.reduceNeg, Int.reduceLE, appendP, appendAt, letGo, setLoc, locVal, Int.reduceToNat, boxCells, und, h4]; rw [show i = x.length from by omega]⟩
  | succ k ih =>
    intro i e hk h3 h5 h4
    rw [evL_at (fpart Try.f24 [1,1,1,0,1,0,0]) hL]
    obtain ⟨ev, eo, so, co, ⟨hev, hco⟩, R⟩ := RULES CC; rw [← hev]; have o19 := @op19; rw [← hco] at o19
    rw [← hev] at ih
    have hi' : ((i : Int) < (x.length : Int)) := by omega
    have hw := wrap_i64 (n := (i : Int) + 1) ⟨by omega, by omega⟩
    have hacc := cumI_succ x i
    have hlen := cumI_length x i
    have h19 : sumAt x 0 ((i : Int) + 1) = satI (sumI (x.take (i + 1))) := by
      unfold sumAt cut
      rw [hr, show ((i : Int) + 1).toNat = i + 1 from by omega]
      rfl
    generalize cumI x i = acc at *
    generalize satI (sumI (x.take (i + 1))) = v at *
    have hc : acc.length + 1 ≤ 1000000 := by omega
    simp only [fpart, part', Try.f24, Option.getD]
    simp (maxSteps := 5000000) only [SA, SB, SD, R, guardAt, binP, intP, indexAddrP, elemsOf, readCells, lenP, lenAt, resultsP, resultP, oneOr, reduceCtorEq, reduceIte, Nat.reduceEqDiff, Nat.reduceAdd, Nat.zero_add, Nat.reduceMul, Nat.reduceLT, Nat.reduceLeDiff, Int.reduceLT, Int.reduceNeg, Int.reduceLE, appendP, appendAt, letGo, setLoc, locVal, Int.reduceToNat, boxCells, und, TY, TN, h3, h5, h4, hi', hw, o19, h19, bs1, ap24, hc]
    exact ih (i + 1) _ (by omega) (by simp (maxSteps := 5000000) only [SA, SB, SD, R, guardAt, binP, intP, indexAddrP, elemsOf, readCells, lenP, lenAt, resultsP, resultP, oneOr, reduceCtorEq, reduceIte, Nat.reduceEqDiff, Nat.reduceAdd, Nat.zero_add, Nat.reduceMul, Nat.reduceLT, Nat.reduceLeDiff, Int.reduceLT, Int.reduceNeg, Int.reduceLE, appendP, appendAt, letGo, setLoc, locVal, Int.reduceToNat, boxCells, und, h3]) (by simp (maxSteps := 5000000) only [SA, SB, SD, R, guardAt, binP, intP, indexAddrP, elemsOf, readCells, lenP, lenAt, resultsP, resultP, oneOr, reduceCtorEq, reduceIte, Nat.reduceEqDiff, Nat.reduceAdd, Nat.zero_add, Nat.reduceMul, Nat.reduceLT, Nat.reduceLeDiff, Int.reduceLT, Int.reduceNeg, Int.reduceLE, appendP, appendAt, letGo, setLoc, locVal, Int.reduceToNat, boxCells, und]; rfl) (by simp (maxSteps := 5000000) only [SA, SB, SD, R, guardAt, binP, intP, indexAddrP, elemsOf, readCells, lenP, lenAt, resultsP, resultP, oneOr, reduceCtorEq, reduceIte, Nat.reduceEqDiff, Nat.reduceAdd, Nat.zero_add, Nat.reduceMul, Nat.reduceLT, Nat.reduceLeDiff, Int.reduceLT, Int.reduceNeg, Int.reduceLE, appendP, appendAt, letGo, setLoc, locVal, Int.reduceToNat, boxCells, und, hacc])
theorem call24 (l : List Int) : callL CC 24 [.sl (ints l)] [] = some (.ret (.sl (ints (cumI (rd l) (rd l).length))), []) := by
  rw [callL_enter (fn := Try.f24) (c := Try.f24.body.getD .skip) rfl fat24 rfl ok24 (Nat.le_of_ble_eq_true rfl)]
  have hloop := loop24 _ rfl (rd l) (by have := rd_length l; omega) (rd_rd l)
  obtain ⟨ev, eo, so, co, ⟨hev, hco⟩, R⟩ := RULES CC; rw [← hev]; have o35 := @op35; rw [← hco] at o35
  rw [← hev] at hloop
  simp only [fpart, part', Try.f24, Option.getD] at hloop ⊢
  simp (maxSteps := 5000000) only [SA, SB, SD, R, guardAt, binP, intP, indexAddrP, elemsOf, readCells, lenP, lenAt, resultsP, resultP, oneOr, reduceCtorEq, reduceIte, Nat.reduceEqDiff, Nat.reduceAdd, Nat.zero_add, Nat.reduceMul, Nat.reduceLT, Nat.reduceLeDiff, Int.reduceLT, Int.reduceNeg, Int.reduceLE, appendP, appendAt, letGo, setLoc, locVal, Int.reduceToNat, boxCells, und, TY, TN, o35]
  generalize hE : ev _ _ = r
  obtain ⟨e', he, h4⟩ := useLoop' hE (hloop (rd l).length 0 _ (by omega) (by simp (maxSteps := 5000000) only [SA, SB, SD, R, guardAt, binP, intP, indexAddrP, elemsOf, readCells, lenP, lenAt, resultsP, resultP, oneOr, reduceCtorEq, reduceIte, Nat.reduceEqDiff, Nat.reduceAdd, Nat.zero_add, Nat.reduceMul, Nat.reduceLT, Nat.reduceLeDiff, Int.reduceLT, Int.reduceNeg, Int.reduceLE, appendP, appendAt, letGo, setLoc, locVal, Int.reduceToNat, boxCells, und]) (by simp (maxSteps := 5000000) only [SA, SB, SD, R, guardAt, binP, intP, indexAddrP, elemsOf, readCells, lenP, lenAt, resultsP, resultP, oneOr, reduceCtorEq, reduceIte, Nat.reduceEqDiff, Nat.reduceAdd, Nat.zero_add, Nat.reduceMul, Nat.reduceLT, Nat.reduceLeDiff, Int.reduceLT, Int.reduceNeg, Int.reduceLE, appendP, appendAt, letGo, setLoc, locVal, Int.reduceToNat, boxCells, und]; rfl) (by simp (maxSteps := 5000000) only [SA, SB, SD, R, guardAt, binP, intP, indexAddrP, elemsOf, readCells, lenP, lenAt, resultsP, resultP, oneOr, reduceCtorEq, reduceIte, Nat.reduceEqDiff, Nat.reduceAdd, Nat.zero_add, Nat.reduceMul, Nat.reduceLT, Nat.reduceLeDiff, Int.reduceLT, Int.reduceNeg, Int.reduceLE, appendP, appendAt, letGo, setLoc, locVal, Int.reduceToNat, boxCells, und]; rfl))
  subst he
  simp (maxSteps := 5000000) only [SA, SB, SD, R, guardAt, binP, intP, indexAddrP, elemsOf, readCells, lenP, lenAt, resultsP, resultP, oneOr, reduceCtorEq, reduceIte, Nat.reduceEqDiff, Nat.reduceAdd, Nat.zero_add, Nat.reduceMul, Nat.reduceLT, Nat.reduceLeDiff, Int.reduceLT, Int.reduceNeg, Int.reduceLE, appendP, appendAt, letGo, setLoc, locVal, Int.reduceToNat, boxCells, und, TY, h4]
theorem op24 (l : List Int) (bx) : callOp CC (callL CC) 24 [.sl (ints l)] bx = some (.ret (.sl (ints (cumI (rd l) (rd l).length))), bx) := callOp_of rfl (by simp only [SA, Bool.and_true]) (call24 l) (by simp only [SA])
end Go.HH
