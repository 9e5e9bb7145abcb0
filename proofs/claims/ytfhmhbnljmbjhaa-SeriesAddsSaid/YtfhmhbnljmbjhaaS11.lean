/-
  Series: sums of two series; the law of totals.
-/
import Derived.Test.YtfhmhbnljmbjhaaS10
namespace Go.HH
open Go Go.Proofs
set_option maxRecDepth 100000
set_option linter.unusedSimpArgs false
theorem ok28 : fnOK CC Try.f28 (Try.f28.body.getD .skip) = true := by kernel_rfl
theorem fat28 : CC.P.funcs[28]? = some Try.f28 := by kernel_rfl
theorem ok9 : fnOK CC Try.f9 (Try.f9.body.getD .skip) = true := by kernel_rfl
theorem fat9 : CC.P.funcs[9]? = some Try.f9 := by kernel_rfl
def addL (x y : List Int) (i : Nat) : List Int := (List.range i).map fun j => satI (x.getD j 0 + y.getD j 0)
def addI (a b : List Int) : List Int := addL (rd a) (rd b) (max (rd a).length (rd b).length)
theorem addL_succ (x y : List Int) (i : Nat) : addL x y (i + 1) = addL x y i ++ [satI (x.getD i 0 + y.getD i 0)] := by
  unfold addL
  rw [List.range_succ, List.map_append]
  rfl
theorem addL_length (x y : List Int) (i : Nat) : (addL x y i).length = i := by simp [addL]
theorem getD_lim {x : List Int} (hm : limI x) (i : Nat) : -1099511627776 ≤ x.getD i 0 ∧ x.getD i 0 ≤ 1099511627776 := by
  rw [List.getD_eq_getElem?_getD]
  by_cases h : i < x.length
  · rw [List.getElem?_eq_getElem h]
    exact hm _ (List.getElem_mem h)
  · rw [List.getElem?_eq_none (by omega)]
    simp
theorem loop28 (L : Code) (hL : L = fpart Try.f28 [1,1,1,0,1,0]) (x y : List Int) (n : Nat) (hn : n ≤ 1000) (hx : limI x) (hy : limI y) : ∀ (k i : Nat) (e : List PV), i + k = n → getT e 5 = .sl (ints x) → getT e 6 = .sl (ints y) → getT e 18 = .int .i64 n → getT e 19 = .int .i64 i → getT e 7 = .osl 3 (ints (addL x y i)) →
   ∃ e', evL CC L ⟨e, []⟩ = some (.exit 0, ⟨e', []⟩) ∧ getT e' 7 = .osl 3 (ints (addL x y n)) := by
  intro k
  induction k with
  | zero =>
    intro i e hk h5 h6 h18 h19 h7
    rw [evL_at (fpart Try.f28 [1,1,1,0,1,0,0]) hL]
    obtain ⟨ev, eo, so, co, ⟨hev, hco⟩, R⟩ := RULES CC; rw [← hev]
    have hi' : ¬ ((i : Int) < (n : Int)) := by omega
    simp only [fpart, part', Try.f28, Option.getD]
    simp (maxSteps := 5000000) only [SA, SB, SD, R, guardAt, binP, intP, indexAddrP, elemsOf, readCells, lenP, lenAt, resultsP, resultP, oneOr, reduceCtorEq, reduceIte, Nat.reduceEqDiff, Nat.reduceAdd, Nat.zero_add, Nat.reduceMul, Nat.reduceLT, Nat.reduceLeDiff, Int.reduceLT, Int.reduceNeg, Int.reduceLE, appendP, appendAt, letGo, setLoc, locVal, Int.reduceToNat, boxCells, und, TY, h5, h6, h18, h19, hi']
    exact ⟨_, rfl, by simp (maxSteps := 5000000) only [SA, SB, SD, R, guardAt, binP, intP, indexAddrP, elemsOf, readCells, lenP, lenAt, resultsP, resultP, oneOr, reduceCtorEq, reduceIte, Nat.reduceEqDiff, Nat.reduceAdd, Nat.zero_add, Nat.reduceMul, Nat.reduceLT, Nat.reduceLeDiff, Int.reduceLT, Int.reduceNeg, Int.reduceLE, appendP, appendAt, letGo, setLoc, locVal, Int.reduceToNat, boxCells, und, h7]; rw [show i = n from by omega]⟩
  | succ k ih =>
    intro i e hk h5 h6 h18 h19 h7
    rw [evL_at (fpart Try.f28 [1,1,1,0,1,0,0]) hL]
    obtain ⟨ev, eo, so, co, ⟨hev, hco⟩, R⟩ := RULES CC; rw [← hev]; have o32 := @op32; rw [← hco] at o32
    rw [← hev] at ih
    have hi' : ((i : Int) < (n : Int)) := by omega
    have hi0 : ¬ ((i : Int) < 0) := by omega
    have hw := wrap_i64 (n := (i : Int) + 1) ⟨by omega, by omega⟩
    have hacc := addL_succ x y i
    have hlen := addL_length x y i
    have lx := getD_lim hx i
    have ly := getD_lim hy i
    have gx : (i : Int) < (x.length : Int) → x[i]? = some (x.getD i 0) := fun h => by rw [List.getD_eq_getElem?_getD, List.getElem?_eq_getElem (by omega)]; rfl
    have gy : (i : Int) < (y.length : Int) → y[i]? = some (y.getD i 0) := fun h => by rw [List.getD_eq_getElem?_getD, List.getElem?_eq_getElem (by omega)]; rfl
    have zx : ¬ ((i : Int) < (x.length : Int)) → x.getD i 0 = 0 := fun h => by rw [List.getD_eq_getElem?_getD, List.getElem?_eq_none (by omega)]; rfl
    have zy : ¬ ((i : Int) < (y.length : Int)) → y.getD i 0 = 0 := fun h => by rw [List.getD_eq_getElem?_getD, List.getElem?_eq_none (by omega)]; rfl
    generalize addL x y i = acc at *
    generalize x.getD i 0 = u at *
    generalize y.getD i 0 = v at *
    have hc : acc.length + 1 ≤ 1000000 := by omega
    have hw2 := wrap_i64 (n := u + v) ⟨by omega, by omega⟩
    simp only [fpart, part', Try.f28, Option.getD]
    by_cases c1 : (i : Int) < (x.length : Int)
    · have gx := gx c1
      by_cases c2 : (i : Int) < (y.length : Int)
      · have gy := gy c2
        simp (maxSteps := 5000000) only [SA, SB, SD, R, guardAt, binP, intP, indexAddrP, elemsOf, readCells, lenP, lenAt, resultsP, resultP, oneOr, reduceCtorEq, reduceIte, Nat.reduceEqDiff, Nat.reduceAdd, Nat.zero_add, Nat.reduceMul, Nat.reduceLT, Nat.reduceLeDiff, Int.reduceLT, Int.reduceNeg, Int.reduceLE, appendP, appendAt, letGo, setLoc, locVal, Int.reduceToNat, boxCells, und, TY, TN, h5, h6, h18, h19, h7, hi', hi0, hw, hw2, c1, c2, gx, gy, o32, bs1, ap24, hc]
        exact ih (i + 1) _ (by omega) (by simp (maxSteps := 5000000) only [SA, SB, SD, R, guardAt, binP, intP, indexAddrP, elemsOf, readCells, lenP, lenAt, resultsP, resultP, oneOr, reduceCtorEq, reduceIte, Nat.reduceEqDiff, Nat.reduceAdd, Nat.zero_add, Nat.reduceMul, Nat.reduceLT, Nat.reduceLeDiff, Int.reduceLT, Int.reduceNeg, Int.reduceLE, appendP, appendAt, letGo, setLoc, locVal, Int.reduceToNat, boxCells, und, h5]) (by simp (maxSteps := 5000000) only [SA, SB, SD, R, guardAt, binP, intP, indexAddrP, elemsOf, readCells, lenP, lenAt, resultsP, resultP, oneOr, reduceCtorEq, reduceIte, Nat.reduceEqDiff, Nat.reduceAdd, Nat.zero_add, Nat.reduceMul, Nat.reduceLT, Nat.reduceLeDiff, Int.reduceLT, Int.reduceNeg, Int.reduceLE, appendP, appendAt, letGo, setLoc, locVal, Int.reduceToNat, boxCells, und, h6]) (by simp (maxSteps := 5000000) only [SA, SB, SD, R, guardAt, binP, intP, indexAddrP, elemsOf, readCells, lenP, lenAt, resultsP, resultP, oneOr, reduceCtorEq, reduceIte, Nat.reduceEqDiff, Nat.reduceAdd, Nat.zero_add, Nat.reduceMul, Nat.reduceLT, Nat.reduceLeDiff, Int.reduceLT, Int.reduceNeg, Int.reduceLE, appendP, appendAt, letGo, setLoc, locVal, Int.reduceToNat, boxCells, und, h18]) (by simp (maxSteps := 5000000) only [SA, SB, SD, R, guardAt, binP, intP, indexAddrP, elemsOf, readCells, lenP, lenAt, resultsP, resultP, oneOr, reduceCtorEq, reduceIte, Nat.reduceEqDiff, Nat.reduceAdd, Nat.zero_add, Nat.reduceMul, Nat.reduceLT, Nat.reduceLeDiff, Int.reduceLT, Int.reduceNeg, Int.reduceLE, appendP, appendAt, letGo, setLoc, locVal, Int.reduceToNat, boxCells, und]; rfl) (by simp (maxSteps := 5000000) only [SA, SB, SD, R, guardAt, binP, intP, indexAddrP, elemsOf, readCells, lenP, lenAt, resultsP, resultP, oneOr, reduceCtorEq, reduceIte, Nat.reduceEqDiff, Nat.reduceAdd, Nat.zero_add, Nat.reduceMul, Nat.reduceLT, Nat.reduceLeDiff, Int.reduceLT, Int.reduceNeg, Int.reduceLE, appendP, appendAt, letGo, setLoc, locVal, Int.reduceToNat, boxCells, und, hacc])
      · have zy := zy c2
        rw [zy, Int.add_zero] at hacc
        simp (maxSteps := 5000000) only [SA, SB, SD, R, guardAt, binP, intP, indexAddrP, elemsOf, readCells, lenP, lenAt, resultsP, resultP, oneOr, reduceCtorEq, reduceIte, Nat.reduceEqDiff, Nat.reduceAdd, Nat.zero_add, Nat.reduceMul, Nat.reduceLT, Nat.reduceLeDiff, Int.reduceLT, Int.reduceNeg, Int.reduceLE, appendP, appendAt, letGo, setLoc, locVal, Int.reduceToNat, boxCells, und, TY, TN, h5, h6, h18, h19, h7, hi', hi0, hw, hw2, c1, c2, gx, o32, bs1, ap24, hc]
        exact ih (i + 1) _ (by omega) (by simp (maxSteps := 5000000) only [SA, SB, SD, R, guardAt, binP, intP, indexAddrP, elemsOf, readCells, lenP, lenAt, resultsP, resultP, oneOr, reduceCtorEq, reduceIte, Nat.reduceEqDiff, Nat.reduceAdd, Nat.zero_add, Nat.reduceMul, Nat.reduceLT, Nat.reduceLeDiff, Int.reduceLT, Int.reduceNeg, Int.reduceLE, appendP, appendAt, letGo, setLoc, locVal, Int.reduceToNat, boxCells, und, h5]) (by simp (maxSteps := 5000000) only [SA, SB, SD, R, guardAt, binP, intP, indexAddrP, elemsOf, readCells, lenP, lenAt, resultsP, resultP, oneOr, reduceCtorEq, reduceIte, Nat.reduceEqDiff, Nat.reduceAdd, Nat.zero_add, Nat.reduceMul, Nat.reduceLT, Nat.reduceLeDiff, Int.reduceLT, Int.reduceNeg, Int.reduceLE, appendP, appendAt, letGo, setLoc, locVal, Int.reduceToNat, boxCells, und, h6]) (by simp (maxSteps := 5000000) only [SA, SB, SD, R, guardAt, binP, intP, indexAddrP, elemsOf, readCells, lenP, lenAt, resultsP, resultP, oneOr, reduceCtorEq, reduceIte, Nat.reduceEqDiff, Nat.reduceAdd, Nat.zero_add, Nat.reduceMul, Nat.reduceLT, Nat.reduceLeDiff, Int.reduceLT, Int.reduceNeg, Int.reduceLE, appendP, appendAt, letGo, setLoc, locVal, Int.reduceToNat, boxCells, und, h18]) (by simp (maxSteps := 5000000) only [SA, SB, SD, R, guardAt, binP, intP, indexAddrP, elemsOf, readCells, lenP, lenAt, resultsP, resultP, oneOr, reduceCtorEq, reduceIte, Nat.reduceEqDiff, Nat.reduceAdd, Nat.zero_add, Nat.reduceMul, Nat.reduceLT, Nat.reduceLeDiff, Int.reduceLT, Int.reduceNeg, Int.reduceLE, appendP, appendAt, letGo, setLoc, locVal, Int.reduceToNat, boxCells, und]; rfl) (by simp (maxSteps := 5000000) only [SA, SB, SD, R, guardAt, binP, intP, indexAddrP, elemsOf, readCells, lenP, lenAt, resultsP, resultP, oneOr, reduceCtorEq, reduceIte, Nat.reduceEqDiff, Nat.reduceAdd, Nat.zero_add, Nat.reduceMul, Nat.reduceLT, Nat.reduceLeDiff, Int.reduceLT, Int.reduceNeg, Int.reduceLE, appendP, appendAt, letGo, setLoc, locVal, Int.reduceToNat, boxCells, und, hacc])
    · have zx := zx c1
      subst zx
      by_cases c2 : (i : Int) < (y.length : Int)
      · have gy := gy c2
        simp (maxSteps := 5000000) only [SA, SB, SD, R, guardAt, binP, intP, indexAddrP, elemsOf, readCells, lenP, lenAt, resultsP, resultP, oneOr, reduceCtorEq, reduceIte, Nat.reduceEqDiff, Nat.reduceAdd, Nat.zero_add, Nat.reduceMul, Nat.reduceLT, Nat.reduceLeDiff, Int.reduceLT, Int.reduceNeg, Int.reduceLE, appendP, appendAt, letGo, setLoc, locVal, Int.reduceToNat, boxCells, und, TY, TN, h5, h6, h18, h19, h7, hi', hi0, hw, hw2, c1, c2, gy, o32, bs1, ap24, hc]
        exact ih (i + 1) _ (by omega) (by simp (maxSteps := 5000000) only [SA, SB, SD, R, guardAt, binP, intP, indexAddrP, elemsOf, readCells, lenP, lenAt, resultsP, resultP, oneOr, reduceCtorEq, reduceIte, Nat.reduceEqDiff, Nat.reduceAdd, Nat.zero_add, Nat.reduceMul, Nat.reduceLT, Nat.reduceLeDiff, Int.reduceLT, Int.reduceNeg, Int.reduceLE, appendP, appendAt, letGo, setLoc, locVal, Int.reduceToNat, boxCells, und, h5]) (by simp (maxSteps := 5000000) only [SA, SB, SD, R, guardAt, binP, intP, indexAddrP, elemsOf, readCells, lenP, lenAt, resultsP, resultP, oneOr, reduceCtorEq, reduceIte, Nat.reduceEqDiff, Nat.reduceAdd, Nat.zero_add, Nat.reduceMul, Nat.reduceLT, Nat.reduceLeDiff, Int.reduceLT, Int.reduceNeg, Int.reduceLE, appendP, appendAt, letGo, setLoc, locVal, Int.reduceToNat, boxCells, und, h6]) (by simp (maxSteps := 5000000) only [SA, SB, SD, R, guardAt, binP, intP, indexAddrP, elemsOf, readCells, lenP, lenAt, resultsP, resultP, oneOr, reduceCtorEq, reduceIte, Nat.reduceEqDiff, Nat.reduceAdd, Nat.zero_add, Nat.reduceMul, Nat.reduceLT, Nat.reduceLeDiff, Int.reduceLT, Int.reduceNeg, Int.reduceLE, appendP, appendAt, letGo, setLoc, locVal, Int.reduceToNat, boxCells, und, h18]) (by simp (maxSteps := 5000000) only [SA, SB, SD, R, guardAt, binP, intP, indexAddrP, elemsOf, readCells, lenP, lenAt, resultsP, resultP, oneOr, reduceCtorEq, reduceIte, Nat.reduceEqDiff, Nat.reduceAdd, Nat.zero_add, Nat.reduceMul, Nat.reduceLT, Nat.reduceLeDiff, Int.reduceLT, Int.reduceNeg, Int.reduceLE, appendP, appendAt, letGo, setLoc, locVal, Int.reduceToNat, boxCells, und]; rfl) (by simp (maxSteps := 5000000) only [SA, SB, SD, R, guardAt, binP, intP, indexAddrP, elemsOf, readCells, lenP, lenAt, resultsP, resultP, oneOr, reduceCtorEq, reduceIte, Nat.reduceEqDiff, Nat.reduceAdd, Nat.zero_add, Nat.reduceMul, Nat.reduceLT, Nat.reduceLeDiff, Int.reduceLT, Int.reduceNeg, Int.reduceLE, appendP, appendAt, letGo, setLoc, locVal, Int.reduceToNat, boxCells, und, hacc])
      · have zy := zy c2
        subst zy
        rw [Int.add_zero] at hacc
        simp (maxSteps := 5000000) only [SA, SB, SD, R, guardAt, binP, intP, indexAddrP, elemsOf, readCells, lenP, lenAt, resultsP, resultP, oneOr, reduceCtorEq, reduceIte, Nat.reduceEqDiff, Nat.reduceAdd, Nat.zero_add, Nat.reduceMul, Nat.reduceLT, Nat.reduceLeDiff, Int.reduceLT, Int.reduceNeg, Int.reduceLE, appendP, appendAt, letGo, setLoc, locVal, Int.reduceToNat, boxCells, und, TY, TN, h5, h6, h18, h19, h7, hi', hi0, hw, hw2, c1, c2, o32, bs1, ap24, hc]
        exact ih (i + 1) _ (by omega) (by simp (maxSteps := 5000000) only [SA, SB, SD, R, guardAt, binP, intP, indexAddrP, elemsOf, readCells, lenP, lenAt, resultsP, resultP, oneOr, reduceCtorEq, reduceIte, Nat.reduceEqDiff, Nat.reduceAdd, Nat.zero_add, Nat.reduceMul, Nat.reduceLT, Nat.reduceLeDiff, Int.reduceLT, Int.reduceNeg, Int.reduceLE, appendP, appendAt, letGo, setLoc, locVal, Int.reduceToNat, boxCells, und, h5]) (by simp (maxSteps := 5000000) only [SA, SB, SD, R, guardAt, binP, intP, indexAddrP, elemsOf, readCells, lenP, lenAt, resultsP, resultP, oneOr, reduceCtorEq, reduceIte, Nat.reduceEqDiff, Nat.reduceAdd, Nat.zero_add, Nat.reduceMul, Nat.reduceLT, Nat.reduceLeDiff, Int.reduceLT, Int.reduceNeg, Int.reduceLE, appendP, appendAt, letGo, setLoc, locVal, Int.reduceToNat, boxCells, und, h6]) (by simp (maxSteps := 5000000) only [SA, SB, SD, R, guardAt, binP, intP, indexAddrP, elemsOf, readCells, lenP, lenAt, resultsP, resultP, oneOr, reduceCtorEq, reduceIte, Nat.reduceEqDiff, Nat.reduceAdd, Nat.zero_add, Nat.reduceMul, Nat.reduceLT, Nat.reduceLeDiff, Int.reduceLT, Int.reduceNeg, Int.reduceLE, appendP, appendAt, letGo, setLoc, locVal, Int.reduceToNat, boxCells, und, h18]) (by simp (maxSteps := 5000000) only [SA, SB, SD, R, guardAt, binP, intP, indexAddrP, elemsOf, readCells, lenP, lenAt, resultsP, resultP, oneOr, reduceCtorEq, reduceIte, Nat.reduceEqDiff, Nat.reduceAdd, Nat.zero_add, Nat.reduceMul, Nat.reduceLT, Nat.reduceLeDiff, Int.reduceLT, Int.reduceNeg, Int.reduceLE, appendP, appendAt, letGo, setLoc, locVal, Int.reduceToNat, boxCells, und]; rfl) (by simp (maxSteps := 5000000) only [SA, SB, SD, R, guardAt, binP, intP, indexAddrP, elemsOf, readCells, lenP, lenAt, resultsP, resultP, oneOr, reduceCtorEq, reduceIte, Nat.reduceEqDiff, Nat.reduceAdd, Nat.zero_add, Nat.reduceMul, Nat.reduceLT, Nat.reduceLeDiff, Int.reduceLT, Int.reduceNeg, Int.reduceLE, appendP, appendAt, letGo, setLoc, locVal, Int.reduceToNat, boxCells, und, hacc])
theorem call28 (a b : List Int) : callL CC 28 [.sl (ints a), .sl (ints b)] [] = some (.ret (.sl (ints (addI a b))), []) := by
  rw [callL_enter (fn := Try.f28) (c := Try.f28.body.getD .skip) rfl fat28 rfl ok28 (Nat.le_of_ble_eq_true rfl)]
  have la := rd_length a
  have lb := rd_length b
  have hloop := loop28 _ rfl (rd a) (rd b) (max (rd a).length (rd b).length) (by omega) (limI_rd a) (limI_rd b)
  have hmax : max ((rd a).length : Int) ((rd b).length : Int) = ((max (rd a).length (rd b).length : Nat) : Int) := by omega
  obtain ⟨ev, eo, so, co, ⟨hev, hco⟩, R⟩ := RULES CC; rw [← hev]; have o34 := @op34; rw [← hco] at o34
  rw [← hev] at hloop
  unfold addI
  generalize max (rd a).length (rd b).length = n at *
  simp only [fpart, part', Try.f28, Option.getD] at hloop ⊢
  simp (maxSteps := 5000000) only [SA, SB, SD, R, guardAt, binP, intP, indexAddrP, elemsOf, readCells, lenP, lenAt, resultsP, resultP, oneOr, reduceCtorEq, reduceIte, Nat.reduceEqDiff, Nat.reduceAdd, Nat.zero_add, Nat.reduceMul, Nat.reduceLT, Nat.reduceLeDiff, Int.reduceLT, Int.reduceNeg, Int.reduceLE, appendP, appendAt, letGo, setLoc, locVal, Int.reduceToNat, boxCells, und, TY, TN, o34, maxP2, hmax]
  generalize hE : ev _ _ = r
  obtain ⟨e', he, h7⟩ := useLoop' hE (hloop n 0 _ (by omega) (by simp (maxSteps := 5000000) only [SA, SB, SD, R, guardAt, binP, intP, indexAddrP, elemsOf, readCells, lenP, lenAt, resultsP, resultP, oneOr, reduceCtorEq, reduceIte, Nat.reduceEqDiff, Nat.reduceAdd, Nat.zero_add, Nat.reduceMul, Nat.reduceLT, Nat.reduceLeDiff, Int.reduceLT, Int.reduceNeg, Int.reduceLE, appendP, appendAt, letGo, setLoc, locVal, Int.reduceToNat, boxCells, und]) (by simp (maxSteps := 5000000) only [SA, SB, SD, R, guardAt, binP, intP, indexAddrP, elemsOf, readCells, lenP, lenAt, resultsP, resultP, oneOr, reduceCtorEq, reduceIte, Nat.reduceEqDiff, Nat.reduceAdd, Nat.zero_add, Nat.reduceMul, Nat.reduceLT, Nat.reduceLeDiff, Int.reduceLT, Int.reduceNeg, Int.reduceLE, appendP, appendAt, letGo, setLoc, locVal, Int.reduceToNat, boxCells, und]) (by simp (maxSteps := 5000000) only [SA, SB, SD, R, guardAt, binP, intP, indexAddrP, elemsOf, readCells, lenP, lenAt, resultsP, resultP, oneOr, reduceCtorEq, reduceIte, Nat.reduceEqDiff, Nat.reduceAdd, Nat.zero_add, Nat.reduceMul, Nat.reduceLT, Nat.reduceLeDiff, Int.reduceLT, Int.reduceNeg, Int.reduceLE, appendP, appendAt, letGo, setLoc, locVal, Int.reduceToNat, boxCells, und]) (by simp (maxSteps := 5000000) only [SA, SB, SD, R, guardAt, binP, intP, indexAddrP, elemsOf, readCells, lenP, lenAt, resultsP, resultP, oneOr, reduceCtorEq, reduceIte, Nat.reduceEqDiff, Nat.reduceAdd, Nat.zero_add, Nat.reduceMul, Nat.reduceLT, Nat.reduceLeDiff, Int.reduceLT, Int.reduceNeg, Int.reduceLE, appendP, appendAt, letGo, setLoc, locVal, Int.reduceToNat, boxCells, und]; rfl) (by simp (maxSteps := 5000000) only [SA, SB, SD, R, guardAt, binP, intP, indexAddrP, elemsOf, readCells, lenP, lenAt, resultsP, resultP, oneOr, reduceCtorEq, reduceIte, Nat.reduceEqDiff, Nat.reduceAdd, Nat.zero_add, Nat.reduceMul, Nat.reduceLT, Nat.reduceLeDiff, Int.reduceLT, Int.reduceNeg, Int.reduceLE, appendP, appendAt, letGo, setLoc, locVal, Int.reduceToNat, boxCells, und]; rfl))
  subst he
  simp (maxSteps := 5000000) only [SA, SB, SD, R, guardAt, binP, intP, indexAddrP, elemsOf, readCells, lenP, lenAt, resultsP, resultP, oneOr, reduceCtorEq, reduceIte, Nat.reduceEqDiff, Nat.reduceAdd, Nat.zero_add, Nat.reduceMul, Nat.reduceLT, Nat.reduceLeDiff, Int.reduceLT, Int.reduceNeg, Int.reduceLE, appendP, appendAt, letGo, setLoc, locVal, Int.reduceToNat, boxCells, und, TY, TN, h7]
theorem op28 (a b : List Int) (bx) : callOp CC (callL CC) 28 [.sl (ints a), .sl (ints b)] bx = some (.ret (.sl (ints (addI a b))), bx) := callOp_of rfl (by simp only [SA, Bool.and_true]) (call28 a b) (by simp only [SA])
theorem limI_addL (x y : List Int) (i : Nat) : limI (addL x y i) := by
  intro z hz
  obtain ⟨j, _, rfl⟩ := List.mem_map.1 hz
  exact satI_le _
theorem limI_grp (k : Nat) : ∀ (y : List Int) (j : Nat) (s : Int), limI (grp k j s y)
  | [], _, _ => fun x h => by simp [grp] at h
  | v :: y, j, s => by
    intro x h
    rw [grp_cons] at h
    split at h
    · rcases List.mem_cons.1 h with rfl | h
      · exact satI_le _
      · exact limI_grp k y 0 0 x h
    · exact limI_grp k y (j + 1) (s + v) x h
theorem rd_id {x : List Int} (h : x.length ≤ 96) (hm : limI x) : rd x = x := by
  unfold rd
  rw [if_neg (by omega)]
  calc x.map satI = x.map id := List.map_congr_left fun y hy => satI_id (hm y hy)
    _ = x := List.map_id x
theorem cut_all {x : List Int} (h : x.length ≤ 96) : cut x 0 96 = x := by
  unfold cut
  rw [show (96 : Int).toNat = 96 from rfl, show (0 : Int).toNat = 0 from rfl, List.drop_zero, List.take_of_length_le (by omega)]
theorem sumAt_all {x : List Int} (h : x.length ≤ 96) (hm : limI x) : sumAt x 0 96 = satI (sumI x) := by
  unfold sumAt
  rw [rd_id h hm, cut_all h]
theorem sum_grp (k : Nat) : ∀ (y : List Int) (j : Nat) (s : Int) (m : Nat), (∀ x ∈ y, -1073741824 ≤ x ∧ x ≤ 1073741824) → m + y.length ≤ 96 → -1073741824 * (m : Int) ≤ s → s ≤ 1073741824 * (m : Int) →
    sumI (grp k j s y) = if y = [] then 0 else s + sumI y
  | [], _, _, _, _, _, _, _ => by simp [grp, sumI_nil]
  | v :: y, j, s, m, h, hl, b1, b2 => by
    have hv := h v (by simp)
    have hr : ∀ x ∈ y, -1073741824 ≤ x ∧ x ≤ 1073741824 := fun x hx => h x (by simp [hx])
    simp only [List.length_cons] at hl
    have i1 := sum_grp k y 0 0 0 hr (by omega) (by omega) (by omega)
    have i2 := sum_grp k y (j + 1) (s + v) (m + 1) hr (by omega) (by push_cast; omega) (by push_cast; omega)
    rw [if_neg (by simp), grp_cons, sumI_cons]
    split
    · rw [sumI_cons, satI_id (by omega), i1]
      split
      · rename_i hy; subst hy; rw [sumI_nil]; omega
      · omega
    · rename_i hc
      simp only [not_or] at hc
      rw [i2, if_neg hc.2]
      omega
theorem sum_take_getD (x : List Int) (i : Nat) : sumI (x.take (i + 1)) = sumI (x.take i) + x.getD i 0 := by
  by_cases h : i < x.length
  · rw [sumI_take_succ x i h, List.getD_eq_getElem?_getD, List.getElem?_eq_getElem h]; rfl
  · rw [List.take_of_length_le (by omega), List.take_of_length_le (by omega), List.getD_eq_getElem?_getD, List.getElem?_eq_none (by omega)]
    simp
theorem getD_small {x : List Int} (h : ∀ v ∈ x, -1073741824 ≤ v ∧ v ≤ 1073741824) (i : Nat) : -1073741824 ≤ x.getD i 0 ∧ x.getD i 0 ≤ 1073741824 := by
  rw [List.getD_eq_getElem?_getD]
  by_cases hi : i < x.length
  · rw [List.getElem?_eq_getElem hi]
    exact h _ (List.getElem_mem hi)
  · rw [List.getElem?_eq_none (by omega)]
    simp
theorem sum_addL {x y : List Int} (hx : ∀ v ∈ x, -1073741824 ≤ v ∧ v ≤ 1073741824) (hy : ∀ v ∈ y, -1073741824 ≤ v ∧ v ≤ 1073741824) : ∀ i, sumI (addL x y i) = sumI (x.take i) + sumI (y.take i)
  | 0 => by simp [addL, sumI_nil]
  | i + 1 => by
    have a := getD_small hx i
    have b := getD_small hy i
    rw [addL_succ, sumI_append, sumI_cons, sumI_nil, sum_addL hx hy i, sum_take_getD x, sum_take_getD y, satI_id (by omega)]
    omega
/-- THE LAW OF TOTALS -/
theorem law9 (a : List Int) (_ : a.length ≤ maxLen) (_ : ∀ x ∈ a, inI x) (b : List Int) (_ : b.length ≤ maxLen) (_ : ∀ x ∈ b, inI x) (k : Int) (hk : inI k) : ∃ bx, callL CC 9 [.sl (ints a), .sl (ints b), .int .i64 k] [] = some (.ret (.bool true), bx) := by
  rw [callL_enter (fn := Try.f9) (c := Try.f9.body.getD .skip) rfl fat9 rfl ok9 (Nat.le_of_ble_eq_true rfl)]
  obtain ⟨ev, eo, so, co, ⟨hev, hco⟩, R⟩ := RULES CC; rw [← hev]; have o11 := @op11; rw [← hco] at o11; have o18 := @op18; rw [← hco] at o18; have o20 := @op20; rw [← hco] at o20; have o25 := @op25; rw [← hco] at o25; have o28 := @op28; rw [← hco] at o28
  simp only [fpart, part', Try.f9, Option.getD]
  cases hs : smallI a with
  | false =>
    simp (maxSteps := 5000000) only [SA, SB, SD, R, guardAt, binP, intP, indexAddrP, elemsOf, readCells, lenP, lenAt, resultsP, resultP, oneOr, reduceCtorEq, reduceIte, Nat.reduceEqDiff, Nat.reduceAdd, Nat.zero_add, Nat.reduceMul, Nat.reduceLT, Nat.reduceLeDiff, Int.reduceLT, Int.reduceNeg, Int.reduceLE, appendP, appendAt, letGo, setLoc, locVal, Int.reduceToNat, boxCells, und, TY, TN, o25, hs, o11, unP]
    exact ⟨_, rfl⟩
  | true => cases ht : smallI b with
    | false =>
      simp (maxSteps := 5000000) only [SA, SB, SD, R, guardAt, binP, intP, indexAddrP, elemsOf, readCells, lenP, lenAt, resultsP, resultP, oneOr, reduceCtorEq, reduceIte, Nat.reduceEqDiff, Nat.reduceAdd, Nat.zero_add, Nat.reduceMul, Nat.reduceLT, Nat.reduceLeDiff, Int.reduceLT, Int.reduceNeg, Int.reduceLE, appendP, appendAt, letGo, setLoc, locVal, Int.reduceToNat, boxCells, und, TY, TN, o25, hs, ht, o11, unP]
      exact ⟨_, rfl⟩
    | true =>
      by_cases c1 : k < 1
      · simp (maxSteps := 5000000) only [SA, SB, SD, R, guardAt, binP, intP, indexAddrP, elemsOf, readCells, lenP, lenAt, resultsP, resultP, oneOr, reduceCtorEq, reduceIte, Nat.reduceEqDiff, Nat.reduceAdd, Nat.zero_add, Nat.reduceMul, Nat.reduceLT, Nat.reduceLeDiff, Int.reduceLT, Int.reduceNeg, Int.reduceLE, appendP, appendAt, letGo, setLoc, locVal, Int.reduceToNat, boxCells, und, TY, TN, o25, hs, ht, o11, unP, c1]
        exact ⟨_, rfl⟩
      · have ⟨a1, a2, a3⟩ := small_rd hs
        have ⟨b1, b2, b3⟩ := small_rd ht
        have sa := sum_small a a3
        have sb := sum_small b b3
        have la : limI a := fun x hx => by have := a3 x hx; omega
        have lb : limI b := fun x hx => by have := b3 x hx; omega
        have e1 : sumAt a 0 96 = sumI a := by rw [sumAt_all a1 la, satI_id (by omega)]
        have e2 : sumAt b 0 96 = sumI b := by rw [sumAt_all b1 lb, satI_id (by omega)]
        have e3 : sumAt (resI a k) 0 96 = sumI a := by
          have hr : resI a k = grp k.toNat 0 0 a := by unfold resI; rw [if_neg c1, a2]
          have hl := grp_length k.toNat a 0 0
          have hsum := sum_grp k.toNat a 0 0 0 a3 (by omega) (by omega) (by omega)
          rw [hr, sumAt_all (by omega) (limI_grp _ _ _ _), hsum]
          split
          · rename_i h; subst h; rfl
          · rw [Int.zero_add, satI_id (by omega)]
        have e4 : sumAt (addI a b) 0 96 = sumI a + sumI b := by
          unfold addI
          rw [a2, b2, sumAt_all (by rw [addL_length]; omega) (limI_addL _ _ _), sum_addL a3 b3, List.take_of_length_le (by omega), List.take_of_length_le (by omega), satI_id (by omega)]
        have hw := wrap_i64 (n := sumI a + sumI b) ⟨by omega, by omega⟩
        have h20 := o20 a k hk
        simp (maxSteps := 5000000) only [SA, SB, SD, R, guardAt, binP, intP, indexAddrP, elemsOf, readCells, lenP, lenAt, resultsP, resultP, oneOr, reduceCtorEq, reduceIte, Nat.reduceEqDiff, Nat.reduceAdd, Nat.zero_add, Nat.reduceMul, Nat.reduceLT, Nat.reduceLeDiff, Int.reduceLT, Int.reduceNeg, Int.reduceLE, appendP, appendAt, letGo, setLoc, locVal, Int.reduceToNat, boxCells, und, TY, TN, o25, hs, ht, o11, unP, c1, o18, h20, o28, e1, e2, e3, e4, hw]
        exact ⟨_, rfl⟩
end Go.HH
