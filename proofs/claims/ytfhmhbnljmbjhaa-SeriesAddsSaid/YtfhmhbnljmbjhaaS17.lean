/-
  Series: sums and scaled series; the law of sums.
-/
import Derived.Test.YtfhmhbnljmbjhaaN3
namespace Go.HH
open Go Go.Proofs
set_option maxRecDepth 100000
set_option linter.unusedSimpArgs false
set_option linter.unusedVariables false
theorem ok29 : fnOK CC Try.f29 (Try.f29.body.getD .skip) = true := by kernel_rfl
theorem fat29 : CC.P.funcs[29]? = some Try.f29 := by kernel_rfl
theorem ok30 : fnOK CC Try.f30 (Try.f30.body.getD .skip) = true := by kernel_rfl
theorem fat30 : CC.P.funcs[30]? = some Try.f30 := by kernel_rfl
theorem ok31 : fnOK CC Try.f31 (Try.f31.body.getD .skip) = true := by kernel_rfl
theorem fat31 : CC.P.funcs[31]? = some Try.f31 := by kernel_rfl
theorem ok10 : fnOK CC Try.f10 (Try.f10.body.getD .skip) = true := by kernel_rfl
theorem fat10 : CC.P.funcs[10]? = some Try.f10 := by kernel_rfl
theorem limI_rd' (a : List Int) : limI (rd a) := limI_rd a
theorem atI_lim {x : List Int} (h : x.length ≤ 96) (hm : limI x) (i : Nat) : atI x i = x.getD i 0 := by
  unfold atI
  rw [rd_id h hm]
  by_cases c : i < x.length
  · rw [if_neg (by omega)]; rfl
  · rw [if_pos (by omega), List.getD_eq_getElem?_getD, List.getElem?_eq_none (by omega)]; rfl
theorem loop29 (L : Code) (hL : L = fpart Try.f29 [1,1,1,0,1,0]) (x y : List Int) (hxl : x.length ≤ 96) (hyl : y.length ≤ 96) (hx : limI x) (hy : limI y) : ∀ (k i : Nat) (e : List PV), i + k = max x.length y.length → getT e 5 = .sl (ints x) → getT e 6 = .sl (ints y) → getT e 8 = .int .i64 i → getT e 7 = .osl 3 (ints (addL x y i)) →
   ∃ e', evL CC L ⟨e, []⟩ = some (.exit 0, ⟨e', []⟩) ∧ getT e' 7 = .osl 3 (ints (addL x y (max x.length y.length))) := by
  intro k
  induction k with
  | zero =>
    intro i e hk h5 h6 h8 h7
    rw [evL_at (fpart Try.f29 [1,1,1,0,1,0,0]) hL]
    obtain ⟨ev, eo, so, co, ⟨hev, hco⟩, R⟩ := RULES CC; rw [← hev]
    have hi1 : ¬ ((i : Int) < (x.length : Int)) := by omega
    have hi2 : ¬ ((i : Int) < (y.length : Int)) := by omega
    simp only [fpart, part', Try.f29, Option.getD]
    simp (maxSteps := 5000000) only [SA, SB, SD, R, guardAt, binP, intP, indexAddrP, elemsOf, readCells, lenP, lenAt, resultsP, resultP, oneOr, reduceCtorEq, reduceIte, Nat.reduceEqDiff, Nat.reduceAdd, Nat.zero_add, Nat.reduceMul, Nat.reduceLT, Nat.reduceLeDiff, Int.reduceLT, Int.reduceNeg, Int.reduceLE, appendP, appendAt, letGo, setLoc, locVal, Int.reduceToNat, boxCells, und, TG, h5, h6, h8, h7, hi1, hi2]
    exact ⟨_, rfl, by simp (maxSteps := 5000000) only [SA, SB, SD, R, guardAt, binP, intP, indexAddrP, elemsOf, readCells, lenP, lenAt, resultsP, resultP, oneOr, reduceCtorEq, reduceIte, Nat.reduceEqDiff, Nat.reduceAdd, Nat.zero_add, Nat.reduceMul, Nat.reduceLT, Nat.reduceLeDiff, Int.reduceLT, Int.reduceNeg, Int.reduceLE, appendP, appendAt, letGo, setLoc, locVal, Int.reduceToNat, boxCells, und, h7]; rw [show i = max x.length y.length from by omega]⟩
  | succ k ih =>
    intro i e hk h5 h6 h8 h7
    rw [evL_at (fpart Try.f29 [1,1,1,0,1,0,0]) hL]
    obtain ⟨ev, eo, so, co, ⟨hev, hco⟩, R⟩ := RULES CC; rw [← hev]; have o16 := @op16; rw [← hco] at o16; have o_R01_Add := @op_R01_Add; rw [← hco] at o_R01_Add
    rw [← hev] at ih
    have hw := wrap_i64 (n := (i : Int) + 1) ⟨by omega, by omega⟩
    have hacc := addL_succ x y i
    have hlen := addL_length x y i
    have lx := getD_lim hx i
    have ly := getD_lim hy i
    have ax := atI_lim hxl hx i
    have ay := atI_lim hyl hy i
    have hor : (i : Int) < (x.length : Int) ∨ (¬ ((i : Int) < (x.length : Int)) ∧ (i : Int) < (y.length : Int)) := by omega
    generalize addL x y i = acc at *
    have ha := o_R01_Add (x.getD i 0) (y.getD i 0) ⟨by omega, by omega⟩ ⟨by omega, by omega⟩
    generalize x.getD i 0 = u at *
    generalize y.getD i 0 = v at *
    have hc : acc.length + 1 ≤ 1000000 := by omega
    simp only [fpart, part', Try.f29, Option.getD]
    rcases hor with c1 | ⟨c1, c2⟩
    · simp (maxSteps := 5000000) only [SA, SB, SD, R, guardAt, binP, intP, indexAddrP, elemsOf, readCells, lenP, lenAt, resultsP, resultP, oneOr, reduceCtorEq, reduceIte, Nat.reduceEqDiff, Nat.reduceAdd, Nat.zero_add, Nat.reduceMul, Nat.reduceLT, Nat.reduceLeDiff, Int.reduceLT, Int.reduceNeg, Int.reduceLE, appendP, appendAt, letGo, setLoc, locVal, Int.reduceToNat, boxCells, und, TG, h5, h6, h8, h7, c1, hw, o16, ax, ay, ha, bs1, ap24, hc]
      exact ih (i + 1) _ (by omega) (by simp (maxSteps := 5000000) only [SA, SB, SD, R, guardAt, binP, intP, indexAddrP, elemsOf, readCells, lenP, lenAt, resultsP, resultP, oneOr, reduceCtorEq, reduceIte, Nat.reduceEqDiff, Nat.reduceAdd, Nat.zero_add, Nat.reduceMul, Nat.reduceLT, Nat.reduceLeDiff, Int.reduceLT, Int.reduceNeg, Int.reduceLE, appendP, appendAt, letGo, setLoc, locVal, Int.reduceToNat, boxCells, und, h5]) (by simp (maxSteps := 5000000) only [SA, SB, SD, R, guardAt, binP, intP, indexAddrP, elemsOf, readCells, lenP, lenAt, resultsP, resultP, oneOr, reduceCtorEq, reduceIte, Nat.reduceEqDiff, Nat.reduceAdd, Nat.zero_add, Nat.reduceMul, Nat.reduceLT, Nat.reduceLeDiff, Int.reduceLT, Int.reduceNeg, Int.reduceLE, appendP, appendAt, letGo, setLoc, locVal, Int.reduceToNat, boxCells, und, h6]) (by simp (maxSteps := 5000000) only [SA, SB, SD, R, guardAt, binP, intP, indexAddrP, elemsOf, readCells, lenP, lenAt, resultsP, resultP, oneOr, reduceCtorEq, reduceIte, Nat.reduceEqDiff, Nat.reduceAdd, Nat.zero_add, Nat.reduceMul, Nat.reduceLT, Nat.reduceLeDiff, Int.reduceLT, Int.reduceNeg, Int.reduceLE, appendP, appendAt, letGo, setLoc, locVal, Int.reduceToNat, boxCells, und]; rfl) (by simp (maxSteps := 5000000) only [SA, SB, SD, R, guardAt, binP, intP, indexAddrP, elemsOf, readCells, lenP, lenAt, resultsP, resultP, oneOr, reduceCtorEq, reduceIte, Nat.reduceEqDiff, Nat.reduceAdd, Nat.zero_add, Nat.reduceMul, Nat.reduceLT, Nat.reduceLeDiff, Int.reduceLT, Int.reduceNeg, Int.reduceLE, appendP, appendAt, letGo, setLoc, locVal, Int.reduceToNat, boxCells, und, hacc])
    · simp (maxSteps := 5000000) only [SA, SB, SD, R, guardAt, binP, intP, indexAddrP, elemsOf, readCells, lenP, lenAt, resultsP, resultP, oneOr, reduceCtorEq, reduceIte, Nat.reduceEqDiff, Nat.reduceAdd, Nat.zero_add, Nat.reduceMul, Nat.reduceLT, Nat.reduceLeDiff, Int.reduceLT, Int.reduceNeg, Int.reduceLE, appendP, appendAt, letGo, setLoc, locVal, Int.reduceToNat, boxCells, und, TG, h5, h6, h8, h7, c1, c2, hw, o16, ax, ay, ha, bs1, ap24, hc]
      exact ih (i + 1) _ (by omega) (by simp (maxSteps := 5000000) only [SA, SB, SD, R, guardAt, binP, intP, indexAddrP, elemsOf, readCells, lenP, lenAt, resultsP, resultP, oneOr, reduceCtorEq, reduceIte, Nat.reduceEqDiff, Nat.reduceAdd, Nat.zero_add, Nat.reduceMul, Nat.reduceLT, Nat.reduceLeDiff, Int.reduceLT, Int.reduceNeg, Int.reduceLE, appendP, appendAt, letGo, setLoc, locVal, Int.reduceToNat, boxCells, und, h5]) (by simp (maxSteps := 5000000) only [SA, SB, SD, R, guardAt, binP, intP, indexAddrP, elemsOf, readCells, lenP, lenAt, resultsP, resultP, oneOr, reduceCtorEq, reduceIte, Nat.reduceEqDiff, Nat.reduceAdd, Nat.zero_add, Nat.reduceMul, Nat.reduceLT, Nat.reduceLeDiff, Int.reduceLT, Int.reduceNeg, Int.reduceLE, appendP, appendAt, letGo, setLoc, locVal, Int.reduceToNat, boxCells, und, h6]) (by simp (maxSteps := 5000000) only [SA, SB, SD, R, guardAt, binP, intP, indexAddrP, elemsOf, readCells, lenP, lenAt, resultsP, resultP, oneOr, reduceCtorEq, reduceIte, Nat.reduceEqDiff, Nat.reduceAdd, Nat.zero_add, Nat.reduceMul, Nat.reduceLT, Nat.reduceLeDiff, Int.reduceLT, Int.reduceNeg, Int.reduceLE, appendP, appendAt, letGo, setLoc, locVal, Int.reduceToNat, boxCells, und]; rfl) (by simp (maxSteps := 5000000) only [SA, SB, SD, R, guardAt, binP, intP, indexAddrP, elemsOf, readCells, lenP, lenAt, resultsP, resultP, oneOr, reduceCtorEq, reduceIte, Nat.reduceEqDiff, Nat.reduceAdd, Nat.zero_add, Nat.reduceMul, Nat.reduceLT, Nat.reduceLeDiff, Int.reduceLT, Int.reduceNeg, Int.reduceLE, appendP, appendAt, letGo, setLoc, locVal, Int.reduceToNat, boxCells, und, hacc])
theorem call29 (a b : List Int) : callL CC 29 [.sl (ints a), .sl (ints b)] [] = some (.ret (.sl (ints (addI a b))), []) := by
  rw [callL_enter (fn := Try.f29) (c := Try.f29.body.getD .skip) rfl fat29 rfl ok29 (Nat.le_of_ble_eq_true rfl)]
  have hloop := loop29 _ rfl (rd a) (rd b) (rd_length a) (rd_length b) (limI_rd a) (limI_rd b)
  obtain ⟨ev, eo, so, co, ⟨hev, hco⟩, R⟩ := RULES CC; rw [← hev]; have o35 := @op35; rw [← hco] at o35
  rw [← hev] at hloop
  unfold addI
  simp only [fpart, part', Try.f29, Option.getD] at hloop ⊢
  simp (maxSteps := 5000000) only [SA, SB, SD, R, guardAt, binP, intP, indexAddrP, elemsOf, readCells, lenP, lenAt, resultsP, resultP, oneOr, reduceCtorEq, reduceIte, Nat.reduceEqDiff, Nat.reduceAdd, Nat.zero_add, Nat.reduceMul, Nat.reduceLT, Nat.reduceLeDiff, Int.reduceLT, Int.reduceNeg, Int.reduceLE, appendP, appendAt, letGo, setLoc, locVal, Int.reduceToNat, boxCells, und, TG, o35]
  generalize hE : ev _ _ = r
  obtain ⟨e', he, h7⟩ := useLoop' hE (hloop (max (rd a).length (rd b).length) 0 _ (by omega) (by simp (maxSteps := 5000000) only [SA, SB, SD, R, guardAt, binP, intP, indexAddrP, elemsOf, readCells, lenP, lenAt, resultsP, resultP, oneOr, reduceCtorEq, reduceIte, Nat.reduceEqDiff, Nat.reduceAdd, Nat.zero_add, Nat.reduceMul, Nat.reduceLT, Nat.reduceLeDiff, Int.reduceLT, Int.reduceNeg, Int.reduceLE, appendP, appendAt, letGo, setLoc, locVal, Int.reduceToNat, boxCells, und]) (by simp (maxSteps := 5000000) only [SA, SB, SD, R, guardAt, binP, intP, indexAddrP, elemsOf, readCells, lenP, lenAt, resultsP, resultP, oneOr, reduceCtorEq, reduceIte, Nat.reduceEqDiff, Nat.reduceAdd, Nat.zero_add, Nat.reduceMul, Nat.reduceLT, Nat.reduceLeDiff, Int.reduceLT, Int.reduceNeg, Int.reduceLE, appendP, appendAt, letGo, setLoc, locVal, Int.reduceToNat, boxCells, und]) (by simp (maxSteps := 5000000) only [SA, SB, SD, R, guardAt, binP, intP, indexAddrP, elemsOf, readCells, lenP, lenAt, resultsP, resultP, oneOr, reduceCtorEq, reduceIte, Nat.reduceEqDiff, Nat.reduceAdd, Nat.zero_add, Nat.reduceMul, Nat.reduceLT, Nat.reduceLeDiff, Int.reduceLT, Int.reduceNeg, Int.reduceLE, appendP, appendAt, letGo, setLoc, locVal, Int.reduceToNat, boxCells, und]; rfl) (by simp (maxSteps := 5000000) only [SA, SB, SD, R, guardAt, binP, intP, indexAddrP, elemsOf, readCells, lenP, lenAt, resultsP, resultP, oneOr, reduceCtorEq, reduceIte, Nat.reduceEqDiff, Nat.reduceAdd, Nat.zero_add, Nat.reduceMul, Nat.reduceLT, Nat.reduceLeDiff, Int.reduceLT, Int.reduceNeg, Int.reduceLE, appendP, appendAt, letGo, setLoc, locVal, Int.reduceToNat, boxCells, und]; rfl))
  subst he
  simp (maxSteps := 5000000) only [SA, SB, SD, R, guardAt, binP, intP, indexAddrP, elemsOf, readCells, lenP, lenAt, resultsP, resultP, oneOr, reduceCtorEq, reduceIte, Nat.reduceEqDiff, Nat.reduceAdd, Nat.zero_add, Nat.reduceMul, Nat.reduceLT, Nat.reduceLeDiff, Int.reduceLT, Int.reduceNeg, Int.reduceLE, appendP, appendAt, letGo, setLoc, locVal, Int.reduceToNat, boxCells, und, TG, h7]
theorem op29 (a b : List Int) (bx) : callOp CC (callL CC) 29 [.sl (ints a), .sl (ints b)] bx = some (.ret (.sl (ints (addI a b))), bx) := callOp_of rfl (by simp only [SA, Bool.and_true]) (call29 a b) (by simp only [SA])
theorem loop30 (L : Code) (hL : L = fpart Try.f30 [1,1,0,1,0]) (x : List Int) (hxl : x.length ≤ 96) (a b : Int) : ∀ (k i : Nat) (e : List PV), i + k = x.length → getT e 1 = .int .i64 a → getT e 2 = .int .i64 b → getT e 11 = .sl (ints x) → getT e 12 = .int .i64 x.length → getT e 13 = .int .i64 i → getT e 7 = .osl 3 (ints ((x.take i).map fun n => scaleI n a b)) →
   ∃ e', evL CC L ⟨e, []⟩ = some (.exit 0, ⟨e', []⟩) ∧ getT e' 7 = .osl 3 (ints (x.map fun n => scaleI n a b)) := by
  intro k
  induction k with
  | zero =>
    intro i e hk h1 h2 h11 h12 h13 h7
    rw [evL_at (fpart Try.f30 [1,1,0,1,0,0]) hL]
    obtain ⟨ev, eo, so, co, ⟨hev, hco⟩, R⟩ := RULES CC; rw [← hev]
    have hi : ¬ ((i : Int) < (x.length : Int)) := by omega
    simp only [fpart, part', Try.f30, Option.getD]
    simp (maxSteps := 5000000) only [SA, SB, SD, R, guardAt, binP, intP, indexAddrP, elemsOf, readCells, lenP, lenAt, resultsP, resultP, oneOr, reduceCtorEq, reduceIte, Nat.reduceEqDiff, Nat.reduceAdd, Nat.zero_add, Nat.reduceMul, Nat.reduceLT, Nat.reduceLeDiff, Int.reduceLT, Int.reduceNeg, Int.reduceLE, appendP, appendAt, letGo, setLoc, locVal, Int.reduceToNat, boxCells, und, TG, h11, h12, h13, hi]
    exact ⟨_, rfl, by simp (maxSteps := 5000000) only [SA, SB, SD, R, guardAt, binP, intP, indexAddrP, elemsOf, readCells, lenP, lenAt, resultsP, resultP, oneOr, reduceCtorEq, reduceIte, Nat.reduceEqDiff, Nat.reduceAdd, Nat.zero_add, Nat.reduceMul, Nat.reduceLT, Nat.reduceLeDiff, Int.reduceLT, Int.reduceNeg, Int.reduceLE, appendP, appendAt, letGo, setLoc, locVal, Int.reduceToNat, boxCells, und, h7]; rw [List.take_of_length_le (by omega)]⟩
  | succ k ih =>
    intro i e hk h1 h2 h11 h12 h13 h7
    rw [evL_at (fpart Try.f30 [1,1,0,1,0,0]) hL]
    obtain ⟨ev, eo, so, co, ⟨hev, hco⟩, R⟩ := RULES CC; rw [← hev]; have o_num_Scale := @op_num_Scale; rw [← hco] at o_num_Scale
    rw [← hev] at ih
    have hi : (i : Int) < (x.length : Int) := by omega
    have hi0 : ¬ ((i : Int) < 0) := by omega
    have hx : x[i]? = some x[i] := by simp
    have hw := wrap_i64 (n := (i : Int) + 1) ⟨by omega, by omega⟩
    have hacc : (x.take (i+1)).map (fun n => scaleI n a b) = (x.take i).map (fun n => scaleI n a b) ++ [scaleI x[i] a b] := by rw [List.take_succ_eq_append_getElem (by omega), List.map_append]; rfl
    have hlen : ((x.take i).map (fun n => scaleI n a b)).length = i := by simp; omega
    generalize (x.take i).map (fun n => scaleI n a b) = acc at *
    have hc : acc.length + 1 ≤ 1000000 := by omega
    generalize x[i] = u at hx hacc
    simp only [fpart, part', Try.f30, Option.getD]
    simp (maxSteps := 5000000) only [SA, SB, SD, R, guardAt, binP, intP, indexAddrP, elemsOf, readCells, lenP, lenAt, resultsP, resultP, oneOr, reduceCtorEq, reduceIte, Nat.reduceEqDiff, Nat.reduceAdd, Nat.zero_add, Nat.reduceMul, Nat.reduceLT, Nat.reduceLeDiff, Int.reduceLT, Int.reduceNeg, Int.reduceLE, appendP, appendAt, letGo, setLoc, locVal, Int.reduceToNat, boxCells, und, TG, h1, h2, h11, h12, h13, h7, hi, hi0, hx, hw, o_num_Scale, bs1, ap24, hc]
    exact ih (i + 1) _ (by omega) (by simp (maxSteps := 5000000) only [SA, SB, SD, R, guardAt, binP, intP, indexAddrP, elemsOf, readCells, lenP, lenAt, resultsP, resultP, oneOr, reduceCtorEq, reduceIte, Nat.reduceEqDiff, Nat.reduceAdd, Nat.zero_add, Nat.reduceMul, Nat.reduceLT, Nat.reduceLeDiff, Int.reduceLT, Int.reduceNeg, Int.reduceLE, appendP, appendAt, letGo, setLoc, locVal, Int.reduceToNat, boxCells, und, h1]) (by simp (maxSteps := 5000000) only [SA, SB, SD, R, guardAt, binP, intP, indexAddrP, elemsOf, readCells, lenP, lenAt, resultsP, resultP, oneOr, reduceCtorEq, reduceIte, Nat.reduceEqDiff, Nat.reduceAdd, Nat.zero_add, Nat.reduceMul, Nat.reduceLT, Nat.reduceLeDiff, Int.reduceLT, Int.reduceNeg, Int.reduceLE, appendP, appendAt, letGo, setLoc, locVal, Int.reduceToNat, boxCells, und, h2]) (by simp (maxSteps := 5000000) only [SA, SB, SD, R, guardAt, binP, intP, indexAddrP, elemsOf, readCells, lenP, lenAt, resultsP, resultP, oneOr, reduceCtorEq, reduceIte, Nat.reduceEqDiff, Nat.reduceAdd, Nat.zero_add, Nat.reduceMul, Nat.reduceLT, Nat.reduceLeDiff, Int.reduceLT, Int.reduceNeg, Int.reduceLE, appendP, appendAt, letGo, setLoc, locVal, Int.reduceToNat, boxCells, und, h11]) (by simp (maxSteps := 5000000) only [SA, SB, SD, R, guardAt, binP, intP, indexAddrP, elemsOf, readCells, lenP, lenAt, resultsP, resultP, oneOr, reduceCtorEq, reduceIte, Nat.reduceEqDiff, Nat.reduceAdd, Nat.zero_add, Nat.reduceMul, Nat.reduceLT, Nat.reduceLeDiff, Int.reduceLT, Int.reduceNeg, Int.reduceLE, appendP, appendAt, letGo, setLoc, locVal, Int.reduceToNat, boxCells, und, h12]) (by simp (maxSteps := 5000000) only [SA, SB, SD, R, guardAt, binP, intP, indexAddrP, elemsOf, readCells, lenP, lenAt, resultsP, resultP, oneOr, reduceCtorEq, reduceIte, Nat.reduceEqDiff, Nat.reduceAdd, Nat.zero_add, Nat.reduceMul, Nat.reduceLT, Nat.reduceLeDiff, Int.reduceLT, Int.reduceNeg, Int.reduceLE, appendP, appendAt, letGo, setLoc, locVal, Int.reduceToNat, boxCells, und]; rfl) (by simp (maxSteps := 5000000) only [SA, SB, SD, R, guardAt, binP, intP, indexAddrP, elemsOf, readCells, lenP, lenAt, resultsP, resultP, oneOr, reduceCtorEq, reduceIte, Nat.reduceEqDiff, Nat.reduceAdd, Nat.zero_add, Nat.reduceMul, Nat.reduceLT, Nat.reduceLeDiff, Int.reduceLT, Int.reduceNeg, Int.reduceLE, appendP, appendAt, letGo, setLoc, locVal, Int.reduceToNat, boxCells, und, hacc])
def scaleL (l : List Int) (a b : Int) : List Int := (rd l).map fun n => scaleI n a b
theorem call30 (l : List Int) (a b : Int) : callL CC 30 [.sl (ints l), .int .i64 a, .int .i64 b] [] = some (.ret (.sl (ints (scaleL l a b))), []) := by
  rw [callL_enter (fn := Try.f30) (c := Try.f30.body.getD .skip) rfl fat30 rfl ok30 (Nat.le_of_ble_eq_true rfl)]
  have hloop := loop30 _ rfl (rd l) (rd_length l) a b
  obtain ⟨ev, eo, so, co, ⟨hev, hco⟩, R⟩ := RULES CC; rw [← hev]; have o34 := @op34; rw [← hco] at o34
  rw [← hev] at hloop
  unfold scaleL
  simp only [fpart, part', Try.f30, Option.getD] at hloop ⊢
  simp (maxSteps := 5000000) only [SA, SB, SD, R, guardAt, binP, intP, indexAddrP, elemsOf, readCells, lenP, lenAt, resultsP, resultP, oneOr, reduceCtorEq, reduceIte, Nat.reduceEqDiff, Nat.reduceAdd, Nat.zero_add, Nat.reduceMul, Nat.reduceLT, Nat.reduceLeDiff, Int.reduceLT, Int.reduceNeg, Int.reduceLE, appendP, appendAt, letGo, setLoc, locVal, Int.reduceToNat, boxCells, und, TG, o34]
  generalize hE : ev _ _ = r
  obtain ⟨e', he, h7⟩ := useLoop' hE (hloop (rd l).length 0 _ (by omega) (by simp (maxSteps := 5000000) only [SA, SB, SD, R, guardAt, binP, intP, indexAddrP, elemsOf, readCells, lenP, lenAt, resultsP, resultP, oneOr, reduceCtorEq, reduceIte, Nat.reduceEqDiff, Nat.reduceAdd, Nat.zero_add, Nat.reduceMul, Nat.reduceLT, Nat.reduceLeDiff, Int.reduceLT, Int.reduceNeg, Int.reduceLE, appendP, appendAt, letGo, setLoc, locVal, Int.reduceToNat, boxCells, und]) (by simp (maxSteps := 5000000) only [SA, SB, SD, R, guardAt, binP, intP, indexAddrP, elemsOf, readCells, lenP, lenAt, resultsP, resultP, oneOr, reduceCtorEq, reduceIte, Nat.reduceEqDiff, Nat.reduceAdd, Nat.zero_add, Nat.reduceMul, Nat.reduceLT, Nat.reduceLeDiff, Int.reduceLT, Int.reduceNeg, Int.reduceLE, appendP, appendAt, letGo, setLoc, locVal, Int.reduceToNat, boxCells, und]) (by simp (maxSteps := 5000000) only [SA, SB, SD, R, guardAt, binP, intP, indexAddrP, elemsOf, readCells, lenP, lenAt, resultsP, resultP, oneOr, reduceCtorEq, reduceIte, Nat.reduceEqDiff, Nat.reduceAdd, Nat.zero_add, Nat.reduceMul, Nat.reduceLT, Nat.reduceLeDiff, Int.reduceLT, Int.reduceNeg, Int.reduceLE, appendP, appendAt, letGo, setLoc, locVal, Int.reduceToNat, boxCells, und]) (by simp (maxSteps := 5000000) only [SA, SB, SD, R, guardAt, binP, intP, indexAddrP, elemsOf, readCells, lenP, lenAt, resultsP, resultP, oneOr, reduceCtorEq, reduceIte, Nat.reduceEqDiff, Nat.reduceAdd, Nat.zero_add, Nat.reduceMul, Nat.reduceLT, Nat.reduceLeDiff, Int.reduceLT, Int.reduceNeg, Int.reduceLE, appendP, appendAt, letGo, setLoc, locVal, Int.reduceToNat, boxCells, und]) (by simp (maxSteps := 5000000) only [SA, SB, SD, R, guardAt, binP, intP, indexAddrP, elemsOf, readCells, lenP, lenAt, resultsP, resultP, oneOr, reduceCtorEq, reduceIte, Nat.reduceEqDiff, Nat.reduceAdd, Nat.zero_add, Nat.reduceMul, Nat.reduceLT, Nat.reduceLeDiff, Int.reduceLT, Int.reduceNeg, Int.reduceLE, appendP, appendAt, letGo, setLoc, locVal, Int.reduceToNat, boxCells, und]; rfl) (by simp (maxSteps := 5000000) only [SA, SB, SD, R, guardAt, binP, intP, indexAddrP, elemsOf, readCells, lenP, lenAt, resultsP, resultP, oneOr, reduceCtorEq, reduceIte, Nat.reduceEqDiff, Nat.reduceAdd, Nat.zero_add, Nat.reduceMul, Nat.reduceLT, Nat.reduceLeDiff, Int.reduceLT, Int.reduceNeg, Int.reduceLE, appendP, appendAt, letGo, setLoc, locVal, Int.reduceToNat, boxCells, und]; rfl))
  subst he
  simp (maxSteps := 5000000) only [SA, SB, SD, R, guardAt, binP, intP, indexAddrP, elemsOf, readCells, lenP, lenAt, resultsP, resultP, oneOr, reduceCtorEq, reduceIte, Nat.reduceEqDiff, Nat.reduceAdd, Nat.zero_add, Nat.reduceMul, Nat.reduceLT, Nat.reduceLeDiff, Int.reduceLT, Int.reduceNeg, Int.reduceLE, appendP, appendAt, letGo, setLoc, locVal, Int.reduceToNat, boxCells, und, TG, h7]
theorem op30 (l : List Int) (a b : Int) (bx) : callOp CC (callL CC) 30 [.sl (ints l), .int .i64 a, .int .i64 b] bx = some (.ret (.sl (ints (scaleL l a b))), bx) := callOp_of rfl (by simp only [SA, Bool.and_true]) (call30 l a b) (by simp only [SA])
theorem loop31 (L : Code) (hL : L = fpart Try.f31 [1,1,1,0,1,0]) (x : List Int) (hxl : x.length ≤ 96) (a b : Int) : ∀ (k i : Nat) (e : List PV), i + k = x.length → getT e 1 = .int .i64 a → getT e 2 = .int .i64 b → getT e 7 = .sl (ints x) → getT e 9 = .int .i64 i → getT e 8 = .osl 3 (ints ((x.take i).map fun n => scaleI n a b)) →
   ∃ e', evL CC L ⟨e, []⟩ = some (.exit 0, ⟨e', []⟩) ∧ getT e' 8 = .osl 3 (ints (x.map fun n => scaleI n a b)) := by
  intro k
  induction k with
  | zero =>
    intro i e hk h1 h2 h7 h9 h8
    rw [evL_at (fpart Try.f31 [1,1,1,0,1,0,0]) hL]
    obtain ⟨ev, eo, so, co, ⟨hev, hco⟩, R⟩ := RULES CC; rw [← hev]
    have hi : ¬ ((i : Int) < (x.length : Int)) := by omega
    simp only [fpart, part', Try.f31, Option.getD]
    simp (maxSteps := 5000000) only [SA, SB, SD, R, guardAt, binP, intP, indexAddrP, elemsOf, readCells, lenP, lenAt, resultsP, resultP, oneOr, reduceCtorEq, reduceIte, Nat.reduceEqDiff, Nat.reduceAdd, Nat.zero_add, Nat.reduceMul, Nat.reduceLT, Nat.reduceLeDiff, Int.reduceLT, Int.reduceNeg, Int.reduceLE, appendP, appendAt, letGo, setLoc, locVal, Int.reduceToNat, boxCells, und, TG, h7, h9, hi]
    exact ⟨_, rfl, by simp (maxSteps := 5000000) only [SA, SB, SD, R, guardAt, binP, intP, indexAddrP, elemsOf, readCells, lenP, lenAt, resultsP, resultP, oneOr, reduceCtorEq, reduceIte, Nat.reduceEqDiff, Nat.reduceAdd, Nat.zero_add, Nat.reduceMul, Nat.reduceLT, Nat.reduceLeDiff, Int.reduceLT, Int.reduceNeg, Int.reduceLE, appendP, appendAt, letGo, setLoc, locVal, Int.reduceToNat, boxCells, und, h8]; rw [List.take_of_length_le (by omega)]⟩
  | succ k ih =>
    intro i e hk h1 h2 h7 h9 h8
    rw [evL_at (fpart Try.f31 [1,1,1,0,1,0,0]) hL]
    obtain ⟨ev, eo, so, co, ⟨hev, hco⟩, R⟩ := RULES CC; rw [← hev]; have o_R01_Scale := @op_R01_Scale; rw [← hco] at o_R01_Scale
    rw [← hev] at ih
    have hi : (i : Int) < (x.length : Int) := by omega
    have hi0 : ¬ ((i : Int) < 0) := by omega
    have hx : x[i]? = some x[i] := by simp
    have hw := wrap_i64 (n := (i : Int) + 1) ⟨by omega, by omega⟩
    have hacc : (x.take (i+1)).map (fun n => scaleI n a b) = (x.take i).map (fun n => scaleI n a b) ++ [scaleI x[i] a b] := by rw [List.take_succ_eq_append_getElem (by omega), List.map_append]; rfl
    have hlen : ((x.take i).map (fun n => scaleI n a b)).length = i := by simp; omega
    generalize (x.take i).map (fun n => scaleI n a b) = acc at *
    have hc : acc.length + 1 ≤ 1000000 := by omega
    generalize x[i] = u at hx hacc
    simp only [fpart, part', Try.f31, Option.getD]
    simp (maxSteps := 5000000) only [SA, SB, SD, R, guardAt, binP, intP, indexAddrP, elemsOf, readCells, lenP, lenAt, resultsP, resultP, oneOr, reduceCtorEq, reduceIte, Nat.reduceEqDiff, Nat.reduceAdd, Nat.zero_add, Nat.reduceMul, Nat.reduceLT, Nat.reduceLeDiff, Int.reduceLT, Int.reduceNeg, Int.reduceLE, appendP, appendAt, letGo, setLoc, locVal, Int.reduceToNat, boxCells, und, TG, h1, h2, h7, h9, h8, hi, hi0, hx, hw, o_R01_Scale, bs1, ap24, hc]
    exact ih (i + 1) _ (by omega) (by simp (maxSteps := 5000000) only [SA, SB, SD, R, guardAt, binP, intP, indexAddrP, elemsOf, readCells, lenP, lenAt, resultsP, resultP, oneOr, reduceCtorEq, reduceIte, Nat.reduceEqDiff, Nat.reduceAdd, Nat.zero_add, Nat.reduceMul, Nat.reduceLT, Nat.reduceLeDiff, Int.reduceLT, Int.reduceNeg, Int.reduceLE, appendP, appendAt, letGo, setLoc, locVal, Int.reduceToNat, boxCells, und, h1]) (by simp (maxSteps := 5000000) only [SA, SB, SD, R, guardAt, binP, intP, indexAddrP, elemsOf, readCells, lenP, lenAt, resultsP, resultP, oneOr, reduceCtorEq, reduceIte, Nat.reduceEqDiff, Nat.reduceAdd, Nat.zero_add, Nat.reduceMul, Nat.reduceLT, Nat.reduceLeDiff, Int.reduceLT, Int.reduceNeg, Int.reduceLE, appendP, appendAt, letGo, setLoc, locVal, Int.reduceToNat, boxCells, und, h2]) (by simp (maxSteps := 5000000) only [SA, SB, SD, R, guardAt, binP, intP, indexAddrP, elemsOf, readCells, lenP, lenAt, resultsP, resultP, oneOr, reduceCtorEq, reduceIte, Nat.reduceEqDiff, Nat.reduceAdd, Nat.zero_add, Nat.reduceMul, Nat.reduceLT, Nat.reduceLeDiff, Int.reduceLT, Int.reduceNeg, Int.reduceLE, appendP, appendAt, letGo, setLoc, locVal, Int.reduceToNat, boxCells, und, h7]) (by simp (maxSteps := 5000000) only [SA, SB, SD, R, guardAt, binP, intP, indexAddrP, elemsOf, readCells, lenP, lenAt, resultsP, resultP, oneOr, reduceCtorEq, reduceIte, Nat.reduceEqDiff, Nat.reduceAdd, Nat.zero_add, Nat.reduceMul, Nat.reduceLT, Nat.reduceLeDiff, Int.reduceLT, Int.reduceNeg, Int.reduceLE, appendP, appendAt, letGo, setLoc, locVal, Int.reduceToNat, boxCells, und]; rfl) (by simp (maxSteps := 5000000) only [SA, SB, SD, R, guardAt, binP, intP, indexAddrP, elemsOf, readCells, lenP, lenAt, resultsP, resultP, oneOr, reduceCtorEq, reduceIte, Nat.reduceEqDiff, Nat.reduceAdd, Nat.zero_add, Nat.reduceMul, Nat.reduceLT, Nat.reduceLeDiff, Int.reduceLT, Int.reduceNeg, Int.reduceLE, appendP, appendAt, letGo, setLoc, locVal, Int.reduceToNat, boxCells, und, hacc])
theorem call31 (l : List Int) (a b : Int) : callL CC 31 [.sl (ints l), .int .i64 a, .int .i64 b] [] = some (.ret (.sl (ints (scaleL l a b))), []) := by
  rw [callL_enter (fn := Try.f31) (c := Try.f31.body.getD .skip) rfl fat31 rfl ok31 (Nat.le_of_ble_eq_true rfl)]
  have hloop := loop31 _ rfl (rd l) (rd_length l) a b
  obtain ⟨ev, eo, so, co, ⟨hev, hco⟩, R⟩ := RULES CC; rw [← hev]; have o35 := @op35; rw [← hco] at o35
  rw [← hev] at hloop
  unfold scaleL
  simp only [fpart, part', Try.f31, Option.getD] at hloop ⊢
  simp (maxSteps := 5000000) only [SA, SB, SD, R, guardAt, binP, intP, indexAddrP, elemsOf, readCells, lenP, lenAt, resultsP, resultP, oneOr, reduceCtorEq, reduceIte, Nat.reduceEqDiff, Nat.reduceAdd, Nat.zero_add, Nat.reduceMul, Nat.reduceLT, Nat.reduceLeDiff, Int.reduceLT, Int.reduceNeg, Int.reduceLE, appendP, appendAt, letGo, setLoc, locVal, Int.reduceToNat, boxCells, und, TG, o35]
  generalize hE : ev _ _ = r
  obtain ⟨e', he, h8⟩ := useLoop' hE (hloop (rd l).length 0 _ (by omega) (by simp (maxSteps := 5000000) only [SA, SB, SD, R, guardAt, binP, intP, indexAddrP, elemsOf, readCells, lenP, lenAt, resultsP, resultP, oneOr, reduceCtorEq, reduceIte, Nat.reduceEqDiff, Nat.reduceAdd, Nat.zero_add, Nat.reduceMul, Nat.reduceLT, Nat.reduceLeDiff, Int.reduceLT, Int.reduceNeg, Int.reduceLE, appendP, appendAt, letGo, setLoc, locVal, Int.reduceToNat, boxCells, und]) (by simp (maxSteps := 5000000) only [SA, SB, SD, R, guardAt, binP, intP, indexAddrP, elemsOf, readCells, lenP, lenAt, resultsP, resultP, oneOr, reduceCtorEq, reduceIte, Nat.reduceEqDiff, Nat.reduceAdd, Nat.zero_add, Nat.reduceMul, Nat.reduceLT, Nat.reduceLeDiff, Int.reduceLT, Int.reduceNeg, Int.reduceLE, appendP, appendAt, letGo, setLoc, locVal, Int.reduceToNat, boxCells, und]) (by simp (maxSteps := 5000000) only [SA, SB, SD, R, guardAt, binP, intP, indexAddrP, elemsOf, readCells, lenP, lenAt, resultsP, resultP, oneOr, reduceCtorEq, reduceIte, Nat.reduceEqDiff, Nat.reduceAdd, Nat.zero_add, Nat.reduceMul, Nat.reduceLT, Nat.reduceLeDiff, Int.reduceLT, Int.reduceNeg, Int.reduceLE, appendP, appendAt, letGo, setLoc, locVal, Int.reduceToNat, boxCells, und]) (by simp (maxSteps := 5000000) only [SA, SB, SD, R, guardAt, binP, intP, indexAddrP, elemsOf, readCells, lenP, lenAt, resultsP, resultP, oneOr, reduceCtorEq, reduceIte, Nat.reduceEqDiff, Nat.reduceAdd, Nat.zero_add, Nat.reduceMul, Nat.reduceLT, Nat.reduceLeDiff, Int.reduceLT, Int.reduceNeg, Int.reduceLE, appendP, appendAt, letGo, setLoc, locVal, Int.reduceToNat, boxCells, und]; rfl) (by simp (maxSteps := 5000000) only [SA, SB, SD, R, guardAt, binP, intP, indexAddrP, elemsOf, readCells, lenP, lenAt, resultsP, resultP, oneOr, reduceCtorEq, reduceIte, Nat.reduceEqDiff, Nat.reduceAdd, Nat.zero_add, Nat.reduceMul, Nat.reduceLT, Nat.reduceLeDiff, Int.reduceLT, Int.reduceNeg, Int.reduceLE, appendP, appendAt, letGo, setLoc, locVal, Int.reduceToNat, boxCells, und]; rfl))
  subst he
  simp (maxSteps := 5000000) only [SA, SB, SD, R, guardAt, binP, intP, indexAddrP, elemsOf, readCells, lenP, lenAt, resultsP, resultP, oneOr, reduceCtorEq, reduceIte, Nat.reduceEqDiff, Nat.reduceAdd, Nat.zero_add, Nat.reduceMul, Nat.reduceLT, Nat.reduceLeDiff, Int.reduceLT, Int.reduceNeg, Int.reduceLE, appendP, appendAt, letGo, setLoc, locVal, Int.reduceToNat, boxCells, und, TG, h8]
theorem op31 (l : List Int) (a b : Int) (bx) : callOp CC (callL CC) 31 [.sl (ints l), .int .i64 a, .int .i64 b] bx = some (.ret (.sl (ints (scaleL l a b))), bx) := callOp_of rfl (by simp only [SA, Bool.and_true]) (call31 l a b) (by simp only [SA])
theorem addI_length (a b : List Int) : (addI a b).length ≤ 96 := by
  unfold addI
  rw [addL_length]
  have := rd_length a
  have := rd_length b
  omega
/-- THE LAW OF SUMS -/
theorem law10 (a : List Int) (_ : a.length ≤ maxLen) (_ : ∀ x ∈ a, inI x) (b : List Int) (_ : b.length ≤ maxLen) (_ : ∀ x ∈ b, inI x) (u v : Int) (hu : inI u) (hv : inI v) : ∃ bx, callL CC 10 [.sl (ints a), .sl (ints b), .agg [.int .i64 u, .int .i64 v]] [] = some (.ret (.bool true), bx) := by
  rw [callL_enter (fn := Try.f10) (c := Try.f10.body.getD .skip) rfl fat10 rfl ok10 (Nat.le_of_ble_eq_true rfl)]
  have hla := addI_length a b
  have hls : (scaleL a u v).length ≤ 96 := by unfold scaleL; rw [List.length_map]; exact rd_length a
  obtain ⟨ev, eo, so, co, ⟨hev, hco⟩, R⟩ := RULES CC; rw [← hev]; have o11 := @op11; rw [← hco] at o11; have o14 := @op14; rw [← hco] at o14; have o28 := @op28; rw [← hco] at o28; have o29 := @op29; rw [← hco] at o29; have o30 := @op30; rw [← hco] at o30; have o31 := @op31; rw [← hco] at o31
  have h1 := o14 (addI a b) (by omega)
  have h2 := o14 (scaleL a u v) (by omega)
  have h02 : (0 : Int) < ((2 : Nat) : Int) := by decide
  have h12 : (1 : Int) < ((2 : Nat) : Int) := by decide
  simp only [fpart, part', Try.f10, Option.getD]
  by_cases c1 : (a.length : Int) > 200
  · simp (maxSteps := 5000000) only [SA, SB, SD, R, guardAt, binP, intP, indexAddrP, elemsOf, readCells, lenP, lenAt, resultsP, resultP, oneOr, reduceCtorEq, reduceIte, Nat.reduceEqDiff, Nat.reduceAdd, Nat.zero_add, Nat.reduceMul, Nat.reduceLT, Nat.reduceLeDiff, Int.reduceLT, Int.reduceNeg, Int.reduceLE, appendP, appendAt, letGo, setLoc, locVal, Int.reduceToNat, boxCells, und, TG, o11, c1]
    exact ⟨_, rfl⟩
  · by_cases c2 : (b.length : Int) > 200
    · simp (maxSteps := 5000000) only [SA, SB, SD, R, guardAt, binP, intP, indexAddrP, elemsOf, readCells, lenP, lenAt, resultsP, resultP, oneOr, reduceCtorEq, reduceIte, Nat.reduceEqDiff, Nat.reduceAdd, Nat.zero_add, Nat.reduceMul, Nat.reduceLT, Nat.reduceLeDiff, Int.reduceLT, Int.reduceNeg, Int.reduceLE, appendP, appendAt, letGo, setLoc, locVal, Int.reduceToNat, boxCells, und, TG, o11, c1, c2]
      exact ⟨_, rfl⟩
    · simp (maxSteps := 5000000) only [SA, SB, SD, R, guardAt, binP, intP, indexAddrP, elemsOf, readCells, lenP, lenAt, resultsP, resultP, oneOr, reduceCtorEq, reduceIte, Nat.reduceEqDiff, Nat.reduceAdd, Nat.zero_add, Nat.reduceMul, Nat.reduceLT, Nat.reduceLeDiff, Int.reduceLT, Int.reduceNeg, Int.reduceLE, appendP, appendAt, letGo, setLoc, locVal, Int.reduceToNat, boxCells, und, TG, o11, o28, o29, o30, o31, h1, h2, h02, h12, c1, c2]
      exact ⟨_, rfl⟩
end Go.HH
