/-
  Logs: Check, in the program and in the specification.
-/
import Derived.Test.YtbbhmdpbojoheaaDoorY3
namespace Go.HH
open Go Go.Proofs
set_option maxRecDepth 100000
set_option maxHeartbeats 4000000
set_option linter.unusedSimpArgs false
set_option linter.unusedVariables false
theorem ENf : zeroCells CC 34 = some [.int .i64 0, .int .i64 0, .int .i64 0, .int .i64 0, .str [], .str [], .int .i64 0, .int .i64 0, .str [], .int .i64 0, .str [], .int .i64 0, .int .i64 0] := by kernel_rfl
theorem ens_length (l : List En) : (ens l).length = l.length := List.length_map _
theorem ens_get {l : List En} {i : Nat} {e : En} (h : l[i]? = some e) : (ens l)[i]? = some (enV e) := by unfold ens; rw [List.getElem?_map, h]; rfl
/-- what a loop leaves: it went through, or it returned an error -/
def PCk (j : Nat) (bx : List PBox) (v : Int) (res : Option (Ex × St)) : Prop := ∃ e' ex, (v = 0 ∧ res = some (.exit j, ⟨e', bx ++ ex⟩)) ∨ (v ≠ 0 ∧ res = some (.ret, ⟨e', bx ++ ex⟩) ∧ getT e' 2 = .int .i64 v)
theorem PCk.app {j : Nat} {bx : List PBox} {x : PBox} {v : Int} {res : Option (Ex × St)} (h : PCk j (bx ++ [x]) v res) : PCk j bx v res := by
  obtain ⟨e', ex, h⟩ := h
  refine ⟨e', [x] ++ ex, ?_⟩
  rw [← List.append_assoc]
  exact h
theorem ss1 {α : Type} (a : List α) (x y : α) : (a ++ [x]).set a.length y = a ++ [y] := by simp
theorem loop_wck (L : Code) (hL : L = fpart Tryd.f9 [1,1,0,1,0]) (l : List En) (hl : l.length ≤ maxLen) : ∀ (k i : Nat) (no tick : Int) (e : List PV) (bx : List PBox), i + k = l.length →
    getT e 7 = .sl (ens l) → getT e 8 = .int .i64 l.length → getT e 9 = .int .i64 i → getT e 3 = .int .i64 no → getT e 4 = .int .i64 tick → PCk 0 bx (ckE (l.drop i) no tick) (evL CC L ⟨e, bx⟩) := by
  intro k
  induction k with
  | zero =>
    intro i no tick e bx hi0 e7 e8 e9 e3 e4
    rw [evL_at (fpart Tryd.f9 [1,1,0,1,0,0]) hL]
    have hi : ¬ ((i : Int) < (l.length : Int)) := by omega
    rw [List.drop_eq_nil_of_le (by omega)]
    unfold ckE
    obtain ⟨tn, hen⟩ := ENs
    obtain ⟨tu, htu⟩ := VLs
    obtain ⟨tk, hky⟩ := KYs
    obtain ⟨tc, hcs⟩ := CSs
    generalize ens l = xs at *
    obtain ⟨ev, eo, so, co, ⟨hev, hco⟩, R⟩ := RULES CC; rw [← hev]
    simp only [fpart, part', Tryd.f9, Option.getD]
    simp (maxSteps := 5000000) only [SA, SB, SD, R, guardAt, binP, intP, indexAddrP, elemsOf, readCells, lenP, lenAt, resultsP, resultP, oneOr, reduceCtorEq, reduceIte, Nat.reduceEqDiff, Nat.reduceAdd, Nat.zero_add, Nat.reduceMul, Nat.reduceLT, Nat.reduceLeDiff, Int.reduceLT, Int.reduceNeg, Int.reduceLE, appendP, appendAt, letGo, setLoc, locVal, Int.reduceToNat, boxCells, und, TG, SE, SC, ENf, List.getElem?_concat_length, List.getElem?_cons_zero, List.getElem?_cons_succ, List.take_nil, unP, hen, htu, hky, hcs, loadR, loadP, storeR, storeK, storeCellsP, laid, lay, setBox, ss1, List.length_cons, List.length_nil, Nat.le_refl, Option.map_some, List.take_succ_cons, List.take_zero, List.drop_succ_cons, List.drop_zero, List.drop_nil, List.filter_nil, List.nil_append, List.cons_append, Int.reduceBEq, Int.reduceBNe, Int.reduceGT, Int.reduceGE, Bool.not_true, Bool.not_false, e7, e8, e9, hi]
    exact ⟨_, [], .inl ⟨rfl, by rw [List.append_nil]⟩⟩
  | succ k ih =>
    intro i no tick e bx hi0 e7 e8 e9 e3 e4
    rw [evL_at (fpart Tryd.f9 [1,1,0,1,0,0]) hL]
    have hi : ((i : Int) < (l.length : Int)) := by omega
    have hi0' : ¬ ((i : Int) < 0) := by omega
    have hdr : l.drop i = (l[i]'(by omega)) :: l.drop (i + 1) := List.drop_eq_getElem_cons (by omega)
    have hx := ens_get (l := l) (i := i) (e := l[i]'(by omega)) (List.getElem?_eq_getElem (by omega))
    have hw1 := wrap_i64 (n := (i : Int) + 1) ⟨by omega, by simp only [maxLen] at hl; omega⟩
    have key := fun no tick e bx => ih (i + 1) no tick e bx (by omega)
    have cast1 : ((i + 1 : Nat) : Int) = (i : Int) + 1 := by omega
    rw [cast1] at key
    rw [hdr]
    unfold ckE
    have hln := ens_length l
    generalize l[i]'(by omega) = x at *
    generalize hrest : l.drop (i + 1) = rest at *
    obtain ⟨xno, xtk, xk, xkey, xval, xca, xpar⟩ := x
    unfold enV at hx
    simp only at hx ⊢
    generalize ens l = xs at *
    obtain ⟨tn, hen⟩ := ENs
    obtain ⟨tu, htu⟩ := VLs
    obtain ⟨tk, hky⟩ := KYs
    obtain ⟨tc, hcs⟩ := CSs
    by_cases c1 : xk < 1
    · rw [if_pos (by omega)]
      apply PCk.app
      obtain ⟨ev, eo, so, co, ⟨hev, hco⟩, R⟩ := RULES CC; rw [← hev]
      simp only [fpart, part', Tryd.f9, Option.getD]
      simp (maxSteps := 5000000) only [SA, SB, SD, R, guardAt, binP, intP, indexAddrP, elemsOf, readCells, lenP, lenAt, resultsP, resultP, oneOr, reduceCtorEq, reduceIte, Nat.reduceEqDiff, Nat.reduceAdd, Nat.zero_add, Nat.reduceMul, Nat.reduceLT, Nat.reduceLeDiff, Int.reduceLT, Int.reduceNeg, Int.reduceLE, appendP, appendAt, letGo, setLoc, locVal, Int.reduceToNat, boxCells, und, TG, SE, SC, ENf, List.getElem?_concat_length, List.getElem?_cons_zero, List.getElem?_cons_succ, List.take_nil, unP, hen, htu, hky, hcs, loadR, loadP, storeR, storeK, storeCellsP, laid, lay, setBox, ss1, List.length_cons, List.length_nil, Nat.le_refl, Option.map_some, List.take_succ_cons, List.take_zero, List.drop_succ_cons, List.drop_zero, List.drop_nil, List.filter_nil, List.nil_append, List.cons_append, Int.reduceBEq, Int.reduceBNe, Int.reduceGT, Int.reduceGE, Bool.not_true, Bool.not_false, e7, e8, e9, e3, e4, hi, hi0', hx, hln, c1]
      exact ⟨_, [], .inr ⟨by decide, by rw [List.append_nil], by simp (maxSteps := 5000000) only [SA, SB, SD, R, guardAt, binP, intP, indexAddrP, elemsOf, readCells, lenP, lenAt, resultsP, resultP, oneOr, reduceCtorEq, reduceIte, Nat.reduceEqDiff, Nat.reduceAdd, Nat.zero_add, Nat.reduceMul, Nat.reduceLT, Nat.reduceLeDiff, Int.reduceLT, Int.reduceNeg, Int.reduceLE, appendP, appendAt, letGo, setLoc, locVal, Int.reduceToNat, boxCells, und]⟩⟩
    by_cases c2 : xk > 11
    · rw [if_pos (by omega)]
      apply PCk.app
      obtain ⟨ev, eo, so, co, ⟨hev, hco⟩, R⟩ := RULES CC; rw [← hev]
      simp only [fpart, part', Tryd.f9, Option.getD]
      simp (maxSteps := 5000000) only [SA, SB, SD, R, guardAt, binP, intP, indexAddrP, elemsOf, readCells, lenP, lenAt, resultsP, resultP, oneOr, reduceCtorEq, reduceIte, Nat.reduceEqDiff, Nat.reduceAdd, Nat.zero_add, Nat.reduceMul, Nat.reduceLT, Nat.reduceLeDiff, Int.reduceLT, Int.reduceNeg, Int.reduceLE, appendP, appendAt, letGo, setLoc, locVal, Int.reduceToNat, boxCells, und, TG, SE, SC, ENf, List.getElem?_concat_length, List.getElem?_cons_zero, List.getElem?_cons_succ, List.take_nil, unP, hen, htu, hky, hcs, loadR, loadP, storeR, storeK, storeCellsP, laid, lay, setBox, ss1, List.length_cons, List.length_nil, Nat.le_refl, Option.map_some, List.take_succ_cons, List.take_zero, List.drop_succ_cons, List.drop_zero, List.drop_nil, List.filter_nil, List.nil_append, List.cons_append, Int.reduceBEq, Int.reduceBNe, Int.reduceGT, Int.reduceGE, Bool.not_true, Bool.not_false, e7, e8, e9, e3, e4, hi, hi0', hx, hln, c1, c2]
      exact ⟨_, [], .inr ⟨by decide, by rw [List.append_nil], by simp (maxSteps := 5000000) only [SA, SB, SD, R, guardAt, binP, intP, indexAddrP, elemsOf, readCells, lenP, lenAt, resultsP, resultP, oneOr, reduceCtorEq, reduceIte, Nat.reduceEqDiff, Nat.reduceAdd, Nat.zero_add, Nat.reduceMul, Nat.reduceLT, Nat.reduceLeDiff, Int.reduceLT, Int.reduceNeg, Int.reduceLE, appendP, appendAt, letGo, setLoc, locVal, Int.reduceToNat, boxCells, und]⟩⟩
    by_cases c3 : xno ≤ no
    · rw [if_neg (by omega), if_pos (by omega)]
      apply PCk.app
      obtain ⟨ev, eo, so, co, ⟨hev, hco⟩, R⟩ := RULES CC; rw [← hev]
      simp only [fpart, part', Tryd.f9, Option.getD]
      simp (maxSteps := 5000000) only [SA, SB, SD, R, guardAt, binP, intP, indexAddrP, elemsOf, readCells, lenP, lenAt, resultsP, resultP, oneOr, reduceCtorEq, reduceIte, Nat.reduceEqDiff, Nat.reduceAdd, Nat.zero_add, Nat.reduceMul, Nat.reduceLT, Nat.reduceLeDiff, Int.reduceLT, Int.reduceNeg, Int.reduceLE, appendP, appendAt, letGo, setLoc, locVal, Int.reduceToNat, boxCells, und, TG, SE, SC, ENf, List.getElem?_concat_length, List.getElem?_cons_zero, List.getElem?_cons_succ, List.take_nil, unP, hen, htu, hky, hcs, loadR, loadP, storeR, storeK, storeCellsP, laid, lay, setBox, ss1, List.length_cons, List.length_nil, Nat.le_refl, Option.map_some, List.take_succ_cons, List.take_zero, List.drop_succ_cons, List.drop_zero, List.drop_nil, List.filter_nil, List.nil_append, List.cons_append, Int.reduceBEq, Int.reduceBNe, Int.reduceGT, Int.reduceGE, Bool.not_true, Bool.not_false, e7, e8, e9, e3, e4, hi, hi0', hx, hln, c1, c2, c3]
      exact ⟨_, [], .inr ⟨by decide, by rw [List.append_nil], by simp (maxSteps := 5000000) only [SA, SB, SD, R, guardAt, binP, intP, indexAddrP, elemsOf, readCells, lenP, lenAt, resultsP, resultP, oneOr, reduceCtorEq, reduceIte, Nat.reduceEqDiff, Nat.reduceAdd, Nat.zero_add, Nat.reduceMul, Nat.reduceLT, Nat.reduceLeDiff, Int.reduceLT, Int.reduceNeg, Int.reduceLE, appendP, appendAt, letGo, setLoc, locVal, Int.reduceToNat, boxCells, und]⟩⟩
    by_cases c4 : xtk < tick
    · rw [if_neg (by omega), if_pos (by omega)]
      apply PCk.app
      obtain ⟨ev, eo, so, co, ⟨hev, hco⟩, R⟩ := RULES CC; rw [← hev]
      simp only [fpart, part', Tryd.f9, Option.getD]
      simp (maxSteps := 5000000) only [SA, SB, SD, R, guardAt, binP, intP, indexAddrP, elemsOf, readCells, lenP, lenAt, resultsP, resultP, oneOr, reduceCtorEq, reduceIte, Nat.reduceEqDiff, Nat.reduceAdd, Nat.zero_add, Nat.reduceMul, Nat.reduceLT, Nat.reduceLeDiff, Int.reduceLT, Int.reduceNeg, Int.reduceLE, appendP, appendAt, letGo, setLoc, locVal, Int.reduceToNat, boxCells, und, TG, SE, SC, ENf, List.getElem?_concat_length, List.getElem?_cons_zero, List.getElem?_cons_succ, List.take_nil, unP, hen, htu, hky, hcs, loadR, loadP, storeR, storeK, storeCellsP, laid, lay, setBox, ss1, List.length_cons, List.length_nil, Nat.le_refl, Option.map_some, List.take_succ_cons, List.take_zero, List.drop_succ_cons, List.drop_zero, List.drop_nil, List.filter_nil, List.nil_append, List.cons_append, Int.reduceBEq, Int.reduceBNe, Int.reduceGT, Int.reduceGE, Bool.not_true, Bool.not_false, e7, e8, e9, e3, e4, hi, hi0', hx, hln, c1, c2, c3, c4]
      exact ⟨_, [], .inr ⟨by decide, by rw [List.append_nil], by simp (maxSteps := 5000000) only [SA, SB, SD, R, guardAt, binP, intP, indexAddrP, elemsOf, readCells, lenP, lenAt, resultsP, resultP, oneOr, reduceCtorEq, reduceIte, Nat.reduceEqDiff, Nat.reduceAdd, Nat.zero_add, Nat.reduceMul, Nat.reduceLT, Nat.reduceLeDiff, Int.reduceLT, Int.reduceNeg, Int.reduceLE, appendP, appendAt, letGo, setLoc, locVal, Int.reduceToNat, boxCells, und]⟩⟩
    by_cases c5 : xpar < 0
    · rw [if_neg (by omega), if_neg (by omega), if_pos (by omega)]
      apply PCk.app
      obtain ⟨ev, eo, so, co, ⟨hev, hco⟩, R⟩ := RULES CC; rw [← hev]
      simp only [fpart, part', Tryd.f9, Option.getD]
      simp (maxSteps := 5000000) only [SA, SB, SD, R, guardAt, binP, intP, indexAddrP, elemsOf, readCells, lenP, lenAt, resultsP, resultP, oneOr, reduceCtorEq, reduceIte, Nat.reduceEqDiff, Nat.reduceAdd, Nat.zero_add, Nat.reduceMul, Nat.reduceLT, Nat.reduceLeDiff, Int.reduceLT, Int.reduceNeg, Int.reduceLE, appendP, appendAt, letGo, setLoc, locVal, Int.reduceToNat, boxCells, und, TG, SE, SC, ENf, List.getElem?_concat_length, List.getElem?_cons_zero, List.getElem?_cons_succ, List.take_nil, unP, hen, htu, hky, hcs, loadR, loadP, storeR, storeK, storeCellsP, laid, lay, setBox, ss1, List.length_cons, List.length_nil, Nat.le_refl, Option.map_some, List.take_succ_cons, List.take_zero, List.drop_succ_cons, List.drop_zero, List.drop_nil, List.filter_nil, List.nil_append, List.cons_append, Int.reduceBEq, Int.reduceBNe, Int.reduceGT, Int.reduceGE, Bool.not_true, Bool.not_false, e7, e8, e9, e3, e4, hi, hi0', hx, hln, c1, c2, c3, c4, c5]
      exact ⟨_, [], .inr ⟨by decide, by rw [List.append_nil], by simp (maxSteps := 5000000) only [SA, SB, SD, R, guardAt, binP, intP, indexAddrP, elemsOf, readCells, lenP, lenAt, resultsP, resultP, oneOr, reduceCtorEq, reduceIte, Nat.reduceEqDiff, Nat.reduceAdd, Nat.zero_add, Nat.reduceMul, Nat.reduceLT, Nat.reduceLeDiff, Int.reduceLT, Int.reduceNeg, Int.reduceLE, appendP, appendAt, letGo, setLoc, locVal, Int.reduceToNat, boxCells, und]⟩⟩
    by_cases c6 : xpar ≥ xno
    · rw [if_neg (by omega), if_neg (by omega), if_pos (by omega)]
      apply PCk.app
      obtain ⟨ev, eo, so, co, ⟨hev, hco⟩, R⟩ := RULES CC; rw [← hev]
      simp only [fpart, part', Tryd.f9, Option.getD]
      simp (maxSteps := 5000000) only [SA, SB, SD, R, guardAt, binP, intP, indexAddrP, elemsOf, readCells, lenP, lenAt, resultsP, resultP, oneOr, reduceCtorEq, reduceIte, Nat.reduceEqDiff, Nat.reduceAdd, Nat.zero_add, Nat.reduceMul, Nat.reduceLT, Nat.reduceLeDiff, Int.reduceLT, Int.reduceNeg, Int.reduceLE, appendP, appendAt, letGo, setLoc, locVal, Int.reduceToNat, boxCells, und, TG, SE, SC, ENf, List.getElem?_concat_length, List.getElem?_cons_zero, List.getElem?_cons_succ, List.take_nil, unP, hen, htu, hky, hcs, loadR, loadP, storeR, storeK, storeCellsP, laid, lay, setBox, ss1, List.length_cons, List.length_nil, Nat.le_refl, Option.map_some, List.take_succ_cons, List.take_zero, List.drop_succ_cons, List.drop_zero, List.drop_nil, List.filter_nil, List.nil_append, List.cons_append, Int.reduceBEq, Int.reduceBNe, Int.reduceGT, Int.reduceGE, Bool.not_true, Bool.not_false, e7, e8, e9, e3, e4, hi, hi0', hx, hln, c1, c2, c3, c4, c5, c6]
      exact ⟨_, [], .inr ⟨by decide, by rw [List.append_nil], by simp (maxSteps := 5000000) only [SA, SB, SD, R, guardAt, binP, intP, indexAddrP, elemsOf, readCells, lenP, lenAt, resultsP, resultP, oneOr, reduceCtorEq, reduceIte, Nat.reduceEqDiff, Nat.reduceAdd, Nat.zero_add, Nat.reduceMul, Nat.reduceLT, Nat.reduceLeDiff, Int.reduceLT, Int.reduceNeg, Int.reduceLE, appendP, appendAt, letGo, setLoc, locVal, Int.reduceToNat, boxCells, und]⟩⟩
    rw [if_neg (by omega), if_neg (by omega), if_neg (by omega)]
    apply PCk.app
    obtain ⟨ev, eo, so, co, ⟨hev, hco⟩, R⟩ := RULES CC; rw [← hev]
    rw [← hev] at key
    simp only [fpart, part', Tryd.f9, Option.getD]
    simp (maxSteps := 5000000) only [SA, SB, SD, R, guardAt, binP, intP, indexAddrP, elemsOf, readCells, lenP, lenAt, resultsP, resultP, oneOr, reduceCtorEq, reduceIte, Nat.reduceEqDiff, Nat.reduceAdd, Nat.zero_add, Nat.reduceMul, Nat.reduceLT, Nat.reduceLeDiff, Int.reduceLT, Int.reduceNeg, Int.reduceLE, appendP, appendAt, letGo, setLoc, locVal, Int.reduceToNat, boxCells, und, TG, SE, SC, ENf, List.getElem?_concat_length, List.getElem?_cons_zero, List.getElem?_cons_succ, List.take_nil, unP, hen, htu, hky, hcs, loadR, loadP, storeR, storeK, storeCellsP, laid, lay, setBox, ss1, List.length_cons, List.length_nil, Nat.le_refl, Option.map_some, List.take_succ_cons, List.take_zero, List.drop_succ_cons, List.drop_zero, List.drop_nil, List.filter_nil, List.nil_append, List.cons_append, Int.reduceBEq, Int.reduceBNe, Int.reduceGT, Int.reduceGE, Bool.not_true, Bool.not_false, e7, e8, e9, e3, e4, hi, hi0', hx, hln, hw1, c1, c2, c3, c4, c5, c6]
    refine key _ _ _ _ ?_ ?_ ?_ ?_ ?_
    all_goals simp (maxSteps := 5000000) only [SA, SB, SD, R, guardAt, binP, intP, indexAddrP, elemsOf, readCells, lenP, lenAt, resultsP, resultP, oneOr, reduceCtorEq, reduceIte, Nat.reduceEqDiff, Nat.reduceAdd, Nat.zero_add, Nat.reduceMul, Nat.reduceLT, Nat.reduceLeDiff, Int.reduceLT, Int.reduceNeg, Int.reduceLE, appendP, appendAt, letGo, setLoc, locVal, Int.reduceToNat, boxCells, und, e7, e8, e9]
theorem loop_rck (L : Code) (hL : L = fpart Tryd.f10 [1,0,1,0]) (l : List En) (hl : l.length ≤ maxLen) : ∀ (k i : Nat) (no tick : Int) (e : List PV) (bx : List PBox), i + k = l.length →
    ((i = 0 ∧ no = 0 ∧ tick = 0) ∨ (0 < i ∧ 1 ≤ no ∧ 0 ≤ tick ∧ ∃ p, l[i - 1]? = some p ∧ p.no = no ∧ p.tick = tick)) →
    getT e 0 = .sl (ens l) → getT e 3 = .int .i64 i → PCk 0 bx (ckE (l.drop i) no tick) (evL CC L ⟨e, bx⟩) := by
  intro k
  induction k with
  | zero =>
    intro i no tick e bx hi0 hinv e0 e3
    rw [evL_at (fpart Tryd.f10 [1,0,1,0,0]) hL]
    have hi : ¬ ((i : Int) < (l.length : Int)) := by omega
    have hln := ens_length l
    rw [List.drop_eq_nil_of_le (by omega)]
    unfold ckE
    obtain ⟨tn, hen⟩ := ENs
    obtain ⟨tu, htu⟩ := VLs
    obtain ⟨tk, hky⟩ := KYs
    obtain ⟨tc, hcs⟩ := CSs
    generalize ens l = xs at *
    obtain ⟨ev, eo, so, co, ⟨hev, hco⟩, R⟩ := RULES CC; rw [← hev]
    simp only [fpart, part', Tryd.f10, Option.getD]
    simp (maxSteps := 5000000) only [SA, SB, SD, R, guardAt, binP, intP, indexAddrP, elemsOf, readCells, lenP, lenAt, resultsP, resultP, oneOr, reduceCtorEq, reduceIte, Nat.reduceEqDiff, Nat.reduceAdd, Nat.zero_add, Nat.reduceMul, Nat.reduceLT, Nat.reduceLeDiff, Int.reduceLT, Int.reduceNeg, Int.reduceLE, appendP, appendAt, letGo, setLoc, locVal, Int.reduceToNat, boxCells, und, TG, SE, SC, ENf, List.getElem?_concat_length, List.getElem?_cons_zero, List.getElem?_cons_succ, List.take_nil, unP, hen, htu, hky, hcs, loadR, loadP, storeR, storeK, storeCellsP, laid, lay, setBox, ss1, List.length_cons, List.length_nil, Nat.le_refl, Option.map_some, List.take_succ_cons, List.take_zero, List.drop_succ_cons, List.drop_zero, List.drop_nil, List.filter_nil, List.nil_append, List.cons_append, Int.reduceBEq, Int.reduceBNe, Int.reduceGT, Int.reduceGE, Bool.not_true, Bool.not_false, e0, e3, hln, hi]
    exact ⟨_, [], .inl ⟨rfl, by rw [List.append_nil]⟩⟩
  | succ k ih =>
    intro i no tick e bx hi0 hinv e0 e3
    rw [evL_at (fpart Tryd.f10 [1,0,1,0,0]) hL]
    have hi : ((i : Int) < (l.length : Int)) := by omega
    have hi0' : ¬ ((i : Int) < 0) := by omega
    have hdr : l.drop i = (l[i]'(by omega)) :: l.drop (i + 1) := List.drop_eq_getElem_cons (by omega)
    have hx := ens_get (l := l) (i := i) (e := l[i]'(by omega)) (List.getElem?_eq_getElem (by omega))
    have hw1 := wrap_i64 (n := (i : Int) + 1) ⟨by omega, by simp only [maxLen] at hl; omega⟩
    have hw2 := wrap_i64 (n := (i : Int) - 1) ⟨by omega, by simp only [maxLen] at hl; omega⟩
    have key := fun no tick e bx => ih (i + 1) no tick e bx (by omega)
    have cast1 : ((i + 1 : Nat) : Int) = (i : Int) + 1 := by omega
    rw [cast1] at key
    have hxl : l[i]? = some (l[i]'(by omega)) := List.getElem?_eq_getElem (by omega)
    rw [hdr]
    unfold ckE
    have hln := ens_length l
    generalize l[i]'(by omega) = x at *
    generalize hrest : l.drop (i + 1) = rest at *
    have hnext : 1 ≤ x.no → 0 ≤ x.tick → ((i + 1 = 0 ∧ x.no = 0 ∧ x.tick = 0) ∨ (0 < i + 1 ∧ 1 ≤ x.no ∧ 0 ≤ x.tick ∧ ∃ p, l[i + 1 - 1]? = some p ∧ p.no = x.no ∧ p.tick = x.tick)) := fun a b => .inr ⟨by omega, a, b, x, by simpa using hxl, rfl, rfl⟩
    obtain ⟨xno, xtk, xk, xkey, xval, xca, xpar⟩ := x
    unfold enV at hx
    simp only at hx hnext ⊢
    obtain ⟨tn, hen⟩ := ENs
    obtain ⟨tu, htu⟩ := VLs
    obtain ⟨tk, hky⟩ := KYs
    obtain ⟨tc, hcs⟩ := CSs
    rcases hinv with ⟨hz, rfl, rfl⟩ | ⟨hz, hno, htick, p, hp, hpn, hpt⟩
    · have hz' : ¬ ((i : Int) > 0) := by omega
      generalize ens l = xs at *
      by_cases c1 : xk < 1
      · rw [if_pos (by omega)]
        apply PCk.app
        obtain ⟨ev, eo, so, co, ⟨hev, hco⟩, R⟩ := RULES CC; rw [← hev]
        simp only [fpart, part', Tryd.f10, Option.getD]
        simp (maxSteps := 5000000) only [SA, SB, SD, R, guardAt, binP, intP, indexAddrP, elemsOf, readCells, lenP, lenAt, resultsP, resultP, oneOr, reduceCtorEq, reduceIte, Nat.reduceEqDiff, Nat.reduceAdd, Nat.zero_add, Nat.reduceMul, Nat.reduceLT, Nat.reduceLeDiff, Int.reduceLT, Int.reduceNeg, Int.reduceLE, appendP, appendAt, letGo, setLoc, locVal, Int.reduceToNat, boxCells, und, TG, SE, SC, ENf, List.getElem?_concat_length, List.getElem?_cons_zero, List.getElem?_cons_succ, List.take_nil, unP, hen, htu, hky, hcs, loadR, loadP, storeR, storeK, storeCellsP, laid, lay, setBox, ss1, List.length_cons, List.length_nil, Nat.le_refl, Option.map_some, List.take_succ_cons, List.take_zero, List.drop_succ_cons, List.drop_zero, List.drop_nil, List.filter_nil, List.nil_append, List.cons_append, Int.reduceBEq, Int.reduceBNe, Int.reduceGT, Int.reduceGE, Bool.not_true, Bool.not_false, e0, e3, hi, hi0', hx, hln, hz', c1]
        exact ⟨_, [], .inr ⟨by decide, by rw [List.append_nil], by simp (maxSteps := 5000000) only [SA, SB, SD, R, guardAt, binP, intP, indexAddrP, elemsOf, readCells, lenP, lenAt, resultsP, resultP, oneOr, reduceCtorEq, reduceIte, Nat.reduceEqDiff, Nat.reduceAdd, Nat.zero_add, Nat.reduceMul, Nat.reduceLT, Nat.reduceLeDiff, Int.reduceLT, Int.reduceNeg, Int.reduceLE, appendP, appendAt, letGo, setLoc, locVal, Int.reduceToNat, boxCells, und]⟩⟩
      by_cases c2 : xk > 11
      · rw [if_pos (by omega)]
        apply PCk.app
        obtain ⟨ev, eo, so, co, ⟨hev, hco⟩, R⟩ := RULES CC; rw [← hev]
        simp only [fpart, part', Tryd.f10, Option.getD]
        simp (maxSteps := 5000000) only [SA, SB, SD, R, guardAt, binP, intP, indexAddrP, elemsOf, readCells, lenP, lenAt, resultsP, resultP, oneOr, reduceCtorEq, reduceIte, Nat.reduceEqDiff, Nat.reduceAdd, Nat.zero_add, Nat.reduceMul, Nat.reduceLT, Nat.reduceLeDiff, Int.reduceLT, Int.reduceNeg, Int.reduceLE, appendP, appendAt, letGo, setLoc, locVal, Int.reduceToNat, boxCells, und, TG, SE, SC, ENf, List.getElem?_concat_length, List.getElem?_cons_zero, List.getElem?_cons_succ, List.take_nil, unP, hen, htu, hky, hcs, loadR, loadP, storeR, storeK, storeCellsP, laid, lay, setBox, ss1, List.length_cons, List.length_nil, Nat.le_refl, Option.map_some, List.take_succ_cons, List.take_zero, List.drop_succ_cons, List.drop_zero, List.drop_nil, List.filter_nil, List.nil_append, List.cons_append, Int.reduceBEq, Int.reduceBNe, Int.reduceGT, Int.reduceGE, Bool.not_true, Bool.not_false, e0, e3, hi, hi0', hx, hln, hz', c1, c2]
        exact ⟨_, [], .inr ⟨by decide, by rw [List.append_nil], by simp (maxSteps := 5000000) only [SA, SB, SD, R, guardAt, binP, intP, indexAddrP, elemsOf, readCells, lenP, lenAt, resultsP, resultP, oneOr, reduceCtorEq, reduceIte, Nat.reduceEqDiff, Nat.reduceAdd, Nat.zero_add, Nat.reduceMul, Nat.reduceLT, Nat.reduceLeDiff, Int.reduceLT, Int.reduceNeg, Int.reduceLE, appendP, appendAt, letGo, setLoc, locVal, Int.reduceToNat, boxCells, und]⟩⟩
      by_cases c3 : xno < 1
      · rw [if_neg (by omega), if_pos (by omega)]
        apply PCk.app
        obtain ⟨ev, eo, so, co, ⟨hev, hco⟩, R⟩ := RULES CC; rw [← hev]
        simp only [fpart, part', Tryd.f10, Option.getD]
        simp (maxSteps := 5000000) only [SA, SB, SD, R, guardAt, binP, intP, indexAddrP, elemsOf, readCells, lenP, lenAt, resultsP, resultP, oneOr, reduceCtorEq, reduceIte, Nat.reduceEqDiff, Nat.reduceAdd, Nat.zero_add, Nat.reduceMul, Nat.reduceLT, Nat.reduceLeDiff, Int.reduceLT, Int.reduceNeg, Int.reduceLE, appendP, appendAt, letGo, setLoc, locVal, Int.reduceToNat, boxCells, und, TG, SE, SC, ENf, List.getElem?_concat_length, List.getElem?_cons_zero, List.getElem?_cons_succ, List.take_nil, unP, hen, htu, hky, hcs, loadR, loadP, storeR, storeK, storeCellsP, laid, lay, setBox, ss1, List.length_cons, List.length_nil, Nat.le_refl, Option.map_some, List.take_succ_cons, List.take_zero, List.drop_succ_cons, List.drop_zero, List.drop_nil, List.filter_nil, List.nil_append, List.cons_append, Int.reduceBEq, Int.reduceBNe, Int.reduceGT, Int.reduceGE, Bool.not_true, Bool.not_false, e0, e3, hi, hi0', hx, hln, hz', c1, c2, c3]
        exact ⟨_, [], .inr ⟨by decide, by rw [List.append_nil], by simp (maxSteps := 5000000) only [SA, SB, SD, R, guardAt, binP, intP, indexAddrP, elemsOf, readCells, lenP, lenAt, resultsP, resultP, oneOr, reduceCtorEq, reduceIte, Nat.reduceEqDiff, Nat.reduceAdd, Nat.zero_add, Nat.reduceMul, Nat.reduceLT, Nat.reduceLeDiff, Int.reduceLT, Int.reduceNeg, Int.reduceLE, appendP, appendAt, letGo, setLoc, locVal, Int.reduceToNat, boxCells, und]⟩⟩
      by_cases c4 : xtk < 0
      · rw [if_neg (by omega), if_pos (by omega)]
        apply PCk.app
        obtain ⟨ev, eo, so, co, ⟨hev, hco⟩, R⟩ := RULES CC; rw [← hev]
        simp only [fpart, part', Tryd.f10, Option.getD]
        simp (maxSteps := 5000000) only [SA, SB, SD, R, guardAt, binP, intP, indexAddrP, elemsOf, readCells, lenP, lenAt, resultsP, resultP, oneOr, reduceCtorEq, reduceIte, Nat.reduceEqDiff, Nat.reduceAdd, Nat.zero_add, Nat.reduceMul, Nat.reduceLT, Nat.reduceLeDiff, Int.reduceLT, Int.reduceNeg, Int.reduceLE, appendP, appendAt, letGo, setLoc, locVal, Int.reduceToNat, boxCells, und, TG, SE, SC, ENf, List.getElem?_concat_length, List.getElem?_cons_zero, List.getElem?_cons_succ, List.take_nil, unP, hen, htu, hky, hcs, loadR, loadP, storeR, storeK, storeCellsP, laid, lay, setBox, ss1, List.length_cons, List.length_nil, Nat.le_refl, Option.map_some, List.take_succ_cons, List.take_zero, List.drop_succ_cons, List.drop_zero, List.drop_nil, List.filter_nil, List.nil_append, List.cons_append, Int.reduceBEq, Int.reduceBNe, Int.reduceGT, Int.reduceGE, Bool.not_true, Bool.not_false, e0, e3, hi, hi0', hx, hln, hz', c1, c2, c3, c4]
        exact ⟨_, [], .inr ⟨by decide, by rw [List.append_nil], by simp (maxSteps := 5000000) only [SA, SB, SD, R, guardAt, binP, intP, indexAddrP, elemsOf, readCells, lenP, lenAt, resultsP, resultP, oneOr, reduceCtorEq, reduceIte, Nat.reduceEqDiff, Nat.reduceAdd, Nat.zero_add, Nat.reduceMul, Nat.reduceLT, Nat.reduceLeDiff, Int.reduceLT, Int.reduceNeg, Int.reduceLE, appendP, appendAt, letGo, setLoc, locVal, Int.reduceToNat, boxCells, und]⟩⟩
      by_cases c5 : xpar < 0
      · rw [if_neg (by omega), if_neg (by omega), if_pos (by omega)]
        apply PCk.app
        obtain ⟨ev, eo, so, co, ⟨hev, hco⟩, R⟩ := RULES CC; rw [← hev]
        simp only [fpart, part', Tryd.f10, Option.getD]
        simp (maxSteps := 5000000) only [SA, SB, SD, R, guardAt, binP, intP, indexAddrP, elemsOf, readCells, lenP, lenAt, resultsP, resultP, oneOr, reduceCtorEq, reduceIte, Nat.reduceEqDiff, Nat.reduceAdd, Nat.zero_add, Nat.reduceMul, Nat.reduceLT, Nat.reduceLeDiff, Int.reduceLT, Int.reduceNeg, Int.reduceLE, appendP, appendAt, letGo, setLoc, locVal, Int.reduceToNat, boxCells, und, TG, SE, SC, ENf, List.getElem?_concat_length, List.getElem?_cons_zero, List.getElem?_cons_succ, List.take_nil, unP, hen, htu, hky, hcs, loadR, loadP, storeR, storeK, storeCellsP, laid, lay, setBox, ss1, List.length_cons, List.length_nil, Nat.le_refl, Option.map_some, List.take_succ_cons, List.take_zero, List.drop_succ_cons, List.drop_zero, List.drop_nil, List.filter_nil, List.nil_append, List.cons_append, Int.reduceBEq, Int.reduceBNe, Int.reduceGT, Int.reduceGE, Bool.not_true, Bool.not_false, e0, e3, hi, hi0', hx, hln, hz', c1, c2, c3, c4, c5]
        exact ⟨_, [], .inr ⟨by decide, by rw [List.append_nil], by simp (maxSteps := 5000000) only [SA, SB, SD, R, guardAt, binP, intP, indexAddrP, elemsOf, readCells, lenP, lenAt, resultsP, resultP, oneOr, reduceCtorEq, reduceIte, Nat.reduceEqDiff, Nat.reduceAdd, Nat.zero_add, Nat.reduceMul, Nat.reduceLT, Nat.reduceLeDiff, Int.reduceLT, Int.reduceNeg, Int.reduceLE, appendP, appendAt, letGo, setLoc, locVal, Int.reduceToNat, boxCells, und]⟩⟩
      by_cases c6 : xpar ≥ xno
      · rw [if_neg (by omega), if_neg (by omega), if_pos (by omega)]
        apply PCk.app
        obtain ⟨ev, eo, so, co, ⟨hev, hco⟩, R⟩ := RULES CC; rw [← hev]
        simp only [fpart, part', Tryd.f10, Option.getD]
        simp (maxSteps := 5000000) only [SA, SB, SD, R, guardAt, binP, intP, indexAddrP, elemsOf, readCells, lenP, lenAt, resultsP, resultP, oneOr, reduceCtorEq, reduceIte, Nat.reduceEqDiff, Nat.reduceAdd, Nat.zero_add, Nat.reduceMul, Nat.reduceLT, Nat.reduceLeDiff, Int.reduceLT, Int.reduceNeg, Int.reduceLE, appendP, appendAt, letGo, setLoc, locVal, Int.reduceToNat, boxCells, und, TG, SE, SC, ENf, List.getElem?_concat_length, List.getElem?_cons_zero, List.getElem?_cons_succ, List.take_nil, unP, hen, htu, hky, hcs, loadR, loadP, storeR, storeK, storeCellsP, laid, lay, setBox, ss1, List.length_cons, List.length_nil, Nat.le_refl, Option.map_some, List.take_succ_cons, List.take_zero, List.drop_succ_cons, List.drop_zero, List.drop_nil, List.filter_nil, List.nil_append, List.cons_append, Int.reduceBEq, Int.reduceBNe, Int.reduceGT, Int.reduceGE, Bool.not_true, Bool.not_false, e0, e3, hi, hi0', hx, hln, hz', c1, c2, c3, c4, c5, c6]
        exact ⟨_, [], .inr ⟨by decide, by rw [List.append_nil], by simp (maxSteps := 5000000) only [SA, SB, SD, R, guardAt, binP, intP, indexAddrP, elemsOf, readCells, lenP, lenAt, resultsP, resultP, oneOr, reduceCtorEq, reduceIte, Nat.reduceEqDiff, Nat.reduceAdd, Nat.zero_add, Nat.reduceMul, Nat.reduceLT, Nat.reduceLeDiff, Int.reduceLT, Int.reduceNeg, Int.reduceLE, appendP, appendAt, letGo, setLoc, locVal, Int.reduceToNat, boxCells, und]⟩⟩
      have key := fun e bx => key xno xtk e bx (hnext (by omega) (by omega))
      rw [if_neg (by omega), if_neg (by omega), if_neg (by omega)]
      apply PCk.app
      obtain ⟨ev, eo, so, co, ⟨hev, hco⟩, R⟩ := RULES CC; rw [← hev]
      rw [← hev] at key
      simp only [fpart, part', Tryd.f10, Option.getD]
      simp (maxSteps := 5000000) only [SA, SB, SD, R, guardAt, binP, intP, indexAddrP, elemsOf, readCells, lenP, lenAt, resultsP, resultP, oneOr, reduceCtorEq, reduceIte, Nat.reduceEqDiff, Nat.reduceAdd, Nat.zero_add, Nat.reduceMul, Nat.reduceLT, Nat.reduceLeDiff, Int.reduceLT, Int.reduceNeg, Int.reduceLE, appendP, appendAt, letGo, setLoc, locVal, Int.reduceToNat, boxCells, und, TG, SE, SC, ENf, List.getElem?_concat_length, List.getElem?_cons_zero, List.getElem?_cons_succ, List.take_nil, unP, hen, htu, hky, hcs, loadR, loadP, storeR, storeK, storeCellsP, laid, lay, setBox, ss1, List.length_cons, List.length_nil, Nat.le_refl, Option.map_some, List.take_succ_cons, List.take_zero, List.drop_succ_cons, List.drop_zero, List.drop_nil, List.filter_nil, List.nil_append, List.cons_append, Int.reduceBEq, Int.reduceBNe, Int.reduceGT, Int.reduceGE, Bool.not_true, Bool.not_false, e0, e3, hi, hi0', hx, hln, hz', c1, c2, c3, c4, c5, c6, hw1]
      refine key _ _ ?_ ?_
      all_goals simp (maxSteps := 5000000) only [SA, SB, SD, R, guardAt, binP, intP, indexAddrP, elemsOf, readCells, lenP, lenAt, resultsP, resultP, oneOr, reduceCtorEq, reduceIte, Nat.reduceEqDiff, Nat.reduceAdd, Nat.zero_add, Nat.reduceMul, Nat.reduceLT, Nat.reduceLeDiff, Int.reduceLT, Int.reduceNeg, Int.reduceLE, appendP, appendAt, letGo, setLoc, locVal, Int.reduceToNat, boxCells, und, e0, e3]
    · have hz' : ((i : Int) > 0) := by omega
      have hy := ens_get hp
      have hy0 : ¬ ((i : Int) - 1 < 0) := by omega
      have hyn : ((i : Int) - 1).toNat = i - 1 := by omega
      have hy1 : (i : Int) - 1 < (l.length : Int) := by omega
      obtain ⟨pno, ptk, pk, pkey, pval, pca, ppar⟩ := p
      unfold enV at hy
      simp only at hy hpn hpt
      subst hpn hpt
      generalize ens l = xs at *
      by_cases c1 : xk < 1
      · rw [if_pos (by omega)]
        apply PCk.app
        obtain ⟨ev, eo, so, co, ⟨hev, hco⟩, R⟩ := RULES CC; rw [← hev]
        simp only [fpart, part', Tryd.f10, Option.getD]
        simp (maxSteps := 5000000) only [SA, SB, SD, R, guardAt, binP, intP, indexAddrP, elemsOf, readCells, lenP, lenAt, resultsP, resultP, oneOr, reduceCtorEq, reduceIte, Nat.reduceEqDiff, Nat.reduceAdd, Nat.zero_add, Nat.reduceMul, Nat.reduceLT, Nat.reduceLeDiff, Int.reduceLT, Int.reduceNeg, Int.reduceLE, appendP, appendAt, letGo, setLoc, locVal, Int.reduceToNat, boxCells, und, TG, SE, SC, ENf, List.getElem?_concat_length, List.getElem?_cons_zero, List.getElem?_cons_succ, List.take_nil, unP, hen, htu, hky, hcs, loadR, loadP, storeR, storeK, storeCellsP, laid, lay, setBox, ss1, List.length_cons, List.length_nil, Nat.le_refl, Option.map_some, List.take_succ_cons, List.take_zero, List.drop_succ_cons, List.drop_zero, List.drop_nil, List.filter_nil, List.nil_append, List.cons_append, Int.reduceBEq, Int.reduceBNe, Int.reduceGT, Int.reduceGE, Bool.not_true, Bool.not_false, e0, e3, hi, hi0', hx, hln, hz', hw2, hy, hy0, hyn, hy1, c1]
        exact ⟨_, [], .inr ⟨by decide, by rw [List.append_nil], by simp (maxSteps := 5000000) only [SA, SB, SD, R, guardAt, binP, intP, indexAddrP, elemsOf, readCells, lenP, lenAt, resultsP, resultP, oneOr, reduceCtorEq, reduceIte, Nat.reduceEqDiff, Nat.reduceAdd, Nat.zero_add, Nat.reduceMul, Nat.reduceLT, Nat.reduceLeDiff, Int.reduceLT, Int.reduceNeg, Int.reduceLE, appendP, appendAt, letGo, setLoc, locVal, Int.reduceToNat, boxCells, und]⟩⟩
      by_cases c2 : xk > 11
      · rw [if_pos (by omega)]
        apply PCk.app
        obtain ⟨ev, eo, so, co, ⟨hev, hco⟩, R⟩ := RULES CC; rw [← hev]
        simp only [fpart, part', Tryd.f10, Option.getD]
        simp (maxSteps := 5000000) only [SA, SB, SD, R, guardAt, binP, intP, indexAddrP, elemsOf, readCells, lenP, lenAt, resultsP, resultP, oneOr, reduceCtorEq, reduceIte, Nat.reduceEqDiff, Nat.reduceAdd, Nat.zero_add, Nat.reduceMul, Nat.reduceLT, Nat.reduceLeDiff, Int.reduceLT, Int.reduceNeg, Int.reduceLE, appendP, appendAt, letGo, setLoc, locVal, Int.reduceToNat, boxCells, und, TG, SE, SC, ENf, List.getElem?_concat_length, List.getElem?_cons_zero, List.getElem?_cons_succ, List.take_nil, unP, hen, htu, hky, hcs, loadR, loadP, storeR, storeK, storeCellsP, laid, lay, setBox, ss1, List.length_cons, List.length_nil, Nat.le_refl, Option.map_some, List.take_succ_cons, List.take_zero, List.drop_succ_cons, List.drop_zero, List.drop_nil, List.filter_nil, List.nil_append, List.cons_append, Int.reduceBEq, Int.reduceBNe, Int.reduceGT, Int.reduceGE, Bool.not_true, Bool.not_false, e0, e3, hi, hi0', hx, hln, hz', hw2, hy, hy0, hyn, hy1, c1, c2]
        exact ⟨_, [], .inr ⟨by decide, by rw [List.append_nil], by simp (maxSteps := 5000000) only [SA, SB, SD, R, guardAt, binP, intP, indexAddrP, elemsOf, readCells, lenP, lenAt, resultsP, resultP, oneOr, reduceCtorEq, reduceIte, Nat.reduceEqDiff, Nat.reduceAdd, Nat.zero_add, Nat.reduceMul, Nat.reduceLT, Nat.reduceLeDiff, Int.reduceLT, Int.reduceNeg, Int.reduceLE, appendP, appendAt, letGo, setLoc, locVal, Int.reduceToNat, boxCells, und]⟩⟩
      by_cases c3 : xno < 1
      · rw [if_neg (by omega), if_pos (by omega)]
        apply PCk.app
        obtain ⟨ev, eo, so, co, ⟨hev, hco⟩, R⟩ := RULES CC; rw [← hev]
        simp only [fpart, part', Tryd.f10, Option.getD]
        simp (maxSteps := 5000000) only [SA, SB, SD, R, guardAt, binP, intP, indexAddrP, elemsOf, readCells, lenP, lenAt, resultsP, resultP, oneOr, reduceCtorEq, reduceIte, Nat.reduceEqDiff, Nat.reduceAdd, Nat.zero_add, Nat.reduceMul, Nat.reduceLT, Nat.reduceLeDiff, Int.reduceLT, Int.reduceNeg, Int.reduceLE, appendP, appendAt, letGo, setLoc, locVal, Int.reduceToNat, boxCells, und, TG, SE, SC, ENf, List.getElem?_concat_length, List.getElem?_cons_zero, List.getElem?_cons_succ, List.take_nil, unP, hen, htu, hky, hcs, loadR, loadP, storeR, storeK, storeCellsP, laid, lay, setBox, ss1, List.length_cons, List.length_nil, Nat.le_refl, Option.map_some, List.take_succ_cons, List.take_zero, List.drop_succ_cons, List.drop_zero, List.drop_nil, List.filter_nil, List.nil_append, List.cons_append, Int.reduceBEq, Int.reduceBNe, Int.reduceGT, Int.reduceGE, Bool.not_true, Bool.not_false, e0, e3, hi, hi0', hx, hln, hz', hw2, hy, hy0, hyn, hy1, c1, c2, c3]
        exact ⟨_, [], .inr ⟨by decide, by rw [List.append_nil], by simp (maxSteps := 5000000) only [SA, SB, SD, R, guardAt, binP, intP, indexAddrP, elemsOf, readCells, lenP, lenAt, resultsP, resultP, oneOr, reduceCtorEq, reduceIte, Nat.reduceEqDiff, Nat.reduceAdd, Nat.zero_add, Nat.reduceMul, Nat.reduceLT, Nat.reduceLeDiff, Int.reduceLT, Int.reduceNeg, Int.reduceLE, appendP, appendAt, letGo, setLoc, locVal, Int.reduceToNat, boxCells, und]⟩⟩
      by_cases c4 : xtk < 0
      · rw [if_neg (by omega), if_pos (by omega)]
        apply PCk.app
        obtain ⟨ev, eo, so, co, ⟨hev, hco⟩, R⟩ := RULES CC; rw [← hev]
        simp only [fpart, part', Tryd.f10, Option.getD]
        simp (maxSteps := 5000000) only [SA, SB, SD, R, guardAt, binP, intP, indexAddrP, elemsOf, readCells, lenP, lenAt, resultsP, resultP, oneOr, reduceCtorEq, reduceIte, Nat.reduceEqDiff, Nat.reduceAdd, Nat.zero_add, Nat.reduceMul, Nat.reduceLT, Nat.reduceLeDiff, Int.reduceLT, Int.reduceNeg, Int.reduceLE, appendP, appendAt, letGo, setLoc, locVal, Int.reduceToNat, boxCells, und, TG, SE, SC, ENf, List.getElem?_concat_length, List.getElem?_cons_zero, List.getElem?_cons_succ, List.take_nil, unP, hen, htu, hky, hcs, loadR, loadP, storeR, storeK, storeCellsP, laid, lay, setBox, ss1, List.length_cons, List.length_nil, Nat.le_refl, Option.map_some, List.take_succ_cons, List.take_zero, List.drop_succ_cons, List.drop_zero, List.drop_nil, List.filter_nil, List.nil_append, List.cons_append, Int.reduceBEq, Int.reduceBNe, Int.reduceGT, Int.reduceGE, Bool.not_true, Bool.not_false, e0, e3, hi, hi0', hx, hln, hz', hw2, hy, hy0, hyn, hy1, c1, c2, c3, c4]
        exact ⟨_, [], .inr ⟨by decide, by rw [List.append_nil], by simp (maxSteps := 5000000) only [SA, SB, SD, R, guardAt, binP, intP, indexAddrP, elemsOf, readCells, lenP, lenAt, resultsP, resultP, oneOr, reduceCtorEq, reduceIte, Nat.reduceEqDiff, Nat.reduceAdd, Nat.zero_add, Nat.reduceMul, Nat.reduceLT, Nat.reduceLeDiff, Int.reduceLT, Int.reduceNeg, Int.reduceLE, appendP, appendAt, letGo, setLoc, locVal, Int.reduceToNat, boxCells, und]⟩⟩
      by_cases c7 : xno ≤ pno
      · rw [if_neg (by omega), if_pos (by omega)]
        apply PCk.app
        obtain ⟨ev, eo, so, co, ⟨hev, hco⟩, R⟩ := RULES CC; rw [← hev]
        simp only [fpart, part', Tryd.f10, Option.getD]
        simp (maxSteps := 5000000) only [SA, SB, SD, R, guardAt, binP, intP, indexAddrP, elemsOf, readCells, lenP, lenAt, resultsP, resultP, oneOr, reduceCtorEq, reduceIte, Nat.reduceEqDiff, Nat.reduceAdd, Nat.zero_add, Nat.reduceMul, Nat.reduceLT, Nat.reduceLeDiff, Int.reduceLT, Int.reduceNeg, Int.reduceLE, appendP, appendAt, letGo, setLoc, locVal, Int.reduceToNat, boxCells, und, TG, SE, SC, ENf, List.getElem?_concat_length, List.getElem?_cons_zero, List.getElem?_cons_succ, List.take_nil, unP, hen, htu, hky, hcs, loadR, loadP, storeR, storeK, storeCellsP, laid, lay, setBox, ss1, List.length_cons, List.length_nil, Nat.le_refl, Option.map_some, List.take_succ_cons, List.take_zero, List.drop_succ_cons, List.drop_zero, List.drop_nil, List.filter_nil, List.nil_append, List.cons_append, Int.reduceBEq, Int.reduceBNe, Int.reduceGT, Int.reduceGE, Bool.not_true, Bool.not_false, e0, e3, hi, hi0', hx, hln, hz', hw2, hy, hy0, hyn, hy1, c1, c2, c3, c4, c7]
        exact ⟨_, [], .inr ⟨by decide, by rw [List.append_nil], by simp (maxSteps := 5000000) only [SA, SB, SD, R, guardAt, binP, intP, indexAddrP, elemsOf, readCells, lenP, lenAt, resultsP, resultP, oneOr, reduceCtorEq, reduceIte, Nat.reduceEqDiff, Nat.reduceAdd, Nat.zero_add, Nat.reduceMul, Nat.reduceLT, Nat.reduceLeDiff, Int.reduceLT, Int.reduceNeg, Int.reduceLE, appendP, appendAt, letGo, setLoc, locVal, Int.reduceToNat, boxCells, und]⟩⟩
      by_cases c8 : xtk < ptk
      · rw [if_neg (by omega), if_pos (by omega)]
        apply PCk.app
        obtain ⟨ev, eo, so, co, ⟨hev, hco⟩, R⟩ := RULES CC; rw [← hev]
        simp only [fpart, part', Tryd.f10, Option.getD]
        simp (maxSteps := 5000000) only [SA, SB, SD, R, guardAt, binP, intP, indexAddrP, elemsOf, readCells, lenP, lenAt, resultsP, resultP, oneOr, reduceCtorEq, reduceIte, Nat.reduceEqDiff, Nat.reduceAdd, Nat.zero_add, Nat.reduceMul, Nat.reduceLT, Nat.reduceLeDiff, Int.reduceLT, Int.reduceNeg, Int.reduceLE, appendP, appendAt, letGo, setLoc, locVal, Int.reduceToNat, boxCells, und, TG, SE, SC, ENf, List.getElem?_concat_length, List.getElem?_cons_zero, List.getElem?_cons_succ, List.take_nil, unP, hen, htu, hky, hcs, loadR, loadP, storeR, storeK, storeCellsP, laid, lay, setBox, ss1, List.length_cons, List.length_nil, Nat.le_refl, Option.map_some, List.take_succ_cons, List.take_zero, List.drop_succ_cons, List.drop_zero, List.drop_nil, List.filter_nil, List.nil_append, List.cons_append, Int.reduceBEq, Int.reduceBNe, Int.reduceGT, Int.reduceGE, Bool.not_true, Bool.not_false, e0, e3, hi, hi0', hx, hln, hz', hw2, hy, hy0, hyn, hy1, c1, c2, c3, c4, c7, c8]
        exact ⟨_, [], .inr ⟨by decide, by rw [List.append_nil], by simp (maxSteps := 5000000) only [SA, SB, SD, R, guardAt, binP, intP, indexAddrP, elemsOf, readCells, lenP, lenAt, resultsP, resultP, oneOr, reduceCtorEq, reduceIte, Nat.reduceEqDiff, Nat.reduceAdd, Nat.zero_add, Nat.reduceMul, Nat.reduceLT, Nat.reduceLeDiff, Int.reduceLT, Int.reduceNeg, Int.reduceLE, appendP, appendAt, letGo, setLoc, locVal, Int.reduceToNat, boxCells, und]⟩⟩
      by_cases c5 : xpar < 0
      · rw [if_neg (by omega), if_neg (by omega), if_pos (by omega)]
        apply PCk.app
        obtain ⟨ev, eo, so, co, ⟨hev, hco⟩, R⟩ := RULES CC; rw [← hev]
        simp only [fpart, part', Tryd.f10, Option.getD]
        simp (maxSteps := 5000000) only [SA, SB, SD, R, guardAt, binP, intP, indexAddrP, elemsOf, readCells, lenP, lenAt, resultsP, resultP, oneOr, reduceCtorEq, reduceIte, Nat.reduceEqDiff, Nat.reduceAdd, Nat.zero_add, Nat.reduceMul, Nat.reduceLT, Nat.reduceLeDiff, Int.reduceLT, Int.reduceNeg, Int.reduceLE, appendP, appendAt, letGo, setLoc, locVal, Int.reduceToNat, boxCells, und, TG, SE, SC, ENf, List.getElem?_concat_length, List.getElem?_cons_zero, List.getElem?_cons_succ, List.take_nil, unP, hen, htu, hky, hcs, loadR, loadP, storeR, storeK, storeCellsP, laid, lay, setBox, ss1, List.length_cons, List.length_nil, Nat.le_refl, Option.map_some, List.take_succ_cons, List.take_zero, List.drop_succ_cons, List.drop_zero, List.drop_nil, List.filter_nil, List.nil_append, List.cons_append, Int.reduceBEq, Int.reduceBNe, Int.reduceGT, Int.reduceGE, Bool.not_true, Bool.not_false, e0, e3, hi, hi0', hx, hln, hz', hw2, hy, hy0, hyn, hy1, c1, c2, c3, c4, c7, c8, c5]
        exact ⟨_, [], .inr ⟨by decide, by rw [List.append_nil], by simp (maxSteps := 5000000) only [SA, SB, SD, R, guardAt, binP, intP, indexAddrP, elemsOf, readCells, lenP, lenAt, resultsP, resultP, oneOr, reduceCtorEq, reduceIte, Nat.reduceEqDiff, Nat.reduceAdd, Nat.zero_add, Nat.reduceMul, Nat.reduceLT, Nat.reduceLeDiff, Int.reduceLT, Int.reduceNeg, Int.reduceLE, appendP, appendAt, letGo, setLoc, locVal, Int.reduceToNat, boxCells, und]⟩⟩
      by_cases c6 : xpar ≥ xno
      · rw [if_neg (by omega), if_neg (by omega), if_pos (by omega)]
        apply PCk.app
        obtain ⟨ev, eo, so, co, ⟨hev, hco⟩, R⟩ := RULES CC; rw [← hev]
        simp only [fpart, part', Tryd.f10, Option.getD]
        simp (maxSteps := 5000000) only [SA, SB, SD, R, guardAt, binP, intP, indexAddrP, elemsOf, readCells, lenP, lenAt, resultsP, resultP, oneOr, reduceCtorEq, reduceIte, Nat.reduceEqDiff, Nat.reduceAdd, Nat.zero_add, Nat.reduceMul, Nat.reduceLT, Nat.reduceLeDiff, Int.reduceLT, Int.reduceNeg, Int.reduceLE, appendP, appendAt, letGo, setLoc, locVal, Int.reduceToNat, boxCells, und, TG, SE, SC, ENf, List.getElem?_concat_length, List.getElem?_cons_zero, List.getElem?_cons_succ, List.take_nil, unP, hen, htu, hky, hcs, loadR, loadP, storeR, storeK, storeCellsP, laid, lay, setBox, ss1, List.length_cons, List.length_nil, Nat.le_refl, Option.map_some, List.take_succ_cons, List.take_zero, List.drop_succ_cons, List.drop_zero, List.drop_nil, List.filter_nil, List.nil_append, List.cons_append, Int.reduceBEq, Int.reduceBNe, Int.reduceGT, Int.reduceGE, Bool.not_true, Bool.not_false, e0, e3, hi, hi0', hx, hln, hz', hw2, hy, hy0, hyn, hy1, c1, c2, c3, c4, c7, c8, c5, c6]
        exact ⟨_, [], .inr ⟨by decide, by rw [List.append_nil], by simp (maxSteps := 5000000) only [SA, SB, SD, R, guardAt, binP, intP, indexAddrP, elemsOf, readCells, lenP, lenAt, resultsP, resultP, oneOr, reduceCtorEq, reduceIte, Nat.reduceEqDiff, Nat.reduceAdd, Nat.zero_add, Nat.reduceMul, Nat.reduceLT, Nat.reduceLeDiff, Int.reduceLT, Int.reduceNeg, Int.reduceLE, appendP, appendAt, letGo, setLoc, locVal, Int.reduceToNat, boxCells, und]⟩⟩
      have key := fun e bx => key xno xtk e bx (hnext (by omega) (by omega))
      rw [if_neg (by omega), if_neg (by omega), if_neg (by omega)]
      apply PCk.app
      obtain ⟨ev, eo, so, co, ⟨hev, hco⟩, R⟩ := RULES CC; rw [← hev]
      rw [← hev] at key
      simp only [fpart, part', Tryd.f10, Option.getD]
      simp (maxSteps := 5000000) only [SA, SB, SD, R, guardAt, binP, intP, indexAddrP, elemsOf, readCells, lenP, lenAt, resultsP, resultP, oneOr, reduceCtorEq, reduceIte, Nat.reduceEqDiff, Nat.reduceAdd, Nat.zero_add, Nat.reduceMul, Nat.reduceLT, Nat.reduceLeDiff, Int.reduceLT, Int.reduceNeg, Int.reduceLE, appendP, appendAt, letGo, setLoc, locVal, Int.reduceToNat, boxCells, und, TG, SE, SC, ENf, List.getElem?_concat_length, List.getElem?_cons_zero, List.getElem?_cons_succ, List.take_nil, unP, hen, htu, hky, hcs, loadR, loadP, storeR, storeK, storeCellsP, laid, lay, setBox, ss1, List.length_cons, List.length_nil, Nat.le_refl, Option.map_some, List.take_succ_cons, List.take_zero, List.drop_succ_cons, List.drop_zero, List.drop_nil, List.filter_nil, List.nil_append, List.cons_append, Int.reduceBEq, Int.reduceBNe, Int.reduceGT, Int.reduceGE, Bool.not_true, Bool.not_false, e0, e3, hi, hi0', hx, hln, hz', hw2, hy, hy0, hyn, hy1, c1, c2, c3, c4, c7, c8, c5, c6, hw1]
      refine key _ _ ?_ ?_
      all_goals simp (maxSteps := 5000000) only [SA, SB, SD, R, guardAt, binP, intP, indexAddrP, elemsOf, readCells, lenP, lenAt, resultsP, resultP, oneOr, reduceCtorEq, reduceIte, Nat.reduceEqDiff, Nat.reduceAdd, Nat.zero_add, Nat.reduceMul, Nat.reduceLT, Nat.reduceLeDiff, Int.reduceLT, Int.reduceNeg, Int.reduceLE, appendP, appendAt, letGo, setLoc, locVal, Int.reduceToNat, boxCells, und, e0, e3]
theorem ens_pure (l : List En) : pureL (ens l) = true := by
  induction l with
  | nil => rfl
  | cons e r ih => show ((enV e).pure && pureL (ens r)) = true; rw [ih]; rfl
theorem call_why_Check (l : List En) (hl : l.length ≤ maxLen) : ∃ bx, callL CC 9 [.sl (ens l)] [] = some (.ret (.int .i64 (ckE l 0 0)), bx) := by
  have hloop := fun e bx => loop_wck _ rfl l hl l.length 0 0 0 e bx (by omega)
  have hln := ens_length l
  rw [List.drop_zero] at hloop
  generalize ckE l 0 0 = v at *
  obtain ⟨tn, hen⟩ := ENs
  obtain ⟨tu, htu⟩ := VLs
  obtain ⟨tk, hky⟩ := KYs
  obtain ⟨tc, hcs⟩ := CSs
  rw [callL_enter (fn := Tryd.f9) (c := Tryd.f9.body.getD .skip) rfl rfl fat_why_Check rfl ok_why_Check (Nat.le_of_ble_eq_true rfl)]
  generalize ens l = xs at *
  obtain ⟨ev, eo, so, co, ⟨hev, hco⟩, R⟩ := RULES CC; rw [← hev]
  rw [← hev] at hloop
  simp only [fpart, part', Tryd.f9, Option.getD] at hloop ⊢
  simp (maxSteps := 5000000) only [SA, SB, SD, R, guardAt, binP, intP, indexAddrP, elemsOf, readCells, lenP, lenAt, resultsP, resultP, oneOr, reduceCtorEq, reduceIte, Nat.reduceEqDiff, Nat.reduceAdd, Nat.zero_add, Nat.reduceMul, Nat.reduceLT, Nat.reduceLeDiff, Int.reduceLT, Int.reduceNeg, Int.reduceLE, appendP, appendAt, letGo, setLoc, locVal, Int.reduceToNat, boxCells, und, TG, SE, SC, ENf, List.getElem?_concat_length, List.getElem?_cons_zero, List.getElem?_cons_succ, List.take_nil, unP, hen, htu, hky, hcs, loadR, loadP, storeR, storeK, storeCellsP, laid, lay, setBox, ss1, List.length_cons, List.length_nil, Nat.le_refl, Option.map_some, List.take_succ_cons, List.take_zero, List.drop_succ_cons, List.drop_zero, List.drop_nil, List.filter_nil, List.nil_append, List.cons_append, Int.reduceBEq, Int.reduceBNe, Int.reduceGT, Int.reduceGE, Bool.not_true, Bool.not_false, hln]
  generalize hE : ev (Code.loop _) _ = z
  have hP : PCk 0 [] v z := by
    rw [← hE]
    refine hloop _ _ ?_ ?_ ?_ ?_ ?_
    all_goals first | (simp (maxSteps := 5000000) only [SA, SB, SD, R, guardAt, binP, intP, indexAddrP, elemsOf, readCells, lenP, lenAt, resultsP, resultP, oneOr, reduceCtorEq, reduceIte, Nat.reduceEqDiff, Nat.reduceAdd, Nat.zero_add, Nat.reduceMul, Nat.reduceLT, Nat.reduceLeDiff, Int.reduceLT, Int.reduceNeg, Int.reduceLE, appendP, appendAt, letGo, setLoc, locVal, Int.reduceToNat, boxCells, und]; done) | (simp (maxSteps := 5000000) only [SA, SB, SD, R, guardAt, binP, intP, indexAddrP, elemsOf, readCells, lenP, lenAt, resultsP, resultP, oneOr, reduceCtorEq, reduceIte, Nat.reduceEqDiff, Nat.reduceAdd, Nat.zero_add, Nat.reduceMul, Nat.reduceLT, Nat.reduceLeDiff, Int.reduceLT, Int.reduceNeg, Int.reduceLE, appendP, appendAt, letGo, setLoc, locVal, Int.reduceToNat, boxCells, und]; rfl)
  obtain ⟨e', ex, ⟨hv, he⟩ | ⟨hv, he, q⟩⟩ := hP
  · subst he hv
    simp (maxSteps := 5000000) only [SA, SB, SD, R, guardAt, binP, intP, indexAddrP, elemsOf, readCells, lenP, lenAt, resultsP, resultP, oneOr, reduceCtorEq, reduceIte, Nat.reduceEqDiff, Nat.reduceAdd, Nat.zero_add, Nat.reduceMul, Nat.reduceLT, Nat.reduceLeDiff, Int.reduceLT, Int.reduceNeg, Int.reduceLE, appendP, appendAt, letGo, setLoc, locVal, Int.reduceToNat, boxCells, und, TG, SE, SC, ENf, List.getElem?_concat_length, List.getElem?_cons_zero, List.getElem?_cons_succ, List.take_nil, unP, hen, htu, hky, hcs, loadR, loadP, storeR, storeK, storeCellsP, laid, lay, setBox, ss1, List.length_cons, List.length_nil, Nat.le_refl, Option.map_some, List.take_succ_cons, List.take_zero, List.drop_succ_cons, List.drop_zero, List.drop_nil, List.filter_nil, List.nil_append, List.cons_append, Int.reduceBEq, Int.reduceBNe, Int.reduceGT, Int.reduceGE, Bool.not_true, Bool.not_false, hln]
    exact ⟨_, rfl⟩
  · subst he
    simp (maxSteps := 5000000) only [SA, SB, SD, R, guardAt, binP, intP, indexAddrP, elemsOf, readCells, lenP, lenAt, resultsP, resultP, oneOr, reduceCtorEq, reduceIte, Nat.reduceEqDiff, Nat.reduceAdd, Nat.zero_add, Nat.reduceMul, Nat.reduceLT, Nat.reduceLeDiff, Int.reduceLT, Int.reduceNeg, Int.reduceLE, appendP, appendAt, letGo, setLoc, locVal, Int.reduceToNat, boxCells, und, TG, SE, SC, ENf, List.getElem?_concat_length, List.getElem?_cons_zero, List.getElem?_cons_succ, List.take_nil, unP, hen, htu, hky, hcs, loadR, loadP, storeR, storeK, storeCellsP, laid, lay, setBox, ss1, List.length_cons, List.length_nil, Nat.le_refl, Option.map_some, List.take_succ_cons, List.take_zero, List.drop_succ_cons, List.drop_zero, List.drop_nil, List.filter_nil, List.nil_append, List.cons_append, Int.reduceBEq, Int.reduceBNe, Int.reduceGT, Int.reduceGE, Bool.not_true, Bool.not_false, q]
    exact ⟨_, rfl⟩
theorem op_why_Check (l : List En) (hl : l.length ≤ maxLen) (bx) : callOp CC (callL CC) 9 [.sl (ens l)] bx = some (.ret (.int .i64 (ckE l 0 0)), bx) := by
  obtain ⟨b, h⟩ := call_why_Check l hl
  exact callOp_of rfl (by simp only [pureL, PV.pure, ens_pure, Bool.and_self]) h rfl
theorem call_R56_Check (l : List En) (hl : l.length ≤ maxLen) : ∃ bx, callL CC 10 [.sl (ens l)] [] = some (.ret (.int .i64 (ckE l 0 0)), bx) := by
  have hloop := fun e bx => loop_rck _ rfl l hl l.length 0 0 0 e bx (by omega) (.inl ⟨rfl, rfl, rfl⟩)
  have hln := ens_length l
  rw [List.drop_zero] at hloop
  generalize ckE l 0 0 = v at *
  obtain ⟨tn, hen⟩ := ENs
  obtain ⟨tu, htu⟩ := VLs
  obtain ⟨tk, hky⟩ := KYs
  obtain ⟨tc, hcs⟩ := CSs
  rw [callL_enter (fn := Tryd.f10) (c := Tryd.f10.body.getD .skip) rfl rfl fat_R56_Check rfl ok_R56_Check (Nat.le_of_ble_eq_true rfl)]
  generalize ens l = xs at *
  obtain ⟨ev, eo, so, co, ⟨hev, hco⟩, R⟩ := RULES CC; rw [← hev]
  rw [← hev] at hloop
  simp only [fpart, part', Tryd.f10, Option.getD] at hloop ⊢
  simp (maxSteps := 5000000) only [SA, SB, SD, R, guardAt, binP, intP, indexAddrP, elemsOf, readCells, lenP, lenAt, resultsP, resultP, oneOr, reduceCtorEq, reduceIte, Nat.reduceEqDiff, Nat.reduceAdd, Nat.zero_add, Nat.reduceMul, Nat.reduceLT, Nat.reduceLeDiff, Int.reduceLT, Int.reduceNeg, Int.reduceLE, appendP, appendAt, letGo, setLoc, locVal, Int.reduceToNat, boxCells, und, TG, SE, SC, ENf, List.getElem?_concat_length, List.getElem?_cons_zero, List.getElem?_cons_succ, List.take_nil, unP, hen, htu, hky, hcs, loadR, loadP, storeR, storeK, storeCellsP, laid, lay, setBox, ss1, List.length_cons, List.length_nil, Nat.le_refl, Option.map_some, List.take_succ_cons, List.take_zero, List.drop_succ_cons, List.drop_zero, List.drop_nil, List.filter_nil, List.nil_append, List.cons_append, Int.reduceBEq, Int.reduceBNe, Int.reduceGT, Int.reduceGE, Bool.not_true, Bool.not_false, hln]
  generalize hE : ev (Code.loop _) _ = z
  have hP : PCk 0 [] v z := by
    rw [← hE]
    refine hloop _ _ ?_ ?_
    all_goals first | (simp (maxSteps := 5000000) only [SA, SB, SD, R, guardAt, binP, intP, indexAddrP, elemsOf, readCells, lenP, lenAt, resultsP, resultP, oneOr, reduceCtorEq, reduceIte, Nat.reduceEqDiff, Nat.reduceAdd, Nat.zero_add, Nat.reduceMul, Nat.reduceLT, Nat.reduceLeDiff, Int.reduceLT, Int.reduceNeg, Int.reduceLE, appendP, appendAt, letGo, setLoc, locVal, Int.reduceToNat, boxCells, und]; done) | (simp (maxSteps := 5000000) only [SA, SB, SD, R, guardAt, binP, intP, indexAddrP, elemsOf, readCells, lenP, lenAt, resultsP, resultP, oneOr, reduceCtorEq, reduceIte, Nat.reduceEqDiff, Nat.reduceAdd, Nat.zero_add, Nat.reduceMul, Nat.reduceLT, Nat.reduceLeDiff, Int.reduceLT, Int.reduceNeg, Int.reduceLE, appendP, appendAt, letGo, setLoc, locVal, Int.reduceToNat, boxCells, und]; rfl)
  obtain ⟨e', ex, ⟨hv, he⟩ | ⟨hv, he, q⟩⟩ := hP
  · subst he hv
    simp (maxSteps := 5000000) only [SA, SB, SD, R, guardAt, binP, intP, indexAddrP, elemsOf, readCells, lenP, lenAt, resultsP, resultP, oneOr, reduceCtorEq, reduceIte, Nat.reduceEqDiff, Nat.reduceAdd, Nat.zero_add, Nat.reduceMul, Nat.reduceLT, Nat.reduceLeDiff, Int.reduceLT, Int.reduceNeg, Int.reduceLE, appendP, appendAt, letGo, setLoc, locVal, Int.reduceToNat, boxCells, und, TG, SE, SC, ENf, List.getElem?_concat_length, List.getElem?_cons_zero, List.getElem?_cons_succ, List.take_nil, unP, hen, htu, hky, hcs, loadR, loadP, storeR, storeK, storeCellsP, laid, lay, setBox, ss1, List.length_cons, List.length_nil, Nat.le_refl, Option.map_some, List.take_succ_cons, List.take_zero, List.drop_succ_cons, List.drop_zero, List.drop_nil, List.filter_nil, List.nil_append, List.cons_append, Int.reduceBEq, Int.reduceBNe, Int.reduceGT, Int.reduceGE, Bool.not_true, Bool.not_false, hln]
    exact ⟨_, rfl⟩
  · subst he
    simp (maxSteps := 5000000) only [SA, SB, SD, R, guardAt, binP, intP, indexAddrP, elemsOf, readCells, lenP, lenAt, resultsP, resultP, oneOr, reduceCtorEq, reduceIte, Nat.reduceEqDiff, Nat.reduceAdd, Nat.zero_add, Nat.reduceMul, Nat.reduceLT, Nat.reduceLeDiff, Int.reduceLT, Int.reduceNeg, Int.reduceLE, appendP, appendAt, letGo, setLoc, locVal, Int.reduceToNat, boxCells, und, TG, SE, SC, ENf, List.getElem?_concat_length, List.getElem?_cons_zero, List.getElem?_cons_succ, List.take_nil, unP, hen, htu, hky, hcs, loadR, loadP, storeR, storeK, storeCellsP, laid, lay, setBox, ss1, List.length_cons, List.length_nil, Nat.le_refl, Option.map_some, List.take_succ_cons, List.take_zero, List.drop_succ_cons, List.drop_zero, List.drop_nil, List.filter_nil, List.nil_append, List.cons_append, Int.reduceBEq, Int.reduceBNe, Int.reduceGT, Int.reduceGE, Bool.not_true, Bool.not_false, q]
    exact ⟨_, rfl⟩
theorem op_R56_Check (l : List En) (hl : l.length ≤ maxLen) (bx) : callOp CC (callL CC) 10 [.sl (ens l)] bx = some (.ret (.int .i64 (ckE l 0 0)), bx) := by
  obtain ⟨b, h⟩ := call_R56_Check l hl
  exact callOp_of rfl (by simp only [pureL, PV.pure, ens_pure, Bool.and_self]) h rfl
/-- a log within the bounds of memory -/
def smL (l : List En) : Prop := l.length * 136 ≤ 140737488351232
theorem smL_max {l : List En} (h : smL l) : l.length ≤ maxLen := by unfold smL at h; simp only [maxLen]; omega
theorem law_WhyChecks (l : List En) (hl : smL l) : ∃ bx, callL CC 3 [.sl (ens l)] [] = some (.ret (.bool true), bx) := by
  have o1 := op_why_Check l (smL_max hl)
  have o2 := op_R56_Check l (smL_max hl)
  have oaw := op_awake
  have hp := ens_pure l
  generalize ckE l 0 0 = v at *
  obtain ⟨tn, hen⟩ := ENs
  obtain ⟨tu, htu⟩ := VLs
  obtain ⟨tk, hky⟩ := KYs
  obtain ⟨tc, hcs⟩ := CSs
  rw [callL_enter (fn := Tryd.f3) (c := Tryd.f3.body.getD .skip) rfl rfl fat_L56_WhyChecks rfl ok_L56_WhyChecks (Nat.le_of_ble_eq_true rfl)]
  generalize ens l = xs at *
  obtain ⟨ev, eo, so, co, ⟨hev, hco⟩, R⟩ := RULES CC; rw [← hev]
  rw [← hco] at o1 o2 oaw
  simp only [fpart, part', Tryd.f3, Option.getD]
  simp (maxSteps := 5000000) only [SA, SB, SD, R, guardAt, binP, intP, indexAddrP, elemsOf, readCells, lenP, lenAt, resultsP, resultP, oneOr, reduceCtorEq, reduceIte, Nat.reduceEqDiff, Nat.reduceAdd, Nat.zero_add, Nat.reduceMul, Nat.reduceLT, Nat.reduceLeDiff, Int.reduceLT, Int.reduceNeg, Int.reduceLE, appendP, appendAt, letGo, setLoc, locVal, Int.reduceToNat, boxCells, und, TG, SE, SC, ENf, List.getElem?_concat_length, List.getElem?_cons_zero, List.getElem?_cons_succ, List.take_nil, unP, hen, htu, hky, hcs, loadR, loadP, storeR, storeK, storeCellsP, laid, lay, setBox, ss1, List.length_cons, List.length_nil, Nat.le_refl, Option.map_some, List.take_succ_cons, List.take_zero, List.drop_succ_cons, List.drop_zero, List.drop_nil, List.filter_nil, List.nil_append, List.cons_append, Int.reduceBEq, Int.reduceBNe, Int.reduceGT, Int.reduceGE, Bool.not_true, Bool.not_false, o1, o2, oaw, hp, beq_self_eq_true]
  exact ⟨_, rfl⟩
end Go.HH
