/-
  Logs: Last, Chain, Why; the law of chains.
-/
import Derived.Test.YtbbhmdpbojoheaaDoorY7
namespace Go.HH
open Go Go.Proofs
set_option maxRecDepth 100000
set_option maxHeartbeats 4000000
set_option linter.unusedSimpArgs false
set_option linter.unusedVariables false
theorem eqKP (a b : Ky) : eqP CC 100 28 (kyV a) (kyV b) = some (eqKy a b) := by
  have h : eqP CC 100 28 (kyV a) (kyV b) = and2 (a.1 == b.1) (and2 (a.2.1 == b.2.1) (and2 (a.2.2 == b.2.2) (some true))) := by kernel_rfl
  rw [h]
  simp only [and2_some, Bool.and_true, eqKy]
theorem eqgK : CC.P.eqGuardType CC.P.depth 28 = false := by kernel_rfl
def conB (k : Int) : Bool := k == 1 || k == 4 || k == 5
theorem call_concerns (k : Int) : ∃ bx, callL CC 26 [.int .i64 k] [] = some (.ret (.bool (conB k)), bx) := by
  unfold conB
  obtain ⟨tn, hen⟩ := ENs
  obtain ⟨tu, htu⟩ := VLs
  obtain ⟨tk, hky⟩ := KYs
  obtain ⟨tc, hcs⟩ := CSs
  rw [callL_enter (fn := Tryd.f26) (c := Tryd.f26.body.getD .skip) rfl rfl fat_why_concerns rfl ok_why_concerns (Nat.le_of_ble_eq_true rfl)]
  by_cases k1 : k = 1
  · subst k1
    obtain ⟨ev, eo, so, co, ⟨hev, hco⟩, R⟩ := RULES CC; rw [← hev]
    simp only [fpart, part', Tryd.f26, Option.getD]
    simp (maxSteps := 5000000) only [SA, SB, SD, R, guardAt, binP, intP, indexAddrP, elemsOf, readCells, lenP, lenAt, resultsP, resultP, oneOr, reduceCtorEq, reduceIte, Nat.reduceEqDiff, Nat.reduceAdd, Nat.zero_add, Nat.reduceMul, Nat.reduceLT, Nat.reduceLeDiff, Int.reduceLT, Int.reduceNeg, Int.reduceLE, appendP, appendAt, letGo, setLoc, locVal, Int.reduceToNat, boxCells, und, TG, SE, SC, ENf, List.getElem?_concat_length, List.getElem?_cons_zero, List.getElem?_cons_succ, List.take_nil, unP, hen, htu, hky, hcs, loadR, loadP, storeR, storeK, storeCellsP, laid, lay, setBox, ss1, extP, List.set_cons_zero, List.set_cons_succ, List.length_cons, List.length_nil, Nat.le_refl, Option.map_some, List.take_succ_cons, List.take_zero, List.drop_succ_cons, List.drop_zero, List.drop_nil, List.filter_nil, List.nil_append, List.cons_append, Int.reduceBEq, Int.reduceBNe, Int.reduceGT, Int.reduceGE, Bool.not_true, Bool.not_false, hen]
    exact ⟨_, rfl⟩
  by_cases k4 : k = 4
  · subst k4
    obtain ⟨ev, eo, so, co, ⟨hev, hco⟩, R⟩ := RULES CC; rw [← hev]
    simp only [fpart, part', Tryd.f26, Option.getD]
    simp (maxSteps := 5000000) only [SA, SB, SD, R, guardAt, binP, intP, indexAddrP, elemsOf, readCells, lenP, lenAt, resultsP, resultP, oneOr, reduceCtorEq, reduceIte, Nat.reduceEqDiff, Nat.reduceAdd, Nat.zero_add, Nat.reduceMul, Nat.reduceLT, Nat.reduceLeDiff, Int.reduceLT, Int.reduceNeg, Int.reduceLE, appendP, appendAt, letGo, setLoc, locVal, Int.reduceToNat, boxCells, und, TG, SE, SC, ENf, List.getElem?_concat_length, List.getElem?_cons_zero, List.getElem?_cons_succ, List.take_nil, unP, hen, htu, hky, hcs, loadR, loadP, storeR, storeK, storeCellsP, laid, lay, setBox, ss1, extP, List.set_cons_zero, List.set_cons_succ, List.length_cons, List.length_nil, Nat.le_refl, Option.map_some, List.take_succ_cons, List.take_zero, List.drop_succ_cons, List.drop_zero, List.drop_nil, List.filter_nil, List.nil_append, List.cons_append, Int.reduceBEq, Int.reduceBNe, Int.reduceGT, Int.reduceGE, Bool.not_true, Bool.not_false, hen]
    exact ⟨_, rfl⟩
  by_cases k5 : k = 5
  · subst k5
    obtain ⟨ev, eo, so, co, ⟨hev, hco⟩, R⟩ := RULES CC; rw [← hev]
    simp only [fpart, part', Tryd.f26, Option.getD]
    simp (maxSteps := 5000000) only [SA, SB, SD, R, guardAt, binP, intP, indexAddrP, elemsOf, readCells, lenP, lenAt, resultsP, resultP, oneOr, reduceCtorEq, reduceIte, Nat.reduceEqDiff, Nat.reduceAdd, Nat.zero_add, Nat.reduceMul, Nat.reduceLT, Nat.reduceLeDiff, Int.reduceLT, Int.reduceNeg, Int.reduceLE, appendP, appendAt, letGo, setLoc, locVal, Int.reduceToNat, boxCells, und, TG, SE, SC, ENf, List.getElem?_concat_length, List.getElem?_cons_zero, List.getElem?_cons_succ, List.take_nil, unP, hen, htu, hky, hcs, loadR, loadP, storeR, storeK, storeCellsP, laid, lay, setBox, ss1, extP, List.set_cons_zero, List.set_cons_succ, List.length_cons, List.length_nil, Nat.le_refl, Option.map_some, List.take_succ_cons, List.take_zero, List.drop_succ_cons, List.drop_zero, List.drop_nil, List.filter_nil, List.nil_append, List.cons_append, Int.reduceBEq, Int.reduceBNe, Int.reduceGT, Int.reduceGE, Bool.not_true, Bool.not_false, hen]
    exact ⟨_, rfl⟩
  have p1 : (k == 1) = false := by simpa using k1
  have p4 : (k == 4) = false := by simpa using k4
  have p5 : (k == 5) = false := by simpa using k5
  rw [p1, p4, p5]
  obtain ⟨ev, eo, so, co, ⟨hev, hco⟩, R⟩ := RULES CC; rw [← hev]
  simp only [fpart, part', Tryd.f26, Option.getD]
  simp (maxSteps := 5000000) only [SA, SB, SD, R, guardAt, binP, intP, indexAddrP, elemsOf, readCells, lenP, lenAt, resultsP, resultP, oneOr, reduceCtorEq, reduceIte, Nat.reduceEqDiff, Nat.reduceAdd, Nat.zero_add, Nat.reduceMul, Nat.reduceLT, Nat.reduceLeDiff, Int.reduceLT, Int.reduceNeg, Int.reduceLE, appendP, appendAt, letGo, setLoc, locVal, Int.reduceToNat, boxCells, und, TG, SE, SC, ENf, List.getElem?_concat_length, List.getElem?_cons_zero, List.getElem?_cons_succ, List.take_nil, unP, hen, htu, hky, hcs, loadR, loadP, storeR, storeK, storeCellsP, laid, lay, setBox, ss1, extP, List.set_cons_zero, List.set_cons_succ, List.length_cons, List.length_nil, Nat.le_refl, Option.map_some, List.take_succ_cons, List.take_zero, List.drop_succ_cons, List.drop_zero, List.drop_nil, List.filter_nil, List.nil_append, List.cons_append, Int.reduceBEq, Int.reduceBNe, Int.reduceGT, Int.reduceGE, Bool.not_true, Bool.not_false, p1, p4, p5]
  exact ⟨_, rfl⟩
theorem op_concerns (k : Int) (bx) : callOp CC (callL CC) 26 [.int .i64 k] bx = some (.ret (.bool (conB k)), bx) := by
  obtain ⟨b, h⟩ := call_concerns k
  exact callOp_of rfl rfl h rfl
def enZ : En := ⟨0, 0, 0, (0, [], []), (0, 0, []), (0, [], 0), 0⟩
theorem buildEn0 : buildP CC 34 [] = some (enV enZ) := by kernel_rfl
def Kb (k : Ky) : PBox := .cells 28 (kyV k).cells
def Eb (e : En) : PBox := .cells 34 (enV e).cells
/-- what the search for the last entry comes to -/
def PLs (k : Ky) (r : Option En) (res : Option (Ex × St)) : Prop := match r with
  | none => ∃ e', res = some (.exit 0, ⟨e', [Kb k, Eb enZ]⟩) ∧ getT e' 4 = .bp 1 0
  | some x => ∃ e', res = some (.ret, ⟨e', [Kb k, Eb x]⟩) ∧ getT e' 4 = .bp 1 0 ∧ getT e' 5 = .bool true
theorem lsN_succ {l : List En} {k : Ky} {m : Nat} {x : En} (h : l[m]? = some x) : lsN l k (m + 1) = if lsC x k then some x else lsN l k m := by
  conv => lhs; unfold lsN
  rw [h]
theorem loop_wls (L : Code) (hL : L = fpart Tryd.f12 [1,0,1,0]) (l : List En) (hl : l.length ≤ maxLen) (kk : Ky) : ∀ (m : Nat) (e : List PV), m ≤ l.length →
    getT e 0 = .sl (ens l) → getT e 3 = .bp 0 0 → getT e 4 = .bp 1 0 → getT e 6 = .int .i64 ((m : Int) - 1) → PLs kk (lsN l kk m) (evL CC L ⟨e, [Kb kk, Eb enZ]⟩) := by
  intro m
  induction m with
  | zero =>
    intro e hm e0 e3 e4 e6
    rw [evL_at (fpart Tryd.f12 [1,0,1,0,0]) hL]
    have hi : ¬ ((((0 : Nat) : Int) - 1) ≥ 0) := by omega
    unfold lsN PLs
    obtain ⟨tn, hen⟩ := ENs
    obtain ⟨tu, htu⟩ := VLs
    obtain ⟨tk, hky⟩ := KYs
    obtain ⟨tc, hcs⟩ := CSs
    generalize ens l = xs at *
    generalize Kb kk = b1
    generalize Eb enZ = b2
    obtain ⟨ev, eo, so, co, ⟨hev, hco⟩, R⟩ := RULES CC; rw [← hev]
    simp only [fpart, part', Tryd.f12, Option.getD]
    simp (maxSteps := 5000000) only [SA, SB, SD, R, guardAt, binP, intP, indexAddrP, elemsOf, readCells, lenP, lenAt, resultsP, resultP, oneOr, reduceCtorEq, reduceIte, Nat.reduceEqDiff, Nat.reduceAdd, Nat.zero_add, Nat.reduceMul, Nat.reduceLT, Nat.reduceLeDiff, Int.reduceLT, Int.reduceNeg, Int.reduceLE, appendP, appendAt, letGo, setLoc, locVal, Int.reduceToNat, boxCells, und, TG, SE, SC, ENf, List.getElem?_concat_length, List.getElem?_cons_zero, List.getElem?_cons_succ, List.take_nil, unP, hen, htu, hky, hcs, loadR, loadP, storeR, storeK, storeCellsP, laid, lay, setBox, ss1, extP, List.set_cons_zero, List.set_cons_succ, List.length_cons, List.length_nil, Nat.le_refl, Option.map_some, List.take_succ_cons, List.take_zero, List.drop_succ_cons, List.drop_zero, List.drop_nil, List.filter_nil, List.nil_append, List.cons_append, Int.reduceBEq, Int.reduceBNe, Int.reduceGT, Int.reduceGE, Bool.not_true, Bool.not_false, e0, e3, e4, e6, hi]
    exact ⟨_, rfl, by simp (maxSteps := 5000000) only [SA, SB, SD, R, guardAt, binP, intP, indexAddrP, elemsOf, readCells, lenP, lenAt, resultsP, resultP, oneOr, reduceCtorEq, reduceIte, Nat.reduceEqDiff, Nat.reduceAdd, Nat.zero_add, Nat.reduceMul, Nat.reduceLT, Nat.reduceLeDiff, Int.reduceLT, Int.reduceNeg, Int.reduceLE, appendP, appendAt, letGo, setLoc, locVal, Int.reduceToNat, boxCells, und, e4]⟩
  | succ m ih =>
    intro e hm e0 e3 e4 e6
    rw [evL_at (fpart Tryd.f12 [1,0,1,0,0]) hL]
    have cast1 : (((m + 1 : Nat) : Int) - 1) = (m : Int) := by omega
    rw [cast1] at e6
    have hi : ((m : Int) ≥ 0) := by omega
    have hi0' : ¬ ((m : Int) < 0) := by omega
    have hi1 : ((m : Int) < (l.length : Int)) := by omega
    have hxl : l[m]? = some (l[m]'(by omega)) := List.getElem?_eq_getElem (by omega)
    have hx := ens_get hxl
    rw [lsN_succ hxl]
    have hln := ens_length l
    have hw1 := wrap_i64 (n := (m : Int) - 1) ⟨by omega, by simp only [maxLen] at hl; omega⟩
    have key := fun e => ih e (by omega)
    generalize l[m]'(by omega) = x at *
    generalize lsN l kk m = rest at *
    have hcon := op_concerns x.kind
    have heq := eqKP x.key kk
    have hC : lsC x kk = (conB x.kind && eqKy x.key kk) := rfl
    rw [hC]
    clear hxl hC
    generalize eqKy x.key kk = q at *
    obtain ⟨xno, xtk, xk, xkey, xval, xca, xpar⟩ := x
    obtain ⟨kd, kc, ka⟩ := kk
    unfold enV at hx
    unfold kyV at heq
    simp only at hx hcon heq ⊢
    generalize ens l = xs at *
    obtain ⟨tn, hen⟩ := ENs
    obtain ⟨tu, htu⟩ := VLs
    obtain ⟨tk, hky⟩ := KYs
    obtain ⟨tc, hcs⟩ := CSs
    cases hq1 : conB xk with
    | false =>
      rw [hq1] at hcon
      rw [if_neg (by simp)]
      unfold Kb Eb kyV enV at key ⊢
      simp only [SA] at key ⊢
      obtain ⟨ev, eo, so, co, ⟨hev, hco⟩, R⟩ := RULES CC; rw [← hev]
      rw [← hev] at key
      rw [← hco] at hcon
      simp only [fpart, part', Tryd.f12, Option.getD]
      simp (maxSteps := 5000000) only [SA, SB, SD, R, guardAt, binP, intP, indexAddrP, elemsOf, readCells, lenP, lenAt, resultsP, resultP, oneOr, reduceCtorEq, reduceIte, Nat.reduceEqDiff, Nat.reduceAdd, Nat.zero_add, Nat.reduceMul, Nat.reduceLT, Nat.reduceLeDiff, Int.reduceLT, Int.reduceNeg, Int.reduceLE, appendP, appendAt, letGo, setLoc, locVal, Int.reduceToNat, boxCells, und, TG, SE, SC, ENf, List.getElem?_concat_length, List.getElem?_cons_zero, List.getElem?_cons_succ, List.take_nil, unP, hen, htu, hky, hcs, loadR, loadP, storeR, storeK, storeCellsP, laid, lay, setBox, ss1, extP, List.set_cons_zero, List.set_cons_succ, List.length_cons, List.length_nil, Nat.le_refl, Option.map_some, List.take_succ_cons, List.take_zero, List.drop_succ_cons, List.drop_zero, List.drop_nil, List.filter_nil, List.nil_append, List.cons_append, Int.reduceBEq, Int.reduceBNe, Int.reduceGT, Int.reduceGE, Bool.not_true, Bool.not_false, e0, e3, e4, e6, hi, hi0', hi1, hx, hln, hw1, hcon, heq, eqgK]
      refine key _ ?_ ?_ ?_ ?_
      all_goals simp (maxSteps := 5000000) only [SA, SB, SD, R, guardAt, binP, intP, indexAddrP, elemsOf, readCells, lenP, lenAt, resultsP, resultP, oneOr, reduceCtorEq, reduceIte, Nat.reduceEqDiff, Nat.reduceAdd, Nat.zero_add, Nat.reduceMul, Nat.reduceLT, Nat.reduceLeDiff, Int.reduceLT, Int.reduceNeg, Int.reduceLE, appendP, appendAt, letGo, setLoc, locVal, Int.reduceToNat, boxCells, und, e0, e3, e4, e6]
    | true =>
      rw [hq1] at hcon
      cases q with
      | false =>
        rw [if_neg (by simp)]
        unfold Kb Eb kyV enV at key ⊢
        simp only [SA] at key ⊢
        obtain ⟨ev, eo, so, co, ⟨hev, hco⟩, R⟩ := RULES CC; rw [← hev]
        rw [← hev] at key
        rw [← hco] at hcon
        simp only [fpart, part', Tryd.f12, Option.getD]
        simp (maxSteps := 5000000) only [SA, SB, SD, R, guardAt, binP, intP, indexAddrP, elemsOf, readCells, lenP, lenAt, resultsP, resultP, oneOr, reduceCtorEq, reduceIte, Nat.reduceEqDiff, Nat.reduceAdd, Nat.zero_add, Nat.reduceMul, Nat.reduceLT, Nat.reduceLeDiff, Int.reduceLT, Int.reduceNeg, Int.reduceLE, appendP, appendAt, letGo, setLoc, locVal, Int.reduceToNat, boxCells, und, TG, SE, SC, ENf, List.getElem?_concat_length, List.getElem?_cons_zero, List.getElem?_cons_succ, List.take_nil, unP, hen, htu, hky, hcs, loadR, loadP, storeR, storeK, storeCellsP, laid, lay, setBox, ss1, extP, List.set_cons_zero, List.set_cons_succ, List.length_cons, List.length_nil, Nat.le_refl, Option.map_some, List.take_succ_cons, List.take_zero, List.drop_succ_cons, List.drop_zero, List.drop_nil, List.filter_nil, List.nil_append, List.cons_append, Int.reduceBEq, Int.reduceBNe, Int.reduceGT, Int.reduceGE, Bool.not_true, Bool.not_false, e0, e3, e4, e6, hi, hi0', hi1, hx, hln, hw1, hcon, heq, eqgK]
        refine key _ ?_ ?_ ?_ ?_
        all_goals simp (maxSteps := 5000000) only [SA, SB, SD, R, guardAt, binP, intP, indexAddrP, elemsOf, readCells, lenP, lenAt, resultsP, resultP, oneOr, reduceCtorEq, reduceIte, Nat.reduceEqDiff, Nat.reduceAdd, Nat.zero_add, Nat.reduceMul, Nat.reduceLT, Nat.reduceLeDiff, Int.reduceLT, Int.reduceNeg, Int.reduceLE, appendP, appendAt, letGo, setLoc, locVal, Int.reduceToNat, boxCells, und, e0, e3, e4, e6]
      | true =>
        rw [if_pos (by simp)]
        unfold PLs Kb Eb kyV enV
        simp only [SA]
        obtain ⟨ev, eo, so, co, ⟨hev, hco⟩, R⟩ := RULES CC; rw [← hev]
        rw [← hco] at hcon
        simp only [fpart, part', Tryd.f12, Option.getD]
        simp (maxSteps := 5000000) only [SA, SB, SD, R, guardAt, binP, intP, indexAddrP, elemsOf, readCells, lenP, lenAt, resultsP, resultP, oneOr, reduceCtorEq, reduceIte, Nat.reduceEqDiff, Nat.reduceAdd, Nat.zero_add, Nat.reduceMul, Nat.reduceLT, Nat.reduceLeDiff, Int.reduceLT, Int.reduceNeg, Int.reduceLE, appendP, appendAt, letGo, setLoc, locVal, Int.reduceToNat, boxCells, und, TG, SE, SC, ENf, List.getElem?_concat_length, List.getElem?_cons_zero, List.getElem?_cons_succ, List.take_nil, unP, hen, htu, hky, hcs, loadR, loadP, storeR, storeK, storeCellsP, laid, lay, setBox, ss1, extP, List.set_cons_zero, List.set_cons_succ, List.length_cons, List.length_nil, Nat.le_refl, Option.map_some, List.take_succ_cons, List.take_zero, List.drop_succ_cons, List.drop_zero, List.drop_nil, List.filter_nil, List.nil_append, List.cons_append, Int.reduceBEq, Int.reduceBNe, Int.reduceGT, Int.reduceGE, Bool.not_true, Bool.not_false, e0, e3, e4, e6, hi, hi0', hi1, hx, hln, hw1, hcon, heq, eqgK]
        exact ⟨_, rfl, by simp (maxSteps := 5000000) only [SA, SB, SD, R, guardAt, binP, intP, indexAddrP, elemsOf, readCells, lenP, lenAt, resultsP, resultP, oneOr, reduceCtorEq, reduceIte, Nat.reduceEqDiff, Nat.reduceAdd, Nat.zero_add, Nat.reduceMul, Nat.reduceLT, Nat.reduceLeDiff, Int.reduceLT, Int.reduceNeg, Int.reduceLE, appendP, appendAt, letGo, setLoc, locVal, Int.reduceToNat, boxCells, und, e4], by simp (maxSteps := 5000000) only [SA, SB, SD, R, guardAt, binP, intP, indexAddrP, elemsOf, readCells, lenP, lenAt, resultsP, resultP, oneOr, reduceCtorEq, reduceIte, Nat.reduceEqDiff, Nat.reduceAdd, Nat.zero_add, Nat.reduceMul, Nat.reduceLT, Nat.reduceLeDiff, Int.reduceLT, Int.reduceNeg, Int.reduceLE, appendP, appendAt, letGo, setLoc, locVal, Int.reduceToNat, boxCells, und]⟩
theorem loop_rls (L : Code) (hL : L = fpart Tryd.f13 [1,0,1,0]) (l : List En) (hl : l.length ≤ maxLen) (kk : Ky) : ∀ (m : Nat) (e : List PV), m ≤ l.length →
    getT e 0 = .sl (ens l) → getT e 3 = .bp 0 0 → getT e 4 = .bp 1 0 → getT e 6 = .int .i64 ((m : Int) - 1) → PLs kk (lsN l kk m) (evL CC L ⟨e, [Kb kk, Eb enZ]⟩) := by
  intro m
  induction m with
  | zero =>
    intro e hm e0 e3 e4 e6
    rw [evL_at (fpart Tryd.f13 [1,0,1,0,0]) hL]
    have hi : ¬ ((((0 : Nat) : Int) - 1) ≥ 0) := by omega
    unfold lsN PLs
    obtain ⟨tn, hen⟩ := ENs
    obtain ⟨tu, htu⟩ := VLs
    obtain ⟨tk, hky⟩ := KYs
    obtain ⟨tc, hcs⟩ := CSs
    generalize ens l = xs at *
    generalize Kb kk = b1
    generalize Eb enZ = b2
    obtain ⟨ev, eo, so, co, ⟨hev, hco⟩, R⟩ := RULES CC; rw [← hev]
    simp only [fpart, part', Tryd.f13, Option.getD]
    simp (maxSteps := 5000000) only [SA, SB, SD, R, guardAt, binP, intP, indexAddrP, elemsOf, readCells, lenP, lenAt, resultsP, resultP, oneOr, reduceCtorEq, reduceIte, Nat.reduceEqDiff, Nat.reduceAdd, Nat.zero_add, Nat.reduceMul, Nat.reduceLT, Nat.reduceLeDiff, Int.reduceLT, Int.reduceNeg, Int.reduceLE, appendP, appendAt, letGo, setLoc, locVal, Int.reduceToNat, boxCells, und, TG, SE, SC, ENf, List.getElem?_concat_length, List.getElem?_cons_zero, List.getElem?_cons_succ, List.take_nil, unP, hen, htu, hky, hcs, loadR, loadP, storeR, storeK, storeCellsP, laid, lay, setBox, ss1, extP, List.set_cons_zero, List.set_cons_succ, List.length_cons, List.length_nil, Nat.le_refl, Option.map_some, List.take_succ_cons, List.take_zero, List.drop_succ_cons, List.drop_zero, List.drop_nil, List.filter_nil, List.nil_append, List.cons_append, Int.reduceBEq, Int.reduceBNe, Int.reduceGT, Int.reduceGE, Bool.not_true, Bool.not_false, e0, e3, e4, e6, hi]
    exact ⟨_, rfl, by simp (maxSteps := 5000000) only [SA, SB, SD, R, guardAt, binP, intP, indexAddrP, elemsOf, readCells, lenP, lenAt, resultsP, resultP, oneOr, reduceCtorEq, reduceIte, Nat.reduceEqDiff, Nat.reduceAdd, Nat.zero_add, Nat.reduceMul, Nat.reduceLT, Nat.reduceLeDiff, Int.reduceLT, Int.reduceNeg, Int.reduceLE, appendP, appendAt, letGo, setLoc, locVal, Int.reduceToNat, boxCells, und, e4]⟩
  | succ m ih =>
    intro e hm e0 e3 e4 e6
    rw [evL_at (fpart Tryd.f13 [1,0,1,0,0]) hL]
    have cast1 : (((m + 1 : Nat) : Int) - 1) = (m : Int) := by omega
    rw [cast1] at e6
    have hi : ((m : Int) ≥ 0) := by omega
    have hi0' : ¬ ((m : Int) < 0) := by omega
    have hi1 : ((m : Int) < (l.length : Int)) := by omega
    have hxl : l[m]? = some (l[m]'(by omega)) := List.getElem?_eq_getElem (by omega)
    have hx := ens_get hxl
    rw [lsN_succ hxl]
    have hln := ens_length l
    have hw1 := wrap_i64 (n := (m : Int) - 1) ⟨by omega, by simp only [maxLen] at hl; omega⟩
    have key := fun e => ih e (by omega)
    generalize l[m]'(by omega) = x at *
    generalize lsN l kk m = rest at *
    have hcon := op_concerns x.kind
    have heq := eqKP x.key kk
    have hC : lsC x kk = (conB x.kind && eqKy x.key kk) := rfl
    rw [hC]
    clear hxl hC
    generalize eqKy x.key kk = q at *
    obtain ⟨xno, xtk, xk, xkey, xval, xca, xpar⟩ := x
    obtain ⟨kd, kc, ka⟩ := kk
    unfold enV at hx
    unfold kyV at heq
    simp only at hx hcon heq ⊢
    generalize ens l = xs at *
    obtain ⟨tn, hen⟩ := ENs
    obtain ⟨tu, htu⟩ := VLs
    obtain ⟨tk, hky⟩ := KYs
    obtain ⟨tc, hcs⟩ := CSs
    clear hcon
    cases q with
    | false =>
      rw [Bool.and_false, if_neg (by simp)]
      unfold Kb Eb kyV enV at key ⊢
      simp only [SA] at key ⊢
      obtain ⟨ev, eo, so, co, ⟨hev, hco⟩, R⟩ := RULES CC; rw [← hev]
      rw [← hev] at key
      simp only [fpart, part', Tryd.f13, Option.getD]
      simp (maxSteps := 5000000) only [SA, SB, SD, R, guardAt, binP, intP, indexAddrP, elemsOf, readCells, lenP, lenAt, resultsP, resultP, oneOr, reduceCtorEq, reduceIte, Nat.reduceEqDiff, Nat.reduceAdd, Nat.zero_add, Nat.reduceMul, Nat.reduceLT, Nat.reduceLeDiff, Int.reduceLT, Int.reduceNeg, Int.reduceLE, appendP, appendAt, letGo, setLoc, locVal, Int.reduceToNat, boxCells, und, TG, SE, SC, ENf, List.getElem?_concat_length, List.getElem?_cons_zero, List.getElem?_cons_succ, List.take_nil, unP, hen, htu, hky, hcs, loadR, loadP, storeR, storeK, storeCellsP, laid, lay, setBox, ss1, extP, List.set_cons_zero, List.set_cons_succ, List.length_cons, List.length_nil, Nat.le_refl, Option.map_some, List.take_succ_cons, List.take_zero, List.drop_succ_cons, List.drop_zero, List.drop_nil, List.filter_nil, List.nil_append, List.cons_append, Int.reduceBEq, Int.reduceBNe, Int.reduceGT, Int.reduceGE, Bool.not_true, Bool.not_false, e0, e3, e4, e6, hi, hi0', hi1, hx, hln, hw1, heq, eqgK]
      refine key _ ?_ ?_ ?_ ?_
      all_goals simp (maxSteps := 5000000) only [SA, SB, SD, R, guardAt, binP, intP, indexAddrP, elemsOf, readCells, lenP, lenAt, resultsP, resultP, oneOr, reduceCtorEq, reduceIte, Nat.reduceEqDiff, Nat.reduceAdd, Nat.zero_add, Nat.reduceMul, Nat.reduceLT, Nat.reduceLeDiff, Int.reduceLT, Int.reduceNeg, Int.reduceLE, appendP, appendAt, letGo, setLoc, locVal, Int.reduceToNat, boxCells, und, e0, e3, e4, e6]
    | true =>
      rw [Bool.and_true]
      unfold conB
      by_cases k1 : xk = 1
      · have p1 : (xk == 1) = true := by simpa using k1
        rw [p1, if_pos (by simp)]
        unfold PLs Kb Eb kyV enV
        simp only [SA]
        obtain ⟨ev, eo, so, co, ⟨hev, hco⟩, R⟩ := RULES CC; rw [← hev]
        skip
        simp only [fpart, part', Tryd.f13, Option.getD]
        simp (maxSteps := 5000000) only [SA, SB, SD, R, guardAt, binP, intP, indexAddrP, elemsOf, readCells, lenP, lenAt, resultsP, resultP, oneOr, reduceCtorEq, reduceIte, Nat.reduceEqDiff, Nat.reduceAdd, Nat.zero_add, Nat.reduceMul, Nat.reduceLT, Nat.reduceLeDiff, Int.reduceLT, Int.reduceNeg, Int.reduceLE, appendP, appendAt, letGo, setLoc, locVal, Int.reduceToNat, boxCells, und, TG, SE, SC, ENf, List.getElem?_concat_length, List.getElem?_cons_zero, List.getElem?_cons_succ, List.take_nil, unP, hen, htu, hky, hcs, loadR, loadP, storeR, storeK, storeCellsP, laid, lay, setBox, ss1, extP, List.set_cons_zero, List.set_cons_succ, List.length_cons, List.length_nil, Nat.le_refl, Option.map_some, List.take_succ_cons, List.take_zero, List.drop_succ_cons, List.drop_zero, List.drop_nil, List.filter_nil, List.nil_append, List.cons_append, Int.reduceBEq, Int.reduceBNe, Int.reduceGT, Int.reduceGE, Bool.not_true, Bool.not_false, e0, e3, e4, e6, hi, hi0', hi1, hx, hln, hw1, heq, eqgK, p1]
        exact ⟨_, rfl, by simp (maxSteps := 5000000) only [SA, SB, SD, R, guardAt, binP, intP, indexAddrP, elemsOf, readCells, lenP, lenAt, resultsP, resultP, oneOr, reduceCtorEq, reduceIte, Nat.reduceEqDiff, Nat.reduceAdd, Nat.zero_add, Nat.reduceMul, Nat.reduceLT, Nat.reduceLeDiff, Int.reduceLT, Int.reduceNeg, Int.reduceLE, appendP, appendAt, letGo, setLoc, locVal, Int.reduceToNat, boxCells, und, e4], by simp (maxSteps := 5000000) only [SA, SB, SD, R, guardAt, binP, intP, indexAddrP, elemsOf, readCells, lenP, lenAt, resultsP, resultP, oneOr, reduceCtorEq, reduceIte, Nat.reduceEqDiff, Nat.reduceAdd, Nat.zero_add, Nat.reduceMul, Nat.reduceLT, Nat.reduceLeDiff, Int.reduceLT, Int.reduceNeg, Int.reduceLE, appendP, appendAt, letGo, setLoc, locVal, Int.reduceToNat, boxCells, und]⟩
      have p1 : (xk == 1) = false := by simpa using k1
      by_cases k4 : xk = 4
      · have p4 : (xk == 4) = true := by simpa using k4
        rw [p1, p4, if_pos (by simp)]
        unfold PLs Kb Eb kyV enV
        simp only [SA]
        obtain ⟨ev, eo, so, co, ⟨hev, hco⟩, R⟩ := RULES CC; rw [← hev]
        skip
        simp only [fpart, part', Tryd.f13, Option.getD]
        simp (maxSteps := 5000000) only [SA, SB, SD, R, guardAt, binP, intP, indexAddrP, elemsOf, readCells, lenP, lenAt, resultsP, resultP, oneOr, reduceCtorEq, reduceIte, Nat.reduceEqDiff, Nat.reduceAdd, Nat.zero_add, Nat.reduceMul, Nat.reduceLT, Nat.reduceLeDiff, Int.reduceLT, Int.reduceNeg, Int.reduceLE, appendP, appendAt, letGo, setLoc, locVal, Int.reduceToNat, boxCells, und, TG, SE, SC, ENf, List.getElem?_concat_length, List.getElem?_cons_zero, List.getElem?_cons_succ, List.take_nil, unP, hen, htu, hky, hcs, loadR, loadP, storeR, storeK, storeCellsP, laid, lay, setBox, ss1, extP, List.set_cons_zero, List.set_cons_succ, List.length_cons, List.length_nil, Nat.le_refl, Option.map_some, List.take_succ_cons, List.take_zero, List.drop_succ_cons, List.drop_zero, List.drop_nil, List.filter_nil, List.nil_append, List.cons_append, Int.reduceBEq, Int.reduceBNe, Int.reduceGT, Int.reduceGE, Bool.not_true, Bool.not_false, e0, e3, e4, e6, hi, hi0', hi1, hx, hln, hw1, heq, eqgK, p1, p4]
        exact ⟨_, rfl, by simp (maxSteps := 5000000) only [SA, SB, SD, R, guardAt, binP, intP, indexAddrP, elemsOf, readCells, lenP, lenAt, resultsP, resultP, oneOr, reduceCtorEq, reduceIte, Nat.reduceEqDiff, Nat.reduceAdd, Nat.zero_add, Nat.reduceMul, Nat.reduceLT, Nat.reduceLeDiff, Int.reduceLT, Int.reduceNeg, Int.reduceLE, appendP, appendAt, letGo, setLoc, locVal, Int.reduceToNat, boxCells, und, e4], by simp (maxSteps := 5000000) only [SA, SB, SD, R, guardAt, binP, intP, indexAddrP, elemsOf, readCells, lenP, lenAt, resultsP, resultP, oneOr, reduceCtorEq, reduceIte, Nat.reduceEqDiff, Nat.reduceAdd, Nat.zero_add, Nat.reduceMul, Nat.reduceLT, Nat.reduceLeDiff, Int.reduceLT, Int.reduceNeg, Int.reduceLE, appendP, appendAt, letGo, setLoc, locVal, Int.reduceToNat, boxCells, und]⟩
      have p4 : (xk == 4) = false := by simpa using k4
      by_cases k5 : xk = 5
      · have p5 : (xk == 5) = true := by simpa using k5
        rw [p1, p4, p5, if_pos (by simp)]
        unfold PLs Kb Eb kyV enV
        simp only [SA]
        obtain ⟨ev, eo, so, co, ⟨hev, hco⟩, R⟩ := RULES CC; rw [← hev]
        skip
        simp only [fpart, part', Tryd.f13, Option.getD]
        simp (maxSteps := 5000000) only [SA, SB, SD, R, guardAt, binP, intP, indexAddrP, elemsOf, readCells, lenP, lenAt, resultsP, resultP, oneOr, reduceCtorEq, reduceIte, Nat.reduceEqDiff, Nat.reduceAdd, Nat.zero_add, Nat.reduceMul, Nat.reduceLT, Nat.reduceLeDiff, Int.reduceLT, Int.reduceNeg, Int.reduceLE, appendP, appendAt, letGo, setLoc, locVal, Int.reduceToNat, boxCells, und, TG, SE, SC, ENf, List.getElem?_concat_length, List.getElem?_cons_zero, List.getElem?_cons_succ, List.take_nil, unP, hen, htu, hky, hcs, loadR, loadP, storeR, storeK, storeCellsP, laid, lay, setBox, ss1, extP, List.set_cons_zero, List.set_cons_succ, List.length_cons, List.length_nil, Nat.le_refl, Option.map_some, List.take_succ_cons, List.take_zero, List.drop_succ_cons, List.drop_zero, List.drop_nil, List.filter_nil, List.nil_append, List.cons_append, Int.reduceBEq, Int.reduceBNe, Int.reduceGT, Int.reduceGE, Bool.not_true, Bool.not_false, e0, e3, e4, e6, hi, hi0', hi1, hx, hln, hw1, heq, eqgK, p1, p4, p5]
        exact ⟨_, rfl, by simp (maxSteps := 5000000) only [SA, SB, SD, R, guardAt, binP, intP, indexAddrP, elemsOf, readCells, lenP, lenAt, resultsP, resultP, oneOr, reduceCtorEq, reduceIte, Nat.reduceEqDiff, Nat.reduceAdd, Nat.zero_add, Nat.reduceMul, Nat.reduceLT, Nat.reduceLeDiff, Int.reduceLT, Int.reduceNeg, Int.reduceLE, appendP, appendAt, letGo, setLoc, locVal, Int.reduceToNat, boxCells, und, e4], by simp (maxSteps := 5000000) only [SA, SB, SD, R, guardAt, binP, intP, indexAddrP, elemsOf, readCells, lenP, lenAt, resultsP, resultP, oneOr, reduceCtorEq, reduceIte, Nat.reduceEqDiff, Nat.reduceAdd, Nat.zero_add, Nat.reduceMul, Nat.reduceLT, Nat.reduceLeDiff, Int.reduceLT, Int.reduceNeg, Int.reduceLE, appendP, appendAt, letGo, setLoc, locVal, Int.reduceToNat, boxCells, und]⟩
      have p5 : (xk == 5) = false := by simpa using k5
      rw [p1, p4, p5, if_neg (by simp)]
      unfold Kb Eb kyV enV at key ⊢
      simp only [SA] at key ⊢
      obtain ⟨ev, eo, so, co, ⟨hev, hco⟩, R⟩ := RULES CC; rw [← hev]
      rw [← hev] at key
      simp only [fpart, part', Tryd.f13, Option.getD]
      simp (maxSteps := 5000000) only [SA, SB, SD, R, guardAt, binP, intP, indexAddrP, elemsOf, readCells, lenP, lenAt, resultsP, resultP, oneOr, reduceCtorEq, reduceIte, Nat.reduceEqDiff, Nat.reduceAdd, Nat.zero_add, Nat.reduceMul, Nat.reduceLT, Nat.reduceLeDiff, Int.reduceLT, Int.reduceNeg, Int.reduceLE, appendP, appendAt, letGo, setLoc, locVal, Int.reduceToNat, boxCells, und, TG, SE, SC, ENf, List.getElem?_concat_length, List.getElem?_cons_zero, List.getElem?_cons_succ, List.take_nil, unP, hen, htu, hky, hcs, loadR, loadP, storeR, storeK, storeCellsP, laid, lay, setBox, ss1, extP, List.set_cons_zero, List.set_cons_succ, List.length_cons, List.length_nil, Nat.le_refl, Option.map_some, List.take_succ_cons, List.take_zero, List.drop_succ_cons, List.drop_zero, List.drop_nil, List.filter_nil, List.nil_append, List.cons_append, Int.reduceBEq, Int.reduceBNe, Int.reduceGT, Int.reduceGE, Bool.not_true, Bool.not_false, e0, e3, e4, e6, hi, hi0', hi1, hx, hln, hw1, heq, eqgK, p1, p4, p5]
      refine key _ ?_ ?_ ?_ ?_
      all_goals simp (maxSteps := 5000000) only [SA, SB, SD, R, guardAt, binP, intP, indexAddrP, elemsOf, readCells, lenP, lenAt, resultsP, resultP, oneOr, reduceCtorEq, reduceIte, Nat.reduceEqDiff, Nat.reduceAdd, Nat.zero_add, Nat.reduceMul, Nat.reduceLT, Nat.reduceLeDiff, Int.reduceLT, Int.reduceNeg, Int.reduceLE, appendP, appendAt, letGo, setLoc, locVal, Int.reduceToNat, boxCells, und, e0, e3, e4, e6]
def lsE (l : List En) (k : Ky) : En := (lsN l k l.length).getD enZ
def lsO (l : List En) (k : Ky) : Bool := (lsN l k l.length).isSome
theorem kyV_pure (k : Ky) : (kyV k).pure = true := rfl
theorem enV_pure (e : En) : (enV e).pure = true := rfl
theorem call_why_Last (l : List En) (hl : l.length ≤ maxLen) (k : Ky) : ∃ bx, callL CC 12 [.sl (ens l), kyV k] [] = some (.ret (.tup [enV (lsE l k), .bool (lsO l k)]), bx) := by
  have hloop := fun e => loop_wls _ rfl l hl k l.length e (Nat.le_refl _)
  have hln := ens_length l
  have hw1 := wrap_i64 (n := (l.length : Int) - 1) ⟨by omega, by simp only [maxLen] at hl; omega⟩
  have hb := buildEn0
  unfold lsE lsO
  generalize lsN l k l.length = r at *
  obtain ⟨tn, hen⟩ := ENs
  obtain ⟨tu, htu⟩ := VLs
  obtain ⟨tk, hky⟩ := KYs
  obtain ⟨tc, hcs⟩ := CSs
  rw [callL_enter (fn := Tryd.f12) (c := Tryd.f12.body.getD .skip) rfl rfl fat_why_Last rfl ok_why_Last (Nat.le_of_ble_eq_true rfl)]
  generalize ens l = xs at *
  unfold kyV
  unfold Kb at hloop
  unfold kyV at hloop
  unfold Eb enV enZ at hloop
  simp only [SA] at hloop
  unfold enV enZ at hb
  simp only at hb
  obtain ⟨ev, eo, so, co, ⟨hev, hco⟩, R⟩ := RULES CC; rw [← hev]
  rw [← hev] at hloop
  simp only [fpart, part', Tryd.f12, Option.getD] at hloop ⊢
  simp (maxSteps := 5000000) only [SA, SB, SD, R, guardAt, binP, intP, indexAddrP, elemsOf, readCells, lenP, lenAt, resultsP, resultP, oneOr, reduceCtorEq, reduceIte, Nat.reduceEqDiff, Nat.reduceAdd, Nat.zero_add, Nat.reduceMul, Nat.reduceLT, Nat.reduceLeDiff, Int.reduceLT, Int.reduceNeg, Int.reduceLE, appendP, appendAt, letGo, setLoc, locVal, Int.reduceToNat, boxCells, und, TG, SE, SC, ENf, List.getElem?_concat_length, List.getElem?_cons_zero, List.getElem?_cons_succ, List.take_nil, unP, hen, htu, hky, hcs, loadR, loadP, storeR, storeK, storeCellsP, laid, lay, setBox, ss1, extP, List.set_cons_zero, List.set_cons_succ, List.length_cons, List.length_nil, Nat.le_refl, Option.map_some, List.take_succ_cons, List.take_zero, List.drop_succ_cons, List.drop_zero, List.drop_nil, List.filter_nil, List.nil_append, List.cons_append, Int.reduceBEq, Int.reduceBNe, Int.reduceGT, Int.reduceGE, Bool.not_true, Bool.not_false, hln, hw1]
  generalize hE : ev (Code.loop _) _ = z
  have hP : PLs k r z := by
    rw [← hE]
    refine hloop _ ?_ ?_ ?_ ?_
    all_goals first | (simp (maxSteps := 5000000) only [SA, SB, SD, R, guardAt, binP, intP, indexAddrP, elemsOf, readCells, lenP, lenAt, resultsP, resultP, oneOr, reduceCtorEq, reduceIte, Nat.reduceEqDiff, Nat.reduceAdd, Nat.zero_add, Nat.reduceMul, Nat.reduceLT, Nat.reduceLeDiff, Int.reduceLT, Int.reduceNeg, Int.reduceLE, appendP, appendAt, letGo, setLoc, locVal, Int.reduceToNat, boxCells, und]; done) | (simp (maxSteps := 5000000) only [SA, SB, SD, R, guardAt, binP, intP, indexAddrP, elemsOf, readCells, lenP, lenAt, resultsP, resultP, oneOr, reduceCtorEq, reduceIte, Nat.reduceEqDiff, Nat.reduceAdd, Nat.zero_add, Nat.reduceMul, Nat.reduceLT, Nat.reduceLeDiff, Int.reduceLT, Int.reduceNeg, Int.reduceLE, appendP, appendAt, letGo, setLoc, locVal, Int.reduceToNat, boxCells, und]; rfl)
  cases r with
  | none =>
    obtain ⟨e', he, q4⟩ := hP
    subst he
    unfold Kb Eb kyV enV enZ
    simp only [SA, Option.isSome_none]
    simp (maxSteps := 5000000) only [SA, SB, SD, R, guardAt, binP, intP, indexAddrP, elemsOf, readCells, lenP, lenAt, resultsP, resultP, oneOr, reduceCtorEq, reduceIte, Nat.reduceEqDiff, Nat.reduceAdd, Nat.zero_add, Nat.reduceMul, Nat.reduceLT, Nat.reduceLeDiff, Int.reduceLT, Int.reduceNeg, Int.reduceLE, appendP, appendAt, letGo, setLoc, locVal, Int.reduceToNat, boxCells, und, TG, SE, SC, ENf, List.getElem?_concat_length, List.getElem?_cons_zero, List.getElem?_cons_succ, List.take_nil, unP, hen, htu, hky, hcs, loadR, loadP, storeR, storeK, storeCellsP, laid, lay, setBox, ss1, extP, List.set_cons_zero, List.set_cons_succ, List.length_cons, List.length_nil, Nat.le_refl, Option.map_some, List.take_succ_cons, List.take_zero, List.drop_succ_cons, List.drop_zero, List.drop_nil, List.filter_nil, List.nil_append, List.cons_append, Int.reduceBEq, Int.reduceBNe, Int.reduceGT, Int.reduceGE, Bool.not_true, Bool.not_false, q4, hb]
    exact ⟨_, rfl⟩
  | some x =>
    obtain ⟨e', he, q4, q5⟩ := hP
    subst he
    obtain ⟨xno, xtk, xk, xkey, xval, xca, xpar⟩ := x
    unfold Kb Eb kyV enV
    simp only [SA, Option.isSome_some]
    simp (maxSteps := 5000000) only [SA, SB, SD, R, guardAt, binP, intP, indexAddrP, elemsOf, readCells, lenP, lenAt, resultsP, resultP, oneOr, reduceCtorEq, reduceIte, Nat.reduceEqDiff, Nat.reduceAdd, Nat.zero_add, Nat.reduceMul, Nat.reduceLT, Nat.reduceLeDiff, Int.reduceLT, Int.reduceNeg, Int.reduceLE, appendP, appendAt, letGo, setLoc, locVal, Int.reduceToNat, boxCells, und, TG, SE, SC, ENf, List.getElem?_concat_length, List.getElem?_cons_zero, List.getElem?_cons_succ, List.take_nil, unP, hen, htu, hky, hcs, loadR, loadP, storeR, storeK, storeCellsP, laid, lay, setBox, ss1, extP, List.set_cons_zero, List.set_cons_succ, List.length_cons, List.length_nil, Nat.le_refl, Option.map_some, List.take_succ_cons, List.take_zero, List.drop_succ_cons, List.drop_zero, List.drop_nil, List.filter_nil, List.nil_append, List.cons_append, Int.reduceBEq, Int.reduceBNe, Int.reduceGT, Int.reduceGE, Bool.not_true, Bool.not_false, q4, q5]
    exact ⟨_, rfl⟩
theorem op_why_Last (l : List En) (hl : l.length ≤ maxLen) (k : Ky) (bx) : callOp CC (callL CC) 12 [.sl (ens l), kyV k] bx = some (.ret (.tup [enV (lsE l k), .bool (lsO l k)]), bx) := by
  obtain ⟨b, h⟩ := call_why_Last l hl k
  exact callOp_of rfl (by simp only [pureL, PV.pure, ens_pure, kyV_pure, Bool.and_self]) h rfl
theorem call_R56_Last (l : List En) (hl : l.length ≤ maxLen) (k : Ky) : ∃ bx, callL CC 13 [.sl (ens l), kyV k] [] = some (.ret (.tup [enV (lsE l k), .bool (lsO l k)]), bx) := by
  have hloop := fun e => loop_rls _ rfl l hl k l.length e (Nat.le_refl _)
  have hln := ens_length l
  have hw1 := wrap_i64 (n := (l.length : Int) - 1) ⟨by omega, by simp only [maxLen] at hl; omega⟩
  have hb := buildEn0
  unfold lsE lsO
  generalize lsN l k l.length = r at *
  obtain ⟨tn, hen⟩ := ENs
  obtain ⟨tu, htu⟩ := VLs
  obtain ⟨tk, hky⟩ := KYs
  obtain ⟨tc, hcs⟩ := CSs
  rw [callL_enter (fn := Tryd.f13) (c := Tryd.f13.body.getD .skip) rfl rfl fat_R56_Last rfl ok_R56_Last (Nat.le_of_ble_eq_true rfl)]
  generalize ens l = xs at *
  unfold kyV
  unfold Kb at hloop
  unfold kyV at hloop
  unfold Eb enV enZ at hloop
  simp only [SA] at hloop
  unfold enV enZ at hb
  simp only at hb
  obtain ⟨ev, eo, so, co, ⟨hev, hco⟩, R⟩ := RULES CC; rw [← hev]
  rw [← hev] at hloop
  simp only [fpart, part', Tryd.f13, Option.getD] at hloop ⊢
  simp (maxSteps := 5000000) only [SA, SB, SD, R, guardAt, binP, intP, indexAddrP, elemsOf, readCells, lenP, lenAt, resultsP, resultP, oneOr, reduceCtorEq, reduceIte, Nat.reduceEqDiff, Nat.reduceAdd, Nat.zero_add, Nat.reduceMul, Nat.reduceLT, Nat.reduceLeDiff, Int.reduceLT, Int.reduceNeg, Int.reduceLE, appendP, appendAt, letGo, setLoc, locVal, Int.reduceToNat, boxCells, und, TG, SE, SC, ENf, List.getElem?_concat_length, List.getElem?_cons_zero, List.getElem?_cons_succ, List.take_nil, unP, hen, htu, hky, hcs, loadR, loadP, storeR, storeK, storeCellsP, laid, lay, setBox, ss1, extP, List.set_cons_zero, List.set_cons_succ, List.length_cons, List.length_nil, Nat.le_refl, Option.map_some, List.take_succ_cons, List.take_zero, List.drop_succ_cons, List.drop_zero, List.drop_nil, List.filter_nil, List.nil_append, List.cons_append, Int.reduceBEq, Int.reduceBNe, Int.reduceGT, Int.reduceGE, Bool.not_true, Bool.not_false, hln, hw1]
  generalize hE : ev (Code.loop _) _ = z
  have hP : PLs k r z := by
    rw [← hE]
    refine hloop _ ?_ ?_ ?_ ?_
    all_goals first | (simp (maxSteps := 5000000) only [SA, SB, SD, R, guardAt, binP, intP, indexAddrP, elemsOf, readCells, lenP, lenAt, resultsP, resultP, oneOr, reduceCtorEq, reduceIte, Nat.reduceEqDiff, Nat.reduceAdd, Nat.zero_add, Nat.reduceMul, Nat.reduceLT, Nat.reduceLeDiff, Int.reduceLT, Int.reduceNeg, Int.reduceLE, appendP, appendAt, letGo, setLoc, locVal, Int.reduceToNat, boxCells, und]; done) | (simp (maxSteps := 5000000) only [SA, SB, SD, R, guardAt, binP, intP, indexAddrP, elemsOf, readCells, lenP, lenAt, resultsP, resultP, oneOr, reduceCtorEq, reduceIte, Nat.reduceEqDiff, Nat.reduceAdd, Nat.zero_add, Nat.reduceMul, Nat.reduceLT, Nat.reduceLeDiff, Int.reduceLT, Int.reduceNeg, Int.reduceLE, appendP, appendAt, letGo, setLoc, locVal, Int.reduceToNat, boxCells, und]; rfl)
  cases r with
  | none =>
    obtain ⟨e', he, q4⟩ := hP
    subst he
    unfold Kb Eb kyV enV enZ
    simp only [SA, Option.isSome_none]
    simp (maxSteps := 5000000) only [SA, SB, SD, R, guardAt, binP, intP, indexAddrP, elemsOf, readCells, lenP, lenAt, resultsP, resultP, oneOr, reduceCtorEq, reduceIte, Nat.reduceEqDiff, Nat.reduceAdd, Nat.zero_add, Nat.reduceMul, Nat.reduceLT, Nat.reduceLeDiff, Int.reduceLT, Int.reduceNeg, Int.reduceLE, appendP, appendAt, letGo, setLoc, locVal, Int.reduceToNat, boxCells, und, TG, SE, SC, ENf, List.getElem?_concat_length, List.getElem?_cons_zero, List.getElem?_cons_succ, List.take_nil, unP, hen, htu, hky, hcs, loadR, loadP, storeR, storeK, storeCellsP, laid, lay, setBox, ss1, extP, List.set_cons_zero, List.set_cons_succ, List.length_cons, List.length_nil, Nat.le_refl, Option.map_some, List.take_succ_cons, List.take_zero, List.drop_succ_cons, List.drop_zero, List.drop_nil, List.filter_nil, List.nil_append, List.cons_append, Int.reduceBEq, Int.reduceBNe, Int.reduceGT, Int.reduceGE, Bool.not_true, Bool.not_false, q4, hb]
    exact ⟨_, rfl⟩
  | some x =>
    obtain ⟨e', he, q4, q5⟩ := hP
    subst he
    obtain ⟨xno, xtk, xk, xkey, xval, xca, xpar⟩ := x
    unfold Kb Eb kyV enV
    simp only [SA, Option.isSome_some]
    simp (maxSteps := 5000000) only [SA, SB, SD, R, guardAt, binP, intP, indexAddrP, elemsOf, readCells, lenP, lenAt, resultsP, resultP, oneOr, reduceCtorEq, reduceIte, Nat.reduceEqDiff, Nat.reduceAdd, Nat.zero_add, Nat.reduceMul, Nat.reduceLT, Nat.reduceLeDiff, Int.reduceLT, Int.reduceNeg, Int.reduceLE, appendP, appendAt, letGo, setLoc, locVal, Int.reduceToNat, boxCells, und, TG, SE, SC, ENf, List.getElem?_concat_length, List.getElem?_cons_zero, List.getElem?_cons_succ, List.take_nil, unP, hen, htu, hky, hcs, loadR, loadP, storeR, storeK, storeCellsP, laid, lay, setBox, ss1, extP, List.set_cons_zero, List.set_cons_succ, List.length_cons, List.length_nil, Nat.le_refl, Option.map_some, List.take_succ_cons, List.take_zero, List.drop_succ_cons, List.drop_zero, List.drop_nil, List.filter_nil, List.nil_append, List.cons_append, Int.reduceBEq, Int.reduceBNe, Int.reduceGT, Int.reduceGE, Bool.not_true, Bool.not_false, q4, q5]
    exact ⟨_, rfl⟩
theorem op_R56_Last (l : List En) (hl : l.length ≤ maxLen) (k : Ky) (bx) : callOp CC (callL CC) 13 [.sl (ens l), kyV k] bx = some (.ret (.tup [enV (lsE l k), .bool (lsO l k)]), bx) := by
  obtain ⟨b, h⟩ := call_R56_Last l hl k
  exact callOp_of rfl (by simp only [pureL, PV.pure, ens_pure, kyV_pure, Bool.and_self]) h rfl
end Go.HH
