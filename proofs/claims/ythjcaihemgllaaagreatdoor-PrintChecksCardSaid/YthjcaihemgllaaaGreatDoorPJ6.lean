/-
  Joined: E18, E19, P1, P2, E20.
-/
import Derived.Test.YthjcaihemgllaaaGreatDoorPJ5
import Derived.Test.YthjcaihemgllaaaGreatDoorPJ3
import Derived.Test.YthjcaihemgllaaaGreatDoorPJ4
namespace Go.HH
open Go Go.Proofs
set_option maxRecDepth 100000
set_option linter.unusedSimpArgs false
set_option linter.unusedVariables false
set_option maxHeartbeats 4000000
theorem ok_print_trigger : fnOK CC Tryz.f30 (Tryz.f30.body.getD .skip) = true := by kernel_rfl
theorem fat_print_trigger : CC.P.funcs[30]? = some Tryz.f30 := by kernel_rfl
theorem call_print_trigger (hS : ∀ t : Tg, ∀ bx, callOp CC (callL CC) 57 [tgV t] bx = some (.ret (.bool (!(tsT t))), bx)) (t : Tg) (hp : plTg t = true) : ∃ bx, callL CC 30 [tgV t] [] = some (.ret (.int .i64 (tgE t)), bx) := by
  have hl := plTg_len hp
  have osp := hS t
  clear hS
  unfold tgE
  obtain ⟨k, key, ev, nm, n, m⟩ := t
  obtain ⟨d, c, a⟩ := key
  obtain ⟨d', c', a'⟩ := ev
  obtain ⟨l1, l2, l3, l4, l5⟩ := hl
  simp only at l1 l2 l3 l4 l5
  have on1 := op_print_named d c a (by omega) (by omega)
  have on2 := op_print_named d' c' a' (by omega) (by omega)
  have v5 := op_names_Valid nm (by omega)
  have hn : strP .neq nm [] = some (.bool (!(nm == []))) := rfl
  obtain ⟨ne, hne⟩ : ∃ b, b = (nm == []) := ⟨_, rfl⟩
  have hne' : nm = [] ↔ ne = true := by rw [hne]; simp
  rw [← hne] at hn
  unfold tgV at osp ⊢
  simp only at osp ⊢
  generalize tsT ⟨k, (d, c, a), (d', c', a'), nm, n, m⟩ = ts at *
  rw [callL_enter (fn := Tryz.f30) (c := Tryz.f30.body.getD .skip) rfl rfl fat_print_trigger rfl ok_print_trigger (Nat.le_of_ble_eq_true rfl)]
  obtain ⟨tu, htu⟩ := VLs
  obtain ⟨tr, htr⟩ := TRs
  obtain ⟨tk, hky⟩ := KYs
  obtain ⟨te, hev1⟩ := EVs
  obtain ⟨tg, htg⟩ := TG_s
  obtain ⟨tp, hsp⟩ := SPs
  obtain ⟨tl, hrl⟩ := RLs
  generalize nmE d c a = q1 at *
  generalize nmE d' c' a' = q2 at *
  generalize valB nm = p5 at *
  by_cases c1 : k < 1
  · rw [if_pos (by omega)]
    obtain ⟨ev, eo, so, co, ⟨hev, hco⟩, R⟩ := RULES CC; rw [← hev]
    rw [← hco] at osp on1 on2 v5
    simp only [fpart, part', Tryz.f30, Option.getD]
    simp (maxSteps := 5000000) only [SA, SB, SD, R, guardAt, binP, intP, indexAddrP, elemsOf, readCells, lenP, lenAt, resultsP, resultP, oneOr, reduceCtorEq, reduceIte, Nat.reduceEqDiff, Nat.reduceAdd, Nat.zero_add, Nat.reduceMul, Nat.reduceLT, Nat.reduceLeDiff, Int.reduceLT, Int.reduceNeg, Int.reduceLE, appendP, appendAt, letGo, setLoc, locVal, Int.reduceToNat, boxCells, und, TG, SE, SC, List.getElem?_cons_zero, List.getElem?_cons_succ, unP, htu, htr, hky, hev1, htg, hsp, hrl, loadR, loadP, lay, List.take_succ_cons, List.take_zero, List.drop_nil, List.filter_nil, List.cons_append, Int.reduceBEq, Int.reduceBNe, Int.reduceGT, Int.reduceLT, Int.reduceGE, Bool.not_true, Bool.not_false, osp, on1, on2, v5, hn, c1]
    exact ⟨_, rfl⟩
  by_cases c2 : k > 6
  · rw [if_pos (by omega)]
    obtain ⟨ev, eo, so, co, ⟨hev, hco⟩, R⟩ := RULES CC; rw [← hev]
    rw [← hco] at osp on1 on2 v5
    simp only [fpart, part', Tryz.f30, Option.getD]
    simp (maxSteps := 5000000) only [SA, SB, SD, R, guardAt, binP, intP, indexAddrP, elemsOf, readCells, lenP, lenAt, resultsP, resultP, oneOr, reduceCtorEq, reduceIte, Nat.reduceEqDiff, Nat.reduceAdd, Nat.zero_add, Nat.reduceMul, Nat.reduceLT, Nat.reduceLeDiff, Int.reduceLT, Int.reduceNeg, Int.reduceLE, appendP, appendAt, letGo, setLoc, locVal, Int.reduceToNat, boxCells, und, TG, SE, SC, List.getElem?_cons_zero, List.getElem?_cons_succ, unP, htu, htr, hky, hev1, htg, hsp, hrl, loadR, loadP, lay, List.take_succ_cons, List.take_zero, List.drop_nil, List.filter_nil, List.cons_append, Int.reduceBEq, Int.reduceBNe, Int.reduceGT, Int.reduceLT, Int.reduceGE, Bool.not_true, Bool.not_false, osp, on1, on2, v5, hn, c1, c2]
    exact ⟨_, rfl⟩
  cases ts with
  | true =>
    rw [if_neg (by omega), if_pos rfl]
    obtain ⟨ev, eo, so, co, ⟨hev, hco⟩, R⟩ := RULES CC; rw [← hev]
    rw [← hco] at osp on1 on2 v5
    simp only [fpart, part', Tryz.f30, Option.getD]
    simp (maxSteps := 5000000) only [SA, SB, SD, R, guardAt, binP, intP, indexAddrP, elemsOf, readCells, lenP, lenAt, resultsP, resultP, oneOr, reduceCtorEq, reduceIte, Nat.reduceEqDiff, Nat.reduceAdd, Nat.zero_add, Nat.reduceMul, Nat.reduceLT, Nat.reduceLeDiff, Int.reduceLT, Int.reduceNeg, Int.reduceLE, appendP, appendAt, letGo, setLoc, locVal, Int.reduceToNat, boxCells, und, TG, SE, SC, List.getElem?_cons_zero, List.getElem?_cons_succ, unP, htu, htr, hky, hev1, htg, hsp, hrl, loadR, loadP, lay, List.take_succ_cons, List.take_zero, List.drop_nil, List.filter_nil, List.cons_append, Int.reduceBEq, Int.reduceBNe, Int.reduceGT, Int.reduceLT, Int.reduceGE, Bool.not_true, Bool.not_false, osp, on1, on2, v5, hn, c1, c2]
    exact ⟨_, rfl⟩
  | false =>
    by_cases k1 : k = 1
    · subst k1
      rw [if_neg (by omega), if_neg (by simp), if_pos rfl]
      obtain ⟨ev, eo, so, co, ⟨hev, hco⟩, R⟩ := RULES CC; rw [← hev]
      rw [← hco] at osp on1 on2 v5
      simp only [fpart, part', Tryz.f30, Option.getD]
      simp (maxSteps := 5000000) only [SA, SB, SD, R, guardAt, binP, intP, indexAddrP, elemsOf, readCells, lenP, lenAt, resultsP, resultP, oneOr, reduceCtorEq, reduceIte, Nat.reduceEqDiff, Nat.reduceAdd, Nat.zero_add, Nat.reduceMul, Nat.reduceLT, Nat.reduceLeDiff, Int.reduceLT, Int.reduceNeg, Int.reduceLE, appendP, appendAt, letGo, setLoc, locVal, Int.reduceToNat, boxCells, und, TG, SE, SC, List.getElem?_cons_zero, List.getElem?_cons_succ, unP, htu, htr, hky, hev1, htg, hsp, hrl, loadR, loadP, lay, List.take_succ_cons, List.take_zero, List.drop_nil, List.filter_nil, List.cons_append, Int.reduceBEq, Int.reduceBNe, Int.reduceGT, Int.reduceLT, Int.reduceGE, Bool.not_true, Bool.not_false, osp, on1, on2, v5, hn, c1, c2]
      exact ⟨_, rfl⟩
    by_cases k2 : k = 2
    · subst k2
      rw [if_neg (by omega), if_neg (by simp), if_neg (by omega), if_pos rfl]
      obtain ⟨ev, eo, so, co, ⟨hev, hco⟩, R⟩ := RULES CC; rw [← hev]
      rw [← hco] at osp on1 on2 v5
      simp only [fpart, part', Tryz.f30, Option.getD]
      simp (maxSteps := 5000000) only [SA, SB, SD, R, guardAt, binP, intP, indexAddrP, elemsOf, readCells, lenP, lenAt, resultsP, resultP, oneOr, reduceCtorEq, reduceIte, Nat.reduceEqDiff, Nat.reduceAdd, Nat.zero_add, Nat.reduceMul, Nat.reduceLT, Nat.reduceLeDiff, Int.reduceLT, Int.reduceNeg, Int.reduceLE, appendP, appendAt, letGo, setLoc, locVal, Int.reduceToNat, boxCells, und, TG, SE, SC, List.getElem?_cons_zero, List.getElem?_cons_succ, unP, htu, htr, hky, hev1, htg, hsp, hrl, loadR, loadP, lay, List.take_succ_cons, List.take_zero, List.drop_nil, List.filter_nil, List.cons_append, Int.reduceBEq, Int.reduceBNe, Int.reduceGT, Int.reduceLT, Int.reduceGE, Bool.not_true, Bool.not_false, osp, on1, on2, v5, hn, c1, c2]
      exact ⟨_, rfl⟩
    by_cases k3 : k = 3
    · subst k3
      by_cases e0 : n < 0
      · rw [if_neg (by omega), if_neg (by simp), if_neg (by omega), if_neg (by omega), if_pos rfl, if_neg (by omega)]
        obtain ⟨ev, eo, so, co, ⟨hev, hco⟩, R⟩ := RULES CC; rw [← hev]
        rw [← hco] at osp on1 on2 v5
        simp only [fpart, part', Tryz.f30, Option.getD]
        simp (maxSteps := 5000000) only [SA, SB, SD, R, guardAt, binP, intP, indexAddrP, elemsOf, readCells, lenP, lenAt, resultsP, resultP, oneOr, reduceCtorEq, reduceIte, Nat.reduceEqDiff, Nat.reduceAdd, Nat.zero_add, Nat.reduceMul, Nat.reduceLT, Nat.reduceLeDiff, Int.reduceLT, Int.reduceNeg, Int.reduceLE, appendP, appendAt, letGo, setLoc, locVal, Int.reduceToNat, boxCells, und, TG, SE, SC, List.getElem?_cons_zero, List.getElem?_cons_succ, unP, htu, htr, hky, hev1, htg, hsp, hrl, loadR, loadP, lay, List.take_succ_cons, List.take_zero, List.drop_nil, List.filter_nil, List.cons_append, Int.reduceBEq, Int.reduceBNe, Int.reduceGT, Int.reduceLT, Int.reduceGE, Bool.not_true, Bool.not_false, osp, on1, on2, v5, hn, c1, c2, e0]
        exact ⟨_, rfl⟩
      by_cases e1 : n ≥ 1440
      · rw [if_neg (by omega), if_neg (by simp), if_neg (by omega), if_neg (by omega), if_pos rfl, if_neg (by omega)]
        obtain ⟨ev, eo, so, co, ⟨hev, hco⟩, R⟩ := RULES CC; rw [← hev]
        rw [← hco] at osp on1 on2 v5
        simp only [fpart, part', Tryz.f30, Option.getD]
        simp (maxSteps := 5000000) only [SA, SB, SD, R, guardAt, binP, intP, indexAddrP, elemsOf, readCells, lenP, lenAt, resultsP, resultP, oneOr, reduceCtorEq, reduceIte, Nat.reduceEqDiff, Nat.reduceAdd, Nat.zero_add, Nat.reduceMul, Nat.reduceLT, Nat.reduceLeDiff, Int.reduceLT, Int.reduceNeg, Int.reduceLE, appendP, appendAt, letGo, setLoc, locVal, Int.reduceToNat, boxCells, und, TG, SE, SC, List.getElem?_cons_zero, List.getElem?_cons_succ, unP, htu, htr, hky, hev1, htg, hsp, hrl, loadR, loadP, lay, List.take_succ_cons, List.take_zero, List.drop_nil, List.filter_nil, List.cons_append, Int.reduceBEq, Int.reduceBNe, Int.reduceGT, Int.reduceLT, Int.reduceGE, Bool.not_true, Bool.not_false, osp, on1, on2, v5, hn, c1, c2, e0, e1]
        exact ⟨_, rfl⟩
      by_cases e2 : m < 1
      · rw [if_neg (by omega), if_neg (by simp), if_neg (by omega), if_neg (by omega), if_pos rfl, if_neg (by omega)]
        obtain ⟨ev, eo, so, co, ⟨hev, hco⟩, R⟩ := RULES CC; rw [← hev]
        rw [← hco] at osp on1 on2 v5
        simp only [fpart, part', Tryz.f30, Option.getD]
        simp (maxSteps := 5000000) only [SA, SB, SD, R, guardAt, binP, intP, indexAddrP, elemsOf, readCells, lenP, lenAt, resultsP, resultP, oneOr, reduceCtorEq, reduceIte, Nat.reduceEqDiff, Nat.reduceAdd, Nat.zero_add, Nat.reduceMul, Nat.reduceLT, Nat.reduceLeDiff, Int.reduceLT, Int.reduceNeg, Int.reduceLE, appendP, appendAt, letGo, setLoc, locVal, Int.reduceToNat, boxCells, und, TG, SE, SC, List.getElem?_cons_zero, List.getElem?_cons_succ, unP, htu, htr, hky, hev1, htg, hsp, hrl, loadR, loadP, lay, List.take_succ_cons, List.take_zero, List.drop_nil, List.filter_nil, List.cons_append, Int.reduceBEq, Int.reduceBNe, Int.reduceGT, Int.reduceLT, Int.reduceGE, Bool.not_true, Bool.not_false, osp, on1, on2, v5, hn, c1, c2, e0, e1, e2]
        exact ⟨_, rfl⟩
      by_cases e3 : m > 127
      · rw [if_neg (by omega), if_neg (by simp), if_neg (by omega), if_neg (by omega), if_pos rfl, if_neg (by omega)]
        obtain ⟨ev, eo, so, co, ⟨hev, hco⟩, R⟩ := RULES CC; rw [← hev]
        rw [← hco] at osp on1 on2 v5
        simp only [fpart, part', Tryz.f30, Option.getD]
        simp (maxSteps := 5000000) only [SA, SB, SD, R, guardAt, binP, intP, indexAddrP, elemsOf, readCells, lenP, lenAt, resultsP, resultP, oneOr, reduceCtorEq, reduceIte, Nat.reduceEqDiff, Nat.reduceAdd, Nat.zero_add, Nat.reduceMul, Nat.reduceLT, Nat.reduceLeDiff, Int.reduceLT, Int.reduceNeg, Int.reduceLE, appendP, appendAt, letGo, setLoc, locVal, Int.reduceToNat, boxCells, und, TG, SE, SC, List.getElem?_cons_zero, List.getElem?_cons_succ, unP, htu, htr, hky, hev1, htg, hsp, hrl, loadR, loadP, lay, List.take_succ_cons, List.take_zero, List.drop_nil, List.filter_nil, List.cons_append, Int.reduceBEq, Int.reduceBNe, Int.reduceGT, Int.reduceLT, Int.reduceGE, Bool.not_true, Bool.not_false, osp, on1, on2, v5, hn, c1, c2, e0, e1, e2, e3]
        exact ⟨_, rfl⟩
      rw [if_neg (by omega), if_neg (by simp), if_neg (by omega), if_neg (by omega), if_pos rfl, if_pos (by omega)]
      obtain ⟨ev, eo, so, co, ⟨hev, hco⟩, R⟩ := RULES CC; rw [← hev]
      rw [← hco] at osp on1 on2 v5
      simp only [fpart, part', Tryz.f30, Option.getD]
      simp (maxSteps := 5000000) only [SA, SB, SD, R, guardAt, binP, intP, indexAddrP, elemsOf, readCells, lenP, lenAt, resultsP, resultP, oneOr, reduceCtorEq, reduceIte, Nat.reduceEqDiff, Nat.reduceAdd, Nat.zero_add, Nat.reduceMul, Nat.reduceLT, Nat.reduceLeDiff, Int.reduceLT, Int.reduceNeg, Int.reduceLE, appendP, appendAt, letGo, setLoc, locVal, Int.reduceToNat, boxCells, und, TG, SE, SC, List.getElem?_cons_zero, List.getElem?_cons_succ, unP, htu, htr, hky, hev1, htg, hsp, hrl, loadR, loadP, lay, List.take_succ_cons, List.take_zero, List.drop_nil, List.filter_nil, List.cons_append, Int.reduceBEq, Int.reduceBNe, Int.reduceGT, Int.reduceLT, Int.reduceGE, Bool.not_true, Bool.not_false, osp, on1, on2, v5, hn, c1, c2, e0, e1, e2, e3]
      exact ⟨_, rfl⟩
    by_cases k4 : k = 4
    · subst k4
      cases ne with
      | true =>
        rw [if_neg (by omega), if_neg (by simp), if_neg (by omega), if_neg (by omega), if_neg (by omega), if_pos rfl, if_pos (.inl (hne'.2 rfl))]
        obtain ⟨ev, eo, so, co, ⟨hev, hco⟩, R⟩ := RULES CC; rw [← hev]
        rw [← hco] at osp on1 on2 v5
        simp only [fpart, part', Tryz.f30, Option.getD]
        simp (maxSteps := 5000000) only [SA, SB, SD, R, guardAt, binP, intP, indexAddrP, elemsOf, readCells, lenP, lenAt, resultsP, resultP, oneOr, reduceCtorEq, reduceIte, Nat.reduceEqDiff, Nat.reduceAdd, Nat.zero_add, Nat.reduceMul, Nat.reduceLT, Nat.reduceLeDiff, Int.reduceLT, Int.reduceNeg, Int.reduceLE, appendP, appendAt, letGo, setLoc, locVal, Int.reduceToNat, boxCells, und, TG, SE, SC, List.getElem?_cons_zero, List.getElem?_cons_succ, unP, htu, htr, hky, hev1, htg, hsp, hrl, loadR, loadP, lay, List.take_succ_cons, List.take_zero, List.drop_nil, List.filter_nil, List.cons_append, Int.reduceBEq, Int.reduceBNe, Int.reduceGT, Int.reduceLT, Int.reduceGE, Bool.not_true, Bool.not_false, osp, on1, on2, v5, hn, c1, c2]
        exact ⟨_, rfl⟩
      | false =>
        cases p5 with
        | true =>
          rw [if_neg (by omega), if_neg (by simp), if_neg (by omega), if_neg (by omega), if_neg (by omega), if_pos rfl, if_pos (.inr rfl)]
          obtain ⟨ev, eo, so, co, ⟨hev, hco⟩, R⟩ := RULES CC; rw [← hev]
          rw [← hco] at osp on1 on2 v5
          simp only [fpart, part', Tryz.f30, Option.getD]
          simp (maxSteps := 5000000) only [SA, SB, SD, R, guardAt, binP, intP, indexAddrP, elemsOf, readCells, lenP, lenAt, resultsP, resultP, oneOr, reduceCtorEq, reduceIte, Nat.reduceEqDiff, Nat.reduceAdd, Nat.zero_add, Nat.reduceMul, Nat.reduceLT, Nat.reduceLeDiff, Int.reduceLT, Int.reduceNeg, Int.reduceLE, appendP, appendAt, letGo, setLoc, locVal, Int.reduceToNat, boxCells, und, TG, SE, SC, List.getElem?_cons_zero, List.getElem?_cons_succ, unP, htu, htr, hky, hev1, htg, hsp, hrl, loadR, loadP, lay, List.take_succ_cons, List.take_zero, List.drop_nil, List.filter_nil, List.cons_append, Int.reduceBEq, Int.reduceBNe, Int.reduceGT, Int.reduceLT, Int.reduceGE, Bool.not_true, Bool.not_false, osp, on1, on2, v5, hn, c1, c2]
          exact ⟨_, rfl⟩
        | false =>
          rw [if_neg (by omega), if_neg (by simp), if_neg (by omega), if_neg (by omega), if_neg (by omega), if_pos rfl, if_neg (by rw [hne']; simp)]
          obtain ⟨ev, eo, so, co, ⟨hev, hco⟩, R⟩ := RULES CC; rw [← hev]
          rw [← hco] at osp on1 on2 v5
          simp only [fpart, part', Tryz.f30, Option.getD]
          simp (maxSteps := 5000000) only [SA, SB, SD, R, guardAt, binP, intP, indexAddrP, elemsOf, readCells, lenP, lenAt, resultsP, resultP, oneOr, reduceCtorEq, reduceIte, Nat.reduceEqDiff, Nat.reduceAdd, Nat.zero_add, Nat.reduceMul, Nat.reduceLT, Nat.reduceLeDiff, Int.reduceLT, Int.reduceNeg, Int.reduceLE, appendP, appendAt, letGo, setLoc, locVal, Int.reduceToNat, boxCells, und, TG, SE, SC, List.getElem?_cons_zero, List.getElem?_cons_succ, unP, htu, htr, hky, hev1, htg, hsp, hrl, loadR, loadP, lay, List.take_succ_cons, List.take_zero, List.drop_nil, List.filter_nil, List.cons_append, Int.reduceBEq, Int.reduceBNe, Int.reduceGT, Int.reduceLT, Int.reduceGE, Bool.not_true, Bool.not_false, osp, on1, on2, v5, hn, c1, c2]
          exact ⟨_, rfl⟩
    by_cases k6 : k = 6
    · subst k6
      by_cases e0 : n < 0
      · rw [if_neg (by omega), if_neg (by simp), if_neg (by omega), if_neg (by omega), if_neg (by omega), if_neg (by omega), if_pos rfl, if_neg (by omega)]
        obtain ⟨ev, eo, so, co, ⟨hev, hco⟩, R⟩ := RULES CC; rw [← hev]
        rw [← hco] at osp on1 on2 v5
        simp only [fpart, part', Tryz.f30, Option.getD]
        simp (maxSteps := 5000000) only [SA, SB, SD, R, guardAt, binP, intP, indexAddrP, elemsOf, readCells, lenP, lenAt, resultsP, resultP, oneOr, reduceCtorEq, reduceIte, Nat.reduceEqDiff, Nat.reduceAdd, Nat.zero_add, Nat.reduceMul, Nat.reduceLT, Nat.reduceLeDiff, Int.reduceLT, Int.reduceNeg, Int.reduceLE, appendP, appendAt, letGo, setLoc, locVal, Int.reduceToNat, boxCells, und, TG, SE, SC, List.getElem?_cons_zero, List.getElem?_cons_succ, unP, htu, htr, hky, hev1, htg, hsp, hrl, loadR, loadP, lay, List.take_succ_cons, List.take_zero, List.drop_nil, List.filter_nil, List.cons_append, Int.reduceBEq, Int.reduceBNe, Int.reduceGT, Int.reduceLT, Int.reduceGE, Bool.not_true, Bool.not_false, osp, on1, on2, v5, hn, c1, c2, e0]
        exact ⟨_, rfl⟩
      by_cases e1 : n > 1099511627776
      · rw [if_neg (by omega), if_neg (by simp), if_neg (by omega), if_neg (by omega), if_neg (by omega), if_neg (by omega), if_pos rfl, if_neg (by omega)]
        obtain ⟨ev, eo, so, co, ⟨hev, hco⟩, R⟩ := RULES CC; rw [← hev]
        rw [← hco] at osp on1 on2 v5
        simp only [fpart, part', Tryz.f30, Option.getD]
        simp (maxSteps := 5000000) only [SA, SB, SD, R, guardAt, binP, intP, indexAddrP, elemsOf, readCells, lenP, lenAt, resultsP, resultP, oneOr, reduceCtorEq, reduceIte, Nat.reduceEqDiff, Nat.reduceAdd, Nat.zero_add, Nat.reduceMul, Nat.reduceLT, Nat.reduceLeDiff, Int.reduceLT, Int.reduceNeg, Int.reduceLE, appendP, appendAt, letGo, setLoc, locVal, Int.reduceToNat, boxCells, und, TG, SE, SC, List.getElem?_cons_zero, List.getElem?_cons_succ, unP, htu, htr, hky, hev1, htg, hsp, hrl, loadR, loadP, lay, List.take_succ_cons, List.take_zero, List.drop_nil, List.filter_nil, List.cons_append, Int.reduceBEq, Int.reduceBNe, Int.reduceGT, Int.reduceLT, Int.reduceGE, Bool.not_true, Bool.not_false, osp, on1, on2, v5, hn, c1, c2, e0, e1]
        exact ⟨_, rfl⟩
      rw [if_neg (by omega), if_neg (by simp), if_neg (by omega), if_neg (by omega), if_neg (by omega), if_neg (by omega), if_pos rfl, if_pos (by omega)]
      obtain ⟨ev, eo, so, co, ⟨hev, hco⟩, R⟩ := RULES CC; rw [← hev]
      rw [← hco] at osp on1 on2 v5
      simp only [fpart, part', Tryz.f30, Option.getD]
      simp (maxSteps := 5000000) only [SA, SB, SD, R, guardAt, binP, intP, indexAddrP, elemsOf, readCells, lenP, lenAt, resultsP, resultP, oneOr, reduceCtorEq, reduceIte, Nat.reduceEqDiff, Nat.reduceAdd, Nat.zero_add, Nat.reduceMul, Nat.reduceLT, Nat.reduceLeDiff, Int.reduceLT, Int.reduceNeg, Int.reduceLE, appendP, appendAt, letGo, setLoc, locVal, Int.reduceToNat, boxCells, und, TG, SE, SC, List.getElem?_cons_zero, List.getElem?_cons_succ, unP, htu, htr, hky, hev1, htg, hsp, hrl, loadR, loadP, lay, List.take_succ_cons, List.take_zero, List.drop_nil, List.filter_nil, List.cons_append, Int.reduceBEq, Int.reduceBNe, Int.reduceGT, Int.reduceLT, Int.reduceGE, Bool.not_true, Bool.not_false, osp, on1, on2, v5, hn, c1, c2, e0, e1]
      exact ⟨_, rfl⟩
    have k5 : k = 5 := by omega
    subst k5
    rw [if_neg (by omega), if_neg (by simp), if_neg (by omega), if_neg (by omega), if_neg (by omega), if_neg (by omega), if_neg (by omega)]
    obtain ⟨ev, eo, so, co, ⟨hev, hco⟩, R⟩ := RULES CC; rw [← hev]
    rw [← hco] at osp on1 on2 v5
    simp only [fpart, part', Tryz.f30, Option.getD]
    simp (maxSteps := 5000000) only [SA, SB, SD, R, guardAt, binP, intP, indexAddrP, elemsOf, readCells, lenP, lenAt, resultsP, resultP, oneOr, reduceCtorEq, reduceIte, Nat.reduceEqDiff, Nat.reduceAdd, Nat.zero_add, Nat.reduceMul, Nat.reduceLT, Nat.reduceLeDiff, Int.reduceLT, Int.reduceNeg, Int.reduceLE, appendP, appendAt, letGo, setLoc, locVal, Int.reduceToNat, boxCells, und, TG, SE, SC, List.getElem?_cons_zero, List.getElem?_cons_succ, unP, htu, htr, hky, hev1, htg, hsp, hrl, loadR, loadP, lay, List.take_succ_cons, List.take_zero, List.drop_nil, List.filter_nil, List.cons_append, Int.reduceBEq, Int.reduceBNe, Int.reduceGT, Int.reduceLT, Int.reduceGE, Bool.not_true, Bool.not_false, osp, on1, on2, v5, hn, c1, c2]
    exact ⟨_, rfl⟩
set_option maxHeartbeats 4000000
theorem okB_spare : fnOKB Tryz.f57 (Tryz.f57.body.getD .skip) = true := by kernel_rfl
theorem noB_spare : fnOK CC Tryz.f57 (Tryz.f57.body.getD .skip) = false := by kernel_rfl
theorem fat_spare : CC.P.funcs[57]? = some Tryz.f57 := by kernel_rfl
def opsOf : Code → Array Oper
  | .region _ ops _ => ops
  | _ => #[]
theorem setT_comm : ∀ (e : List PV) (i j : Nat) (a b : PV), i ≠ j → setT (setT e i a) j b = setT (setT e j b) i a
  | [], 0, 0, _, _, h => absurd rfl h
  | [], 0, j + 1, a, b, _ => by simp [setT]
  | [], i + 1, 0, a, b, _ => by simp [setT]
  | [], i + 1, j + 1, a, b, h => by
    have := setT_comm [] i j a b (by omega)
    simp [setT, this]
  | _ :: _, 0, 0, _, _, h => absurd rfl h
  | _ :: _, 0, j + 1, _, _, _ => by simp [setT]
  | _ :: _, i + 1, 0, _, _, _ => by simp [setT]
  | x :: r, i + 1, j + 1, a, b, h => by
    have := setT_comm r i j a b (by omega)
    simp [setT, this]
theorem setT_sort (e : List PV) (i j : Nat) (a b : PV) (h : j < i) : setT (setT e i a) j b = setT (setT e j b) i a := setT_comm e i j a b (by omega)
theorem ordSP : orders (opsOf (fpart Tryz.f57 [1,1,0,1,0,1,1,1,1,1,0])) = [[0, 1, 2, 3, 4, 5, 6, 7], [0, 1, 2, 4, 3, 5, 6, 7], [0, 1, 2, 4, 5, 3, 6, 7], [0, 1, 4, 2, 3, 5, 6, 7], [0, 1, 4, 2, 5, 3, 6, 7], [0, 1, 4, 5, 2, 3, 6, 7], [0, 2, 1, 3, 4, 5, 6, 7], [0, 2, 1, 4, 3, 5, 6, 7], [0, 2, 1, 4, 5, 3, 6, 7], [0, 2, 3, 1, 4, 5, 6, 7], [2, 0, 1, 3, 4, 5, 6, 7], [2, 0, 1, 4, 3, 5, 6, 7], [2, 0, 1, 4, 5, 3, 6, 7], [2, 0, 3, 1, 4, 5, 6, 7], [2, 3, 0, 1, 4, 5, 6, 7]] := by kernel_rfl
theorem draw_SP (k n m : Int) (d : Int) (c a : List UInt8) (d' : Int) (c' a' nm : List UInt8) (e : List PV) (h1 : getT e 1 = .bp 0 0) (h3 : getT e 3 = .bp 1 0) :
    drawAll CC (callL CC) (opsOf (fpart Tryz.f57 [1,1,0,1,0,1,1,1,1,1,0])) ⟨e, [.cells 58 [.int .i64 k, .int .i64 d, .str c, .str a, .int .i64 d', .str c', .str a', .str nm, .int .i64 n, .int .i64 m], .cells 58 [.int .i64 k, .int .i64 0, .str [], .str [], .int .i64 0, .str [], .str [], .str [], .int .i64 0, .int .i64 0]]⟩ =
      some (.normal, ⟨setT (setT (setT (setT (setT (setT e 21 (.bp 0 8)) 22 (.int .i64 n)) 23 (.bp 0 9)) 24 (.int .i64 m)) 25 (.bp 1 8)) 26 (.bp 1 9), [.cells 58 [.int .i64 k, .int .i64 d, .str c, .str a, .int .i64 d', .str c', .str a', .str nm, .int .i64 n, .int .i64 m], .cells 58 [.int .i64 k, .int .i64 0, .str [], .str [], .int .i64 0, .str [], .str [], .str [], .int .i64 n, .int .i64 m]]⟩) := by
  refine drawAll_iff.2 ⟨by rw [ordSP]; simp, fun l hl => ?_⟩
  rw [ordSP] at hl
  obtain ⟨tu, htu⟩ := VLs
  obtain ⟨tg, htg⟩ := TG_s
  obtain ⟨dr, ev, eo, so, co, ⟨hev, hco, heo, hdr⟩, R⟩ := RULESB CC
  rw [← heo]
  simp only [List.mem_cons, List.not_mem_nil, or_false] at hl
  rcases hl with rfl | rfl | rfl | rfl | rfl | rfl | rfl | rfl | rfl | rfl | rfl | rfl | rfl | rfl | rfl
  all_goals
    simp only [opsOf, fpart, part', Tryz.f57, Option.getD, pickOps, List.filterMap_cons, List.filterMap_nil, List.getElem?_toArray, List.getElem?_cons_succ, List.getElem?_cons_zero]
    simp (maxSteps := 5000000) only [SA, SB, SD, R, guardAt, binP, intP, indexAddrP, elemsOf, readCells, lenP, lenAt, resultsP, resultP, oneOr, reduceCtorEq, reduceIte, Nat.reduceEqDiff, Nat.reduceAdd, Nat.zero_add, Nat.reduceMul, Nat.reduceLT, Nat.reduceLeDiff, Int.reduceLT, Int.reduceNeg, Int.reduceLE, appendP, appendAt, letGo, setLoc, locVal, Int.reduceToNat, boxCells, und, TG, SE, SC, List.getElem?_cons_zero, List.getElem?_cons_succ, unP, htu, htg, loadR, loadP, storeR, storeK, storeCellsP, laid, lay, setBox, List.set_cons_zero, List.set_cons_succ, List.length_cons, List.length_nil, Option.map_some, Nat.le_refl, List.take_succ_cons, List.take_zero, List.drop_nil, List.filter_nil, List.cons_append, Bool.not_true, Bool.not_false, h1, h3]
    repeat (first | rw [setT_comm _ 26 25 _ _ (by decide)] | rw [setT_comm _ 26 24 _ _ (by decide)] | rw [setT_comm _ 26 23 _ _ (by decide)] | rw [setT_comm _ 26 22 _ _ (by decide)] | rw [setT_comm _ 26 21 _ _ (by decide)] | rw [setT_comm _ 25 24 _ _ (by decide)] | rw [setT_comm _ 25 23 _ _ (by decide)] | rw [setT_comm _ 25 22 _ _ (by decide)] | rw [setT_comm _ 25 21 _ _ (by decide)] | rw [setT_comm _ 24 23 _ _ (by decide)] | rw [setT_comm _ 24 22 _ _ (by decide)] | rw [setT_comm _ 24 21 _ _ (by decide)] | rw [setT_comm _ 23 22 _ _ (by decide)] | rw [setT_comm _ 23 21 _ _ (by decide)] | rw [setT_comm _ 22 21 _ _ (by decide)])
def and3 (x y : Option Bool) : Option Bool := match x with
  | some true => y
  | o => o
theorem and2_some (x y : Bool) : and2 x (some y) = some (x && y) := by cases x <;> rfl
theorem and3_some (x y : Bool) : and3 (some x) (some y) = some (x && y) := by cases x <;> rfl
theorem eqTP (k k2 n n2 m m2 d d2 e e2 : Int) (c a f g nm c2 a2 f2 g2 nm2 : List UInt8) :
    eqP CC 100 58 (.agg [.int .i64 k, .int .i64 d, .str c, .str a, .int .i64 e, .str f, .str g, .str nm, .int .i64 n, .int .i64 m]) (.agg [.int .i64 k2, .int .i64 d2, .str c2, .str a2, .int .i64 e2, .str f2, .str g2, .str nm2, .int .i64 n2, .int .i64 m2]) =
      some ((k == k2) && (eqKy (d, c, a) (d2, c2, a2) && (eqKy (e, f, g) (e2, f2, g2) && ((nm == nm2) && ((n == n2) && (m == m2)))))) := by
  have h : eqP CC 100 58 (.agg [.int .i64 k, .int .i64 d, .str c, .str a, .int .i64 e, .str f, .str g, .str nm, .int .i64 n, .int .i64 m]) (.agg [.int .i64 k2, .int .i64 d2, .str c2, .str a2, .int .i64 e2, .str f2, .str g2, .str nm2, .int .i64 n2, .int .i64 m2]) =
      and2 (k == k2) (and3 (and2 (d == d2) (and2 (c == c2) (and2 (a == a2) (some true)))) (and3 (and2 (e == e2) (and2 (f == f2) (and2 (g == g2) (some true)))) (and2 (nm == nm2) (and2 (n == n2) (and2 (m == m2) (some true)))))) := by kernel_rfl
  rw [h]
  simp only [and2_some, and3_some, Bool.and_true, eqKy, Bool.and_assoc]
theorem eqgT : CC.P.eqGuardType CC.P.depth 58 = false := by kernel_rfl
theorem buildTg (k : Int) : buildP CC 58 [(0, .int .i64 k)] = some (.agg [.int .i64 k, .int .i64 0, .str [], .str [], .int .i64 0, .str [], .str [], .str [], .int .i64 0, .int .i64 0]) := by kernel_rfl
theorem eqKy_refl (v : Ky) : eqKy v v = true := by simp [eqKy]
theorem eqKy_comm (v w : Ky) : eqKy v w = eqKy w v := by
  unfold eqKy
  rw [BEq.comm (a := v.1), BEq.comm (a := v.2.1), BEq.comm (a := v.2.2)]
/-- what the comparison says -/
def spR (k : Int) (key ev : Ky) (nm : List UInt8) (n m : Int) (key1 ev1 : Ky) (nm1 : List UInt8) (n1 m1 : Int) : Bool := (k == k) && (eqKy key1 key && (eqKy ev1 ev && ((nm1 == nm) && ((n1 == n) && (m1 == m)))))
theorem spR_ts (k : Int) (key ev : Ky) (nm : List UInt8) (n m : Int) :
    spR k key ev nm n m (if k = 1 then key else (0, [], [])) (if k = 2 then ev else (0, [], [])) (if k = 4 then nm else []) (if k = 3 ∨ k = 6 then n else 0) (if k = 3 then m else 0) = !(tsT ⟨k, key, ev, nm, n, m⟩) := by
  unfold spR tsT tsB
  simp only [beq_self_eq_true, Bool.true_and]
  rw [eqKy_comm _ key, eqKy_comm _ ev]
  have en : ∀ x : Int, (0 == x) = !(x != 0) := fun x => by simp [bne, BEq.comm (a := (0 : Int))]
  have es : ([] == nm) = (nm == []) := BEq.comm
  by_cases k1 : k = 1
  · subst k1; simp [eqKy_refl, en, es, Bool.and_assoc]
  by_cases k2 : k = 2
  · subst k2; simp [eqKy_refl, en, es, Bool.and_assoc]
  by_cases k3 : k = 3
  · subst k3; simp [eqKy_refl, en, es, Bool.and_assoc]
  by_cases k4 : k = 4
  · subst k4; simp [eqKy_refl, en, es, Bool.and_assoc]
  by_cases k6 : k = 6
  · subst k6; simp [eqKy_refl, en, es, Bool.and_assoc]
  have p1 : (k == 1) = false := by simpa using k1
  have p2 : (k == 2) = false := by simpa using k2
  have p3 : (k == 3) = false := by simpa using k3
  have p4 : (k == 4) = false := by simpa using k4
  have p6 : (k == 6) = false := by simpa using k6
  simp [k1, k2, k3, k4, k6, p1, p2, p3, p4, p6, en, es, Bool.and_assoc]
theorem call_print_spare (t : Tg) : ∃ bx, callL CC 57 [tgV t] [] = some (.ret (.bool (!(tsT t))), bx) := by
  obtain ⟨k, key, ev, nm, n, m⟩ := t
  rw [← spR_ts]
  obtain ⟨d, c, a⟩ := key
  obtain ⟨d', c', a'⟩ := ev
  unfold tgV spR
  simp only
  rw [callL_enterB (fn := Tryz.f57) (c := Tryz.f57.body.getD .skip) rfl rfl fat_spare rfl noB_spare okB_spare (Nat.le_of_ble_eq_true rfl)]
  obtain ⟨tu, htu⟩ := VLs
  obtain ⟨tk, hky⟩ := KYs
  obtain ⟨te, hev1⟩ := EVs
  obtain ⟨tg, htg⟩ := TG_s
  have hdw := draw_SP k n m d c a d' c' a' nm
  by_cases k1 : k = 1
  · subst k1
    obtain ⟨dr, ev, eo, so, co, ⟨hev, hco, heo, hdr⟩, R⟩ := RULESB CC; rw [← hev]
    simp only [fpart, part', Tryz.f57, Option.getD]
    simp (maxSteps := 5000000) only [SA, SB, SD, R, guardAt, binP, intP, indexAddrP, elemsOf, readCells, lenP, lenAt, resultsP, resultP, oneOr, reduceCtorEq, reduceIte, Nat.reduceEqDiff, Nat.reduceAdd, Nat.zero_add, Nat.reduceMul, Nat.reduceLT, Nat.reduceLeDiff, Int.reduceLT, Int.reduceNeg, Int.reduceLE, appendP, appendAt, letGo, setLoc, locVal, Int.reduceToNat, boxCells, und, TG, SE, SC, List.getElem?_cons_zero, List.getElem?_cons_succ, unP, htu, hky, hev1, htg, eqTP, eqgT, buildTg, TGf, loadR, loadP, storeR, storeK, storeCellsP, laid, lay, setBox, List.set_cons_zero, List.set_cons_succ, List.length_cons, List.length_nil, Nat.le_refl, Option.map_some, List.take_succ_cons, List.take_zero, List.drop_succ_cons, List.drop_zero, List.drop_nil, List.filter_nil, List.nil_append, List.cons_append, Int.reduceBEq, Int.reduceBNe, Int.reduceGT, Int.reduceGE, Bool.not_true, Bool.not_false, htg]
    exact ⟨_, rfl⟩
  by_cases k2 : k = 2
  · subst k2
    obtain ⟨dr, ev, eo, so, co, ⟨hev, hco, heo, hdr⟩, R⟩ := RULESB CC; rw [← hev]
    simp only [fpart, part', Tryz.f57, Option.getD]
    simp (maxSteps := 5000000) only [SA, SB, SD, R, guardAt, binP, intP, indexAddrP, elemsOf, readCells, lenP, lenAt, resultsP, resultP, oneOr, reduceCtorEq, reduceIte, Nat.reduceEqDiff, Nat.reduceAdd, Nat.zero_add, Nat.reduceMul, Nat.reduceLT, Nat.reduceLeDiff, Int.reduceLT, Int.reduceNeg, Int.reduceLE, appendP, appendAt, letGo, setLoc, locVal, Int.reduceToNat, boxCells, und, TG, SE, SC, List.getElem?_cons_zero, List.getElem?_cons_succ, unP, htu, hky, hev1, htg, eqTP, eqgT, buildTg, TGf, loadR, loadP, storeR, storeK, storeCellsP, laid, lay, setBox, List.set_cons_zero, List.set_cons_succ, List.length_cons, List.length_nil, Nat.le_refl, Option.map_some, List.take_succ_cons, List.take_zero, List.drop_succ_cons, List.drop_zero, List.drop_nil, List.filter_nil, List.nil_append, List.cons_append, Int.reduceBEq, Int.reduceBNe, Int.reduceGT, Int.reduceGE, Bool.not_true, Bool.not_false, htg]
    exact ⟨_, rfl⟩
  by_cases k3 : k = 3
  · subst k3
    obtain ⟨dr, ev, eo, so, co, ⟨hev, hco, heo, hdr⟩, R⟩ := RULESB CC; rw [← hev]
    rw [← hdr] at hdw
    simp only [opsOf, fpart, part', Tryz.f57, Option.getD] at hdw ⊢
    simp (maxSteps := 5000000) only [SA, SB, SD, R, guardAt, binP, intP, indexAddrP, elemsOf, readCells, lenP, lenAt, resultsP, resultP, oneOr, reduceCtorEq, reduceIte, Nat.reduceEqDiff, Nat.reduceAdd, Nat.zero_add, Nat.reduceMul, Nat.reduceLT, Nat.reduceLeDiff, Int.reduceLT, Int.reduceNeg, Int.reduceLE, appendP, appendAt, letGo, setLoc, locVal, Int.reduceToNat, boxCells, und, TG, SE, SC, List.getElem?_cons_zero, List.getElem?_cons_succ, unP, htu, hky, hev1, htg, eqTP, eqgT, buildTg, TGf, loadR, loadP, storeR, storeK, storeCellsP, laid, lay, setBox, List.set_cons_zero, List.set_cons_succ, List.length_cons, List.length_nil, Nat.le_refl, Option.map_some, List.take_succ_cons, List.take_zero, List.drop_succ_cons, List.drop_zero, List.drop_nil, List.filter_nil, List.nil_append, List.cons_append, Int.reduceBEq, Int.reduceBNe, Int.reduceGT, Int.reduceGE, Bool.not_true, Bool.not_false, hdw]
    exact ⟨_, rfl⟩
  by_cases k4 : k = 4
  · subst k4
    obtain ⟨dr, ev, eo, so, co, ⟨hev, hco, heo, hdr⟩, R⟩ := RULESB CC; rw [← hev]
    simp only [fpart, part', Tryz.f57, Option.getD]
    simp (maxSteps := 5000000) only [SA, SB, SD, R, guardAt, binP, intP, indexAddrP, elemsOf, readCells, lenP, lenAt, resultsP, resultP, oneOr, reduceCtorEq, reduceIte, Nat.reduceEqDiff, Nat.reduceAdd, Nat.zero_add, Nat.reduceMul, Nat.reduceLT, Nat.reduceLeDiff, Int.reduceLT, Int.reduceNeg, Int.reduceLE, appendP, appendAt, letGo, setLoc, locVal, Int.reduceToNat, boxCells, und, TG, SE, SC, List.getElem?_cons_zero, List.getElem?_cons_succ, unP, htu, hky, hev1, htg, eqTP, eqgT, buildTg, TGf, loadR, loadP, storeR, storeK, storeCellsP, laid, lay, setBox, List.set_cons_zero, List.set_cons_succ, List.length_cons, List.length_nil, Nat.le_refl, Option.map_some, List.take_succ_cons, List.take_zero, List.drop_succ_cons, List.drop_zero, List.drop_nil, List.filter_nil, List.nil_append, List.cons_append, Int.reduceBEq, Int.reduceBNe, Int.reduceGT, Int.reduceGE, Bool.not_true, Bool.not_false, htg]
    exact ⟨_, rfl⟩
  by_cases k6 : k = 6
  · subst k6
    obtain ⟨dr, ev, eo, so, co, ⟨hev, hco, heo, hdr⟩, R⟩ := RULESB CC; rw [← hev]
    simp only [fpart, part', Tryz.f57, Option.getD]
    simp (maxSteps := 5000000) only [SA, SB, SD, R, guardAt, binP, intP, indexAddrP, elemsOf, readCells, lenP, lenAt, resultsP, resultP, oneOr, reduceCtorEq, reduceIte, Nat.reduceEqDiff, Nat.reduceAdd, Nat.zero_add, Nat.reduceMul, Nat.reduceLT, Nat.reduceLeDiff, Int.reduceLT, Int.reduceNeg, Int.reduceLE, appendP, appendAt, letGo, setLoc, locVal, Int.reduceToNat, boxCells, und, TG, SE, SC, List.getElem?_cons_zero, List.getElem?_cons_succ, unP, htu, hky, hev1, htg, eqTP, eqgT, buildTg, TGf, loadR, loadP, storeR, storeK, storeCellsP, laid, lay, setBox, List.set_cons_zero, List.set_cons_succ, List.length_cons, List.length_nil, Nat.le_refl, Option.map_some, List.take_succ_cons, List.take_zero, List.drop_succ_cons, List.drop_zero, List.drop_nil, List.filter_nil, List.nil_append, List.cons_append, Int.reduceBEq, Int.reduceBNe, Int.reduceGT, Int.reduceGE, Bool.not_true, Bool.not_false, htg]
    exact ⟨_, rfl⟩
  have p1 : (k == 1) = false := by simpa using k1
  have p2 : (k == 2) = false := by simpa using k2
  have p3 : (k == 3) = false := by simpa using k3
  have p4 : (k == 4) = false := by simpa using k4
  have p6 : (k == 6) = false := by simpa using k6
  rw [if_neg k1, if_neg k2, if_neg k4, if_neg (by omega), if_neg k3]
  obtain ⟨dr, ev, eo, so, co, ⟨hev, hco, heo, hdr⟩, R⟩ := RULESB CC; rw [← hev]
  simp only [fpart, part', Tryz.f57, Option.getD]
  simp (maxSteps := 5000000) only [SA, SB, SD, R, guardAt, binP, intP, indexAddrP, elemsOf, readCells, lenP, lenAt, resultsP, resultP, oneOr, reduceCtorEq, reduceIte, Nat.reduceEqDiff, Nat.reduceAdd, Nat.zero_add, Nat.reduceMul, Nat.reduceLT, Nat.reduceLeDiff, Int.reduceLT, Int.reduceNeg, Int.reduceLE, appendP, appendAt, letGo, setLoc, locVal, Int.reduceToNat, boxCells, und, TG, SE, SC, List.getElem?_cons_zero, List.getElem?_cons_succ, unP, htu, hky, hev1, htg, eqTP, eqgT, buildTg, TGf, loadR, loadP, storeR, storeK, storeCellsP, laid, lay, setBox, List.set_cons_zero, List.set_cons_succ, List.length_cons, List.length_nil, Nat.le_refl, Option.map_some, List.take_succ_cons, List.take_zero, List.drop_succ_cons, List.drop_zero, List.drop_nil, List.filter_nil, List.nil_append, List.cons_append, Int.reduceBEq, Int.reduceBNe, Int.reduceGT, Int.reduceGE, Bool.not_true, Bool.not_false, p1, p2, p3, p4, p6]
  exact ⟨_, rfl⟩
theorem op_print_spare (t : Tg) (bx) : callOp CC (callL CC) 57 [tgV t] bx = some (.ret (.bool (!(tsT t))), bx) := by
  obtain ⟨b, h⟩ := call_print_spare t
  exact callOp_of rfl (by simp only [pureL_cons, tgV_pure, pureL_nil, Bool.and_self]) h rfl
theorem op_print_trigger (t : Tg) (hp : plTg t = true) (bx) : callOp CC (callL CC) 30 [tgV t] bx = some (.ret (.int .i64 (tgE t)), bx) := by
  obtain ⟨b, h⟩ := call_print_trigger op_print_spare t hp
  exact callOp_of rfl (by simp only [pureL_cons, tgV_pure, pureL_nil, Bool.and_self]) h rfl
theorem op_print_CheckRl (r : Rl) (hp : plRl r = true) (bx) : callOp CC (callL CC) 11 [rlV r] bx = some (.ret (.int .i64 (rlE r)), bx) := by
  obtain ⟨b, h⟩ := call_print_Check (fun t ht => op_print_trigger t ht) r hp
  exact callOp_of rfl (by simp only [pureL_cons, rlV_pure, pureL_nil, Bool.and_self]) h rfl
def ltT (n : Int) : Tr := .mk 1 0 0 [] (2, n, []) (0, [], []) []
def flT (n : Int) : Tr := .mk 1 0 0 [] (1, n, []) (0, [], []) []
def atT : Tr := .mk 2 0 0 [] (0, 0, []) (3, [108, 101, 118, 101, 108], [108, 101, 118, 101, 108]) []
def opT (k : Int) (kids : List Tr) : Tr := .mk k 0 0 [] (0, 0, []) (0, [], []) kids
def exR : Rl := ⟨[97], 0, [⟨5, (0, [], []), (0, [], []), [], 0, 0⟩], flT 1, [⟨4, (0, [], []), [97, 119, 97, 121], .mk 0 0 0 [] (0, 0, []) (0, [], []) []⟩]⟩
/-- a call that returns a text and an error -/
noncomputable def chkTE (f : FuncId) (a : PV) (s : List UInt8) (e : Int) : Bool := match callF CC 130 f [a] [] with
  | some (.ret (.tup [.str t, .int .i64 x]), _) => t == s && x == e
  | _ => false
theorem of_chkTE {f : FuncId} {a : PV} {s : List UInt8} {e : Int} (hp : a.pure = true) (h : chkTE f a s e = true) (bx) : callOp CC (callL CC) f [a] bx = some (.ret (.tup [.str s, .int .i64 e]), bx) := by
  unfold chkTE at h
  split at h
  · rename_i t x b hs
    rw [Bool.and_eq_true] at h
    have e1 : t = s := by simpa using h.1
    have e2 : x = e := by simpa using h.2
    subst e1 e2
    exact callOp_of rfl (by simp only [pureL, hp, Bool.and_true]) (callL_iff.2 ⟨130, hs⟩) rfl
  · cases h
def exS1 : List UInt8 := [53, 32, 60, 61, 32, 51, 46, 108, 101, 118, 101, 108, 46, 108, 101, 118, 101, 108]
theorem ex1 : chkTE 14 (trV (opT 6 [opT 10 [atT, ltT 5]])) exS1 0 = true := by kernel_rfl
def exS2 : List UInt8 := [40, 49, 32, 43, 32, 50, 41, 32, 42, 32, 45, 51, 46, 108, 101, 118, 101, 108, 46, 108, 101, 118, 101, 108]
theorem ex2 : chkTE 14 (trV (opT 13 [opT 11 [ltT 1, ltT 2], opT 12 [ltT 0, atT]])) exS2 0 = true := by kernel_rfl
def exS3 : List UInt8 := [40, 116, 114, 117, 101, 32, 111, 114, 32, 102, 97, 108, 115, 101, 41, 32, 97, 110, 100, 32, 116, 114, 117, 101]
theorem ex3 : chkTE 14 (trV (opT 7 [opT 8 [flT 1, flT 0], flT 1])) exS3 0 = true := by kernel_rfl
def exS4 : List UInt8 := [48, 32, 45, 32, 45, 53]
theorem ex4 : chkTE 14 (trV (opT 12 [ltT 0, ltT (-5)])) exS4 0 = true := by kernel_rfl
def exS5 : List UInt8 := [114, 117, 108, 101, 32, 97, 32, 112, 114, 105, 111, 114, 105, 116, 121, 32, 48, 32, 123, 10, 32, 32, 111, 110, 32, 115, 116, 97, 114, 116, 59, 10, 32, 32, 100, 111, 32, 109, 111, 100, 101, 32, 97, 119, 97, 121, 59, 10, 125, 10]
theorem ex5 : chkTE 19 (.sl [rlV exR]) exS5 0 = true := by kernel_rfl
theorem ex6 : chkTE 19 (.sl [rlV exR, rlV exR]) [] 9 = true := by kernel_rfl
theorem op_ex1 (bx) : callOp CC (callL CC) 14 [trV (opT 6 [opT 10 [atT, ltT 5]])] bx = some (.ret (.tup [.str exS1, .int .i64 0]), bx) := of_chkTE rfl ex1 bx
theorem op_ex2 (bx) : callOp CC (callL CC) 14 [trV (opT 13 [opT 11 [ltT 1, ltT 2], opT 12 [ltT 0, atT]])] bx = some (.ret (.tup [.str exS2, .int .i64 0]), bx) := of_chkTE rfl ex2 bx
theorem op_ex3 (bx) : callOp CC (callL CC) 14 [trV (opT 7 [opT 8 [flT 1, flT 0], flT 1])] bx = some (.ret (.tup [.str exS3, .int .i64 0]), bx) := of_chkTE rfl ex3 bx
theorem op_ex4 (bx) : callOp CC (callL CC) 14 [trV (opT 12 [ltT 0, ltT (-5)])] bx = some (.ret (.tup [.str exS4, .int .i64 0]), bx) := of_chkTE rfl ex4 bx
theorem op_ex5 (bx) : callOp CC (callL CC) 19 [.sl [rlV exR]] bx = some (.ret (.tup [.str exS5, .int .i64 0]), bx) := of_chkTE rfl ex5 bx
theorem op_ex6 (bx) : callOp CC (callL CC) 19 [.sl [rlV exR, rlV exR]] bx = some (.ret (.tup [.str [], .int .i64 9]), bx) := of_chkTE rfl ex6 bx
set_option maxHeartbeats 4000000
theorem ok_L30_awake : fnOK CC Tryz.f10 (Tryz.f10.body.getD .skip) = true := by kernel_rfl
theorem fat_L30_awake : CC.P.funcs[10]? = some Tryz.f10 := by kernel_rfl
theorem ok_L30_lit : fnOK CC Tryz.f28 (Tryz.f28.body.getD .skip) = true := by kernel_rfl
theorem fat_L30_lit : CC.P.funcs[28]? = some Tryz.f28 := by kernel_rfl
theorem ok_L30_op : fnOK CC Tryz.f27 (Tryz.f27.body.getD .skip) = true := by kernel_rfl
theorem fat_L30_op : CC.P.funcs[27]? = some Tryz.f27 := by kernel_rfl
theorem ok_R28_Flag : fnOK CC Tryz.f26 (Tryz.f26.body.getD .skip) = true := by kernel_rfl
theorem fat_R28_Flag : CC.P.funcs[26]? = some Tryz.f26 := by kernel_rfl
theorem ok_R28_Lit : fnOK CC Tryz.f55 (Tryz.f55.body.getD .skip) = true := by kernel_rfl
theorem fat_R28_Lit : CC.P.funcs[55]? = some Tryz.f55 := by kernel_rfl
/-- an expression whose kids are nil -/
def lfP (k : Int) (v : Vl) (key : Ky) : PV := .agg [.int .i64 k, .int .i64 0, .int .i64 0, .str [], .int .i64 v.1, .int .i64 v.2.1, .str v.2.2, .int .i64 key.1, .str key.2.1, .str key.2.2, .nils]
def knP (k : Int) (kids : List PV) : PV := .agg [.int .i64 k, .int .i64 0, .int .i64 0, .str [], .int .i64 0, .int .i64 0, .str [], .int .i64 0, .str [], .str [], .sl kids]
theorem buildLf (n : Int) : buildP CC 24 [(0, .int .i64 2), (1, .int .i64 n)] = some (.agg [.int .i64 2, .int .i64 n, .str []]) := by kernel_rfl
theorem buildFl1 : buildP CC 24 [(0, .int .i64 1), (1, .int .i64 1)] = some (.agg [.int .i64 1, .int .i64 1, .str []]) := by kernel_rfl
theorem buildFl0 : buildP CC 24 [(0, .int .i64 1)] = some (.agg [.int .i64 1, .int .i64 0, .str []]) := by kernel_rfl
theorem buildEx (a n : Int) (s : List UInt8) : buildP CC 29 [(0, .int .i64 1), (4, .agg [.int .i64 a, .int .i64 n, .str s])] = some (lfP 1 (a, n, s) (0, [], [])) := by kernel_rfl
theorem EXf : zeroCells CC 29 = some [.int .i64 0, .int .i64 0, .int .i64 0, .str [], .int .i64 0, .int .i64 0, .str [], .int .i64 0, .str [], .str [], .nils] := by kernel_rfl
def lsP (k : Int) (v : Vl) (key : Ky) : PV := .agg [.int .i64 k, .int .i64 0, .int .i64 0, .str [], .int .i64 v.1, .int .i64 v.2.1, .str v.2.2, .int .i64 key.1, .str key.2.1, .str key.2.2, .sl []]
theorem lsP_lt (n : Int) : lsP 1 (2, n, []) (0, [], []) = trV (ltT n) := by unfold ltT trV trVs; rfl
theorem lsP_fl (n : Int) : lsP 1 (1, n, []) (0, [], []) = trV (flT n) := by unfold flT trV trVs; rfl
theorem call_lit (n : Int) : ∃ bx, callL CC 28 [.int .i64 n] [] = some (.ret (lsP 1 (2, n, []) (0, [], [])), bx) := by
  rw [callL_enter (fn := Tryz.f28) (c := Tryz.f28.body.getD .skip) rfl rfl fat_L30_lit rfl ok_L30_lit (Nat.le_of_ble_eq_true rfl)]
  obtain ⟨tu, htu⟩ := VLs
  obtain ⟨tr, htr⟩ := TRs
  obtain ⟨tk, hky⟩ := KYs
  obtain ⟨ev, eo, so, co, ⟨hev, hco⟩, R⟩ := RULES CC; rw [← hev]
  simp only [fpart, part', Tryz.f28, Option.getD]
  simp (maxSteps := 5000000) only [SA, SB, SD, R, guardAt, binP, intP, indexAddrP, elemsOf, readCells, lenP, lenAt, resultsP, resultP, oneOr, reduceCtorEq, reduceIte, Nat.reduceEqDiff, Nat.reduceAdd, Nat.zero_add, Nat.reduceMul, Nat.reduceLT, Nat.reduceLeDiff, Int.reduceLT, Int.reduceNeg, Int.reduceLE, appendP, appendAt, letGo, setLoc, locVal, Int.reduceToNat, boxCells, und, TG, SE, SC, EXf, List.getElem?_cons_zero, List.getElem?_cons_succ, unP, htu, htr, hky, buildLf, buildFl1, buildFl0, buildEx, loadR, loadP, storeR, storeK, storeCellsP, laid, lay, setBox, List.set_cons_zero, List.set_cons_succ, List.length_cons, List.length_nil, Nat.le_refl, Option.map_some, List.take_succ_cons, List.take_zero, List.drop_succ_cons, List.drop_zero, List.drop_nil, List.filter_nil, List.nil_append, List.cons_append, Int.reduceBEq, Int.reduceBNe, Int.reduceGT, Int.reduceGE, Bool.not_true, Bool.not_false, hky]
  unfold lfP lsP
  simp (maxSteps := 5000000) only [SA, SB, SD, R, guardAt, binP, intP, indexAddrP, elemsOf, readCells, lenP, lenAt, resultsP, resultP, oneOr, reduceCtorEq, reduceIte, Nat.reduceEqDiff, Nat.reduceAdd, Nat.zero_add, Nat.reduceMul, Nat.reduceLT, Nat.reduceLeDiff, Int.reduceLT, Int.reduceNeg, Int.reduceLE, appendP, appendAt, letGo, setLoc, locVal, Int.reduceToNat, boxCells, und, TG, SE, SC, EXf, List.getElem?_cons_zero, List.getElem?_cons_succ, unP, htu, htr, hky, buildLf, buildFl1, buildFl0, buildEx, loadR, loadP, storeR, storeK, storeCellsP, laid, lay, setBox, List.set_cons_zero, List.set_cons_succ, List.length_cons, List.length_nil, Nat.le_refl, Option.map_some, List.take_succ_cons, List.take_zero, List.drop_succ_cons, List.drop_zero, List.drop_nil, List.filter_nil, List.nil_append, List.cons_append, Int.reduceBEq, Int.reduceBNe, Int.reduceGT, Int.reduceGE, Bool.not_true, Bool.not_false, hky]
  exact ⟨_, rfl⟩
theorem op_lit (n : Int) (bx) : callOp CC (callL CC) 28 [.int .i64 n] bx = some (.ret (trV (ltT n)), bx) := by
  obtain ⟨b, h⟩ := call_lit n
  rw [← lsP_lt]
  exact callOp_of rfl rfl h rfl
theorem call_Lit (a n : Int) (s : List UInt8) : ∃ bx, callL CC 55 [.agg [.int .i64 a, .int .i64 n, .str s]] [] = some (.ret (lsP 1 (a, n, s) (0, [], [])), bx) := by
  rw [callL_enter (fn := Tryz.f55) (c := Tryz.f55.body.getD .skip) rfl rfl fat_R28_Lit rfl ok_R28_Lit (Nat.le_of_ble_eq_true rfl)]
  obtain ⟨tu, htu⟩ := VLs
  obtain ⟨tr, htr⟩ := TRs
  obtain ⟨tk, hky⟩ := KYs
  obtain ⟨ev, eo, so, co, ⟨hev, hco⟩, R⟩ := RULES CC; rw [← hev]
  simp only [fpart, part', Tryz.f55, Option.getD]
  simp (maxSteps := 5000000) only [SA, SB, SD, R, guardAt, binP, intP, indexAddrP, elemsOf, readCells, lenP, lenAt, resultsP, resultP, oneOr, reduceCtorEq, reduceIte, Nat.reduceEqDiff, Nat.reduceAdd, Nat.zero_add, Nat.reduceMul, Nat.reduceLT, Nat.reduceLeDiff, Int.reduceLT, Int.reduceNeg, Int.reduceLE, appendP, appendAt, letGo, setLoc, locVal, Int.reduceToNat, boxCells, und, TG, SE, SC, EXf, List.getElem?_cons_zero, List.getElem?_cons_succ, unP, htu, htr, hky, buildLf, buildFl1, buildFl0, buildEx, loadR, loadP, storeR, storeK, storeCellsP, laid, lay, setBox, List.set_cons_zero, List.set_cons_succ, List.length_cons, List.length_nil, Nat.le_refl, Option.map_some, List.take_succ_cons, List.take_zero, List.drop_succ_cons, List.drop_zero, List.drop_nil, List.filter_nil, List.nil_append, List.cons_append, Int.reduceBEq, Int.reduceBNe, Int.reduceGT, Int.reduceGE, Bool.not_true, Bool.not_false, hky]
  unfold lfP lsP
  simp (maxSteps := 5000000) only [SA, SB, SD, R, guardAt, binP, intP, indexAddrP, elemsOf, readCells, lenP, lenAt, resultsP, resultP, oneOr, reduceCtorEq, reduceIte, Nat.reduceEqDiff, Nat.reduceAdd, Nat.zero_add, Nat.reduceMul, Nat.reduceLT, Nat.reduceLeDiff, Int.reduceLT, Int.reduceNeg, Int.reduceLE, appendP, appendAt, letGo, setLoc, locVal, Int.reduceToNat, boxCells, und, TG, SE, SC, EXf, List.getElem?_cons_zero, List.getElem?_cons_succ, unP, htu, htr, hky, buildLf, buildFl1, buildFl0, buildEx, loadR, loadP, storeR, storeK, storeCellsP, laid, lay, setBox, List.set_cons_zero, List.set_cons_succ, List.length_cons, List.length_nil, Nat.le_refl, Option.map_some, List.take_succ_cons, List.take_zero, List.drop_succ_cons, List.drop_zero, List.drop_nil, List.filter_nil, List.nil_append, List.cons_append, Int.reduceBEq, Int.reduceBNe, Int.reduceGT, Int.reduceGE, Bool.not_true, Bool.not_false, hky]
  exact ⟨_, rfl⟩
theorem op_Lit (a n : Int) (s : List UInt8) (bx) : callOp CC (callL CC) 55 [.agg [.int .i64 a, .int .i64 n, .str s]] bx = some (.ret (lsP 1 (a, n, s) (0, [], [])), bx) := by
  obtain ⟨b, h⟩ := call_Lit a n s
  exact callOp_of rfl rfl h rfl
theorem call_Flag (b : Bool) : ∃ bx, callL CC 26 [.bool b] [] = some (.ret (lsP 1 (1, if b then 1 else 0, []) (0, [], [])), bx) := by
  have o1 := op_Lit 1 1 []
  have o0 := op_Lit 1 0 []
  rw [callL_enter (fn := Tryz.f26) (c := Tryz.f26.body.getD .skip) rfl rfl fat_R28_Flag rfl ok_R28_Flag (Nat.le_of_ble_eq_true rfl)]
  obtain ⟨tu, htu⟩ := VLs
  obtain ⟨tr, htr⟩ := TRs
  obtain ⟨tk, hky⟩ := KYs
  cases b with
  | true =>
    obtain ⟨ev, eo, so, co, ⟨hev, hco⟩, R⟩ := RULES CC; rw [← hev]
    rw [← hco] at o1 o0
    simp only [fpart, part', Tryz.f26, Option.getD]
    unfold lsP at o1 o0 ⊢
    simp (maxSteps := 5000000) only [SA, SB, SD, R, guardAt, binP, intP, indexAddrP, elemsOf, readCells, lenP, lenAt, resultsP, resultP, oneOr, reduceCtorEq, reduceIte, Nat.reduceEqDiff, Nat.reduceAdd, Nat.zero_add, Nat.reduceMul, Nat.reduceLT, Nat.reduceLeDiff, Int.reduceLT, Int.reduceNeg, Int.reduceLE, appendP, appendAt, letGo, setLoc, locVal, Int.reduceToNat, boxCells, und, TG, SE, SC, EXf, List.getElem?_cons_zero, List.getElem?_cons_succ, unP, htu, htr, hky, buildLf, buildFl1, buildFl0, buildEx, loadR, loadP, storeR, storeK, storeCellsP, laid, lay, setBox, List.set_cons_zero, List.set_cons_succ, List.length_cons, List.length_nil, Nat.le_refl, Option.map_some, List.take_succ_cons, List.take_zero, List.drop_succ_cons, List.drop_zero, List.drop_nil, List.filter_nil, List.nil_append, List.cons_append, Int.reduceBEq, Int.reduceBNe, Int.reduceGT, Int.reduceGE, Bool.not_true, Bool.not_false, o1, o0]
    exact ⟨_, rfl⟩
  | false =>
    obtain ⟨ev, eo, so, co, ⟨hev, hco⟩, R⟩ := RULES CC; rw [← hev]
    rw [← hco] at o1 o0
    simp only [fpart, part', Tryz.f26, Option.getD]
    unfold lsP at o1 o0 ⊢
    simp (maxSteps := 5000000) only [SA, SB, SD, R, guardAt, binP, intP, indexAddrP, elemsOf, readCells, lenP, lenAt, resultsP, resultP, oneOr, reduceCtorEq, reduceIte, Nat.reduceEqDiff, Nat.reduceAdd, Nat.zero_add, Nat.reduceMul, Nat.reduceLT, Nat.reduceLeDiff, Int.reduceLT, Int.reduceNeg, Int.reduceLE, appendP, appendAt, letGo, setLoc, locVal, Int.reduceToNat, boxCells, und, TG, SE, SC, EXf, List.getElem?_cons_zero, List.getElem?_cons_succ, unP, htu, htr, hky, buildLf, buildFl1, buildFl0, buildEx, loadR, loadP, storeR, storeK, storeCellsP, laid, lay, setBox, List.set_cons_zero, List.set_cons_succ, List.length_cons, List.length_nil, Nat.le_refl, Option.map_some, List.take_succ_cons, List.take_zero, List.drop_succ_cons, List.drop_zero, List.drop_nil, List.filter_nil, List.nil_append, List.cons_append, Int.reduceBEq, Int.reduceBNe, Int.reduceGT, Int.reduceGE, Bool.not_true, Bool.not_false, o1, o0]
    exact ⟨_, rfl⟩
theorem op_Flag (c : Bool) (bx) : callOp CC (callL CC) 26 [.bool c] bx = some (.ret (trV (flT (if c then 1 else 0))), bx) := by
  obtain ⟨b, h⟩ := call_Flag c
  rw [← lsP_fl]
  exact callOp_of rfl rfl h rfl
noncomputable def IEx : TypeInfo := (Tryz.prog.info? 29).getD default
theorem bsEx1 (pk pn pm pa pb pd : Int) (ps pt pu pv : List UInt8) (px : List PV) : buildSliceP CC 27 1 [(0, .agg [.int .i64 pk, .int .i64 pn, .int .i64 pm, .str ps, .int .i64 pa, .int .i64 pb, .str pt, .int .i64 pd, .str pu, .str pv, .sl px])] = some (.osl 29 [.agg [.int .i64 pk, .int .i64 pn, .int .i64 pm, .str ps, .int .i64 pa, .int .i64 pb, .str pt, .int .i64 pd, .str pu, .str pv, .sl px]]) := by
  have hz : tZero CC 29 = some (.agg [.int .i64 0, .int .i64 0, .int .i64 0, .str [], .int .i64 0, .int .i64 0, .str [], .int .i64 0, .str [], .str [], .nils]) := by kernel_rfl
  have hi : CC.P.info? 29 = some IEx := by kernel_rfl
  have hs : IEx.size = 11 := by kernel_rfl
  have hu : CC.P.underlying 27 = some (.slice 29) := by kernel_rfl
  have ht : tAgg CC 29 = true := by kernel_rfl
  have hp : sealNew true 11 (.agg [.int .i64 pk, .int .i64 pn, .int .i64 pm, .str ps, .int .i64 pa, .int .i64 pb, .str pt, .int .i64 pd, .str pu, .str pv, .sl px]) = some (.agg [.int .i64 pk, .int .i64 pn, .int .i64 pm, .str ps, .int .i64 pa, .int .i64 pb, .str pt, .int .i64 pd, .str pu, .str pv, .sl px]) := rfl
  unfold buildSliceP
  simp only [hu, hz, hi, hs, ht, List.foldlM_cons, List.foldlM_nil, hp]
  rfl
theorem bsEx2 (pk pn pm pa pb pd qk qn qm qa qb qd : Int) (ps pt pu pv qs qt qu qv : List UInt8) (px qx : List PV) : buildSliceP CC 27 2 [(0, .agg [.int .i64 pk, .int .i64 pn, .int .i64 pm, .str ps, .int .i64 pa, .int .i64 pb, .str pt, .int .i64 pd, .str pu, .str pv, .sl px]), (1, .agg [.int .i64 qk, .int .i64 qn, .int .i64 qm, .str qs, .int .i64 qa, .int .i64 qb, .str qt, .int .i64 qd, .str qu, .str qv, .sl qx])] = some (.osl 29 [.agg [.int .i64 pk, .int .i64 pn, .int .i64 pm, .str ps, .int .i64 pa, .int .i64 pb, .str pt, .int .i64 pd, .str pu, .str pv, .sl px], .agg [.int .i64 qk, .int .i64 qn, .int .i64 qm, .str qs, .int .i64 qa, .int .i64 qb, .str qt, .int .i64 qd, .str qu, .str qv, .sl qx]]) := by
  have hz : tZero CC 29 = some (.agg [.int .i64 0, .int .i64 0, .int .i64 0, .str [], .int .i64 0, .int .i64 0, .str [], .int .i64 0, .str [], .str [], .nils]) := by kernel_rfl
  have hi : CC.P.info? 29 = some IEx := by kernel_rfl
  have hs : IEx.size = 11 := by kernel_rfl
  have hu : CC.P.underlying 27 = some (.slice 29) := by kernel_rfl
  have ht : tAgg CC 29 = true := by kernel_rfl
  have hp : sealNew true 11 (.agg [.int .i64 pk, .int .i64 pn, .int .i64 pm, .str ps, .int .i64 pa, .int .i64 pb, .str pt, .int .i64 pd, .str pu, .str pv, .sl px]) = some (.agg [.int .i64 pk, .int .i64 pn, .int .i64 pm, .str ps, .int .i64 pa, .int .i64 pb, .str pt, .int .i64 pd, .str pu, .str pv, .sl px]) := rfl
  have hq : sealNew true 11 (.agg [.int .i64 qk, .int .i64 qn, .int .i64 qm, .str qs, .int .i64 qa, .int .i64 qb, .str qt, .int .i64 qd, .str qu, .str qv, .sl qx]) = some (.agg [.int .i64 qk, .int .i64 qn, .int .i64 qm, .str qs, .int .i64 qa, .int .i64 qb, .str qt, .int .i64 qd, .str qu, .str qv, .sl qx]) := rfl
  unfold buildSliceP
  simp only [hu, hz, hi, hs, ht, List.foldlM_cons, List.foldlM_nil, hp, hq]
  rfl
theorem buildKids (k : Int) (xs : List PV) : buildP CC 29 [(0, .int .i64 k), (6, .sl xs)] = some (.agg [.int .i64 k, .int .i64 0, .int .i64 0, .str [], .int .i64 0, .int .i64 0, .str [], .int .i64 0, .str [], .str [], .sl xs]) := by kernel_rfl
theorem call_op (k : Int) (a b : Tr) : ∃ bx, callL CC 27 [.int .i64 k, trV a, trV b] [] = some (.ret (knP k [trV a, trV b]), bx) := by
  obtain ⟨ak, an, am, anm, av, akey, akids⟩ := a
  obtain ⟨bk, bn, bm, bnm, bv, bkey, bkids⟩ := b
  unfold knP trV
  generalize trVs akids = xs
  generalize trVs bkids = ys
  rw [callL_enter (fn := Tryz.f27) (c := Tryz.f27.body.getD .skip) rfl rfl fat_L30_op rfl ok_L30_op (Nat.le_of_ble_eq_true rfl)]
  obtain ⟨tu, htu⟩ := VLs
  obtain ⟨tr, htr⟩ := TRs
  obtain ⟨tk, hky⟩ := KYs
  obtain ⟨ev, eo, so, co, ⟨hev, hco⟩, R⟩ := RULES CC; rw [← hev]
  simp only [fpart, part', Tryz.f27, Option.getD]
  simp (maxSteps := 5000000) only [SA, SB, SD, R, guardAt, binP, intP, indexAddrP, elemsOf, readCells, lenP, lenAt, resultsP, resultP, oneOr, reduceCtorEq, reduceIte, Nat.reduceEqDiff, Nat.reduceAdd, Nat.zero_add, Nat.reduceMul, Nat.reduceLT, Nat.reduceLeDiff, Int.reduceLT, Int.reduceNeg, Int.reduceLE, appendP, appendAt, letGo, setLoc, locVal, Int.reduceToNat, boxCells, und, TG, SE, SC, EXf, List.getElem?_cons_zero, List.getElem?_cons_succ, unP, htu, htr, hky, buildLf, buildFl1, buildFl0, buildEx, loadR, loadP, storeR, storeK, storeCellsP, laid, lay, setBox, List.set_cons_zero, List.set_cons_succ, List.length_cons, List.length_nil, Nat.le_refl, Option.map_some, List.take_succ_cons, List.take_zero, List.drop_succ_cons, List.drop_zero, List.drop_nil, List.filter_nil, List.nil_append, List.cons_append, Int.reduceBEq, Int.reduceBNe, Int.reduceGT, Int.reduceGE, Bool.not_true, Bool.not_false, bsEx2, buildKids]
  exact ⟨_, rfl⟩
theorem trV_pure' (t : Tr) : (trV t).pure = true := by rw [trV_agg]; simp only [PV.pure, trC_pure]
theorem op_op (k : Int) (a b : Tr) (bx) : callOp CC (callL CC) 27 [.int .i64 k, trV a, trV b] bx = some (.ret (knP k [trV a, trV b]), bx) := by
  obtain ⟨c, h⟩ := call_op k a b
  exact callOp_of rfl (by simp only [pureL, PV.pure, trV_pure', Bool.and_self]) h (by simp only [knP, pureL, PV.pure, trV_pure', Bool.and_self])
theorem op_opL (k pk pn pm pa pb pd qk qn qm qa qb qd : Int) (ps pt pu pv qs qt qu qv : List UInt8) (px qx : List PV) (hp : pureL px = true) (hq : pureL qx = true) (bx) : callOp CC (callL CC) 27 [.int .i64 k, .agg [.int .i64 pk, .int .i64 pn, .int .i64 pm, .str ps, .int .i64 pa, .int .i64 pb, .str pt, .int .i64 pd, .str pu, .str pv, .sl px], .agg [.int .i64 qk, .int .i64 qn, .int .i64 qm, .str qs, .int .i64 qa, .int .i64 qb, .str qt, .int .i64 qd, .str qu, .str qv, .sl qx]] bx = some (.ret (.agg [.int .i64 k, .int .i64 0, .int .i64 0, .str [], .int .i64 0, .int .i64 0, .str [], .int .i64 0, .str [], .str [], .sl [.agg [.int .i64 pk, .int .i64 pn, .int .i64 pm, .str ps, .int .i64 pa, .int .i64 pb, .str pt, .int .i64 pd, .str pu, .str pv, .sl px], .agg [.int .i64 qk, .int .i64 qn, .int .i64 qm, .str qs, .int .i64 qa, .int .i64 qb, .str qt, .int .i64 qd, .str qu, .str qv, .sl qx]]]), bx) := by
  have h : ∃ b, callL CC 27 [.int .i64 k, .agg [.int .i64 pk, .int .i64 pn, .int .i64 pm, .str ps, .int .i64 pa, .int .i64 pb, .str pt, .int .i64 pd, .str pu, .str pv, .sl px], .agg [.int .i64 qk, .int .i64 qn, .int .i64 qm, .str qs, .int .i64 qa, .int .i64 qb, .str qt, .int .i64 qd, .str qu, .str qv, .sl qx]] [] = some (.ret (.agg [.int .i64 k, .int .i64 0, .int .i64 0, .str [], .int .i64 0, .int .i64 0, .str [], .int .i64 0, .str [], .str [], .sl [.agg [.int .i64 pk, .int .i64 pn, .int .i64 pm, .str ps, .int .i64 pa, .int .i64 pb, .str pt, .int .i64 pd, .str pu, .str pv, .sl px], .agg [.int .i64 qk, .int .i64 qn, .int .i64 qm, .str qs, .int .i64 qa, .int .i64 qb, .str qt, .int .i64 qd, .str qu, .str qv, .sl qx]]]), b) := by
    rw [callL_enter (fn := Tryz.f27) (c := Tryz.f27.body.getD .skip) rfl rfl fat_L30_op rfl ok_L30_op (Nat.le_of_ble_eq_true rfl)]
    obtain ⟨tu, htu⟩ := VLs
    obtain ⟨tr, htr⟩ := TRs
    obtain ⟨tk, hky⟩ := KYs
    obtain ⟨ev, eo, so, co, ⟨hev, hco⟩, R⟩ := RULES CC; rw [← hev]
    simp only [fpart, part', Tryz.f27, Option.getD]
    simp (maxSteps := 5000000) only [SA, SB, SD, R, guardAt, binP, intP, indexAddrP, elemsOf, readCells, lenP, lenAt, resultsP, resultP, oneOr, reduceCtorEq, reduceIte, Nat.reduceEqDiff, Nat.reduceAdd, Nat.zero_add, Nat.reduceMul, Nat.reduceLT, Nat.reduceLeDiff, Int.reduceLT, Int.reduceNeg, Int.reduceLE, appendP, appendAt, letGo, setLoc, locVal, Int.reduceToNat, boxCells, und, TG, SE, SC, EXf, List.getElem?_cons_zero, List.getElem?_cons_succ, unP, htu, htr, hky, buildLf, buildFl1, buildFl0, buildEx, loadR, loadP, storeR, storeK, storeCellsP, laid, lay, setBox, List.set_cons_zero, List.set_cons_succ, List.length_cons, List.length_nil, Nat.le_refl, Option.map_some, List.take_succ_cons, List.take_zero, List.drop_succ_cons, List.drop_zero, List.drop_nil, List.filter_nil, List.nil_append, List.cons_append, Int.reduceBEq, Int.reduceBNe, Int.reduceGT, Int.reduceGE, Bool.not_true, Bool.not_false, bsEx2, buildKids]
    exact ⟨_, rfl⟩
  obtain ⟨b, h⟩ := h
  exact callOp_of rfl (by simp only [pureL, PV.pure, hp, hq, Bool.and_self]) h (by simp only [pureL, PV.pure, hp, hq, Bool.and_self])
theorem buildKy3 : buildP CC 26 [(0, .int .i64 3), (1, .str [108, 101, 118, 101, 108]), (2, .str [108, 101, 118, 101, 108])] = some (.agg [.int .i64 3, .str [108, 101, 118, 101, 108], .str [108, 101, 118, 101, 108]]) := by kernel_rfl
theorem buildAt : buildP CC 29 [(0, .int .i64 2), (5, .agg [.int .i64 3, .str [108, 101, 118, 101, 108], .str [108, 101, 118, 101, 108]])] = some (.agg [.int .i64 2, .int .i64 0, .int .i64 0, .str [], .int .i64 0, .int .i64 0, .str [], .int .i64 3, .str [108, 101, 118, 101, 108], .str [108, 101, 118, 101, 108], .nils]) := by kernel_rfl
theorem bldT : buildP CC 58 [(0, .int .i64 5)] = some (.agg [.int .i64 5, .int .i64 0, .str [], .str [], .int .i64 0, .str [], .str [], .str [], .int .i64 0, .int .i64 0]) := by kernel_rfl
theorem bldTs : buildSliceP CC 22 1 [(0, .agg [.int .i64 5, .int .i64 0, .str [], .str [], .int .i64 0, .str [], .str [], .str [], .int .i64 0, .int .i64 0])] = some (.osl 58 [.agg [.int .i64 5, .int .i64 0, .str [], .str [], .int .i64 0, .str [], .str [], .str [], .int .i64 0, .int .i64 0]]) := by kernel_rfl
theorem bldS : buildP CC 60 [(0, .int .i64 4), (2, .str [97, 119, 97, 121])] = some (.agg [.int .i64 4, .int .i64 0, .str [], .str [], .str [97, 119, 97, 121], .int .i64 0, .int .i64 0, .int .i64 0, .str [], .int .i64 0, .int .i64 0, .str [], .int .i64 0, .str [], .str [], .nils]) := by kernel_rfl
theorem bldSs : buildSliceP CC 30 1 [(0, .agg [.int .i64 4, .int .i64 0, .str [], .str [], .str [97, 119, 97, 121], .int .i64 0, .int .i64 0, .int .i64 0, .str [], .int .i64 0, .int .i64 0, .str [], .int .i64 0, .str [], .str [], .nils])] = some (.osl 60 [.agg [.int .i64 4, .int .i64 0, .str [], .str [], .str [97, 119, 97, 121], .int .i64 0, .int .i64 0, .int .i64 0, .str [], .int .i64 0, .int .i64 0, .str [], .int .i64 0, .str [], .str [], .sl []]]) := by kernel_rfl
theorem bldR : buildP CC 32 [(0, .str [97]), (2, .sl [.agg [.int .i64 5, .int .i64 0, .str [], .str [], .int .i64 0, .str [], .str [], .str [], .int .i64 0, .int .i64 0]]), (3, .agg [.int .i64 1, .int .i64 0, .int .i64 0, .str [], .int .i64 1, .int .i64 1, .str [], .int .i64 0, .str [], .str [], .sl []]), (4, .sl [.agg [.int .i64 4, .int .i64 0, .str [], .str [], .str [97, 119, 97, 121], .int .i64 0, .int .i64 0, .int .i64 0, .str [], .int .i64 0, .int .i64 0, .str [], .int .i64 0, .str [], .str [], .sl []]])] = some (.agg [.str [97], .int .i64 0, .sl [.agg [.int .i64 5, .int .i64 0, .str [], .str [], .int .i64 0, .str [], .str [], .str [], .int .i64 0, .int .i64 0]], .int .i64 1, .int .i64 0, .int .i64 0, .str [], .int .i64 1, .int .i64 1, .str [], .int .i64 0, .str [], .str [], .sl [], .sl [.agg [.int .i64 4, .int .i64 0, .str [], .str [], .str [97, 119, 97, 121], .int .i64 0, .int .i64 0, .int .i64 0, .str [], .int .i64 0, .int .i64 0, .str [], .int .i64 0, .str [], .str [], .sl []]]]) := by kernel_rfl
theorem bldRs1 : buildSliceP CC 41 1 [(0, .agg [.str [97], .int .i64 0, .sl [.agg [.int .i64 5, .int .i64 0, .str [], .str [], .int .i64 0, .str [], .str [], .str [], .int .i64 0, .int .i64 0]], .int .i64 1, .int .i64 0, .int .i64 0, .str [], .int .i64 1, .int .i64 1, .str [], .int .i64 0, .str [], .str [], .sl [], .sl [.agg [.int .i64 4, .int .i64 0, .str [], .str [], .str [97, 119, 97, 121], .int .i64 0, .int .i64 0, .int .i64 0, .str [], .int .i64 0, .int .i64 0, .str [], .int .i64 0, .str [], .str [], .sl []]]])] = some (.osl 32 [.agg [.str [97], .int .i64 0, .sl [.agg [.int .i64 5, .int .i64 0, .str [], .str [], .int .i64 0, .str [], .str [], .str [], .int .i64 0, .int .i64 0]], .int .i64 1, .int .i64 0, .int .i64 0, .str [], .int .i64 1, .int .i64 1, .str [], .int .i64 0, .str [], .str [], .sl [], .sl [.agg [.int .i64 4, .int .i64 0, .str [], .str [], .str [97, 119, 97, 121], .int .i64 0, .int .i64 0, .int .i64 0, .str [], .int .i64 0, .int .i64 0, .str [], .int .i64 0, .str [], .str [], .sl []]]]]) := by kernel_rfl
theorem bldRs2 : buildSliceP CC 41 2 [(0, .agg [.str [97], .int .i64 0, .sl [.agg [.int .i64 5, .int .i64 0, .str [], .str [], .int .i64 0, .str [], .str [], .str [], .int .i64 0, .int .i64 0]], .int .i64 1, .int .i64 0, .int .i64 0, .str [], .int .i64 1, .int .i64 1, .str [], .int .i64 0, .str [], .str [], .sl [], .sl [.agg [.int .i64 4, .int .i64 0, .str [], .str [], .str [97, 119, 97, 121], .int .i64 0, .int .i64 0, .int .i64 0, .str [], .int .i64 0, .int .i64 0, .str [], .int .i64 0, .str [], .str [], .sl []]]]), (1, .agg [.str [97], .int .i64 0, .sl [.agg [.int .i64 5, .int .i64 0, .str [], .str [], .int .i64 0, .str [], .str [], .str [], .int .i64 0, .int .i64 0]], .int .i64 1, .int .i64 0, .int .i64 0, .str [], .int .i64 1, .int .i64 1, .str [], .int .i64 0, .str [], .str [], .sl [], .sl [.agg [.int .i64 4, .int .i64 0, .str [], .str [], .str [97, 119, 97, 121], .int .i64 0, .int .i64 0, .int .i64 0, .str [], .int .i64 0, .int .i64 0, .str [], .int .i64 0, .str [], .str [], .sl []]]])] = some (.osl 32 [.agg [.str [97], .int .i64 0, .sl [.agg [.int .i64 5, .int .i64 0, .str [], .str [], .int .i64 0, .str [], .str [], .str [], .int .i64 0, .int .i64 0]], .int .i64 1, .int .i64 0, .int .i64 0, .str [], .int .i64 1, .int .i64 1, .str [], .int .i64 0, .str [], .str [], .sl [], .sl [.agg [.int .i64 4, .int .i64 0, .str [], .str [], .str [97, 119, 97, 121], .int .i64 0, .int .i64 0, .int .i64 0, .str [], .int .i64 0, .int .i64 0, .str [], .int .i64 0, .str [], .str [], .sl []]]], .agg [.str [97], .int .i64 0, .sl [.agg [.int .i64 5, .int .i64 0, .str [], .str [], .int .i64 0, .str [], .str [], .str [], .int .i64 0, .int .i64 0]], .int .i64 1, .int .i64 0, .int .i64 0, .str [], .int .i64 1, .int .i64 1, .str [], .int .i64 0, .str [], .str [], .sl [], .sl [.agg [.int .i64 4, .int .i64 0, .str [], .str [], .str [97, 119, 97, 121], .int .i64 0, .int .i64 0, .int .i64 0, .str [], .int .i64 0, .int .i64 0, .str [], .int .i64 0, .str [], .str [], .sl []]]]]) := by kernel_rfl
theorem exR_eq : rlV exR = .agg [.str [97], .int .i64 0, .sl [.agg [.int .i64 5, .int .i64 0, .str [], .str [], .int .i64 0, .str [], .str [], .str [], .int .i64 0, .int .i64 0]], .int .i64 1, .int .i64 0, .int .i64 0, .str [], .int .i64 1, .int .i64 1, .str [], .int .i64 0, .str [], .str [], .sl [], .sl [.agg [.int .i64 4, .int .i64 0, .str [], .str [], .str [97, 119, 97, 121], .int .i64 0, .int .i64 0, .int .i64 0, .str [], .int .i64 0, .int .i64 0, .str [], .int .i64 0, .str [], .str [], .sl []]]] := rfl
theorem RLz : zeroCells CC 32 = some [.str [], .int .i64 0, .nils, .int .i64 0, .int .i64 0, .int .i64 0, .str [], .int .i64 0, .int .i64 0, .str [], .int .i64 0, .str [], .str [], .nils, .nils] := by kernel_rfl
theorem strP_ne (s : List UInt8) : strP .neq s s = some (.bool false) := by simp [strP]
theorem strP_eq (s : List UInt8) : strP .eql s s = some (.bool true) := by simp [strP]
theorem call_awake : ∃ bx, callL CC 10 [] [] = some (.ret (.bool true), bx) := by
  have f1 := op_Flag true
  have f0 := op_Flag false
  have l0 := op_lit 0
  have l1 := op_lit 1
  have l2 := op_lit 2
  have l5 := op_lit 5
  have lm := op_lit (-5)
  have x1 := op_ex1
  have x2 := op_ex2
  have x3 := op_ex3
  have x4 := op_ex4
  have x5 := op_ex5
  have x6 := op_ex6
  have op := op_opL
  simp only [if_true, Bool.false_eq_true, if_false] at f1 f0
  simp only [trV, trVs, opT, ltT, atT, flT] at f1 f0 l0 l1 l2 l5 lm x1 x2 x3 x4
  unfold exS1 at x1
  unfold exS2 at x2
  unfold exS3 at x3
  unfold exS4 at x4
  unfold exS5 at x5
  rw [exR_eq] at x5 x6
  rw [callL_enter (fn := Tryz.f10) (c := Tryz.f10.body.getD .skip) rfl rfl fat_L30_awake rfl ok_L30_awake (Nat.le_of_ble_eq_true rfl)]
  obtain ⟨tu, htu⟩ := VLs
  obtain ⟨tr, htr⟩ := TRs
  obtain ⟨tk, hky⟩ := KYs
  obtain ⟨te, hev1⟩ := EVs
  obtain ⟨tg, htg⟩ := TG_s
  obtain ⟨tp, hsp⟩ := SPs
  obtain ⟨tl, hrl⟩ := RLs
  obtain ⟨ev, eo, so, co, ⟨hev, hco⟩, R⟩ := RULES CC; rw [← hev]
  rw [← hco] at f1 f0 l0 l1 l2 l5 lm x1 x2 x3 x4 x5 x6 op
  simp only [fpart, part', Tryz.f10, Option.getD]
  have t1 := op 10 2 0 0 0 0 3 1 0 0 2 5 0 [] [] [108, 101, 118, 101, 108] [108, 101, 118, 101, 108] [] [] [] [] [] [] rfl rfl
  have t2 := op 11 1 0 0 2 1 0 1 0 0 2 2 0 [] [] [] [] [] [] [] [] [] [] rfl rfl
  have t3 := op 12 1 0 0 2 0 0 2 0 0 0 0 3 [] [] [] [] [] [] [108, 101, 118, 101, 108] [108, 101, 118, 101, 108] [] [] rfl rfl
  have t4 := op 13 11 0 0 0 0 0 12 0 0 0 0 0 [] [] [] [] [] [] [] [] [.agg [.int .i64 1, .int .i64 0, .int .i64 0, .str [], .int .i64 2, .int .i64 1, .str [], .int .i64 0, .str [], .str [], .sl []], .agg [.int .i64 1, .int .i64 0, .int .i64 0, .str [], .int .i64 2, .int .i64 2, .str [], .int .i64 0, .str [], .str [], .sl []]] [.agg [.int .i64 1, .int .i64 0, .int .i64 0, .str [], .int .i64 2, .int .i64 0, .str [], .int .i64 0, .str [], .str [], .sl []], .agg [.int .i64 2, .int .i64 0, .int .i64 0, .str [], .int .i64 0, .int .i64 0, .str [], .int .i64 3, .str [108, 101, 118, 101, 108], .str [108, 101, 118, 101, 108], .sl []]] rfl rfl
  have t5 := op 8 1 0 0 1 1 0 1 0 0 1 0 0 [] [] [] [] [] [] [] [] [] [] rfl rfl
  have t6 := op 7 8 0 0 0 0 0 1 0 0 1 1 0 [] [] [] [] [] [] [] [] [.agg [.int .i64 1, .int .i64 0, .int .i64 0, .str [], .int .i64 1, .int .i64 1, .str [], .int .i64 0, .str [], .str [], .sl []], .agg [.int .i64 1, .int .i64 0, .int .i64 0, .str [], .int .i64 1, .int .i64 0, .str [], .int .i64 0, .str [], .str [], .sl []]] [] rfl rfl
  have t7 := op 12 1 0 0 2 0 0 1 0 0 2 (-5) 0 [] [] [] [] [] [] [] [] [] [] rfl rfl
  simp (maxSteps := 5000000) only [SA, SB, SD, R, guardAt, binP, intP, indexAddrP, elemsOf, readCells, lenP, lenAt, resultsP, resultP, oneOr, reduceCtorEq, reduceIte, Nat.reduceEqDiff, Nat.reduceAdd, Nat.zero_add, Nat.reduceMul, Nat.reduceLT, Nat.reduceLeDiff, Int.reduceLT, Int.reduceNeg, Int.reduceLE, appendP, appendAt, letGo, setLoc, locVal, Int.reduceToNat, boxCells, und, TG, SE, SC, EXf, List.getElem?_cons_zero, List.getElem?_cons_succ, unP, htu, htr, hky, buildLf, buildFl1, buildFl0, buildEx, loadR, loadP, storeR, storeK, storeCellsP, laid, lay, setBox, List.set_cons_zero, List.set_cons_succ, List.length_cons, List.length_nil, Nat.le_refl, Option.map_some, List.take_succ_cons, List.take_zero, List.drop_succ_cons, List.drop_zero, List.drop_nil, List.filter_nil, List.nil_append, List.cons_append, Int.reduceBEq, Int.reduceBNe, Int.reduceGT, Int.reduceGE, Bool.not_true, Bool.not_false, t1, t2, t3, t4, t5, t6, t7, bsEx1, buildKids, buildKy3, buildAt, f1, f0, l0, l1, l2, l5, lm, x1, x2, x3, x4, x5, x6, strP_ne, strP_eq, bldT, bldTs, bldS, bldSs, bldR, bldRs1, bldRs2, RLz, hrl, htg, hsp, hev1]
  exact ⟨_, rfl⟩
theorem op_awake (bx) : callOp CC (callL CC) 10 [] bx = some (.ret (.bool true), bx) := by
  obtain ⟨b, h⟩ := call_awake
  exact callOp_of rfl rfl h rfl
set_option maxHeartbeats 4000000
theorem ok_L30_PrintChecks : fnOK CC Tryz.f3 (Tryz.f3.body.getD .skip) = true := by kernel_rfl
theorem fat_L30_PrintChecks : CC.P.funcs[3]? = some Tryz.f3 := by kernel_rfl
theorem law_PrintChecks (r : Rl) (hr : okRl r) : ∃ bx, callL CC 3 [rlV r] [] = some (.ret (.bool true), bx) := by
  have opl := op_plain r
  have oaw := op_awake
  have och := op_print_CheckRl r
  have orc := op_R30_CheckRl r
  generalize rlE r = er at *
  generalize plRl r = pl at *
  obtain ⟨nm, pr, on, ife, dos⟩ := r
  unfold rlV trC at *
  obtain ⟨zk, zn, zm, znm, zv, zkey, zkids⟩ := ife
  unfold trV at *
  simp only [SA, List.cons_append, List.nil_append] at opl och orc ⊢
  have hpz := trVs_pure zkids
  have hpx := tgs_pure on
  have hpy := sps_pure dos
  generalize trVs zkids = zs at *
  generalize on.map tgV = xs at *
  generalize dos.map spV = ys at *
  clear hr
  rw [callL_enter (fn := Tryz.f3) (c := Tryz.f3.body.getD .skip) rfl rfl fat_L30_PrintChecks rfl ok_L30_PrintChecks (Nat.le_of_ble_eq_true rfl)]
  obtain ⟨tu, htu⟩ := VLs
  obtain ⟨tr, htr⟩ := TRs
  obtain ⟨tk, hky⟩ := KYs
  obtain ⟨te, hev1⟩ := EVs
  obtain ⟨tg, htg⟩ := TG_s
  obtain ⟨tp, hsp⟩ := SPs
  obtain ⟨tl, hrl⟩ := RLs
  cases pl with
  | false =>
    clear och orc
    obtain ⟨ev, eo, so, co, ⟨hev, hco⟩, R⟩ := RULES CC; rw [← hev]
    rw [← hco] at opl oaw
    simp only [fpart, part', Tryz.f3, Option.getD]
    simp (maxSteps := 5000000) only [SA, SB, SD, R, guardAt, binP, intP, indexAddrP, elemsOf, readCells, lenP, lenAt, resultsP, resultP, oneOr, reduceCtorEq, reduceIte, Nat.reduceEqDiff, Nat.reduceAdd, Nat.zero_add, Nat.reduceMul, Nat.reduceLT, Nat.reduceLeDiff, Int.reduceLT, Int.reduceNeg, Int.reduceLE, appendP, appendAt, letGo, setLoc, locVal, Int.reduceToNat, boxCells, und, TG, SE, SC, List.getElem?_cons_zero, List.getElem?_cons_succ, List.take_nil, List.nil_append, unP, htu, htr, hky, hev1, htg, hsp, hrl, loadR, loadP, lay, List.take_succ_cons, List.take_zero, List.drop_nil, List.filter_nil, List.cons_append, beq_self_eq_true, Bool.not_true, Bool.not_false, opl, oaw]
    exact ⟨_, rfl⟩
  | true =>
    have och := och rfl
    have orc := orc rfl
    obtain ⟨ev, eo, so, co, ⟨hev, hco⟩, R⟩ := RULES CC; rw [← hev]
    rw [← hco] at opl oaw och orc
    simp only [fpart, part', Tryz.f3, Option.getD]
    simp (maxSteps := 5000000) only [SA, SB, SD, R, guardAt, binP, intP, indexAddrP, elemsOf, readCells, lenP, lenAt, resultsP, resultP, oneOr, reduceCtorEq, reduceIte, Nat.reduceEqDiff, Nat.reduceAdd, Nat.zero_add, Nat.reduceMul, Nat.reduceLT, Nat.reduceLeDiff, Int.reduceLT, Int.reduceNeg, Int.reduceLE, appendP, appendAt, letGo, setLoc, locVal, Int.reduceToNat, boxCells, und, TG, SE, SC, List.getElem?_cons_zero, List.getElem?_cons_succ, List.take_nil, List.nil_append, unP, htu, htr, hky, hev1, htg, hsp, hrl, loadR, loadP, lay, List.take_succ_cons, List.take_zero, List.drop_nil, List.filter_nil, List.cons_append, beq_self_eq_true, Bool.not_true, Bool.not_false, opl, oaw, och, orc, hpx, hpy, hpz]
    exact ⟨_, rfl⟩
end Go.HH
