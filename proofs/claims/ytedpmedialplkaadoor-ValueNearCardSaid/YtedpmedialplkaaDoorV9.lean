/-
  Values: THE LAWS of the checks, of the limits, and of the nearest value.
-/
import Derived.Test.YtedpmedialplkaaDoorV8
namespace Go.HH
open Go Go.Proofs
set_option maxRecDepth 100000
set_option linter.unusedSimpArgs false
set_option linter.unusedVariables false
theorem ok_L20_ValueChecks : fnOK CC Tryd.f3 (Tryd.f3.body.getD .skip) = true := by kernel_rfl
theorem fat_L20_ValueChecks : CC.P.funcs[3]? = some Tryd.f3 := by kernel_rfl
theorem ok_L20_ValueLimits : fnOK CC Tryd.f4 (Tryd.f4.body.getD .skip) = true := by kernel_rfl
theorem fat_L20_ValueLimits : CC.P.funcs[4]? = some Tryd.f4 := by kernel_rfl
theorem sh_few {a : At} {v : Vl} (h : fewB a v = true) : shAt a ∧ v.2.2.length ≤ 100 := by
  unfold fewB at h
  rw [Bool.and_eq_true] at h
  obtain ⟨h1, h2⟩ := h
  obtain ⟨h1, h3, h4⟩ := of_decide_eq_true h1
  refine ⟨⟨by omega, by omega, fun s hs => ?_⟩, h4⟩
  unfold shortB at h2
  have := of_decide_eq_true (List.all_eq_true.1 h2 s hs)
  omega
theorem law_ValueChecks (a : At) (_ : okAt a) (v : Vl) (_ : okVl v) : ∃ bx, callL CC 3 [attV a, vlV v] [] = some (.ret (.bool true), bx) := by
  rw [callL_enter (fn := Tryd.f3) (c := Tryd.f3.body.getD .skip) rfl rfl fat_L20_ValueChecks rfl ok_L20_ValueChecks (Nat.le_of_ble_eq_true rfl)]
  have haw := op_awake
  have hf := op_few a v
  have hsh := sh_few (a := a) (v := v)
  have hpu := strs_pure a.en
  obtain ⟨tu, htu⟩ := VLs
  obtain ⟨ta, hta⟩ := ATs
  cases hb : fewB a v with
  | false =>
    rw [hb] at hf
    unfold attV vlV at *
    generalize strs a.en = xs at *
    obtain ⟨ev, eo, so, co, ⟨hev, hco⟩, R⟩ := RULES CC; rw [← hev]
    rw [← hco] at haw hf
    simp only [fpart, part', Tryd.f3, Option.getD]
    simp (maxSteps := 5000000) only [SA, SB, SD, R, guardAt, binP, intP, indexAddrP, elemsOf, readCells, lenP, lenAt, resultsP, resultP, oneOr, reduceCtorEq, reduceIte, Nat.reduceEqDiff, Nat.reduceAdd, Nat.zero_add, Nat.reduceMul, Nat.reduceLT, Nat.reduceLeDiff, Int.reduceLT, Int.reduceNeg, Int.reduceLE, appendP, appendAt, letGo, setLoc, locVal, Int.reduceToNat, boxCells, und, TG, SE, SC, unP, htu, hta, VLf, eqgV, eqVP, loadR, loadP, storeR, storeK, storeCellsP, laid, lay, setBox, List.set_cons_zero, List.set_cons_succ, Nat.le_refl, List.take_succ_cons, List.take_zero, List.drop_nil, List.filter_nil, List.cons_append, Int.reduceBEq, Int.reduceBNe, Int.reduceGT, Int.reduceGE, Bool.not_true, Bool.not_false, haw, hf, hpu]
    exact ⟨_, rfl⟩
  | true =>
    rw [hb] at hf
    obtain ⟨hs, _⟩ := hsh hb
    have c1 := op_value_Check v
    have c2 := op_R20_Check v
    have d1 := op_value_Def a hs
    have d2 := op_R20_Def a hs
    have f1 := op_value_Fits a hs v
    have f2 := op_R20_Fits a hs v
    have e1 : (ckV v == ckV v) = true := by simp
    have e2 : (dfV a == dfV a) = true := by simp
    have e3 : (ftV a v == ftV a v) = true := by simp
    generalize ckV v = x1 at *
    generalize dfV a = x2 at *
    generalize ftV a v = x3 at *
    clear hsh
    unfold attV vlV at *
    generalize strs a.en = xs at *
    obtain ⟨ev, eo, so, co, ⟨hev, hco⟩, R⟩ := RULES CC; rw [← hev]
    rw [← hco] at haw hf c1 c2 d1 d2 f1 f2
    simp only [fpart, part', Tryd.f3, Option.getD]
    simp (maxSteps := 5000000) only [SA, SB, SD, R, guardAt, binP, intP, indexAddrP, elemsOf, readCells, lenP, lenAt, resultsP, resultP, oneOr, reduceCtorEq, reduceIte, Nat.reduceEqDiff, Nat.reduceAdd, Nat.zero_add, Nat.reduceMul, Nat.reduceLT, Nat.reduceLeDiff, Int.reduceLT, Int.reduceNeg, Int.reduceLE, appendP, appendAt, letGo, setLoc, locVal, Int.reduceToNat, boxCells, und, TG, SE, SC, unP, htu, hta, VLf, eqgV, eqVP, loadR, loadP, storeR, storeK, storeCellsP, laid, lay, setBox, List.set_cons_zero, List.set_cons_succ, Nat.le_refl, List.take_succ_cons, List.take_zero, List.drop_nil, List.filter_nil, List.cons_append, Int.reduceBEq, Int.reduceBNe, Int.reduceGT, Int.reduceGE, Bool.not_true, Bool.not_false, haw, hf, hpu, c1, c2, d1, d2, f1, f2, e1, e2, e3]
    exact ⟨_, rfl⟩
theorem law_ValueLimits (a : At) (_ : okAt a) (v : Vl) (_ : okVl v) (w : Vl) (_ : okVl w) : ∃ bx, callL CC 4 [attV a, vlV v, vlV w] [] = some (.ret (.bool true), bx) := by
  rw [callL_enter (fn := Tryd.f4) (c := Tryd.f4.body.getD .skip) rfl rfl fat_L20_ValueLimits rfl ok_L20_ValueLimits (Nat.le_of_ble_eq_true rfl)]
  have haw := op_awake
  have hf := op_few a v
  have hsh := sh_few (a := a) (v := v)
  have hpu := strs_pure a.en
  obtain ⟨tu, htu⟩ := VLs
  obtain ⟨ta, hta⟩ := ATs
  have hlen := len_str w.2.2
  cases hb : fewB a v with
  | false =>
    rw [hb] at hf
    unfold attV vlV at *
    generalize strs a.en = xs at *
    obtain ⟨ev, eo, so, co, ⟨hev, hco⟩, R⟩ := RULES CC; rw [← hev]
    rw [← hco] at haw hf
    simp only [fpart, part', Tryd.f4, Option.getD]
    simp (maxSteps := 5000000) only [SA, SB, SD, R, guardAt, binP, intP, indexAddrP, elemsOf, readCells, lenP, lenAt, resultsP, resultP, oneOr, reduceCtorEq, reduceIte, Nat.reduceEqDiff, Nat.reduceAdd, Nat.zero_add, Nat.reduceMul, Nat.reduceLT, Nat.reduceLeDiff, Int.reduceLT, Int.reduceNeg, Int.reduceLE, appendP, appendAt, letGo, setLoc, locVal, Int.reduceToNat, boxCells, und, TG, SE, SC, unP, htu, hta, VLf, eqgV, eqVP, loadR, loadP, storeR, storeK, storeCellsP, laid, lay, setBox, List.set_cons_zero, List.set_cons_succ, Nat.le_refl, List.take_succ_cons, List.take_zero, List.drop_nil, List.filter_nil, List.cons_append, Int.reduceBEq, Int.reduceBNe, Int.reduceGT, Int.reduceGE, Bool.not_true, Bool.not_false, haw, hf, hpu]
    exact ⟨_, rfl⟩
  | true =>
    rw [hb] at hf
    obtain ⟨hs, _⟩ := hsh hb
    by_cases c1 : (w.2.2.length : Int) > 100
    · unfold attV vlV at *
      generalize strs a.en = xs at *
      clear hsh
      obtain ⟨ev, eo, so, co, ⟨hev, hco⟩, R⟩ := RULES CC; rw [← hev]
      rw [← hco] at haw hf
      simp only [fpart, part', Tryd.f4, Option.getD]
      simp (maxSteps := 5000000) only [SA, SB, SD, R, guardAt, binP, intP, indexAddrP, elemsOf, readCells, lenP, lenAt, resultsP, resultP, oneOr, reduceCtorEq, reduceIte, Nat.reduceEqDiff, Nat.reduceAdd, Nat.zero_add, Nat.reduceMul, Nat.reduceLT, Nat.reduceLeDiff, Int.reduceLT, Int.reduceNeg, Int.reduceLE, appendP, appendAt, letGo, setLoc, locVal, Int.reduceToNat, boxCells, und, TG, SE, SC, unP, htu, hta, VLf, eqgV, eqVP, loadR, loadP, storeR, storeK, storeCellsP, laid, lay, setBox, List.set_cons_zero, List.set_cons_succ, Nat.le_refl, List.take_succ_cons, List.take_zero, List.drop_nil, List.filter_nil, List.cons_append, Int.reduceBEq, Int.reduceBNe, Int.reduceGT, Int.reduceGE, Bool.not_true, Bool.not_false, haw, hf, hpu, hlen, c1]
      exact ⟨_, rfl⟩
    · have z1 := op_value_Zero a hs
      have z2 := op_R20_Zero a hs
      have l1 := op_value_Limit a hs v
      have l2 := op_R20_Limit a hs v
      have s1 := op_value_Less v w
      have s2 := op_R20_Less v w
      have e1 : (lessV v w == lessV v w) = true := by simp
      generalize lessV v w = x1 at *
      generalize zroV a = zr at *
      generalize limV a v = li at *
      obtain ⟨zk, zn, zs⟩ := zr
      obtain ⟨lk, ln, ls⟩ := li
      have e2 : ((zk == zk) && (zn == zn) && (zs == zs)) = true := by simp
      have e3 : ((lk == lk) && (ln == ln) && (ls == ls)) = true := by simp
      clear hsh
      unfold attV vlV at *
      simp only at *
      generalize strs a.en = xs at *
      obtain ⟨ev, eo, so, co, ⟨hev, hco⟩, R⟩ := RULES CC; rw [← hev]
      rw [← hco] at haw hf z1 z2 l1 l2 s1 s2
      simp only [fpart, part', Tryd.f4, Option.getD]
      simp (maxSteps := 5000000) only [SA, SB, SD, R, guardAt, binP, intP, indexAddrP, elemsOf, readCells, lenP, lenAt, resultsP, resultP, oneOr, reduceCtorEq, reduceIte, Nat.reduceEqDiff, Nat.reduceAdd, Nat.zero_add, Nat.reduceMul, Nat.reduceLT, Nat.reduceLeDiff, Int.reduceLT, Int.reduceNeg, Int.reduceLE, appendP, appendAt, letGo, setLoc, locVal, Int.reduceToNat, boxCells, und, TG, SE, SC, unP, htu, hta, VLf, eqgV, eqVP, loadR, loadP, storeR, storeK, storeCellsP, laid, lay, setBox, List.set_cons_zero, List.set_cons_succ, Nat.le_refl, List.take_succ_cons, List.take_zero, List.drop_nil, List.filter_nil, List.cons_append, Int.reduceBEq, Int.reduceBNe, Int.reduceGT, Int.reduceGE, Bool.not_true, Bool.not_false, haw, hf, hpu, hlen, c1, z1, z2, l1, l2, s1, s2, e1, e2, e3]
      exact ⟨_, rfl⟩
end Go.HH
