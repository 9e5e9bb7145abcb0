/-
  Joined: E15, E16, E17.
-/
import Derived.Test.YthjcaihemgllaaaGreatDoorPJ4
namespace Go.HH
open Go Go.Proofs
set_option maxRecDepth 100000
set_option linter.unusedSimpArgs false
set_option linter.unusedVariables false
set_option maxHeartbeats 4000000
theorem ok_R30_StepSpare : fnOK CC Tryz.f66 (Tryz.f66.body.getD .skip) = true := by kernel_rfl
theorem fat_R30_StepSpare : CC.P.funcs[66]? = some Tryz.f66 := by kernel_rfl
theorem ok_R30_Step : fnOK CC Tryz.f36 (Tryz.f36.body.getD .skip) = true := by kernel_rfl
theorem fat_R30_Step : CC.P.funcs[36]? = some Tryz.f36 := by kernel_rfl
/-- are the fields that a step does not use zero? -/
def ssB (s : Sp) : Bool := if s.k = 1 then s.nm == [] else if s.k = 2 then s.key.2.2 == [] else eqKy s.key (0, [], []) && nnB s.ex
theorem call_R30_StepSpare (s : Sp) : ∃ bx, callL CC 66 [spV s] [] = some (.ret (.bool (ssB s)), bx) := by
  unfold ssB
  obtain ⟨k, key, nm, ex⟩ := s
  obtain ⟨d, c, a⟩ := key
  have onn := op_R30_None ex
  simp only
  have hsn : strP .eql nm [] = some (.bool (nm == [])) := rfl
  have hsa : strP .eql a [] = some (.bool (a == [])) := rfl
  have heq : eqP CC 100 26 (.agg [.int .i64 d, .str c, .str a]) (.agg [.int .i64 0, .str [], .str []]) = some (eqKy (d, c, a) (0, [], [])) := by rw [eqKP]; rfl
  generalize eqKy (d, c, a) (0, [], []) = kz at *
  generalize nnB ex = nn at *
  generalize (nm == []) = n1 at *
  generalize (a == []) = a1 at *
  unfold spV trC
  obtain ⟨zk, zn, zm, znm, zv, zkey, zkids⟩ := ex
  unfold trV at onn ⊢
  generalize trVs zkids = zs at *
  simp only [SA, List.cons_append, List.nil_append] at onn ⊢
  rw [callL_enter (fn := Tryz.f66) (c := Tryz.f66.body.getD .skip) rfl rfl fat_R30_StepSpare rfl ok_R30_StepSpare (Nat.le_of_ble_eq_true rfl)]
  obtain ⟨tu, htu⟩ := VLs
  obtain ⟨tr, htr⟩ := TRs
  obtain ⟨tk, hky⟩ := KYs
  obtain ⟨te, hev1⟩ := EVs
  obtain ⟨tg, htg⟩ := TG_s
  obtain ⟨tp, hsp⟩ := SPs
  obtain ⟨tl, hrl⟩ := RLs
  by_cases k1 : k = 1
  · subst k1
    rw [if_pos rfl]
    obtain ⟨ev, eo, so, co, ⟨hev, hco⟩, R⟩ := RULES CC; rw [← hev]
    rw [← hco] at onn
    simp only [fpart, part', Tryz.f66, Option.getD]
    simp (maxSteps := 5000000) only [SA, SB, SD, R, guardAt, binP, intP, indexAddrP, elemsOf, readCells, lenP, lenAt, resultsP, resultP, oneOr, reduceCtorEq, reduceIte, Nat.reduceEqDiff, Nat.reduceAdd, Nat.zero_add, Nat.reduceMul, Nat.reduceLT, Nat.reduceLeDiff, Int.reduceLT, Int.reduceNeg, Int.reduceLE, appendP, appendAt, letGo, setLoc, locVal, Int.reduceToNat, boxCells, und, TG, SE, SC, List.getElem?_cons_zero, List.getElem?_cons_succ, eqgK, buildKy0, unP, htu, htr, hky, hev1, htg, hsp, hrl, loadR, loadP, lay, List.take_succ_cons, List.take_zero, List.drop_nil, List.filter_nil, List.cons_append, Int.reduceBEq, Int.reduceBNe, Int.reduceGT, Int.reduceLT, Int.reduceGE, Bool.not_true, Bool.not_false, onn, hsn]
    exact ⟨_, rfl⟩
  rw [if_neg k1]
  have k1p : (k == 1) = false := by simpa using k1
  by_cases k2 : k = 2
  · subst k2
    rw [if_pos rfl]
    obtain ⟨ev, eo, so, co, ⟨hev, hco⟩, R⟩ := RULES CC; rw [← hev]
    rw [← hco] at onn
    simp only [fpart, part', Tryz.f66, Option.getD]
    simp (maxSteps := 5000000) only [SA, SB, SD, R, guardAt, binP, intP, indexAddrP, elemsOf, readCells, lenP, lenAt, resultsP, resultP, oneOr, reduceCtorEq, reduceIte, Nat.reduceEqDiff, Nat.reduceAdd, Nat.zero_add, Nat.reduceMul, Nat.reduceLT, Nat.reduceLeDiff, Int.reduceLT, Int.reduceNeg, Int.reduceLE, appendP, appendAt, letGo, setLoc, locVal, Int.reduceToNat, boxCells, und, TG, SE, SC, List.getElem?_cons_zero, List.getElem?_cons_succ, eqgK, buildKy0, unP, htu, htr, hky, hev1, htg, hsp, hrl, loadR, loadP, lay, List.take_succ_cons, List.take_zero, List.drop_nil, List.filter_nil, List.cons_append, Int.reduceBEq, Int.reduceBNe, Int.reduceGT, Int.reduceLT, Int.reduceGE, Bool.not_true, Bool.not_false, onn, hsa]
    exact ⟨_, rfl⟩
  rw [if_neg k2]
  have k2p : (k == 2) = false := by simpa using k2
  cases kz with
  | false =>
    rw [Bool.false_and]
    obtain ⟨ev, eo, so, co, ⟨hev, hco⟩, R⟩ := RULES CC; rw [← hev]
    rw [← hco] at onn
    simp only [fpart, part', Tryz.f66, Option.getD]
    simp (maxSteps := 5000000) only [SA, SB, SD, R, guardAt, binP, intP, indexAddrP, elemsOf, readCells, lenP, lenAt, resultsP, resultP, oneOr, reduceCtorEq, reduceIte, Nat.reduceEqDiff, Nat.reduceAdd, Nat.zero_add, Nat.reduceMul, Nat.reduceLT, Nat.reduceLeDiff, Int.reduceLT, Int.reduceNeg, Int.reduceLE, appendP, appendAt, letGo, setLoc, locVal, Int.reduceToNat, boxCells, und, TG, SE, SC, List.getElem?_cons_zero, List.getElem?_cons_succ, eqgK, buildKy0, unP, htu, htr, hky, hev1, htg, hsp, hrl, loadR, loadP, lay, List.take_succ_cons, List.take_zero, List.drop_nil, List.filter_nil, List.cons_append, Int.reduceBEq, Int.reduceBNe, Int.reduceGT, Int.reduceLT, Int.reduceGE, Bool.not_true, Bool.not_false, onn, heq, k1p, k2p]
    exact ⟨_, rfl⟩
  | true =>
    rw [Bool.true_and]
    obtain ⟨ev, eo, so, co, ⟨hev, hco⟩, R⟩ := RULES CC; rw [← hev]
    rw [← hco] at onn
    simp only [fpart, part', Tryz.f66, Option.getD]
    simp (maxSteps := 5000000) only [SA, SB, SD, R, guardAt, binP, intP, indexAddrP, elemsOf, readCells, lenP, lenAt, resultsP, resultP, oneOr, reduceCtorEq, reduceIte, Nat.reduceEqDiff, Nat.reduceAdd, Nat.zero_add, Nat.reduceMul, Nat.reduceLT, Nat.reduceLeDiff, Int.reduceLT, Int.reduceNeg, Int.reduceLE, appendP, appendAt, letGo, setLoc, locVal, Int.reduceToNat, boxCells, und, TG, SE, SC, List.getElem?_cons_zero, List.getElem?_cons_succ, eqgK, buildKy0, unP, htu, htr, hky, hev1, htg, hsp, hrl, loadR, loadP, lay, List.take_succ_cons, List.take_zero, List.drop_nil, List.filter_nil, List.cons_append, Int.reduceBEq, Int.reduceBNe, Int.reduceGT, Int.reduceLT, Int.reduceGE, Bool.not_true, Bool.not_false, onn, heq, k1p, k2p]
    exact ⟨_, rfl⟩
theorem op_R30_StepSpare (s : Sp) (bx) : callOp CC (callL CC) 66 [spV s] bx = some (.ret (.bool (ssB s)), bx) := by
  obtain ⟨b, h⟩ := call_R30_StepSpare s
  exact callOp_of rfl (by simp only [pureL_cons, spV_pure, pureL_nil, Bool.and_self]) h rfl
theorem call_R30_Step (s : Sp) (hp : plSp s = true) : ∃ bx, callL CC 36 [spV s] [] = some (.ret (.int .i64 (spE s)), bx) := by
  have hl := plSp_len hp
  have oss := op_R30_StepSpare s
  unfold ssB at oss
  unfold spE
  obtain ⟨k, key, nm, ex⟩ := s
  obtain ⟨d, c, a⟩ := key
  obtain ⟨l1, l2, l3, l4⟩ := hl
  simp only at l1 l2 l3 l4 oss ⊢
  have onn := op_R30_None ex
  have ock := op_R28_Check ex (sh_md ex 220 30 l4)
  have oad := op_R30_Address d
  have ovc := op_R04_Valid c (by omega)
  have ova := op_R04_Valid a (by omega)
  have ovn := op_R04_Valid nm (by omega)
  have hlen := len_str nm
  unfold nmE
  have hn1 : nm ≠ [] ↔ (nm == []) = false := by simp
  have ha1 : a ≠ [] ↔ (a == []) = false := by simp
  simp only [hn1, ha1]
  generalize eqKy (d, c, a) (0, [], []) = kz at *
  generalize nnB ex = nn at *
  generalize ckT ex = ck at *
  generalize dvB d = q at *
  generalize valB c = vc at *
  generalize valB a = va at *
  generalize valB nm = vn at *
  generalize (nm == []) = n1 at *
  generalize (a == []) = a1 at *
  clear hn1 ha1
  unfold spV trC at oss ⊢
  obtain ⟨zk, zn, zm, znm, zv, zkey, zkids⟩ := ex
  unfold trV at onn ock oss ⊢
  generalize trVs zkids = zs at *
  simp only [SA, List.cons_append, List.nil_append] at onn ock oss ⊢
  rw [callL_enter (fn := Tryz.f36) (c := Tryz.f36.body.getD .skip) rfl rfl fat_R30_Step rfl ok_R30_Step (Nat.le_of_ble_eq_true rfl)]
  obtain ⟨tu, htu⟩ := VLs
  obtain ⟨tr, htr⟩ := TRs
  obtain ⟨tk, hky⟩ := KYs
  obtain ⟨te, hev1⟩ := EVs
  obtain ⟨tg, htg⟩ := TG_s
  obtain ⟨tp, hsp⟩ := SPs
  obtain ⟨tl, hrl⟩ := RLs
  by_cases c1 : k < 1
  · rw [if_neg (by omega), if_neg (by omega), if_neg (by omega)]
    obtain ⟨ev, eo, so, co, ⟨hev, hco⟩, R⟩ := RULES CC; rw [← hev]
    rw [← hco] at oss onn ock oad ovc ova ovn
    simp only [fpart, part', Tryz.f36, Option.getD]
    simp (maxSteps := 5000000) only [SA, SB, SD, R, guardAt, binP, intP, indexAddrP, elemsOf, readCells, lenP, lenAt, resultsP, resultP, oneOr, reduceCtorEq, reduceIte, Nat.reduceEqDiff, Nat.reduceAdd, Nat.zero_add, Nat.reduceMul, Nat.reduceLT, Nat.reduceLeDiff, Int.reduceLT, Int.reduceNeg, Int.reduceLE, appendP, appendAt, letGo, setLoc, locVal, Int.reduceToNat, boxCells, und, TG, SE, SC, List.getElem?_cons_zero, List.getElem?_cons_succ, eqgK, buildKy0, unP, htu, htr, hky, hev1, htg, hsp, hrl, loadR, loadP, lay, List.take_succ_cons, List.take_zero, List.drop_nil, List.filter_nil, List.cons_append, Int.reduceBEq, Int.reduceBNe, Int.reduceGT, Int.reduceLT, Int.reduceGE, Bool.not_true, Bool.not_false, oss, onn, ock, oad, ovc, ova, ovn, hlen, c1]
    exact ⟨_, rfl⟩
  by_cases c2 : k > 5
  · rw [if_neg (by omega), if_neg (by omega), if_neg (by omega)]
    obtain ⟨ev, eo, so, co, ⟨hev, hco⟩, R⟩ := RULES CC; rw [← hev]
    rw [← hco] at oss onn ock oad ovc ova ovn
    simp only [fpart, part', Tryz.f36, Option.getD]
    simp (maxSteps := 5000000) only [SA, SB, SD, R, guardAt, binP, intP, indexAddrP, elemsOf, readCells, lenP, lenAt, resultsP, resultP, oneOr, reduceCtorEq, reduceIte, Nat.reduceEqDiff, Nat.reduceAdd, Nat.zero_add, Nat.reduceMul, Nat.reduceLT, Nat.reduceLeDiff, Int.reduceLT, Int.reduceNeg, Int.reduceLE, appendP, appendAt, letGo, setLoc, locVal, Int.reduceToNat, boxCells, und, TG, SE, SC, List.getElem?_cons_zero, List.getElem?_cons_succ, eqgK, buildKy0, unP, htu, htr, hky, hev1, htg, hsp, hrl, loadR, loadP, lay, List.take_succ_cons, List.take_zero, List.drop_nil, List.filter_nil, List.cons_append, Int.reduceBEq, Int.reduceBNe, Int.reduceGT, Int.reduceLT, Int.reduceGE, Bool.not_true, Bool.not_false, oss, onn, ock, oad, ovc, ova, ovn, hlen, c1, c2]
    exact ⟨_, rfl⟩
  by_cases k1 : k = 1
  · subst k1
    rw [if_pos rfl] at oss ⊢
    cases n1 with
    | false =>
      rw [if_pos rfl]
      obtain ⟨ev, eo, so, co, ⟨hev, hco⟩, R⟩ := RULES CC; rw [← hev]
      rw [← hco] at oss onn ock oad ovc ova ovn
      simp only [fpart, part', Tryz.f36, Option.getD]
      simp (maxSteps := 5000000) only [SA, SB, SD, R, guardAt, binP, intP, indexAddrP, elemsOf, readCells, lenP, lenAt, resultsP, resultP, oneOr, reduceCtorEq, reduceIte, Nat.reduceEqDiff, Nat.reduceAdd, Nat.zero_add, Nat.reduceMul, Nat.reduceLT, Nat.reduceLeDiff, Int.reduceLT, Int.reduceNeg, Int.reduceLE, appendP, appendAt, letGo, setLoc, locVal, Int.reduceToNat, boxCells, und, TG, SE, SC, List.getElem?_cons_zero, List.getElem?_cons_succ, eqgK, buildKy0, unP, htu, htr, hky, hev1, htg, hsp, hrl, loadR, loadP, lay, List.take_succ_cons, List.take_zero, List.drop_nil, List.filter_nil, List.cons_append, Int.reduceBEq, Int.reduceBNe, Int.reduceGT, Int.reduceLT, Int.reduceGE, Bool.not_true, Bool.not_false, oss, onn, ock, oad, ovc, ova, ovn, hlen, c1, c2]
      exact ⟨_, rfl⟩
    | true =>
      rw [if_neg (by simp)]
      cases q with
      | false =>
        simp only [if_true, ne_eq, if_false, reduceCtorEq, Int.reduceEq, not_false_eq_true, not_true_eq_false, Bool.false_eq_true]
        obtain ⟨ev, eo, so, co, ⟨hev, hco⟩, R⟩ := RULES CC; rw [← hev]
        rw [← hco] at oss onn ock oad ovc ova ovn
        simp only [fpart, part', Tryz.f36, Option.getD]
        simp (maxSteps := 5000000) only [SA, SB, SD, R, guardAt, binP, intP, indexAddrP, elemsOf, readCells, lenP, lenAt, resultsP, resultP, oneOr, reduceCtorEq, reduceIte, Nat.reduceEqDiff, Nat.reduceAdd, Nat.zero_add, Nat.reduceMul, Nat.reduceLT, Nat.reduceLeDiff, Int.reduceLT, Int.reduceNeg, Int.reduceLE, appendP, appendAt, letGo, setLoc, locVal, Int.reduceToNat, boxCells, und, TG, SE, SC, List.getElem?_cons_zero, List.getElem?_cons_succ, eqgK, buildKy0, unP, htu, htr, hky, hev1, htg, hsp, hrl, loadR, loadP, lay, List.take_succ_cons, List.take_zero, List.drop_nil, List.filter_nil, List.cons_append, Int.reduceBEq, Int.reduceBNe, Int.reduceGT, Int.reduceLT, Int.reduceGE, Bool.not_true, Bool.not_false, oss, onn, ock, oad, ovc, ova, ovn, hlen, c1, c2]
        exact ⟨_, rfl⟩
      | true =>
        cases vc with
        | false =>
          simp only [if_true, ne_eq, if_false, reduceCtorEq, Int.reduceEq, not_false_eq_true, not_true_eq_false, Bool.false_eq_true, Bool.false_and, Bool.true_eq_false]
          obtain ⟨ev, eo, so, co, ⟨hev, hco⟩, R⟩ := RULES CC; rw [← hev]
          rw [← hco] at oss onn ock oad ovc ova ovn
          simp only [fpart, part', Tryz.f36, Option.getD]
          simp (maxSteps := 5000000) only [SA, SB, SD, R, guardAt, binP, intP, indexAddrP, elemsOf, readCells, lenP, lenAt, resultsP, resultP, oneOr, reduceCtorEq, reduceIte, Nat.reduceEqDiff, Nat.reduceAdd, Nat.zero_add, Nat.reduceMul, Nat.reduceLT, Nat.reduceLeDiff, Int.reduceLT, Int.reduceNeg, Int.reduceLE, appendP, appendAt, letGo, setLoc, locVal, Int.reduceToNat, boxCells, und, TG, SE, SC, List.getElem?_cons_zero, List.getElem?_cons_succ, eqgK, buildKy0, unP, htu, htr, hky, hev1, htg, hsp, hrl, loadR, loadP, lay, List.take_succ_cons, List.take_zero, List.drop_nil, List.filter_nil, List.cons_append, Int.reduceBEq, Int.reduceBNe, Int.reduceGT, Int.reduceLT, Int.reduceGE, Bool.not_true, Bool.not_false, oss, onn, ock, oad, ovc, ova, ovn, hlen, c1, c2]
          exact ⟨_, rfl⟩
        | true =>
          cases va with
          | false =>
            simp only [if_true, ne_eq, if_false, reduceCtorEq, Int.reduceEq, not_false_eq_true, not_true_eq_false, Bool.false_eq_true, Bool.and_false, Bool.true_eq_false]
            obtain ⟨ev, eo, so, co, ⟨hev, hco⟩, R⟩ := RULES CC; rw [← hev]
            rw [← hco] at oss onn ock oad ovc ova ovn
            simp only [fpart, part', Tryz.f36, Option.getD]
            simp (maxSteps := 5000000) only [SA, SB, SD, R, guardAt, binP, intP, indexAddrP, elemsOf, readCells, lenP, lenAt, resultsP, resultP, oneOr, reduceCtorEq, reduceIte, Nat.reduceEqDiff, Nat.reduceAdd, Nat.zero_add, Nat.reduceMul, Nat.reduceLT, Nat.reduceLeDiff, Int.reduceLT, Int.reduceNeg, Int.reduceLE, appendP, appendAt, letGo, setLoc, locVal, Int.reduceToNat, boxCells, und, TG, SE, SC, List.getElem?_cons_zero, List.getElem?_cons_succ, eqgK, buildKy0, unP, htu, htr, hky, hev1, htg, hsp, hrl, loadR, loadP, lay, List.take_succ_cons, List.take_zero, List.drop_nil, List.filter_nil, List.cons_append, Int.reduceBEq, Int.reduceBNe, Int.reduceGT, Int.reduceLT, Int.reduceGE, Bool.not_true, Bool.not_false, oss, onn, ock, oad, ovc, ova, ovn, hlen, c1, c2]
            exact ⟨_, rfl⟩
          | true =>
            simp only [if_true, ne_eq, if_false, reduceCtorEq, Int.reduceEq, not_false_eq_true, not_true_eq_false, Bool.false_eq_true, Bool.and_self, Bool.true_eq_false]
            obtain ⟨ev, eo, so, co, ⟨hev, hco⟩, R⟩ := RULES CC; rw [← hev]
            rw [← hco] at oss onn ock oad ovc ova ovn
            simp only [fpart, part', Tryz.f36, Option.getD]
            simp (maxSteps := 5000000) only [SA, SB, SD, R, guardAt, binP, intP, indexAddrP, elemsOf, readCells, lenP, lenAt, resultsP, resultP, oneOr, reduceCtorEq, reduceIte, Nat.reduceEqDiff, Nat.reduceAdd, Nat.zero_add, Nat.reduceMul, Nat.reduceLT, Nat.reduceLeDiff, Int.reduceLT, Int.reduceNeg, Int.reduceLE, appendP, appendAt, letGo, setLoc, locVal, Int.reduceToNat, boxCells, und, TG, SE, SC, List.getElem?_cons_zero, List.getElem?_cons_succ, eqgK, buildKy0, unP, htu, htr, hky, hev1, htg, hsp, hrl, loadR, loadP, lay, List.take_succ_cons, List.take_zero, List.drop_nil, List.filter_nil, List.cons_append, Int.reduceBEq, Int.reduceBNe, Int.reduceGT, Int.reduceLT, Int.reduceGE, Bool.not_true, Bool.not_false, oss, onn, ock, oad, ovc, ova, ovn, hlen, c1, c2]
            exact ⟨_, rfl⟩
  rw [if_neg k1] at oss ⊢
  by_cases k2 : k = 2
  · subst k2
    rw [if_pos rfl] at oss ⊢
    cases a1 with
    | false =>
      rw [if_pos rfl]
      obtain ⟨ev, eo, so, co, ⟨hev, hco⟩, R⟩ := RULES CC; rw [← hev]
      rw [← hco] at oss onn ock oad ovc ova ovn
      simp only [fpart, part', Tryz.f36, Option.getD]
      simp (maxSteps := 5000000) only [SA, SB, SD, R, guardAt, binP, intP, indexAddrP, elemsOf, readCells, lenP, lenAt, resultsP, resultP, oneOr, reduceCtorEq, reduceIte, Nat.reduceEqDiff, Nat.reduceAdd, Nat.zero_add, Nat.reduceMul, Nat.reduceLT, Nat.reduceLeDiff, Int.reduceLT, Int.reduceNeg, Int.reduceLE, appendP, appendAt, letGo, setLoc, locVal, Int.reduceToNat, boxCells, und, TG, SE, SC, List.getElem?_cons_zero, List.getElem?_cons_succ, eqgK, buildKy0, unP, htu, htr, hky, hev1, htg, hsp, hrl, loadR, loadP, lay, List.take_succ_cons, List.take_zero, List.drop_nil, List.filter_nil, List.cons_append, Int.reduceBEq, Int.reduceBNe, Int.reduceGT, Int.reduceLT, Int.reduceGE, Bool.not_true, Bool.not_false, oss, onn, ock, oad, ovc, ova, ovn, hlen, c1, c2]
      exact ⟨_, rfl⟩
    | true =>
      rw [if_neg (by simp)]
      cases q with
      | false =>
        simp only [if_true, ne_eq, if_false, reduceCtorEq, Int.reduceEq, not_false_eq_true, not_true_eq_false, Bool.false_eq_true]
        obtain ⟨ev, eo, so, co, ⟨hev, hco⟩, R⟩ := RULES CC; rw [← hev]
        rw [← hco] at oss onn ock oad ovc ova ovn
        simp only [fpart, part', Tryz.f36, Option.getD]
        simp (maxSteps := 5000000) only [SA, SB, SD, R, guardAt, binP, intP, indexAddrP, elemsOf, readCells, lenP, lenAt, resultsP, resultP, oneOr, reduceCtorEq, reduceIte, Nat.reduceEqDiff, Nat.reduceAdd, Nat.zero_add, Nat.reduceMul, Nat.reduceLT, Nat.reduceLeDiff, Int.reduceLT, Int.reduceNeg, Int.reduceLE, appendP, appendAt, letGo, setLoc, locVal, Int.reduceToNat, boxCells, und, TG, SE, SC, List.getElem?_cons_zero, List.getElem?_cons_succ, eqgK, buildKy0, unP, htu, htr, hky, hev1, htg, hsp, hrl, loadR, loadP, lay, List.take_succ_cons, List.take_zero, List.drop_nil, List.filter_nil, List.cons_append, Int.reduceBEq, Int.reduceBNe, Int.reduceGT, Int.reduceLT, Int.reduceGE, Bool.not_true, Bool.not_false, oss, onn, ock, oad, ovc, ova, ovn, hlen, c1, c2]
        exact ⟨_, rfl⟩
      | true =>
        cases vc with
        | false =>
          simp only [if_true, ne_eq, if_false, reduceCtorEq, Int.reduceEq, not_false_eq_true, not_true_eq_false, Bool.false_eq_true, Bool.false_and, Bool.true_eq_false]
          obtain ⟨ev, eo, so, co, ⟨hev, hco⟩, R⟩ := RULES CC; rw [← hev]
          rw [← hco] at oss onn ock oad ovc ova ovn
          simp only [fpart, part', Tryz.f36, Option.getD]
          simp (maxSteps := 5000000) only [SA, SB, SD, R, guardAt, binP, intP, indexAddrP, elemsOf, readCells, lenP, lenAt, resultsP, resultP, oneOr, reduceCtorEq, reduceIte, Nat.reduceEqDiff, Nat.reduceAdd, Nat.zero_add, Nat.reduceMul, Nat.reduceLT, Nat.reduceLeDiff, Int.reduceLT, Int.reduceNeg, Int.reduceLE, appendP, appendAt, letGo, setLoc, locVal, Int.reduceToNat, boxCells, und, TG, SE, SC, List.getElem?_cons_zero, List.getElem?_cons_succ, eqgK, buildKy0, unP, htu, htr, hky, hev1, htg, hsp, hrl, loadR, loadP, lay, List.take_succ_cons, List.take_zero, List.drop_nil, List.filter_nil, List.cons_append, Int.reduceBEq, Int.reduceBNe, Int.reduceGT, Int.reduceLT, Int.reduceGE, Bool.not_true, Bool.not_false, oss, onn, ock, oad, ovc, ova, ovn, hlen, c1, c2]
          exact ⟨_, rfl⟩
        | true =>
          cases vn with
          | false =>
            simp only [if_true, ne_eq, if_false, reduceCtorEq, Int.reduceEq, not_false_eq_true, not_true_eq_false, Bool.false_eq_true, Bool.and_false, Bool.true_eq_false]
            obtain ⟨ev, eo, so, co, ⟨hev, hco⟩, R⟩ := RULES CC; rw [← hev]
            rw [← hco] at oss onn ock oad ovc ova ovn
            simp only [fpart, part', Tryz.f36, Option.getD]
            simp (maxSteps := 5000000) only [SA, SB, SD, R, guardAt, binP, intP, indexAddrP, elemsOf, readCells, lenP, lenAt, resultsP, resultP, oneOr, reduceCtorEq, reduceIte, Nat.reduceEqDiff, Nat.reduceAdd, Nat.zero_add, Nat.reduceMul, Nat.reduceLT, Nat.reduceLeDiff, Int.reduceLT, Int.reduceNeg, Int.reduceLE, appendP, appendAt, letGo, setLoc, locVal, Int.reduceToNat, boxCells, und, TG, SE, SC, List.getElem?_cons_zero, List.getElem?_cons_succ, eqgK, buildKy0, unP, htu, htr, hky, hev1, htg, hsp, hrl, loadR, loadP, lay, List.take_succ_cons, List.take_zero, List.drop_nil, List.filter_nil, List.cons_append, Int.reduceBEq, Int.reduceBNe, Int.reduceGT, Int.reduceLT, Int.reduceGE, Bool.not_true, Bool.not_false, oss, onn, ock, oad, ovc, ova, ovn, hlen, c1, c2]
            exact ⟨_, rfl⟩
          | true =>
            cases nn with
            | false =>
              simp only [if_true, ne_eq, if_false, reduceCtorEq, Int.reduceEq, not_false_eq_true, not_true_eq_false, Bool.false_eq_true, Bool.and_self, Bool.true_eq_false]
              obtain ⟨ev, eo, so, co, ⟨hev, hco⟩, R⟩ := RULES CC; rw [← hev]
              rw [← hco] at oss onn ock oad ovc ova ovn
              simp only [fpart, part', Tryz.f36, Option.getD]
              simp (maxSteps := 5000000) only [SA, SB, SD, R, guardAt, binP, intP, indexAddrP, elemsOf, readCells, lenP, lenAt, resultsP, resultP, oneOr, reduceCtorEq, reduceIte, Nat.reduceEqDiff, Nat.reduceAdd, Nat.zero_add, Nat.reduceMul, Nat.reduceLT, Nat.reduceLeDiff, Int.reduceLT, Int.reduceNeg, Int.reduceLE, appendP, appendAt, letGo, setLoc, locVal, Int.reduceToNat, boxCells, und, TG, SE, SC, List.getElem?_cons_zero, List.getElem?_cons_succ, eqgK, buildKy0, unP, htu, htr, hky, hev1, htg, hsp, hrl, loadR, loadP, lay, List.take_succ_cons, List.take_zero, List.drop_nil, List.filter_nil, List.cons_append, Int.reduceBEq, Int.reduceBNe, Int.reduceGT, Int.reduceLT, Int.reduceGE, Bool.not_true, Bool.not_false, oss, onn, ock, oad, ovc, ova, ovn, hlen, c1, c2]
              exact ⟨_, rfl⟩
            | true =>
              simp only [if_true, ne_eq, if_false, reduceCtorEq, Int.reduceEq, not_false_eq_true, not_true_eq_false, Bool.false_eq_true, Bool.and_self, Bool.true_eq_false]
              obtain ⟨ev, eo, so, co, ⟨hev, hco⟩, R⟩ := RULES CC; rw [← hev]
              rw [← hco] at oss onn ock oad ovc ova ovn
              simp only [fpart, part', Tryz.f36, Option.getD]
              simp (maxSteps := 5000000) only [SA, SB, SD, R, guardAt, binP, intP, indexAddrP, elemsOf, readCells, lenP, lenAt, resultsP, resultP, oneOr, reduceCtorEq, reduceIte, Nat.reduceEqDiff, Nat.reduceAdd, Nat.zero_add, Nat.reduceMul, Nat.reduceLT, Nat.reduceLeDiff, Int.reduceLT, Int.reduceNeg, Int.reduceLE, appendP, appendAt, letGo, setLoc, locVal, Int.reduceToNat, boxCells, und, TG, SE, SC, List.getElem?_cons_zero, List.getElem?_cons_succ, eqgK, buildKy0, unP, htu, htr, hky, hev1, htg, hsp, hrl, loadR, loadP, lay, List.take_succ_cons, List.take_zero, List.drop_nil, List.filter_nil, List.cons_append, Int.reduceBEq, Int.reduceBNe, Int.reduceGT, Int.reduceLT, Int.reduceGE, Bool.not_true, Bool.not_false, oss, onn, ock, oad, ovc, ova, ovn, hlen, c1, c2]
              exact ⟨_, rfl⟩
  rw [if_neg k2] at oss ⊢
  by_cases k3 : k = 3
  · subst k3
    rw [if_pos (by omega)]
    cases kz with
    | false =>
      rw [Bool.false_and] at oss
      rw [if_pos (.inl rfl)]
      obtain ⟨ev, eo, so, co, ⟨hev, hco⟩, R⟩ := RULES CC; rw [← hev]
      rw [← hco] at oss onn ock oad ovc ova ovn
      simp only [fpart, part', Tryz.f36, Option.getD]
      simp (maxSteps := 5000000) only [SA, SB, SD, R, guardAt, binP, intP, indexAddrP, elemsOf, readCells, lenP, lenAt, resultsP, resultP, oneOr, reduceCtorEq, reduceIte, Nat.reduceEqDiff, Nat.reduceAdd, Nat.zero_add, Nat.reduceMul, Nat.reduceLT, Nat.reduceLeDiff, Int.reduceLT, Int.reduceNeg, Int.reduceLE, appendP, appendAt, letGo, setLoc, locVal, Int.reduceToNat, boxCells, und, TG, SE, SC, List.getElem?_cons_zero, List.getElem?_cons_succ, eqgK, buildKy0, unP, htu, htr, hky, hev1, htg, hsp, hrl, loadR, loadP, lay, List.take_succ_cons, List.take_zero, List.drop_nil, List.filter_nil, List.cons_append, Int.reduceBEq, Int.reduceBNe, Int.reduceGT, Int.reduceLT, Int.reduceGE, Bool.not_true, Bool.not_false, oss, onn, ock, oad, ovc, ova, ovn, hlen, c1, c2]
      exact ⟨_, rfl⟩
    | true =>
      rw [Bool.true_and] at oss
      cases nn with
      | false =>
        rw [if_pos (.inr rfl)]
        obtain ⟨ev, eo, so, co, ⟨hev, hco⟩, R⟩ := RULES CC; rw [← hev]
        rw [← hco] at oss onn ock oad ovc ova ovn
        simp only [fpart, part', Tryz.f36, Option.getD]
        simp (maxSteps := 5000000) only [SA, SB, SD, R, guardAt, binP, intP, indexAddrP, elemsOf, readCells, lenP, lenAt, resultsP, resultP, oneOr, reduceCtorEq, reduceIte, Nat.reduceEqDiff, Nat.reduceAdd, Nat.zero_add, Nat.reduceMul, Nat.reduceLT, Nat.reduceLeDiff, Int.reduceLT, Int.reduceNeg, Int.reduceLE, appendP, appendAt, letGo, setLoc, locVal, Int.reduceToNat, boxCells, und, TG, SE, SC, List.getElem?_cons_zero, List.getElem?_cons_succ, eqgK, buildKy0, unP, htu, htr, hky, hev1, htg, hsp, hrl, loadR, loadP, lay, List.take_succ_cons, List.take_zero, List.drop_nil, List.filter_nil, List.cons_append, Int.reduceBEq, Int.reduceBNe, Int.reduceGT, Int.reduceLT, Int.reduceGE, Bool.not_true, Bool.not_false, oss, onn, ock, oad, ovc, ova, ovn, hlen, c1, c2]
        exact ⟨_, rfl⟩
      | true =>
        rw [if_neg (by simp)]
        rw [if_neg (by omega)]
        cases vn with
        | false =>
          rw [if_neg (by simp)]
          obtain ⟨ev, eo, so, co, ⟨hev, hco⟩, R⟩ := RULES CC; rw [← hev]
          rw [← hco] at oss onn ock oad ovc ova ovn
          simp only [fpart, part', Tryz.f36, Option.getD]
          simp (maxSteps := 5000000) only [SA, SB, SD, R, guardAt, binP, intP, indexAddrP, elemsOf, readCells, lenP, lenAt, resultsP, resultP, oneOr, reduceCtorEq, reduceIte, Nat.reduceEqDiff, Nat.reduceAdd, Nat.zero_add, Nat.reduceMul, Nat.reduceLT, Nat.reduceLeDiff, Int.reduceLT, Int.reduceNeg, Int.reduceLE, appendP, appendAt, letGo, setLoc, locVal, Int.reduceToNat, boxCells, und, TG, SE, SC, List.getElem?_cons_zero, List.getElem?_cons_succ, eqgK, buildKy0, unP, htu, htr, hky, hev1, htg, hsp, hrl, loadR, loadP, lay, List.take_succ_cons, List.take_zero, List.drop_nil, List.filter_nil, List.cons_append, Int.reduceBEq, Int.reduceBNe, Int.reduceGT, Int.reduceLT, Int.reduceGE, Bool.not_true, Bool.not_false, oss, onn, ock, oad, ovc, ova, ovn, hlen, c1, c2]
          exact ⟨_, rfl⟩
        | true =>
          rw [if_pos rfl]
          obtain ⟨ev, eo, so, co, ⟨hev, hco⟩, R⟩ := RULES CC; rw [← hev]
          rw [← hco] at oss onn ock oad ovc ova ovn
          simp only [fpart, part', Tryz.f36, Option.getD]
          simp (maxSteps := 5000000) only [SA, SB, SD, R, guardAt, binP, intP, indexAddrP, elemsOf, readCells, lenP, lenAt, resultsP, resultP, oneOr, reduceCtorEq, reduceIte, Nat.reduceEqDiff, Nat.reduceAdd, Nat.zero_add, Nat.reduceMul, Nat.reduceLT, Nat.reduceLeDiff, Int.reduceLT, Int.reduceNeg, Int.reduceLE, appendP, appendAt, letGo, setLoc, locVal, Int.reduceToNat, boxCells, und, TG, SE, SC, List.getElem?_cons_zero, List.getElem?_cons_succ, eqgK, buildKy0, unP, htu, htr, hky, hev1, htg, hsp, hrl, loadR, loadP, lay, List.take_succ_cons, List.take_zero, List.drop_nil, List.filter_nil, List.cons_append, Int.reduceBEq, Int.reduceBNe, Int.reduceGT, Int.reduceLT, Int.reduceGE, Bool.not_true, Bool.not_false, oss, onn, ock, oad, ovc, ova, ovn, hlen, c1, c2]
          exact ⟨_, rfl⟩
  by_cases k4 : k = 4
  · subst k4
    rw [if_pos (by omega)]
    cases kz with
    | false =>
      rw [Bool.false_and] at oss
      rw [if_pos (.inl rfl)]
      obtain ⟨ev, eo, so, co, ⟨hev, hco⟩, R⟩ := RULES CC; rw [← hev]
      rw [← hco] at oss onn ock oad ovc ova ovn
      simp only [fpart, part', Tryz.f36, Option.getD]
      simp (maxSteps := 5000000) only [SA, SB, SD, R, guardAt, binP, intP, indexAddrP, elemsOf, readCells, lenP, lenAt, resultsP, resultP, oneOr, reduceCtorEq, reduceIte, Nat.reduceEqDiff, Nat.reduceAdd, Nat.zero_add, Nat.reduceMul, Nat.reduceLT, Nat.reduceLeDiff, Int.reduceLT, Int.reduceNeg, Int.reduceLE, appendP, appendAt, letGo, setLoc, locVal, Int.reduceToNat, boxCells, und, TG, SE, SC, List.getElem?_cons_zero, List.getElem?_cons_succ, eqgK, buildKy0, unP, htu, htr, hky, hev1, htg, hsp, hrl, loadR, loadP, lay, List.take_succ_cons, List.take_zero, List.drop_nil, List.filter_nil, List.cons_append, Int.reduceBEq, Int.reduceBNe, Int.reduceGT, Int.reduceLT, Int.reduceGE, Bool.not_true, Bool.not_false, oss, onn, ock, oad, ovc, ova, ovn, hlen, c1, c2]
      exact ⟨_, rfl⟩
    | true =>
      rw [Bool.true_and] at oss
      cases nn with
      | false =>
        rw [if_pos (.inr rfl)]
        obtain ⟨ev, eo, so, co, ⟨hev, hco⟩, R⟩ := RULES CC; rw [← hev]
        rw [← hco] at oss onn ock oad ovc ova ovn
        simp only [fpart, part', Tryz.f36, Option.getD]
        simp (maxSteps := 5000000) only [SA, SB, SD, R, guardAt, binP, intP, indexAddrP, elemsOf, readCells, lenP, lenAt, resultsP, resultP, oneOr, reduceCtorEq, reduceIte, Nat.reduceEqDiff, Nat.reduceAdd, Nat.zero_add, Nat.reduceMul, Nat.reduceLT, Nat.reduceLeDiff, Int.reduceLT, Int.reduceNeg, Int.reduceLE, appendP, appendAt, letGo, setLoc, locVal, Int.reduceToNat, boxCells, und, TG, SE, SC, List.getElem?_cons_zero, List.getElem?_cons_succ, eqgK, buildKy0, unP, htu, htr, hky, hev1, htg, hsp, hrl, loadR, loadP, lay, List.take_succ_cons, List.take_zero, List.drop_nil, List.filter_nil, List.cons_append, Int.reduceBEq, Int.reduceBNe, Int.reduceGT, Int.reduceLT, Int.reduceGE, Bool.not_true, Bool.not_false, oss, onn, ock, oad, ovc, ova, ovn, hlen, c1, c2]
        exact ⟨_, rfl⟩
      | true =>
        rw [if_neg (by simp)]
        rw [if_neg (by omega)]
        cases vn with
        | false =>
          rw [if_neg (by simp)]
          obtain ⟨ev, eo, so, co, ⟨hev, hco⟩, R⟩ := RULES CC; rw [← hev]
          rw [← hco] at oss onn ock oad ovc ova ovn
          simp only [fpart, part', Tryz.f36, Option.getD]
          simp (maxSteps := 5000000) only [SA, SB, SD, R, guardAt, binP, intP, indexAddrP, elemsOf, readCells, lenP, lenAt, resultsP, resultP, oneOr, reduceCtorEq, reduceIte, Nat.reduceEqDiff, Nat.reduceAdd, Nat.zero_add, Nat.reduceMul, Nat.reduceLT, Nat.reduceLeDiff, Int.reduceLT, Int.reduceNeg, Int.reduceLE, appendP, appendAt, letGo, setLoc, locVal, Int.reduceToNat, boxCells, und, TG, SE, SC, List.getElem?_cons_zero, List.getElem?_cons_succ, eqgK, buildKy0, unP, htu, htr, hky, hev1, htg, hsp, hrl, loadR, loadP, lay, List.take_succ_cons, List.take_zero, List.drop_nil, List.filter_nil, List.cons_append, Int.reduceBEq, Int.reduceBNe, Int.reduceGT, Int.reduceLT, Int.reduceGE, Bool.not_true, Bool.not_false, oss, onn, ock, oad, ovc, ova, ovn, hlen, c1, c2]
          exact ⟨_, rfl⟩
        | true =>
          rw [if_pos rfl]
          obtain ⟨ev, eo, so, co, ⟨hev, hco⟩, R⟩ := RULES CC; rw [← hev]
          rw [← hco] at oss onn ock oad ovc ova ovn
          simp only [fpart, part', Tryz.f36, Option.getD]
          simp (maxSteps := 5000000) only [SA, SB, SD, R, guardAt, binP, intP, indexAddrP, elemsOf, readCells, lenP, lenAt, resultsP, resultP, oneOr, reduceCtorEq, reduceIte, Nat.reduceEqDiff, Nat.reduceAdd, Nat.zero_add, Nat.reduceMul, Nat.reduceLT, Nat.reduceLeDiff, Int.reduceLT, Int.reduceNeg, Int.reduceLE, appendP, appendAt, letGo, setLoc, locVal, Int.reduceToNat, boxCells, und, TG, SE, SC, List.getElem?_cons_zero, List.getElem?_cons_succ, eqgK, buildKy0, unP, htu, htr, hky, hev1, htg, hsp, hrl, loadR, loadP, lay, List.take_succ_cons, List.take_zero, List.drop_nil, List.filter_nil, List.cons_append, Int.reduceBEq, Int.reduceBNe, Int.reduceGT, Int.reduceLT, Int.reduceGE, Bool.not_true, Bool.not_false, oss, onn, ock, oad, ovc, ova, ovn, hlen, c1, c2]
          exact ⟨_, rfl⟩
  have k5 : k = 5 := by omega
  subst k5
  rw [if_pos (by omega)]
  cases kz with
  | false =>
    rw [Bool.false_and] at oss
    rw [if_pos (.inl rfl)]
    obtain ⟨ev, eo, so, co, ⟨hev, hco⟩, R⟩ := RULES CC; rw [← hev]
    rw [← hco] at oss onn ock oad ovc ova ovn
    simp only [fpart, part', Tryz.f36, Option.getD]
    simp (maxSteps := 5000000) only [SA, SB, SD, R, guardAt, binP, intP, indexAddrP, elemsOf, readCells, lenP, lenAt, resultsP, resultP, oneOr, reduceCtorEq, reduceIte, Nat.reduceEqDiff, Nat.reduceAdd, Nat.zero_add, Nat.reduceMul, Nat.reduceLT, Nat.reduceLeDiff, Int.reduceLT, Int.reduceNeg, Int.reduceLE, appendP, appendAt, letGo, setLoc, locVal, Int.reduceToNat, boxCells, und, TG, SE, SC, List.getElem?_cons_zero, List.getElem?_cons_succ, eqgK, buildKy0, unP, htu, htr, hky, hev1, htg, hsp, hrl, loadR, loadP, lay, List.take_succ_cons, List.take_zero, List.drop_nil, List.filter_nil, List.cons_append, Int.reduceBEq, Int.reduceBNe, Int.reduceGT, Int.reduceLT, Int.reduceGE, Bool.not_true, Bool.not_false, oss, onn, ock, oad, ovc, ova, ovn, hlen, c1, c2]
    exact ⟨_, rfl⟩
  | true =>
    rw [Bool.true_and] at oss
    cases nn with
    | false =>
      rw [if_pos (.inr rfl)]
      obtain ⟨ev, eo, so, co, ⟨hev, hco⟩, R⟩ := RULES CC; rw [← hev]
      rw [← hco] at oss onn ock oad ovc ova ovn
      simp only [fpart, part', Tryz.f36, Option.getD]
      simp (maxSteps := 5000000) only [SA, SB, SD, R, guardAt, binP, intP, indexAddrP, elemsOf, readCells, lenP, lenAt, resultsP, resultP, oneOr, reduceCtorEq, reduceIte, Nat.reduceEqDiff, Nat.reduceAdd, Nat.zero_add, Nat.reduceMul, Nat.reduceLT, Nat.reduceLeDiff, Int.reduceLT, Int.reduceNeg, Int.reduceLE, appendP, appendAt, letGo, setLoc, locVal, Int.reduceToNat, boxCells, und, TG, SE, SC, List.getElem?_cons_zero, List.getElem?_cons_succ, eqgK, buildKy0, unP, htu, htr, hky, hev1, htg, hsp, hrl, loadR, loadP, lay, List.take_succ_cons, List.take_zero, List.drop_nil, List.filter_nil, List.cons_append, Int.reduceBEq, Int.reduceBNe, Int.reduceGT, Int.reduceLT, Int.reduceGE, Bool.not_true, Bool.not_false, oss, onn, ock, oad, ovc, ova, ovn, hlen, c1, c2]
      exact ⟨_, rfl⟩
    | true =>
      rw [if_neg (by simp)]
      rw [if_pos rfl]
      by_cases z1 : (nm.length : Int) > 60
      · rw [if_pos (by omega)]
        obtain ⟨ev, eo, so, co, ⟨hev, hco⟩, R⟩ := RULES CC; rw [← hev]
        rw [← hco] at oss onn ock oad ovc ova ovn
        simp only [fpart, part', Tryz.f36, Option.getD]
        simp (maxSteps := 5000000) only [SA, SB, SD, R, guardAt, binP, intP, indexAddrP, elemsOf, readCells, lenP, lenAt, resultsP, resultP, oneOr, reduceCtorEq, reduceIte, Nat.reduceEqDiff, Nat.reduceAdd, Nat.zero_add, Nat.reduceMul, Nat.reduceLT, Nat.reduceLeDiff, Int.reduceLT, Int.reduceNeg, Int.reduceLE, appendP, appendAt, letGo, setLoc, locVal, Int.reduceToNat, boxCells, und, TG, SE, SC, List.getElem?_cons_zero, List.getElem?_cons_succ, eqgK, buildKy0, unP, htu, htr, hky, hev1, htg, hsp, hrl, loadR, loadP, lay, List.take_succ_cons, List.take_zero, List.drop_nil, List.filter_nil, List.cons_append, Int.reduceBEq, Int.reduceBNe, Int.reduceGT, Int.reduceLT, Int.reduceGE, Bool.not_true, Bool.not_false, oss, onn, ock, oad, ovc, ova, ovn, hlen, c1, c2, z1]
        exact ⟨_, rfl⟩
      · rw [if_neg (by omega)]
        obtain ⟨ev, eo, so, co, ⟨hev, hco⟩, R⟩ := RULES CC; rw [← hev]
        rw [← hco] at oss onn ock oad ovc ova ovn
        simp only [fpart, part', Tryz.f36, Option.getD]
        simp (maxSteps := 5000000) only [SA, SB, SD, R, guardAt, binP, intP, indexAddrP, elemsOf, readCells, lenP, lenAt, resultsP, resultP, oneOr, reduceCtorEq, reduceIte, Nat.reduceEqDiff, Nat.reduceAdd, Nat.zero_add, Nat.reduceMul, Nat.reduceLT, Nat.reduceLeDiff, Int.reduceLT, Int.reduceNeg, Int.reduceLE, appendP, appendAt, letGo, setLoc, locVal, Int.reduceToNat, boxCells, und, TG, SE, SC, List.getElem?_cons_zero, List.getElem?_cons_succ, eqgK, buildKy0, unP, htu, htr, hky, hev1, htg, hsp, hrl, loadR, loadP, lay, List.take_succ_cons, List.take_zero, List.drop_nil, List.filter_nil, List.cons_append, Int.reduceBEq, Int.reduceBNe, Int.reduceGT, Int.reduceLT, Int.reduceGE, Bool.not_true, Bool.not_false, oss, onn, ock, oad, ovc, ova, ovn, hlen, c1, c2, z1]
        exact ⟨_, rfl⟩
theorem op_R30_Step (s : Sp) (hp : plSp s = true) (bx) : callOp CC (callL CC) 36 [spV s] bx = some (.ret (.int .i64 (spE s)), bx) := by
  obtain ⟨b, h⟩ := call_R30_Step s hp
  exact callOp_of rfl (by simp only [pureL_cons, spV_pure, pureL_nil, Bool.and_self]) h rfl
set_option maxHeartbeats 4000000
theorem ok_print_Check : fnOK CC Tryz.f11 (Tryz.f11.body.getD .skip) = true := by kernel_rfl
theorem fat_print_Check : CC.P.funcs[11]? = some Tryz.f11 := by kernel_rfl
theorem ok_R30_Check : fnOK CC Tryz.f12 (Tryz.f12.body.getD .skip) = true := by kernel_rfl
theorem fat_R30_Check : CC.P.funcs[12]? = some Tryz.f12 := by kernel_rfl
/-- the first error -/
def fsE {α : Type} (f : α → Int) : List α → Int
  | [] => 0
  | x :: r => if f x ≠ 0 then f x else fsE f r
/-- what a loop leaves: it went through, or it returned an error -/
def PFe (j : Nat) (bx : List PBox) (v : Int) (res : Option (Ex × St)) : Prop := ∃ e' ex, (v = 0 ∧ res = some (.exit j, ⟨e', bx ++ ex⟩) ∧ getT e' 1 = .bp 0 0) ∨ (v ≠ 0 ∧ res = some (.ret, ⟨e', bx ++ ex⟩) ∧ getT e' 2 = .int .i64 v)
/-- the same, where the boxes stay as they are -/
def PFc (j : Nat) (bx : List PBox) (v : Int) (res : Option (Ex × St)) : Prop := ∃ e', (v = 0 ∧ res = some (.exit j, ⟨e', bx⟩) ∧ getT e' 1 = .bp 0 0) ∨ (v ≠ 0 ∧ res = some (.ret, ⟨e', bx⟩) ∧ getT e' 2 = .int .i64 v)
theorem PFe.app {j : Nat} {bx : List PBox} {x : PBox} {v : Int} {res : Option (Ex × St)} (h : PFe j (bx ++ [x]) v res) : PFe j bx v res := by
  obtain ⟨e', ex, h⟩ := h
  refine ⟨e', [x] ++ ex, ?_⟩
  rw [← List.append_assoc]
  exact h
theorem loop_pon (L : Code) (hL : L = fpart Tryz.f11 [1,1,1,1,0,1,0]) (l : List Tg) (hl : l.length ≤ 12) (hc : ∀ t ∈ l, ∀ bx, callOp CC (callL CC) 30 [tgV t] bx = some (.ret (.int .i64 (tgE t)), bx)) : ∀ (k i : Nat) (e : List PV) (bx : List PBox) , i + k = l.length →
    getT e 1 = .bp 0 0 → getT e 45 = .sl (l.map tgV) → getT e 46 = .int .i64 l.length → getT e 47 = .int .i64 i → PFe 0 bx (fsE tgE (l.drop i)) (evL CC L ⟨e, bx⟩) := by
  intro k
  induction k with
  | zero =>
    intro i e bx hi0 e1 es el ei
    rw [evL_at (fpart Tryz.f11 [1,1,1,1,0,1,0,0]) hL]
    have hi : ¬ ((i : Int) < (l.length : Int)) := by omega
    rw [List.drop_eq_nil_of_le (by omega)]
    unfold fsE
    obtain ⟨tu, htu⟩ := VLs
    obtain ⟨tr, htr⟩ := TRs
    obtain ⟨tk, hky⟩ := KYs
    obtain ⟨te, hev1⟩ := EVs
    obtain ⟨tg, htg⟩ := TG_s
    obtain ⟨tp, hsp⟩ := SPs
    obtain ⟨tl, hrl⟩ := RLs
    generalize l.map tgV = xs at *
    obtain ⟨ev, eo, so, co, ⟨hev, hco⟩, R⟩ := RULES CC; rw [← hev]
    simp only [fpart, part', Tryz.f11, Option.getD]
    simp (maxSteps := 5000000) only [SA, SB, SD, R, guardAt, binP, intP, indexAddrP, elemsOf, readCells, lenP, lenAt, resultsP, resultP, oneOr, reduceCtorEq, reduceIte, Nat.reduceEqDiff, Nat.reduceAdd, Nat.zero_add, Nat.reduceMul, Nat.reduceLT, Nat.reduceLeDiff, Int.reduceLT, Int.reduceNeg, Int.reduceLE, appendP, appendAt, letGo, setLoc, locVal, Int.reduceToNat, boxCells, und, TG, SE, SC, TGf, SPf, List.getElem?_concat_length, List.getElem?_cons_zero, List.getElem?_cons_succ, List.take_nil, unP, htu, htr, hky, hev1, htg, hsp, hrl, loadR, loadP, lay, List.take_succ_cons, List.take_zero, List.drop_nil, List.filter_nil, List.cons_append, Int.reduceBEq, Int.reduceBNe, Int.reduceGT, Int.reduceGE, Bool.not_true, Bool.not_false, e1, es, el, ei, hi]
    exact ⟨_, [], .inl ⟨rfl, by rw [List.append_nil], by simp (maxSteps := 5000000) only [SA, SB, SD, R, guardAt, binP, intP, indexAddrP, elemsOf, readCells, lenP, lenAt, resultsP, resultP, oneOr, reduceCtorEq, reduceIte, Nat.reduceEqDiff, Nat.reduceAdd, Nat.zero_add, Nat.reduceMul, Nat.reduceLT, Nat.reduceLeDiff, Int.reduceLT, Int.reduceNeg, Int.reduceLE, appendP, appendAt, letGo, setLoc, locVal, Int.reduceToNat, boxCells, und, e1]⟩⟩
  | succ k ih =>
    intro i e bx hi0 e1 es el ei
    rw [evL_at (fpart Tryz.f11 [1,1,1,1,0,1,0,0]) hL]
    have hi : ((i : Int) < (l.length : Int)) := by omega
    have hi0' : ¬ ((i : Int) < 0) := by omega
    have hdr : l.drop i = (l[i]'(by omega)) :: l.drop (i + 1) := List.drop_eq_getElem_cons (by omega)
    have hx : (l.map tgV)[i]? = some (tgV (l[i]'(by omega))) := by rw [List.getElem?_map, List.getElem?_eq_getElem (by omega)]; rfl
    have hw1 := wrap_i64 (n := (i : Int) + 1) ⟨by omega, by omega⟩
    have hop := hc (l[i]'(by omega)) (List.getElem_mem _)
    have key := fun e bx => ih (i + 1) e bx (by omega)
    have cast1 : ((i + 1 : Nat) : Int) = (i : Int) + 1 := by omega
    rw [cast1] at key
    rw [hdr]
    unfold fsE
    generalize l[i]'(by omega) = x at *
    generalize fsE tgE (l.drop (i + 1)) = v at *
    generalize tgE x = er at *
    generalize l.map tgV = xs at *
    obtain ⟨xk, xkey, xev, xnm, xn, xm⟩ := x
    obtain ⟨xd, xcl, xat⟩ := xkey
    obtain ⟨yd, yc, yn⟩ := xev
    unfold tgV at hx hop
    simp only at hx hop
    obtain ⟨tu, htu⟩ := VLs
    obtain ⟨tr, htr⟩ := TRs
    obtain ⟨tk, hky⟩ := KYs
    obtain ⟨te, hev1⟩ := EVs
    obtain ⟨tg, htg⟩ := TG_s
    obtain ⟨tp, hsp⟩ := SPs
    obtain ⟨tl, hrl⟩ := RLs
    by_cases c1 : er = 0
    · subst c1
      rw [if_neg (by simp)]
      apply PFe.app
      obtain ⟨ev, eo, so, co, ⟨hev, hco⟩, R⟩ := RULES CC; rw [← hev]
      rw [← hev] at key
      rw [← hco] at hop
      simp only [fpart, part', Tryz.f11, Option.getD]
      simp (maxSteps := 5000000) only [SA, SB, SD, R, guardAt, binP, intP, indexAddrP, elemsOf, readCells, lenP, lenAt, resultsP, resultP, oneOr, reduceCtorEq, reduceIte, Nat.reduceEqDiff, Nat.reduceAdd, Nat.zero_add, Nat.reduceMul, Nat.reduceLT, Nat.reduceLeDiff, Int.reduceLT, Int.reduceNeg, Int.reduceLE, appendP, appendAt, letGo, setLoc, locVal, Int.reduceToNat, boxCells, und, TG, SE, SC, TGf, SPf, List.getElem?_concat_length, List.getElem?_cons_zero, List.getElem?_cons_succ, List.take_nil, unP, htu, htr, hky, hev1, htg, hsp, hrl, loadR, loadP, lay, List.take_succ_cons, List.take_zero, List.drop_nil, List.filter_nil, List.cons_append, Int.reduceBEq, Int.reduceBNe, Int.reduceGT, Int.reduceGE, Bool.not_true, Bool.not_false, e1, es, el, ei, hi, hi0', hx, hw1, hop]
      refine key _ _ ?_ ?_ ?_ ?_
      all_goals simp (maxSteps := 5000000) only [SA, SB, SD, R, guardAt, binP, intP, indexAddrP, elemsOf, readCells, lenP, lenAt, resultsP, resultP, oneOr, reduceCtorEq, reduceIte, Nat.reduceEqDiff, Nat.reduceAdd, Nat.zero_add, Nat.reduceMul, Nat.reduceLT, Nat.reduceLeDiff, Int.reduceLT, Int.reduceNeg, Int.reduceLE, appendP, appendAt, letGo, setLoc, locVal, Int.reduceToNat, boxCells, und, e1, es, el, ei]
    · have c1p : (er != 0) = true := by simpa using c1
      rw [if_pos c1]
      obtain ⟨ev, eo, so, co, ⟨hev, hco⟩, R⟩ := RULES CC; rw [← hev]
      rw [← hco] at hop
      simp only [fpart, part', Tryz.f11, Option.getD]
      simp (maxSteps := 5000000) only [SA, SB, SD, R, guardAt, binP, intP, indexAddrP, elemsOf, readCells, lenP, lenAt, resultsP, resultP, oneOr, reduceCtorEq, reduceIte, Nat.reduceEqDiff, Nat.reduceAdd, Nat.zero_add, Nat.reduceMul, Nat.reduceLT, Nat.reduceLeDiff, Int.reduceLT, Int.reduceNeg, Int.reduceLE, appendP, appendAt, letGo, setLoc, locVal, Int.reduceToNat, boxCells, und, TG, SE, SC, TGf, SPf, List.getElem?_concat_length, List.getElem?_cons_zero, List.getElem?_cons_succ, List.take_nil, unP, htu, htr, hky, hev1, htg, hsp, hrl, loadR, loadP, lay, List.take_succ_cons, List.take_zero, List.drop_nil, List.filter_nil, List.cons_append, Int.reduceBEq, Int.reduceBNe, Int.reduceGT, Int.reduceGE, Bool.not_true, Bool.not_false, e1, es, el, ei, hi, hi0', hx, hop, c1p]
      exact ⟨_, _, .inr ⟨c1, rfl, by simp (maxSteps := 5000000) only [SA, SB, SD, R, guardAt, binP, intP, indexAddrP, elemsOf, readCells, lenP, lenAt, resultsP, resultP, oneOr, reduceCtorEq, reduceIte, Nat.reduceEqDiff, Nat.reduceAdd, Nat.zero_add, Nat.reduceMul, Nat.reduceLT, Nat.reduceLeDiff, Int.reduceLT, Int.reduceNeg, Int.reduceLE, appendP, appendAt, letGo, setLoc, locVal, Int.reduceToNat, boxCells, und]⟩⟩
theorem loop_pdo (L : Code) (hL : L = fpart Tryz.f11 [1,1,1,1,1,1,0,1,0]) (l : List Sp) (hl : l.length ≤ 12) (hc : ∀ t ∈ l, ∀ bx, callOp CC (callL CC) 32 [spV t] bx = some (.ret (.int .i64 (spE t)), bx)) : ∀ (k i : Nat) (e : List PV) (bx : List PBox) , i + k = l.length →
    getT e 1 = .bp 0 0 → getT e 64 = .sl (l.map spV) → getT e 65 = .int .i64 l.length → getT e 66 = .int .i64 i → PFe 2 bx (fsE spE (l.drop i)) (evL CC L ⟨e, bx⟩) := by
  intro k
  induction k with
  | zero =>
    intro i e bx hi0 e1 es el ei
    rw [evL_at (fpart Tryz.f11 [1,1,1,1,1,1,0,1,0,0]) hL]
    have hi : ¬ ((i : Int) < (l.length : Int)) := by omega
    rw [List.drop_eq_nil_of_le (by omega)]
    unfold fsE
    obtain ⟨tu, htu⟩ := VLs
    obtain ⟨tr, htr⟩ := TRs
    obtain ⟨tk, hky⟩ := KYs
    obtain ⟨te, hev1⟩ := EVs
    obtain ⟨tg, htg⟩ := TG_s
    obtain ⟨tp, hsp⟩ := SPs
    obtain ⟨tl, hrl⟩ := RLs
    generalize l.map spV = xs at *
    obtain ⟨ev, eo, so, co, ⟨hev, hco⟩, R⟩ := RULES CC; rw [← hev]
    simp only [fpart, part', Tryz.f11, Option.getD]
    simp (maxSteps := 5000000) only [SA, SB, SD, R, guardAt, binP, intP, indexAddrP, elemsOf, readCells, lenP, lenAt, resultsP, resultP, oneOr, reduceCtorEq, reduceIte, Nat.reduceEqDiff, Nat.reduceAdd, Nat.zero_add, Nat.reduceMul, Nat.reduceLT, Nat.reduceLeDiff, Int.reduceLT, Int.reduceNeg, Int.reduceLE, appendP, appendAt, letGo, setLoc, locVal, Int.reduceToNat, boxCells, und, TG, SE, SC, TGf, SPf, List.getElem?_concat_length, List.getElem?_cons_zero, List.getElem?_cons_succ, List.take_nil, unP, htu, htr, hky, hev1, htg, hsp, hrl, loadR, loadP, lay, List.take_succ_cons, List.take_zero, List.drop_nil, List.filter_nil, List.cons_append, Int.reduceBEq, Int.reduceBNe, Int.reduceGT, Int.reduceGE, Bool.not_true, Bool.not_false, e1, es, el, ei, hi]
    exact ⟨_, [], .inl ⟨rfl, by rw [List.append_nil], by simp (maxSteps := 5000000) only [SA, SB, SD, R, guardAt, binP, intP, indexAddrP, elemsOf, readCells, lenP, lenAt, resultsP, resultP, oneOr, reduceCtorEq, reduceIte, Nat.reduceEqDiff, Nat.reduceAdd, Nat.zero_add, Nat.reduceMul, Nat.reduceLT, Nat.reduceLeDiff, Int.reduceLT, Int.reduceNeg, Int.reduceLE, appendP, appendAt, letGo, setLoc, locVal, Int.reduceToNat, boxCells, und, e1]⟩⟩
  | succ k ih =>
    intro i e bx hi0 e1 es el ei
    rw [evL_at (fpart Tryz.f11 [1,1,1,1,1,1,0,1,0,0]) hL]
    have hi : ((i : Int) < (l.length : Int)) := by omega
    have hi0' : ¬ ((i : Int) < 0) := by omega
    have hdr : l.drop i = (l[i]'(by omega)) :: l.drop (i + 1) := List.drop_eq_getElem_cons (by omega)
    have hx : (l.map spV)[i]? = some (spV (l[i]'(by omega))) := by rw [List.getElem?_map, List.getElem?_eq_getElem (by omega)]; rfl
    have hw1 := wrap_i64 (n := (i : Int) + 1) ⟨by omega, by omega⟩
    have hop := hc (l[i]'(by omega)) (List.getElem_mem _)
    have key := fun e bx => ih (i + 1) e bx (by omega)
    have cast1 : ((i + 1 : Nat) : Int) = (i : Int) + 1 := by omega
    rw [cast1] at key
    rw [hdr]
    unfold fsE
    generalize l[i]'(by omega) = x at *
    generalize fsE spE (l.drop (i + 1)) = v at *
    generalize spE x = er at *
    generalize l.map spV = xs at *
    obtain ⟨xk, xkey, xnm, xt⟩ := x
    obtain ⟨xd, xcl, xat⟩ := xkey
    unfold spV trC at hx hop
    obtain ⟨zk, zn, zm, znm, zv, zkey, zkids⟩ := xt
    unfold trV at hx hop
    simp only [SA, List.cons_append, List.nil_append] at hx hop
    generalize trVs zkids = zs at *
    obtain ⟨tu, htu⟩ := VLs
    obtain ⟨tr, htr⟩ := TRs
    obtain ⟨tk, hky⟩ := KYs
    obtain ⟨te, hev1⟩ := EVs
    obtain ⟨tg, htg⟩ := TG_s
    obtain ⟨tp, hsp⟩ := SPs
    obtain ⟨tl, hrl⟩ := RLs
    by_cases c1 : er = 0
    · subst c1
      rw [if_neg (by simp)]
      apply PFe.app
      obtain ⟨ev, eo, so, co, ⟨hev, hco⟩, R⟩ := RULES CC; rw [← hev]
      rw [← hev] at key
      rw [← hco] at hop
      simp only [fpart, part', Tryz.f11, Option.getD]
      simp (maxSteps := 5000000) only [SA, SB, SD, R, guardAt, binP, intP, indexAddrP, elemsOf, readCells, lenP, lenAt, resultsP, resultP, oneOr, reduceCtorEq, reduceIte, Nat.reduceEqDiff, Nat.reduceAdd, Nat.zero_add, Nat.reduceMul, Nat.reduceLT, Nat.reduceLeDiff, Int.reduceLT, Int.reduceNeg, Int.reduceLE, appendP, appendAt, letGo, setLoc, locVal, Int.reduceToNat, boxCells, und, TG, SE, SC, TGf, SPf, List.getElem?_concat_length, List.getElem?_cons_zero, List.getElem?_cons_succ, List.take_nil, unP, htu, htr, hky, hev1, htg, hsp, hrl, loadR, loadP, lay, List.take_succ_cons, List.take_zero, List.drop_nil, List.filter_nil, List.cons_append, Int.reduceBEq, Int.reduceBNe, Int.reduceGT, Int.reduceGE, Bool.not_true, Bool.not_false, e1, es, el, ei, hi, hi0', hx, hw1, hop]
      refine key _ _ ?_ ?_ ?_ ?_
      all_goals simp (maxSteps := 5000000) only [SA, SB, SD, R, guardAt, binP, intP, indexAddrP, elemsOf, readCells, lenP, lenAt, resultsP, resultP, oneOr, reduceCtorEq, reduceIte, Nat.reduceEqDiff, Nat.reduceAdd, Nat.zero_add, Nat.reduceMul, Nat.reduceLT, Nat.reduceLeDiff, Int.reduceLT, Int.reduceNeg, Int.reduceLE, appendP, appendAt, letGo, setLoc, locVal, Int.reduceToNat, boxCells, und, e1, es, el, ei]
    · have c1p : (er != 0) = true := by simpa using c1
      rw [if_pos c1]
      obtain ⟨ev, eo, so, co, ⟨hev, hco⟩, R⟩ := RULES CC; rw [← hev]
      rw [← hco] at hop
      simp only [fpart, part', Tryz.f11, Option.getD]
      simp (maxSteps := 5000000) only [SA, SB, SD, R, guardAt, binP, intP, indexAddrP, elemsOf, readCells, lenP, lenAt, resultsP, resultP, oneOr, reduceCtorEq, reduceIte, Nat.reduceEqDiff, Nat.reduceAdd, Nat.zero_add, Nat.reduceMul, Nat.reduceLT, Nat.reduceLeDiff, Int.reduceLT, Int.reduceNeg, Int.reduceLE, appendP, appendAt, letGo, setLoc, locVal, Int.reduceToNat, boxCells, und, TG, SE, SC, TGf, SPf, List.getElem?_concat_length, List.getElem?_cons_zero, List.getElem?_cons_succ, List.take_nil, unP, htu, htr, hky, hev1, htg, hsp, hrl, loadR, loadP, lay, List.take_succ_cons, List.take_zero, List.drop_nil, List.filter_nil, List.cons_append, Int.reduceBEq, Int.reduceBNe, Int.reduceGT, Int.reduceGE, Bool.not_true, Bool.not_false, e1, es, el, ei, hi, hi0', hx, hop, c1p]
      exact ⟨_, _, .inr ⟨c1, rfl, by simp (maxSteps := 5000000) only [SA, SB, SD, R, guardAt, binP, intP, indexAddrP, elemsOf, readCells, lenP, lenAt, resultsP, resultP, oneOr, reduceCtorEq, reduceIte, Nat.reduceEqDiff, Nat.reduceAdd, Nat.zero_add, Nat.reduceMul, Nat.reduceLT, Nat.reduceLeDiff, Int.reduceLT, Int.reduceNeg, Int.reduceLE, appendP, appendAt, letGo, setLoc, locVal, Int.reduceToNat, boxCells, und]⟩⟩
theorem loop_ron (L : Code) (hL : L = fpart Tryz.f12 [1,1,1,1,0,1,0]) (b0 b1 b3 b4 b5 b6 b7 b8 b9 b10 b11 b12 b13 b14 : PV) (l : List Tg) (hl : l.length ≤ 12) (hc : ∀ t ∈ l, ∀ bx, callOp CC (callL CC) 34 [tgV t] bx = some (.ret (.int .i64 (tgE t)), bx)) : ∀ (k i : Nat) (e : List PV) , i + k = l.length →
    getT e 1 = .bp 0 0 → getT e 43 = .int .i64 l.length → getT e 44 = .int .i64 i → PFc 0 [.cells 32 [b0, b1, .sl (l.map tgV), b3, b4, b5, b6, b7, b8, b9, b10, b11, b12, b13, b14]] (fsE tgE (l.drop i)) (evL CC L ⟨e, [.cells 32 [b0, b1, .sl (l.map tgV), b3, b4, b5, b6, b7, b8, b9, b10, b11, b12, b13, b14]]⟩) := by
  intro k
  induction k with
  | zero =>
    intro i e hi0 e1 el ei
    rw [evL_at (fpart Tryz.f12 [1,1,1,1,0,1,0,0]) hL]
    have hi : ¬ ((i : Int) < (l.length : Int)) := by omega
    rw [List.drop_eq_nil_of_le (by omega)]
    unfold fsE
    obtain ⟨tu, htu⟩ := VLs
    obtain ⟨tr, htr⟩ := TRs
    obtain ⟨tk, hky⟩ := KYs
    obtain ⟨te, hev1⟩ := EVs
    obtain ⟨tg, htg⟩ := TG_s
    obtain ⟨tp, hsp⟩ := SPs
    obtain ⟨tl, hrl⟩ := RLs
    generalize l.map tgV = xs at *
    obtain ⟨ev, eo, so, co, ⟨hev, hco⟩, R⟩ := RULES CC; rw [← hev]
    simp only [fpart, part', Tryz.f12, Option.getD]
    simp (maxSteps := 5000000) only [SA, SB, SD, R, guardAt, binP, intP, indexAddrP, elemsOf, readCells, lenP, lenAt, resultsP, resultP, oneOr, reduceCtorEq, reduceIte, Nat.reduceEqDiff, Nat.reduceAdd, Nat.zero_add, Nat.reduceMul, Nat.reduceLT, Nat.reduceLeDiff, Int.reduceLT, Int.reduceNeg, Int.reduceLE, appendP, appendAt, letGo, setLoc, locVal, Int.reduceToNat, boxCells, und, TG, SE, SC, TGf, SPf, List.getElem?_concat_length, List.getElem?_cons_zero, List.getElem?_cons_succ, List.take_nil, unP, htu, htr, hky, hev1, htg, hsp, hrl, loadR, loadP, lay, List.take_succ_cons, List.take_zero, List.drop_nil, List.filter_nil, List.cons_append, Int.reduceBEq, Int.reduceBNe, Int.reduceGT, Int.reduceGE, Bool.not_true, Bool.not_false, e1, el, ei, hi]
    exact ⟨_, .inl ⟨rfl, rfl, by simp (maxSteps := 5000000) only [SA, SB, SD, R, guardAt, binP, intP, indexAddrP, elemsOf, readCells, lenP, lenAt, resultsP, resultP, oneOr, reduceCtorEq, reduceIte, Nat.reduceEqDiff, Nat.reduceAdd, Nat.zero_add, Nat.reduceMul, Nat.reduceLT, Nat.reduceLeDiff, Int.reduceLT, Int.reduceNeg, Int.reduceLE, appendP, appendAt, letGo, setLoc, locVal, Int.reduceToNat, boxCells, und, e1]⟩⟩
  | succ k ih =>
    intro i e hi0 e1 el ei
    rw [evL_at (fpart Tryz.f12 [1,1,1,1,0,1,0,0]) hL]
    have hi : ((i : Int) < (l.length : Int)) := by omega
    have hi0' : ¬ ((i : Int) < 0) := by omega
    have hdr : l.drop i = (l[i]'(by omega)) :: l.drop (i + 1) := List.drop_eq_getElem_cons (by omega)
    have hx : (l.map tgV)[i]? = some (tgV (l[i]'(by omega))) := by rw [List.getElem?_map, List.getElem?_eq_getElem (by omega)]; rfl
    have hw1 := wrap_i64 (n := (i : Int) + 1) ⟨by omega, by omega⟩
    have hop := hc (l[i]'(by omega)) (List.getElem_mem _)
    have key := fun e => ih (i + 1) e (by omega)
    have cast1 : ((i + 1 : Nat) : Int) = (i : Int) + 1 := by omega
    rw [cast1] at key
    rw [hdr]
    unfold fsE
    generalize l[i]'(by omega) = x at *
    generalize fsE tgE (l.drop (i + 1)) = v at *
    generalize tgE x = er at *
    generalize l.map tgV = xs at *
    obtain ⟨xk, xkey, xev, xnm, xn, xm⟩ := x
    obtain ⟨xd, xcl, xat⟩ := xkey
    obtain ⟨yd, yc, yn⟩ := xev
    unfold tgV at hx hop
    simp only at hx hop
    obtain ⟨tu, htu⟩ := VLs
    obtain ⟨tr, htr⟩ := TRs
    obtain ⟨tk, hky⟩ := KYs
    obtain ⟨te, hev1⟩ := EVs
    obtain ⟨tg, htg⟩ := TG_s
    obtain ⟨tp, hsp⟩ := SPs
    obtain ⟨tl, hrl⟩ := RLs
    by_cases c1 : er = 0
    · subst c1
      rw [if_neg (by simp)]
      skip
      obtain ⟨ev, eo, so, co, ⟨hev, hco⟩, R⟩ := RULES CC; rw [← hev]
      rw [← hev] at key
      rw [← hco] at hop
      simp only [fpart, part', Tryz.f12, Option.getD]
      simp (maxSteps := 5000000) only [SA, SB, SD, R, guardAt, binP, intP, indexAddrP, elemsOf, readCells, lenP, lenAt, resultsP, resultP, oneOr, reduceCtorEq, reduceIte, Nat.reduceEqDiff, Nat.reduceAdd, Nat.zero_add, Nat.reduceMul, Nat.reduceLT, Nat.reduceLeDiff, Int.reduceLT, Int.reduceNeg, Int.reduceLE, appendP, appendAt, letGo, setLoc, locVal, Int.reduceToNat, boxCells, und, TG, SE, SC, TGf, SPf, List.getElem?_concat_length, List.getElem?_cons_zero, List.getElem?_cons_succ, List.take_nil, unP, htu, htr, hky, hev1, htg, hsp, hrl, loadR, loadP, lay, List.take_succ_cons, List.take_zero, List.drop_nil, List.filter_nil, List.cons_append, Int.reduceBEq, Int.reduceBNe, Int.reduceGT, Int.reduceGE, Bool.not_true, Bool.not_false, e1, el, ei, hi, hi0', hx, hw1, hop]
      refine key _ ?_ ?_ ?_
      all_goals simp (maxSteps := 5000000) only [SA, SB, SD, R, guardAt, binP, intP, indexAddrP, elemsOf, readCells, lenP, lenAt, resultsP, resultP, oneOr, reduceCtorEq, reduceIte, Nat.reduceEqDiff, Nat.reduceAdd, Nat.zero_add, Nat.reduceMul, Nat.reduceLT, Nat.reduceLeDiff, Int.reduceLT, Int.reduceNeg, Int.reduceLE, appendP, appendAt, letGo, setLoc, locVal, Int.reduceToNat, boxCells, und, e1, el, ei]
    · have c1p : (er != 0) = true := by simpa using c1
      rw [if_pos c1]
      obtain ⟨ev, eo, so, co, ⟨hev, hco⟩, R⟩ := RULES CC; rw [← hev]
      rw [← hco] at hop
      simp only [fpart, part', Tryz.f12, Option.getD]
      simp (maxSteps := 5000000) only [SA, SB, SD, R, guardAt, binP, intP, indexAddrP, elemsOf, readCells, lenP, lenAt, resultsP, resultP, oneOr, reduceCtorEq, reduceIte, Nat.reduceEqDiff, Nat.reduceAdd, Nat.zero_add, Nat.reduceMul, Nat.reduceLT, Nat.reduceLeDiff, Int.reduceLT, Int.reduceNeg, Int.reduceLE, appendP, appendAt, letGo, setLoc, locVal, Int.reduceToNat, boxCells, und, TG, SE, SC, TGf, SPf, List.getElem?_concat_length, List.getElem?_cons_zero, List.getElem?_cons_succ, List.take_nil, unP, htu, htr, hky, hev1, htg, hsp, hrl, loadR, loadP, lay, List.take_succ_cons, List.take_zero, List.drop_nil, List.filter_nil, List.cons_append, Int.reduceBEq, Int.reduceBNe, Int.reduceGT, Int.reduceGE, Bool.not_true, Bool.not_false, e1, el, ei, hi, hi0', hx, hop, c1p]
      exact ⟨_, .inr ⟨c1, rfl, by simp (maxSteps := 5000000) only [SA, SB, SD, R, guardAt, binP, intP, indexAddrP, elemsOf, readCells, lenP, lenAt, resultsP, resultP, oneOr, reduceCtorEq, reduceIte, Nat.reduceEqDiff, Nat.reduceAdd, Nat.zero_add, Nat.reduceMul, Nat.reduceLT, Nat.reduceLeDiff, Int.reduceLT, Int.reduceNeg, Int.reduceLE, appendP, appendAt, letGo, setLoc, locVal, Int.reduceToNat, boxCells, und]⟩⟩
theorem loop_rdo (L : Code) (hL : L = fpart Tryz.f12 [1,1,1,1,1,1,1,0,1,0]) (b0 b1 b2 b3 b4 b5 b6 b7 b8 b9 b10 b11 b12 b13 : PV) (l : List Sp) (hl : l.length ≤ 12) (hc : ∀ t ∈ l, ∀ bx, callOp CC (callL CC) 36 [spV t] bx = some (.ret (.int .i64 (spE t)), bx)) : ∀ (k i : Nat) (e : List PV) , i + k = l.length →
    getT e 1 = .bp 0 0 → getT e 65 = .int .i64 l.length → getT e 66 = .int .i64 i → PFc 2 [.cells 32 [b0, b1, b2, b3, b4, b5, b6, b7, b8, b9, b10, b11, b12, b13, .sl (l.map spV)]] (fsE spE (l.drop i)) (evL CC L ⟨e, [.cells 32 [b0, b1, b2, b3, b4, b5, b6, b7, b8, b9, b10, b11, b12, b13, .sl (l.map spV)]]⟩) := by
  intro k
  induction k with
  | zero =>
    intro i e hi0 e1 el ei
    rw [evL_at (fpart Tryz.f12 [1,1,1,1,1,1,1,0,1,0,0]) hL]
    have hi : ¬ ((i : Int) < (l.length : Int)) := by omega
    rw [List.drop_eq_nil_of_le (by omega)]
    unfold fsE
    obtain ⟨tu, htu⟩ := VLs
    obtain ⟨tr, htr⟩ := TRs
    obtain ⟨tk, hky⟩ := KYs
    obtain ⟨te, hev1⟩ := EVs
    obtain ⟨tg, htg⟩ := TG_s
    obtain ⟨tp, hsp⟩ := SPs
    obtain ⟨tl, hrl⟩ := RLs
    generalize l.map spV = xs at *
    obtain ⟨ev, eo, so, co, ⟨hev, hco⟩, R⟩ := RULES CC; rw [← hev]
    simp only [fpart, part', Tryz.f12, Option.getD]
    simp (maxSteps := 5000000) only [SA, SB, SD, R, guardAt, binP, intP, indexAddrP, elemsOf, readCells, lenP, lenAt, resultsP, resultP, oneOr, reduceCtorEq, reduceIte, Nat.reduceEqDiff, Nat.reduceAdd, Nat.zero_add, Nat.reduceMul, Nat.reduceLT, Nat.reduceLeDiff, Int.reduceLT, Int.reduceNeg, Int.reduceLE, appendP, appendAt, letGo, setLoc, locVal, Int.reduceToNat, boxCells, und, TG, SE, SC, TGf, SPf, List.getElem?_concat_length, List.getElem?_cons_zero, List.getElem?_cons_succ, List.take_nil, unP, htu, htr, hky, hev1, htg, hsp, hrl, loadR, loadP, lay, List.take_succ_cons, List.take_zero, List.drop_nil, List.filter_nil, List.cons_append, Int.reduceBEq, Int.reduceBNe, Int.reduceGT, Int.reduceGE, Bool.not_true, Bool.not_false, e1, el, ei, hi]
    exact ⟨_, .inl ⟨rfl, rfl, by simp (maxSteps := 5000000) only [SA, SB, SD, R, guardAt, binP, intP, indexAddrP, elemsOf, readCells, lenP, lenAt, resultsP, resultP, oneOr, reduceCtorEq, reduceIte, Nat.reduceEqDiff, Nat.reduceAdd, Nat.zero_add, Nat.reduceMul, Nat.reduceLT, Nat.reduceLeDiff, Int.reduceLT, Int.reduceNeg, Int.reduceLE, appendP, appendAt, letGo, setLoc, locVal, Int.reduceToNat, boxCells, und, e1]⟩⟩
  | succ k ih =>
    intro i e hi0 e1 el ei
    rw [evL_at (fpart Tryz.f12 [1,1,1,1,1,1,1,0,1,0,0]) hL]
    have hi : ((i : Int) < (l.length : Int)) := by omega
    have hi0' : ¬ ((i : Int) < 0) := by omega
    have hdr : l.drop i = (l[i]'(by omega)) :: l.drop (i + 1) := List.drop_eq_getElem_cons (by omega)
    have hx : (l.map spV)[i]? = some (spV (l[i]'(by omega))) := by rw [List.getElem?_map, List.getElem?_eq_getElem (by omega)]; rfl
    have hw1 := wrap_i64 (n := (i : Int) + 1) ⟨by omega, by omega⟩
    have hop := hc (l[i]'(by omega)) (List.getElem_mem _)
    have key := fun e => ih (i + 1) e (by omega)
    have cast1 : ((i + 1 : Nat) : Int) = (i : Int) + 1 := by omega
    rw [cast1] at key
    rw [hdr]
    unfold fsE
    generalize l[i]'(by omega) = x at *
    generalize fsE spE (l.drop (i + 1)) = v at *
    generalize spE x = er at *
    generalize l.map spV = xs at *
    obtain ⟨xk, xkey, xnm, xt⟩ := x
    obtain ⟨xd, xcl, xat⟩ := xkey
    unfold spV trC at hx hop
    obtain ⟨zk, zn, zm, znm, zv, zkey, zkids⟩ := xt
    unfold trV at hx hop
    simp only [SA, List.cons_append, List.nil_append] at hx hop
    generalize trVs zkids = zs at *
    obtain ⟨tu, htu⟩ := VLs
    obtain ⟨tr, htr⟩ := TRs
    obtain ⟨tk, hky⟩ := KYs
    obtain ⟨te, hev1⟩ := EVs
    obtain ⟨tg, htg⟩ := TG_s
    obtain ⟨tp, hsp⟩ := SPs
    obtain ⟨tl, hrl⟩ := RLs
    by_cases c1 : er = 0
    · subst c1
      rw [if_neg (by simp)]
      skip
      obtain ⟨ev, eo, so, co, ⟨hev, hco⟩, R⟩ := RULES CC; rw [← hev]
      rw [← hev] at key
      rw [← hco] at hop
      simp only [fpart, part', Tryz.f12, Option.getD]
      simp (maxSteps := 5000000) only [SA, SB, SD, R, guardAt, binP, intP, indexAddrP, elemsOf, readCells, lenP, lenAt, resultsP, resultP, oneOr, reduceCtorEq, reduceIte, Nat.reduceEqDiff, Nat.reduceAdd, Nat.zero_add, Nat.reduceMul, Nat.reduceLT, Nat.reduceLeDiff, Int.reduceLT, Int.reduceNeg, Int.reduceLE, appendP, appendAt, letGo, setLoc, locVal, Int.reduceToNat, boxCells, und, TG, SE, SC, TGf, SPf, List.getElem?_concat_length, List.getElem?_cons_zero, List.getElem?_cons_succ, List.take_nil, unP, htu, htr, hky, hev1, htg, hsp, hrl, loadR, loadP, lay, List.take_succ_cons, List.take_zero, List.drop_nil, List.filter_nil, List.cons_append, Int.reduceBEq, Int.reduceBNe, Int.reduceGT, Int.reduceGE, Bool.not_true, Bool.not_false, e1, el, ei, hi, hi0', hx, hw1, hop]
      refine key _ ?_ ?_ ?_
      all_goals simp (maxSteps := 5000000) only [SA, SB, SD, R, guardAt, binP, intP, indexAddrP, elemsOf, readCells, lenP, lenAt, resultsP, resultP, oneOr, reduceCtorEq, reduceIte, Nat.reduceEqDiff, Nat.reduceAdd, Nat.zero_add, Nat.reduceMul, Nat.reduceLT, Nat.reduceLeDiff, Int.reduceLT, Int.reduceNeg, Int.reduceLE, appendP, appendAt, letGo, setLoc, locVal, Int.reduceToNat, boxCells, und, e1, el, ei]
    · have c1p : (er != 0) = true := by simpa using c1
      rw [if_pos c1]
      obtain ⟨ev, eo, so, co, ⟨hev, hco⟩, R⟩ := RULES CC; rw [← hev]
      rw [← hco] at hop
      simp only [fpart, part', Tryz.f12, Option.getD]
      simp (maxSteps := 5000000) only [SA, SB, SD, R, guardAt, binP, intP, indexAddrP, elemsOf, readCells, lenP, lenAt, resultsP, resultP, oneOr, reduceCtorEq, reduceIte, Nat.reduceEqDiff, Nat.reduceAdd, Nat.zero_add, Nat.reduceMul, Nat.reduceLT, Nat.reduceLeDiff, Int.reduceLT, Int.reduceNeg, Int.reduceLE, appendP, appendAt, letGo, setLoc, locVal, Int.reduceToNat, boxCells, und, TG, SE, SC, TGf, SPf, List.getElem?_concat_length, List.getElem?_cons_zero, List.getElem?_cons_succ, List.take_nil, unP, htu, htr, hky, hev1, htg, hsp, hrl, loadR, loadP, lay, List.take_succ_cons, List.take_zero, List.drop_nil, List.filter_nil, List.cons_append, Int.reduceBEq, Int.reduceBNe, Int.reduceGT, Int.reduceGE, Bool.not_true, Bool.not_false, e1, el, ei, hi, hi0', hx, hop, c1p]
      exact ⟨_, .inr ⟨c1, rfl, by simp (maxSteps := 5000000) only [SA, SB, SD, R, guardAt, binP, intP, indexAddrP, elemsOf, readCells, lenP, lenAt, resultsP, resultP, oneOr, reduceCtorEq, reduceIte, Nat.reduceEqDiff, Nat.reduceAdd, Nat.zero_add, Nat.reduceMul, Nat.reduceLT, Nat.reduceLeDiff, Int.reduceLT, Int.reduceNeg, Int.reduceLE, appendP, appendAt, letGo, setLoc, locVal, Int.reduceToNat, boxCells, und]⟩⟩
set_option maxHeartbeats 4000000
/-- what is said of a rule -/
def rlE (r : Rl) : Int := if valB r.nm = false then 10 else if r.pr < 0 ∨ 100 < r.pr then 2 else if r.on.length < 1 ∨ 8 < r.on.length ∨ r.dos.length < 1 ∨ 8 < r.dos.length then 3 else
  if fsE tgE r.on ≠ 0 then fsE tgE r.on else if ckT r.ife ≠ 0 then ckT r.ife else fsE spE r.dos
theorem plRl_len {r : Rl} (h : plRl r = true) : r.nm.length ≤ 100 ∧ r.on.length ≤ 12 ∧ r.dos.length ≤ 12 ∧ 0 ≤ mdT r.ife 220 30 ∧ (∀ t ∈ r.on, plTg t = true) ∧ ∀ s ∈ r.dos, plSp s = true := by
  unfold plRl at h
  rw [Bool.and_eq_true, Bool.and_eq_true, List.all_eq_true, List.all_eq_true] at h
  obtain ⟨⟨h1, h2⟩, h3⟩ := h
  have h1 := of_decide_eq_true h1
  exact ⟨h1.1, h1.2.1, h1.2.2.1, h1.2.2.2, h2, h3⟩
theorem call_print_Check (hT : ∀ t, plTg t = true → ∀ bx, callOp CC (callL CC) 30 [tgV t] bx = some (.ret (.int .i64 (tgE t)), bx)) (r : Rl) (hp : plRl r = true) : ∃ bx, callL CC 11 [rlV r] [] = some (.ret (.int .i64 (rlE r)), bx) := by
  obtain ⟨g1, g2, g3, g4, g5, g6⟩ := plRl_len hp
  unfold rlE
  obtain ⟨nm, pr, on, ife, dos⟩ := r
  simp only at g1 g2 g3 g4 g5 g6 ⊢
  have ova := op_names_Valid nm (by omega)
  have ock := op_expr_Check ife (sh_md ife 220 30 g4)
  have lon : (on.map tgV).length = on.length := List.length_map _
  have ldo : (dos.map spV).length = dos.length := List.length_map _
  have hon := fun e bx => loop_pon _ rfl on (by omega) (fun t ht => hT t (g5 t ht)) on.length 0 e bx (by omega)
  have hdo := fun e bx => loop_pdo _ rfl dos (by omega) (fun s hs => op_print_step s (g6 s hs)) dos.length 0 e bx (by omega)
  rw [List.drop_zero] at hon hdo
  generalize valB nm = va at *
  generalize ckT ife = ck at *
  generalize fsE tgE on = f1 at *
  generalize fsE spE dos = f2 at *
  unfold rlV trC
  obtain ⟨zk, zn, zm, znm, zv, zkey, zkids⟩ := ife
  unfold trV at ock ⊢
  simp only [SA, List.cons_append, List.nil_append] at ock ⊢
  generalize trVs zkids = zs at *
  generalize on.map tgV = xs at *
  generalize dos.map spV = ys at *
  rw [callL_enter (fn := Tryz.f11) (c := Tryz.f11.body.getD .skip) rfl rfl fat_print_Check rfl ok_print_Check (Nat.le_of_ble_eq_true rfl)]
  obtain ⟨tu, htu⟩ := VLs
  obtain ⟨tr, htr⟩ := TRs
  obtain ⟨tk, hky⟩ := KYs
  obtain ⟨te, hev1⟩ := EVs
  obtain ⟨tg, htg⟩ := TG_s
  obtain ⟨tp, hsp⟩ := SPs
  obtain ⟨tl, hrl⟩ := RLs
  cases va with
  | false =>
    rw [if_pos rfl]
    obtain ⟨ev, eo, so, co, ⟨hev, hco⟩, R⟩ := RULES CC; rw [← hev]
    rw [← hco] at ova ock
    simp only [fpart, part', Tryz.f11, Option.getD]
    simp (maxSteps := 5000000) only [SA, SB, SD, R, guardAt, binP, intP, indexAddrP, elemsOf, readCells, lenP, lenAt, resultsP, resultP, oneOr, reduceCtorEq, reduceIte, Nat.reduceEqDiff, Nat.reduceAdd, Nat.zero_add, Nat.reduceMul, Nat.reduceLT, Nat.reduceLeDiff, Int.reduceLT, Int.reduceNeg, Int.reduceLE, appendP, appendAt, letGo, setLoc, locVal, Int.reduceToNat, boxCells, und, TG, SE, SC, List.getElem?_cons_zero, List.getElem?_cons_succ, List.take_nil, List.nil_append, unP, htu, htr, hky, hev1, htg, hsp, hrl, loadR, loadP, lay, List.take_succ_cons, List.take_zero, List.drop_nil, List.filter_nil, List.cons_append, Int.reduceBEq, Int.reduceBNe, Int.reduceGT, Int.reduceGE, Bool.not_true, Bool.not_false, ova, ock, lon, ldo, lon]
    exact ⟨_, rfl⟩
  | true =>
    by_cases c0 : pr < 0
    · rw [if_neg (by simp), if_pos (by omega)]
      obtain ⟨ev, eo, so, co, ⟨hev, hco⟩, R⟩ := RULES CC; rw [← hev]
      rw [← hco] at ova ock
      simp only [fpart, part', Tryz.f11, Option.getD]
      simp (maxSteps := 5000000) only [SA, SB, SD, R, guardAt, binP, intP, indexAddrP, elemsOf, readCells, lenP, lenAt, resultsP, resultP, oneOr, reduceCtorEq, reduceIte, Nat.reduceEqDiff, Nat.reduceAdd, Nat.zero_add, Nat.reduceMul, Nat.reduceLT, Nat.reduceLeDiff, Int.reduceLT, Int.reduceNeg, Int.reduceLE, appendP, appendAt, letGo, setLoc, locVal, Int.reduceToNat, boxCells, und, TG, SE, SC, List.getElem?_cons_zero, List.getElem?_cons_succ, List.take_nil, List.nil_append, unP, htu, htr, hky, hev1, htg, hsp, hrl, loadR, loadP, lay, List.take_succ_cons, List.take_zero, List.drop_nil, List.filter_nil, List.cons_append, Int.reduceBEq, Int.reduceBNe, Int.reduceGT, Int.reduceGE, Bool.not_true, Bool.not_false, ova, ock, lon, ldo, lon, c0]
      exact ⟨_, rfl⟩
    by_cases c1 : pr > 100
    · rw [if_neg (by simp), if_pos (by omega)]
      obtain ⟨ev, eo, so, co, ⟨hev, hco⟩, R⟩ := RULES CC; rw [← hev]
      rw [← hco] at ova ock
      simp only [fpart, part', Tryz.f11, Option.getD]
      simp (maxSteps := 5000000) only [SA, SB, SD, R, guardAt, binP, intP, indexAddrP, elemsOf, readCells, lenP, lenAt, resultsP, resultP, oneOr, reduceCtorEq, reduceIte, Nat.reduceEqDiff, Nat.reduceAdd, Nat.zero_add, Nat.reduceMul, Nat.reduceLT, Nat.reduceLeDiff, Int.reduceLT, Int.reduceNeg, Int.reduceLE, appendP, appendAt, letGo, setLoc, locVal, Int.reduceToNat, boxCells, und, TG, SE, SC, List.getElem?_cons_zero, List.getElem?_cons_succ, List.take_nil, List.nil_append, unP, htu, htr, hky, hev1, htg, hsp, hrl, loadR, loadP, lay, List.take_succ_cons, List.take_zero, List.drop_nil, List.filter_nil, List.cons_append, Int.reduceBEq, Int.reduceBNe, Int.reduceGT, Int.reduceGE, Bool.not_true, Bool.not_false, ova, ock, lon, ldo, lon, c0, c1]
      exact ⟨_, rfl⟩
    by_cases d0 : (on.length : Int) < 1
    · rw [if_neg (by simp), if_neg (by omega), if_pos (by omega)]
      obtain ⟨ev, eo, so, co, ⟨hev, hco⟩, R⟩ := RULES CC; rw [← hev]
      rw [← hco] at ova ock
      simp only [fpart, part', Tryz.f11, Option.getD]
      simp (maxSteps := 5000000) only [SA, SB, SD, R, guardAt, binP, intP, indexAddrP, elemsOf, readCells, lenP, lenAt, resultsP, resultP, oneOr, reduceCtorEq, reduceIte, Nat.reduceEqDiff, Nat.reduceAdd, Nat.zero_add, Nat.reduceMul, Nat.reduceLT, Nat.reduceLeDiff, Int.reduceLT, Int.reduceNeg, Int.reduceLE, appendP, appendAt, letGo, setLoc, locVal, Int.reduceToNat, boxCells, und, TG, SE, SC, List.getElem?_cons_zero, List.getElem?_cons_succ, List.take_nil, List.nil_append, unP, htu, htr, hky, hev1, htg, hsp, hrl, loadR, loadP, lay, List.take_succ_cons, List.take_zero, List.drop_nil, List.filter_nil, List.cons_append, Int.reduceBEq, Int.reduceBNe, Int.reduceGT, Int.reduceGE, Bool.not_true, Bool.not_false, ova, ock, lon, ldo, lon, c0, c1, d0]
      exact ⟨_, rfl⟩
    by_cases d1 : (on.length : Int) > 8
    · rw [if_neg (by simp), if_neg (by omega), if_pos (by omega)]
      obtain ⟨ev, eo, so, co, ⟨hev, hco⟩, R⟩ := RULES CC; rw [← hev]
      rw [← hco] at ova ock
      simp only [fpart, part', Tryz.f11, Option.getD]
      simp (maxSteps := 5000000) only [SA, SB, SD, R, guardAt, binP, intP, indexAddrP, elemsOf, readCells, lenP, lenAt, resultsP, resultP, oneOr, reduceCtorEq, reduceIte, Nat.reduceEqDiff, Nat.reduceAdd, Nat.zero_add, Nat.reduceMul, Nat.reduceLT, Nat.reduceLeDiff, Int.reduceLT, Int.reduceNeg, Int.reduceLE, appendP, appendAt, letGo, setLoc, locVal, Int.reduceToNat, boxCells, und, TG, SE, SC, List.getElem?_cons_zero, List.getElem?_cons_succ, List.take_nil, List.nil_append, unP, htu, htr, hky, hev1, htg, hsp, hrl, loadR, loadP, lay, List.take_succ_cons, List.take_zero, List.drop_nil, List.filter_nil, List.cons_append, Int.reduceBEq, Int.reduceBNe, Int.reduceGT, Int.reduceGE, Bool.not_true, Bool.not_false, ova, ock, lon, ldo, lon, c0, c1, d0, d1]
      exact ⟨_, rfl⟩
    by_cases d2 : (dos.length : Int) < 1
    · rw [if_neg (by simp), if_neg (by omega), if_pos (by omega)]
      obtain ⟨ev, eo, so, co, ⟨hev, hco⟩, R⟩ := RULES CC; rw [← hev]
      rw [← hco] at ova ock
      simp only [fpart, part', Tryz.f11, Option.getD]
      simp (maxSteps := 5000000) only [SA, SB, SD, R, guardAt, binP, intP, indexAddrP, elemsOf, readCells, lenP, lenAt, resultsP, resultP, oneOr, reduceCtorEq, reduceIte, Nat.reduceEqDiff, Nat.reduceAdd, Nat.zero_add, Nat.reduceMul, Nat.reduceLT, Nat.reduceLeDiff, Int.reduceLT, Int.reduceNeg, Int.reduceLE, appendP, appendAt, letGo, setLoc, locVal, Int.reduceToNat, boxCells, und, TG, SE, SC, List.getElem?_cons_zero, List.getElem?_cons_succ, List.take_nil, List.nil_append, unP, htu, htr, hky, hev1, htg, hsp, hrl, loadR, loadP, lay, List.take_succ_cons, List.take_zero, List.drop_nil, List.filter_nil, List.cons_append, Int.reduceBEq, Int.reduceBNe, Int.reduceGT, Int.reduceGE, Bool.not_true, Bool.not_false, ova, ock, lon, ldo, lon, c0, c1, d0, d1, d2]
      exact ⟨_, rfl⟩
    by_cases d3 : (dos.length : Int) > 8
    · rw [if_neg (by simp), if_neg (by omega), if_pos (by omega)]
      obtain ⟨ev, eo, so, co, ⟨hev, hco⟩, R⟩ := RULES CC; rw [← hev]
      rw [← hco] at ova ock
      simp only [fpart, part', Tryz.f11, Option.getD]
      simp (maxSteps := 5000000) only [SA, SB, SD, R, guardAt, binP, intP, indexAddrP, elemsOf, readCells, lenP, lenAt, resultsP, resultP, oneOr, reduceCtorEq, reduceIte, Nat.reduceEqDiff, Nat.reduceAdd, Nat.zero_add, Nat.reduceMul, Nat.reduceLT, Nat.reduceLeDiff, Int.reduceLT, Int.reduceNeg, Int.reduceLE, appendP, appendAt, letGo, setLoc, locVal, Int.reduceToNat, boxCells, und, TG, SE, SC, List.getElem?_cons_zero, List.getElem?_cons_succ, List.take_nil, List.nil_append, unP, htu, htr, hky, hev1, htg, hsp, hrl, loadR, loadP, lay, List.take_succ_cons, List.take_zero, List.drop_nil, List.filter_nil, List.cons_append, Int.reduceBEq, Int.reduceBNe, Int.reduceGT, Int.reduceGE, Bool.not_true, Bool.not_false, ova, ock, lon, ldo, lon, c0, c1, d0, d1, d2, d3]
      exact ⟨_, rfl⟩
    rw [if_neg (by simp), if_neg (by omega), if_neg (by omega)]
    obtain ⟨ev, eo, so, co, ⟨hev, hco⟩, R⟩ := RULES CC; rw [← hev]
    rw [← hco] at ova ock
    rw [← hev] at hon hdo
    simp only [fpart, part', Tryz.f11, Option.getD] at hon hdo ⊢
    simp (maxSteps := 5000000) only [SA, SB, SD, R, guardAt, binP, intP, indexAddrP, elemsOf, readCells, lenP, lenAt, resultsP, resultP, oneOr, reduceCtorEq, reduceIte, Nat.reduceEqDiff, Nat.reduceAdd, Nat.zero_add, Nat.reduceMul, Nat.reduceLT, Nat.reduceLeDiff, Int.reduceLT, Int.reduceNeg, Int.reduceLE, appendP, appendAt, letGo, setLoc, locVal, Int.reduceToNat, boxCells, und, TG, SE, SC, List.getElem?_cons_zero, List.getElem?_cons_succ, List.take_nil, List.nil_append, unP, htu, htr, hky, hev1, htg, hsp, hrl, loadR, loadP, lay, List.take_succ_cons, List.take_zero, List.drop_nil, List.filter_nil, List.cons_append, Int.reduceBEq, Int.reduceBNe, Int.reduceGT, Int.reduceGE, Bool.not_true, Bool.not_false, ova, ock, lon, ldo, lon, c0, c1, d0, d1, d2, d3]
    generalize hE : ev (Code.loop _) _ = z
    have hP : PFe 0 [.cells 32 [.str nm, .int .i64 pr, .sl xs, .int .i64 zk, .int .i64 zn, .int .i64 zm, .str znm, .int .i64 zv.1, .int .i64 zv.2.1, .str zv.2.2, .int .i64 zkey.1, .str zkey.2.1, .str zkey.2.2, .sl zs, .sl ys]] f1 z := by
      rw [← hE]
      refine hon _ _ ?_ ?_ ?_ ?_
      all_goals first | (simp (maxSteps := 5000000) only [SA, SB, SD, R, guardAt, binP, intP, indexAddrP, elemsOf, readCells, lenP, lenAt, resultsP, resultP, oneOr, reduceCtorEq, reduceIte, Nat.reduceEqDiff, Nat.reduceAdd, Nat.zero_add, Nat.reduceMul, Nat.reduceLT, Nat.reduceLeDiff, Int.reduceLT, Int.reduceNeg, Int.reduceLE, appendP, appendAt, letGo, setLoc, locVal, Int.reduceToNat, boxCells, und]; done) | (simp (maxSteps := 5000000) only [SA, SB, SD, R, guardAt, binP, intP, indexAddrP, elemsOf, readCells, lenP, lenAt, resultsP, resultP, oneOr, reduceCtorEq, reduceIte, Nat.reduceEqDiff, Nat.reduceAdd, Nat.zero_add, Nat.reduceMul, Nat.reduceLT, Nat.reduceLeDiff, Int.reduceLT, Int.reduceNeg, Int.reduceLE, appendP, appendAt, letGo, setLoc, locVal, Int.reduceToNat, boxCells, und]; rfl)
    obtain ⟨e', ex, ⟨hv, he, q1⟩ | ⟨hv, he, q2⟩⟩ := hP
    · subst he
      subst hv
      rw [if_neg (by simp)]
      by_cases k1 : ck = 0
      · subst k1
        rw [if_neg (by simp)]
        simp (maxSteps := 5000000) only [SA, SB, SD, R, guardAt, binP, intP, indexAddrP, elemsOf, readCells, lenP, lenAt, resultsP, resultP, oneOr, reduceCtorEq, reduceIte, Nat.reduceEqDiff, Nat.reduceAdd, Nat.zero_add, Nat.reduceMul, Nat.reduceLT, Nat.reduceLeDiff, Int.reduceLT, Int.reduceNeg, Int.reduceLE, appendP, appendAt, letGo, setLoc, locVal, Int.reduceToNat, boxCells, und, TG, SE, SC, List.getElem?_cons_zero, List.getElem?_cons_succ, List.take_nil, List.nil_append, unP, htu, htr, hky, hev1, htg, hsp, hrl, loadR, loadP, lay, List.take_succ_cons, List.take_zero, List.drop_nil, List.filter_nil, List.cons_append, Int.reduceBEq, Int.reduceBNe, Int.reduceGT, Int.reduceGE, Bool.not_true, Bool.not_false, q1, ldo, ock]
        generalize hE2 : ev (Code.loop _) _ = z2
        have hP2 : PFe 2 (.cells 32 [.str nm, .int .i64 pr, .sl xs, .int .i64 zk, .int .i64 zn, .int .i64 zm, .str znm, .int .i64 zv.1, .int .i64 zv.2.1, .str zv.2.2, .int .i64 zkey.1, .str zkey.2.1, .str zkey.2.2, .sl zs, .sl ys] :: ex) f2 z2 := by
          rw [← hE2]
          refine hdo _ _ ?_ ?_ ?_ ?_
          all_goals first | (simp (maxSteps := 5000000) only [SA, SB, SD, R, guardAt, binP, intP, indexAddrP, elemsOf, readCells, lenP, lenAt, resultsP, resultP, oneOr, reduceCtorEq, reduceIte, Nat.reduceEqDiff, Nat.reduceAdd, Nat.zero_add, Nat.reduceMul, Nat.reduceLT, Nat.reduceLeDiff, Int.reduceLT, Int.reduceNeg, Int.reduceLE, appendP, appendAt, letGo, setLoc, locVal, Int.reduceToNat, boxCells, und, q1]; done) | (simp (maxSteps := 5000000) only [SA, SB, SD, R, guardAt, binP, intP, indexAddrP, elemsOf, readCells, lenP, lenAt, resultsP, resultP, oneOr, reduceCtorEq, reduceIte, Nat.reduceEqDiff, Nat.reduceAdd, Nat.zero_add, Nat.reduceMul, Nat.reduceLT, Nat.reduceLeDiff, Int.reduceLT, Int.reduceNeg, Int.reduceLE, appendP, appendAt, letGo, setLoc, locVal, Int.reduceToNat, boxCells, und, q1]; rfl)
        obtain ⟨e2, ex2, ⟨hv2, he2, q3⟩ | ⟨hv2, he2, q4⟩⟩ := hP2
        · subst he2
          subst hv2
          simp (maxSteps := 5000000) only [SA, SB, SD, R, guardAt, binP, intP, indexAddrP, elemsOf, readCells, lenP, lenAt, resultsP, resultP, oneOr, reduceCtorEq, reduceIte, Nat.reduceEqDiff, Nat.reduceAdd, Nat.zero_add, Nat.reduceMul, Nat.reduceLT, Nat.reduceLeDiff, Int.reduceLT, Int.reduceNeg, Int.reduceLE, appendP, appendAt, letGo, setLoc, locVal, Int.reduceToNat, boxCells, und, TG, SE]
          exact ⟨_, rfl⟩
        · subst he2
          simp (maxSteps := 5000000) only [SA, SB, SD, R, guardAt, binP, intP, indexAddrP, elemsOf, readCells, lenP, lenAt, resultsP, resultP, oneOr, reduceCtorEq, reduceIte, Nat.reduceEqDiff, Nat.reduceAdd, Nat.zero_add, Nat.reduceMul, Nat.reduceLT, Nat.reduceLeDiff, Int.reduceLT, Int.reduceNeg, Int.reduceLE, appendP, appendAt, letGo, setLoc, locVal, Int.reduceToNat, boxCells, und, TG, SE, q4]
          exact ⟨_, rfl⟩
      · have k1p : (ck != 0) = true := by simpa using k1
        rw [if_pos k1]
        simp (maxSteps := 5000000) only [SA, SB, SD, R, guardAt, binP, intP, indexAddrP, elemsOf, readCells, lenP, lenAt, resultsP, resultP, oneOr, reduceCtorEq, reduceIte, Nat.reduceEqDiff, Nat.reduceAdd, Nat.zero_add, Nat.reduceMul, Nat.reduceLT, Nat.reduceLeDiff, Int.reduceLT, Int.reduceNeg, Int.reduceLE, appendP, appendAt, letGo, setLoc, locVal, Int.reduceToNat, boxCells, und, TG, SE, SC, List.getElem?_cons_zero, List.getElem?_cons_succ, List.take_nil, List.nil_append, unP, htu, htr, hky, hev1, htg, hsp, hrl, loadR, loadP, lay, List.take_succ_cons, List.take_zero, List.drop_nil, List.filter_nil, List.cons_append, Int.reduceBEq, Int.reduceBNe, Int.reduceGT, Int.reduceGE, Bool.not_true, Bool.not_false, q1, ldo, ock, k1p]
        exact ⟨_, rfl⟩
    · subst he
      rw [if_pos hv]
      simp (maxSteps := 5000000) only [SA, SB, SD, R, guardAt, binP, intP, indexAddrP, elemsOf, readCells, lenP, lenAt, resultsP, resultP, oneOr, reduceCtorEq, reduceIte, Nat.reduceEqDiff, Nat.reduceAdd, Nat.zero_add, Nat.reduceMul, Nat.reduceLT, Nat.reduceLeDiff, Int.reduceLT, Int.reduceNeg, Int.reduceLE, appendP, appendAt, letGo, setLoc, locVal, Int.reduceToNat, boxCells, und, TG, SE, q2]
      exact ⟨_, rfl⟩
theorem call_R30_Check (r : Rl) (hp : plRl r = true) : ∃ bx, callL CC 12 [rlV r] [] = some (.ret (.int .i64 (rlE r)), bx) := by
  obtain ⟨g1, g2, g3, g4, g5, g6⟩ := plRl_len hp
  unfold rlE
  obtain ⟨nm, pr, on, ife, dos⟩ := r
  simp only at g1 g2 g3 g4 g5 g6 ⊢
  have ova := op_R04_Valid nm (by omega)
  have ock := op_R28_Check ife (sh_md ife 220 30 g4)
  have lon : (on.map tgV).length = on.length := List.length_map _
  have ldo : (dos.map spV).length = dos.length := List.length_map _
  have hon := fun b0 b1 b3 b4 b5 b6 b7 b8 b9 b10 b11 b12 b13 b14 e => loop_ron _ rfl b0 b1 b3 b4 b5 b6 b7 b8 b9 b10 b11 b12 b13 b14 on (by omega) (fun t ht => op_R30_Trigger t (g5 t ht)) on.length 0 e (by omega)
  have hdo := fun b0 b1 b2 b3 b4 b5 b6 b7 b8 b9 b10 b11 b12 b13 e => loop_rdo _ rfl b0 b1 b2 b3 b4 b5 b6 b7 b8 b9 b10 b11 b12 b13 dos (by omega) (fun s hs => op_R30_Step s (g6 s hs)) dos.length 0 e (by omega)
  rw [List.drop_zero] at hon hdo
  generalize valB nm = va at *
  generalize ckT ife = ck at *
  generalize fsE tgE on = f1 at *
  generalize fsE spE dos = f2 at *
  unfold rlV trC
  obtain ⟨zk, zn, zm, znm, zv, zkey, zkids⟩ := ife
  unfold trV at ock ⊢
  simp only [SA, List.cons_append, List.nil_append] at ock ⊢
  generalize trVs zkids = zs at *
  generalize on.map tgV = xs at *
  generalize dos.map spV = ys at *
  rw [callL_enter (fn := Tryz.f12) (c := Tryz.f12.body.getD .skip) rfl rfl fat_R30_Check rfl ok_R30_Check (Nat.le_of_ble_eq_true rfl)]
  obtain ⟨tu, htu⟩ := VLs
  obtain ⟨tr, htr⟩ := TRs
  obtain ⟨tk, hky⟩ := KYs
  obtain ⟨te, hev1⟩ := EVs
  obtain ⟨tg, htg⟩ := TG_s
  obtain ⟨tp, hsp⟩ := SPs
  obtain ⟨tl, hrl⟩ := RLs
  cases va with
  | false =>
    rw [if_pos rfl]
    obtain ⟨ev, eo, so, co, ⟨hev, hco⟩, R⟩ := RULES CC; rw [← hev]
    rw [← hco] at ova ock
    simp only [fpart, part', Tryz.f12, Option.getD]
    simp (maxSteps := 5000000) only [SA, SB, SD, R, guardAt, binP, intP, indexAddrP, elemsOf, readCells, lenP, lenAt, resultsP, resultP, oneOr, reduceCtorEq, reduceIte, Nat.reduceEqDiff, Nat.reduceAdd, Nat.zero_add, Nat.reduceMul, Nat.reduceLT, Nat.reduceLeDiff, Int.reduceLT, Int.reduceNeg, Int.reduceLE, appendP, appendAt, letGo, setLoc, locVal, Int.reduceToNat, boxCells, und, TG, SE, SC, List.getElem?_cons_zero, List.getElem?_cons_succ, List.take_nil, List.nil_append, unP, htu, htr, hky, hev1, htg, hsp, hrl, loadR, loadP, lay, List.take_succ_cons, List.take_zero, List.drop_nil, List.filter_nil, List.cons_append, Int.reduceBEq, Int.reduceBNe, Int.reduceGT, Int.reduceGE, Bool.not_true, Bool.not_false, ova, ock, lon, ldo, lon]
    exact ⟨_, rfl⟩
  | true =>
    by_cases c0 : pr < 0
    · rw [if_neg (by simp), if_pos (by omega)]
      obtain ⟨ev, eo, so, co, ⟨hev, hco⟩, R⟩ := RULES CC; rw [← hev]
      rw [← hco] at ova ock
      simp only [fpart, part', Tryz.f12, Option.getD]
      simp (maxSteps := 5000000) only [SA, SB, SD, R, guardAt, binP, intP, indexAddrP, elemsOf, readCells, lenP, lenAt, resultsP, resultP, oneOr, reduceCtorEq, reduceIte, Nat.reduceEqDiff, Nat.reduceAdd, Nat.zero_add, Nat.reduceMul, Nat.reduceLT, Nat.reduceLeDiff, Int.reduceLT, Int.reduceNeg, Int.reduceLE, appendP, appendAt, letGo, setLoc, locVal, Int.reduceToNat, boxCells, und, TG, SE, SC, List.getElem?_cons_zero, List.getElem?_cons_succ, List.take_nil, List.nil_append, unP, htu, htr, hky, hev1, htg, hsp, hrl, loadR, loadP, lay, List.take_succ_cons, List.take_zero, List.drop_nil, List.filter_nil, List.cons_append, Int.reduceBEq, Int.reduceBNe, Int.reduceGT, Int.reduceGE, Bool.not_true, Bool.not_false, ova, ock, lon, ldo, lon, c0]
      exact ⟨_, rfl⟩
    by_cases c1 : pr > 100
    · rw [if_neg (by simp), if_pos (by omega)]
      obtain ⟨ev, eo, so, co, ⟨hev, hco⟩, R⟩ := RULES CC; rw [← hev]
      rw [← hco] at ova ock
      simp only [fpart, part', Tryz.f12, Option.getD]
      simp (maxSteps := 5000000) only [SA, SB, SD, R, guardAt, binP, intP, indexAddrP, elemsOf, readCells, lenP, lenAt, resultsP, resultP, oneOr, reduceCtorEq, reduceIte, Nat.reduceEqDiff, Nat.reduceAdd, Nat.zero_add, Nat.reduceMul, Nat.reduceLT, Nat.reduceLeDiff, Int.reduceLT, Int.reduceNeg, Int.reduceLE, appendP, appendAt, letGo, setLoc, locVal, Int.reduceToNat, boxCells, und, TG, SE, SC, List.getElem?_cons_zero, List.getElem?_cons_succ, List.take_nil, List.nil_append, unP, htu, htr, hky, hev1, htg, hsp, hrl, loadR, loadP, lay, List.take_succ_cons, List.take_zero, List.drop_nil, List.filter_nil, List.cons_append, Int.reduceBEq, Int.reduceBNe, Int.reduceGT, Int.reduceGE, Bool.not_true, Bool.not_false, ova, ock, lon, ldo, lon, c0, c1]
      exact ⟨_, rfl⟩
    by_cases d0 : (on.length : Int) < 1
    · rw [if_neg (by simp), if_neg (by omega), if_pos (by omega)]
      obtain ⟨ev, eo, so, co, ⟨hev, hco⟩, R⟩ := RULES CC; rw [← hev]
      rw [← hco] at ova ock
      simp only [fpart, part', Tryz.f12, Option.getD]
      simp (maxSteps := 5000000) only [SA, SB, SD, R, guardAt, binP, intP, indexAddrP, elemsOf, readCells, lenP, lenAt, resultsP, resultP, oneOr, reduceCtorEq, reduceIte, Nat.reduceEqDiff, Nat.reduceAdd, Nat.zero_add, Nat.reduceMul, Nat.reduceLT, Nat.reduceLeDiff, Int.reduceLT, Int.reduceNeg, Int.reduceLE, appendP, appendAt, letGo, setLoc, locVal, Int.reduceToNat, boxCells, und, TG, SE, SC, List.getElem?_cons_zero, List.getElem?_cons_succ, List.take_nil, List.nil_append, unP, htu, htr, hky, hev1, htg, hsp, hrl, loadR, loadP, lay, List.take_succ_cons, List.take_zero, List.drop_nil, List.filter_nil, List.cons_append, Int.reduceBEq, Int.reduceBNe, Int.reduceGT, Int.reduceGE, Bool.not_true, Bool.not_false, ova, ock, lon, ldo, lon, c0, c1, d0]
      exact ⟨_, rfl⟩
    by_cases d1 : (on.length : Int) > 8
    · rw [if_neg (by simp), if_neg (by omega), if_pos (by omega)]
      obtain ⟨ev, eo, so, co, ⟨hev, hco⟩, R⟩ := RULES CC; rw [← hev]
      rw [← hco] at ova ock
      simp only [fpart, part', Tryz.f12, Option.getD]
      simp (maxSteps := 5000000) only [SA, SB, SD, R, guardAt, binP, intP, indexAddrP, elemsOf, readCells, lenP, lenAt, resultsP, resultP, oneOr, reduceCtorEq, reduceIte, Nat.reduceEqDiff, Nat.reduceAdd, Nat.zero_add, Nat.reduceMul, Nat.reduceLT, Nat.reduceLeDiff, Int.reduceLT, Int.reduceNeg, Int.reduceLE, appendP, appendAt, letGo, setLoc, locVal, Int.reduceToNat, boxCells, und, TG, SE, SC, List.getElem?_cons_zero, List.getElem?_cons_succ, List.take_nil, List.nil_append, unP, htu, htr, hky, hev1, htg, hsp, hrl, loadR, loadP, lay, List.take_succ_cons, List.take_zero, List.drop_nil, List.filter_nil, List.cons_append, Int.reduceBEq, Int.reduceBNe, Int.reduceGT, Int.reduceGE, Bool.not_true, Bool.not_false, ova, ock, lon, ldo, lon, c0, c1, d0, d1]
      exact ⟨_, rfl⟩
    by_cases d2 : (dos.length : Int) < 1
    · rw [if_neg (by simp), if_neg (by omega), if_pos (by omega)]
      obtain ⟨ev, eo, so, co, ⟨hev, hco⟩, R⟩ := RULES CC; rw [← hev]
      rw [← hco] at ova ock
      simp only [fpart, part', Tryz.f12, Option.getD]
      simp (maxSteps := 5000000) only [SA, SB, SD, R, guardAt, binP, intP, indexAddrP, elemsOf, readCells, lenP, lenAt, resultsP, resultP, oneOr, reduceCtorEq, reduceIte, Nat.reduceEqDiff, Nat.reduceAdd, Nat.zero_add, Nat.reduceMul, Nat.reduceLT, Nat.reduceLeDiff, Int.reduceLT, Int.reduceNeg, Int.reduceLE, appendP, appendAt, letGo, setLoc, locVal, Int.reduceToNat, boxCells, und, TG, SE, SC, List.getElem?_cons_zero, List.getElem?_cons_succ, List.take_nil, List.nil_append, unP, htu, htr, hky, hev1, htg, hsp, hrl, loadR, loadP, lay, List.take_succ_cons, List.take_zero, List.drop_nil, List.filter_nil, List.cons_append, Int.reduceBEq, Int.reduceBNe, Int.reduceGT, Int.reduceGE, Bool.not_true, Bool.not_false, ova, ock, lon, ldo, lon, c0, c1, d0, d1, d2]
      exact ⟨_, rfl⟩
    by_cases d3 : (dos.length : Int) > 8
    · rw [if_neg (by simp), if_neg (by omega), if_pos (by omega)]
      obtain ⟨ev, eo, so, co, ⟨hev, hco⟩, R⟩ := RULES CC; rw [← hev]
      rw [← hco] at ova ock
      simp only [fpart, part', Tryz.f12, Option.getD]
      simp (maxSteps := 5000000) only [SA, SB, SD, R, guardAt, binP, intP, indexAddrP, elemsOf, readCells, lenP, lenAt, resultsP, resultP, oneOr, reduceCtorEq, reduceIte, Nat.reduceEqDiff, Nat.reduceAdd, Nat.zero_add, Nat.reduceMul, Nat.reduceLT, Nat.reduceLeDiff, Int.reduceLT, Int.reduceNeg, Int.reduceLE, appendP, appendAt, letGo, setLoc, locVal, Int.reduceToNat, boxCells, und, TG, SE, SC, List.getElem?_cons_zero, List.getElem?_cons_succ, List.take_nil, List.nil_append, unP, htu, htr, hky, hev1, htg, hsp, hrl, loadR, loadP, lay, List.take_succ_cons, List.take_zero, List.drop_nil, List.filter_nil, List.cons_append, Int.reduceBEq, Int.reduceBNe, Int.reduceGT, Int.reduceGE, Bool.not_true, Bool.not_false, ova, ock, lon, ldo, lon, c0, c1, d0, d1, d2, d3]
      exact ⟨_, rfl⟩
    rw [if_neg (by simp), if_neg (by omega), if_neg (by omega)]
    obtain ⟨ev, eo, so, co, ⟨hev, hco⟩, R⟩ := RULES CC; rw [← hev]
    rw [← hco] at ova ock
    rw [← hev] at hon hdo
    simp only [fpart, part', Tryz.f12, Option.getD] at hon hdo ⊢
    simp (maxSteps := 5000000) only [SA, SB, SD, R, guardAt, binP, intP, indexAddrP, elemsOf, readCells, lenP, lenAt, resultsP, resultP, oneOr, reduceCtorEq, reduceIte, Nat.reduceEqDiff, Nat.reduceAdd, Nat.zero_add, Nat.reduceMul, Nat.reduceLT, Nat.reduceLeDiff, Int.reduceLT, Int.reduceNeg, Int.reduceLE, appendP, appendAt, letGo, setLoc, locVal, Int.reduceToNat, boxCells, und, TG, SE, SC, List.getElem?_cons_zero, List.getElem?_cons_succ, List.take_nil, List.nil_append, unP, htu, htr, hky, hev1, htg, hsp, hrl, loadR, loadP, lay, List.take_succ_cons, List.take_zero, List.drop_nil, List.filter_nil, List.cons_append, Int.reduceBEq, Int.reduceBNe, Int.reduceGT, Int.reduceGE, Bool.not_true, Bool.not_false, ova, ock, lon, ldo, lon, c0, c1, d0, d1, d2, d3]
    generalize hE : ev (Code.loop _) _ = z
    have hP : PFc 0 [.cells 32 [.str nm, .int .i64 pr, .sl xs, .int .i64 zk, .int .i64 zn, .int .i64 zm, .str znm, .int .i64 zv.1, .int .i64 zv.2.1, .str zv.2.2, .int .i64 zkey.1, .str zkey.2.1, .str zkey.2.2, .sl zs, .sl ys]] f1 z := by
      rw [← hE]
      refine hon _ _ _ _ _ _ _ _ _ _ _ _ _ _ _ ?_ ?_ ?_
      all_goals first | (simp (maxSteps := 5000000) only [SA, SB, SD, R, guardAt, binP, intP, indexAddrP, elemsOf, readCells, lenP, lenAt, resultsP, resultP, oneOr, reduceCtorEq, reduceIte, Nat.reduceEqDiff, Nat.reduceAdd, Nat.zero_add, Nat.reduceMul, Nat.reduceLT, Nat.reduceLeDiff, Int.reduceLT, Int.reduceNeg, Int.reduceLE, appendP, appendAt, letGo, setLoc, locVal, Int.reduceToNat, boxCells, und]; done) | (simp (maxSteps := 5000000) only [SA, SB, SD, R, guardAt, binP, intP, indexAddrP, elemsOf, readCells, lenP, lenAt, resultsP, resultP, oneOr, reduceCtorEq, reduceIte, Nat.reduceEqDiff, Nat.reduceAdd, Nat.zero_add, Nat.reduceMul, Nat.reduceLT, Nat.reduceLeDiff, Int.reduceLT, Int.reduceNeg, Int.reduceLE, appendP, appendAt, letGo, setLoc, locVal, Int.reduceToNat, boxCells, und]; rfl)
    obtain ⟨e', ⟨hv, he, q1⟩ | ⟨hv, he, q2⟩⟩ := hP
    · subst he
      subst hv
      rw [if_neg (by simp)]
      by_cases k1 : ck = 0
      · subst k1
        rw [if_neg (by simp)]
        simp (maxSteps := 5000000) only [SA, SB, SD, R, guardAt, binP, intP, indexAddrP, elemsOf, readCells, lenP, lenAt, resultsP, resultP, oneOr, reduceCtorEq, reduceIte, Nat.reduceEqDiff, Nat.reduceAdd, Nat.zero_add, Nat.reduceMul, Nat.reduceLT, Nat.reduceLeDiff, Int.reduceLT, Int.reduceNeg, Int.reduceLE, appendP, appendAt, letGo, setLoc, locVal, Int.reduceToNat, boxCells, und, TG, SE, SC, List.getElem?_cons_zero, List.getElem?_cons_succ, List.take_nil, List.nil_append, unP, htu, htr, hky, hev1, htg, hsp, hrl, loadR, loadP, lay, List.take_succ_cons, List.take_zero, List.drop_nil, List.filter_nil, List.cons_append, Int.reduceBEq, Int.reduceBNe, Int.reduceGT, Int.reduceGE, Bool.not_true, Bool.not_false, q1, ldo, ock]
        generalize hE2 : ev (Code.loop _) _ = z2
        have hP2 : PFc 2 (.cells 32 [.str nm, .int .i64 pr, .sl xs, .int .i64 zk, .int .i64 zn, .int .i64 zm, .str znm, .int .i64 zv.1, .int .i64 zv.2.1, .str zv.2.2, .int .i64 zkey.1, .str zkey.2.1, .str zkey.2.2, .sl zs, .sl ys] :: []) f2 z2 := by
          rw [← hE2]
          refine hdo _ _ _ _ _ _ _ _ _ _ _ _ _ _ _ ?_ ?_ ?_
          all_goals first | (simp (maxSteps := 5000000) only [SA, SB, SD, R, guardAt, binP, intP, indexAddrP, elemsOf, readCells, lenP, lenAt, resultsP, resultP, oneOr, reduceCtorEq, reduceIte, Nat.reduceEqDiff, Nat.reduceAdd, Nat.zero_add, Nat.reduceMul, Nat.reduceLT, Nat.reduceLeDiff, Int.reduceLT, Int.reduceNeg, Int.reduceLE, appendP, appendAt, letGo, setLoc, locVal, Int.reduceToNat, boxCells, und, q1]; done) | (simp (maxSteps := 5000000) only [SA, SB, SD, R, guardAt, binP, intP, indexAddrP, elemsOf, readCells, lenP, lenAt, resultsP, resultP, oneOr, reduceCtorEq, reduceIte, Nat.reduceEqDiff, Nat.reduceAdd, Nat.zero_add, Nat.reduceMul, Nat.reduceLT, Nat.reduceLeDiff, Int.reduceLT, Int.reduceNeg, Int.reduceLE, appendP, appendAt, letGo, setLoc, locVal, Int.reduceToNat, boxCells, und, q1]; rfl)
        obtain ⟨e2, ⟨hv2, he2, q3⟩ | ⟨hv2, he2, q4⟩⟩ := hP2
        · subst he2
          subst hv2
          simp (maxSteps := 5000000) only [SA, SB, SD, R, guardAt, binP, intP, indexAddrP, elemsOf, readCells, lenP, lenAt, resultsP, resultP, oneOr, reduceCtorEq, reduceIte, Nat.reduceEqDiff, Nat.reduceAdd, Nat.zero_add, Nat.reduceMul, Nat.reduceLT, Nat.reduceLeDiff, Int.reduceLT, Int.reduceNeg, Int.reduceLE, appendP, appendAt, letGo, setLoc, locVal, Int.reduceToNat, boxCells, und, TG, SE]
          exact ⟨_, rfl⟩
        · subst he2
          simp (maxSteps := 5000000) only [SA, SB, SD, R, guardAt, binP, intP, indexAddrP, elemsOf, readCells, lenP, lenAt, resultsP, resultP, oneOr, reduceCtorEq, reduceIte, Nat.reduceEqDiff, Nat.reduceAdd, Nat.zero_add, Nat.reduceMul, Nat.reduceLT, Nat.reduceLeDiff, Int.reduceLT, Int.reduceNeg, Int.reduceLE, appendP, appendAt, letGo, setLoc, locVal, Int.reduceToNat, boxCells, und, TG, SE, q4]
          exact ⟨_, rfl⟩
      · have k1p : (ck != 0) = true := by simpa using k1
        rw [if_pos k1]
        simp (maxSteps := 5000000) only [SA, SB, SD, R, guardAt, binP, intP, indexAddrP, elemsOf, readCells, lenP, lenAt, resultsP, resultP, oneOr, reduceCtorEq, reduceIte, Nat.reduceEqDiff, Nat.reduceAdd, Nat.zero_add, Nat.reduceMul, Nat.reduceLT, Nat.reduceLeDiff, Int.reduceLT, Int.reduceNeg, Int.reduceLE, appendP, appendAt, letGo, setLoc, locVal, Int.reduceToNat, boxCells, und, TG, SE, SC, List.getElem?_cons_zero, List.getElem?_cons_succ, List.take_nil, List.nil_append, unP, htu, htr, hky, hev1, htg, hsp, hrl, loadR, loadP, lay, List.take_succ_cons, List.take_zero, List.drop_nil, List.filter_nil, List.cons_append, Int.reduceBEq, Int.reduceBNe, Int.reduceGT, Int.reduceGE, Bool.not_true, Bool.not_false, q1, ldo, ock, k1p]
        exact ⟨_, rfl⟩
    · subst he
      rw [if_pos hv]
      simp (maxSteps := 5000000) only [SA, SB, SD, R, guardAt, binP, intP, indexAddrP, elemsOf, readCells, lenP, lenAt, resultsP, resultP, oneOr, reduceCtorEq, reduceIte, Nat.reduceEqDiff, Nat.reduceAdd, Nat.zero_add, Nat.reduceMul, Nat.reduceLT, Nat.reduceLeDiff, Int.reduceLT, Int.reduceNeg, Int.reduceLE, appendP, appendAt, letGo, setLoc, locVal, Int.reduceToNat, boxCells, und, TG, SE, q2]
      exact ⟨_, rfl⟩
theorem op_R30_CheckRl (r : Rl) (hp : plRl r = true) (bx) : callOp CC (callL CC) 12 [rlV r] bx = some (.ret (.int .i64 (rlE r)), bx) := by
  obtain ⟨b, h⟩ := call_R30_Check r hp
  exact callOp_of rfl (by simp only [pureL_cons, rlV_pure, pureL_nil, Bool.and_self]) h rfl
end Go.HH
