/-
  Values: the limited value and the first value.
-/
import Derived.Test.YtedpmedialplkaaDoorV7
namespace Go.HH
open Go Go.Proofs
set_option maxRecDepth 100000
set_option linter.unusedSimpArgs false
set_option linter.unusedVariables false
theorem ok_value_Limit : fnOK CC Tryd.f21 (Tryd.f21.body.getD .skip) = true := by kernel_rfl
theorem fat_value_Limit : CC.P.funcs[21]? = some Tryd.f21 := by kernel_rfl
theorem ok_R20_Limit : fnOK CC Tryd.f22 (Tryd.f22.body.getD .skip) = true := by kernel_rfl
theorem fat_R20_Limit : CC.P.funcs[22]? = some Tryd.f22 := by kernel_rfl
theorem ok_value_Zero : fnOK CC Tryd.f19 (Tryd.f19.body.getD .skip) = true := by kernel_rfl
theorem fat_value_Zero : CC.P.funcs[19]? = some Tryd.f19 := by kernel_rfl
theorem ok_R20_Zero : fnOK CC Tryd.f20 (Tryd.f20.body.getD .skip) = true := by kernel_rfl
theorem fat_R20_Zero : CC.P.funcs[20]? = some Tryd.f20 := by kernel_rfl
theorem VLf : zeroCells CC 26 = some [.int .i64 0, .int .i64 0, .str []] := by kernel_rfl
theorem buildVl1 (k : Int) : buildP CC 26 [(0, .int .i64 k)] = some (.agg [.int .i64 k, .int .i64 0, .str []]) := by
  have h := (by kernel_rfl : CC.P.underlying 26 = some (.struct ((match Tryd.prog.underlying 26 with | some (.struct f) => f | _ => #[]))))
  have hz : tZero CC 26 = some (.agg [.int .i64 0, .int .i64 0, .str []]) := by kernel_rfl
  have hp : ((match Tryd.prog.underlying 26 with | some (.struct f) => f | _ => #[]) : Array Field).toList.mapM (fun f => (tSize CC f.type).map fun s => (f.offset, s)) = some [(0, 1), (1, 1), (2, 1)] := by kernel_rfl
  unfold buildP
  rw [h, hz]
  simp only [hp]
  rfl
theorem buildVl2 (k n : Int) : buildP CC 26 [(0, .int .i64 k), (1, .int .i64 n)] = some (.agg [.int .i64 k, .int .i64 n, .str []]) := by
  have h := (by kernel_rfl : CC.P.underlying 26 = some (.struct ((match Tryd.prog.underlying 26 with | some (.struct f) => f | _ => #[]))))
  have hz : tZero CC 26 = some (.agg [.int .i64 0, .int .i64 0, .str []]) := by kernel_rfl
  have hp : ((match Tryd.prog.underlying 26 with | some (.struct f) => f | _ => #[]) : Array Field).toList.mapM (fun f => (tSize CC f.type).map fun s => (f.offset, s)) = some [(0, 1), (1, 1), (2, 1)] := by kernel_rfl
  unfold buildP
  rw [h, hz]
  simp only [hp]
  rfl
theorem buildVl0 : buildP CC 26 [] = some (.agg [.int .i64 0, .int .i64 0, .str []]) := by kernel_rfl
noncomputable def limV (a : At) (v : Vl) : Vl := if dfV a = 0 ∧ a.kd = 2 ∧ v.1 = 2 then (2, clampI v.2.1 a.mn a.mx, v.2.2) else v
noncomputable def zroV (a : At) : Vl := if dfV a ≠ 0 then (0, 0, []) else limV a (a.kd, 0, [])
theorem call_value_Limit (a : At) (ha : shAt a) (v : Vl) : ∃ bx, callL CC 21 [attV a, vlV v] [] = some (.ret (vlV (limV a v)), bx) := by
  rw [callL_enter (fn := Tryd.f21) (c := Tryd.f21.body.getD .skip) rfl rfl fat_value_Limit rfl ok_value_Limit (Nat.le_of_ble_eq_true rfl)]
  have hd := op_value_Def a ha
  have hcl := op_num_Clamp v.2.1 a.mn a.mx
  unfold limV
  generalize dfV a = d at *
  obtain ⟨nm, kd, mn, mx, en, wr, sf⟩ := a
  obtain ⟨k, n, s⟩ := v
  unfold attV at *
  simp only at *
  have hln := strs_length en
  have hpu := strs_pure en
  have hz : True := trivial
  obtain ⟨tu, htu⟩ := VLs
  obtain ⟨ta, hta⟩ := ATs
  generalize strs en = xs at *
  generalize clampI n mn mx = cl at *
  by_cases d0 : d = 0
  · have d0' : (d == 0) = true := by simp [d0]
    by_cases k2 : kd = 2
    · have k2' : (kd == 2) = true := by simp [k2]
      by_cases k3 : k = 2
      · have k3' : (k == 2) = true := by simp [k3]
        rw [if_pos ⟨d0, k2, k3⟩]
        subst k3
        unfold vlV
        simp only
        obtain ⟨ev, eo, so, co, ⟨hev, hco⟩, R⟩ := RULES CC; rw [← hev]
        rw [← hco] at hd hcl
        simp only [fpart, part', Tryd.f21, Option.getD]
        simp (maxSteps := 5000000) only [SA, SB, SD, R, guardAt, binP, intP, indexAddrP, elemsOf, readCells, lenP, lenAt, resultsP, resultP, oneOr, reduceCtorEq, reduceIte, Nat.reduceEqDiff, Nat.reduceAdd, Nat.zero_add, Nat.reduceMul, Nat.reduceLT, Nat.reduceLeDiff, Int.reduceLT, Int.reduceNeg, Int.reduceLE, appendP, appendAt, letGo, setLoc, locVal, Int.reduceToNat, boxCells, und, TG, SE, SC, unP, htu, hta, hz, VLf, loadR, loadP, storeR, storeK, storeCellsP, laid, lay, setBox, List.set_cons_zero, List.set_cons_succ, Nat.le_refl, List.take_succ_cons, List.take_zero, List.drop_nil, List.filter_nil, List.cons_append, Int.reduceBEq, Int.reduceBNe, Int.reduceGT, Int.reduceGE, Bool.not_true, Bool.not_false, hd, d0', k2', hcl, hpu]
        exact ⟨_, rfl⟩
      · have k3' : (k == 2) = false := by simpa using k3
        rw [if_neg (fun h => k3 h.2.2)]
        unfold vlV
        simp only
        obtain ⟨ev, eo, so, co, ⟨hev, hco⟩, R⟩ := RULES CC; rw [← hev]
        rw [← hco] at hd
        simp only [fpart, part', Tryd.f21, Option.getD]
        simp (maxSteps := 5000000) only [SA, SB, SD, R, guardAt, binP, intP, indexAddrP, elemsOf, readCells, lenP, lenAt, resultsP, resultP, oneOr, reduceCtorEq, reduceIte, Nat.reduceEqDiff, Nat.reduceAdd, Nat.zero_add, Nat.reduceMul, Nat.reduceLT, Nat.reduceLeDiff, Int.reduceLT, Int.reduceNeg, Int.reduceLE, appendP, appendAt, letGo, setLoc, locVal, Int.reduceToNat, boxCells, und, TG, SE, SC, unP, htu, hta, hz, VLf, loadR, loadP, storeR, storeK, storeCellsP, laid, lay, setBox, List.set_cons_zero, List.set_cons_succ, Nat.le_refl, List.take_succ_cons, List.take_zero, List.drop_nil, List.filter_nil, List.cons_append, Int.reduceBEq, Int.reduceBNe, Int.reduceGT, Int.reduceGE, Bool.not_true, Bool.not_false, hd, d0', k2', k3', hpu]
        exact ⟨_, rfl⟩
    · have k2' : (kd == 2) = false := by simpa using k2
      rw [if_neg (fun h => k2 h.2.1)]
      unfold vlV
      simp only
      obtain ⟨ev, eo, so, co, ⟨hev, hco⟩, R⟩ := RULES CC; rw [← hev]
      rw [← hco] at hd
      simp only [fpart, part', Tryd.f21, Option.getD]
      simp (maxSteps := 5000000) only [SA, SB, SD, R, guardAt, binP, intP, indexAddrP, elemsOf, readCells, lenP, lenAt, resultsP, resultP, oneOr, reduceCtorEq, reduceIte, Nat.reduceEqDiff, Nat.reduceAdd, Nat.zero_add, Nat.reduceMul, Nat.reduceLT, Nat.reduceLeDiff, Int.reduceLT, Int.reduceNeg, Int.reduceLE, appendP, appendAt, letGo, setLoc, locVal, Int.reduceToNat, boxCells, und, TG, SE, SC, unP, htu, hta, hz, VLf, loadR, loadP, storeR, storeK, storeCellsP, laid, lay, setBox, List.set_cons_zero, List.set_cons_succ, Nat.le_refl, List.take_succ_cons, List.take_zero, List.drop_nil, List.filter_nil, List.cons_append, Int.reduceBEq, Int.reduceBNe, Int.reduceGT, Int.reduceGE, Bool.not_true, Bool.not_false, hd, d0', k2', hpu]
      exact ⟨_, rfl⟩
  · have d0' : (d == 0) = false := by simpa using d0
    rw [if_neg (fun h => d0 h.1)]
    unfold vlV
    simp only
    obtain ⟨ev, eo, so, co, ⟨hev, hco⟩, R⟩ := RULES CC; rw [← hev]
    rw [← hco] at hd
    simp only [fpart, part', Tryd.f21, Option.getD]
    simp (maxSteps := 5000000) only [SA, SB, SD, R, guardAt, binP, intP, indexAddrP, elemsOf, readCells, lenP, lenAt, resultsP, resultP, oneOr, reduceCtorEq, reduceIte, Nat.reduceEqDiff, Nat.reduceAdd, Nat.zero_add, Nat.reduceMul, Nat.reduceLT, Nat.reduceLeDiff, Int.reduceLT, Int.reduceNeg, Int.reduceLE, appendP, appendAt, letGo, setLoc, locVal, Int.reduceToNat, boxCells, und, TG, SE, SC, unP, htu, hta, hz, VLf, loadR, loadP, storeR, storeK, storeCellsP, laid, lay, setBox, List.set_cons_zero, List.set_cons_succ, Nat.le_refl, List.take_succ_cons, List.take_zero, List.drop_nil, List.filter_nil, List.cons_append, Int.reduceBEq, Int.reduceBNe, Int.reduceGT, Int.reduceGE, Bool.not_true, Bool.not_false, hd, d0', hpu]
    exact ⟨_, rfl⟩
theorem op_value_Limit (a : At) (ha : shAt a) (v : Vl) (bx) : callOp CC (callL CC) 21 [attV a, vlV v] bx = some (.ret (vlV (limV a v)), bx) := by
  obtain ⟨b, h⟩ := call_value_Limit a ha v
  exact callOp_of rfl (by show ((attV a).pure && ((vlV v).pure && true)) = true; rw [attV_pure]; rfl) h rfl
theorem call_R20_Limit (a : At) (ha : shAt a) (v : Vl) : ∃ bx, callL CC 22 [attV a, vlV v] [] = some (.ret (vlV (limV a v)), bx) := by
  rw [callL_enter (fn := Tryd.f22) (c := Tryd.f22.body.getD .skip) rfl rfl fat_R20_Limit rfl ok_R20_Limit (Nat.le_of_ble_eq_true rfl)]
  have hd := op_R20_Def a ha
  have hbd := df_bd (a := a)
  unfold limV clampI
  generalize dfV a = d at *
  obtain ⟨nm, kd, mn, mx, en, wr, sf⟩ := a
  obtain ⟨k, n, s⟩ := v
  unfold attV at *
  simp only at *
  have hln := strs_length en
  have hpu := strs_pure en
  have hz : True := trivial
  obtain ⟨tu, htu⟩ := VLs
  obtain ⟨ta, hta⟩ := ATs
  generalize strs en = xs at *
  by_cases d0 : d = 0
  · have d0' : (d != 0) = false := by simp [d0]
    by_cases k2 : kd = 2
    · have k2' : (kd != 2) = false := by simp [k2]
      by_cases k3 : k = 2
      · have k3' : (k != 2) = false := by simp [k3]
        rw [if_pos ⟨d0, k2, k3⟩]
        subst k3
        obtain ⟨_, _, hle⟩ := hbd d0 k2
        clear hbd
        by_cases n1 : n < mn
        · have n2 : ¬ mn > mx := by omega
          rw [if_neg (by omega), if_pos n1]
          unfold vlV
          simp only
          obtain ⟨ev, eo, so, co, ⟨hev, hco⟩, R⟩ := RULES CC; rw [← hev]
          rw [← hco] at hd
          simp only [fpart, part', Tryd.f22, Option.getD]
          simp (maxSteps := 5000000) only [SA, SB, SD, R, guardAt, binP, intP, indexAddrP, elemsOf, readCells, lenP, lenAt, resultsP, resultP, oneOr, reduceCtorEq, reduceIte, Nat.reduceEqDiff, Nat.reduceAdd, Nat.zero_add, Nat.reduceMul, Nat.reduceLT, Nat.reduceLeDiff, Int.reduceLT, Int.reduceNeg, Int.reduceLE, appendP, appendAt, letGo, setLoc, locVal, Int.reduceToNat, boxCells, und, TG, SE, SC, unP, htu, hta, hz, VLf, loadR, loadP, storeR, storeK, storeCellsP, laid, lay, setBox, List.set_cons_zero, List.set_cons_succ, Nat.le_refl, List.take_succ_cons, List.take_zero, List.drop_nil, List.filter_nil, List.cons_append, Int.reduceBEq, Int.reduceBNe, Int.reduceGT, Int.reduceGE, Bool.not_true, Bool.not_false, hd, d0', k2', n1, n2, hpu]
          exact ⟨_, rfl⟩
        · by_cases n2 : n > mx
          · rw [if_pos (.inr n2)]
            unfold vlV
            simp only
            obtain ⟨ev, eo, so, co, ⟨hev, hco⟩, R⟩ := RULES CC; rw [← hev]
            rw [← hco] at hd
            simp only [fpart, part', Tryd.f22, Option.getD]
            simp (maxSteps := 5000000) only [SA, SB, SD, R, guardAt, binP, intP, indexAddrP, elemsOf, readCells, lenP, lenAt, resultsP, resultP, oneOr, reduceCtorEq, reduceIte, Nat.reduceEqDiff, Nat.reduceAdd, Nat.zero_add, Nat.reduceMul, Nat.reduceLT, Nat.reduceLeDiff, Int.reduceLT, Int.reduceNeg, Int.reduceLE, appendP, appendAt, letGo, setLoc, locVal, Int.reduceToNat, boxCells, und, TG, SE, SC, unP, htu, hta, hz, VLf, loadR, loadP, storeR, storeK, storeCellsP, laid, lay, setBox, List.set_cons_zero, List.set_cons_succ, Nat.le_refl, List.take_succ_cons, List.take_zero, List.drop_nil, List.filter_nil, List.cons_append, Int.reduceBEq, Int.reduceBNe, Int.reduceGT, Int.reduceGE, Bool.not_true, Bool.not_false, hd, d0', k2', n1, n2, hpu]
            exact ⟨_, rfl⟩
          · rw [if_neg (by omega), if_neg n1]
            unfold vlV
            simp only
            obtain ⟨ev, eo, so, co, ⟨hev, hco⟩, R⟩ := RULES CC; rw [← hev]
            rw [← hco] at hd
            simp only [fpart, part', Tryd.f22, Option.getD]
            simp (maxSteps := 5000000) only [SA, SB, SD, R, guardAt, binP, intP, indexAddrP, elemsOf, readCells, lenP, lenAt, resultsP, resultP, oneOr, reduceCtorEq, reduceIte, Nat.reduceEqDiff, Nat.reduceAdd, Nat.zero_add, Nat.reduceMul, Nat.reduceLT, Nat.reduceLeDiff, Int.reduceLT, Int.reduceNeg, Int.reduceLE, appendP, appendAt, letGo, setLoc, locVal, Int.reduceToNat, boxCells, und, TG, SE, SC, unP, htu, hta, hz, VLf, loadR, loadP, storeR, storeK, storeCellsP, laid, lay, setBox, List.set_cons_zero, List.set_cons_succ, Nat.le_refl, List.take_succ_cons, List.take_zero, List.drop_nil, List.filter_nil, List.cons_append, Int.reduceBEq, Int.reduceBNe, Int.reduceGT, Int.reduceGE, Bool.not_true, Bool.not_false, hd, d0', k2', n1, n2, hpu]
            exact ⟨_, rfl⟩
      · have k3' : (k != 2) = true := by simpa using k3
        rw [if_neg (fun h => k3 h.2.2)]
        unfold vlV
        simp only
        clear hbd
        obtain ⟨ev, eo, so, co, ⟨hev, hco⟩, R⟩ := RULES CC; rw [← hev]
        rw [← hco] at hd
        simp only [fpart, part', Tryd.f22, Option.getD]
        simp (maxSteps := 5000000) only [SA, SB, SD, R, guardAt, binP, intP, indexAddrP, elemsOf, readCells, lenP, lenAt, resultsP, resultP, oneOr, reduceCtorEq, reduceIte, Nat.reduceEqDiff, Nat.reduceAdd, Nat.zero_add, Nat.reduceMul, Nat.reduceLT, Nat.reduceLeDiff, Int.reduceLT, Int.reduceNeg, Int.reduceLE, appendP, appendAt, letGo, setLoc, locVal, Int.reduceToNat, boxCells, und, TG, SE, SC, unP, htu, hta, hz, VLf, loadR, loadP, storeR, storeK, storeCellsP, laid, lay, setBox, List.set_cons_zero, List.set_cons_succ, Nat.le_refl, List.take_succ_cons, List.take_zero, List.drop_nil, List.filter_nil, List.cons_append, Int.reduceBEq, Int.reduceBNe, Int.reduceGT, Int.reduceGE, Bool.not_true, Bool.not_false, hd, d0', k2', k3', hpu]
        exact ⟨_, rfl⟩
    · have k2' : (kd != 2) = true := by simpa using k2
      rw [if_neg (fun h => k2 h.2.1)]
      unfold vlV
      simp only
      clear hbd
      obtain ⟨ev, eo, so, co, ⟨hev, hco⟩, R⟩ := RULES CC; rw [← hev]
      rw [← hco] at hd
      simp only [fpart, part', Tryd.f22, Option.getD]
      simp (maxSteps := 5000000) only [SA, SB, SD, R, guardAt, binP, intP, indexAddrP, elemsOf, readCells, lenP, lenAt, resultsP, resultP, oneOr, reduceCtorEq, reduceIte, Nat.reduceEqDiff, Nat.reduceAdd, Nat.zero_add, Nat.reduceMul, Nat.reduceLT, Nat.reduceLeDiff, Int.reduceLT, Int.reduceNeg, Int.reduceLE, appendP, appendAt, letGo, setLoc, locVal, Int.reduceToNat, boxCells, und, TG, SE, SC, unP, htu, hta, hz, VLf, loadR, loadP, storeR, storeK, storeCellsP, laid, lay, setBox, List.set_cons_zero, List.set_cons_succ, Nat.le_refl, List.take_succ_cons, List.take_zero, List.drop_nil, List.filter_nil, List.cons_append, Int.reduceBEq, Int.reduceBNe, Int.reduceGT, Int.reduceGE, Bool.not_true, Bool.not_false, hd, d0', k2', hpu]
      exact ⟨_, rfl⟩
  · have d0' : (d != 0) = true := by simpa using d0
    rw [if_neg (fun h => d0 h.1)]
    unfold vlV
    simp only
    clear hbd
    obtain ⟨ev, eo, so, co, ⟨hev, hco⟩, R⟩ := RULES CC; rw [← hev]
    rw [← hco] at hd
    simp only [fpart, part', Tryd.f22, Option.getD]
    simp (maxSteps := 5000000) only [SA, SB, SD, R, guardAt, binP, intP, indexAddrP, elemsOf, readCells, lenP, lenAt, resultsP, resultP, oneOr, reduceCtorEq, reduceIte, Nat.reduceEqDiff, Nat.reduceAdd, Nat.zero_add, Nat.reduceMul, Nat.reduceLT, Nat.reduceLeDiff, Int.reduceLT, Int.reduceNeg, Int.reduceLE, appendP, appendAt, letGo, setLoc, locVal, Int.reduceToNat, boxCells, und, TG, SE, SC, unP, htu, hta, hz, VLf, loadR, loadP, storeR, storeK, storeCellsP, laid, lay, setBox, List.set_cons_zero, List.set_cons_succ, Nat.le_refl, List.take_succ_cons, List.take_zero, List.drop_nil, List.filter_nil, List.cons_append, Int.reduceBEq, Int.reduceBNe, Int.reduceGT, Int.reduceGE, Bool.not_true, Bool.not_false, hd, d0', hpu]
    exact ⟨_, rfl⟩
theorem op_R20_Limit (a : At) (ha : shAt a) (v : Vl) (bx) : callOp CC (callL CC) 22 [attV a, vlV v] bx = some (.ret (vlV (limV a v)), bx) := by
  obtain ⟨b, h⟩ := call_R20_Limit a ha v
  exact callOp_of rfl (by show ((attV a).pure && ((vlV v).pure && true)) = true; rw [attV_pure]; rfl) h rfl
theorem call_value_Zero (a : At) (ha : shAt a) : ∃ bx, callL CC 19 [attV a] [] = some (.ret (vlV (zroV a)), bx) := by
  rw [callL_enter (fn := Tryd.f19) (c := Tryd.f19.body.getD .skip) rfl rfl fat_value_Zero rfl ok_value_Zero (Nat.le_of_ble_eq_true rfl)]
  have hd := op_value_Def a ha
  have hcl := op_num_Clamp 0 a.mn a.mx
  have b0 := buildVl0
  have b1 := buildVl1 a.kd
  unfold zroV limV
  generalize dfV a = d at *
  obtain ⟨nm, kd, mn, mx, en, wr, sf⟩ := a
  unfold attV at *
  simp only at *
  have hln := strs_length en
  have hpu := strs_pure en
  have hz : True := trivial
  obtain ⟨tu, htu⟩ := VLs
  obtain ⟨ta, hta⟩ := ATs
  generalize strs en = xs at *
  generalize clampI 0 mn mx = cl at *
  by_cases d0 : d = 0
  · have d0' : (d != 0) = false := by simp [d0]
    rw [if_neg (fun h => h d0)]
    by_cases k2 : kd = 2
    · subst k2
      rw [if_pos ⟨d0, rfl, rfl⟩]
      unfold vlV
      simp only
      obtain ⟨ev, eo, so, co, ⟨hev, hco⟩, R⟩ := RULES CC; rw [← hev]
      rw [← hco] at hd hcl
      simp only [fpart, part', Tryd.f19, Option.getD]
      simp (maxSteps := 5000000) only [SA, SB, SD, R, guardAt, binP, intP, indexAddrP, elemsOf, readCells, lenP, lenAt, resultsP, resultP, oneOr, reduceCtorEq, reduceIte, Nat.reduceEqDiff, Nat.reduceAdd, Nat.zero_add, Nat.reduceMul, Nat.reduceLT, Nat.reduceLeDiff, Int.reduceLT, Int.reduceNeg, Int.reduceLE, appendP, appendAt, letGo, setLoc, locVal, Int.reduceToNat, boxCells, und, TG, SE, SC, unP, htu, hta, hz, VLf, loadR, loadP, storeR, storeK, storeCellsP, laid, lay, setBox, List.set_cons_zero, List.set_cons_succ, Nat.le_refl, List.take_succ_cons, List.take_zero, List.drop_nil, List.filter_nil, List.cons_append, Int.reduceBEq, Int.reduceBNe, Int.reduceGT, Int.reduceGE, Bool.not_true, Bool.not_false, hd, d0', hcl, b0, b1, hpu]
      exact ⟨_, rfl⟩
    · have k2' : (kd == 2) = false := by simpa using k2
      rw [if_neg (fun h => k2 h.2.1)]
      unfold vlV
      simp only
      obtain ⟨ev, eo, so, co, ⟨hev, hco⟩, R⟩ := RULES CC; rw [← hev]
      rw [← hco] at hd hcl
      simp only [fpart, part', Tryd.f19, Option.getD]
      simp (maxSteps := 5000000) only [SA, SB, SD, R, guardAt, binP, intP, indexAddrP, elemsOf, readCells, lenP, lenAt, resultsP, resultP, oneOr, reduceCtorEq, reduceIte, Nat.reduceEqDiff, Nat.reduceAdd, Nat.zero_add, Nat.reduceMul, Nat.reduceLT, Nat.reduceLeDiff, Int.reduceLT, Int.reduceNeg, Int.reduceLE, appendP, appendAt, letGo, setLoc, locVal, Int.reduceToNat, boxCells, und, TG, SE, SC, unP, htu, hta, hz, VLf, loadR, loadP, storeR, storeK, storeCellsP, laid, lay, setBox, List.set_cons_zero, List.set_cons_succ, Nat.le_refl, List.take_succ_cons, List.take_zero, List.drop_nil, List.filter_nil, List.cons_append, Int.reduceBEq, Int.reduceBNe, Int.reduceGT, Int.reduceGE, Bool.not_true, Bool.not_false, hd, d0', k2', b0, b1, hpu]
      exact ⟨_, rfl⟩
  · have d0' : (d != 0) = true := by simpa using d0
    rw [if_pos d0]
    unfold vlV
    simp only
    obtain ⟨ev, eo, so, co, ⟨hev, hco⟩, R⟩ := RULES CC; rw [← hev]
    rw [← hco] at hd
    simp only [fpart, part', Tryd.f19, Option.getD]
    simp (maxSteps := 5000000) only [SA, SB, SD, R, guardAt, binP, intP, indexAddrP, elemsOf, readCells, lenP, lenAt, resultsP, resultP, oneOr, reduceCtorEq, reduceIte, Nat.reduceEqDiff, Nat.reduceAdd, Nat.zero_add, Nat.reduceMul, Nat.reduceLT, Nat.reduceLeDiff, Int.reduceLT, Int.reduceNeg, Int.reduceLE, appendP, appendAt, letGo, setLoc, locVal, Int.reduceToNat, boxCells, und, TG, SE, SC, unP, htu, hta, hz, VLf, loadR, loadP, storeR, storeK, storeCellsP, laid, lay, setBox, List.set_cons_zero, List.set_cons_succ, Nat.le_refl, List.take_succ_cons, List.take_zero, List.drop_nil, List.filter_nil, List.cons_append, Int.reduceBEq, Int.reduceBNe, Int.reduceGT, Int.reduceGE, Bool.not_true, Bool.not_false, hd, d0', b0, b1, hpu]
    exact ⟨_, rfl⟩
theorem op_value_Zero (a : At) (ha : shAt a) (bx) : callOp CC (callL CC) 19 [attV a] bx = some (.ret (vlV (zroV a)), bx) := by
  obtain ⟨b, h⟩ := call_value_Zero a ha
  exact callOp_of rfl (by show ((attV a).pure && true) = true; rw [attV_pure]; rfl) h rfl
theorem call_R20_Zero (a : At) (ha : shAt a) : ∃ bx, callL CC 20 [attV a] [] = some (.ret (vlV (zroV a)), bx) := by
  rw [callL_enter (fn := Tryd.f20) (c := Tryd.f20.body.getD .skip) rfl rfl fat_R20_Zero rfl ok_R20_Zero (Nat.le_of_ble_eq_true rfl)]
  have hd := op_R20_Def a ha
  have hli := op_R20_Limit a ha (a.kd, 0, [])
  have b0 := buildVl0
  have b1 := buildVl1 a.kd
  unfold zroV
  generalize dfV a = d at *
  generalize limV a (a.kd, 0, []) = li at *
  obtain ⟨nm, kd, mn, mx, en, wr, sf⟩ := a
  obtain ⟨l1, l2, l3⟩ := li
  unfold attV at *
  unfold vlV at *
  simp only at *
  have hln := strs_length en
  have hpu := strs_pure en
  have hz : True := trivial
  obtain ⟨tu, htu⟩ := VLs
  obtain ⟨ta, hta⟩ := ATs
  generalize strs en = xs at *
  by_cases d0 : d = 0
  · have d0' : (d != 0) = false := by simp [d0]
    rw [if_neg (fun h => h d0)]
    obtain ⟨ev, eo, so, co, ⟨hev, hco⟩, R⟩ := RULES CC; rw [← hev]
    rw [← hco] at hd hli
    simp only [fpart, part', Tryd.f20, Option.getD]
    simp (maxSteps := 5000000) only [SA, SB, SD, R, guardAt, binP, intP, indexAddrP, elemsOf, readCells, lenP, lenAt, resultsP, resultP, oneOr, reduceCtorEq, reduceIte, Nat.reduceEqDiff, Nat.reduceAdd, Nat.zero_add, Nat.reduceMul, Nat.reduceLT, Nat.reduceLeDiff, Int.reduceLT, Int.reduceNeg, Int.reduceLE, appendP, appendAt, letGo, setLoc, locVal, Int.reduceToNat, boxCells, und, TG, SE, SC, unP, htu, hta, hz, VLf, loadR, loadP, storeR, storeK, storeCellsP, laid, lay, setBox, List.set_cons_zero, List.set_cons_succ, Nat.le_refl, List.take_succ_cons, List.take_zero, List.drop_nil, List.filter_nil, List.cons_append, Int.reduceBEq, Int.reduceBNe, Int.reduceGT, Int.reduceGE, Bool.not_true, Bool.not_false, hd, d0', hli, b0, b1, hpu]
    exact ⟨_, rfl⟩
  · have d0' : (d != 0) = true := by simpa using d0
    rw [if_pos d0]
    obtain ⟨ev, eo, so, co, ⟨hev, hco⟩, R⟩ := RULES CC; rw [← hev]
    rw [← hco] at hd
    simp only [fpart, part', Tryd.f20, Option.getD]
    simp (maxSteps := 5000000) only [SA, SB, SD, R, guardAt, binP, intP, indexAddrP, elemsOf, readCells, lenP, lenAt, resultsP, resultP, oneOr, reduceCtorEq, reduceIte, Nat.reduceEqDiff, Nat.reduceAdd, Nat.zero_add, Nat.reduceMul, Nat.reduceLT, Nat.reduceLeDiff, Int.reduceLT, Int.reduceNeg, Int.reduceLE, appendP, appendAt, letGo, setLoc, locVal, Int.reduceToNat, boxCells, und, TG, SE, SC, unP, htu, hta, hz, VLf, loadR, loadP, storeR, storeK, storeCellsP, laid, lay, setBox, List.set_cons_zero, List.set_cons_succ, Nat.le_refl, List.take_succ_cons, List.take_zero, List.drop_nil, List.filter_nil, List.cons_append, Int.reduceBEq, Int.reduceBNe, Int.reduceGT, Int.reduceGE, Bool.not_true, Bool.not_false, hd, d0', b0, b1, hpu]
    exact ⟨_, rfl⟩
theorem op_R20_Zero (a : At) (ha : shAt a) (bx) : callOp CC (callL CC) 20 [attV a] bx = some (.ret (vlV (zroV a)), bx) := by
  obtain ⟨b, h⟩ := call_R20_Zero a ha
  exact callOp_of rfl (by show ((attV a).pure && true) = true; rw [attV_pure]; rfl) h rfl
end Go.HH
