/-
  Joined: E12, E13, E14.
-/
import Derived.Test.YthjcaihemgllaaaGreatDoorPJ3
namespace Go.HH
open Go Go.Proofs
set_option maxRecDepth 100000
set_option linter.unusedSimpArgs false
set_option linter.unusedVariables false
set_option maxHeartbeats 4000000
theorem ok_print_device : fnOK CC Tryz.f113 (Tryz.f113.body.getD .skip) = true := by kernel_rfl
theorem fat_print_device : CC.P.funcs[113]? = some Tryz.f113 := by kernel_rfl
theorem ok_print_named : fnOK CC Tryz.f58 (Tryz.f58.body.getD .skip) = true := by kernel_rfl
theorem fat_print_named : CC.P.funcs[58]? = some Tryz.f58 := by kernel_rfl
theorem ok_R30_Address : fnOK CC Tryz.f64 (Tryz.f64.body.getD .skip) = true := by kernel_rfl
theorem fat_R30_Address : CC.P.funcs[64]? = some Tryz.f64 := by kernel_rfl
theorem ok_R30_TriggerSpare : fnOK CC Tryz.f63 (Tryz.f63.body.getD .skip) = true := by kernel_rfl
theorem fat_R30_TriggerSpare : CC.P.funcs[63]? = some Tryz.f63 := by kernel_rfl
theorem tgV_pure (t : Tg) : (tgV t).pure = true := by
  unfold tgV
  simp only [PV.pure, pureL, Bool.and_self]
theorem tgs_pure : ∀ l : List Tg, pureL (l.map tgV) = true
  | [] => rfl
  | t :: r => by rw [List.map_cons, pureL_cons, tgV_pure, tgs_pure r]; rfl
theorem pureL_app (a b : List PV) : pureL (a ++ b) = (pureL a && pureL b) := by
  induction a with
  | nil => rfl
  | cons x r ih => rw [List.cons_append, pureL_cons, pureL_cons, ih, Bool.and_assoc]
theorem trC_pure (t : Tr) : pureL (trC t) = true := by
  have h := trV_pure t
  rw [trV_agg] at h
  unfold PV.pure at h
  exact h
theorem spV_pure (s : Sp) : (spV s).pure = true := by
  unfold spV PV.pure
  rw [pureL_app, trC_pure]
  rfl
theorem sps_pure : ∀ l : List Sp, pureL (l.map spV) = true
  | [] => rfl
  | t :: r => by rw [List.map_cons, pureL_cons, spV_pure, sps_pure r]; rfl
theorem rlV_pure (r : Rl) : (rlV r).pure = true := by
  unfold rlV PV.pure
  rw [pureL_app, pureL_app, trC_pure]
  simp only [pureL_cons, pure_sl, pure_str, pure_int, pureL_nil, tgs_pure, sps_pure, Bool.and_self]
theorem op_plain (r : Rl) (bx) : callOp CC (callL CC) 9 [rlV r] bx = some (.ret (.bool (plRl r)), bx) := by
  obtain ⟨b, h⟩ := call_plain r
  exact callOp_of rfl (by simp only [pureL_cons, rlV_pure, pureL_nil, Bool.and_self]) h rfl
def dvB (n : Int) : Bool := decide (1 ≤ n ∧ n ≤ 250)
theorem buildEv0 : buildP CC 56 [] = some (.agg [.int .i64 0, .str [], .str []]) := by kernel_rfl
theorem eqEP (a a' : Int) (b b' c c' : List UInt8) : eqP CC 100 56 (.agg [.int .i64 a, .str b, .str c]) (.agg [.int .i64 a', .str b', .str c']) = some ((a == a') && (b == b') && (c == c')) := by
  have h : eqP CC 100 56 (.agg [.int .i64 a, .str b, .str c]) (.agg [.int .i64 a', .str b', .str c']) = and2 (a == a') (and2 (b == b') (and2 (c == c') (some true))) := by kernel_rfl
  rw [h]
  cases a == a' <;> cases b == b' <;> cases c == c' <;> rfl
theorem eqgE : CC.P.eqGuardType CC.P.depth 56 = false := by kernel_rfl
theorem call_print_device (n : Int) : callL CC 113 [.int .i64 n] [] = some (.ret (.bool (dvB n)), []) := by
  rw [callL_enter (fn := Tryz.f113) (c := Tryz.f113.body.getD .skip) rfl rfl fat_print_device rfl ok_print_device (Nat.le_of_ble_eq_true rfl)]
  obtain ⟨tu, htu⟩ := VLs
  obtain ⟨tr, htr⟩ := TRs
  obtain ⟨tk, hky⟩ := KYs
  obtain ⟨te, hev1⟩ := EVs
  obtain ⟨tg, htg⟩ := TG_s
  obtain ⟨tp, hsp⟩ := SPs
  obtain ⟨tl, hrl⟩ := RLs
  by_cases c1 : n ≥ 1
  · by_cases c2 : n ≤ 250
    · rw [show dvB n = true by unfold dvB; simp only [decide_eq_true_eq]; omega]
      obtain ⟨ev, eo, so, co, ⟨hev, hco⟩, R⟩ := RULES CC; rw [← hev]
      simp only [fpart, part', Tryz.f113, Option.getD]
      simp (maxSteps := 5000000) only [SA, SB, SD, R, guardAt, binP, intP, indexAddrP, elemsOf, readCells, lenP, lenAt, resultsP, resultP, oneOr, reduceCtorEq, reduceIte, Nat.reduceEqDiff, Nat.reduceAdd, Nat.zero_add, Nat.reduceMul, Nat.reduceLT, Nat.reduceLeDiff, Int.reduceLT, Int.reduceNeg, Int.reduceLE, appendP, appendAt, letGo, setLoc, locVal, Int.reduceToNat, boxCells, und, TG, SE, SC, List.getElem?_cons_zero, List.getElem?_cons_succ, unP, htu, htr, hky, hev1, htg, hsp, hrl, eqgK, eqgE, buildKy0, buildEv0, loadR, loadP, lay, List.take_succ_cons, List.take_zero, List.drop_nil, List.filter_nil, List.cons_append, Int.reduceBEq, Int.reduceBNe, Int.reduceGT, Int.reduceGE, Bool.not_true, Bool.not_false, c1, c2]
    · rw [show dvB n = false by unfold dvB; simp only [decide_eq_false_iff_not]; omega]
      obtain ⟨ev, eo, so, co, ⟨hev, hco⟩, R⟩ := RULES CC; rw [← hev]
      simp only [fpart, part', Tryz.f113, Option.getD]
      simp (maxSteps := 5000000) only [SA, SB, SD, R, guardAt, binP, intP, indexAddrP, elemsOf, readCells, lenP, lenAt, resultsP, resultP, oneOr, reduceCtorEq, reduceIte, Nat.reduceEqDiff, Nat.reduceAdd, Nat.zero_add, Nat.reduceMul, Nat.reduceLT, Nat.reduceLeDiff, Int.reduceLT, Int.reduceNeg, Int.reduceLE, appendP, appendAt, letGo, setLoc, locVal, Int.reduceToNat, boxCells, und, TG, SE, SC, List.getElem?_cons_zero, List.getElem?_cons_succ, unP, htu, htr, hky, hev1, htg, hsp, hrl, eqgK, eqgE, buildKy0, buildEv0, loadR, loadP, lay, List.take_succ_cons, List.take_zero, List.drop_nil, List.filter_nil, List.cons_append, Int.reduceBEq, Int.reduceBNe, Int.reduceGT, Int.reduceGE, Bool.not_true, Bool.not_false, c1, c2]
  · rw [show dvB n = false by unfold dvB; simp only [decide_eq_false_iff_not]; omega]
    obtain ⟨ev, eo, so, co, ⟨hev, hco⟩, R⟩ := RULES CC; rw [← hev]
    simp only [fpart, part', Tryz.f113, Option.getD]
    simp (maxSteps := 5000000) only [SA, SB, SD, R, guardAt, binP, intP, indexAddrP, elemsOf, readCells, lenP, lenAt, resultsP, resultP, oneOr, reduceCtorEq, reduceIte, Nat.reduceEqDiff, Nat.reduceAdd, Nat.zero_add, Nat.reduceMul, Nat.reduceLT, Nat.reduceLeDiff, Int.reduceLT, Int.reduceNeg, Int.reduceLE, appendP, appendAt, letGo, setLoc, locVal, Int.reduceToNat, boxCells, und, TG, SE, SC, List.getElem?_cons_zero, List.getElem?_cons_succ, unP, htu, htr, hky, hev1, htg, hsp, hrl, eqgK, eqgE, buildKy0, buildEv0, loadR, loadP, lay, List.take_succ_cons, List.take_zero, List.drop_nil, List.filter_nil, List.cons_append, Int.reduceBEq, Int.reduceBNe, Int.reduceGT, Int.reduceGE, Bool.not_true, Bool.not_false, c1]
theorem op_print_device (n : Int) (bx) : callOp CC (callL CC) 113 [.int .i64 n] bx = some (.ret (.bool (dvB n)), bx) := callOp_of rfl (by simp only [SA, Bool.and_true]) (call_print_device n) rfl
theorem call_R30_Address (n : Int) : callL CC 64 [.int .i64 n] [] = some (.ret (.bool (dvB n)), []) := by
  rw [callL_enter (fn := Tryz.f64) (c := Tryz.f64.body.getD .skip) rfl rfl fat_R30_Address rfl ok_R30_Address (Nat.le_of_ble_eq_true rfl)]
  obtain ⟨tu, htu⟩ := VLs
  obtain ⟨tr, htr⟩ := TRs
  obtain ⟨tk, hky⟩ := KYs
  obtain ⟨te, hev1⟩ := EVs
  obtain ⟨tg, htg⟩ := TG_s
  obtain ⟨tp, hsp⟩ := SPs
  obtain ⟨tl, hrl⟩ := RLs
  by_cases c1 : n ≥ 1
  · by_cases c2 : n ≤ 250
    · rw [show dvB n = true by unfold dvB; simp only [decide_eq_true_eq]; omega]
      obtain ⟨ev, eo, so, co, ⟨hev, hco⟩, R⟩ := RULES CC; rw [← hev]
      simp only [fpart, part', Tryz.f64, Option.getD]
      simp (maxSteps := 5000000) only [SA, SB, SD, R, guardAt, binP, intP, indexAddrP, elemsOf, readCells, lenP, lenAt, resultsP, resultP, oneOr, reduceCtorEq, reduceIte, Nat.reduceEqDiff, Nat.reduceAdd, Nat.zero_add, Nat.reduceMul, Nat.reduceLT, Nat.reduceLeDiff, Int.reduceLT, Int.reduceNeg, Int.reduceLE, appendP, appendAt, letGo, setLoc, locVal, Int.reduceToNat, boxCells, und, TG, SE, SC, List.getElem?_cons_zero, List.getElem?_cons_succ, unP, htu, htr, hky, hev1, htg, hsp, hrl, eqgK, eqgE, buildKy0, buildEv0, loadR, loadP, lay, List.take_succ_cons, List.take_zero, List.drop_nil, List.filter_nil, List.cons_append, Int.reduceBEq, Int.reduceBNe, Int.reduceGT, Int.reduceGE, Bool.not_true, Bool.not_false, c1, c2]
    · rw [show dvB n = false by unfold dvB; simp only [decide_eq_false_iff_not]; omega]
      obtain ⟨ev, eo, so, co, ⟨hev, hco⟩, R⟩ := RULES CC; rw [← hev]
      simp only [fpart, part', Tryz.f64, Option.getD]
      simp (maxSteps := 5000000) only [SA, SB, SD, R, guardAt, binP, intP, indexAddrP, elemsOf, readCells, lenP, lenAt, resultsP, resultP, oneOr, reduceCtorEq, reduceIte, Nat.reduceEqDiff, Nat.reduceAdd, Nat.zero_add, Nat.reduceMul, Nat.reduceLT, Nat.reduceLeDiff, Int.reduceLT, Int.reduceNeg, Int.reduceLE, appendP, appendAt, letGo, setLoc, locVal, Int.reduceToNat, boxCells, und, TG, SE, SC, List.getElem?_cons_zero, List.getElem?_cons_succ, unP, htu, htr, hky, hev1, htg, hsp, hrl, eqgK, eqgE, buildKy0, buildEv0, loadR, loadP, lay, List.take_succ_cons, List.take_zero, List.drop_nil, List.filter_nil, List.cons_append, Int.reduceBEq, Int.reduceBNe, Int.reduceGT, Int.reduceGE, Bool.not_true, Bool.not_false, c1, c2]
  · rw [show dvB n = false by unfold dvB; simp only [decide_eq_false_iff_not]; omega]
    obtain ⟨ev, eo, so, co, ⟨hev, hco⟩, R⟩ := RULES CC; rw [← hev]
    simp only [fpart, part', Tryz.f64, Option.getD]
    simp (maxSteps := 5000000) only [SA, SB, SD, R, guardAt, binP, intP, indexAddrP, elemsOf, readCells, lenP, lenAt, resultsP, resultP, oneOr, reduceCtorEq, reduceIte, Nat.reduceEqDiff, Nat.reduceAdd, Nat.zero_add, Nat.reduceMul, Nat.reduceLT, Nat.reduceLeDiff, Int.reduceLT, Int.reduceNeg, Int.reduceLE, appendP, appendAt, letGo, setLoc, locVal, Int.reduceToNat, boxCells, und, TG, SE, SC, List.getElem?_cons_zero, List.getElem?_cons_succ, unP, htu, htr, hky, hev1, htg, hsp, hrl, eqgK, eqgE, buildKy0, buildEv0, loadR, loadP, lay, List.take_succ_cons, List.take_zero, List.drop_nil, List.filter_nil, List.cons_append, Int.reduceBEq, Int.reduceBNe, Int.reduceGT, Int.reduceGE, Bool.not_true, Bool.not_false, c1]
theorem op_R30_Address (n : Int) (bx) : callOp CC (callL CC) 64 [.int .i64 n] bx = some (.ret (.bool (dvB n)), bx) := callOp_of rfl (by simp only [SA, Bool.and_true]) (call_R30_Address n) rfl
/-- what is said of a device and two names -/
def nmE (n : Int) (a b : List UInt8) : Int := if dvB n = false then 2 else if valB a && valB b then 0 else 10
theorem call_print_named (n : Int) (a b : List UInt8) (ha : a.length ≤ 1000) (hb : b.length ≤ 1000) : ∃ bx, callL CC 58 [.int .i64 n, .str a, .str b] [] = some (.ret (.int .i64 (nmE n a b)), bx) := by
  rw [callL_enter (fn := Tryz.f58) (c := Tryz.f58.body.getD .skip) rfl rfl fat_print_named rfl ok_print_named (Nat.le_of_ble_eq_true rfl)]
  have v1 := op_names_Valid a ha
  have v2 := op_names_Valid b hb
  obtain ⟨tu, htu⟩ := VLs
  obtain ⟨tr, htr⟩ := TRs
  obtain ⟨tk, hky⟩ := KYs
  obtain ⟨te, hev1⟩ := EVs
  obtain ⟨tg, htg⟩ := TG_s
  obtain ⟨tp, hsp⟩ := SPs
  obtain ⟨tl, hrl⟩ := RLs
  unfold nmE
  by_cases d1 : dvB n = false
  · rw [if_pos d1]
    obtain ⟨ev, eo, so, co, ⟨hev, hco⟩, R⟩ := RULES CC; rw [← hev]; have o_print_device := @op_print_device; rw [← hco] at o_print_device
    rw [← hco] at v1 v2
    simp only [fpart, part', Tryz.f58, Option.getD]
    simp (maxSteps := 5000000) only [SA, SB, SD, R, guardAt, binP, intP, indexAddrP, elemsOf, readCells, lenP, lenAt, resultsP, resultP, oneOr, reduceCtorEq, reduceIte, Nat.reduceEqDiff, Nat.reduceAdd, Nat.zero_add, Nat.reduceMul, Nat.reduceLT, Nat.reduceLeDiff, Int.reduceLT, Int.reduceNeg, Int.reduceLE, appendP, appendAt, letGo, setLoc, locVal, Int.reduceToNat, boxCells, und, TG, SE, SC, List.getElem?_cons_zero, List.getElem?_cons_succ, unP, htu, htr, hky, hev1, htg, hsp, hrl, eqgK, eqgE, buildKy0, buildEv0, loadR, loadP, lay, List.take_succ_cons, List.take_zero, List.drop_nil, List.filter_nil, List.cons_append, Int.reduceBEq, Int.reduceBNe, Int.reduceGT, Int.reduceGE, Bool.not_true, Bool.not_false, o_print_device, v1, v2, d1]
    exact ⟨_, rfl⟩
  have d1' : dvB n = true := by simpa using d1
  rw [if_neg d1]
  generalize valB a = p at *
  generalize valB b = q at *
  cases p with
  | false =>
    rw [if_neg (by simp)]
    obtain ⟨ev, eo, so, co, ⟨hev, hco⟩, R⟩ := RULES CC; rw [← hev]; have o_print_device := @op_print_device; rw [← hco] at o_print_device
    rw [← hco] at v1 v2
    simp only [fpart, part', Tryz.f58, Option.getD]
    simp (maxSteps := 5000000) only [SA, SB, SD, R, guardAt, binP, intP, indexAddrP, elemsOf, readCells, lenP, lenAt, resultsP, resultP, oneOr, reduceCtorEq, reduceIte, Nat.reduceEqDiff, Nat.reduceAdd, Nat.zero_add, Nat.reduceMul, Nat.reduceLT, Nat.reduceLeDiff, Int.reduceLT, Int.reduceNeg, Int.reduceLE, appendP, appendAt, letGo, setLoc, locVal, Int.reduceToNat, boxCells, und, TG, SE, SC, List.getElem?_cons_zero, List.getElem?_cons_succ, unP, htu, htr, hky, hev1, htg, hsp, hrl, eqgK, eqgE, buildKy0, buildEv0, loadR, loadP, lay, List.take_succ_cons, List.take_zero, List.drop_nil, List.filter_nil, List.cons_append, Int.reduceBEq, Int.reduceBNe, Int.reduceGT, Int.reduceGE, Bool.not_true, Bool.not_false, o_print_device, v1, v2, d1']
    exact ⟨_, rfl⟩
  | true =>
    cases q with
    | false =>
      rw [if_neg (by simp)]
      obtain ⟨ev, eo, so, co, ⟨hev, hco⟩, R⟩ := RULES CC; rw [← hev]; have o_print_device := @op_print_device; rw [← hco] at o_print_device
      rw [← hco] at v1 v2
      simp only [fpart, part', Tryz.f58, Option.getD]
      simp (maxSteps := 5000000) only [SA, SB, SD, R, guardAt, binP, intP, indexAddrP, elemsOf, readCells, lenP, lenAt, resultsP, resultP, oneOr, reduceCtorEq, reduceIte, Nat.reduceEqDiff, Nat.reduceAdd, Nat.zero_add, Nat.reduceMul, Nat.reduceLT, Nat.reduceLeDiff, Int.reduceLT, Int.reduceNeg, Int.reduceLE, appendP, appendAt, letGo, setLoc, locVal, Int.reduceToNat, boxCells, und, TG, SE, SC, List.getElem?_cons_zero, List.getElem?_cons_succ, unP, htu, htr, hky, hev1, htg, hsp, hrl, eqgK, eqgE, buildKy0, buildEv0, loadR, loadP, lay, List.take_succ_cons, List.take_zero, List.drop_nil, List.filter_nil, List.cons_append, Int.reduceBEq, Int.reduceBNe, Int.reduceGT, Int.reduceGE, Bool.not_true, Bool.not_false, o_print_device, v1, v2, d1']
      exact ⟨_, rfl⟩
    | true =>
      rw [if_pos (by simp)]
      obtain ⟨ev, eo, so, co, ⟨hev, hco⟩, R⟩ := RULES CC; rw [← hev]; have o_print_device := @op_print_device; rw [← hco] at o_print_device
      rw [← hco] at v1 v2
      simp only [fpart, part', Tryz.f58, Option.getD]
      simp (maxSteps := 5000000) only [SA, SB, SD, R, guardAt, binP, intP, indexAddrP, elemsOf, readCells, lenP, lenAt, resultsP, resultP, oneOr, reduceCtorEq, reduceIte, Nat.reduceEqDiff, Nat.reduceAdd, Nat.zero_add, Nat.reduceMul, Nat.reduceLT, Nat.reduceLeDiff, Int.reduceLT, Int.reduceNeg, Int.reduceLE, appendP, appendAt, letGo, setLoc, locVal, Int.reduceToNat, boxCells, und, TG, SE, SC, List.getElem?_cons_zero, List.getElem?_cons_succ, unP, htu, htr, hky, hev1, htg, hsp, hrl, eqgK, eqgE, buildKy0, buildEv0, loadR, loadP, lay, List.take_succ_cons, List.take_zero, List.drop_nil, List.filter_nil, List.cons_append, Int.reduceBEq, Int.reduceBNe, Int.reduceGT, Int.reduceGE, Bool.not_true, Bool.not_false, o_print_device, v1, v2, d1']
      exact ⟨_, rfl⟩
theorem op_print_named (n : Int) (a b : List UInt8) (ha : a.length ≤ 1000) (hb : b.length ≤ 1000) (bx) : callOp CC (callL CC) 58 [.int .i64 n, .str a, .str b] bx = some (.ret (.int .i64 (nmE n a b)), bx) := by
  obtain ⟨c, h⟩ := call_print_named n a b ha hb
  exact callOp_of rfl (by simp only [SA, Bool.and_true]) h rfl
/-- has a trigger a field that it does not use? (the fields that are not zero: Key, Event, Name, N, M) -/
def tsB (k : Int) (b1 b2 b3 b4 b5 : Bool) : Bool := (b1 && !(k == 1)) || (b2 && !(k == 2)) || (b3 && !(k == 4)) || (b4 && !(k == 3 || k == 6)) || (b5 && !(k == 3))
def tsT (t : Tg) : Bool := tsB t.k (!(eqKy t.key (0, [], []))) (!(eqKy t.ev (0, [], []))) (!(t.nm == [])) (t.n != 0) (t.m != 0)
theorem R30_TriggerSpare_1 (n m : Int) (nm : List UInt8) (d : Int) (c a : List UInt8) (d' : Int) (c' a' : List UInt8) (b1 b2 b3 b4 b5 : Bool) (h1 : eqP CC 100 26 (.agg [.int .i64 d, .str c, .str a]) (.agg [.int .i64 0, .str [], .str []]) = some (!b1)) (h2 : eqP CC 100 56 (.agg [.int .i64 d', .str c', .str a']) (.agg [.int .i64 0, .str [], .str []]) = some (!b2))
    (h3 : strP .neq nm [] = some (.bool b3)) (h4 : (n == 0) = !b4) (h5 : (m == 0) = !b5) :
    ∃ bx, callL CC 63 [.agg [.int .i64 1, .int .i64 d, .str c, .str a, .int .i64 d', .str c', .str a', .str nm, .int .i64 n, .int .i64 m]] [] = some (.ret (.bool (!(tsB 1 b1 b2 b3 b4 b5))), bx) := by
  rw [callL_enter (fn := Tryz.f63) (c := Tryz.f63.body.getD .skip) rfl rfl fat_R30_TriggerSpare rfl ok_R30_TriggerSpare (Nat.le_of_ble_eq_true rfl)]
  obtain ⟨tu, htu⟩ := VLs
  obtain ⟨tr, htr⟩ := TRs
  obtain ⟨tk, hky⟩ := KYs
  obtain ⟨te, hev1⟩ := EVs
  obtain ⟨tg, htg⟩ := TG_s
  obtain ⟨tp, hsp⟩ := SPs
  obtain ⟨tl, hrl⟩ := RLs
  cases b2 with
  | true =>
    have hs : tsB 1 b1 true b3 b4 b5 = true := by simp [tsB]
    rw [hs]
    obtain ⟨ev, eo, so, co, ⟨hev, hco⟩, R⟩ := RULES CC; rw [← hev]
    simp only [fpart, part', Tryz.f63, Option.getD]
    simp (maxSteps := 5000000) only [SA, SB, SD, R, guardAt, binP, intP, indexAddrP, elemsOf, readCells, lenP, lenAt, resultsP, resultP, oneOr, reduceCtorEq, reduceIte, Nat.reduceEqDiff, Nat.reduceAdd, Nat.zero_add, Nat.reduceMul, Nat.reduceLT, Nat.reduceLeDiff, Int.reduceLT, Int.reduceNeg, Int.reduceLE, appendP, appendAt, letGo, setLoc, locVal, Int.reduceToNat, boxCells, und, TG, SE, SC, List.getElem?_cons_zero, List.getElem?_cons_succ, unP, htu, htr, hky, hev1, htg, hsp, hrl, eqgK, eqgE, buildKy0, buildEv0, loadR, loadP, lay, List.take_succ_cons, List.take_zero, List.drop_nil, List.filter_nil, List.cons_append, Int.reduceBEq, Int.reduceBNe, Int.reduceGT, Int.reduceGE, Bool.not_true, Bool.not_false, h1, h2, h3, h4, h5]
    exact ⟨_, rfl⟩
  | false =>
    cases b3 with
    | true =>
      have hs : tsB 1 b1 false true b4 b5 = true := by simp [tsB]
      rw [hs]
      obtain ⟨ev, eo, so, co, ⟨hev, hco⟩, R⟩ := RULES CC; rw [← hev]
      simp only [fpart, part', Tryz.f63, Option.getD]
      simp (maxSteps := 5000000) only [SA, SB, SD, R, guardAt, binP, intP, indexAddrP, elemsOf, readCells, lenP, lenAt, resultsP, resultP, oneOr, reduceCtorEq, reduceIte, Nat.reduceEqDiff, Nat.reduceAdd, Nat.zero_add, Nat.reduceMul, Nat.reduceLT, Nat.reduceLeDiff, Int.reduceLT, Int.reduceNeg, Int.reduceLE, appendP, appendAt, letGo, setLoc, locVal, Int.reduceToNat, boxCells, und, TG, SE, SC, List.getElem?_cons_zero, List.getElem?_cons_succ, unP, htu, htr, hky, hev1, htg, hsp, hrl, eqgK, eqgE, buildKy0, buildEv0, loadR, loadP, lay, List.take_succ_cons, List.take_zero, List.drop_nil, List.filter_nil, List.cons_append, Int.reduceBEq, Int.reduceBNe, Int.reduceGT, Int.reduceGE, Bool.not_true, Bool.not_false, h1, h2, h3, h4, h5]
      exact ⟨_, rfl⟩
    | false =>
      cases b4 with
      | true =>
        have hs : tsB 1 b1 false false true b5 = true := by simp [tsB]
        rw [hs]
        obtain ⟨ev, eo, so, co, ⟨hev, hco⟩, R⟩ := RULES CC; rw [← hev]
        simp only [fpart, part', Tryz.f63, Option.getD]
        simp (maxSteps := 5000000) only [SA, SB, SD, R, guardAt, binP, intP, indexAddrP, elemsOf, readCells, lenP, lenAt, resultsP, resultP, oneOr, reduceCtorEq, reduceIte, Nat.reduceEqDiff, Nat.reduceAdd, Nat.zero_add, Nat.reduceMul, Nat.reduceLT, Nat.reduceLeDiff, Int.reduceLT, Int.reduceNeg, Int.reduceLE, appendP, appendAt, letGo, setLoc, locVal, Int.reduceToNat, boxCells, und, TG, SE, SC, List.getElem?_cons_zero, List.getElem?_cons_succ, unP, htu, htr, hky, hev1, htg, hsp, hrl, eqgK, eqgE, buildKy0, buildEv0, loadR, loadP, lay, List.take_succ_cons, List.take_zero, List.drop_nil, List.filter_nil, List.cons_append, Int.reduceBEq, Int.reduceBNe, Int.reduceGT, Int.reduceGE, Bool.not_true, Bool.not_false, h1, h2, h3, h4, h5]
        exact ⟨_, rfl⟩
      | false =>
        cases b5 with
        | true =>
          have hs : tsB 1 b1 false false false true = true := by simp [tsB]
          rw [hs]
          obtain ⟨ev, eo, so, co, ⟨hev, hco⟩, R⟩ := RULES CC; rw [← hev]
          simp only [fpart, part', Tryz.f63, Option.getD]
          simp (maxSteps := 5000000) only [SA, SB, SD, R, guardAt, binP, intP, indexAddrP, elemsOf, readCells, lenP, lenAt, resultsP, resultP, oneOr, reduceCtorEq, reduceIte, Nat.reduceEqDiff, Nat.reduceAdd, Nat.zero_add, Nat.reduceMul, Nat.reduceLT, Nat.reduceLeDiff, Int.reduceLT, Int.reduceNeg, Int.reduceLE, appendP, appendAt, letGo, setLoc, locVal, Int.reduceToNat, boxCells, und, TG, SE, SC, List.getElem?_cons_zero, List.getElem?_cons_succ, unP, htu, htr, hky, hev1, htg, hsp, hrl, eqgK, eqgE, buildKy0, buildEv0, loadR, loadP, lay, List.take_succ_cons, List.take_zero, List.drop_nil, List.filter_nil, List.cons_append, Int.reduceBEq, Int.reduceBNe, Int.reduceGT, Int.reduceGE, Bool.not_true, Bool.not_false, h1, h2, h3, h4, h5]
          exact ⟨_, rfl⟩
        | false =>
          have hs : tsB 1 b1 false false false false = false := by simp [tsB]
          rw [hs]
          obtain ⟨ev, eo, so, co, ⟨hev, hco⟩, R⟩ := RULES CC; rw [← hev]
          simp only [fpart, part', Tryz.f63, Option.getD]
          simp (maxSteps := 5000000) only [SA, SB, SD, R, guardAt, binP, intP, indexAddrP, elemsOf, readCells, lenP, lenAt, resultsP, resultP, oneOr, reduceCtorEq, reduceIte, Nat.reduceEqDiff, Nat.reduceAdd, Nat.zero_add, Nat.reduceMul, Nat.reduceLT, Nat.reduceLeDiff, Int.reduceLT, Int.reduceNeg, Int.reduceLE, appendP, appendAt, letGo, setLoc, locVal, Int.reduceToNat, boxCells, und, TG, SE, SC, List.getElem?_cons_zero, List.getElem?_cons_succ, unP, htu, htr, hky, hev1, htg, hsp, hrl, eqgK, eqgE, buildKy0, buildEv0, loadR, loadP, lay, List.take_succ_cons, List.take_zero, List.drop_nil, List.filter_nil, List.cons_append, Int.reduceBEq, Int.reduceBNe, Int.reduceGT, Int.reduceGE, Bool.not_true, Bool.not_false, h1, h2, h3, h4, h5]
          exact ⟨_, rfl⟩
theorem R30_TriggerSpare_2 (n m : Int) (nm : List UInt8) (d : Int) (c a : List UInt8) (d' : Int) (c' a' : List UInt8) (b1 b2 b3 b4 b5 : Bool) (h1 : eqP CC 100 26 (.agg [.int .i64 d, .str c, .str a]) (.agg [.int .i64 0, .str [], .str []]) = some (!b1)) (h2 : eqP CC 100 56 (.agg [.int .i64 d', .str c', .str a']) (.agg [.int .i64 0, .str [], .str []]) = some (!b2))
    (h3 : strP .neq nm [] = some (.bool b3)) (h4 : (n == 0) = !b4) (h5 : (m == 0) = !b5) :
    ∃ bx, callL CC 63 [.agg [.int .i64 2, .int .i64 d, .str c, .str a, .int .i64 d', .str c', .str a', .str nm, .int .i64 n, .int .i64 m]] [] = some (.ret (.bool (!(tsB 2 b1 b2 b3 b4 b5))), bx) := by
  rw [callL_enter (fn := Tryz.f63) (c := Tryz.f63.body.getD .skip) rfl rfl fat_R30_TriggerSpare rfl ok_R30_TriggerSpare (Nat.le_of_ble_eq_true rfl)]
  obtain ⟨tu, htu⟩ := VLs
  obtain ⟨tr, htr⟩ := TRs
  obtain ⟨tk, hky⟩ := KYs
  obtain ⟨te, hev1⟩ := EVs
  obtain ⟨tg, htg⟩ := TG_s
  obtain ⟨tp, hsp⟩ := SPs
  obtain ⟨tl, hrl⟩ := RLs
  cases b1 with
  | true =>
    have hs : tsB 2 true b2 b3 b4 b5 = true := by simp [tsB]
    rw [hs]
    obtain ⟨ev, eo, so, co, ⟨hev, hco⟩, R⟩ := RULES CC; rw [← hev]
    simp only [fpart, part', Tryz.f63, Option.getD]
    simp (maxSteps := 5000000) only [SA, SB, SD, R, guardAt, binP, intP, indexAddrP, elemsOf, readCells, lenP, lenAt, resultsP, resultP, oneOr, reduceCtorEq, reduceIte, Nat.reduceEqDiff, Nat.reduceAdd, Nat.zero_add, Nat.reduceMul, Nat.reduceLT, Nat.reduceLeDiff, Int.reduceLT, Int.reduceNeg, Int.reduceLE, appendP, appendAt, letGo, setLoc, locVal, Int.reduceToNat, boxCells, und, TG, SE, SC, List.getElem?_cons_zero, List.getElem?_cons_succ, unP, htu, htr, hky, hev1, htg, hsp, hrl, eqgK, eqgE, buildKy0, buildEv0, loadR, loadP, lay, List.take_succ_cons, List.take_zero, List.drop_nil, List.filter_nil, List.cons_append, Int.reduceBEq, Int.reduceBNe, Int.reduceGT, Int.reduceGE, Bool.not_true, Bool.not_false, h1, h2, h3, h4, h5]
    exact ⟨_, rfl⟩
  | false =>
    cases b3 with
    | true =>
      have hs : tsB 2 false b2 true b4 b5 = true := by simp [tsB]
      rw [hs]
      obtain ⟨ev, eo, so, co, ⟨hev, hco⟩, R⟩ := RULES CC; rw [← hev]
      simp only [fpart, part', Tryz.f63, Option.getD]
      simp (maxSteps := 5000000) only [SA, SB, SD, R, guardAt, binP, intP, indexAddrP, elemsOf, readCells, lenP, lenAt, resultsP, resultP, oneOr, reduceCtorEq, reduceIte, Nat.reduceEqDiff, Nat.reduceAdd, Nat.zero_add, Nat.reduceMul, Nat.reduceLT, Nat.reduceLeDiff, Int.reduceLT, Int.reduceNeg, Int.reduceLE, appendP, appendAt, letGo, setLoc, locVal, Int.reduceToNat, boxCells, und, TG, SE, SC, List.getElem?_cons_zero, List.getElem?_cons_succ, unP, htu, htr, hky, hev1, htg, hsp, hrl, eqgK, eqgE, buildKy0, buildEv0, loadR, loadP, lay, List.take_succ_cons, List.take_zero, List.drop_nil, List.filter_nil, List.cons_append, Int.reduceBEq, Int.reduceBNe, Int.reduceGT, Int.reduceGE, Bool.not_true, Bool.not_false, h1, h2, h3, h4, h5]
      exact ⟨_, rfl⟩
    | false =>
      cases b4 with
      | true =>
        have hs : tsB 2 false b2 false true b5 = true := by simp [tsB]
        rw [hs]
        obtain ⟨ev, eo, so, co, ⟨hev, hco⟩, R⟩ := RULES CC; rw [← hev]
        simp only [fpart, part', Tryz.f63, Option.getD]
        simp (maxSteps := 5000000) only [SA, SB, SD, R, guardAt, binP, intP, indexAddrP, elemsOf, readCells, lenP, lenAt, resultsP, resultP, oneOr, reduceCtorEq, reduceIte, Nat.reduceEqDiff, Nat.reduceAdd, Nat.zero_add, Nat.reduceMul, Nat.reduceLT, Nat.reduceLeDiff, Int.reduceLT, Int.reduceNeg, Int.reduceLE, appendP, appendAt, letGo, setLoc, locVal, Int.reduceToNat, boxCells, und, TG, SE, SC, List.getElem?_cons_zero, List.getElem?_cons_succ, unP, htu, htr, hky, hev1, htg, hsp, hrl, eqgK, eqgE, buildKy0, buildEv0, loadR, loadP, lay, List.take_succ_cons, List.take_zero, List.drop_nil, List.filter_nil, List.cons_append, Int.reduceBEq, Int.reduceBNe, Int.reduceGT, Int.reduceGE, Bool.not_true, Bool.not_false, h1, h2, h3, h4, h5]
        exact ⟨_, rfl⟩
      | false =>
        cases b5 with
        | true =>
          have hs : tsB 2 false b2 false false true = true := by simp [tsB]
          rw [hs]
          obtain ⟨ev, eo, so, co, ⟨hev, hco⟩, R⟩ := RULES CC; rw [← hev]
          simp only [fpart, part', Tryz.f63, Option.getD]
          simp (maxSteps := 5000000) only [SA, SB, SD, R, guardAt, binP, intP, indexAddrP, elemsOf, readCells, lenP, lenAt, resultsP, resultP, oneOr, reduceCtorEq, reduceIte, Nat.reduceEqDiff, Nat.reduceAdd, Nat.zero_add, Nat.reduceMul, Nat.reduceLT, Nat.reduceLeDiff, Int.reduceLT, Int.reduceNeg, Int.reduceLE, appendP, appendAt, letGo, setLoc, locVal, Int.reduceToNat, boxCells, und, TG, SE, SC, List.getElem?_cons_zero, List.getElem?_cons_succ, unP, htu, htr, hky, hev1, htg, hsp, hrl, eqgK, eqgE, buildKy0, buildEv0, loadR, loadP, lay, List.take_succ_cons, List.take_zero, List.drop_nil, List.filter_nil, List.cons_append, Int.reduceBEq, Int.reduceBNe, Int.reduceGT, Int.reduceGE, Bool.not_true, Bool.not_false, h1, h2, h3, h4, h5]
          exact ⟨_, rfl⟩
        | false =>
          have hs : tsB 2 false b2 false false false = false := by simp [tsB]
          rw [hs]
          obtain ⟨ev, eo, so, co, ⟨hev, hco⟩, R⟩ := RULES CC; rw [← hev]
          simp only [fpart, part', Tryz.f63, Option.getD]
          simp (maxSteps := 5000000) only [SA, SB, SD, R, guardAt, binP, intP, indexAddrP, elemsOf, readCells, lenP, lenAt, resultsP, resultP, oneOr, reduceCtorEq, reduceIte, Nat.reduceEqDiff, Nat.reduceAdd, Nat.zero_add, Nat.reduceMul, Nat.reduceLT, Nat.reduceLeDiff, Int.reduceLT, Int.reduceNeg, Int.reduceLE, appendP, appendAt, letGo, setLoc, locVal, Int.reduceToNat, boxCells, und, TG, SE, SC, List.getElem?_cons_zero, List.getElem?_cons_succ, unP, htu, htr, hky, hev1, htg, hsp, hrl, eqgK, eqgE, buildKy0, buildEv0, loadR, loadP, lay, List.take_succ_cons, List.take_zero, List.drop_nil, List.filter_nil, List.cons_append, Int.reduceBEq, Int.reduceBNe, Int.reduceGT, Int.reduceGE, Bool.not_true, Bool.not_false, h1, h2, h3, h4, h5]
          exact ⟨_, rfl⟩
theorem R30_TriggerSpare_3 (n m : Int) (nm : List UInt8) (d : Int) (c a : List UInt8) (d' : Int) (c' a' : List UInt8) (b1 b2 b3 b4 b5 : Bool) (h1 : eqP CC 100 26 (.agg [.int .i64 d, .str c, .str a]) (.agg [.int .i64 0, .str [], .str []]) = some (!b1)) (h2 : eqP CC 100 56 (.agg [.int .i64 d', .str c', .str a']) (.agg [.int .i64 0, .str [], .str []]) = some (!b2))
    (h3 : strP .neq nm [] = some (.bool b3)) (h4 : (n == 0) = !b4) (h5 : (m == 0) = !b5) :
    ∃ bx, callL CC 63 [.agg [.int .i64 3, .int .i64 d, .str c, .str a, .int .i64 d', .str c', .str a', .str nm, .int .i64 n, .int .i64 m]] [] = some (.ret (.bool (!(tsB 3 b1 b2 b3 b4 b5))), bx) := by
  rw [callL_enter (fn := Tryz.f63) (c := Tryz.f63.body.getD .skip) rfl rfl fat_R30_TriggerSpare rfl ok_R30_TriggerSpare (Nat.le_of_ble_eq_true rfl)]
  obtain ⟨tu, htu⟩ := VLs
  obtain ⟨tr, htr⟩ := TRs
  obtain ⟨tk, hky⟩ := KYs
  obtain ⟨te, hev1⟩ := EVs
  obtain ⟨tg, htg⟩ := TG_s
  obtain ⟨tp, hsp⟩ := SPs
  obtain ⟨tl, hrl⟩ := RLs
  cases b1 with
  | true =>
    have hs : tsB 3 true b2 b3 b4 b5 = true := by simp [tsB]
    rw [hs]
    obtain ⟨ev, eo, so, co, ⟨hev, hco⟩, R⟩ := RULES CC; rw [← hev]
    simp only [fpart, part', Tryz.f63, Option.getD]
    simp (maxSteps := 5000000) only [SA, SB, SD, R, guardAt, binP, intP, indexAddrP, elemsOf, readCells, lenP, lenAt, resultsP, resultP, oneOr, reduceCtorEq, reduceIte, Nat.reduceEqDiff, Nat.reduceAdd, Nat.zero_add, Nat.reduceMul, Nat.reduceLT, Nat.reduceLeDiff, Int.reduceLT, Int.reduceNeg, Int.reduceLE, appendP, appendAt, letGo, setLoc, locVal, Int.reduceToNat, boxCells, und, TG, SE, SC, List.getElem?_cons_zero, List.getElem?_cons_succ, unP, htu, htr, hky, hev1, htg, hsp, hrl, eqgK, eqgE, buildKy0, buildEv0, loadR, loadP, lay, List.take_succ_cons, List.take_zero, List.drop_nil, List.filter_nil, List.cons_append, Int.reduceBEq, Int.reduceBNe, Int.reduceGT, Int.reduceGE, Bool.not_true, Bool.not_false, h1, h2, h3, h4, h5]
    exact ⟨_, rfl⟩
  | false =>
    cases b2 with
    | true =>
      have hs : tsB 3 false true b3 b4 b5 = true := by simp [tsB]
      rw [hs]
      obtain ⟨ev, eo, so, co, ⟨hev, hco⟩, R⟩ := RULES CC; rw [← hev]
      simp only [fpart, part', Tryz.f63, Option.getD]
      simp (maxSteps := 5000000) only [SA, SB, SD, R, guardAt, binP, intP, indexAddrP, elemsOf, readCells, lenP, lenAt, resultsP, resultP, oneOr, reduceCtorEq, reduceIte, Nat.reduceEqDiff, Nat.reduceAdd, Nat.zero_add, Nat.reduceMul, Nat.reduceLT, Nat.reduceLeDiff, Int.reduceLT, Int.reduceNeg, Int.reduceLE, appendP, appendAt, letGo, setLoc, locVal, Int.reduceToNat, boxCells, und, TG, SE, SC, List.getElem?_cons_zero, List.getElem?_cons_succ, unP, htu, htr, hky, hev1, htg, hsp, hrl, eqgK, eqgE, buildKy0, buildEv0, loadR, loadP, lay, List.take_succ_cons, List.take_zero, List.drop_nil, List.filter_nil, List.cons_append, Int.reduceBEq, Int.reduceBNe, Int.reduceGT, Int.reduceGE, Bool.not_true, Bool.not_false, h1, h2, h3, h4, h5]
      exact ⟨_, rfl⟩
    | false =>
      cases b3 with
      | true =>
        have hs : tsB 3 false false true b4 b5 = true := by simp [tsB]
        rw [hs]
        obtain ⟨ev, eo, so, co, ⟨hev, hco⟩, R⟩ := RULES CC; rw [← hev]
        simp only [fpart, part', Tryz.f63, Option.getD]
        simp (maxSteps := 5000000) only [SA, SB, SD, R, guardAt, binP, intP, indexAddrP, elemsOf, readCells, lenP, lenAt, resultsP, resultP, oneOr, reduceCtorEq, reduceIte, Nat.reduceEqDiff, Nat.reduceAdd, Nat.zero_add, Nat.reduceMul, Nat.reduceLT, Nat.reduceLeDiff, Int.reduceLT, Int.reduceNeg, Int.reduceLE, appendP, appendAt, letGo, setLoc, locVal, Int.reduceToNat, boxCells, und, TG, SE, SC, List.getElem?_cons_zero, List.getElem?_cons_succ, unP, htu, htr, hky, hev1, htg, hsp, hrl, eqgK, eqgE, buildKy0, buildEv0, loadR, loadP, lay, List.take_succ_cons, List.take_zero, List.drop_nil, List.filter_nil, List.cons_append, Int.reduceBEq, Int.reduceBNe, Int.reduceGT, Int.reduceGE, Bool.not_true, Bool.not_false, h1, h2, h3, h4, h5]
        exact ⟨_, rfl⟩
      | false =>
        have hs : tsB 3 false false false b4 b5 = false := by simp [tsB]
        rw [hs]
        obtain ⟨ev, eo, so, co, ⟨hev, hco⟩, R⟩ := RULES CC; rw [← hev]
        simp only [fpart, part', Tryz.f63, Option.getD]
        simp (maxSteps := 5000000) only [SA, SB, SD, R, guardAt, binP, intP, indexAddrP, elemsOf, readCells, lenP, lenAt, resultsP, resultP, oneOr, reduceCtorEq, reduceIte, Nat.reduceEqDiff, Nat.reduceAdd, Nat.zero_add, Nat.reduceMul, Nat.reduceLT, Nat.reduceLeDiff, Int.reduceLT, Int.reduceNeg, Int.reduceLE, appendP, appendAt, letGo, setLoc, locVal, Int.reduceToNat, boxCells, und, TG, SE, SC, List.getElem?_cons_zero, List.getElem?_cons_succ, unP, htu, htr, hky, hev1, htg, hsp, hrl, eqgK, eqgE, buildKy0, buildEv0, loadR, loadP, lay, List.take_succ_cons, List.take_zero, List.drop_nil, List.filter_nil, List.cons_append, Int.reduceBEq, Int.reduceBNe, Int.reduceGT, Int.reduceGE, Bool.not_true, Bool.not_false, h1, h2, h3, h4, h5]
        exact ⟨_, rfl⟩
theorem R30_TriggerSpare_4 (n m : Int) (nm : List UInt8) (d : Int) (c a : List UInt8) (d' : Int) (c' a' : List UInt8) (b1 b2 b3 b4 b5 : Bool) (h1 : eqP CC 100 26 (.agg [.int .i64 d, .str c, .str a]) (.agg [.int .i64 0, .str [], .str []]) = some (!b1)) (h2 : eqP CC 100 56 (.agg [.int .i64 d', .str c', .str a']) (.agg [.int .i64 0, .str [], .str []]) = some (!b2))
    (h3 : strP .neq nm [] = some (.bool b3)) (h4 : (n == 0) = !b4) (h5 : (m == 0) = !b5) :
    ∃ bx, callL CC 63 [.agg [.int .i64 4, .int .i64 d, .str c, .str a, .int .i64 d', .str c', .str a', .str nm, .int .i64 n, .int .i64 m]] [] = some (.ret (.bool (!(tsB 4 b1 b2 b3 b4 b5))), bx) := by
  rw [callL_enter (fn := Tryz.f63) (c := Tryz.f63.body.getD .skip) rfl rfl fat_R30_TriggerSpare rfl ok_R30_TriggerSpare (Nat.le_of_ble_eq_true rfl)]
  obtain ⟨tu, htu⟩ := VLs
  obtain ⟨tr, htr⟩ := TRs
  obtain ⟨tk, hky⟩ := KYs
  obtain ⟨te, hev1⟩ := EVs
  obtain ⟨tg, htg⟩ := TG_s
  obtain ⟨tp, hsp⟩ := SPs
  obtain ⟨tl, hrl⟩ := RLs
  cases b1 with
  | true =>
    have hs : tsB 4 true b2 b3 b4 b5 = true := by simp [tsB]
    rw [hs]
    obtain ⟨ev, eo, so, co, ⟨hev, hco⟩, R⟩ := RULES CC; rw [← hev]
    simp only [fpart, part', Tryz.f63, Option.getD]
    simp (maxSteps := 5000000) only [SA, SB, SD, R, guardAt, binP, intP, indexAddrP, elemsOf, readCells, lenP, lenAt, resultsP, resultP, oneOr, reduceCtorEq, reduceIte, Nat.reduceEqDiff, Nat.reduceAdd, Nat.zero_add, Nat.reduceMul, Nat.reduceLT, Nat.reduceLeDiff, Int.reduceLT, Int.reduceNeg, Int.reduceLE, appendP, appendAt, letGo, setLoc, locVal, Int.reduceToNat, boxCells, und, TG, SE, SC, List.getElem?_cons_zero, List.getElem?_cons_succ, unP, htu, htr, hky, hev1, htg, hsp, hrl, eqgK, eqgE, buildKy0, buildEv0, loadR, loadP, lay, List.take_succ_cons, List.take_zero, List.drop_nil, List.filter_nil, List.cons_append, Int.reduceBEq, Int.reduceBNe, Int.reduceGT, Int.reduceGE, Bool.not_true, Bool.not_false, h1, h2, h3, h4, h5]
    exact ⟨_, rfl⟩
  | false =>
    cases b2 with
    | true =>
      have hs : tsB 4 false true b3 b4 b5 = true := by simp [tsB]
      rw [hs]
      obtain ⟨ev, eo, so, co, ⟨hev, hco⟩, R⟩ := RULES CC; rw [← hev]
      simp only [fpart, part', Tryz.f63, Option.getD]
      simp (maxSteps := 5000000) only [SA, SB, SD, R, guardAt, binP, intP, indexAddrP, elemsOf, readCells, lenP, lenAt, resultsP, resultP, oneOr, reduceCtorEq, reduceIte, Nat.reduceEqDiff, Nat.reduceAdd, Nat.zero_add, Nat.reduceMul, Nat.reduceLT, Nat.reduceLeDiff, Int.reduceLT, Int.reduceNeg, Int.reduceLE, appendP, appendAt, letGo, setLoc, locVal, Int.reduceToNat, boxCells, und, TG, SE, SC, List.getElem?_cons_zero, List.getElem?_cons_succ, unP, htu, htr, hky, hev1, htg, hsp, hrl, eqgK, eqgE, buildKy0, buildEv0, loadR, loadP, lay, List.take_succ_cons, List.take_zero, List.drop_nil, List.filter_nil, List.cons_append, Int.reduceBEq, Int.reduceBNe, Int.reduceGT, Int.reduceGE, Bool.not_true, Bool.not_false, h1, h2, h3, h4, h5]
      exact ⟨_, rfl⟩
    | false =>
      cases b4 with
      | true =>
        have hs : tsB 4 false false b3 true b5 = true := by simp [tsB]
        rw [hs]
        obtain ⟨ev, eo, so, co, ⟨hev, hco⟩, R⟩ := RULES CC; rw [← hev]
        simp only [fpart, part', Tryz.f63, Option.getD]
        simp (maxSteps := 5000000) only [SA, SB, SD, R, guardAt, binP, intP, indexAddrP, elemsOf, readCells, lenP, lenAt, resultsP, resultP, oneOr, reduceCtorEq, reduceIte, Nat.reduceEqDiff, Nat.reduceAdd, Nat.zero_add, Nat.reduceMul, Nat.reduceLT, Nat.reduceLeDiff, Int.reduceLT, Int.reduceNeg, Int.reduceLE, appendP, appendAt, letGo, setLoc, locVal, Int.reduceToNat, boxCells, und, TG, SE, SC, List.getElem?_cons_zero, List.getElem?_cons_succ, unP, htu, htr, hky, hev1, htg, hsp, hrl, eqgK, eqgE, buildKy0, buildEv0, loadR, loadP, lay, List.take_succ_cons, List.take_zero, List.drop_nil, List.filter_nil, List.cons_append, Int.reduceBEq, Int.reduceBNe, Int.reduceGT, Int.reduceGE, Bool.not_true, Bool.not_false, h1, h2, h3, h4, h5]
        exact ⟨_, rfl⟩
      | false =>
        cases b5 with
        | true =>
          have hs : tsB 4 false false b3 false true = true := by simp [tsB]
          rw [hs]
          obtain ⟨ev, eo, so, co, ⟨hev, hco⟩, R⟩ := RULES CC; rw [← hev]
          simp only [fpart, part', Tryz.f63, Option.getD]
          simp (maxSteps := 5000000) only [SA, SB, SD, R, guardAt, binP, intP, indexAddrP, elemsOf, readCells, lenP, lenAt, resultsP, resultP, oneOr, reduceCtorEq, reduceIte, Nat.reduceEqDiff, Nat.reduceAdd, Nat.zero_add, Nat.reduceMul, Nat.reduceLT, Nat.reduceLeDiff, Int.reduceLT, Int.reduceNeg, Int.reduceLE, appendP, appendAt, letGo, setLoc, locVal, Int.reduceToNat, boxCells, und, TG, SE, SC, List.getElem?_cons_zero, List.getElem?_cons_succ, unP, htu, htr, hky, hev1, htg, hsp, hrl, eqgK, eqgE, buildKy0, buildEv0, loadR, loadP, lay, List.take_succ_cons, List.take_zero, List.drop_nil, List.filter_nil, List.cons_append, Int.reduceBEq, Int.reduceBNe, Int.reduceGT, Int.reduceGE, Bool.not_true, Bool.not_false, h1, h2, h3, h4, h5]
          exact ⟨_, rfl⟩
        | false =>
          have hs : tsB 4 false false b3 false false = false := by simp [tsB]
          rw [hs]
          obtain ⟨ev, eo, so, co, ⟨hev, hco⟩, R⟩ := RULES CC; rw [← hev]
          simp only [fpart, part', Tryz.f63, Option.getD]
          simp (maxSteps := 5000000) only [SA, SB, SD, R, guardAt, binP, intP, indexAddrP, elemsOf, readCells, lenP, lenAt, resultsP, resultP, oneOr, reduceCtorEq, reduceIte, Nat.reduceEqDiff, Nat.reduceAdd, Nat.zero_add, Nat.reduceMul, Nat.reduceLT, Nat.reduceLeDiff, Int.reduceLT, Int.reduceNeg, Int.reduceLE, appendP, appendAt, letGo, setLoc, locVal, Int.reduceToNat, boxCells, und, TG, SE, SC, List.getElem?_cons_zero, List.getElem?_cons_succ, unP, htu, htr, hky, hev1, htg, hsp, hrl, eqgK, eqgE, buildKy0, buildEv0, loadR, loadP, lay, List.take_succ_cons, List.take_zero, List.drop_nil, List.filter_nil, List.cons_append, Int.reduceBEq, Int.reduceBNe, Int.reduceGT, Int.reduceGE, Bool.not_true, Bool.not_false, h1, h2, h3, h4, h5]
          exact ⟨_, rfl⟩
theorem R30_TriggerSpare_6 (n m : Int) (nm : List UInt8) (d : Int) (c a : List UInt8) (d' : Int) (c' a' : List UInt8) (b1 b2 b3 b4 b5 : Bool) (h1 : eqP CC 100 26 (.agg [.int .i64 d, .str c, .str a]) (.agg [.int .i64 0, .str [], .str []]) = some (!b1)) (h2 : eqP CC 100 56 (.agg [.int .i64 d', .str c', .str a']) (.agg [.int .i64 0, .str [], .str []]) = some (!b2))
    (h3 : strP .neq nm [] = some (.bool b3)) (h4 : (n == 0) = !b4) (h5 : (m == 0) = !b5) :
    ∃ bx, callL CC 63 [.agg [.int .i64 6, .int .i64 d, .str c, .str a, .int .i64 d', .str c', .str a', .str nm, .int .i64 n, .int .i64 m]] [] = some (.ret (.bool (!(tsB 6 b1 b2 b3 b4 b5))), bx) := by
  rw [callL_enter (fn := Tryz.f63) (c := Tryz.f63.body.getD .skip) rfl rfl fat_R30_TriggerSpare rfl ok_R30_TriggerSpare (Nat.le_of_ble_eq_true rfl)]
  obtain ⟨tu, htu⟩ := VLs
  obtain ⟨tr, htr⟩ := TRs
  obtain ⟨tk, hky⟩ := KYs
  obtain ⟨te, hev1⟩ := EVs
  obtain ⟨tg, htg⟩ := TG_s
  obtain ⟨tp, hsp⟩ := SPs
  obtain ⟨tl, hrl⟩ := RLs
  cases b1 with
  | true =>
    have hs : tsB 6 true b2 b3 b4 b5 = true := by simp [tsB]
    rw [hs]
    obtain ⟨ev, eo, so, co, ⟨hev, hco⟩, R⟩ := RULES CC; rw [← hev]
    simp only [fpart, part', Tryz.f63, Option.getD]
    simp (maxSteps := 5000000) only [SA, SB, SD, R, guardAt, binP, intP, indexAddrP, elemsOf, readCells, lenP, lenAt, resultsP, resultP, oneOr, reduceCtorEq, reduceIte, Nat.reduceEqDiff, Nat.reduceAdd, Nat.zero_add, Nat.reduceMul, Nat.reduceLT, Nat.reduceLeDiff, Int.reduceLT, Int.reduceNeg, Int.reduceLE, appendP, appendAt, letGo, setLoc, locVal, Int.reduceToNat, boxCells, und, TG, SE, SC, List.getElem?_cons_zero, List.getElem?_cons_succ, unP, htu, htr, hky, hev1, htg, hsp, hrl, eqgK, eqgE, buildKy0, buildEv0, loadR, loadP, lay, List.take_succ_cons, List.take_zero, List.drop_nil, List.filter_nil, List.cons_append, Int.reduceBEq, Int.reduceBNe, Int.reduceGT, Int.reduceGE, Bool.not_true, Bool.not_false, h1, h2, h3, h4, h5]
    exact ⟨_, rfl⟩
  | false =>
    cases b2 with
    | true =>
      have hs : tsB 6 false true b3 b4 b5 = true := by simp [tsB]
      rw [hs]
      obtain ⟨ev, eo, so, co, ⟨hev, hco⟩, R⟩ := RULES CC; rw [← hev]
      simp only [fpart, part', Tryz.f63, Option.getD]
      simp (maxSteps := 5000000) only [SA, SB, SD, R, guardAt, binP, intP, indexAddrP, elemsOf, readCells, lenP, lenAt, resultsP, resultP, oneOr, reduceCtorEq, reduceIte, Nat.reduceEqDiff, Nat.reduceAdd, Nat.zero_add, Nat.reduceMul, Nat.reduceLT, Nat.reduceLeDiff, Int.reduceLT, Int.reduceNeg, Int.reduceLE, appendP, appendAt, letGo, setLoc, locVal, Int.reduceToNat, boxCells, und, TG, SE, SC, List.getElem?_cons_zero, List.getElem?_cons_succ, unP, htu, htr, hky, hev1, htg, hsp, hrl, eqgK, eqgE, buildKy0, buildEv0, loadR, loadP, lay, List.take_succ_cons, List.take_zero, List.drop_nil, List.filter_nil, List.cons_append, Int.reduceBEq, Int.reduceBNe, Int.reduceGT, Int.reduceGE, Bool.not_true, Bool.not_false, h1, h2, h3, h4, h5]
      exact ⟨_, rfl⟩
    | false =>
      cases b3 with
      | true =>
        have hs : tsB 6 false false true b4 b5 = true := by simp [tsB]
        rw [hs]
        obtain ⟨ev, eo, so, co, ⟨hev, hco⟩, R⟩ := RULES CC; rw [← hev]
        simp only [fpart, part', Tryz.f63, Option.getD]
        simp (maxSteps := 5000000) only [SA, SB, SD, R, guardAt, binP, intP, indexAddrP, elemsOf, readCells, lenP, lenAt, resultsP, resultP, oneOr, reduceCtorEq, reduceIte, Nat.reduceEqDiff, Nat.reduceAdd, Nat.zero_add, Nat.reduceMul, Nat.reduceLT, Nat.reduceLeDiff, Int.reduceLT, Int.reduceNeg, Int.reduceLE, appendP, appendAt, letGo, setLoc, locVal, Int.reduceToNat, boxCells, und, TG, SE, SC, List.getElem?_cons_zero, List.getElem?_cons_succ, unP, htu, htr, hky, hev1, htg, hsp, hrl, eqgK, eqgE, buildKy0, buildEv0, loadR, loadP, lay, List.take_succ_cons, List.take_zero, List.drop_nil, List.filter_nil, List.cons_append, Int.reduceBEq, Int.reduceBNe, Int.reduceGT, Int.reduceGE, Bool.not_true, Bool.not_false, h1, h2, h3, h4, h5]
        exact ⟨_, rfl⟩
      | false =>
        cases b5 with
        | true =>
          have hs : tsB 6 false false false b4 true = true := by simp [tsB]
          rw [hs]
          obtain ⟨ev, eo, so, co, ⟨hev, hco⟩, R⟩ := RULES CC; rw [← hev]
          simp only [fpart, part', Tryz.f63, Option.getD]
          simp (maxSteps := 5000000) only [SA, SB, SD, R, guardAt, binP, intP, indexAddrP, elemsOf, readCells, lenP, lenAt, resultsP, resultP, oneOr, reduceCtorEq, reduceIte, Nat.reduceEqDiff, Nat.reduceAdd, Nat.zero_add, Nat.reduceMul, Nat.reduceLT, Nat.reduceLeDiff, Int.reduceLT, Int.reduceNeg, Int.reduceLE, appendP, appendAt, letGo, setLoc, locVal, Int.reduceToNat, boxCells, und, TG, SE, SC, List.getElem?_cons_zero, List.getElem?_cons_succ, unP, htu, htr, hky, hev1, htg, hsp, hrl, eqgK, eqgE, buildKy0, buildEv0, loadR, loadP, lay, List.take_succ_cons, List.take_zero, List.drop_nil, List.filter_nil, List.cons_append, Int.reduceBEq, Int.reduceBNe, Int.reduceGT, Int.reduceGE, Bool.not_true, Bool.not_false, h1, h2, h3, h4, h5]
          exact ⟨_, rfl⟩
        | false =>
          have hs : tsB 6 false false false b4 false = false := by simp [tsB]
          rw [hs]
          obtain ⟨ev, eo, so, co, ⟨hev, hco⟩, R⟩ := RULES CC; rw [← hev]
          simp only [fpart, part', Tryz.f63, Option.getD]
          simp (maxSteps := 5000000) only [SA, SB, SD, R, guardAt, binP, intP, indexAddrP, elemsOf, readCells, lenP, lenAt, resultsP, resultP, oneOr, reduceCtorEq, reduceIte, Nat.reduceEqDiff, Nat.reduceAdd, Nat.zero_add, Nat.reduceMul, Nat.reduceLT, Nat.reduceLeDiff, Int.reduceLT, Int.reduceNeg, Int.reduceLE, appendP, appendAt, letGo, setLoc, locVal, Int.reduceToNat, boxCells, und, TG, SE, SC, List.getElem?_cons_zero, List.getElem?_cons_succ, unP, htu, htr, hky, hev1, htg, hsp, hrl, eqgK, eqgE, buildKy0, buildEv0, loadR, loadP, lay, List.take_succ_cons, List.take_zero, List.drop_nil, List.filter_nil, List.cons_append, Int.reduceBEq, Int.reduceBNe, Int.reduceGT, Int.reduceGE, Bool.not_true, Bool.not_false, h1, h2, h3, h4, h5]
          exact ⟨_, rfl⟩
theorem R30_TriggerSpare_0 (k : Int) (hk1 : (k == 1) = false) (hn1 : (k != 1) = true) (hk2 : (k == 2) = false) (hn2 : (k != 2) = true) (hk3 : (k == 3) = false) (hn3 : (k != 3) = true) (hk4 : (k == 4) = false) (hn4 : (k != 4) = true) (hk6 : (k == 6) = false) (hn6 : (k != 6) = true) (n m : Int) (nm : List UInt8) (d : Int) (c a : List UInt8) (d' : Int) (c' a' : List UInt8) (b1 b2 b3 b4 b5 : Bool) (h1 : eqP CC 100 26 (.agg [.int .i64 d, .str c, .str a]) (.agg [.int .i64 0, .str [], .str []]) = some (!b1)) (h2 : eqP CC 100 56 (.agg [.int .i64 d', .str c', .str a']) (.agg [.int .i64 0, .str [], .str []]) = some (!b2))
    (h3 : strP .neq nm [] = some (.bool b3)) (h4 : (n == 0) = !b4) (h5 : (m == 0) = !b5) :
    ∃ bx, callL CC 63 [.agg [.int .i64 k, .int .i64 d, .str c, .str a, .int .i64 d', .str c', .str a', .str nm, .int .i64 n, .int .i64 m]] [] = some (.ret (.bool (!(tsB k b1 b2 b3 b4 b5))), bx) := by
  rw [callL_enter (fn := Tryz.f63) (c := Tryz.f63.body.getD .skip) rfl rfl fat_R30_TriggerSpare rfl ok_R30_TriggerSpare (Nat.le_of_ble_eq_true rfl)]
  obtain ⟨tu, htu⟩ := VLs
  obtain ⟨tr, htr⟩ := TRs
  obtain ⟨tk, hky⟩ := KYs
  obtain ⟨te, hev1⟩ := EVs
  obtain ⟨tg, htg⟩ := TG_s
  obtain ⟨tp, hsp⟩ := SPs
  obtain ⟨tl, hrl⟩ := RLs
  cases b1 with
  | true =>
    have hs : tsB k true b2 b3 b4 b5 = true := by unfold tsB; simp only [hk1, hk2, hk3, hk4, hk6]; simp
    rw [hs]
    obtain ⟨ev, eo, so, co, ⟨hev, hco⟩, R⟩ := RULES CC; rw [← hev]
    simp only [fpart, part', Tryz.f63, Option.getD]
    simp (maxSteps := 5000000) only [SA, SB, SD, R, guardAt, binP, intP, indexAddrP, elemsOf, readCells, lenP, lenAt, resultsP, resultP, oneOr, reduceCtorEq, reduceIte, Nat.reduceEqDiff, Nat.reduceAdd, Nat.zero_add, Nat.reduceMul, Nat.reduceLT, Nat.reduceLeDiff, Int.reduceLT, Int.reduceNeg, Int.reduceLE, appendP, appendAt, letGo, setLoc, locVal, Int.reduceToNat, boxCells, und, TG, SE, SC, List.getElem?_cons_zero, List.getElem?_cons_succ, unP, htu, htr, hky, hev1, htg, hsp, hrl, eqgK, eqgE, buildKy0, buildEv0, loadR, loadP, lay, List.take_succ_cons, List.take_zero, List.drop_nil, List.filter_nil, List.cons_append, Int.reduceBEq, Int.reduceBNe, Int.reduceGT, Int.reduceGE, Bool.not_true, Bool.not_false, h1, h2, h3, h4, h5, hk1, hn1, hk2, hn2, hk3, hn3, hk4, hn4, hk6, hn6]
    exact ⟨_, rfl⟩
  | false =>
    cases b2 with
    | true =>
      have hs : tsB k false true b3 b4 b5 = true := by unfold tsB; simp only [hk1, hk2, hk3, hk4, hk6]; simp
      rw [hs]
      obtain ⟨ev, eo, so, co, ⟨hev, hco⟩, R⟩ := RULES CC; rw [← hev]
      simp only [fpart, part', Tryz.f63, Option.getD]
      simp (maxSteps := 5000000) only [SA, SB, SD, R, guardAt, binP, intP, indexAddrP, elemsOf, readCells, lenP, lenAt, resultsP, resultP, oneOr, reduceCtorEq, reduceIte, Nat.reduceEqDiff, Nat.reduceAdd, Nat.zero_add, Nat.reduceMul, Nat.reduceLT, Nat.reduceLeDiff, Int.reduceLT, Int.reduceNeg, Int.reduceLE, appendP, appendAt, letGo, setLoc, locVal, Int.reduceToNat, boxCells, und, TG, SE, SC, List.getElem?_cons_zero, List.getElem?_cons_succ, unP, htu, htr, hky, hev1, htg, hsp, hrl, eqgK, eqgE, buildKy0, buildEv0, loadR, loadP, lay, List.take_succ_cons, List.take_zero, List.drop_nil, List.filter_nil, List.cons_append, Int.reduceBEq, Int.reduceBNe, Int.reduceGT, Int.reduceGE, Bool.not_true, Bool.not_false, h1, h2, h3, h4, h5, hk1, hn1, hk2, hn2, hk3, hn3, hk4, hn4, hk6, hn6]
      exact ⟨_, rfl⟩
    | false =>
      cases b3 with
      | true =>
        have hs : tsB k false false true b4 b5 = true := by unfold tsB; simp only [hk1, hk2, hk3, hk4, hk6]; simp
        rw [hs]
        obtain ⟨ev, eo, so, co, ⟨hev, hco⟩, R⟩ := RULES CC; rw [← hev]
        simp only [fpart, part', Tryz.f63, Option.getD]
        simp (maxSteps := 5000000) only [SA, SB, SD, R, guardAt, binP, intP, indexAddrP, elemsOf, readCells, lenP, lenAt, resultsP, resultP, oneOr, reduceCtorEq, reduceIte, Nat.reduceEqDiff, Nat.reduceAdd, Nat.zero_add, Nat.reduceMul, Nat.reduceLT, Nat.reduceLeDiff, Int.reduceLT, Int.reduceNeg, Int.reduceLE, appendP, appendAt, letGo, setLoc, locVal, Int.reduceToNat, boxCells, und, TG, SE, SC, List.getElem?_cons_zero, List.getElem?_cons_succ, unP, htu, htr, hky, hev1, htg, hsp, hrl, eqgK, eqgE, buildKy0, buildEv0, loadR, loadP, lay, List.take_succ_cons, List.take_zero, List.drop_nil, List.filter_nil, List.cons_append, Int.reduceBEq, Int.reduceBNe, Int.reduceGT, Int.reduceGE, Bool.not_true, Bool.not_false, h1, h2, h3, h4, h5, hk1, hn1, hk2, hn2, hk3, hn3, hk4, hn4, hk6, hn6]
        exact ⟨_, rfl⟩
      | false =>
        cases b4 with
        | true =>
          have hs : tsB k false false false true b5 = true := by unfold tsB; simp only [hk1, hk2, hk3, hk4, hk6]; simp
          rw [hs]
          obtain ⟨ev, eo, so, co, ⟨hev, hco⟩, R⟩ := RULES CC; rw [← hev]
          simp only [fpart, part', Tryz.f63, Option.getD]
          simp (maxSteps := 5000000) only [SA, SB, SD, R, guardAt, binP, intP, indexAddrP, elemsOf, readCells, lenP, lenAt, resultsP, resultP, oneOr, reduceCtorEq, reduceIte, Nat.reduceEqDiff, Nat.reduceAdd, Nat.zero_add, Nat.reduceMul, Nat.reduceLT, Nat.reduceLeDiff, Int.reduceLT, Int.reduceNeg, Int.reduceLE, appendP, appendAt, letGo, setLoc, locVal, Int.reduceToNat, boxCells, und, TG, SE, SC, List.getElem?_cons_zero, List.getElem?_cons_succ, unP, htu, htr, hky, hev1, htg, hsp, hrl, eqgK, eqgE, buildKy0, buildEv0, loadR, loadP, lay, List.take_succ_cons, List.take_zero, List.drop_nil, List.filter_nil, List.cons_append, Int.reduceBEq, Int.reduceBNe, Int.reduceGT, Int.reduceGE, Bool.not_true, Bool.not_false, h1, h2, h3, h4, h5, hk1, hn1, hk2, hn2, hk3, hn3, hk4, hn4, hk6, hn6]
          exact ⟨_, rfl⟩
        | false =>
          cases b5 with
          | true =>
            have hs : tsB k false false false false true = true := by unfold tsB; simp only [hk1, hk2, hk3, hk4, hk6]; simp
            rw [hs]
            obtain ⟨ev, eo, so, co, ⟨hev, hco⟩, R⟩ := RULES CC; rw [← hev]
            simp only [fpart, part', Tryz.f63, Option.getD]
            simp (maxSteps := 5000000) only [SA, SB, SD, R, guardAt, binP, intP, indexAddrP, elemsOf, readCells, lenP, lenAt, resultsP, resultP, oneOr, reduceCtorEq, reduceIte, Nat.reduceEqDiff, Nat.reduceAdd, Nat.zero_add, Nat.reduceMul, Nat.reduceLT, Nat.reduceLeDiff, Int.reduceLT, Int.reduceNeg, Int.reduceLE, appendP, appendAt, letGo, setLoc, locVal, Int.reduceToNat, boxCells, und, TG, SE, SC, List.getElem?_cons_zero, List.getElem?_cons_succ, unP, htu, htr, hky, hev1, htg, hsp, hrl, eqgK, eqgE, buildKy0, buildEv0, loadR, loadP, lay, List.take_succ_cons, List.take_zero, List.drop_nil, List.filter_nil, List.cons_append, Int.reduceBEq, Int.reduceBNe, Int.reduceGT, Int.reduceGE, Bool.not_true, Bool.not_false, h1, h2, h3, h4, h5, hk1, hn1, hk2, hn2, hk3, hn3, hk4, hn4, hk6, hn6]
            exact ⟨_, rfl⟩
          | false =>
            have hs : tsB k false false false false false = false := by unfold tsB; simp only [hk1, hk2, hk3, hk4, hk6]; simp
            rw [hs]
            obtain ⟨ev, eo, so, co, ⟨hev, hco⟩, R⟩ := RULES CC; rw [← hev]
            simp only [fpart, part', Tryz.f63, Option.getD]
            simp (maxSteps := 5000000) only [SA, SB, SD, R, guardAt, binP, intP, indexAddrP, elemsOf, readCells, lenP, lenAt, resultsP, resultP, oneOr, reduceCtorEq, reduceIte, Nat.reduceEqDiff, Nat.reduceAdd, Nat.zero_add, Nat.reduceMul, Nat.reduceLT, Nat.reduceLeDiff, Int.reduceLT, Int.reduceNeg, Int.reduceLE, appendP, appendAt, letGo, setLoc, locVal, Int.reduceToNat, boxCells, und, TG, SE, SC, List.getElem?_cons_zero, List.getElem?_cons_succ, unP, htu, htr, hky, hev1, htg, hsp, hrl, eqgK, eqgE, buildKy0, buildEv0, loadR, loadP, lay, List.take_succ_cons, List.take_zero, List.drop_nil, List.filter_nil, List.cons_append, Int.reduceBEq, Int.reduceBNe, Int.reduceGT, Int.reduceGE, Bool.not_true, Bool.not_false, h1, h2, h3, h4, h5, hk1, hn1, hk2, hn2, hk3, hn3, hk4, hn4, hk6, hn6]
            exact ⟨_, rfl⟩
theorem call_R30_TriggerSpare (t : Tg) : ∃ bx, callL CC 63 [tgV t] [] = some (.ret (.bool (!(tsT t))), bx) := by
  obtain ⟨k, key, ev, nm, n, m⟩ := t
  obtain ⟨d, c, a⟩ := key
  obtain ⟨d', c', a'⟩ := ev
  unfold tgV tsT
  simp only
  have h1 : eqP CC 100 26 (.agg [.int .i64 d, .str c, .str a]) (.agg [.int .i64 0, .str [], .str []]) = some (!(!(eqKy (d, c, a) (0, [], [])))) := by rw [eqKP, Bool.not_not]; rfl
  have h2 : eqP CC 100 56 (.agg [.int .i64 d', .str c', .str a']) (.agg [.int .i64 0, .str [], .str []]) = some (!(!(eqKy (d', c', a') (0, [], [])))) := by rw [eqEP, Bool.not_not]; rfl
  have h3 : strP .neq nm [] = some (.bool (!(nm == []))) := rfl
  have h4 : (n == 0) = !(n != 0) := by simp [bne]
  have h5 : (m == 0) = !(m != 0) := by simp [bne]
  by_cases c1 : k = 1
  · subst c1
    exact R30_TriggerSpare_1 n m nm d c a d' c' a' _ _ _ _ _ h1 h2 h3 h4 h5
  by_cases c2 : k = 2
  · subst c2
    exact R30_TriggerSpare_2 n m nm d c a d' c' a' _ _ _ _ _ h1 h2 h3 h4 h5
  by_cases c3 : k = 3
  · subst c3
    exact R30_TriggerSpare_3 n m nm d c a d' c' a' _ _ _ _ _ h1 h2 h3 h4 h5
  by_cases c4 : k = 4
  · subst c4
    exact R30_TriggerSpare_4 n m nm d c a d' c' a' _ _ _ _ _ h1 h2 h3 h4 h5
  by_cases c6 : k = 6
  · subst c6
    exact R30_TriggerSpare_6 n m nm d c a d' c' a' _ _ _ _ _ h1 h2 h3 h4 h5
  exact R30_TriggerSpare_0 k (by simpa using c1) (by simpa using c1) (by simpa using c2) (by simpa using c2) (by simpa using c3) (by simpa using c3) (by simpa using c4) (by simpa using c4) (by simpa using c6) (by simpa using c6) n m nm d c a d' c' a' _ _ _ _ _ h1 h2 h3 h4 h5
theorem op_R30_TriggerSpare (t : Tg) (bx) : callOp CC (callL CC) 63 [tgV t] bx = some (.ret (.bool (!(tsT t))), bx) := by
  obtain ⟨b, h⟩ := call_R30_TriggerSpare t
  exact callOp_of rfl (by simp only [pureL_cons, tgV_pure, pureL_nil, Bool.and_self]) h rfl
set_option maxHeartbeats 4000000
theorem ok_R30_Trigger : fnOK CC Tryz.f34 (Tryz.f34.body.getD .skip) = true := by kernel_rfl
theorem fat_R30_Trigger : CC.P.funcs[34]? = some Tryz.f34 := by kernel_rfl
/-- what is said of a trigger -/
def tgE (t : Tg) : Int := if t.k < 1 ∨ 6 < t.k then 7 else if tsT t = true then 1 else if t.k = 1 then nmE t.key.1 t.key.2.1 t.key.2.2 else if t.k = 2 then nmE t.ev.1 t.ev.2.1 t.ev.2.2 else
  if t.k = 3 then (if 0 ≤ t.n ∧ t.n < 1440 ∧ 1 ≤ t.m ∧ t.m ≤ 127 then 0 else 2) else if t.k = 4 then (if t.nm = [] ∨ valB t.nm = true then 0 else 10) else if t.k = 6 then (if 0 ≤ t.n ∧ t.n ≤ 1099511627776 then 0 else 2) else 0
theorem plTg_len {t : Tg} (h : plTg t = true) : t.nm.length ≤ 100 ∧ t.key.2.1.length ≤ 100 ∧ t.key.2.2.length ≤ 100 ∧ t.ev.2.1.length ≤ 100 ∧ t.ev.2.2.length ≤ 100 := of_decide_eq_true h
theorem call_R30_Trigger (t : Tg) (hp : plTg t = true) : ∃ bx, callL CC 34 [tgV t] [] = some (.ret (.int .i64 (tgE t)), bx) := by
  have hl := plTg_len hp
  have osp := op_R30_TriggerSpare t
  unfold tgE
  obtain ⟨k, key, ev, nm, n, m⟩ := t
  obtain ⟨d, c, a⟩ := key
  obtain ⟨d', c', a'⟩ := ev
  obtain ⟨l1, l2, l3, l4, l5⟩ := hl
  simp only at l1 l2 l3 l4 l5
  have v1 := op_R04_Valid c (by omega)
  have v2 := op_R04_Valid a (by omega)
  have v3 := op_R04_Valid c' (by omega)
  have v4 := op_R04_Valid a' (by omega)
  have v5 := op_R04_Valid nm (by omega)
  have a1 := op_R30_Address d
  have a2 := op_R30_Address d'
  have hn : strP .neq nm [] = some (.bool (!(nm == []))) := rfl
  obtain ⟨ne, hne⟩ : ∃ b, b = (nm == []) := ⟨_, rfl⟩
  have hne' : nm = [] ↔ ne = true := by rw [hne]; simp
  rw [← hne] at hn
  unfold tgV at osp ⊢
  simp only at osp ⊢
  generalize tsT ⟨k, (d, c, a), (d', c', a'), nm, n, m⟩ = ts at *
  unfold nmE
  rw [callL_enter (fn := Tryz.f34) (c := Tryz.f34.body.getD .skip) rfl rfl fat_R30_Trigger rfl ok_R30_Trigger (Nat.le_of_ble_eq_true rfl)]
  obtain ⟨tu, htu⟩ := VLs
  obtain ⟨tr, htr⟩ := TRs
  obtain ⟨tk, hky⟩ := KYs
  obtain ⟨te, hev1⟩ := EVs
  obtain ⟨tg, htg⟩ := TG_s
  obtain ⟨tp, hsp⟩ := SPs
  obtain ⟨tl, hrl⟩ := RLs
  generalize valB c = p1 at *
  generalize valB a = p2 at *
  generalize valB c' = p3 at *
  generalize valB a' = p4 at *
  generalize valB nm = p5 at *
  generalize dvB d = q1 at *
  generalize dvB d' = q2 at *
  by_cases c1 : k < 1
  · rw [if_pos (by omega)]
    obtain ⟨ev, eo, so, co, ⟨hev, hco⟩, R⟩ := RULES CC; rw [← hev]
    rw [← hco] at osp v1 v2 v3 v4 v5 a1 a2
    simp only [fpart, part', Tryz.f34, Option.getD]
    simp (maxSteps := 5000000) only [SA, SB, SD, R, guardAt, binP, intP, indexAddrP, elemsOf, readCells, lenP, lenAt, resultsP, resultP, oneOr, reduceCtorEq, reduceIte, Nat.reduceEqDiff, Nat.reduceAdd, Nat.zero_add, Nat.reduceMul, Nat.reduceLT, Nat.reduceLeDiff, Int.reduceLT, Int.reduceNeg, Int.reduceLE, appendP, appendAt, letGo, setLoc, locVal, Int.reduceToNat, boxCells, und, TG, SE, SC, List.getElem?_cons_zero, List.getElem?_cons_succ, unP, htu, htr, hky, hev1, htg, hsp, hrl, loadR, loadP, lay, List.take_succ_cons, List.take_zero, List.drop_nil, List.filter_nil, List.cons_append, Int.reduceBEq, Int.reduceBNe, Int.reduceGT, Int.reduceLT, Int.reduceGE, Bool.not_true, Bool.not_false, osp, v1, v2, v3, v4, v5, a1, a2, hn, c1]
    exact ⟨_, rfl⟩
  by_cases c2 : k > 6
  · rw [if_pos (by omega)]
    obtain ⟨ev, eo, so, co, ⟨hev, hco⟩, R⟩ := RULES CC; rw [← hev]
    rw [← hco] at osp v1 v2 v3 v4 v5 a1 a2
    simp only [fpart, part', Tryz.f34, Option.getD]
    simp (maxSteps := 5000000) only [SA, SB, SD, R, guardAt, binP, intP, indexAddrP, elemsOf, readCells, lenP, lenAt, resultsP, resultP, oneOr, reduceCtorEq, reduceIte, Nat.reduceEqDiff, Nat.reduceAdd, Nat.zero_add, Nat.reduceMul, Nat.reduceLT, Nat.reduceLeDiff, Int.reduceLT, Int.reduceNeg, Int.reduceLE, appendP, appendAt, letGo, setLoc, locVal, Int.reduceToNat, boxCells, und, TG, SE, SC, List.getElem?_cons_zero, List.getElem?_cons_succ, unP, htu, htr, hky, hev1, htg, hsp, hrl, loadR, loadP, lay, List.take_succ_cons, List.take_zero, List.drop_nil, List.filter_nil, List.cons_append, Int.reduceBEq, Int.reduceBNe, Int.reduceGT, Int.reduceLT, Int.reduceGE, Bool.not_true, Bool.not_false, osp, v1, v2, v3, v4, v5, a1, a2, hn, c1, c2]
    exact ⟨_, rfl⟩
  cases ts with
  | true =>
    rw [if_neg (by omega), if_pos rfl]
    obtain ⟨ev, eo, so, co, ⟨hev, hco⟩, R⟩ := RULES CC; rw [← hev]
    rw [← hco] at osp v1 v2 v3 v4 v5 a1 a2
    simp only [fpart, part', Tryz.f34, Option.getD]
    simp (maxSteps := 5000000) only [SA, SB, SD, R, guardAt, binP, intP, indexAddrP, elemsOf, readCells, lenP, lenAt, resultsP, resultP, oneOr, reduceCtorEq, reduceIte, Nat.reduceEqDiff, Nat.reduceAdd, Nat.zero_add, Nat.reduceMul, Nat.reduceLT, Nat.reduceLeDiff, Int.reduceLT, Int.reduceNeg, Int.reduceLE, appendP, appendAt, letGo, setLoc, locVal, Int.reduceToNat, boxCells, und, TG, SE, SC, List.getElem?_cons_zero, List.getElem?_cons_succ, unP, htu, htr, hky, hev1, htg, hsp, hrl, loadR, loadP, lay, List.take_succ_cons, List.take_zero, List.drop_nil, List.filter_nil, List.cons_append, Int.reduceBEq, Int.reduceBNe, Int.reduceGT, Int.reduceLT, Int.reduceGE, Bool.not_true, Bool.not_false, osp, v1, v2, v3, v4, v5, a1, a2, hn, c1, c2]
    exact ⟨_, rfl⟩
  | false =>
    by_cases k1 : k = 1
    · subst k1
      cases q1 with
      | false =>
        rw [if_neg (by omega), if_neg (by simp), if_pos rfl, if_pos rfl]
        obtain ⟨ev, eo, so, co, ⟨hev, hco⟩, R⟩ := RULES CC; rw [← hev]
        rw [← hco] at osp v1 v2 v3 v4 v5 a1 a2
        simp only [fpart, part', Tryz.f34, Option.getD]
        simp (maxSteps := 5000000) only [SA, SB, SD, R, guardAt, binP, intP, indexAddrP, elemsOf, readCells, lenP, lenAt, resultsP, resultP, oneOr, reduceCtorEq, reduceIte, Nat.reduceEqDiff, Nat.reduceAdd, Nat.zero_add, Nat.reduceMul, Nat.reduceLT, Nat.reduceLeDiff, Int.reduceLT, Int.reduceNeg, Int.reduceLE, appendP, appendAt, letGo, setLoc, locVal, Int.reduceToNat, boxCells, und, TG, SE, SC, List.getElem?_cons_zero, List.getElem?_cons_succ, unP, htu, htr, hky, hev1, htg, hsp, hrl, loadR, loadP, lay, List.take_succ_cons, List.take_zero, List.drop_nil, List.filter_nil, List.cons_append, Int.reduceBEq, Int.reduceBNe, Int.reduceGT, Int.reduceLT, Int.reduceGE, Bool.not_true, Bool.not_false, osp, v1, v2, v3, v4, v5, a1, a2, hn, c1, c2]
        exact ⟨_, rfl⟩
      | true =>
        cases p1 with
        | false =>
          rw [if_neg (by omega), if_neg (by simp), if_pos rfl, if_neg (by simp), if_neg (by simp)]
          obtain ⟨ev, eo, so, co, ⟨hev, hco⟩, R⟩ := RULES CC; rw [← hev]
          rw [← hco] at osp v1 v2 v3 v4 v5 a1 a2
          simp only [fpart, part', Tryz.f34, Option.getD]
          simp (maxSteps := 5000000) only [SA, SB, SD, R, guardAt, binP, intP, indexAddrP, elemsOf, readCells, lenP, lenAt, resultsP, resultP, oneOr, reduceCtorEq, reduceIte, Nat.reduceEqDiff, Nat.reduceAdd, Nat.zero_add, Nat.reduceMul, Nat.reduceLT, Nat.reduceLeDiff, Int.reduceLT, Int.reduceNeg, Int.reduceLE, appendP, appendAt, letGo, setLoc, locVal, Int.reduceToNat, boxCells, und, TG, SE, SC, List.getElem?_cons_zero, List.getElem?_cons_succ, unP, htu, htr, hky, hev1, htg, hsp, hrl, loadR, loadP, lay, List.take_succ_cons, List.take_zero, List.drop_nil, List.filter_nil, List.cons_append, Int.reduceBEq, Int.reduceBNe, Int.reduceGT, Int.reduceLT, Int.reduceGE, Bool.not_true, Bool.not_false, osp, v1, v2, v3, v4, v5, a1, a2, hn, c1, c2]
          exact ⟨_, rfl⟩
        | true =>
          cases p2 with
          | false =>
            rw [if_neg (by omega), if_neg (by simp), if_pos rfl, if_neg (by simp), if_neg (by simp)]
            obtain ⟨ev, eo, so, co, ⟨hev, hco⟩, R⟩ := RULES CC; rw [← hev]
            rw [← hco] at osp v1 v2 v3 v4 v5 a1 a2
            simp only [fpart, part', Tryz.f34, Option.getD]
            simp (maxSteps := 5000000) only [SA, SB, SD, R, guardAt, binP, intP, indexAddrP, elemsOf, readCells, lenP, lenAt, resultsP, resultP, oneOr, reduceCtorEq, reduceIte, Nat.reduceEqDiff, Nat.reduceAdd, Nat.zero_add, Nat.reduceMul, Nat.reduceLT, Nat.reduceLeDiff, Int.reduceLT, Int.reduceNeg, Int.reduceLE, appendP, appendAt, letGo, setLoc, locVal, Int.reduceToNat, boxCells, und, TG, SE, SC, List.getElem?_cons_zero, List.getElem?_cons_succ, unP, htu, htr, hky, hev1, htg, hsp, hrl, loadR, loadP, lay, List.take_succ_cons, List.take_zero, List.drop_nil, List.filter_nil, List.cons_append, Int.reduceBEq, Int.reduceBNe, Int.reduceGT, Int.reduceLT, Int.reduceGE, Bool.not_true, Bool.not_false, osp, v1, v2, v3, v4, v5, a1, a2, hn, c1, c2]
            exact ⟨_, rfl⟩
          | true =>
            rw [if_neg (by omega), if_neg (by simp), if_pos rfl, if_neg (by simp), if_pos (by simp)]
            obtain ⟨ev, eo, so, co, ⟨hev, hco⟩, R⟩ := RULES CC; rw [← hev]
            rw [← hco] at osp v1 v2 v3 v4 v5 a1 a2
            simp only [fpart, part', Tryz.f34, Option.getD]
            simp (maxSteps := 5000000) only [SA, SB, SD, R, guardAt, binP, intP, indexAddrP, elemsOf, readCells, lenP, lenAt, resultsP, resultP, oneOr, reduceCtorEq, reduceIte, Nat.reduceEqDiff, Nat.reduceAdd, Nat.zero_add, Nat.reduceMul, Nat.reduceLT, Nat.reduceLeDiff, Int.reduceLT, Int.reduceNeg, Int.reduceLE, appendP, appendAt, letGo, setLoc, locVal, Int.reduceToNat, boxCells, und, TG, SE, SC, List.getElem?_cons_zero, List.getElem?_cons_succ, unP, htu, htr, hky, hev1, htg, hsp, hrl, loadR, loadP, lay, List.take_succ_cons, List.take_zero, List.drop_nil, List.filter_nil, List.cons_append, Int.reduceBEq, Int.reduceBNe, Int.reduceGT, Int.reduceLT, Int.reduceGE, Bool.not_true, Bool.not_false, osp, v1, v2, v3, v4, v5, a1, a2, hn, c1, c2]
            exact ⟨_, rfl⟩
    by_cases k2 : k = 2
    · subst k2
      cases q2 with
      | false =>
        rw [if_neg (by omega), if_neg (by simp), if_neg (by omega), if_pos rfl, if_pos rfl]
        obtain ⟨ev, eo, so, co, ⟨hev, hco⟩, R⟩ := RULES CC; rw [← hev]
        rw [← hco] at osp v1 v2 v3 v4 v5 a1 a2
        simp only [fpart, part', Tryz.f34, Option.getD]
        simp (maxSteps := 5000000) only [SA, SB, SD, R, guardAt, binP, intP, indexAddrP, elemsOf, readCells, lenP, lenAt, resultsP, resultP, oneOr, reduceCtorEq, reduceIte, Nat.reduceEqDiff, Nat.reduceAdd, Nat.zero_add, Nat.reduceMul, Nat.reduceLT, Nat.reduceLeDiff, Int.reduceLT, Int.reduceNeg, Int.reduceLE, appendP, appendAt, letGo, setLoc, locVal, Int.reduceToNat, boxCells, und, TG, SE, SC, List.getElem?_cons_zero, List.getElem?_cons_succ, unP, htu, htr, hky, hev1, htg, hsp, hrl, loadR, loadP, lay, List.take_succ_cons, List.take_zero, List.drop_nil, List.filter_nil, List.cons_append, Int.reduceBEq, Int.reduceBNe, Int.reduceGT, Int.reduceLT, Int.reduceGE, Bool.not_true, Bool.not_false, osp, v1, v2, v3, v4, v5, a1, a2, hn, c1, c2]
        exact ⟨_, rfl⟩
      | true =>
        cases p3 with
        | false =>
          rw [if_neg (by omega), if_neg (by simp), if_neg (by omega), if_pos rfl, if_neg (by simp), if_neg (by simp)]
          obtain ⟨ev, eo, so, co, ⟨hev, hco⟩, R⟩ := RULES CC; rw [← hev]
          rw [← hco] at osp v1 v2 v3 v4 v5 a1 a2
          simp only [fpart, part', Tryz.f34, Option.getD]
          simp (maxSteps := 5000000) only [SA, SB, SD, R, guardAt, binP, intP, indexAddrP, elemsOf, readCells, lenP, lenAt, resultsP, resultP, oneOr, reduceCtorEq, reduceIte, Nat.reduceEqDiff, Nat.reduceAdd, Nat.zero_add, Nat.reduceMul, Nat.reduceLT, Nat.reduceLeDiff, Int.reduceLT, Int.reduceNeg, Int.reduceLE, appendP, appendAt, letGo, setLoc, locVal, Int.reduceToNat, boxCells, und, TG, SE, SC, List.getElem?_cons_zero, List.getElem?_cons_succ, unP, htu, htr, hky, hev1, htg, hsp, hrl, loadR, loadP, lay, List.take_succ_cons, List.take_zero, List.drop_nil, List.filter_nil, List.cons_append, Int.reduceBEq, Int.reduceBNe, Int.reduceGT, Int.reduceLT, Int.reduceGE, Bool.not_true, Bool.not_false, osp, v1, v2, v3, v4, v5, a1, a2, hn, c1, c2]
          exact ⟨_, rfl⟩
        | true =>
          cases p4 with
          | false =>
            rw [if_neg (by omega), if_neg (by simp), if_neg (by omega), if_pos rfl, if_neg (by simp), if_neg (by simp)]
            obtain ⟨ev, eo, so, co, ⟨hev, hco⟩, R⟩ := RULES CC; rw [← hev]
            rw [← hco] at osp v1 v2 v3 v4 v5 a1 a2
            simp only [fpart, part', Tryz.f34, Option.getD]
            simp (maxSteps := 5000000) only [SA, SB, SD, R, guardAt, binP, intP, indexAddrP, elemsOf, readCells, lenP, lenAt, resultsP, resultP, oneOr, reduceCtorEq, reduceIte, Nat.reduceEqDiff, Nat.reduceAdd, Nat.zero_add, Nat.reduceMul, Nat.reduceLT, Nat.reduceLeDiff, Int.reduceLT, Int.reduceNeg, Int.reduceLE, appendP, appendAt, letGo, setLoc, locVal, Int.reduceToNat, boxCells, und, TG, SE, SC, List.getElem?_cons_zero, List.getElem?_cons_succ, unP, htu, htr, hky, hev1, htg, hsp, hrl, loadR, loadP, lay, List.take_succ_cons, List.take_zero, List.drop_nil, List.filter_nil, List.cons_append, Int.reduceBEq, Int.reduceBNe, Int.reduceGT, Int.reduceLT, Int.reduceGE, Bool.not_true, Bool.not_false, osp, v1, v2, v3, v4, v5, a1, a2, hn, c1, c2]
            exact ⟨_, rfl⟩
          | true =>
            rw [if_neg (by omega), if_neg (by simp), if_neg (by omega), if_pos rfl, if_neg (by simp), if_pos (by simp)]
            obtain ⟨ev, eo, so, co, ⟨hev, hco⟩, R⟩ := RULES CC; rw [← hev]
            rw [← hco] at osp v1 v2 v3 v4 v5 a1 a2
            simp only [fpart, part', Tryz.f34, Option.getD]
            simp (maxSteps := 5000000) only [SA, SB, SD, R, guardAt, binP, intP, indexAddrP, elemsOf, readCells, lenP, lenAt, resultsP, resultP, oneOr, reduceCtorEq, reduceIte, Nat.reduceEqDiff, Nat.reduceAdd, Nat.zero_add, Nat.reduceMul, Nat.reduceLT, Nat.reduceLeDiff, Int.reduceLT, Int.reduceNeg, Int.reduceLE, appendP, appendAt, letGo, setLoc, locVal, Int.reduceToNat, boxCells, und, TG, SE, SC, List.getElem?_cons_zero, List.getElem?_cons_succ, unP, htu, htr, hky, hev1, htg, hsp, hrl, loadR, loadP, lay, List.take_succ_cons, List.take_zero, List.drop_nil, List.filter_nil, List.cons_append, Int.reduceBEq, Int.reduceBNe, Int.reduceGT, Int.reduceLT, Int.reduceGE, Bool.not_true, Bool.not_false, osp, v1, v2, v3, v4, v5, a1, a2, hn, c1, c2]
            exact ⟨_, rfl⟩
    by_cases k3 : k = 3
    · subst k3
      by_cases e0 : n < 0
      · rw [if_neg (by omega), if_neg (by simp), if_neg (by omega), if_neg (by omega), if_pos rfl, if_neg (by omega)]
        obtain ⟨ev, eo, so, co, ⟨hev, hco⟩, R⟩ := RULES CC; rw [← hev]
        rw [← hco] at osp v1 v2 v3 v4 v5 a1 a2
        simp only [fpart, part', Tryz.f34, Option.getD]
        simp (maxSteps := 5000000) only [SA, SB, SD, R, guardAt, binP, intP, indexAddrP, elemsOf, readCells, lenP, lenAt, resultsP, resultP, oneOr, reduceCtorEq, reduceIte, Nat.reduceEqDiff, Nat.reduceAdd, Nat.zero_add, Nat.reduceMul, Nat.reduceLT, Nat.reduceLeDiff, Int.reduceLT, Int.reduceNeg, Int.reduceLE, appendP, appendAt, letGo, setLoc, locVal, Int.reduceToNat, boxCells, und, TG, SE, SC, List.getElem?_cons_zero, List.getElem?_cons_succ, unP, htu, htr, hky, hev1, htg, hsp, hrl, loadR, loadP, lay, List.take_succ_cons, List.take_zero, List.drop_nil, List.filter_nil, List.cons_append, Int.reduceBEq, Int.reduceBNe, Int.reduceGT, Int.reduceLT, Int.reduceGE, Bool.not_true, Bool.not_false, osp, v1, v2, v3, v4, v5, a1, a2, hn, c1, c2, e0]
        exact ⟨_, rfl⟩
      by_cases e1 : n ≥ 1440
      · rw [if_neg (by omega), if_neg (by simp), if_neg (by omega), if_neg (by omega), if_pos rfl, if_neg (by omega)]
        obtain ⟨ev, eo, so, co, ⟨hev, hco⟩, R⟩ := RULES CC; rw [← hev]
        rw [← hco] at osp v1 v2 v3 v4 v5 a1 a2
        simp only [fpart, part', Tryz.f34, Option.getD]
        simp (maxSteps := 5000000) only [SA, SB, SD, R, guardAt, binP, intP, indexAddrP, elemsOf, readCells, lenP, lenAt, resultsP, resultP, oneOr, reduceCtorEq, reduceIte, Nat.reduceEqDiff, Nat.reduceAdd, Nat.zero_add, Nat.reduceMul, Nat.reduceLT, Nat.reduceLeDiff, Int.reduceLT, Int.reduceNeg, Int.reduceLE, appendP, appendAt, letGo, setLoc, locVal, Int.reduceToNat, boxCells, und, TG, SE, SC, List.getElem?_cons_zero, List.getElem?_cons_succ, unP, htu, htr, hky, hev1, htg, hsp, hrl, loadR, loadP, lay, List.take_succ_cons, List.take_zero, List.drop_nil, List.filter_nil, List.cons_append, Int.reduceBEq, Int.reduceBNe, Int.reduceGT, Int.reduceLT, Int.reduceGE, Bool.not_true, Bool.not_false, osp, v1, v2, v3, v4, v5, a1, a2, hn, c1, c2, e0, e1]
        exact ⟨_, rfl⟩
      by_cases e2 : m < 1
      · rw [if_neg (by omega), if_neg (by simp), if_neg (by omega), if_neg (by omega), if_pos rfl, if_neg (by omega)]
        obtain ⟨ev, eo, so, co, ⟨hev, hco⟩, R⟩ := RULES CC; rw [← hev]
        rw [← hco] at osp v1 v2 v3 v4 v5 a1 a2
        simp only [fpart, part', Tryz.f34, Option.getD]
        simp (maxSteps := 5000000) only [SA, SB, SD, R, guardAt, binP, intP, indexAddrP, elemsOf, readCells, lenP, lenAt, resultsP, resultP, oneOr, reduceCtorEq, reduceIte, Nat.reduceEqDiff, Nat.reduceAdd, Nat.zero_add, Nat.reduceMul, Nat.reduceLT, Nat.reduceLeDiff, Int.reduceLT, Int.reduceNeg, Int.reduceLE, appendP, appendAt, letGo, setLoc, locVal, Int.reduceToNat, boxCells, und, TG, SE, SC, List.getElem?_cons_zero, List.getElem?_cons_succ, unP, htu, htr, hky, hev1, htg, hsp, hrl, loadR, loadP, lay, List.take_succ_cons, List.take_zero, List.drop_nil, List.filter_nil, List.cons_append, Int.reduceBEq, Int.reduceBNe, Int.reduceGT, Int.reduceLT, Int.reduceGE, Bool.not_true, Bool.not_false, osp, v1, v2, v3, v4, v5, a1, a2, hn, c1, c2, e0, e1, e2]
        exact ⟨_, rfl⟩
      by_cases e3 : m > 127
      · rw [if_neg (by omega), if_neg (by simp), if_neg (by omega), if_neg (by omega), if_pos rfl, if_neg (by omega)]
        obtain ⟨ev, eo, so, co, ⟨hev, hco⟩, R⟩ := RULES CC; rw [← hev]
        rw [← hco] at osp v1 v2 v3 v4 v5 a1 a2
        simp only [fpart, part', Tryz.f34, Option.getD]
        simp (maxSteps := 5000000) only [SA, SB, SD, R, guardAt, binP, intP, indexAddrP, elemsOf, readCells, lenP, lenAt, resultsP, resultP, oneOr, reduceCtorEq, reduceIte, Nat.reduceEqDiff, Nat.reduceAdd, Nat.zero_add, Nat.reduceMul, Nat.reduceLT, Nat.reduceLeDiff, Int.reduceLT, Int.reduceNeg, Int.reduceLE, appendP, appendAt, letGo, setLoc, locVal, Int.reduceToNat, boxCells, und, TG, SE, SC, List.getElem?_cons_zero, List.getElem?_cons_succ, unP, htu, htr, hky, hev1, htg, hsp, hrl, loadR, loadP, lay, List.take_succ_cons, List.take_zero, List.drop_nil, List.filter_nil, List.cons_append, Int.reduceBEq, Int.reduceBNe, Int.reduceGT, Int.reduceLT, Int.reduceGE, Bool.not_true, Bool.not_false, osp, v1, v2, v3, v4, v5, a1, a2, hn, c1, c2, e0, e1, e2, e3]
        exact ⟨_, rfl⟩
      rw [if_neg (by omega), if_neg (by simp), if_neg (by omega), if_neg (by omega), if_pos rfl, if_pos (by omega)]
      obtain ⟨ev, eo, so, co, ⟨hev, hco⟩, R⟩ := RULES CC; rw [← hev]
      rw [← hco] at osp v1 v2 v3 v4 v5 a1 a2
      simp only [fpart, part', Tryz.f34, Option.getD]
      simp (maxSteps := 5000000) only [SA, SB, SD, R, guardAt, binP, intP, indexAddrP, elemsOf, readCells, lenP, lenAt, resultsP, resultP, oneOr, reduceCtorEq, reduceIte, Nat.reduceEqDiff, Nat.reduceAdd, Nat.zero_add, Nat.reduceMul, Nat.reduceLT, Nat.reduceLeDiff, Int.reduceLT, Int.reduceNeg, Int.reduceLE, appendP, appendAt, letGo, setLoc, locVal, Int.reduceToNat, boxCells, und, TG, SE, SC, List.getElem?_cons_zero, List.getElem?_cons_succ, unP, htu, htr, hky, hev1, htg, hsp, hrl, loadR, loadP, lay, List.take_succ_cons, List.take_zero, List.drop_nil, List.filter_nil, List.cons_append, Int.reduceBEq, Int.reduceBNe, Int.reduceGT, Int.reduceLT, Int.reduceGE, Bool.not_true, Bool.not_false, osp, v1, v2, v3, v4, v5, a1, a2, hn, c1, c2, e0, e1, e2, e3]
      exact ⟨_, rfl⟩
    by_cases k4 : k = 4
    · subst k4
      cases ne with
      | true =>
        rw [if_neg (by omega), if_neg (by simp), if_neg (by omega), if_neg (by omega), if_neg (by omega), if_pos rfl, if_pos (.inl (hne'.2 rfl))]
        obtain ⟨ev, eo, so, co, ⟨hev, hco⟩, R⟩ := RULES CC; rw [← hev]
        rw [← hco] at osp v1 v2 v3 v4 v5 a1 a2
        simp only [fpart, part', Tryz.f34, Option.getD]
        simp (maxSteps := 5000000) only [SA, SB, SD, R, guardAt, binP, intP, indexAddrP, elemsOf, readCells, lenP, lenAt, resultsP, resultP, oneOr, reduceCtorEq, reduceIte, Nat.reduceEqDiff, Nat.reduceAdd, Nat.zero_add, Nat.reduceMul, Nat.reduceLT, Nat.reduceLeDiff, Int.reduceLT, Int.reduceNeg, Int.reduceLE, appendP, appendAt, letGo, setLoc, locVal, Int.reduceToNat, boxCells, und, TG, SE, SC, List.getElem?_cons_zero, List.getElem?_cons_succ, unP, htu, htr, hky, hev1, htg, hsp, hrl, loadR, loadP, lay, List.take_succ_cons, List.take_zero, List.drop_nil, List.filter_nil, List.cons_append, Int.reduceBEq, Int.reduceBNe, Int.reduceGT, Int.reduceLT, Int.reduceGE, Bool.not_true, Bool.not_false, osp, v1, v2, v3, v4, v5, a1, a2, hn, c1, c2]
        exact ⟨_, rfl⟩
      | false =>
        cases p5 with
        | true =>
          rw [if_neg (by omega), if_neg (by simp), if_neg (by omega), if_neg (by omega), if_neg (by omega), if_pos rfl, if_pos (.inr rfl)]
          obtain ⟨ev, eo, so, co, ⟨hev, hco⟩, R⟩ := RULES CC; rw [← hev]
          rw [← hco] at osp v1 v2 v3 v4 v5 a1 a2
          simp only [fpart, part', Tryz.f34, Option.getD]
          simp (maxSteps := 5000000) only [SA, SB, SD, R, guardAt, binP, intP, indexAddrP, elemsOf, readCells, lenP, lenAt, resultsP, resultP, oneOr, reduceCtorEq, reduceIte, Nat.reduceEqDiff, Nat.reduceAdd, Nat.zero_add, Nat.reduceMul, Nat.reduceLT, Nat.reduceLeDiff, Int.reduceLT, Int.reduceNeg, Int.reduceLE, appendP, appendAt, letGo, setLoc, locVal, Int.reduceToNat, boxCells, und, TG, SE, SC, List.getElem?_cons_zero, List.getElem?_cons_succ, unP, htu, htr, hky, hev1, htg, hsp, hrl, loadR, loadP, lay, List.take_succ_cons, List.take_zero, List.drop_nil, List.filter_nil, List.cons_append, Int.reduceBEq, Int.reduceBNe, Int.reduceGT, Int.reduceLT, Int.reduceGE, Bool.not_true, Bool.not_false, osp, v1, v2, v3, v4, v5, a1, a2, hn, c1, c2]
          exact ⟨_, rfl⟩
        | false =>
          rw [if_neg (by omega), if_neg (by simp), if_neg (by omega), if_neg (by omega), if_neg (by omega), if_pos rfl, if_neg (by rw [hne']; simp)]
          obtain ⟨ev, eo, so, co, ⟨hev, hco⟩, R⟩ := RULES CC; rw [← hev]
          rw [← hco] at osp v1 v2 v3 v4 v5 a1 a2
          simp only [fpart, part', Tryz.f34, Option.getD]
          simp (maxSteps := 5000000) only [SA, SB, SD, R, guardAt, binP, intP, indexAddrP, elemsOf, readCells, lenP, lenAt, resultsP, resultP, oneOr, reduceCtorEq, reduceIte, Nat.reduceEqDiff, Nat.reduceAdd, Nat.zero_add, Nat.reduceMul, Nat.reduceLT, Nat.reduceLeDiff, Int.reduceLT, Int.reduceNeg, Int.reduceLE, appendP, appendAt, letGo, setLoc, locVal, Int.reduceToNat, boxCells, und, TG, SE, SC, List.getElem?_cons_zero, List.getElem?_cons_succ, unP, htu, htr, hky, hev1, htg, hsp, hrl, loadR, loadP, lay, List.take_succ_cons, List.take_zero, List.drop_nil, List.filter_nil, List.cons_append, Int.reduceBEq, Int.reduceBNe, Int.reduceGT, Int.reduceLT, Int.reduceGE, Bool.not_true, Bool.not_false, osp, v1, v2, v3, v4, v5, a1, a2, hn, c1, c2]
          exact ⟨_, rfl⟩
    by_cases k6 : k = 6
    · subst k6
      by_cases e0 : n < 0
      · rw [if_neg (by omega), if_neg (by simp), if_neg (by omega), if_neg (by omega), if_neg (by omega), if_neg (by omega), if_pos rfl, if_neg (by omega)]
        obtain ⟨ev, eo, so, co, ⟨hev, hco⟩, R⟩ := RULES CC; rw [← hev]
        rw [← hco] at osp v1 v2 v3 v4 v5 a1 a2
        simp only [fpart, part', Tryz.f34, Option.getD]
        simp (maxSteps := 5000000) only [SA, SB, SD, R, guardAt, binP, intP, indexAddrP, elemsOf, readCells, lenP, lenAt, resultsP, resultP, oneOr, reduceCtorEq, reduceIte, Nat.reduceEqDiff, Nat.reduceAdd, Nat.zero_add, Nat.reduceMul, Nat.reduceLT, Nat.reduceLeDiff, Int.reduceLT, Int.reduceNeg, Int.reduceLE, appendP, appendAt, letGo, setLoc, locVal, Int.reduceToNat, boxCells, und, TG, SE, SC, List.getElem?_cons_zero, List.getElem?_cons_succ, unP, htu, htr, hky, hev1, htg, hsp, hrl, loadR, loadP, lay, List.take_succ_cons, List.take_zero, List.drop_nil, List.filter_nil, List.cons_append, Int.reduceBEq, Int.reduceBNe, Int.reduceGT, Int.reduceLT, Int.reduceGE, Bool.not_true, Bool.not_false, osp, v1, v2, v3, v4, v5, a1, a2, hn, c1, c2, e0]
        exact ⟨_, rfl⟩
      by_cases e1 : n > 1099511627776
      · rw [if_neg (by omega), if_neg (by simp), if_neg (by omega), if_neg (by omega), if_neg (by omega), if_neg (by omega), if_pos rfl, if_neg (by omega)]
        obtain ⟨ev, eo, so, co, ⟨hev, hco⟩, R⟩ := RULES CC; rw [← hev]
        rw [← hco] at osp v1 v2 v3 v4 v5 a1 a2
        simp only [fpart, part', Tryz.f34, Option.getD]
        simp (maxSteps := 5000000) only [SA, SB, SD, R, guardAt, binP, intP, indexAddrP, elemsOf, readCells, lenP, lenAt, resultsP, resultP, oneOr, reduceCtorEq, reduceIte, Nat.reduceEqDiff, Nat.reduceAdd, Nat.zero_add, Nat.reduceMul, Nat.reduceLT, Nat.reduceLeDiff, Int.reduceLT, Int.reduceNeg, Int.reduceLE, appendP, appendAt, letGo, setLoc, locVal, Int.reduceToNat, boxCells, und, TG, SE, SC, List.getElem?_cons_zero, List.getElem?_cons_succ, unP, htu, htr, hky, hev1, htg, hsp, hrl, loadR, loadP, lay, List.take_succ_cons, List.take_zero, List.drop_nil, List.filter_nil, List.cons_append, Int.reduceBEq, Int.reduceBNe, Int.reduceGT, Int.reduceLT, Int.reduceGE, Bool.not_true, Bool.not_false, osp, v1, v2, v3, v4, v5, a1, a2, hn, c1, c2, e0, e1]
        exact ⟨_, rfl⟩
      rw [if_neg (by omega), if_neg (by simp), if_neg (by omega), if_neg (by omega), if_neg (by omega), if_neg (by omega), if_pos rfl, if_pos (by omega)]
      obtain ⟨ev, eo, so, co, ⟨hev, hco⟩, R⟩ := RULES CC; rw [← hev]
      rw [← hco] at osp v1 v2 v3 v4 v5 a1 a2
      simp only [fpart, part', Tryz.f34, Option.getD]
      simp (maxSteps := 5000000) only [SA, SB, SD, R, guardAt, binP, intP, indexAddrP, elemsOf, readCells, lenP, lenAt, resultsP, resultP, oneOr, reduceCtorEq, reduceIte, Nat.reduceEqDiff, Nat.reduceAdd, Nat.zero_add, Nat.reduceMul, Nat.reduceLT, Nat.reduceLeDiff, Int.reduceLT, Int.reduceNeg, Int.reduceLE, appendP, appendAt, letGo, setLoc, locVal, Int.reduceToNat, boxCells, und, TG, SE, SC, List.getElem?_cons_zero, List.getElem?_cons_succ, unP, htu, htr, hky, hev1, htg, hsp, hrl, loadR, loadP, lay, List.take_succ_cons, List.take_zero, List.drop_nil, List.filter_nil, List.cons_append, Int.reduceBEq, Int.reduceBNe, Int.reduceGT, Int.reduceLT, Int.reduceGE, Bool.not_true, Bool.not_false, osp, v1, v2, v3, v4, v5, a1, a2, hn, c1, c2, e0, e1]
      exact ⟨_, rfl⟩
    have k5 : k = 5 := by omega
    subst k5
    rw [if_neg (by omega), if_neg (by simp), if_neg (by omega), if_neg (by omega), if_neg (by omega), if_neg (by omega), if_neg (by omega)]
    obtain ⟨ev, eo, so, co, ⟨hev, hco⟩, R⟩ := RULES CC; rw [← hev]
    rw [← hco] at osp v1 v2 v3 v4 v5 a1 a2
    simp only [fpart, part', Tryz.f34, Option.getD]
    simp (maxSteps := 5000000) only [SA, SB, SD, R, guardAt, binP, intP, indexAddrP, elemsOf, readCells, lenP, lenAt, resultsP, resultP, oneOr, reduceCtorEq, reduceIte, Nat.reduceEqDiff, Nat.reduceAdd, Nat.zero_add, Nat.reduceMul, Nat.reduceLT, Nat.reduceLeDiff, Int.reduceLT, Int.reduceNeg, Int.reduceLE, appendP, appendAt, letGo, setLoc, locVal, Int.reduceToNat, boxCells, und, TG, SE, SC, List.getElem?_cons_zero, List.getElem?_cons_succ, unP, htu, htr, hky, hev1, htg, hsp, hrl, loadR, loadP, lay, List.take_succ_cons, List.take_zero, List.drop_nil, List.filter_nil, List.cons_append, Int.reduceBEq, Int.reduceBNe, Int.reduceGT, Int.reduceLT, Int.reduceGE, Bool.not_true, Bool.not_false, osp, v1, v2, v3, v4, v5, a1, a2, hn, c1, c2]
    exact ⟨_, rfl⟩
theorem op_R30_Trigger (t : Tg) (hp : plTg t = true) (bx) : callOp CC (callL CC) 34 [tgV t] bx = some (.ret (.int .i64 (tgE t)), bx) := by
  obtain ⟨b, h⟩ := call_R30_Trigger t hp
  exact callOp_of rfl (by simp only [pureL_cons, tgV_pure, pureL_nil, Bool.and_self]) h rfl
set_option maxHeartbeats 4000000
theorem ok_print_step : fnOK CC Tryz.f32 (Tryz.f32.body.getD .skip) = true := by kernel_rfl
theorem fat_print_step : CC.P.funcs[32]? = some Tryz.f32 := by kernel_rfl
/-- what is said of a step -/
def spE (s : Sp) : Int :=
  if s.k = 1 then (if s.nm ≠ [] then 1 else if nmE s.key.1 s.key.2.1 s.key.2.2 ≠ 0 then nmE s.key.1 s.key.2.1 s.key.2.2 else ckT s.ex)
  else if s.k = 2 then (if s.key.2.2 ≠ [] then 1 else if nmE s.key.1 s.key.2.1 s.nm ≠ 0 then nmE s.key.1 s.key.2.1 s.nm else if nnB s.ex = true then 0 else ckT s.ex)
  else if s.k = 3 ∨ s.k = 4 ∨ s.k = 5 then (if eqKy s.key (0, [], []) = false ∨ nnB s.ex = false then 1 else if s.k = 5 then (if 60 < s.nm.length then 3 else 0) else if valB s.nm = true then 0 else 10)
  else 7
theorem plSp_len {s : Sp} (h : plSp s = true) : s.nm.length ≤ 100 ∧ s.key.2.1.length ≤ 100 ∧ s.key.2.2.length ≤ 100 ∧ 0 ≤ mdT s.ex 220 30 := of_decide_eq_true h
theorem call_print_step (s : Sp) (hp : plSp s = true) : ∃ bx, callL CC 32 [spV s] [] = some (.ret (.int .i64 (spE s)), bx) := by
  have hl := plSp_len hp
  unfold spE
  obtain ⟨k, key, nm, ex⟩ := s
  obtain ⟨d, c, a⟩ := key
  obtain ⟨l1, l2, l3, l4⟩ := hl
  simp only at l1 l2 l3 l4 ⊢
  have onn := op_print_none ex
  have ock := op_expr_Check ex (sh_md ex 220 30 l4)
  have on1 := op_print_named d c a (by omega) (by omega)
  have on2 := op_print_named d c nm (by omega) (by omega)
  have ova := op_names_Valid nm (by omega)
  have hlen := len_str nm
  have hsn : strP .neq nm [] = some (.bool (!(nm == []))) := rfl
  have hsa : strP .neq a [] = some (.bool (!(a == []))) := rfl
  have heq : eqP CC 100 26 (.agg [.int .i64 d, .str c, .str a]) (.agg [.int .i64 0, .str [], .str []]) = some (eqKy (d, c, a) (0, [], [])) := by rw [eqKP]; rfl
  generalize eqKy (d, c, a) (0, [], []) = kz at *
  generalize nnB ex = nn at *
  generalize ckT ex = ck at *
  generalize nmE d c a = e1 at *
  generalize nmE d c nm = e2 at *
  generalize valB nm = va at *
  unfold spV trC
  obtain ⟨zk, zn, zm, znm, zv, zkey, zkids⟩ := ex
  unfold trV at onn ock ⊢
  generalize trVs zkids = zs at *
  simp only [SA, List.cons_append, List.nil_append] at onn ock ⊢
  rw [callL_enter (fn := Tryz.f32) (c := Tryz.f32.body.getD .skip) rfl rfl fat_print_step rfl ok_print_step (Nat.le_of_ble_eq_true rfl)]
  obtain ⟨tu, htu⟩ := VLs
  obtain ⟨tr, htr⟩ := TRs
  obtain ⟨tk, hky⟩ := KYs
  obtain ⟨te, hev1⟩ := EVs
  obtain ⟨tg, htg⟩ := TG_s
  obtain ⟨tp, hsp⟩ := SPs
  obtain ⟨tl, hrl⟩ := RLs
  by_cases k1 : k = 1
  · subst k1
    rw [if_pos rfl]
    by_cases z1 : nm = []
    · have hb : (nm == []) = true := by rw [z1]; rfl
      rw [hb] at hsn
      rw [if_neg (fun h => h z1)]
      by_cases z2 : e1 = 0
      · subst z2
        rw [if_neg (fun h => h rfl)]
        obtain ⟨ev, eo, so, co, ⟨hev, hco⟩, R⟩ := RULES CC; rw [← hev]
        rw [← hco] at onn ock on1 on2 ova
        simp only [fpart, part', Tryz.f32, Option.getD]
        simp (maxSteps := 5000000) only [SA, SB, SD, R, guardAt, binP, intP, indexAddrP, elemsOf, readCells, lenP, lenAt, resultsP, resultP, oneOr, reduceCtorEq, reduceIte, Nat.reduceEqDiff, Nat.reduceAdd, Nat.zero_add, Nat.reduceMul, Nat.reduceLT, Nat.reduceLeDiff, Int.reduceLT, Int.reduceNeg, Int.reduceLE, appendP, appendAt, letGo, setLoc, locVal, Int.reduceToNat, boxCells, und, TG, SE, SC, List.getElem?_cons_zero, List.getElem?_cons_succ, eqgK, buildKy0, unP, htu, htr, hky, hev1, htg, hsp, hrl, loadR, loadP, lay, List.take_succ_cons, List.take_zero, List.drop_nil, List.filter_nil, List.cons_append, Int.reduceBEq, Int.reduceBNe, Int.reduceGT, Int.reduceLT, Int.reduceGE, Bool.not_true, Bool.not_false, onn, ock, on1, on2, ova, hlen, heq, hsn]
        exact ⟨_, rfl⟩
      · have z2p : (e1 != 0) = true := by simpa using z2
        rw [if_pos z2]
        obtain ⟨ev, eo, so, co, ⟨hev, hco⟩, R⟩ := RULES CC; rw [← hev]
        rw [← hco] at onn ock on1 on2 ova
        simp only [fpart, part', Tryz.f32, Option.getD]
        simp (maxSteps := 5000000) only [SA, SB, SD, R, guardAt, binP, intP, indexAddrP, elemsOf, readCells, lenP, lenAt, resultsP, resultP, oneOr, reduceCtorEq, reduceIte, Nat.reduceEqDiff, Nat.reduceAdd, Nat.zero_add, Nat.reduceMul, Nat.reduceLT, Nat.reduceLeDiff, Int.reduceLT, Int.reduceNeg, Int.reduceLE, appendP, appendAt, letGo, setLoc, locVal, Int.reduceToNat, boxCells, und, TG, SE, SC, List.getElem?_cons_zero, List.getElem?_cons_succ, eqgK, buildKy0, unP, htu, htr, hky, hev1, htg, hsp, hrl, loadR, loadP, lay, List.take_succ_cons, List.take_zero, List.drop_nil, List.filter_nil, List.cons_append, Int.reduceBEq, Int.reduceBNe, Int.reduceGT, Int.reduceLT, Int.reduceGE, Bool.not_true, Bool.not_false, onn, ock, on1, on2, ova, hlen, heq, hsn, z2p]
        exact ⟨_, rfl⟩
    · have hb : (nm == []) = false := by simpa using z1
      rw [hb] at hsn
      rw [if_pos z1]
      obtain ⟨ev, eo, so, co, ⟨hev, hco⟩, R⟩ := RULES CC; rw [← hev]
      rw [← hco] at onn ock on1 on2 ova
      simp only [fpart, part', Tryz.f32, Option.getD]
      simp (maxSteps := 5000000) only [SA, SB, SD, R, guardAt, binP, intP, indexAddrP, elemsOf, readCells, lenP, lenAt, resultsP, resultP, oneOr, reduceCtorEq, reduceIte, Nat.reduceEqDiff, Nat.reduceAdd, Nat.zero_add, Nat.reduceMul, Nat.reduceLT, Nat.reduceLeDiff, Int.reduceLT, Int.reduceNeg, Int.reduceLE, appendP, appendAt, letGo, setLoc, locVal, Int.reduceToNat, boxCells, und, TG, SE, SC, List.getElem?_cons_zero, List.getElem?_cons_succ, eqgK, buildKy0, unP, htu, htr, hky, hev1, htg, hsp, hrl, loadR, loadP, lay, List.take_succ_cons, List.take_zero, List.drop_nil, List.filter_nil, List.cons_append, Int.reduceBEq, Int.reduceBNe, Int.reduceGT, Int.reduceLT, Int.reduceGE, Bool.not_true, Bool.not_false, onn, ock, on1, on2, ova, hlen, heq, hsn]
      exact ⟨_, rfl⟩
  rw [if_neg k1]
  have k1p : (k == 1) = false := by simpa using k1
  by_cases k2 : k = 2
  · subst k2
    rw [if_pos rfl]
    by_cases z1 : a = []
    · have hb : (a == []) = true := by rw [z1]; rfl
      rw [hb] at hsa
      rw [if_neg (fun h => h z1)]
      by_cases z2 : e2 = 0
      · subst z2
        rw [if_neg (fun h => h rfl)]
        cases nn with
        | true =>
          rw [if_pos rfl]
          obtain ⟨ev, eo, so, co, ⟨hev, hco⟩, R⟩ := RULES CC; rw [← hev]
          rw [← hco] at onn ock on1 on2 ova
          simp only [fpart, part', Tryz.f32, Option.getD]
          simp (maxSteps := 5000000) only [SA, SB, SD, R, guardAt, binP, intP, indexAddrP, elemsOf, readCells, lenP, lenAt, resultsP, resultP, oneOr, reduceCtorEq, reduceIte, Nat.reduceEqDiff, Nat.reduceAdd, Nat.zero_add, Nat.reduceMul, Nat.reduceLT, Nat.reduceLeDiff, Int.reduceLT, Int.reduceNeg, Int.reduceLE, appendP, appendAt, letGo, setLoc, locVal, Int.reduceToNat, boxCells, und, TG, SE, SC, List.getElem?_cons_zero, List.getElem?_cons_succ, eqgK, buildKy0, unP, htu, htr, hky, hev1, htg, hsp, hrl, loadR, loadP, lay, List.take_succ_cons, List.take_zero, List.drop_nil, List.filter_nil, List.cons_append, Int.reduceBEq, Int.reduceBNe, Int.reduceGT, Int.reduceLT, Int.reduceGE, Bool.not_true, Bool.not_false, onn, ock, on1, on2, ova, hlen, heq, hsa]
          exact ⟨_, rfl⟩
        | false =>
          rw [if_neg (by simp)]
          obtain ⟨ev, eo, so, co, ⟨hev, hco⟩, R⟩ := RULES CC; rw [← hev]
          rw [← hco] at onn ock on1 on2 ova
          simp only [fpart, part', Tryz.f32, Option.getD]
          simp (maxSteps := 5000000) only [SA, SB, SD, R, guardAt, binP, intP, indexAddrP, elemsOf, readCells, lenP, lenAt, resultsP, resultP, oneOr, reduceCtorEq, reduceIte, Nat.reduceEqDiff, Nat.reduceAdd, Nat.zero_add, Nat.reduceMul, Nat.reduceLT, Nat.reduceLeDiff, Int.reduceLT, Int.reduceNeg, Int.reduceLE, appendP, appendAt, letGo, setLoc, locVal, Int.reduceToNat, boxCells, und, TG, SE, SC, List.getElem?_cons_zero, List.getElem?_cons_succ, eqgK, buildKy0, unP, htu, htr, hky, hev1, htg, hsp, hrl, loadR, loadP, lay, List.take_succ_cons, List.take_zero, List.drop_nil, List.filter_nil, List.cons_append, Int.reduceBEq, Int.reduceBNe, Int.reduceGT, Int.reduceLT, Int.reduceGE, Bool.not_true, Bool.not_false, onn, ock, on1, on2, ova, hlen, heq, hsa]
          exact ⟨_, rfl⟩
      · have z2p : (e2 != 0) = true := by simpa using z2
        rw [if_pos z2]
        obtain ⟨ev, eo, so, co, ⟨hev, hco⟩, R⟩ := RULES CC; rw [← hev]
        rw [← hco] at onn ock on1 on2 ova
        simp only [fpart, part', Tryz.f32, Option.getD]
        simp (maxSteps := 5000000) only [SA, SB, SD, R, guardAt, binP, intP, indexAddrP, elemsOf, readCells, lenP, lenAt, resultsP, resultP, oneOr, reduceCtorEq, reduceIte, Nat.reduceEqDiff, Nat.reduceAdd, Nat.zero_add, Nat.reduceMul, Nat.reduceLT, Nat.reduceLeDiff, Int.reduceLT, Int.reduceNeg, Int.reduceLE, appendP, appendAt, letGo, setLoc, locVal, Int.reduceToNat, boxCells, und, TG, SE, SC, List.getElem?_cons_zero, List.getElem?_cons_succ, eqgK, buildKy0, unP, htu, htr, hky, hev1, htg, hsp, hrl, loadR, loadP, lay, List.take_succ_cons, List.take_zero, List.drop_nil, List.filter_nil, List.cons_append, Int.reduceBEq, Int.reduceBNe, Int.reduceGT, Int.reduceLT, Int.reduceGE, Bool.not_true, Bool.not_false, onn, ock, on1, on2, ova, hlen, heq, hsa, z2p]
        exact ⟨_, rfl⟩
    · have hb : (a == []) = false := by simpa using z1
      rw [hb] at hsa
      rw [if_pos z1]
      obtain ⟨ev, eo, so, co, ⟨hev, hco⟩, R⟩ := RULES CC; rw [← hev]
      rw [← hco] at onn ock on1 on2 ova
      simp only [fpart, part', Tryz.f32, Option.getD]
      simp (maxSteps := 5000000) only [SA, SB, SD, R, guardAt, binP, intP, indexAddrP, elemsOf, readCells, lenP, lenAt, resultsP, resultP, oneOr, reduceCtorEq, reduceIte, Nat.reduceEqDiff, Nat.reduceAdd, Nat.zero_add, Nat.reduceMul, Nat.reduceLT, Nat.reduceLeDiff, Int.reduceLT, Int.reduceNeg, Int.reduceLE, appendP, appendAt, letGo, setLoc, locVal, Int.reduceToNat, boxCells, und, TG, SE, SC, List.getElem?_cons_zero, List.getElem?_cons_succ, eqgK, buildKy0, unP, htu, htr, hky, hev1, htg, hsp, hrl, loadR, loadP, lay, List.take_succ_cons, List.take_zero, List.drop_nil, List.filter_nil, List.cons_append, Int.reduceBEq, Int.reduceBNe, Int.reduceGT, Int.reduceLT, Int.reduceGE, Bool.not_true, Bool.not_false, onn, ock, on1, on2, ova, hlen, heq, hsa]
      exact ⟨_, rfl⟩
  rw [if_neg k2]
  have k2p : (k == 2) = false := by simpa using k2
  by_cases k3 : k = 3
  · subst k3
    rw [if_pos (by omega)]
    cases kz with
    | false =>
      rw [if_pos (.inl rfl)]
      obtain ⟨ev, eo, so, co, ⟨hev, hco⟩, R⟩ := RULES CC; rw [← hev]
      rw [← hco] at onn ock on1 on2 ova
      simp only [fpart, part', Tryz.f32, Option.getD]
      simp (maxSteps := 5000000) only [SA, SB, SD, R, guardAt, binP, intP, indexAddrP, elemsOf, readCells, lenP, lenAt, resultsP, resultP, oneOr, reduceCtorEq, reduceIte, Nat.reduceEqDiff, Nat.reduceAdd, Nat.zero_add, Nat.reduceMul, Nat.reduceLT, Nat.reduceLeDiff, Int.reduceLT, Int.reduceNeg, Int.reduceLE, appendP, appendAt, letGo, setLoc, locVal, Int.reduceToNat, boxCells, und, TG, SE, SC, List.getElem?_cons_zero, List.getElem?_cons_succ, eqgK, buildKy0, unP, htu, htr, hky, hev1, htg, hsp, hrl, loadR, loadP, lay, List.take_succ_cons, List.take_zero, List.drop_nil, List.filter_nil, List.cons_append, Int.reduceBEq, Int.reduceBNe, Int.reduceGT, Int.reduceLT, Int.reduceGE, Bool.not_true, Bool.not_false, onn, ock, on1, on2, ova, hlen, heq, heq]
      exact ⟨_, rfl⟩
    | true =>
      cases nn with
      | false =>
        rw [if_pos (.inr rfl)]
        obtain ⟨ev, eo, so, co, ⟨hev, hco⟩, R⟩ := RULES CC; rw [← hev]
        rw [← hco] at onn ock on1 on2 ova
        simp only [fpart, part', Tryz.f32, Option.getD]
        simp (maxSteps := 5000000) only [SA, SB, SD, R, guardAt, binP, intP, indexAddrP, elemsOf, readCells, lenP, lenAt, resultsP, resultP, oneOr, reduceCtorEq, reduceIte, Nat.reduceEqDiff, Nat.reduceAdd, Nat.zero_add, Nat.reduceMul, Nat.reduceLT, Nat.reduceLeDiff, Int.reduceLT, Int.reduceNeg, Int.reduceLE, appendP, appendAt, letGo, setLoc, locVal, Int.reduceToNat, boxCells, und, TG, SE, SC, List.getElem?_cons_zero, List.getElem?_cons_succ, eqgK, buildKy0, unP, htu, htr, hky, hev1, htg, hsp, hrl, loadR, loadP, lay, List.take_succ_cons, List.take_zero, List.drop_nil, List.filter_nil, List.cons_append, Int.reduceBEq, Int.reduceBNe, Int.reduceGT, Int.reduceLT, Int.reduceGE, Bool.not_true, Bool.not_false, onn, ock, on1, on2, ova, hlen, heq, heq]
        exact ⟨_, rfl⟩
      | true =>
        rw [if_neg (by simp)]
        rw [if_neg (by omega)]
        cases va with
        | false =>
          rw [if_neg (by simp)]
          obtain ⟨ev, eo, so, co, ⟨hev, hco⟩, R⟩ := RULES CC; rw [← hev]
          rw [← hco] at onn ock on1 on2 ova
          simp only [fpart, part', Tryz.f32, Option.getD]
          simp (maxSteps := 5000000) only [SA, SB, SD, R, guardAt, binP, intP, indexAddrP, elemsOf, readCells, lenP, lenAt, resultsP, resultP, oneOr, reduceCtorEq, reduceIte, Nat.reduceEqDiff, Nat.reduceAdd, Nat.zero_add, Nat.reduceMul, Nat.reduceLT, Nat.reduceLeDiff, Int.reduceLT, Int.reduceNeg, Int.reduceLE, appendP, appendAt, letGo, setLoc, locVal, Int.reduceToNat, boxCells, und, TG, SE, SC, List.getElem?_cons_zero, List.getElem?_cons_succ, eqgK, buildKy0, unP, htu, htr, hky, hev1, htg, hsp, hrl, loadR, loadP, lay, List.take_succ_cons, List.take_zero, List.drop_nil, List.filter_nil, List.cons_append, Int.reduceBEq, Int.reduceBNe, Int.reduceGT, Int.reduceLT, Int.reduceGE, Bool.not_true, Bool.not_false, onn, ock, on1, on2, ova, hlen, heq, heq]
          exact ⟨_, rfl⟩
        | true =>
          rw [if_pos rfl]
          obtain ⟨ev, eo, so, co, ⟨hev, hco⟩, R⟩ := RULES CC; rw [← hev]
          rw [← hco] at onn ock on1 on2 ova
          simp only [fpart, part', Tryz.f32, Option.getD]
          simp (maxSteps := 5000000) only [SA, SB, SD, R, guardAt, binP, intP, indexAddrP, elemsOf, readCells, lenP, lenAt, resultsP, resultP, oneOr, reduceCtorEq, reduceIte, Nat.reduceEqDiff, Nat.reduceAdd, Nat.zero_add, Nat.reduceMul, Nat.reduceLT, Nat.reduceLeDiff, Int.reduceLT, Int.reduceNeg, Int.reduceLE, appendP, appendAt, letGo, setLoc, locVal, Int.reduceToNat, boxCells, und, TG, SE, SC, List.getElem?_cons_zero, List.getElem?_cons_succ, eqgK, buildKy0, unP, htu, htr, hky, hev1, htg, hsp, hrl, loadR, loadP, lay, List.take_succ_cons, List.take_zero, List.drop_nil, List.filter_nil, List.cons_append, Int.reduceBEq, Int.reduceBNe, Int.reduceGT, Int.reduceLT, Int.reduceGE, Bool.not_true, Bool.not_false, onn, ock, on1, on2, ova, hlen, heq, heq]
          exact ⟨_, rfl⟩
  have k3p : (k == 3) = false := by simpa using k3
  by_cases k4 : k = 4
  · subst k4
    rw [if_pos (by omega)]
    cases kz with
    | false =>
      rw [if_pos (.inl rfl)]
      obtain ⟨ev, eo, so, co, ⟨hev, hco⟩, R⟩ := RULES CC; rw [← hev]
      rw [← hco] at onn ock on1 on2 ova
      simp only [fpart, part', Tryz.f32, Option.getD]
      simp (maxSteps := 5000000) only [SA, SB, SD, R, guardAt, binP, intP, indexAddrP, elemsOf, readCells, lenP, lenAt, resultsP, resultP, oneOr, reduceCtorEq, reduceIte, Nat.reduceEqDiff, Nat.reduceAdd, Nat.zero_add, Nat.reduceMul, Nat.reduceLT, Nat.reduceLeDiff, Int.reduceLT, Int.reduceNeg, Int.reduceLE, appendP, appendAt, letGo, setLoc, locVal, Int.reduceToNat, boxCells, und, TG, SE, SC, List.getElem?_cons_zero, List.getElem?_cons_succ, eqgK, buildKy0, unP, htu, htr, hky, hev1, htg, hsp, hrl, loadR, loadP, lay, List.take_succ_cons, List.take_zero, List.drop_nil, List.filter_nil, List.cons_append, Int.reduceBEq, Int.reduceBNe, Int.reduceGT, Int.reduceLT, Int.reduceGE, Bool.not_true, Bool.not_false, onn, ock, on1, on2, ova, hlen, heq, heq]
      exact ⟨_, rfl⟩
    | true =>
      cases nn with
      | false =>
        rw [if_pos (.inr rfl)]
        obtain ⟨ev, eo, so, co, ⟨hev, hco⟩, R⟩ := RULES CC; rw [← hev]
        rw [← hco] at onn ock on1 on2 ova
        simp only [fpart, part', Tryz.f32, Option.getD]
        simp (maxSteps := 5000000) only [SA, SB, SD, R, guardAt, binP, intP, indexAddrP, elemsOf, readCells, lenP, lenAt, resultsP, resultP, oneOr, reduceCtorEq, reduceIte, Nat.reduceEqDiff, Nat.reduceAdd, Nat.zero_add, Nat.reduceMul, Nat.reduceLT, Nat.reduceLeDiff, Int.reduceLT, Int.reduceNeg, Int.reduceLE, appendP, appendAt, letGo, setLoc, locVal, Int.reduceToNat, boxCells, und, TG, SE, SC, List.getElem?_cons_zero, List.getElem?_cons_succ, eqgK, buildKy0, unP, htu, htr, hky, hev1, htg, hsp, hrl, loadR, loadP, lay, List.take_succ_cons, List.take_zero, List.drop_nil, List.filter_nil, List.cons_append, Int.reduceBEq, Int.reduceBNe, Int.reduceGT, Int.reduceLT, Int.reduceGE, Bool.not_true, Bool.not_false, onn, ock, on1, on2, ova, hlen, heq, heq]
        exact ⟨_, rfl⟩
      | true =>
        rw [if_neg (by simp)]
        rw [if_neg (by omega)]
        cases va with
        | false =>
          rw [if_neg (by simp)]
          obtain ⟨ev, eo, so, co, ⟨hev, hco⟩, R⟩ := RULES CC; rw [← hev]
          rw [← hco] at onn ock on1 on2 ova
          simp only [fpart, part', Tryz.f32, Option.getD]
          simp (maxSteps := 5000000) only [SA, SB, SD, R, guardAt, binP, intP, indexAddrP, elemsOf, readCells, lenP, lenAt, resultsP, resultP, oneOr, reduceCtorEq, reduceIte, Nat.reduceEqDiff, Nat.reduceAdd, Nat.zero_add, Nat.reduceMul, Nat.reduceLT, Nat.reduceLeDiff, Int.reduceLT, Int.reduceNeg, Int.reduceLE, appendP, appendAt, letGo, setLoc, locVal, Int.reduceToNat, boxCells, und, TG, SE, SC, List.getElem?_cons_zero, List.getElem?_cons_succ, eqgK, buildKy0, unP, htu, htr, hky, hev1, htg, hsp, hrl, loadR, loadP, lay, List.take_succ_cons, List.take_zero, List.drop_nil, List.filter_nil, List.cons_append, Int.reduceBEq, Int.reduceBNe, Int.reduceGT, Int.reduceLT, Int.reduceGE, Bool.not_true, Bool.not_false, onn, ock, on1, on2, ova, hlen, heq, heq]
          exact ⟨_, rfl⟩
        | true =>
          rw [if_pos rfl]
          obtain ⟨ev, eo, so, co, ⟨hev, hco⟩, R⟩ := RULES CC; rw [← hev]
          rw [← hco] at onn ock on1 on2 ova
          simp only [fpart, part', Tryz.f32, Option.getD]
          simp (maxSteps := 5000000) only [SA, SB, SD, R, guardAt, binP, intP, indexAddrP, elemsOf, readCells, lenP, lenAt, resultsP, resultP, oneOr, reduceCtorEq, reduceIte, Nat.reduceEqDiff, Nat.reduceAdd, Nat.zero_add, Nat.reduceMul, Nat.reduceLT, Nat.reduceLeDiff, Int.reduceLT, Int.reduceNeg, Int.reduceLE, appendP, appendAt, letGo, setLoc, locVal, Int.reduceToNat, boxCells, und, TG, SE, SC, List.getElem?_cons_zero, List.getElem?_cons_succ, eqgK, buildKy0, unP, htu, htr, hky, hev1, htg, hsp, hrl, loadR, loadP, lay, List.take_succ_cons, List.take_zero, List.drop_nil, List.filter_nil, List.cons_append, Int.reduceBEq, Int.reduceBNe, Int.reduceGT, Int.reduceLT, Int.reduceGE, Bool.not_true, Bool.not_false, onn, ock, on1, on2, ova, hlen, heq, heq]
          exact ⟨_, rfl⟩
  have k4p : (k == 4) = false := by simpa using k4
  by_cases k5 : k = 5
  · subst k5
    rw [if_pos (by omega)]
    cases kz with
    | false =>
      rw [if_pos (.inl rfl)]
      obtain ⟨ev, eo, so, co, ⟨hev, hco⟩, R⟩ := RULES CC; rw [← hev]
      rw [← hco] at onn ock on1 on2 ova
      simp only [fpart, part', Tryz.f32, Option.getD]
      simp (maxSteps := 5000000) only [SA, SB, SD, R, guardAt, binP, intP, indexAddrP, elemsOf, readCells, lenP, lenAt, resultsP, resultP, oneOr, reduceCtorEq, reduceIte, Nat.reduceEqDiff, Nat.reduceAdd, Nat.zero_add, Nat.reduceMul, Nat.reduceLT, Nat.reduceLeDiff, Int.reduceLT, Int.reduceNeg, Int.reduceLE, appendP, appendAt, letGo, setLoc, locVal, Int.reduceToNat, boxCells, und, TG, SE, SC, List.getElem?_cons_zero, List.getElem?_cons_succ, eqgK, buildKy0, unP, htu, htr, hky, hev1, htg, hsp, hrl, loadR, loadP, lay, List.take_succ_cons, List.take_zero, List.drop_nil, List.filter_nil, List.cons_append, Int.reduceBEq, Int.reduceBNe, Int.reduceGT, Int.reduceLT, Int.reduceGE, Bool.not_true, Bool.not_false, onn, ock, on1, on2, ova, hlen, heq, heq]
      exact ⟨_, rfl⟩
    | true =>
      cases nn with
      | false =>
        rw [if_pos (.inr rfl)]
        obtain ⟨ev, eo, so, co, ⟨hev, hco⟩, R⟩ := RULES CC; rw [← hev]
        rw [← hco] at onn ock on1 on2 ova
        simp only [fpart, part', Tryz.f32, Option.getD]
        simp (maxSteps := 5000000) only [SA, SB, SD, R, guardAt, binP, intP, indexAddrP, elemsOf, readCells, lenP, lenAt, resultsP, resultP, oneOr, reduceCtorEq, reduceIte, Nat.reduceEqDiff, Nat.reduceAdd, Nat.zero_add, Nat.reduceMul, Nat.reduceLT, Nat.reduceLeDiff, Int.reduceLT, Int.reduceNeg, Int.reduceLE, appendP, appendAt, letGo, setLoc, locVal, Int.reduceToNat, boxCells, und, TG, SE, SC, List.getElem?_cons_zero, List.getElem?_cons_succ, eqgK, buildKy0, unP, htu, htr, hky, hev1, htg, hsp, hrl, loadR, loadP, lay, List.take_succ_cons, List.take_zero, List.drop_nil, List.filter_nil, List.cons_append, Int.reduceBEq, Int.reduceBNe, Int.reduceGT, Int.reduceLT, Int.reduceGE, Bool.not_true, Bool.not_false, onn, ock, on1, on2, ova, hlen, heq, heq]
        exact ⟨_, rfl⟩
      | true =>
        rw [if_neg (by simp)]
        rw [if_pos rfl]
        by_cases z1 : (nm.length : Int) > 60
        · rw [if_pos (by omega)]
          obtain ⟨ev, eo, so, co, ⟨hev, hco⟩, R⟩ := RULES CC; rw [← hev]
          rw [← hco] at onn ock on1 on2 ova
          simp only [fpart, part', Tryz.f32, Option.getD]
          simp (maxSteps := 5000000) only [SA, SB, SD, R, guardAt, binP, intP, indexAddrP, elemsOf, readCells, lenP, lenAt, resultsP, resultP, oneOr, reduceCtorEq, reduceIte, Nat.reduceEqDiff, Nat.reduceAdd, Nat.zero_add, Nat.reduceMul, Nat.reduceLT, Nat.reduceLeDiff, Int.reduceLT, Int.reduceNeg, Int.reduceLE, appendP, appendAt, letGo, setLoc, locVal, Int.reduceToNat, boxCells, und, TG, SE, SC, List.getElem?_cons_zero, List.getElem?_cons_succ, eqgK, buildKy0, unP, htu, htr, hky, hev1, htg, hsp, hrl, loadR, loadP, lay, List.take_succ_cons, List.take_zero, List.drop_nil, List.filter_nil, List.cons_append, Int.reduceBEq, Int.reduceBNe, Int.reduceGT, Int.reduceLT, Int.reduceGE, Bool.not_true, Bool.not_false, onn, ock, on1, on2, ova, hlen, heq, z1]
          exact ⟨_, rfl⟩
        · rw [if_neg (by omega)]
          obtain ⟨ev, eo, so, co, ⟨hev, hco⟩, R⟩ := RULES CC; rw [← hev]
          rw [← hco] at onn ock on1 on2 ova
          simp only [fpart, part', Tryz.f32, Option.getD]
          simp (maxSteps := 5000000) only [SA, SB, SD, R, guardAt, binP, intP, indexAddrP, elemsOf, readCells, lenP, lenAt, resultsP, resultP, oneOr, reduceCtorEq, reduceIte, Nat.reduceEqDiff, Nat.reduceAdd, Nat.zero_add, Nat.reduceMul, Nat.reduceLT, Nat.reduceLeDiff, Int.reduceLT, Int.reduceNeg, Int.reduceLE, appendP, appendAt, letGo, setLoc, locVal, Int.reduceToNat, boxCells, und, TG, SE, SC, List.getElem?_cons_zero, List.getElem?_cons_succ, eqgK, buildKy0, unP, htu, htr, hky, hev1, htg, hsp, hrl, loadR, loadP, lay, List.take_succ_cons, List.take_zero, List.drop_nil, List.filter_nil, List.cons_append, Int.reduceBEq, Int.reduceBNe, Int.reduceGT, Int.reduceLT, Int.reduceGE, Bool.not_true, Bool.not_false, onn, ock, on1, on2, ova, hlen, heq, z1]
          exact ⟨_, rfl⟩
  have k5p : (k == 5) = false := by simpa using k5
  rw [if_neg (by omega)]
  obtain ⟨ev, eo, so, co, ⟨hev, hco⟩, R⟩ := RULES CC; rw [← hev]
  rw [← hco] at onn ock on1 on2 ova
  simp only [fpart, part', Tryz.f32, Option.getD]
  simp (maxSteps := 5000000) only [SA, SB, SD, R, guardAt, binP, intP, indexAddrP, elemsOf, readCells, lenP, lenAt, resultsP, resultP, oneOr, reduceCtorEq, reduceIte, Nat.reduceEqDiff, Nat.reduceAdd, Nat.zero_add, Nat.reduceMul, Nat.reduceLT, Nat.reduceLeDiff, Int.reduceLT, Int.reduceNeg, Int.reduceLE, appendP, appendAt, letGo, setLoc, locVal, Int.reduceToNat, boxCells, und, TG, SE, SC, List.getElem?_cons_zero, List.getElem?_cons_succ, eqgK, buildKy0, unP, htu, htr, hky, hev1, htg, hsp, hrl, loadR, loadP, lay, List.take_succ_cons, List.take_zero, List.drop_nil, List.filter_nil, List.cons_append, Int.reduceBEq, Int.reduceBNe, Int.reduceGT, Int.reduceLT, Int.reduceGE, Bool.not_true, Bool.not_false, onn, ock, on1, on2, ova, hlen, heq, k1p, k2p, k3p, k4p, k5p]
  exact ⟨_, rfl⟩
theorem op_print_step (s : Sp) (hp : plSp s = true) (bx) : callOp CC (callL CC) 32 [spV s] bx = some (.ret (.int .i64 (spE s)), bx) := by
  obtain ⟨b, h⟩ := call_print_step s hp
  exact callOp_of rfl (by simp only [pureL_cons, spV_pure, pureL_nil, Bool.and_self]) h rfl
end Go.HH
