/-
  Numbers: the laws.
-/
import Derived.Test.YthfcokfigmpanaaDoorN6
namespace Go.HH
open Go Go.Proofs
set_option maxRecDepth 100000
set_option linter.unusedSimpArgs false
set_option linter.unusedVariables false
theorem ok_L01_lives : fnOK CC Tryd.f14 (Tryd.f14.body.getD .skip) = true := by kernel_rfl
theorem fat_L01_lives : CC.P.funcs[14]? = some Tryd.f14 := by kernel_rfl
theorem ok_L01_NumScales : fnOK CC Tryd.f3 (Tryd.f3.body.getD .skip) = true := by kernel_rfl
theorem fat_L01_NumScales : CC.P.funcs[3]? = some Tryd.f3 := by kernel_rfl
theorem ok_L01_NumTexts : fnOK CC Tryd.f4 (Tryd.f4.body.getD .skip) = true := by kernel_rfl
theorem fat_L01_NumTexts : CC.P.funcs[4]? = some Tryd.f4 := by kernel_rfl
theorem ok_L01_NumBack : fnOK CC Tryd.f5 (Tryd.f5.body.getD .skip) = true := by kernel_rfl
theorem fat_L01_NumBack : CC.P.funcs[5]? = some Tryd.f5 := by kernel_rfl
theorem ok_L01_NumProducts : fnOK CC Tryd.f6 (Tryd.f6.body.getD .skip) = true := by kernel_rfl
theorem fat_L01_NumProducts : CC.P.funcs[6]? = some Tryd.f6 := by kernel_rfl
theorem ok_L01_NumSums : fnOK CC Tryd.f7 (Tryd.f7.body.getD .skip) = true := by kernel_rfl
theorem fat_L01_NumSums : CC.P.funcs[7]? = some Tryd.f7 := by kernel_rfl
theorem ok_L01_NumOrder : fnOK CC Tryd.f8 (Tryd.f8.body.getD .skip) = true := by kernel_rfl
theorem fat_L01_NumOrder : CC.P.funcs[8]? = some Tryd.f8 := by kernel_rfl
theorem ok_L01_NumClamps : fnOK CC Tryd.f9 (Tryd.f9.body.getD .skip) = true := by kernel_rfl
theorem fat_L01_NumClamps : CC.P.funcs[9]? = some Tryd.f9 := by kernel_rfl
theorem ok_L01_NumQuotients : fnOK CC Tryd.f10 (Tryd.f10.body.getD .skip) = true := by kernel_rfl
theorem fat_L01_NumQuotients : CC.P.funcs[10]? = some Tryd.f10 := by kernel_rfl
theorem ok_L01_NumRemainder : fnOK CC Tryd.f11 (Tryd.f11.body.getD .skip) = true := by kernel_rfl
theorem fat_L01_NumRemainder : CC.P.funcs[11]? = some Tryd.f11 := by kernel_rfl
theorem itoa_m12 : Lib.itoa (-12) = [45, 49, 50] := by
  rw [itoa_neg (by omega), Lib.decDigits_two (by decide) (by decide)]
  rfl
theorem parse_m12 : parseI [45, 49, 50] = (-12, true) := by
  have h : pl [45, 49, 50] 0 0 = some 12 := by decide
  unfold parseI
  rw [h, if_neg (by decide)]
  simp only [List.head?_cons, if_true]
  rw [itoa_m12]
  decide
theorem parse_007 : parseI [48, 48, 55] = (0, false) := by
  have h : pl [48, 48, 55] 0 0 = some 7 := by decide
  unfold parseI
  rw [h, if_neg (by decide)]
  have hh : ¬ ([48, 48, 55] : List UInt8).head? = some 45 := by decide
  simp only [if_neg hh]
  rw [if_neg]
  rw [itoa_digit (by omega) (by omega)]
  decide
theorem call_L01_lives : callL CC 14 [] [] = some (.ret (.bool true), []) := by
  rw [callL_enter (fn := Tryd.f14) (c := Tryd.f14.body.getD .skip) rfl fat_L01_lives rfl ok_L01_lives (Nat.le_of_ble_eq_true rfl)]
  obtain ⟨ev, eo, so, co, ⟨hev, hco⟩, R⟩ := RULES CC; rw [← hev]; have o_num_Parse := @op_num_Parse; rw [← hco] at o_num_Parse; have o_num_Sat := @op_num_Sat; rw [← hco] at o_num_Sat; have o_num_Add := @op_num_Add; rw [← hco] at o_num_Add; have o_num_Floor := @op_num_Floor; rw [← hco] at o_num_Floor; have o_num_Scale := @op_num_Scale; rw [← hco] at o_num_Scale; have o_num_Digits := @op_num_Digits; rw [← hco] at o_num_Digits
  have h1 := o_num_Parse [45, 49, 50] (by decide)
  have h2 := o_num_Parse [48, 48, 55] (by decide)
  have h3 := o_num_Add 1125899906842624 (-1125899906842619) (by decide) (by decide)
  have h4 := o_num_Digits (-12) (by decide)
  have e1 : satI 1125899906842624 = 1099511627776 := by decide
  have e2 : satI (1125899906842624 + -1125899906842619) = 5 := by decide
  have e3 : floorI (-7) 2 = -4 := by decide
  have e4 : scaleI (-7) 10 4 = -18 := by decide
  rw [itoa_m12] at h4
  rw [parse_m12] at h1
  rw [parse_007] at h2
  rw [e2] at h3
  have h5 := o_num_Sat 1125899906842624
  rw [e1] at h5
  have h6 := o_num_Floor (-7) 2
  rw [e3] at h6
  have h7 := o_num_Scale (-7) 10 4
  rw [e4] at h7
  clear o_num_Parse o_num_Sat o_num_Add o_num_Floor o_num_Scale o_num_Digits
  have b1 : (([45, 49, 50] : List UInt8) == [45, 49, 50]) = true := rfl
  simp only [fpart, part', Tryd.f14, Option.getD]
  simp (maxSteps := 5000000) only [SA, SB, SD, R, guardAt, binP, intP, indexAddrP, elemsOf, readCells, lenP, lenAt, resultsP, resultP, oneOr, reduceCtorEq, reduceIte, Nat.reduceEqDiff, Nat.reduceAdd, Nat.zero_add, Nat.reduceMul, Nat.reduceLT, Nat.reduceLeDiff, Int.reduceLT, Int.reduceNeg, Int.reduceLE, appendP, appendAt, letGo, setLoc, locVal, Int.reduceToNat, boxCells, und, TG, unP, strP, h1, h2, h3, h4, h5, h6, h7, b1, Int.reduceBEq]
theorem op_L01_lives (bx) : callOp CC (callL CC) 14 [] bx = some (.ret (.bool true), bx) := callOp_of rfl rfl call_L01_lives rfl
theorem law_NumScales (n : Int) (hn : inI n) (a : Int) (ha : inI a) (b : Int) (hb : inI b) : ∃ bx, callL CC 3 [.int .i64 n, .int .i64 a, .int .i64 b] [] = some (.ret (.bool true), bx) := by
  rw [callL_enter (fn := Tryd.f3) (c := Tryd.f3.body.getD .skip) rfl fat_L01_NumScales rfl ok_L01_NumScales (Nat.le_of_ble_eq_true rfl)]
  obtain ⟨ev, eo, so, co, ⟨hev, hco⟩, R⟩ := RULES CC; rw [← hev]; have o_num_Scale := @op_num_Scale; rw [← hco] at o_num_Scale; have o_R01_Scale := @op_R01_Scale; rw [← hco] at o_R01_Scale; have o_L01_lives := @op_L01_lives; rw [← hco] at o_L01_lives
  simp only [fpart, part', Tryd.f3, Option.getD]
  simp (maxSteps := 5000000) only [SA, SB, SD, R, guardAt, binP, intP, indexAddrP, elemsOf, readCells, lenP, lenAt, resultsP, resultP, oneOr, reduceCtorEq, reduceIte, Nat.reduceEqDiff, Nat.reduceAdd, Nat.zero_add, Nat.reduceMul, Nat.reduceLT, Nat.reduceLeDiff, Int.reduceLT, Int.reduceNeg, Int.reduceLE, appendP, appendAt, letGo, setLoc, locVal, Int.reduceToNat, boxCells, und, TG, o_num_Scale, o_R01_Scale, o_L01_lives]
  exact ⟨_, rfl⟩
theorem law_NumTexts (n : Int) (hn : inI n) (s : List UInt8) (hs : s.length ≤ maxLen) : ∃ bx, callL CC 4 [.int .i64 n, .str s] [] = some (.ret (.bool true), bx) := by
  rw [callL_enter (fn := Tryd.f4) (c := Tryd.f4.body.getD .skip) rfl fat_L01_NumTexts rfl ok_L01_NumTexts (Nat.le_of_ble_eq_true rfl)]
  have hl := len_str s
  obtain ⟨ev, eo, so, co, ⟨hev, hco⟩, R⟩ := RULES CC; rw [← hev]; have o_num_Parse := @op_num_Parse; rw [← hco] at o_num_Parse; have o_R01_Parse := @op_R01_Parse; rw [← hco] at o_R01_Parse; have o_num_Digits := @op_num_Digits; rw [← hco] at o_num_Digits; have o_R01_Digits := @op_R01_Digits; rw [← hco] at o_R01_Digits; have o_L01_lives := @op_L01_lives; rw [← hco] at o_L01_lives
  have h1 := o_num_Parse s hs
  have h2 := o_R01_Parse s hs
  have h3 := o_num_Digits n hn
  have h4 := o_R01_Digits n hn
  simp only [fpart, part', Tryd.f4, Option.getD]
  by_cases c1 : (s.length : Int) > 10000
  · simp (maxSteps := 5000000) only [SA, SB, SD, R, guardAt, binP, intP, indexAddrP, elemsOf, readCells, lenP, lenAt, resultsP, resultP, oneOr, reduceCtorEq, reduceIte, Nat.reduceEqDiff, Nat.reduceAdd, Nat.zero_add, Nat.reduceMul, Nat.reduceLT, Nat.reduceLeDiff, Int.reduceLT, Int.reduceNeg, Int.reduceLE, appendP, appendAt, letGo, setLoc, locVal, Int.reduceToNat, boxCells, und, TG, c1, o_L01_lives]
    exact ⟨_, rfl⟩
  · simp (maxSteps := 5000000) only [SA, SB, SD, R, guardAt, binP, intP, indexAddrP, elemsOf, readCells, lenP, lenAt, resultsP, resultP, oneOr, reduceCtorEq, reduceIte, Nat.reduceEqDiff, Nat.reduceAdd, Nat.zero_add, Nat.reduceMul, Nat.reduceLT, Nat.reduceLeDiff, Int.reduceLT, Int.reduceNeg, Int.reduceLE, appendP, appendAt, letGo, setLoc, locVal, Int.reduceToNat, boxCells, und, TG, strP, c1, h1, h2, h3, h4, o_L01_lives]
    exact ⟨_, rfl⟩
theorem law_NumSums (a : Int) (ha : inI a) (b : Int) (hb : inI b) : ∃ bx, callL CC 7 [.int .i64 a, .int .i64 b] [] = some (.ret (.bool true), bx) := by
  rw [callL_enter (fn := Tryd.f7) (c := Tryd.f7.body.getD .skip) rfl fat_L01_NumSums rfl ok_L01_NumSums (Nat.le_of_ble_eq_true rfl)]
  obtain ⟨ev, eo, so, co, ⟨hev, hco⟩, R⟩ := RULES CC; rw [← hev]; have o_num_Sat := @op_num_Sat; rw [← hco] at o_num_Sat; have o_R01_Sat := @op_R01_Sat; rw [← hco] at o_R01_Sat; have o_num_Add := @op_num_Add; rw [← hco] at o_num_Add; have o_R01_Add := @op_R01_Add; rw [← hco] at o_R01_Add; have o_num_Sub := @op_num_Sub; rw [← hco] at o_num_Sub; have o_R01_Sub := @op_R01_Sub; rw [← hco] at o_R01_Sub; have o_L01_lives := @op_L01_lives; rw [← hco] at o_L01_lives
  have h1 := o_num_Add a b ha hb
  have h2 := o_R01_Add a b ha hb
  have h3 := o_num_Sub a b ha hb
  have h4 := o_R01_Sub a b ha hb
  simp only [fpart, part', Tryd.f7, Option.getD]
  simp (maxSteps := 5000000) only [SA, SB, SD, R, guardAt, binP, intP, indexAddrP, elemsOf, readCells, lenP, lenAt, resultsP, resultP, oneOr, reduceCtorEq, reduceIte, Nat.reduceEqDiff, Nat.reduceAdd, Nat.zero_add, Nat.reduceMul, Nat.reduceLT, Nat.reduceLeDiff, Int.reduceLT, Int.reduceNeg, Int.reduceLE, appendP, appendAt, letGo, setLoc, locVal, Int.reduceToNat, boxCells, und, TG, o_num_Sat, o_R01_Sat, h1, h2, h3, h4, o_L01_lives]
  exact ⟨_, rfl⟩
theorem law_NumProducts (a : Int) (ha : inI a) (b : Int) (hb : inI b) : ∃ bx, callL CC 6 [.int .i64 a, .int .i64 b] [] = some (.ret (.bool true), bx) := by
  rw [callL_enter (fn := Tryd.f6) (c := Tryd.f6.body.getD .skip) rfl fat_L01_NumProducts rfl ok_L01_NumProducts (Nat.le_of_ble_eq_true rfl)]
  have hc : mulI b a = mulI a b := by
    unfold mulI
    have h1 : timesN b.natAbs a.natAbs = timesN a.natAbs b.natAbs ∨ (1099511627776 < timesN b.natAbs a.natAbs ∧ 1099511627776 < timesN a.natAbs b.natAbs) := by
      rcases Nat.lt_or_ge 1099511627776 (a.natAbs * b.natAbs) with h | h
      · right
        have big : ∀ x y : Nat, 1099511627776 < x * y → 1099511627776 < timesN x y := fun x y h => by unfold timesN; split <;> omega
        exact ⟨big _ _ (by rw [Nat.mul_comm]; exact h), big _ _ h⟩
      · left
        have sm : ∀ x y : Nat, x * y ≤ 1099511627776 → timesN x y = x * y := fun x y h => by
          unfold timesN
          rw [if_neg (fun hc => by have := div_big (by omega) hc.2; omega)]
        rw [sm _ _ h, sm _ _ (by rw [Nat.mul_comm]; exact h), Nat.mul_comm]
    have h2 : (decide (b < 0) == decide (a < 0)) = (decide (a < 0) == decide (b < 0)) := by cases decide (a < 0) <;> cases decide (b < 0) <;> rfl
    rw [h2]
    rcases h1 with h1 | ⟨h1, h3⟩
    · rw [h1]
    · rw [signed_big _ h1, signed_big _ h3]
  obtain ⟨ev, eo, so, co, ⟨hev, hco⟩, R⟩ := RULES CC; rw [← hev]; have o_num_Mul := @op_num_Mul; rw [← hco] at o_num_Mul; have o_R01_Mul := @op_R01_Mul; rw [← hco] at o_R01_Mul; have o_L01_lives := @op_L01_lives; rw [← hco] at o_L01_lives
  have h1 := o_num_Mul a b ha hb
  have h2 := o_R01_Mul a b ha hb
  have h3 := o_num_Mul b a hb ha
  have h4 := o_R01_Mul b a hb ha
  rw [hc] at h3 h4
  simp only [fpart, part', Tryd.f6, Option.getD]
  simp (maxSteps := 5000000) only [SA, SB, SD, R, guardAt, binP, intP, indexAddrP, elemsOf, readCells, lenP, lenAt, resultsP, resultP, oneOr, reduceCtorEq, reduceIte, Nat.reduceEqDiff, Nat.reduceAdd, Nat.zero_add, Nat.reduceMul, Nat.reduceLT, Nat.reduceLeDiff, Int.reduceLT, Int.reduceNeg, Int.reduceLE, appendP, appendAt, letGo, setLoc, locVal, Int.reduceToNat, boxCells, und, TG, h1, h2, h3, h4, o_L01_lives]
  exact ⟨_, rfl⟩
theorem law_NumClamps (n : Int) (hn : inI n) (lo : Int) (hlo : inI lo) (hi : Int) (hhi : inI hi) : ∃ bx, callL CC 9 [.int .i64 n, .int .i64 lo, .int .i64 hi] [] = some (.ret (.bool true), bx) := by
  rw [callL_enter (fn := Tryd.f9) (c := Tryd.f9.body.getD .skip) rfl fat_L01_NumClamps rfl ok_L01_NumClamps (Nat.le_of_ble_eq_true rfl)]
  obtain ⟨ev, eo, so, co, ⟨hev, hco⟩, R⟩ := RULES CC; rw [← hev]; have o_num_Clamp := @op_num_Clamp; rw [← hco] at o_num_Clamp; have o_R01_Clamp := @op_R01_Clamp; rw [← hco] at o_R01_Clamp; have o_L01_lives := @op_L01_lives; rw [← hco] at o_L01_lives
  simp only [fpart, part', Tryd.f9, Option.getD]
  simp (maxSteps := 5000000) only [SA, SB, SD, R, guardAt, binP, intP, indexAddrP, elemsOf, readCells, lenP, lenAt, resultsP, resultP, oneOr, reduceCtorEq, reduceIte, Nat.reduceEqDiff, Nat.reduceAdd, Nat.zero_add, Nat.reduceMul, Nat.reduceLT, Nat.reduceLeDiff, Int.reduceLT, Int.reduceNeg, Int.reduceLE, appendP, appendAt, letGo, setLoc, locVal, Int.reduceToNat, boxCells, und, TG, o_num_Clamp, o_R01_Clamp, o_L01_lives]
  exact ⟨_, rfl⟩
theorem law_NumQuotients (a : Int) (ha : inI a) (b : Int) (hb : inI b) : ∃ bx, callL CC 10 [.int .i64 a, .int .i64 b] [] = some (.ret (.bool true), bx) := by
  rw [callL_enter (fn := Tryd.f10) (c := Tryd.f10.body.getD .skip) rfl fat_L01_NumQuotients rfl ok_L01_NumQuotients (Nat.le_of_ble_eq_true rfl)]
  obtain ⟨ev, eo, so, co, ⟨hev, hco⟩, R⟩ := RULES CC; rw [← hev]; have o_num_Floor := @op_num_Floor; rw [← hco] at o_num_Floor; have o_R01_Floor := @op_R01_Floor; rw [← hco] at o_R01_Floor; have o_num_Ceil := @op_num_Ceil; rw [← hco] at o_num_Ceil; have o_R01_Ceil := @op_R01_Ceil; rw [← hco] at o_R01_Ceil; have o_L01_lives := @op_L01_lives; rw [← hco] at o_L01_lives
  simp only [fpart, part', Tryd.f10, Option.getD]
  simp (maxSteps := 5000000) only [SA, SB, SD, R, guardAt, binP, intP, indexAddrP, elemsOf, readCells, lenP, lenAt, resultsP, resultP, oneOr, reduceCtorEq, reduceIte, Nat.reduceEqDiff, Nat.reduceAdd, Nat.zero_add, Nat.reduceMul, Nat.reduceLT, Nat.reduceLeDiff, Int.reduceLT, Int.reduceNeg, Int.reduceLE, appendP, appendAt, letGo, setLoc, locVal, Int.reduceToNat, boxCells, und, TG, o_num_Floor, o_R01_Floor, o_num_Ceil, o_R01_Ceil, o_L01_lives]
  exact ⟨_, rfl⟩
theorem satI_mono {a b : Int} (h : a ≤ b) : satI a ≤ satI b := by unfold satI; split <;> (try split) <;> (try split) <;> (try split) <;> omega
theorem satI_same {a : Int} (h1 : -1099511627776 ≤ a) (h2 : a ≤ 1099511627776) : satI a = a := (satI_iff a).2 ⟨by omega, by omega⟩
theorem law_NumOrder (a : Int) (ha : inI a) (b : Int) (hb : inI b) (c : Int) (hc : inI c) : ∃ bx, callL CC 8 [.int .i64 a, .int .i64 b, .int .i64 c] [] = some (.ret (.bool true), bx) := by
  rw [callL_enter (fn := Tryd.f8) (c := Tryd.f8.body.getD .skip) rfl fat_L01_NumOrder rfl ok_L01_NumOrder (Nat.le_of_ble_eq_true rfl)]
  have ls := satI_le (a + b)
  obtain ⟨ev, eo, so, co, ⟨hev, hco⟩, R⟩ := RULES CC; rw [← hev]; have o_num_Add := @op_num_Add; rw [← hco] at o_num_Add; have o_num_Sub := @op_num_Sub; rw [← hco] at o_num_Sub; have o_L01_lives := @op_L01_lives; rw [← hco] at o_L01_lives
  have h1 := o_num_Add a b ha hb
  have h2 := o_num_Add b a hb ha
  rw [Int.add_comm b a] at h2
  have h3 := o_num_Add c b hc hb
  have h4 := o_num_Sub (satI (a + b)) b ⟨by omega, by omega⟩ hb
  have h5 := o_num_Sub (satI (a + b)) a ⟨by omega, by omega⟩ ha
  have mono : a ≤ c → ¬ satI (a + b) > satI (c + b) := fun h => by have := satI_mono (a := a + b) (b := c + b) (by omega); omega
  have small : ¬ a < -549755813888 → ¬ a > 549755813888 → ¬ b < -549755813888 → ¬ b > 549755813888 → satI (satI (a + b) - b) = a ∧ satI (satI (a + b) - a) = b := fun _ _ _ _ => by
    rw [satI_same (a := a + b) (by omega) (by omega)]
    constructor
    · rw [satI_same (by omega) (by omega)]; omega
    · rw [satI_same (by omega) (by omega)]; omega
  generalize satI (a + b) = s at *
  generalize satI (c + b) = u at *
  have bne_self : (s != s) = false := by simp
  simp only [fpart, part', Tryd.f8, Option.getD]
  by_cases c0 : a ≤ c
  · have m := mono c0
    by_cases c1 : a < -549755813888
    · simp (maxSteps := 5000000) only [SA, SB, SD, R, guardAt, binP, intP, indexAddrP, elemsOf, readCells, lenP, lenAt, resultsP, resultP, oneOr, reduceCtorEq, reduceIte, Nat.reduceEqDiff, Nat.reduceAdd, Nat.zero_add, Nat.reduceMul, Nat.reduceLT, Nat.reduceLeDiff, Int.reduceLT, Int.reduceNeg, Int.reduceLE, appendP, appendAt, letGo, setLoc, locVal, Int.reduceToNat, boxCells, und, TG, h1, h2, h3, bne_self, c0, m, c1, o_L01_lives]
      exact ⟨_, rfl⟩
    · by_cases c2 : a > 549755813888
      · simp (maxSteps := 5000000) only [SA, SB, SD, R, guardAt, binP, intP, indexAddrP, elemsOf, readCells, lenP, lenAt, resultsP, resultP, oneOr, reduceCtorEq, reduceIte, Nat.reduceEqDiff, Nat.reduceAdd, Nat.zero_add, Nat.reduceMul, Nat.reduceLT, Nat.reduceLeDiff, Int.reduceLT, Int.reduceNeg, Int.reduceLE, appendP, appendAt, letGo, setLoc, locVal, Int.reduceToNat, boxCells, und, TG, h1, h2, h3, bne_self, c0, m, c1, c2, o_L01_lives]
        exact ⟨_, rfl⟩
      · by_cases c3 : b < -549755813888
        · simp (maxSteps := 5000000) only [SA, SB, SD, R, guardAt, binP, intP, indexAddrP, elemsOf, readCells, lenP, lenAt, resultsP, resultP, oneOr, reduceCtorEq, reduceIte, Nat.reduceEqDiff, Nat.reduceAdd, Nat.zero_add, Nat.reduceMul, Nat.reduceLT, Nat.reduceLeDiff, Int.reduceLT, Int.reduceNeg, Int.reduceLE, appendP, appendAt, letGo, setLoc, locVal, Int.reduceToNat, boxCells, und, TG, h1, h2, h3, bne_self, c0, m, c1, c2, c3, o_L01_lives]
          exact ⟨_, rfl⟩
        · by_cases c4 : b > 549755813888
          · simp (maxSteps := 5000000) only [SA, SB, SD, R, guardAt, binP, intP, indexAddrP, elemsOf, readCells, lenP, lenAt, resultsP, resultP, oneOr, reduceCtorEq, reduceIte, Nat.reduceEqDiff, Nat.reduceAdd, Nat.zero_add, Nat.reduceMul, Nat.reduceLT, Nat.reduceLeDiff, Int.reduceLT, Int.reduceNeg, Int.reduceLE, appendP, appendAt, letGo, setLoc, locVal, Int.reduceToNat, boxCells, und, TG, h1, h2, h3, bne_self, c0, m, c1, c2, c3, c4, o_L01_lives]
            exact ⟨_, rfl⟩
          · have ⟨s1, s2⟩ := small c1 c2 c3 c4
            rw [s1] at h4
            rw [s2] at h5
            simp (maxSteps := 5000000) only [SA, SB, SD, R, guardAt, binP, intP, indexAddrP, elemsOf, readCells, lenP, lenAt, resultsP, resultP, oneOr, reduceCtorEq, reduceIte, Nat.reduceEqDiff, Nat.reduceAdd, Nat.zero_add, Nat.reduceMul, Nat.reduceLT, Nat.reduceLeDiff, Int.reduceLT, Int.reduceNeg, Int.reduceLE, appendP, appendAt, letGo, setLoc, locVal, Int.reduceToNat, boxCells, und, TG, h1, h2, h3, h4, h5, bne_self, c0, m, c1, c2, c3, c4, o_L01_lives]
            exact ⟨_, rfl⟩
  · by_cases c1 : a < -549755813888
    · simp (maxSteps := 5000000) only [SA, SB, SD, R, guardAt, binP, intP, indexAddrP, elemsOf, readCells, lenP, lenAt, resultsP, resultP, oneOr, reduceCtorEq, reduceIte, Nat.reduceEqDiff, Nat.reduceAdd, Nat.zero_add, Nat.reduceMul, Nat.reduceLT, Nat.reduceLeDiff, Int.reduceLT, Int.reduceNeg, Int.reduceLE, appendP, appendAt, letGo, setLoc, locVal, Int.reduceToNat, boxCells, und, TG, h1, h2, h3, bne_self, c0, c1, o_L01_lives]
      exact ⟨_, rfl⟩
    · by_cases c2 : a > 549755813888
      · simp (maxSteps := 5000000) only [SA, SB, SD, R, guardAt, binP, intP, indexAddrP, elemsOf, readCells, lenP, lenAt, resultsP, resultP, oneOr, reduceCtorEq, reduceIte, Nat.reduceEqDiff, Nat.reduceAdd, Nat.zero_add, Nat.reduceMul, Nat.reduceLT, Nat.reduceLeDiff, Int.reduceLT, Int.reduceNeg, Int.reduceLE, appendP, appendAt, letGo, setLoc, locVal, Int.reduceToNat, boxCells, und, TG, h1, h2, h3, bne_self, c0, c1, c2, o_L01_lives]
        exact ⟨_, rfl⟩
      · by_cases c3 : b < -549755813888
        · simp (maxSteps := 5000000) only [SA, SB, SD, R, guardAt, binP, intP, indexAddrP, elemsOf, readCells, lenP, lenAt, resultsP, resultP, oneOr, reduceCtorEq, reduceIte, Nat.reduceEqDiff, Nat.reduceAdd, Nat.zero_add, Nat.reduceMul, Nat.reduceLT, Nat.reduceLeDiff, Int.reduceLT, Int.reduceNeg, Int.reduceLE, appendP, appendAt, letGo, setLoc, locVal, Int.reduceToNat, boxCells, und, TG, h1, h2, h3, bne_self, c0, c1, c2, c3, o_L01_lives]
          exact ⟨_, rfl⟩
        · by_cases c4 : b > 549755813888
          · simp (maxSteps := 5000000) only [SA, SB, SD, R, guardAt, binP, intP, indexAddrP, elemsOf, readCells, lenP, lenAt, resultsP, resultP, oneOr, reduceCtorEq, reduceIte, Nat.reduceEqDiff, Nat.reduceAdd, Nat.zero_add, Nat.reduceMul, Nat.reduceLT, Nat.reduceLeDiff, Int.reduceLT, Int.reduceNeg, Int.reduceLE, appendP, appendAt, letGo, setLoc, locVal, Int.reduceToNat, boxCells, und, TG, h1, h2, h3, bne_self, c0, c1, c2, c3, c4, o_L01_lives]
            exact ⟨_, rfl⟩
          · have ⟨s1, s2⟩ := small c1 c2 c3 c4
            rw [s1] at h4
            rw [s2] at h5
            simp (maxSteps := 5000000) only [SA, SB, SD, R, guardAt, binP, intP, indexAddrP, elemsOf, readCells, lenP, lenAt, resultsP, resultP, oneOr, reduceCtorEq, reduceIte, Nat.reduceEqDiff, Nat.reduceAdd, Nat.zero_add, Nat.reduceMul, Nat.reduceLT, Nat.reduceLeDiff, Int.reduceLT, Int.reduceNeg, Int.reduceLE, appendP, appendAt, letGo, setLoc, locVal, Int.reduceToNat, boxCells, und, TG, h1, h2, h3, h4, h5, bne_self, c0, c1, c2, c3, c4, o_L01_lives]
            exact ⟨_, rfl⟩
theorem pr_digit (l : List UInt8) (v : Nat) (h : v < 10) : ∀ (n m : Int), pr l n = some m → pr (l ++ [UInt8.ofNat (48 + v)]) n = some (10 * m + v) := by
  have hd : (UInt8.ofNat (48 + v)).toNat = 48 + v := by rw [UInt8.toNat_ofNat']; omega
  induction l with
  | nil =>
    intro n m e
    injection e with e
    subst e
    show pr [UInt8.ofNat (48 + v)] n = _
    unfold pr pr isD
    rw [hd, if_pos (by simp; omega)]
    congr 1
    omega
  | cons c r ih =>
    intro n m e
    rw [List.cons_append]
    unfold pr at e ⊢
    split at e
    · rename_i hc
      rw [if_pos hc]
      exact ih _ _ e
    · cases e
theorem pr_dec (u : Nat) : pr (Lib.decDigits u) 0 = some (u : Int) := by
  induction u using Nat.strongRecOn with
  | _ u ih =>
    by_cases hs : u < 10
    · rw [Lib.decDigits_one hs]
      have := pr_digit [] u hs 0 0 rfl
      simpa using this
    · rw [Lib.decDigits, dif_neg hs, pr_digit _ _ (by omega) _ _ (ih (u / 10) (by omega))]
      congr 1
      omega
theorem dec_head (u : Nat) : (Lib.decDigits u).head? ≠ some 45 := by
  induction u using Nat.strongRecOn with
  | _ u ih =>
    by_cases hs : u < 10
    · rw [Lib.decDigits_one hs, List.head?_cons]
      intro h
      injection h with h
      have := congrArg UInt8.toNat h
      rw [UInt8.toNat_ofNat'] at this
      have h45 : (45 : UInt8).toNat = 45 := rfl
      omega
    · rw [Lib.decDigits, dif_neg hs]
      have h1 := ih (u / 10) (by omega)
      have hl : (Lib.decDigits (u / 10)) ≠ [] := by
        intro h
        have := Lib.decDigits_length (u / 10)
        rw [h] at this
        have := Lib.nDigits_pos (u / 10)
        simp at *
        omega
      have : (Lib.decDigits (u / 10) ++ [UInt8.ofNat (48 + u % 10)]).head? = (Lib.decDigits (u / 10)).head? := by
        cases hq : Lib.decDigits (u / 10) with
        | nil => exact absurd hq hl
        | cons => rfl
      rw [this]
      exact h1
theorem dec_len (u : Nat) (h : u ≤ 1099511627776) : (Lib.decDigits u).length ≤ 13 := by
  rw [Lib.decDigits_length]
  rcases Nat.lt_or_ge 13 (Lib.nDigits u) with hn | hn
  · exfalso
    have gen : ∀ v : Nat, 1 ≤ v → 10 ^ (Lib.nDigits v - 1) ≤ v := by
      intro v
      induction v using Nat.strongRecOn with
      | _ v ih =>
        intro hv
        by_cases hs : v < 10
        · rw [Lib.nDigits_small hs]; simpa using hv
        · rw [Lib.nDigits_big hs, Nat.add_sub_cancel]
          have h1 := ih (v / 10) (by omega) (by omega)
          have h2 : Lib.nDigits (v / 10) = Lib.nDigits (v / 10) - 1 + 1 := by have := Lib.nDigits_pos (v / 10); omega
          rw [h2, Nat.pow_succ]
          omega
    have hp : 10 ^ 13 ≤ 10 ^ (Lib.nDigits u - 1) := Nat.pow_le_pow_right (by omega) (by omega)
    have := gen u (by rcases Nat.eq_zero_or_pos u with hz | hz; · subst hz; rw [Lib.nDigits_small (by omega)] at hn; omega
                      · exact hz)
    omega
  · exact hn
theorem dec_ne (u : Nat) : (Lib.decDigits u).length ≠ 0 := by rw [Lib.decDigits_length]; have := Lib.nDigits_pos u; omega
def inM (n : Int) : Prop := -1099511627776 ≤ n ∧ n ≤ 1099511627776
theorem parse_itoa (n : Int) : (inM n → parseI (Lib.itoa n) = (n, true)) ∧ (¬ inM n → parseI (Lib.itoa n) = (0, false)) := by
  have key : ¬ ((Lib.itoa n).length = 0 ∨ (Lib.itoa n).length > 14) → parseI (Lib.itoa n) = if satI n = n then (n, true) else (0, false) := by
    intro h
    unfold parseI
    rw [if_neg h, pl_zero]
    by_cases hn : n < 0
    · have e := itoa_neg hn
      have hh : (Lib.itoa n).head? = some 45 := by rw [e]; rfl
      have hd : (Lib.itoa n).drop 1 = Lib.decDigits n.natAbs := by rw [e]; rfl
      rw [if_pos hh, hd, pr_dec]
      simp only [hh, if_true]
      rw [show -((n.natAbs : Nat) : Int) = n from by omega]
      by_cases hs : satI n = n <;> simp [hs]
    · have e := itoa_nonneg hn
      have hh : ¬ (Lib.itoa n).head? = some 45 := by rw [e]; exact dec_head _
      rw [if_neg hh]
      have hp : pr (Lib.itoa n) 0 = some n := by rw [e, pr_dec]; congr 1; omega
      rw [hp]
      simp only [if_neg hh]
      by_cases hs : satI n = n <;> simp [hs]
  have hs := satI_iff n
  constructor
  · intro hm
    have hl : ¬ ((Lib.itoa n).length = 0 ∨ (Lib.itoa n).length > 14) := by
      by_cases hn : n < 0
      · rw [itoa_neg hn, List.length_cons]
        have := dec_len n.natAbs (by unfold inM at hm; omega)
        omega
      · rw [itoa_nonneg hn]
        have := dec_len n.toNat (by unfold inM at hm; omega)
        have := dec_ne n.toNat
        omega
    rw [key hl, if_pos (hs.2 ⟨by unfold inM at hm; omega, by unfold inM at hm; omega⟩)]
  · intro hm
    by_cases hl : (Lib.itoa n).length = 0 ∨ (Lib.itoa n).length > 14
    · unfold parseI; rw [if_pos hl]
    · rw [key hl, if_neg (fun h => hm (by have := hs.1 h; unfold inM; omega))]
theorem parse_true {s : List UInt8} (h : (parseI s).2 = true) : inI (parseI s).1 ∧ Lib.itoa (parseI s).1 = s := by
  unfold parseI at h ⊢
  split at h
  · cases h
  · rename_i hl
    rw [if_neg hl]
    cases hp : pl s 0 0 with
    | none => rw [hp] at h; cases h
    | some n =>
      rw [hp] at h
      simp only at h ⊢
      generalize (if s.head? = some 45 then -n else n) = m at h ⊢
      by_cases hc : satI m = m ∧ Lib.itoa m = s
      · rw [if_pos hc]
        have := satI_le m
        rw [hc.1] at this
        exact ⟨⟨by omega, by omega⟩, hc.2⟩
      · rw [if_neg hc] at h
        cases h
theorem law_NumBack (n : Int) (hn : inI n) (s : List UInt8) (hs : s.length ≤ maxLen) : ∃ bx, callL CC 5 [.int .i64 n, .str s] [] = some (.ret (.bool true), bx) := by
  rw [callL_enter (fn := Tryd.f5) (c := Tryd.f5.body.getD .skip) rfl fat_L01_NumBack rfl ok_L01_NumBack (Nat.le_of_ble_eq_true rfl)]
  have hl := len_str s
  have hil := itoa_length hn
  have hml : (21 : Nat) ≤ maxLen := by unfold maxLen; omega
  obtain ⟨ev, eo, so, co, ⟨hev, hco⟩, R⟩ := RULES CC; rw [← hev]; have o_num_Parse := @op_num_Parse; rw [← hco] at o_num_Parse; have o_num_Digits := @op_num_Digits; rw [← hco] at o_num_Digits; have o_L01_lives := @op_L01_lives; rw [← hco] at o_L01_lives
  have h1 := o_num_Digits n hn
  have h2 := o_num_Parse (Lib.itoa n) (by omega)
  have h3 := o_num_Parse s hs
  have hback := fun (h : (parseI s).2 = true) => parse_true h
  have h4 := fun (h : (parseI s).2 = true) => o_num_Digits (parseI s).1 (hback h).1
  have hss : (s == s) = true := by simp
  have nn : (n != n) = false := by simp
  have z0 : ((0 : Int) != 0) = false := rfl
  simp only [fpart, part', Tryd.f5, Option.getD]
  by_cases c1 : (s.length : Int) > 10000
  · simp (maxSteps := 5000000) only [SA, SB, SD, R, guardAt, binP, intP, indexAddrP, elemsOf, readCells, lenP, lenAt, resultsP, resultP, oneOr, reduceCtorEq, reduceIte, Nat.reduceEqDiff, Nat.reduceAdd, Nat.zero_add, Nat.reduceMul, Nat.reduceLT, Nat.reduceLeDiff, Int.reduceLT, Int.reduceNeg, Int.reduceLE, appendP, appendAt, letGo, setLoc, locVal, Int.reduceToNat, boxCells, und, TG, c1, o_L01_lives]
    exact ⟨_, rfl⟩
  · by_cases c2 : n ≥ -1099511627776
    · by_cases c3 : n ≤ 1099511627776
      · rw [(parse_itoa n).1 ⟨c2, c3⟩] at h2
        cases hb : (parseI s).2 with
        | false =>
          rw [hb] at h3
          simp (maxSteps := 5000000) only [SA, SB, SD, R, guardAt, binP, intP, indexAddrP, elemsOf, readCells, lenP, lenAt, resultsP, resultP, oneOr, reduceCtorEq, reduceIte, Nat.reduceEqDiff, Nat.reduceAdd, Nat.zero_add, Nat.reduceMul, Nat.reduceLT, Nat.reduceLeDiff, Int.reduceLT, Int.reduceNeg, Int.reduceLE, appendP, appendAt, letGo, setLoc, locVal, Int.reduceToNat, boxCells, und, TG, unP, c1, c2, c3, h1, h2, h3, nn, o_L01_lives]
          exact ⟨_, rfl⟩
        | true =>
          have h4 := h4 hb
          rw [(hback hb).2] at h4
          rw [hb] at h3
          simp (maxSteps := 5000000) only [SA, SB, SD, R, guardAt, binP, intP, indexAddrP, elemsOf, readCells, lenP, lenAt, resultsP, resultP, oneOr, reduceCtorEq, reduceIte, Nat.reduceEqDiff, Nat.reduceAdd, Nat.zero_add, Nat.reduceMul, Nat.reduceLT, Nat.reduceLeDiff, Int.reduceLT, Int.reduceNeg, Int.reduceLE, appendP, appendAt, letGo, setLoc, locVal, Int.reduceToNat, boxCells, und, TG, unP, strP, c1, c2, c3, h1, h2, h3, h4, hss, nn, o_L01_lives]
          exact ⟨_, rfl⟩
      · rw [(parse_itoa n).2 (fun h => c3 h.2)] at h2
        cases hb : (parseI s).2 with
        | false =>
          rw [hb] at h3
          simp (maxSteps := 5000000) only [SA, SB, SD, R, guardAt, binP, intP, indexAddrP, elemsOf, readCells, lenP, lenAt, resultsP, resultP, oneOr, reduceCtorEq, reduceIte, Nat.reduceEqDiff, Nat.reduceAdd, Nat.zero_add, Nat.reduceMul, Nat.reduceLT, Nat.reduceLeDiff, Int.reduceLT, Int.reduceNeg, Int.reduceLE, appendP, appendAt, letGo, setLoc, locVal, Int.reduceToNat, boxCells, und, TG, unP, c1, c2, c3, h1, h2, h3, z0, o_L01_lives]
          exact ⟨_, rfl⟩
        | true =>
          have h4 := h4 hb
          rw [(hback hb).2] at h4
          rw [hb] at h3
          simp (maxSteps := 5000000) only [SA, SB, SD, R, guardAt, binP, intP, indexAddrP, elemsOf, readCells, lenP, lenAt, resultsP, resultP, oneOr, reduceCtorEq, reduceIte, Nat.reduceEqDiff, Nat.reduceAdd, Nat.zero_add, Nat.reduceMul, Nat.reduceLT, Nat.reduceLeDiff, Int.reduceLT, Int.reduceNeg, Int.reduceLE, appendP, appendAt, letGo, setLoc, locVal, Int.reduceToNat, boxCells, und, TG, unP, strP, c1, c2, c3, h1, h2, h3, h4, hss, z0, o_L01_lives]
          exact ⟨_, rfl⟩
    · rw [(parse_itoa n).2 (fun h => c2 h.1)] at h2
      cases hb : (parseI s).2 with
      | false =>
        rw [hb] at h3
        simp (maxSteps := 5000000) only [SA, SB, SD, R, guardAt, binP, intP, indexAddrP, elemsOf, readCells, lenP, lenAt, resultsP, resultP, oneOr, reduceCtorEq, reduceIte, Nat.reduceEqDiff, Nat.reduceAdd, Nat.zero_add, Nat.reduceMul, Nat.reduceLT, Nat.reduceLeDiff, Int.reduceLT, Int.reduceNeg, Int.reduceLE, appendP, appendAt, letGo, setLoc, locVal, Int.reduceToNat, boxCells, und, TG, unP, c1, c2, h1, h2, h3, z0, o_L01_lives]
        exact ⟨_, rfl⟩
      | true =>
        have h4 := h4 hb
        rw [(hback hb).2] at h4
        rw [hb] at h3
        simp (maxSteps := 5000000) only [SA, SB, SD, R, guardAt, binP, intP, indexAddrP, elemsOf, readCells, lenP, lenAt, resultsP, resultP, oneOr, reduceCtorEq, reduceIte, Nat.reduceEqDiff, Nat.reduceAdd, Nat.zero_add, Nat.reduceMul, Nat.reduceLT, Nat.reduceLeDiff, Int.reduceLT, Int.reduceNeg, Int.reduceLE, appendP, appendAt, letGo, setLoc, locVal, Int.reduceToNat, boxCells, und, TG, unP, strP, c1, c2, h1, h2, h3, h4, hss, z0, o_L01_lives]
        exact ⟨_, rfl⟩
end Go.HH
