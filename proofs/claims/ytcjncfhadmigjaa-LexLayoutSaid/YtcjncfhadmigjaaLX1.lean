/-
  Tokens: lines.
-/
import Derived.Test.YtcjncfhadmigjaaLX0
import Derived.Test.YtcjncfhadmigjaaN0
namespace Go.HH
open Go Go.Proofs
set_option maxRecDepth 100000
set_option linter.unusedSimpArgs false
set_option linter.unusedVariables false
theorem ok_lex_Line : fnOK CC Try.f13 (Try.f13.body.getD .skip) = true := by kernel_rfl
theorem fat_lex_Line : CC.P.funcs[13]? = some Try.f13 := by kernel_rfl
theorem ok_R27_Line : fnOK CC Try.f14 (Try.f14.body.getD .skip) = true := by kernel_rfl
theorem fat_R27_Line : CC.P.funcs[14]? = some Try.f14 := by kernel_rfl
theorem ok_L27_LexLines : fnOK CC Try.f4 (Try.f4.body.getD .skip) = true := by kernel_rfl
theorem fat_L27_LexLines : CC.P.funcs[4]? = some Try.f4 := by kernel_rfl
theorem ok_L27_LexSteps : fnOK CC Try.f8 (Try.f8.body.getD .skip) = true := by kernel_rfl
theorem fat_L27_LexSteps : CC.P.funcs[8]? = some Try.f8 := by kernel_rfl
theorem ix_str (s : List UInt8) (i : Nat) (b : UInt8) (h : s[i]? = some b) : indexV CC 9 (.str s) (.int .i64 (i : Int)) = some (.int .u8 (b.toNat : Int)) := by
  unfold indexV
  simp only [TG, Int.toNat_natCast, h]
  rw [if_neg (by omega)]
theorem ix_str' (s : List UInt8) (i : Int) (b : UInt8) (h0 : 0 ≤ i) (h : s[i.toNat]? = some b) : indexV CC 9 (.str s) (.int .i64 i) = some (.int .u8 (b.toNat : Int)) := by
  have := ix_str s i.toNat b h
  rwa [Int.toNat_of_nonneg h0] at this
theorem len_str (s : List UInt8) : lenP CC 9 (.str s) = some (.int .i64 s.length) := by
  unfold lenP
  simp only [TG]
theorem sl_str (s : List UInt8) (a b : Int) (h0 : 0 ≤ a) (h1 : a ≤ b) (h2 : b ≤ s.length) : sliceP CC 9 (.str s) (some (.int .i64 a)) (some (.int .i64 b)) = some (.str ((s.take b.toNat).drop a.toNat)) := by
  unfold sliceP
  simp only [TG, boundO, boundP]
  rw [if_pos ⟨by omega, h2⟩]
  simp only
  rw [if_pos ⟨h0, by omega⟩]
theorem sl_str_hi (s : List UInt8) (b : Int) (h0 : 0 ≤ b) (h2 : b ≤ s.length) : sliceP CC 9 (.str s) none (some (.int .i64 b)) = some (.str (s.take b.toNat)) := by
  unfold sliceP
  simp only [TG, boundO, boundP]
  rw [if_pos ⟨h0, h2⟩]
  simp only [List.drop_zero]
theorem sl_str_lo (s : List UInt8) (a : Int) (h0 : 0 ≤ a) (h2 : a ≤ s.length) : sliceP CC 9 (.str s) (some (.int .i64 a)) none = some (.str (s.drop a.toNat)) := by
  unfold sliceP
  simp only [TG, boundO, boundP]
  rw [if_pos ⟨h0, h2⟩]
  simp only [List.take_length]
/-- the line of an offset -/
def lineI (s : List UInt8) (at' : Int) : Int := 1 + ((s.take (min (max at' 0) s.length).toNat).count 10 : Nat)
theorem lineI_le (s : List UInt8) (a : Int) : 1 ≤ lineI s a ∧ lineI s a ≤ 1 + s.length := by
  unfold lineI
  have h1 : (s.take (min (max a 0) s.length).toNat).count 10 ≤ (s.take (min (max a 0) s.length).toNat).length := List.count_le_length
  have h2 : (s.take (min (max a 0) s.length).toNat).length ≤ s.length := by rw [List.length_take]; omega
  omega
theorem call_lex_Line (s : List UInt8) (hs : s.length ≤ 1000000) (a : Int) : callL CC 13 [.str s, .int .i64 a] [] = some (.ret (.int .i64 (lineI s a)), []) := by
  rw [callL_enter (fn := Try.f13) (c := Try.f13.body.getD .skip) rfl rfl fat_lex_Line rfl ok_lex_Line (Nat.le_of_ble_eq_true rfl)]
  have hl := len_str s
  have hw := lineI_le s a
  have w := wrap_i64 (n := lineI s a) ⟨by omega, by omega⟩
  have hsl := sl_str_hi s (min (max a 0) s.length) (by omega) (by omega)
  obtain ⟨ev, eo, so, co, ⟨hev, hco⟩, R⟩ := RULES CC; rw [← hev]; have o_strings_Count := @op_strings_Count; rw [← hco] at o_strings_Count
  have hc := o_strings_Count (s.take (min (max a 0) s.length).toNat) 10
  unfold lineI at w ⊢
  unfold Lib.countByte at hc
  simp only [fpart, part', Try.f13, Option.getD]
  simp (maxSteps := 5000000) only [SA, SB, SD, R, guardAt, binP, intP, indexAddrP, elemsOf, readCells, lenP, lenAt, resultsP, resultP, oneOr, reduceCtorEq, reduceIte, Nat.reduceEqDiff, Nat.reduceAdd, Nat.zero_add, Nat.reduceMul, Nat.reduceLT, Nat.reduceLeDiff, Int.reduceLT, Int.reduceNeg, Int.reduceLE, appendP, appendAt, letGo, setLoc, locVal, Int.reduceToNat, boxCells, und, TG]
  rw [maxP2]
  generalize max a 0 = m at *
  simp (maxSteps := 5000000) only [SA, SB, SD, R, guardAt, binP, intP, indexAddrP, elemsOf, readCells, lenP, lenAt, resultsP, resultP, oneOr, reduceCtorEq, reduceIte, Nat.reduceEqDiff, Nat.reduceAdd, Nat.zero_add, Nat.reduceMul, Nat.reduceLT, Nat.reduceLeDiff, Int.reduceLT, Int.reduceNeg, Int.reduceLE, appendP, appendAt, letGo, setLoc, locVal, Int.reduceToNat, boxCells, und, TG]
  rw [minP2]
  generalize min m (s.length : Int) = k at *
  simp (maxSteps := 5000000) only [SA, SB, SD, R, guardAt, binP, intP, indexAddrP, elemsOf, readCells, lenP, lenAt, resultsP, resultP, oneOr, reduceCtorEq, reduceIte, Nat.reduceEqDiff, Nat.reduceAdd, Nat.zero_add, Nat.reduceMul, Nat.reduceLT, Nat.reduceLeDiff, Int.reduceLT, Int.reduceNeg, Int.reduceLE, appendP, appendAt, letGo, setLoc, locVal, Int.reduceToNat, boxCells, und, TG, hsl, hc, w]
theorem op_lex_Line (s : List UInt8) (hs : s.length ≤ 1000000) (a : Int) (bx) : callOp CC (callL CC) 13 [.str s, .int .i64 a] bx = some (.ret (.int .i64 (lineI s a)), bx) := callOp_of rfl (by simp only [SA, Bool.and_true]) (call_lex_Line s hs a) rfl
theorem loop_R27_Line (L : Code) (hL : L = fpart Try.f14 [1,1,0,1,0]) (s : List UInt8) (hs : s.length ≤ 1000000) (a : Int) : ∀ (k i : Nat) (e : List PV), i + k = (min (max a 0) s.length).toNat → getT e 0 = .str s → getT e 1 = .int .i64 a → getT e 5 = .int .i64 (1 + ((s.take i).count 10 : Nat)) → getT e 6 = .int .i64 i →
    ∃ e', evL CC L ⟨e, []⟩ = some (.exit 0, ⟨e', []⟩) ∧ getT e' 5 = .int .i64 (lineI s a) := by
  intro k
  induction k with
  | zero =>
    intro i e hk h0 h1 h5 h6
    rw [evL_at (fpart Try.f14 [1,1,0,1,0,0]) hL]
    have hi : ¬ ((i : Int) < (s.length : Int)) ∨ ((i : Int) < (s.length : Int) ∧ ¬ (i : Int) < a) := by omega
    have hv : (s.take i).count 10 = (s.take (min (max a 0) s.length).toNat).count 10 := by rw [← hk]; rfl
    obtain ⟨ev, eo, so, co, ⟨hev, hco⟩, R⟩ := RULES CC; rw [← hev]
    simp only [fpart, part', Try.f14, Option.getD]
    rcases hi with hi | ⟨hi, hj⟩
    · simp (maxSteps := 5000000) only [SA, SB, SD, R, guardAt, binP, intP, indexAddrP, elemsOf, readCells, lenP, lenAt, resultsP, resultP, oneOr, reduceCtorEq, reduceIte, Nat.reduceEqDiff, Nat.reduceAdd, Nat.zero_add, Nat.reduceMul, Nat.reduceLT, Nat.reduceLeDiff, Int.reduceLT, Int.reduceNeg, Int.reduceLE, appendP, appendAt, letGo, setLoc, locVal, Int.reduceToNat, boxCells, und, TG, h0, h1, h6, hi]
      exact ⟨_, rfl, by simp (maxSteps := 5000000) only [SA, SB, SD, R, guardAt, binP, intP, indexAddrP, elemsOf, readCells, lenP, lenAt, resultsP, resultP, oneOr, reduceCtorEq, reduceIte, Nat.reduceEqDiff, Nat.reduceAdd, Nat.zero_add, Nat.reduceMul, Nat.reduceLT, Nat.reduceLeDiff, Int.reduceLT, Int.reduceNeg, Int.reduceLE, appendP, appendAt, letGo, setLoc, locVal, Int.reduceToNat, boxCells, und, h5]; rw [hv]; rfl⟩
    · simp (maxSteps := 5000000) only [SA, SB, SD, R, guardAt, binP, intP, indexAddrP, elemsOf, readCells, lenP, lenAt, resultsP, resultP, oneOr, reduceCtorEq, reduceIte, Nat.reduceEqDiff, Nat.reduceAdd, Nat.zero_add, Nat.reduceMul, Nat.reduceLT, Nat.reduceLeDiff, Int.reduceLT, Int.reduceNeg, Int.reduceLE, appendP, appendAt, letGo, setLoc, locVal, Int.reduceToNat, boxCells, und, TG, h0, h1, h6, hi, hj]
      exact ⟨_, rfl, by simp (maxSteps := 5000000) only [SA, SB, SD, R, guardAt, binP, intP, indexAddrP, elemsOf, readCells, lenP, lenAt, resultsP, resultP, oneOr, reduceCtorEq, reduceIte, Nat.reduceEqDiff, Nat.reduceAdd, Nat.zero_add, Nat.reduceMul, Nat.reduceLT, Nat.reduceLeDiff, Int.reduceLT, Int.reduceNeg, Int.reduceLE, appendP, appendAt, letGo, setLoc, locVal, Int.reduceToNat, boxCells, und, h5]; rw [hv]; rfl⟩
  | succ k ih =>
    intro i e hk h0 h1 h5 h6
    rw [evL_at (fpart Try.f14 [1,1,0,1,0,0]) hL]
    have hi : (i : Int) < (s.length : Int) := by omega
    have hj : (i : Int) < a := by omega
    have hx : s[i]? = some (s[i]'(by omega)) := by simp
    have hcnt : (s.take (i + 1)).count 10 = (s.take i).count 10 + if (s[i]'(by omega)) = 10 then 1 else 0 := by
      rw [List.take_succ_eq_append_getElem (by omega), List.count_append, List.count_singleton]
      simp
    have hle : (s.take i).count 10 ≤ i := Nat.le_trans List.count_le_length (by rw [List.length_take]; omega)
    generalize s[i]'(by omega) = c at hx hcnt
    have hix := ix_str s i c hx
    have hw := wrap_i64 (n := (i : Int) + 1) ⟨by omega, by omega⟩
    have hw2 := wrap_i64 (n := 1 + ((s.take i).count 10 : Nat) + 1) ⟨by omega, by omega⟩
    have h10 : c = 10 ↔ (c.toNat : Int) = 10 := by rw [← UInt8.toNat_inj]; have : (10 : UInt8).toNat = 10 := rfl; omega
    obtain ⟨ev, eo, so, co, ⟨hev, hco⟩, R⟩ := RULES CC; rw [← hev]
    rw [← hev] at ih
    simp only [fpart, part', Try.f14, Option.getD]
    by_cases c1 : c = 10
    · have c2 : ((c.toNat : Int) == 10) = true := by simpa using h10.1 c1
      rw [if_pos c1] at hcnt
      simp (maxSteps := 5000000) only [SA, SB, SD, R, guardAt, binP, intP, indexAddrP, elemsOf, readCells, lenP, lenAt, resultsP, resultP, oneOr, reduceCtorEq, reduceIte, Nat.reduceEqDiff, Nat.reduceAdd, Nat.zero_add, Nat.reduceMul, Nat.reduceLT, Nat.reduceLeDiff, Int.reduceLT, Int.reduceNeg, Int.reduceLE, appendP, appendAt, letGo, setLoc, locVal, Int.reduceToNat, boxCells, und, TG, h0, h1, h5, h6, hi, hj, hix, hw, hw2, c2]
      exact ih (i + 1) _ (by omega) (by simp (maxSteps := 5000000) only [SA, SB, SD, R, guardAt, binP, intP, indexAddrP, elemsOf, readCells, lenP, lenAt, resultsP, resultP, oneOr, reduceCtorEq, reduceIte, Nat.reduceEqDiff, Nat.reduceAdd, Nat.zero_add, Nat.reduceMul, Nat.reduceLT, Nat.reduceLeDiff, Int.reduceLT, Int.reduceNeg, Int.reduceLE, appendP, appendAt, letGo, setLoc, locVal, Int.reduceToNat, boxCells, und, h0]) (by simp (maxSteps := 5000000) only [SA, SB, SD, R, guardAt, binP, intP, indexAddrP, elemsOf, readCells, lenP, lenAt, resultsP, resultP, oneOr, reduceCtorEq, reduceIte, Nat.reduceEqDiff, Nat.reduceAdd, Nat.zero_add, Nat.reduceMul, Nat.reduceLT, Nat.reduceLeDiff, Int.reduceLT, Int.reduceNeg, Int.reduceLE, appendP, appendAt, letGo, setLoc, locVal, Int.reduceToNat, boxCells, und, h1]) (by simp (maxSteps := 5000000) only [SA, SB, SD, R, guardAt, binP, intP, indexAddrP, elemsOf, readCells, lenP, lenAt, resultsP, resultP, oneOr, reduceCtorEq, reduceIte, Nat.reduceEqDiff, Nat.reduceAdd, Nat.zero_add, Nat.reduceMul, Nat.reduceLT, Nat.reduceLeDiff, Int.reduceLT, Int.reduceNeg, Int.reduceLE, appendP, appendAt, letGo, setLoc, locVal, Int.reduceToNat, boxCells, und, hcnt]; congr 1) (by simp (maxSteps := 5000000) only [SA, SB, SD, R, guardAt, binP, intP, indexAddrP, elemsOf, readCells, lenP, lenAt, resultsP, resultP, oneOr, reduceCtorEq, reduceIte, Nat.reduceEqDiff, Nat.reduceAdd, Nat.zero_add, Nat.reduceMul, Nat.reduceLT, Nat.reduceLeDiff, Int.reduceLT, Int.reduceNeg, Int.reduceLE, appendP, appendAt, letGo, setLoc, locVal, Int.reduceToNat, boxCells, und]; rfl)
    · have c2 : ((c.toNat : Int) == 10) = false := by have := fun h => c1 (h10.2 h); simpa using this
      rw [if_neg c1] at hcnt
      simp (maxSteps := 5000000) only [SA, SB, SD, R, guardAt, binP, intP, indexAddrP, elemsOf, readCells, lenP, lenAt, resultsP, resultP, oneOr, reduceCtorEq, reduceIte, Nat.reduceEqDiff, Nat.reduceAdd, Nat.zero_add, Nat.reduceMul, Nat.reduceLT, Nat.reduceLeDiff, Int.reduceLT, Int.reduceNeg, Int.reduceLE, appendP, appendAt, letGo, setLoc, locVal, Int.reduceToNat, boxCells, und, TG, h0, h1, h5, h6, hi, hj, hix, hw, hw2, c2]
      exact ih (i + 1) _ (by omega) (by simp (maxSteps := 5000000) only [SA, SB, SD, R, guardAt, binP, intP, indexAddrP, elemsOf, readCells, lenP, lenAt, resultsP, resultP, oneOr, reduceCtorEq, reduceIte, Nat.reduceEqDiff, Nat.reduceAdd, Nat.zero_add, Nat.reduceMul, Nat.reduceLT, Nat.reduceLeDiff, Int.reduceLT, Int.reduceNeg, Int.reduceLE, appendP, appendAt, letGo, setLoc, locVal, Int.reduceToNat, boxCells, und, h0]) (by simp (maxSteps := 5000000) only [SA, SB, SD, R, guardAt, binP, intP, indexAddrP, elemsOf, readCells, lenP, lenAt, resultsP, resultP, oneOr, reduceCtorEq, reduceIte, Nat.reduceEqDiff, Nat.reduceAdd, Nat.zero_add, Nat.reduceMul, Nat.reduceLT, Nat.reduceLeDiff, Int.reduceLT, Int.reduceNeg, Int.reduceLE, appendP, appendAt, letGo, setLoc, locVal, Int.reduceToNat, boxCells, und, h1]) (by simp (maxSteps := 5000000) only [SA, SB, SD, R, guardAt, binP, intP, indexAddrP, elemsOf, readCells, lenP, lenAt, resultsP, resultP, oneOr, reduceCtorEq, reduceIte, Nat.reduceEqDiff, Nat.reduceAdd, Nat.zero_add, Nat.reduceMul, Nat.reduceLT, Nat.reduceLeDiff, Int.reduceLT, Int.reduceNeg, Int.reduceLE, appendP, appendAt, letGo, setLoc, locVal, Int.reduceToNat, boxCells, und, hcnt, h5]; rfl) (by simp (maxSteps := 5000000) only [SA, SB, SD, R, guardAt, binP, intP, indexAddrP, elemsOf, readCells, lenP, lenAt, resultsP, resultP, oneOr, reduceCtorEq, reduceIte, Nat.reduceEqDiff, Nat.reduceAdd, Nat.zero_add, Nat.reduceMul, Nat.reduceLT, Nat.reduceLeDiff, Int.reduceLT, Int.reduceNeg, Int.reduceLE, appendP, appendAt, letGo, setLoc, locVal, Int.reduceToNat, boxCells, und]; rfl)
theorem call_R27_Line (s : List UInt8) (hs : s.length ≤ 1000000) (a : Int) : callL CC 14 [.str s, .int .i64 a] [] = some (.ret (.int .i64 (lineI s a)), []) := by
  rw [callL_enter (fn := Try.f14) (c := Try.f14.body.getD .skip) rfl rfl fat_R27_Line rfl ok_R27_Line (Nat.le_of_ble_eq_true rfl)]
  have hloop := loop_R27_Line _ rfl s hs a (min (max a 0) s.length).toNat 0
  obtain ⟨ev, eo, so, co, ⟨hev, hco⟩, R⟩ := RULES CC; rw [← hev]
  rw [← hev] at hloop
  simp only [fpart, part', Try.f14, Option.getD] at hloop ⊢
  simp (maxSteps := 5000000) only [SA, SB, SD, R, guardAt, binP, intP, indexAddrP, elemsOf, readCells, lenP, lenAt, resultsP, resultP, oneOr, reduceCtorEq, reduceIte, Nat.reduceEqDiff, Nat.reduceAdd, Nat.zero_add, Nat.reduceMul, Nat.reduceLT, Nat.reduceLeDiff, Int.reduceLT, Int.reduceNeg, Int.reduceLE, appendP, appendAt, letGo, setLoc, locVal, Int.reduceToNat, boxCells, und, TG]
  generalize hE : ev _ _ = r
  obtain ⟨e', he, g5⟩ := useLoop' hE (hloop _ (by omega) (by simp (maxSteps := 5000000) only [SA, SB, SD, R, guardAt, binP, intP, indexAddrP, elemsOf, readCells, lenP, lenAt, resultsP, resultP, oneOr, reduceCtorEq, reduceIte, Nat.reduceEqDiff, Nat.reduceAdd, Nat.zero_add, Nat.reduceMul, Nat.reduceLT, Nat.reduceLeDiff, Int.reduceLT, Int.reduceNeg, Int.reduceLE, appendP, appendAt, letGo, setLoc, locVal, Int.reduceToNat, boxCells, und]) (by simp (maxSteps := 5000000) only [SA, SB, SD, R, guardAt, binP, intP, indexAddrP, elemsOf, readCells, lenP, lenAt, resultsP, resultP, oneOr, reduceCtorEq, reduceIte, Nat.reduceEqDiff, Nat.reduceAdd, Nat.zero_add, Nat.reduceMul, Nat.reduceLT, Nat.reduceLeDiff, Int.reduceLT, Int.reduceNeg, Int.reduceLE, appendP, appendAt, letGo, setLoc, locVal, Int.reduceToNat, boxCells, und]) (by simp (maxSteps := 5000000) only [SA, SB, SD, R, guardAt, binP, intP, indexAddrP, elemsOf, readCells, lenP, lenAt, resultsP, resultP, oneOr, reduceCtorEq, reduceIte, Nat.reduceEqDiff, Nat.reduceAdd, Nat.zero_add, Nat.reduceMul, Nat.reduceLT, Nat.reduceLeDiff, Int.reduceLT, Int.reduceNeg, Int.reduceLE, appendP, appendAt, letGo, setLoc, locVal, Int.reduceToNat, boxCells, und]; rfl) (by simp (maxSteps := 5000000) only [SA, SB, SD, R, guardAt, binP, intP, indexAddrP, elemsOf, readCells, lenP, lenAt, resultsP, resultP, oneOr, reduceCtorEq, reduceIte, Nat.reduceEqDiff, Nat.reduceAdd, Nat.zero_add, Nat.reduceMul, Nat.reduceLT, Nat.reduceLeDiff, Int.reduceLT, Int.reduceNeg, Int.reduceLE, appendP, appendAt, letGo, setLoc, locVal, Int.reduceToNat, boxCells, und]; rfl))
  subst he
  simp (maxSteps := 5000000) only [SA, SB, SD, R, guardAt, binP, intP, indexAddrP, elemsOf, readCells, lenP, lenAt, resultsP, resultP, oneOr, reduceCtorEq, reduceIte, Nat.reduceEqDiff, Nat.reduceAdd, Nat.zero_add, Nat.reduceMul, Nat.reduceLT, Nat.reduceLeDiff, Int.reduceLT, Int.reduceNeg, Int.reduceLE, appendP, appendAt, letGo, setLoc, locVal, Int.reduceToNat, boxCells, und, TG, g5]
theorem op_R27_Line (s : List UInt8) (hs : s.length ≤ 1000000) (a : Int) (bx) : callOp CC (callL CC) 14 [.str s, .int .i64 a] bx = some (.ret (.int .i64 (lineI s a)), bx) := callOp_of rfl (by simp only [SA, Bool.and_true]) (call_R27_Line s hs a) rfl
theorem law_LexLines (s : List UInt8) (_ : s.length ≤ maxLen) (a : Int) (ha : inI a) : ∃ bx, callL CC 4 [.str s, .int .i64 a] [] = some (.ret (.bool true), bx) := by
  rw [callL_enter (fn := Try.f4) (c := Try.f4.body.getD .skip) rfl rfl fat_L27_LexLines rfl ok_L27_LexLines (Nat.le_of_ble_eq_true rfl)]
  have hl := len_str s
  by_cases c1 : (s.length : Int) > 3000
  · obtain ⟨ev, eo, so, co, ⟨hev, hco⟩, R⟩ := RULES CC; rw [← hev]; have o_awake := @op_awake; rw [← hco] at o_awake
    simp only [fpart, part', Try.f4, Option.getD]
    simp (maxSteps := 5000000) only [SA, SB, SD, R, guardAt, binP, intP, indexAddrP, elemsOf, readCells, lenP, lenAt, resultsP, resultP, oneOr, reduceCtorEq, reduceIte, Nat.reduceEqDiff, Nat.reduceAdd, Nat.zero_add, Nat.reduceMul, Nat.reduceLT, Nat.reduceLeDiff, Int.reduceLT, Int.reduceNeg, Int.reduceLE, appendP, appendAt, letGo, setLoc, locVal, Int.reduceToNat, boxCells, und, TG, c1, o_awake]
    exact ⟨_, rfl⟩
  · have hs : s.length ≤ 1000000 := by omega
    obtain ⟨ev, eo, so, co, ⟨hev, hco⟩, R⟩ := RULES CC; rw [← hev]; have o_awake := @op_awake; rw [← hco] at o_awake; have o_lex_Line := @op_lex_Line; rw [← hco] at o_lex_Line; have o_R27_Line := @op_R27_Line; rw [← hco] at o_R27_Line
    have h1 := o_lex_Line s hs a
    have h2 := o_R27_Line s hs a
    simp only [fpart, part', Try.f4, Option.getD]
    simp (maxSteps := 5000000) only [SA, SB, SD, R, guardAt, binP, intP, indexAddrP, elemsOf, readCells, lenP, lenAt, resultsP, resultP, oneOr, reduceCtorEq, reduceIte, Nat.reduceEqDiff, Nat.reduceAdd, Nat.zero_add, Nat.reduceMul, Nat.reduceLT, Nat.reduceLeDiff, Int.reduceLT, Int.reduceNeg, Int.reduceLE, appendP, appendAt, letGo, setLoc, locVal, Int.reduceToNat, boxCells, und, TG, c1, h1, h2, o_awake]
    exact ⟨_, rfl⟩
theorem line_zero (s : List UInt8) : lineI s 0 = 1 := by unfold lineI; rw [show (min (max 0 0) (s.length : Int)).toNat = 0 from by omega]; rfl
theorem line_neg (s : List UInt8) : lineI s (-1) = 1 := by unfold lineI; rw [show (min (max (-1) 0) (s.length : Int)).toNat = 0 from by omega]; rfl
theorem line_end (s : List UInt8) : lineI s (s.length + 1) = lineI s s.length := by unfold lineI; rw [show (min (max ((s.length : Int) + 1) 0) (s.length : Int)).toNat = (min (max (s.length : Int) 0) (s.length : Int)).toNat from by omega]
theorem line_step (s : List UInt8) (a : Int) (c : UInt8) (h0 : 0 ≤ a) (h1 : a < s.length) (hc : s[a.toNat]? = some c) : lineI s (a + 1) = lineI s a + if c = 10 then 1 else 0 := by
  unfold lineI
  rw [show (min (max (a + 1) 0) (s.length : Int)).toNat = a.toNat + 1 from by omega, show (min (max a 0) (s.length : Int)).toNat = a.toNat from by omega]
  have hx : s[a.toNat]'(by omega) = c := by
    rw [List.getElem?_eq_getElem (by omega)] at hc
    injection hc
  rw [List.take_succ_eq_append_getElem (by omega), List.count_append, List.count_singleton, hx]
  by_cases h : c = 10 <;> simp [h] <;> omega
theorem law_LexSteps (s : List UInt8) (_ : s.length ≤ maxLen) (a : Int) (ha : inI a) : ∃ bx, callL CC 8 [.str s, .int .i64 a] [] = some (.ret (.bool true), bx) := by
  rw [callL_enter (fn := Try.f8) (c := Try.f8.body.getD .skip) rfl rfl fat_L27_LexSteps rfl ok_L27_LexSteps (Nat.le_of_ble_eq_true rfl)]
  have hl := len_str s
  by_cases c1 : (s.length : Int) > 3000
  · obtain ⟨ev, eo, so, co, ⟨hev, hco⟩, R⟩ := RULES CC; rw [← hev]; have o_awake := @op_awake; rw [← hco] at o_awake
    simp only [fpart, part', Try.f8, Option.getD]
    simp (maxSteps := 5000000) only [SA, SB, SD, R, guardAt, binP, intP, indexAddrP, elemsOf, readCells, lenP, lenAt, resultsP, resultP, oneOr, reduceCtorEq, reduceIte, Nat.reduceEqDiff, Nat.reduceAdd, Nat.zero_add, Nat.reduceMul, Nat.reduceLT, Nat.reduceLeDiff, Int.reduceLT, Int.reduceNeg, Int.reduceLE, appendP, appendAt, letGo, setLoc, locVal, Int.reduceToNat, boxCells, und, TG, c1, o_awake]
    exact ⟨_, rfl⟩
  · have hs : s.length ≤ 1000000 := by omega
    have w1 := wrap_i64 (n := (s.length : Int) + 1) ⟨by omega, by omega⟩
    have hle := lineI_le s a
    have w3 := wrap_i64 (n := lineI s a + 1) ⟨by omega, by omega⟩
    have n1 : ((1 : Int) != 1) = false := rfl
    have ls : (lineI s s.length != lineI s s.length) = false := by simp
    by_cases c2 : a < 0
    · obtain ⟨ev, eo, so, co, ⟨hev, hco⟩, R⟩ := RULES CC; rw [← hev]; have o_awake := @op_awake; rw [← hco] at o_awake; have o_lex_Line := @op_lex_Line; rw [← hco] at o_lex_Line
      have h1 := fun a => o_lex_Line s hs a
      have h2 := h1 0
      have h3 := h1 (-1)
      have h4 := h1 (s.length + 1)
      rw [line_zero] at h2
      rw [line_neg] at h3
      rw [line_end] at h4
      have h5 := h1 s.length
      simp only [fpart, part', Try.f8, Option.getD]
      simp (maxSteps := 5000000) only [SA, SB, SD, R, guardAt, binP, intP, indexAddrP, elemsOf, readCells, lenP, lenAt, resultsP, resultP, oneOr, reduceCtorEq, reduceIte, Nat.reduceEqDiff, Nat.reduceAdd, Nat.zero_add, Nat.reduceMul, Nat.reduceLT, Nat.reduceLeDiff, Int.reduceLT, Int.reduceNeg, Int.reduceLE, appendP, appendAt, letGo, setLoc, locVal, Int.reduceToNat, boxCells, und, TG, c1, c2, h2, h3, h4, h5, n1, ls, w1, o_awake]
      exact ⟨_, rfl⟩
    · by_cases c3 : a ≥ s.length
      · obtain ⟨ev, eo, so, co, ⟨hev, hco⟩, R⟩ := RULES CC; rw [← hev]; have o_awake := @op_awake; rw [← hco] at o_awake; have o_lex_Line := @op_lex_Line; rw [← hco] at o_lex_Line
        have h1 := fun a => o_lex_Line s hs a
        have h2 := h1 0
        have h3 := h1 (-1)
        have h4 := h1 (s.length + 1)
        rw [line_zero] at h2
        rw [line_neg] at h3
        rw [line_end] at h4
        have h5 := h1 s.length
        simp only [fpart, part', Try.f8, Option.getD]
        simp (maxSteps := 5000000) only [SA, SB, SD, R, guardAt, binP, intP, indexAddrP, elemsOf, readCells, lenP, lenAt, resultsP, resultP, oneOr, reduceCtorEq, reduceIte, Nat.reduceEqDiff, Nat.reduceAdd, Nat.zero_add, Nat.reduceMul, Nat.reduceLT, Nat.reduceLeDiff, Int.reduceLT, Int.reduceNeg, Int.reduceLE, appendP, appendAt, letGo, setLoc, locVal, Int.reduceToNat, boxCells, und, TG, c1, c2, c3, h2, h3, h4, h5, n1, ls, w1, o_awake]
        exact ⟨_, rfl⟩
      · have hx : s[a.toNat]? = some (s[a.toNat]'(by omega)) := by simp
        generalize s[a.toNat]'(by omega) = c at hx
        have hix := ix_str' s a c (by omega) hx
        have hst := line_step s a c (by omega) (by omega) hx
        have w4 := wrap_i64 (n := a + 1) ⟨by omega, by omega⟩
        have h10 : c = 10 ↔ (c.toNat : Int) = 10 := by rw [← UInt8.toNat_inj]; have : (10 : UInt8).toNat = 10 := rfl; omega
        obtain ⟨ev, eo, so, co, ⟨hev, hco⟩, R⟩ := RULES CC; rw [← hev]; have o_awake := @op_awake; rw [← hco] at o_awake; have o_lex_Line := @op_lex_Line; rw [← hco] at o_lex_Line
        have h1 := fun a => o_lex_Line s hs a
        have h2 := h1 0
        have h3 := h1 (-1)
        have h4 := h1 (s.length + 1)
        rw [line_zero] at h2
        rw [line_neg] at h3
        rw [line_end] at h4
        have h5 := h1 s.length
        have h6 := h1 a
        have h7 := h1 (a + 1)
        rw [hst] at h7
        simp only [fpart, part', Try.f8, Option.getD]
        by_cases c4 : c = 10
        · have c5 : ((c.toNat : Int) == 10) = true := by simpa using h10.1 c4
          rw [if_pos c4] at h7
          simp (maxSteps := 5000000) only [SA, SB, SD, R, guardAt, binP, intP, indexAddrP, elemsOf, readCells, lenP, lenAt, resultsP, resultP, oneOr, reduceCtorEq, reduceIte, Nat.reduceEqDiff, Nat.reduceAdd, Nat.zero_add, Nat.reduceMul, Nat.reduceLT, Nat.reduceLeDiff, Int.reduceLT, Int.reduceNeg, Int.reduceLE, appendP, appendAt, letGo, setLoc, locVal, Int.reduceToNat, boxCells, und, TG, c1, c2, c3, c5, h2, h3, h4, h5, h6, h7, hix, n1, ls, w1, w3, w4, o_awake]
          exact ⟨_, rfl⟩
        · have c5 : ((c.toNat : Int) == 10) = false := by have := fun h => c4 (h10.2 h); simpa using this
          rw [if_neg c4, Int.add_zero] at h7
          simp (maxSteps := 5000000) only [SA, SB, SD, R, guardAt, binP, intP, indexAddrP, elemsOf, readCells, lenP, lenAt, resultsP, resultP, oneOr, reduceCtorEq, reduceIte, Nat.reduceEqDiff, Nat.reduceAdd, Nat.zero_add, Nat.reduceMul, Nat.reduceLT, Nat.reduceLeDiff, Int.reduceLT, Int.reduceNeg, Int.reduceLE, appendP, appendAt, letGo, setLoc, locVal, Int.reduceToNat, boxCells, und, TG, c1, c2, c3, c5, h2, h3, h4, h5, h6, h7, hix, n1, ls, w1, w3, w4, o_awake]
          exact ⟨_, rfl⟩
end Go.HH
