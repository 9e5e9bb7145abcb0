/-
  Numbers: Parse.
-/
import Derived.Test.YthfcokfigmpanaaDoorN5
namespace Go.HH
open Go Go.Proofs
set_option maxRecDepth 100000
set_option linter.unusedSimpArgs false
set_option linter.unusedVariables false
theorem ix_str (s : List UInt8) (i : Nat) (b : UInt8) (h : s[i]? = some b) : indexV CC 9 (.str s) (.int .i64 (i : Int)) = some (.int .u8 (b.toNat : Int)) := by
  unfold indexV
  simp only [TG, Int.toNat_natCast, h]
  rw [if_neg (by omega)]
theorem ix_str0 (s : List UInt8) (b : UInt8) (h : s[0]? = some b) : indexV CC 9 (.str s) (.int .i64 0) = some (.int .u8 (b.toNat : Int)) := ix_str s 0 b h
theorem len_str (s : List UInt8) : lenP CC 9 (.str s) = some (.int .i64 s.length) := by
  unfold lenP
  simp only [TG]
def isD (c : UInt8) : Bool := decide (48 ≤ c.toNat) && decide (c.toNat ≤ 57)
/-- the digits of the program's loop -/
def pl : List UInt8 → Nat → Int → Option Int
  | [], _, n => some n
  | c :: r, i, n => if isD c then pl r (i + 1) (10 * n + ((c.toNat : Int) - 48)) else if i > 0 ∨ c.toNat ≠ 45 then none else pl r (i + 1) n
/-- the digits of the reference's loop -/
def pr : List UInt8 → Int → Option Int
  | [], n => some n
  | c :: r, n => if isD c then pr r (10 * n + ((c.toNat : Int) - 48)) else none
theorem pl_pr : ∀ (l : List UInt8) (i : Nat) (n : Int), 0 < i → pl l i n = pr l n
  | [], _, _, _ => rfl
  | c :: r, i, n, h => by
    unfold pl pr
    rw [pl_pr r (i + 1) _ (by omega), if_pos (Or.inl h)]
theorem pow_step {n : Int} {i : Nat} {d : Int} (h0 : 0 ≤ n) (h : n < 10 ^ i) (hd : 0 ≤ d ∧ d ≤ 9) : 0 ≤ 10 * n + d ∧ 10 * n + d < 10 ^ (i + 1) := by
  have : (10 : Int) ^ (i + 1) = 10 * 10 ^ i := by rw [Int.pow_succ]; omega
  rw [this]
  omega
theorem pow_cap {n : Int} {i : Nat} (hi : i ≤ 14) (h : n < 10 ^ i) : n < 100000000000000 := by
  have h1 : (10 : Int) ^ i ≤ 10 ^ 14 := by
    have := Nat.pow_le_pow_right (n := 10) (by omega) hi
    exact_mod_cast this
  have h2 : (10 : Int) ^ 14 = 100000000000000 := by decide
  omega
theorem ok_num_Parse : fnOK CC Tryd.f15 (Tryd.f15.body.getD .skip) = true := by kernel_rfl
theorem fat_num_Parse : CC.P.funcs[15]? = some Tryd.f15 := by kernel_rfl
theorem ok_R01_Parse : fnOK CC Tryd.f16 (Tryd.f16.body.getD .skip) = true := by kernel_rfl
theorem fat_R01_Parse : CC.P.funcs[16]? = some Tryd.f16 := by kernel_rfl
/-- what a loop over digits comes to -/
def PP (s : List UInt8) (f : PV) (o : Option Int) (r : Option (Ex × St)) : Prop := match o with
  | some n => 0 ≤ n ∧ n < 100000000000000 ∧ ∃ e, r = some (.exit 0, ⟨e, []⟩) ∧ getT e 0 = .str s ∧ getT e 4 = .int .i64 n ∧ (f ≠ .top → getT e 5 = f)
  | none => ∃ e, r = some (.ret, ⟨e, []⟩) ∧ getT e 2 = .int .i64 0 ∧ getT e 3 = .bool false
theorem loop_num_Parse (L : Code) (hL : L = fpart Tryd.f15 [1,1,1,0,1,0]) (s : List UInt8) (hs : s.length ≤ 14) : ∀ (k i : Nat) (e : List PV) (n : Int), i + k = s.length → 0 ≤ n → n < 10 ^ i → getT e 0 = .str s → getT e 4 = .int .i64 n → getT e 16 = .int .i64 s.length → getT e 17 = .int .i64 i →
    PP s .top (pl (s.drop i) i n) (evL CC L ⟨e, []⟩) := by
  intro k
  induction k with
  | zero =>
    intro i e n hk hn0 hn h0 h4 h16 h17
    rw [evL_at (fpart Tryd.f15 [1,1,1,0,1,0,0]) hL]
    have hi : ¬ ((i : Int) < (s.length : Int)) := by omega
    have hd : s.drop i = [] := List.drop_eq_nil_of_le (by omega)
    have hc := pow_cap (by omega) hn
    obtain ⟨ev, eo, so, co, ⟨hev, hco⟩, R⟩ := RULES CC; rw [← hev]
    rw [hd]
    simp only [fpart, part', Tryd.f15, Option.getD]
    simp (maxSteps := 5000000) only [SA, SB, SD, R, guardAt, binP, intP, indexAddrP, elemsOf, readCells, lenP, lenAt, resultsP, resultP, oneOr, reduceCtorEq, reduceIte, Nat.reduceEqDiff, Nat.reduceAdd, Nat.zero_add, Nat.reduceMul, Nat.reduceLT, Nat.reduceLeDiff, Int.reduceLT, Int.reduceNeg, Int.reduceLE, appendP, appendAt, letGo, setLoc, locVal, Int.reduceToNat, boxCells, und, TG, h16, h17, hi]
    exact ⟨hn0, hc, _, rfl, by simp (maxSteps := 5000000) only [SA, SB, SD, R, guardAt, binP, intP, indexAddrP, elemsOf, readCells, lenP, lenAt, resultsP, resultP, oneOr, reduceCtorEq, reduceIte, Nat.reduceEqDiff, Nat.reduceAdd, Nat.zero_add, Nat.reduceMul, Nat.reduceLT, Nat.reduceLeDiff, Int.reduceLT, Int.reduceNeg, Int.reduceLE, appendP, appendAt, letGo, setLoc, locVal, Int.reduceToNat, boxCells, und, h0], by simp (maxSteps := 5000000) only [SA, SB, SD, R, guardAt, binP, intP, indexAddrP, elemsOf, readCells, lenP, lenAt, resultsP, resultP, oneOr, reduceCtorEq, reduceIte, Nat.reduceEqDiff, Nat.reduceAdd, Nat.zero_add, Nat.reduceMul, Nat.reduceLT, Nat.reduceLeDiff, Int.reduceLT, Int.reduceNeg, Int.reduceLE, appendP, appendAt, letGo, setLoc, locVal, Int.reduceToNat, boxCells, und, h4], fun h => absurd rfl h⟩
  | succ k ih =>
    intro i e n hk hn0 hn h0 h4 h16 h17
    rw [evL_at (fpart Tryd.f15 [1,1,1,0,1,0,0]) hL]
    have hi : (i : Int) < (s.length : Int) := by omega
    have hx : s[i]? = some s[i] := by simp
    have hdr : s.drop i = s[i] :: s.drop (i + 1) := List.drop_eq_getElem_cons (by omega)
    rw [hdr]
    generalize s[i] = c at hx ⊢
    have hix := ix_str s i c hx
    have hc := pow_cap (by omega) hn
    have hw := wrap_i64 (n := (i : Int) + 1) ⟨by omega, by omega⟩
    have h256 := UInt8.toNat_lt c
    have hpl : pl (c :: s.drop (i + 1)) i n = if isD c then pl (s.drop (i + 1)) (i + 1) (10 * n + ((c.toNat : Int) - 48)) else if i > 0 ∨ c.toNat ≠ 45 then none else pl (s.drop (i + 1)) (i + 1) n := rfl
    rw [hpl]
    unfold isD
    generalize c.toNat = v at *
    obtain ⟨ev, eo, so, co, ⟨hev, hco⟩, R⟩ := RULES CC; rw [← hev]
    rw [← hev] at ih
    simp only [fpart, part', Tryd.f15, Option.getD]
    by_cases c1 : (v : Int) ≥ 48
    · by_cases c2 : (v : Int) ≤ 57
      · have w1 := wrap_i64 (n := 10 * n) ⟨by omega, by omega⟩
        have w2 : IntKind.wrap .u8 ((v : Int) - 48) = (v : Int) - 48 := by simp [IntKind.wrap, IntKind.bits, IntKind.signed]; omega
        have w3 := conv_u8_i ((v : Int) - 48) ⟨by omega, by omega⟩
        have w4 := wrap_i64 (n := 10 * n + ((v : Int) - 48)) ⟨by omega, by omega⟩
        have d1 : 48 ≤ v := by omega
        have d2 : v ≤ 57 := by omega
        have hp := pow_step hn0 hn (d := (v : Int) - 48) ⟨by omega, by omega⟩
        simp (maxSteps := 5000000) only [SA, SB, SD, R, guardAt, binP, intP, indexAddrP, elemsOf, readCells, lenP, lenAt, resultsP, resultP, oneOr, reduceCtorEq, reduceIte, Nat.reduceEqDiff, Nat.reduceAdd, Nat.zero_add, Nat.reduceMul, Nat.reduceLT, Nat.reduceLeDiff, Int.reduceLT, Int.reduceNeg, Int.reduceLE, appendP, appendAt, letGo, setLoc, locVal, Int.reduceToNat, boxCells, und, TG, h0, h4, h16, h17, hi, hw, hix, c1, c2, w1, w2, w3, w4, d1, d2]
        exact ih (i + 1) _ _ (by omega) hp.1 hp.2 (by simp (maxSteps := 5000000) only [SA, SB, SD, R, guardAt, binP, intP, indexAddrP, elemsOf, readCells, lenP, lenAt, resultsP, resultP, oneOr, reduceCtorEq, reduceIte, Nat.reduceEqDiff, Nat.reduceAdd, Nat.zero_add, Nat.reduceMul, Nat.reduceLT, Nat.reduceLeDiff, Int.reduceLT, Int.reduceNeg, Int.reduceLE, appendP, appendAt, letGo, setLoc, locVal, Int.reduceToNat, boxCells, und, h0]) (by simp (maxSteps := 5000000) only [SA, SB, SD, R, guardAt, binP, intP, indexAddrP, elemsOf, readCells, lenP, lenAt, resultsP, resultP, oneOr, reduceCtorEq, reduceIte, Nat.reduceEqDiff, Nat.reduceAdd, Nat.zero_add, Nat.reduceMul, Nat.reduceLT, Nat.reduceLeDiff, Int.reduceLT, Int.reduceNeg, Int.reduceLE, appendP, appendAt, letGo, setLoc, locVal, Int.reduceToNat, boxCells, und]) (by simp (maxSteps := 5000000) only [SA, SB, SD, R, guardAt, binP, intP, indexAddrP, elemsOf, readCells, lenP, lenAt, resultsP, resultP, oneOr, reduceCtorEq, reduceIte, Nat.reduceEqDiff, Nat.reduceAdd, Nat.zero_add, Nat.reduceMul, Nat.reduceLT, Nat.reduceLeDiff, Int.reduceLT, Int.reduceNeg, Int.reduceLE, appendP, appendAt, letGo, setLoc, locVal, Int.reduceToNat, boxCells, und, h16]) (by simp (maxSteps := 5000000) only [SA, SB, SD, R, guardAt, binP, intP, indexAddrP, elemsOf, readCells, lenP, lenAt, resultsP, resultP, oneOr, reduceCtorEq, reduceIte, Nat.reduceEqDiff, Nat.reduceAdd, Nat.zero_add, Nat.reduceMul, Nat.reduceLT, Nat.reduceLeDiff, Int.reduceLT, Int.reduceNeg, Int.reduceLE, appendP, appendAt, letGo, setLoc, locVal, Int.reduceToNat, boxCells, und]; rfl)
      · have d2 : ¬ v ≤ 57 := by omega
        have c4 : ((v : Int) != 45) = true := by simp; omega
        have d4 : v ≠ 45 := by omega
        by_cases c3 : (i : Int) > 0
        · have d3 : i > 0 := by omega
          simp (maxSteps := 5000000) only [SA, SB, SD, R, guardAt, binP, intP, indexAddrP, elemsOf, readCells, lenP, lenAt, resultsP, resultP, oneOr, reduceCtorEq, reduceIte, Nat.reduceEqDiff, Nat.reduceAdd, Nat.zero_add, Nat.reduceMul, Nat.reduceLT, Nat.reduceLeDiff, Int.reduceLT, Int.reduceNeg, Int.reduceLE, appendP, appendAt, letGo, setLoc, locVal, Int.reduceToNat, boxCells, und, TG, h0, h4, h16, h17, hi, hix, c1, c2, c3, d2, d3, Bool.and_false]
          exact ⟨_, rfl, by simp (maxSteps := 5000000) only [SA, SB, SD, R, guardAt, binP, intP, indexAddrP, elemsOf, readCells, lenP, lenAt, resultsP, resultP, oneOr, reduceCtorEq, reduceIte, Nat.reduceEqDiff, Nat.reduceAdd, Nat.zero_add, Nat.reduceMul, Nat.reduceLT, Nat.reduceLeDiff, Int.reduceLT, Int.reduceNeg, Int.reduceLE, appendP, appendAt, letGo, setLoc, locVal, Int.reduceToNat, boxCells, und], by simp (maxSteps := 5000000) only [SA, SB, SD, R, guardAt, binP, intP, indexAddrP, elemsOf, readCells, lenP, lenAt, resultsP, resultP, oneOr, reduceCtorEq, reduceIte, Nat.reduceEqDiff, Nat.reduceAdd, Nat.zero_add, Nat.reduceMul, Nat.reduceLT, Nat.reduceLeDiff, Int.reduceLT, Int.reduceNeg, Int.reduceLE, appendP, appendAt, letGo, setLoc, locVal, Int.reduceToNat, boxCells, und]⟩
        · simp (maxSteps := 5000000) only [SA, SB, SD, R, guardAt, binP, intP, indexAddrP, elemsOf, readCells, lenP, lenAt, resultsP, resultP, oneOr, reduceCtorEq, reduceIte, Nat.reduceEqDiff, Nat.reduceAdd, Nat.zero_add, Nat.reduceMul, Nat.reduceLT, Nat.reduceLeDiff, Int.reduceLT, Int.reduceNeg, Int.reduceLE, appendP, appendAt, letGo, setLoc, locVal, Int.reduceToNat, boxCells, und, TG, h0, h4, h16, h17, hi, hix, c1, c2, c3, c4, d2, d4, Bool.and_false]
          exact ⟨_, rfl, by simp (maxSteps := 5000000) only [SA, SB, SD, R, guardAt, binP, intP, indexAddrP, elemsOf, readCells, lenP, lenAt, resultsP, resultP, oneOr, reduceCtorEq, reduceIte, Nat.reduceEqDiff, Nat.reduceAdd, Nat.zero_add, Nat.reduceMul, Nat.reduceLT, Nat.reduceLeDiff, Int.reduceLT, Int.reduceNeg, Int.reduceLE, appendP, appendAt, letGo, setLoc, locVal, Int.reduceToNat, boxCells, und], by simp (maxSteps := 5000000) only [SA, SB, SD, R, guardAt, binP, intP, indexAddrP, elemsOf, readCells, lenP, lenAt, resultsP, resultP, oneOr, reduceCtorEq, reduceIte, Nat.reduceEqDiff, Nat.reduceAdd, Nat.zero_add, Nat.reduceMul, Nat.reduceLT, Nat.reduceLeDiff, Int.reduceLT, Int.reduceNeg, Int.reduceLE, appendP, appendAt, letGo, setLoc, locVal, Int.reduceToNat, boxCells, und]⟩
    · have d1 : ¬ 48 ≤ v := by omega
      by_cases c3 : (i : Int) > 0
      · have d3 : i > 0 := by omega
        simp (maxSteps := 5000000) only [SA, SB, SD, R, guardAt, binP, intP, indexAddrP, elemsOf, readCells, lenP, lenAt, resultsP, resultP, oneOr, reduceCtorEq, reduceIte, Nat.reduceEqDiff, Nat.reduceAdd, Nat.zero_add, Nat.reduceMul, Nat.reduceLT, Nat.reduceLeDiff, Int.reduceLT, Int.reduceNeg, Int.reduceLE, appendP, appendAt, letGo, setLoc, locVal, Int.reduceToNat, boxCells, und, TG, h0, h4, h16, h17, hi, hix, c1, c3, d1, d3, Bool.false_and]
        exact ⟨_, rfl, by simp (maxSteps := 5000000) only [SA, SB, SD, R, guardAt, binP, intP, indexAddrP, elemsOf, readCells, lenP, lenAt, resultsP, resultP, oneOr, reduceCtorEq, reduceIte, Nat.reduceEqDiff, Nat.reduceAdd, Nat.zero_add, Nat.reduceMul, Nat.reduceLT, Nat.reduceLeDiff, Int.reduceLT, Int.reduceNeg, Int.reduceLE, appendP, appendAt, letGo, setLoc, locVal, Int.reduceToNat, boxCells, und], by simp (maxSteps := 5000000) only [SA, SB, SD, R, guardAt, binP, intP, indexAddrP, elemsOf, readCells, lenP, lenAt, resultsP, resultP, oneOr, reduceCtorEq, reduceIte, Nat.reduceEqDiff, Nat.reduceAdd, Nat.zero_add, Nat.reduceMul, Nat.reduceLT, Nat.reduceLeDiff, Int.reduceLT, Int.reduceNeg, Int.reduceLE, appendP, appendAt, letGo, setLoc, locVal, Int.reduceToNat, boxCells, und]⟩
      · have d3 : ¬ i > 0 := by omega
        by_cases c4 : v = 45
        · subst c4
          have c4 : (((45 : Nat) : Int) != 45) = false := rfl
          have hp : n < 10 ^ (i + 1) := by
            have h1 : (10 : Int) ^ (i + 1) = 10 * 10 ^ i := by rw [Int.pow_succ]; omega
            omega
          simp (maxSteps := 5000000) only [SA, SB, SD, R, guardAt, binP, intP, indexAddrP, elemsOf, readCells, lenP, lenAt, resultsP, resultP, oneOr, reduceCtorEq, reduceIte, Nat.reduceEqDiff, Nat.reduceAdd, Nat.zero_add, Nat.reduceMul, Nat.reduceLT, Nat.reduceLeDiff, Int.reduceLT, Int.reduceNeg, Int.reduceLE, appendP, appendAt, letGo, setLoc, locVal, Int.reduceToNat, boxCells, und, TG, h0, h4, h16, h17, hi, hw, hix, c1, c3, c4, d1, d3, Bool.false_and]
          exact ih (i + 1) _ n (by omega) hn0 hp (by simp (maxSteps := 5000000) only [SA, SB, SD, R, guardAt, binP, intP, indexAddrP, elemsOf, readCells, lenP, lenAt, resultsP, resultP, oneOr, reduceCtorEq, reduceIte, Nat.reduceEqDiff, Nat.reduceAdd, Nat.zero_add, Nat.reduceMul, Nat.reduceLT, Nat.reduceLeDiff, Int.reduceLT, Int.reduceNeg, Int.reduceLE, appendP, appendAt, letGo, setLoc, locVal, Int.reduceToNat, boxCells, und, h0]) (by simp (maxSteps := 5000000) only [SA, SB, SD, R, guardAt, binP, intP, indexAddrP, elemsOf, readCells, lenP, lenAt, resultsP, resultP, oneOr, reduceCtorEq, reduceIte, Nat.reduceEqDiff, Nat.reduceAdd, Nat.zero_add, Nat.reduceMul, Nat.reduceLT, Nat.reduceLeDiff, Int.reduceLT, Int.reduceNeg, Int.reduceLE, appendP, appendAt, letGo, setLoc, locVal, Int.reduceToNat, boxCells, und, h4]) (by simp (maxSteps := 5000000) only [SA, SB, SD, R, guardAt, binP, intP, indexAddrP, elemsOf, readCells, lenP, lenAt, resultsP, resultP, oneOr, reduceCtorEq, reduceIte, Nat.reduceEqDiff, Nat.reduceAdd, Nat.zero_add, Nat.reduceMul, Nat.reduceLT, Nat.reduceLeDiff, Int.reduceLT, Int.reduceNeg, Int.reduceLE, appendP, appendAt, letGo, setLoc, locVal, Int.reduceToNat, boxCells, und, h16]) (by simp (maxSteps := 5000000) only [SA, SB, SD, R, guardAt, binP, intP, indexAddrP, elemsOf, readCells, lenP, lenAt, resultsP, resultP, oneOr, reduceCtorEq, reduceIte, Nat.reduceEqDiff, Nat.reduceAdd, Nat.zero_add, Nat.reduceMul, Nat.reduceLT, Nat.reduceLeDiff, Int.reduceLT, Int.reduceNeg, Int.reduceLE, appendP, appendAt, letGo, setLoc, locVal, Int.reduceToNat, boxCells, und]; rfl)
        · have c4' : ((v : Int) != 45) = true := by simp; omega
          simp (maxSteps := 5000000) only [SA, SB, SD, R, guardAt, binP, intP, indexAddrP, elemsOf, readCells, lenP, lenAt, resultsP, resultP, oneOr, reduceCtorEq, reduceIte, Nat.reduceEqDiff, Nat.reduceAdd, Nat.zero_add, Nat.reduceMul, Nat.reduceLT, Nat.reduceLeDiff, Int.reduceLT, Int.reduceNeg, Int.reduceLE, appendP, appendAt, letGo, setLoc, locVal, Int.reduceToNat, boxCells, und, TG, h0, h4, h16, h17, hi, hix, c1, c3, c4, c4', d1, d3, Bool.false_and]
          exact ⟨_, rfl, by simp (maxSteps := 5000000) only [SA, SB, SD, R, guardAt, binP, intP, indexAddrP, elemsOf, readCells, lenP, lenAt, resultsP, resultP, oneOr, reduceCtorEq, reduceIte, Nat.reduceEqDiff, Nat.reduceAdd, Nat.zero_add, Nat.reduceMul, Nat.reduceLT, Nat.reduceLeDiff, Int.reduceLT, Int.reduceNeg, Int.reduceLE, appendP, appendAt, letGo, setLoc, locVal, Int.reduceToNat, boxCells, und], by simp (maxSteps := 5000000) only [SA, SB, SD, R, guardAt, binP, intP, indexAddrP, elemsOf, readCells, lenP, lenAt, resultsP, resultP, oneOr, reduceCtorEq, reduceIte, Nat.reduceEqDiff, Nat.reduceAdd, Nat.zero_add, Nat.reduceMul, Nat.reduceLT, Nat.reduceLeDiff, Int.reduceLT, Int.reduceNeg, Int.reduceLE, appendP, appendAt, letGo, setLoc, locVal, Int.reduceToNat, boxCells, und]⟩
theorem loop_R01_Parse (L : Code) (hL : L = fpart Tryd.f16 [1,1,1,1,0,1,0]) (s : List UInt8) (hs : s.length ≤ 14) (f : PV) : ∀ (k i : Nat) (e : List PV) (n : Int), i + k = s.length → 0 ≤ n → n < 10 ^ i → getT e 0 = .str s → getT e 4 = .int .i64 n → getT e 5 = f → getT e 6 = .int .i64 i →
    PP s f (pr (s.drop i) n) (evL CC L ⟨e, []⟩) := by
  intro k
  induction k with
  | zero =>
    intro i e n hk hn0 hn h0 h4 h5 h6
    rw [evL_at (fpart Tryd.f16 [1,1,1,1,0,1,0,0]) hL]
    have hi : ¬ ((i : Int) < (s.length : Int)) := by omega
    have hd : s.drop i = [] := List.drop_eq_nil_of_le (by omega)
    have hc := pow_cap (by omega) hn
    have hlen := len_str s
    obtain ⟨ev, eo, so, co, ⟨hev, hco⟩, R⟩ := RULES CC; rw [← hev]
    rw [hd]
    simp only [fpart, part', Tryd.f16, Option.getD]
    simp (maxSteps := 5000000) only [SA, SB, SD, R, guardAt, binP, intP, indexAddrP, elemsOf, readCells, lenP, lenAt, resultsP, resultP, oneOr, reduceCtorEq, reduceIte, Nat.reduceEqDiff, Nat.reduceAdd, Nat.zero_add, Nat.reduceMul, Nat.reduceLT, Nat.reduceLeDiff, Int.reduceLT, Int.reduceNeg, Int.reduceLE, appendP, appendAt, letGo, setLoc, locVal, Int.reduceToNat, boxCells, und, TG, h0, h6, hi]
    exact ⟨hn0, hc, _, rfl, by simp (maxSteps := 5000000) only [SA, SB, SD, R, guardAt, binP, intP, indexAddrP, elemsOf, readCells, lenP, lenAt, resultsP, resultP, oneOr, reduceCtorEq, reduceIte, Nat.reduceEqDiff, Nat.reduceAdd, Nat.zero_add, Nat.reduceMul, Nat.reduceLT, Nat.reduceLeDiff, Int.reduceLT, Int.reduceNeg, Int.reduceLE, appendP, appendAt, letGo, setLoc, locVal, Int.reduceToNat, boxCells, und, h0], by simp (maxSteps := 5000000) only [SA, SB, SD, R, guardAt, binP, intP, indexAddrP, elemsOf, readCells, lenP, lenAt, resultsP, resultP, oneOr, reduceCtorEq, reduceIte, Nat.reduceEqDiff, Nat.reduceAdd, Nat.zero_add, Nat.reduceMul, Nat.reduceLT, Nat.reduceLeDiff, Int.reduceLT, Int.reduceNeg, Int.reduceLE, appendP, appendAt, letGo, setLoc, locVal, Int.reduceToNat, boxCells, und, h4], fun _ => by simp (maxSteps := 5000000) only [SA, SB, SD, R, guardAt, binP, intP, indexAddrP, elemsOf, readCells, lenP, lenAt, resultsP, resultP, oneOr, reduceCtorEq, reduceIte, Nat.reduceEqDiff, Nat.reduceAdd, Nat.zero_add, Nat.reduceMul, Nat.reduceLT, Nat.reduceLeDiff, Int.reduceLT, Int.reduceNeg, Int.reduceLE, appendP, appendAt, letGo, setLoc, locVal, Int.reduceToNat, boxCells, und, h5]⟩
  | succ k ih =>
    intro i e n hk hn0 hn h0 h4 h5 h6
    rw [evL_at (fpart Tryd.f16 [1,1,1,1,0,1,0,0]) hL]
    have hi : (i : Int) < (s.length : Int) := by omega
    have hx : s[i]? = some s[i] := by simp
    have hdr : s.drop i = s[i] :: s.drop (i + 1) := List.drop_eq_getElem_cons (by omega)
    rw [hdr]
    generalize s[i] = c at hx ⊢
    have hix := ix_str s i c hx
    have hc := pow_cap (by omega) hn
    have hw := wrap_i64 (n := (i : Int) + 1) ⟨by omega, by omega⟩
    have h256 := UInt8.toNat_lt c
    have hpl : pr (c :: s.drop (i + 1)) n = if isD c then pr (s.drop (i + 1)) (10 * n + ((c.toNat : Int) - 48)) else none := rfl
    rw [hpl]
    unfold isD
    generalize c.toNat = v at *
    obtain ⟨ev, eo, so, co, ⟨hev, hco⟩, R⟩ := RULES CC; rw [← hev]
    rw [← hev] at ih
    simp only [fpart, part', Tryd.f16, Option.getD]
    by_cases c1 : (v : Int) < 48
    · have d1 : ¬ 48 ≤ v := by omega
      simp (maxSteps := 5000000) only [SA, SB, SD, R, guardAt, binP, intP, indexAddrP, elemsOf, readCells, lenP, lenAt, resultsP, resultP, oneOr, reduceCtorEq, reduceIte, Nat.reduceEqDiff, Nat.reduceAdd, Nat.zero_add, Nat.reduceMul, Nat.reduceLT, Nat.reduceLeDiff, Int.reduceLT, Int.reduceNeg, Int.reduceLE, appendP, appendAt, letGo, setLoc, locVal, Int.reduceToNat, boxCells, und, TG, h0, h4, h6, hi, hix, c1, d1, Bool.false_and]
      exact ⟨_, rfl, by simp (maxSteps := 5000000) only [SA, SB, SD, R, guardAt, binP, intP, indexAddrP, elemsOf, readCells, lenP, lenAt, resultsP, resultP, oneOr, reduceCtorEq, reduceIte, Nat.reduceEqDiff, Nat.reduceAdd, Nat.zero_add, Nat.reduceMul, Nat.reduceLT, Nat.reduceLeDiff, Int.reduceLT, Int.reduceNeg, Int.reduceLE, appendP, appendAt, letGo, setLoc, locVal, Int.reduceToNat, boxCells, und], by simp (maxSteps := 5000000) only [SA, SB, SD, R, guardAt, binP, intP, indexAddrP, elemsOf, readCells, lenP, lenAt, resultsP, resultP, oneOr, reduceCtorEq, reduceIte, Nat.reduceEqDiff, Nat.reduceAdd, Nat.zero_add, Nat.reduceMul, Nat.reduceLT, Nat.reduceLeDiff, Int.reduceLT, Int.reduceNeg, Int.reduceLE, appendP, appendAt, letGo, setLoc, locVal, Int.reduceToNat, boxCells, und]⟩
    · by_cases c2 : (v : Int) > 57
      · have d2 : ¬ v ≤ 57 := by omega
        simp (maxSteps := 5000000) only [SA, SB, SD, R, guardAt, binP, intP, indexAddrP, elemsOf, readCells, lenP, lenAt, resultsP, resultP, oneOr, reduceCtorEq, reduceIte, Nat.reduceEqDiff, Nat.reduceAdd, Nat.zero_add, Nat.reduceMul, Nat.reduceLT, Nat.reduceLeDiff, Int.reduceLT, Int.reduceNeg, Int.reduceLE, appendP, appendAt, letGo, setLoc, locVal, Int.reduceToNat, boxCells, und, TG, h0, h4, h6, hi, hix, c1, c2, d2, Bool.and_false]
        exact ⟨_, rfl, by simp (maxSteps := 5000000) only [SA, SB, SD, R, guardAt, binP, intP, indexAddrP, elemsOf, readCells, lenP, lenAt, resultsP, resultP, oneOr, reduceCtorEq, reduceIte, Nat.reduceEqDiff, Nat.reduceAdd, Nat.zero_add, Nat.reduceMul, Nat.reduceLT, Nat.reduceLeDiff, Int.reduceLT, Int.reduceNeg, Int.reduceLE, appendP, appendAt, letGo, setLoc, locVal, Int.reduceToNat, boxCells, und], by simp (maxSteps := 5000000) only [SA, SB, SD, R, guardAt, binP, intP, indexAddrP, elemsOf, readCells, lenP, lenAt, resultsP, resultP, oneOr, reduceCtorEq, reduceIte, Nat.reduceEqDiff, Nat.reduceAdd, Nat.zero_add, Nat.reduceMul, Nat.reduceLT, Nat.reduceLeDiff, Int.reduceLT, Int.reduceNeg, Int.reduceLE, appendP, appendAt, letGo, setLoc, locVal, Int.reduceToNat, boxCells, und]⟩
      · have w1 := wrap_i64 (n := 10 * n) ⟨by omega, by omega⟩
        have w2 : IntKind.wrap .u8 ((v : Int) - 48) = (v : Int) - 48 := by simp [IntKind.wrap, IntKind.bits, IntKind.signed]; omega
        have w3 := conv_u8_i ((v : Int) - 48) ⟨by omega, by omega⟩
        have w4 := wrap_i64 (n := 10 * n + ((v : Int) - 48)) ⟨by omega, by omega⟩
        have d1 : 48 ≤ v := by omega
        have d2 : v ≤ 57 := by omega
        have hp := pow_step hn0 hn (d := (v : Int) - 48) ⟨by omega, by omega⟩
        simp (maxSteps := 5000000) only [SA, SB, SD, R, guardAt, binP, intP, indexAddrP, elemsOf, readCells, lenP, lenAt, resultsP, resultP, oneOr, reduceCtorEq, reduceIte, Nat.reduceEqDiff, Nat.reduceAdd, Nat.zero_add, Nat.reduceMul, Nat.reduceLT, Nat.reduceLeDiff, Int.reduceLT, Int.reduceNeg, Int.reduceLE, appendP, appendAt, letGo, setLoc, locVal, Int.reduceToNat, boxCells, und, TG, h0, h4, h6, hi, hw, hix, c1, c2, w1, w2, w3, w4, d1, d2]
        exact ih (i + 1) _ _ (by omega) hp.1 hp.2 (by simp (maxSteps := 5000000) only [SA, SB, SD, R, guardAt, binP, intP, indexAddrP, elemsOf, readCells, lenP, lenAt, resultsP, resultP, oneOr, reduceCtorEq, reduceIte, Nat.reduceEqDiff, Nat.reduceAdd, Nat.zero_add, Nat.reduceMul, Nat.reduceLT, Nat.reduceLeDiff, Int.reduceLT, Int.reduceNeg, Int.reduceLE, appendP, appendAt, letGo, setLoc, locVal, Int.reduceToNat, boxCells, und, h0]) (by simp (maxSteps := 5000000) only [SA, SB, SD, R, guardAt, binP, intP, indexAddrP, elemsOf, readCells, lenP, lenAt, resultsP, resultP, oneOr, reduceCtorEq, reduceIte, Nat.reduceEqDiff, Nat.reduceAdd, Nat.zero_add, Nat.reduceMul, Nat.reduceLT, Nat.reduceLeDiff, Int.reduceLT, Int.reduceNeg, Int.reduceLE, appendP, appendAt, letGo, setLoc, locVal, Int.reduceToNat, boxCells, und]) (by simp (maxSteps := 5000000) only [SA, SB, SD, R, guardAt, binP, intP, indexAddrP, elemsOf, readCells, lenP, lenAt, resultsP, resultP, oneOr, reduceCtorEq, reduceIte, Nat.reduceEqDiff, Nat.reduceAdd, Nat.zero_add, Nat.reduceMul, Nat.reduceLT, Nat.reduceLeDiff, Int.reduceLT, Int.reduceNeg, Int.reduceLE, appendP, appendAt, letGo, setLoc, locVal, Int.reduceToNat, boxCells, und, h5]) (by simp (maxSteps := 5000000) only [SA, SB, SD, R, guardAt, binP, intP, indexAddrP, elemsOf, readCells, lenP, lenAt, resultsP, resultP, oneOr, reduceCtorEq, reduceIte, Nat.reduceEqDiff, Nat.reduceAdd, Nat.zero_add, Nat.reduceMul, Nat.reduceLT, Nat.reduceLeDiff, Int.reduceLT, Int.reduceNeg, Int.reduceLE, appendP, appendAt, letGo, setLoc, locVal, Int.reduceToNat, boxCells, und]; rfl)
/-- what both say of a text -/
def parseI (s : List UInt8) : Int × Bool :=
  if s.length = 0 ∨ s.length > 14 then (0, false)
  else match pl s 0 0 with
    | none => (0, false)
    | some n => let m := if s.head? = some 45 then -n else n
      if satI m = m ∧ Lib.itoa m = s then (m, true) else (0, false)
theorem call_num_Parse (s : List UInt8) (hs : s.length ≤ maxLen) : callL CC 15 [.str s] [] = some (.ret (.tup [.int .i64 (parseI s).1, .bool (parseI s).2]), []) := by
  rw [callL_enter (fn := Tryd.f15) (c := Tryd.f15.body.getD .skip) rfl fat_num_Parse rfl ok_num_Parse (Nat.le_of_ble_eq_true rfl)]
  have hl := len_str s
  unfold parseI
  by_cases c1 : (s.length : Int) = 0
  · have c1' : s.length = 0 := by omega
    obtain ⟨ev, eo, so, co, ⟨hev, hco⟩, R⟩ := RULES CC; rw [← hev]
    simp only [fpart, part', Tryd.f15, Option.getD]
    have zz : (((0 : Nat) : Int) == 0) = true := rfl
    simp (maxSteps := 5000000) only [SA, SB, SD, R, guardAt, binP, intP, indexAddrP, elemsOf, readCells, lenP, lenAt, resultsP, resultP, oneOr, reduceCtorEq, reduceIte, Nat.reduceEqDiff, Nat.reduceAdd, Nat.zero_add, Nat.reduceMul, Nat.reduceLT, Nat.reduceLeDiff, Int.reduceLT, Int.reduceNeg, Int.reduceLE, appendP, appendAt, letGo, setLoc, locVal, Int.reduceToNat, boxCells, und, TG, zz, c1']
  · have c1b : ((s.length : Int) == 0) = false := by simpa using c1
    have c1' : ¬ s.length = 0 := by omega
    by_cases c2 : (s.length : Int) > 14
    · have c2' : s.length > 14 := by omega
      obtain ⟨ev, eo, so, co, ⟨hev, hco⟩, R⟩ := RULES CC; rw [← hev]
      simp only [fpart, part', Tryd.f15, Option.getD]
      simp (maxSteps := 5000000) only [SA, SB, SD, R, guardAt, binP, intP, indexAddrP, elemsOf, readCells, lenP, lenAt, resultsP, resultP, oneOr, reduceCtorEq, reduceIte, Nat.reduceEqDiff, Nat.reduceAdd, Nat.zero_add, Nat.reduceMul, Nat.reduceLT, Nat.reduceLeDiff, Int.reduceLT, Int.reduceNeg, Int.reduceLE, appendP, appendAt, letGo, setLoc, locVal, Int.reduceToNat, boxCells, und, TG, c1b, c1', c2, c2']
    · have c2' : ¬ s.length > 14 := by omega
      have hloop := fun e => loop_num_Parse _ rfl s (by omega) s.length 0 e 0 (by omega) (by omega) (by simp)
      rw [if_neg (by omega)]
      have hx : s[0]? = some (s[0]'(by omega)) := by simp
      have hh : s.head? = some (s[0]'(by omega)) := by rw [List.head?_eq_getElem?]; exact hx
      generalize s[0]'(by omega) = c at hx hh
      have hix := ix_str0 s c hx
      obtain ⟨ev, eo, so, co, ⟨hev, hco⟩, R⟩ := RULES CC; rw [← hev]; have o_num_Sat := @op_num_Sat; rw [← hco] at o_num_Sat; have o_num_Digits := @op_num_Digits; rw [← hco] at o_num_Digits
      rw [← hev] at hloop
      simp only [fpart, part', Tryd.f15, Option.getD] at hloop ⊢
      simp (maxSteps := 5000000) only [SA, SB, SD, R, guardAt, binP, intP, indexAddrP, elemsOf, readCells, lenP, lenAt, resultsP, resultP, oneOr, reduceCtorEq, reduceIte, Nat.reduceEqDiff, Nat.reduceAdd, Nat.zero_add, Nat.reduceMul, Nat.reduceLT, Nat.reduceLeDiff, Int.reduceLT, Int.reduceNeg, Int.reduceLE, appendP, appendAt, letGo, setLoc, locVal, Int.reduceToNat, boxCells, und, TG, c1b, c2]
      generalize hE : ev _ ⟨_, _⟩ = r
      rw [List.drop_zero] at hloop
      have hP : PP s .top (pl s 0 0) r := by
        rw [← hE]
        exact hloop _ (by simp (maxSteps := 5000000) only [SA, SB, SD, R, guardAt, binP, intP, indexAddrP, elemsOf, readCells, lenP, lenAt, resultsP, resultP, oneOr, reduceCtorEq, reduceIte, Nat.reduceEqDiff, Nat.reduceAdd, Nat.zero_add, Nat.reduceMul, Nat.reduceLT, Nat.reduceLeDiff, Int.reduceLT, Int.reduceNeg, Int.reduceLE, appendP, appendAt, letGo, setLoc, locVal, Int.reduceToNat, boxCells, und]) (by simp (maxSteps := 5000000) only [SA, SB, SD, R, guardAt, binP, intP, indexAddrP, elemsOf, readCells, lenP, lenAt, resultsP, resultP, oneOr, reduceCtorEq, reduceIte, Nat.reduceEqDiff, Nat.reduceAdd, Nat.zero_add, Nat.reduceMul, Nat.reduceLT, Nat.reduceLeDiff, Int.reduceLT, Int.reduceNeg, Int.reduceLE, appendP, appendAt, letGo, setLoc, locVal, Int.reduceToNat, boxCells, und]) (by simp (maxSteps := 5000000) only [SA, SB, SD, R, guardAt, binP, intP, indexAddrP, elemsOf, readCells, lenP, lenAt, resultsP, resultP, oneOr, reduceCtorEq, reduceIte, Nat.reduceEqDiff, Nat.reduceAdd, Nat.zero_add, Nat.reduceMul, Nat.reduceLT, Nat.reduceLeDiff, Int.reduceLT, Int.reduceNeg, Int.reduceLE, appendP, appendAt, letGo, setLoc, locVal, Int.reduceToNat, boxCells, und]) (by simp (maxSteps := 5000000) only [SA, SB, SD, R, guardAt, binP, intP, indexAddrP, elemsOf, readCells, lenP, lenAt, resultsP, resultP, oneOr, reduceCtorEq, reduceIte, Nat.reduceEqDiff, Nat.reduceAdd, Nat.zero_add, Nat.reduceMul, Nat.reduceLT, Nat.reduceLeDiff, Int.reduceLT, Int.reduceNeg, Int.reduceLE, appendP, appendAt, letGo, setLoc, locVal, Int.reduceToNat, boxCells, und]; rfl)
      clear hE hloop
      cases hp : pl s 0 0 with
      | some n' =>
        rw [hp] at hP
        obtain ⟨hn0, hn1, e', he, g0, g4, _⟩ := hP
        subst he
        rw [hh]
        simp only
        have hneg : ((c.toNat : Int) == 45) = decide (some c = some 45) := by
          have : (some c = some (45 : UInt8)) ↔ ((c.toNat : Int) = 45) := by
            rw [Option.some.injEq, ← UInt8.toNat_inj]
            have : (45 : UInt8).toNat = 45 := rfl
            omega
          rw [decide_eq_decide.2 this]
          rfl
        by_cases c3 : some c = some (45 : UInt8)
        · rw [if_pos c3]
          rw [decide_eq_true c3] at hneg
          have w := wrap_i64 (n := -n') ⟨by omega, by omega⟩
          have hd := o_num_Digits (-n') ⟨by omega, by omega⟩
          by_cases c4 : satI (-n') = -n'
          · by_cases c5 : Lib.itoa (-n') = s
            · have c5' : (s == s) = true := by simp
              simp (maxSteps := 5000000) only [SA, SB, SD, R, guardAt, binP, intP, indexAddrP, elemsOf, readCells, lenP, lenAt, resultsP, resultP, oneOr, reduceCtorEq, reduceIte, Nat.reduceEqDiff, Nat.reduceAdd, Nat.zero_add, Nat.reduceMul, Nat.reduceLT, Nat.reduceLeDiff, Int.reduceLT, Int.reduceNeg, Int.reduceLE, appendP, appendAt, letGo, setLoc, locVal, Int.reduceToNat, boxCells, und, TG, unP, strP, g0, g4, hix, hneg, Int.zero_sub, w, o_num_Sat, hd, c4, c5, c5']
            · have c5' : (Lib.itoa (-n') == s) = false := by simpa using c5
              simp (maxSteps := 5000000) only [SA, SB, SD, R, guardAt, binP, intP, indexAddrP, elemsOf, readCells, lenP, lenAt, resultsP, resultP, oneOr, reduceCtorEq, reduceIte, Nat.reduceEqDiff, Nat.reduceAdd, Nat.zero_add, Nat.reduceMul, Nat.reduceLT, Nat.reduceLeDiff, Int.reduceLT, Int.reduceNeg, Int.reduceLE, appendP, appendAt, letGo, setLoc, locVal, Int.reduceToNat, boxCells, und, TG, unP, strP, g0, g4, hix, hneg, Int.zero_sub, w, o_num_Sat, hd, c4, c5, c5', and_false]
          · have c4' : (satI (-n') != -n') = true := by simpa using c4
            simp (maxSteps := 5000000) only [SA, SB, SD, R, guardAt, binP, intP, indexAddrP, elemsOf, readCells, lenP, lenAt, resultsP, resultP, oneOr, reduceCtorEq, reduceIte, Nat.reduceEqDiff, Nat.reduceAdd, Nat.zero_add, Nat.reduceMul, Nat.reduceLT, Nat.reduceLeDiff, Int.reduceLT, Int.reduceNeg, Int.reduceLE, appendP, appendAt, letGo, setLoc, locVal, Int.reduceToNat, boxCells, und, TG, unP, strP, g0, g4, hix, hneg, Int.zero_sub, w, o_num_Sat, hd, c4, c4', false_and]
        · rw [if_neg c3]
          rw [decide_eq_false c3] at hneg
          have hd := o_num_Digits n' ⟨by omega, by omega⟩
          by_cases c4 : satI n' = n'
          · by_cases c5 : Lib.itoa n' = s
            · have c5' : (s == s) = true := by simp
              simp (maxSteps := 5000000) only [SA, SB, SD, R, guardAt, binP, intP, indexAddrP, elemsOf, readCells, lenP, lenAt, resultsP, resultP, oneOr, reduceCtorEq, reduceIte, Nat.reduceEqDiff, Nat.reduceAdd, Nat.zero_add, Nat.reduceMul, Nat.reduceLT, Nat.reduceLeDiff, Int.reduceLT, Int.reduceNeg, Int.reduceLE, appendP, appendAt, letGo, setLoc, locVal, Int.reduceToNat, boxCells, und, TG, strP, g0, g4, hix, hneg, o_num_Sat, hd, c4, c5, c5']
            · have c5' : (Lib.itoa n' == s) = false := by simpa using c5
              simp (maxSteps := 5000000) only [SA, SB, SD, R, guardAt, binP, intP, indexAddrP, elemsOf, readCells, lenP, lenAt, resultsP, resultP, oneOr, reduceCtorEq, reduceIte, Nat.reduceEqDiff, Nat.reduceAdd, Nat.zero_add, Nat.reduceMul, Nat.reduceLT, Nat.reduceLeDiff, Int.reduceLT, Int.reduceNeg, Int.reduceLE, appendP, appendAt, letGo, setLoc, locVal, Int.reduceToNat, boxCells, und, TG, strP, g0, g4, hix, hneg, o_num_Sat, hd, c4, c5, c5', and_false]
          · have c4' : (satI n' != n') = true := by simpa using c4
            simp (maxSteps := 5000000) only [SA, SB, SD, R, guardAt, binP, intP, indexAddrP, elemsOf, readCells, lenP, lenAt, resultsP, resultP, oneOr, reduceCtorEq, reduceIte, Nat.reduceEqDiff, Nat.reduceAdd, Nat.zero_add, Nat.reduceMul, Nat.reduceLT, Nat.reduceLeDiff, Int.reduceLT, Int.reduceNeg, Int.reduceLE, appendP, appendAt, letGo, setLoc, locVal, Int.reduceToNat, boxCells, und, TG, strP, g0, g4, hix, hneg, o_num_Sat, hd, c4, c4', false_and]
      | none =>
        rw [hp] at hP
        obtain ⟨e', he, g2, g3⟩ := hP
        subst he
        simp (maxSteps := 5000000) only [SA, SB, SD, R, guardAt, binP, intP, indexAddrP, elemsOf, readCells, lenP, lenAt, resultsP, resultP, oneOr, reduceCtorEq, reduceIte, Nat.reduceEqDiff, Nat.reduceAdd, Nat.zero_add, Nat.reduceMul, Nat.reduceLT, Nat.reduceLeDiff, Int.reduceLT, Int.reduceNeg, Int.reduceLE, appendP, appendAt, letGo, setLoc, locVal, Int.reduceToNat, boxCells, und, TG, g2, g3]
theorem op_num_Parse (s : List UInt8) (hs : s.length ≤ maxLen) (bx) : callOp CC (callL CC) 15 [.str s] bx = some (.ret (.tup [.int .i64 (parseI s).1, .bool (parseI s).2]), bx) := callOp_of rfl (by simp only [SA, Bool.and_true]) (call_num_Parse s hs) rfl
theorem pl_zero (s : List UInt8) : pl s 0 0 = if s.head? = some 45 then pr (s.drop 1) 0 else pr s 0 := by
  cases s with
  | nil => rfl
  | cons c r =>
    have hc : c.toNat = 45 ↔ c = 45 := by rw [← UInt8.toNat_inj]; rfl
    by_cases h : c = 45
    · subst h
      rw [if_pos (show (45 :: r).head? = some 45 from rfl)]
      show pl (45 :: r) 0 0 = pr r 0
      rw [pl, if_neg (by decide), if_neg (by decide), pl_pr _ _ _ (by omega)]
    · have hn : ¬ c.toNat = 45 := fun e => h (hc.1 e)
      rw [if_neg (by simpa using h), pl, pr, pl_pr _ _ _ (by omega)]
      split
      · rfl
      · rw [if_pos (Or.inr hn)]
theorem satI_iff (m : Int) : satI m = m ↔ ¬ m > 1099511627776 ∧ ¬ m < -1099511627776 := by
  unfold satI
  split
  · omega
  · split <;> omega
theorem call_R01_Parse (s : List UInt8) (hs : s.length ≤ maxLen) : callL CC 16 [.str s] [] = some (.ret (.tup [.int .i64 (parseI s).1, .bool (parseI s).2]), []) := by
  rw [callL_enter (fn := Tryd.f16) (c := Tryd.f16.body.getD .skip) rfl fat_R01_Parse rfl ok_R01_Parse (Nat.le_of_ble_eq_true rfl)]
  have hl := len_str s
  by_cases c2 : (s.length : Int) > 14
  · have c2' : s.length > 14 := by omega
    have e : parseI s = (0, false) := by unfold parseI; rw [if_pos (Or.inr c2')]
    rw [e]
    obtain ⟨ev, eo, so, co, ⟨hev, hco⟩, R⟩ := RULES CC; rw [← hev]
    simp only [fpart, part', Tryd.f16, Option.getD]
    simp (maxSteps := 5000000) only [SA, SB, SD, R, guardAt, binP, intP, indexAddrP, elemsOf, readCells, lenP, lenAt, resultsP, resultP, oneOr, reduceCtorEq, reduceIte, Nat.reduceEqDiff, Nat.reduceAdd, Nat.zero_add, Nat.reduceMul, Nat.reduceLT, Nat.reduceLeDiff, Int.reduceLT, Int.reduceNeg, Int.reduceLE, appendP, appendAt, letGo, setLoc, locVal, Int.reduceToNat, boxCells, und, TG, c2]
  · have hs14 : s.length ≤ 14 := by omega
    have hpz := pl_zero s
    by_cases c3 : s.head? = some 45
    · have hne : s.length ≠ 0 := by intro h; rw [List.length_eq_zero_iff.1 h] at c3; cases c3
      have hx : s[0]? = some 45 := by rw [← List.head?_eq_getElem?]; exact c3
      have hix := ix_str0 s 45 hx
      have c4 : (s.length : Int) > 0 := by omega
      have h45 : ((45 : UInt8).toNat : Int) = 45 := rfl
      rw [h45] at hix
      have hsn : (s == []) = false := by
        cases s with
        | nil => cases c3
        | cons => rfl
      rw [if_pos c3] at hpz
      have hloop := fun e => loop_R01_Parse _ rfl s hs14 (.int .i64 1) (s.length - 1) 1 e 0 (by omega) (by omega) (by decide)
      have e : parseI s = match pr (s.drop 1) 0 with
          | none => (0, false)
          | some n => if satI (-n) = -n ∧ Lib.itoa (-n) = s then (-n, true) else (0, false) := by
        unfold parseI
        rw [if_neg (by omega), hpz, c3]
        cases pr (s.drop 1) 0 <;> rfl
      rw [e]
      obtain ⟨ev, eo, so, co, ⟨hev, hco⟩, R⟩ := RULES CC; rw [← hev]; have o_R01_Digits := @op_R01_Digits; rw [← hco] at o_R01_Digits
      rw [← hev] at hloop
      simp only [fpart, part', Tryd.f16, Option.getD] at hloop ⊢
      simp (maxSteps := 5000000) only [SA, SB, SD, R, guardAt, binP, intP, indexAddrP, elemsOf, readCells, lenP, lenAt, resultsP, resultP, oneOr, reduceCtorEq, reduceIte, Nat.reduceEqDiff, Nat.reduceAdd, Nat.zero_add, Nat.reduceMul, Nat.reduceLT, Nat.reduceLeDiff, Int.reduceLT, Int.reduceNeg, Int.reduceLE, appendP, appendAt, letGo, setLoc, locVal, Int.reduceToNat, boxCells, und, TG, c2, c4, hix, Int.reduceBEq]
      generalize hE : ev _ ⟨_, _⟩ = r
      have hP : PP s (.int .i64 1) (pr (s.drop 1) 0) r := by
        rw [← hE]
        exact hloop _ (by simp (maxSteps := 5000000) only [SA, SB, SD, R, guardAt, binP, intP, indexAddrP, elemsOf, readCells, lenP, lenAt, resultsP, resultP, oneOr, reduceCtorEq, reduceIte, Nat.reduceEqDiff, Nat.reduceAdd, Nat.zero_add, Nat.reduceMul, Nat.reduceLT, Nat.reduceLeDiff, Int.reduceLT, Int.reduceNeg, Int.reduceLE, appendP, appendAt, letGo, setLoc, locVal, Int.reduceToNat, boxCells, und]) (by simp (maxSteps := 5000000) only [SA, SB, SD, R, guardAt, binP, intP, indexAddrP, elemsOf, readCells, lenP, lenAt, resultsP, resultP, oneOr, reduceCtorEq, reduceIte, Nat.reduceEqDiff, Nat.reduceAdd, Nat.zero_add, Nat.reduceMul, Nat.reduceLT, Nat.reduceLeDiff, Int.reduceLT, Int.reduceNeg, Int.reduceLE, appendP, appendAt, letGo, setLoc, locVal, Int.reduceToNat, boxCells, und]) (by simp (maxSteps := 5000000) only [SA, SB, SD, R, guardAt, binP, intP, indexAddrP, elemsOf, readCells, lenP, lenAt, resultsP, resultP, oneOr, reduceCtorEq, reduceIte, Nat.reduceEqDiff, Nat.reduceAdd, Nat.zero_add, Nat.reduceMul, Nat.reduceLT, Nat.reduceLeDiff, Int.reduceLT, Int.reduceNeg, Int.reduceLE, appendP, appendAt, letGo, setLoc, locVal, Int.reduceToNat, boxCells, und]) (by simp (maxSteps := 5000000) only [SA, SB, SD, R, guardAt, binP, intP, indexAddrP, elemsOf, readCells, lenP, lenAt, resultsP, resultP, oneOr, reduceCtorEq, reduceIte, Nat.reduceEqDiff, Nat.reduceAdd, Nat.zero_add, Nat.reduceMul, Nat.reduceLT, Nat.reduceLeDiff, Int.reduceLT, Int.reduceNeg, Int.reduceLE, appendP, appendAt, letGo, setLoc, locVal, Int.reduceToNat, boxCells, und]; rfl)
      clear hE hloop
      cases hp : pr (s.drop 1) 0 with
      | some n' =>
        rw [hp] at hP
        obtain ⟨hn0, hn1, e', he, g0, g4, g5⟩ := hP
        subst he
        have g5 := g5 (fun h => by cases h)
        have w := wrap_i64 (n := -n') ⟨by omega, by omega⟩
        have hd := o_R01_Digits (-n') ⟨by omega, by omega⟩
        have hsat := satI_iff (-n')
        by_cases d1 : -n' > 1099511627776
        · have d3 : ¬ satI (-n') = -n' := fun h => (hsat.1 h).1 d1
          simp (maxSteps := 5000000) only [SA, SB, SD, R, guardAt, binP, intP, indexAddrP, elemsOf, readCells, lenP, lenAt, resultsP, resultP, oneOr, reduceCtorEq, reduceIte, Nat.reduceEqDiff, Nat.reduceAdd, Nat.zero_add, Nat.reduceMul, Nat.reduceLT, Nat.reduceLeDiff, Int.reduceLT, Int.reduceNeg, Int.reduceLE, appendP, appendAt, letGo, setLoc, locVal, Int.reduceToNat, boxCells, und, TG, unP, strP, g0, g4, g5, Int.zero_sub, w, hd, hsn, d1, d3, false_and, Int.reduceBEq]
        · by_cases d2 : -n' < -1099511627776
          · have d3 : ¬ satI (-n') = -n' := fun h => (hsat.1 h).2 d2
            simp (maxSteps := 5000000) only [SA, SB, SD, R, guardAt, binP, intP, indexAddrP, elemsOf, readCells, lenP, lenAt, resultsP, resultP, oneOr, reduceCtorEq, reduceIte, Nat.reduceEqDiff, Nat.reduceAdd, Nat.zero_add, Nat.reduceMul, Nat.reduceLT, Nat.reduceLeDiff, Int.reduceLT, Int.reduceNeg, Int.reduceLE, appendP, appendAt, letGo, setLoc, locVal, Int.reduceToNat, boxCells, und, TG, unP, strP, g0, g4, g5, Int.zero_sub, w, hd, hsn, d1, d2, d3, false_and, Int.reduceBEq]
          · have d3 : satI (-n') = -n' := hsat.2 ⟨d1, d2⟩
            by_cases c5 : Lib.itoa (-n') = s
            · have c5' : (s == s) = true := by simp
              simp (maxSteps := 5000000) only [SA, SB, SD, R, guardAt, binP, intP, indexAddrP, elemsOf, readCells, lenP, lenAt, resultsP, resultP, oneOr, reduceCtorEq, reduceIte, Nat.reduceEqDiff, Nat.reduceAdd, Nat.zero_add, Nat.reduceMul, Nat.reduceLT, Nat.reduceLeDiff, Int.reduceLT, Int.reduceNeg, Int.reduceLE, appendP, appendAt, letGo, setLoc, locVal, Int.reduceToNat, boxCells, und, TG, unP, strP, g0, g4, g5, Int.zero_sub, w, hd, hsn, d1, d2, d3, c5, c5', Int.reduceBEq]
            · have c5' : (Lib.itoa (-n') == s) = false := by simpa using c5
              simp (maxSteps := 5000000) only [SA, SB, SD, R, guardAt, binP, intP, indexAddrP, elemsOf, readCells, lenP, lenAt, resultsP, resultP, oneOr, reduceCtorEq, reduceIte, Nat.reduceEqDiff, Nat.reduceAdd, Nat.zero_add, Nat.reduceMul, Nat.reduceLT, Nat.reduceLeDiff, Int.reduceLT, Int.reduceNeg, Int.reduceLE, appendP, appendAt, letGo, setLoc, locVal, Int.reduceToNat, boxCells, und, TG, unP, strP, g0, g4, g5, Int.zero_sub, w, hd, hsn, d1, d2, d3, c5, c5', and_false, Int.reduceBEq]
      | none =>
        rw [hp] at hP
        obtain ⟨e', he, g2, g3⟩ := hP
        subst he
        simp (maxSteps := 5000000) only [SA, SB, SD, R, guardAt, binP, intP, indexAddrP, elemsOf, readCells, lenP, lenAt, resultsP, resultP, oneOr, reduceCtorEq, reduceIte, Nat.reduceEqDiff, Nat.reduceAdd, Nat.zero_add, Nat.reduceMul, Nat.reduceLT, Nat.reduceLeDiff, Int.reduceLT, Int.reduceNeg, Int.reduceLE, appendP, appendAt, letGo, setLoc, locVal, Int.reduceToNat, boxCells, und, TG, g2, g3]
    · rw [if_neg c3] at hpz
      have hloop := fun e => loop_R01_Parse _ rfl s hs14 (.int .i64 0) s.length 0 e 0 (by omega) (by omega) (by decide)
      rw [List.drop_zero] at hloop
      have e : parseI s = if s = [] then (0, false) else match pr s 0 with
          | none => (0, false)
          | some n => if satI n = n ∧ Lib.itoa n = s then (n, true) else (0, false) := by
        unfold parseI
        by_cases h : s = []
        · subst h; rfl
        · have : s.length ≠ 0 := fun e => h (List.length_eq_zero_iff.1 e)
          rw [if_neg (by omega), if_neg h, hpz]
          cases pr s 0 with
          | none => rfl
          | some n => simp only; rw [if_neg c3]
      rw [e]
      obtain ⟨ev, eo, so, co, ⟨hev, hco⟩, R⟩ := RULES CC; rw [← hev]; have o_R01_Digits := @op_R01_Digits; rw [← hco] at o_R01_Digits
      rw [← hev] at hloop
      simp only [fpart, part', Tryd.f16, Option.getD] at hloop ⊢
      by_cases c4 : (s.length : Int) > 0
      · have hx : s[0]? = some (s[0]'(by omega)) := by simp
        have hh : s.head? = some (s[0]'(by omega)) := by rw [List.head?_eq_getElem?]; exact hx
        generalize s[0]'(by omega) = c at hx hh
        have hix := ix_str0 s c hx
        have hneg : ((c.toNat : Int) == 45) = false := by
          have : ¬ c.toNat = 45 := fun h => c3 (by rw [hh]; congr 1; exact UInt8.toNat_inj.1 h)
          simp; omega
        have hne : s ≠ [] := fun h => by subst h; simp at c4
        have hsn : (s == []) = false := by simpa using hne
        simp (maxSteps := 5000000) only [SA, SB, SD, R, guardAt, binP, intP, indexAddrP, elemsOf, readCells, lenP, lenAt, resultsP, resultP, oneOr, reduceCtorEq, reduceIte, Nat.reduceEqDiff, Nat.reduceAdd, Nat.zero_add, Nat.reduceMul, Nat.reduceLT, Nat.reduceLeDiff, Int.reduceLT, Int.reduceNeg, Int.reduceLE, appendP, appendAt, letGo, setLoc, locVal, Int.reduceToNat, boxCells, und, TG, c2, c4, hix, hneg, hne]
        generalize hE : ev _ ⟨_, _⟩ = r
        have hP : PP s (.int .i64 0) (pr s 0) r := by
          rw [← hE]
          exact hloop _ (by simp (maxSteps := 5000000) only [SA, SB, SD, R, guardAt, binP, intP, indexAddrP, elemsOf, readCells, lenP, lenAt, resultsP, resultP, oneOr, reduceCtorEq, reduceIte, Nat.reduceEqDiff, Nat.reduceAdd, Nat.zero_add, Nat.reduceMul, Nat.reduceLT, Nat.reduceLeDiff, Int.reduceLT, Int.reduceNeg, Int.reduceLE, appendP, appendAt, letGo, setLoc, locVal, Int.reduceToNat, boxCells, und]) (by simp (maxSteps := 5000000) only [SA, SB, SD, R, guardAt, binP, intP, indexAddrP, elemsOf, readCells, lenP, lenAt, resultsP, resultP, oneOr, reduceCtorEq, reduceIte, Nat.reduceEqDiff, Nat.reduceAdd, Nat.zero_add, Nat.reduceMul, Nat.reduceLT, Nat.reduceLeDiff, Int.reduceLT, Int.reduceNeg, Int.reduceLE, appendP, appendAt, letGo, setLoc, locVal, Int.reduceToNat, boxCells, und]) (by simp (maxSteps := 5000000) only [SA, SB, SD, R, guardAt, binP, intP, indexAddrP, elemsOf, readCells, lenP, lenAt, resultsP, resultP, oneOr, reduceCtorEq, reduceIte, Nat.reduceEqDiff, Nat.reduceAdd, Nat.zero_add, Nat.reduceMul, Nat.reduceLT, Nat.reduceLeDiff, Int.reduceLT, Int.reduceNeg, Int.reduceLE, appendP, appendAt, letGo, setLoc, locVal, Int.reduceToNat, boxCells, und]) (by simp (maxSteps := 5000000) only [SA, SB, SD, R, guardAt, binP, intP, indexAddrP, elemsOf, readCells, lenP, lenAt, resultsP, resultP, oneOr, reduceCtorEq, reduceIte, Nat.reduceEqDiff, Nat.reduceAdd, Nat.zero_add, Nat.reduceMul, Nat.reduceLT, Nat.reduceLeDiff, Int.reduceLT, Int.reduceNeg, Int.reduceLE, appendP, appendAt, letGo, setLoc, locVal, Int.reduceToNat, boxCells, und]; rfl)
        clear hE hloop
        cases hp : pr s 0 with
        | some n' =>
          rw [hp] at hP
          obtain ⟨hn0, hn1, e', he, g0, g4, g5⟩ := hP
          subst he
          have g5 := g5 (fun h => by cases h)
          have hd := o_R01_Digits n' ⟨by omega, by omega⟩
          have hsat := satI_iff n'
          by_cases d1 : n' > 1099511627776
          · have d3 : ¬ satI n' = n' := fun h => (hsat.1 h).1 d1
            simp (maxSteps := 5000000) only [SA, SB, SD, R, guardAt, binP, intP, indexAddrP, elemsOf, readCells, lenP, lenAt, resultsP, resultP, oneOr, reduceCtorEq, reduceIte, Nat.reduceEqDiff, Nat.reduceAdd, Nat.zero_add, Nat.reduceMul, Nat.reduceLT, Nat.reduceLeDiff, Int.reduceLT, Int.reduceNeg, Int.reduceLE, appendP, appendAt, letGo, setLoc, locVal, Int.reduceToNat, boxCells, und, TG, strP, g0, g4, g5, hd, hsn, d1, d3, false_and, Int.reduceBEq]
          · have d2 : ¬ n' < -1099511627776 := by omega
            have d3 : satI n' = n' := hsat.2 ⟨d1, d2⟩
            by_cases c5 : Lib.itoa n' = s
            · have c5' : (s == s) = true := by simp
              simp (maxSteps := 5000000) only [SA, SB, SD, R, guardAt, binP, intP, indexAddrP, elemsOf, readCells, lenP, lenAt, resultsP, resultP, oneOr, reduceCtorEq, reduceIte, Nat.reduceEqDiff, Nat.reduceAdd, Nat.zero_add, Nat.reduceMul, Nat.reduceLT, Nat.reduceLeDiff, Int.reduceLT, Int.reduceNeg, Int.reduceLE, appendP, appendAt, letGo, setLoc, locVal, Int.reduceToNat, boxCells, und, TG, strP, g0, g4, g5, hd, hsn, d1, d2, d3, c5, c5', Int.reduceBEq]
            · have c5' : (Lib.itoa n' == s) = false := by simpa using c5
              simp (maxSteps := 5000000) only [SA, SB, SD, R, guardAt, binP, intP, indexAddrP, elemsOf, readCells, lenP, lenAt, resultsP, resultP, oneOr, reduceCtorEq, reduceIte, Nat.reduceEqDiff, Nat.reduceAdd, Nat.zero_add, Nat.reduceMul, Nat.reduceLT, Nat.reduceLeDiff, Int.reduceLT, Int.reduceNeg, Int.reduceLE, appendP, appendAt, letGo, setLoc, locVal, Int.reduceToNat, boxCells, und, TG, strP, g0, g4, g5, hd, hsn, d1, d2, d3, c5, c5', and_false, Int.reduceBEq]
        | none =>
          rw [hp] at hP
          obtain ⟨e', he, g2, g3⟩ := hP
          subst he
          simp (maxSteps := 5000000) only [SA, SB, SD, R, guardAt, binP, intP, indexAddrP, elemsOf, readCells, lenP, lenAt, resultsP, resultP, oneOr, reduceCtorEq, reduceIte, Nat.reduceEqDiff, Nat.reduceAdd, Nat.zero_add, Nat.reduceMul, Nat.reduceLT, Nat.reduceLeDiff, Int.reduceLT, Int.reduceNeg, Int.reduceLE, appendP, appendAt, letGo, setLoc, locVal, Int.reduceToNat, boxCells, und, TG, g2, g3]
      · have hnil : s = [] := List.length_eq_zero_iff.1 (by omega)
        subst hnil
        have z0 : ¬ (((0 : Nat) : Int) > 14) := by decide
        have z1 : ¬ (((0 : Nat) : Int) > 0) := by decide
        have zz : (([] : List UInt8) == []) = true := rfl
        simp (maxSteps := 5000000) only [SA, SB, SD, R, guardAt, binP, intP, indexAddrP, elemsOf, readCells, lenP, lenAt, resultsP, resultP, oneOr, reduceCtorEq, reduceIte, Nat.reduceEqDiff, Nat.reduceAdd, Nat.zero_add, Nat.reduceMul, Nat.reduceLT, Nat.reduceLeDiff, Int.reduceLT, Int.reduceNeg, Int.reduceLE, appendP, appendAt, letGo, setLoc, locVal, Int.reduceToNat, boxCells, und, TG, z0, z1, hl]
        generalize hE : ev _ ⟨_, _⟩ = r
        have hP : PP [] (.int .i64 0) (pr [] 0) r := by
          rw [← hE]
          exact hloop _ (by simp (maxSteps := 5000000) only [SA, SB, SD, R, guardAt, binP, intP, indexAddrP, elemsOf, readCells, lenP, lenAt, resultsP, resultP, oneOr, reduceCtorEq, reduceIte, Nat.reduceEqDiff, Nat.reduceAdd, Nat.zero_add, Nat.reduceMul, Nat.reduceLT, Nat.reduceLeDiff, Int.reduceLT, Int.reduceNeg, Int.reduceLE, appendP, appendAt, letGo, setLoc, locVal, Int.reduceToNat, boxCells, und]) (by simp (maxSteps := 5000000) only [SA, SB, SD, R, guardAt, binP, intP, indexAddrP, elemsOf, readCells, lenP, lenAt, resultsP, resultP, oneOr, reduceCtorEq, reduceIte, Nat.reduceEqDiff, Nat.reduceAdd, Nat.zero_add, Nat.reduceMul, Nat.reduceLT, Nat.reduceLeDiff, Int.reduceLT, Int.reduceNeg, Int.reduceLE, appendP, appendAt, letGo, setLoc, locVal, Int.reduceToNat, boxCells, und]) (by simp (maxSteps := 5000000) only [SA, SB, SD, R, guardAt, binP, intP, indexAddrP, elemsOf, readCells, lenP, lenAt, resultsP, resultP, oneOr, reduceCtorEq, reduceIte, Nat.reduceEqDiff, Nat.reduceAdd, Nat.zero_add, Nat.reduceMul, Nat.reduceLT, Nat.reduceLeDiff, Int.reduceLT, Int.reduceNeg, Int.reduceLE, appendP, appendAt, letGo, setLoc, locVal, Int.reduceToNat, boxCells, und]) (by simp (maxSteps := 5000000) only [SA, SB, SD, R, guardAt, binP, intP, indexAddrP, elemsOf, readCells, lenP, lenAt, resultsP, resultP, oneOr, reduceCtorEq, reduceIte, Nat.reduceEqDiff, Nat.reduceAdd, Nat.zero_add, Nat.reduceMul, Nat.reduceLT, Nat.reduceLeDiff, Int.reduceLT, Int.reduceNeg, Int.reduceLE, appendP, appendAt, letGo, setLoc, locVal, Int.reduceToNat, boxCells, und]; rfl)
        clear hE hloop
        obtain ⟨hn0, hn1, e', he, g0, g4, g5⟩ := hP
        subst he
        have g5 := g5 (fun h => by cases h)
        simp (maxSteps := 5000000) only [SA, SB, SD, R, guardAt, binP, intP, indexAddrP, elemsOf, readCells, lenP, lenAt, resultsP, resultP, oneOr, reduceCtorEq, reduceIte, Nat.reduceEqDiff, Nat.reduceAdd, Nat.zero_add, Nat.reduceMul, Nat.reduceLT, Nat.reduceLeDiff, Int.reduceLT, Int.reduceNeg, Int.reduceLE, appendP, appendAt, letGo, setLoc, locVal, Int.reduceToNat, boxCells, und, TG, strP, g0, g4, g5, zz, Int.reduceBEq]
theorem op_R01_Parse (s : List UInt8) (hs : s.length ≤ maxLen) (bx) : callOp CC (callL CC) 16 [.str s] bx = some (.ret (.tup [.int .i64 (parseI s).1, .bool (parseI s).2]), bx) := callOp_of rfl (by simp only [SA, Bool.and_true]) (call_R01_Parse s hs) rfl
end Go.HH
