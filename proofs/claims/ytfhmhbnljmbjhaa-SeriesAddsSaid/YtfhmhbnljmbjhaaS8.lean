/-
  Series: small lists; the law of parts.
-/
import Derived.Test.YtfhmhbnljmbjhaaS7
namespace Go.HH
open Go Go.Proofs
set_option maxRecDepth 100000
set_option linter.unusedSimpArgs false
def smallI (l : List Int) : Bool := decide ((l.length : Int) ≤ 96) && !badI l (-1073741824) 1073741824
theorem loop25 (L : Code) (hL : L = fpart Try.f25 [1,0,1,0]) (l : List Int) (hl : l.length ≤ 96) : ∀ (k i : Nat) (e : List PV), i + k = l.length → getT e 0 = .sl (ints l) → getT e 3 = .int .i64 i →
   ∃ e', (evL CC L ⟨e, []⟩ = if badI (l.drop i) (-1073741824) 1073741824 then some (.ret, ⟨setT e' 2 (.bool false), []⟩) else some (.exit 0, ⟨e', []⟩)) ∧ getT e' 0 = .sl (ints l) := by
  intro k
  induction k with
  | zero =>
    intro i e hk h0 h3
    rw [evL_at (fpart Try.f25 [1,0,1,0,0]) hL]
    obtain ⟨ev, eo, so, co, ⟨hev, hco⟩, R⟩ := RULES CC; rw [← hev]
    have hi' : ¬ ((i : Int) < (l.length : Int)) := by omega
    rw [List.drop_eq_nil_of_le (by omega)]
    simp only [fpart, part', Try.f25, Option.getD]
    simp (maxSteps := 5000000) only [SA, SB, SD, R, guardAt, binP, intP, indexAddrP, elemsOf, readCells, lenP, lenAt, resultsP, resultP, oneOr, reduceCtorEq, reduceIte, Nat.reduceEqDiff, Nat.reduceAdd, Nat.zero_add, Nat.reduceMul, Nat.reduceLT, Nat.reduceLeDiff, Int.reduceLT, Int.reduceNeg, Int.reduceLE, appendP, appendAt, letGo, setLoc, locVal, Int.reduceToNat, boxCells, und, TY, h0, h3, hi']
    exact ⟨_, rfl, by simp (maxSteps := 5000000) only [SA, SB, SD, R, guardAt, binP, intP, indexAddrP, elemsOf, readCells, lenP, lenAt, resultsP, resultP, oneOr, reduceCtorEq, reduceIte, Nat.reduceEqDiff, Nat.reduceAdd, Nat.zero_add, Nat.reduceMul, Nat.reduceLT, Nat.reduceLeDiff, Int.reduceLT, Int.reduceNeg, Int.reduceLE, appendP, appendAt, letGo, setLoc, locVal, Int.reduceToNat, boxCells, und, h0]⟩
  | succ k ih =>
    intro i e hk h0 h3
    rw [evL_at (fpart Try.f25 [1,0,1,0,0]) hL]
    obtain ⟨ev, eo, so, co, ⟨hev, hco⟩, R⟩ := RULES CC; rw [← hev]
    rw [← hev] at ih
    have hi' : ((i : Int) < (l.length : Int)) := by omega
    have hi0 : ¬ ((i : Int) < 0) := by omega
    have h96 : ((l.length : Int) ≤ 96) := by omega
    have hx : l[i]? = some l[i] := by simp
    have hw := wrap_i64 (n := (i : Int) + 1) ⟨by omega, by omega⟩
    have hb : badI (l.drop i) (-1073741824) 1073741824 = (decide (l[i] < -1073741824) || decide (l[i] > 1073741824) || badI (l.drop (i+1)) (-1073741824) 1073741824) := by
      rw [List.drop_eq_getElem_cons (by omega)]; simp only [badI, List.any_cons]
    rw [hb]
    generalize l[i] = x at hx ⊢
    simp only [fpart, part', Try.f25, Option.getD]
    by_cases c1 : x < -1073741824
    · simp (maxSteps := 5000000) only [SA, SB, SD, R, guardAt, binP, intP, indexAddrP, elemsOf, readCells, lenP, lenAt, resultsP, resultP, oneOr, reduceCtorEq, reduceIte, Nat.reduceEqDiff, Nat.reduceAdd, Nat.zero_add, Nat.reduceMul, Nat.reduceLT, Nat.reduceLeDiff, Int.reduceLT, Int.reduceNeg, Int.reduceLE, appendP, appendAt, letGo, setLoc, locVal, Int.reduceToNat, boxCells, und, TY, TN, h0, h3, hi', hi0, h96, hx, c1, Bool.true_or]
      exact ⟨_, rfl, by simp (maxSteps := 5000000) only [SA, SB, SD, R, guardAt, binP, intP, indexAddrP, elemsOf, readCells, lenP, lenAt, resultsP, resultP, oneOr, reduceCtorEq, reduceIte, Nat.reduceEqDiff, Nat.reduceAdd, Nat.zero_add, Nat.reduceMul, Nat.reduceLT, Nat.reduceLeDiff, Int.reduceLT, Int.reduceNeg, Int.reduceLE, appendP, appendAt, letGo, setLoc, locVal, Int.reduceToNat, boxCells, und, h0]⟩
    · by_cases c2 : x > 1073741824
      · simp (maxSteps := 5000000) only [SA, SB, SD, R, guardAt, binP, intP, indexAddrP, elemsOf, readCells, lenP, lenAt, resultsP, resultP, oneOr, reduceCtorEq, reduceIte, Nat.reduceEqDiff, Nat.reduceAdd, Nat.zero_add, Nat.reduceMul, Nat.reduceLT, Nat.reduceLeDiff, Int.reduceLT, Int.reduceNeg, Int.reduceLE, appendP, appendAt, letGo, setLoc, locVal, Int.reduceToNat, boxCells, und, TY, TN, h0, h3, hi', hi0, h96, hx, c1, c2, Bool.true_or, Bool.or_true]
        exact ⟨_, rfl, by simp (maxSteps := 5000000) only [SA, SB, SD, R, guardAt, binP, intP, indexAddrP, elemsOf, readCells, lenP, lenAt, resultsP, resultP, oneOr, reduceCtorEq, reduceIte, Nat.reduceEqDiff, Nat.reduceAdd, Nat.zero_add, Nat.reduceMul, Nat.reduceLT, Nat.reduceLeDiff, Int.reduceLT, Int.reduceNeg, Int.reduceLE, appendP, appendAt, letGo, setLoc, locVal, Int.reduceToNat, boxCells, und, h0]⟩
      · simp (maxSteps := 5000000) only [SA, SB, SD, R, guardAt, binP, intP, indexAddrP, elemsOf, readCells, lenP, lenAt, resultsP, resultP, oneOr, reduceCtorEq, reduceIte, Nat.reduceEqDiff, Nat.reduceAdd, Nat.zero_add, Nat.reduceMul, Nat.reduceLT, Nat.reduceLeDiff, Int.reduceLT, Int.reduceNeg, Int.reduceLE, appendP, appendAt, letGo, setLoc, locVal, Int.reduceToNat, boxCells, und, TY, TN, h0, h3, hi', hi0, h96, hx, c1, c2, hw, Bool.false_or]
        exact ih (i + 1) _ (by omega) (by simp (maxSteps := 5000000) only [SA, SB, SD, R, guardAt, binP, intP, indexAddrP, elemsOf, readCells, lenP, lenAt, resultsP, resultP, oneOr, reduceCtorEq, reduceIte, Nat.reduceEqDiff, Nat.reduceAdd, Nat.zero_add, Nat.reduceMul, Nat.reduceLT, Nat.reduceLeDiff, Int.reduceLT, Int.reduceNeg, Int.reduceLE, appendP, appendAt, letGo, setLoc, locVal, Int.reduceToNat, boxCells, und, h0]) (by simp (maxSteps := 5000000) only [SA, SB, SD, R, guardAt, binP, intP, indexAddrP, elemsOf, readCells, lenP, lenAt, resultsP, resultP, oneOr, reduceCtorEq, reduceIte, Nat.reduceEqDiff, Nat.reduceAdd, Nat.zero_add, Nat.reduceMul, Nat.reduceLT, Nat.reduceLeDiff, Int.reduceLT, Int.reduceNeg, Int.reduceLE, appendP, appendAt, letGo, setLoc, locVal, Int.reduceToNat, boxCells, und]; rfl)
theorem call25 (l : List Int) : callL CC 25 [.sl (ints l)] [] = some (.ret (.bool (smallI l)), []) := by
  rw [callL_enter (fn := Try.f25) (c := Try.f25.body.getD .skip) rfl fat25 rfl ok25 (Nat.le_of_ble_eq_true rfl)]
  by_cases c1 : (l.length : Int) ≤ 96
  · have hloop := loop25 _ rfl l (by omega)
    obtain ⟨ev, eo, so, co, ⟨hev, hco⟩, R⟩ := RULES CC; rw [← hev]
    rw [← hev] at hloop
    simp only [fpart, part', Try.f25, Option.getD] at hloop ⊢
    simp (maxSteps := 5000000) only [SA, SB, SD, R, guardAt, binP, intP, indexAddrP, elemsOf, readCells, lenP, lenAt, resultsP, resultP, oneOr, reduceCtorEq, reduceIte, Nat.reduceEqDiff, Nat.reduceAdd, Nat.zero_add, Nat.reduceMul, Nat.reduceLT, Nat.reduceLeDiff, Int.reduceLT, Int.reduceNeg, Int.reduceLE, appendP, appendAt, letGo, setLoc, locVal, Int.reduceToNat, boxCells, und, TY, TN]
    generalize hE : ev _ _ = r
    obtain ⟨e', he, h0⟩ := useLoop' hE (hloop l.length 0 _ (by omega) (by simp (maxSteps := 5000000) only [SA, SB, SD, R, guardAt, binP, intP, indexAddrP, elemsOf, readCells, lenP, lenAt, resultsP, resultP, oneOr, reduceCtorEq, reduceIte, Nat.reduceEqDiff, Nat.reduceAdd, Nat.zero_add, Nat.reduceMul, Nat.reduceLT, Nat.reduceLeDiff, Int.reduceLT, Int.reduceNeg, Int.reduceLE, appendP, appendAt, letGo, setLoc, locVal, Int.reduceToNat, boxCells, und]) (by simp (maxSteps := 5000000) only [SA, SB, SD, R, guardAt, binP, intP, indexAddrP, elemsOf, readCells, lenP, lenAt, resultsP, resultP, oneOr, reduceCtorEq, reduceIte, Nat.reduceEqDiff, Nat.reduceAdd, Nat.zero_add, Nat.reduceMul, Nat.reduceLT, Nat.reduceLeDiff, Int.reduceLT, Int.reduceNeg, Int.reduceLE, appendP, appendAt, letGo, setLoc, locVal, Int.reduceToNat, boxCells, und]; rfl))
    subst he
    rw [List.drop_zero]
    unfold smallI
    cases badI l (-1073741824) 1073741824 <;> simp (maxSteps := 5000000) only [SA, SB, SD, R, guardAt, binP, intP, indexAddrP, elemsOf, readCells, lenP, lenAt, resultsP, resultP, oneOr, reduceCtorEq, reduceIte, Nat.reduceEqDiff, Nat.reduceAdd, Nat.zero_add, Nat.reduceMul, Nat.reduceLT, Nat.reduceLeDiff, Int.reduceLT, Int.reduceNeg, Int.reduceLE, appendP, appendAt, letGo, setLoc, locVal, Int.reduceToNat, boxCells, und, TY, TN, c1, h0]
  · obtain ⟨ev, eo, so, co, ⟨hev, hco⟩, R⟩ := RULES CC; rw [← hev]
    have hs : smallI l = false := by unfold smallI; simp only [c1, decide_false, Bool.false_and]
    simp only [fpart, part', Try.f25, Option.getD]
    simp (maxSteps := 5000000) only [SA, SB, SD, R, guardAt, binP, intP, indexAddrP, elemsOf, readCells, lenP, lenAt, resultsP, resultP, oneOr, reduceCtorEq, reduceIte, Nat.reduceEqDiff, Nat.reduceAdd, Nat.zero_add, Nat.reduceMul, Nat.reduceLT, Nat.reduceLeDiff, Int.reduceLT, Int.reduceNeg, Int.reduceLE, appendP, appendAt, letGo, setLoc, locVal, Int.reduceToNat, boxCells, und, TY, TN]
    have hlt : (0 : Int) < (l.length : Int) := by omega
    rw [hev, evL_loop, ← hev]
    simp (maxSteps := 5000000) only [SA, SB, SD, R, guardAt, binP, intP, indexAddrP, elemsOf, readCells, lenP, lenAt, resultsP, resultP, oneOr, reduceCtorEq, reduceIte, Nat.reduceEqDiff, Nat.reduceAdd, Nat.zero_add, Nat.reduceMul, Nat.reduceLT, Nat.reduceLeDiff, Int.reduceLT, Int.reduceNeg, Int.reduceLE, appendP, appendAt, letGo, setLoc, locVal, Int.reduceToNat, boxCells, und, TY, TN, hlt, c1, hs]
theorem op25 (l : List Int) (bx) : callOp CC (callL CC) 25 [.sl (ints l)] bx = some (.ret (.bool (smallI l)), bx) := callOp_of rfl (by simp only [SA, Bool.and_true]) (call25 l) (by simp only [SA])
theorem small_rd {l : List Int} (h : smallI l = true) : l.length ≤ 96 ∧ rd l = l ∧ ∀ x ∈ l, -1073741824 ≤ x ∧ x ≤ 1073741824 := by
  unfold smallI at h
  simp only [Bool.and_eq_true, decide_eq_true_eq, Bool.not_eq_true', badI, List.any_eq_false, Bool.or_eq_true, not_or] at h
  have hx : ∀ x ∈ l, -1073741824 ≤ x ∧ x ≤ 1073741824 := fun x hx => by have := h.2 x hx; omega
  refine ⟨by omega, ?_, hx⟩
  unfold rd
  rw [if_neg (by omega)]
  calc l.map satI = l.map id := List.map_congr_left fun y hy => satI_id (by have := hx y hy; omega)
    _ = l := List.map_id l
theorem sum_small : ∀ (l : List Int), (∀ x ∈ l, -1073741824 ≤ x ∧ x ≤ 1073741824) → -1073741824 * (l.length : Int) ≤ sumI l ∧ sumI l ≤ 1073741824 * (l.length : Int)
  | [], _ => by simp [sumI_nil]
  | x :: l, h => by
    have := sum_small l fun y hy => h y (by simp [hy])
    have := h x (by simp)
    rw [sumI_cons, List.length_cons]
    constructor <;> push_cast <;> omega
theorem cut_sum (x : List Int) (a b : Nat) (h : a ≤ b) : sumI ((x.take b).drop a) = sumI (x.take b) - sumI (x.take a) := by
  have h1 : sumI (x.take b) = sumI ((x.take b).take a) + sumI ((x.take b).drop a) := by rw [← sumI_append, List.take_append_drop]
  rw [List.take_take, Nat.min_eq_left h] at h1
  omega
theorem sumAt_small {l : List Int} (h : smallI l = true) (a b : Int) : sumAt l a b = sumI (cut l a b) ∧ -103079215104 ≤ sumI (cut l a b) ∧ sumI (cut l a b) ≤ 103079215104 := by
  have ⟨h1, h2, h3⟩ := small_rd h
  have hb := sum_small (cut l a b) fun x hx => h3 x (List.mem_of_mem_take (List.mem_of_mem_drop hx))
  have hl : (cut l a b).length ≤ 96 := by unfold cut; simp; omega
  unfold sumAt
  rw [h2]
  exact ⟨satI_id (by omega), by omega, by omega⟩
theorem TW : CC.P.underlying 38 = some (.array 3 3) ∧ tSize CC 38 = some 3 ∧ tAgg CC 38 = true := ⟨by kernel_rfl, by kernel_rfl, by kernel_rfl⟩
/-- THE LAW OF PARTS -/
theorem law7 (l : List Int) (_ : l.length ≤ maxLen) (_ : ∀ x ∈ l, inI x) (a b c : Int) (_ : inI a) (_ : inI b) (_ : inI c) : ∃ bx, callL CC 7 [.sl (ints l), .agg [.int .i64 a, .int .i64 b, .int .i64 c]] [] = some (.ret (.bool true), bx) := by
  rw [callL_enter (fn := Try.f7) (c := Try.f7.body.getD .skip) rfl fat7 rfl ok7 (Nat.le_of_ble_eq_true rfl)]
  obtain ⟨ev, eo, so, co, ⟨hev, hco⟩, R⟩ := RULES CC; rw [← hev]; have o11 := @op11; rw [← hco] at o11; have o18 := @op18; rw [← hco] at o18; have o23 := @op23; rw [← hco] at o23; have o25 := @op25; rw [← hco] at o25
  have h03 : (0 : Int) < ((3 : Nat) : Int) := by decide
  have h13 : (1 : Int) < ((3 : Nat) : Int) := by decide
  have h23 : (2 : Int) < ((3 : Nat) : Int) := by decide
  simp only [fpart, part', Try.f7, Option.getD]
  cases hs : smallI l with
  | false =>
    simp (maxSteps := 5000000) only [SA, SB, SD, R, guardAt, binP, intP, indexAddrP, elemsOf, readCells, lenP, lenAt, resultsP, resultP, oneOr, reduceCtorEq, reduceIte, Nat.reduceEqDiff, Nat.reduceAdd, Nat.zero_add, Nat.reduceMul, Nat.reduceLT, Nat.reduceLeDiff, Int.reduceLT, Int.reduceNeg, Int.reduceLE, appendP, appendAt, letGo, setLoc, locVal, Int.reduceToNat, boxCells, und, TY, TN, TW, o25, hs, o11, unP]
    exact ⟨_, rfl⟩
  | true =>
    by_cases c1 : a > b
    · simp (maxSteps := 5000000) only [SA, SB, SD, R, guardAt, binP, intP, indexAddrP, elemsOf, readCells, lenP, lenAt, resultsP, resultP, oneOr, reduceCtorEq, reduceIte, Nat.reduceEqDiff, Nat.reduceAdd, Nat.zero_add, Nat.reduceMul, Nat.reduceLT, Nat.reduceLeDiff, Int.reduceLT, Int.reduceNeg, Int.reduceLE, appendP, appendAt, letGo, setLoc, locVal, Int.reduceToNat, boxCells, und, TY, TN, TW, o25, hs, o11, unP, h03, h13, h23, c1]
      exact ⟨_, rfl⟩
    · by_cases c2 : b > c
      · simp (maxSteps := 5000000) only [SA, SB, SD, R, guardAt, binP, intP, indexAddrP, elemsOf, readCells, lenP, lenAt, resultsP, resultP, oneOr, reduceCtorEq, reduceIte, Nat.reduceEqDiff, Nat.reduceAdd, Nat.zero_add, Nat.reduceMul, Nat.reduceLT, Nat.reduceLeDiff, Int.reduceLT, Int.reduceNeg, Int.reduceLE, appendP, appendAt, letGo, setLoc, locVal, Int.reduceToNat, boxCells, und, TY, TN, TW, o25, hs, o11, unP, h03, h13, h23, c1, c2]
        exact ⟨_, rfl⟩
      · have ⟨g1, g2, g3⟩ := small_rd hs
        have ⟨s1, r1⟩ := sumAt_small hs a b
        have ⟨s2, r2⟩ := sumAt_small hs b c
        have ⟨s3, r3⟩ := sumAt_small hs a c
        have ⟨s4, r4⟩ := sumAt_small hs 0 (l.length : Int)
        have e1 : sumI (cut l a b) + sumI (cut l b c) = sumI (cut l a c) := by
          unfold cut
          rw [cut_sum l _ _ (by omega), cut_sum l _ _ (by omega), cut_sum l _ _ (by omega)]
          omega
        have hw := wrap_i64 (n := sumI (cut l a b) + sumI (cut l b c)) ⟨by omega, by omega⟩
        rw [e1] at hw
        by_cases c3 : l.length = 0
        · have c3' : ((l.length : Int) == 0) = true := by simp [c3]
          simp (maxSteps := 5000000) only [SA, SB, SD, R, guardAt, binP, intP, indexAddrP, elemsOf, readCells, lenP, lenAt, resultsP, resultP, oneOr, reduceCtorEq, reduceIte, Nat.reduceEqDiff, Nat.reduceAdd, Nat.zero_add, Nat.reduceMul, Nat.reduceLT, Nat.reduceLeDiff, Int.reduceLT, Int.reduceNeg, Int.reduceLE, appendP, appendAt, letGo, setLoc, locVal, Int.reduceToNat, boxCells, und, TY, TN, TW, o25, hs, o11, o18, o23, s1, s2, s3, e1, hw, g2, cumI_length, c3', unP, h03, h13, h23, c1, c2]
          exact ⟨_, rfl⟩
        · have c3' : ((l.length : Int) == 0) = false := beq_eq_false_iff_ne.2 (by omega)
          have hw2 := wrap_i64 (n := (l.length : Int) - 1) ⟨by omega, by omega⟩
          have hn0 : ¬ ((l.length : Int) - 1 < 0) := by omega
          have hci : (cumI l l.length)[((l.length : Int) - 1).toNat]? = some (sumI (cut l 0 (l.length : Int))) := by
            rw [← s4]
            unfold cumI sumAt cut
            rw [show ((l.length : Int) - 1).toNat = l.length - 1 from by omega, List.getElem?_map, List.getElem?_range (by omega)]
            simp only [Option.map_some, g2, Int.toNat_natCast, Int.toNat_zero, List.drop_zero]
            rw [show l.length - 1 + 1 = l.length from by omega]
          simp (maxSteps := 5000000) only [SA, SB, SD, R, guardAt, binP, intP, indexAddrP, elemsOf, readCells, lenP, lenAt, resultsP, resultP, oneOr, reduceCtorEq, reduceIte, Nat.reduceEqDiff, Nat.reduceAdd, Nat.zero_add, Nat.reduceMul, Nat.reduceLT, Nat.reduceLeDiff, Int.reduceLT, Int.reduceNeg, Int.reduceLE, appendP, appendAt, letGo, setLoc, locVal, Int.reduceToNat, boxCells, und, TY, TN, TW, o25, hs, o11, o18, o23, s1, s2, s3, s4, e1, hw, hw2, hn0, hci, g2, cumI_length, c3', unP, h03, h13, h23, c1, c2]
          exact ⟨_, rfl⟩
end Go.HH
