/-
  Numbers: the law of remainders.
-/
import Derived.Test.YthfcokfigmpanaaDoorN7
namespace Go.HH
open Go Go.Proofs
set_option maxRecDepth 100000
set_option linter.unusedSimpArgs false
set_option linter.unusedVariables false
theorem satI_idem (a : Int) : satI (satI a) = satI a := by have := satI_le a; exact satI_same this.1 this.2
theorem flo_spec (x y : Int) (hy : y ≠ 0) : ∃ r t, x.tdiv y = t ∧ (flo x y = t ∨ flo x y = t - 1) ∧ flo x y * y = x - r ∧ (0 < y → 0 ≤ r ∧ r < y) ∧ (y < 0 → r ≤ 0 ∧ y < r) ∧ (x < 0 → y < 0 → flo x y = t ∧ 0 ≤ t) ∧ (¬ x < 0 → ¬ y < 0 → flo x y = t ∧ 0 ≤ t) ∧ (x < 0 → ¬ y < 0 → t ≤ 0) ∧ (¬ x < 0 → y < 0 → t ≤ 0) := by
  have e := Int.mul_tdiv_add_tmod x y
  have hlt := Int.tmod_lt_of_pos
  have hab : (x.tmod y).natAbs < y.natAbs := by rw [Int.natAbs_tmod]; exact Nat.mod_lt _ (by omega)
  have hs1 : 0 ≤ x → 0 ≤ x.tmod y := fun h => Int.tmod_nonneg y h
  have hs2 : x ≤ 0 → x.tmod y ≤ 0 := fun h => by have := Int.tmod_nonneg (a := -x) y (by omega); rw [Int.neg_tmod] at this; omega
  have t1 : 0 ≤ x → 0 ≤ y → 0 ≤ x.tdiv y := fun a b => Int.tdiv_nonneg a b
  have t2 : x ≤ 0 → y ≤ 0 → 0 ≤ x.tdiv y := fun a b => by have := Int.tdiv_nonneg (a := -x) (b := -y) (by omega) (by omega); rw [Int.neg_tdiv, Int.tdiv_neg] at this; omega
  have t3 : x ≤ 0 → 0 ≤ y → x.tdiv y ≤ 0 := fun a b => by have := Int.tdiv_nonneg (a := -x) (b := y) (by omega) (by omega); rw [Int.neg_tdiv] at this; omega
  have t4 : 0 ≤ x → y ≤ 0 → x.tdiv y ≤ 0 := fun a b => by have := Int.tdiv_nonneg (a := x) (b := -y) (by omega) (by omega); rw [Int.tdiv_neg] at this; omega
  unfold flo
  generalize x.tdiv y = t at *
  generalize x.tmod y = m at *
  by_cases c : m ≠ 0 ∧ ((x < 0) ≠ (y < 0))
  · rw [if_pos c]
    obtain ⟨c1, c2⟩ := c
    have c3 : ¬ (x < 0 ∧ y < 0) ∧ ¬ (¬ x < 0 ∧ ¬ y < 0) := ⟨fun h => c2 (by simp [h.1, h.2]), fun h => c2 (by simp [h.1, h.2])⟩
    refine ⟨m + y, t, rfl, .inr rfl, by rw [Int.sub_mul, Int.mul_comm t y]; omega, fun h => ?_, fun h => ?_, fun h1 h2 => absurd ⟨h1, h2⟩ c3.1, fun h1 h2 => absurd ⟨h1, h2⟩ c3.2, fun h1 h2 => t3 (by omega) (by omega), fun h1 h2 => t4 (by omega) (by omega)⟩
    · have : x < 0 := by rcases Decidable.em (x < 0) with h1 | h1; exact h1; exact absurd ⟨h1, by omega⟩ c3.2
      have := hs2 (by omega)
      omega
    · have : ¬ x < 0 := fun h1 => c3.1 ⟨h1, h⟩
      have := hs1 (by omega)
      omega
  · rw [if_neg c]
    refine ⟨m, t, rfl, .inl rfl, by rw [Int.mul_comm t y]; omega, fun h => ?_, fun h => ?_, fun h1 h2 => ⟨rfl, t2 (by omega) (by omega)⟩, fun h1 h2 => ⟨rfl, t1 (by omega) (by omega)⟩, fun h1 h2 => t3 (by omega) (by omega), fun h1 h2 => t4 (by omega) (by omega)⟩
    · have : 0 ≤ m := by
        rcases Decidable.em (m = 0) with h0 | h0
        · omega
        · rcases Decidable.em (x < 0) with h1 | h1
          · exact absurd ⟨h0, by simp [h1]; omega⟩ c
          · exact hs1 (by omega)
      omega
    · have : m ≤ 0 := by
        rcases Decidable.em (m = 0) with h0 | h0
        · omega
        · rcases Decidable.em (x < 0) with h1 | h1
          · exact hs2 (by omega)
          · exact absurd ⟨h0, by simp [h]; omega⟩ c
      omega
/-- all that the run wants to know of a quotient's numbers -/
theorem rem_facts (x y fn : Int) (lx : -1099511627776 ≤ x ∧ x ≤ 1099511627776) (ly : -1099511627776 ≤ y ∧ y ≤ 1099511627776) (lf : -1099511627777 ≤ fn ∧ fn ≤ 1099511627776) (c1 : ¬ y = 0) :
    ∃ q r, flo x y = q ∧ IntKind.wrap .i64 (-x) = -x ∧ IntKind.wrap .i64 (-y) = -y ∧ IntKind.wrap .i64 (-fn) = -fn ∧ IntKind.wrap .i64 (q * y) = q * y ∧ x - q * y = r ∧ IntKind.wrap .i64 r = r ∧ ¬ -y = 0 ∧
      ∃ u v : Int, IntKind.wrap .i64 u = u ∧ IntKind.wrap .i64 v = v ∧ IntKind.wrap .i64 (u + 1) = u + 1 ∧ IntKind.wrap .i64 (v - 1) = v - 1 ∧ ¬ q > u + 1 ∧ ¬ q < v - 1 ∧ IntKind.wrap .i64 (- -x) = - -x ∧
        (if x < 0 then (if y < 0 then Int.tdiv (-x) (-y) = u ∧ Int.tdiv (- -x) (-y) = v else Int.tdiv (-x) y = u ∧ Int.tdiv (- -x) y = v)
          else (if y < 0 then Int.tdiv x (-y) = u ∧ Int.tdiv (-x) (-y) = v else Int.tdiv x y = u ∧ Int.tdiv (-x) y = v)) ∧
        (if y < 0 then ¬ y > 0 ∧ r ≤ 0 ∧ r > y else y > 0 ∧ r ≥ 0 ∧ r < y) := by
  have htl := tdiv_le x y lx
  obtain ⟨r, t, ht, hq1, hq2, hr1, hr2, g1, g2, g3, g4⟩ := flo_spec x y c1
  rw [ht] at htl
  have nn1 : Int.tdiv (-x) y = -t := by rw [Int.neg_tdiv, ht]
  have nn2 : Int.tdiv x (-y) = -t := by rw [Int.tdiv_neg, ht]
  have nn3 : Int.tdiv (-x) (-y) = t := by rw [Int.neg_tdiv, Int.tdiv_neg, ht]; omega
  have nn4 : Int.tdiv (- -x) y = t := by rw [Int.neg_neg, ht]
  have nn5 : Int.tdiv (- -x) (-y) = -t := by rw [Int.neg_neg, nn2]
  generalize flo x y = q at *
  have hqy : -10000000000000 ≤ q * y ∧ q * y ≤ 10000000000000 := by
    rcases Decidable.em (y < 0) with h | h
    · have := hr2 h; omega
    · have := hr1 (by omega); omega
  refine ⟨q, r, rfl, wrap_i64 ⟨by omega, by omega⟩, wrap_i64 ⟨by omega, by omega⟩, wrap_i64 ⟨by omega, by omega⟩, wrap_i64 ⟨by omega, by omega⟩, by omega, wrap_i64 ⟨by omega, by omega⟩, by omega, ?_⟩
  by_cases c3 : y < 0
  · have ⟨hr3, hr4⟩ := hr2 c3
    by_cases c2 : x < 0
    · have := g1 c2 c3
      refine ⟨t, -t, wrap_i64 ⟨by omega, by omega⟩, wrap_i64 ⟨by omega, by omega⟩, wrap_i64 ⟨by omega, by omega⟩, wrap_i64 ⟨by omega, by omega⟩, by omega, by omega, wrap_i64 ⟨by omega, by omega⟩, ?_, ?_⟩
      · rw [if_pos c2, if_pos c3]; exact ⟨nn3, nn5⟩
      · rw [if_pos c3]; exact ⟨by omega, hr3, hr4⟩
    · have := g4 c2 c3
      refine ⟨-t, t, wrap_i64 ⟨by omega, by omega⟩, wrap_i64 ⟨by omega, by omega⟩, wrap_i64 ⟨by omega, by omega⟩, wrap_i64 ⟨by omega, by omega⟩, by omega, by omega, wrap_i64 ⟨by omega, by omega⟩, ?_, ?_⟩
      · rw [if_neg c2, if_pos c3]; exact ⟨nn2, nn3⟩
      · rw [if_pos c3]; exact ⟨by omega, hr3, hr4⟩
  · have ⟨hr3, hr4⟩ := hr1 (by omega)
    by_cases c2 : x < 0
    · have := g3 c2 c3
      refine ⟨-t, t, wrap_i64 ⟨by omega, by omega⟩, wrap_i64 ⟨by omega, by omega⟩, wrap_i64 ⟨by omega, by omega⟩, wrap_i64 ⟨by omega, by omega⟩, by omega, by omega, wrap_i64 ⟨by omega, by omega⟩, ?_, ?_⟩
      · rw [if_pos c2, if_neg c3]; exact ⟨nn1, nn4⟩
      · rw [if_neg c3]; exact ⟨by omega, hr3, hr4⟩
    · have := g2 c2 c3
      refine ⟨t, -t, wrap_i64 ⟨by omega, by omega⟩, wrap_i64 ⟨by omega, by omega⟩, wrap_i64 ⟨by omega, by omega⟩, wrap_i64 ⟨by omega, by omega⟩, by omega, by omega, wrap_i64 ⟨by omega, by omega⟩, ?_, ?_⟩
      · rw [if_neg c2, if_neg c3]; exact ⟨ht, nn1⟩
      · rw [if_neg c3]; exact ⟨by omega, hr3, hr4⟩
theorem law_NumRemainder (a : Int) (ha : inI a) (b : Int) (hb : inI b) : ∃ bx, callL CC 11 [.int .i64 a, .int .i64 b] [] = some (.ret (.bool true), bx) := by
  rw [callL_enter (fn := Tryd.f11) (c := Tryd.f11.body.getD .skip) rfl fat_L01_NumRemainder rfl ok_L01_NumRemainder (Nat.le_of_ble_eq_true rfl)]
  have lx := satI_le a
  have ly := satI_le b
  have ix := satI_idem a
  have iy := satI_idem b
  have ef : floorI (satI a) (satI b) = if satI b = 0 then 0 else flo (satI a) (satI b) := by unfold floorI; rw [ix, iy]
  have ec : ceilI (satI a) (satI b) = -floorI (-satI a) (satI b) := by rw [ceil_floor, ix]
  have hc0 : satI b = 0 → ceilI (satI a) (satI b) = 0 := fun h => by unfold ceilI; rw [iy, if_pos h]
  have facts := rem_facts (satI a) (satI b) (floorI (-satI a) (satI b)) lx ly (floorI_le _ _)
  clear lx ly ix iy
  obtain ⟨ev, eo, so, co, ⟨hev, hco⟩, R⟩ := RULES CC; rw [← hev]; have o_R01_Sat := @op_R01_Sat; rw [← hco] at o_R01_Sat; have o_num_Floor := @op_num_Floor; rw [← hco] at o_num_Floor; have o_num_Ceil := @op_num_Ceil; rw [← hco] at o_num_Ceil; have o_L01_lives := @op_L01_lives; rw [← hco] at o_L01_lives
  have of1 := o_num_Floor (satI a) (satI b)
  have of2 := o_num_Floor (-satI a) (satI b)
  have oc := o_num_Ceil (satI a) (satI b)
  have os1 := o_R01_Sat a
  have os2 := o_R01_Sat b
  clear o_R01_Sat o_num_Floor o_num_Ceil
  generalize satI a = x at *
  generalize satI b = y at *
  simp only [fpart, part', Tryd.f11, Option.getD]
  by_cases c1 : y = 0
  · rw [ef, if_pos c1] at of1
    rw [hc0 c1] at oc
    subst c1
    have zz : ((0 : Int) == 0) = true := rfl
    simp (maxSteps := 5000000) only [SA, SB, SD, R, guardAt, binP, intP, indexAddrP, elemsOf, readCells, lenP, lenAt, resultsP, resultP, oneOr, reduceCtorEq, reduceIte, Nat.reduceEqDiff, Nat.reduceAdd, Nat.zero_add, Nat.reduceMul, Nat.reduceLT, Nat.reduceLeDiff, Int.reduceLT, Int.reduceNeg, Int.reduceLE, appendP, appendAt, letGo, setLoc, locVal, Int.reduceToNat, boxCells, und, TG, os1, os2, of1, oc, zz, o_L01_lives]
    exact ⟨_, rfl⟩
  · have c1' : (y == 0) = false := by simpa using c1
    rw [ef, if_neg c1] at of1
    rw [ec] at oc
    obtain ⟨q, r, hq, wx, wy, wf, wm, hxr, wr, hny, u, v, wu, wv, wu1, wv1, b1, b2, wxx, hdiv, hsgn⟩ := facts c1
    rw [hq] at of1
    generalize floorI (-x) y = fn at *
    clear ef ec hc0 facts
    by_cases c3 : y < 0
    · rw [if_pos c3] at hsgn
      obtain ⟨cy, cr1, cr2⟩ := hsgn
      by_cases c2 : x < 0
      · rw [if_pos c2, if_pos c3] at hdiv
        obtain ⟨d1, d2⟩ := hdiv
        simp (maxSteps := 5000000) only [SA, SB, SD, R, guardAt, binP, intP, indexAddrP, elemsOf, readCells, lenP, lenAt, resultsP, resultP, oneOr, reduceCtorEq, reduceIte, Nat.reduceEqDiff, Nat.reduceAdd, Nat.zero_add, Nat.reduceMul, Nat.reduceLT, Nat.reduceLeDiff, Int.reduceLT, Int.reduceNeg, Int.reduceLE, appendP, appendAt, letGo, setLoc, locVal, Int.reduceToNat, boxCells, und, TG, unP, Int.zero_sub, os1, os2, of1, of2, oc, c1, c1', c2, c3, wx, wxx, wy, wf, hny, d1, d2, wu, wv, wu1, wv1, b1, b2, wm, hxr, wr, cy, cr1, cr2, o_L01_lives]
        exact ⟨_, rfl⟩
      · rw [if_neg c2, if_pos c3] at hdiv
        obtain ⟨d1, d2⟩ := hdiv
        simp (maxSteps := 5000000) only [SA, SB, SD, R, guardAt, binP, intP, indexAddrP, elemsOf, readCells, lenP, lenAt, resultsP, resultP, oneOr, reduceCtorEq, reduceIte, Nat.reduceEqDiff, Nat.reduceAdd, Nat.zero_add, Nat.reduceMul, Nat.reduceLT, Nat.reduceLeDiff, Int.reduceLT, Int.reduceNeg, Int.reduceLE, appendP, appendAt, letGo, setLoc, locVal, Int.reduceToNat, boxCells, und, TG, unP, Int.zero_sub, os1, os2, of1, of2, oc, c1, c1', c2, c3, wx, wxx, wy, wf, hny, d1, d2, wu, wv, wu1, wv1, b1, b2, wm, hxr, wr, cy, cr1, cr2, o_L01_lives]
        exact ⟨_, rfl⟩
    · rw [if_neg c3] at hsgn
      obtain ⟨cy, cr1, cr2⟩ := hsgn
      by_cases c2 : x < 0
      · rw [if_pos c2, if_neg c3] at hdiv
        obtain ⟨d1, d2⟩ := hdiv
        simp (maxSteps := 5000000) only [SA, SB, SD, R, guardAt, binP, intP, indexAddrP, elemsOf, readCells, lenP, lenAt, resultsP, resultP, oneOr, reduceCtorEq, reduceIte, Nat.reduceEqDiff, Nat.reduceAdd, Nat.zero_add, Nat.reduceMul, Nat.reduceLT, Nat.reduceLeDiff, Int.reduceLT, Int.reduceNeg, Int.reduceLE, appendP, appendAt, letGo, setLoc, locVal, Int.reduceToNat, boxCells, und, TG, unP, Int.zero_sub, os1, os2, of1, of2, oc, c1, c1', c2, c3, wx, wxx, wy, wf, hny, d1, d2, wu, wv, wu1, wv1, b1, b2, wm, hxr, wr, cy, cr1, cr2, o_L01_lives]
        exact ⟨_, rfl⟩
      · rw [if_neg c2, if_neg c3] at hdiv
        obtain ⟨d1, d2⟩ := hdiv
        simp (maxSteps := 5000000) only [SA, SB, SD, R, guardAt, binP, intP, indexAddrP, elemsOf, readCells, lenP, lenAt, resultsP, resultP, oneOr, reduceCtorEq, reduceIte, Nat.reduceEqDiff, Nat.reduceAdd, Nat.zero_add, Nat.reduceMul, Nat.reduceLT, Nat.reduceLeDiff, Int.reduceLT, Int.reduceNeg, Int.reduceLE, appendP, appendAt, letGo, setLoc, locVal, Int.reduceToNat, boxCells, und, TG, unP, Int.zero_sub, os1, os2, of1, of2, oc, c1, c1', c2, c3, wx, wxx, wy, wf, hny, d1, d2, wu, wv, wu1, wv1, b1, b2, wm, hxr, wr, cy, cr1, cr2, o_L01_lives]
        exact ⟨_, rfl⟩
end Go.HH
