/-
  Series: groups; the law of groups.
-/
import Derived.Test.YtfhmhbnljmbjhaaS8
namespace Go.HH
open Go Go.Proofs
set_option maxRecDepth 100000
set_option linter.unusedSimpArgs false
theorem ok20 : fnOK CC Try.f20 (Try.f20.body.getD .skip) = true := by kernel_rfl
theorem fat20 : CC.P.funcs[20]? = some Try.f20 := by kernel_rfl
theorem ok21 : fnOK CC Try.f21 (Try.f21.body.getD .skip) = true := by kernel_rfl
theorem fat21 : CC.P.funcs[21]? = some Try.f21 := by kernel_rfl
theorem ok6 : fnOK CC Try.f6 (Try.f6.body.getD .skip) = true := by kernel_rfl
theorem fat6 : CC.P.funcs[6]? = some Try.f6 := by kernel_rfl
theorem loop14 (L : Code) (hL : L = fpart Try.f14 [1,1,0,1,0]) (x : List Int) (hl : x.length ≤ 1000) : ∀ (k i : Nat) (e : List PV), i + k = x.length → getT e 0 = .sl (ints x) → getT e 1 = .sl (ints x) → getT e 5 = .int .i64 i →
   ∃ e', evL CC L ⟨e, []⟩ = some (.exit 0, ⟨e', []⟩) := by
  intro k
  induction k with
  | zero =>
    intro i e hk h0 h1 h5
    rw [evL_at (fpart Try.f14 [1,1,0,1,0,0]) hL]
    obtain ⟨ev, eo, so, co, ⟨hev, hco⟩, R⟩ := RULES CC; rw [← hev]
    have hi' : ¬ ((i : Int) < (x.length : Int)) := by omega
    simp only [fpart, part', Try.f14, Option.getD]
    simp (maxSteps := 5000000) only [SA, SB, SD, R, guardAt, binP, intP, indexAddrP, elemsOf, readCells, lenP, lenAt, resultsP, resultP, oneOr, reduceCtorEq, reduceIte, Nat.reduceEqDiff, Nat.reduceAdd, Nat.zero_add, Nat.reduceMul, Nat.reduceLT, Nat.reduceLeDiff, Int.reduceLT, Int.reduceNeg, Int.reduceLE, appendP, appendAt, letGo, setLoc, locVal, Int.reduceToNat, boxCells, und, TY, h0, h1, h5, hi']
    exact ⟨_, rfl⟩
  | succ k ih =>
    intro i e hk h0 h1 h5
    rw [evL_at (fpart Try.f14 [1,1,0,1,0,0]) hL]
    obtain ⟨ev, eo, so, co, ⟨hev, hco⟩, R⟩ := RULES CC; rw [← hev]
    rw [← hev] at ih
    have hi' : ((i : Int) < (x.length : Int)) := by omega
    have hi0 : ¬ ((i : Int) < 0) := by omega
    have hx : x[i]? = some x[i] := by simp
    have hw := wrap_i64 (n := (i : Int) + 1) ⟨by omega, by omega⟩
    generalize x[i] = y at *
    simp only [fpart, part', Try.f14, Option.getD]
    simp (maxSteps := 5000000) only [SA, SB, SD, R, guardAt, binP, intP, indexAddrP, elemsOf, readCells, lenP, lenAt, resultsP, resultP, oneOr, reduceCtorEq, reduceIte, Nat.reduceEqDiff, Nat.reduceAdd, Nat.zero_add, Nat.reduceMul, Nat.reduceLT, Nat.reduceLeDiff, Int.reduceLT, Int.reduceNeg, Int.reduceLE, appendP, appendAt, letGo, setLoc, locVal, Int.reduceToNat, boxCells, und, TY, TN, h0, h1, h5, hi', hi0, hx, hw]
    exact ih (i + 1) _ (by omega) (by simp (maxSteps := 5000000) only [SA, SB, SD, R, guardAt, binP, intP, indexAddrP, elemsOf, readCells, lenP, lenAt, resultsP, resultP, oneOr, reduceCtorEq, reduceIte, Nat.reduceEqDiff, Nat.reduceAdd, Nat.zero_add, Nat.reduceMul, Nat.reduceLT, Nat.reduceLeDiff, Int.reduceLT, Int.reduceNeg, Int.reduceLE, appendP, appendAt, letGo, setLoc, locVal, Int.reduceToNat, boxCells, und, h0]) (by simp (maxSteps := 5000000) only [SA, SB, SD, R, guardAt, binP, intP, indexAddrP, elemsOf, readCells, lenP, lenAt, resultsP, resultP, oneOr, reduceCtorEq, reduceIte, Nat.reduceEqDiff, Nat.reduceAdd, Nat.zero_add, Nat.reduceMul, Nat.reduceLT, Nat.reduceLeDiff, Int.reduceLT, Int.reduceNeg, Int.reduceLE, appendP, appendAt, letGo, setLoc, locVal, Int.reduceToNat, boxCells, und, h1]) (by simp (maxSteps := 5000000) only [SA, SB, SD, R, guardAt, binP, intP, indexAddrP, elemsOf, readCells, lenP, lenAt, resultsP, resultP, oneOr, reduceCtorEq, reduceIte, Nat.reduceEqDiff, Nat.reduceAdd, Nat.zero_add, Nat.reduceMul, Nat.reduceLT, Nat.reduceLeDiff, Int.reduceLT, Int.reduceNeg, Int.reduceLE, appendP, appendAt, letGo, setLoc, locVal, Int.reduceToNat, boxCells, und]; rfl)
theorem call14 (x : List Int) (hl : x.length ≤ 1000) : callL CC 14 [.sl (ints x), .sl (ints x)] [] = some (.ret (.bool true), []) := by
  rw [callL_enter (fn := Try.f14) (c := Try.f14.body.getD .skip) rfl fat14 rfl ok14 (Nat.le_of_ble_eq_true rfl)]
  have hloop := loop14 _ rfl x hl
  obtain ⟨ev, eo, so, co, ⟨hev, hco⟩, R⟩ := RULES CC; rw [← hev]
  rw [← hev] at hloop
  simp only [fpart, part', Try.f14, Option.getD] at hloop ⊢
  simp (maxSteps := 5000000) only [SA, SB, SD, R, guardAt, binP, intP, indexAddrP, elemsOf, readCells, lenP, lenAt, resultsP, resultP, oneOr, reduceCtorEq, reduceIte, Nat.reduceEqDiff, Nat.reduceAdd, Nat.zero_add, Nat.reduceMul, Nat.reduceLT, Nat.reduceLeDiff, Int.reduceLT, Int.reduceNeg, Int.reduceLE, appendP, appendAt, letGo, setLoc, locVal, Int.reduceToNat, boxCells, und, TY, TN]
  generalize hE : ev _ _ = r
  obtain ⟨e', he⟩ := useLoop1' hE (hloop x.length 0 _ (by omega) (by simp (maxSteps := 5000000) only [SA, SB, SD, R, guardAt, binP, intP, indexAddrP, elemsOf, readCells, lenP, lenAt, resultsP, resultP, oneOr, reduceCtorEq, reduceIte, Nat.reduceEqDiff, Nat.reduceAdd, Nat.zero_add, Nat.reduceMul, Nat.reduceLT, Nat.reduceLeDiff, Int.reduceLT, Int.reduceNeg, Int.reduceLE, appendP, appendAt, letGo, setLoc, locVal, Int.reduceToNat, boxCells, und]) (by simp (maxSteps := 5000000) only [SA, SB, SD, R, guardAt, binP, intP, indexAddrP, elemsOf, readCells, lenP, lenAt, resultsP, resultP, oneOr, reduceCtorEq, reduceIte, Nat.reduceEqDiff, Nat.reduceAdd, Nat.zero_add, Nat.reduceMul, Nat.reduceLT, Nat.reduceLeDiff, Int.reduceLT, Int.reduceNeg, Int.reduceLE, appendP, appendAt, letGo, setLoc, locVal, Int.reduceToNat, boxCells, und]) (by simp (maxSteps := 5000000) only [SA, SB, SD, R, guardAt, binP, intP, indexAddrP, elemsOf, readCells, lenP, lenAt, resultsP, resultP, oneOr, reduceCtorEq, reduceIte, Nat.reduceEqDiff, Nat.reduceAdd, Nat.zero_add, Nat.reduceMul, Nat.reduceLT, Nat.reduceLeDiff, Int.reduceLT, Int.reduceNeg, Int.reduceLE, appendP, appendAt, letGo, setLoc, locVal, Int.reduceToNat, boxCells, und]; rfl))
  subst he
  simp (maxSteps := 5000000) only [SA, SB, SD, R, guardAt, binP, intP, indexAddrP, elemsOf, readCells, lenP, lenAt, resultsP, resultP, oneOr, reduceCtorEq, reduceIte, Nat.reduceEqDiff, Nat.reduceAdd, Nat.zero_add, Nat.reduceMul, Nat.reduceLT, Nat.reduceLeDiff, Int.reduceLT, Int.reduceNeg, Int.reduceLE, appendP, appendAt, letGo, setLoc, locVal, Int.reduceToNat, boxCells, und, TY, TN]
theorem op14 (x : List Int) (hl : x.length ≤ 1000) (bx) : callOp CC (callL CC) 14 [.sl (ints x), .sl (ints x)] bx = some (.ret (.bool true), bx) := callOp_of rfl (by simp only [SA, Bool.and_true]) (call14 x hl) (by simp only [SA])

theorem loop22 (L : Code) (hL : L = fpart Try.f22 [1,1,1,0,1,0]) (x : List Int) (hl : x.length ≤ 1000) : ∀ (k i : Nat) (e : List PV), i + k = x.length → getT e 3 = .sl (ints x) → getT e 5 = .int .i64 i → getT e 4 = .int .i64 (pk x i) →
   ∃ e', evL CC L ⟨e, []⟩ = some (.exit 0, ⟨e', []⟩) ∧ getT e' 4 = .int .i64 (pk x x.length) := by
  intro k
  induction k with
  | zero =>
    intro i e hk h4 h10 h3
    rw [evL_at (fpart Try.f22 [1,1,1,0,1,0,0]) hL]
    obtain ⟨ev, eo, so, co, ⟨hev, hco⟩, R⟩ := RULES CC; rw [← hev]
    have hi' : ¬ ((i : Int) < (x.length : Int)) := by omega
    simp only [fpart, part', Try.f22, Option.getD]
    simp (maxSteps := 5000000) only [SA, SB, SD, R, guardAt, binP, intP, indexAddrP, elemsOf, readCells, lenP, lenAt, resultsP, resultP, oneOr, reduceCtorEq, reduceIte, Nat.reduceEqDiff, Nat.reduceAdd, Nat.zero_add, Nat.reduceMul, Nat.reduceLT, Nat.reduceLeDiff, Int.reduceLT, Int.reduceNeg, Int.reduceLE, appendP, appendAt, letGo, setLoc, locVal, Int.reduceToNat, boxCells, und, TY, h4, h10, hi']
    exact ⟨_, rfl, by simp (maxSteps := 5000000) only [SA, SB, SD, R, guardAt, binP, intP, indexAddrP, elemsOf, readCells, lenP, lenAt, resultsP, resultP, oneOr, reduceCtorEq, reduceIte, Nat.reduceEqDiff, Nat.reduceAdd, Nat.zero_add, Nat.reduceMul, Nat.reduceLT, Nat.reduceLeDiff, Int.reduceLT, Int.reduceNeg, Int.reduceLE, appendP, appendAt, letGo, setLoc, locVal, Int.reduceToNat, boxCells, und, h3]; rw [show i = x.length from by omega]⟩
  | succ k ih =>
    intro i e hk h4 h10 h3
    rw [evL_at (fpart Try.f22 [1,1,1,0,1,0,0]) hL]
    obtain ⟨ev, eo, so, co, ⟨hev, hco⟩, R⟩ := RULES CC; rw [← hev]
    rw [← hev] at ih
    have hi' : ((i : Int) < (x.length : Int)) := by omega
    have hi0 : ¬ ((i : Int) < 0) := by omega
    have hx : x[i]? = some (x.getD i 0) := by rw [List.getD_eq_getElem?_getD, List.getElem?_eq_getElem (by omega)]; rfl
    have hw := wrap_i64 (n := (i : Int) + 1) ⟨by omega, by omega⟩
    have ⟨r1, r2, r3⟩ := pk_range x i
    have hp : pk x (i + 1) = if pk x i < 0 ∨ x.getD i 0 > x.getD (pk x i).toNat 0 then (i : Int) else pk x i := by rw [pk]
    have hxb : 0 ≤ pk x i → x[(pk x i).toNat]? = some (x.getD (pk x i).toNat 0) := fun h => by rw [List.getD_eq_getElem?_getD, List.getElem?_eq_getElem (by omega)]; rfl
    generalize pk x i = b at h3 r1 r2 r3 hp hxb
    simp only [fpart, part', Try.f22, Option.getD]
    by_cases c1 : b < 0
    · rw [if_pos (Or.inl c1)] at hp
      simp (maxSteps := 5000000) only [SA, SB, SD, R, guardAt, binP, intP, indexAddrP, elemsOf, readCells, lenP, lenAt, resultsP, resultP, oneOr, reduceCtorEq, reduceIte, Nat.reduceEqDiff, Nat.reduceAdd, Nat.zero_add, Nat.reduceMul, Nat.reduceLT, Nat.reduceLeDiff, Int.reduceLT, Int.reduceNeg, Int.reduceLE, appendP, appendAt, letGo, setLoc, locVal, Int.reduceToNat, boxCells, und, TY, TN, h4, h10, h3, hi', hi0, hx, c1, hw]
      exact ih (i + 1) _ (by omega) (by simp (maxSteps := 5000000) only [SA, SB, SD, R, guardAt, binP, intP, indexAddrP, elemsOf, readCells, lenP, lenAt, resultsP, resultP, oneOr, reduceCtorEq, reduceIte, Nat.reduceEqDiff, Nat.reduceAdd, Nat.zero_add, Nat.reduceMul, Nat.reduceLT, Nat.reduceLeDiff, Int.reduceLT, Int.reduceNeg, Int.reduceLE, appendP, appendAt, letGo, setLoc, locVal, Int.reduceToNat, boxCells, und, h4]) (by simp (maxSteps := 5000000) only [SA, SB, SD, R, guardAt, binP, intP, indexAddrP, elemsOf, readCells, lenP, lenAt, resultsP, resultP, oneOr, reduceCtorEq, reduceIte, Nat.reduceEqDiff, Nat.reduceAdd, Nat.zero_add, Nat.reduceMul, Nat.reduceLT, Nat.reduceLeDiff, Int.reduceLT, Int.reduceNeg, Int.reduceLE, appendP, appendAt, letGo, setLoc, locVal, Int.reduceToNat, boxCells, und]; rfl) (by simp (maxSteps := 5000000) only [SA, SB, SD, R, guardAt, binP, intP, indexAddrP, elemsOf, readCells, lenP, lenAt, resultsP, resultP, oneOr, reduceCtorEq, reduceIte, Nat.reduceEqDiff, Nat.reduceAdd, Nat.zero_add, Nat.reduceMul, Nat.reduceLT, Nat.reduceLeDiff, Int.reduceLT, Int.reduceNeg, Int.reduceLE, appendP, appendAt, letGo, setLoc, locVal, Int.reduceToNat, boxCells, und, hp])
    · have hxb := hxb (by omega)
      by_cases c2 : x.getD i 0 > x.getD b.toNat 0
      · rw [if_pos (Or.inr c2)] at hp
        generalize x.getD i 0 = u at *
        generalize x.getD b.toNat 0 = v at *
        simp (maxSteps := 5000000) only [SA, SB, SD, R, guardAt, binP, intP, indexAddrP, elemsOf, readCells, lenP, lenAt, resultsP, resultP, oneOr, reduceCtorEq, reduceIte, Nat.reduceEqDiff, Nat.reduceAdd, Nat.zero_add, Nat.reduceMul, Nat.reduceLT, Nat.reduceLeDiff, Int.reduceLT, Int.reduceNeg, Int.reduceLE, appendP, appendAt, letGo, setLoc, locVal, Int.reduceToNat, boxCells, und, TY, TN, h4, h10, h3, hi', hi0, hx, hxb, c1, c2, hw]
        exact ih (i + 1) _ (by omega) (by simp (maxSteps := 5000000) only [SA, SB, SD, R, guardAt, binP, intP, indexAddrP, elemsOf, readCells, lenP, lenAt, resultsP, resultP, oneOr, reduceCtorEq, reduceIte, Nat.reduceEqDiff, Nat.reduceAdd, Nat.zero_add, Nat.reduceMul, Nat.reduceLT, Nat.reduceLeDiff, Int.reduceLT, Int.reduceNeg, Int.reduceLE, appendP, appendAt, letGo, setLoc, locVal, Int.reduceToNat, boxCells, und, h4]) (by simp (maxSteps := 5000000) only [SA, SB, SD, R, guardAt, binP, intP, indexAddrP, elemsOf, readCells, lenP, lenAt, resultsP, resultP, oneOr, reduceCtorEq, reduceIte, Nat.reduceEqDiff, Nat.reduceAdd, Nat.zero_add, Nat.reduceMul, Nat.reduceLT, Nat.reduceLeDiff, Int.reduceLT, Int.reduceNeg, Int.reduceLE, appendP, appendAt, letGo, setLoc, locVal, Int.reduceToNat, boxCells, und]; rfl) (by simp (maxSteps := 5000000) only [SA, SB, SD, R, guardAt, binP, intP, indexAddrP, elemsOf, readCells, lenP, lenAt, resultsP, resultP, oneOr, reduceCtorEq, reduceIte, Nat.reduceEqDiff, Nat.reduceAdd, Nat.zero_add, Nat.reduceMul, Nat.reduceLT, Nat.reduceLeDiff, Int.reduceLT, Int.reduceNeg, Int.reduceLE, appendP, appendAt, letGo, setLoc, locVal, Int.reduceToNat, boxCells, und, hp])
      · rw [if_neg (by simp only [not_or]; exact ⟨c1, c2⟩)] at hp
        generalize x.getD i 0 = u at *
        generalize x.getD b.toNat 0 = v at *
        simp (maxSteps := 5000000) only [SA, SB, SD, R, guardAt, binP, intP, indexAddrP, elemsOf, readCells, lenP, lenAt, resultsP, resultP, oneOr, reduceCtorEq, reduceIte, Nat.reduceEqDiff, Nat.reduceAdd, Nat.zero_add, Nat.reduceMul, Nat.reduceLT, Nat.reduceLeDiff, Int.reduceLT, Int.reduceNeg, Int.reduceLE, appendP, appendAt, letGo, setLoc, locVal, Int.reduceToNat, boxCells, und, TY, TN, h4, h10, h3, hi', hi0, hx, hxb, c1, c2, hw]
        exact ih (i + 1) _ (by omega) (by simp (maxSteps := 5000000) only [SA, SB, SD, R, guardAt, binP, intP, indexAddrP, elemsOf, readCells, lenP, lenAt, resultsP, resultP, oneOr, reduceCtorEq, reduceIte, Nat.reduceEqDiff, Nat.reduceAdd, Nat.zero_add, Nat.reduceMul, Nat.reduceLT, Nat.reduceLeDiff, Int.reduceLT, Int.reduceNeg, Int.reduceLE, appendP, appendAt, letGo, setLoc, locVal, Int.reduceToNat, boxCells, und, h4]) (by simp (maxSteps := 5000000) only [SA, SB, SD, R, guardAt, binP, intP, indexAddrP, elemsOf, readCells, lenP, lenAt, resultsP, resultP, oneOr, reduceCtorEq, reduceIte, Nat.reduceEqDiff, Nat.reduceAdd, Nat.zero_add, Nat.reduceMul, Nat.reduceLT, Nat.reduceLeDiff, Int.reduceLT, Int.reduceNeg, Int.reduceLE, appendP, appendAt, letGo, setLoc, locVal, Int.reduceToNat, boxCells, und]; rfl) (by simp (maxSteps := 5000000) only [SA, SB, SD, R, guardAt, binP, intP, indexAddrP, elemsOf, readCells, lenP, lenAt, resultsP, resultP, oneOr, reduceCtorEq, reduceIte, Nat.reduceEqDiff, Nat.reduceAdd, Nat.zero_add, Nat.reduceMul, Nat.reduceLT, Nat.reduceLeDiff, Int.reduceLT, Int.reduceNeg, Int.reduceLE, appendP, appendAt, letGo, setLoc, locVal, Int.reduceToNat, boxCells, und, hp, h3])
theorem call22 (l : List Int) : callL CC 22 [.sl (ints l)] [] = some (.ret (.int .i64 (peakI l)), []) := by
  rw [callL_enter (fn := Try.f22) (c := Try.f22.body.getD .skip) rfl fat22 rfl ok22 (Nat.le_of_ble_eq_true rfl)]
  have hloop := loop22 _ rfl (rd l) (by have := rd_length l; omega)
  obtain ⟨ev, eo, so, co, ⟨hev, hco⟩, R⟩ := RULES CC; rw [← hev]; have o35 := @op35; rw [← hco] at o35
  rw [← hev] at hloop
  simp only [fpart, part', Try.f22, Option.getD] at hloop ⊢
  simp (maxSteps := 5000000) only [SA, SB, SD, R, guardAt, binP, intP, indexAddrP, elemsOf, readCells, lenP, lenAt, resultsP, resultP, oneOr, reduceCtorEq, reduceIte, Nat.reduceEqDiff, Nat.reduceAdd, Nat.zero_add, Nat.reduceMul, Nat.reduceLT, Nat.reduceLeDiff, Int.reduceLT, Int.reduceNeg, Int.reduceLE, appendP, appendAt, letGo, setLoc, locVal, Int.reduceToNat, boxCells, und, TY, o35]
  generalize hE : ev _ _ = r
  obtain ⟨e', he, h3⟩ := useLoop' hE (hloop (rd l).length 0 _ (by omega) (by simp (maxSteps := 5000000) only [SA, SB, SD, R, guardAt, binP, intP, indexAddrP, elemsOf, readCells, lenP, lenAt, resultsP, resultP, oneOr, reduceCtorEq, reduceIte, Nat.reduceEqDiff, Nat.reduceAdd, Nat.zero_add, Nat.reduceMul, Nat.reduceLT, Nat.reduceLeDiff, Int.reduceLT, Int.reduceNeg, Int.reduceLE, appendP, appendAt, letGo, setLoc, locVal, Int.reduceToNat, boxCells, und]) (by simp (maxSteps := 5000000) only [SA, SB, SD, R, guardAt, binP, intP, indexAddrP, elemsOf, readCells, lenP, lenAt, resultsP, resultP, oneOr, reduceCtorEq, reduceIte, Nat.reduceEqDiff, Nat.reduceAdd, Nat.zero_add, Nat.reduceMul, Nat.reduceLT, Nat.reduceLeDiff, Int.reduceLT, Int.reduceNeg, Int.reduceLE, appendP, appendAt, letGo, setLoc, locVal, Int.reduceToNat, boxCells, und]; rfl) (by simp (maxSteps := 5000000) only [SA, SB, SD, R, guardAt, binP, intP, indexAddrP, elemsOf, readCells, lenP, lenAt, resultsP, resultP, oneOr, reduceCtorEq, reduceIte, Nat.reduceEqDiff, Nat.reduceAdd, Nat.zero_add, Nat.reduceMul, Nat.reduceLT, Nat.reduceLeDiff, Int.reduceLT, Int.reduceNeg, Int.reduceLE, appendP, appendAt, letGo, setLoc, locVal, Int.reduceToNat, boxCells, und]; rfl))
  subst he
  simp (maxSteps := 5000000) only [SA, SB, SD, R, guardAt, binP, intP, indexAddrP, elemsOf, readCells, lenP, lenAt, resultsP, resultP, oneOr, reduceCtorEq, reduceIte, Nat.reduceEqDiff, Nat.reduceAdd, Nat.zero_add, Nat.reduceMul, Nat.reduceLT, Nat.reduceLeDiff, Int.reduceLT, Int.reduceNeg, Int.reduceLE, appendP, appendAt, letGo, setLoc, locVal, Int.reduceToNat, boxCells, und, TY, h3, peakI]
theorem op22 (l : List Int) (bx) : callOp CC (callL CC) 22 [.sl (ints l)] bx = some (.ret (.int .i64 (peakI l)), bx) := callOp_of rfl (by simp only [SA, Bool.and_true]) (call22 l) (by simp only [SA])

/-- the sums of groups of k: 'j' elements of the first are summed already, to 's' -/
def grp (k : Nat) : Nat → Int → List Int → List Int
  | _, _, [] => []
  | j, s, v :: y => if j + 1 = k ∨ y = [] then satI (s + v) :: grp k 0 0 y else grp k (j + 1) (s + v) y
theorem grp_cons (k j : Nat) (s v : Int) (y : List Int) : grp k j s (v :: y) = if j + 1 = k ∨ y = [] then satI (s + v) :: grp k 0 0 y else grp k (j + 1) (s + v) y := rfl
theorem grp_take (k : Nat) : ∀ (y : List Int) (j : Nat) (s : Int), y ≠ [] → j < k → grp k j s y = satI (s + sumI (y.take (k - j))) :: grp k 0 0 (y.drop (k - j))
  | [], _, _, h, _ => absurd rfl h
  | v :: y, j, s, _, hj => by
    rw [grp_cons]
    by_cases h1 : j + 1 = k
    · rw [if_pos (Or.inl h1), show k - j = 1 from by omega]
      simp [sumI_cons, sumI_nil]
    · by_cases h2 : y = []
      · subst h2
        rw [if_pos (Or.inr rfl), List.take_of_length_le (by simp; omega), List.drop_eq_nil_of_le (by simp; omega), sumI_cons, sumI_nil, Int.add_zero]
      · rw [if_neg (by simp only [not_or]; exact ⟨h1, h2⟩), grp_take k y (j + 1) (s + v) h2 (by omega), show k - j = (k - (j + 1)) + 1 from by omega, List.take_succ_cons, List.drop_succ_cons, sumI_cons]
        congr 2
        omega
def resI (l : List Int) (k : Int) : List Int := if k < 1 then [] else grp k.toNat 0 0 (rd l)

theorem grp_length (k : Nat) : ∀ (y : List Int) (j : Nat) (s : Int), (grp k j s y).length ≤ y.length
  | [], _, _ => by simp [grp]
  | v :: y, j, s => by
    rw [grp_cons]
    have h1 := grp_length k y 0 0
    have h2 := grp_length k y (j + 1) (s + v)
    split <;> simp <;> omega
theorem loop20 (L : Code) (hL : L = fpart Try.f20 [1,1,1,1,0,0]) (k : Int) (hk : 1 ≤ k) (hkI : inI k) : ∀ (f : Nat) (x acc : List Int) (e : List PV), x.length ≤ f → acc.length + x.length ≤ 1000 → limI x → getT e 1 = .int .i64 k → getT e 6 = .sl (ints x) → getT e 5 = .osl 3 (ints acc) →
   ∃ e', evL CC L ⟨e, []⟩ = some (.exit 0, ⟨e', []⟩) ∧ getT e' 5 = .osl 3 (ints (acc ++ grp k.toNat 0 0 x)) := by
  intro f
  induction f with
  | zero =>
    intro x acc e hf hlen hm h1 h6 h5
    rw [evL_at (fpart Try.f20 [1,1,1,1,0,0,0]) hL]
    obtain ⟨ev, eo, so, co, ⟨hev, hco⟩, R⟩ := RULES CC; rw [← hev]
    have hx : x = [] := List.eq_nil_of_length_eq_zero (by omega)
    subst hx
    have hi' : ¬ (((0 : Nat) : Int) > 0) := by omega
    simp only [fpart, part', Try.f20, Option.getD]
    simp (maxSteps := 5000000) only [SA, SB, SD, R, guardAt, binP, intP, indexAddrP, elemsOf, readCells, lenP, lenAt, resultsP, resultP, oneOr, reduceCtorEq, reduceIte, Nat.reduceEqDiff, Nat.reduceAdd, Nat.zero_add, Nat.reduceMul, Nat.reduceLT, Nat.reduceLeDiff, Int.reduceLT, Int.reduceNeg, Int.reduceLE, appendP, appendAt, letGo, setLoc, locVal, Int.reduceToNat, boxCells, und, TY, h1, h6, hi']
    exact ⟨_, rfl, by simp (maxSteps := 5000000) only [SA, SB, SD, R, guardAt, binP, intP, indexAddrP, elemsOf, readCells, lenP, lenAt, resultsP, resultP, oneOr, reduceCtorEq, reduceIte, Nat.reduceEqDiff, Nat.reduceAdd, Nat.zero_add, Nat.reduceMul, Nat.reduceLT, Nat.reduceLeDiff, Int.reduceLT, Int.reduceNeg, Int.reduceLE, appendP, appendAt, letGo, setLoc, locVal, Int.reduceToNat, boxCells, und, h5, grp]⟩
  | succ f ih =>
    intro x acc e hf hlen hm h1 h6 h5
    rw [evL_at (fpart Try.f20 [1,1,1,1,0,0,0]) hL]
    by_cases hx : x = []
    · obtain ⟨ev, eo, so, co, ⟨hev, hco⟩, R⟩ := RULES CC; rw [← hev]
      subst hx
      have hi' : ¬ (((0 : Nat) : Int) > 0) := by omega
      simp only [fpart, part', Try.f20, Option.getD]
      simp (maxSteps := 5000000) only [SA, SB, SD, R, guardAt, binP, intP, indexAddrP, elemsOf, readCells, lenP, lenAt, resultsP, resultP, oneOr, reduceCtorEq, reduceIte, Nat.reduceEqDiff, Nat.reduceAdd, Nat.zero_add, Nat.reduceMul, Nat.reduceLT, Nat.reduceLeDiff, Int.reduceLT, Int.reduceNeg, Int.reduceLE, appendP, appendAt, letGo, setLoc, locVal, Int.reduceToNat, boxCells, und, TY, h1, h6, hi']
      exact ⟨_, rfl, by simp (maxSteps := 5000000) only [SA, SB, SD, R, guardAt, binP, intP, indexAddrP, elemsOf, readCells, lenP, lenAt, resultsP, resultP, oneOr, reduceCtorEq, reduceIte, Nat.reduceEqDiff, Nat.reduceAdd, Nat.zero_add, Nat.reduceMul, Nat.reduceLT, Nat.reduceLeDiff, Int.reduceLT, Int.reduceNeg, Int.reduceLE, appendP, appendAt, letGo, setLoc, locVal, Int.reduceToNat, boxCells, und, h5, grp]⟩
    · obtain ⟨ev, eo, so, co, ⟨hev, hco⟩, R⟩ := RULES CC; rw [← hev]; have o36 := @op36; rw [← hco] at o36
      rw [← hev] at ih
      have hpos : 0 < x.length := List.length_pos_iff.2 hx
      have hi' : (x.length : Int) > 0 := by omega
      have hg := grp_take k.toNat x 0 0 hx (by omega)
      rw [Nat.sub_zero, Int.zero_add] at hg
      generalize hB : min k (x.length : Int) = B
      have hb1 : (0 : Int) ≤ B ∧ B ≤ (x.length : Int) := by omega
      have ht : x.take B.toNat = x.take k.toNat := by
        by_cases h : k ≤ (x.length : Int)
        · rw [show B = k from by omega]
        · rw [show B = (x.length : Int) from by omega, Int.toNat_natCast, List.take_of_length_le (Nat.le_refl _), List.take_of_length_le (by omega)]
      have hd : x.drop B.toNat = x.drop k.toNat := by
        by_cases h : k ≤ (x.length : Int)
        · rw [show B = k from by omega]
        · rw [show B = (x.length : Int) from by omega, Int.toNat_natCast, List.drop_eq_nil_of_le (Nat.le_refl _), List.drop_eq_nil_of_le (by omega)]
      have h36 := o36 (x.take B.toNat) (by simp; omega) (limI_sub hm fun y hy => List.mem_of_mem_take hy)
      have hc : acc.length + 1 ≤ 1000000 := by omega
      have hal : ((ints x).all fun v => v.cells.length == 1) = true := by simp only [SA]
      have hsl : (if B.toNat = 0 ∨ ((ints x).all fun v => v.cells.length == 1) = true then some (PV.sl (((ints x).take x.length).drop B.toNat)) else none) = some (PV.sl (ints (x.drop B.toNat))) := by
        rw [if_pos (Or.inr hal)]
        simp only [SA]
        rw [List.take_of_length_le (Nat.le_refl _)]
      have hb2 : (0 : Int) ≤ (x.length : Int) ∧ (x.length : Int) ≤ (x.length : Int) := by omega
      simp only [fpart, part', Try.f20, Option.getD]
      simp (maxSteps := 5000000) only [SA, SB, SD, R, guardAt, binP, intP, indexAddrP, elemsOf, readCells, lenP, lenAt, resultsP, resultP, oneOr, reduceCtorEq, reduceIte, Nat.reduceEqDiff, Nat.reduceAdd, Nat.zero_add, Nat.reduceMul, Nat.reduceLT, Nat.reduceLeDiff, Int.reduceLT, Int.reduceNeg, Int.reduceLE, appendP, appendAt, letGo, setLoc, locVal, Int.reduceToNat, boxCells, und, TY, TN, h1, h6, h5, hi', minP2, hB, sliceP, boundO, boundP, hb1, h36, bs1, ap24, hc, hal, List.take_of_length_le (Nat.le_refl x.length)]
      have hih := ih (x.drop B.toNat) (acc ++ [satI (sumI (x.take B.toNat))])
      rw [hg, ← ht, ← hd]
      rw [List.append_assoc] at hih
      simp only [List.cons_append, List.nil_append] at hih
      exact hih _ (by simp; omega) (by simp; omega) (limI_sub hm fun y hy => List.mem_of_mem_drop hy) (by simp (maxSteps := 5000000) only [SA, SB, SD, R, guardAt, binP, intP, indexAddrP, elemsOf, readCells, lenP, lenAt, resultsP, resultP, oneOr, reduceCtorEq, reduceIte, Nat.reduceEqDiff, Nat.reduceAdd, Nat.zero_add, Nat.reduceMul, Nat.reduceLT, Nat.reduceLeDiff, Int.reduceLT, Int.reduceNeg, Int.reduceLE, appendP, appendAt, letGo, setLoc, locVal, Int.reduceToNat, boxCells, und, h1]) (by simp (maxSteps := 5000000) only [SA, SB, SD, R, guardAt, binP, intP, indexAddrP, elemsOf, readCells, lenP, lenAt, resultsP, resultP, oneOr, reduceCtorEq, reduceIte, Nat.reduceEqDiff, Nat.reduceAdd, Nat.zero_add, Nat.reduceMul, Nat.reduceLT, Nat.reduceLeDiff, Int.reduceLT, Int.reduceNeg, Int.reduceLE, appendP, appendAt, letGo, setLoc, locVal, Int.reduceToNat, boxCells, und]) (by simp (maxSteps := 5000000) only [SA, SB, SD, R, guardAt, binP, intP, indexAddrP, elemsOf, readCells, lenP, lenAt, resultsP, resultP, oneOr, reduceCtorEq, reduceIte, Nat.reduceEqDiff, Nat.reduceAdd, Nat.zero_add, Nat.reduceMul, Nat.reduceLT, Nat.reduceLeDiff, Int.reduceLT, Int.reduceNeg, Int.reduceLE, appendP, appendAt, letGo, setLoc, locVal, Int.reduceToNat, boxCells, und])
theorem call20 (l : List Int) (k : Int) (hk : inI k) : callL CC 20 [.sl (ints l), .int .i64 k] [] = some (.ret (.sl (ints (resI l k))), []) := by
  rw [callL_enter (fn := Try.f20) (c := Try.f20.body.getD .skip) rfl fat20 rfl ok20 (Nat.le_of_ble_eq_true rfl)]
  by_cases c1 : k < 1
  · obtain ⟨ev, eo, so, co, ⟨hev, hco⟩, R⟩ := RULES CC; rw [← hev]
    simp only [fpart, part', Try.f20, Option.getD]
    simp (maxSteps := 5000000) only [SA, SB, SD, R, guardAt, binP, intP, indexAddrP, elemsOf, readCells, lenP, lenAt, resultsP, resultP, oneOr, reduceCtorEq, reduceIte, Nat.reduceEqDiff, Nat.reduceAdd, Nat.zero_add, Nat.reduceMul, Nat.reduceLT, Nat.reduceLeDiff, Int.reduceLT, Int.reduceNeg, Int.reduceLE, appendP, appendAt, letGo, setLoc, locVal, Int.reduceToNat, boxCells, und, TY, TN, c1, resI, ints_nil']
  · have hloop := loop20 _ rfl k (by omega) hk (rd l).length (rd l) []
    obtain ⟨ev, eo, so, co, ⟨hev, hco⟩, R⟩ := RULES CC; rw [← hev]; have o34 := @op34; rw [← hco] at o34
    rw [← hev] at hloop
    simp only [fpart, part', Try.f20, Option.getD] at hloop ⊢
    simp (maxSteps := 5000000) only [SA, SB, SD, R, guardAt, binP, intP, indexAddrP, elemsOf, readCells, lenP, lenAt, resultsP, resultP, oneOr, reduceCtorEq, reduceIte, Nat.reduceEqDiff, Nat.reduceAdd, Nat.zero_add, Nat.reduceMul, Nat.reduceLT, Nat.reduceLeDiff, Int.reduceLT, Int.reduceNeg, Int.reduceLE, appendP, appendAt, letGo, setLoc, locVal, Int.reduceToNat, boxCells, und, TY, TN, c1, o34]
    generalize hE : ev _ _ = r
    obtain ⟨e', he, h5⟩ := useLoop' hE (hloop _ (Nat.le_refl _) (by have := rd_length l; simp; omega) (limI_rd l) (by simp (maxSteps := 5000000) only [SA, SB, SD, R, guardAt, binP, intP, indexAddrP, elemsOf, readCells, lenP, lenAt, resultsP, resultP, oneOr, reduceCtorEq, reduceIte, Nat.reduceEqDiff, Nat.reduceAdd, Nat.zero_add, Nat.reduceMul, Nat.reduceLT, Nat.reduceLeDiff, Int.reduceLT, Int.reduceNeg, Int.reduceLE, appendP, appendAt, letGo, setLoc, locVal, Int.reduceToNat, boxCells, und]) (by simp (maxSteps := 5000000) only [SA, SB, SD, R, guardAt, binP, intP, indexAddrP, elemsOf, readCells, lenP, lenAt, resultsP, resultP, oneOr, reduceCtorEq, reduceIte, Nat.reduceEqDiff, Nat.reduceAdd, Nat.zero_add, Nat.reduceMul, Nat.reduceLT, Nat.reduceLeDiff, Int.reduceLT, Int.reduceNeg, Int.reduceLE, appendP, appendAt, letGo, setLoc, locVal, Int.reduceToNat, boxCells, und]) (by simp (maxSteps := 5000000) only [SA, SB, SD, R, guardAt, binP, intP, indexAddrP, elemsOf, readCells, lenP, lenAt, resultsP, resultP, oneOr, reduceCtorEq, reduceIte, Nat.reduceEqDiff, Nat.reduceAdd, Nat.zero_add, Nat.reduceMul, Nat.reduceLT, Nat.reduceLeDiff, Int.reduceLT, Int.reduceNeg, Int.reduceLE, appendP, appendAt, letGo, setLoc, locVal, Int.reduceToNat, boxCells, und]; rfl))
    subst he
    rw [List.nil_append] at h5
    simp (maxSteps := 5000000) only [SA, SB, SD, R, guardAt, binP, intP, indexAddrP, elemsOf, readCells, lenP, lenAt, resultsP, resultP, oneOr, reduceCtorEq, reduceIte, Nat.reduceEqDiff, Nat.reduceAdd, Nat.zero_add, Nat.reduceMul, Nat.reduceLT, Nat.reduceLeDiff, Int.reduceLT, Int.reduceNeg, Int.reduceLE, appendP, appendAt, letGo, setLoc, locVal, Int.reduceToNat, boxCells, und, TY, TN, h5, resI, c1]
theorem op20 (l : List Int) (k : Int) (hk : inI k) (bx) : callOp CC (callL CC) 20 [.sl (ints l), .int .i64 k] bx = some (.ret (.sl (ints (resI l k))), bx) := callOp_of rfl (by simp only [SA, Bool.and_true]) (call20 l k hk) (by simp only [SA])
end Go.HH
