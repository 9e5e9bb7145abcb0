/-
  Series: Peak, and its law.
-/
import Derived.Test.YtfhmhbnljmbjhaaS3
namespace Go.HH
open Go Go.Proofs
set_option maxRecDepth 100000
set_option linter.unusedSimpArgs false
theorem ok15 : fnOK CC Try.f15 (Try.f15.body.getD .skip) = true := by kernel_rfl
theorem fat15 : CC.P.funcs[15]? = some Try.f15 := by kernel_rfl
theorem ok22 : fnOK CC Try.f22 (Try.f22.body.getD .skip) = true := by kernel_rfl
theorem fat22 : CC.P.funcs[22]? = some Try.f22 := by kernel_rfl
theorem ok4 : fnOK CC Try.f4 (Try.f4.body.getD .skip) = true := by kernel_rfl
theorem fat4 : CC.P.funcs[4]? = some Try.f4 := by kernel_rfl
/-- the index of the greatest of the first elements -/
def pk (x : List Int) : Nat → Int
  | 0 => -1
  | i + 1 => if pk x i < 0 ∨ x.getD i 0 > x.getD (pk x i).toNat 0 then (i : Int) else pk x i
def peakI (l : List Int) : Int := pk (rd l) (rd l).length
theorem pk_range (x : List Int) : ∀ i, -1 ≤ pk x i ∧ pk x i < (i : Int) ∧ (0 < i → 0 ≤ pk x i)
  | 0 => by simp [pk]
  | i + 1 => by
    have ⟨h1, h2, h3⟩ := pk_range x i
    unfold pk
    split
    · omega
    · rename_i h
      simp only [not_or] at h
      omega
theorem pk_max (x : List Int) : ∀ i j : Nat, j < i → x.getD j 0 ≤ x.getD (pk x i).toNat 0 ∧ ((j : Int) < pk x i → x.getD j 0 < x.getD (pk x i).toNat 0)
  | 0, j, h => by omega
  | i + 1, j, h => by
    have ⟨h1, h2, h3⟩ := pk_range x i
    unfold pk
    split
    · rename_i hc
      by_cases hj : j < i
      · have ⟨a, b⟩ := pk_max x i j hj
        have h0 := h3 (by omega)
        have hc : x.getD i 0 > x.getD (pk x i).toNat 0 := by rcases hc with hc | hc <;> omega
        rw [Int.toNat_natCast]
        exact ⟨by omega, fun _ => by omega⟩
      · have : j = i := by omega
        subst this
        rw [Int.toNat_natCast]
        exact ⟨by omega, fun h => by omega⟩
    · rename_i hc
      simp only [not_or] at hc
      by_cases hj : j < i
      · exact pk_max x i j hj
      · have : j = i := by omega
        subst this
        exact ⟨by omega, fun h => by omega⟩

theorem loop15 (L : Code) (hL : L = fpart Try.f15 [1,1,1,0,1,0]) (x : List Int) (hl : x.length ≤ 1000) : ∀ (k i : Nat) (e : List PV), i + k = x.length → getT e 4 = .sl (ints x) → getT e 9 = .int .i64 x.length → getT e 10 = .int .i64 i → getT e 3 = .int .i64 (pk x i) →
   ∃ e', evL CC L ⟨e, []⟩ = some (.exit 0, ⟨e', []⟩) ∧ getT e' 3 = .int .i64 (pk x x.length) := by
  intro k
  induction k with
  | zero =>
    intro i e hk h4 h9 h10 h3
    rw [evL_at (fpart Try.f15 [1,1,1,0,1,0,0]) hL]
    obtain ⟨ev, eo, so, co, ⟨hev, hco⟩, R⟩ := RULES CC; rw [← hev]
    have hi' : ¬ ((i : Int) < (x.length : Int)) := by omega
    simp only [fpart, part', Try.f15, Option.getD]
    simp (maxSteps := 5000000) only [SA, SB, SD, R, guardAt, binP, intP, indexAddrP, elemsOf, readCells, lenP, lenAt, resultsP, resultP, oneOr, reduceCtorEq, reduceIte, Nat.reduceEqDiff, Nat.reduceAdd, Nat.zero_add, Nat.reduceMul, Nat.reduceLT, Nat.reduceLeDiff, Int.reduceLT, Int.reduceNeg, Int.reduceLE, appendP, appendAt, letGo, setLoc, locVal, Int.reduceToNat, boxCells, und, TY, h4, h9, h10, hi']
    exact ⟨_, rfl, by simp (maxSteps := 5000000) only [SA, SB, SD, R, guardAt, binP, intP, indexAddrP, elemsOf, readCells, lenP, lenAt, resultsP, resultP, oneOr, reduceCtorEq, reduceIte, Nat.reduceEqDiff, Nat.reduceAdd, Nat.zero_add, Nat.reduceMul, Nat.reduceLT, Nat.reduceLeDiff, Int.reduceLT, Int.reduceNeg, Int.reduceLE, appendP, appendAt, letGo, setLoc, locVal, Int.reduceToNat, boxCells, und, h3]; rw [show i = x.length from by omega]⟩
  | succ k ih =>
    intro i e hk h4 h9 h10 h3
    rw [evL_at (fpart Try.f15 [1,1,1,0,1,0,0]) hL]
    obtain ⟨ev, eo, so, co, ⟨hev, hco⟩, R⟩ := RULES CC; rw [← hev]
    rw [← hev] at ih
    have hi' : ((i : Int) < (x.length : Int)) := by omega
    have hi0 : ¬ ((i : Int) < 0) := by omega
    have hx : x[i]? = some (x.getD i 0) := by rw [List.getD_eq_getElem?_getD, List.getElem?_eq_getElem (by omega)]; rfl
    have hw := wrap_i64 (n := (i : Int) + 1) ⟨by omega, by omega⟩
    have ⟨r1, r2, r3⟩ := pk_range x i
    have hp : pk x (i + 1) = if pk x i < 0 ∨ x.getD i 0 > x.getD (pk x i).toNat 0 then (i : Int) else pk x i := by rw [pk]
    have hxb : 0 ≤ pk x i → x[(pk x i).toNat]? = some (x.getD (pk x i).toNat 0) := fun h => by rw [List.getD_eq_getElem?_getD, List.getElem?_eq_getElem (by omega)]; rfl
    generalize pk x i = b at h3 r1 r2 r3 hp hxb
    simp only [fpart, part', Try.f15, Option.getD]
    by_cases c1 : b < 0
    · rw [if_pos (Or.inl c1)] at hp
      simp (maxSteps := 5000000) only [SA, SB, SD, R, guardAt, binP, intP, indexAddrP, elemsOf, readCells, lenP, lenAt, resultsP, resultP, oneOr, reduceCtorEq, reduceIte, Nat.reduceEqDiff, Nat.reduceAdd, Nat.zero_add, Nat.reduceMul, Nat.reduceLT, Nat.reduceLeDiff, Int.reduceLT, Int.reduceNeg, Int.reduceLE, appendP, appendAt, letGo, setLoc, locVal, Int.reduceToNat, boxCells, und, TY, TN, h4, h9, h10, h3, hi', hi0, hx, c1, hw]
      exact ih (i + 1) _ (by omega) (by simp (maxSteps := 5000000) only [SA, SB, SD, R, guardAt, binP, intP, indexAddrP, elemsOf, readCells, lenP, lenAt, resultsP, resultP, oneOr, reduceCtorEq, reduceIte, Nat.reduceEqDiff, Nat.reduceAdd, Nat.zero_add, Nat.reduceMul, Nat.reduceLT, Nat.reduceLeDiff, Int.reduceLT, Int.reduceNeg, Int.reduceLE, appendP, appendAt, letGo, setLoc, locVal, Int.reduceToNat, boxCells, und, h4]) (by simp (maxSteps := 5000000) only [SA, SB, SD, R, guardAt, binP, intP, indexAddrP, elemsOf, readCells, lenP, lenAt, resultsP, resultP, oneOr, reduceCtorEq, reduceIte, Nat.reduceEqDiff, Nat.reduceAdd, Nat.zero_add, Nat.reduceMul, Nat.reduceLT, Nat.reduceLeDiff, Int.reduceLT, Int.reduceNeg, Int.reduceLE, appendP, appendAt, letGo, setLoc, locVal, Int.reduceToNat, boxCells, und, h9]) (by simp (maxSteps := 5000000) only [SA, SB, SD, R, guardAt, binP, intP, indexAddrP, elemsOf, readCells, lenP, lenAt, resultsP, resultP, oneOr, reduceCtorEq, reduceIte, Nat.reduceEqDiff, Nat.reduceAdd, Nat.zero_add, Nat.reduceMul, Nat.reduceLT, Nat.reduceLeDiff, Int.reduceLT, Int.reduceNeg, Int.reduceLE, appendP, appendAt, letGo, setLoc, locVal, Int.reduceToNat, boxCells, und]; rfl) (by simp (maxSteps := 5000000) only [SA, SB, SD, R, guardAt, binP, intP, indexAddrP, elemsOf, readCells, lenP, lenAt, resultsP, resultP, oneOr, reduceCtorEq, reduceIte, Nat.reduceEqDiff, Nat.reduceAdd, Nat.zero_add, Nat.reduceMul, Nat.reduceLT, Nat.reduceLeDiff, Int.reduceLT, Int.reduceNeg, Int.reduceLE, appendP, appendAt, letGo, setLoc, locVal, Int.reduceToNat, boxCells, und, hp])
    · have hxb := hxb (by omega)
      by_cases c2 : x.getD i 0 > x.getD b.toNat 0
      · rw [if_pos (Or.inr c2)] at hp
        generalize x.getD i 0 = u at *
        generalize x.getD b.toNat 0 = v at *
        simp (maxSteps := 5000000) only [SA, SB, SD, R, guardAt, binP, intP, indexAddrP, elemsOf, readCells, lenP, lenAt, resultsP, resultP, oneOr, reduceCtorEq, reduceIte, Nat.reduceEqDiff, Nat.reduceAdd, Nat.zero_add, Nat.reduceMul, Nat.reduceLT, Nat.reduceLeDiff, Int.reduceLT, Int.reduceNeg, Int.reduceLE, appendP, appendAt, letGo, setLoc, locVal, Int.reduceToNat, boxCells, und, TY, TN, h4, h9, h10, h3, hi', hi0, hx, hxb, c1, c2, hw]
        exact ih (i + 1) _ (by omega) (by simp (maxSteps := 5000000) only [SA, SB, SD, R, guardAt, binP, intP, indexAddrP, elemsOf, readCells, lenP, lenAt, resultsP, resultP, oneOr, reduceCtorEq, reduceIte, Nat.reduceEqDiff, Nat.reduceAdd, Nat.zero_add, Nat.reduceMul, Nat.reduceLT, Nat.reduceLeDiff, Int.reduceLT, Int.reduceNeg, Int.reduceLE, appendP, appendAt, letGo, setLoc, locVal, Int.reduceToNat, boxCells, und, h4]) (by simp (maxSteps := 5000000) only [SA, SB, SD, R, guardAt, binP, intP, indexAddrP, elemsOf, readCells, lenP, lenAt, resultsP, resultP, oneOr, reduceCtorEq, reduceIte, Nat.reduceEqDiff, Nat.reduceAdd, Nat.zero_add, Nat.reduceMul, Nat.reduceLT, Nat.reduceLeDiff, Int.reduceLT, Int.reduceNeg, Int.reduceLE, appendP, appendAt, letGo, setLoc, locVal, Int.reduceToNat, boxCells, und, h9]) (by simp (maxSteps := 5000000) only [SA, SB, SD, R, guardAt, binP, intP, indexAddrP, elemsOf, readCells, lenP, lenAt, resultsP, resultP, oneOr, reduceCtorEq, reduceIte, Nat.reduceEqDiff, Nat.reduceAdd, Nat.zero_add, Nat.reduceMul, Nat.reduceLT, Nat.reduceLeDiff, Int.reduceLT, Int.reduceNeg, Int.reduceLE, appendP, appendAt, letGo, setLoc, locVal, Int.reduceToNat, boxCells, und]; rfl) (by simp (maxSteps := 5000000) only [SA, SB, SD, R, guardAt, binP, intP, indexAddrP, elemsOf, readCells, lenP, lenAt, resultsP, resultP, oneOr, reduceCtorEq, reduceIte, Nat.reduceEqDiff, Nat.reduceAdd, Nat.zero_add, Nat.reduceMul, Nat.reduceLT, Nat.reduceLeDiff, Int.reduceLT, Int.reduceNeg, Int.reduceLE, appendP, appendAt, letGo, setLoc, locVal, Int.reduceToNat, boxCells, und, hp])
      · rw [if_neg (by simp only [not_or]; exact ⟨c1, c2⟩)] at hp
        generalize x.getD i 0 = u at *
        generalize x.getD b.toNat 0 = v at *
        simp (maxSteps := 5000000) only [SA, SB, SD, R, guardAt, binP, intP, indexAddrP, elemsOf, readCells, lenP, lenAt, resultsP, resultP, oneOr, reduceCtorEq, reduceIte, Nat.reduceEqDiff, Nat.reduceAdd, Nat.zero_add, Nat.reduceMul, Nat.reduceLT, Nat.reduceLeDiff, Int.reduceLT, Int.reduceNeg, Int.reduceLE, appendP, appendAt, letGo, setLoc, locVal, Int.reduceToNat, boxCells, und, TY, TN, h4, h9, h10, h3, hi', hi0, hx, hxb, c1, c2, hw]
        exact ih (i + 1) _ (by omega) (by simp (maxSteps := 5000000) only [SA, SB, SD, R, guardAt, binP, intP, indexAddrP, elemsOf, readCells, lenP, lenAt, resultsP, resultP, oneOr, reduceCtorEq, reduceIte, Nat.reduceEqDiff, Nat.reduceAdd, Nat.zero_add, Nat.reduceMul, Nat.reduceLT, Nat.reduceLeDiff, Int.reduceLT, Int.reduceNeg, Int.reduceLE, appendP, appendAt, letGo, setLoc, locVal, Int.reduceToNat, boxCells, und, h4]) (by simp (maxSteps := 5000000) only [SA, SB, SD, R, guardAt, binP, intP, indexAddrP, elemsOf, readCells, lenP, lenAt, resultsP, resultP, oneOr, reduceCtorEq, reduceIte, Nat.reduceEqDiff, Nat.reduceAdd, Nat.zero_add, Nat.reduceMul, Nat.reduceLT, Nat.reduceLeDiff, Int.reduceLT, Int.reduceNeg, Int.reduceLE, appendP, appendAt, letGo, setLoc, locVal, Int.reduceToNat, boxCells, und, h9]) (by simp (maxSteps := 5000000) only [SA, SB, SD, R, guardAt, binP, intP, indexAddrP, elemsOf, readCells, lenP, lenAt, resultsP, resultP, oneOr, reduceCtorEq, reduceIte, Nat.reduceEqDiff, Nat.reduceAdd, Nat.zero_add, Nat.reduceMul, Nat.reduceLT, Nat.reduceLeDiff, Int.reduceLT, Int.reduceNeg, Int.reduceLE, appendP, appendAt, letGo, setLoc, locVal, Int.reduceToNat, boxCells, und]; rfl) (by simp (maxSteps := 5000000) only [SA, SB, SD, R, guardAt, binP, intP, indexAddrP, elemsOf, readCells, lenP, lenAt, resultsP, resultP, oneOr, reduceCtorEq, reduceIte, Nat.reduceEqDiff, Nat.reduceAdd, Nat.zero_add, Nat.reduceMul, Nat.reduceLT, Nat.reduceLeDiff, Int.reduceLT, Int.reduceNeg, Int.reduceLE, appendP, appendAt, letGo, setLoc, locVal, Int.reduceToNat, boxCells, und, hp, h3])
theorem call15 (l : List Int) : callL CC 15 [.sl (ints l)] [] = some (.ret (.int .i64 (peakI l)), []) := by
  rw [callL_enter (fn := Try.f15) (c := Try.f15.body.getD .skip) rfl fat15 rfl ok15 (Nat.le_of_ble_eq_true rfl)]
  have hloop := loop15 _ rfl (rd l) (by have := rd_length l; omega)
  obtain ⟨ev, eo, so, co, ⟨hev, hco⟩, R⟩ := RULES CC; rw [← hev]; have o34 := @op34; rw [← hco] at o34
  rw [← hev] at hloop
  simp only [fpart, part', Try.f15, Option.getD] at hloop ⊢
  simp (maxSteps := 5000000) only [SA, SB, SD, R, guardAt, binP, intP, indexAddrP, elemsOf, readCells, lenP, lenAt, resultsP, resultP, oneOr, reduceCtorEq, reduceIte, Nat.reduceEqDiff, Nat.reduceAdd, Nat.zero_add, Nat.reduceMul, Nat.reduceLT, Nat.reduceLeDiff, Int.reduceLT, Int.reduceNeg, Int.reduceLE, appendP, appendAt, letGo, setLoc, locVal, Int.reduceToNat, boxCells, und, TY, o34]
  generalize hE : ev _ _ = r
  obtain ⟨e', he, h3⟩ := useLoop' hE (hloop (rd l).length 0 _ (by omega) (by simp (maxSteps := 5000000) only [SA, SB, SD, R, guardAt, binP, intP, indexAddrP, elemsOf, readCells, lenP, lenAt, resultsP, resultP, oneOr, reduceCtorEq, reduceIte, Nat.reduceEqDiff, Nat.reduceAdd, Nat.zero_add, Nat.reduceMul, Nat.reduceLT, Nat.reduceLeDiff, Int.reduceLT, Int.reduceNeg, Int.reduceLE, appendP, appendAt, letGo, setLoc, locVal, Int.reduceToNat, boxCells, und]) (by simp (maxSteps := 5000000) only [SA, SB, SD, R, guardAt, binP, intP, indexAddrP, elemsOf, readCells, lenP, lenAt, resultsP, resultP, oneOr, reduceCtorEq, reduceIte, Nat.reduceEqDiff, Nat.reduceAdd, Nat.zero_add, Nat.reduceMul, Nat.reduceLT, Nat.reduceLeDiff, Int.reduceLT, Int.reduceNeg, Int.reduceLE, appendP, appendAt, letGo, setLoc, locVal, Int.reduceToNat, boxCells, und]) (by simp (maxSteps := 5000000) only [SA, SB, SD, R, guardAt, binP, intP, indexAddrP, elemsOf, readCells, lenP, lenAt, resultsP, resultP, oneOr, reduceCtorEq, reduceIte, Nat.reduceEqDiff, Nat.reduceAdd, Nat.zero_add, Nat.reduceMul, Nat.reduceLT, Nat.reduceLeDiff, Int.reduceLT, Int.reduceNeg, Int.reduceLE, appendP, appendAt, letGo, setLoc, locVal, Int.reduceToNat, boxCells, und]; rfl) (by simp (maxSteps := 5000000) only [SA, SB, SD, R, guardAt, binP, intP, indexAddrP, elemsOf, readCells, lenP, lenAt, resultsP, resultP, oneOr, reduceCtorEq, reduceIte, Nat.reduceEqDiff, Nat.reduceAdd, Nat.zero_add, Nat.reduceMul, Nat.reduceLT, Nat.reduceLeDiff, Int.reduceLT, Int.reduceNeg, Int.reduceLE, appendP, appendAt, letGo, setLoc, locVal, Int.reduceToNat, boxCells, und]; rfl))
  subst he
  simp (maxSteps := 5000000) only [SA, SB, SD, R, guardAt, binP, intP, indexAddrP, elemsOf, readCells, lenP, lenAt, resultsP, resultP, oneOr, reduceCtorEq, reduceIte, Nat.reduceEqDiff, Nat.reduceAdd, Nat.zero_add, Nat.reduceMul, Nat.reduceLT, Nat.reduceLeDiff, Int.reduceLT, Int.reduceNeg, Int.reduceLE, appendP, appendAt, letGo, setLoc, locVal, Int.reduceToNat, boxCells, und, TY, h3, peakI]
theorem op15 (l : List Int) (bx) : callOp CC (callL CC) 15 [.sl (ints l)] bx = some (.ret (.int .i64 (peakI l)), bx) := callOp_of rfl (by simp only [SA, Bool.and_true]) (call15 l) (by simp only [SA])

theorem peak_none {l : List Int} (h : (rd l).length = 0) : peakI l = -1 := by
  unfold peakI
  rw [h]
  rfl
theorem loop4 (L : Code) (hL : L = fpart Try.f4 [1,1,1,1,0,1,0]) (l : List Int) (hl : l.length ≤ 96) (p : Int) (hA : ∀ i : Nat, i < l.length → atI l i ≤ atI l p ∧ ((i : Int) < p → atI l i < atI l p)) :
    ∀ (k i : Nat) (e : List PV), i + k = l.length → getT e 0 = .sl (ints l) → getT e 3 = .int .i64 p → getT e 4 = .int .i64 i → ∃ e', evL CC L ⟨e, []⟩ = some (.exit 0, ⟨e', []⟩) := by
  intro k
  induction k with
  | zero =>
    intro i e hk h0 h3 h4
    rw [evL_at (fpart Try.f4 [1,1,1,1,0,1,0,0]) hL]
    obtain ⟨ev, eo, so, co, ⟨hev, hco⟩, R⟩ := RULES CC; rw [← hev]
    have hi' : ¬ ((i : Int) < (l.length : Int)) := by omega
    simp only [fpart, part', Try.f4, Option.getD]
    simp (maxSteps := 5000000) only [SA, SB, SD, R, guardAt, binP, intP, indexAddrP, elemsOf, readCells, lenP, lenAt, resultsP, resultP, oneOr, reduceCtorEq, reduceIte, Nat.reduceEqDiff, Nat.reduceAdd, Nat.zero_add, Nat.reduceMul, Nat.reduceLT, Nat.reduceLeDiff, Int.reduceLT, Int.reduceNeg, Int.reduceLE, appendP, appendAt, letGo, setLoc, locVal, Int.reduceToNat, boxCells, und, TY, h0, h3, h4, hi']
    exact ⟨_, rfl⟩
  | succ k ih =>
    intro i e hk h0 h3 h4
    rw [evL_at (fpart Try.f4 [1,1,1,1,0,1,0,0]) hL]
    obtain ⟨ev, eo, so, co, ⟨hev, hco⟩, R⟩ := RULES CC; rw [← hev]; have o16 := @op16; rw [← hco] at o16
    rw [← hev] at ih
    have hi' : ((i : Int) < (l.length : Int)) := by omega
    have hw := wrap_i64 (n := (i : Int) + 1) ⟨by omega, by omega⟩
    have ⟨a1, a2⟩ := hA i (by omega)
    have c1 : ¬ (atI l i > atI l p) := by omega
    simp only [fpart, part', Try.f4, Option.getD]
    by_cases c2 : (i : Int) < p
    · have c3 : (atI l i == atI l p) = false := by
        have := a2 c2
        simp; omega
      generalize hu : atI l i = u at *
      generalize hv : atI l p = v at *
      simp (maxSteps := 5000000) only [SA, SB, SD, R, guardAt, binP, intP, indexAddrP, elemsOf, readCells, lenP, lenAt, resultsP, resultP, oneOr, reduceCtorEq, reduceIte, Nat.reduceEqDiff, Nat.reduceAdd, Nat.zero_add, Nat.reduceMul, Nat.reduceLT, Nat.reduceLeDiff, Int.reduceLT, Int.reduceNeg, Int.reduceLE, appendP, appendAt, letGo, setLoc, locVal, Int.reduceToNat, boxCells, und, TY, TN, o16, hu, hv, h0, h3, h4, hi', c1, c2, c3, hw]
      exact ih (i + 1) _ (by omega) (by simp (maxSteps := 5000000) only [SA, SB, SD, R, guardAt, binP, intP, indexAddrP, elemsOf, readCells, lenP, lenAt, resultsP, resultP, oneOr, reduceCtorEq, reduceIte, Nat.reduceEqDiff, Nat.reduceAdd, Nat.zero_add, Nat.reduceMul, Nat.reduceLT, Nat.reduceLeDiff, Int.reduceLT, Int.reduceNeg, Int.reduceLE, appendP, appendAt, letGo, setLoc, locVal, Int.reduceToNat, boxCells, und, h0]) (by simp (maxSteps := 5000000) only [SA, SB, SD, R, guardAt, binP, intP, indexAddrP, elemsOf, readCells, lenP, lenAt, resultsP, resultP, oneOr, reduceCtorEq, reduceIte, Nat.reduceEqDiff, Nat.reduceAdd, Nat.zero_add, Nat.reduceMul, Nat.reduceLT, Nat.reduceLeDiff, Int.reduceLT, Int.reduceNeg, Int.reduceLE, appendP, appendAt, letGo, setLoc, locVal, Int.reduceToNat, boxCells, und, h3]) (by simp (maxSteps := 5000000) only [SA, SB, SD, R, guardAt, binP, intP, indexAddrP, elemsOf, readCells, lenP, lenAt, resultsP, resultP, oneOr, reduceCtorEq, reduceIte, Nat.reduceEqDiff, Nat.reduceAdd, Nat.zero_add, Nat.reduceMul, Nat.reduceLT, Nat.reduceLeDiff, Int.reduceLT, Int.reduceNeg, Int.reduceLE, appendP, appendAt, letGo, setLoc, locVal, Int.reduceToNat, boxCells, und]; rfl)
    · generalize hu : atI l i = u at *
      generalize hv : atI l p = v at *
      simp (maxSteps := 5000000) only [SA, SB, SD, R, guardAt, binP, intP, indexAddrP, elemsOf, readCells, lenP, lenAt, resultsP, resultP, oneOr, reduceCtorEq, reduceIte, Nat.reduceEqDiff, Nat.reduceAdd, Nat.zero_add, Nat.reduceMul, Nat.reduceLT, Nat.reduceLeDiff, Int.reduceLT, Int.reduceNeg, Int.reduceLE, appendP, appendAt, letGo, setLoc, locVal, Int.reduceToNat, boxCells, und, TY, TN, o16, hu, hv, h0, h3, h4, hi', c1, c2, hw]
      exact ih (i + 1) _ (by omega) (by simp (maxSteps := 5000000) only [SA, SB, SD, R, guardAt, binP, intP, indexAddrP, elemsOf, readCells, lenP, lenAt, resultsP, resultP, oneOr, reduceCtorEq, reduceIte, Nat.reduceEqDiff, Nat.reduceAdd, Nat.zero_add, Nat.reduceMul, Nat.reduceLT, Nat.reduceLeDiff, Int.reduceLT, Int.reduceNeg, Int.reduceLE, appendP, appendAt, letGo, setLoc, locVal, Int.reduceToNat, boxCells, und, h0]) (by simp (maxSteps := 5000000) only [SA, SB, SD, R, guardAt, binP, intP, indexAddrP, elemsOf, readCells, lenP, lenAt, resultsP, resultP, oneOr, reduceCtorEq, reduceIte, Nat.reduceEqDiff, Nat.reduceAdd, Nat.zero_add, Nat.reduceMul, Nat.reduceLT, Nat.reduceLeDiff, Int.reduceLT, Int.reduceNeg, Int.reduceLE, appendP, appendAt, letGo, setLoc, locVal, Int.reduceToNat, boxCells, und, h3]) (by simp (maxSteps := 5000000) only [SA, SB, SD, R, guardAt, binP, intP, indexAddrP, elemsOf, readCells, lenP, lenAt, resultsP, resultP, oneOr, reduceCtorEq, reduceIte, Nat.reduceEqDiff, Nat.reduceAdd, Nat.zero_add, Nat.reduceMul, Nat.reduceLT, Nat.reduceLeDiff, Int.reduceLT, Int.reduceNeg, Int.reduceLE, appendP, appendAt, letGo, setLoc, locVal, Int.reduceToNat, boxCells, und]; rfl)

/-- THE LAW OF PEAK -/
theorem law4 (l : List Int) (_ : l.length ≤ maxLen) (_ : ∀ x ∈ l, inI x) : ∃ bx, callL CC 4 [.sl (ints l)] [] = some (.ret (.bool true), bx) := by
  rw [callL_enter (fn := Try.f4) (c := Try.f4.body.getD .skip) rfl fat4 rfl ok4 (Nat.le_of_ble_eq_true rfl)]
  by_cases c0 : l.length = 0
  · obtain ⟨ev, eo, so, co, ⟨hev, hco⟩, R⟩ := RULES CC; rw [← hev]; have o15 := @op15; rw [← hco] at o15; have o11 := @op11; rw [← hco] at o11
    have c0' : ((l.length : Int) == 0) = true := by simp [c0]
    have hp := peak_none (l := l) (by unfold rd; split <;> simp [c0])
    simp only [fpart, part', Try.f4, Option.getD]
    simp (maxSteps := 5000000) only [SA, SB, SD, R, guardAt, binP, intP, indexAddrP, elemsOf, readCells, lenP, lenAt, resultsP, resultP, oneOr, reduceCtorEq, reduceIte, Nat.reduceEqDiff, Nat.reduceAdd, Nat.zero_add, Nat.reduceMul, Nat.reduceLT, Nat.reduceLeDiff, Int.reduceLT, Int.reduceNeg, Int.reduceLE, appendP, appendAt, letGo, setLoc, locVal, Int.reduceToNat, boxCells, und, TY, TN, c0', o15, o11, hp]
    exact ⟨_, rfl⟩
  · have c0' : ((l.length : Int) == 0) = false := beq_eq_false_iff_ne.2 (by omega)
    by_cases c1 : (l.length : Int) > 96
    · obtain ⟨ev, eo, so, co, ⟨hev, hco⟩, R⟩ := RULES CC; rw [← hev]; have o15 := @op15; rw [← hco] at o15; have o11 := @op11; rw [← hco] at o11
      have hp := peak_none (l := l) (by unfold rd; rw [if_pos (by omega)]; rfl)
      simp only [fpart, part', Try.f4, Option.getD]
      simp (maxSteps := 5000000) only [SA, SB, SD, R, guardAt, binP, intP, indexAddrP, elemsOf, readCells, lenP, lenAt, resultsP, resultP, oneOr, reduceCtorEq, reduceIte, Nat.reduceEqDiff, Nat.reduceAdd, Nat.zero_add, Nat.reduceMul, Nat.reduceLT, Nat.reduceLeDiff, Int.reduceLT, Int.reduceNeg, Int.reduceLE, appendP, appendAt, letGo, setLoc, locVal, Int.reduceToNat, boxCells, und, TY, TN, c0', c1, o15, o11, hp]
      exact ⟨_, rfl⟩
    · have hr : rd l = l.map satI := by unfold rd; rw [if_neg (by omega)]
      have hlen : (rd l).length = l.length := by rw [hr]; simp
      have ⟨r1, r2, r3⟩ := pk_range (rd l) (rd l).length
      have p0 : ¬ (peakI l < 0) := by have := r3 (by omega); unfold peakI; omega
      have p1 : ¬ (peakI l ≥ (l.length : Int)) := by unfold peakI; omega
      have hat : ∀ i : Nat, i < l.length → atI l (i : Int) = (rd l).getD i 0 := by
        intro i hi
        unfold atI
        rw [if_neg (by omega), Int.toNat_natCast]
      have hA : ∀ i : Nat, i < l.length → atI l i ≤ atI l (peakI l) ∧ ((i : Int) < peakI l → atI l i < atI l (peakI l)) := by
        intro i hi
        have := pk_max (rd l) (rd l).length i (by omega)
        have e1 : atI l (peakI l) = (rd l).getD (peakI l).toNat 0 := by
          have h := hat (peakI l).toNat (by omega)
          rwa [show (((peakI l).toNat : Nat) : Int) = peakI l from by omega] at h
        rw [hat i hi, e1]
        exact this
      have hloop := loop4 _ rfl l (by omega) (peakI l) hA
      obtain ⟨ev, eo, so, co, ⟨hev, hco⟩, R⟩ := RULES CC; rw [← hev]; have o15 := @op15; rw [← hco] at o15; have o11 := @op11; rw [← hco] at o11
      rw [← hev] at hloop
      generalize hp : peakI l = p at *
      simp only [fpart, part', Try.f4, Option.getD] at hloop ⊢
      simp (maxSteps := 5000000) only [SA, SB, SD, R, guardAt, binP, intP, indexAddrP, elemsOf, readCells, lenP, lenAt, resultsP, resultP, oneOr, reduceCtorEq, reduceIte, Nat.reduceEqDiff, Nat.reduceAdd, Nat.zero_add, Nat.reduceMul, Nat.reduceLT, Nat.reduceLeDiff, Int.reduceLT, Int.reduceNeg, Int.reduceLE, appendP, appendAt, letGo, setLoc, locVal, Int.reduceToNat, boxCells, und, TY, TN, c0', c1, o15, o11, hp, p0, p1]
      generalize hE : ev _ _ = r
      obtain ⟨e', he⟩ := useLoop1' hE (hloop l.length 0 _ (by omega) (by simp (maxSteps := 5000000) only [SA, SB, SD, R, guardAt, binP, intP, indexAddrP, elemsOf, readCells, lenP, lenAt, resultsP, resultP, oneOr, reduceCtorEq, reduceIte, Nat.reduceEqDiff, Nat.reduceAdd, Nat.zero_add, Nat.reduceMul, Nat.reduceLT, Nat.reduceLeDiff, Int.reduceLT, Int.reduceNeg, Int.reduceLE, appendP, appendAt, letGo, setLoc, locVal, Int.reduceToNat, boxCells, und]) (by simp (maxSteps := 5000000) only [SA, SB, SD, R, guardAt, binP, intP, indexAddrP, elemsOf, readCells, lenP, lenAt, resultsP, resultP, oneOr, reduceCtorEq, reduceIte, Nat.reduceEqDiff, Nat.reduceAdd, Nat.zero_add, Nat.reduceMul, Nat.reduceLT, Nat.reduceLeDiff, Int.reduceLT, Int.reduceNeg, Int.reduceLE, appendP, appendAt, letGo, setLoc, locVal, Int.reduceToNat, boxCells, und]) (by simp (maxSteps := 5000000) only [SA, SB, SD, R, guardAt, binP, intP, indexAddrP, elemsOf, readCells, lenP, lenAt, resultsP, resultP, oneOr, reduceCtorEq, reduceIte, Nat.reduceEqDiff, Nat.reduceAdd, Nat.zero_add, Nat.reduceMul, Nat.reduceLT, Nat.reduceLeDiff, Int.reduceLT, Int.reduceNeg, Int.reduceLE, appendP, appendAt, letGo, setLoc, locVal, Int.reduceToNat, boxCells, und]; rfl))
      subst he
      simp (maxSteps := 5000000) only [SA, SB, SD, R, guardAt, binP, intP, indexAddrP, elemsOf, readCells, lenP, lenAt, resultsP, resultP, oneOr, reduceCtorEq, reduceIte, Nat.reduceEqDiff, Nat.reduceAdd, Nat.zero_add, Nat.reduceMul, Nat.reduceLT, Nat.reduceLeDiff, Int.reduceLT, Int.reduceNeg, Int.reduceLE, appendP, appendAt, letGo, setLoc, locVal, Int.reduceToNat, boxCells, und, TY, TN, o11]
      exact ⟨_, rfl⟩
end Go.HH
