/-
  Series: sums of parts, and the law of reading.
-/
import Derived.Test.YtfhmhbnljmbjhaaS4
namespace Go.HH
open Go Go.Proofs
set_option maxRecDepth 100000
set_option linter.unusedSimpArgs false
def sumI (l : List Int) : Int := l.foldl (· + ·) 0
theorem foldl_add (l : List Int) : ∀ a : Int, l.foldl (· + ·) a = a + sumI l := by
  induction l with
  | nil => intro a; simp [sumI]
  | cons x r ih =>
    intro a
    unfold sumI
    rw [List.foldl_cons, List.foldl_cons, ih, ih (0 + x)]
    omega
theorem sumI_nil : sumI [] = 0 := rfl
theorem sumI_cons (x : Int) (l : List Int) : sumI (x :: l) = x + sumI l := by
  unfold sumI
  rw [List.foldl_cons, foldl_add]
  unfold sumI
  omega
theorem sumI_append (a b : List Int) : sumI (a ++ b) = sumI a + sumI b := by
  induction a with
  | nil => simp [sumI_nil]
  | cons x r ih => rw [List.cons_append, sumI_cons, sumI_cons, ih]; omega
theorem sumI_take_succ (l : List Int) (i : Nat) (h : i < l.length) : sumI (l.take (i + 1)) = sumI (l.take i) + l[i] := by
  rw [List.take_succ_eq_append_getElem h, sumI_append, sumI_cons, sumI_nil]; omega
/-- the elements are limited -/
def limI (l : List Int) : Prop := ∀ x ∈ l, -1099511627776 ≤ x ∧ x ≤ 1099511627776
theorem limI_rd (l : List Int) : limI (rd l) := by
  intro x hx
  unfold rd at hx
  split at hx
  · simp at hx
  · obtain ⟨y, _, rfl⟩ := List.mem_map.1 hx
    exact satI_le y
theorem sumI_bound : ∀ (l : List Int), limI l → -1099511627776 * (l.length : Int) ≤ sumI l ∧ sumI l ≤ 1099511627776 * (l.length : Int)
  | [], _ => by simp [sumI_nil]
  | x :: l, h => by
    have := sumI_bound l fun y hy => h y (by simp [hy])
    have := h x (by simp)
    rw [sumI_cons, List.length_cons]
    constructor <;> push_cast <;> omega
theorem limI_sub {l m : List Int} (h : limI l) (hs : ∀ x ∈ m, x ∈ l) : limI m := fun x hx => h x (hs x hx)

theorem loop36 (L : Code) (hL : L = fpart Try.f36 [1,1,0,1,0]) (x : List Int) (hl : x.length ≤ 1000) (hm : limI x) : ∀ (k i : Nat) (e : List PV), i + k = x.length → getT e 6 = .sl (ints x) → getT e 7 = .int .i64 x.length → getT e 8 = .int .i64 i → getT e 3 = .int .i64 (sumI (x.take i)) →
   ∃ e', evL CC L ⟨e, []⟩ = some (.exit 0, ⟨e', []⟩) ∧ getT e' 3 = .int .i64 (sumI x) := by
  intro k
  induction k with
  | zero =>
    intro i e hk h6 h7 h8 h3
    rw [evL_at (fpart Try.f36 [1,1,0,1,0,0]) hL]
    obtain ⟨ev, eo, so, co, ⟨hev, hco⟩, R⟩ := RULES CC; rw [← hev]
    have hi' : ¬ ((i : Int) < (x.length : Int)) := by omega
    simp only [fpart, part', Try.f36, Option.getD]
    simp (maxSteps := 5000000) only [SA, SB, SD, R, guardAt, binP, intP, indexAddrP, elemsOf, readCells, lenP, lenAt, resultsP, resultP, oneOr, reduceCtorEq, reduceIte, Nat.reduceEqDiff, Nat.reduceAdd, Nat.zero_add, Nat.reduceMul, Nat.reduceLT, Nat.reduceLeDiff, Int.reduceLT, Int.reduceNeg, Int.reduceLE, appendP, appendAt, letGo, setLoc, locVal, Int.reduceToNat, boxCells, und, TY, h6, h7, h8, hi']
    exact ⟨_, rfl, by simp (maxSteps := 5000000) only [SA, SB, SD, R, guardAt, binP, intP, indexAddrP, elemsOf, readCells, lenP, lenAt, resultsP, resultP, oneOr, reduceCtorEq, reduceIte, Nat.reduceEqDiff, Nat.reduceAdd, Nat.zero_add, Nat.reduceMul, Nat.reduceLT, Nat.reduceLeDiff, Int.reduceLT, Int.reduceNeg, Int.reduceLE, appendP, appendAt, letGo, setLoc, locVal, Int.reduceToNat, boxCells, und, h3]; rw [List.take_of_length_le (by omega)]⟩
  | succ k ih =>
    intro i e hk h6 h7 h8 h3
    rw [evL_at (fpart Try.f36 [1,1,0,1,0,0]) hL]
    obtain ⟨ev, eo, so, co, ⟨hev, hco⟩, R⟩ := RULES CC; rw [← hev]
    rw [← hev] at ih
    have hi' : ((i : Int) < (x.length : Int)) := by omega
    have hi0 : ¬ ((i : Int) < 0) := by omega
    have hx : x[i]? = some x[i] := by simp
    have hw := wrap_i64 (n := (i : Int) + 1) ⟨by omega, by omega⟩
    have hs := sumI_take_succ x i (by omega)
    have hb := sumI_bound (x.take (i + 1)) (limI_sub hm fun y hy => List.mem_of_mem_take hy)
    have hbl : (x.take (i + 1)).length = i + 1 := by simp; omega
    rw [hbl] at hb
    have hw2 := wrap_i64 (n := sumI (x.take i) + x[i]) ⟨by rw [← hs]; omega, by rw [← hs]; omega⟩
    generalize sumI (x.take i) = s at *
    generalize x[i] = y at hx hs hw2
    simp only [fpart, part', Try.f36, Option.getD]
    simp (maxSteps := 5000000) only [SA, SB, SD, R, guardAt, binP, intP, indexAddrP, elemsOf, readCells, lenP, lenAt, resultsP, resultP, oneOr, reduceCtorEq, reduceIte, Nat.reduceEqDiff, Nat.reduceAdd, Nat.zero_add, Nat.reduceMul, Nat.reduceLT, Nat.reduceLeDiff, Int.reduceLT, Int.reduceNeg, Int.reduceLE, appendP, appendAt, letGo, setLoc, locVal, Int.reduceToNat, boxCells, und, TY, TN, h6, h7, h8, h3, hi', hi0, hx, hw, hw2]
    exact ih (i + 1) _ (by omega) (by simp (maxSteps := 5000000) only [SA, SB, SD, R, guardAt, binP, intP, indexAddrP, elemsOf, readCells, lenP, lenAt, resultsP, resultP, oneOr, reduceCtorEq, reduceIte, Nat.reduceEqDiff, Nat.reduceAdd, Nat.zero_add, Nat.reduceMul, Nat.reduceLT, Nat.reduceLeDiff, Int.reduceLT, Int.reduceNeg, Int.reduceLE, appendP, appendAt, letGo, setLoc, locVal, Int.reduceToNat, boxCells, und, h6]) (by simp (maxSteps := 5000000) only [SA, SB, SD, R, guardAt, binP, intP, indexAddrP, elemsOf, readCells, lenP, lenAt, resultsP, resultP, oneOr, reduceCtorEq, reduceIte, Nat.reduceEqDiff, Nat.reduceAdd, Nat.zero_add, Nat.reduceMul, Nat.reduceLT, Nat.reduceLeDiff, Int.reduceLT, Int.reduceNeg, Int.reduceLE, appendP, appendAt, letGo, setLoc, locVal, Int.reduceToNat, boxCells, und, h7]) (by simp (maxSteps := 5000000) only [SA, SB, SD, R, guardAt, binP, intP, indexAddrP, elemsOf, readCells, lenP, lenAt, resultsP, resultP, oneOr, reduceCtorEq, reduceIte, Nat.reduceEqDiff, Nat.reduceAdd, Nat.zero_add, Nat.reduceMul, Nat.reduceLT, Nat.reduceLeDiff, Int.reduceLT, Int.reduceNeg, Int.reduceLE, appendP, appendAt, letGo, setLoc, locVal, Int.reduceToNat, boxCells, und]; rfl) (by simp (maxSteps := 5000000) only [SA, SB, SD, R, guardAt, binP, intP, indexAddrP, elemsOf, readCells, lenP, lenAt, resultsP, resultP, oneOr, reduceCtorEq, reduceIte, Nat.reduceEqDiff, Nat.reduceAdd, Nat.zero_add, Nat.reduceMul, Nat.reduceLT, Nat.reduceLeDiff, Int.reduceLT, Int.reduceNeg, Int.reduceLE, appendP, appendAt, letGo, setLoc, locVal, Int.reduceToNat, boxCells, und, hs])
theorem call36 (x : List Int) (hl : x.length ≤ 1000) (hm : limI x) : callL CC 36 [.sl (ints x)] [] = some (.ret (.int .i64 (satI (sumI x))), []) := by
  rw [callL_enter (fn := Try.f36) (c := Try.f36.body.getD .skip) rfl fat36 rfl ok36 (Nat.le_of_ble_eq_true rfl)]
  have hloop := loop36 _ rfl x hl hm
  obtain ⟨ev, eo, so, co, ⟨hev, hco⟩, R⟩ := RULES CC; rw [← hev]; have o32 := @op32; rw [← hco] at o32
  rw [← hev] at hloop
  simp only [fpart, part', Try.f36, Option.getD] at hloop ⊢
  simp (maxSteps := 5000000) only [SA, SB, SD, R, guardAt, binP, intP, indexAddrP, elemsOf, readCells, lenP, lenAt, resultsP, resultP, oneOr, reduceCtorEq, reduceIte, Nat.reduceEqDiff, Nat.reduceAdd, Nat.zero_add, Nat.reduceMul, Nat.reduceLT, Nat.reduceLeDiff, Int.reduceLT, Int.reduceNeg, Int.reduceLE, appendP, appendAt, letGo, setLoc, locVal, Int.reduceToNat, boxCells, und, TY]
  generalize hE : ev _ _ = r
  obtain ⟨e', he, h3⟩ := useLoop' hE (hloop x.length 0 _ (by omega) (by simp (maxSteps := 5000000) only [SA, SB, SD, R, guardAt, binP, intP, indexAddrP, elemsOf, readCells, lenP, lenAt, resultsP, resultP, oneOr, reduceCtorEq, reduceIte, Nat.reduceEqDiff, Nat.reduceAdd, Nat.zero_add, Nat.reduceMul, Nat.reduceLT, Nat.reduceLeDiff, Int.reduceLT, Int.reduceNeg, Int.reduceLE, appendP, appendAt, letGo, setLoc, locVal, Int.reduceToNat, boxCells, und]) (by simp (maxSteps := 5000000) only [SA, SB, SD, R, guardAt, binP, intP, indexAddrP, elemsOf, readCells, lenP, lenAt, resultsP, resultP, oneOr, reduceCtorEq, reduceIte, Nat.reduceEqDiff, Nat.reduceAdd, Nat.zero_add, Nat.reduceMul, Nat.reduceLT, Nat.reduceLeDiff, Int.reduceLT, Int.reduceNeg, Int.reduceLE, appendP, appendAt, letGo, setLoc, locVal, Int.reduceToNat, boxCells, und]) (by simp (maxSteps := 5000000) only [SA, SB, SD, R, guardAt, binP, intP, indexAddrP, elemsOf, readCells, lenP, lenAt, resultsP, resultP, oneOr, reduceCtorEq, reduceIte, Nat.reduceEqDiff, Nat.reduceAdd, Nat.zero_add, Nat.reduceMul, Nat.reduceLT, Nat.reduceLeDiff, Int.reduceLT, Int.reduceNeg, Int.reduceLE, appendP, appendAt, letGo, setLoc, locVal, Int.reduceToNat, boxCells, und]; rfl) (by simp (maxSteps := 5000000) only [SA, SB, SD, R, guardAt, binP, intP, indexAddrP, elemsOf, readCells, lenP, lenAt, resultsP, resultP, oneOr, reduceCtorEq, reduceIte, Nat.reduceEqDiff, Nat.reduceAdd, Nat.zero_add, Nat.reduceMul, Nat.reduceLT, Nat.reduceLeDiff, Int.reduceLT, Int.reduceNeg, Int.reduceLE, appendP, appendAt, letGo, setLoc, locVal, Int.reduceToNat, boxCells, und]; rfl))
  subst he
  simp (maxSteps := 5000000) only [SA, SB, SD, R, guardAt, binP, intP, indexAddrP, elemsOf, readCells, lenP, lenAt, resultsP, resultP, oneOr, reduceCtorEq, reduceIte, Nat.reduceEqDiff, Nat.reduceAdd, Nat.zero_add, Nat.reduceMul, Nat.reduceLT, Nat.reduceLeDiff, Int.reduceLT, Int.reduceNeg, Int.reduceLE, appendP, appendAt, letGo, setLoc, locVal, Int.reduceToNat, boxCells, und, TY, h3, o32]
theorem op36 (x : List Int) (hl : x.length ≤ 1000) (hm : limI x) (bx) : callOp CC (callL CC) 36 [.sl (ints x)] bx = some (.ret (.int .i64 (satI (sumI x))), bx) := callOp_of rfl (by simp only [SA, Bool.and_true]) (call36 x hl hm) (by simp only [SA])

/-- the elements from one index to another -/
def cut (x : List Int) (a b : Int) : List Int := (x.take b.toNat).drop a.toNat
def sumAt (l : List Int) (a b : Int) : Int := satI (sumI (cut (rd l) a b))
theorem call18 (l : List Int) (a b : Int) : callL CC 18 [.sl (ints l), .int .i64 a, .int .i64 b] [] = some (.ret (.int .i64 (sumAt l a b)), []) := by
  rw [callL_enter (fn := Try.f18) (c := Try.f18.body.getD .skip) rfl fat18 rfl ok18 (Nat.le_of_ble_eq_true rfl)]
  obtain ⟨ev, eo, so, co, ⟨hev, hco⟩, R⟩ := RULES CC; rw [← hev]; have o34 := @op34; rw [← hco] at o34; have o36 := @op36; rw [← hco] at o36
  simp only [fpart, part', Try.f18, Option.getD]
  simp (maxSteps := 5000000) only [SA, SB, SD, R, guardAt, binP, intP, indexAddrP, elemsOf, readCells, lenP, lenAt, resultsP, resultP, oneOr, reduceCtorEq, reduceIte, Nat.reduceEqDiff, Nat.reduceAdd, Nat.zero_add, Nat.reduceMul, Nat.reduceLT, Nat.reduceLeDiff, Int.reduceLT, Int.reduceNeg, Int.reduceLE, appendP, appendAt, letGo, setLoc, locVal, Int.reduceToNat, boxCells, und, TY, o34]
  rw [maxP2]
  generalize hA : max a 0 = A
  simp (maxSteps := 5000000) only [SA, SB, SD, R, guardAt, binP, intP, indexAddrP, elemsOf, readCells, lenP, lenAt, resultsP, resultP, oneOr, reduceCtorEq, reduceIte, Nat.reduceEqDiff, Nat.reduceAdd, Nat.zero_add, Nat.reduceMul, Nat.reduceLT, Nat.reduceLeDiff, Int.reduceLT, Int.reduceNeg, Int.reduceLE, appendP, appendAt, letGo, setLoc, locVal, Int.reduceToNat, boxCells, und, TY]
  rw [minP2]
  generalize hB : min b ((rd l).length : Int) = B
  have hlen := rd_length l
  have e1 : cut (rd l) a b = ((rd l).take B.toNat).drop A.toNat := by
    unfold cut
    have h1 : A.toNat = a.toNat := by omega
    rw [h1]
    congr 1
    by_cases h : b ≤ ((rd l).length : Int)
    · have : B = b := by omega
      rw [this]
    · have : B = ((rd l).length : Int) := by omega
      rw [this, Int.toNat_natCast, List.take_of_length_le (Nat.le_refl _), List.take_of_length_le (by omega)]
  by_cases c1 : A ≥ B
  · have : sumAt l a b = 0 := by
      unfold sumAt
      rw [e1, List.drop_eq_nil_of_le (by simp; omega)]
      rfl
    simp (maxSteps := 5000000) only [SA, SB, SD, R, guardAt, binP, intP, indexAddrP, elemsOf, readCells, lenP, lenAt, resultsP, resultP, oneOr, reduceCtorEq, reduceIte, Nat.reduceEqDiff, Nat.reduceAdd, Nat.zero_add, Nat.reduceMul, Nat.reduceLT, Nat.reduceLeDiff, Int.reduceLT, Int.reduceNeg, Int.reduceLE, appendP, appendAt, letGo, setLoc, locVal, Int.reduceToNat, boxCells, und, TY, c1, this]
  · have hb1 : (0 : Int) ≤ B ∧ B ≤ ((rd l).length : Int) := by omega
    have ha1 : (0 : Int) ≤ A ∧ A ≤ (B.toNat : Int) := by omega
    have hcl := limI_rd l
    have h36 := o36 (((rd l).take B.toNat).drop A.toNat) (by simp; omega) (limI_sub hcl fun y hy => List.mem_of_mem_take (List.mem_of_mem_drop hy))
    have hal : ((ints (rd l)).all fun v => v.cells.length == 1) = true := by simp only [SA]
    simp (maxSteps := 5000000) only [SA, SB, SD, R, guardAt, binP, intP, indexAddrP, elemsOf, readCells, lenP, lenAt, resultsP, resultP, oneOr, reduceCtorEq, reduceIte, Nat.reduceEqDiff, Nat.reduceAdd, Nat.zero_add, Nat.reduceMul, Nat.reduceLT, Nat.reduceLeDiff, Int.reduceLT, Int.reduceNeg, Int.reduceLE, appendP, appendAt, letGo, setLoc, locVal, Int.reduceToNat, boxCells, und, TY, c1, sliceP, boundO, boundP, hb1, ha1, hal, h36]
    unfold sumAt
    rw [e1]
end Go.HH
