/-
  Series: the specification's groups; the law of groups.
-/
import Derived.Test.YtfhmhbnljmbjhaaS9
namespace Go.HH
open Go Go.Proofs
set_option maxRecDepth 100000
set_option linter.unusedSimpArgs false
theorem mod_next (i K : Nat) (hK : 0 < K) : (i + 1) % K = if i % K + 1 = K then 0 else i % K + 1 := by
  have h := Nat.div_add_mod i K
  have hl := Nat.mod_lt i hK
  generalize i / K = q at h
  generalize i % K = j at h hl ⊢
  subst h
  split
  · rename_i h
    rw [Nat.add_assoc, h, Nat.mul_add_mod, Nat.mod_self]
  · rw [Nat.add_assoc, Nat.mul_add_mod, Nat.mod_eq_of_lt (by omega)]
theorem loop21 (L : Code) (hL : L = fpart Try.f21 [1,1,1,1,1,0,1,0]) (k : Int) (hk : 1 ≤ k) (hkI : inI k) (x : List Int) (hl : x.length ≤ 1000) (hm : limI x) : ∀ (f i : Nat) (s : Int) (acc : List Int) (e : List PV), i + f = x.length → acc.length ≤ i → -1099511627776 * (i : Int) ≤ s → s ≤ 1099511627776 * (i : Int) →
   getT e 1 = .int .i64 k → getT e 5 = .sl (ints x) → getT e 8 = .int .i64 i → getT e 7 = .int .i64 s → getT e 6 = .osl 3 (ints acc) →
   ∃ e', evL CC L ⟨e, []⟩ = some (.exit 0, ⟨e', []⟩) ∧ getT e' 6 = .osl 3 (ints (acc ++ grp k.toNat (i % k.toNat) s (x.drop i))) := by
  intro f
  induction f with
  | zero =>
    intro i s acc e hf hal b1 b2 h1 h5 h8 h7 h6
    rw [evL_at (fpart Try.f21 [1,1,1,1,1,0,1,0,0]) hL]
    obtain ⟨ev, eo, so, co, ⟨hev, hco⟩, R⟩ := RULES CC; rw [← hev]
    have hi' : ¬ ((i : Int) < (x.length : Int)) := by omega
    simp only [fpart, part', Try.f21, Option.getD]
    simp (maxSteps := 5000000) only [SA, SB, SD, R, guardAt, binP, intP, indexAddrP, elemsOf, readCells, lenP, lenAt, resultsP, resultP, oneOr, reduceCtorEq, reduceIte, Nat.reduceEqDiff, Nat.reduceAdd, Nat.zero_add, Nat.reduceMul, Nat.reduceLT, Nat.reduceLeDiff, Int.reduceLT, Int.reduceNeg, Int.reduceLE, appendP, appendAt, letGo, setLoc, locVal, Int.reduceToNat, boxCells, und, TY, h1, h5, h8, h7, h6, hi']
    exact ⟨_, rfl, by rw [List.drop_eq_nil_of_le (by omega)]; simp (maxSteps := 5000000) only [SA, SB, SD, R, guardAt, binP, intP, indexAddrP, elemsOf, readCells, lenP, lenAt, resultsP, resultP, oneOr, reduceCtorEq, reduceIte, Nat.reduceEqDiff, Nat.reduceAdd, Nat.zero_add, Nat.reduceMul, Nat.reduceLT, Nat.reduceLeDiff, Int.reduceLT, Int.reduceNeg, Int.reduceLE, appendP, appendAt, letGo, setLoc, locVal, Int.reduceToNat, boxCells, und, h6, grp]⟩
  | succ f ih =>
    intro i s acc e hf hal b1 b2 h1 h5 h8 h7 h6
    rw [evL_at (fpart Try.f21 [1,1,1,1,1,0,1,0,0]) hL]
    obtain ⟨ev, eo, so, co, ⟨hev, hco⟩, R⟩ := RULES CC; rw [← hev]; have o33 := @op33; rw [← hco] at o33
    rw [← hev] at ih
    have hi' : ((i : Int) < (x.length : Int)) := by omega
    have hi0 : ¬ ((i : Int) < 0) := by omega
    have hx : x[i]? = some x[i] := by simp
    have hw := wrap_i64 (n := (i : Int) + 1) ⟨by omega, by omega⟩
    have hd : x.drop i = x[i] :: x.drop (i + 1) := List.drop_eq_getElem_cons (by omega)
    have hv := hm x[i] (List.getElem_mem (by omega))
    rw [hd, grp_cons]
    have hdl : x.drop (i + 1) = [] ↔ (i : Int) = (x.length : Int) - 1 := by
      rw [List.drop_eq_nil_iff]; omega
    have hK : 0 < k.toNat := by omega
    have hmn := mod_next i k.toNat hK
    have hmod : (i : Int).tmod k = ((i % k.toNat : Nat) : Int) := by
      rw [Int.tmod_eq_emod_of_nonneg (by omega), Int.natCast_emod, Int.toNat_of_nonneg (by omega)]
    have hjl := Nat.mod_lt i hK
    generalize x[i] = v at hx hv ⊢
    generalize hy : x.drop (i + 1) = y at *
    generalize i % k.toNat = j at *
    have hk0 : ¬ (k = 0) := by omega
    have hw2 := wrap_i64 (n := s + v) ⟨by omega, by omega⟩
    have hw3 := wrap_i64 (n := k - 1) ⟨by unfold inI at hkI; omega, by unfold inI at hkI; omega⟩
    have hw4 := wrap_i64 (n := (x.length : Int) - 1) ⟨by omega, by omega⟩
    have hc : acc.length + 1 ≤ 1000000 := by omega
    simp only [fpart, part', Try.f21, Option.getD]
    by_cases c1 : j + 1 = k.toNat
    · have c1' : ((j : Int) == k - 1) = true := beq_iff_eq.2 (by omega)
      rw [if_pos (Or.inl c1)]
      rw [if_pos c1] at hmn
      simp (maxSteps := 5000000) only [SA, SB, SD, R, guardAt, binP, intP, indexAddrP, elemsOf, readCells, lenP, lenAt, resultsP, resultP, oneOr, reduceCtorEq, reduceIte, Nat.reduceEqDiff, Nat.reduceAdd, Nat.zero_add, Nat.reduceMul, Nat.reduceLT, Nat.reduceLeDiff, Int.reduceLT, Int.reduceNeg, Int.reduceLE, appendP, appendAt, letGo, setLoc, locVal, Int.reduceToNat, boxCells, und, TY, TN, h1, h5, h8, h7, h6, hi', hi0, hx, hw, hmod, hk0, hw2, hw3, hw4, c1', o33, bs1, ap24, hc]
      have hih := ih (i + 1) 0 (acc ++ [satI (s + v)])
      rw [hy] at hih
      rw [hmn, List.append_assoc] at hih
      simp only [List.cons_append, List.nil_append] at hih
      exact hih _ (by omega) (by simp; omega) (by omega) (by omega) (by simp (maxSteps := 5000000) only [SA, SB, SD, R, guardAt, binP, intP, indexAddrP, elemsOf, readCells, lenP, lenAt, resultsP, resultP, oneOr, reduceCtorEq, reduceIte, Nat.reduceEqDiff, Nat.reduceAdd, Nat.zero_add, Nat.reduceMul, Nat.reduceLT, Nat.reduceLeDiff, Int.reduceLT, Int.reduceNeg, Int.reduceLE, appendP, appendAt, letGo, setLoc, locVal, Int.reduceToNat, boxCells, und, h1]) (by simp (maxSteps := 5000000) only [SA, SB, SD, R, guardAt, binP, intP, indexAddrP, elemsOf, readCells, lenP, lenAt, resultsP, resultP, oneOr, reduceCtorEq, reduceIte, Nat.reduceEqDiff, Nat.reduceAdd, Nat.zero_add, Nat.reduceMul, Nat.reduceLT, Nat.reduceLeDiff, Int.reduceLT, Int.reduceNeg, Int.reduceLE, appendP, appendAt, letGo, setLoc, locVal, Int.reduceToNat, boxCells, und, h5]) (by simp (maxSteps := 5000000) only [SA, SB, SD, R, guardAt, binP, intP, indexAddrP, elemsOf, readCells, lenP, lenAt, resultsP, resultP, oneOr, reduceCtorEq, reduceIte, Nat.reduceEqDiff, Nat.reduceAdd, Nat.zero_add, Nat.reduceMul, Nat.reduceLT, Nat.reduceLeDiff, Int.reduceLT, Int.reduceNeg, Int.reduceLE, appendP, appendAt, letGo, setLoc, locVal, Int.reduceToNat, boxCells, und]; rfl) (by simp (maxSteps := 5000000) only [SA, SB, SD, R, guardAt, binP, intP, indexAddrP, elemsOf, readCells, lenP, lenAt, resultsP, resultP, oneOr, reduceCtorEq, reduceIte, Nat.reduceEqDiff, Nat.reduceAdd, Nat.zero_add, Nat.reduceMul, Nat.reduceLT, Nat.reduceLeDiff, Int.reduceLT, Int.reduceNeg, Int.reduceLE, appendP, appendAt, letGo, setLoc, locVal, Int.reduceToNat, boxCells, und]) (by simp (maxSteps := 5000000) only [SA, SB, SD, R, guardAt, binP, intP, indexAddrP, elemsOf, readCells, lenP, lenAt, resultsP, resultP, oneOr, reduceCtorEq, reduceIte, Nat.reduceEqDiff, Nat.reduceAdd, Nat.zero_add, Nat.reduceMul, Nat.reduceLT, Nat.reduceLeDiff, Int.reduceLT, Int.reduceNeg, Int.reduceLE, appendP, appendAt, letGo, setLoc, locVal, Int.reduceToNat, boxCells, und])
    · have c1' : ((j : Int) == k - 1) = false := beq_eq_false_iff_ne.2 (by omega)
      rw [if_neg c1] at hmn
      by_cases c2 : y = []
      · have c2' : ((i : Int) == (x.length : Int) - 1) = true := beq_iff_eq.2 (hdl.1 c2)
        rw [if_pos (Or.inr c2)]
        simp (maxSteps := 5000000) only [SA, SB, SD, R, guardAt, binP, intP, indexAddrP, elemsOf, readCells, lenP, lenAt, resultsP, resultP, oneOr, reduceCtorEq, reduceIte, Nat.reduceEqDiff, Nat.reduceAdd, Nat.zero_add, Nat.reduceMul, Nat.reduceLT, Nat.reduceLeDiff, Int.reduceLT, Int.reduceNeg, Int.reduceLE, appendP, appendAt, letGo, setLoc, locVal, Int.reduceToNat, boxCells, und, TY, TN, h1, h5, h8, h7, h6, hi', hi0, hx, hw, hmod, hk0, hw2, hw3, hw4, c1', c2', o33, bs1, ap24, hc]
        have hih := ih (i + 1) 0 (acc ++ [satI (s + v)])
        rw [hy] at hih
        rw [List.append_assoc] at hih
        subst c2
        simp only [List.cons_append, List.nil_append, grp] at hih ⊢
        exact hih _ (by omega) (by simp; omega) (by omega) (by omega) (by simp (maxSteps := 5000000) only [SA, SB, SD, R, guardAt, binP, intP, indexAddrP, elemsOf, readCells, lenP, lenAt, resultsP, resultP, oneOr, reduceCtorEq, reduceIte, Nat.reduceEqDiff, Nat.reduceAdd, Nat.zero_add, Nat.reduceMul, Nat.reduceLT, Nat.reduceLeDiff, Int.reduceLT, Int.reduceNeg, Int.reduceLE, appendP, appendAt, letGo, setLoc, locVal, Int.reduceToNat, boxCells, und, h1]) (by simp (maxSteps := 5000000) only [SA, SB, SD, R, guardAt, binP, intP, indexAddrP, elemsOf, readCells, lenP, lenAt, resultsP, resultP, oneOr, reduceCtorEq, reduceIte, Nat.reduceEqDiff, Nat.reduceAdd, Nat.zero_add, Nat.reduceMul, Nat.reduceLT, Nat.reduceLeDiff, Int.reduceLT, Int.reduceNeg, Int.reduceLE, appendP, appendAt, letGo, setLoc, locVal, Int.reduceToNat, boxCells, und, h5]) (by simp (maxSteps := 5000000) only [SA, SB, SD, R, guardAt, binP, intP, indexAddrP, elemsOf, readCells, lenP, lenAt, resultsP, resultP, oneOr, reduceCtorEq, reduceIte, Nat.reduceEqDiff, Nat.reduceAdd, Nat.zero_add, Nat.reduceMul, Nat.reduceLT, Nat.reduceLeDiff, Int.reduceLT, Int.reduceNeg, Int.reduceLE, appendP, appendAt, letGo, setLoc, locVal, Int.reduceToNat, boxCells, und]; rfl) (by simp (maxSteps := 5000000) only [SA, SB, SD, R, guardAt, binP, intP, indexAddrP, elemsOf, readCells, lenP, lenAt, resultsP, resultP, oneOr, reduceCtorEq, reduceIte, Nat.reduceEqDiff, Nat.reduceAdd, Nat.zero_add, Nat.reduceMul, Nat.reduceLT, Nat.reduceLeDiff, Int.reduceLT, Int.reduceNeg, Int.reduceLE, appendP, appendAt, letGo, setLoc, locVal, Int.reduceToNat, boxCells, und]) (by simp (maxSteps := 5000000) only [SA, SB, SD, R, guardAt, binP, intP, indexAddrP, elemsOf, readCells, lenP, lenAt, resultsP, resultP, oneOr, reduceCtorEq, reduceIte, Nat.reduceEqDiff, Nat.reduceAdd, Nat.zero_add, Nat.reduceMul, Nat.reduceLT, Nat.reduceLeDiff, Int.reduceLT, Int.reduceNeg, Int.reduceLE, appendP, appendAt, letGo, setLoc, locVal, Int.reduceToNat, boxCells, und])
      · have c2' : ((i : Int) == (x.length : Int) - 1) = false := beq_eq_false_iff_ne.2 (fun h => c2 (hdl.2 h))
        rw [if_neg (by simp only [not_or]; exact ⟨c1, c2⟩)]
        simp (maxSteps := 5000000) only [SA, SB, SD, R, guardAt, binP, intP, indexAddrP, elemsOf, readCells, lenP, lenAt, resultsP, resultP, oneOr, reduceCtorEq, reduceIte, Nat.reduceEqDiff, Nat.reduceAdd, Nat.zero_add, Nat.reduceMul, Nat.reduceLT, Nat.reduceLeDiff, Int.reduceLT, Int.reduceNeg, Int.reduceLE, appendP, appendAt, letGo, setLoc, locVal, Int.reduceToNat, boxCells, und, TY, TN, h1, h5, h8, h7, h6, hi', hi0, hx, hw, hmod, hk0, hw2, hw3, hw4, c1', c2', o33, bs1, ap24, hc]
        have hih := ih (i + 1) (s + v) acc
        rw [hy] at hih
        rw [hmn] at hih
        exact hih _ (by omega) (by omega) (by omega) (by omega) (by simp (maxSteps := 5000000) only [SA, SB, SD, R, guardAt, binP, intP, indexAddrP, elemsOf, readCells, lenP, lenAt, resultsP, resultP, oneOr, reduceCtorEq, reduceIte, Nat.reduceEqDiff, Nat.reduceAdd, Nat.zero_add, Nat.reduceMul, Nat.reduceLT, Nat.reduceLeDiff, Int.reduceLT, Int.reduceNeg, Int.reduceLE, appendP, appendAt, letGo, setLoc, locVal, Int.reduceToNat, boxCells, und, h1]) (by simp (maxSteps := 5000000) only [SA, SB, SD, R, guardAt, binP, intP, indexAddrP, elemsOf, readCells, lenP, lenAt, resultsP, resultP, oneOr, reduceCtorEq, reduceIte, Nat.reduceEqDiff, Nat.reduceAdd, Nat.zero_add, Nat.reduceMul, Nat.reduceLT, Nat.reduceLeDiff, Int.reduceLT, Int.reduceNeg, Int.reduceLE, appendP, appendAt, letGo, setLoc, locVal, Int.reduceToNat, boxCells, und, h5]) (by simp (maxSteps := 5000000) only [SA, SB, SD, R, guardAt, binP, intP, indexAddrP, elemsOf, readCells, lenP, lenAt, resultsP, resultP, oneOr, reduceCtorEq, reduceIte, Nat.reduceEqDiff, Nat.reduceAdd, Nat.zero_add, Nat.reduceMul, Nat.reduceLT, Nat.reduceLeDiff, Int.reduceLT, Int.reduceNeg, Int.reduceLE, appendP, appendAt, letGo, setLoc, locVal, Int.reduceToNat, boxCells, und]; rfl) (by simp (maxSteps := 5000000) only [SA, SB, SD, R, guardAt, binP, intP, indexAddrP, elemsOf, readCells, lenP, lenAt, resultsP, resultP, oneOr, reduceCtorEq, reduceIte, Nat.reduceEqDiff, Nat.reduceAdd, Nat.zero_add, Nat.reduceMul, Nat.reduceLT, Nat.reduceLeDiff, Int.reduceLT, Int.reduceNeg, Int.reduceLE, appendP, appendAt, letGo, setLoc, locVal, Int.reduceToNat, boxCells, und]) (by simp (maxSteps := 5000000) only [SA, SB, SD, R, guardAt, binP, intP, indexAddrP, elemsOf, readCells, lenP, lenAt, resultsP, resultP, oneOr, reduceCtorEq, reduceIte, Nat.reduceEqDiff, Nat.reduceAdd, Nat.zero_add, Nat.reduceMul, Nat.reduceLT, Nat.reduceLeDiff, Int.reduceLT, Int.reduceNeg, Int.reduceLE, appendP, appendAt, letGo, setLoc, locVal, Int.reduceToNat, boxCells, und, h6])
theorem call21 (l : List Int) (k : Int) (hk : inI k) : callL CC 21 [.sl (ints l), .int .i64 k] [] = some (.ret (.sl (ints (resI l k))), []) := by
  rw [callL_enter (fn := Try.f21) (c := Try.f21.body.getD .skip) rfl fat21 rfl ok21 (Nat.le_of_ble_eq_true rfl)]
  by_cases c1 : k < 1
  · obtain ⟨ev, eo, so, co, ⟨hev, hco⟩, R⟩ := RULES CC; rw [← hev]; have o35 := @op35; rw [← hco] at o35
    simp only [fpart, part', Try.f21, Option.getD]
    simp (maxSteps := 5000000) only [SA, SB, SD, R, guardAt, binP, intP, indexAddrP, elemsOf, readCells, lenP, lenAt, resultsP, resultP, oneOr, reduceCtorEq, reduceIte, Nat.reduceEqDiff, Nat.reduceAdd, Nat.zero_add, Nat.reduceMul, Nat.reduceLT, Nat.reduceLeDiff, Int.reduceLT, Int.reduceNeg, Int.reduceLE, appendP, appendAt, letGo, setLoc, locVal, Int.reduceToNat, boxCells, und, TY, TN, c1, o35, resI, ints_nil']
  · have hloop := loop21 _ rfl k (by omega) hk (rd l) (by have := rd_length l; omega) (limI_rd l) (rd l).length 0 0 []
    obtain ⟨ev, eo, so, co, ⟨hev, hco⟩, R⟩ := RULES CC; rw [← hev]; have o35 := @op35; rw [← hco] at o35
    rw [← hev] at hloop
    simp only [fpart, part', Try.f21, Option.getD] at hloop ⊢
    simp (maxSteps := 5000000) only [SA, SB, SD, R, guardAt, binP, intP, indexAddrP, elemsOf, readCells, lenP, lenAt, resultsP, resultP, oneOr, reduceCtorEq, reduceIte, Nat.reduceEqDiff, Nat.reduceAdd, Nat.zero_add, Nat.reduceMul, Nat.reduceLT, Nat.reduceLeDiff, Int.reduceLT, Int.reduceNeg, Int.reduceLE, appendP, appendAt, letGo, setLoc, locVal, Int.reduceToNat, boxCells, und, TY, TN, c1, o35]
    generalize hE : ev _ _ = r
    obtain ⟨e', he, h5⟩ := useLoop' hE (hloop _ (by omega) (by simp) (by omega) (by omega) (by simp (maxSteps := 5000000) only [SA, SB, SD, R, guardAt, binP, intP, indexAddrP, elemsOf, readCells, lenP, lenAt, resultsP, resultP, oneOr, reduceCtorEq, reduceIte, Nat.reduceEqDiff, Nat.reduceAdd, Nat.zero_add, Nat.reduceMul, Nat.reduceLT, Nat.reduceLeDiff, Int.reduceLT, Int.reduceNeg, Int.reduceLE, appendP, appendAt, letGo, setLoc, locVal, Int.reduceToNat, boxCells, und]) (by simp (maxSteps := 5000000) only [SA, SB, SD, R, guardAt, binP, intP, indexAddrP, elemsOf, readCells, lenP, lenAt, resultsP, resultP, oneOr, reduceCtorEq, reduceIte, Nat.reduceEqDiff, Nat.reduceAdd, Nat.zero_add, Nat.reduceMul, Nat.reduceLT, Nat.reduceLeDiff, Int.reduceLT, Int.reduceNeg, Int.reduceLE, appendP, appendAt, letGo, setLoc, locVal, Int.reduceToNat, boxCells, und]) (by simp (maxSteps := 5000000) only [SA, SB, SD, R, guardAt, binP, intP, indexAddrP, elemsOf, readCells, lenP, lenAt, resultsP, resultP, oneOr, reduceCtorEq, reduceIte, Nat.reduceEqDiff, Nat.reduceAdd, Nat.zero_add, Nat.reduceMul, Nat.reduceLT, Nat.reduceLeDiff, Int.reduceLT, Int.reduceNeg, Int.reduceLE, appendP, appendAt, letGo, setLoc, locVal, Int.reduceToNat, boxCells, und]; rfl) (by simp (maxSteps := 5000000) only [SA, SB, SD, R, guardAt, binP, intP, indexAddrP, elemsOf, readCells, lenP, lenAt, resultsP, resultP, oneOr, reduceCtorEq, reduceIte, Nat.reduceEqDiff, Nat.reduceAdd, Nat.zero_add, Nat.reduceMul, Nat.reduceLT, Nat.reduceLeDiff, Int.reduceLT, Int.reduceNeg, Int.reduceLE, appendP, appendAt, letGo, setLoc, locVal, Int.reduceToNat, boxCells, und]) (by simp (maxSteps := 5000000) only [SA, SB, SD, R, guardAt, binP, intP, indexAddrP, elemsOf, readCells, lenP, lenAt, resultsP, resultP, oneOr, reduceCtorEq, reduceIte, Nat.reduceEqDiff, Nat.reduceAdd, Nat.zero_add, Nat.reduceMul, Nat.reduceLT, Nat.reduceLeDiff, Int.reduceLT, Int.reduceNeg, Int.reduceLE, appendP, appendAt, letGo, setLoc, locVal, Int.reduceToNat, boxCells, und]; rfl))
    subst he
    rw [List.nil_append, Nat.zero_mod, List.drop_zero] at h5
    simp (maxSteps := 5000000) only [SA, SB, SD, R, guardAt, binP, intP, indexAddrP, elemsOf, readCells, lenP, lenAt, resultsP, resultP, oneOr, reduceCtorEq, reduceIte, Nat.reduceEqDiff, Nat.reduceAdd, Nat.zero_add, Nat.reduceMul, Nat.reduceLT, Nat.reduceLeDiff, Int.reduceLT, Int.reduceNeg, Int.reduceLE, appendP, appendAt, letGo, setLoc, locVal, Int.reduceToNat, boxCells, und, TY, TN, h5, resI, c1]
theorem op21 (l : List Int) (k : Int) (hk : inI k) (bx) : callOp CC (callL CC) 21 [.sl (ints l), .int .i64 k] bx = some (.ret (.sl (ints (resI l k))), bx) := callOp_of rfl (by simp only [SA, Bool.and_true]) (call21 l k hk) (by simp only [SA])
theorem resI_length (l : List Int) (k : Int) : (resI l k).length ≤ 96 := by
  unfold resI
  split
  · simp
  · have := grp_length k.toNat (rd l) 0 0
    have := rd_length l
    omega
/-- THE LAW OF GROUPS -/
theorem law6 (l : List Int) (_ : l.length ≤ maxLen) (_ : ∀ x ∈ l, inI x) (k : Int) (hk : inI k) : ∃ bx, callL CC 6 [.sl (ints l), .int .i64 k] [] = some (.ret (.bool true), bx) := by
  rw [callL_enter (fn := Try.f6) (c := Try.f6.body.getD .skip) rfl fat6 rfl ok6 (Nat.le_of_ble_eq_true rfl)]
  obtain ⟨ev, eo, so, co, ⟨hev, hco⟩, R⟩ := RULES CC; rw [← hev]; have o11 := @op11; rw [← hco] at o11; have o20 := @op20; rw [← hco] at o20; have o21 := @op21; rw [← hco] at o21; have o14 := @op14; rw [← hco] at o14; have o15 := @op15; rw [← hco] at o15; have o22 := @op22; rw [← hco] at o22; have o23 := @op23; rw [← hco] at o23; have o24 := @op24; rw [← hco] at o24
  simp only [fpart, part', Try.f6, Option.getD]
  by_cases c1 : (l.length : Int) > 200
  · simp (maxSteps := 5000000) only [SA, SB, SD, R, guardAt, binP, intP, indexAddrP, elemsOf, readCells, lenP, lenAt, resultsP, resultP, oneOr, reduceCtorEq, reduceIte, Nat.reduceEqDiff, Nat.reduceAdd, Nat.zero_add, Nat.reduceMul, Nat.reduceLT, Nat.reduceLeDiff, Int.reduceLT, Int.reduceNeg, Int.reduceLE, appendP, appendAt, letGo, setLoc, locVal, Int.reduceToNat, boxCells, und, TY, TN, c1, o11]
    exact ⟨_, rfl⟩
  · have h20 := o20 l k hk
    have h21 := o21 l k hk
    have h14 := o14 (resI l k) (by have := resI_length l k; omega)
    have h14' := o14 (cumI (rd l) (rd l).length) (by have := rd_length l; rw [cumI_length]; omega)
    simp (maxSteps := 5000000) only [SA, SB, SD, R, guardAt, binP, intP, indexAddrP, elemsOf, readCells, lenP, lenAt, resultsP, resultP, oneOr, reduceCtorEq, reduceIte, Nat.reduceEqDiff, Nat.reduceAdd, Nat.zero_add, Nat.reduceMul, Nat.reduceLT, Nat.reduceLeDiff, Int.reduceLT, Int.reduceNeg, Int.reduceLE, appendP, appendAt, letGo, setLoc, locVal, Int.reduceToNat, boxCells, und, TY, TN, c1, o11, h20, h21, h14, h14', o15, o22, o23, o24]
    exact ⟨_, rfl⟩
end Go.HH
