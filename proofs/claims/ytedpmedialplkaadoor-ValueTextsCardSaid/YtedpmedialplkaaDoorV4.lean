/-
  Values: lists of names: where a name stands in one, and the members of an enumeration.
-/
import Derived.Test.YtedpmedialplkaaDoorV3
namespace Go.HH
open Go Go.Proofs
set_option maxRecDepth 100000
set_option linter.unusedSimpArgs false
set_option linter.unusedVariables false
theorem ok_slices_Index_string_string : fnOK CC Tryd.f78 (Tryd.f78.body.getD .skip) = true := by kernel_rfl
theorem fat_slices_Index_string_string : CC.P.funcs[78]? = some Tryd.f78 := by kernel_rfl
theorem ok_names_Index : fnOK CC Tryd.f63 (Tryd.f63.body.getD .skip) = true := by kernel_rfl
theorem fat_names_Index : CC.P.funcs[63]? = some Tryd.f63 := by kernel_rfl
theorem ok_R20_member : fnOK CC Tryd.f42 (Tryd.f42.body.getD .skip) = true := by kernel_rfl
theorem fat_R20_member : CC.P.funcs[42]? = some Tryd.f42 := by kernel_rfl
theorem ok_value_members : fnOK CC Tryd.f40 (Tryd.f40.body.getD .skip) = true := by kernel_rfl
theorem fat_value_members : CC.P.funcs[40]? = some Tryd.f40 := by kernel_rfl
def strs (l : List (List UInt8)) : List PV := l.map PV.str
theorem strs_length (l : List (List UInt8)) : (strs l).length = l.length := by unfold strs; rw [List.length_map]
theorem strs_get {l : List (List UInt8)} {i : Nat} {s : List UInt8} (h : l[i]? = some s) : (strs l)[i]? = some (.str s) := by unfold strs; rw [List.getElem?_map, h]; rfl
theorem strs_all (l : List (List UInt8)) : ((strs l).all fun v => v.cells.length == 1) = true := by
  unfold strs
  rw [List.all_map]
  exact List.all_eq_true.2 fun _ _ => rfl
theorem strs_pure : ∀ l : List (List UInt8), pureL (strs l) = true
  | [] => rfl
  | t :: r => by
    have h := strs_pure r
    show ((PV.str t).pure && pureL (strs r)) = true
    rw [h]; rfl
/-- the first place of a name, from a number on; -1 if there is none -/
def ixF : Nat → List (List UInt8) → List UInt8 → Int
  | _, [], _ => -1
  | i, x :: r, s => if s == x then (i : Int) else ixF (i + 1) r s
def memB (l : List (List UInt8)) (s : List UInt8) : Bool := l.any (· == s)
theorem ixF_ge : ∀ (l : List (List UInt8)) (i : Nat) (s : List UInt8), ixF i l s = -1 ∨ (i : Int) ≤ ixF i l s
  | [], _, _ => .inl rfl
  | x :: r, i, s => by
    unfold ixF
    split
    · right; omega
    · rcases ixF_ge r (i + 1) s with h | h
      · left; exact h
      · right; omega
theorem ixF_mem : ∀ (l : List (List UInt8)) (i j : Nat) (s : List UInt8), l[j]? = some s → (decide (ixF i l s < ((i + j : Nat) : Int)) = memB (l.take j) s ∧ 0 ≤ ixF i l s)
  | [], _, _, _, h => by simp at h
  | x :: r, i, 0, s, h => by
    have hx : x = s := by simpa using h
    subst hx
    have h0 : ixF i (x :: r) x = (i : Int) := by unfold ixF; simp
    rw [h0]
    refine ⟨?_, by omega⟩
    show decide _ = false
    exact decide_eq_false (by omega)
  | x :: r, i, j + 1, s, h => by
    unfold ixF
    by_cases e : s = x
    · subst e
      rw [if_pos (by simp)]
      refine ⟨?_, by omega⟩
      rw [decide_eq_true (by omega)]
      unfold memB
      simp
    · rw [if_neg (by simpa using e)]
      have := ixF_mem r (i + 1) j s (by simpa using h)
      have e1 : (i + 1 + j : Nat) = i + (j + 1) := by omega
      rw [e1] at this
      refine ⟨?_, this.2⟩
      rw [this.1]
      unfold memB
      rw [List.take_succ_cons, List.any_cons]
      have : (x == s) = false := by simpa using fun h => e h.symm
      rw [this, Bool.false_or]
/-- what a search comes to -/
def PIx (v : Int) (r : Option (Ex × St)) : Prop := ∃ e', (v = -1 ∧ r = some (.exit 0, ⟨e', []⟩)) ∨ (r = some (.ret, ⟨e', []⟩) ∧ getT e' 4 = .int .i64 v)
theorem loop_Index (L : Code) (hL : L = fpart Tryd.f78 [1,0,1,0]) (l : List (List UInt8)) (hl : l.length ≤ 1000000) (s : List UInt8) : ∀ (k i : Nat) (e : List PV), i + k = l.length → getT e 0 = .sl (strs l) → getT e 1 = .str s → getT e 7 = .int .i64 l.length → getT e 8 = .int .i64 i →
    PIx (ixF i (l.drop i) s) (evL CC L ⟨e, []⟩) := by
  intro k
  induction k with
  | zero =>
    intro i e hk h0 h1 h7 h8
    rw [evL_at (fpart Tryd.f78 [1,0,1,0,0]) hL]
    have hi : ¬ ((i : Int) < (l.length : Int)) := by omega
    rw [List.drop_eq_nil_of_le (by omega)]
    unfold ixF
    obtain ⟨ev, eo, so, co, ⟨hev, hco⟩, R⟩ := RULES CC; rw [← hev]
    simp only [fpart, part', Tryd.f78, Option.getD]
    simp (maxSteps := 5000000) only [SA, SB, SD, R, guardAt, binP, intP, indexAddrP, elemsOf, readCells, lenP, lenAt, resultsP, resultP, oneOr, reduceCtorEq, reduceIte, Nat.reduceEqDiff, Nat.reduceAdd, Nat.zero_add, Nat.reduceMul, Nat.reduceLT, Nat.reduceLeDiff, Int.reduceLT, Int.reduceNeg, Int.reduceLE, appendP, appendAt, letGo, setLoc, locVal, Int.reduceToNat, boxCells, und, TG, SE, h7, h8, hi]
    exact ⟨_, .inl ⟨rfl, rfl⟩⟩
  | succ k ih =>
    intro i e hk h0 h1 h7 h8
    rw [evL_at (fpart Tryd.f78 [1,0,1,0,0]) hL]
    have hi : ((i : Int) < (l.length : Int)) := by omega
    have hi0 : ¬ ((i : Int) < 0) := by omega
    have hdr : l.drop i = (l[i]'(by omega)) :: l.drop (i + 1) := List.drop_eq_getElem_cons (by omega)
    have hx : l[i]? = some (l[i]'(by omega)) := by simp
    generalize l[i]'(by omega) = x at *
    have hx' := strs_get hx
    have hw2 := wrap_i64 (n := (i : Int) + 1) ⟨by omega, by omega⟩
    have key := fun e => ih (i + 1) e (by omega)
    have cast1 : ((i + 1 : Nat) : Int) = (i : Int) + 1 := by omega
    rw [cast1] at key
    have heq := strP_eql s x
    rw [hdr]
    unfold ixF
    generalize ixF (i + 1) (l.drop (i + 1)) s = v at *
    generalize strs l = xs at *
    cases hb : s == x with
    | true =>
      rw [hb] at heq
      rw [if_pos rfl]
      obtain ⟨ev, eo, so, co, ⟨hev, hco⟩, R⟩ := RULES CC; rw [← hev]
      simp only [fpart, part', Tryd.f78, Option.getD]
      simp (maxSteps := 5000000) only [SA, SB, SD, R, guardAt, binP, intP, indexAddrP, elemsOf, readCells, lenP, lenAt, resultsP, resultP, oneOr, reduceCtorEq, reduceIte, Nat.reduceEqDiff, Nat.reduceAdd, Nat.zero_add, Nat.reduceMul, Nat.reduceLT, Nat.reduceLeDiff, Int.reduceLT, Int.reduceNeg, Int.reduceLE, appendP, appendAt, letGo, setLoc, locVal, Int.reduceToNat, boxCells, und, TG, SE, h0, h1, h7, h8, hi, hi0, hx', heq, List.take_succ_cons, List.take_zero]
      exact ⟨_, .inr ⟨rfl, by simp (maxSteps := 5000000) only [SA, SB, SD, R, guardAt, binP, intP, indexAddrP, elemsOf, readCells, lenP, lenAt, resultsP, resultP, oneOr, reduceCtorEq, reduceIte, Nat.reduceEqDiff, Nat.reduceAdd, Nat.zero_add, Nat.reduceMul, Nat.reduceLT, Nat.reduceLeDiff, Int.reduceLT, Int.reduceNeg, Int.reduceLE, appendP, appendAt, letGo, setLoc, locVal, Int.reduceToNat, boxCells, und]⟩⟩
    | false =>
      rw [hb] at heq
      rw [if_neg (by simp)]
      obtain ⟨ev, eo, so, co, ⟨hev, hco⟩, R⟩ := RULES CC; rw [← hev]
      rw [← hev] at key
      simp only [fpart, part', Tryd.f78, Option.getD]
      simp (maxSteps := 5000000) only [SA, SB, SD, R, guardAt, binP, intP, indexAddrP, elemsOf, readCells, lenP, lenAt, resultsP, resultP, oneOr, reduceCtorEq, reduceIte, Nat.reduceEqDiff, Nat.reduceAdd, Nat.zero_add, Nat.reduceMul, Nat.reduceLT, Nat.reduceLeDiff, Int.reduceLT, Int.reduceNeg, Int.reduceLE, appendP, appendAt, letGo, setLoc, locVal, Int.reduceToNat, boxCells, und, TG, SE, h0, h1, h7, h8, hi, hi0, hx', hw2, heq, List.take_succ_cons, List.take_zero]
      refine key _ ?_ ?_ ?_ ?_
      · simp (maxSteps := 5000000) only [SA, SB, SD, R, guardAt, binP, intP, indexAddrP, elemsOf, readCells, lenP, lenAt, resultsP, resultP, oneOr, reduceCtorEq, reduceIte, Nat.reduceEqDiff, Nat.reduceAdd, Nat.zero_add, Nat.reduceMul, Nat.reduceLT, Nat.reduceLeDiff, Int.reduceLT, Int.reduceNeg, Int.reduceLE, appendP, appendAt, letGo, setLoc, locVal, Int.reduceToNat, boxCells, und, h0]
      · simp (maxSteps := 5000000) only [SA, SB, SD, R, guardAt, binP, intP, indexAddrP, elemsOf, readCells, lenP, lenAt, resultsP, resultP, oneOr, reduceCtorEq, reduceIte, Nat.reduceEqDiff, Nat.reduceAdd, Nat.zero_add, Nat.reduceMul, Nat.reduceLT, Nat.reduceLeDiff, Int.reduceLT, Int.reduceNeg, Int.reduceLE, appendP, appendAt, letGo, setLoc, locVal, Int.reduceToNat, boxCells, und, h1]
      · simp (maxSteps := 5000000) only [SA, SB, SD, R, guardAt, binP, intP, indexAddrP, elemsOf, readCells, lenP, lenAt, resultsP, resultP, oneOr, reduceCtorEq, reduceIte, Nat.reduceEqDiff, Nat.reduceAdd, Nat.zero_add, Nat.reduceMul, Nat.reduceLT, Nat.reduceLeDiff, Int.reduceLT, Int.reduceNeg, Int.reduceLE, appendP, appendAt, letGo, setLoc, locVal, Int.reduceToNat, boxCells, und, h7]
      · simp (maxSteps := 5000000) only [SA, SB, SD, R, guardAt, binP, intP, indexAddrP, elemsOf, readCells, lenP, lenAt, resultsP, resultP, oneOr, reduceCtorEq, reduceIte, Nat.reduceEqDiff, Nat.reduceAdd, Nat.zero_add, Nat.reduceMul, Nat.reduceLT, Nat.reduceLeDiff, Int.reduceLT, Int.reduceNeg, Int.reduceLE, appendP, appendAt, letGo, setLoc, locVal, Int.reduceToNat, boxCells, und]
theorem call_Index (l : List (List UInt8)) (hl : l.length ≤ 1000000) (s : List UInt8) : callL CC 78 [.sl (strs l), .str s] [] = some (.ret (.int .i64 (ixF 0 l s)), []) := by
  rw [callL_enter (fn := Tryd.f78) (c := Tryd.f78.body.getD .skip) rfl rfl fat_slices_Index_string_string rfl ok_slices_Index_string_string (Nat.le_of_ble_eq_true rfl)]
  have hloop := fun e => loop_Index _ rfl l hl s l.length 0 e (by omega)
  have hln := strs_length l
  rw [List.drop_zero] at hloop
  generalize ixF 0 l s = v at *
  generalize strs l = xs at *
  obtain ⟨ev, eo, so, co, ⟨hev, hco⟩, R⟩ := RULES CC; rw [← hev]
  rw [← hev] at hloop
  simp only [fpart, part', Tryd.f78, Option.getD] at hloop ⊢
  simp (maxSteps := 5000000) only [SA, SB, SD, R, guardAt, binP, intP, indexAddrP, elemsOf, readCells, lenP, lenAt, resultsP, resultP, oneOr, reduceCtorEq, reduceIte, Nat.reduceEqDiff, Nat.reduceAdd, Nat.zero_add, Nat.reduceMul, Nat.reduceLT, Nat.reduceLeDiff, Int.reduceLT, Int.reduceNeg, Int.reduceLE, appendP, appendAt, letGo, setLoc, locVal, Int.reduceToNat, boxCells, und, TG, SE, hln]
  generalize hE : ev _ _ = z
  have hP : PIx v z := by
    rw [← hE]
    refine hloop _ ?_ ?_ ?_ ?_
    · simp (maxSteps := 5000000) only [SA, SB, SD, R, guardAt, binP, intP, indexAddrP, elemsOf, readCells, lenP, lenAt, resultsP, resultP, oneOr, reduceCtorEq, reduceIte, Nat.reduceEqDiff, Nat.reduceAdd, Nat.zero_add, Nat.reduceMul, Nat.reduceLT, Nat.reduceLeDiff, Int.reduceLT, Int.reduceNeg, Int.reduceLE, appendP, appendAt, letGo, setLoc, locVal, Int.reduceToNat, boxCells, und]
    · simp (maxSteps := 5000000) only [SA, SB, SD, R, guardAt, binP, intP, indexAddrP, elemsOf, readCells, lenP, lenAt, resultsP, resultP, oneOr, reduceCtorEq, reduceIte, Nat.reduceEqDiff, Nat.reduceAdd, Nat.zero_add, Nat.reduceMul, Nat.reduceLT, Nat.reduceLeDiff, Int.reduceLT, Int.reduceNeg, Int.reduceLE, appendP, appendAt, letGo, setLoc, locVal, Int.reduceToNat, boxCells, und]
    · simp (maxSteps := 5000000) only [SA, SB, SD, R, guardAt, binP, intP, indexAddrP, elemsOf, readCells, lenP, lenAt, resultsP, resultP, oneOr, reduceCtorEq, reduceIte, Nat.reduceEqDiff, Nat.reduceAdd, Nat.zero_add, Nat.reduceMul, Nat.reduceLT, Nat.reduceLeDiff, Int.reduceLT, Int.reduceNeg, Int.reduceLE, appendP, appendAt, letGo, setLoc, locVal, Int.reduceToNat, boxCells, und]
    · simp (maxSteps := 5000000) only [SA, SB, SD, R, guardAt, binP, intP, indexAddrP, elemsOf, readCells, lenP, lenAt, resultsP, resultP, oneOr, reduceCtorEq, reduceIte, Nat.reduceEqDiff, Nat.reduceAdd, Nat.zero_add, Nat.reduceMul, Nat.reduceLT, Nat.reduceLeDiff, Int.reduceLT, Int.reduceNeg, Int.reduceLE, appendP, appendAt, letGo, setLoc, locVal, Int.reduceToNat, boxCells, und]; rfl
  obtain ⟨e', ⟨hv, he⟩ | ⟨he, g4⟩⟩ := hP
  · subst he
    subst hv
    simp (maxSteps := 5000000) only [SA, SB, SD, R, guardAt, binP, intP, indexAddrP, elemsOf, readCells, lenP, lenAt, resultsP, resultP, oneOr, reduceCtorEq, reduceIte, Nat.reduceEqDiff, Nat.reduceAdd, Nat.zero_add, Nat.reduceMul, Nat.reduceLT, Nat.reduceLeDiff, Int.reduceLT, Int.reduceNeg, Int.reduceLE, appendP, appendAt, letGo, setLoc, locVal, Int.reduceToNat, boxCells, und, TG, SE]
  · subst he
    simp (maxSteps := 5000000) only [SA, SB, SD, R, guardAt, binP, intP, indexAddrP, elemsOf, readCells, lenP, lenAt, resultsP, resultP, oneOr, reduceCtorEq, reduceIte, Nat.reduceEqDiff, Nat.reduceAdd, Nat.zero_add, Nat.reduceMul, Nat.reduceLT, Nat.reduceLeDiff, Int.reduceLT, Int.reduceNeg, Int.reduceLE, appendP, appendAt, letGo, setLoc, locVal, Int.reduceToNat, boxCells, und, TG, SE, g4]
theorem op_Index (l : List (List UInt8)) (hl : l.length ≤ 1000000) (s : List UInt8) (bx) : callOp CC (callL CC) 78 [.sl (strs l), .str s] bx = some (.ret (.int .i64 (ixF 0 l s)), bx) := callOp_of rfl (by simp only [SA, SE, strs_pure, Bool.and_true]) (call_Index l hl s) rfl
theorem call_names_Index (l : List (List UInt8)) (hl : l.length ≤ 1000000) (s : List UInt8) : callL CC 63 [.sl (strs l), .str s] [] = some (.ret (.int .i64 (ixF 0 l s)), []) := by
  rw [callL_enter (fn := Tryd.f63) (c := Tryd.f63.body.getD .skip) rfl rfl fat_names_Index rfl ok_names_Index (Nat.le_of_ble_eq_true rfl)]
  have h := op_Index l hl s
  generalize ixF 0 l s = v at *
  generalize strs l = xs at *
  obtain ⟨ev, eo, so, co, ⟨hev, hco⟩, R⟩ := RULES CC; rw [← hev]
  rw [← hco] at h
  simp only [fpart, part', Tryd.f63, Option.getD]
  simp (maxSteps := 5000000) only [SA, SB, SD, R, guardAt, binP, intP, indexAddrP, elemsOf, readCells, lenP, lenAt, resultsP, resultP, oneOr, reduceCtorEq, reduceIte, Nat.reduceEqDiff, Nat.reduceAdd, Nat.zero_add, Nat.reduceMul, Nat.reduceLT, Nat.reduceLeDiff, Int.reduceLT, Int.reduceNeg, Int.reduceLE, appendP, appendAt, letGo, setLoc, locVal, Int.reduceToNat, boxCells, und, TG, SE, h]
theorem op_names_Index (l : List (List UInt8)) (hl : l.length ≤ 1000000) (s : List UInt8) (bx) : callOp CC (callL CC) 63 [.sl (strs l), .str s] bx = some (.ret (.int .i64 (ixF 0 l s)), bx) := callOp_of rfl (by simp only [SA, SE, strs_pure, Bool.and_true]) (call_names_Index l hl s) rfl
def PMe (v : Bool) (r : Option (Ex × St)) : Prop := ∃ e', (v = false ∧ r = some (.exit 0, ⟨e', []⟩)) ∨ (v = true ∧ r = some (.ret, ⟨e', []⟩) ∧ getT e' 4 = .bool true)
theorem loop_member (L : Code) (hL : L = fpart Tryd.f42 [1,0,1,0]) (l : List (List UInt8)) (hl : l.length ≤ 1000000) (s : List UInt8) : ∀ (k i : Nat) (e : List PV), i + k = l.length → getT e 0 = .sl (strs l) → getT e 1 = .str s → getT e 5 = .int .i64 i →
    PMe (memB (l.drop i) s) (evL CC L ⟨e, []⟩) := by
  intro k
  induction k with
  | zero =>
    intro i e hk h0 h1 h5
    rw [evL_at (fpart Tryd.f42 [1,0,1,0,0]) hL]
    have hi : ¬ ((i : Int) < (l.length : Int)) := by omega
    rw [List.drop_eq_nil_of_le (by omega)]
    have hln := strs_length l
    generalize strs l = xs at *
    obtain ⟨ev, eo, so, co, ⟨hev, hco⟩, R⟩ := RULES CC; rw [← hev]
    simp only [fpart, part', Tryd.f42, Option.getD]
    simp (maxSteps := 5000000) only [SA, SB, SD, R, guardAt, binP, intP, indexAddrP, elemsOf, readCells, lenP, lenAt, resultsP, resultP, oneOr, reduceCtorEq, reduceIte, Nat.reduceEqDiff, Nat.reduceAdd, Nat.zero_add, Nat.reduceMul, Nat.reduceLT, Nat.reduceLeDiff, Int.reduceLT, Int.reduceNeg, Int.reduceLE, appendP, appendAt, letGo, setLoc, locVal, Int.reduceToNat, boxCells, und, TG, SE, h0, h5, hln, hi]
    exact ⟨_, .inl ⟨rfl, rfl⟩⟩
  | succ k ih =>
    intro i e hk h0 h1 h5
    rw [evL_at (fpart Tryd.f42 [1,0,1,0,0]) hL]
    have hi : ((i : Int) < (l.length : Int)) := by omega
    have hi0 : ¬ ((i : Int) < 0) := by omega
    have hdr : l.drop i = (l[i]'(by omega)) :: l.drop (i + 1) := List.drop_eq_getElem_cons (by omega)
    have hx : l[i]? = some (l[i]'(by omega)) := by simp
    generalize l[i]'(by omega) = x at *
    have hx' := strs_get hx
    have hln := strs_length l
    have hw2 := wrap_i64 (n := (i : Int) + 1) ⟨by omega, by omega⟩
    have key := fun e => ih (i + 1) e (by omega)
    have cast1 : ((i + 1 : Nat) : Int) = (i : Int) + 1 := by omega
    rw [cast1] at key
    have heq := strP_eql x s
    rw [hdr, show memB (x :: l.drop (i + 1)) s = ((x == s) || memB (l.drop (i + 1)) s) from rfl]
    generalize memB (l.drop (i + 1)) s = v at *
    generalize strs l = xs at *
    cases hb : x == s with
    | true =>
      rw [hb] at heq
      rw [Bool.true_or]
      obtain ⟨ev, eo, so, co, ⟨hev, hco⟩, R⟩ := RULES CC; rw [← hev]
      simp only [fpart, part', Tryd.f42, Option.getD]
      simp (maxSteps := 5000000) only [SA, SB, SD, R, guardAt, binP, intP, indexAddrP, elemsOf, readCells, lenP, lenAt, resultsP, resultP, oneOr, reduceCtorEq, reduceIte, Nat.reduceEqDiff, Nat.reduceAdd, Nat.zero_add, Nat.reduceMul, Nat.reduceLT, Nat.reduceLeDiff, Int.reduceLT, Int.reduceNeg, Int.reduceLE, appendP, appendAt, letGo, setLoc, locVal, Int.reduceToNat, boxCells, und, TG, SE, h0, h1, h5, hln, hi, hi0, hx', heq, List.take_succ_cons, List.take_zero]
      exact ⟨_, .inr ⟨rfl, rfl, by simp (maxSteps := 5000000) only [SA, SB, SD, R, guardAt, binP, intP, indexAddrP, elemsOf, readCells, lenP, lenAt, resultsP, resultP, oneOr, reduceCtorEq, reduceIte, Nat.reduceEqDiff, Nat.reduceAdd, Nat.zero_add, Nat.reduceMul, Nat.reduceLT, Nat.reduceLeDiff, Int.reduceLT, Int.reduceNeg, Int.reduceLE, appendP, appendAt, letGo, setLoc, locVal, Int.reduceToNat, boxCells, und]⟩⟩
    | false =>
      rw [hb] at heq
      rw [Bool.false_or]
      obtain ⟨ev, eo, so, co, ⟨hev, hco⟩, R⟩ := RULES CC; rw [← hev]
      rw [← hev] at key
      simp only [fpart, part', Tryd.f42, Option.getD]
      simp (maxSteps := 5000000) only [SA, SB, SD, R, guardAt, binP, intP, indexAddrP, elemsOf, readCells, lenP, lenAt, resultsP, resultP, oneOr, reduceCtorEq, reduceIte, Nat.reduceEqDiff, Nat.reduceAdd, Nat.zero_add, Nat.reduceMul, Nat.reduceLT, Nat.reduceLeDiff, Int.reduceLT, Int.reduceNeg, Int.reduceLE, appendP, appendAt, letGo, setLoc, locVal, Int.reduceToNat, boxCells, und, TG, SE, h0, h1, h5, hln, hi, hi0, hx', hw2, heq, List.take_succ_cons, List.take_zero]
      refine key _ ?_ ?_ ?_
      · simp (maxSteps := 5000000) only [SA, SB, SD, R, guardAt, binP, intP, indexAddrP, elemsOf, readCells, lenP, lenAt, resultsP, resultP, oneOr, reduceCtorEq, reduceIte, Nat.reduceEqDiff, Nat.reduceAdd, Nat.zero_add, Nat.reduceMul, Nat.reduceLT, Nat.reduceLeDiff, Int.reduceLT, Int.reduceNeg, Int.reduceLE, appendP, appendAt, letGo, setLoc, locVal, Int.reduceToNat, boxCells, und, h0]
      · simp (maxSteps := 5000000) only [SA, SB, SD, R, guardAt, binP, intP, indexAddrP, elemsOf, readCells, lenP, lenAt, resultsP, resultP, oneOr, reduceCtorEq, reduceIte, Nat.reduceEqDiff, Nat.reduceAdd, Nat.zero_add, Nat.reduceMul, Nat.reduceLT, Nat.reduceLeDiff, Int.reduceLT, Int.reduceNeg, Int.reduceLE, appendP, appendAt, letGo, setLoc, locVal, Int.reduceToNat, boxCells, und, h1]
      · simp (maxSteps := 5000000) only [SA, SB, SD, R, guardAt, binP, intP, indexAddrP, elemsOf, readCells, lenP, lenAt, resultsP, resultP, oneOr, reduceCtorEq, reduceIte, Nat.reduceEqDiff, Nat.reduceAdd, Nat.zero_add, Nat.reduceMul, Nat.reduceLT, Nat.reduceLeDiff, Int.reduceLT, Int.reduceNeg, Int.reduceLE, appendP, appendAt, letGo, setLoc, locVal, Int.reduceToNat, boxCells, und]
theorem call_R20_member (l : List (List UInt8)) (hl : l.length ≤ 1000000) (s : List UInt8) : callL CC 42 [.sl (strs l), .str s] [] = some (.ret (.bool (memB l s)), []) := by
  rw [callL_enter (fn := Tryd.f42) (c := Tryd.f42.body.getD .skip) rfl rfl fat_R20_member rfl ok_R20_member (Nat.le_of_ble_eq_true rfl)]
  have hloop := fun e => loop_member _ rfl l hl s l.length 0 e (by omega)
  rw [List.drop_zero] at hloop
  generalize memB l s = v at *
  generalize strs l = xs at *
  obtain ⟨ev, eo, so, co, ⟨hev, hco⟩, R⟩ := RULES CC; rw [← hev]
  rw [← hev] at hloop
  simp only [fpart, part', Tryd.f42, Option.getD] at hloop ⊢
  simp (maxSteps := 5000000) only [SA, SB, SD, R, guardAt, binP, intP, indexAddrP, elemsOf, readCells, lenP, lenAt, resultsP, resultP, oneOr, reduceCtorEq, reduceIte, Nat.reduceEqDiff, Nat.reduceAdd, Nat.zero_add, Nat.reduceMul, Nat.reduceLT, Nat.reduceLeDiff, Int.reduceLT, Int.reduceNeg, Int.reduceLE, appendP, appendAt, letGo, setLoc, locVal, Int.reduceToNat, boxCells, und, TG, SE]
  generalize hE : ev _ _ = z
  have hP : PMe v z := by
    rw [← hE]
    refine hloop _ ?_ ?_ ?_
    · simp (maxSteps := 5000000) only [SA, SB, SD, R, guardAt, binP, intP, indexAddrP, elemsOf, readCells, lenP, lenAt, resultsP, resultP, oneOr, reduceCtorEq, reduceIte, Nat.reduceEqDiff, Nat.reduceAdd, Nat.zero_add, Nat.reduceMul, Nat.reduceLT, Nat.reduceLeDiff, Int.reduceLT, Int.reduceNeg, Int.reduceLE, appendP, appendAt, letGo, setLoc, locVal, Int.reduceToNat, boxCells, und]
    · simp (maxSteps := 5000000) only [SA, SB, SD, R, guardAt, binP, intP, indexAddrP, elemsOf, readCells, lenP, lenAt, resultsP, resultP, oneOr, reduceCtorEq, reduceIte, Nat.reduceEqDiff, Nat.reduceAdd, Nat.zero_add, Nat.reduceMul, Nat.reduceLT, Nat.reduceLeDiff, Int.reduceLT, Int.reduceNeg, Int.reduceLE, appendP, appendAt, letGo, setLoc, locVal, Int.reduceToNat, boxCells, und]
    · simp (maxSteps := 5000000) only [SA, SB, SD, R, guardAt, binP, intP, indexAddrP, elemsOf, readCells, lenP, lenAt, resultsP, resultP, oneOr, reduceCtorEq, reduceIte, Nat.reduceEqDiff, Nat.reduceAdd, Nat.zero_add, Nat.reduceMul, Nat.reduceLT, Nat.reduceLeDiff, Int.reduceLT, Int.reduceNeg, Int.reduceLE, appendP, appendAt, letGo, setLoc, locVal, Int.reduceToNat, boxCells, und]; rfl
  obtain ⟨e', ⟨hv, he⟩ | ⟨hv, he, g4⟩⟩ := hP
  · subst he
    subst hv
    simp (maxSteps := 5000000) only [SA, SB, SD, R, guardAt, binP, intP, indexAddrP, elemsOf, readCells, lenP, lenAt, resultsP, resultP, oneOr, reduceCtorEq, reduceIte, Nat.reduceEqDiff, Nat.reduceAdd, Nat.zero_add, Nat.reduceMul, Nat.reduceLT, Nat.reduceLeDiff, Int.reduceLT, Int.reduceNeg, Int.reduceLE, appendP, appendAt, letGo, setLoc, locVal, Int.reduceToNat, boxCells, und, TG, SE]
  · subst he
    subst hv
    simp (maxSteps := 5000000) only [SA, SB, SD, R, guardAt, binP, intP, indexAddrP, elemsOf, readCells, lenP, lenAt, resultsP, resultP, oneOr, reduceCtorEq, reduceIte, Nat.reduceEqDiff, Nat.reduceAdd, Nat.zero_add, Nat.reduceMul, Nat.reduceLT, Nat.reduceLeDiff, Int.reduceLT, Int.reduceNeg, Int.reduceLE, appendP, appendAt, letGo, setLoc, locVal, Int.reduceToNat, boxCells, und, TG, SE, g4]
theorem op_R20_member (l : List (List UInt8)) (hl : l.length ≤ 1000000) (s : List UInt8) (bx) : callOp CC (callL CC) 42 [.sl (strs l), .str s] bx = some (.ret (.bool (memB l s)), bx) := callOp_of rfl (by simp only [SA, SE, strs_pure, Bool.and_true]) (call_R20_member l hl s) rfl
/-- what is said of the members from a place on -/
def mbF (l : List (List UInt8)) : Nat → Nat → Int
  | 0, _ => 0
  | k + 1, i => match l[i]? with
    | none => 0
    | some s => if valB s = false then 10 else if memB (l.take i) s = true then 9 else mbF l k (i + 1)
/-- what is said of the members of an enumeration -/
def mbV (l : List (List UInt8)) : Int := if l.length < 1 ∨ 64 < l.length then 3 else mbF l l.length 0
def PMb (v : Int) (r : Option (Ex × St)) : Prop := ∃ e' bx', (v = 0 ∧ r = some (.exit 0, ⟨e', bx'⟩)) ∨ (r = some (.ret, ⟨e', bx'⟩) ∧ getT e' 2 = .int .i64 v)
theorem loop_members (L : Code) (hL : L = fpart Tryd.f40 [1,1,0,1,0]) (l : List (List UInt8)) (hl : l.length ≤ 1000000) (hs : ∀ s ∈ l, s.length ≤ 1000) : ∀ (k i : Nat) (e : List PV) (bx : List PBox), i + k = l.length → getT e 0 = .sl (strs l) → getT e 13 = .sl (strs l) → getT e 14 = .int .i64 l.length → getT e 15 = .int .i64 i →
    PMb (mbF l k i) (evL CC L ⟨e, bx⟩) := by
  intro k
  induction k with
  | zero =>
    intro i e bx hk h0 h13 h14 h15
    rw [evL_at (fpart Tryd.f40 [1,1,0,1,0,0]) hL]
    have hi : ¬ ((i : Int) < (l.length : Int)) := by omega
    unfold mbF
    obtain ⟨ev, eo, so, co, ⟨hev, hco⟩, R⟩ := RULES CC; rw [← hev]
    simp only [fpart, part', Tryd.f40, Option.getD]
    simp (maxSteps := 5000000) only [SA, SB, SD, R, guardAt, binP, intP, indexAddrP, elemsOf, readCells, lenP, lenAt, resultsP, resultP, oneOr, reduceCtorEq, reduceIte, Nat.reduceEqDiff, Nat.reduceAdd, Nat.zero_add, Nat.reduceMul, Nat.reduceLT, Nat.reduceLeDiff, Int.reduceLT, Int.reduceNeg, Int.reduceLE, appendP, appendAt, letGo, setLoc, locVal, Int.reduceToNat, boxCells, und, TG, SE, h14, h15, hi]
    exact ⟨_, _, .inl ⟨rfl, rfl⟩⟩
  | succ k ih =>
    intro i e bx hk h0 h13 h14 h15
    rw [evL_at (fpart Tryd.f40 [1,1,0,1,0,0]) hL]
    have hi : ((i : Int) < (l.length : Int)) := by omega
    have hi0 : ¬ ((i : Int) < 0) := by omega
    have hx : l[i]? = some (l[i]'(by omega)) := by simp
    have hm : l[i]'(by omega) ∈ l := List.getElem_mem _
    generalize l[i]'(by omega) = x at *
    have hx' := strs_get hx
    have hw2 := wrap_i64 (n := (i : Int) + 1) ⟨by omega, by omega⟩
    have key := fun e bx => ih (i + 1) e bx (by omega)
    have cast1 : ((i + 1 : Nat) : Int) = (i : Int) + 1 := by omega
    rw [cast1] at key
    have hv := op_names_Valid x (hs x hm)
    have hix := op_names_Index l hl x
    have hmm := (ixF_mem l 0 i x hx).1
    rw [Nat.zero_add] at hmm
    unfold mbF
    simp only [hx]
    generalize mbF l k (i + 1) = v at *
    generalize ixF 0 l x = j at *
    generalize memB (l.take i) x = mb at *
    generalize strs l = xs at *
    cases hb : valB x with
    | false =>
      rw [hb] at hv
      rw [if_pos rfl]
      obtain ⟨ev, eo, so, co, ⟨hev, hco⟩, R⟩ := RULES CC; rw [← hev]
      rw [← hco] at hv
      simp only [fpart, part', Tryd.f40, Option.getD]
      simp (maxSteps := 5000000) only [SA, SB, SD, R, guardAt, binP, intP, indexAddrP, elemsOf, readCells, lenP, lenAt, resultsP, resultP, oneOr, reduceCtorEq, reduceIte, Nat.reduceEqDiff, Nat.reduceAdd, Nat.zero_add, Nat.reduceMul, Nat.reduceLT, Nat.reduceLeDiff, Int.reduceLT, Int.reduceNeg, Int.reduceLE, appendP, appendAt, letGo, setLoc, locVal, Int.reduceToNat, boxCells, und, TG, SE, unP, h0, h13, h14, h15, hi, hi0, hx', hv, List.take_succ_cons, List.take_zero, Bool.not_false]
      exact ⟨_, _, .inr ⟨rfl, by simp (maxSteps := 5000000) only [SA, SB, SD, R, guardAt, binP, intP, indexAddrP, elemsOf, readCells, lenP, lenAt, resultsP, resultP, oneOr, reduceCtorEq, reduceIte, Nat.reduceEqDiff, Nat.reduceAdd, Nat.zero_add, Nat.reduceMul, Nat.reduceLT, Nat.reduceLeDiff, Int.reduceLT, Int.reduceNeg, Int.reduceLE, appendP, appendAt, letGo, setLoc, locVal, Int.reduceToNat, boxCells, und]⟩⟩
    | true =>
      rw [hb] at hv
      rw [if_neg (by simp)]
      cases mb with
      | true =>
        have hlt := of_decide_eq_true hmm
        rw [if_pos rfl]
        obtain ⟨ev, eo, so, co, ⟨hev, hco⟩, R⟩ := RULES CC; rw [← hev]
        rw [← hco] at hv hix
        simp only [fpart, part', Tryd.f40, Option.getD]
        simp (maxSteps := 5000000) only [SA, SB, SD, R, guardAt, binP, intP, indexAddrP, elemsOf, readCells, lenP, lenAt, resultsP, resultP, oneOr, reduceCtorEq, reduceIte, Nat.reduceEqDiff, Nat.reduceAdd, Nat.zero_add, Nat.reduceMul, Nat.reduceLT, Nat.reduceLeDiff, Int.reduceLT, Int.reduceNeg, Int.reduceLE, appendP, appendAt, letGo, setLoc, locVal, Int.reduceToNat, boxCells, und, TG, SE, unP, h0, h13, h14, h15, hi, hi0, hx', hv, hix, hlt, List.take_succ_cons, List.take_zero, Bool.not_true]
        exact ⟨_, _, .inr ⟨rfl, by simp (maxSteps := 5000000) only [SA, SB, SD, R, guardAt, binP, intP, indexAddrP, elemsOf, readCells, lenP, lenAt, resultsP, resultP, oneOr, reduceCtorEq, reduceIte, Nat.reduceEqDiff, Nat.reduceAdd, Nat.zero_add, Nat.reduceMul, Nat.reduceLT, Nat.reduceLeDiff, Int.reduceLT, Int.reduceNeg, Int.reduceLE, appendP, appendAt, letGo, setLoc, locVal, Int.reduceToNat, boxCells, und]⟩⟩
      | false =>
        have hlt := of_decide_eq_false hmm
        rw [if_neg (by simp)]
        obtain ⟨ev, eo, so, co, ⟨hev, hco⟩, R⟩ := RULES CC; rw [← hev]
        rw [← hev] at key
        rw [← hco] at hv hix
        simp only [fpart, part', Tryd.f40, Option.getD]
        simp (maxSteps := 5000000) only [SA, SB, SD, R, guardAt, binP, intP, indexAddrP, elemsOf, readCells, lenP, lenAt, resultsP, resultP, oneOr, reduceCtorEq, reduceIte, Nat.reduceEqDiff, Nat.reduceAdd, Nat.zero_add, Nat.reduceMul, Nat.reduceLT, Nat.reduceLeDiff, Int.reduceLT, Int.reduceNeg, Int.reduceLE, appendP, appendAt, letGo, setLoc, locVal, Int.reduceToNat, boxCells, und, TG, SE, unP, h0, h13, h14, h15, hi, hi0, hx', hv, hix, hlt, hw2, List.take_succ_cons, List.take_zero, Bool.not_true]
        refine key _ _ ?_ ?_ ?_ ?_
        · simp (maxSteps := 5000000) only [SA, SB, SD, R, guardAt, binP, intP, indexAddrP, elemsOf, readCells, lenP, lenAt, resultsP, resultP, oneOr, reduceCtorEq, reduceIte, Nat.reduceEqDiff, Nat.reduceAdd, Nat.zero_add, Nat.reduceMul, Nat.reduceLT, Nat.reduceLeDiff, Int.reduceLT, Int.reduceNeg, Int.reduceLE, appendP, appendAt, letGo, setLoc, locVal, Int.reduceToNat, boxCells, und, h0]
        · simp (maxSteps := 5000000) only [SA, SB, SD, R, guardAt, binP, intP, indexAddrP, elemsOf, readCells, lenP, lenAt, resultsP, resultP, oneOr, reduceCtorEq, reduceIte, Nat.reduceEqDiff, Nat.reduceAdd, Nat.zero_add, Nat.reduceMul, Nat.reduceLT, Nat.reduceLeDiff, Int.reduceLT, Int.reduceNeg, Int.reduceLE, appendP, appendAt, letGo, setLoc, locVal, Int.reduceToNat, boxCells, und, h13]
        · simp (maxSteps := 5000000) only [SA, SB, SD, R, guardAt, binP, intP, indexAddrP, elemsOf, readCells, lenP, lenAt, resultsP, resultP, oneOr, reduceCtorEq, reduceIte, Nat.reduceEqDiff, Nat.reduceAdd, Nat.zero_add, Nat.reduceMul, Nat.reduceLT, Nat.reduceLeDiff, Int.reduceLT, Int.reduceNeg, Int.reduceLE, appendP, appendAt, letGo, setLoc, locVal, Int.reduceToNat, boxCells, und, h14]
        · simp (maxSteps := 5000000) only [SA, SB, SD, R, guardAt, binP, intP, indexAddrP, elemsOf, readCells, lenP, lenAt, resultsP, resultP, oneOr, reduceCtorEq, reduceIte, Nat.reduceEqDiff, Nat.reduceAdd, Nat.zero_add, Nat.reduceMul, Nat.reduceLT, Nat.reduceLeDiff, Int.reduceLT, Int.reduceNeg, Int.reduceLE, appendP, appendAt, letGo, setLoc, locVal, Int.reduceToNat, boxCells, und]
theorem call_value_members (l : List (List UInt8)) (hl : l.length ≤ 1000000) (hs : ∀ s ∈ l, s.length ≤ 1000) : ∃ bx, callL CC 40 [.sl (strs l)] [] = some (.ret (.int .i64 (mbV l)), bx) := by
  rw [callL_enter (fn := Tryd.f40) (c := Tryd.f40.body.getD .skip) rfl rfl fat_value_members rfl ok_value_members (Nat.le_of_ble_eq_true rfl)]
  have hln := strs_length l
  have hloop := fun e bx => loop_members _ rfl l hl hs l.length 0 e bx (by omega)
  unfold mbV
  by_cases c1 : (l.length : Int) < 1
  · rw [if_pos (by omega)]
    generalize strs l = xs at *
    obtain ⟨ev, eo, so, co, ⟨hev, hco⟩, R⟩ := RULES CC; rw [← hev]
    simp only [fpart, part', Tryd.f40, Option.getD]
    simp (maxSteps := 5000000) only [SA, SB, SD, R, guardAt, binP, intP, indexAddrP, elemsOf, readCells, lenP, lenAt, resultsP, resultP, oneOr, reduceCtorEq, reduceIte, Nat.reduceEqDiff, Nat.reduceAdd, Nat.zero_add, Nat.reduceMul, Nat.reduceLT, Nat.reduceLeDiff, Int.reduceLT, Int.reduceNeg, Int.reduceLE, appendP, appendAt, letGo, setLoc, locVal, Int.reduceToNat, boxCells, und, TG, SE, hln, c1]
    exact ⟨_, rfl⟩
  · by_cases c2 : (l.length : Int) > 64
    · rw [if_pos (by omega)]
      generalize strs l = xs at *
      obtain ⟨ev, eo, so, co, ⟨hev, hco⟩, R⟩ := RULES CC; rw [← hev]
      simp only [fpart, part', Tryd.f40, Option.getD]
      simp (maxSteps := 5000000) only [SA, SB, SD, R, guardAt, binP, intP, indexAddrP, elemsOf, readCells, lenP, lenAt, resultsP, resultP, oneOr, reduceCtorEq, reduceIte, Nat.reduceEqDiff, Nat.reduceAdd, Nat.zero_add, Nat.reduceMul, Nat.reduceLT, Nat.reduceLeDiff, Int.reduceLT, Int.reduceNeg, Int.reduceLE, appendP, appendAt, letGo, setLoc, locVal, Int.reduceToNat, boxCells, und, TG, SE, hln, c1, c2]
      exact ⟨_, rfl⟩
    · rw [if_neg (by omega)]
      generalize mbF l l.length 0 = v at *
      generalize strs l = xs at *
      obtain ⟨ev, eo, so, co, ⟨hev, hco⟩, R⟩ := RULES CC; rw [← hev]
      rw [← hev] at hloop
      simp only [fpart, part', Tryd.f40, Option.getD] at hloop ⊢
      simp (maxSteps := 5000000) only [SA, SB, SD, R, guardAt, binP, intP, indexAddrP, elemsOf, readCells, lenP, lenAt, resultsP, resultP, oneOr, reduceCtorEq, reduceIte, Nat.reduceEqDiff, Nat.reduceAdd, Nat.zero_add, Nat.reduceMul, Nat.reduceLT, Nat.reduceLeDiff, Int.reduceLT, Int.reduceNeg, Int.reduceLE, appendP, appendAt, letGo, setLoc, locVal, Int.reduceToNat, boxCells, und, TG, SE, hln, c1, c2]
      generalize hE : ev _ _ = z
      have hP : PMb v z := by
        rw [← hE]
        refine hloop _ _ ?_ ?_ ?_ ?_
        · simp (maxSteps := 5000000) only [SA, SB, SD, R, guardAt, binP, intP, indexAddrP, elemsOf, readCells, lenP, lenAt, resultsP, resultP, oneOr, reduceCtorEq, reduceIte, Nat.reduceEqDiff, Nat.reduceAdd, Nat.zero_add, Nat.reduceMul, Nat.reduceLT, Nat.reduceLeDiff, Int.reduceLT, Int.reduceNeg, Int.reduceLE, appendP, appendAt, letGo, setLoc, locVal, Int.reduceToNat, boxCells, und]
        · simp (maxSteps := 5000000) only [SA, SB, SD, R, guardAt, binP, intP, indexAddrP, elemsOf, readCells, lenP, lenAt, resultsP, resultP, oneOr, reduceCtorEq, reduceIte, Nat.reduceEqDiff, Nat.reduceAdd, Nat.zero_add, Nat.reduceMul, Nat.reduceLT, Nat.reduceLeDiff, Int.reduceLT, Int.reduceNeg, Int.reduceLE, appendP, appendAt, letGo, setLoc, locVal, Int.reduceToNat, boxCells, und]
        · simp (maxSteps := 5000000) only [SA, SB, SD, R, guardAt, binP, intP, indexAddrP, elemsOf, readCells, lenP, lenAt, resultsP, resultP, oneOr, reduceCtorEq, reduceIte, Nat.reduceEqDiff, Nat.reduceAdd, Nat.zero_add, Nat.reduceMul, Nat.reduceLT, Nat.reduceLeDiff, Int.reduceLT, Int.reduceNeg, Int.reduceLE, appendP, appendAt, letGo, setLoc, locVal, Int.reduceToNat, boxCells, und]
        · simp (maxSteps := 5000000) only [SA, SB, SD, R, guardAt, binP, intP, indexAddrP, elemsOf, readCells, lenP, lenAt, resultsP, resultP, oneOr, reduceCtorEq, reduceIte, Nat.reduceEqDiff, Nat.reduceAdd, Nat.zero_add, Nat.reduceMul, Nat.reduceLT, Nat.reduceLeDiff, Int.reduceLT, Int.reduceNeg, Int.reduceLE, appendP, appendAt, letGo, setLoc, locVal, Int.reduceToNat, boxCells, und]; rfl
      obtain ⟨e', bx', ⟨hv, he⟩ | ⟨he, g2⟩⟩ := hP
      · subst he
        subst hv
        simp (maxSteps := 5000000) only [SA, SB, SD, R, guardAt, binP, intP, indexAddrP, elemsOf, readCells, lenP, lenAt, resultsP, resultP, oneOr, reduceCtorEq, reduceIte, Nat.reduceEqDiff, Nat.reduceAdd, Nat.zero_add, Nat.reduceMul, Nat.reduceLT, Nat.reduceLeDiff, Int.reduceLT, Int.reduceNeg, Int.reduceLE, appendP, appendAt, letGo, setLoc, locVal, Int.reduceToNat, boxCells, und, TG, SE]
        exact ⟨_, rfl⟩
      · subst he
        simp (maxSteps := 5000000) only [SA, SB, SD, R, guardAt, binP, intP, indexAddrP, elemsOf, readCells, lenP, lenAt, resultsP, resultP, oneOr, reduceCtorEq, reduceIte, Nat.reduceEqDiff, Nat.reduceAdd, Nat.zero_add, Nat.reduceMul, Nat.reduceLT, Nat.reduceLeDiff, Int.reduceLT, Int.reduceNeg, Int.reduceLE, appendP, appendAt, letGo, setLoc, locVal, Int.reduceToNat, boxCells, und, TG, SE, g2]
        exact ⟨_, rfl⟩
theorem op_value_members (l : List (List UInt8)) (hl : l.length ≤ 1000000) (hs : ∀ s ∈ l, s.length ≤ 1000) (bx) : callOp CC (callL CC) 40 [.sl (strs l)] bx = some (.ret (.int .i64 (mbV l)), bx) := by
  obtain ⟨b, h⟩ := call_value_members l hl hs
  exact callOp_of rfl (by simp only [SA, SE, strs_pure, Bool.and_true]) h rfl
end Go.HH
