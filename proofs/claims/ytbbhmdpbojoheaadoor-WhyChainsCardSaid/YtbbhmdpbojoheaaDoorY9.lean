/-
  Logs: Chain in the specification, Why; the law of Chain, Last and Why.
-/
import Derived.Test.YtbbhmdpbojoheaaDoorY8
namespace Go.HH
open Go Go.Proofs
set_option maxRecDepth 100000
set_option maxHeartbeats 4000000
set_option linter.unusedSimpArgs false
set_option linter.unusedVariables false
/-- what the search comes to -/
def PFd (bx : List PBox) (v : Int) (res : Option (Ex × St)) : Prop := ∃ e', (v = -1 ∧ res = some (.exit 0, ⟨e', bx⟩)) ∨ (v ≠ -1 ∧ res = some (.ret, ⟨e', bx⟩) ∧ getT e' 4 = .int .i64 v)
theorem loop_rfd (L : Code) (hL : L = fpart Tryd.f28 [1,0,1,0]) (l : List En) (hl : l.length ≤ maxLen) (no : Int) : ∀ (k i : Nat) (e : List PV) (bx : List PBox), i + k = l.length →
    getT e 0 = .sl (ens l) → getT e 1 = .int .i64 no → getT e 5 = .int .i64 i → PFd bx (fdI (l.drop i) no i) (evL CC L ⟨e, bx⟩) := by
  intro k
  induction k with
  | zero =>
    intro i e bx hi0 e0 e1 e5
    rw [evL_at (fpart Tryd.f28 [1,0,1,0,0]) hL]
    have hi : ¬ ((i : Int) < (l.length : Int)) := by omega
    have hln := ens_length l
    rw [List.drop_eq_nil_of_le (by omega), fdI_nil]
    obtain ⟨tn, hen⟩ := ENs
    obtain ⟨tu, htu⟩ := VLs
    obtain ⟨tk, hky⟩ := KYs
    obtain ⟨tc, hcs⟩ := CSs
    generalize ens l = xs at *
    obtain ⟨ev, eo, so, co, ⟨hev, hco⟩, R⟩ := RULES CC; rw [← hev]
    simp only [fpart, part', Tryd.f28, Option.getD]
    simp (maxSteps := 5000000) only [SA, SB, SD, R, guardAt, binP, intP, indexAddrP, elemsOf, readCells, lenP, lenAt, resultsP, resultP, oneOr, reduceCtorEq, reduceIte, Nat.reduceEqDiff, Nat.reduceAdd, Nat.zero_add, Nat.reduceMul, Nat.reduceLT, Nat.reduceLeDiff, Int.reduceLT, Int.reduceNeg, Int.reduceLE, appendP, appendAt, letGo, setLoc, locVal, Int.reduceToNat, boxCells, und, TG, SE, SC, ENf, List.getElem?_concat_length, List.getElem?_cons_zero, List.getElem?_cons_succ, List.take_nil, unP, hen, htu, hky, hcs, loadR, loadP, storeR, storeK, storeCellsP, laid, lay, setBox, ss1, extP, List.set_cons_zero, List.set_cons_succ, List.length_cons, List.length_nil, Nat.le_refl, Option.map_some, List.take_succ_cons, List.take_zero, List.drop_succ_cons, List.drop_zero, List.drop_nil, List.filter_nil, List.nil_append, List.cons_append, Int.reduceBEq, Int.reduceBNe, Int.reduceGT, Int.reduceGE, Bool.not_true, Bool.not_false, e0, e1, e5, hi, hln]
    exact ⟨_, .inl ⟨rfl, rfl⟩⟩
  | succ k ih =>
    intro i e bx hi0 e0 e1 e5
    rw [evL_at (fpart Tryd.f28 [1,0,1,0,0]) hL]
    have hi : ((i : Int) < (l.length : Int)) := by omega
    have hi0' : ¬ ((i : Int) < 0) := by omega
    have hdr : l.drop i = (l[i]'(by omega)) :: l.drop (i + 1) := List.drop_eq_getElem_cons (by omega)
    have hx := ens_get (l := l) (i := i) (e := l[i]'(by omega)) (List.getElem?_eq_getElem (by omega))
    have hw1 := wrap_i64 (n := (i : Int) + 1) ⟨by omega, by simp only [maxLen] at hl; omega⟩
    have cast1 : ((i + 1 : Nat) : Int) = (i : Int) + 1 := by omega
    have key := fun e bx => ih (i + 1) e bx (by omega)
    rw [cast1] at key
    rw [hdr, fdI_cons]
    have hln := ens_length l
    generalize l[i]'(by omega) = x at *
    generalize fdI (l.drop (i + 1)) no (i + 1) = v at *
    obtain ⟨xno, xtk, xk, xkey, xval, xca, xpar⟩ := x
    unfold enV at hx
    simp only at hx ⊢
    generalize ens l = xs at *
    obtain ⟨tn, hen⟩ := ENs
    obtain ⟨tu, htu⟩ := VLs
    obtain ⟨tk, hky⟩ := KYs
    obtain ⟨tc, hcs⟩ := CSs
    by_cases c1 : xno = no
    · rw [if_pos c1]
      have c1p : (xno == no) = true := by simpa using c1
      obtain ⟨ev, eo, so, co, ⟨hev, hco⟩, R⟩ := RULES CC; rw [← hev]
      simp only [fpart, part', Tryd.f28, Option.getD]
      simp (maxSteps := 5000000) only [SA, SB, SD, R, guardAt, binP, intP, indexAddrP, elemsOf, readCells, lenP, lenAt, resultsP, resultP, oneOr, reduceCtorEq, reduceIte, Nat.reduceEqDiff, Nat.reduceAdd, Nat.zero_add, Nat.reduceMul, Nat.reduceLT, Nat.reduceLeDiff, Int.reduceLT, Int.reduceNeg, Int.reduceLE, appendP, appendAt, letGo, setLoc, locVal, Int.reduceToNat, boxCells, und, TG, SE, SC, ENf, List.getElem?_concat_length, List.getElem?_cons_zero, List.getElem?_cons_succ, List.take_nil, unP, hen, htu, hky, hcs, loadR, loadP, storeR, storeK, storeCellsP, laid, lay, setBox, ss1, extP, List.set_cons_zero, List.set_cons_succ, List.length_cons, List.length_nil, Nat.le_refl, Option.map_some, List.take_succ_cons, List.take_zero, List.drop_succ_cons, List.drop_zero, List.drop_nil, List.filter_nil, List.nil_append, List.cons_append, Int.reduceBEq, Int.reduceBNe, Int.reduceGT, Int.reduceGE, Bool.not_true, Bool.not_false, e0, e1, e5, hi, hi0', hx, hln, c1p]
      exact ⟨_, .inr ⟨by omega, rfl, by simp (maxSteps := 5000000) only [SA, SB, SD, R, guardAt, binP, intP, indexAddrP, elemsOf, readCells, lenP, lenAt, resultsP, resultP, oneOr, reduceCtorEq, reduceIte, Nat.reduceEqDiff, Nat.reduceAdd, Nat.zero_add, Nat.reduceMul, Nat.reduceLT, Nat.reduceLeDiff, Int.reduceLT, Int.reduceNeg, Int.reduceLE, appendP, appendAt, letGo, setLoc, locVal, Int.reduceToNat, boxCells, und, e5]⟩⟩
    · rw [if_neg c1]
      have c1p : (xno == no) = false := by simpa using c1
      obtain ⟨ev, eo, so, co, ⟨hev, hco⟩, R⟩ := RULES CC; rw [← hev]
      rw [← hev] at key
      simp only [fpart, part', Tryd.f28, Option.getD]
      simp (maxSteps := 5000000) only [SA, SB, SD, R, guardAt, binP, intP, indexAddrP, elemsOf, readCells, lenP, lenAt, resultsP, resultP, oneOr, reduceCtorEq, reduceIte, Nat.reduceEqDiff, Nat.reduceAdd, Nat.zero_add, Nat.reduceMul, Nat.reduceLT, Nat.reduceLeDiff, Int.reduceLT, Int.reduceNeg, Int.reduceLE, appendP, appendAt, letGo, setLoc, locVal, Int.reduceToNat, boxCells, und, TG, SE, SC, ENf, List.getElem?_concat_length, List.getElem?_cons_zero, List.getElem?_cons_succ, List.take_nil, unP, hen, htu, hky, hcs, loadR, loadP, storeR, storeK, storeCellsP, laid, lay, setBox, ss1, extP, List.set_cons_zero, List.set_cons_succ, List.length_cons, List.length_nil, Nat.le_refl, Option.map_some, List.take_succ_cons, List.take_zero, List.drop_succ_cons, List.drop_zero, List.drop_nil, List.filter_nil, List.nil_append, List.cons_append, Int.reduceBEq, Int.reduceBNe, Int.reduceGT, Int.reduceGE, Bool.not_true, Bool.not_false, e0, e1, e5, hi, hi0', hx, hln, c1p, hw1]
      refine key _ _ ?_ ?_ ?_
      all_goals simp (maxSteps := 5000000) only [SA, SB, SD, R, guardAt, binP, intP, indexAddrP, elemsOf, readCells, lenP, lenAt, resultsP, resultP, oneOr, reduceCtorEq, reduceIte, Nat.reduceEqDiff, Nat.reduceAdd, Nat.zero_add, Nat.reduceMul, Nat.reduceLT, Nat.reduceLeDiff, Int.reduceLT, Int.reduceNeg, Int.reduceLE, appendP, appendAt, letGo, setLoc, locVal, Int.reduceToNat, boxCells, und, e0, e1, e5]
theorem call_R56_find (l : List En) (hl : l.length ≤ maxLen) (no : Int) : ∃ bx, callL CC 28 [.sl (ens l), .int .i64 no] [] = some (.ret (.int .i64 (fdI l no 0)), bx) := by
  have hloop := fun e bx => loop_rfd _ rfl l hl no l.length 0 e bx (by omega)
  have hln := ens_length l
  rw [List.drop_zero] at hloop
  generalize fdI l no 0 = v at *
  obtain ⟨tn, hen⟩ := ENs
  obtain ⟨tu, htu⟩ := VLs
  obtain ⟨tk, hky⟩ := KYs
  obtain ⟨tc, hcs⟩ := CSs
  rw [callL_enter (fn := Tryd.f28) (c := Tryd.f28.body.getD .skip) rfl rfl fat_R56_find rfl ok_R56_find (Nat.le_of_ble_eq_true rfl)]
  generalize ens l = xs at *
  obtain ⟨ev, eo, so, co, ⟨hev, hco⟩, R⟩ := RULES CC; rw [← hev]
  rw [← hev] at hloop
  simp only [fpart, part', Tryd.f28, Option.getD] at hloop ⊢
  simp (maxSteps := 5000000) only [SA, SB, SD, R, guardAt, binP, intP, indexAddrP, elemsOf, readCells, lenP, lenAt, resultsP, resultP, oneOr, reduceCtorEq, reduceIte, Nat.reduceEqDiff, Nat.reduceAdd, Nat.zero_add, Nat.reduceMul, Nat.reduceLT, Nat.reduceLeDiff, Int.reduceLT, Int.reduceNeg, Int.reduceLE, appendP, appendAt, letGo, setLoc, locVal, Int.reduceToNat, boxCells, und, TG, SE, SC, ENf, List.getElem?_concat_length, List.getElem?_cons_zero, List.getElem?_cons_succ, List.take_nil, unP, hen, htu, hky, hcs, loadR, loadP, storeR, storeK, storeCellsP, laid, lay, setBox, ss1, extP, List.set_cons_zero, List.set_cons_succ, List.length_cons, List.length_nil, Nat.le_refl, Option.map_some, List.take_succ_cons, List.take_zero, List.drop_succ_cons, List.drop_zero, List.drop_nil, List.filter_nil, List.nil_append, List.cons_append, Int.reduceBEq, Int.reduceBNe, Int.reduceGT, Int.reduceGE, Bool.not_true, Bool.not_false, hln]
  generalize hE : ev (Code.loop _) _ = z
  have hP : PFd [] v z := by
    rw [← hE]
    refine hloop _ _ ?_ ?_ ?_
    all_goals first | (simp (maxSteps := 5000000) only [SA, SB, SD, R, guardAt, binP, intP, indexAddrP, elemsOf, readCells, lenP, lenAt, resultsP, resultP, oneOr, reduceCtorEq, reduceIte, Nat.reduceEqDiff, Nat.reduceAdd, Nat.zero_add, Nat.reduceMul, Nat.reduceLT, Nat.reduceLeDiff, Int.reduceLT, Int.reduceNeg, Int.reduceLE, appendP, appendAt, letGo, setLoc, locVal, Int.reduceToNat, boxCells, und]; done) | (simp (maxSteps := 5000000) only [SA, SB, SD, R, guardAt, binP, intP, indexAddrP, elemsOf, readCells, lenP, lenAt, resultsP, resultP, oneOr, reduceCtorEq, reduceIte, Nat.reduceEqDiff, Nat.reduceAdd, Nat.zero_add, Nat.reduceMul, Nat.reduceLT, Nat.reduceLeDiff, Int.reduceLT, Int.reduceNeg, Int.reduceLE, appendP, appendAt, letGo, setLoc, locVal, Int.reduceToNat, boxCells, und]; rfl)
  obtain ⟨e', ⟨hv, he⟩ | ⟨hv, he, q⟩⟩ := hP
  · subst he hv
    simp (maxSteps := 5000000) only [SA, SB, SD, R, guardAt, binP, intP, indexAddrP, elemsOf, readCells, lenP, lenAt, resultsP, resultP, oneOr, reduceCtorEq, reduceIte, Nat.reduceEqDiff, Nat.reduceAdd, Nat.zero_add, Nat.reduceMul, Nat.reduceLT, Nat.reduceLeDiff, Int.reduceLT, Int.reduceNeg, Int.reduceLE, appendP, appendAt, letGo, setLoc, locVal, Int.reduceToNat, boxCells, und, TG, SE, SC, ENf, List.getElem?_concat_length, List.getElem?_cons_zero, List.getElem?_cons_succ, List.take_nil, unP, hen, htu, hky, hcs, loadR, loadP, storeR, storeK, storeCellsP, laid, lay, setBox, ss1, extP, List.set_cons_zero, List.set_cons_succ, List.length_cons, List.length_nil, Nat.le_refl, Option.map_some, List.take_succ_cons, List.take_zero, List.drop_succ_cons, List.drop_zero, List.drop_nil, List.filter_nil, List.nil_append, List.cons_append, Int.reduceBEq, Int.reduceBNe, Int.reduceGT, Int.reduceGE, Bool.not_true, Bool.not_false, hln]
    exact ⟨_, rfl⟩
  · subst he
    simp (maxSteps := 5000000) only [SA, SB, SD, R, guardAt, binP, intP, indexAddrP, elemsOf, readCells, lenP, lenAt, resultsP, resultP, oneOr, reduceCtorEq, reduceIte, Nat.reduceEqDiff, Nat.reduceAdd, Nat.zero_add, Nat.reduceMul, Nat.reduceLT, Nat.reduceLeDiff, Int.reduceLT, Int.reduceNeg, Int.reduceLE, appendP, appendAt, letGo, setLoc, locVal, Int.reduceToNat, boxCells, und, TG, SE, SC, ENf, List.getElem?_concat_length, List.getElem?_cons_zero, List.getElem?_cons_succ, List.take_nil, unP, hen, htu, hky, hcs, loadR, loadP, storeR, storeK, storeCellsP, laid, lay, setBox, ss1, extP, List.set_cons_zero, List.set_cons_succ, List.length_cons, List.length_nil, Nat.le_refl, Option.map_some, List.take_succ_cons, List.take_zero, List.drop_succ_cons, List.drop_zero, List.drop_nil, List.filter_nil, List.nil_append, List.cons_append, Int.reduceBEq, Int.reduceBNe, Int.reduceGT, Int.reduceGE, Bool.not_true, Bool.not_false, q]
    exact ⟨_, rfl⟩
theorem op_R56_find (l : List En) (hl : l.length ≤ maxLen) (no : Int) (bx) : callOp CC (callL CC) 28 [.sl (ens l), .int .i64 no] bx = some (.ret (.int .i64 (fdI l no 0)), bx) := by
  obtain ⟨b, h⟩ := call_R56_find l hl no
  exact callOp_of rfl (by simp only [pureL, PV.pure, ens_pure, Bool.and_self]) h rfl
/-- what the walk up comes to -/
def PCh (bx : List PBox) (v : List PV) (res : Option (Ex × St)) : Prop := ∃ e' ex, (res = some (.exit 0, ⟨e', bx ++ ex⟩) ∧ getT e' 5 = .osl 34 v) ∨ (res = some (.ret, ⟨e', bx ++ ex⟩) ∧ getT e' 4 = .sl v)
theorem PCh.app {bx : List PBox} {x : PBox} {v : List PV} {res : Option (Ex × St)} (h : PCh (bx ++ [x]) v res) : PCh bx v res := by
  obtain ⟨e', ex, h⟩ := h
  refine ⟨e', [x] ++ ex, ?_⟩
  rw [← List.append_assoc]
  exact h
theorem loop_rch (L : Code) (hL : L = fpart Tryd.f16 [1,1,1,0,0]) (l : List En) (hs : smL l) : ∀ (m : Nat) (no : Int) (acc : List En) (e : List PV) (bx : List PBox), no.toNat ≤ m → acc.length + (chT l no).length ≤ l.length →
    getT e 0 = .sl (ens l) → getT e 6 = .int .i64 (fdI l no 0) → getT e 5 = .osl 34 (ens acc) → PCh bx (ens (acc ++ chT l no)) (evL CC L ⟨e, bx⟩) := by
  have hl := smL_max hs
  intro m
  induction m with
  | zero =>
    intro no acc e bx hm hac e0 e6 e5
    rw [evL_at (fpart Tryd.f16 [1,1,1,0,0,0]) hL]
    have hln := ens_length l
    obtain ⟨tn, hen⟩ := ENs
    obtain ⟨tu, htu⟩ := VLs
    obtain ⟨tk, hky⟩ := KYs
    obtain ⟨tc, hcs⟩ := CSs
    rcases fdI_get (l := l) (no := no) with ⟨hf, hnone⟩ | ⟨j, x, hf, hje, hno, hjl, hfind⟩
    · rw [hf] at e6
      rw [chT_none hnone, List.append_nil]
      generalize ens l = xs at *
      generalize ens acc = ys at *
      obtain ⟨ev, eo, so, co, ⟨hev, hco⟩, R⟩ := RULES CC; rw [← hev]
      simp only [fpart, part', Tryd.f16, Option.getD]
      simp (maxSteps := 5000000) only [SA, SB, SD, R, guardAt, binP, intP, indexAddrP, elemsOf, readCells, lenP, lenAt, resultsP, resultP, oneOr, reduceCtorEq, reduceIte, Nat.reduceEqDiff, Nat.reduceAdd, Nat.zero_add, Nat.reduceMul, Nat.reduceLT, Nat.reduceLeDiff, Int.reduceLT, Int.reduceNeg, Int.reduceLE, appendP, appendAt, letGo, setLoc, locVal, Int.reduceToNat, boxCells, und, TG, SE, SC, ENf, List.getElem?_concat_length, List.getElem?_cons_zero, List.getElem?_cons_succ, List.take_nil, unP, hen, htu, hky, hcs, loadR, loadP, storeR, storeK, storeCellsP, laid, lay, setBox, ss1, extP, List.set_cons_zero, List.set_cons_succ, List.length_cons, List.length_nil, Nat.le_refl, Option.map_some, List.take_succ_cons, List.take_zero, List.drop_succ_cons, List.drop_zero, List.drop_nil, List.filter_nil, List.nil_append, List.cons_append, Int.reduceBEq, Int.reduceBNe, Int.reduceGT, Int.reduceGE, Bool.not_true, Bool.not_false, e0, e6, e5]
      exact ⟨_, [], .inl ⟨by rw [List.append_nil], by simp (maxSteps := 5000000) only [SA, SB, SD, R, guardAt, binP, intP, indexAddrP, elemsOf, readCells, lenP, lenAt, resultsP, resultP, oneOr, reduceCtorEq, reduceIte, Nat.reduceEqDiff, Nat.reduceAdd, Nat.zero_add, Nat.reduceMul, Nat.reduceLT, Nat.reduceLeDiff, Int.reduceLT, Int.reduceNeg, Int.reduceLE, appendP, appendAt, letGo, setLoc, locVal, Int.reduceToNat, boxCells, und, e5]⟩⟩
    · rw [hf] at e6
      have hj0 : ¬ ((j : Int) < 0) := by omega
      have hj1 : ((j : Int) ≥ 0) := by omega
      have hj2 : (j : Int) < (l.length : Int) := by omega
      rw [chT_stop hfind (by omega)] at hac ⊢
      have hx := ens_get hje
      have hap : ens (acc ++ [x]) = ens acc ++ [enV x] := by rw [ens_append]; rfl
      have hapk := fun st al lo d => apK_en (st := st) (al := al) (l := lo) (d := d) (xs := ens acc) (ys := [enV x]) (by rw [ens_length]; unfold smL at hs; simp only [List.length_singleton] at hac ⊢; omega) rfl
      rw [hap]
      obtain ⟨xno, xtk, xk, xkey, xval, xca, xpar⟩ := x
      unfold enV at hx hapk ⊢
      simp only at hx hapk hno ⊢
      generalize ens l = xs at *
      generalize ens acc = ys at *
      by_cases p1 : xpar < 1
      · apply PCh.app
        obtain ⟨ev, eo, so, co, ⟨hev, hco⟩, R⟩ := RULES CC; rw [← hev]
        simp only [fpart, part', Tryd.f16, Option.getD]
        simp (maxSteps := 5000000) only [SA, SB, SD, R, guardAt, binP, intP, indexAddrP, elemsOf, readCells, lenP, lenAt, resultsP, resultP, oneOr, reduceCtorEq, reduceIte, Nat.reduceEqDiff, Nat.reduceAdd, Nat.zero_add, Nat.reduceMul, Nat.reduceLT, Nat.reduceLeDiff, Int.reduceLT, Int.reduceNeg, Int.reduceLE, appendP, appendAt, letGo, setLoc, locVal, Int.reduceToNat, boxCells, und, TG, SE, SC, ENf, List.getElem?_concat_length, List.getElem?_cons_zero, List.getElem?_cons_succ, List.take_nil, unP, hen, htu, hky, hcs, loadR, loadP, storeR, storeK, storeCellsP, laid, lay, setBox, ss1, apEn, bsEn, extP, List.set_cons_zero, List.set_cons_succ, List.length_cons, List.length_nil, Nat.le_refl, Option.map_some, List.take_succ_cons, List.take_zero, List.drop_succ_cons, List.drop_zero, List.drop_nil, List.filter_nil, List.nil_append, List.cons_append, Int.reduceBEq, Int.reduceBNe, Int.reduceGT, Int.reduceGE, Bool.not_true, Bool.not_false, e0, e6, e5, hj0, hj1, hj2, hx, hln, hapk, p1]
        exact ⟨_, [], .inr ⟨by rw [List.append_nil], by simp (maxSteps := 5000000) only [SA, SB, SD, R, guardAt, binP, intP, indexAddrP, elemsOf, readCells, lenP, lenAt, resultsP, resultP, oneOr, reduceCtorEq, reduceIte, Nat.reduceEqDiff, Nat.reduceAdd, Nat.zero_add, Nat.reduceMul, Nat.reduceLT, Nat.reduceLeDiff, Int.reduceLT, Int.reduceNeg, Int.reduceLE, appendP, appendAt, letGo, setLoc, locVal, Int.reduceToNat, boxCells, und]⟩⟩
      · have p2 : xpar ≥ xno := by omega
        apply PCh.app
        obtain ⟨ev, eo, so, co, ⟨hev, hco⟩, R⟩ := RULES CC; rw [← hev]
        simp only [fpart, part', Tryd.f16, Option.getD]
        simp (maxSteps := 5000000) only [SA, SB, SD, R, guardAt, binP, intP, indexAddrP, elemsOf, readCells, lenP, lenAt, resultsP, resultP, oneOr, reduceCtorEq, reduceIte, Nat.reduceEqDiff, Nat.reduceAdd, Nat.zero_add, Nat.reduceMul, Nat.reduceLT, Nat.reduceLeDiff, Int.reduceLT, Int.reduceNeg, Int.reduceLE, appendP, appendAt, letGo, setLoc, locVal, Int.reduceToNat, boxCells, und, TG, SE, SC, ENf, List.getElem?_concat_length, List.getElem?_cons_zero, List.getElem?_cons_succ, List.take_nil, unP, hen, htu, hky, hcs, loadR, loadP, storeR, storeK, storeCellsP, laid, lay, setBox, ss1, apEn, bsEn, extP, List.set_cons_zero, List.set_cons_succ, List.length_cons, List.length_nil, Nat.le_refl, Option.map_some, List.take_succ_cons, List.take_zero, List.drop_succ_cons, List.drop_zero, List.drop_nil, List.filter_nil, List.nil_append, List.cons_append, Int.reduceBEq, Int.reduceBNe, Int.reduceGT, Int.reduceGE, Bool.not_true, Bool.not_false, e0, e6, e5, hj0, hj1, hj2, hx, hln, hapk, p1, p2]
        exact ⟨_, [], .inr ⟨by rw [List.append_nil], by simp (maxSteps := 5000000) only [SA, SB, SD, R, guardAt, binP, intP, indexAddrP, elemsOf, readCells, lenP, lenAt, resultsP, resultP, oneOr, reduceCtorEq, reduceIte, Nat.reduceEqDiff, Nat.reduceAdd, Nat.zero_add, Nat.reduceMul, Nat.reduceLT, Nat.reduceLeDiff, Int.reduceLT, Int.reduceNeg, Int.reduceLE, appendP, appendAt, letGo, setLoc, locVal, Int.reduceToNat, boxCells, und]⟩⟩
  | succ m ih =>
    intro no acc e bx hm hac e0 e6 e5
    rw [evL_at (fpart Tryd.f16 [1,1,1,0,0,0]) hL]
    have hln := ens_length l
    obtain ⟨tn, hen⟩ := ENs
    obtain ⟨tu, htu⟩ := VLs
    obtain ⟨tk, hky⟩ := KYs
    obtain ⟨tc, hcs⟩ := CSs
    rcases fdI_get (l := l) (no := no) with ⟨hf, hnone⟩ | ⟨j, x, hf, hje, hno, hjl, hfind⟩
    · rw [hf] at e6
      rw [chT_none hnone, List.append_nil]
      generalize ens l = xs at *
      generalize ens acc = ys at *
      obtain ⟨ev, eo, so, co, ⟨hev, hco⟩, R⟩ := RULES CC; rw [← hev]
      simp only [fpart, part', Tryd.f16, Option.getD]
      simp (maxSteps := 5000000) only [SA, SB, SD, R, guardAt, binP, intP, indexAddrP, elemsOf, readCells, lenP, lenAt, resultsP, resultP, oneOr, reduceCtorEq, reduceIte, Nat.reduceEqDiff, Nat.reduceAdd, Nat.zero_add, Nat.reduceMul, Nat.reduceLT, Nat.reduceLeDiff, Int.reduceLT, Int.reduceNeg, Int.reduceLE, appendP, appendAt, letGo, setLoc, locVal, Int.reduceToNat, boxCells, und, TG, SE, SC, ENf, List.getElem?_concat_length, List.getElem?_cons_zero, List.getElem?_cons_succ, List.take_nil, unP, hen, htu, hky, hcs, loadR, loadP, storeR, storeK, storeCellsP, laid, lay, setBox, ss1, extP, List.set_cons_zero, List.set_cons_succ, List.length_cons, List.length_nil, Nat.le_refl, Option.map_some, List.take_succ_cons, List.take_zero, List.drop_succ_cons, List.drop_zero, List.drop_nil, List.filter_nil, List.nil_append, List.cons_append, Int.reduceBEq, Int.reduceBNe, Int.reduceGT, Int.reduceGE, Bool.not_true, Bool.not_false, e0, e6, e5]
      exact ⟨_, [], .inl ⟨by rw [List.append_nil], by simp (maxSteps := 5000000) only [SA, SB, SD, R, guardAt, binP, intP, indexAddrP, elemsOf, readCells, lenP, lenAt, resultsP, resultP, oneOr, reduceCtorEq, reduceIte, Nat.reduceEqDiff, Nat.reduceAdd, Nat.zero_add, Nat.reduceMul, Nat.reduceLT, Nat.reduceLeDiff, Int.reduceLT, Int.reduceNeg, Int.reduceLE, appendP, appendAt, letGo, setLoc, locVal, Int.reduceToNat, boxCells, und, e5]⟩⟩
    · rw [hf] at e6
      have hj0 : ¬ ((j : Int) < 0) := by omega
      have hj1 : ((j : Int) ≥ 0) := by omega
      have hj2 : (j : Int) < (l.length : Int) := by omega
      have hx := ens_get hje
      have hap : ens (acc ++ [x]) = ens acc ++ [enV x] := by rw [ens_append]; rfl
      by_cases hs1 : x.par < 1 ∨ x.no ≤ x.par
      · rw [chT_stop hfind hs1] at hac ⊢
        have hapk := fun st al lo d => apK_en (st := st) (al := al) (l := lo) (d := d) (xs := ens acc) (ys := [enV x]) (by rw [ens_length]; unfold smL at hs; simp only [List.length_singleton] at hac ⊢; omega) rfl
        rw [hap]
        obtain ⟨xno, xtk, xk, xkey, xval, xca, xpar⟩ := x
        unfold enV at hx hapk ⊢
        simp only at hx hapk hno hs1 ⊢
        generalize ens l = xs at *
        generalize ens acc = ys at *
        by_cases p1 : xpar < 1
        · apply PCh.app
          obtain ⟨ev, eo, so, co, ⟨hev, hco⟩, R⟩ := RULES CC; rw [← hev]
          simp only [fpart, part', Tryd.f16, Option.getD]
          simp (maxSteps := 5000000) only [SA, SB, SD, R, guardAt, binP, intP, indexAddrP, elemsOf, readCells, lenP, lenAt, resultsP, resultP, oneOr, reduceCtorEq, reduceIte, Nat.reduceEqDiff, Nat.reduceAdd, Nat.zero_add, Nat.reduceMul, Nat.reduceLT, Nat.reduceLeDiff, Int.reduceLT, Int.reduceNeg, Int.reduceLE, appendP, appendAt, letGo, setLoc, locVal, Int.reduceToNat, boxCells, und, TG, SE, SC, ENf, List.getElem?_concat_length, List.getElem?_cons_zero, List.getElem?_cons_succ, List.take_nil, unP, hen, htu, hky, hcs, loadR, loadP, storeR, storeK, storeCellsP, laid, lay, setBox, ss1, apEn, bsEn, extP, List.set_cons_zero, List.set_cons_succ, List.length_cons, List.length_nil, Nat.le_refl, Option.map_some, List.take_succ_cons, List.take_zero, List.drop_succ_cons, List.drop_zero, List.drop_nil, List.filter_nil, List.nil_append, List.cons_append, Int.reduceBEq, Int.reduceBNe, Int.reduceGT, Int.reduceGE, Bool.not_true, Bool.not_false, e0, e6, e5, hj0, hj1, hj2, hx, hln, hapk, p1]
          exact ⟨_, [], .inr ⟨by rw [List.append_nil], by simp (maxSteps := 5000000) only [SA, SB, SD, R, guardAt, binP, intP, indexAddrP, elemsOf, readCells, lenP, lenAt, resultsP, resultP, oneOr, reduceCtorEq, reduceIte, Nat.reduceEqDiff, Nat.reduceAdd, Nat.zero_add, Nat.reduceMul, Nat.reduceLT, Nat.reduceLeDiff, Int.reduceLT, Int.reduceNeg, Int.reduceLE, appendP, appendAt, letGo, setLoc, locVal, Int.reduceToNat, boxCells, und]⟩⟩
        · have p2 : xpar ≥ xno := by omega
          apply PCh.app
          obtain ⟨ev, eo, so, co, ⟨hev, hco⟩, R⟩ := RULES CC; rw [← hev]
          simp only [fpart, part', Tryd.f16, Option.getD]
          simp (maxSteps := 5000000) only [SA, SB, SD, R, guardAt, binP, intP, indexAddrP, elemsOf, readCells, lenP, lenAt, resultsP, resultP, oneOr, reduceCtorEq, reduceIte, Nat.reduceEqDiff, Nat.reduceAdd, Nat.zero_add, Nat.reduceMul, Nat.reduceLT, Nat.reduceLeDiff, Int.reduceLT, Int.reduceNeg, Int.reduceLE, appendP, appendAt, letGo, setLoc, locVal, Int.reduceToNat, boxCells, und, TG, SE, SC, ENf, List.getElem?_concat_length, List.getElem?_cons_zero, List.getElem?_cons_succ, List.take_nil, unP, hen, htu, hky, hcs, loadR, loadP, storeR, storeK, storeCellsP, laid, lay, setBox, ss1, apEn, bsEn, extP, List.set_cons_zero, List.set_cons_succ, List.length_cons, List.length_nil, Nat.le_refl, Option.map_some, List.take_succ_cons, List.take_zero, List.drop_succ_cons, List.drop_zero, List.drop_nil, List.filter_nil, List.nil_append, List.cons_append, Int.reduceBEq, Int.reduceBNe, Int.reduceGT, Int.reduceGE, Bool.not_true, Bool.not_false, e0, e6, e5, hj0, hj1, hj2, hx, hln, hapk, p1, p2]
          exact ⟨_, [], .inr ⟨by rw [List.append_nil], by simp (maxSteps := 5000000) only [SA, SB, SD, R, guardAt, binP, intP, indexAddrP, elemsOf, readCells, lenP, lenAt, resultsP, resultP, oneOr, reduceCtorEq, reduceIte, Nat.reduceEqDiff, Nat.reduceAdd, Nat.zero_add, Nat.reduceMul, Nat.reduceLT, Nat.reduceLeDiff, Int.reduceLT, Int.reduceNeg, Int.reduceLE, appendP, appendAt, letGo, setLoc, locVal, Int.reduceToNat, boxCells, und]⟩⟩
      · rw [chT_go hfind hs1] at hac ⊢
        have hapk := fun st al lo d => apK_en (st := st) (al := al) (l := lo) (d := d) (xs := ens acc) (ys := [enV x]) (by rw [ens_length]; unfold smL at hs; simp only [List.length_singleton, List.length_cons, List.length_nil] at hac ⊢; omega) rfl
        have key := fun e bx => ih x.par (acc ++ [x]) e bx (by omega) (by simp only [List.length_append, List.length_singleton, List.length_cons, List.length_nil] at hac ⊢; omega)
        have hop := op_R56_find l hl x.par
        have hgl : acc ++ x :: chT l x.par = acc ++ [x] ++ chT l x.par := by simp
        rw [hgl]
        rw [hap] at key
        generalize acc ++ [x] ++ chT l x.par = rest at *
        generalize fdI l x.par 0 = fx at *
        obtain ⟨xno, xtk, xk, xkey, xval, xca, xpar⟩ := x
        unfold enV at hx hapk key
        simp only at hx hapk key hop hno hs1
        have p1 : ¬ (xpar < 1) := by omega
        have p2 : ¬ (xpar ≥ xno) := by omega
        clear hf hje hjl hfind hac hgl hap
        generalize ens l = xs at *
        generalize ens acc = ys at *
        apply PCh.app
        obtain ⟨ev, eo, so, co, ⟨hev, hco⟩, R⟩ := RULES CC; rw [← hev]
        rw [← hev] at key
        rw [← hco] at hop
        simp only [fpart, part', Tryd.f16, Option.getD]
        simp (maxSteps := 5000000) only [SA, SB, SD, R, guardAt, binP, intP, indexAddrP, elemsOf, readCells, lenP, lenAt, resultsP, resultP, oneOr, reduceCtorEq, reduceIte, Nat.reduceEqDiff, Nat.reduceAdd, Nat.zero_add, Nat.reduceMul, Nat.reduceLT, Nat.reduceLeDiff, Int.reduceLT, Int.reduceNeg, Int.reduceLE, appendP, appendAt, letGo, setLoc, locVal, Int.reduceToNat, boxCells, und, TG, SE, SC, ENf, List.getElem?_concat_length, List.getElem?_cons_zero, List.getElem?_cons_succ, List.take_nil, unP, hen, htu, hky, hcs, loadR, loadP, storeR, storeK, storeCellsP, laid, lay, setBox, ss1, apEn, bsEn, extP, List.set_cons_zero, List.set_cons_succ, List.length_cons, List.length_nil, Nat.le_refl, Option.map_some, List.take_succ_cons, List.take_zero, List.drop_succ_cons, List.drop_zero, List.drop_nil, List.filter_nil, List.nil_append, List.cons_append, Int.reduceBEq, Int.reduceBNe, Int.reduceGT, Int.reduceGE, Bool.not_true, Bool.not_false, e0, e6, e5, hj0, hj1, hj2, hx, hln, hapk, hop, p1, p2]
        refine key _ _ ?_ ?_ ?_
        all_goals simp (maxSteps := 5000000) only [SA, SB, SD, R, guardAt, binP, intP, indexAddrP, elemsOf, readCells, lenP, lenAt, resultsP, resultP, oneOr, reduceCtorEq, reduceIte, Nat.reduceEqDiff, Nat.reduceAdd, Nat.zero_add, Nat.reduceMul, Nat.reduceLT, Nat.reduceLeDiff, Int.reduceLT, Int.reduceNeg, Int.reduceLE, appendP, appendAt, letGo, setLoc, locVal, Int.reduceToNat, boxCells, und, e0, e6, e5]
theorem call_R56_Chain (l : List En) (hs : smL l) (no : Int) : ∃ bx, callL CC 16 [.sl (ens l), .int .i64 no] [] = some (.ret (.sl (ens (chT l no))), bx) := by
  have hloop := fun e bx => loop_rch _ rfl l hs no.toNat no [] e bx (Nat.le_refl _) (by have := chT_length l no; simp; omega)
  have hop := op_R56_find l (smL_max hs) no
  have hln := ens_length l
  rw [List.nil_append] at hloop
  have hnil : nilV CC 22 = .osl 34 [] := by kernel_rfl
  generalize fdI l no 0 = v at *
  generalize ens (chT l no) = ys at *
  obtain ⟨tn, hen⟩ := ENs
  obtain ⟨tu, htu⟩ := VLs
  obtain ⟨tk, hky⟩ := KYs
  obtain ⟨tc, hcs⟩ := CSs
  rw [callL_enter (fn := Tryd.f16) (c := Tryd.f16.body.getD .skip) rfl rfl fat_R56_Chain rfl ok_R56_Chain (Nat.le_of_ble_eq_true rfl)]
  generalize ens l = xs at *
  obtain ⟨ev, eo, so, co, ⟨hev, hco⟩, R⟩ := RULES CC; rw [← hev]
  rw [← hev] at hloop
  rw [← hco] at hop
  simp only [fpart, part', Tryd.f16, Option.getD] at hloop ⊢
  simp (maxSteps := 5000000) only [SA, SB, SD, R, guardAt, binP, intP, indexAddrP, elemsOf, readCells, lenP, lenAt, resultsP, resultP, oneOr, reduceCtorEq, reduceIte, Nat.reduceEqDiff, Nat.reduceAdd, Nat.zero_add, Nat.reduceMul, Nat.reduceLT, Nat.reduceLeDiff, Int.reduceLT, Int.reduceNeg, Int.reduceLE, appendP, appendAt, letGo, setLoc, locVal, Int.reduceToNat, boxCells, und, TG, SE, SC, ENf, List.getElem?_concat_length, List.getElem?_cons_zero, List.getElem?_cons_succ, List.take_nil, unP, hen, htu, hky, hcs, loadR, loadP, storeR, storeK, storeCellsP, laid, lay, setBox, ss1, extP, List.set_cons_zero, List.set_cons_succ, List.length_cons, List.length_nil, Nat.le_refl, Option.map_some, List.take_succ_cons, List.take_zero, List.drop_succ_cons, List.drop_zero, List.drop_nil, List.filter_nil, List.nil_append, List.cons_append, Int.reduceBEq, Int.reduceBNe, Int.reduceGT, Int.reduceGE, Bool.not_true, Bool.not_false, hln, hnil, hop]
  generalize hE : ev (Code.loop _) _ = z
  have hP : PCh [] ys z := by
    rw [← hE]
    refine hloop _ _ ?_ ?_ ?_
    all_goals first | (simp (maxSteps := 5000000) only [SA, SB, SD, R, guardAt, binP, intP, indexAddrP, elemsOf, readCells, lenP, lenAt, resultsP, resultP, oneOr, reduceCtorEq, reduceIte, Nat.reduceEqDiff, Nat.reduceAdd, Nat.zero_add, Nat.reduceMul, Nat.reduceLT, Nat.reduceLeDiff, Int.reduceLT, Int.reduceNeg, Int.reduceLE, appendP, appendAt, letGo, setLoc, locVal, Int.reduceToNat, boxCells, und]; done) | (simp (maxSteps := 5000000) only [SA, SB, SD, R, guardAt, binP, intP, indexAddrP, elemsOf, readCells, lenP, lenAt, resultsP, resultP, oneOr, reduceCtorEq, reduceIte, Nat.reduceEqDiff, Nat.reduceAdd, Nat.zero_add, Nat.reduceMul, Nat.reduceLT, Nat.reduceLeDiff, Int.reduceLT, Int.reduceNeg, Int.reduceLE, appendP, appendAt, letGo, setLoc, locVal, Int.reduceToNat, boxCells, und]; rfl)
  obtain ⟨e', ex, ⟨he, q⟩ | ⟨he, q⟩⟩ := hP
  · subst he
    simp (maxSteps := 5000000) only [SA, SB, SD, R, guardAt, binP, intP, indexAddrP, elemsOf, readCells, lenP, lenAt, resultsP, resultP, oneOr, reduceCtorEq, reduceIte, Nat.reduceEqDiff, Nat.reduceAdd, Nat.zero_add, Nat.reduceMul, Nat.reduceLT, Nat.reduceLeDiff, Int.reduceLT, Int.reduceNeg, Int.reduceLE, appendP, appendAt, letGo, setLoc, locVal, Int.reduceToNat, boxCells, und, TG, SE, SC, ENf, List.getElem?_concat_length, List.getElem?_cons_zero, List.getElem?_cons_succ, List.take_nil, unP, hen, htu, hky, hcs, loadR, loadP, storeR, storeK, storeCellsP, laid, lay, setBox, ss1, extP, List.set_cons_zero, List.set_cons_succ, List.length_cons, List.length_nil, Nat.le_refl, Option.map_some, List.take_succ_cons, List.take_zero, List.drop_succ_cons, List.drop_zero, List.drop_nil, List.filter_nil, List.nil_append, List.cons_append, Int.reduceBEq, Int.reduceBNe, Int.reduceGT, Int.reduceGE, Bool.not_true, Bool.not_false, hln, q, hnil]
    exact ⟨_, rfl⟩
  · subst he
    simp (maxSteps := 5000000) only [SA, SB, SD, R, guardAt, binP, intP, indexAddrP, elemsOf, readCells, lenP, lenAt, resultsP, resultP, oneOr, reduceCtorEq, reduceIte, Nat.reduceEqDiff, Nat.reduceAdd, Nat.zero_add, Nat.reduceMul, Nat.reduceLT, Nat.reduceLeDiff, Int.reduceLT, Int.reduceNeg, Int.reduceLE, appendP, appendAt, letGo, setLoc, locVal, Int.reduceToNat, boxCells, und, TG, SE, SC, ENf, List.getElem?_concat_length, List.getElem?_cons_zero, List.getElem?_cons_succ, List.take_nil, unP, hen, htu, hky, hcs, loadR, loadP, storeR, storeK, storeCellsP, laid, lay, setBox, ss1, extP, List.set_cons_zero, List.set_cons_succ, List.length_cons, List.length_nil, Nat.le_refl, Option.map_some, List.take_succ_cons, List.take_zero, List.drop_succ_cons, List.drop_zero, List.drop_nil, List.filter_nil, List.nil_append, List.cons_append, Int.reduceBEq, Int.reduceBNe, Int.reduceGT, Int.reduceGE, Bool.not_true, Bool.not_false, hln, q, hnil]
    exact ⟨_, rfl⟩
theorem op_R56_Chain (l : List En) (hs : smL l) (no : Int) (bx) : callOp CC (callL CC) 16 [.sl (ens l), .int .i64 no] bx = some (.ret (.sl (ens (chT l no))), bx) := by
  obtain ⟨b, h⟩ := call_R56_Chain l hs no
  exact callOp_of rfl (by simp only [pureL, PV.pure, ens_pure, Bool.and_self]) h (by simp only [PV.pure, ens_pure])
/-- what led to a value -/
def whT (l : List En) (k : Ky) : List En := if lsO l k then chT l (lsE l k).no else []
theorem call_why_Why (l : List En) (hs : smL l) (k : Ky) : ∃ bx, callL CC 17 [.sl (ens l), kyV k] [] = some (.ret (.sl (ens (whT l k))), bx) := by
  have hla := op_why_Last l (smL_max hs) k
  have hch := op_Chain l (lsE l k).no hs
  have hnil : nilV CC 22 = .osl 34 [] := by kernel_rfl
  unfold whT
  generalize lsE l k = x at *
  generalize lsO l k = o at *
  have hnl : ens [] = [] := rfl
  obtain ⟨tn, hen⟩ := ENs
  obtain ⟨tu, htu⟩ := VLs
  obtain ⟨tk, hky⟩ := KYs
  obtain ⟨tc, hcs⟩ := CSs
  obtain ⟨xno, xtk, xk, xkey, xval, xca, xpar⟩ := x
  unfold enV at hla
  unfold kyV at hla ⊢
  simp only at hla hch ⊢
  rw [callL_enter (fn := Tryd.f17) (c := Tryd.f17.body.getD .skip) rfl rfl fat_why_Why rfl ok_why_Why (Nat.le_of_ble_eq_true rfl)]
  cases o with
  | true =>
    rw [if_pos rfl]
    generalize ens (chT l xno) = ys at *
    generalize ens l = xs at *
    obtain ⟨ev, eo, so, co, ⟨hev, hco⟩, R⟩ := RULES CC; rw [← hev]
    rw [← hco] at hla hch
    simp only [fpart, part', Tryd.f17, Option.getD]
    simp (maxSteps := 5000000) only [SA, SB, SD, R, guardAt, binP, intP, indexAddrP, elemsOf, readCells, lenP, lenAt, resultsP, resultP, oneOr, reduceCtorEq, reduceIte, Nat.reduceEqDiff, Nat.reduceAdd, Nat.zero_add, Nat.reduceMul, Nat.reduceLT, Nat.reduceLeDiff, Int.reduceLT, Int.reduceNeg, Int.reduceLE, appendP, appendAt, letGo, setLoc, locVal, Int.reduceToNat, boxCells, und, TG, SE, SC, ENf, List.getElem?_concat_length, List.getElem?_cons_zero, List.getElem?_cons_succ, List.take_nil, unP, hen, htu, hky, hcs, loadR, loadP, storeR, storeK, storeCellsP, laid, lay, setBox, ss1, extP, List.set_cons_zero, List.set_cons_succ, List.length_cons, List.length_nil, Nat.le_refl, Option.map_some, List.take_succ_cons, List.take_zero, List.drop_succ_cons, List.drop_zero, List.drop_nil, List.filter_nil, List.nil_append, List.cons_append, Int.reduceBEq, Int.reduceBNe, Int.reduceGT, Int.reduceGE, Bool.not_true, Bool.not_false, hla, hch, hnil]
    exact ⟨_, rfl⟩
  | false =>
    rw [if_neg (by simp), hnl]
    generalize ens l = xs at *
    obtain ⟨ev, eo, so, co, ⟨hev, hco⟩, R⟩ := RULES CC; rw [← hev]
    rw [← hco] at hla hch
    simp only [fpart, part', Tryd.f17, Option.getD]
    simp (maxSteps := 5000000) only [SA, SB, SD, R, guardAt, binP, intP, indexAddrP, elemsOf, readCells, lenP, lenAt, resultsP, resultP, oneOr, reduceCtorEq, reduceIte, Nat.reduceEqDiff, Nat.reduceAdd, Nat.zero_add, Nat.reduceMul, Nat.reduceLT, Nat.reduceLeDiff, Int.reduceLT, Int.reduceNeg, Int.reduceLE, appendP, appendAt, letGo, setLoc, locVal, Int.reduceToNat, boxCells, und, TG, SE, SC, ENf, List.getElem?_concat_length, List.getElem?_cons_zero, List.getElem?_cons_succ, List.take_nil, unP, hen, htu, hky, hcs, loadR, loadP, storeR, storeK, storeCellsP, laid, lay, setBox, ss1, extP, List.set_cons_zero, List.set_cons_succ, List.length_cons, List.length_nil, Nat.le_refl, Option.map_some, List.take_succ_cons, List.take_zero, List.drop_succ_cons, List.drop_zero, List.drop_nil, List.filter_nil, List.nil_append, List.cons_append, Int.reduceBEq, Int.reduceBNe, Int.reduceGT, Int.reduceGE, Bool.not_true, Bool.not_false, hla, hch, hnil]
    exact ⟨_, rfl⟩
theorem op_why_Why (l : List En) (hs : smL l) (k : Ky) (bx) : callOp CC (callL CC) 17 [.sl (ens l), kyV k] bx = some (.ret (.sl (ens (whT l k))), bx) := by
  obtain ⟨b, h⟩ := call_why_Why l hs k
  exact callOp_of rfl (by simp only [pureL, PV.pure, ens_pure, kyV_pure, Bool.and_self]) h (by simp only [PV.pure, ens_pure])
theorem call_R56_Why (l : List En) (hs : smL l) (k : Ky) : ∃ bx, callL CC 18 [.sl (ens l), kyV k] [] = some (.ret (.sl (ens (whT l k))), bx) := by
  have hla := op_R56_Last l (smL_max hs) k
  have hch := op_R56_Chain l hs (lsE l k).no
  have hnil : nilV CC 22 = .osl 34 [] := by kernel_rfl
  unfold whT
  generalize lsE l k = x at *
  generalize lsO l k = o at *
  have hnl : ens [] = [] := rfl
  obtain ⟨tn, hen⟩ := ENs
  obtain ⟨tu, htu⟩ := VLs
  obtain ⟨tk, hky⟩ := KYs
  obtain ⟨tc, hcs⟩ := CSs
  obtain ⟨xno, xtk, xk, xkey, xval, xca, xpar⟩ := x
  unfold enV at hla
  unfold kyV at hla ⊢
  simp only at hla hch ⊢
  rw [callL_enter (fn := Tryd.f18) (c := Tryd.f18.body.getD .skip) rfl rfl fat_R56_Why rfl ok_R56_Why (Nat.le_of_ble_eq_true rfl)]
  cases o with
  | true =>
    rw [if_pos rfl]
    generalize ens (chT l xno) = ys at *
    generalize ens l = xs at *
    obtain ⟨ev, eo, so, co, ⟨hev, hco⟩, R⟩ := RULES CC; rw [← hev]
    rw [← hco] at hla hch
    simp only [fpart, part', Tryd.f18, Option.getD]
    simp (maxSteps := 5000000) only [SA, SB, SD, R, guardAt, binP, intP, indexAddrP, elemsOf, readCells, lenP, lenAt, resultsP, resultP, oneOr, reduceCtorEq, reduceIte, Nat.reduceEqDiff, Nat.reduceAdd, Nat.zero_add, Nat.reduceMul, Nat.reduceLT, Nat.reduceLeDiff, Int.reduceLT, Int.reduceNeg, Int.reduceLE, appendP, appendAt, letGo, setLoc, locVal, Int.reduceToNat, boxCells, und, TG, SE, SC, ENf, List.getElem?_concat_length, List.getElem?_cons_zero, List.getElem?_cons_succ, List.take_nil, unP, hen, htu, hky, hcs, loadR, loadP, storeR, storeK, storeCellsP, laid, lay, setBox, ss1, extP, List.set_cons_zero, List.set_cons_succ, List.length_cons, List.length_nil, Nat.le_refl, Option.map_some, List.take_succ_cons, List.take_zero, List.drop_succ_cons, List.drop_zero, List.drop_nil, List.filter_nil, List.nil_append, List.cons_append, Int.reduceBEq, Int.reduceBNe, Int.reduceGT, Int.reduceGE, Bool.not_true, Bool.not_false, hla, hch, hnil]
    exact ⟨_, rfl⟩
  | false =>
    rw [if_neg (by simp), hnl]
    generalize ens l = xs at *
    obtain ⟨ev, eo, so, co, ⟨hev, hco⟩, R⟩ := RULES CC; rw [← hev]
    rw [← hco] at hla hch
    simp only [fpart, part', Tryd.f18, Option.getD]
    simp (maxSteps := 5000000) only [SA, SB, SD, R, guardAt, binP, intP, indexAddrP, elemsOf, readCells, lenP, lenAt, resultsP, resultP, oneOr, reduceCtorEq, reduceIte, Nat.reduceEqDiff, Nat.reduceAdd, Nat.zero_add, Nat.reduceMul, Nat.reduceLT, Nat.reduceLeDiff, Int.reduceLT, Int.reduceNeg, Int.reduceLE, appendP, appendAt, letGo, setLoc, locVal, Int.reduceToNat, boxCells, und, TG, SE, SC, ENf, List.getElem?_concat_length, List.getElem?_cons_zero, List.getElem?_cons_succ, List.take_nil, unP, hen, htu, hky, hcs, loadR, loadP, storeR, storeK, storeCellsP, laid, lay, setBox, ss1, extP, List.set_cons_zero, List.set_cons_succ, List.length_cons, List.length_nil, Nat.le_refl, Option.map_some, List.take_succ_cons, List.take_zero, List.drop_succ_cons, List.drop_zero, List.drop_nil, List.filter_nil, List.nil_append, List.cons_append, Int.reduceBEq, Int.reduceBNe, Int.reduceGT, Int.reduceGE, Bool.not_true, Bool.not_false, hla, hch, hnil]
    exact ⟨_, rfl⟩
theorem op_R56_Why (l : List En) (hs : smL l) (k : Ky) (bx) : callOp CC (callL CC) 18 [.sl (ens l), kyV k] bx = some (.ret (.sl (ens (whT l k))), bx) := by
  obtain ⟨b, h⟩ := call_R56_Why l hs k
  exact callOp_of rfl (by simp only [pureL, PV.pure, ens_pure, kyV_pure, Bool.and_self]) h (by simp only [PV.pure, ens_pure])
theorem whT_max {l : List En} (h : l.length ≤ maxLen) (k : Ky) : (whT l k).length ≤ maxLen := by
  unfold whT
  split
  · have := chT_length l (lsE l k).no; omega
  · simp
theorem law_WhyChains (l : List En) (hl : smL l) (no : Int) (hno : inI no) (k : Ky) (hk : okKy k) : ∃ bx, callL CC 4 [.sl (ens l), .int .i64 no, kyV k] [] = some (.ret (.bool true), bx) := by
  have hmax := smL_max hl
  have o1 := op_why_Last l hmax k
  have o2 := op_R56_Last l hmax k
  have o3 := op_Chain l no hl
  have o4 := op_R56_Chain l hl no
  have o5 := op_same (chT l no) (by have := chT_length l no; omega)
  have o6 := op_why_Why l hl k
  have o7 := op_R56_Why l hl k
  have o8 := op_same (whT l k) (whT_max hmax k)
  have oaw := op_awake
  have hp := ens_pure l
  have hp2 := ens_pure (chT l no)
  have hp3 := ens_pure (whT l k)
  generalize ens (chT l no) = ys at *
  generalize ens (whT l k) = zs at *
  have heq := eqEn_P (lsE l k) _ _ rfl rfl
  generalize lsE l k = x at *
  generalize lsO l k = o at *
  obtain ⟨tn, hen⟩ := ENs
  obtain ⟨tu, htu⟩ := VLs
  obtain ⟨tk, hky⟩ := KYs
  obtain ⟨tc, hcs⟩ := CSs
  obtain ⟨xno, xtk, xk, xkey, xval, xca, xpar⟩ := x
  unfold enV at o1 o2
  unfold kyV at o1 o2 o6 o7 ⊢
  simp only at o1 o2 o6 o7 heq ⊢
  have hbb : (o == o) = true := by simp
  rw [callL_enter (fn := Tryd.f4) (c := Tryd.f4.body.getD .skip) rfl rfl fat_L56_WhyChains rfl ok_L56_WhyChains (Nat.le_of_ble_eq_true rfl)]
  generalize ens l = xs at *
  obtain ⟨ev, eo, so, co, ⟨hev, hco⟩, R⟩ := RULES CC; rw [← hev]
  rw [← hco] at o1 o2 o3 o4 o5 o6 o7 o8 oaw
  simp only [fpart, part', Tryd.f4, Option.getD]
  simp (maxSteps := 5000000) only [SA, SB, SD, R, guardAt, binP, intP, indexAddrP, elemsOf, readCells, lenP, lenAt, resultsP, resultP, oneOr, reduceCtorEq, reduceIte, Nat.reduceEqDiff, Nat.reduceAdd, Nat.zero_add, Nat.reduceMul, Nat.reduceLT, Nat.reduceLeDiff, Int.reduceLT, Int.reduceNeg, Int.reduceLE, appendP, appendAt, letGo, setLoc, locVal, Int.reduceToNat, boxCells, und, TG, SE, SC, ENf, List.getElem?_concat_length, List.getElem?_cons_zero, List.getElem?_cons_succ, List.take_nil, unP, hen, htu, hky, hcs, loadR, loadP, storeR, storeK, storeCellsP, laid, lay, setBox, ss1, extP, List.set_cons_zero, List.set_cons_succ, List.length_cons, List.length_nil, Nat.le_refl, Option.map_some, List.take_succ_cons, List.take_zero, List.drop_succ_cons, List.drop_zero, List.drop_nil, List.filter_nil, List.nil_append, List.cons_append, Int.reduceBEq, Int.reduceBNe, Int.reduceGT, Int.reduceGE, Bool.not_true, Bool.not_false, o1, o2, o3, o4, o5, o6, o7, o8, oaw, hp, hp2, hp3, heq, eqgEn, hbb]
  exact ⟨_, rfl⟩
end Go.HH
