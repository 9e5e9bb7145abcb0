/-
  Texts of rules: the page, 'write', 'Rule'.
-/
import Derived.Test.YthjcaihemgllaaaDoorLB
namespace Go.HH
open Go Go.Proofs
set_option maxRecDepth 100000
set_option maxHeartbeats 4000000
set_option linter.unusedSimpArgs false
set_option linter.unusedVariables false
theorem ok_print_page_put : fnOK CC Tryd.f16 (Tryd.f16.body.getD .skip) = true := by kernel_rfl
theorem fat_print_page_put : CC.P.funcs[16]? = some Tryd.f16 := by kernel_rfl
theorem ok_print_write : fnOK CC Tryd.f15 (Tryd.f15.body.getD .skip) = true := by kernel_rfl
theorem fat_print_write : CC.P.funcs[15]? = some Tryd.f15 := by kernel_rfl
theorem ok_print_Rule : fnOK CC Tryd.f6 (Tryd.f6.body.getD .skip) = true := by kernel_rfl
theorem fat_print_Rule : CC.P.funcs[6]? = some Tryd.f6 := by kernel_rfl
/-- the page behind a text -/
def PGB (l : List UInt8) : PBox := .cells 55 [bufV l]
/-- the boxes behind 'write': the rule, the page, the rule again, and what the loops leave -/
def WB (b0 : PBox) (acc : List UInt8) (b2 : PBox) (ex : List PBox) : List PBox := b0 :: PGB acc :: b2 :: ex
section
variable (b0 b2 : PBox) (acc : List UInt8) (ex : List PBox)
theorem WB_len : (WB b0 acc b2 ex).length = ex.length + 3 := rfl
theorem WB_2 : (WB b0 acc b2 ex)[2]? = some b2 := rfl
theorem WB_app (x : PBox) : WB b0 acc b2 ex ++ [x] = WB b0 acc b2 (ex ++ [x]) := rfl
theorem WB_last (x : PBox) : (WB b0 acc b2 (ex ++ [x]))[ex.length + 3]? = some x := by
  show (ex ++ [x])[ex.length]? = some x
  rw [List.getElem?_concat_length]
theorem WB_sl (x y : PBox) : (WB b0 acc b2 (ex ++ [x])).set (ex.length + 3) y = WB b0 acc b2 (ex ++ [y]) := by
  show b0 :: PGB acc :: b2 :: (ex ++ [x]).set ex.length y = _
  rw [List.set_append_right _ _ (Nat.le_refl _), Nat.sub_self]
  rfl
end
theorem appK_big {size : Nat} {e : TypeId} {st : St} {al : List (Nat × Loc)} {l : Option Loc} {xs ys : List PV} {d : Option Tmp} (h : xs.length + ys.length ≤ 100000000) (hy : (ys.all fun y => y.cells.length == size) = true) :
    appK 1 size e st al l xs ys d = some (.next ((letGo st l xs).put d (.osl e (xs ++ ys))) (killT al d)) := by
  unfold appK
  rw [if_neg]
  rintro (h1 | h1 | h1)
  · unfold sizeCap at h1
    omega
  · unfold sizeCap at h1
    omega
  · rw [hy] at h1; cases h1
theorem call_put (b0 : PBox) (acc w : List UInt8) (r : List PBox) (hl : acc.length + w.length ≤ 90000000) (hw : w ≠ []) : callL CC 16 [.bp 1 0, .str w] (b0 :: PGB acc :: r) = some (.ret (.tup []), b0 :: PGB (acc ++ w) :: r) := by
  rw [callL_enter (fn := Tryd.f16) (c := Tryd.f16.body.getD .skip) rfl rfl fat_print_page_put rfl ok_print_page_put (Nat.le_of_ble_eq_true rfl)]
  have hbl := bys_length acc
  have hwl := bys_length w
  have hsn := bys_append acc w
  have hok := bys_all w
  have hc : (bys acc).length + (bys w).length ≤ 100000000 := by omega
  have hc0 : (bys w).length ≤ 100000000 := by omega
  have hb : bufV (acc ++ w) = .osl 5 (bys (acc ++ w)) := by
    unfold bufV
    rw [if_neg (by simp [hw])]
  have hpn : pureL [.bp 1 0] = false := rfl
  unfold PGB
  rw [hb, hsn]
  clear hb hsn
  unfold bufV
  by_cases h : acc = []
  · subst h
    rw [if_pos rfl]
    have hb0 : bys [] = [] := rfl
    rw [hb0] at *
    generalize hys : bys w = ys at *
    obtain ⟨ev, eo, so, co, ⟨hev, hco⟩, R⟩ := RULES CC; rw [← hev]
    simp only [fpart, part', Tryd.f16, Option.getD]
    simp (maxSteps := 5000000) only [SA, SB, SD, R, guardAt, binP, intP, indexAddrP, elemsOf, readCells, lenP, lenAt, resultsP, resultP, oneOr, reduceCtorEq, reduceIte, Nat.reduceEqDiff, Nat.reduceAdd, Nat.zero_add, Nat.reduceMul, Nat.reduceLT, Nat.reduceLeDiff, Int.reduceLT, Int.reduceNeg, Int.reduceLE, appendP, appendAt, letGo, setLoc, locVal, Int.reduceToNat, boxCells, und, TG, SE, strEl, hys, appK_big, loadR, loadP, storeR, storeCellsP, laid, lay, setBox, nchP, callAl, List.filter_nil, List.getD_cons_succ, List.getD_cons_zero, ap_str, hok, hc, hc0, List.nil_append, List.length_nil, Nat.zero_add, List.set_cons_zero, List.set_cons_succ, List.take_succ_cons, List.take_zero, List.drop_nil, Nat.le_refl, List.getElem?_cons_zero, List.getElem?_cons_succ]
  · rw [if_neg h]
    generalize hys : bys w = ys at *
    generalize bys acc = xs at *
    obtain ⟨ev, eo, so, co, ⟨hev, hco⟩, R⟩ := RULES CC; rw [← hev]
    simp only [fpart, part', Tryd.f16, Option.getD]
    simp (maxSteps := 5000000) only [SA, SB, SD, R, guardAt, binP, intP, indexAddrP, elemsOf, readCells, lenP, lenAt, resultsP, resultP, oneOr, reduceCtorEq, reduceIte, Nat.reduceEqDiff, Nat.reduceAdd, Nat.zero_add, Nat.reduceMul, Nat.reduceLT, Nat.reduceLeDiff, Int.reduceLT, Int.reduceNeg, Int.reduceLE, appendP, appendAt, letGo, setLoc, locVal, Int.reduceToNat, boxCells, und, TG, SE, strEl, hys, appK_big, loadR, loadP, storeR, storeCellsP, laid, lay, setBox, nchP, callAl, List.filter_nil, List.getD_cons_succ, List.getD_cons_zero, ap_str, hok, hc, List.set_cons_zero, List.set_cons_succ, List.take_succ_cons, List.take_zero, List.drop_nil, Nat.le_refl, List.getElem?_cons_zero, List.getElem?_cons_succ]
theorem op_put (b0 b2 : PBox) (acc w : List UInt8) (ex : List PBox) (hl : acc.length + w.length ≤ 90000000) (hw : w ≠ []) : callOp CC (callL CC) 16 [.bp 1 0, .str w] (WB b0 acc b2 ex) = some (.ret (.tup []), WB b0 (acc ++ w) b2 ex) := by
  unfold callOp WB
  rw [if_pos (by rfl), call_put b0 acc w _ hl hw]
  simp only
  rw [truncB_same (by simp)]
theorem cat_ne {a b : List UInt8} (h : b ≠ []) : cat a b ≠ [] := by
  unfold cat
  simp [h]
def putV : PV := .fn 16 [.bp 1 0] []
/-- what a loop leaves: more text on the page -/
def PWr (j : Nat) (b0 b2 : PBox) (acc : List UInt8) (res : Option (Ex × St)) : Prop := ∃ e' ex', res = some (.exit j, ⟨e', WB b0 acc b2 ex'⟩) ∧ getT e' 0 = putV ∧ getT e' 3 = .bp 2 0
theorem loop_won (L : Code) (hL : L = fpart Tryd.f15 [1,1,0,1,0]) (l : List Tg) (hl : l.length ≤ 12) (hc : ∀ t ∈ l, (∀ bx, callOp CC (callL CC) 25 [tgV t] bx = some (.ret (.str (evS t)), bx)) ∧ (evS t).length ≤ 1000) (b0 b2 : PBox) : ∀ (k i : Nat) (e : List PV) (acc : List UInt8) (ex : List PBox), i + k = l.length →
    getT e 0 = putV → getT e 3 = .bp 2 0 → getT e 21 = .sl (l.map tgV) → getT e 22 = .int .i64 l.length → getT e 23 = .int .i64 i → acc.length ≤ 300 + 1100 * i →
    PWr 0 b0 b2 (acc ++ (l.drop i).flatMap onS) (evL CC L ⟨e, WB b0 acc b2 ex⟩) := by
  intro k
  induction k with
  | zero =>
    intro i e acc ex hi0 e0 e3 es el ei ha
    rw [evL_at (fpart Tryd.f15 [1,1,0,1,0,0]) hL]
    have hi : ¬ ((i : Int) < (l.length : Int)) := by omega
    rw [List.drop_eq_nil_of_le (by omega), List.flatMap_nil, List.append_nil]
    obtain ⟨tu, htu⟩ := VLs
    obtain ⟨tr, htr⟩ := TRs
    obtain ⟨tk, hky⟩ := KYs
    obtain ⟨te, hev1⟩ := EVs
    obtain ⟨tg, htg⟩ := TG_s
    obtain ⟨tp, hsp⟩ := SPs
    obtain ⟨tl, hrl⟩ := RLs
    generalize l.map tgV = xs at *
    obtain ⟨ev, eo, so, co, ⟨hev, hco⟩, R⟩ := RULES CC; rw [← hev]
    simp only [fpart, part', Tryd.f15, Option.getD]
    simp (maxSteps := 5000000) only [SA, SB, SD, R, guardAt, binP, intP, indexAddrP, elemsOf, readCells, lenP, lenAt, resultsP, resultP, oneOr, reduceCtorEq, reduceIte, Nat.reduceEqDiff, Nat.reduceAdd, Nat.zero_add, Nat.reduceMul, Nat.reduceLT, Nat.reduceLeDiff, Int.reduceLT, Int.reduceNeg, Int.reduceLE, appendP, appendAt, letGo, setLoc, locVal, Int.reduceToNat, boxCells, und, TG, SE, SC, List.getElem?_cons_zero, List.getElem?_cons_succ, unP, htu, htr, hky, hev1, htg, hsp, hrl, WB_len, WB_2, WB_app, WB_last, WB_sl, putV, dynR, callAl, loadR, loadP, storeR, storeK, storeCellsP, laid, lay, setBox, List.take_succ_cons, List.take_zero, List.take_nil, List.drop_succ_cons, List.drop_zero, List.drop_nil, List.filter_nil, List.cons_append, List.nil_append, Nat.le_refl, Int.reduceBEq, Int.reduceBNe, Int.reduceGT, Int.reduceGE, Int.reduceLT, Bool.not_true, Bool.not_false, e0, e3, es, el, ei, hi]
    exact ⟨_, _, rfl, by simp (maxSteps := 5000000) only [SA, SB, SD, R, guardAt, binP, intP, indexAddrP, elemsOf, readCells, lenP, lenAt, resultsP, resultP, oneOr, reduceCtorEq, reduceIte, Nat.reduceEqDiff, Nat.reduceAdd, Nat.zero_add, Nat.reduceMul, Nat.reduceLT, Nat.reduceLeDiff, Int.reduceLT, Int.reduceNeg, Int.reduceLE, appendP, appendAt, letGo, setLoc, locVal, Int.reduceToNat, boxCells, und, e0, putV], by simp (maxSteps := 5000000) only [SA, SB, SD, R, guardAt, binP, intP, indexAddrP, elemsOf, readCells, lenP, lenAt, resultsP, resultP, oneOr, reduceCtorEq, reduceIte, Nat.reduceEqDiff, Nat.reduceAdd, Nat.zero_add, Nat.reduceMul, Nat.reduceLT, Nat.reduceLeDiff, Int.reduceLT, Int.reduceNeg, Int.reduceLE, appendP, appendAt, letGo, setLoc, locVal, Int.reduceToNat, boxCells, und, e3]⟩
  | succ k ih =>
    intro i e acc ex hi0 e0 e3 es el ei ha
    rw [evL_at (fpart Tryd.f15 [1,1,0,1,0,0]) hL]
    have hi : ((i : Int) < (l.length : Int)) := by omega
    have hi0' : ¬ ((i : Int) < 0) := by omega
    have hdr : l.drop i = (l[i]'(by omega)) :: l.drop (i + 1) := List.drop_eq_getElem_cons (by omega)
    have hx : (l.map tgV)[i]? = some (tgV (l[i]'(by omega))) := by rw [List.getElem?_map, List.getElem?_eq_getElem (by omega)]; rfl
    have hw1 := wrap_i64 (n := (i : Int) + 1) ⟨by omega, by omega⟩
    have hop := (hc (l[i]'(by omega)) (List.getElem_mem _)).1
    have hlen := (hc (l[i]'(by omega)) (List.getElem_mem _)).2
    have key := fun e acc ex => ih (i + 1) e acc ex (by omega)
    have cast1 : ((i + 1 : Nat) : Int) = (i : Int) + 1 := by omega
    rw [cast1] at key
    rw [hdr, List.flatMap_cons, ← List.append_assoc]
    have hon : onS (l[i]'(by omega)) = cat (cat [32, 32, 111, 110, 32] (evS (l[i]'(by omega)))) [59, 10] := rfl
    rw [hon]
    clear hon hc
    generalize (l.drop (i + 1)).flatMap onS = rest at *
    generalize l[i]'(by omega) = x at *
    generalize evS x = s at *
    generalize l.map tgV = xs at *
    have cA := catA (a := [32, 32, 111, 110, 32]) (b := s) (by simp only [List.length_cons, List.length_nil]; omega)
    have cB := catA (a := cat [32, 32, 111, 110, 32] s) (b := [59, 10]) (by rw [cat_len]; simp only [List.length_cons, List.length_nil]; omega)
    have lw : (cat (cat [32, 32, 111, 110, 32] s) [59, 10]).length ≤ 1007 := by rw [cat_len, cat_len]; simp only [List.length_cons, List.length_nil]; omega
    have hp := fun ex => op_put b0 b2 acc (cat (cat [32, 32, 111, 110, 32] s) [59, 10]) ex (by omega) (cat_ne (by simp))
    have ha' : (acc ++ cat (cat [32, 32, 111, 110, 32] s) [59, 10]).length ≤ 300 + 1100 * (i + 1) := by rw [List.length_append]; omega
    generalize cat (cat [32, 32, 111, 110, 32] s) [59, 10] = w at *
    obtain ⟨xk, xkey, xev, xnm, xn, xm⟩ := x
    obtain ⟨xd, xcl, xat⟩ := xkey
    obtain ⟨yd, yc, yn⟩ := xev
    unfold tgV at hx hop
    simp only at hx hop
    obtain ⟨tu, htu⟩ := VLs
    obtain ⟨tr, htr⟩ := TRs
    obtain ⟨tk, hky⟩ := KYs
    obtain ⟨te, hev1⟩ := EVs
    obtain ⟨tg, htg⟩ := TG_s
    obtain ⟨tp, hsp⟩ := SPs
    obtain ⟨tl, hrl⟩ := RLs
    obtain ⟨ev, eo, so, co, ⟨hev, hco⟩, R⟩ := RULES CC; rw [← hev]
    rw [← hev] at key
    rw [← hco] at hop hp
    simp only [fpart, part', Tryd.f15, Option.getD]
    simp (maxSteps := 5000000) only [SA, SB, SD, R, guardAt, binP, intP, indexAddrP, elemsOf, readCells, lenP, lenAt, resultsP, resultP, oneOr, reduceCtorEq, reduceIte, Nat.reduceEqDiff, Nat.reduceAdd, Nat.zero_add, Nat.reduceMul, Nat.reduceLT, Nat.reduceLeDiff, Int.reduceLT, Int.reduceNeg, Int.reduceLE, appendP, appendAt, letGo, setLoc, locVal, Int.reduceToNat, boxCells, und, TG, SE, SC, List.getElem?_cons_zero, List.getElem?_cons_succ, unP, htu, htr, hky, hev1, htg, hsp, hrl, WB_len, WB_2, WB_app, WB_last, WB_sl, putV, dynR, callAl, loadR, loadP, storeR, storeK, storeCellsP, laid, lay, setBox, List.take_succ_cons, List.take_zero, List.take_nil, List.drop_succ_cons, List.drop_zero, List.drop_nil, List.filter_nil, List.cons_append, List.nil_append, Nat.le_refl, Int.reduceBEq, Int.reduceBNe, Int.reduceGT, Int.reduceGE, Int.reduceLT, Bool.not_true, Bool.not_false, e0, e3, es, el, ei, hi, hi0', hx, hw1, hop, hp, TGf, cA, cB]
    refine key _ _ _ ?_ ?_ ?_ ?_ ?_ ha'
    all_goals simp (maxSteps := 5000000) only [SA, SB, SD, R, guardAt, binP, intP, indexAddrP, elemsOf, readCells, lenP, lenAt, resultsP, resultP, oneOr, reduceCtorEq, reduceIte, Nat.reduceEqDiff, Nat.reduceAdd, Nat.zero_add, Nat.reduceMul, Nat.reduceLT, Nat.reduceLeDiff, Int.reduceLT, Int.reduceNeg, Int.reduceLE, appendP, appendAt, letGo, setLoc, locVal, Int.reduceToNat, boxCells, und, e0, e3, es, el, ei, putV]
theorem loop_wdo (L : Code) (hL : L = fpart Tryd.f15 [1,1,1,1,0,1,0]) (l : List Sp) (hl : l.length ≤ 12) (hc : ∀ t ∈ l, (∀ bx, callOp CC (callL CC) 28 [spV t] bx = some (.ret (.str (acS t)), bx)) ∧ (acS t).length ≤ 141000) (b0 b2 : PBox) : ∀ (k i : Nat) (e : List PV) (acc : List UInt8) (ex : List PBox), i + k = l.length →
    getT e 0 = putV → getT e 3 = .bp 2 0 → getT e 49 = .sl (l.map spV) → getT e 50 = .int .i64 l.length → getT e 51 = .int .i64 i → acc.length ≤ 160000 + 142000 * i →
    PWr 2 b0 b2 (acc ++ (l.drop i).flatMap doS) (evL CC L ⟨e, WB b0 acc b2 ex⟩) := by
  intro k
  induction k with
  | zero =>
    intro i e acc ex hi0 e0 e3 es el ei ha
    rw [evL_at (fpart Tryd.f15 [1,1,1,1,0,1,0,0]) hL]
    have hi : ¬ ((i : Int) < (l.length : Int)) := by omega
    rw [List.drop_eq_nil_of_le (by omega), List.flatMap_nil, List.append_nil]
    obtain ⟨tu, htu⟩ := VLs
    obtain ⟨tr, htr⟩ := TRs
    obtain ⟨tk, hky⟩ := KYs
    obtain ⟨te, hev1⟩ := EVs
    obtain ⟨tg, htg⟩ := TG_s
    obtain ⟨tp, hsp⟩ := SPs
    obtain ⟨tl, hrl⟩ := RLs
    generalize l.map spV = xs at *
    obtain ⟨ev, eo, so, co, ⟨hev, hco⟩, R⟩ := RULES CC; rw [← hev]
    simp only [fpart, part', Tryd.f15, Option.getD]
    simp (maxSteps := 5000000) only [SA, SB, SD, R, guardAt, binP, intP, indexAddrP, elemsOf, readCells, lenP, lenAt, resultsP, resultP, oneOr, reduceCtorEq, reduceIte, Nat.reduceEqDiff, Nat.reduceAdd, Nat.zero_add, Nat.reduceMul, Nat.reduceLT, Nat.reduceLeDiff, Int.reduceLT, Int.reduceNeg, Int.reduceLE, appendP, appendAt, letGo, setLoc, locVal, Int.reduceToNat, boxCells, und, TG, SE, SC, List.getElem?_cons_zero, List.getElem?_cons_succ, unP, htu, htr, hky, hev1, htg, hsp, hrl, WB_len, WB_2, WB_app, WB_last, WB_sl, putV, dynR, callAl, loadR, loadP, storeR, storeK, storeCellsP, laid, lay, setBox, List.take_succ_cons, List.take_zero, List.take_nil, List.drop_succ_cons, List.drop_zero, List.drop_nil, List.filter_nil, List.cons_append, List.nil_append, Nat.le_refl, Int.reduceBEq, Int.reduceBNe, Int.reduceGT, Int.reduceGE, Int.reduceLT, Bool.not_true, Bool.not_false, e0, e3, es, el, ei, hi]
    exact ⟨_, _, rfl, by simp (maxSteps := 5000000) only [SA, SB, SD, R, guardAt, binP, intP, indexAddrP, elemsOf, readCells, lenP, lenAt, resultsP, resultP, oneOr, reduceCtorEq, reduceIte, Nat.reduceEqDiff, Nat.reduceAdd, Nat.zero_add, Nat.reduceMul, Nat.reduceLT, Nat.reduceLeDiff, Int.reduceLT, Int.reduceNeg, Int.reduceLE, appendP, appendAt, letGo, setLoc, locVal, Int.reduceToNat, boxCells, und, e0, putV], by simp (maxSteps := 5000000) only [SA, SB, SD, R, guardAt, binP, intP, indexAddrP, elemsOf, readCells, lenP, lenAt, resultsP, resultP, oneOr, reduceCtorEq, reduceIte, Nat.reduceEqDiff, Nat.reduceAdd, Nat.zero_add, Nat.reduceMul, Nat.reduceLT, Nat.reduceLeDiff, Int.reduceLT, Int.reduceNeg, Int.reduceLE, appendP, appendAt, letGo, setLoc, locVal, Int.reduceToNat, boxCells, und, e3]⟩
  | succ k ih =>
    intro i e acc ex hi0 e0 e3 es el ei ha
    rw [evL_at (fpart Tryd.f15 [1,1,1,1,0,1,0,0]) hL]
    have hi : ((i : Int) < (l.length : Int)) := by omega
    have hi0' : ¬ ((i : Int) < 0) := by omega
    have hdr : l.drop i = (l[i]'(by omega)) :: l.drop (i + 1) := List.drop_eq_getElem_cons (by omega)
    have hx : (l.map spV)[i]? = some (spV (l[i]'(by omega))) := by rw [List.getElem?_map, List.getElem?_eq_getElem (by omega)]; rfl
    have hw1 := wrap_i64 (n := (i : Int) + 1) ⟨by omega, by omega⟩
    have hop := (hc (l[i]'(by omega)) (List.getElem_mem _)).1
    have hlen := (hc (l[i]'(by omega)) (List.getElem_mem _)).2
    have key := fun e acc ex => ih (i + 1) e acc ex (by omega)
    have cast1 : ((i + 1 : Nat) : Int) = (i : Int) + 1 := by omega
    rw [cast1] at key
    rw [hdr, List.flatMap_cons, ← List.append_assoc]
    have hon : doS (l[i]'(by omega)) = cat (cat [32, 32, 100, 111, 32] (acS (l[i]'(by omega)))) [59, 10] := rfl
    rw [hon]
    clear hon hc
    generalize (l.drop (i + 1)).flatMap doS = rest at *
    generalize l[i]'(by omega) = x at *
    generalize acS x = s at *
    generalize l.map spV = xs at *
    have cA := catA (a := [32, 32, 100, 111, 32]) (b := s) (by simp only [List.length_cons, List.length_nil]; omega)
    have cB := catA (a := cat [32, 32, 100, 111, 32] s) (b := [59, 10]) (by rw [cat_len]; simp only [List.length_cons, List.length_nil]; omega)
    have lw : (cat (cat [32, 32, 100, 111, 32] s) [59, 10]).length ≤ 141007 := by rw [cat_len, cat_len]; simp only [List.length_cons, List.length_nil]; omega
    have hp := fun ex => op_put b0 b2 acc (cat (cat [32, 32, 100, 111, 32] s) [59, 10]) ex (by omega) (cat_ne (by simp))
    have ha' : (acc ++ cat (cat [32, 32, 100, 111, 32] s) [59, 10]).length ≤ 160000 + 142000 * (i + 1) := by rw [List.length_append]; omega
    generalize cat (cat [32, 32, 100, 111, 32] s) [59, 10] = w at *
    obtain ⟨xk, xkey, xnm, xex⟩ := x
    obtain ⟨xd, xcl, xat⟩ := xkey
    obtain ⟨zk, zn, zm, znm, zv, zkey, zkids⟩ := xex
    unfold spV trC trV at hx hop
    generalize trVs zkids = zs at *
    simp only [SA, List.cons_append, List.nil_append] at hx hop
    obtain ⟨tu, htu⟩ := VLs
    obtain ⟨tr, htr⟩ := TRs
    obtain ⟨tk, hky⟩ := KYs
    obtain ⟨te, hev1⟩ := EVs
    obtain ⟨tg, htg⟩ := TG_s
    obtain ⟨tp, hsp⟩ := SPs
    obtain ⟨tl, hrl⟩ := RLs
    obtain ⟨ev, eo, so, co, ⟨hev, hco⟩, R⟩ := RULES CC; rw [← hev]
    rw [← hev] at key
    rw [← hco] at hop hp
    simp only [fpart, part', Tryd.f15, Option.getD]
    simp (maxSteps := 5000000) only [SA, SB, SD, R, guardAt, binP, intP, indexAddrP, elemsOf, readCells, lenP, lenAt, resultsP, resultP, oneOr, reduceCtorEq, reduceIte, Nat.reduceEqDiff, Nat.reduceAdd, Nat.zero_add, Nat.reduceMul, Nat.reduceLT, Nat.reduceLeDiff, Int.reduceLT, Int.reduceNeg, Int.reduceLE, appendP, appendAt, letGo, setLoc, locVal, Int.reduceToNat, boxCells, und, TG, SE, SC, List.getElem?_cons_zero, List.getElem?_cons_succ, unP, htu, htr, hky, hev1, htg, hsp, hrl, WB_len, WB_2, WB_app, WB_last, WB_sl, putV, dynR, callAl, loadR, loadP, storeR, storeK, storeCellsP, laid, lay, setBox, List.take_succ_cons, List.take_zero, List.take_nil, List.drop_succ_cons, List.drop_zero, List.drop_nil, List.filter_nil, List.cons_append, List.nil_append, Nat.le_refl, Int.reduceBEq, Int.reduceBNe, Int.reduceGT, Int.reduceGE, Int.reduceLT, Bool.not_true, Bool.not_false, e0, e3, es, el, ei, hi, hi0', hx, hw1, hop, hp, SPf, cA, cB]
    refine key _ _ _ ?_ ?_ ?_ ?_ ?_ ha'
    all_goals simp (maxSteps := 5000000) only [SA, SB, SD, R, guardAt, binP, intP, indexAddrP, elemsOf, readCells, lenP, lenAt, resultsP, resultP, oneOr, reduceCtorEq, reduceIte, Nat.reduceEqDiff, Nat.reduceAdd, Nat.zero_add, Nat.reduceMul, Nat.reduceLT, Nat.reduceLeDiff, Int.reduceLT, Int.reduceNeg, Int.reduceLE, appendP, appendAt, letGo, setLoc, locVal, Int.reduceToNat, boxCells, und, e0, e3, es, el, ei, putV]
theorem flatMap_len {α : Type} (f : α → List UInt8) (c : Nat) : ∀ l : List α, (∀ x ∈ l, (f x).length ≤ c) → (l.flatMap f).length ≤ c * l.length
  | [], _ => by simp
  | x :: r, h => by
    have h1 := h x List.mem_cons_self
    have h2 := flatMap_len f c r fun y hy => h y (List.mem_cons_of_mem _ hy)
    rw [List.flatMap_cons, List.length_append, List.length_cons, Nat.mul_add]
    omega
theorem on_len {t : Tg} (h : (evS t).length ≤ 1000) : (onS t).length ≤ 1007 := by
  unfold onS
  rw [cat_len, cat_len]
  simp only [List.length_cons, List.length_nil]
  omega
theorem do_len {s : Sp} (h : (acS s).length ≤ 141000) : (doS s).length ≤ 141007 := by
  unfold doS
  rw [cat_len, cat_len]
  simp only [List.length_cons, List.length_nil]
  omega
theorem buildYv : buildP CC 24 [(0, .int .i64 1), (1, .int .i64 1)] = some (.agg [.int .i64 1, .int .i64 1, .str []]) := by kernel_rfl
theorem buildYt : buildP CC 29 [(0, .int .i64 1), (4, .agg [.int .i64 1, .int .i64 1, .str []])] = some (.agg [.int .i64 1, .int .i64 0, .int .i64 0, .str [], .int .i64 1, .int .i64 1, .str [], .int .i64 0, .str [], .str [], .nils]) := by kernel_rfl
theorem WB_mk (b0 b2 : PBox) (acc : List UInt8) (ex : List PBox) : b0 :: PGB acc :: b2 :: ex = WB b0 acc b2 ex := rfl
theorem call_write (r : Rl) (hp : plRl r = true) (ho : okRl r) (h : rlE r = 0) (b0 : PBox) : ∃ b2 ex, callL CC 15 [putV, rlV r] [b0, PGB []] = some (.ret (.tup []), WB b0 (rlS r) b2 ex) := by
  obtain ⟨g1, g2, g3, g4, g5, g6⟩ := plRl_len hp
  obtain ⟨p1, p2, p3, p4, p5, p6⟩ := rlE_parts h
  have ipr : inI r.pr := ⟨by omega, by omega⟩
  have hhd := hd_len g1 ipr
  obtain ⟨t1, t2, t3⟩ := TX_len g4 ho.2.2.2.2.1 p5
  have ok := op_kid r.ife t1 (by omega) 0
  have lk := t3 0
  have odg := op_num_Digits r.pr ipr
  have oys := fun bx => op_expr_Same r.ife 1 0 0 [] (1, 1, []) (0, [], []) bx
  have hev : ∀ t ∈ r.on, (∀ bx, callOp CC (callL CC) 25 [tgV t] bx = some (.ret (.str (evS t)), bx)) ∧ (evS t).length ≤ 1000 := fun t ht => ⟨op_event t (g5 t ht) (p4 t ht), ev_len (g5 t ht) (p4 t ht)⟩
  have hac : ∀ s ∈ r.dos, (∀ bx, callOp CC (callL CC) 28 [spV s] bx = some (.ret (.str (acS s)), bx)) ∧ (acS s).length ≤ 141000 := fun s hs => ⟨op_action s (g6 s hs) (ho.2.2.2.2.2.2 s hs).2.2.2 (p6 s hs), ac_len (g6 s hs) (ho.2.2.2.2.2.2 s hs).2.2.2 (p6 s hs)⟩
  have lon := flatMap_len onS 1007 r.on fun t ht => on_len (hev t ht).2
  have ldo := flatMap_len doS 141007 r.dos fun s hs => do_len (hac s hs).2
  have hif : ifS r.ife = cat (cat [32, 32, 105, 102, 32] (kdS (an r.ife) 0)) [59, 10] := rfl
  have lif : (ifS r.ife).length ≤ 140009 := by
    rw [hif, cat_len, cat_len]
    simp only [List.length_cons, List.length_nil]
    omega
  have hys : smB r.ife 1 0 0 [] (1, 1, []) (0, [], []) = yesB r.ife := rfl
  rw [hys] at oys
  unfold rlS
  have hhe : hdS r = cat (cat (cat (cat [114, 117, 108, 101, 32] r.nm) [32, 112, 114, 105, 111, 114, 105, 116, 121, 32]) (Lib.itoa r.pr)) [32, 123, 10] := rfl
  have lit := itoa_length ipr
  clear h hp ho t1 t2 t3 p1 p2 p3 p4 p5 p6 g4 g5 g6 ipr hys
  obtain ⟨nm, pr, on, ife, dos⟩ := r
  simp only at *
  have l1 : (on.map tgV).length = on.length := List.length_map _
  have l2 : (dos.map spV).length = dos.length := List.length_map _
  have hon := fun b2 e acc ex => loop_won _ rfl on (by omega) hev b0 b2 on.length 0 e acc ex (by omega)
  have hdo := fun b2 e acc ex => loop_wdo _ rfl dos (by omega) hac b0 b2 dos.length 0 e acc ex (by omega)
  rw [List.drop_zero] at hon hdo
  have c1 := catA (a := [114, 117, 108, 101, 32]) (b := nm) (by simp only [List.length_cons, List.length_nil]; omega)
  have c2 := catA (a := cat [114, 117, 108, 101, 32] nm) (b := [32, 112, 114, 105, 111, 114, 105, 116, 121, 32]) (by rw [cat_len]; simp only [List.length_cons, List.length_nil]; omega)
  have c3 := catA (a := cat (cat [114, 117, 108, 101, 32] nm) [32, 112, 114, 105, 111, 114, 105, 116, 121, 32]) (b := Lib.itoa pr) (by rw [cat_len, cat_len]; simp only [List.length_cons, List.length_nil]; omega)
  have c4 := catA (a := cat (cat (cat [114, 117, 108, 101, 32] nm) [32, 112, 114, 105, 111, 114, 105, 116, 121, 32]) (Lib.itoa pr)) (b := [32, 123, 10]) (by rw [cat_len, cat_len, cat_len]; simp only [List.length_cons, List.length_nil]; omega)
  have d1 := catA (a := [32, 32, 105, 102, 32]) (b := kdS (an ife) 0) (by simp only [List.length_cons, List.length_nil]; omega)
  have d2 := catA (a := cat [32, 32, 105, 102, 32] (kdS (an ife) 0)) (b := [59, 10]) (by rw [cat_len]; simp only [List.length_cons, List.length_nil]; omega)
  rw [← hhe] at c4
  rw [← hif] at d2
  have hne : hdS ⟨nm, pr, on, ife, dos⟩ ≠ [] := by rw [hhe]; exact cat_ne (by simp)
  have hni : ifS ife ≠ [] := by rw [hif]; exact cat_ne (by simp)
  clear hhe hif hev hac
  generalize hdS ⟨nm, pr, on, ife, dos⟩ = hd at *
  generalize ifS ife = iff at *
  generalize kdS (an ife) 0 = kd at *
  generalize yesB ife = ys at *
  generalize on.flatMap onS = ons at *
  generalize dos.flatMap doS = dss at *
  generalize Lib.itoa pr = dg at *
  have q1 := fun b2 ex => op_put b0 b2 [] hd ex (by simp only [List.length_nil]; omega) hne
  have q2 := fun b2 ex => op_put b0 b2 (hd ++ ons) iff ex (by rw [List.length_append]; omega) hni
  have q3 := fun b2 ex => op_put b0 b2 (hd ++ ons ++ dss) [125, 10] ex (by simp only [List.length_append, List.length_cons, List.length_nil]; omega) (by simp)
  have q4 := fun b2 ex => op_put b0 b2 (hd ++ ons ++ iff ++ dss) [125, 10] ex (by simp only [List.length_append, List.length_cons, List.length_nil]; omega) (by simp)
  have a1 : hd.length ≤ 300 + 1100 * 0 := by omega
  have a2 : (hd ++ ons).length ≤ 160000 + 142000 * 0 := by rw [List.length_append]; omega
  have a3 : (hd ++ ons ++ iff).length ≤ 160000 + 142000 * 0 := by rw [List.length_append, List.length_append]; omega
  clear hhd lk lon ldo lif lit g1 g2 g3 hne hni
  unfold rlV trC
  obtain ⟨zk, zn, zm, znm, zv, zkey, zkids⟩ := ife
  unfold trV at ok oys ⊢
  unfold leafV at oys
  generalize trVs zkids = zs at *
  simp only [SA, List.cons_append, List.nil_append] at ok oys ⊢
  generalize on.map tgV = xs at *
  generalize dos.map spV = zz at *
  obtain ⟨tu, htu⟩ := VLs
  obtain ⟨tr, htr⟩ := TRs
  obtain ⟨tk, hky⟩ := KYs
  obtain ⟨te, hev1⟩ := EVs
  obtain ⟨tg, htg⟩ := TG_s
  obtain ⟨tp, hsp⟩ := SPs
  obtain ⟨tl, hrl⟩ := RLs
  rw [callL_enter (fn := Tryd.f15) (c := Tryd.f15.body.getD .skip) rfl rfl fat_print_write rfl ok_print_write (Nat.le_of_ble_eq_true rfl)]
  obtain ⟨ev, eo, so, co, ⟨hev, hco⟩, R⟩ := RULES CC; rw [← hev]
  rw [← hco] at ok odg oys q1 q2 q3 q4
  rw [← hev] at hon hdo
  simp only [fpart, part', Tryd.f15, Option.getD] at hon hdo ⊢
  simp (maxSteps := 5000000) only [SA, SB, SD, R, guardAt, binP, intP, indexAddrP, elemsOf, readCells, lenP, lenAt, resultsP, resultP, oneOr, reduceCtorEq, reduceIte, Nat.reduceEqDiff, Nat.reduceAdd, Nat.zero_add, Nat.reduceMul, Nat.reduceLT, Nat.reduceLeDiff, Int.reduceLT, Int.reduceNeg, Int.reduceLE, appendP, appendAt, letGo, setLoc, locVal, Int.reduceToNat, boxCells, und, TG, SE, SC, List.getElem?_cons_zero, List.getElem?_cons_succ, unP, htu, htr, hky, hev1, htg, hsp, hrl, WB_len, WB_2, WB_app, WB_last, WB_sl, putV, dynR, callAl, loadR, loadP, storeR, storeK, storeCellsP, laid, lay, setBox, List.take_succ_cons, List.take_zero, List.take_nil, List.drop_succ_cons, List.drop_zero, List.drop_nil, List.filter_nil, List.cons_append, List.nil_append, Nat.le_refl, Int.reduceBEq, Int.reduceBNe, Int.reduceGT, Int.reduceGE, Int.reduceLT, Bool.not_true, Bool.not_false, odg, c1, c2, c3, c4, WB_mk, q1, l1]
  generalize hE : ev (Code.loop _) _ = z
  have hP : PWr 0 b0 (.cells 32 [.str nm, .int .i64 pr, .sl xs, .int .i64 zk, .int .i64 zn, .int .i64 zm, .str znm, .int .i64 zv.1, .int .i64 zv.2.1, .str zv.2.2, .int .i64 zkey.1, .str zkey.2.1, .str zkey.2.2, .sl zs, .sl zz]) (hd ++ ons) z := by
    rw [← hE]
    refine hon _ _ _ _ ?_ ?_ ?_ ?_ ?_ a1
    all_goals first | (simp (maxSteps := 5000000) only [SA, SB, SD, R, guardAt, binP, intP, indexAddrP, elemsOf, readCells, lenP, lenAt, resultsP, resultP, oneOr, reduceCtorEq, reduceIte, Nat.reduceEqDiff, Nat.reduceAdd, Nat.zero_add, Nat.reduceMul, Nat.reduceLT, Nat.reduceLeDiff, Int.reduceLT, Int.reduceNeg, Int.reduceLE, appendP, appendAt, letGo, setLoc, locVal, Int.reduceToNat, boxCells, und, putV]; done) | (simp (maxSteps := 5000000) only [SA, SB, SD, R, guardAt, binP, intP, indexAddrP, elemsOf, readCells, lenP, lenAt, resultsP, resultP, oneOr, reduceCtorEq, reduceIte, Nat.reduceEqDiff, Nat.reduceAdd, Nat.zero_add, Nat.reduceMul, Nat.reduceLT, Nat.reduceLeDiff, Int.reduceLT, Int.reduceNeg, Int.reduceLE, appendP, appendAt, letGo, setLoc, locVal, Int.reduceToNat, boxCells, und, putV]; rfl)
  obtain ⟨e', ex', rfl, k0, k3⟩ := hP
  unfold putV at k0
  cases ys with
  | true =>
    rw [if_pos rfl, List.append_nil]
    simp (maxSteps := 5000000) only [SA, SB, SD, R, guardAt, binP, intP, indexAddrP, elemsOf, readCells, lenP, lenAt, resultsP, resultP, oneOr, reduceCtorEq, reduceIte, Nat.reduceEqDiff, Nat.reduceAdd, Nat.zero_add, Nat.reduceMul, Nat.reduceLT, Nat.reduceLeDiff, Int.reduceLT, Int.reduceNeg, Int.reduceLE, appendP, appendAt, letGo, setLoc, locVal, Int.reduceToNat, boxCells, und, TG, SE, SC, List.getElem?_cons_zero, List.getElem?_cons_succ, unP, htu, htr, hky, hev1, htg, hsp, hrl, WB_len, WB_2, WB_app, WB_last, WB_sl, putV, dynR, callAl, loadR, loadP, storeR, storeK, storeCellsP, laid, lay, setBox, List.take_succ_cons, List.take_zero, List.take_nil, List.drop_succ_cons, List.drop_zero, List.drop_nil, List.filter_nil, List.cons_append, List.nil_append, Nat.le_refl, Int.reduceBEq, Int.reduceBNe, Int.reduceGT, Int.reduceGE, Int.reduceLT, Bool.not_true, Bool.not_false, k0, k3, buildYv, buildYt, TRf, oys, l2]
    generalize hE2 : ev (Code.loop _) _ = z2
    have hP2 : PWr 2 b0 (.cells 32 [.str nm, .int .i64 pr, .sl xs, .int .i64 zk, .int .i64 zn, .int .i64 zm, .str znm, .int .i64 zv.1, .int .i64 zv.2.1, .str zv.2.2, .int .i64 zkey.1, .str zkey.2.1, .str zkey.2.2, .sl zs, .sl zz]) (hd ++ ons ++ dss) z2 := by
      rw [← hE2]
      refine hdo _ _ _ _ ?_ ?_ ?_ ?_ ?_ a2
      all_goals first | (simp (maxSteps := 5000000) only [SA, SB, SD, R, guardAt, binP, intP, indexAddrP, elemsOf, readCells, lenP, lenAt, resultsP, resultP, oneOr, reduceCtorEq, reduceIte, Nat.reduceEqDiff, Nat.reduceAdd, Nat.zero_add, Nat.reduceMul, Nat.reduceLT, Nat.reduceLeDiff, Int.reduceLT, Int.reduceNeg, Int.reduceLE, appendP, appendAt, letGo, setLoc, locVal, Int.reduceToNat, boxCells, und, putV, k0, k3]; done) | (simp (maxSteps := 5000000) only [SA, SB, SD, R, guardAt, binP, intP, indexAddrP, elemsOf, readCells, lenP, lenAt, resultsP, resultP, oneOr, reduceCtorEq, reduceIte, Nat.reduceEqDiff, Nat.reduceAdd, Nat.zero_add, Nat.reduceMul, Nat.reduceLT, Nat.reduceLeDiff, Int.reduceLT, Int.reduceNeg, Int.reduceLE, appendP, appendAt, letGo, setLoc, locVal, Int.reduceToNat, boxCells, und, putV, k0, k3]; rfl)
    obtain ⟨e2, ex2, rfl, m0, m3⟩ := hP2
    unfold putV at m0
    simp (maxSteps := 5000000) only [SA, SB, SD, R, guardAt, binP, intP, indexAddrP, elemsOf, readCells, lenP, lenAt, resultsP, resultP, oneOr, reduceCtorEq, reduceIte, Nat.reduceEqDiff, Nat.reduceAdd, Nat.zero_add, Nat.reduceMul, Nat.reduceLT, Nat.reduceLeDiff, Int.reduceLT, Int.reduceNeg, Int.reduceLE, appendP, appendAt, letGo, setLoc, locVal, Int.reduceToNat, boxCells, und, TG, SE, SC, List.getElem?_cons_zero, List.getElem?_cons_succ, unP, htu, htr, hky, hev1, htg, hsp, hrl, WB_len, WB_2, WB_app, WB_last, WB_sl, putV, dynR, callAl, loadR, loadP, storeR, storeK, storeCellsP, laid, lay, setBox, List.take_succ_cons, List.take_zero, List.take_nil, List.drop_succ_cons, List.drop_zero, List.drop_nil, List.filter_nil, List.cons_append, List.nil_append, Nat.le_refl, Int.reduceBEq, Int.reduceBNe, Int.reduceGT, Int.reduceGE, Int.reduceLT, Bool.not_true, Bool.not_false, m0, m3, q3]
    exact ⟨_, _, rfl⟩
  | false =>
    rw [if_neg (by simp)]
    simp (maxSteps := 5000000) only [SA, SB, SD, R, guardAt, binP, intP, indexAddrP, elemsOf, readCells, lenP, lenAt, resultsP, resultP, oneOr, reduceCtorEq, reduceIte, Nat.reduceEqDiff, Nat.reduceAdd, Nat.zero_add, Nat.reduceMul, Nat.reduceLT, Nat.reduceLeDiff, Int.reduceLT, Int.reduceNeg, Int.reduceLE, appendP, appendAt, letGo, setLoc, locVal, Int.reduceToNat, boxCells, und, TG, SE, SC, List.getElem?_cons_zero, List.getElem?_cons_succ, unP, htu, htr, hky, hev1, htg, hsp, hrl, WB_len, WB_2, WB_app, WB_last, WB_sl, putV, dynR, callAl, loadR, loadP, storeR, storeK, storeCellsP, laid, lay, setBox, List.take_succ_cons, List.take_zero, List.take_nil, List.drop_succ_cons, List.drop_zero, List.drop_nil, List.filter_nil, List.cons_append, List.nil_append, Nat.le_refl, Int.reduceBEq, Int.reduceBNe, Int.reduceGT, Int.reduceGE, Int.reduceLT, Bool.not_true, Bool.not_false, k0, k3, buildYv, buildYt, TRf, oys, ok, d1, d2, q2, l2]
    generalize hE2 : ev (Code.loop _) _ = z2
    have hP2 : PWr 2 b0 (.cells 32 [.str nm, .int .i64 pr, .sl xs, .int .i64 zk, .int .i64 zn, .int .i64 zm, .str znm, .int .i64 zv.1, .int .i64 zv.2.1, .str zv.2.2, .int .i64 zkey.1, .str zkey.2.1, .str zkey.2.2, .sl zs, .sl zz]) (hd ++ ons ++ iff ++ dss) z2 := by
      rw [← hE2]
      refine hdo _ _ _ _ ?_ ?_ ?_ ?_ ?_ a3
      all_goals first | (simp (maxSteps := 5000000) only [SA, SB, SD, R, guardAt, binP, intP, indexAddrP, elemsOf, readCells, lenP, lenAt, resultsP, resultP, oneOr, reduceCtorEq, reduceIte, Nat.reduceEqDiff, Nat.reduceAdd, Nat.zero_add, Nat.reduceMul, Nat.reduceLT, Nat.reduceLeDiff, Int.reduceLT, Int.reduceNeg, Int.reduceLE, appendP, appendAt, letGo, setLoc, locVal, Int.reduceToNat, boxCells, und, putV, k0, k3]; done) | (simp (maxSteps := 5000000) only [SA, SB, SD, R, guardAt, binP, intP, indexAddrP, elemsOf, readCells, lenP, lenAt, resultsP, resultP, oneOr, reduceCtorEq, reduceIte, Nat.reduceEqDiff, Nat.reduceAdd, Nat.zero_add, Nat.reduceMul, Nat.reduceLT, Nat.reduceLeDiff, Int.reduceLT, Int.reduceNeg, Int.reduceLE, appendP, appendAt, letGo, setLoc, locVal, Int.reduceToNat, boxCells, und, putV, k0, k3]; rfl)
    obtain ⟨e2, ex2, rfl, m0, m3⟩ := hP2
    unfold putV at m0
    simp (maxSteps := 5000000) only [SA, SB, SD, R, guardAt, binP, intP, indexAddrP, elemsOf, readCells, lenP, lenAt, resultsP, resultP, oneOr, reduceCtorEq, reduceIte, Nat.reduceEqDiff, Nat.reduceAdd, Nat.zero_add, Nat.reduceMul, Nat.reduceLT, Nat.reduceLeDiff, Int.reduceLT, Int.reduceNeg, Int.reduceLE, appendP, appendAt, letGo, setLoc, locVal, Int.reduceToNat, boxCells, und, TG, SE, SC, List.getElem?_cons_zero, List.getElem?_cons_succ, unP, htu, htr, hky, hev1, htg, hsp, hrl, WB_len, WB_2, WB_app, WB_last, WB_sl, putV, dynR, callAl, loadR, loadP, storeR, storeK, storeCellsP, laid, lay, setBox, List.take_succ_cons, List.take_zero, List.take_nil, List.drop_succ_cons, List.drop_zero, List.drop_nil, List.filter_nil, List.cons_append, List.nil_append, Nat.le_refl, Int.reduceBEq, Int.reduceBNe, Int.reduceGT, Int.reduceGE, Int.reduceLT, Bool.not_true, Bool.not_false, m0, m3, q4]
    exact ⟨_, _, rfl⟩
end Go.HH
